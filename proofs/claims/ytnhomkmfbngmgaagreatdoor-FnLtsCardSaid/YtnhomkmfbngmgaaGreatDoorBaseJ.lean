/-
  Lemmas that the law of this claim leans on. Conditions: sizes.
-/
import Derived.Test.YtnhomkmfbngmgaaGreatDoorBaseA
import Derived.Test.YtnhomkmfbngmgaaGreatDoorBaseB
import Derived.Test.YtnhomkmfbngmgaaGreatDoorBaseC
import Derived.Test.YtnhomkmfbngmgaaGreatDoorBaseD
import Derived.Test.YtnhomkmfbngmgaaGreatDoorBaseE
import Derived.Test.YtnhomkmfbngmgaaGreatDoorBaseF
import Derived.Test.YtnhomkmfbngmgaaGreatDoorBaseG
import Derived.Test.YtnhomkmfbngmgaaGreatDoorBaseH
import Derived.Test.YtnhomkmfbngmgaaGreatDoorBaseI
import Derived.Deep.LoopGhost
import Derived.Deep.RegionLaw
import Derived.StillTailTactics
import Derived.Deep.RegionHeld3
set_option maxHeartbeats 6400000
set_option maxRecDepth 100000
set_option linter.unusedSimpArgs false
set_option linter.unusedVariables false
namespace Go.Proofs.YtnhomkmfbngmgaaGreatDoor
open Go.ChangeShapes Go.WideShapes Go.ChangeAt Go.RowKit Go.Sort
section
variable {α : Type} {size : Nat} {f : α → List Value} {w w' : World} {base n c : Nat} {e : TypeId} {A : Option Addr} {l : List α}
theorem Own.typedT (h : Own size f w base e A n c l) {g : Nat} (hg : (Value.slice A n c).ownBlock = some g) : base ≤ g ∧ g < w.heap.size ∧ ∃ cur, w.heap[g]? = some (.cells cur e (0, 0)) := by
 refine ⟨(h.lt g hg).1, (h.lt g hg).2, ?_⟩
 rcases h.2.2 with ⟨hv, _⟩ | ⟨b, cap, cur, hv, _, hb, _⟩
 ·rw [hv] at hg; cases hg
 ·rw [hv] at hg
  obtain rfl : b = g := by injection hg
  exact ⟨cur, hb⟩
theorem Own.otherT (h : Own size f w base e A n c l) {b : Nat} {cur : Array Value} {t : TypeId} {z : Nat × Nat} (hb : w.heap[b]? = some (.cells cur t z)) (ht : t ≠ e) : some b ≠ (Value.slice A n c).ownBlock := fun e1 => by
 obtain ⟨-, -, cu, h1⟩ := h.typedT e1.symm;rw [hb] at h1;injection h1 with h1;injection h1 with _ h1;exact ht h1
theorem grown_blockT {row : Option Nat} (hg : w.grownBy w' row) {b : Nat} {o : Obj} (hb : w.heap[b]? = some o) (hne : some b ≠ row) : w'.heap[b]? = some o :=
 (hg.block b (Array.getElem?_eq_some_iff.1 hb).1 hne).trans hb
end
structure RowsB (w : World) (base : Nat) (A : Option Addr) (n c : Nat) (H : List (Hd × List Bool)) : Prop where
 own : Own 1 sv w base 135 A n c (H.map (·.1))
 rows : ∀ r ∈ H, Own 1 bv w base 4 r.1.1 r.1.2.1 r.1.2.2 r.2
section
variable {w w' : World} {base n c : Nat} {A : Option Addr} {H : List (Hd × List Bool)}
theorem RowsB.len (h : RowsB w base A n c H) : H.length = n := by have := h.own.1; rwa [List.length_map] at this
theorem RowsB.kept (h : RowsB w base A n c H) (hk : ∀ b, b < w.heap.size → w'.heap[b]? = w.heap[b]?) : RowsB w' base A n c H :=
 ⟨h.own.keep fun g hg => hk g (h.own.lt g hg).2, fun r hr => (h.rows r hr).keep fun g hg => hk g ((h.rows r hr).lt g hg).2⟩
theorem RowsB.below (h : RowsB w base A n c H) (hb : Below w.heap.size w w') : RowsB w' base A n c H := h.kept hb.block
theorem RowsB.set (h : RowsB w base A n c H) {p : Addr} {cur : Array Value} {t : TypeId} {z : Nat × Nat} (hb : w.heap[p.block]? = some (.cells cur t z)) (h1 : t ≠ 135) (h2 : t ≠ 4) (u : Value) : RowsB (w.setCell p u) base A n c H :=
 ⟨h.own.keep fun g hg => Below.heap_setCell _ _ _ _ fun e => h.own.otherT hb h1 (by rw [hg, e]), fun r hr => (h.rows r hr).keep fun g hg => Below.heap_setCell _ _ _ _ fun e => (h.rows r hr).otherT hb h2 (by rw [hg, e])⟩
theorem RowsB.push (h : RowsB w base A n c H) {r : Hd × List Bool} (hr : Own 1 bv w base 4 r.1.1 r.1.2.1 r.1.2.2 r.2) {A' : Option Addr} {c' : Nat} (ho : Own 1 sv w' base 135 A' (n + 1) c' (H.map (·.1) ++ [r.1])) (hg : w.grownBy w' (Value.slice A n c).ownBlock) : RowsB w' base A' (n + 1) c' (H ++ [r]) :=
 ⟨by rw [List.map_append]; exact ho, fun x hx => by
  rcases List.mem_append.1 hx with hx | hx
  ·exact (h.rows x hx).kept hg ((h.rows x hx).apart h.own (by decide))
  ·rw [List.mem_singleton.1 hx]
   exact hr.kept hg (hr.apart h.own (by decide))⟩
theorem RowsB.at_ (h : RowsB w base A n c H) {k : Nat} {l : List Bool} (hk : (H.map (·.2))[k]? = some l) : ∃ b off Ah nh ch, A = some ⟨b, off, none⟩ ∧ base ≤ b ∧ b < w.heap.size ∧ k < n ∧ w.cell? ⟨b, off + k, none⟩ = some (.slice Ah nh ch) ∧ Own 1 bv w base 4 Ah nh ch l := by
 rw [List.getElem?_map] at hk;obtain ⟨⟨⟨Ah, nh, ch⟩, l'⟩, hr, e⟩ := Option.map_eq_some_iff.1 hk;have e : l' = l := e;subst e;have hlt : k < n := by rw [← h.len]; exact (List.getElem?_eq_some_iff.1 hr).1
 obtain ⟨b, off, e1, g1, -, g3, hc⟩ := (h.own.sl flat_sv).at_ (by omega);have h0 := hc k (Ah, nh, ch) (by rw [List.getElem?_map, hr]; rfl) 0 _ rfl;simp only [Nat.mul_one, Nat.add_zero] at h0;exact ⟨b, off, Ah, nh, ch, e1, g1, g3, hlt, h0.1, h.rows _ (List.mem_of_getElem? hr)⟩
theorem RowsB.get (h : RowsB w base A n c H) {m p : Nat} {S : Rel2} (hM : H.map (·.2) = tabR m p S) {x y : Nat} (hx : x < m) (hy : y < p) :
  ∃ b off b2 off2 c2 v, A = some ⟨b, off, none⟩ ∧ b < w.heap.size ∧ b2 < w.heap.size ∧ x < n ∧ w.cell? ⟨b, off + x, none⟩ = some (.slice (some ⟨b2, off2, none⟩) p c2) ∧ w.cell? ⟨b2, off2 + y, none⟩ = some (.bool v) ∧ (v = true ↔ S (x : Int) (y : Int)) := by
 have hk : (H.map (·.2))[x]? = some (rowR2 p S x) := by rw [hM]; exact tabR_get hx
 obtain ⟨b, off, Ah, nh, ch, e1, g1, g3, hlt, hc, ho⟩ := h.at_ hk;have hn : nh = p := by rw [← ho.len, rowR2_len]
 subst hn;obtain ⟨b2, off2, e2, -, -, g5, hv, hc2, -⟩ := SlB.get (ho.sl flat_bv) hy;subst e2;rw [rowR2_get hy] at hv;refine ⟨b, off, b2, off2, ch, _, e1, g3, g5, hlt, hc, hc2, ?_⟩;rw [← Option.some.inj hv];exact @decide_eq_true_iff _ (Classical.propDecidable _)
end
section
variable {w w' : World} {base bt ba bb n c : Nat} {K : Int} {A : Option Addr} {H : List (Hd × List Bool)}
end
structure OnlS (w wr : World) (s0 s1 : Int) (A2 : Option Addr) (n2 k2 : Nat) (A : Option Addr) (m c : Nat) (l : List Ed) : Prop where
 kR : wr.heap[w.heap.size + 1]? = some (.cells #[.int .i64 0, .int .i64 0, .slice none 0 0, .slice none 0 0] 27 (0, 0))
 kO : wr.heap[w.heap.size + 1 + 1]? = some (.cells #[.int .i64 s0, .int .i64 s1, .slice A2 n2 k2, .slice A m c] 27 (0, 0))
 own : Own 3 ev wr w.heap.size 84 A m c l
 bel : Below w.heap.size w wr
theorem OnlS.below {w wr wx : World} {s0 s1 : Int} {A2 : Option Addr} {n2 k2 : Nat} {A : Option Addr} {m c : Nat} {l : List Ed} (h : OnlS w wr s0 s1 A2 n2 k2 A m c l) (hb : Below wr.heap.size wr wx) : OnlS w wx s0 s1 A2 n2 k2 A m c l :=
 ⟨(hb.block _ (Array.getElem?_eq_some_iff.1 h.kR).1).trans h.kR, (hb.block _ (Array.getElem?_eq_some_iff.1 h.kO).1).trans h.kO, h.own.below hb zR, h.bel.trans (hb.mono h.bel.size)⟩
theorem OnlS.mid {w wr wx : World} {s0 s1 : Int} {A2 : Option Addr} {n2 k2 : Nat} {A : Option Addr} {m c : Nat} {l : List Ed} (h : OnlS w wr s0 s1 A2 n2 k2 A m c l) {o : Obj} (hg : (wr.alloc o).grownBy wx (Value.slice A m c).ownBlock) : wx.heap[w.heap.size + 1 + 1]? = some (.cells #[.int .i64 s0, .int .i64 s1, .slice A2 n2 k2, .slice A m c] 27 (0, 0)) :=
 grown_blockT hg ((Below.heap_alloc _ _ _ (Array.getElem?_eq_some_iff.1 h.kO).1).trans h.kO) (h.own.otherT h.kO (by decide))
theorem OnlS.next {w wr wx : World} {s0 s1 : Int} {A2 : Option Addr} {n2 k2 : Nat} {A : Option Addr} {m c : Nat} {l : List Ed} (h : OnlS w wr s0 s1 A2 n2 k2 A m c l) {o : Obj} (hg : (wr.alloc o).grownBy wx (Value.slice A m c).ownBlock) (hb : Below w.heap.size (wr.alloc o) wx)
  {A' : Option Addr} {c' : Nat} {l' : List Ed} (ho : Own 3 ev wx w.heap.size 84 A' (m + 1) c' l') : OnlS w (wx.setCell ⟨w.heap.size + 1 + 1, 3, none⟩ (.slice A' (m + 1) c')) s0 s1 A2 n2 k2 A' (m + 1) c' l' := by
 have k1 := h.mid hg;have k2 := grown_blockT hg ((Below.heap_alloc _ _ _ (Array.getElem?_eq_some_iff.1 h.kR).1).trans h.kR) (h.own.otherT h.kR (by decide));refine ⟨(Below.heap_setCell _ _ _ _ (by show _ ≠ w.heap.size + 1 + 1; omega)).trans k2, heap_setCell_same _ _ 3 _ _ _ k1, ?_, ?_⟩
 ·exact ho.keep fun g hg' => Below.heap_setCell _ _ _ _ fun e => ho.otherT k1 (by decide) (by rw [hg']; exact congrArg some e.symm)
 ·exact ((h.bel.alloc h.bel.size o).trans hb).setCell (by show w.heap.size ≤ w.heap.size + 1 + 1; omega) _
end Go.Proofs.YtnhomkmfbngmgaaGreatDoor
namespace Go.Proofs.YtnhomkmfbngmgaaGreatDoor
inductive StarR (R : Nat → Nat → Prop) : Nat → Nat → Prop
 | refl (x : Nat) : StarR R x x
 | step {x y z : Nat} : R x y → StarR R y z → StarR R x z
theorem StarR.trans {R : Nat → Nat → Prop} {x y z : Nat} (h : StarR R x y) (g : StarR R y z) : StarR R x z := by
 induction h with
 | refl => exact g
 | step e _ ih => exact .step e (ih g)
theorem StarR.snoc {R : Nat → Nat → Prop} {x y z : Nat} (h : StarR R x y) (g : R y z) : StarR R x z := h.trans (.step g (.refl z))
theorem StarR.mono {R S : Nat → Nat → Prop} (hs : ∀ x y, R x y → S x y) {x y : Nat} (h : StarR R x y) : StarR S x y := by
 induction h with
 | refl => exact .refl _
 | step e _ ih => exact .step (hs _ _ e) ih
def Dvg (R : Nat → Nat → Prop) (x : Nat) : Prop := ∃ D : Nat → Prop, D x ∧ ∀ y, D y → ∃ z, R y z ∧ D z
theorem Dvg.next {R : Nat → Nat → Prop} {x : Nat} (h : Dvg R x) : ∃ y, R x y ∧ Dvg R y := by
 obtain ⟨D, h1, h2⟩ := h;obtain ⟨y, g1, g2⟩ := h2 x h1;exact ⟨y, g1, D, g2, h2⟩
theorem Dvg.mono {R S : Nat → Nat → Prop} (hs : ∀ x y, R x y → S x y) {x : Nat} (h : Dvg R x) : Dvg S x := by
 obtain ⟨D, h1, h2⟩ := h;refine ⟨D, h1, fun y hy => ?_⟩;obtain ⟨z, g1, g2⟩ := h2 y hy;exact ⟨z, hs _ _ g1, g2⟩
section
variable {L α β : Type} {E : Nat → L → Nat → Prop} {τ : L} {d : Prop} {q : Nat → α} {p : Nat → β} {x y : Nat} {l : L}
def inrt (E : Nat → L → Nat → Prop) (τ : L) (q : Nat → α) (x y : Nat) : Prop := E x τ y ∧ q x = q y
def offr (E : Nat → L → Nat → Prop) (τ : L) (q : Nat → α) (x : Nat) (l : L) (b : α) : Prop := ∃ x' x'', StarR (inrt E τ q) x x' ∧ E x' l x'' ∧ q x'' = b ∧ ¬ (l = τ ∧ q x' = q x'')
structure Stb (E : Nat → L → Nat → Prop) (τ : L) (d : Prop) (q : Nat → α) : Prop where
 off : ∀ x y l b, q x = q y → offr E τ q x l b → offr E τ q y l b
 dvg : d → ∀ x y, q x = q y → Dvg (inrt E τ q) x → Dvg (inrt E τ q) y
theorem star_same (h : StarR (inrt E τ q) x y) : q x = q y := by
 induction h with
 | refl => rfl
 | step e _ ih => exact e.2.trans ih
theorem inrt_mono (hf : ∀ x y, q x = q y → p x = p y) (x y : Nat) (h : inrt E τ q x y) : inrt E τ p x y := ⟨h.1, hf _ _ h.2⟩
theorem Stb.one (h : Stb E τ d q) (hf : ∀ x y, q x = q y → p x = p y) {x' : Nat} (hq : q x = q y) (hs : inrt E τ p x x') : ∃ y', StarR (inrt E τ p) y y' ∧ q x' = q y' := by
 by_cases e : q x = q x'
 ·exact ⟨y, .refl _, e ▸ hq⟩
 ·obtain ⟨y1, y2, g1, g2, g3, -⟩ := h.off x y τ (q x') hq ⟨x, x', .refl _, hs.1, rfl, fun h => e h.2⟩
  exact ⟨y2, (g1.mono (inrt_mono hf)).snoc ⟨g2, by rw [← hf _ _ (star_same g1), ← hf _ _ hq, hf _ _ g3]; exact hs.2⟩, g3.symm⟩
end
section
variable {L α : Type} {E M : Nat → L → Nat → Prop} {τ : L} {d : Prop} {P : Nat → Nat} {x y : Nat} {l : L}
def QuoB (E M : Nat → L → Nat → Prop) (τ : L) (d : Prop) (P : Nat → Nat) : Prop :=
 ∀ b l c, M b l c ↔ (∃ x x', E x l x' ∧ P x = b ∧ P x' = c ∧ ¬ (l = τ ∧ P x = P x')) ∨ (d ∧ l = τ ∧ b = c ∧ ∃ x, P x = b ∧ Dvg (inrt E τ P) x)
variable {pm : Nat → α}
theorem star_up (hM : QuoB E M τ d P) (h : StarR (inrt E τ fun x => pm (P x)) x y) : StarR (inrt M τ pm) (P x) (P y) := by
 induction h with
 | refl => exact .refl _
 | @step x y z e _ ih =>
  by_cases c : P x = P y
  ·rw [c]; exact ih
  ·exact .step ⟨(hM _ _ _).2 (.inl ⟨x, y, e.1, rfl, rfl, fun h => c h.2⟩), e.2⟩ ih
theorem one_down (h : Stb E τ d P) (hM : QuoB E M τ d P) {b c : Nat} (hs : M b l c) (hn : ¬ (l = τ ∧ b = c)) (hx : P x = b) : ∃ x1 x2, StarR (inrt E τ P) x x1 ∧ E x1 l x2 ∧ P x2 = c := by
 rcases (hM _ _ _).1 hs with ⟨u, u', k1, k2, k3, k4⟩ | ⟨_, k1, k2, _⟩
 ·obtain ⟨x1, x2, g1, g2, g3, -⟩ := h.off u x l c (by rw [k2, hx]) ⟨u, u', .refl _, k1, k3, k4⟩
  exact ⟨x1, x2, g1, g2, g3⟩
 ·exact absurd ⟨k1, k2⟩ hn
theorem inrt_comp (pm : Nat → α) (x y : Nat) (h : inrt E τ P x y) : inrt E τ (fun x => pm (P x)) x y := ⟨h.1, congrArg pm h.2⟩
theorem star_down (h : Stb E τ d P) (hM : QuoB E M τ d P) {b c : Nat} (hs : StarR (inrt M τ pm) b c) : ∀ {x : Nat}, P x = b → ∃ x', StarR (inrt E τ fun x => pm (P x)) x x' ∧ P x' = c := by
 induction hs with
 | refl => intro x hx; exact ⟨x, .refl _, hx⟩
 | @step b b' c e _ ih =>
  intro x hx
  by_cases hb : b = b'
  ·exact ih (by rw [hx, hb])
  ·obtain ⟨x1, x2, g1, g2, g3⟩ := one_down h hM e.1 (fun h => hb h.2) hx
   obtain ⟨x3, k1, k2⟩ := ih g3;refine ⟨x3, ((g1.mono (inrt_comp pm)).snoc ⟨g2, ?_⟩).trans k1, k2⟩
   show pm (P x1) = pm (P x2)
   rw [← star_same g1, hx, g3]; exact e.2
end
section
variable {L α β : Type} {E U : Nat → L → Nat → Prop} {τ : L} {d : Prop} {P : Nat → β} {q : Nat → α} {f : Nat → Nat} {g : β → α} {i j : Nat} {l : L}
structure Emb (E U : Nat → L → Nat → Prop) (f : Nat → Nat) : Prop where
 up : ∀ i l j, E i l j → U (f i) l (f j)
 down : ∀ i l y, U (f i) l y → ∃ j, y = f j ∧ E i l j
theorem Emb.inrt_up (h : Emb E U f) (hq : ∀ i, q (f i) = g (P i)) (e : inrt E τ P i j) : inrt U τ q (f i) (f j) := ⟨h.up _ _ _ e.1, by rw [hq, hq, e.2]⟩
theorem Emb.star_up (h : Emb E U f) (hq : ∀ i, q (f i) = g (P i)) (e : StarR (inrt E τ P) i j) : StarR (inrt U τ q) (f i) (f j) := by
 induction e with
 | refl => exact .refl _
 | step e _ ih => exact .step (h.inrt_up hq e) ih
theorem Emb.inrt_down (h : Emb E U f) (hq : ∀ i, q (f i) = g (P i)) (hg : ∀ a b, g a = g b → a = b) {y : Nat} (e : inrt U τ q (f i) y) : ∃ j, y = f j ∧ inrt E τ P i j := by
 obtain ⟨j, rfl, k⟩ := h.down _ _ _ e.1;refine ⟨j, rfl, k, hg _ _ ?_⟩;rw [← hq, ← hq]; exact e.2
theorem Emb.star_down (h : Emb E U f) (hq : ∀ i, q (f i) = g (P i)) (hg : ∀ a b, g a = g b → a = b) {u v : Nat} (e : StarR (inrt U τ q) u v) : ∀ {i : Nat}, u = f i → ∃ j, v = f j ∧ StarR (inrt E τ P) i j := by
 induction e with
 | refl => intro i hi; exact ⟨i, hi, .refl _⟩
 | step e _ ih =>
  intro i hi;subst hi;obtain ⟨j, rfl, k⟩ := h.inrt_down hq hg e;obtain ⟨m, rfl, k2⟩ := ih rfl;exact ⟨m, rfl, .step k k2⟩
theorem Emb.off (h : Emb E U f) (hq : ∀ i, q (f i) = g (P i)) (hg : ∀ a b, g a = g b → a = b) {b : α} : offr U τ q (f i) l b ↔ ∃ c, b = g c ∧ offr E τ P i l c := by
 constructor
 ·rintro ⟨x1, x2, g1, g2, g3, g4⟩
  obtain ⟨j, rfl, k⟩ := h.star_down hq hg g1 rfl;obtain ⟨m, rfl, k2⟩ := h.down _ _ _ g2;exact ⟨P m, by rw [← g3, hq], j, m, k, k2, rfl, fun e => g4 ⟨e.1, by rw [hq, hq, e.2]⟩⟩
 ·rintro ⟨c, rfl, j, m, k1, k2, k3, k4⟩
  exact ⟨f j, f m, h.star_up hq k1, h.up _ _ _ k2, by rw [hq, k3], fun e => k4 ⟨e.1, hg _ _ (by rw [← hq, ← hq]; exact e.2)⟩⟩
end
open Go.ChangeAt Go.ChangeShapes Go.Lib Go.RowKit Go.Sort Go.WideShapes
structure MinW (wb w : World) (J : List ByteArray) (R : List Int) (E : List Ed) (g : Option Nat) (r : Option (Option Addr × Nat)) (q : Option ((Option Addr × Nat × Nat) × (Option Addr × Nat × Nat))) : Prop where
 below : Below wb.heap.size wb w
 box : ∀ b, g = some b → wb.heap.size ≤ b ∧ LtsBox w b 0 0 none 0 0 none 0 0
 rch : ∀ h, r = some h → SlI w 0 w.heap.size h.1 h.2 R
 prt : ∀ h, q = some h → ∃ lo hi, SlS w lo hi h.1.1 h.1.2.1 J ∧ SlE w lo hi h.2.1 h.2.2.1 E ∧ wb.heap.size ≤ lo ∧ hi ≤ w.heap.size ∧ ∀ b, g = some b → b < lo ∨ hi ≤ b
section
variable {wb w w' : World} {J : List ByteArray} {R : List Int} {E : List Ed} {g : Option Nat} {r : Option (Option Addr × Nat)} {q : Option ((Option Addr × Nat × Nat) × (Option Addr × Nat × Nat))}
theorem MinW.start (wb : World) (J : List ByteArray) (R : List Int) (E : List Ed) : MinW wb wb J R E none none none := ⟨bR, fun b e => (by cases e), fun h e => (by cases e), fun h e => (by cases e)⟩
theorem MinW.keep (h : MinW wb w J R E g r q) (hb : Below w.heap.size w w') : MinW wb w' J R E g r q where
 below := h.below.trans (hb.mono h.below.size)
 box := fun b e => ⟨(h.box b e).1, (h.box b e).2.below hb (h.box b e).2.lt⟩
 rch := fun k e => ((h.rch k e).below hb (.inr zR)).here'
 prt := fun k e => by
  obtain ⟨lo, hi, h1, h2, h3, h4, h5⟩ := h.prt k e;exact ⟨lo, hi, h1.below hb (.inl h4), h2.below hb (.inl h4), h3, Nat.le_trans h4 hb.size, h5⟩
theorem MinW.drew (h : MinW wb w J R E g r q) : MinW wb w.drew J R E g r q := h.keep bR.drew
theorem MinW.alloc (h : MinW wb w J R E none r q) : MinW wb (w.alloc (.cells #[.int .i64 0, .int .i64 0, .slice none 0 0, .slice none 0 0] 27)) J R E (some w.heap.size) r q := by
 have hb : Below w.heap.size w (w.alloc (.cells #[.int .i64 0, .int .i64 0, .slice none 0 0, .slice none 0 0] 27)) := bR.alloc zR _;have h1 := h.keep hb;refine ⟨h1.below, fun b e => ?_, h1.rch, fun k e => ?_⟩
 ·cases e
  exact ⟨h.below.size, heap_alloc_new w _⟩
 ·obtain ⟨lo, hi, g1, g2, g3, g4, g5⟩ := h.prt k e
  exact ⟨lo, hi, g1.below hb (.inl g4), g2.below hb (.inl g4), g3, Nat.le_trans g4 hb.size, fun b e2 => by cases e2; exact .inr g4⟩
theorem MinW.part (h : MinW wb w J R E g r none) {A B : Option Addr} {n c m d : Nat} (hb : Below w.heap.size w w') (hs : SlS w' w.heap.size w'.heap.size A n J) (he : SlE w' w.heap.size w'.heap.size B m E) : MinW wb w' J R E g r (some ((A, n, c), (B, m, d))) :=
 ⟨(h.keep hb).below, (h.keep hb).box, (h.keep hb).rch, fun k e => by
  cases e
  exact ⟨_, _, hs, he, h.below.size, zR, fun b e2 => .inl (h.box b e2).2.lt⟩⟩
structure MinF (wb wf : World) (J : List ByteArray) (E : List Ed) (b : Nat) (s i : Int) (A : Option Addr) (n c : Nat) (B : Option Addr) (m d : Nat) : Prop where
 below : Below wb.heap.size wb wf
 box : LtsBox wf b s i A n c B m d
 base : wb.heap.size ≤ b
 ss : SlS wf 0 wf.heap.size A n J
 se : SlE wf 0 wf.heap.size B m E
theorem MinW.fill {A B : Option Addr} {n c m d b : Nat} (h : MinW wb w J R E (some b) r (some ((A, n, c), (B, m, d)))) (s i : Int) :
  MinF wb ((((w.setCell ⟨b, 0, none⟩ (.int .i64 s)).setCell ⟨b, 1, none⟩ (.int .i64 i)).setCell ⟨b, 2, none⟩ (.slice A n c)).setCell ⟨b, 3, none⟩ (.slice B m d)) J E b s i A n c B m d := by
 obtain ⟨hg, hx⟩ := h.box b rfl;obtain ⟨lo, hi, g1, g2, g3, g4, g5⟩ := h.prt _ rfl;have g5 := g5 b rfl;have x0 : (w.setCell ⟨b, 0, none⟩ (.int .i64 s)).heap[b]? = _ := heap_setCell_same w b 0 _ _ _ hx;have x1 := heap_setCell_same _ b 1 _ _ (.int .i64 i) x0;have x2 := heap_setCell_same _ b 2 _ _ (.slice A n c) x1;have x3 := heap_setCell_same _ b 3 _ _ (.slice B m d) x2;have o1 := (Only.refl b (b + 1) w).setCell (p := ⟨b, 0, none⟩) zR (Nat.lt_succ_self _) (.int .i64 s);have o2 := o1.setCell (p := ⟨b, 1, none⟩) zR (Nat.lt_succ_self _) (.int .i64 i);have o3 := o2.setCell (p := ⟨b, 2, none⟩) zR (Nat.lt_succ_self _) (.slice A n c);have o4 := o3.setCell (p := ⟨b, 3, none⟩) zR (Nat.lt_succ_self _) (.slice B m d);exact ⟨Only.below h.below o4 hg h.below.size, x3, hg, (g1.only o4 (by omega)).here', (g2.only o4 (by omega)).here'⟩
end
theorem reach_nodup {N : Nat} {es : List Ed} {ini : Int} : (reachF N es ini).Nodup := by
 unfold reachF;exact List.Pairwise.map Int.ofNat (fun a b h e => h (Int.ofNat.inj e)) (List.Pairwise.filter _ List.nodup_range)
theorem results_cs {fn : Func} {p q : Tmp} {ty : TypeId} (h : fn.results = #[.cell p ty, .tmp q]) (tmps : Array Value) (P : Program) (w : World) :
  (results fn tmps).run P w = ((asAddr (tmps.getD p undef)).run P w).andThen fun a w₁ => ((loadVar ty a).run P w₁).andThen fun v w₂ => .ok (.tuple #[v, tmps.getD q undef]) w₂ := by
 simp only [results, h]
 simp [Sem.run_bind, Result.andThen]
end Go.Proofs.YtnhomkmfbngmgaaGreatDoor
namespace Go.Proofs.YtnhomkmfbngmgaaGreatDoor
open Go.ChangeShapes Go.WideShapes Go.ChangeAt Go.RowKit Go.Sort
def tauE (es : List Ed) (x y : Nat) : Prop := nE es x 0 y
open Classical in
noncomputable def dvgL (es : List Ed) (N : Nat) : List Bool := setOf N fun k => decide (Dvg (tauE es) k)
theorem inS_dvgL {es : List Ed} {N k : Nat} (hk : k < N) : inS (dvgL es N) k = true ↔ Dvg (tauE es) k := by
 unfold dvgL;rw [inS_setOf]
 simp [hk]
theorem numBR_off {s : List Bool} {v : Nat} (hv : v < s.length) (hs : inS s v = true) : numBR (s.set v false) + 1 = numBR s := by
 have h1 := numBR_set (s := s.set v false) (v := v) (by rw [List.length_set]; exact hv) (by rw [inS_set hv, if_pos rfl]);rw [List.set_set] at h1;have h2 : s.set v true = s := by
  refine List.ext_getElem (by simp) fun i h3 h4 => ?_
  rw [List.getElem_set]
  split
  ·rename_i e
   subst e;unfold inS at hs;rw [List.getElem?_eq_getElem hv] at hs;exact hs.symm
  ·rfl
 rw [h2] at h1;omega
structure DvO (N : Nat) (es : List Ed) (b : List Bool) (ag : Bool) : Prop where
 len : b.length = N
 sup : ∀ k, k < N → Dvg (tauE es) k → inS b k = true
 cls : ag = false → ∀ k, k < N → inS b k = true → ∃ t, tauE es k t ∧ inS b t = true
structure DvI (N : Nat) (es : List Ed) (b0 b : List Bool) (j : Nat) (ag : Bool) : Prop where
 len : b.length = N
 sup : ∀ k, k < N → Dvg (tauE es) k → inS b k = true
 same : ag = false → b = b0 ∧ ∀ k, k < j → inS b0 k = true → ∃ t, tauE es k t ∧ inS b0 t = true
 drop : ag = true → numBR b < numBR b0
theorem DvO.start (N : Nat) (es : List Ed) : DvO N es (List.replicate N true) true := ⟨by simp, fun k hk _ => by unfold inS; rw [List.getElem?_replicate, if_pos hk]; rfl, fun h => by cases h⟩
theorem DvI.done {N : Nat} {es : List Ed} {b0 b : List Bool} {ag : Bool} (h : DvI N es b0 b N ag) : DvO N es b ag := ⟨h.len, h.sup, fun e k hk hb => by
 obtain ⟨e1, e2⟩ := h.same e;rw [e1] at hb ⊢;exact e2 k hk hb⟩
theorem DvI.keep {N : Nat} {es : List Ed} {b0 b : List Bool} {j : Nat} {ag : Bool} (h : DvI N es b0 b j ag) (hj : inS b j = true → ∃ t, tauE es j t ∧ inS b t = true) : DvI N es b0 b (j + 1) ag := ⟨h.len, h.sup, fun e => by
 obtain ⟨e1, e2⟩ := h.same e;refine ⟨e1, fun k hk hb => ?_⟩
 by_cases c : k < j
 ·exact e2 k c hb
 ·obtain rfl : k = j := by omega
  rw [e1] at hj;exact hj hb, h.drop⟩
theorem DvI.off {N : Nat} {es : List Ed} {b0 b : List Bool} {j : Nat} {ag : Bool} (h : DvI N es b0 b j ag) (he : EdIn N es) (hj : j < N) (hb : inS b j = true) (hn : ¬ ∃ t, tauE es j t ∧ inS b t = true) : DvI N es b0 (b.set j false) (j + 1) true := by
 have hl : j < b.length := by rw [h.len]; exact hj
 refine ⟨by rw [List.length_set]; exact h.len, fun k hk hd => ?_, fun e => (by cases e), fun _ => ?_⟩
 ·rw [inS_set hl]
  split
  ·rename_i e
   subst e;obtain ⟨t, h1, h2⟩ := hd.next;exact absurd ⟨t, h1, h.sup t (nE_in he h1).2 h2⟩ hn
  ·exact h.sup k hk hd
 ·have h1 := numBR_off hl hb
  cases hag : ag with
  | true => have := h.drop hag; omega
  | false => rw [← (h.same hag).1]; omega
theorem DvO.last {N : Nat} {es : List Ed} {b : List Bool} (h : DvO N es b false) (he : EdIn N es) : b = dvgL es N := by
 have hD : ∀ k, k < N → (inS b k = true ↔ Dvg (tauE es) k) := fun k hk => ⟨fun hb => ⟨fun k => k < N ∧ inS b k = true, ⟨hk, hb⟩, fun k hk => by
  obtain ⟨t, h1, h2⟩ := h.cls rfl k hk.1 hk.2;exact ⟨t, h1, (nE_in he h1).2, h2⟩⟩, h.sup k hk⟩
 refine List.ext_getElem (by rw [h.len]; simp [dvgL, setOf]) fun i h1 h2 => ?_
 have hi : i < N := by rw [← h.len]; exact h1
 have e1 : inS b i = b[i] := by unfold inS; rw [List.getElem?_eq_getElem h1]; rfl
 have e2 : inS (dvgL es N) i = (dvgL es N)[i] := by unfold inS; rw [List.getElem?_eq_getElem h2]; rfl
 rw [← e1, ← e2];have := (hD i hi).trans (inS_dvgL hi).symm
 cases h3 : inS b i <;> cases h4 : inS (dvgL es N) i <;> simp [h3, h4] at this ⊢
structure DvW (w1 wr : World) (bO gA oA N cA : Nat) (b : List Bool) : Prop where
 row : SlB wr w1.heap.size wr.heap.size (some ⟨gA, oA, none⟩) N b
 box : wr.heap[bO]? = some (.cells #[.slice (some ⟨gA, oA, none⟩) N cA] 135 (0, 0))
 bel : Below w1.heap.size w1 wr
 ge : w1.heap.size ≤ bO
theorem DvW.below {w1 wr wx : World} {bO gA oA N cA : Nat} {b : List Bool} (h : DvW w1 wr bO gA oA N cA b) (hb : Below wr.heap.size wr wx) : DvW w1 wx bO gA oA N cA b :=
 ⟨(h.row.below hb (.inr zR)).more zR hb.size, (hb.block _ (Array.getElem?_eq_some_iff.1 h.box).1).trans h.box, h.bel.trans (hb.mono h.bel.size), h.ge⟩
theorem DvW.put {w1 wr : World} {bO gA oA N cA : Nat} {b : List Bool} (h : DvW w1 wr bO gA oA N cA b) {k : Nat} (hk : k < N) (hne : gA ≠ bO) (x : Bool) : DvW w1 (wr.setCell ⟨gA, oA + k, none⟩ (.bool x)) bO gA oA N cA (b.set k x) := by
 obtain ⟨-, -, g1, -, -⟩ := h.row.cell' hk;have hz : (wr.setCell ⟨gA, oA + k, none⟩ (.bool x)).heap.size = wr.heap.size := World.size_setCell _ _ _;exact ⟨by rw [hz]; exact h.row.put hk x, (Below.heap_setCell _ _ _ _ (by show bO ≠ gA; omega)).trans h.box, h.bel.setCell g1 _, h.ge⟩
open Go.Lib
theorem arc_step {J ls : List ByteArray} {es : List Ed} (hJ : ∀ s, s ∈ ls → s ∈ J) (hl : ∀ e, e ∈ es → 0 ≤ e.2.1 ∧ e.2.1 < (ls.length : Int)) {f t : Int} {s : ByteArray} :
  (∃ l : Nat, (∃ a, a ∈ es.map (arcOf ls) ∧ (f, (l : Int), t) = arcD J a) ∧ J[l]? = some s) ↔ ∃ l : Nat, (f, (l : Int), t) ∈ es ∧ ls[l]? = some s := by
 constructor
 ·rintro ⟨l, ⟨a, ha, e⟩, hs⟩
  obtain ⟨x, hx, rfl⟩ := List.mem_map.1 ha;have hlx := hl x hx;unfold arcD at e;injection e with e1 e2;injection e2 with e2 e3;obtain ⟨k, h1, h2⟩ := idxZ_get (hJ _ (arcOf_mem (la := ls) (e := x) hlx));have : k = l := by omega
  subst this;rw [hs] at h2;have h3 := Option.some.inj h2;unfold arcOf at h3 e1 e3;simp only at h3 e1 e3;rw [List.getElem?_eq_getElem (show x.2.1.toNat < ls.length by omega), Option.getD_some] at h3;refine ⟨x.2.1.toNat, ?_, by rw [h3]; exact List.getElem?_eq_getElem _⟩;rw [show ((x.2.1.toNat : Nat) : Int) = x.2.1 by omega, e1, e3];exact hx
 ·rintro ⟨l, hx, hs⟩
  have hms := List.mem_of_getElem? hs;obtain ⟨k, h1, h2⟩ := idxZ_get (hJ s hms);refine ⟨k, ⟨arcOf ls (f, (l : Int), t), List.mem_map.2 ⟨_, hx, rfl⟩, ?_⟩, h2⟩;rw [arcOf_at hs];unfold arcD;simp only;rw [h1]
theorem uni_tE {la : List ByteArray} {ea : List Ed} {lb : List ByteArray} {eb : List Ed} {Na : Nat}
  (ha : ∀ e, e ∈ ea → (0 ≤ e.1 ∧ e.1 < (Na : Int)) ∧ (0 ≤ e.2.1 ∧ e.2.1 < (la.length : Int)) ∧ (0 ≤ e.2.2 ∧ e.2.2 < (Na : Int)))
  (hb : ∀ e, e ∈ eb → 0 ≤ e.1 ∧ (0 ≤ e.2.1 ∧ e.2.1 < (lb.length : Int)) ∧ 0 ≤ e.2.2) {x y : Nat} {s : ByteArray} :
  tE (joiF (la ++ lb)) (uniE la ea lb eb Na) x s y ↔ sumE Na (tE la ea) (tE lb eb) x s y := by
 have hJa : ∀ s, s ∈ la → s ∈ joiF (la ++ lb) := fun s hs => (joi_mem_iff _ _).2 (.inr (List.mem_append_left _ hs))
 have hJb : ∀ s, s ∈ lb → s ∈ joiF (la ++ lb) := fun s hs => (joi_mem_iff _ _).2 (.inr (List.mem_append_right _ hs))
 have ka := fun (f t : Int) (s : ByteArray) => arc_step (es := ea) (f := f) (t := t) (s := s) hJa fun e he => (ha e he).2.1
 have kb := fun (f t : Int) (s : ByteArray) => arc_step (es := eb) (f := f) (t := t) (s := s) hJb fun e he => (hb e he).2.1
 unfold tE sumE nE
 constructor
 ·rintro ⟨l, he, hs⟩
  unfold uniE at he;obtain ⟨a, hm, e⟩ := ltsEs_mem.1 he;unfold uniA at hm
  rcases List.mem_append.1 hm with h | h
  ·obtain ⟨l', h1, h2⟩ := (ka (x : Int) (y : Int) s).1 ⟨l, ⟨a, h, e⟩, hs⟩
   have := ha _ h1;dsimp only at this;exact .inl ⟨by omega, by omega, l', h1, h2⟩
  ·obtain ⟨b, hb', rfl⟩ := List.mem_map.1 h
   have hbx := hb';obtain ⟨z, hz, hzb⟩ := List.mem_map.1 hb';have hz2 := hb z hz;have e0 := e;unfold arcD shiftA at e;injection e with e1 e2;injection e2 with e2 e3;simp only at e1 e2 e3;have b1 : b.1 = z.1 := by rw [← hzb]; rfl
   have b2 : b.2.2 = z.2.2 := by rw [← hzb]; rfl
   obtain ⟨l', h1, h2⟩ := (kb b.1 b.2.2 s).1 ⟨l, ⟨b, hbx, by unfold arcD; rw [e2]⟩, hs⟩;refine .inr ⟨b.1.toNat, b.2.2.toNat, by omega, by omega, l', ?_, h2⟩;rw [show ((b.1.toNat : Nat) : Int) = b.1 by omega, show ((b.2.2.toNat : Nat) : Int) = b.2.2 by omega];exact h1
 ·rintro (⟨-, -, l, h1, h2⟩ | ⟨x', y', rfl, rfl, l, h1, h2⟩)
  ·obtain ⟨k, ⟨a, hm, e⟩, hs⟩ := (ka (x : Int) (y : Int) s).2 ⟨l, h1, h2⟩
   exact ⟨k, ltsEs_mem.2 ⟨a, List.mem_append_left _ hm, e⟩, hs⟩
  ·obtain ⟨k, ⟨a, hm, e⟩, hs⟩ := (kb (x' : Int) (y' : Int) s).2 ⟨l, h1, h2⟩
   refine ⟨k, ltsEs_mem.2 ⟨shiftA Na a, List.mem_append_right _ (List.mem_map.2 ⟨a, hm, rfl⟩), ?_⟩, hs⟩;unfold arcD at e;injection e with e1 e2;injection e2 with e2 e3;unfold arcD shiftA;simp only;rw [← e1, ← e2, ← e3]
   congr 1
   ·omega
   ·congr 1
    omega
theorem reach_mem {N : Nat} {es : List Ed} {ini a : Int} : a ∈ reachF N es ini ↔ ∃ k : Nat, a = (k : Int) ∧ k < N ∧ ReachE es ini k := by
 unfold reachF;rw [List.mem_map]
 constructor
 ·rintro ⟨k, hk, rfl⟩
  obtain ⟨h1, h2⟩ := List.mem_filter.1 hk;exact ⟨k, rfl, List.mem_range.1 h1, reachB_true.1 h2⟩
 ·rintro ⟨k, rfl, h1, h2⟩
  exact ⟨k, List.mem_filter.2 ⟨List.mem_range.2 h1, reachB_true.2 h2⟩, rfl⟩
theorem reach_ini {N ini : Nat} {es : List Ed} (h : ini < N) : (ini : Int) ∈ reachF N es (ini : Int) :=
 reach_mem.2 ⟨ini, rfl, h, 0, by simp [lay, srcE]⟩
theorem reach_closed {N : Nat} {es : List Ed} {ini : Int} (he : EdIn N es) (a l b : Int) (ha : a ∈ reachF N es ini) (h : (a, l, b) ∈ es) : b ∈ reachF N es ini := by
 obtain ⟨k, rfl, h1, h2⟩ := reach_mem.1 ha;have h3 := he _ h;dsimp only at h3;obtain ⟨j, rfl⟩ : ∃ j : Nat, b = (j : Int) := ⟨b.toNat, by omega⟩;exact reach_mem.2 ⟨j, rfl, by omega, h2.step ⟨_, h, by simp⟩⟩
theorem bis_tE {ls : List ByteArray} {ea eb : List Ed} {x y : Nat} (h : Bis (nE ea) (nE eb) x y) : Bis (tE ls ea) (tE ls eb) x y := by
 obtain ⟨R, h1, h2⟩ := h;refine ⟨R, ⟨fun a b s a' r g => ?_, fun a b s b' r g => ?_⟩, h2⟩
 ·obtain ⟨l, g1, g2⟩ := g
  obtain ⟨b', k1, k2⟩ := h1.fwd a b _ a' r g1;exact ⟨b', ⟨l, k1, g2⟩, k2⟩
 ·obtain ⟨l, g1, g2⟩ := g
  obtain ⟨a', k1, k2⟩ := h1.bwd a b _ b' r g1;exact ⟨a', ⟨l, k1, g2⟩, k2⟩
theorem joi_nodup (l : List ByteArray) : (joiF l).Nodup := by
 unfold joiF;refine List.Pairwise.map ofL (fun a b h e => ?_) (compact_rise (sortL_rise _));have : a = b := by rw [← toL_ofL a, ← toL_ofL b, e]
 rw [this, ltL_irr] at h
 cases h
theorem uni_lab {la : List ByteArray} {ea : List Ed} {lb : List ByteArray} {eb : List Ed} {Na : Nat}
  (ha : ∀ e, e ∈ ea → 0 ≤ e.2.1 ∧ e.2.1 < (la.length : Int)) (hb : ∀ e, e ∈ eb → 0 ≤ e.2.1 ∧ e.2.1 < (lb.length : Int)) :
  ∀ e, e ∈ uniE la ea lb eb Na → 0 ≤ e.2.1 ∧ e.2.1 < ((joiF (la ++ lb)).length : Int) := by
 intro e he;obtain ⟨a, hm, rfl⟩ := ltsEs_mem.1 he;have lab : ∀ s, s ∈ la ++ lb → 0 ≤ idxZ (joiF (la ++ lb)) s ∧ idxZ (joiF (la ++ lb)) s < ((joiF (la ++ lb)).length : Int) := fun s hs => by
  obtain ⟨k, h1, h2⟩ := idxZ_get ((joi_mem_iff (la ++ lb) s).2 (.inr hs));have := (List.getElem?_eq_some_iff.1 h2).1;omega
 unfold uniA at hm
 rcases List.mem_append.1 hm with h | h
 ·obtain ⟨x, hx, rfl⟩ := List.mem_map.1 h
  exact lab _ (List.mem_append_left lb (arcOf_mem (ha x hx)))
 ·obtain ⟨y, hy, rfl⟩ := List.mem_map.1 h
  obtain ⟨x, hx, rfl⟩ := List.mem_map.1 hy;exact lab _ (List.mem_append_right la (arcOf_mem (hb x hx)))
theorem uni_alike {la : List ByteArray} {ea : List Ed} {lb : List ByteArray} {eb : List Ed} {Na Nb r x y : Nat} (hla : la.length ≤ 100) (hlb : lb.length ≤ 100)
  (ha : ∀ e, e ∈ ea → (0 ≤ e.1 ∧ e.1 < (Na : Int)) ∧ (0 ≤ e.2.1 ∧ e.2.1 < (la.length : Int)) ∧ (0 ≤ e.2.2 ∧ e.2.2 < (Na : Int)))
  (hb : ∀ e, e ∈ eb → (0 ≤ e.1 ∧ e.1 < (Nb : Int)) ∧ (0 ≤ e.2.1 ∧ e.2.1 < (lb.length : Int)) ∧ (0 ≤ e.2.2 ∧ e.2.2 < (Nb : Int)))
  (hL : LastR (uniE la ea lb eb Na) (Na + Nb) r) (hx : x < Na) (hy : y < Nb) :
  (rndP (uniE la ea lb eb Na) (Na + Nb) r)[x]? = (rndP (uniE la ea lb eb Na) (Na + Nb) r)[Na + y]? ↔ Bis (tE la ea) (tE lb eb) x y := by
 have hE : tE (joiF (la ++ lb)) (uniE la ea lb eb Na) = sumE Na (tE la ea) (tE lb eb) := by
  funext a s b
  exact propext (uni_tE ha fun e he => ⟨(hb e he).1.1, (hb e he).2.1, (hb e he).2.2.1⟩)
 have h1 := str_iff (uni_in hla hlb ha hb).1 hL (x := x) (y := Na + y) (by omega) (by omega);have h2 := bis_text (joi_nodup (la ++ lb)) (uni_lab (Na := Na) (fun e he => (ha e he).2.1) (fun e he => (hb e he).2.1)) (x := x) (y := Na + y);rw [hE] at h2;have h3 := bis_sum (A := tE la ea) (B := tE lb eb) (n := Na) (a := x) (b := y) (fun a s b hh => by
  obtain ⟨l, g1, g2⟩ := hh;have := ha _ g1;dsimp only at this
  omega) hx
 exact h1.trans (h2.trans h3)
end Go.Proofs.YtnhomkmfbngmgaaGreatDoor
namespace Go.Proofs.YtnhomkmfbngmgaaGreatDoor
open Go.ChangeShapes Go.WideShapes Go.ChangeAt Go.RowKit
structure GrowH (w : World) (base : Nat) (A : Option Addr) (n c : Nat) (R : List (Hd × List Int)) : Prop where
 own : Own 1 (sv) w base 32 A n c (R.map (·.1))
 rows : ∀ r ∈ R, SlI w base w.heap.size r.1.1 r.1.2.1 r.2
 off : ∀ r ∈ R, 0 < r.1.2.1 → ∀ b off, r.1.1 = some ⟨b, off, none⟩ → (Value.slice A n c).ownBlock ≠ some b
section
variable {w w4 w5 w' : World} {base n c : Nat} {A : Option Addr} {R : List (Hd × List Int)}
theorem GrowH.len (h : GrowH w base A n c R) : R.length = n := by have := h.own.len; rwa [List.length_map] at this
theorem GrowH.nil_ (w : World) (base : Nat) : GrowH w base none 0 0 [] := ⟨Own.nil_ _ _ _, fun _ h => (List.not_mem_nil h).elim, fun _ h => (List.not_mem_nil h).elim⟩
theorem GrowH.keep (h : GrowH w base A n c R) (hs : w.heap.size ≤ w'.heap.size) (hk : ∀ b, base ≤ b → b < w.heap.size → w'.heap[b]? = w.heap[b]?) : GrowH w' base A n c R :=
 ⟨h.own.keep fun g hg => hk g (h.own.lt g hg).1 (h.own.lt g hg).2, fun r hr => ((h.rows r hr).keep hs fun b h1 _ h3 => hk b h1 h3).more zR hs, h.off⟩
theorem GrowH.below (h : GrowH w base A n c R) (hb : Below w.heap.size w w') : GrowH w' base A n c R := h.keep hb.size fun b _ h2 => hb.block b h2
theorem GrowH.one {Ah : Option Addr} {nh ch : Nat} {s : List Int} (hs : SlI w base w.heap.size Ah nh s) (hb : base ≤ w.heap.size) : GrowH (w.alloc (.cells #[.slice Ah nh ch] 32)) base (some ⟨w.heap.size, 0, none⟩) 1 1 [((Ah, nh, ch), s)] := by
 have hbel : Below w.heap.size w (w.alloc (.cells #[.slice Ah nh ch] 32)) := bR.alloc zR _;refine ⟨⟨rfl, by simp [sv], .inr ⟨w.heap.size, 1, #[.slice Ah nh ch], rfl, hb, heap_alloc_new w _, zR, by decide, rfl, rfl⟩⟩, fun r hr => ?_, fun r hr hN b off e => ?_⟩
 ·obtain rfl := List.mem_singleton.1 hr
  exact (hs.below hbel (.inr zR)).more zR hbel.size
 ·obtain rfl := List.mem_singleton.1 hr
  obtain ⟨b', off', e', -, -, g3, -⟩ := hs.at_ hN;have e : Ah = _ := e;rw [e] at e'
  cases e'
  intro e2;have e2 : some w.heap.size = some b := e2;injection e2 with e2;omega
theorem GrowH.push (h : GrowH w4 base A n c R) {Ah : Option Addr} {nh ch : Nat} {s : List Int} (hs : SlI w4 base w4.heap.size Ah nh s) (ho : ∀ b off, 0 < nh → Ah = some ⟨b, off, none⟩ → (Value.slice A n c).ownBlock ≠ some b)
  {A5 : Option Addr} {c5 : Nat} (hown : Own 1 (sv) w5 base 32 A5 (n + 1) c5 (R.map (·.1) ++ [(Ah, nh, ch)])) (hgr : w4.grownBy w5 (Value.slice A n c).ownBlock)
  (hat : (Value.slice A5 (n + 1) c5).ownBlock = (Value.slice A n c).ownBlock ∨ (Value.slice A5 (n + 1) c5).ownBlock = some w4.heap.size) :
  GrowH w5 base A5 (n + 1) c5 (R ++ [((Ah, nh, ch), s)]) := by
 have hz5 := hgr.size;have keepS : ∀ (B : Option Addr) (nb : Nat) (l : List Int), SlI w4 base w4.heap.size B nb l → (∀ b off, 0 < nb → B = some ⟨b, off, none⟩ → (Value.slice A n c).ownBlock ≠ some b) → SlI w5 base w5.heap.size B nb l := by
  intro B nb l hl hne;refine ⟨hl.1, fun hm => ?_⟩;obtain ⟨b, off, rfl, g1, g2, g3, hc⟩ := hl.2 hm;have hk := hgr.block b g3 (fun e => hne b off hm rfl e.symm);refine ⟨b, off, rfl, g1, by omega, by omega, fun k x hx j u hu => ?_⟩;obtain ⟨h1, h2⟩ := hc k x hx j u hu;exact ⟨(World.cell?_of_block (w := w4) (by simpa using hk)).trans h1, (World.frozen?_of_block (w := w4) (by simpa using hk)).trans h2⟩
 have hoff : ∀ (B : Option Addr) (nb : Nat) (l : List Int), SlI w4 base w4.heap.size B nb l → (∀ b off, 0 < nb → B = some ⟨b, off, none⟩ → (Value.slice A n c).ownBlock ≠ some b) → ∀ b off, 0 < nb → B = some ⟨b, off, none⟩ → (Value.slice A5 (n + 1) c5).ownBlock ≠ some b := by
  intro B nb l hl hne b off hN e
  rcases hat with h1 | h1
  ·rw [h1]; exact hne b off hN e
  ·rw [h1]
   obtain ⟨b', off', e', -, -, g3, -⟩ := hl.at_ hN;rw [e] at e'
   cases e'
   intro e2;injection e2 with e2;omega
 refine ⟨by rw [List.map_append]; exact hown, fun r hr => ?_, fun r hr hm b off e => ?_⟩
 ·rcases List.mem_append.1 hr with hr | hr
  ·exact keepS _ _ _ (h.rows r hr) fun b off hm e => h.off r hr hm b off e
  ·obtain rfl := List.mem_singleton.1 hr
   exact keepS _ _ _ hs ho
 ·rcases List.mem_append.1 hr with hr | hr
  ·exact hoff _ _ _ (h.rows r hr) (fun b off hm e => h.off r hr hm b off e) b off hm e
  ·obtain rfl := List.mem_singleton.1 hr
   exact hoff _ _ _ hs ho b off hm e
theorem GrowH.get (h : GrowH w base A n c R) {k : Nat} (hk : k < n) : ∃ b off Ah nh ch s, A = some ⟨b, off, none⟩ ∧ base ≤ b ∧ b < w.heap.size ∧ R[k]? = some ((Ah, nh, ch), s) ∧ w.cell? ⟨b, off + k, none⟩ = some (.slice Ah nh ch) ∧ SlI w base w.heap.size Ah nh s ∧
  ∀ b off, 0 < nh → Ah = some ⟨b, off, none⟩ → (Value.slice A n c).ownBlock ≠ some b := by
 have hl := h.len;obtain ⟨b, off, e, g1, g2, g3, hc⟩ := (h.own.sl flat_sv).at_ (by omega);have hr : R[k]? = some R[k] := List.getElem?_eq_getElem (by omega);have hm : R[k] ∈ R := List.getElem_mem _;have h0 := (hc k R[k].1 (by rw [List.getElem?_map, hr]; rfl) 0 _ rfl).1;rw [Nat.mul_one, Nat.add_zero] at h0;exact ⟨b, off, R[k].1.1, R[k].1.2.1, R[k].1.2.2, R[k].2, e, g1, g3, hr, h0, h.rows _ hm, fun b off hN e => h.off _ hm hN b off e⟩
end
open Go.Lib Go.Sort
theorem GrowH.made (w : World) : GrowH (w.alloc (.cells #[] 32)) w.heap.size (some ⟨w.heap.size, 0, none⟩) 0 0 [] := ⟨Own.made w _ zR, fun _ h => (List.not_mem_nil h).elim, fun _ h => (List.not_mem_nil h).elim⟩
def RowsTo (f : Nat → List Int) (k : Nat) (R : List (Hd × List Int)) : Prop := R.map (·.2) = (List.range k).map f ∧ ∀ r, r ∈ R → r.1.2.1 ≤ 1000
theorem RowsTo.get {f : Nat → List Int} {k : Nat} {R : List (Hd × List Int)} (h : RowsTo f k R) {i : Nat} (hi : i < k) {x : Hd} {s : List Int} (hr : R[i]? = some (x, s)) : s = f i := by
 have h1 : (R.map (·.2))[i]? = some s := by rw [List.getElem?_map, hr]; rfl
 rw [h.1, List.getElem?_map, List.getElem?_range hi] at h1;exact (Option.some.inj h1).symm
theorem RowsTo.push {f : Nat → List Int} {k : Nat} {R : List (Hd × List Int)} (h : RowsTo f k R) {x : Hd} {s : List Int} (hs : s = f k) (hx : x.2.1 ≤ 1000) : RowsTo f (k + 1) (R ++ [(x, s)]) := by
 refine ⟨by rw [List.map_append, h.1, List.range_succ, List.map_append, hs]; rfl, fun r hr => ?_⟩
 rcases List.mem_append.1 hr with hr | hr
 ·exact h.2 r hr
 ·obtain rfl := List.mem_singleton.1 hr
  exact hx
end Go.Proofs.YtnhomkmfbngmgaaGreatDoor
namespace Go.Proofs.YtnhomkmfbngmgaaGreatDoor
open Go.ChangeShapes Go.WideShapes Go.ChangeAt Go.RowKit Go.Sort
def SetsTo (es : List Ed) (ls : List ByteArray) (k : Nat) (R : List (Hd × List Int)) : Prop := R.length = k ∧ ∀ (i : Nat) (r : Hd × List Int), R[i]? = some r → (∀ v, v ∈ r.2 ↔ TauC es ls (· = (i : Int)) v) ∧ r.1.2.1 ≤ 41
theorem SetsTo.push {es : List Ed} {ls : List ByteArray} {k : Nat} {R : List (Hd × List Int)} (h : SetsTo es ls k R) {x : Hd} {s : List Int} (hs : ∀ v, v ∈ s ↔ TauC es ls (· = (k : Int)) v) (hx : x.2.1 ≤ 41) : SetsTo es ls (k + 1) (R ++ [(x, s)]) := by
 refine ⟨by rw [List.length_append, h.1]; rfl, fun i r hr => ?_⟩
 by_cases e : i < R.length
 ·rw [List.getElem?_append_left e] at hr
  exact h.2 i r hr
 ·rw [List.getElem?_append_right (by omega)] at hr
  have e2 : i - R.length = 0 := by
   have := (List.getElem?_eq_some_iff.1 hr).1
   simp at this
   omega
  rw [e2] at hr
  cases hr
  obtain rfl : i = k := by have := h.1; omega
  exact ⟨hs, hx⟩
theorem GrowH.base {w : World} {b1 b2 n c : Nat} {A : Option Addr} {R : List (Hd × List Int)} (h : GrowH w b1 A n c R) (hb : b2 ≤ b1) : GrowH w b2 A n c R :=
 ⟨h.own.sink hb, fun r hr => (h.rows r hr).more hb zR, h.off⟩
theorem labs_nodup {ls : List ByteArray} (h : namesB ls = true) : ls.Nodup := by
 refine List.pairwise_iff_getElem.2 fun i j hi hj hij e => ?_
 have := labs_rise h (List.getElem?_eq_getElem hi) (List.getElem?_eq_getElem hj) hij;rw [e, ltL_irr] at this
 cases this
theorem labs_zero {ls : List ByteArray} (h : namesB ls = true) : ls[0]? = some tauB := by
 unfold namesB at h;rw [Bool.and_eq_true] at h;have h1 := inB_true.1 h.1;have hx : ls[0]? = some (ls[0]'(by omega)) := List.getElem?_eq_getElem _;have h0 := allK_get h.2 (show 0 < ls.length by omega);rw [okL_zero hx] at h0;rw [hx, of_decide_eq_true h0]
end Go.Proofs.YtnhomkmfbngmgaaGreatDoor
namespace Go.Proofs.YtnhomkmfbngmgaaGreatDoor
open Go.ChangeShapes Go.WideShapes Go.ChangeAt Go.RowKit
def edT (e : Ed) : List UInt8 := Lib.join ([e.1, e.2.1, e.2.2].map Lib.itoa) [58]
def edB (e : Ed) : ByteArray := mkB (edT e)
def ltsTL (N ini : Nat) (ls : List ByteArray) (es : List Ed) : List UInt8 := Lib.itoa (N : Int) ++ [32] ++ Lib.itoa (ini : Int) ++ [124] ++ wordsL (dataL ls.tail) ++ [124] ++ wordsL (es.map edT)
theorem edB_data (es : List Ed) : dataL (es.map edB) = es.map edT := by
 unfold dataL;rw [List.map_map]
 rfl
def EdS (e : Ed) : Prop := (0 ≤ e.1 ∧ e.1 < 301) ∧ (0 ≤ e.2.1 ∧ e.2.1 < 301) ∧ (0 ≤ e.2.2 ∧ e.2.2 < 301)
theorem edT_eq (e : Ed) : edT e = Lib.itoa e.1 ++ 58 :: (Lib.itoa e.2.1 ++ 58 :: Lib.itoa e.2.2) := by
 show Lib.join [Lib.itoa e.1, Lib.itoa e.2.1, Lib.itoa e.2.2] [58] = _
 rw [join_cons2, join_cons2, Lib.join_one]
 simp
theorem edT_split {e : Ed} (h : EdS e) : splitC 58 (edT e) = [Lib.itoa e.1, Lib.itoa e.2.1, Lib.itoa e.2.2] := by
 have h1 := (itoaZ_ok h.1).2.2.1;have h2 := (itoaZ_ok h.2.1).2.2.1;have h3 := (itoaZ_ok h.2.2).2.2.1;rw [edT_eq, splitC_hit (fun hm => (h1 _ hm).1 rfl), splitC_hit (fun hm => (h2 _ hm).1 rfl), splitC_miss (fun hm => (h3 _ hm).1 rfl)]
theorem edT_nums {e : Ed} (h : EdS e) : numsOf numS (splitC 58 (edT e)) = some [e.1, e.2.1, e.2.2] := by
 rw [edT_split h];simp only [numsOf, (itoaZ_ok h.1).2.1, (itoaZ_ok h.2.1).2.1, (itoaZ_ok h.2.2).2.1]
theorem edT_ok {e : Ed} (h : EdS e) : okW (edT e) ∧ 124 ∉ edT e ∧ edT e ≠ [45] ∧ (edT e).length ≤ 11 := by
 have h1 := itoaZ_ok h.1;have h2 := itoaZ_ok h.2.1;have h3 := itoaZ_ok h.2.2;have hm : ∀ x, x ∈ edT e ↔ x ∈ Lib.itoa e.1 ∨ x = 58 ∨ x ∈ Lib.itoa e.2.1 ∨ x ∈ Lib.itoa e.2.2 := fun x => by
  rw [edT_eq];simp only [List.mem_append, List.mem_cons]
  constructor
  ·rintro (a | a | a | a | a)
   ·exact .inl a
   ·exact .inr (.inl a)
   ·exact .inr (.inr (.inl a))
   ·exact .inr (.inl a)
   ·exact .inr (.inr (.inr a))
  ·rintro (a | a | a | a)
   ·exact .inl a
   ·exact .inr (.inl a)
   ·exact .inr (.inr (.inl a))
   ·exact .inr (.inr (.inr (.inr a)))
 have h58 : (58 : UInt8) ∈ edT e := (hm 58).2 (.inr (.inl rfl));refine ⟨⟨fun e0 => ?_, fun x hx => ?_⟩, fun hx => ?_, fun e0 => ?_, ?_⟩
 ·rw [e0] at h58; cases h58
 ·rcases (hm x).1 hx with a | rfl | a | a
  ·exact h1.1.2 x a
  ·exact ⟨by decide, by decide⟩
  ·exact h2.1.2 x a
  ·exact h3.1.2 x a
 ·rcases (hm 124).1 hx with a | a | a | a
  ·exact (h1.2.2.1 _ a).2 rfl
  ·exact absurd a (by decide)
  ·exact (h2.2.2.1 _ a).2 rfl
  ·exact (h3.2.2.1 _ a).2 rfl
 ·rw [e0] at h58
  exact absurd h58 (by decide)
 ·rw [edT_eq]
  simp only [List.length_append, List.length_cons];omega
theorem nm5_ok : ∀ x, x ∈ nm5 → okW x.data.toList ∧ 124 ∉ x.data.toList ∧ x.data.toList ≠ [45] ∧ x.data.toList.length ≤ 6 := by
 intro x hx;unfold nm5 at hx;simp only [List.mem_cons, List.mem_nil_iff, or_false] at hx
 rcases hx with rfl | rfl | rfl | rfl | rfl
 all_goals
  refine ⟨⟨by decide, ?_⟩, by decide, by decide, by decide⟩;unfold okB
  decide
theorem tail_nm {ls : List ByteArray} (hn : NamD ls) (h0 : ls[0]? = some tauB) (hd : ls.Nodup) : ∀ x, x ∈ ls.tail → x ∈ nm5 := by
 cases ls with
 | nil => cases h0
 | cons a r =>
  have h0 : a = tauB := by simpa using h0
  intro x hx;have hx : x ∈ r := hx
  rcases hn x (List.mem_cons_of_mem _ hx) with e | e
  ·exact absurd hx (by rw [e, ← h0]; exact (List.nodup_cons.1 hd).1)
  ·exact e
def WordR (u : List UInt8) : Prop := okW u ∧ 124 ∉ u ∧ u ≠ [45]
theorem words_no {ws : List (List UInt8)} (h : ∀ u, u ∈ ws → WordR u) : 124 ∉ wordsL ws := by
 unfold wordsL
 split
 ·decide
 ·exact join_no (by decide) fun u hu => (h u hu).2.1
def undash (u : List UInt8) : List UInt8 := if u = [45] then [] else u
theorem undash_words : ∀ {ws : List (List UInt8)}, (∀ u, u ∈ ws → WordR u) → undash (wordsL ws) = Lib.join ws [32]
 | [], _ => rfl
 | [u], h => by
  have e : wordsL [u] = u := (if_neg (by simp)).trans (Lib.join_one ..);rw [e, Lib.join_one];unfold undash;rw [if_neg (h u (List.mem_cons_self ..)).2.2]
 | u :: v :: r, h => by
  have e0 : wordsL (u :: v :: r) = Lib.join (u :: v :: r) [32] := if_neg (by simp);rw [e0];unfold undash;rw [if_neg];intro e;have h32 : (32 : UInt8) ∈ Lib.join (u :: v :: r) [32] := by
   rw [join_cons2, List.mem_append, List.mem_append];exact .inl (.inr (List.mem_singleton.2 rfl))
  rw [e] at h32;exact absurd h32 (by decide)
theorem head_words (a b : List UInt8) : Lib.join [a, b] [32] = a ++ [32] ++ b := by rw [join_cons2, Lib.join_one]
theorem ltsTL_split {N ini : Nat} {ls : List ByteArray} {es : List Ed} (hN : N < 301) (hi : ini < 301) (hw : ∀ u, u ∈ dataL ls.tail → WordR u) (he : ∀ u, u ∈ es.map edT → WordR u) :
  splitC 124 (ltsTL N ini ls es) = [Lib.join [Lib.itoa (N : Int), Lib.itoa (ini : Int)] [32], wordsL (dataL ls.tail), wordsL (es.map edT)] := by
 have h1 := (itoa_ok N hN).2.2.1;have h2 := (itoa_ok ini hi).2.2.1;have e : ltsTL N ini ls es = (Lib.join [Lib.itoa (N : Int), Lib.itoa (ini : Int)] [32]) ++ 124 :: (wordsL (dataL ls.tail) ++ 124 :: wordsL (es.map edT)) := by
  unfold ltsTL;rw [head_words]
  simp
 rw [e, splitC_hit (join_no (by decide) fun u hu => ?_), splitC_hit (words_no hw), splitC_miss (words_no he)];simp only [List.mem_cons, List.not_mem_nil, or_false] at hu
 rcases hu with rfl | rfl
 ·exact fun hm => (h1 _ hm).2 rfl
 ·exact fun hm => (h2 _ hm).2 rfl
theorem head_fields {N ini : Nat} (hN : N < 301) (hi : ini < 301) : Lib.goFieldsP blank (mkB (Lib.join [Lib.itoa (N : Int), Lib.itoa (ini : Int)] [32])) = [mkB (Lib.itoa (N : Int)), mkB (Lib.itoa (ini : Int))] :=
 fields_join fun u hu => by
  simp only [List.mem_cons, List.not_mem_nil, or_false] at hu
  rcases hu with rfl | rfl
  ·exact (itoa_ok N hN).1
  ·exact (itoa_ok ini hi).1
theorem head_nums {N ini : Nat} (hN : N < 301) (hi : ini < 301) : numsOf numS (dataL [mkB (Lib.itoa (N : Int)), mkB (Lib.itoa (ini : Int))]) = some [(N : Int), (ini : Int)] := by
 show numsOf numS [Lib.itoa (N : Int), Lib.itoa (ini : Int)] = _
 simp only [numsOf, (itoa_ok N hN).2.1, (itoa_ok ini hi).2.1]
theorem words_fields {l : List ByteArray} (h : ∀ u, u ∈ dataL l → WordR u) : Lib.goFieldsP blank (mkB (Lib.join (dataL l) [32])) = l := by
 rw [fields_join fun u hu => (h u hu).1, mkB_dataL]
theorem nms_word {ls : List ByteArray} (hn : NamD ls) (hv : namesB ls = true) : ∀ u, u ∈ dataL ls.tail → WordR u := by
 intro u hu;unfold dataL at hu;obtain ⟨x, hx, rfl⟩ := List.mem_map.1 hu;have := nm5_ok x (tail_nm hn (labs_zero hv) (labs_nodup hv) x hx);exact ⟨this.1, this.2.1, this.2.2.1⟩
theorem eds_word {es : List Ed} (h : ∀ e, e ∈ es → EdS e) : ∀ u, u ∈ dataL (es.map edB) → WordR u := by
 intro u hu;rw [edB_data] at hu;obtain ⟨e, he, rfl⟩ := List.mem_map.1 hu;have := edT_ok (h e he);exact ⟨this.1, this.2.1, this.2.2.1⟩
theorem names_tail {ls : List ByteArray} (hv : namesB ls = true) : tauB :: ls.tail = ls := by
 have := labs_zero hv
 cases ls with
 | nil => cases this
 | cons a r =>
  have h0 : a = tauB := by simpa using this
  rw [h0]
  rfl
theorem ltsTL_len {N ini : Nat} {ls : List ByteArray} {es : List Ed} (hN : N < 301) (hi : ini < 301) (hn : NamD ls) (hv : namesB ls = true) (hl : ls.length ≤ 12) (he : ∀ e, e ∈ es → EdS e) (hm : es.length ≤ 300) : (ltsTL N ini ls es).length ≤ 10000 := by
 have h1 := (itoa_ok N hN).2.2.2;have h2 := (itoa_ok ini hi).2.2.2;have hw : ∀ (ws : List (List UInt8)), (wordsL ws).length ≤ 1 + (Lib.join ws [32]).length := fun ws => by
  unfold wordsL
  split
  ·simp
  ·omega
 have k1 := join_len [32] 6 (dataL ls.tail) (fun y hy => by
  unfold dataL at hy;obtain ⟨x, hx, rfl⟩ := List.mem_map.1 hy;exact (nm5_ok x (tail_nm hn (labs_zero hv) (labs_nodup hv) x hx)).2.2.2)
 have k2 := join_len [32] 11 (es.map edT) (fun y hy => by
  obtain ⟨e, hx, rfl⟩ := List.mem_map.1 hy;exact (edT_ok (he e hx)).2.2.2)
 have k3 := hw (dataL ls.tail);have k4 := hw (es.map edT);have k5 : (dataL ls.tail).length ≤ 12 := by unfold dataL; rw [List.length_map, List.length_tail]; omega
 rw [List.length_map] at k2;have k6 : ([32] : List UInt8).length = 1 := rfl;rw [k6] at k1 k2;have k7 : (dataL ls.tail).length * (6 + 1) ≤ 12 * (6 + 1) := Nat.mul_le_mul_right _ k5;have k8 : es.length * (11 + 1) ≤ 300 * (11 + 1) := Nat.mul_le_mul_right _ hm;unfold ltsTL;simp only [List.length_append, List.length_cons, List.length_nil];omega
open Go.Sort
theorem edge_words {es : List Ed} (h : ∀ e, e ∈ es → EdS e) : Lib.goFieldsP blank (mkB (Lib.join (es.map edT) [32])) = es.map edB := by
 have := words_fields (l := es.map edB) (eds_word h);rw [edB_data] at this;exact this
theorem readEdges_calls (es : List Ed) (h : ∀ e, e ∈ es → EdS e) (hm : es.length ≤ 300) (w : World) (he : Env w) :
  Calls Tryz.prog 53 #[.string (mkB (Lib.join (es.map edT) [32]))] w fun e w' => ∃ A c, e = .returned (.tuple #[.slice A es.length c, .bool true]) ∧ SlE w' w.heap.size w'.heap.size A es.length es ∧ Below w.heap.size w w' := by
 have hEe := hide elem_edge;have hF := edge_words h;have hlj : (Lib.join (es.map edT) [32]).length ≤ 4000 := by
  have h1 := join_len [32] 11 (es.map edT) (fun y hy => by
   obtain ⟨e, he, rfl⟩ := List.mem_map.1 hy;exact (edT_ok (h e he)).2.2.2)
  rw [List.length_map] at h1;have h2 : es.length * (11 + ([32] : List UInt8).length) ≤ 300 * (11 + ([32] : List UInt8).length) := Nat.mul_le_mul_right _ hm;have h3 : 300 * (11 + ([32] : List UInt8).length) = 3600 := rfl;omega
 obtain ⟨s, hs⟩ : ∃ s, s = mkB (Lib.join (es.map edT) [32]) := ⟨_, rfl⟩;rw [← hs] at hF ⊢;have hsz : s.size ≤ 1048576 := by rw [hs, mkB_size]; omega
 have q0 := splitWords_calls s hsz w;rw [hF, List.length_map] at q0;obtain ⟨m, hme⟩ : ∃ m, m = es.length := ⟨_, rfl⟩;rw [← hme] at q0 hm ⊢;replace q0 := hide q0;replace h := hide h;replace he := hide he;replace hs := hide hs;replace hF := hide hF;replace hme := hide hme;clear hlj;go_enter Tryz.func53, Tryz.ntmps53;go_wp2_with fail;refine q0.out.mono ?_;rintro e w1 ⟨A1, rfl, hS1, hb1⟩;obtain ⟨AW, hAW⟩ : ∃ AW, AW = some (⟨A1, 0, none⟩ : Addr) := ⟨_, rfl⟩;rw [← hAW] at hS1 ⊢;replace hAW := hide hAW;replace hS1 := hide hS1;replace hb1 := hide hb1;have hz01 := hb1.out.size;clear q0;go_wp2_with fail
 go_loopw [4, 12] (fun v4 v12 wr => ∃ (k : Nat) (A5 : Option Addr) (c5 : Nat), k ≤ m ∧ v12 = .int .i64 (k : Nat) ∧ v4 = .slice A5 k c5 ∧ Hid (Own 3 ev wr w1.heap.size 84 A5 k c5 (es.take k)) ∧ Hid (Below w1.heap.size w1 wr)) (fun _ v12 _ => m - (intOf v12).toNat)
 case atStart => exact ⟨0, none, 0, Nat.zero_le _, rfl, rfl, Own.nil_ _ _ _, bR⟩
 case round =>
  obtain ⟨k, A5, c5, hk, rfl, rfl, hO, hb⟩ := hrel;have hzr := hb.out.size;have hSr := hide (hS1.out.below hb.out (.inl zR))
  by_cases hlt : k < m
  ·obtain ⟨gB, oB, x, rfl, -, -, hgs, hx, x0, -⟩ := SlS.get hSr.out hlt
   rw [List.getElem?_map, Option.map_eq_some_iff] at hx;obtain ⟨⟨f, l, t⟩, hx2, rfl⟩ := hx;have hE := h.out _ (List.mem_of_getElem? hx2);have hsu : Hid (es.take (k + 1) = es.take k ++ [(f, l, t)]) := by
    show _ = _
    rw [List.take_add_one, hx2]
    rfl
   have her := he.out.below (hb1.out.trans (hb.out.mono hb1.out.size)) zR;have q1 := hide (splitD_calls 58 (edB (f, l, t)) wr (by show (mkB _).size ≤ _; rw [mkB_size]; have := (edT_ok hE).2.2.2; omega) her);replace hE := hide hE;replace her := hide her;replace hx2 := hide hx2;go_wp2_with fail;refine q1.out.mono ?_;rintro e2 w2 ⟨A2, n2, PB, rfl, hS2, hd2, hn2, hz2, hb2⟩;have hns : numsOf numS (dataL PB) = some [f, l, t] := by rw [hd2]; exact edT_nums hE.out
   have hl2 : n2 = 3 := by
    have h1 := hS2.len;have h3 := congrArg List.length hd2;rw [show (edB (f, l, t)).data.toList = edT (f, l, t) from rfl, edT_split hE.out] at h3;unfold dataL at h3;rw [List.length_map] at h3;simp only [List.length_cons, List.length_nil] at h3;omega
   subst hl2;have q2 := readNumbers_calls A2 3 3 PB w2 _ _ hS2 (by omega) hz2 (her.out.below hb2 zR);rw [hns] at q2;have q2 : Hid (Calls Tryz.prog 51 #[.slice A2 3 3] w2 fun e w' => (∃ A c, e = .returned (.tuple #[.slice A 3 c, .bool true]) ∧ SlI w' w2.heap.size w'.heap.size A 3 [f, l, t]) ∧ Below w2.heap.size w2 w') := q2;have hb2h := hide hb2;have hz12 := hb2.size;clear q1 hS2 hd2 hz2 hns hb2 hn2;go_wp2_with fail;refine q2.out.mono ?_;rintro e3 w3 ⟨⟨A3, c3, rfl, hS3⟩, hb3⟩;have hz23 := hb3.size;have hbr3 := hide (hb2h.out.trans (hb3.mono hz12));obtain ⟨g3, o3, rfl, hg3a, -, hg3, hc3⟩ := hS3.at_ (by omega);obtain ⟨wD, hwD⟩ : ∃ wD, wD = w3.drew := ⟨_, rfl⟩;have hbD : Below w3.heap.size w3 wD := by rw [hwD]; exact bR.drew
   have e0 : wD.cell? ⟨g3, o3, none⟩ = some (.int .i64 f) := by have := (hc3 0 f rfl 0 _ rfl).1; rw [hwD]; simpa using this
   have e1 : wD.cell? ⟨g3, o3 + 1, none⟩ = some (.int .i64 l) := by have := (hc3 1 l rfl 0 _ rfl).1; rw [hwD]; simpa using this
   have e2 : wD.cell? ⟨g3, o3 + 2, none⟩ = some (.int .i64 t) := by have := (hc3 2 t rfl 0 _ rfl).1; rw [hwD]; simpa using this
   have hzD : wD.heap.size = w3.heap.size := by rw [hwD]; rfl
   obtain ⟨wL, hwL⟩ : ∃ wL, wL = wD.alloc (.cells #[.int .i64 f, .int .i64 l, .int .i64 t] 84) := ⟨_, rfl⟩;have hblL : Below wD.heap.size wD wL := by rw [hwL]; exact bR.alloc zR _
   have hbDL := hbD.trans (hblL.mono hbD.size);have hbrL := hide (hbr3.out.trans (hbDL.mono hbr3.out.size));have hOL := hide (hO.out.below hbrL.out zR);have hb1L := hide (hb.out.trans (hbrL.out.mono hzr));have hzL := hblL.size;have a0 := (hblL.cell (p := ⟨g3, o3, none⟩) (by show g3 < _; omega)).trans e0;have a1 := (hblL.cell (p := ⟨g3, o3 + 1, none⟩) (by show g3 < _; omega)).trans e1;have a2 := (hblL.cell (p := ⟨g3, o3 + 2, none⟩) (by show g3 < _; omega)).trans e2;have hlit : Hid (Sl 3 ev wL 0 (wD.heap.size + 1) (some ⟨wD.heap.size, 0, none⟩) 1 [(f, l, t)]) := by
    rw [hwL];exact Sl.lit1' (f := ev) wD 84 (f, l, t) #[.int .i64 f, .int .i64 l, .int .i64 t] rfl 3 _ rfl
   have hsz2 : (k + 1) * 24 ≤ 140737488355328 := by omega
   have hza : w1.heap.size ≤ wL.heap.size := by omega
   have hne : some g3 ≠ (Value.slice A5 k c5).ownBlock := fun e => by
    have := hO.out.lt g3 e.symm;omega
   have hg3L : g3 < wL.heap.size := by omega
   clear q2 hS3 hc3 hb3 hbD hbDL;go_upto_region 8 with fail;replace hwD := hide hwD;replace hwL := hide hwL;replace hzD := hide hzD;clear x0;refine lateT_begin (S := fun w' => w'.cell? ⟨g3, o3, none⟩ = some (.int .i64 f) ∧ w'.cell? ⟨g3, o3 + 1, none⟩ = some (.int .i64 l) ∧ w'.cell? ⟨g3, o3 + 2, none⟩ = some (.int .i64 t)) (st := 13) (by kernel_rfl) ?_;rw [← show wD = _ from hwD.out];have hS0 : (fun w' : World => w'.cell? ⟨g3, o3, none⟩ = some (.int .i64 f) ∧ w'.cell? ⟨g3, o3 + 1, none⟩ = some (.int .i64 l) ∧ w'.cell? ⟨g3, o3 + 2, none⟩ = some (.int .i64 t)) wD := ⟨e0, e1, e2⟩;refine tkA _ 0 [13] rfl (Or.inl ⟨by kernel_rfl, by intro w9 hSw; obtain ⟨u0, u1, u2⟩ := hSw; go_simp <;> with_reducible rfl⟩) hS0 ?_;refine tkA _ 1 [13] rfl (Or.inl ⟨by kernel_rfl, by intro w9 hSw; obtain ⟨u0, u1, u2⟩ := hSw; go_simp <;> with_reducible rfl⟩) hS0 ?_;refine tkA _ 2 [13] rfl (Or.inl ⟨by kernel_rfl, by intro w9 hSw; obtain ⟨u0, u1, u2⟩ := hSw; go_simp <;> with_reducible rfl⟩) hS0 ?_;refine tkA _ 3 [13] rfl (Or.inl ⟨by kernel_rfl, by intro w9 hSw; obtain ⟨u0, u1, u2⟩ := hSw; go_simp <;> with_reducible rfl⟩) hS0 ?_;refine tkA _ 4 [13] rfl (Or.inl ⟨by kernel_rfl, by intro w9 hSw; obtain ⟨u0, u1, u2⟩ := hSw; go_simp <;> with_reducible rfl⟩) hS0 ?_;refine tkA _ 5 [13] rfl (Or.inl ⟨by kernel_rfl, by intro w9 hSw; obtain ⟨u0, u1, u2⟩ := hSw; go_simp <;> with_reducible rfl⟩) hS0 ?_;refine tkA _ 6 [13] rfl (Or.inl ⟨by kernel_rfl, by intro w9 hSw; obtain ⟨u0, u1, u2⟩ := hSw; go_simp <;> with_reducible rfl⟩) hS0 ?_;refine tkA _ 7 [13] rfl (Or.inl ⟨by kernel_rfl, by intro w9 hSw; obtain ⟨u0, u1, u2⟩ := hSw; go_simp <;> with_reducible rfl⟩) hS0 ?_;refine tkA _ 8 [13] rfl (Or.inl ⟨by kernel_rfl, by intro w9 hSw; obtain ⟨u0, u1, u2⟩ := hSw; go_simp <;> with_reducible rfl⟩) hS0 ?_;refine tkA _ 9 [13] rfl (Or.inl ⟨by kernel_rfl, by intro w9 hSw; obtain ⟨u0, u1, u2⟩ := hSw; go_simp <;> with_reducible rfl⟩) hS0 ?_;refine tkA _ 10 [13] rfl (Or.inl ⟨by kernel_rfl, by intro w9 hSw; obtain ⟨u0, u1, u2⟩ := hSw; go_simp <;> with_reducible rfl⟩) hS0 ?_;refine lS 11 fun K hK => ?_
   go_simp;rw [← show wL = _ from hwL.out]
   refine kP hK (fun _ => ⟨a0, a1, a2⟩) ?_;clear hK K;refine lS 12 fun K hK => ?_
   refine step_appL (m := 1) (d := 1) (by rfl) (.tmp 29) (.tmp 40) (by rfl) hEe.out flat_ev (by go_simp) hOL.out (by go_simp) hlit.out hsz2 hza ?_;intro A7 c7 w7 hown7 hgr7 hb7 hat7;have d0 := grown_cell8 hgr7 hg3L hne a0;have d1 := grown_cell8 hgr7 hg3L hne a1;have d2 := grown_cell8 hgr7 hg3L hne a2;refine kP hK (fun _ => ⟨d0, d1, d2⟩) ?_;clear hK K;refine lS 13 fun K hK => ?_
   go_simp;refine kP hK nH ?_
   clear hK K;refine lateT_done (by kernel_rfl) ?_ _;have hO9 := hown7;rw [← hsu.out] at hO9;replace hO9 := hide hO9;have hb9 := hide (hb1L.out.grown hgr7 hza fun q e => (hOL.out.lt q e).1);clear hown7 hgr7 hb7 hat7;go_wp2_with fail;go_roundw
   case rel => exact ⟨k + 1, A7, c7, by omega, by go_num, rfl, hO9, hb9⟩
   case measure => simp [intOf]; omega
  ·obtain rfl : k = m := by omega
   have hO9 := hO.out;rw [List.take_of_length_le (by have := hme.out; omega)] at hO9;have hSf := hide ((hO9.sl flat_ev).more (show w.heap.size ≤ w1.heap.size by omega) zR);have hbF := hide (hb1.out.trans (hb.out.mono hz01));clear hO hO9;go_wp2_with fail;go_ret2;exact ⟨A5, c5, rfl, hSf.out, hbF.out⟩
end Go.Proofs.YtnhomkmfbngmgaaGreatDoor
namespace Go.Proofs.YtnhomkmfbngmgaaGreatDoor
open Go.ChangeShapes Go.WideShapes Go.ChangeAt Go.RowKit
theorem SlI.three (w : World) (t : TypeId) (x y z : Int) : SlI (w.alloc (.cells #[.int .i64 x, .int .i64 y, .int .i64 z] t)) w.heap.size (w.heap.size + 1) (some ⟨w.heap.size, 0, none⟩) 3 [x, y, z] := by
 have h := heap_alloc_new w (.cells #[.int .i64 x, .int .i64 y, .int .i64 z] t);have hO : Own 1 iv (w.alloc (.cells #[.int .i64 x, .int .i64 y, .int .i64 z] t)) w.heap.size t (some ⟨w.heap.size, 0, none⟩) 3 3 [x, y, z] :=
  ⟨rfl, rfl, .inr ⟨w.heap.size, 3, _, rfl, zR, h, zR, by unfold maxLen; omega, rfl, rfl⟩⟩
 have hS := hO.sl flat_iv;rw [World.size_alloc] at hS;exact hS
theorem cut_at {g o c : Nat} (h : 1 < c) : cutA (some ⟨g, o, none⟩) 1 c 1 = some ⟨g, o + 1, none⟩ := by
 unfold cutA;rw [if_neg (by omega)]
 rfl
theorem edT_len {e : Ed} (h : ∀ v, v ∈ [e.1, e.2.1, e.2.2] → -9223372036854775808 ≤ v ∧ v ≤ 9223372036854775807) : (edT e).length ≤ 66 := by
 have := join_len [58] 21 ([e.1, e.2.1, e.2.2].map Lib.itoa) (fun y hy => by
  obtain ⟨v, hv, rfl⟩ := List.mem_map.1 hy;exact Lib.itoa_length_le v (h v hv).1 (h v hv).2)
 exact this
section
variable {w : World} {N ini : Nat} {A : Option Addr} {n c : Nat} {B : Option Addr} {m d : Nat} {ls : List ByteArray} {es : List Ed}
theorem ltsText_calls (h : SysA w N ini A n B m ls es) (hnc : n ≤ c) (he : Env w) :
  Calls Tryz.prog 13 #[.agg #[.int .i64 (N : Int), .int .i64 (ini : Int), .slice A n c, .slice B m d]] w fun e w' => e = .returned (.string (mkB (ltsTL N ini ls es))) ∧ Below w.heap.size w w' := by
 have hEs := hide elem_str;obtain ⟨hm, hn12, hn1, hle, hll⟩ := h.many;obtain ⟨⟨hN1, hN2⟩, hini⟩ := h.bounds;have hthr := hide (ltsV_edge h.ok).1;have hsz := h.sz;have hB := h.box (c := c) (d := d);obtain ⟨w1, hw1⟩ : ∃ w1, w1 = w.alloc (ltsC N ini A n c B m d) := ⟨_, rfl⟩;rw [← hw1] at hB;have he1 := hide (he.below hB.bel zR);have q0 := hide (hB.sys.valid c d he1.out);obtain ⟨sN, hsN⟩ : ∃ s : ByteArray, s = ⟨(Lib.itoa (N : Int)).toArray⟩ := ⟨_, rfl⟩;obtain ⟨sI, hsI⟩ : ∃ s : ByteArray, s = ⟨(Lib.itoa (ini : Int)).toArray⟩ := ⟨_, rfl⟩;have zN : sN.size ≤ 21 := by rw [hsN]; show (mkB _).size ≤ 21; rw [mkB_size]; exact Lib.itoa_length_le _ (by omega) (by omega)
 have zI : sI.size ≤ 21 := by rw [hsI]; show (mkB _).size ≤ 21; rw [mkB_size]; exact Lib.itoa_length_le _ (by omega) (by omega)
 have hdN : Hid (∀ W, Below w1.heap.size w1 W → Calls Tryz.prog 56 #[.int .i64 (N : Int)] W fun e w' => e = .returned (.string sN) ∧ Below W.heap.size W w') := fun W hW => by rw [hsN]; exact decimal_calls (N : Int) (by omega) (by omega) W (he1.out.below hW zR)
 have hdI : Hid (∀ W, Below w1.heap.size w1 W → Calls Tryz.prog 56 #[.int .i64 (ini : Int)] W fun e w' => e = .returned (.string sI) ∧ Below W.heap.size W w') := fun W hW => by rw [hsI]; exact decimal_calls (ini : Int) (by omega) (by omega) W (he1.out.below hW zR)
 obtain ⟨gA, oA, rfl, -, -, hgA, hcA⟩ := hB.sys.ss.at_ hn1;obtain ⟨A7, hA7⟩ : ∃ A7, A7 = cutA (some ⟨gA, oA, none⟩) 1 c 1 := ⟨_, rfl⟩;have hcut : ∀ W : World, (Instr.slice 24 (.slice (some ⟨gA, oA, none⟩) n c) (some (.int .i64 1)) none none).run Tryz.prog W = .ok (.slice A7 (n - 1) (c - 1)) W := fun W => by rw [hA7]; exact run_cut elem_str (some ⟨gA, oA, none⟩) n c 1 (by omega) W
 have hTl : SlS w1 0 w1.heap.size A7 (n - 1) ls.tail := ⟨by rw [List.length_tail, hll], fun hn => ⟨gA, oA + 1, by rw [hA7]; exact cut_at (by omega), Nat.zero_le _, hgA, hgA, fun k x hx j u hu => by
  have h1 := hcA (k + 1) x (by rw [← hx, List.getElem?_tail]) j u hu;rw [show oA + 1 + (k * 1 + j) = oA + ((k + 1) * 1 + j) by omega];exact h1⟩⟩
 have hlT : (Lib.join (dataL ls.tail) [32]).length ≤ 140737488355328 := by
  have h1 := join_len [32] 100000 (dataL ls.tail) (fun y hy => by
   unfold dataL at hy;obtain ⟨s, hs, rfl⟩ := List.mem_map.1 hy;rw [bsize];have h2 : s.size ≤ (ls.map (·.size)).sum := mem_sum (List.mem_map_of_mem (List.mem_of_mem_tail hs));unfold totS at hsz
   omega)
  have h2 : (dataL ls.tail).length ≤ 12 := by unfold dataL; rw [List.length_map, List.length_tail]; omega
  have h3 : (dataL ls.tail).length * (100000 + ([32] : List UInt8).length) ≤ 12 * (100000 + ([32] : List UInt8).length) := Nat.mul_le_mul_right _ h2;have h4 : 12 * (100000 + ([32] : List UInt8).length) = 1200012 := rfl;omega
 obtain ⟨sL, hsL⟩ : ∃ s : ByteArray, s = mkB (wordsL (dataL ls.tail)) := ⟨_, rfl⟩;have zL : sL.size ≤ 140737488355328 := by
  rw [hsL, mkB_size];unfold wordsL
  split
  ·exact Nat.le_trans (Nat.le_refl 1) (by omega)
  ·exact hlT
 have hdL : Hid (∀ W, Below w1.heap.size w1 W → Calls Tryz.prog 57 #[.slice A7 (n - 1) (c - 1)] W fun e w' => e = .returned (.string sL) ∧ Below W.heap.size W w') := fun W hW => by rw [hsL]; exact words_calls A7 (n - 1) (c - 1) ls.tail W _ _ (hTl.below hW (.inl zR)) (by omega) (by omega) hlT
 replace hsL := hide hsL;replace hsN := hide hsN;replace hsI := hide hsI;replace hA7 := hide hA7;have hBX := hide (fun (W : World) (hW : Below w1.heap.size w1 W) => hB.below hW);have b0 := hB.box.c0;have b1 := hB.box.c1;have b2 := hB.box.c2;have b3 := hB.box.c3;have hbl := hide hB.bel;have hll12 : ls.length ≤ 12 := by omega
 replace hle := hide hle;replace hll := hide hll;have hlt1 := hB.lt;clear h hTl hlT hcA hB he hsz;go_enter Tryz.func13, Tryz.ntmps13;go_upto_region 1 with fail;rw [show w.alloc (.cells #[.int .i64 (N : Int), .int .i64 (ini : Int), .slice (some ⟨gA, oA, none⟩) n c, .slice B m d] 27) = w1 from hw1.symm];replace hw1 := hide hw1;go_wp2_with fail;refine q0.out.mono ?_;rintro e w2 ⟨rfl, hb2⟩;have hb2h := hide hb2;have hB2 := hBX.out w2 hb2;clear q0 b0 b1 b2 b3;have b0 := hB2.box.c0;have b1 := hB2.box.c1;have b2 := hB2.box.c2;have b3 := hB2.box.c3;clear hB2 hb2;go_upto_region 5 with fail;clear b0 b1 b2 b3
 go_loopw [3, 12] (fun v3 v12 wr => ∃ (k : Nat) (A5 : Option Addr) (c5 : Nat), k ≤ m ∧ v12 = .int .i64 (k : Nat) ∧ v3 = .slice A5 k c5 ∧ Hid (Own 1 strv wr w1.heap.size 9 A5 k c5 ((es.take k).map edB)) ∧ Hid (Below w1.heap.size w1 wr)) (fun _ v12 _ => m - (intOf v12).toNat)
 case atStart => exact ⟨0, none, 0, Nat.zero_le _, rfl, rfl, Own.nil_ _ _ _, hb2h.out⟩
 case round =>
  obtain ⟨k, A5, c5, hk, rfl, rfl, hO, hb⟩ := hrel;have hzr := hb.out.size;have hBr := hide (hBX.out wr hb.out)
  by_cases hlt : k < m
  ·obtain ⟨gB, oB, f, l, t, rfl, -, -, hgBs, hx, x0, x1, x2, -⟩ := SlE.get hBr.out.sys.se hlt
   have hth := hthr.out _ (List.mem_of_getElem? hx);dsimp only at hth;have hsu : Hid ((es.take (k + 1)).map edB = (es.take k).map edB ++ [edB (f, l, t)]) := by
    show _ = _
    rw [List.take_add_one, hx, List.map_append]
    rfl
   have i0 : (0 : Int) ≤ (k : Int) := by omega
   have i1 : (k : Int) < (m : Int) := by omega
   have hbE : Below wr.heap.size wr (wr.alloc (.cells #[.int .i64 f, .int .i64 l, .int .i64 t] 84)) := bR.alloc zR _;have kE := heap_alloc_new wr (.cells #[.int .i64 f, .int .i64 l, .int .i64 t] 84);obtain ⟨wE, hwE⟩ : ∃ wE, wE = wr.alloc (.cells #[.int .i64 f, .int .i64 l, .int .i64 t] 84) := ⟨_, rfl⟩;rw [← hwE] at hbE kE;have y0 : wE.cell? ⟨wr.heap.size, 0, none⟩ = some (.int .i64 f) := cR 0 kE;have y1 : wE.cell? ⟨wr.heap.size, 1, none⟩ = some (.int .i64 l) := cR 1 kE;have y2 : wE.cell? ⟨wr.heap.size, 2, none⟩ = some (.int .i64 t) := cR 2 kE;have hbT : Below wE.heap.size wE (wE.alloc (.cells #[.int .i64 f, .int .i64 l, .int .i64 t] 2)) := bR.alloc zR _;have hSI := SlI.three wE 2 f l t;obtain ⟨wT, hwT⟩ : ∃ wT, wT = wE.alloc (.cells #[.int .i64 f, .int .i64 l, .int .i64 t] 2) := ⟨_, rfl⟩;rw [← hwT] at hbT hSI;have hbrT := hbE.trans (hbT.mono hbE.size);have hb1T := hide (hb.out.trans (hbrT.mono hzr));have q := hide (joinedC_calls 58 (some ⟨wE.heap.size, 0, none⟩) 3 3 [f, l, t] wT _ _ hSI (by omega) (fun v hv => by
    simp only [List.mem_cons, List.not_mem_nil, or_false] at hv
    rcases hv with rfl | rfl | rfl <;> omega) (he1.out.below hb1T.out zR))
   have hOT := hide (hO.out.below hbrT zR);replace hx := hide hx;replace kE := hide kE;replace hwT := hide hwT;replace hth := hide hth;have hsz : (k + 1) * 16 ≤ 140737488355328 := by omega
   clear hSI hbT hbE hbrT hO;go_upto_region 7 with fail;rw [← hwE];replace hwE := hide hwE;clear x0 x1 x2;go_wp2_with fail;rw [show wE.alloc (.cells #[.int .i64 f, .int .i64 l, .int .i64 t] 2) = wT from hwT.out.symm];refine q.out.mono ?_;rintro e w3 ⟨rfl, hb3⟩;have hO3 := hide ((hOT.out.below hb3 zR).alloc (.cells #[.string (edB (f, l, t))] 9));have hb3' := hide (hb1T.out.trans ((hb3.trans ((Below.refl w3.heap.size w3).alloc zR (.cells #[.string (edB (f, l, t))] 9) |>.mono hb3.size)).mono hb1T.out.size));have hlit := hide (Sl.lit1' (f := strv) w3 9 (edB (f, l, t)) #[.string (edB (f, l, t))] rfl 1 _ rfl);have hza := hb3'.out.size;clear hb3 q y0 y1 y2;rw [show mkB (Lib.join ([f, l, t].map Lib.itoa) [58]) = edB (f, l, t) from rfl];go_wp2_with (first | (at_builtin; (with_reducible refine wpList_app rfl (.tmp 16) (.tmp 25) rfl hEs.out flat_strv rfl hO3.out rfl hlit.out hsz hza ?_); intro A6 c6 w6 hown6 hgr6 hb6 hat6));have hO6 : Hid (Own 1 strv w6 w1.heap.size 9 A6 (k + 1) c6 ((es.take (k + 1)).map edB)) := by show Own _ _ _ _ _ _ _ _ _; rw [hsu.out]; exact hown6
   have hb6' := hide (hb3'.out.trans hb6);clear hgr6 hb6 hat6 hown6;go_roundw
   case rel => exact ⟨k + 1, A6, c6, by omega, by go_num, rfl, hO6, hb6'⟩
   case measure => simp [intOf]; omega
  ·obtain rfl : k = m := by omega
   have hO9 := hO.out;rw [List.take_of_length_le (by rw [hle.out]; exact zR)] at hO9;have hlE : (Lib.join (dataL (es.map edB)) [32]).length ≤ 140737488355328 := by
    rw [edB_data];have h1 := join_len [32] 66 (es.map edT) (fun y hy => by
     obtain ⟨e, he, rfl⟩ := List.mem_map.1 hy;have := hthr.out e he;obtain ⟨f, l, t⟩ := e;dsimp only at this;exact edT_len (fun v hv => by
      simp only [List.mem_cons, List.not_mem_nil, or_false] at hv
      rcases hv with rfl | rfl | rfl <;> omega))
    have h2 : (es.map edT).length ≤ 300 := by rw [List.length_map, hle.out]; omega
    have h3 : (es.map edT).length * (66 + ([32] : List UInt8).length) ≤ 300 * (66 + ([32] : List UInt8).length) := Nat.mul_le_mul_right _ h2;have h4 : 300 * (66 + ([32] : List UInt8).length) = 20100 := rfl;omega
   have hS9 := hO9.sl flat_strv;have hcp := hO9.le_cap;obtain ⟨wD, hwD⟩ : ∃ wD, wD = wr.drew := ⟨_, rfl⟩;have hbD : Below wr.heap.size wr wD := by rw [hwD]; exact bR.drew
   have hb1D := hide (hb.out.trans (hbD.mono hzr));obtain ⟨sE, hsE⟩ : ∃ s : ByteArray, s = mkB (wordsL (dataL (es.map edB))) := ⟨_, rfl⟩;have zE : sE.size ≤ 140737488355328 := by
    rw [hsE, mkB_size];unfold wordsL
    split
    ·exact Nat.le_trans (Nat.le_refl 1) (by omega)
    ·exact hlE
   have hdE : Hid (∀ W, Below wr.heap.size wr W → Calls Tryz.prog 57 #[.slice A5 k c5] W fun e w' => e = .returned (.string sE) ∧ Below W.heap.size W w') := fun W hW => by rw [hsE]; exact words_calls A5 k c5 (es.map edB) W _ _ (hS9.below hW (.inl zR)) (by omega) hcp hlE
   have f1 : ¬ 9223372036854775807 < sN.size + 1 := by omega
   have f2 : ¬ 9223372036854775807 < sN.size + 1 + sI.size := by omega
   have f3 : ¬ 9223372036854775807 < sN.size + 1 + sI.size + 1 := by omega
   have f4 : ¬ 9223372036854775807 < sN.size + 1 + sI.size + 1 + sL.size := by omega
   have f5 : ¬ 9223372036854775807 < sN.size + 1 + sI.size + 1 + sL.size + 1 := by omega
   have f6 : ¬ 9223372036854775807 < sN.size + 1 + sI.size + 1 + sL.size + 1 + sE.size := by omega
   replace hsE := hide hsE;have hbDh := hide hbD;have hSS : Hid (∀ wx, Below w1.heap.size w1 wx → (fun w' : World => w'.cell? ⟨w.heap.size, 0, none⟩ = some (.int .i64 (N : Int)) ∧ w'.cell? ⟨w.heap.size, 1, none⟩ = some (.int .i64 (ini : Int)) ∧ w'.cell? ⟨w.heap.size, 2, none⟩ = some (.slice (some ⟨gA, oA, none⟩) n c)) wx) := fun wx hx => ⟨(hBX.out wx hx).box.c0, (hBX.out wx hx).box.c1, (hBX.out wx hx).box.c2⟩
   have k1 : ¬ (k : Int) < (k : Int) := by omega
   have n1 : (1 : Int) ≤ (n : Int) := by omega
   have n2 : (n : Int) ≤ (c : Int) := by omega
   replace hcut := hide hcut;have hcut := hcut.out;replace hwD := hide hwD;clear hO hO9 hlE hS9 hcp hbD;go_upto_region 9 with fail;refine lateT_begin (S := fun w' => w'.cell? ⟨w.heap.size, 0, none⟩ = some (.int .i64 (N : Int)) ∧ w'.cell? ⟨w.heap.size, 1, none⟩ = some (.int .i64 (ini : Int)) ∧ w'.cell? ⟨w.heap.size, 2, none⟩ = some (.slice (some ⟨gA, oA, none⟩) n c)) (st := 18) (by kernel_rfl) ?_;rw [← show wD = _ from hwD.out];have hS0 := hSS.out wD hb1D.out;refine tkA _ 0 [18] rfl (Or.inl ⟨by kernel_rfl, by intro w9 hSw; obtain ⟨u0, u1, u2⟩ := hSw; go_simp <;> with_reducible rfl⟩) hS0 ?_;refine tkA _ 1 [18] rfl (Or.inl ⟨by kernel_rfl, by intro w9 hSw; obtain ⟨u0, u1, u2⟩ := hSw; go_simp <;> with_reducible rfl⟩) hS0 ?_;refine tkA _ 4 [18] rfl (Or.inl ⟨by kernel_rfl, by intro w9 hSw; obtain ⟨u0, u1, u2⟩ := hSw; go_simp <;> with_reducible rfl⟩) hS0 ?_;refine tkA _ 5 [18] rfl (Or.inl ⟨by kernel_rfl, by intro w9 hSw; obtain ⟨u0, u1, u2⟩ := hSw; go_simp <;> with_reducible rfl⟩) hS0 ?_;refine tkA _ 9 [18] rfl (Or.inl ⟨by kernel_rfl, by intro w9 hSw; obtain ⟨u0, u1, u2⟩ := hSw; go_simp <;> with_reducible rfl⟩) hS0 ?_;refine tkA _ 10 [18] rfl (Or.inl ⟨by kernel_rfl, by intro w9 hSw; obtain ⟨u0, u1, u2⟩ := hSw; go_simp <;> with_reducible rfl⟩) hS0 ?_;refine tkA _ 11 [18] rfl (Or.inl ⟨by kernel_rfl, by intro w9 hSw; obtain ⟨u0, u1, u2⟩ := hSw; go_simp <;> with_reducible rfl⟩) hS0 ?_;refine tkA _ 15 [18] rfl (Or.inl ⟨by kernel_rfl, by intro w9 hSw; obtain ⟨u0, u1, u2⟩ := hSw; go_simp <;> with_reducible rfl⟩) hS0 ?_;refine lS 2 fun K hK => ?_
   go_simp;go_at_call 56
   (with_reducible refine (hdN.out wD hb1D.out).mono ?_)
   rintro e u1 ⟨rfl, hv1⟩;have hdv := hide (hbDh.out.trans (hv1.mono hbDh.out.size));have hBu1 := hide (hb1D.out.trans (hv1.mono hb1D.out.size));have hSu1 := hSS.out u1 hBu1.out;clear hv1;go_wp2_with fail;refine kP hK (fun _ => hSu1) ?_;clear hK K;refine tkA _ 3 [18] rfl (Or.inl ⟨by kernel_rfl, by intro w9 hSw; obtain ⟨u0, u1, u2⟩ := hSw; go_simp <;> with_reducible rfl⟩) hSu1 ?_;refine lS 6 fun K hK => ?_
   go_simp;go_at_call 56
   (with_reducible refine (hdI.out u1 hBu1.out).mono ?_)
   rintro e u2 ⟨rfl, hv2⟩;have hdw := hide (hdv.out.trans (hv2.mono hdv.out.size));have hBu2 := hide (hBu1.out.trans (hv2.mono hBu1.out.size));have hSu2 := hSS.out u2 hBu2.out;clear hv2;go_wp2_with fail;refine kP hK (fun _ => hSu2) ?_;clear hK K;refine tkA _ 7 [18] rfl (Or.inl ⟨by kernel_rfl, by intro w9 hSw; obtain ⟨u0, u1, u2⟩ := hSw; go_simp <;> with_reducible rfl⟩) hSu2 ?_;refine tkA _ 8 [18] rfl (Or.inl ⟨by kernel_rfl, by intro w9 hSw; obtain ⟨u0, u1, u2⟩ := hSw; go_simp <;> with_reducible rfl⟩) hSu2 ?_;refine lS 12 fun K hK => ?_
   go_simp;go_at_call 57
   (with_reducible refine (hdL.out u2 hBu2.out).mono ?_)
   rintro e u3 ⟨rfl, hv3⟩;have hDE := hide (hdw.out.trans (hv3.mono hdw.out.size));have hBu3 := hide (hBu2.out.trans (hv3.mono hBu2.out.size));have hSu3 := hSS.out u3 hBu3.out;clear hv3;go_wp2_with fail;refine kP hK (fun _ => hSu3) ?_;clear hK K;refine tkA _ 13 [18] rfl (Or.inl ⟨by kernel_rfl, by intro w9 hSw; obtain ⟨u0, u1, u2⟩ := hSw; go_simp <;> with_reducible rfl⟩) hSu3 ?_;refine tkA _ 14 [18] rfl (Or.inl ⟨by kernel_rfl, by intro w9 hSw; obtain ⟨u0, u1, u2⟩ := hSw; go_simp <;> with_reducible rfl⟩) hSu3 ?_;refine lS 16 fun K hK => ?_
   go_simp;go_at_call 57
   (with_reducible refine (hdE.out u3 hDE.out).mono ?_)
   rintro e u4 ⟨rfl, hv4⟩;have hBu4 := hide (hBu3.out.trans (hv4.mono hBu3.out.size));have hSu4 := hSS.out u4 hBu4.out;clear hv4;go_wp2_with fail;refine kP hK (fun _ => hSu4) ?_;clear hK K;refine tkA _ 17 [18] rfl (Or.inl ⟨by kernel_rfl, by intro w9 hSw; obtain ⟨u0, u1, u2⟩ := hSw; go_simp <;> with_reducible rfl⟩) hSu4 ?_;refine lS 18 fun K hK => ?_
   go_simp;refine kP hK nH ?_
   clear hK K;refine lateT_done (by kernel_rfl) ?_ _;go_wp2_with fail;go_ret;refine ⟨?_, hbl.out.trans (hBu4.out.mono hbl.out.size)⟩
   show Ending.returned (.string (sN ++ mkB [32] ++ sI ++ mkB [124] ++ sL ++ mkB [124] ++ sE)) = _
   rw [hsN.out, hsI.out, hsL.out, hsE.out]
   show Ending.returned (.string (mkB (Lib.itoa (N : Int)) ++ mkB [32] ++ mkB (Lib.itoa (ini : Int)) ++ mkB [124] ++ mkB (wordsL (dataL ls.tail)) ++ mkB [124] ++ mkB (wordsL (dataL (es.map edB))))) = _
   rw [mkB_app, mkB_app, mkB_app, mkB_app, mkB_app, mkB_app, edB_data]
   rfl
end
end Go.Proofs.YtnhomkmfbngmgaaGreatDoor
namespace Go.Proofs.YtnhomkmfbngmgaaGreatDoor
structure BisS {S T L : Type} (A : S → L → S → Prop) (B : T → L → T → Prop) (R : S → T → Prop) : Prop where
 fwd : ∀ x y s x', R x y → A x s x' → ∃ y', B y s y' ∧ R x' y'
 bwd : ∀ x y s y', R x y → B y s y' → ∃ x', A x s x' ∧ R x' y'
def BisG {S T L : Type} (A : S → L → S → Prop) (B : T → L → T → Prop) (a : S) (b : T) : Prop := ∃ R, BisS A B R ∧ R a b
section
variable {S T U L : Type} {A : S → L → S → Prop} {B : T → L → T → Prop} {C : U → L → U → Prop} {a : S} {b : T} {c : U}
theorem BisG.symm (h : BisG A B a b) : BisG B A b a := by
 obtain ⟨R, h1, h2⟩ := h;exact ⟨fun x y => R y x, ⟨fun x y s x' e g => h1.bwd y x s x' e g, fun x y s y' e g => h1.fwd y x s y' e g⟩, h2⟩
theorem BisG.trans (h : BisG A B a b) (g : BisG B C b c) : BisG A C a c := by
 obtain ⟨R, h1, h2⟩ := h;obtain ⟨Q, g1, g2⟩ := g;refine ⟨fun x z => ∃ y, R x y ∧ Q y z, ⟨fun x z s x' e k => ?_, fun x z s z' e k => ?_⟩, b, h2, g2⟩
 ·obtain ⟨y, e1, e2⟩ := e
  obtain ⟨y', k1, k2⟩ := h1.fwd x y s x' e1 k;obtain ⟨z', k3, k4⟩ := g1.fwd y z s y' e2 k1;exact ⟨z', k3, y', k2, k4⟩
 ·obtain ⟨y, e1, e2⟩ := e
  obtain ⟨y', k1, k2⟩ := g1.bwd y z s z' e2 k;obtain ⟨x', k3, k4⟩ := h1.bwd x y s y' e1 k1;exact ⟨x', k3, y', k4, k2⟩
end
def prodT {S T : Type} (A : S → ByteArray → S → Prop) (B : T → ByteArray → T → Prop) (sh : ByteArray → Bool) (p : S × T) (s : ByteArray) (q : S × T) : Prop :=
 (sh s = false ∧ A p.1 s q.1 ∧ q.2 = p.2) ∨ (sh s = false ∧ B p.2 s q.2 ∧ q.1 = p.1) ∨ (sh s = true ∧ A p.1 s q.1 ∧ B p.2 s q.2)
section
variable {S T : Type} {A : S → ByteArray → S → Prop} {B : T → ByteArray → T → Prop} {sh : ByteArray → Bool}
end
open Go.ChangeAt Go.ChangeShapes Go.Lib Go.RowKit Go.Sort Go.WideShapes
theorem sub_lenG {α : Type} [DecidableEq α] : ∀ {L M : List α}, L.Nodup → (∀ y, y ∈ L → y ∈ M) → L.length ≤ M.length
 | [], M, _, _ => Nat.zero_le _
 | x :: L, M, hn, h => by
  have hx := h x (List.mem_cons_self ..);have h1 := sub_lenG (L := L) (M := M.erase x) (List.nodup_cons.1 hn).2 (fun y hy => (List.mem_erase_of_ne (by rintro rfl; exact (List.nodup_cons.1 hn).1 hy)).2 (h y (List.mem_cons_of_mem _ hy)));have h2 := List.length_erase_of_mem hx;have h3 := List.length_pos_of_mem hx;simp only [List.length_cons];omega
theorem ltsEs_rise (ts : List ByteArray) (arcs : List Arc) : RisE (ltsEs ts arcs) := compactE_rise (sortE_le _)
theorem ltsEs_ends {ts : List ByteArray} {arcs : List Arc} {st : Int} (hin : ∀ a, a ∈ arcs → a.2.1 ∈ joiF ts) (hst : ∀ a, a ∈ arcs → (0 ≤ a.1 ∧ a.1 < st) ∧ 0 ≤ a.2.2 ∧ a.2.2 < st) (e : Ed) (he : e ∈ ltsEs ts arcs) : (0 ≤ e.1 ∧ e.1 < st) ∧ (0 ≤ e.2.1 ∧ e.2.1 < ((joiF ts).length : Int)) ∧ 0 ≤ e.2.2 ∧ e.2.2 < st := by
 obtain ⟨a, ha, rfl⟩ := ltsEs_mem.1 he;obtain ⟨k, h4, h5⟩ := idxZ_get (hin a ha);have h6 := (List.getElem?_eq_some_iff.1 h5).1;have h7 := hst a ha;unfold arcD;dsimp only;rw [h4];omega
theorem ltsEs_valid {ts : List ByteArray} {arcs : List Arc} {st ini : Int} (h1 : 1 ≤ st ∧ st ≤ 40) (h2 : 0 ≤ ini ∧ ini < st) (hn : namesB (joiF ts) = true) (hlen : (ltsEs ts arcs).length ≤ 300) (hin : ∀ a, a ∈ arcs → a.2.1 ∈ joiF ts) (hst : ∀ a, a ∈ arcs → (0 ≤ a.1 ∧ a.1 < st) ∧ 0 ≤ a.2.2 ∧ a.2.2 < st) : ltsV (st, ini, joiF ts, ltsEs ts arcs) = true :=
 ltsV_of h1 h2 hn hlen (ltsEs_rise _ _) (ltsEs_ends hin hst)
theorem joiF_sub {ts ts' : List ByteArray} (h : ∀ s, s ∈ ts' → s = tauB ∨ s ∈ ts) : (joiF ts').length ≤ (joiF ts).length :=
 sub_lenG (joi_nodup _) fun s hs => (joi_mem_iff _ _).2 (by
  rcases (joi_mem_iff _ _).1 hs with rfl | hs
  ·exact .inl rfl
  ·exact h s hs)
structure ProdL {S T : Type} (A : S → ByteArray → S → Prop) (B : T → ByteArray → T → Prop) (sh : ByteArray → Bool) (a : S) (b : T) (W : List (S × T)) (arcs : List Arc) (i : Nat) : Prop where
 nd : W.Nodup
 ini : W[i]? = some (a, b)
 clo : ∀ p s q, p ∈ W → prodT A B sh p s q → q ∈ W
 is : ∀ f s t, (f, s, t) ∈ arcs ↔ ∃ (k m : Nat) (p q : S × T), f = (k : Int) ∧ t = (m : Int) ∧ W[k]? = some p ∧ W[m]? = some q ∧ prodT A B sh p s q
 min : ∀ P : S × T → Prop, P (a, b) → (∀ p s q, P p → prodT A B sh p s q → P q) → ∀ p, p ∈ W → P p
section
variable {S T S' T' : Type} {A : S → ByteArray → S → Prop} {B : T → ByteArray → T → Prop} {A' : S' → ByteArray → S' → Prop} {B' : T' → ByteArray → T' → Prop} {sh sh' : ByteArray → Bool} {a : S} {b : T} {a' : S'} {b' : T'} {W : List (S × T)} {W' : List (S' × T')} {arcs arcs' : List Arc} {i i' : Nat}
theorem ProdL.ends (h : ProdL A B sh a b W arcs i) (x : Arc) (hx : x ∈ arcs) : (0 ≤ x.1 ∧ x.1 < (W.length : Int)) ∧ 0 ≤ x.2.2 ∧ x.2.2 < (W.length : Int) := by
 obtain ⟨f, s, t⟩ := x;obtain ⟨k, m, p, q, rfl, rfl, h1, h2, -⟩ := (h.is f s t).1 hx;have h3 := (List.getElem?_eq_some_iff.1 h1).1;have h4 := (List.getElem?_eq_some_iff.1 h2).1;dsimp only;omega
theorem ProdL.few (h : ProdL A B sh a b W arcs i) : 1 ≤ W.length ∧ i < W.length := by
 have := (List.getElem?_eq_some_iff.1 h.ini).1;omega
end
section
variable {hd : ByteArray → ByteArray} {ls : List ByteArray} {es : List Ed}
end
theorem names_lab {ls : List ByteArray} (h : namesB ls = true) (x : ByteArray) (hx : x ∈ ls) : x = tauB ∨ labS x = true := by
 obtain ⟨k, hk⟩ := List.getElem?_of_mem hx
 by_cases k0 : k = 0
 ·subst k0
  rw [labs_zero h] at hk;exact .inl (Option.some.inj hk).symm
 ·have hl := (List.getElem?_eq_some_iff.1 hk).1
  obtain ⟨y, hy⟩ : ∃ y, ls[k - 1]? = some y := ⟨_, List.getElem?_eq_getElem (by omega)⟩;have h1 := h;unfold namesB at h1;rw [Bool.and_eq_true] at h1;have h2 := allK_get h1.2 hl;rw [okL_at hk (by omega) hy] at h2;simp only [Bool.and_eq_true] at h2;exact .inr h2.1.1
section
variable {hd : ByteArray → ByteArray} {ls : List ByteArray} {es : List Ed}
end
section
variable {Na ia Nb ib : Int} {la lb : List ByteArray} {ea eb : List Ed} {sh : ByteArray → Bool} {W : List (Int × Int)} {arcs : List Arc} {i : Nat}
end
theorem arc_stepU {J ls : List ByteArray} {es : List Ed} (hJ : ∀ e, e ∈ es → (arcOf ls e).2.1 ∈ J) (hl : ∀ e, e ∈ es → 0 ≤ e.2.1 ∧ e.2.1 < (ls.length : Int)) {f t : Int} {s : ByteArray} :
  (∃ l : Nat, (∃ a, a ∈ es.map (arcOf ls) ∧ (f, (l : Int), t) = arcD J a) ∧ J[l]? = some s) ↔ ∃ l : Nat, (f, (l : Int), t) ∈ es ∧ ls[l]? = some s := by
 constructor
 ·rintro ⟨l, ⟨a, ha, e⟩, hs⟩
  obtain ⟨x, hx, rfl⟩ := List.mem_map.1 ha;have hlx := hl x hx;unfold arcD at e;injection e with e1 e2;injection e2 with e2 e3;obtain ⟨k, h1, h2⟩ := idxZ_get (hJ x hx);have : k = l := by omega
  subst this;rw [hs] at h2;have h3 := Option.some.inj h2;unfold arcOf at h3 e1 e3;simp only at h3 e1 e3;rw [List.getElem?_eq_getElem (show x.2.1.toNat < ls.length by omega), Option.getD_some] at h3;refine ⟨x.2.1.toNat, ?_, by rw [h3]; exact List.getElem?_eq_getElem _⟩;rw [show ((x.2.1.toNat : Nat) : Int) = x.2.1 by omega, e1, e3];exact hx
 ·rintro ⟨l, hx, hs⟩
  have hms := hJ _ hx;rw [arcOf_at hs] at hms;obtain ⟨k, h1, h2⟩ := idxZ_get hms;refine ⟨k, ⟨arcOf ls (f, (l : Int), t), List.mem_map.2 ⟨_, hx, rfl⟩, ?_⟩, h2⟩;rw [arcOf_at hs];unfold arcD;simp only at h1 ⊢;rw [h1]
def labsA (rs : List Arc) : List ByteArray := rs.map (·.2.1)
def usdL (ls : List ByteArray) (es : List Ed) : List ByteArray := joiF (labsA (es.map (arcOf ls)))
def usdE (ls : List ByteArray) (es : List Ed) : List Ed := ltsEs (labsA (es.map (arcOf ls))) (es.map (arcOf ls))
section
variable {N ini : Nat} {ls : List ByteArray} {es : List Ed}
theorem usd_in : ∀ e, e ∈ es → (arcOf ls e).2.1 ∈ usdL ls es := fun e he => (joi_mem_iff _ _).2 (.inr (List.mem_map.2 ⟨_, List.mem_map.2 ⟨e, he, rfl⟩, rfl⟩))
theorem usd_tE (hl : ∀ e, e ∈ es → 0 ≤ e.2.1 ∧ e.2.1 < (ls.length : Int)) : tE (usdL ls es) (usdE ls es) = tE ls es := by
 funext x s y
 refine propext (Iff.trans ?_ (arc_stepU (J := usdL ls es) (f := (x : Int)) (t := (y : Int)) (s := s) usd_in hl));unfold tE nE usdE
 constructor
 ·rintro ⟨l, h, hs⟩; exact ⟨l, ltsEs_mem.1 h, hs⟩
 ·rintro ⟨l, h, hs⟩; exact ⟨l, ltsEs_mem.2 h, hs⟩
theorem usd_bis (hl : ∀ e, e ∈ es → 0 ≤ e.2.1 ∧ e.2.1 < (ls.length : Int)) : Bis (tE ls es) (tE (usdL ls es) (usdE ls es)) ini ini := by
 rw [usd_tE hl]; exact Bis.refl _ _
theorem usd_labs (hl : ∀ e, e ∈ es → 0 ≤ e.2.1 ∧ e.2.1 < (ls.length : Int)) : ∀ s, s ∈ labsA (es.map (arcOf ls)) → s ∈ ls := fun s hs => by
 obtain ⟨a, ha, rfl⟩ := List.mem_map.1 hs;obtain ⟨e, he, rfl⟩ := List.mem_map.1 ha;exact arcOf_mem (hl e he)
theorem usd_valid (hv : ltsV ((N : Int), (ini : Int), ls, es) = true) (hn : ls.length ≤ 11) : ltsV ((N : Int), (ini : Int), usdL ls es, usdE ls es) = true := by
 have hl := fun e he => ((ltsV_edge hv).1 e he).2.1
 have hnm := ltsV_names hv;have h1 := usd_labs hl;have h2 : (usdL ls es).length ≤ (joiF ls).length := joiF_sub fun s hs => .inr (h1 s hs)
 have h3 := joiF_len ls;have h4 := ltsEs_len (labsA (es.map (arcOf ls))) (es.map (arcOf ls));rw [List.length_map] at h4;have h5 := (ltsV_edge hv).2;refine ltsEs_valid (by omega) (by omega) (joi_names (fun x hx => names_lab hnm.1 x (h1 x hx)) (by unfold usdL at h2; omega)) (by have := hnm.2; omega) (fun a ha => ?_) fun a ha => ?_
 ·obtain ⟨e, he, rfl⟩ := List.mem_map.1 ha
  exact usd_in e he
 ·obtain ⟨e, he, rfl⟩ := List.mem_map.1 ha
  exact ⟨((ltsV_edge hv).1 e he).1, ((ltsV_edge hv).1 e he).2.2⟩
theorem usd_sz (hl : ∀ e, e ∈ es → 0 ≤ e.2.1 ∧ e.2.1 < (ls.length : Int)) (hn : NamD ls) : NamD (usdL ls es) := fun s hs => by
 rcases (joi_mem_iff _ _).1 hs with e | e
 ·exact .inl e
 ·exact hn s (usd_labs hl s e)
theorem rch_bis {R : List Int} (he : EdIn N es) (hR : R = reachF N es (ini : Int)) (hn : R.Nodup) (hini : ini < N) {iR : Nat} (hi : posZ R (ini : Int) = (iR : Int)) : Bis (tE ls es) (tE ls (partF R es)) ini iR := by
 have hat := (posZ_at hn).1 hi;exact bis_tE (part_bis (es := es) (es2 := partF R es) (partF_part hn) (fun a l b ha hm => by rw [hR] at ha ⊢; exact reach_closed he a l b ha hm) hn (fun a ha => by
  rw [hR] at ha;obtain ⟨k, rfl, -⟩ := reach_mem.1 ha
  omega) hat)
end
theorem nam_tot {l : List ByteArray} (h : NamD l) : (l.map (·.size)).sum ≤ 6 * l.length := by
 induction l with
 | nil => simp
 | cons x l ih =>
  have h1 := ih fun y hy => h y (List.mem_cons_of_mem _ hy)
  have h2 : x.size ≤ 6 := by
   rcases h x (List.mem_cons_self ..) with e | e
   ·rw [e]; decide
   ·unfold nm5 at e
    simp only [List.mem_cons, List.mem_nil_iff, or_false] at e
    rcases e with rfl | rfl | rfl | rfl | rfl <;> decide
  simp only [List.map_cons, List.sum_cons, List.length_cons];omega
end Go.Proofs.YtnhomkmfbngmgaaGreatDoor
