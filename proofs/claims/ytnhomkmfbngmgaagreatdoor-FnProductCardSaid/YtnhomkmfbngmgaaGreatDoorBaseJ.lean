/-
  Lemmas that the law of this claim leans on. Conditions: sizes.
-/
import Derived.Test.YtnhomkmfbngmgaaGreatDoorBaseA
import Derived.Test.YtnhomkmfbngmgaaGreatDoorBaseB
import Derived.Test.YtnhomkmfbngmgaaGreatDoorBaseC
import Derived.Test.YtnhomkmfbngmgaaGreatDoorBaseD
import Derived.Test.YtnhomkmfbngmgaaGreatDoorBaseE
import Derived.Test.YtnhomkmfbngmgaaGreatDoorBaseG
import Derived.Test.YtnhomkmfbngmgaaGreatDoorBaseI
import Derived.Deep.LoopGhost
import Derived.Deep.RegionLaw
import Derived.StillTailTactics
import Derived.Outline
import Derived.WalkSpells
import Derived.Laws.CopyOwn
import Derived.Laws.Bits64b
set_option maxHeartbeats 6400000
set_option maxRecDepth 100000
set_option linter.unusedSimpArgs false
set_option linter.unusedVariables false
namespace Go.Proofs.YtnhomkmfbngmgaaGreatDoor
open Go.ChangeShapes Go.WideShapes Go.ChangeAt Go.RowKit Go.Sort
section
variable {α : Type} {size : Nat} {f : α → List Value} {w w' : World} {base n c : Nat} {e : TypeId} {A : Option Addr} {l : List α}
theorem Own.typedT (h : Own size f w base e A n c l) {g : Nat} (hg : (Value.slice A n c).ownBlock = some g) : base ≤ g ∧ g < w.heap.size ∧ ∃ cur, w.heap[g]? = some (.cells cur e (0, 0)) := by
 refine ⟨(h.lt g hg).1, (h.lt g hg).2, ?_⟩
 rcases h.2.2 with ⟨hv, _⟩ | ⟨b, cap, cur, hv, _, hb, _⟩
 ·rw [hv] at hg; cases hg
 ·rw [hv] at hg
  obtain rfl : b = g := by injection hg
  exact ⟨cur, hb⟩
theorem Own.otherT (h : Own size f w base e A n c l) {b : Nat} {cur : Array Value} {t : TypeId} {z : Nat × Nat} (hb : w.heap[b]? = some (.cells cur t z)) (ht : t ≠ e) : some b ≠ (Value.slice A n c).ownBlock := fun e1 => by
 obtain ⟨-, -, cu, h1⟩ := h.typedT e1.symm;rw [hb] at h1;injection h1 with h1;injection h1 with _ h1;exact ht h1
theorem grown_blockT {row : Option Nat} (hg : w.grownBy w' row) {b : Nat} {o : Obj} (hb : w.heap[b]? = some o) (hne : some b ≠ row) : w'.heap[b]? = some o :=
 (hg.block b (Array.getElem?_eq_some_iff.1 hb).1 hne).trans hb
end
structure RowsB (w : World) (base : Nat) (A : Option Addr) (n c : Nat) (H : List (Hd × List Bool)) : Prop where
 own : Own 1 sv w base 135 A n c (H.map (·.1))
 rows : ∀ r ∈ H, Own 1 bv w base 4 r.1.1 r.1.2.1 r.1.2.2 r.2
section
variable {w w' : World} {base n c : Nat} {A : Option Addr} {H : List (Hd × List Bool)}
theorem RowsB.len (h : RowsB w base A n c H) : H.length = n := by have := h.own.1; rwa [List.length_map] at this
theorem RowsB.kept (h : RowsB w base A n c H) (hk : ∀ b, b < w.heap.size → w'.heap[b]? = w.heap[b]?) : RowsB w' base A n c H :=
 ⟨h.own.keep fun g hg => hk g (h.own.lt g hg).2, fun r hr => (h.rows r hr).keep fun g hg => hk g ((h.rows r hr).lt g hg).2⟩
theorem RowsB.below (h : RowsB w base A n c H) (hb : Below w.heap.size w w') : RowsB w' base A n c H := h.kept hb.block
theorem RowsB.lower {base' : Nat} (h : RowsB w base A n c H) (hb : base' ≤ base) : RowsB w base' A n c H := ⟨h.own.lower hb, fun r hr => (h.rows r hr).lower hb⟩
theorem RowsB.set (h : RowsB w base A n c H) {p : Addr} {cur : Array Value} {t : TypeId} {z : Nat × Nat} (hb : w.heap[p.block]? = some (.cells cur t z)) (h1 : t ≠ 135) (h2 : t ≠ 4) (u : Value) : RowsB (w.setCell p u) base A n c H :=
 ⟨h.own.keep fun g hg => Below.heap_setCell _ _ _ _ fun e => h.own.otherT hb h1 (by rw [hg, e]), fun r hr => (h.rows r hr).keep fun g hg => Below.heap_setCell _ _ _ _ fun e => (h.rows r hr).otherT hb h2 (by rw [hg, e])⟩
theorem RowsB.push (h : RowsB w base A n c H) {r : Hd × List Bool} (hr : Own 1 bv w base 4 r.1.1 r.1.2.1 r.1.2.2 r.2) {A' : Option Addr} {c' : Nat} (ho : Own 1 sv w' base 135 A' (n + 1) c' (H.map (·.1) ++ [r.1])) (hg : w.grownBy w' (Value.slice A n c).ownBlock) : RowsB w' base A' (n + 1) c' (H ++ [r]) :=
 ⟨by rw [List.map_append]; exact ho, fun x hx => by
  rcases List.mem_append.1 hx with hx | hx
  ·exact (h.rows x hx).kept hg ((h.rows x hx).apart h.own (by decide))
  ·rw [List.mem_singleton.1 hx]
   exact hr.kept hg (hr.apart h.own (by decide))⟩
theorem RowsB.at_ (h : RowsB w base A n c H) {k : Nat} {l : List Bool} (hk : (H.map (·.2))[k]? = some l) : ∃ b off Ah nh ch, A = some ⟨b, off, none⟩ ∧ base ≤ b ∧ b < w.heap.size ∧ k < n ∧ w.cell? ⟨b, off + k, none⟩ = some (.slice Ah nh ch) ∧ Own 1 bv w base 4 Ah nh ch l := by
 rw [List.getElem?_map] at hk;obtain ⟨⟨⟨Ah, nh, ch⟩, l'⟩, hr, e⟩ := Option.map_eq_some_iff.1 hk;have e : l' = l := e;subst e;have hlt : k < n := by rw [← h.len]; exact (List.getElem?_eq_some_iff.1 hr).1
 obtain ⟨b, off, e1, g1, -, g3, hc⟩ := (h.own.sl flat_sv).at_ (by omega);have h0 := hc k (Ah, nh, ch) (by rw [List.getElem?_map, hr]; rfl) 0 _ rfl;simp only [Nat.mul_one, Nat.add_zero] at h0;exact ⟨b, off, Ah, nh, ch, e1, g1, g3, hlt, h0.1, h.rows _ (List.mem_of_getElem? hr)⟩
theorem RowsB.get (h : RowsB w base A n c H) {m p : Nat} {S : Rel2} (hM : H.map (·.2) = tabR m p S) {x y : Nat} (hx : x < m) (hy : y < p) :
  ∃ b off b2 off2 c2 v, A = some ⟨b, off, none⟩ ∧ b < w.heap.size ∧ b2 < w.heap.size ∧ x < n ∧ w.cell? ⟨b, off + x, none⟩ = some (.slice (some ⟨b2, off2, none⟩) p c2) ∧ w.cell? ⟨b2, off2 + y, none⟩ = some (.bool v) ∧ (v = true ↔ S (x : Int) (y : Int)) := by
 have hk : (H.map (·.2))[x]? = some (rowR2 p S x) := by rw [hM]; exact tabR_get hx
 obtain ⟨b, off, Ah, nh, ch, e1, g1, g3, hlt, hc, ho⟩ := h.at_ hk;have hn : nh = p := by rw [← ho.len, rowR2_len]
 subst hn;obtain ⟨b2, off2, e2, -, -, g5, hv, hc2, -⟩ := SlB.get (ho.sl flat_bv) hy;subst e2;rw [rowR2_get hy] at hv;refine ⟨b, off, b2, off2, ch, _, e1, g3, g5, hlt, hc, hc2, ?_⟩;rw [← Option.some.inj hv];exact @decide_eq_true_iff _ (Classical.propDecidable _)
end
section
variable {w w' : World} {base bt ba bb n c : Nat} {K : Int} {A : Option Addr} {H : List (Hd × List Bool)}
end
structure OnlS (w wr : World) (s0 s1 : Int) (A2 : Option Addr) (n2 k2 : Nat) (A : Option Addr) (m c : Nat) (l : List Ed) : Prop where
 kR : wr.heap[w.heap.size + 1]? = some (.cells #[.int .i64 0, .int .i64 0, .slice none 0 0, .slice none 0 0] 27 (0, 0))
 kO : wr.heap[w.heap.size + 1 + 1]? = some (.cells #[.int .i64 s0, .int .i64 s1, .slice A2 n2 k2, .slice A m c] 27 (0, 0))
 own : Own 3 ev wr w.heap.size 84 A m c l
 bel : Below w.heap.size w wr
theorem OnlS.below {w wr wx : World} {s0 s1 : Int} {A2 : Option Addr} {n2 k2 : Nat} {A : Option Addr} {m c : Nat} {l : List Ed} (h : OnlS w wr s0 s1 A2 n2 k2 A m c l) (hb : Below wr.heap.size wr wx) : OnlS w wx s0 s1 A2 n2 k2 A m c l :=
 ⟨(hb.block _ (Array.getElem?_eq_some_iff.1 h.kR).1).trans h.kR, (hb.block _ (Array.getElem?_eq_some_iff.1 h.kO).1).trans h.kO, h.own.below hb zR, h.bel.trans (hb.mono h.bel.size)⟩
theorem OnlS.mid {w wr wx : World} {s0 s1 : Int} {A2 : Option Addr} {n2 k2 : Nat} {A : Option Addr} {m c : Nat} {l : List Ed} (h : OnlS w wr s0 s1 A2 n2 k2 A m c l) {o : Obj} (hg : (wr.alloc o).grownBy wx (Value.slice A m c).ownBlock) : wx.heap[w.heap.size + 1 + 1]? = some (.cells #[.int .i64 s0, .int .i64 s1, .slice A2 n2 k2, .slice A m c] 27 (0, 0)) :=
 grown_blockT hg ((Below.heap_alloc _ _ _ (Array.getElem?_eq_some_iff.1 h.kO).1).trans h.kO) (h.own.otherT h.kO (by decide))
theorem OnlS.next {w wr wx : World} {s0 s1 : Int} {A2 : Option Addr} {n2 k2 : Nat} {A : Option Addr} {m c : Nat} {l : List Ed} (h : OnlS w wr s0 s1 A2 n2 k2 A m c l) {o : Obj} (hg : (wr.alloc o).grownBy wx (Value.slice A m c).ownBlock) (hb : Below w.heap.size (wr.alloc o) wx)
  {A' : Option Addr} {c' : Nat} {l' : List Ed} (ho : Own 3 ev wx w.heap.size 84 A' (m + 1) c' l') : OnlS w (wx.setCell ⟨w.heap.size + 1 + 1, 3, none⟩ (.slice A' (m + 1) c')) s0 s1 A2 n2 k2 A' (m + 1) c' l' := by
 have k1 := h.mid hg;have k2 := grown_blockT hg ((Below.heap_alloc _ _ _ (Array.getElem?_eq_some_iff.1 h.kR).1).trans h.kR) (h.own.otherT h.kR (by decide));refine ⟨(Below.heap_setCell _ _ _ _ (by show _ ≠ w.heap.size + 1 + 1; omega)).trans k2, heap_setCell_same _ _ 3 _ _ _ k1, ?_, ?_⟩
 ·exact ho.keep fun g hg' => Below.heap_setCell _ _ _ _ fun e => ho.otherT k1 (by decide) (by rw [hg']; exact congrArg some e.symm)
 ·exact ((h.bel.alloc h.bel.size o).trans hb).setCell (by show w.heap.size ≤ w.heap.size + 1 + 1; omega) _
end Go.Proofs.YtnhomkmfbngmgaaGreatDoor
namespace Go.Proofs.YtnhomkmfbngmgaaGreatDoor
inductive StarR (R : Nat → Nat → Prop) : Nat → Nat → Prop
 | refl (x : Nat) : StarR R x x
 | step {x y z : Nat} : R x y → StarR R y z → StarR R x z
theorem StarR.trans {R : Nat → Nat → Prop} {x y z : Nat} (h : StarR R x y) (g : StarR R y z) : StarR R x z := by
 induction h with
 | refl => exact g
 | step e _ ih => exact .step e (ih g)
theorem StarR.snoc {R : Nat → Nat → Prop} {x y z : Nat} (h : StarR R x y) (g : R y z) : StarR R x z := h.trans (.step g (.refl z))
theorem StarR.mono {R S : Nat → Nat → Prop} (hs : ∀ x y, R x y → S x y) {x y : Nat} (h : StarR R x y) : StarR S x y := by
 induction h with
 | refl => exact .refl _
 | step e _ ih => exact .step (hs _ _ e) ih
def Dvg (R : Nat → Nat → Prop) (x : Nat) : Prop := ∃ D : Nat → Prop, D x ∧ ∀ y, D y → ∃ z, R y z ∧ D z
theorem Dvg.next {R : Nat → Nat → Prop} {x : Nat} (h : Dvg R x) : ∃ y, R x y ∧ Dvg R y := by
 obtain ⟨D, h1, h2⟩ := h;obtain ⟨y, g1, g2⟩ := h2 x h1;exact ⟨y, g1, D, g2, h2⟩
theorem Dvg.mono {R S : Nat → Nat → Prop} (hs : ∀ x y, R x y → S x y) {x : Nat} (h : Dvg R x) : Dvg S x := by
 obtain ⟨D, h1, h2⟩ := h;refine ⟨D, h1, fun y hy => ?_⟩;obtain ⟨z, g1, g2⟩ := h2 y hy;exact ⟨z, hs _ _ g1, g2⟩
section
variable {L α β : Type} {E : Nat → L → Nat → Prop} {τ : L} {d : Prop} {q : Nat → α} {p : Nat → β} {x y : Nat} {l : L}
def inrt (E : Nat → L → Nat → Prop) (τ : L) (q : Nat → α) (x y : Nat) : Prop := E x τ y ∧ q x = q y
def offr (E : Nat → L → Nat → Prop) (τ : L) (q : Nat → α) (x : Nat) (l : L) (b : α) : Prop := ∃ x' x'', StarR (inrt E τ q) x x' ∧ E x' l x'' ∧ q x'' = b ∧ ¬ (l = τ ∧ q x' = q x'')
structure Stb (E : Nat → L → Nat → Prop) (τ : L) (d : Prop) (q : Nat → α) : Prop where
 off : ∀ x y l b, q x = q y → offr E τ q x l b → offr E τ q y l b
 dvg : d → ∀ x y, q x = q y → Dvg (inrt E τ q) x → Dvg (inrt E τ q) y
theorem star_same (h : StarR (inrt E τ q) x y) : q x = q y := by
 induction h with
 | refl => rfl
 | step e _ ih => exact e.2.trans ih
theorem inrt_mono (hf : ∀ x y, q x = q y → p x = p y) (x y : Nat) (h : inrt E τ q x y) : inrt E τ p x y := ⟨h.1, hf _ _ h.2⟩
theorem Stb.one (h : Stb E τ d q) (hf : ∀ x y, q x = q y → p x = p y) {x' : Nat} (hq : q x = q y) (hs : inrt E τ p x x') : ∃ y', StarR (inrt E τ p) y y' ∧ q x' = q y' := by
 by_cases e : q x = q x'
 ·exact ⟨y, .refl _, e ▸ hq⟩
 ·obtain ⟨y1, y2, g1, g2, g3, -⟩ := h.off x y τ (q x') hq ⟨x, x', .refl _, hs.1, rfl, fun h => e h.2⟩
  exact ⟨y2, (g1.mono (inrt_mono hf)).snoc ⟨g2, by rw [← hf _ _ (star_same g1), ← hf _ _ hq, hf _ _ g3]; exact hs.2⟩, g3.symm⟩
end
section
variable {L α : Type} {E M : Nat → L → Nat → Prop} {τ : L} {d : Prop} {P : Nat → Nat} {x y : Nat} {l : L}
def QuoB (E M : Nat → L → Nat → Prop) (τ : L) (d : Prop) (P : Nat → Nat) : Prop :=
 ∀ b l c, M b l c ↔ (∃ x x', E x l x' ∧ P x = b ∧ P x' = c ∧ ¬ (l = τ ∧ P x = P x')) ∨ (d ∧ l = τ ∧ b = c ∧ ∃ x, P x = b ∧ Dvg (inrt E τ P) x)
variable {pm : Nat → α}
theorem star_up (hM : QuoB E M τ d P) (h : StarR (inrt E τ fun x => pm (P x)) x y) : StarR (inrt M τ pm) (P x) (P y) := by
 induction h with
 | refl => exact .refl _
 | @step x y z e _ ih =>
  by_cases c : P x = P y
  ·rw [c]; exact ih
  ·exact .step ⟨(hM _ _ _).2 (.inl ⟨x, y, e.1, rfl, rfl, fun h => c h.2⟩), e.2⟩ ih
theorem one_down (h : Stb E τ d P) (hM : QuoB E M τ d P) {b c : Nat} (hs : M b l c) (hn : ¬ (l = τ ∧ b = c)) (hx : P x = b) : ∃ x1 x2, StarR (inrt E τ P) x x1 ∧ E x1 l x2 ∧ P x2 = c := by
 rcases (hM _ _ _).1 hs with ⟨u, u', k1, k2, k3, k4⟩ | ⟨_, k1, k2, _⟩
 ·obtain ⟨x1, x2, g1, g2, g3, -⟩ := h.off u x l c (by rw [k2, hx]) ⟨u, u', .refl _, k1, k3, k4⟩
  exact ⟨x1, x2, g1, g2, g3⟩
 ·exact absurd ⟨k1, k2⟩ hn
theorem inrt_comp (pm : Nat → α) (x y : Nat) (h : inrt E τ P x y) : inrt E τ (fun x => pm (P x)) x y := ⟨h.1, congrArg pm h.2⟩
theorem star_down (h : Stb E τ d P) (hM : QuoB E M τ d P) {b c : Nat} (hs : StarR (inrt M τ pm) b c) : ∀ {x : Nat}, P x = b → ∃ x', StarR (inrt E τ fun x => pm (P x)) x x' ∧ P x' = c := by
 induction hs with
 | refl => intro x hx; exact ⟨x, .refl _, hx⟩
 | @step b b' c e _ ih =>
  intro x hx
  by_cases hb : b = b'
  ·exact ih (by rw [hx, hb])
  ·obtain ⟨x1, x2, g1, g2, g3⟩ := one_down h hM e.1 (fun h => hb h.2) hx
   obtain ⟨x3, k1, k2⟩ := ih g3;refine ⟨x3, ((g1.mono (inrt_comp pm)).snoc ⟨g2, ?_⟩).trans k1, k2⟩
   show pm (P x1) = pm (P x2)
   rw [← star_same g1, hx, g3]; exact e.2
end
section
variable {L α β : Type} {E U : Nat → L → Nat → Prop} {τ : L} {d : Prop} {P : Nat → β} {q : Nat → α} {f : Nat → Nat} {g : β → α} {i j : Nat} {l : L}
structure Emb (E U : Nat → L → Nat → Prop) (f : Nat → Nat) : Prop where
 up : ∀ i l j, E i l j → U (f i) l (f j)
 down : ∀ i l y, U (f i) l y → ∃ j, y = f j ∧ E i l j
theorem Emb.inrt_up (h : Emb E U f) (hq : ∀ i, q (f i) = g (P i)) (e : inrt E τ P i j) : inrt U τ q (f i) (f j) := ⟨h.up _ _ _ e.1, by rw [hq, hq, e.2]⟩
theorem Emb.star_up (h : Emb E U f) (hq : ∀ i, q (f i) = g (P i)) (e : StarR (inrt E τ P) i j) : StarR (inrt U τ q) (f i) (f j) := by
 induction e with
 | refl => exact .refl _
 | step e _ ih => exact .step (h.inrt_up hq e) ih
theorem Emb.inrt_down (h : Emb E U f) (hq : ∀ i, q (f i) = g (P i)) (hg : ∀ a b, g a = g b → a = b) {y : Nat} (e : inrt U τ q (f i) y) : ∃ j, y = f j ∧ inrt E τ P i j := by
 obtain ⟨j, rfl, k⟩ := h.down _ _ _ e.1;refine ⟨j, rfl, k, hg _ _ ?_⟩;rw [← hq, ← hq]; exact e.2
theorem Emb.star_down (h : Emb E U f) (hq : ∀ i, q (f i) = g (P i)) (hg : ∀ a b, g a = g b → a = b) {u v : Nat} (e : StarR (inrt U τ q) u v) : ∀ {i : Nat}, u = f i → ∃ j, v = f j ∧ StarR (inrt E τ P) i j := by
 induction e with
 | refl => intro i hi; exact ⟨i, hi, .refl _⟩
 | step e _ ih =>
  intro i hi;subst hi;obtain ⟨j, rfl, k⟩ := h.inrt_down hq hg e;obtain ⟨m, rfl, k2⟩ := ih rfl;exact ⟨m, rfl, .step k k2⟩
theorem Emb.off (h : Emb E U f) (hq : ∀ i, q (f i) = g (P i)) (hg : ∀ a b, g a = g b → a = b) {b : α} : offr U τ q (f i) l b ↔ ∃ c, b = g c ∧ offr E τ P i l c := by
 constructor
 ·rintro ⟨x1, x2, g1, g2, g3, g4⟩
  obtain ⟨j, rfl, k⟩ := h.star_down hq hg g1 rfl;obtain ⟨m, rfl, k2⟩ := h.down _ _ _ g2;exact ⟨P m, by rw [← g3, hq], j, m, k, k2, rfl, fun e => g4 ⟨e.1, by rw [hq, hq, e.2]⟩⟩
 ·rintro ⟨c, rfl, j, m, k1, k2, k3, k4⟩
  exact ⟨f j, f m, h.star_up hq k1, h.up _ _ _ k2, by rw [hq, k3], fun e => k4 ⟨e.1, hg _ _ (by rw [← hq, ← hq]; exact e.2)⟩⟩
end
def itP (g : List Int → List Int) (N : Nat) : Nat → List Int
 | 0 => zeroP N
 | n + 1 => g (itP g N n)
def LastG (g : List Int → List Int) (N r : Nat) : Prop := itP g N (r + 1) = itP g N r ∧ ∀ m, m < r → itP g N (m + 1) ≠ itP g N m
section
variable {g : List Int → List Int} {N r s : Nat}
end
section
variable {es : List Ed} {N r : Nat}
end
open Go.Sort
def pq (p : List Int) (x : Nat) : Option Int := p[x]?
def inrE (es : List Ed) (p : List Int) : Nat → Nat → Prop := inrt (nE es) (0 : Int) (pq p)
open Classical in
noncomputable def offL (es : List Ed) (N : Nat) (p : List Int) (k : Nat) : List Int := (es.filter fun e => decide (StarR (inrE es p) k e.1.toNat ∧ ¬ (e.2.1 = 0 ∧ pq p e.1.toNat = pq p e.2.2.toNat))).map (cdE N p)
open Classical in
noncomputable def dvgI (es : List Ed) (d : Bool) (p : List Int) (k : Nat) : Int := if d = true ∧ Dvg (inrE es p) k then 1 else 0
noncomputable def keyB (es : List Ed) (N : Nat) (d : Bool) (p : List Int) (k : Nat) : List Int := [(p[k]?).getD 0, dvgI es d p k] ++ Lib.compact (sortI (offL es N p k))
noncomputable def refB (es : List Ed) (N : Nat) (d : Bool) (p : List Int) : List Int := nkF ((List.range N).map (keyB es N d p))
section
variable {es : List Ed} {N : Nat} {p : List Int} {d : Bool}
end
open Go.ChangeAt Go.ChangeShapes Go.Lib Go.RowKit Go.WideShapes
structure MinW (wb w : World) (J : List ByteArray) (R : List Int) (E : List Ed) (g : Option Nat) (r : Option (Option Addr × Nat)) (q : Option ((Option Addr × Nat × Nat) × (Option Addr × Nat × Nat))) : Prop where
 below : Below wb.heap.size wb w
 box : ∀ b, g = some b → wb.heap.size ≤ b ∧ LtsBox w b 0 0 none 0 0 none 0 0
 rch : ∀ h, r = some h → SlI w 0 w.heap.size h.1 h.2 R
 prt : ∀ h, q = some h → ∃ lo hi, SlS w lo hi h.1.1 h.1.2.1 J ∧ SlE w lo hi h.2.1 h.2.2.1 E ∧ wb.heap.size ≤ lo ∧ hi ≤ w.heap.size ∧ ∀ b, g = some b → b < lo ∨ hi ≤ b
section
variable {wb w w' : World} {J : List ByteArray} {R : List Int} {E : List Ed} {g : Option Nat} {r : Option (Option Addr × Nat)} {q : Option ((Option Addr × Nat × Nat) × (Option Addr × Nat × Nat))}
theorem MinW.start (wb : World) (J : List ByteArray) (R : List Int) (E : List Ed) : MinW wb wb J R E none none none := ⟨bR, fun b e => (by cases e), fun h e => (by cases e), fun h e => (by cases e)⟩
theorem MinW.keep (h : MinW wb w J R E g r q) (hb : Below w.heap.size w w') : MinW wb w' J R E g r q where
 below := h.below.trans (hb.mono h.below.size)
 box := fun b e => ⟨(h.box b e).1, (h.box b e).2.below hb (h.box b e).2.lt⟩
 rch := fun k e => ((h.rch k e).below hb (.inr zR)).here'
 prt := fun k e => by
  obtain ⟨lo, hi, h1, h2, h3, h4, h5⟩ := h.prt k e;exact ⟨lo, hi, h1.below hb (.inl h4), h2.below hb (.inl h4), h3, Nat.le_trans h4 hb.size, h5⟩
theorem MinW.drew (h : MinW wb w J R E g r q) : MinW wb w.drew J R E g r q := h.keep bR.drew
theorem MinW.alloc (h : MinW wb w J R E none r q) : MinW wb (w.alloc (.cells #[.int .i64 0, .int .i64 0, .slice none 0 0, .slice none 0 0] 27)) J R E (some w.heap.size) r q := by
 have hb : Below w.heap.size w (w.alloc (.cells #[.int .i64 0, .int .i64 0, .slice none 0 0, .slice none 0 0] 27)) := bR.alloc zR _;have h1 := h.keep hb;refine ⟨h1.below, fun b e => ?_, h1.rch, fun k e => ?_⟩
 ·cases e
  exact ⟨h.below.size, heap_alloc_new w _⟩
 ·obtain ⟨lo, hi, g1, g2, g3, g4, g5⟩ := h.prt k e
  exact ⟨lo, hi, g1.below hb (.inl g4), g2.below hb (.inl g4), g3, Nat.le_trans g4 hb.size, fun b e2 => by cases e2; exact .inr g4⟩
structure MinF (wb wf : World) (J : List ByteArray) (E : List Ed) (b : Nat) (s i : Int) (A : Option Addr) (n c : Nat) (B : Option Addr) (m d : Nat) : Prop where
 below : Below wb.heap.size wb wf
 box : LtsBox wf b s i A n c B m d
 base : wb.heap.size ≤ b
 ss : SlS wf 0 wf.heap.size A n J
 se : SlE wf 0 wf.heap.size B m E
theorem MinW.fill {A B : Option Addr} {n c m d b : Nat} (h : MinW wb w J R E (some b) r (some ((A, n, c), (B, m, d)))) (s i : Int) :
  MinF wb ((((w.setCell ⟨b, 0, none⟩ (.int .i64 s)).setCell ⟨b, 1, none⟩ (.int .i64 i)).setCell ⟨b, 2, none⟩ (.slice A n c)).setCell ⟨b, 3, none⟩ (.slice B m d)) J E b s i A n c B m d := by
 obtain ⟨hg, hx⟩ := h.box b rfl;obtain ⟨lo, hi, g1, g2, g3, g4, g5⟩ := h.prt _ rfl;have g5 := g5 b rfl;have x0 : (w.setCell ⟨b, 0, none⟩ (.int .i64 s)).heap[b]? = _ := heap_setCell_same w b 0 _ _ _ hx;have x1 := heap_setCell_same _ b 1 _ _ (.int .i64 i) x0;have x2 := heap_setCell_same _ b 2 _ _ (.slice A n c) x1;have x3 := heap_setCell_same _ b 3 _ _ (.slice B m d) x2;have o1 := (Only.refl b (b + 1) w).setCell (p := ⟨b, 0, none⟩) zR (Nat.lt_succ_self _) (.int .i64 s);have o2 := o1.setCell (p := ⟨b, 1, none⟩) zR (Nat.lt_succ_self _) (.int .i64 i);have o3 := o2.setCell (p := ⟨b, 2, none⟩) zR (Nat.lt_succ_self _) (.slice A n c);have o4 := o3.setCell (p := ⟨b, 3, none⟩) zR (Nat.lt_succ_self _) (.slice B m d);exact ⟨Only.below h.below o4 hg h.below.size, x3, hg, (g1.only o4 (by omega)).here', (g2.only o4 (by omega)).here'⟩
end
theorem results_cs {fn : Func} {p q : Tmp} {ty : TypeId} (h : fn.results = #[.cell p ty, .tmp q]) (tmps : Array Value) (P : Program) (w : World) :
  (results fn tmps).run P w = ((asAddr (tmps.getD p undef)).run P w).andThen fun a w₁ => ((loadVar ty a).run P w₁).andThen fun v w₂ => .ok (.tuple #[v, tmps.getD q undef]) w₂ := by
 simp only [results, h]
 simp [Sem.run_bind, Result.andThen]
end Go.Proofs.YtnhomkmfbngmgaaGreatDoor
namespace Go.Proofs.YtnhomkmfbngmgaaGreatDoor
open Go.ChangeShapes Go.WideShapes Go.ChangeAt Go.RowKit Go.Sort
def inG (p : List Int) (e : Ed) : Bool := decide (e.2.1 = 0) && decide (p[e.1.toNat]? = p[e.2.2.toNat]?)
def tauE (es : List Ed) (x y : Nat) : Prop := nE es x 0 y
open Classical in
noncomputable def dvgL (es : List Ed) (N : Nat) : List Bool := setOf N fun k => decide (Dvg (tauE es) k)
theorem inS_dvgL {es : List Ed} {N k : Nat} (hk : k < N) : inS (dvgL es N) k = true ↔ Dvg (tauE es) k := by
 unfold dvgL;rw [inS_setOf]
 simp [hk]
theorem numBR_off {s : List Bool} {v : Nat} (hv : v < s.length) (hs : inS s v = true) : numBR (s.set v false) + 1 = numBR s := by
 have h1 := numBR_set (s := s.set v false) (v := v) (by rw [List.length_set]; exact hv) (by rw [inS_set hv, if_pos rfl]);rw [List.set_set] at h1;have h2 : s.set v true = s := by
  refine List.ext_getElem (by simp) fun i h3 h4 => ?_
  rw [List.getElem_set]
  split
  ·rename_i e
   subst e;unfold inS at hs;rw [List.getElem?_eq_getElem hv] at hs;exact hs.symm
  ·rfl
 rw [h2] at h1;omega
structure DvO (N : Nat) (es : List Ed) (b : List Bool) (ag : Bool) : Prop where
 len : b.length = N
 sup : ∀ k, k < N → Dvg (tauE es) k → inS b k = true
 cls : ag = false → ∀ k, k < N → inS b k = true → ∃ t, tauE es k t ∧ inS b t = true
structure DvI (N : Nat) (es : List Ed) (b0 b : List Bool) (j : Nat) (ag : Bool) : Prop where
 len : b.length = N
 sup : ∀ k, k < N → Dvg (tauE es) k → inS b k = true
 same : ag = false → b = b0 ∧ ∀ k, k < j → inS b0 k = true → ∃ t, tauE es k t ∧ inS b0 t = true
 drop : ag = true → numBR b < numBR b0
theorem DvO.start (N : Nat) (es : List Ed) : DvO N es (List.replicate N true) true := ⟨by simp, fun k hk _ => by unfold inS; rw [List.getElem?_replicate, if_pos hk]; rfl, fun h => by cases h⟩
theorem DvO.begin {N : Nat} {es : List Ed} {b : List Bool} {ag : Bool} (h : DvO N es b ag) : DvI N es b b 0 false := ⟨h.len, h.sup, fun _ => ⟨rfl, fun k hk => absurd hk (Nat.not_lt_zero k)⟩, fun h => by cases h⟩
theorem DvI.done {N : Nat} {es : List Ed} {b0 b : List Bool} {ag : Bool} (h : DvI N es b0 b N ag) : DvO N es b ag := ⟨h.len, h.sup, fun e k hk hb => by
 obtain ⟨e1, e2⟩ := h.same e;rw [e1] at hb ⊢;exact e2 k hk hb⟩
theorem DvI.keep {N : Nat} {es : List Ed} {b0 b : List Bool} {j : Nat} {ag : Bool} (h : DvI N es b0 b j ag) (hj : inS b j = true → ∃ t, tauE es j t ∧ inS b t = true) : DvI N es b0 b (j + 1) ag := ⟨h.len, h.sup, fun e => by
 obtain ⟨e1, e2⟩ := h.same e;refine ⟨e1, fun k hk hb => ?_⟩
 by_cases c : k < j
 ·exact e2 k c hb
 ·obtain rfl : k = j := by omega
  rw [e1] at hj;exact hj hb, h.drop⟩
theorem DvI.off {N : Nat} {es : List Ed} {b0 b : List Bool} {j : Nat} {ag : Bool} (h : DvI N es b0 b j ag) (he : EdIn N es) (hj : j < N) (hb : inS b j = true) (hn : ¬ ∃ t, tauE es j t ∧ inS b t = true) : DvI N es b0 (b.set j false) (j + 1) true := by
 have hl : j < b.length := by rw [h.len]; exact hj
 refine ⟨by rw [List.length_set]; exact h.len, fun k hk hd => ?_, fun e => (by cases e), fun _ => ?_⟩
 ·rw [inS_set hl]
  split
  ·rename_i e
   subst e;obtain ⟨t, h1, h2⟩ := hd.next;exact absurd ⟨t, h1, h.sup t (nE_in he h1).2 h2⟩ hn
  ·exact h.sup k hk hd
 ·have h1 := numBR_off hl hb
  cases hag : ag with
  | true => have := h.drop hag; omega
  | false => rw [← (h.same hag).1]; omega
theorem DvO.last {N : Nat} {es : List Ed} {b : List Bool} (h : DvO N es b false) (he : EdIn N es) : b = dvgL es N := by
 have hD : ∀ k, k < N → (inS b k = true ↔ Dvg (tauE es) k) := fun k hk => ⟨fun hb => ⟨fun k => k < N ∧ inS b k = true, ⟨hk, hb⟩, fun k hk => by
  obtain ⟨t, h1, h2⟩ := h.cls rfl k hk.1 hk.2;exact ⟨t, h1, (nE_in he h1).2, h2⟩⟩, h.sup k hk⟩
 refine List.ext_getElem (by rw [h.len]; simp [dvgL, setOf]) fun i h1 h2 => ?_
 have hi : i < N := by rw [← h.len]; exact h1
 have e1 : inS b i = b[i] := by unfold inS; rw [List.getElem?_eq_getElem h1]; rfl
 have e2 : inS (dvgL es N) i = (dvgL es N)[i] := by unfold inS; rw [List.getElem?_eq_getElem h2]; rfl
 rw [← e1, ← e2];have := (hD i hi).trans (inS_dvgL hi).symm
 cases h3 : inS b i <;> cases h4 : inS (dvgL es N) i <;> simp [h3, h4] at this ⊢
structure DvW (w1 wr : World) (bO gA oA N cA : Nat) (b : List Bool) : Prop where
 row : SlB wr w1.heap.size wr.heap.size (some ⟨gA, oA, none⟩) N b
 box : wr.heap[bO]? = some (.cells #[.slice (some ⟨gA, oA, none⟩) N cA] 135 (0, 0))
 bel : Below w1.heap.size w1 wr
 ge : w1.heap.size ≤ bO
theorem DvW.below {w1 wr wx : World} {bO gA oA N cA : Nat} {b : List Bool} (h : DvW w1 wr bO gA oA N cA b) (hb : Below wr.heap.size wr wx) : DvW w1 wx bO gA oA N cA b :=
 ⟨(h.row.below hb (.inr zR)).more zR hb.size, (hb.block _ (Array.getElem?_eq_some_iff.1 h.box).1).trans h.box, h.bel.trans (hb.mono h.bel.size), h.ge⟩
theorem DvW.put {w1 wr : World} {bO gA oA N cA : Nat} {b : List Bool} (h : DvW w1 wr bO gA oA N cA b) {k : Nat} (hk : k < N) (hne : gA ≠ bO) (x : Bool) : DvW w1 (wr.setCell ⟨gA, oA + k, none⟩ (.bool x)) bO gA oA N cA (b.set k x) := by
 obtain ⟨-, -, g1, -, -⟩ := h.row.cell' hk;have hz : (wr.setCell ⟨gA, oA + k, none⟩ (.bool x)).heap.size = wr.heap.size := World.size_setCell _ _ _;exact ⟨by rw [hz]; exact h.row.put hk x, (Below.heap_setCell _ _ _ _ (by show bO ≠ gA; omega)).trans h.box, h.bel.setCell g1 _, h.ge⟩
end Go.Proofs.YtnhomkmfbngmgaaGreatDoor
namespace Go.Proofs.YtnhomkmfbngmgaaGreatDoor
theorem asc_one : ∀ {A B : List Int}, A.Pairwise (· < ·) → B.Pairwise (· < ·) → (∀ x, x ∈ A ↔ x ∈ B) → A = B
 | [], [], _, _, _ => rfl
 | [], b :: B, _, _, h => absurd ((h b).2 (List.mem_cons_self ..)) (List.not_mem_nil)
 | a :: A, [], _, _, h => absurd ((h a).1 (List.mem_cons_self ..)) (List.not_mem_nil)
 | a :: A, b :: B, hA, hB, h => by
  obtain ⟨ha, hA'⟩ := List.pairwise_cons.1 hA;obtain ⟨hb, hB'⟩ := List.pairwise_cons.1 hB;have e : a = b := by
   rcases List.mem_cons.1 ((h a).1 (List.mem_cons_self ..)) with e | h1
   ·exact e
   ·rcases List.mem_cons.1 ((h b).2 (List.mem_cons_self ..)) with e | h2
    ·exact e.symm
    ·have := hb a h1
     have := ha b h2;omega
  subst e
  congr 1
  refine asc_one hA' hB' fun x => ?_
  constructor
  ·intro hx
   rcases List.mem_cons.1 ((h x).1 (List.mem_cons_of_mem _ hx)) with rfl | g
   ·have := ha _ hx; omega
   ·exact g
  ·intro hx
   rcases List.mem_cons.1 ((h x).2 (List.mem_cons_of_mem _ hx)) with rfl | g
   ·have := hb _ hx; omega
   ·exact g
def putI (l : List Int) (n : Int) : List Int := (l.filter fun x => decide (x < n)) ++ n :: l.filter fun x => decide (n < x)
theorem putI_mem {l : List Int} {n x : Int} : x ∈ putI l n ↔ x ∈ l ∨ x = n := by
 unfold putI;rw [List.mem_append, List.mem_cons, List.mem_filter, List.mem_filter, decide_eq_true_eq, decide_eq_true_eq]
 constructor
 ·rintro (h | h | h)
  ·exact .inl h.1
  ·exact .inr h
  ·exact .inl h.1
 ·rintro (h | h)
  ·by_cases h1 : x < n
   ·exact .inl ⟨h, h1⟩
   ·by_cases h2 : n < x
    ·exact .inr (.inr ⟨h, h2⟩)
    ·exact .inr (.inl (by omega))
  ·exact .inr (.inl h)
theorem putI_asc {l : List Int} {n : Int} (h : l.Pairwise (· < ·)) : (putI l n).Pairwise (· < ·) := by
 refine List.pairwise_append.2 ⟨h.filter _, List.pairwise_cons.2 ⟨fun x hx => of_decide_eq_true (List.mem_filter.1 hx).2, h.filter _⟩, ?_⟩;intro a ha b hb;have h1 := of_decide_eq_true (List.mem_filter.1 ha).2
 rcases List.mem_cons.1 hb with rfl | hb
 ·exact h1
 ·have := of_decide_eq_true (List.mem_filter.1 hb).2
  omega
theorem putI_of {l k : List Int} {n : Int} (h : l.Pairwise (· < ·)) (hk : k.Pairwise (· < ·)) (hm : ∀ x, x ∈ k ↔ x ∈ l ∨ x = n) : putI l n = k :=
 asc_one (putI_asc h) hk fun x => by rw [putI_mem, hm]
def doneI (l : List Int) (n : Int) (i : Nat) : Bool := (l.take i).any fun x => decide (n ≤ x)
def outI (l : List Int) (n : Int) (i : Nat) : List Int := if doneI l n i then putI (l.take i) n else l.take i
section
variable {l : List Int} {n x : Int} {i : Nat}
theorem doneI_succ (hx : l[i]? = some x) : doneI l n (i + 1) = (doneI l n i || decide (n ≤ x)) := by
 unfold doneI;rw [List.take_add_one, hx, List.any_append]
 simp
theorem asc_snoc (h : l.Pairwise (· < ·)) (hx : l[i]? = some x) : ∀ y, y ∈ l.take i → y < x := by
 intro y hy;obtain ⟨hi, e⟩ := List.getElem?_eq_some_iff.1 hx;obtain ⟨j, hj, rfl⟩ := List.getElem_of_mem hy;rw [List.length_take] at hj;rw [List.getElem_take];have := List.pairwise_iff_getElem.1 h j i (by omega) hi (by omega);omega
theorem asc_take (h : l.Pairwise (· < ·)) (k : Nat) : (l.take k).Pairwise (· < ·) := h.sublist (List.take_sublist _ _)
theorem asc_app {k : List Int} (h : k.Pairwise (· < ·)) (hy : ∀ y, y ∈ k → y < x) : (k ++ [x]).Pairwise (· < ·) :=
 List.pairwise_append.2 ⟨h, by simp, fun a ha b hb => by rw [List.mem_singleton.1 hb]; exact hy a ha⟩
theorem outI_succ (h : l.Pairwise (· < ·)) (hx : l[i]? = some x) :
  outI l n (i + 1) = (if doneI l n i = false ∧ n ≤ x ∧ n < x then outI l n i ++ [n] else outI l n i) ++ [x] := by
 have ht : l.take (i + 1) = l.take i ++ [x] := by rw [List.take_add_one, hx]; rfl
 have hlt := asc_snoc h hx;have hta := asc_take h i;unfold outI;rw [doneI_succ hx]
 cases hd : doneI l n i with
 | true =>
  rw [Bool.true_or, if_pos rfl, if_neg (by simp), if_pos rfl];obtain ⟨y, hy, hyn⟩ := List.any_eq_true.1 hd;have hyn := of_decide_eq_true hyn;have hyx := hlt y hy;refine putI_of (asc_take h (i + 1)) (asc_app (putI_asc hta) fun z hz => ?_) fun z => ?_
  ·rcases putI_mem.1 hz with hz | rfl
   ·exact hlt z hz
   ·omega
  ·rw [ht]
   simp only [List.mem_append, List.mem_singleton, putI_mem]
   constructor
   ·rintro ((a | a) | a)
    ·exact .inl (.inl a)
    ·exact .inr a
    ·exact .inl (.inr a)
   ·rintro ((a | a) | a)
    ·exact .inl (.inl a)
    ·exact .inr a
    ·exact .inl (.inr a)
 | false =>
  rw [Bool.false_or, if_neg Bool.false_ne_true];have hall : ∀ y, y ∈ l.take i → y < n := fun y hy => by
   have := List.any_eq_false.1 hd y hy;rw [decide_eq_true_eq] at this;omega
  by_cases hn : n ≤ x
  ·rw [decide_eq_true hn, if_pos rfl]
   by_cases hnx : n < x
   ·rw [if_pos ⟨rfl, hn, hnx⟩]
    refine putI_of (asc_take h (i + 1)) (asc_app (asc_app hta hall) fun z hz => ?_) fun z => ?_
    ·rcases List.mem_append.1 hz with hz | hz
     ·exact hlt z hz
     ·rw [List.mem_singleton.1 hz]; exact hnx
    ·rw [ht]
     simp only [List.mem_append, List.mem_singleton]
     constructor
     ·rintro ((a | a) | a)
      ·exact .inl (.inl a)
      ·exact .inr a
      ·exact .inl (.inr a)
     ·rintro ((a | a) | a)
      ·exact .inl (.inl a)
      ·exact .inr a
      ·exact .inl (.inr a)
   ·rw [if_neg (by omega)]
    obtain rfl : n = x := by omega
    refine putI_of (asc_take h (i + 1)) (asc_app hta hlt) fun z => ?_
    rw [ht];simp only [List.mem_append, List.mem_singleton, or_assoc, or_self]
  ·rw [decide_eq_false hn, if_neg Bool.false_ne_true, if_neg (by omega), ht]
theorem outI_end (h : l.Pairwise (· < ·)) : (if doneI l n l.length then outI l n l.length else outI l n l.length ++ [n]) = putI l n := by
 unfold outI;rw [List.take_length]
 cases hd : doneI l n l.length with
 | true => rfl
 | false =>
  rw [if_neg Bool.false_ne_true, if_neg Bool.false_ne_true]
  symm
  refine putI_of h (asc_app h fun y hy => ?_) fun z => by simp
  unfold doneI at hd;rw [List.take_length] at hd;have := List.any_eq_false.1 hd y hy;rw [decide_eq_true_eq] at this;omega
end
open Go.ChangeAt Go.ChangeShapes Go.RowKit Go.WideShapes
theorem l00Put_calls (A : Option Addr) (n c : Nat) (l : List Int) (x : Int) (w : World) (lo hi : Nat) (h : SlI w lo hi A n l) (hasc : l.Pairwise (· < ·)) (hn : n ≤ 1048000) :
  Calls Tryz.prog 256 #[.slice A n c, .int .i64 x] w fun e w' => ∃ A' n' c', e = .returned (.slice A' n' c') ∧ Own 1 iv w' w.heap.size 2 A' n' c' (putI l x) ∧ n' ≤ n + 1 ∧ Below w.heap.size w w' := by
 have hE := hide elem_int64;have hlen := h.len;replace h := hide h.top;replace hasc := hide hasc;go_enter Tryz.func256, Tryz.ntmps256;go_wp2_with fail
 go_loopw [5, 6, 7] (fun v dn i wr => ∃ (k m : Nat) (Ao : Option Addr) (co : Nat), k ≤ n ∧ m ≤ k + 1 ∧ i = .int .i64 (k : Nat) ∧ v = .slice Ao m co ∧ dn = .bool (doneI l x k) ∧ Hid (Own 1 iv wr w.heap.size 2 Ao m co (outI l x k)) ∧ Below w.heap.size w wr) (fun _ _ i _ => n - (intOf i).toNat)
 case atStart => exact ⟨0, 0, _, 0, Nat.zero_le _, Nat.zero_le _, rfl, rfl, rfl, Own.made _ _ zR, bR.alloc zR _⟩
 case round =>
  obtain ⟨k, m, Ao, co, hk, hm, rfl, rfl, rfl, hown, hb⟩ := hrel
  by_cases hlt : k < n
  ·have hz := hb.size
   have hza : ∀ o, w.heap.size ≤ (wr.alloc o).heap.size := fun o => by rw [World.size_alloc]; omega
   obtain ⟨b, off, y, rfl, g1, g2, g3, hy, c0, -⟩ := SlI.get h.out hlt;replace c0 := (hb.cell (p := ⟨b, off + k, none⟩) g3).trans c0;have hd := doneI_succ (n := x) hy;have ho := outI_succ (n := x) hasc.out hy;have k0 : (0 : Int) ≤ (k : Int) := by omega
   have k1 : (k : Int) < (n : Int) := by omega
   replace hy := hide hy;replace hb := hide hb
   by_cases one : doneI l x k = false ∧ x < y
   ·obtain ⟨d0, hxy⟩ := one
    have hm2 : m ≤ k := by
     have h1 := hown.out.len;have h2 : outI l x k = l.take k := by unfold outI; rw [d0]; rfl
     rw [h2, List.length_take] at h1;omega
    have e1 : Hid (outI l x (k + 1) = outI l x k ++ [x] ++ [y]) := by show _ = _; rw [ho, if_pos ⟨d0, by omega, hxy⟩]
    have e2 : Hid (doneI l x (k + 1) = true) := by show _ = _; rw [hd, d0, decide_eq_true (show x ≤ y by omega)]; rfl
    have hge : decide (y ≥ x) = true := decide_eq_true (by omega);have hge2 : y ≥ x := by omega
    have hgt : y > x := hxy;rw [d0];clear hd ho d0;have c0a : ∀ o, (wr.alloc o).cell? ⟨b, off + k, none⟩ = some (.int .i64 y) := fun o => (((Below.refl wr.heap.size wr).alloc zR o).cell (p := ⟨b, off + k, none⟩) (by show b < wr.heap.size; omega)).trans c0
    have e4 := hide (show ∀ o, Below w.heap.size w (wr.alloc o) from fun o => hb.out.alloc hz o);go_wp2_with (first
     | (at_builtin; (with_reducible refine wpList_app rfl (.tmp 31) (.tmp 33) rfl hE.out flat_iv rfl (hown.out.alloc _) rfl (Sl.lit1' wr 2 x _ rfl 1 _ ?c0) ?c1 (hza _) ?_); rotate_right; intro A5 c5 w5 hown5 hgr5 hb5 _; have c5' := (hb5.cell (p := ⟨b, off + k, none⟩) g3).trans (c0a _); have hz5 := hb5.size; have hza5 : ∀ o, w.heap.size ≤ (w5.alloc o).heap.size := fun o => (by rw [World.size_alloc]; rw [World.size_alloc] at hz5; omega); have hz5' := Nat.le_trans (hza _) hz5; replace hown5 := hide hown5; replace hb5 := hide hb5; clear hgr5)
     | (at_builtin; (with_reducible refine wpList_app rfl (.tmp 35) (.tmp 40) rfl hE.out flat_iv rfl (hown5.out.alloc _) rfl (Sl.lit1' w5 2 y _ rfl 1 _ ?d0) ?d1 (hza5 _) ?_); rotate_right; intro A6 c6 w6 hown6 hgr6 hb6 _))
    case d0 => rfl
    case d1 => omega
    case c0 => rfl
    case c1 => omega
    have hb7 := hide ((e4.out _).trans (hb5.out.trans (bR.alloc hz5' _ |>.trans hb6)));rw [← e1.out] at hown6;go_roundw
    case rel => exact ⟨k + 1, m + 1 + 1, A6, c6, by omega, by omega, by go_num, rfl, by rw [e2.out], hown6, hb7.out⟩
    case measure => simp [intOf]; omega
   ·have e1 : Hid (outI l x (k + 1) = outI l x k ++ [y]) := by show _ = _; rw [ho, if_neg (fun c => one ⟨c.1, c.2.2⟩)]
    replace hd := hide hd;clear ho;have e4 := hide (show ∀ o, Below w.heap.size w (wr.alloc o) from fun o => hb.out.alloc hz o)
    cases d0 : doneI l x k with
    | true =>
     have e2 : Hid (doneI l x (k + 1) = true) := by show _ = _; rw [hd.out, d0]; rfl
     clear hd d0 one;go_wp2_with (first
      | (at_builtin; (with_reducible refine wpList_app rfl (.tmp 35) (.tmp 40) rfl hE.out flat_iv rfl (hown.out.alloc _) rfl (Sl.lit1' wr 2 y _ rfl 1 _ ?d0) ?d1 (hza _) ?_); rotate_right; intro A6 c6 w6 hown6 hgr6 hb6 _))
     case d0 => rfl
     case d1 => omega
     have hb7 := hide ((e4.out _).trans hb6);rw [← e1.out] at hown6;go_roundw
     case rel => exact ⟨k + 1, m + 1, A6, c6, by omega, by omega, by go_num, rfl, by rw [e2.out], hown6, hb7.out⟩
     case measure => simp [intOf]; omega
    | false =>
     by_cases hxy : x ≤ y
     ·have e2 : Hid (doneI l x (k + 1) = true) := by show _ = _; rw [hd.out, d0, decide_eq_true hxy]; rfl
      have hge : decide (y ≥ x) = true := decide_eq_true (by omega);have hge2 : y ≥ x := by omega
      have hgt : ¬ y > x := fun c => one ⟨d0, c⟩
      clear hd d0 one;go_wp2_with (first
       | (at_builtin; (with_reducible refine wpList_app rfl (.tmp 35) (.tmp 40) rfl hE.out flat_iv rfl (hown.out.alloc _) rfl (Sl.lit1' wr 2 y _ rfl 1 _ ?d0) ?d1 (hza _) ?_); rotate_right; intro A6 c6 w6 hown6 hgr6 hb6 _))
      case d0 => rfl
      case d1 => omega
      have hb7 := hide ((e4.out _).trans hb6);rw [← e1.out] at hown6;go_roundw
      case rel => exact ⟨k + 1, m + 1, A6, c6, by omega, by omega, by go_num, rfl, by rw [e2.out], hown6, hb7.out⟩
      case measure => simp [intOf]; omega
     ·have e2 : Hid (doneI l x (k + 1) = false) := by show _ = _; rw [hd.out, d0, decide_eq_false hxy]; rfl
      have hge : decide (y ≥ x) = false := decide_eq_false (by omega);have hge2 : ¬ y ≥ x := by omega
      clear hd d0 one;go_wp2_with (first
       | (at_builtin; (with_reducible refine wpList_app rfl (.tmp 35) (.tmp 40) rfl hE.out flat_iv rfl (hown.out.alloc _) rfl (Sl.lit1' wr 2 y _ rfl 1 _ ?d0) ?d1 (hza _) ?_); rotate_right; intro A6 c6 w6 hown6 hgr6 hb6 _))
      case d0 => rfl
      case d1 => omega
      have hb7 := hide ((e4.out _).trans hb6);rw [← e1.out] at hown6;go_roundw
      case rel => exact ⟨k + 1, m + 1, A6, c6, by omega, by omega, by go_num, rfl, by rw [e2.out], hown6, hb7.out⟩
      case measure => simp [intOf]; omega
  ·obtain rfl : k = n := by omega
   have hend := outI_end (n := x) hasc.out;rw [hlen] at hend;have hz := hb.size;replace hb := hide hb
   cases d0 : doneI l x k with
   | true =>
    rw [d0, if_pos rfl] at hend;rw [hend] at hown;clear hend;go_wp2_with fail;go_ret;exact ⟨_, _, _, rfl, hown.out, by omega, hb.out⟩
   | false =>
    rw [d0, if_neg Bool.false_ne_true] at hend;replace hend := hide hend;have hza : ∀ o, w.heap.size ≤ (wr.alloc o).heap.size := fun o => by rw [World.size_alloc]; omega
    have hm2 : m ≤ k := by
     have h1 := hown.out.len;have h2 : outI l x k = l.take k := by unfold outI; rw [d0]; rfl
     rw [h2, List.length_take] at h1;omega
    have e4 := hide (show ∀ o, Below w.heap.size w (wr.alloc o) from fun o => hb.out.alloc hz o);go_wp2_with (first
     | (at_builtin; (with_reducible refine wpList_app rfl (.tmp 44) (.tmp 46) rfl hE.out flat_iv rfl (hown.out.alloc _) rfl (Sl.lit1' wr 2 x _ rfl 1 _ ?d0) ?d1 (hza _) ?_); rotate_right; intro A6 c6 w6 hown6 hgr6 hb6 _))
    case d0 => rfl
    case d1 => omega
    have hb7 := hide ((e4.out _).trans hb6);rw [hend.out] at hown6;go_wp2_with fail;go_ret;exact ⟨_, _, _, rfl, hown6, by omega, hb7.out⟩
open Go.Lib Go.Sort
def sgS (N : Nat) (p : List Int) (x : Int) (s : List Int) (e : Ed) : List Int := if e.1 = x then putI s (e.2.1 * (N : Int) + pv p e.2.2) else s
def sgF (N : Nat) (p : List Int) (es : List Ed) (x : Int) : List Int := es.foldl (sgS N p x) []
theorem sg_asc {N : Nat} {p : List Int} {x : Int} : ∀ (l : List Ed) (s : List Int), s.Pairwise (· < ·) → (l.foldl (sgS N p x) s).Pairwise (· < ·)
 | [], s, h => h
 | e :: l, s, h => sg_asc l _ (by
  unfold sgS
  by_cases c : e.1 = x
  ·rw [if_pos c]; exact putI_asc h
  ·rw [if_neg c]; exact h)
theorem l13Sign_calls {w : World} {N ini : Nat} {A : Option Addr} {n : Nat} {B : Option Addr} {m : Nat} {ls : List ByteArray} {es : List Ed} (h : SysA w N ini A n B m ls es) (c d bx : Nat) (hbx : LtsBox w bx (N : Int) (ini : Int) A n c B m d) (P : Option Addr) (cP : Nat) (p : List Int) (hP : SlI w 0 w.heap.size P N p) (hp : ∀ x, x ∈ p → 0 ≤ x ∧ x ≤ 1000) (x : Int) :
  Calls Tryz.prog 244 #[.pointer (some ⟨bx, 0, none⟩), .slice P N cP, .int .i64 x] w fun e w' => ∃ A' n' c', e = .returned (.slice A' n' c') ∧ SlI w' w.heap.size w'.heap.size A' n' (sgF N p es x) ∧ n' ≤ 300 ∧ Below w.heap.size w w' := by
 obtain ⟨hm, hn12, hn1, hle, hll⟩ := h.many;obtain ⟨⟨hN1, hN2⟩, hini⟩ := h.bounds;have hAll : ∀ wx, Below w.heap.size w wx → SysA wx N ini A n B m ls es ∧ LtsBox wx bx (N : Int) (ini : Int) A n c B m d ∧ SlI wx 0 w.heap.size P N p := fun wx hx => ⟨h.below hx zR, hbx.below hx hbx.lt, hP.below hx (.inl zR)⟩
 have hth := hide h.three;replace hAll := hide hAll;have hbl := hbx.lt;clear h hP hbx;go_enter Tryz.func244, Tryz.ntmps244;obtain ⟨w1, hw1⟩ : ∃ w1, w1 = w.alloc (.cells #[] 2) := ⟨_, rfl⟩;have hb1 : Hid (Below w.heap.size w w1) := by show Below _ _ _; rw [hw1]; exact bR.alloc zR _
 have hst : Hid (SlI w1 w.heap.size w1.heap.size (some ⟨w.heap.size, 0, none⟩) 0 []) := ⟨rfl, fun h => absurd h (Nat.lt_irrefl 0)⟩;go_upto_region 2 with fail;rw [← show w1 = _ from hw1];replace hw1 := hide hw1;go_wp2_with fail
 go_loopw [7, 8] (fun v7 v8 wr => ∃ (k n5 c5 : Nat) (A5 : Option Addr), k ≤ m ∧ v8 = .int .i64 (k : Nat) ∧ v7 = .slice A5 n5 c5 ∧ Hid (SlI wr w.heap.size wr.heap.size A5 n5 ((es.take k).foldl (sgS N p x) [])) ∧ n5 ≤ k ∧ Hid (Below w.heap.size w wr)) (fun _ v _ => m - (intOf v).toNat)
 case atStart => exact ⟨0, 0, 0, _, Nat.zero_le _, rfl, rfl, hst.out, zR, hb1.out⟩
 case round =>
  clear hst hb1;obtain ⟨k, n5, c5, A5, hk, rfl, rfl, hO, hn5, hb⟩ := hrel;obtain ⟨-, hBr, -⟩ := hAll.out wr hb.out;have z3 := hBr.c3
  by_cases hlt : k < m
  ·obtain ⟨hSy, -, hPr⟩ := hAll.out wr hb.out
   obtain ⟨gB, oB, f, l, t, rfl, -, -, hgB, hx, x0, x1, x2, -⟩ := SlE.get hSy.se hlt;have h3 := hth.out _ (List.mem_of_getElem? hx)
   (try dsimp only at h3)
   obtain ⟨⟨f0, f1⟩, ⟨l0, l1⟩, t0, t1⟩ := h3;obtain ⟨gP, oP, pt, rfl, -, -, hgP, hpt, cp, -⟩ := SlI.get hPr (show t.toNat < N by omega);have hpb := hp _ (List.mem_of_getElem? hpt);have hpv : pv p t = pt := by unfold pv; rw [hpt]; rfl
   have hstep : (es.take (k + 1)).foldl (sgS N p x) [] = sgS N p x ((es.take k).foldl (sgS N p x) []) (f, l, t) := by
    rw [List.take_add_one, hx, List.foldl_append]; rfl
   have k0 : (0 : Int) ≤ (k : Int) := by omega
   have k1 : (k : Int) < (m : Int) := by omega
   by_cases hfx : f = x
   ·subst hfx
    have hs2 : Hid ((es.take (k + 1)).foldl (sgS N p f) [] = putI ((es.take k).foldl (sgS N p f) []) (l * (N : Int) + pt)) := by
     show _ = _
     rw [hstep, ← hpv];unfold sgS;rw [if_pos rfl]
    have g1 : (f == f) = true := by simp
    have hlN0 : 0 ≤ l * (N : Int) := Int.mul_nonneg l0 (by omega);have hlN1 : l * (N : Int) ≤ 12 * 40 := Int.mul_le_mul (by omega) (by omega) (by omega) (by omega);have hm1 : IntKind.i64.wrap (l * (N : Int)) = l * (N : Int) := IntWalk.i64_in _ (by omega);have hm2 : IntKind.i64.wrap (l * (N : Int) + pt) = l * (N : Int) + pt := IntWalk.i64_in _ (by omega);obtain ⟨wD, hwD⟩ : ∃ wD, wD = wr.drew := ⟨_, rfl⟩;have hbD := hide (hb.out.trans ((show Below wr.heap.size wr wD by rw [hwD]; exact bR.drew).mono hb.out.size));have hOD := hO.out.below (show Below wr.heap.size wr wD by rw [hwD]; exact bR.drew) (.inr zR);have hq := hide (l00Put_calls A5 n5 c5 _ (l * (N : Int) + pt) wD _ _ hOD (sg_asc _ _ List.Pairwise.nil) (by omega));have hSS : Hid (∀ wx, Below wD.heap.size wD wx → wx.cell? ⟨bx, 3, none⟩ = some (.slice (some ⟨gB, oB, none⟩) m d) ∧ wx.cell? ⟨gB, oB + k * 3 + 1, none⟩ = some (.int .i64 l) ∧ wx.cell? ⟨gB, oB + k * 3 + 2, none⟩ = some (.int .i64 t) ∧ wx.cell? ⟨gP, oP + t.toNat, none⟩ = some (.int .i64 pt)) := fun wx hx2 => by
     obtain ⟨q1, q2, q3⟩ := hAll.out wx (hbD.out.trans (hx2.mono hbD.out.size));obtain ⟨g5, o5, f5, l5, t5, e5, -, -, -, hx5, -, z1, z2, -⟩ := SlE.get q1.se hlt;cases e5;obtain ⟨g6, o6, v6, e6, -, -, -, hx6, z4, -⟩ := SlI.get q3 (show t.toNat < N by omega);cases e6;rw [hx] at hx5
     cases hx5
     rw [hpt] at hx6
     cases hx6
     exact ⟨q2.c3, z1, z2, z4⟩
    replace hwD := hide hwD;replace hx := hide hx;replace hpt := hide hpt;clear hstep hO hOD hSy hPr hBr;go_upto_region 6 with fail;refine lateT_begin (S := fun w' => w'.cell? ⟨bx, 3, none⟩ = some (.slice (some ⟨gB, oB, none⟩) m d) ∧ w'.cell? ⟨gB, oB + k * 3 + 1, none⟩ = some (.int .i64 l) ∧ w'.cell? ⟨gB, oB + k * 3 + 2, none⟩ = some (.int .i64 t) ∧ w'.cell? ⟨gP, oP + t.toNat, none⟩ = some (.int .i64 pt)) (st := 25) (by kernel_rfl) ?_;rw [← show wD = _ from hwD.out];have hS0 : (fun w' : World => w'.cell? ⟨bx, 3, none⟩ = some (.slice (some ⟨gB, oB, none⟩) m d) ∧ w'.cell? ⟨gB, oB + k * 3 + 1, none⟩ = some (.int .i64 l) ∧ w'.cell? ⟨gB, oB + k * 3 + 2, none⟩ = some (.int .i64 t) ∧ w'.cell? ⟨gP, oP + t.toNat, none⟩ = some (.int .i64 pt)) wD := hSS.out wD bR;refine tkB 0 [25] hS0 ?_;refine tkB 1 [25] hS0 ?_;refine tkB 2 [25] hS0 ?_;refine tkB 3 [25] hS0 ?_;refine tkB 4 [25] hS0 ?_;refine tkB 5 [25] hS0 ?_;refine tkB 6 [25] hS0 ?_;refine tkB 7 [25] hS0 ?_;refine tkB 8 [25] hS0 ?_;refine tkB 9 [25] hS0 ?_;refine tkB 12 [25] hS0 ?_;refine tkB 13 [25] hS0 ?_;refine tkB 14 [25] hS0 ?_;refine tkB 15 [25] hS0 ?_;refine tkB 16 [25] hS0 ?_;refine tkB 17 [25] hS0 ?_;refine tkB 18 [25] hS0 ?_;refine tkB 19 [25] hS0 ?_;refine tkB 20 [25] hS0 ?_;refine tkB 21 [25] hS0 ?_;refine tkB 22 [25] hS0 ?_;refine lS 10 fun K hK => ?_
    go_simp;refine kP hK (fun _ => hSS.out wD bR) ?_
    clear hK K;refine lS 11 fun K hK => ?_
    go_simp;refine kP hK (fun _ => hSS.out wD bR) ?_
    clear hK K;refine lS 23 fun K hK => ?_
    go_simp;refine kP hK (fun _ => hSS.out wD bR) ?_
    clear hK K;refine lS 24 fun K hK => ?_
    go_simp;go_at_call 256
    (with_reducible refine hq.out.mono ?_)
    rintro e w6 ⟨A7, n7, c7, rfl, hO7, hn7, hb7⟩;have hS7 := hide (hSS.out w6 hb7);have hb7h := hide hb7;have hO7h := hide hO7;clear hO7 hb7
    (try go_wp2_with fail)
    refine kP hK (fun _ => hS7.out) ?_;clear hK K;refine lS 25 fun K hK => ?_
    go_simp;refine kP hK nH ?_
    clear hK K;refine lateT_done (by kernel_rfl) ?_ _;have hsF := hO7h.out.sl flat_iv;rw [← hs2.out] at hsF;have hzD := hbD.out.size;replace hsF := hide (hsF.more hzD zR);have hbF := hide (hbD.out.trans (hb7h.out.mono hzD));clear hO7h;go_wp2_with fail;go_roundw
    case rel => exact ⟨k + 1, n7, c7, A7, by omega, by go_num, rfl, hsF.out, by omega, hbF.out⟩
    case measure => simp [intOf]; omega
   ·have hs2 : (es.take (k + 1)).foldl (sgS N p x) [] = (es.take k).foldl (sgS N p x) [] := by
     rw [hstep];unfold sgS;rw [if_neg hfx]
    have hO9 := hO.out;rw [← hs2] at hO9;replace hO9 := hide hO9;have g1 : (f == x) = false := by rw [beq_eq_false_iff_ne]; exact hfx
    replace hx := hide hx;replace hpt := hide hpt;clear hstep hs2 hO hSy hPr hfx hBr;go_wp2_with fail;go_roundw
    case rel => exact ⟨k + 1, n5, c5, A5, by omega, by go_num, rfl, hO9.out, by omega, hb.out⟩
    case measure => simp [intOf]; omega
  ·obtain rfl : k = m := by omega
   have hF := hO.out;rw [List.take_of_length_le (by omega)] at hF;replace hF := hide hF;clear hBr;go_wp2_with fail;go_ret;exact ⟨A5, n5, c5, rfl, hF.out, by omega, hb.out⟩
end Go.Proofs.YtnhomkmfbngmgaaGreatDoor
namespace Go.Proofs.YtnhomkmfbngmgaaGreatDoor
open Go.Sort
theorem sg_mem {N : Nat} {p : List Int} {x : Int} : ∀ (l : List Ed) (s : List Int) (c : Int), c ∈ l.foldl (sgS N p x) s ↔ c ∈ s ∨ ∃ e, e ∈ l ∧ e.1 = x ∧ c = e.2.1 * (N : Int) + pv p e.2.2
 | [], s, c => by simp
 | e :: l, s, c => by
  rw [List.foldl_cons, sg_mem l];unfold sgS
  by_cases h : e.1 = x
  ·rw [if_pos h, putI_mem, or_assoc]
   refine or_congr_right ?_
   constructor
   ·rintro (g | ⟨f, hf, g⟩)
    ·exact ⟨e, List.mem_cons_self .., h, g⟩
    ·exact ⟨f, List.mem_cons_of_mem _ hf, g⟩
   ·rintro ⟨f, hf, g1, g2⟩
    rcases List.mem_cons.1 hf with rfl | hf
    ·exact .inl g2
    ·exact .inr ⟨f, hf, g1, g2⟩
  ·rw [if_neg h]
   refine or_congr_right ⟨fun ⟨f, hf, g⟩ => ⟨f, List.mem_cons_of_mem _ hf, g⟩, fun ⟨f, hf, g1, g2⟩ => ?_⟩
   rcases List.mem_cons.1 hf with rfl | hf
   ·exact absurd g1 h
   ·exact ⟨f, hf, g1, g2⟩
theorem sgF_eq (N : Nat) (p : List Int) (es : List Ed) (k : Nat) : sgF N p es (k : Int) = Lib.compact (sortI (cdL es N p k)) := by
 refine asc_ext (sg_asc _ _ List.Pairwise.nil) (set_asc _) fun c => ?_
 unfold sgF;rw [sg_mem, set_mem];unfold cdL;rw [List.mem_map]
 constructor
 ·rintro (h | ⟨e, he, h1, h2⟩)
  ·cases h
  ·exact ⟨e, List.mem_filter.2 ⟨he, decide_eq_true h1⟩, h2.symm⟩
 ·rintro ⟨e, he, h⟩
  obtain ⟨h1, h2⟩ := List.mem_filter.1 he;exact .inr ⟨e, h1, of_decide_eq_true h2, h.symm⟩
theorem ref_key {N : Nat} {p : List Int} {es : List Ed} (hp : p.length = N) {i j : Nat} (hi : i < N) (hj : j < N) : sameB (refF es N p) i j ↔ p[i]? = p[j]? ∧ sgF N p es (i : Int) = sgF N p es (j : Int) := by
 have hk : (keysR es N p).length = N := by simp [keysR]
 unfold refF;rw [nk_same (by omega) (by omega)];unfold keysR;rw [List.getElem?_map, List.getElem?_map, List.getElem?_range hi, List.getElem?_range hj];simp only [Option.map_some, Option.some.injEq];unfold keyR;rw [List.cons.injEq, sgF_eq, sgF_eq];refine and_congr_left fun _ => ?_
 rw [List.getElem?_eq_getElem (show i < p.length by omega), List.getElem?_eq_getElem (show j < p.length by omega)]
 simp
theorem new_or {r : List Int} (hr : normF r = r) {k : Nat} {x : Int} (hx : r[k]? = some x) : (0 ≤ x ∧ cntB r (k + 1) = cntB r k ∧ ∃ j, j < k ∧ r[j]? = some x) ∨ (x = cntB r k ∧ cntB r (k + 1) = cntB r k + 1 ∧ ∀ j, j < k → ¬ r[j]? = some x) := by
 rcases cntB_step hr hx with ⟨h0, h1, h2⟩ | ⟨h1, h2⟩
 ·left
  refine ⟨h0, h2, ?_⟩;have hm : x ∈ firsts [] (r.take k) := by
   rw [firsts_take hr k];exact List.mem_map.2 ⟨x.toNat, List.mem_range.2 (by omega), by show ((x.toNat : Nat) : Int) = x; omega⟩
  have hm2 := (firsts_mem.1 hm).resolve_left (by simp);obtain ⟨j, hj, e⟩ := List.getElem_of_mem hm2;rw [List.length_take] at hj;rw [List.getElem_take] at e;exact ⟨j, by omega, by rw [List.getElem?_eq_getElem (by omega), e]⟩
 ·right
  refine ⟨h1, h2, fun j hj hjx => ?_⟩;have hm : x ∈ firsts [] (r.take k) := firsts_mem.2 (.inr (List.mem_of_getElem? (by rw [List.getElem?_take_of_lt hj]; exact hjx)));rw [firsts_take hr k] at hm;obtain ⟨v, hv, e⟩ := List.mem_map.1 hm;have := List.mem_range.1 hv;have : (v : Int) = x := e;omega
end Go.Proofs.YtnhomkmfbngmgaaGreatDoor
namespace Go.Proofs.YtnhomkmfbngmgaaGreatDoor
open Go.ChangeShapes Go.WideShapes Go.ChangeAt Go.RowKit
structure GrowH (w : World) (base : Nat) (A : Option Addr) (n c : Nat) (R : List (Hd × List Int)) : Prop where
 own : Own 1 (sv) w base 32 A n c (R.map (·.1))
 rows : ∀ r ∈ R, SlI w base w.heap.size r.1.1 r.1.2.1 r.2
 off : ∀ r ∈ R, 0 < r.1.2.1 → ∀ b off, r.1.1 = some ⟨b, off, none⟩ → (Value.slice A n c).ownBlock ≠ some b
section
variable {w w4 w5 w' : World} {base n c : Nat} {A : Option Addr} {R : List (Hd × List Int)}
theorem GrowH.len (h : GrowH w base A n c R) : R.length = n := by have := h.own.len; rwa [List.length_map] at this
theorem GrowH.nil_ (w : World) (base : Nat) : GrowH w base none 0 0 [] := ⟨Own.nil_ _ _ _, fun _ h => (List.not_mem_nil h).elim, fun _ h => (List.not_mem_nil h).elim⟩
theorem GrowH.keep (h : GrowH w base A n c R) (hs : w.heap.size ≤ w'.heap.size) (hk : ∀ b, base ≤ b → b < w.heap.size → w'.heap[b]? = w.heap[b]?) : GrowH w' base A n c R :=
 ⟨h.own.keep fun g hg => hk g (h.own.lt g hg).1 (h.own.lt g hg).2, fun r hr => ((h.rows r hr).keep hs fun b h1 _ h3 => hk b h1 h3).more zR hs, h.off⟩
theorem GrowH.below (h : GrowH w base A n c R) (hb : Below w.heap.size w w') : GrowH w' base A n c R := h.keep hb.size fun b _ h2 => hb.block b h2
theorem GrowH.one {Ah : Option Addr} {nh ch : Nat} {s : List Int} (hs : SlI w base w.heap.size Ah nh s) (hb : base ≤ w.heap.size) : GrowH (w.alloc (.cells #[.slice Ah nh ch] 32)) base (some ⟨w.heap.size, 0, none⟩) 1 1 [((Ah, nh, ch), s)] := by
 have hbel : Below w.heap.size w (w.alloc (.cells #[.slice Ah nh ch] 32)) := bR.alloc zR _;refine ⟨⟨rfl, by simp [sv], .inr ⟨w.heap.size, 1, #[.slice Ah nh ch], rfl, hb, heap_alloc_new w _, zR, by decide, rfl, rfl⟩⟩, fun r hr => ?_, fun r hr hN b off e => ?_⟩
 ·obtain rfl := List.mem_singleton.1 hr
  exact (hs.below hbel (.inr zR)).more zR hbel.size
 ·obtain rfl := List.mem_singleton.1 hr
  obtain ⟨b', off', e', -, -, g3, -⟩ := hs.at_ hN;have e : Ah = _ := e;rw [e] at e'
  cases e'
  intro e2;have e2 : some w.heap.size = some b := e2;injection e2 with e2;omega
theorem GrowH.push (h : GrowH w4 base A n c R) {Ah : Option Addr} {nh ch : Nat} {s : List Int} (hs : SlI w4 base w4.heap.size Ah nh s) (ho : ∀ b off, 0 < nh → Ah = some ⟨b, off, none⟩ → (Value.slice A n c).ownBlock ≠ some b)
  {A5 : Option Addr} {c5 : Nat} (hown : Own 1 (sv) w5 base 32 A5 (n + 1) c5 (R.map (·.1) ++ [(Ah, nh, ch)])) (hgr : w4.grownBy w5 (Value.slice A n c).ownBlock)
  (hat : (Value.slice A5 (n + 1) c5).ownBlock = (Value.slice A n c).ownBlock ∨ (Value.slice A5 (n + 1) c5).ownBlock = some w4.heap.size) :
  GrowH w5 base A5 (n + 1) c5 (R ++ [((Ah, nh, ch), s)]) := by
 have hz5 := hgr.size;have keepS : ∀ (B : Option Addr) (nb : Nat) (l : List Int), SlI w4 base w4.heap.size B nb l → (∀ b off, 0 < nb → B = some ⟨b, off, none⟩ → (Value.slice A n c).ownBlock ≠ some b) → SlI w5 base w5.heap.size B nb l := by
  intro B nb l hl hne;refine ⟨hl.1, fun hm => ?_⟩;obtain ⟨b, off, rfl, g1, g2, g3, hc⟩ := hl.2 hm;have hk := hgr.block b g3 (fun e => hne b off hm rfl e.symm);refine ⟨b, off, rfl, g1, by omega, by omega, fun k x hx j u hu => ?_⟩;obtain ⟨h1, h2⟩ := hc k x hx j u hu;exact ⟨(World.cell?_of_block (w := w4) (by simpa using hk)).trans h1, (World.frozen?_of_block (w := w4) (by simpa using hk)).trans h2⟩
 have hoff : ∀ (B : Option Addr) (nb : Nat) (l : List Int), SlI w4 base w4.heap.size B nb l → (∀ b off, 0 < nb → B = some ⟨b, off, none⟩ → (Value.slice A n c).ownBlock ≠ some b) → ∀ b off, 0 < nb → B = some ⟨b, off, none⟩ → (Value.slice A5 (n + 1) c5).ownBlock ≠ some b := by
  intro B nb l hl hne b off hN e
  rcases hat with h1 | h1
  ·rw [h1]; exact hne b off hN e
  ·rw [h1]
   obtain ⟨b', off', e', -, -, g3, -⟩ := hl.at_ hN;rw [e] at e'
   cases e'
   intro e2;injection e2 with e2;omega
 refine ⟨by rw [List.map_append]; exact hown, fun r hr => ?_, fun r hr hm b off e => ?_⟩
 ·rcases List.mem_append.1 hr with hr | hr
  ·exact keepS _ _ _ (h.rows r hr) fun b off hm e => h.off r hr hm b off e
  ·obtain rfl := List.mem_singleton.1 hr
   exact keepS _ _ _ hs ho
 ·rcases List.mem_append.1 hr with hr | hr
  ·exact hoff _ _ _ (h.rows r hr) (fun b off hm e => h.off r hr hm b off e) b off hm e
  ·obtain rfl := List.mem_singleton.1 hr
   exact hoff _ _ _ hs ho b off hm e
theorem GrowH.get (h : GrowH w base A n c R) {k : Nat} (hk : k < n) : ∃ b off Ah nh ch s, A = some ⟨b, off, none⟩ ∧ base ≤ b ∧ b < w.heap.size ∧ R[k]? = some ((Ah, nh, ch), s) ∧ w.cell? ⟨b, off + k, none⟩ = some (.slice Ah nh ch) ∧ SlI w base w.heap.size Ah nh s ∧
  ∀ b off, 0 < nh → Ah = some ⟨b, off, none⟩ → (Value.slice A n c).ownBlock ≠ some b := by
 have hl := h.len;obtain ⟨b, off, e, g1, g2, g3, hc⟩ := (h.own.sl flat_sv).at_ (by omega);have hr : R[k]? = some R[k] := List.getElem?_eq_getElem (by omega);have hm : R[k] ∈ R := List.getElem_mem _;have h0 := (hc k R[k].1 (by rw [List.getElem?_map, hr]; rfl) 0 _ rfl).1;rw [Nat.mul_one, Nat.add_zero] at h0;exact ⟨b, off, R[k].1.1, R[k].1.2.1, R[k].1.2.2, R[k].2, e, g1, g3, hr, h0, h.rows _ hm, fun b off hN e => h.off _ hm hN b off e⟩
end
theorem l00Same_calls (A B : Option Addr) (n m c d : Nat) (l r : List Int) (w : World) (lo hi lo' hi' : Nat) (h : SlI w lo hi A n l) (g : SlI w lo' hi' B m r) (hn : n ≤ 1048576) (hm : m ≤ 1048576) :
  Calls Tryz.prog 165 #[.slice A n c, .slice B m d] w fun e w' => e = .returned (.bool (decide (l = r))) ∧ Below w.heap.size w w' := by
 have hl := hide h.len;have hr := hide g.len
 by_cases hnm : n = m
 ·subst hnm
  replace h := hide h;replace g := hide g;go_enter Tryz.func165, Tryz.ntmps165;go_wp2_with fail
  go_loopw [5] (fun i wr => ∃ k : Nat, k ≤ n ∧ i = .int .i64 k ∧ Below w.heap.size w wr ∧ l.take k = r.take k) (fun i _ => n - (intOf i).toNat)
  case atStart => exact ⟨0, Nat.zero_le _, rfl, bR, rfl⟩
  case round =>
   obtain ⟨k, hk, rfl, hb, he⟩ := hrel;replace he := hide he
   by_cases hlt : k < n
   ·obtain ⟨b, off, x, rfl, g1, g2, g3, hx, c0, -⟩ := h.out.get hlt
    obtain ⟨b', off', y, rfl, g1', g2', g3', hy, d0, -⟩ := g.out.get hlt;replace c0 := (hb.cell (p := ⟨b, off + k, none⟩) g3).trans c0;replace d0 := (hb.cell (p := ⟨b', off' + k, none⟩) g3').trans d0;replace hx := hide hx;replace hy := hide hy;clear h g;have hk0 : (0 : Int) ≤ (k : Int) := by omega
    have hk1 : (k : Int) < (n : Int) := by omega
    by_cases hxy : x = y
    ·subst hxy
     have hq : (x != x) = false := by simp
     go_wp2_with fail;go_quiet (fail)
     go_wp2_with fail;go_roundw
     case rel => exact ⟨k + 1, by omega, by go_num, by first | exact hb | exact ⟨hb.os, hb.tape, hb.output, hb.size, hb.block⟩, take_step he.out hx.out hy.out rfl⟩
     case measure => simp [intOf]; omega
    ·have hne := hide (take_stop hx.out hy.out hxy)
     have hq : (x != y) = true := by rw [bne_iff_ne]; exact hxy
     go_wp2_with fail;go_quiet (fail)
     go_wp2_with fail;go_ret
     exact ⟨by simp [hne.out], by first | exact hb | exact ⟨hb.os, hb.tape, hb.output, hb.size, hb.block⟩⟩
   ·have hkn : k = n := by omega
    subst hkn;clear h g;go_wp2_with fail;go_ret;exact ⟨by rw [take_all he.out hl.out hr.out]; simp, hb⟩
 ·have hne : Hid (l ≠ r) := fun e => hnm (by rw [← hl.out, ← hr.out, e])
  have hb0 : ((n : Int) != (m : Int)) = true := by rw [bne_iff_ne]; omega
  clear h g;go_enter Tryz.func165, Tryz.ntmps165;go_wp2_with fail;go_ret;exact ⟨by simp [hne.out], bR⟩
end Go.Proofs.YtnhomkmfbngmgaaGreatDoor
