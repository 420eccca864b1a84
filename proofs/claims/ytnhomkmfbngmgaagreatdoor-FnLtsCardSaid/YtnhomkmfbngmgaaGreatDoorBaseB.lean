/-
  Lemmas that the law of this claim leans on. Conditions: sizes.
-/
import Derived.Test.YtnhomkmfbngmgaaGreatDoorBaseA
import Derived.StillTailTactics
import Derived.Outline
import Derived.IntWalk
import Derived.Lib.AppendIntMem
import Derived.WalkSmall
import Derived.Deep.RegionLaw
import Derived.Test.YtnhomkmfbngmgaaGreatDoorRows
import Derived.LoopTactic
import Derived.Lib.ItoaLen
import Derived.Lib.FieldsP
import Derived.Laws.RangeString
import Derived.Shelf.GgClosure.GivesRunes
set_option maxHeartbeats 800000
set_option maxRecDepth 100000
set_option linter.unusedSimpArgs false
set_option linter.unusedVariables false
namespace Go.Proofs.YtnhomkmfbngmgaaGreatDoor
open Go.RowKit
abbrev Hd := Option Addr × Nat × Nat
def spanOf (h : Hd) : Nat × Nat := if h.2.1 = 0 then (0, 0) else match h.1 with | some a => (a.block, a.block + 1) | none => (0, 0)
def offS (x y : Nat × Nat) : Prop := x.2 ≤ y.1 ∨ y.2 ≤ x.1
theorem offS.symm {x y : Nat × Nat} (h : offS x y) : offS y x := Or.symm h
theorem spanOf_zero (A : Option Addr) (c : Nat) : spanOf (A, 0, c) = (0, 0) := rfl
theorem spanOf_pos {n : Nat} (b off c : Nat) (hn : 0 < n) : spanOf (some ⟨b, off, none⟩, n, c) = (b, b + 1) := if_neg (by show ¬ n = 0; omega)
section
variable {α : Type} {size : Nat} {f : α → List Value} {w w' : World} {lo hi n : Nat} {A : Option Addr} {l : List α}
theorem Sl.tight (h : Sl size f w lo hi A n l) (c : Nat) : Sl size f w (spanOf (A, n, c)).1 (spanOf (A, n, c)).2 A n l := by
 rcases Nat.eq_zero_or_pos n with rfl | hn
 ·exact ⟨h.1, fun h0 => absurd h0 (by omega)⟩
 ·obtain ⟨b, off, rfl, g1, g2, g3, hc⟩ := h.at_ hn
  rw [spanOf_pos b off c hn];exact ⟨h.1, fun _ => ⟨b, off, rfl, zR, Nat.lt_succ_self _, g3, hc⟩⟩
theorem Sl.span (h : Sl size f w lo hi A n l) (c : Nat) : spanOf (A, n, c) = (0, 0) ∨ (lo ≤ (spanOf (A, n, c)).1 ∧ (spanOf (A, n, c)).2 ≤ hi ∧ (spanOf (A, n, c)).2 ≤ w.heap.size) := by
 rcases Nat.eq_zero_or_pos n with rfl | hn
 ·exact .inl rfl
 ·obtain ⟨b, off, rfl, g1, g2, g3, hc⟩ := h.at_ hn
  rw [spanOf_pos b off c hn];exact .inr ⟨g1, g2, g3⟩
theorem Sl.loose {c : Nat} (h : Sl size f w (spanOf (A, n, c)).1 (spanOf (A, n, c)).2 A n l) (hs : spanOf (A, n, c) = (0, 0) ∨ (lo ≤ (spanOf (A, n, c)).1 ∧ (spanOf (A, n, c)).2 ≤ hi)) : Sl size f w lo hi A n l := by
 rcases Nat.eq_zero_or_pos n with rfl | hn
 ·exact ⟨h.1, fun h0 => absurd h0 (by omega)⟩
 ·obtain ⟨b, off, rfl, g1, g2, g3, hc⟩ := h.at_ hn
  rw [spanOf_pos b off c hn] at hs
  rcases hs with hs | hs
  ·simp at hs
  ·exact ⟨h.1, fun _ => ⟨b, off, rfl, hs.1, by have := hs.2; show b < hi; simp at this; omega, g3, hc⟩⟩
theorem Sl.keepB (h : Sl size f w lo hi A n l) (hs : w.heap.size ≤ w'.heap.size) (hk : ∀ b off, 0 < n → A = some ⟨b, off, none⟩ → lo ≤ b → b < w.heap.size → w'.heap[b]? = w.heap[b]?) : Sl size f w' lo hi A n l := by
 rcases Nat.eq_zero_or_pos n with rfl | hn
 ·exact ⟨h.1, fun h0 => absurd h0 (by omega)⟩
 ·have ht := h.tight 0
  obtain ⟨b, off, rfl, g1, g2, g3, _⟩ := h.at_ hn;have e := spanOf_pos b off 0 hn;exact (ht.keep hs fun b' h1 h2 h3 => by
   rw [e] at h1 h2
   simp at h1 h2
   have : b' = b := by omega
   subst this;exact hk b' off hn rfl g1 h3).loose (c := 0) (.inr (by rw [e]; exact ⟨g1, g2⟩))
theorem Sl.onlyS (h : Sl size f w lo hi A n l) {x : Nat × Nat} (g : Only x.1 x.2 w w') {c : Nat} (hd : offS (spanOf (A, n, c)) x) : Sl size f w' lo hi A n l :=
 h.keepB g.size fun b off hn e _ hb => g.block b hb (by
  subst e;rw [spanOf_pos b off c hn] at hd
  rcases hd with hd | hd
  ·exact .inl (by simp at hd; omega)
  ·exact .inr hd)
end
structure Nest {α : Type} (size : Nat) (f : α → List Value) (w : World) (lo hi : Nat) (A : Option Addr) (n : Nat) (R : List (Hd × List α)) : Prop where
 outer : Sl 1 sv w lo hi A n (R.map (·.1))
 rows : ∀ r ∈ R, Sl size f w lo hi r.1.1 r.1.2.1 r.2 ∧ r.1.2.1 ≤ 1048576
 apart : R.Pairwise fun r s => offS (spanOf r.1) (spanOf s.1)
 away : ∀ r ∈ R, offS (spanOf (A, n, 0)) (spanOf r.1)
section
variable {α : Type} {size : Nat} {f : α → List Value} {w w' : World} {lo hi n : Nat} {A : Option Addr} {R : List (Hd × List α)}
theorem Nest.len (h : Nest size f w lo hi A n R) : R.length = n := by have := h.outer.len; rwa [List.length_map] at this
theorem Nest.nil_ : Nest size f w lo hi A 0 ([] : List (Hd × List α)) := ⟨Sl.nil_, fun _ h => (List.not_mem_nil h).elim, List.Pairwise.nil, fun _ h => (List.not_mem_nil h).elim⟩
theorem Nest.keep (h : Nest size f w lo hi A n R) (hs : w.heap.size ≤ w'.heap.size) (hk : ∀ b, lo ≤ b → b < hi → b < w.heap.size → w'.heap[b]? = w.heap[b]?) : Nest size f w' lo hi A n R :=
 ⟨h.outer.keep hs hk, fun r hr => ⟨(h.rows r hr).1.keep hs hk, (h.rows r hr).2⟩, h.apart, h.away⟩
theorem Nest.below {B : Nat} (h : Nest size f w lo hi A n R) (hb : Below B w w') (hB : hi ≤ B ∨ w.heap.size ≤ B) : Nest size f w' lo hi A n R :=
 h.keep hb.size fun b _ h2 h3 => hb.block b (by omega)
theorem Nest.only {lo' hi' : Nat} (h : Nest size f w lo hi A n R) (g : Only lo' hi' w w') (hd : hi ≤ lo' ∨ hi' ≤ lo) : Nest size f w' lo hi A n R :=
 h.keep g.size fun b h1 h2 h3 => g.block b h3 (by omega)
theorem Nest.more {lo' hi' : Nat} (h : Nest size f w lo hi A n R) (h1 : lo' ≤ lo) (h2 : hi ≤ hi') : Nest size f w lo' hi' A n R :=
 ⟨h.outer.more h1 h2, fun r hr => ⟨(h.rows r hr).1.more h1 h2, (h.rows r hr).2⟩, h.apart, h.away⟩
theorem Nest.top (h : Nest size f w lo hi A n R) : Nest size f w lo w.heap.size A n R :=
 ⟨h.outer.top, fun r hr => ⟨(h.rows r hr).1.top, (h.rows r hr).2⟩, h.apart, h.away⟩
theorem Nest.drewN (h : Nest size f w lo hi A n R) (k : Nat) : Nest size f (w.drewN k) lo hi A n R := h.keep zR fun _ _ _ _ => rfl
theorem Nest.get (h : Nest size f w lo hi A n R) {k : Nat} (hk : k < n) :
  ∃ b off Ah nh ch s, A = some ⟨b, off, none⟩ ∧ lo ≤ b ∧ b < hi ∧ b < w.heap.size ∧ R[k]? = some ((Ah, nh, ch), s) ∧ w.cell? ⟨b, off + k, none⟩ = some (.slice Ah nh ch) ∧ w.frozen? ⟨b, off + k, none⟩ = false ∧ Sl size f w lo hi Ah nh s ∧ nh ≤ 1048576 := by
 obtain ⟨b, off, e, g1, g2, g3, hc⟩ := h.outer.at_ (by omega);have hkl : k < R.length := by rw [h.len]; exact hk
 obtain ⟨⟨⟨Ah, nh, ch⟩, s⟩, hr⟩ : ∃ r, R[k]? = some r := ⟨_, List.getElem?_eq_getElem hkl⟩;have h0 := hc k (Ah, nh, ch) (by rw [List.getElem?_map, hr]; rfl) 0 _ rfl;simp only [Nat.mul_one, Nat.add_zero] at h0;have h1 := h.rows _ (List.mem_of_getElem? hr);exact ⟨b, off, Ah, nh, ch, s, e, g1, g2, g3, hr, h0.1, h0.2, h1.1, h1.2⟩
theorem pairwise_at {β : Type} {p : β → β → Prop} (hp : ∀ x y, p x y → p y x) {R : List β} (h : R.Pairwise p) {i j : Nat} {x y : β} (hi : R[i]? = some x) (hj : R[j]? = some y) (hne : i ≠ j) : p x y := by
 obtain ⟨hi', rfl⟩ := List.getElem?_eq_some_iff.1 hi;obtain ⟨hj', rfl⟩ := List.getElem?_eq_some_iff.1 hj
 rcases Nat.lt_or_ge i j with hlt | hge
 ·exact List.pairwise_iff_getElem.1 h i j hi' hj' hlt
 ·exact hp _ _ (List.pairwise_iff_getElem.1 h j i hj' hi' (by omega))
theorem Nest.put (h : Nest size f w lo hi A n R) {k : Nat} {Ah : Option Addr} {nh ch : Nat} {s s' : List α} (hr : R[k]? = some ((Ah, nh, ch), s))
  (g : Only (spanOf (Ah, nh, ch)).1 (spanOf (Ah, nh, ch)).2 w w') (hs : Sl size f w' (spanOf (Ah, nh, ch)).1 (spanOf (Ah, nh, ch)).2 Ah nh s') :
  Nest size f w' lo hi A n (R.set k ((Ah, nh, ch), s')) ∧ Only lo hi w w' := by
 have hk : k < R.length := (List.getElem?_eq_some_iff.1 hr).1;have hm := List.mem_of_getElem? hr;have e : (R.set k ((Ah, nh, ch), s')).map (·.1) = R.map (·.1) := by
  apply List.ext_getElem?
  intro i;rw [List.getElem?_map, List.getElem?_map]
  by_cases hi : k = i
  ·subst hi
   rw [List.getElem?_set_self hk, hr]
   rfl
  ·rw [List.getElem?_set_ne hi]
 have h1 : Sl size f w lo hi Ah nh s ∧ nh ≤ 1048576 := h.rows _ hm;refine ⟨⟨by rw [e]; exact h.outer.onlyS g (h.away _ hm), fun r hr' => ?_, ?_, fun r hr' => ?_⟩, ⟨g.os, g.tape, g.output, g.size, fun b hb ho => g.block b hb ?_⟩⟩
 ·obtain ⟨i, hi⟩ := List.getElem?_of_mem hr'
  by_cases hki : k = i
  ·subst hki
   rw [List.getElem?_set_self hk] at hi
   cases hi
   refine ⟨hs.loose (c := ch) ?_, h1.2⟩
   rcases h1.1.span ch with h2 | h2
   ·exact .inl h2
   ·exact .inr ⟨h2.1, h2.2.1⟩
  ·rw [List.getElem?_set_ne hki] at hi
   have h2 := h.rows r (List.mem_of_getElem? hi);exact ⟨h2.1.onlyS g (pairwise_at (fun _ _ => offS.symm) h.apart hi hr (Ne.symm hki)), h2.2⟩
 ·have h2 : (R.map (·.1)).Pairwise (fun x y => offS (spanOf x) (spanOf y)) := List.pairwise_map.2 h.apart
  rw [← e] at h2;exact (List.pairwise_map (R := fun x y => offS (spanOf x) (spanOf y))).1 h2
 ·obtain ⟨i, hi⟩ := List.getElem?_of_mem hr'
  by_cases hki : k = i
  ·subst hki
   rw [List.getElem?_set_self hk] at hi
   cases hi
   have h9 := h.away _ hm;exact h9
  ·rw [List.getElem?_set_ne hki] at hi
   exact h.away _ (List.mem_of_getElem? hi)
 ·rcases h1.1.span ch with h2 | h2
  ·rw [h2]
   exact .inr (Nat.zero_le _)
  ·omega
end
structure NestO {α : Type} (size : Nat) (f : α → List Value) (w : World) (base : Nat) (e : TypeId) (A : Option Addr) (n c : Nat) (R : List (Hd × List α)) : Prop where
 outer : Own 1 sv w base e A n c (R.map (·.1))
 rows : ∀ r ∈ R, Sl size f w base w.heap.size r.1.1 r.1.2.1 r.2 ∧ r.1.2.1 ≤ 1048576
 apart : R.Pairwise fun r s => offS (spanOf r.1) (spanOf s.1)
 away : ∀ r ∈ R, ∀ g, (Value.slice A n c).ownBlock = some g → offS (g, g + 1) (spanOf r.1)
section
variable {α : Type} {size : Nat} {f : α → List Value} {w w' : World} {base n c : Nat} {e : TypeId} {A : Option Addr} {R : List (Hd × List α)}
theorem NestO.len (h : NestO size f w base e A n c R) : R.length = n := by have := h.outer.len; rwa [List.length_map] at this
theorem NestO.nil_ (w : World) (base : Nat) (e : TypeId) : NestO size f w base e none 0 0 ([] : List (Hd × List α)) := ⟨Own.nil_ _ _ _, fun _ h => (List.not_mem_nil h).elim, List.Pairwise.nil, fun _ h => (List.not_mem_nil h).elim⟩
theorem NestO.made (w : World) {base : Nat} (e : TypeId) (hb : base ≤ w.heap.size) : NestO size f (w.alloc (.cells #[] e)) base e (some ⟨w.heap.size, 0, none⟩) 0 0 ([] : List (Hd × List α)) :=
 ⟨Own.made w e hb, fun _ h => (List.not_mem_nil h).elim, List.Pairwise.nil, fun _ h => (List.not_mem_nil h).elim⟩
theorem NestO.keep (h : NestO size f w base e A n c R) (hs : w.heap.size ≤ w'.heap.size) (hk : ∀ b, base ≤ b → b < w.heap.size → w'.heap[b]? = w.heap[b]?) : NestO size f w' base e A n c R :=
 ⟨h.outer.keep fun g hg => hk g (h.outer.lt g hg).1 (h.outer.lt g hg).2, fun r hr => ⟨((h.rows r hr).1.keep hs fun b h1 _ h3 => hk b h1 h3).more zR hs, (h.rows r hr).2⟩, h.apart, h.away⟩
theorem NestO.below {B : Nat} (h : NestO size f w base e A n c R) (hb : Below B w w') (hB : w.heap.size ≤ B) : NestO size f w' base e A n c R := h.keep hb.size fun b _ h2 => hb.block b (by omega)
theorem NestO.push {w0 w2 : World} (h : NestO size f w0 base e A n c R) (hb : Below w0.heap.size w0 w) {Ah : Option Addr} {nh ch : Nat} {s : List α} (x : Sl size f w w0.heap.size w.heap.size Ah nh s) (hn : nh ≤ 1048576)
  {A' : Option Addr} {c' : Nat} (hO : Own 1 sv w2 base e A' (n + 1) c' (R.map (·.1) ++ [(Ah, nh, ch)])) (hg : w.grownBy w2 (Value.slice A n c).ownBlock)
  (hne : (Value.slice A' (n + 1) c').ownBlock = (Value.slice A n c).ownBlock ∨ (Value.slice A' (n + 1) c').ownBlock = some w.heap.size) (hbase : base ≤ w0.heap.size) :
  NestO size f w2 base e A' (n + 1) c' (R ++ [((Ah, nh, ch), s)]) := by
 have hz := hb.size;have hz2 := hg.size;have hold : ∀ r ∈ R, spanOf r.1 = (0, 0) ∨ (base ≤ (spanOf r.1).1 ∧ (spanOf r.1).2 ≤ w0.heap.size) := fun r hr => by
  rcases (h.rows r hr).1.span r.1.2.2 with h1 | h1
  ·exact .inl h1
  ·exact .inr ⟨h1.1, h1.2.1⟩
 have hnew : spanOf (Ah, nh, ch) = (0, 0) ∨ (w0.heap.size ≤ (spanOf (Ah, nh, ch)).1 ∧ (spanOf (Ah, nh, ch)).2 ≤ w.heap.size) := by
  rcases x.span ch with h1 | h1
  ·exact .inl h1
  ·exact .inr ⟨h1.1, h1.2.1⟩
 refine ⟨by rw [List.map_append]; exact hO, fun r hr => ?_, List.pairwise_append.2 ⟨h.apart, List.pairwise_singleton _ _, fun r hr q hq => ?_⟩, fun r hr g hgq => ?_⟩
 ·rcases List.mem_append.1 hr with hr | hr
  ·have h1 := h.rows r hr
   refine ⟨(((h1.1.below hb (.inr zR)).more zR (by omega : w0.heap.size ≤ w2.heap.size)).keepB hz2 fun b off hp e1 _ hb1 => hg.block b hb1 fun e2 => ?_), h1.2⟩;have h2 := h.away r hr b e2.symm;have h3 : spanOf r.1 = (b, b + 1) := by
    have h4 := spanOf_pos b off r.1.2.2 hp;rw [← e1] at h4;exact h4
   rw [h3] at h2
   rcases h2 with h2 | h2 <;> simp at h2 <;> omega
  ·rw [List.mem_singleton.1 hr]
   refine ⟨((x.more hbase (by omega : w.heap.size ≤ w2.heap.size)).keepB hz2 fun b off hp e1 _ hb1 => hg.block b hb1 fun e2 => ?_), hn⟩;have h2 := (h.outer.lt b e2.symm).2;have h3 := spanOf_pos b off ch hp;rw [← e1] at h3;rw [h3] at hnew
   simp at hnew
   omega
 ·rw [List.mem_singleton.1 hq]
  rcases hold r hr with h1 | h1
  ·rw [h1]; exact .inl (Nat.zero_le _)
  ·rcases hnew with h2 | h2
   ·rw [h2]; exact .inr (Nat.zero_le _)
   ·exact .inl (by show (spanOf r.1).2 ≤ (spanOf (Ah, nh, ch)).1; omega)
 ·rcases hne with hne | hne
  ·rw [hne] at hgq
   rcases List.mem_append.1 hr with hr | hr
   ·exact h.away r hr g hgq
   ·rw [List.mem_singleton.1 hr]
    have h2 := (h.outer.lt g hgq).2
    rcases hnew with h3 | h3
    ·rw [h3]; exact .inr (Nat.zero_le _)
    ·exact .inl (by show g + 1 ≤ (spanOf (Ah, nh, ch)).1; omega)
  ·rw [hne] at hgq
   injection hgq with hgq;subst hgq
   rcases List.mem_append.1 hr with hr | hr
   ·rcases hold r hr with h1 | h1
    ·rw [h1]; exact .inr (Nat.zero_le _)
    ·exact .inr (by show (spanOf r.1).2 ≤ w.heap.size; omega)
   ·rw [List.mem_singleton.1 hr]
    rcases hnew with h3 | h3
    ·rw [h3]; exact .inr (Nat.zero_le _)
    ·exact .inr h3.2
end
def preH (H : List Hd) (k : Nat) : Nat := ((H.take k).map (·.2.1)).sum
def MarkedK {α : Type} (mk : Int → α) (step : Nat) (m : Int) (k : Nat) (R : List (Hd × List α)) : Prop :=
 ∀ (i : Nat) (r : Hd × List α), i < k → R[i]? = some r → ∀ j : Nat, j < r.1.2.1 → r.2[j]? = some (mk (m + step * (preH (R.map (·.1)) i + j : Nat)))
theorem MarkedK.zero {α : Type} (mk : Int → α) (step : Nat) (m : Int) (R : List (Hd × List α)) : MarkedK mk step m 0 R := fun i r hi => absurd hi (by omega)
theorem handles_set {α : Type} {R : List (Hd × List α)} {k : Nat} {h : Hd} {s s' : List α} (hr : R[k]? = some (h, s)) : (R.set k (h, s')).map (·.1) = R.map (·.1) := by
 apply List.ext_getElem?
 intro i;rw [List.getElem?_map, List.getElem?_map]
 by_cases hi : k = i
 ·subst hi
  rw [List.getElem?_set_self (List.getElem?_eq_some_iff.1 hr).1, hr]
  rfl
 ·rw [List.getElem?_set_ne hi]
theorem MarkedK.step {α : Type} {mk : Int → α} {step : Nat} {m : Int} {k : Nat} {R : List (Hd × List α)} (h : MarkedK mk step m k R) {Ah : Option Addr} {nh ch : Nat} {s s' : List α} (hr : R[k]? = some ((Ah, nh, ch), s))
  (hs : ∀ j : Nat, j < nh → s'[j]? = some (mk (m + step * (preH (R.map (·.1)) k + j : Nat)))) : MarkedK mk step m (k + 1) (R.set k ((Ah, nh, ch), s')) := by
 intro i r hi hr' j hj;rw [handles_set hr]
 by_cases hki : k = i
 ·subst hki
  rw [List.getElem?_set_self (List.getElem?_eq_some_iff.1 hr).1] at hr'
  cases hr'
  exact hs j hj
 ·rw [List.getElem?_set_ne hki] at hr'
  exact h i r (by omega) hr' j hj
theorem Only.trans {lo hi : Nat} {a b c : World} (h : Only lo hi a b) (g : Only lo hi b c) : Only lo hi a c :=
 ⟨g.os.trans h.os, g.tape.trans h.tape, g.output.trans h.output, Nat.le_trans h.size g.size, fun k hb hc => (g.block k (Nat.lt_of_lt_of_le hb h.size) hc).trans (h.block k hb hc)⟩
theorem Only.more {lo hi lo' hi' : Nat} {a b : World} (h : Only lo hi a b) (h1 : lo' ≤ lo) (h2 : hi ≤ hi') : Only lo' hi' a b :=
 ⟨h.os, h.tape, h.output, h.size, fun k hb hc => h.block k hb (by omega)⟩
theorem Only.span {lo hi : Nat} {a b : World} {x : Nat × Nat} (h : Only x.1 x.2 a b) (hs : x = (0, 0) ∨ (lo ≤ x.1 ∧ x.2 ≤ hi)) : Only lo hi a b :=
 ⟨h.os, h.tape, h.output, h.size, fun k hb hc => h.block k hb (by
  rcases hs with hs | hs
  ·rw [hs]; exact .inr (Nat.zero_le _)
  ·omega)⟩
structure RowsG {β α : Type} (hd : β → Hd) (osz : Nat) (g : β → List Value) (size : Nat) (f : α → List Value) (most : Nat) (w : World) (lo hi : Nat) (A : Option Addr) (n : Nat) (R : List (β × List α)) : Prop where
 outer : Sl osz g w lo hi A n (R.map (·.1))
 rows : ∀ r ∈ R, Sl size f w lo hi (hd r.1).1 (hd r.1).2.1 r.2 ∧ (hd r.1).2.1 ≤ most
structure NestG {β α : Type} (hd : β → Hd) (osz : Nat) (g : β → List Value) (size : Nat) (f : α → List Value) (w : World) (lo hi : Nat) (A : Option Addr) (n : Nat) (R : List (β × List α)) : Prop where
 all : RowsG hd osz g size f 1048576 w lo hi A n R
 apart : R.Pairwise fun r s => offS (spanOf (hd r.1)) (spanOf (hd s.1))
 away : ∀ r ∈ R, offS (spanOf (A, n, 0)) (spanOf (hd r.1))
section
variable {β α : Type} {hd : β → Hd} {osz : Nat} {g : β → List Value} {size most : Nat} {f : α → List Value} {w w' : World} {lo hi n : Nat} {A : Option Addr} {R : List (β × List α)}
theorem RowsG.len (h : RowsG hd osz g size f most w lo hi A n R) : R.length = n := by have := h.outer.len; rwa [List.length_map] at this
theorem RowsG.nil_ : RowsG hd osz g size f most w lo hi A 0 ([] : List (β × List α)) := ⟨Sl.nil_, fun _ h => (List.not_mem_nil h).elim⟩
theorem RowsG.keep (h : RowsG hd osz g size f most w lo hi A n R) (hs : w.heap.size ≤ w'.heap.size) (hk : ∀ b, lo ≤ b → b < hi → b < w.heap.size → w'.heap[b]? = w.heap[b]?) : RowsG hd osz g size f most w' lo hi A n R :=
 ⟨h.outer.keep hs hk, fun r hr => ⟨(h.rows r hr).1.keep hs hk, (h.rows r hr).2⟩⟩
theorem RowsG.below {B : Nat} (h : RowsG hd osz g size f most w lo hi A n R) (hb : Below B w w') (hB : hi ≤ B ∨ w.heap.size ≤ B) : RowsG hd osz g size f most w' lo hi A n R :=
 h.keep hb.size fun b _ h2 h3 => hb.block b (by omega)
theorem RowsG.only {lo' hi' : Nat} (h : RowsG hd osz g size f most w lo hi A n R) (o : Only lo' hi' w w') (hd' : hi ≤ lo' ∨ hi' ≤ lo) : RowsG hd osz g size f most w' lo hi A n R :=
 h.keep o.size fun b h1 h2 h3 => o.block b h3 (by omega)
theorem RowsG.more {lo' hi' : Nat} (h : RowsG hd osz g size f most w lo hi A n R) (h1 : lo' ≤ lo) (h2 : hi ≤ hi') : RowsG hd osz g size f most w lo' hi' A n R :=
 ⟨h.outer.more h1 h2, fun r hr => ⟨(h.rows r hr).1.more h1 h2, (h.rows r hr).2⟩⟩
theorem RowsG.top (h : RowsG hd osz g size f most w lo hi A n R) : RowsG hd osz g size f most w lo w.heap.size A n R := ⟨h.outer.top, fun r hr => ⟨(h.rows r hr).1.top, (h.rows r hr).2⟩⟩
theorem RowsG.get (h : RowsG hd osz g size f most w lo hi A n R) {k : Nat} (hk : k < n) :
  ∃ b off x s, A = some ⟨b, off, none⟩ ∧ lo ≤ b ∧ b < hi ∧ b < w.heap.size ∧ R[k]? = some (x, s) ∧
   (∀ (j : Nat) (u : Value), (g x)[j]? = some u → w.cell? ⟨b, off + (k * osz + j), none⟩ = some u ∧ w.frozen? ⟨b, off + (k * osz + j), none⟩ = false) ∧ Sl size f w lo hi (hd x).1 (hd x).2.1 s ∧ (hd x).2.1 ≤ most := by
 obtain ⟨b, off, e, g1, g2, g3, hc⟩ := h.outer.at_ (by omega);have hkl : k < R.length := by rw [h.len]; exact hk
 obtain ⟨⟨x, s⟩, hr⟩ : ∃ r, R[k]? = some r := ⟨_, List.getElem?_eq_getElem hkl⟩;have h1 := h.rows _ (List.mem_of_getElem? hr);exact ⟨b, off, x, s, e, g1, g2, g3, hr, hc k x (by rw [List.getElem?_map, hr]; rfl), h1.1, h1.2⟩
theorem NestG.len (h : NestG hd osz g size f w lo hi A n R) : R.length = n := h.all.len
theorem NestG.nil_ : NestG hd osz g size f w lo hi A 0 ([] : List (β × List α)) := ⟨RowsG.nil_, List.Pairwise.nil, fun _ h => (List.not_mem_nil h).elim⟩
theorem NestG.keep (h : NestG hd osz g size f w lo hi A n R) (hs : w.heap.size ≤ w'.heap.size) (hk : ∀ b, lo ≤ b → b < hi → b < w.heap.size → w'.heap[b]? = w.heap[b]?) : NestG hd osz g size f w' lo hi A n R := ⟨h.all.keep hs hk, h.apart, h.away⟩
theorem NestG.below {B : Nat} (h : NestG hd osz g size f w lo hi A n R) (hb : Below B w w') (hB : hi ≤ B ∨ w.heap.size ≤ B) : NestG hd osz g size f w' lo hi A n R := ⟨h.all.below hb hB, h.apart, h.away⟩
theorem NestG.only {lo' hi' : Nat} (h : NestG hd osz g size f w lo hi A n R) (o : Only lo' hi' w w') (hd' : hi ≤ lo' ∨ hi' ≤ lo) : NestG hd osz g size f w' lo hi A n R := ⟨h.all.only o hd', h.apart, h.away⟩
theorem NestG.more {lo' hi' : Nat} (h : NestG hd osz g size f w lo hi A n R) (h1 : lo' ≤ lo) (h2 : hi ≤ hi') : NestG hd osz g size f w lo' hi' A n R := ⟨h.all.more h1 h2, h.apart, h.away⟩
theorem NestG.top (h : NestG hd osz g size f w lo hi A n R) : NestG hd osz g size f w lo w.heap.size A n R := ⟨h.all.top, h.apart, h.away⟩
theorem NestG.put (h : NestG hd osz g size f w lo hi A n R) {k : Nat} {x : β} {s s' : List α} (hr : R[k]? = some (x, s))
  (o : Only (spanOf (hd x)).1 (spanOf (hd x)).2 w w') (hs : Sl size f w' (spanOf (hd x)).1 (spanOf (hd x)).2 (hd x).1 (hd x).2.1 s') :
  NestG hd osz g size f w' lo hi A n (R.set k (x, s')) ∧ Only lo hi w w' := by
 have hk : k < R.length := (List.getElem?_eq_some_iff.1 hr).1;have hm := List.mem_of_getElem? hr;have e : (R.set k (x, s')).map (·.1) = R.map (·.1) := by
  apply List.ext_getElem?
  intro i;rw [List.getElem?_map, List.getElem?_map]
  by_cases hi : k = i
  ·subst hi
   rw [List.getElem?_set_self hk, hr]
   rfl
  ·rw [List.getElem?_set_ne hi]
 have h1 : Sl size f w lo hi (hd x).1 (hd x).2.1 s ∧ (hd x).2.1 ≤ 1048576 := h.all.rows _ hm;have hsp : spanOf (hd x) = (0, 0) ∨ (lo ≤ (spanOf (hd x)).1 ∧ (spanOf (hd x)).2 ≤ hi ∧ (spanOf (hd x)).2 ≤ w.heap.size) := h1.1.span (hd x).2.2;refine ⟨⟨⟨by rw [e]; exact h.all.outer.onlyS (c := 0) o (h.away _ hm), fun r hr' => ?_⟩, ?_, fun r hr' => ?_⟩, o.span (by rcases hsp with h2 | h2; exact .inl h2; exact .inr ⟨h2.1, h2.2.1⟩)⟩
 ·obtain ⟨i, hi⟩ := List.getElem?_of_mem hr'
  by_cases hki : k = i
  ·subst hki
   rw [List.getElem?_set_self hk] at hi
   cases hi
   refine ⟨Sl.loose (c := (hd x).2.2) hs ?_, h1.2⟩
   rcases hsp with h2 | h2
   ·exact .inl h2
   ·exact .inr ⟨h2.1, h2.2.1⟩
  ·rw [List.getElem?_set_ne hki] at hi
   have h2 := h.all.rows r (List.mem_of_getElem? hi);exact ⟨h2.1.onlyS (c := (hd r.1).2.2) o (pairwise_at (fun _ _ => offS.symm) h.apart hi hr (Ne.symm hki)), h2.2⟩
 ·have h2 : (R.map (·.1)).Pairwise (fun x y => offS (spanOf (hd x)) (spanOf (hd y))) := List.pairwise_map.2 h.apart
  rw [← e] at h2;exact (List.pairwise_map (R := fun x y => offS (spanOf (hd x)) (spanOf (hd y)))).1 h2
 ·obtain ⟨i, hi⟩ := List.getElem?_of_mem hr'
  by_cases hki : k = i
  ·subst hki
   rw [List.getElem?_set_self hk] at hi
   cases hi
   have h9 := h.away _ hm;exact h9
  ·rw [List.getElem?_set_ne hki] at hi
   exact h.away _ (List.mem_of_getElem? hi)
end
structure NestF {β α : Type} (hd : β → Hd) (osz : Nat) (g : β → List Value) (size : Nat) (f : α → List Value) (w : World) (B : Nat) (t : TypeId) (n k : Nat) (R : List (β × List α)) : Prop where
 len : R.length = k
 fill : Fill osz g w B t n k (R.map (·.1))
 rows : ∀ r ∈ R, Sl size f w (B + 1) w.heap.size (hd r.1).1 (hd r.1).2.1 r.2 ∧ (hd r.1).2.1 ≤ 1048576
 apart : R.Pairwise fun r s => offS (spanOf (hd r.1)) (spanOf (hd s.1))
section
variable {β α : Type} {hd : β → Hd} {osz : Nat} {g : β → List Value} {size : Nat} {f : α → List Value} {w w1 w2 : World} {B n k : Nat} {t : TypeId} {R : List (β × List α)}
theorem NestF.start (w : World) (t : TypeId) (cur : Array Value) (n : Nat) (hs : cur.size = n * osz) : NestF hd osz g size f (w.alloc (.cells cur t)) w.heap.size t n 0 ([] : List (β × List α)) :=
 ⟨rfl, Fill.start w t cur n hs, fun _ h => (List.not_mem_nil h).elim, List.Pairwise.nil⟩
theorem NestF.keep (h : NestF hd osz g size f w B t n k R) (hb : Below w.heap.size w w1) : NestF hd osz g size f w1 B t n k R :=
 ⟨h.len, h.fill.keep (hb.block _ h.fill.lt), fun r hr => ⟨((h.rows r hr).1.below hb (.inr zR)).more zR hb.size, (h.rows r hr).2⟩, h.apart⟩
theorem NestF.push (h : NestF hd osz g size f w B t n k R) (hb : Below w.heap.size w w1) {x : β} {s : List α} (hx : Sl size f w1 w.heap.size w1.heap.size (hd x).1 (hd x).2.1 s) (hn : (hd x).2.1 ≤ 1048576)
  (ho : Only B (B + 1) w1 w2) (hf : Fill osz g w2 B t n (k + 1) ((R.map (·.1)) ++ [x])) : NestF hd osz g size f w2 B t n (k + 1) (R ++ [(x, s)]) := by
 have hlt := h.fill.lt;have hz := hb.size;have hz2 := ho.size;have h1 := h.keep hb;refine ⟨by rw [List.length_append, h.len]; rfl, by rw [List.map_append]; exact hf, fun r hr => ?_, List.pairwise_append.2 ⟨h.apart, List.pairwise_singleton _ _, fun r hr q hq => ?_⟩⟩
 ·rcases List.mem_append.1 hr with hr | hr
  ·have h2 := h1.rows r hr
   exact ⟨(h2.1.only ho (.inr zR)).more zR hz2, h2.2⟩
  ·rw [List.mem_singleton.1 hr]
   exact ⟨(hx.only ho (.inr (by omega))).more (by omega) hz2, hn⟩
 ·rw [List.mem_singleton.1 hq]
  have h2 := (h.rows r hr).1.span (hd r.1).2.2;have h3 := hx.span (hd x).2.2
  show offS (spanOf (hd r.1)) (spanOf (hd x))
  rcases h2 with h2 | h2
  ·have h2 : spanOf (hd r.1) = (0, 0) := h2
   rw [h2]; exact .inl (Nat.zero_le _)
  ·rcases h3 with h3 | h3
   ·have h3 : spanOf (hd x) = (0, 0) := h3
    rw [h3]; exact .inr (Nat.zero_le _)
   ·exact .inl (Nat.le_trans h2.2.2 h3.1)
theorem NestF.done (h : NestF hd osz g size f w B t n n R) : NestG hd osz g size f w B w.heap.size (some ⟨B, 0, none⟩) n R := by
 have hlt := h.fill.lt;refine ⟨⟨h.fill.done (by rw [List.length_map, h.len]) zR hlt, fun r hr => ⟨(h.rows r hr).1.more (Nat.le_succ _) zR, (h.rows r hr).2⟩⟩, h.apart, fun r hr => ?_⟩
 rcases Nat.eq_zero_or_pos n with rfl | hn
 ·rw [spanOf_zero]; exact .inl (Nat.zero_le _)
 ·rw [spanOf_pos B 0 0 hn]
  have h2 := (h.rows r hr).1.span (hd r.1).2.2
  rcases h2 with h2 | h2
  ·have h2 : spanOf (hd r.1) = (0, 0) := h2
   rw [h2]; exact .inr (Nat.zero_le _)
  ·exact .inl h2.1
end
open Go.ChangeAt Go.ChangeShapes Go.Deep Go.WideShapes
def ArgI (w : World) (lo hi : Nat) (v : Value) (d : List Int) : Prop := ∃ A n c, v = .slice A n c ∧ n ≤ maxLen ∧ SlI w lo hi A n d
section
variable {w w' : World} {lo hi lo' hi' B : Nat} {v : Value} {d : List Int}
theorem ArgI.shape (h : ArgI w lo hi v d) : ∃ A n c, v = .slice A n c := by obtain ⟨A, n, c, h1, _⟩ := h; exact ⟨A, n, c, h1⟩
theorem ArgI.below (h : ArgI w lo hi v d) (hb : Below B w w') (hB : hi ≤ B ∨ w.heap.size ≤ B) : ArgI w' lo hi v d := by
 obtain ⟨A, n, c, h1, h2, h3⟩ := h;exact ⟨A, n, c, h1, h2, h3.below hb hB⟩
theorem ArgI.more (h : ArgI w lo hi v d) (h1 : lo' ≤ lo) (h2 : hi ≤ hi') : ArgI w lo' hi' v d := by
 obtain ⟨A, n, c, q1, q2, q3⟩ := h;exact ⟨A, n, c, q1, q2, q3.more h1 h2⟩
theorem ArgI.only (h : ArgI w lo hi v d) (g : Only lo' hi' w w') (hd : hi ≤ lo' ∨ hi' ≤ lo) : ArgI w' lo hi v d := by
 obtain ⟨A, n, c, h1, h2, h3⟩ := h;exact ⟨A, n, c, h1, h2, h3.only g hd⟩
end
section
variable {H : Type} {enc : TypeId × Value → H} {P : Program} {w : World} {base : Nat} {spare : Nat → Bool} {held : Bool}
end
def putCells (w : World) (b : Nat) : Nat → List Value → World
 | _, [] => w
 | off, u :: us => putCells (w.setCell ⟨b, off, none⟩ u) b (off + 1) us
theorem putCells_row (b : Nat) (t : TypeId) (us : List Value) : ∀ (w : World) (off : Nat) (cur : Array Value), w.heap[b]? = some (.cells cur t (0, 0)) →
  ∃ cur', (putCells w b off us).heap[b]? = some (.cells cur' t (0, 0)) ∧ cur'.size = cur.size ∧ (∀ i, i < off → cur'[i]? = cur[i]?) ∧ (∀ j u, us[j]? = some u → off + us.length ≤ cur.size → cur'[off + j]? = some u) := by
 induction us with
 | nil => exact fun w off cur h => ⟨cur, h, rfl, fun _ _ => rfl, fun j u hu => by simp at hu⟩
 | cons v us ih =>
  intro w off cur h;obtain ⟨cur', h1, h2, h3, h4⟩ := ih (w.setCell ⟨b, off, none⟩ v) (off + 1) (cur.setIfInBounds off v) (heap_setCell_same w b off cur t v h);refine ⟨cur', h1, by rw [h2]; simp, fun i hi => ?_, fun j u hu hl => ?_⟩
  ·rw [h3 i (by omega), Array.getElem?_setIfInBounds_ne (by omega)]
  ·simp only [List.length_cons] at hl
   cases j with
   | zero =>
    simp at hu
    subst hu;rw [Nat.add_zero, h3 off (by omega)]
    simp [Array.getElem?_setIfInBounds]
    omega
   | succ j =>
    simp at hu
    have := h4 j u hu (by simp; omega)
    rwa [show off + (j + 1) = off + 1 + j by omega]
theorem Fill.putN {α : Type} {size : Nat} {f : α → List Value} {w : World} {B n k : Nat} {t : TypeId} {l : List α} (h : Fill size f w B t n k l) (hk : k < n) (hlen : ∀ x, (f x).length = size) {x : α} (hx : l[k]? = some x) :
  Fill size f (putCells w B (k * size) (f x)) B t n (k + 1) l :=
 h.step hlen hx fun cur hc hs => by
  obtain ⟨cur', h1, h2, h3, h4⟩ := putCells_row B t (f x) w (k * size) cur hc;refine ⟨cur', h1, h2, h3, fun j u hu => h4 j u hu ?_⟩;rw [hlen x, hs];have := Nat.mul_le_mul_right size (show k + 1 ≤ n by omega);rw [Nat.add_mul] at this;omega
theorem Sl.putPre {α : Type} {size : Nat} {f : α → List Value} {w : World} {lo hi n b off : Nat} {l : List α} (h : Sl size f w lo hi (some ⟨b, off, none⟩) n l) {k : Nat} {x0 : α} (hx0 : l[k]? = some x0) (hlen : ∀ x, (f x).length = size) (x : α)
  (us : List Value) (hus : us.length ≤ size) (hpre : ∀ j u, j < us.length → (f x)[j]? = some u → us[j]? = some u) (hrest : ∀ j u, us.length ≤ j → (f x)[j]? = some u → (f x0)[j]? = some u) :
  Sl size f (putCells w b (off + k * size) us) lo hi (some ⟨b, off, none⟩) n (l.set k x) := by
 have key : ∀ (us : List Value) (W : World) (o : Nat),
   (∀ (q : Addr), (putCells W b o us).frozen? q = W.frozen? q) ∧ (putCells W b o us).heap.size = W.heap.size ∧
   (∀ i, (i < o ∨ o + us.length ≤ i) → (putCells W b o us).cell? ⟨b, i, none⟩ = W.cell? ⟨b, i, none⟩) ∧
   ((∀ j, j < us.length → ∃ v, W.cell? ⟨b, o + j, none⟩ = some v) → ∀ j u, us[j]? = some u → (putCells W b o us).cell? ⟨b, o + j, none⟩ = some u) := by
  intro us
  induction us with
  | nil => exact fun W o => ⟨fun _ => rfl, rfl, fun _ _ => rfl, fun _ j u hu => by simp at hu⟩
  | cons v us ih =>
   intro W o;obtain ⟨i1, i2, i3, i4⟩ := ih (W.setCell ⟨b, o, none⟩ v) (o + 1);refine ⟨fun q => (i1 q).trans (World.frozen?_setCell W _ q v), by rw [putCells, i2, World.size_setCell], fun i hi => ?_, fun hc j u hu => ?_⟩
   ·simp only [List.length_cons] at hi
    refine (i3 i (by omega)).trans (World.cell?_setCell_other _ _ _ _ (by intro e; injection e with _ e _; omega))
   ·cases j with
    | zero =>
     simp at hu
     subst hu;obtain ⟨v0, hv0⟩ := hc 0 (by simp);exact (i3 o (by omega)).trans (World.cell?_setCell_same _ _ _ hv0)
    | succ j =>
     simp at hu
     have := i4 (fun j hj => by
      obtain ⟨v1, hv1⟩ := hc (j + 1) (by simp; omega);exact ⟨v1, (World.cell?_setCell_other _ _ _ _ (by intro e; injection e with _ e _; omega)).trans (by rw [← hv1]; congr 2; omega)⟩) j u hu
     rw [show o + (j + 1) = o + 1 + j by omega];exact this
 obtain ⟨k1, k2, k3, k4⟩ := key us w (off + k * size);have hkl : k < l.length := (List.getElem?_eq_some_iff.1 hx0).1;have hll := h.len;refine ⟨by rw [List.length_set]; exact h.len, fun _ => ?_⟩;obtain ⟨b', off', e, g1, g2, g3, hc⟩ := h.at_ (by omega)
 cases e
 refine ⟨b, off, rfl, g1, g2, by rw [k2]; exact g3, fun i z hz j u hu => ?_⟩;have hj : j < size := by rw [← hlen z]; exact (List.getElem?_eq_some_iff.1 hu).1
 rw [k1]
 by_cases hik : i = k
 ·subst hik
  rw [List.getElem?_set_self hkl] at hz
  cases hz
  have hold := hc i x0 hx0;have hex : ∀ j, j < us.length → ∃ v, w.cell? ⟨b, off + (i * size + j), none⟩ = some v ∧ w.frozen? ⟨b, off + (i * size + j), none⟩ = false := fun j hj => 
   ⟨_, hold j _ (List.getElem?_eq_getElem (by rw [hlen]; omega))⟩
  rcases Nat.lt_or_ge j us.length with hju | hju
  ·refine ⟨?_, (hex j hju).choose_spec.2⟩
   rw [← Nat.add_assoc];exact k4 (fun j hj => by rw [Nat.add_assoc]; exact ⟨_, (hex j hj).choose_spec.1⟩) j u (hpre j u hju hu)
  ·obtain ⟨h1, h2⟩ := hold j u (hrest j u hju hu)
   refine ⟨?_, h2⟩;rw [k3 _ (by omega)];exact h1
 ·have hil : i < l.length := by
   have := (List.getElem?_eq_some_iff.1 hz).1
   rwa [List.length_set] at this
  rw [List.getElem?_set_ne (by omega)] at hz;obtain ⟨h1, h2⟩ := hc i z hz j u hu;refine ⟨?_, h2⟩;rw [k3 _ ?_]
  ·exact h1
  ·rcases Nat.lt_or_ge i k with hlt | hge
   ·have := Nat.mul_le_mul_right size (show i + 1 ≤ k by omega)
    rw [Nat.add_mul] at this;omega
   ·have := Nat.mul_le_mul_right size (show k + 1 ≤ i by omega)
    rw [Nat.add_mul] at this;omega
theorem Sl.putN {α : Type} {size : Nat} {f : α → List Value} {w : World} {lo hi n b off : Nat} {l : List α} (h : Sl size f w lo hi (some ⟨b, off, none⟩) n l) {k : Nat} (hk : k < n) (hlen : ∀ x, (f x).length = size) (x : α) :
  Sl size f (putCells w b (off + k * size) (f x)) lo hi (some ⟨b, off, none⟩) n (l.set k x) :=
 h.putPre (x0 := l[k]'(by rw [h.len]; exact hk)) (List.getElem?_eq_getElem _) hlen x (f x) (by rw [hlen]; exact zR) (fun _ _ _ h => h) (fun j u hj hu => by
  have := (List.getElem?_eq_some_iff.1 hu).1
  omega)
end Go.Proofs.YtnhomkmfbngmgaaGreatDoor
namespace Go.Proofs.YtnhomkmfbngmgaaGreatDoor
open Go.ChangeShapes Go.WideShapes Go.ChangeAt Go.RowKit
def strv (s : ByteArray) : List Value := [.string s]
abbrev SlS := Sl 1 strv
theorem SlS.get {w : World} {lo hi n : Nat} {A : Option Addr} {l : List ByteArray} (h : SlS w lo hi A n l) {k : Nat} (hk : k < n) :
  ∃ b off x, A = some ⟨b, off, none⟩ ∧ lo ≤ b ∧ b < hi ∧ b < w.heap.size ∧ l[k]? = some x ∧ w.cell? ⟨b, off + k, none⟩ = some (.string x) ∧ w.frozen? ⟨b, off + k, none⟩ = false := by
 obtain ⟨b, off, e, g1, g2, g3, hc⟩ := h.at_ (by omega);have hl : k < l.length := by rw [h.len]; exact hk
 have h0 := hc k l[k] (List.getElem?_eq_getElem hl) 0 _ rfl;simp only [Nat.mul_one, Nat.add_zero] at h0;exact ⟨b, off, l[k], e, g1, g2, g3, List.getElem?_eq_getElem hl, h0.1, h0.2⟩
theorem str_neq {a b : ByteArray} (h : a ≠ b) : (a.toList == b.toList) = false := by
 obtain ⟨⟨x⟩⟩ := a;obtain ⟨⟨y⟩⟩ := b;have e1 : (ByteArray.mk ⟨x⟩).toList = x := ByteArray.toList_mk x;have e2 : (ByteArray.mk ⟨y⟩).toList = y := ByteArray.toList_mk y;rw [e1, e2, beq_eq_false_iff_ne];rintro rfl;exact h rfl
def totS (l : List ByteArray) : Nat := l.length + (l.map (·.size)).sum
theorem info_string : (Tryz.prog.info? 9).map (fun i => (i.zero, i.size, i.bytes)) = some (some (.string ByteArray.empty), 1, 16) := by kernel_rfl
abbrev Ed := Int × Int × Int
def ev (e : Ed) : List Value := [.int .i64 e.1, .int .i64 e.2.1, .int .i64 e.2.2]
abbrev SlE := Sl 3 ev
theorem SlE.get {w : World} {lo hi n : Nat} {A : Option Addr} {l : List Ed} (h : SlE w lo hi A n l) {k : Nat} (hk : k < n) :
  ∃ b off x y z, A = some ⟨b, off, none⟩ ∧ lo ≤ b ∧ b < hi ∧ b < w.heap.size ∧ l[k]? = some (x, y, z) ∧ w.cell? ⟨b, off + k * 3, none⟩ = some (.int .i64 x) ∧ w.cell? ⟨b, off + k * 3 + 1, none⟩ = some (.int .i64 y) ∧ w.cell? ⟨b, off + k * 3 + 2, none⟩ = some (.int .i64 z) ∧
   w.frozen? ⟨b, off + k * 3, none⟩ = false ∧ w.frozen? ⟨b, off + k * 3 + 1, none⟩ = false ∧ w.frozen? ⟨b, off + k * 3 + 2, none⟩ = false := by
 obtain ⟨b, off, e, g1, g2, g3, hc⟩ := h.at_ (by omega);have hl : k < l.length := by rw [h.len]; exact hk
 have h0 := hc k l[k] (List.getElem?_eq_getElem hl) 0 _ rfl;have h1 := hc k l[k] (List.getElem?_eq_getElem hl) 1 _ rfl;have h2 := hc k l[k] (List.getElem?_eq_getElem hl) 2 _ rfl;rw [← Nat.add_assoc] at h1 h2;exact ⟨b, off, l[k].1, l[k].2.1, l[k].2.2, e, g1, g2, g3, List.getElem?_eq_getElem hl, h0.1, h1.1, h2.1, h0.2, h1.2, h2.2⟩
theorem Fill.set3 {α : Type} {f : α → List Value} {w : World} {B n k : Nat} {t : TypeId} {l : List α} (h : Fill 3 f w B t n k l) (hk : k < n) (hlen : ∀ x, (f x).length = 3) {x : α} (hx : l[k]? = some x) {u v z : Value} (hf : f x = [u, v, z]) :
  Fill 3 f (((w.setCell ⟨B, k * 3, none⟩ u).setCell ⟨B, k * 3 + 1, none⟩ v).setCell ⟨B, k * 3 + 2, none⟩ z) B t n (k + 1) l :=
 h.step hlen hx fun cur hc hs => ⟨((cur.setIfInBounds (k * 3) u).setIfInBounds (k * 3 + 1) v).setIfInBounds (k * 3 + 2) z, heap_setCell_same _ B _ _ t z (heap_setCell_same _ B _ _ t v (heap_setCell_same w B _ cur t u hc)), by simp,
  fun i hi => by rw [Array.getElem?_setIfInBounds_ne (by omega), Array.getElem?_setIfInBounds_ne (by omega), Array.getElem?_setIfInBounds_ne (by omega)], fun j q hq => by
  rw [hf] at hq
  match j, hq with
  | 0, hq =>
   simp at hq
   subst hq;rw [Array.getElem?_setIfInBounds_ne (by omega), Array.getElem?_setIfInBounds_ne (by omega)]
   simp [Array.getElem?_setIfInBounds]
   omega
  | 1, hq =>
   simp at hq
   subst hq;rw [Array.getElem?_setIfInBounds_ne (by omega)]
   simp [Array.getElem?_setIfInBounds]
   omega
  | 2, hq =>
   simp at hq
   subst hq
   simp [Array.getElem?_setIfInBounds]
   omega⟩
theorem info_implEdge : (Tryz.prog.info? 84).map (fun i => (i.zero, i.size, i.bytes)) = some (some (.agg #[.int .i64 0, .int .i64 0, .int .i64 0]), 3, 24) := by kernel_rfl
end Go.Proofs.YtnhomkmfbngmgaaGreatDoor
namespace Go.Proofs.YtnhomkmfbngmgaaGreatDoor
def allK (p : Nat → Bool) (n : Nat) : Bool := (List.range n).all p
theorem allK_bad {p : Nat → Bool} {n k : Nat} (hk : k < n) (h : p k = false) : allK p n = false := by
 unfold allK;rw [← Bool.not_eq_true, List.all_eq_true];intro hc;have := hc k (List.mem_range.2 hk);rw [h] at this
 cases this
theorem allK_good {p : Nat → Bool} {n : Nat} (h : ∀ j, j < n → p j = true) : allK p n = true :=
 List.all_eq_true.2 fun k hk => h k (List.mem_range.1 hk)
theorem allK_get {p : Nat → Bool} {n : Nat} (h : allK p n = true) {k : Nat} (hk : k < n) : p k = true :=
 (List.all_eq_true.1 h) k (List.mem_range.2 hk)
theorem lt_succ_cases {p : Nat → Prop} {k : Nat} (h : ∀ j, j < k → p j) (hk : p k) : ∀ j, j < k + 1 → p j := fun j hj => by
 rcases Nat.lt_or_ge j k with h1 | h1
 ·exact h j h1
 ·have : j = k := by omega
  subst this;exact hk
abbrev DL := Int × Int × List ByteArray × List Ed
def tauB : ByteArray := ⟨#[116, 97, 117]⟩
def edLess (a b : Ed) : Bool := if a.1 ≠ b.1 then decide (a.1 < b.1) else if a.2.1 ≠ b.2.1 then decide (a.2.1 < b.2.1) else decide (a.2.2 < b.2.2)
section
variable (labB : ByteArray → Bool) (sLess : ByteArray → ByteArray → Bool)
def okLab (ls : List ByteArray) (k : Nat) : Bool := match ls[k]? with
 | some s => labB s && (decide (s = tauB) == decide (k = 0)) && (decide (k ≤ 1) || match ls[k - 1]? with | some r => sLess r s | none => true)
 | none => true
def okEd (st m : Int) (es : List Ed) (k : Nat) : Bool := match es[k]? with
 | some e => inB e.1 0 (st - 1) && inB e.2.2 0 (st - 1) && inB e.2.1 0 (m - 1) && (decide (k = 0) || match es[k - 1]? with | some r => edLess r e | none => true)
 | none => true
def ltsB (d : DL) : Bool :=
 (inB d.1 1 40 && inB d.2.1 0 (d.1 - 1) && inB (d.2.2.1.length : Int) 1 12 && decide (d.2.2.2.length ≤ 300)) &&
 (allK (okLab labB sLess d.2.2.1) d.2.2.1.length && allK (okEd d.1 d.2.2.1.length d.2.2.2) d.2.2.2.length)
end
open Go.ChangeAt Go.ChangeShapes Go.Deep Go.RowKit Go.WideShapes
def ArgS (w : World) (lo hi : Nat) (v : Value) (d : List ByteArray) : Prop := ∃ A n c, v = .slice A n c ∧ n ≤ maxLen ∧ (∀ s ∈ d, s.size ≤ maxLen) ∧ SlS w lo hi A n d
def ArgE (w : World) (lo hi : Nat) (v : Value) (d : List Ed) : Prop := ∃ A n c, v = .slice A n c ∧ n ≤ maxLen ∧ SlE w lo hi A n d
section
variable {w w' : World} {lo hi lo' hi' B : Nat} {v : Value}
theorem ArgS.shape {d : List ByteArray} (h : ArgS w lo hi v d) : ∃ A n c, v = .slice A n c := by obtain ⟨A, n, c, h1, _⟩ := h; exact ⟨A, n, c, h1⟩
theorem ArgS.below {d : List ByteArray} (h : ArgS w lo hi v d) (hb : Below B w w') (hB : hi ≤ B ∨ w.heap.size ≤ B) : ArgS w' lo hi v d := by
 obtain ⟨A, n, c, h1, h2, h4, h3⟩ := h;exact ⟨A, n, c, h1, h2, h4, h3.below hb hB⟩
theorem ArgS.more {d : List ByteArray} (h : ArgS w lo hi v d) (h1 : lo' ≤ lo) (h2 : hi ≤ hi') : ArgS w lo' hi' v d := by
 obtain ⟨A, n, c, q1, q2, q4, q3⟩ := h;exact ⟨A, n, c, q1, q2, q4, q3.more h1 h2⟩
theorem ArgS.only {d : List ByteArray} (h : ArgS w lo hi v d) (g : Only lo' hi' w w') (hd : hi ≤ lo' ∨ hi' ≤ lo) : ArgS w' lo hi v d := by
 obtain ⟨A, n, c, h1, h2, h4, h3⟩ := h;exact ⟨A, n, c, h1, h2, h4, h3.only g hd⟩
theorem ArgE.shape {d : List Ed} (h : ArgE w lo hi v d) : ∃ A n c, v = .slice A n c := by obtain ⟨A, n, c, h1, _⟩ := h; exact ⟨A, n, c, h1⟩
theorem ArgE.below {d : List Ed} (h : ArgE w lo hi v d) (hb : Below B w w') (hB : hi ≤ B ∨ w.heap.size ≤ B) : ArgE w' lo hi v d := by
 obtain ⟨A, n, c, h1, h2, h3⟩ := h;exact ⟨A, n, c, h1, h2, h3.below hb hB⟩
theorem ArgE.more {d : List Ed} (h : ArgE w lo hi v d) (h1 : lo' ≤ lo) (h2 : hi ≤ hi') : ArgE w lo' hi' v d := by
 obtain ⟨A, n, c, q1, q2, q3⟩ := h;exact ⟨A, n, c, q1, q2, q3.more h1 h2⟩
theorem ArgE.only {d : List Ed} (h : ArgE w lo hi v d) (g : Only lo' hi' w w') (hd : hi ≤ lo' ∨ hi' ≤ lo) : ArgE w' lo hi v d := by
 obtain ⟨A, n, c, h1, h2, h3⟩ := h;exact ⟨A, n, c, h1, h2, h3.only g hd⟩
end
abbrev CL := Int × Int × Value × Value
def ReadL (w : World) (lo hi : Nat) (x : CL) (d : DL) : Prop := x.1 = d.1 ∧ x.2.1 = d.2.1 ∧ ArgS w lo hi x.2.2.1 d.2.2.1 ∧ ArgE w lo hi x.2.2.2 d.2.2.2
def totL (d : DL) : Nat := totS d.2.2.1 + d.2.2.2.length
theorem totL_lab (d : DL) : d.2.2.1.length ≤ totL d := by unfold totL totS; omega
theorem totL_edg (d : DL) : d.2.2.2.length ≤ totL d := by unfold totL; omega
section
variable {w w' : World} {lo hi lo' hi' B : Nat} {x : CL} {d : DL}
theorem ReadL.below (h : ReadL w lo hi x d) (hb : Below B w w') (hB : hi ≤ B ∨ w.heap.size ≤ B) : ReadL w' lo hi x d := ⟨h.1, h.2.1, h.2.2.1.below hb hB, h.2.2.2.below hb hB⟩
theorem ReadL.more (h : ReadL w lo hi x d) (h1 : lo' ≤ lo) (h2 : hi ≤ hi') : ReadL w lo' hi' x d := ⟨h.1, h.2.1, h.2.2.1.more h1 h2, h.2.2.2.more h1 h2⟩
theorem ReadL.only (h : ReadL w lo hi x d) (g : Only lo' hi' w w') (hd : hi ≤ lo' ∨ hi' ≤ lo) : ReadL w' lo hi x d := ⟨h.1, h.2.1, h.2.2.1.only g hd, h.2.2.2.only g hd⟩
end
instance decEdL : DecidableEq (List Ed) := inferInstance
instance decBaL : DecidableEq (List ByteArray) := inferInstance
instance decDL : DecidableEq DL := inferInstance
end Go.Proofs.YtnhomkmfbngmgaaGreatDoor
namespace Go.Proofs.YtnhomkmfbngmgaaGreatDoor
open Go.ChangeShapes Go.WideShapes Go.ChangeAt Go.RowKit
theorem below_drewN (w : World) (k : Nat) : Below w.heap.size w (w.drewN k) := ⟨rfl, rfl, rfl, zR, fun _ _ => rfl⟩
theorem within_calls (n lo hi : Int) (w : World) :
  Calls Tryz.prog 118 #[.int .i64 n, .int .i64 lo, .int .i64 hi] w fun e w' => e = .returned (.bool (inB n lo hi)) ∧ w = w' := by
 by_cases h : lo ≤ n
 ·have hr := hide (show inB n lo hi = decide (n ≤ hi) from by unfold inB; simp [h])
  go_enter Tryz.func118, Tryz.ntmps118
  go_wp2
  go_ret;exact ⟨ret_b (by rw [hr.out]), rfl⟩
 ·have hr := hide (show inB n lo hi = false from by unfold inB; simp [h])
  go_enter Tryz.func118, Tryz.ntmps118
  go_wp2
  go_ret;exact ⟨ret_b (by rw [hr.out]), rfl⟩
theorem index_calls (x : Int) (m : Nat) (hm : m ≤ 1048576) (w : World) :
  Calls Tryz.prog 121 #[.int .i64 x, .int .i64 m] w fun e w' => e = .returned (.bool (inB x 0 ((m : Int) - 1))) ∧ w = w' := by
 go_enter Tryz.func121, Tryz.ntmps121
 go_wp2_with (go_at_call 118; refine (within_calls _ _ _ _).mono ?_; rintro e w' ⟨rfl, rfl⟩)
 go_ret;exact ⟨rfl, rfl⟩
theorem inB_true {n lo hi : Int} : inB n lo hi = true ↔ lo ≤ n ∧ n ≤ hi := by unfold inB; simp
def smallB (c : Int) : Bool := decide (97 ≤ c) && decide (c ≤ 122)
def digitB (c : Int) : Bool := decide (48 ≤ c) && decide (c ≤ 57)
theorem isDigit_calls (c : Int) (w : World) : Calls Tryz.prog 306 #[.int .u8 c] w fun e w' => e = .returned (.bool (digitB c)) ∧ w = w' := by
 by_cases h1 : 48 ≤ c <;> by_cases h2 : c ≤ 57
 all_goals
  go_enter Tryz.func306, Tryz.ntmps306
  go_wp2
  go_ret;exact ⟨by simp [digitB, h1, h2], rfl⟩
def badX (k : Nat) (x : Int) : Bool := !(smallB x) && (decide (k = 0) || !(digitB x))
def badAt (s : ByteArray) (k : Nat) : Bool := match s.data.toList[k]? with | some c => badX k (c.toNat : Int) | none => false
def nameB (s : ByteArray) : Bool := (List.range s.size).all (fun k => !(badAt s k)) && decide (1 ≤ s.size ∧ s.size ≤ 10)
theorem badAt_get (s : ByteArray) (k : Nat) (h : k < s.size) : badAt s k = badX k (s[k].toNat : Int) := by
 unfold badAt;have : s.data.toList[k]? = some s[k] := by
  rw [List.getElem?_eq_getElem (by simpa using h)]
  rfl
 rw [this]
theorem nameB_bad {s : ByteArray} {k : Nat} (h : k < s.size) (hb : badX k (s[k].toNat : Int) = true) : nameB s = false := by
 unfold nameB;rw [Bool.and_eq_false_iff]
 left
 rw [← Bool.not_eq_true, List.all_eq_true];intro hc;have := hc k (List.mem_range.2 h);rw [badAt_get s k h, hb] at this
 cases this
theorem nameB_good {s : ByteArray} (h : ∀ j (hj : j < s.size), badX j (s[j].toNat : Int) = false) : nameB s = decide (1 ≤ s.size ∧ s.size ≤ 10) := by
 unfold nameB;rw [(List.all_eq_true.2 fun k hk => by rw [badAt_get s k (List.mem_range.1 hk), h k (List.mem_range.1 hk)]; rfl), Bool.true_and]
theorem isName_calls (s : ByteArray) (w : World) (hs : s.size ≤ maxLen) : Calls Tryz.prog 250 #[.string s] w fun e w' => e = .returned (.bool (nameB s)) ∧ w = w' := by
 unfold maxLen at hs;have hs63 : s.size ≤ 9223372036854775807 := by omega
 go_enter Tryz.func250, Tryz.ntmps250
 go_wp2
 go_loop [7] (fun i => ∃ k : Nat, k ≤ s.size ∧ i = .int .i64 k ∧ Hid (∀ j (hj : j < s.size), j < k → badX j (s[j].toNat : Int) = false)) (fun i => s.size - (intOf i).toNat)
 case atStart => exact ⟨0, Nat.zero_le _, rfl, fun j _ h => absurd h (by omega)⟩
 case round =>
  obtain ⟨k, hk, rfl, ha⟩ := hrel
  by_cases hlt : k < s.size
  ·have hbad := hide (fun hb => nameB_bad (s := s) hlt hb)
   have hnext : Hid (badX k (s[k].toNat : Int) = false → ∀ j (hj : j < s.size), j < k + 1 → badX j (s[j].toNat : Int) = false) := fun hg j hj hjk => by
    rcases Nat.lt_or_ge j k with h1 | h1
    ·exact ha.out j hj h1
    ·have : j = k := by omega
     subst this;exact hg
   have hq := hide (isDigit_calls (s[k].toNat : Int) w);generalize hc : (s[k].toNat : Int) = c at *;have hgetk : ∀ h : k < s.size, (s[k].toNat : Int) = c := fun _ => hc
   by_cases h1 : 97 ≤ c ∧ c ≤ 122
   ·have h1a := h1.1
    have h1b := h1.2;have hg : Hid (badX k c = false) := by show _ = _; simp [badX, smallB, h1a, h1b]
    clear h1;go_wp2_with fail
    go_round
    case rel => exact ⟨k + 1, by omega, by go_num, hnext.out hg.out⟩
    case measure => simp [intOf]; omega
   ·by_cases h1a : 97 ≤ c
    ·have h1b : ¬ c ≤ 122 := fun h => h1 ⟨h1a, h⟩
     clear h1;have hsm : Hid (smallB c = false) := by show _ = _; simp [smallB]; omega
     by_cases hk0 : k = 0
     ·have hv := hide (hbad.out (by rw [hk0]; simp [badX, hsm.out]))
      subst hk0;clear hnext hq;go_wp2_with fail;go_ret;exact ⟨ret_b (by rw [hv.out]), rfl⟩
     ·have hki : ((k : Int) == 0) = false := by rw [beq_eq_false_iff_ne]; omega
      by_cases hd : digitB c = true
      ·have hqq := hq.out
       rw [hd] at hqq;replace hqq := hide hqq;have hg : Hid (badX k c = false) := by show _ = _; simp [badX, hsm.out, hk0, hd]
       clear hd hq hk0
       go_wp2_with (go_at_call 306; (with_reducible refine hqq.out.mono ?_); rintro e w1 ⟨rfl, rfl⟩)
       go_round
       case rel => exact ⟨k + 1, by omega, by go_num, hnext.out hg.out⟩
       case measure => simp [intOf]; omega
      ·have hqq := hq.out
       replace hd := Bool.eq_false_iff.2 hd;rw [hd] at hqq;replace hqq := hide hqq;have hv := hide (hbad.out (by simp [badX, hsm.out, hd]));clear hd hq hk0 hnext
       go_wp2_with (go_at_call 306; (with_reducible refine hqq.out.mono ?_); rintro e w1 ⟨rfl, rfl⟩)
       go_ret;exact ⟨ret_b (by rw [hv.out]), rfl⟩
    ·clear h1
     have hsm : Hid (smallB c = false) := by show _ = _; simp [smallB]; omega
     by_cases hk0 : k = 0
     ·have hv := hide (hbad.out (by rw [hk0]; simp [badX, hsm.out]))
      subst hk0;clear hnext hq;go_wp2_with fail;go_ret;exact ⟨ret_b (by rw [hv.out]), rfl⟩
     ·have hki : ((k : Int) == 0) = false := by rw [beq_eq_false_iff_ne]; omega
      by_cases hd : digitB c = true
      ·have hqq := hq.out
       rw [hd] at hqq;replace hqq := hide hqq;have hg : Hid (badX k c = false) := by show _ = _; simp [badX, hsm.out, hk0, hd]
       clear hd hq hk0
       go_wp2_with (go_at_call 306; (with_reducible refine hqq.out.mono ?_); rintro e w1 ⟨rfl, rfl⟩)
       go_round
       case rel => exact ⟨k + 1, by omega, by go_num, hnext.out hg.out⟩
       case measure => simp [intOf]; omega
      ·have hqq := hq.out
       replace hd := Bool.eq_false_iff.2 hd;rw [hd] at hqq;replace hqq := hide hqq;have hv := hide (hbad.out (by simp [badX, hsm.out, hd]));clear hd hq hk0 hnext
       go_wp2_with (go_at_call 306; (with_reducible refine hqq.out.mono ?_); rintro e w1 ⟨rfl, rfl⟩)
       go_ret;exact ⟨ret_b (by rw [hv.out]), rfl⟩
  ·have hkn : k = s.size := by omega
   have hv := hide (nameB_good (s := s) (fun j hj => ha.out j hj (by omega)))
   by_cases z1 : 1 ≤ s.size
   ·by_cases z2 : s.size ≤ 10
    ·have hvv : Hid (nameB s = true) := by show _ = _; rw [hv.out]; simp [z1, z2]
     have z1i : (1 : Int) ≤ (s.size : Int) := by omega
     have z2i : (s.size : Int) ≤ 10 := by omega
     clear hv ha;go_wp2_with fail;go_ret;exact ⟨ret_b (by rw [hvv.out]), rfl⟩
    ·have hvv : Hid (nameB s = false) := by show _ = _; rw [hv.out]; simp [z2]
     have z1i : (1 : Int) ≤ (s.size : Int) := by omega
     have z2i : ¬ (s.size : Int) ≤ 10 := by omega
     clear hv ha;go_wp2_with fail;go_ret;exact ⟨ret_b (by rw [hvv.out]), rfl⟩
   ·have hvv : Hid (nameB s = false) := by show _ = _; rw [hv.out]; simp; omega
    have z1i : ¬ (1 : Int) ≤ (s.size : Int) := by omega
    clear hv ha;go_wp2_with fail;go_ret;exact ⟨ret_b (by rw [hvv.out]), rfl⟩
structure Good (w : World) : Prop where
 shape : w.ShapedOpen Tryz.prog
 tab : Lib.TabIs Tryz.prog w "internal/strconv.uint64pow10" .u64 Lib.pow10Tab
 syn : ∃ tp p, w.var? Tryz.prog "strconv.ErrSyntax" = some #[.iface tp p]
def Env (w : World) : Prop := ∃ W0, Good W0 ∧ Below W0.heap.size W0 w
theorem Env.of {w : World} (h : Good w) : Env w := ⟨w, h, bR⟩
theorem Env.below {w w' : World} {B : Nat} (h : Env w) (hb : Below B w w') (hB : w.heap.size ≤ B) : Env w' := by
 obtain ⟨W0, h0, h1⟩ := h;have hs := h1.size;exact ⟨W0, h0, h1.trans (hb.mono (by omega))⟩
theorem var_lt {W : World} {n : String} {cs : Array Value} {g : Nat} (hg : Tryz.prog.globalNamed n = some g) (hv : W.var? Tryz.prog n = some cs) : g < W.heap.size := by
 unfold World.var? at hv;rw [hg] at hv
 rcases Nat.lt_or_ge g W.heap.size with h | h
 ·exact h
 ·simp [Array.getElem?_eq_none h] at hv
theorem Env.good {w : World} (h : Env w) : Good w := by
 obtain ⟨W0, h0, h1⟩ := h;have hblk : ∀ {k : Nat} {o : Obj}, W0.heap[k]? = some o → w.heap[k]? = some o := fun {k o} hk => (h1.block k (Array.getElem?_eq_some_iff.1 hk).1).trans hk
 obtain ⟨g1, e1⟩ : ∃ g, Tryz.prog.globalNamed "internal/strconv.uint64pow10" = some g := Option.isSome_iff_exists.1 (by kernel_rfl);obtain ⟨g2, e2⟩ : ∃ g, Tryz.prog.globalNamed "strconv.ErrSyntax" = some g := Option.isSome_iff_exists.1 (by kernel_rfl);refine ⟨⟨fun g zero t hg hr => ?_, fun k hk1 hk2 => ?_⟩, ?_, ?_⟩
 ·obtain ⟨cs, a, b, c⟩ := h0.shape.1 g zero t hg hr
  exact ⟨cs, hblk a, b, fun hb => Row.ok_of_shape (fun bb x hx => by
   unfold World.shape? at hx ⊢
   rcases Nat.lt_or_ge bb W0.heap.size with h | h
   ·rw [h1.block bb h]; exact hx
   ·simp [Array.getElem?_eq_none h] at hx) (c hb)⟩
 ·obtain ⟨o, o2, a, b⟩ := h0.shape.2 k hk1 hk2
  exact ⟨o, o2, hblk a, b⟩
 ·exact var?_below h1 e1 (var_lt e1 h0.tab) h0.tab
 ·obtain ⟨tp, p, hv⟩ := h0.syn
  exact ⟨tp, p, var?_below h1 e2 (var_lt e2 hv) hv⟩
theorem decimal_calls (n : Int) (h0 : -9223372036854775808 ≤ n) (h1 : n ≤ 9223372036854775807) (w : World) (he : Env w) :
  Calls Tryz.prog 56 #[.int .i64 n] w fun e w' => e = .returned (.string ⟨(Lib.itoa n).toArray⟩) ∧ Below w.heap.size w w' := by
 have q := hide (Tryz.strconv_FormatInt_10 n h0 h1 w he.good.tab);clear he;go_enter Tryz.func56, Tryz.ntmps56;go_wp2_with fail;refine q.out.mono ?_;rintro e w1 ⟨rfl, k, os, rfl⟩;go_wp2_with fail;go_ret;exact ⟨rfl, Lib.below_grow _ _ zR _ _⟩
theorem parse_short (l : List UInt8) (h : ¬ 18 < (Lib.trimPrefix l [45]).length) :
  (∃ v : Int, Lib.parseIntB 64 l = .ok v ∧ -9223372036854775808 ≤ v ∧ v ≤ 9223372036854775807) ∨ Lib.parseIntB 64 l = Lib.NumEnd.syntax := by
 cases l with
 | nil => exact .inr rfl
 | cons c r =>
  have key : ∀ t : List UInt8, t.length ≤ 18 → Lib.parseUintB 64 t = Lib.NumEnd.syntax ∨ ∃ u, Lib.parseUintB 64 t = .ok u ∧ u < 10 ^ 18 := by
   intro t ht;rw [parseUintB_short t ht]
   by_cases hd : t ≠ [] ∧ t.all isDig = true
   ·rw [if_pos hd]
    exact .inr ⟨_, rfl, valN_18 ht hd.2⟩
   ·rw [if_neg hd]
    exact .inl rfl
  have h18 : (10 : Nat) ^ 18 = 1000000000000000000 := by decide
  have h63 : (2 : Nat) ^ (64 - 1) = 9223372036854775808 := by decide
  rw [h18] at key;unfold Lib.parseIntB
  by_cases hs : c.toNat = 43 ∨ c.toNat = 45
  ·have hlen : r.length ≤ 18 := by
    by_cases hc : c = 45
    ·subst hc
     have : Lib.trimPrefix (45 :: r) [45] = r := by unfold Lib.trimPrefix Lib.hasPrefix; simp
     rw [this] at h;omega
    ·have : Lib.trimPrefix (c :: r) [45] = c :: r := by
      unfold Lib.trimPrefix Lib.hasPrefix;rw [if_neg]
      simp
      exact fun h => hc h.symm
     rw [this] at h;simp only [List.length_cons] at h;omega
   simp only [if_pos hs]
   rcases key _ hlen with h1 | ⟨u, h1, h2⟩
   ·right
    rw [h1]
   ·left
    rw [h1];simp only [h63];rw [if_neg (by omega), if_neg (by omega)]
    by_cases hn : c.toNat = 45
    ·simp only [hn, if_true]
     exact ⟨_, rfl, by omega, by omega⟩
    ·simp only [hn, if_false]
     exact ⟨_, rfl, by omega, by omega⟩
  ·have hlen : (c :: r).length ≤ 18 := by
    have : Lib.trimPrefix (c :: r) [45] = c :: r := by
     unfold Lib.trimPrefix Lib.hasPrefix;rw [if_neg]
     simp
     rintro rfl;exact hs (Or.inr rfl)
    rw [this] at h;omega
   simp only [if_neg hs]
   rcases key _ hlen with h1 | ⟨u, h1, h2⟩
   ·right
    rw [h1]
   ·left
    rw [h1];simp only [h63];rw [if_neg (by omega), if_neg (by omega)];have hn : ¬ c.toNat = 45 := fun e => hs (Or.inr e)
    simp only [hn, if_false];exact ⟨_, rfl, by omega, by omega⟩
def numR (o : Option Int) : Value := .tuple #[.int .i64 (o.getD 0), .bool o.isSome]
theorem numP_long {l : List UInt8} (h : 18 < (Lib.trimPrefix l [45]).length) : numP l = none := by unfold numP; rw [if_pos h]
theorem numP_syn {l : List UInt8} (h : Lib.parseIntB 64 l = Lib.NumEnd.syntax) : numP l = none := by unfold numP; rw [h]; split <;> rfl
theorem numP_ok {l : List UInt8} {v : Int} (hl : ¬ 18 < (Lib.trimPrefix l [45]).length) (h : Lib.parseIntB 64 l = .ok v) : numP l = if Lib.itoa v = l then some v else none := by unfold numP; rw [if_neg hl, h]
theorem bytes_eta (s : ByteArray) : (⟨s.data.toList.toArray⟩ : ByteArray) = s := by cases s; simp
theorem bytes_size (l : List UInt8) : (⟨l.toArray⟩ : ByteArray).size = l.length := by simp [ByteArray.size]
theorem readDecimal_calls (s : ByteArray) (hs : s.size ≤ 1048576) (w : World) (he : Env w) :
  Calls Tryz.prog 115 #[.string s] w fun e w' => e = .returned (numR (numS s.data.toList)) ∧ Below w.heap.size w w' := by
 rw [← numP_eq];have q1 : Calls Tryz.prog 213 #[.string s, .string ⟨#[45]⟩] w fun e w' => e = .returned (.string ⟨(Lib.trimPrefix s.data.toList [45]).toArray⟩) ∧ w' = w := Tryz.strings_TrimPrefix s ⟨#[45]⟩ w
 have hsz := bytes_size (Lib.trimPrefix s.data.toList [45]);generalize (⟨(Lib.trimPrefix s.data.toList [45]).toArray⟩ : ByteArray) = t at *;replace q1 := hide q1
 by_cases hl : 18 < (Lib.trimPrefix s.data.toList [45]).length
 ·have hv := hide (numP_long hl)
  have hlt : (18 : Int) < (t.size : Int) := by omega
  clear hl hsz he;go_enter Tryz.func115, Tryz.ntmps115;go_wp2_with fail;refine q1.out.mono ?_;rintro e w1 ⟨rfl, rfl⟩;go_wp2_with fail;go_ret2;exact ⟨by rw [hv.out]; rfl, bR⟩
 ·have hlt : ¬ (18 : Int) < (t.size : Int) := by omega
  clear hsz
  rcases parse_short _ hl with ⟨v, hp, hb0, hb1⟩ | hp
  ·have q2 := hide (((Tryz.strconv_ParseInt_10_at64_ok s (by omega) v hp w).mono fun e w' ⟨a, b⟩ => ⟨a, b.elim (fun h => h ▸ bR) (fun ⟨t, h⟩ => h ▸ Lib.bytesWorld_below _ _ _)⟩ :
    Calls Tryz.prog 214 #[.string s, .int .i64 10, .int .i64 64] w fun e w' => e = .returned (.tuple #[.int .i64 v, .nilIface]) ∧ Below w.heap.size w w'))
   have q3 := hide (fun W (hW : Below w.heap.size w W) => decimal_calls v hb0 hb1 W (he.below hW zR));have hv := hide (numP_ok hl hp);clear hl hp he hb0 hb1
   by_cases hi : Lib.itoa v = s.data.toList
   ·have hq : (⟨(Lib.itoa v).toArray⟩ : ByteArray) = s := by rw [hi, bytes_eta]
    have hv2 : Hid (numP s.data.toList = some v) := by show _ = _; rw [hv.out, if_pos hi]
    rw [hq] at q3;clear hv hi hq;go_enter Tryz.func115, Tryz.ntmps115;go_wp2_with fail;refine q1.out.mono ?_;rintro e w1 ⟨rfl, rfl⟩;go_wp2_with fail;refine q2.out.mono ?_;rintro e w2 ⟨rfl, hb2⟩;go_wp2_with fail;refine (q3.out _ hb2).mono ?_;rintro e w3 ⟨rfl, hb3⟩;go_wp2_with fail;go_ret2;exact ⟨by rw [hv2.out]; rfl, hb2.trans (hb3.mono hb2.size)⟩
   ·have hq : (⟨(Lib.itoa v).toArray⟩ : ByteArray) ≠ s := by
     intro h
     apply hi
     rw [← h]
    have hv2 : Hid (numP s.data.toList = none) := by show _ = _; rw [hv.out, if_neg hi]
    have hne := str_neq hq;clear hv hi hq;generalize (⟨(Lib.itoa v).toArray⟩ : ByteArray) = u at *;go_enter Tryz.func115, Tryz.ntmps115;go_wp2_with fail;refine q1.out.mono ?_;rintro e w1 ⟨rfl, rfl⟩;go_wp2_with fail;refine q2.out.mono ?_;rintro e w2 ⟨rfl, hb2⟩;go_wp2_with fail;refine (q3.out _ hb2).mono ?_;rintro e w3 ⟨rfl, hb3⟩;go_wp2_with fail;go_ret2;exact ⟨by rw [hv2.out]; rfl, hb2.trans (hb3.mono hb2.size)⟩
  ·obtain ⟨tp, p, hvar⟩ := he.good.syn
   have q2 := hide (((Tryz.strconv_ParseInt_10_at64_syntax_var s (by omega) hp tp p w hvar).mono fun e w' ⟨N, a, _, _, b⟩ => ⟨N, a, b⟩ :
    Calls Tryz.prog 214 #[.string s, .int .i64 10, .int .i64 64] w fun e w' => ∃ N, e = .returned (.tuple #[.int .i64 0, .iface 317 (.pointer (some ⟨N, 0, none⟩))]) ∧ Below w.heap.size w w'))
   have hv := hide (numP_syn hp);clear hl hp he hvar;go_enter Tryz.func115, Tryz.ntmps115;go_wp2_with fail;refine q1.out.mono ?_;rintro e w1 ⟨rfl, rfl⟩;go_wp2_with fail;refine q2.out.mono ?_;rintro e w2 ⟨N, rfl, hb2⟩;go_wp2_with fail;go_ret2;exact ⟨by rw [hv.out]; rfl, hb2⟩
theorem bget (s : ByteArray) (k : Nat) (h : k < s.size) : s.data.toList[k]? = some s[k] := by
 rw [List.getElem?_eq_getElem (by simpa using h)]
 rfl
theorem bsize (s : ByteArray) : s.data.toList.length = s.size := by rw [Array.length_toList]; rfl
def mkB (l : List UInt8) : ByteArray := ⟨l.toArray⟩
theorem mkB_data (l : List UInt8) : (mkB l).data.toList = l := rfl
theorem mkB_size (l : List UInt8) : (mkB l).size = l.length := bytes_size l
theorem extract_mk (s : ByteArray) (a b : Nat) : s.extract a b = mkB ((s.data.toList.drop a).take (b - a)) := by
 apply ByteArray.ext
 apply Array.ext'
 show (s.extract a b).data.toList = (s.data.toList.drop a).take (b - a)
 rw [ByteArray.data_extract, Array.toList_extract]
theorem flat_strv : Flat strv 1 := ⟨fun _ => rfl, fun x u h => by simp [strv] at h; subst h; rfl⟩
theorem elem_str : Elem Tryz.prog 24 9 1 16 := Elem.of Tryz.underlying24 info_string rfl (by decide) (by decide)
theorem splitC_len (c : UInt8) : ∀ l : List UInt8, (splitC c l).length ≤ l.length + 1
 | [] => by simp [splitC]
 | x :: l => by
  have ih := splitC_len c l
  by_cases hx : x = c
  ·subst hx
   rw [splitC_ceq];simp only [List.length_cons];omega
  ·rw [splitC_cne hx]
   simp only [List.length_cons, List.length_tail];omega
def nameL (l : List UInt8) : Bool := nameB (mkB l)
def labS (s : ByteArray) : Bool := (valsS nameL s.data.toList).isSome
theorem nameL_data (s : ByteArray) : nameL s.data.toList = nameB s := by unfold nameL mkB; rw [bytes_eta]
def actB (s : ByteArray) : Bool := nameB s && !(decide (s = tauB))
theorem mkB_inj {a b : List UInt8} (h : mkB a = mkB b) : a = b := by
 have := congrArg (fun s : ByteArray => s.data.toList) h
 simpa [mkB] using this
theorem tau_list : tauB.toList = [116, 97, 117] := ByteArray.toList_mk _
theorem tau_ne {s : ByteArray} (h : s ≠ tauB) : (s.toList == [116, 97, 117]) = false := by rw [← tau_list]; exact str_neq h
theorem numsOf_none {f : List UInt8 → Option Int} : ∀ {l : List (List UInt8)} {k : Nat} {x : List UInt8}, l[k]? = some x → f x = none → numsOf f l = none
 | [], k, x, h, _ => by simp at h
 | y :: l, 0, x, h, hf => by
  simp at h
  subst h;unfold numsOf;rw [hf]
 | y :: l, k + 1, x, h, hf => by
  unfold numsOf;rw [numsOf_none (l := l) (k := k) (by simpa using h) hf]
  split
  ·rename_i h1; cases h1
  ·rfl
theorem splitC_mem_len (c : UInt8) : ∀ (l x : List UInt8), x ∈ splitC c l → x.length ≤ l.length
 | [], x, h => by simp [splitC] at h; subst h; simp
 | y :: l, x, h => by
  have ih := splitC_mem_len c l
  by_cases hy : y = c
  ·subst hy
   rw [splitC_ceq, List.mem_cons] at h
   rcases h with rfl | h
   ·simp
   ·have := ih x h
    simp only [List.length_cons];omega
  ·rw [splitC_cne hy, List.mem_cons] at h
   obtain ⟨p, ps, hp⟩ := List.exists_cons_of_ne_nil (splitC_ne c l);rw [hp] at h ih;simp only [List.headD_cons, List.tail_cons] at h
   rcases h with rfl | h
   ·have := ih p (by simp)
    simp only [List.length_cons];omega
   ·have := ih x (List.mem_cons_of_mem _ h)
    simp only [List.length_cons];omega
theorem elem_int : Elem Tryz.prog 32 2 1 8 := Elem.of Tryz.underlying32 info_int64 rfl (by decide) (by decide)
theorem labS_miss {s : ByteArray} (hn : (40 : UInt8) ∉ s.data.toList) : labS s = nameB s := by
 unfold labS valsS;rw [if_pos hn, nameL_data]
 cases nameB s <;> rfl
def Says (b : Bool) (W : World) (e : Ending) (W' : World) : Prop := e = .returned (.bool b) ∧ Below W.heap.size W W'
theorem any_take_succ {α : Type} {G : α → Bool} {l : List α} {k : Nat} {x : α} (h : (l.take k).any G = false) (hx : l[k]? = some x) (hg : G x = false) : (l.take (k + 1)).any G = false := by
 rw [List.take_add_one, hx, List.any_append, h]
 simp [hg]
theorem any_hit {α : Type} {G : α → Bool} {l : List α} {k : Nat} {x : α} (hx : l[k]? = some x) (hg : G x = true) : l.any G = true :=
 List.any_eq_true.2 ⟨x, List.mem_of_getElem? hx, hg⟩
theorem indexFuncI_calls (F : FuncId) (caps : Array Value) (G : Int → Bool) (A : Option Addr) (n c : Nat) (l : List Int) (w : World) (lo hi : Nat) (h : SlI w lo hi A n l) (hn : n ≤ 1048576)
  (hF : ∀ (v : Value) (W : World), Sem.run Tryz.prog (callFunc F (#[v] ++ caps)) W = .ok (.enter F (#[v] ++ caps)) W)
  (hcl : ∀ (v : Int) (W : World), Below w.heap.size w W → Calls Tryz.prog F (#[.int .i64 v] ++ caps) W (Says (G v) W)) :
  Calls Tryz.prog 222 #[.slice A n c, .func (.func F) #[] caps] w fun e w' => ∃ i : Int, e = .returned (.int .i64 i) ∧ decide (0 ≤ i) = l.any G ∧ Below w.heap.size w w' := by
 have hlen := hide h.len;replace hcl := hide hcl;go_enter Tryz.func222, Tryz.ntmps222
 go_wp2
 go_loopw [8] (fun i wr => ∃ k : Nat, k ≤ n ∧ i = .int .i64 k ∧ Below w.heap.size w wr ∧ Hid ((l.take k).any G = false)) (fun i _ => n - (intOf i).toNat)
 case atStart => exact ⟨0, Nat.zero_le _, rfl, bR, rfl⟩
 case round =>
  obtain ⟨k, hk, rfl, hb, ha⟩ := hrel
  by_cases hlt : k < n
  ·obtain ⟨b, off, x, rfl, g1, g2, g3, hx, c0, -⟩ := h.get hlt
   replace c0 := (hb.cell (p := ⟨b, off + k, none⟩) g3).trans c0;have hc := hcl.out x wr hb;replace hx := hide hx;clear h hcl
   by_cases hg : G x = true
   ·rw [hg] at hc
    replace hc := hide hc;have hy := hide (any_hit hx.out hg);clear hg;go_wp2_with fail;refine hc.out.mono ?_;rintro e w1 ⟨rfl, hb1⟩;go_wp2_with fail;go_ret;exact ⟨_, rfl, by rw [hy.out]; simp, hb.trans (hb1.mono hb.size)⟩
   ·replace hg := Bool.eq_false_iff.2 hg
    rw [hg] at hc;replace hc := hide hc;have hy := hide (any_take_succ ha.out hx.out hg);clear hg;go_wp2_with fail;refine hc.out.mono ?_;rintro e w1 ⟨rfl, hb1⟩;go_wp2_with fail;go_roundw
    case rel => exact ⟨k + 1, by omega, by go_num, hb.trans (hb1.mono hb.size), hy⟩
    case measure => simp [intOf]; omega
  ·have hkn : k = n := by omega
   subst hkn;clear hcl
   go_wp2
   go_ret;have hy := ha.out
   rw [List.take_of_length_le (by rw [hlen.out]; exact zR)] at hy;exact ⟨_, rfl, by rw [hy]; decide, hb⟩
theorem containsFuncI_calls (F : FuncId) (caps : Array Value) (G : Int → Bool) (A : Option Addr) (n c : Nat) (l : List Int) (w : World) (lo hi : Nat) (h : SlI w lo hi A n l) (hn : n ≤ 1048576)
  (hF : ∀ (v : Value) (W : World), Sem.run Tryz.prog (callFunc F (#[v] ++ caps)) W = .ok (.enter F (#[v] ++ caps)) W)
  (hcl : ∀ (v : Int) (W : World), Below w.heap.size w W → Calls Tryz.prog F (#[.int .i64 v] ++ caps) W (Says (G v) W)) :
  Calls Tryz.prog 151 #[.slice A n c, .func (.func F) #[] caps] w (Says (l.any G) w) := by
 have q := hide (indexFuncI_calls F caps G A n c l w lo hi h hn hF hcl);clear h hF hcl;go_enter Tryz.func151, Tryz.ntmps151;go_wp2_with fail;refine q.out.mono ?_;rintro e w1 ⟨i, rfl, hi, hb⟩;replace hi := hide hi;go_wp2_with fail;go_ret;exact ⟨ret_b hi.out.symm, hb⟩
theorem numsOf_snoc {f : List UInt8 → Option Int} : ∀ {l : List (List UInt8)} {ns : List Int} {x : List UInt8} {v : Int}, numsOf f l = some ns → f x = some v → numsOf f (l ++ [x]) = some (ns ++ [v])
 | [], ns, x, v, h, hf => by
  cases h
  show numsOf f [x] = _
  unfold numsOf;rw [hf]
  rfl
 | y :: l, ns, x, v, h, hf => by
  unfold numsOf at h
  split at h
  ·rename_i n ms hn hm
   cases h
   rw [List.cons_append];unfold numsOf;rw [hn, numsOf_snoc hm hf]
   rfl
  ·cases h
def dataL (l : List ByteArray) : List (List UInt8) := l.map (·.data.toList)
def NumsR (w w' : World) (n : Nat) (o : Option (List Int)) (e : Ending) : Prop :=
 match o with
 | none => e = .returned (.tuple #[.slice none 0 0, .bool false])
 | some ns => ∃ A c, e = .returned (.tuple #[.slice A n c, .bool true]) ∧ SlI w' w.heap.size w'.heap.size A n ns
theorem readNumbers_calls (A : Option Addr) (n c : Nat) (l : List ByteArray) (w : World) (lo hi : Nat) (h : SlS w lo hi A n l) (hn : n ≤ 1048577) (hs : ∀ s ∈ l, s.size ≤ 1048576) (he : Env w) :
  Calls Tryz.prog 51 #[.slice A n c] w fun e w' => NumsR w w' n (numsOf numS (dataL l)) e ∧ Below w.heap.size w w' := by
 have hE := hide elem_int;have hlen := hide h.len;replace hs := hide hs;go_enter Tryz.func51, Tryz.ntmps51
 go_wp2
 go_loopw [4, 11] (fun o i wr => ∃ (k : Nat) (A5 : Option Addr) (c5 : Nat) (L : List Int), k ≤ n ∧ o = .slice A5 k c5 ∧ i = .int .i64 (k : Nat) ∧ Hid (Own 1 iv wr w.heap.size 2 A5 k c5 L) ∧ Hid (numsOf numS ((dataL l).take k) = some L) ∧ Below w.heap.size w wr) (fun _ i _ => n - (intOf i).toNat)
 case atStart => exact ⟨0, none, 0, [], Nat.zero_le _, rfl, rfl, Own.nil_ _ _ _, rfl, bR⟩
 case round =>
  obtain ⟨k, A5, c5, L, hk, rfl, rfl, hown, hall, hb⟩ := hrel;have hz := hb.size
  by_cases hlt : k < n
  ·obtain ⟨bb, off, x, rfl, g1, g2, g3, hx, cc0, -⟩ := SlS.get h hlt
   replace cc0 := (hb.cell (p := ⟨bb, off + k, none⟩) g3).trans cc0;have hx2 : (dataL l)[k]? = some x.data.toList := by unfold dataL; rw [List.getElem?_map, hx]; rfl
   have q3 := readDecimal_calls x (hs.out x (List.mem_of_getElem? hx)) wr (he.below hb zR);have htk : (dataL l).take (k + 1) = (dataL l).take k ++ [x.data.toList] := by rw [List.take_add_one, hx2]; rfl
   cases hnx : numS x.data.toList with
   | none =>
    have hv : Hid (numsOf numS (dataL l) = none) := numsOf_none hx2 hnx;rw [hnx] at q3;have q4 : Hid (Calls Tryz.prog 115 #[.string x] wr fun e w' => e = .returned (.tuple #[.int .i64 0, .bool false]) ∧ Below wr.heap.size wr w') := q3;clear hx hx2 hnx q3 htk hall hown h he;go_wp2_with fail;refine q4.out.mono ?_;rintro e w2 ⟨rfl, hb2⟩;go_wp2_with fail;go_ret2;refine ⟨?_, hb.trans (hb2.mono hz)⟩;rw [hv.out]
    rfl
   | some v =>
    have hnext : Hid (numsOf numS ((dataL l).take (k + 1)) = some (L ++ [v])) := by
     show _ = _
     rw [htk];exact numsOf_snoc hall.out hnx
    rw [hnx] at q3;have q4 : Hid (Calls Tryz.prog 115 #[.string x] wr fun e w' => e = .returned (.tuple #[.int .i64 v, .bool true]) ∧ Below wr.heap.size wr w') := q3;clear hx hx2 hnx q3 htk hall h he;go_wp2_with fail;refine q4.out.mono ?_;rintro e w2 ⟨rfl, hb2⟩;have hown2 := hide (hown.out.below hb2 zR);have hb3 := hb.trans (hb2.mono hz);have hz3 := hb3.size;have hza : ∀ o, w.heap.size ≤ (w2.alloc o).heap.size := fun o => by rw [World.size_alloc]; omega
    clear hb2 hown;go_wp2_with (first | (at_builtin; (with_reducible refine wpList_app rfl (.tmp 22) (.tmp 24) rfl hE.out flat_iv rfl (hown2.out.alloc _) rfl (Sl.lit1' w2 2 v _ rfl 1 _ ?c0) ?c1 (hza _) ?_); rotate_right; intro A7 c7 w7 hown7 hgr7 hb7 _))
    case c0 => rfl
    case c1 => omega
    go_roundw
    case rel => exact ⟨k + 1, A7, c7, L ++ [v], by omega, rfl, by go_num, hown7, hnext, (hb3.alloc hz3 _).trans hb7⟩
    case measure => simp [intOf]; omega
  ·have hkn : k = n := by omega
   subst hkn;have hv : Hid (numsOf numS (dataL l) = some L) := by
    have := hall.out;rw [List.take_of_length_le (by unfold dataL; rw [List.length_map, hlen.out]; exact zR)] at this;exact this
   go_wp2_with fail;go_ret2
   refine ⟨?_, hb⟩;rw [hv.out];exact ⟨A5, c5, rfl, hown.out.sl flat_iv⟩
theorem isValue_calls (v : Int) (w : World) : Calls Tryz.prog 362 #[.int .i64 v] w fun e w' => e = .returned (.bool (inB v 0 63)) ∧ w = w' := by
 have q := hide (within_calls v 0 63 w);go_enter Tryz.func362, Tryz.ntmps362;go_wp2_with fail;refine q.out.mono ?_;rintro e w1 ⟨rfl, rfl⟩;go_wp2_with fail;go_ret;exact ⟨rfl, rfl⟩
theorem areValues1_calls (v : Int) (w : World) : Calls Tryz.prog 361 #[.int .i64 v] w (Says (!(inB v 0 63)) w) := by
 have q := hide (isValue_calls v w);go_enter Tryz.func361, Tryz.ntmps361;go_wp2_with fail;refine q.out.mono ?_;rintro e w1 ⟨rfl, rfl⟩;go_wp2_with fail;go_ret;exact ⟨rfl, bR⟩
theorem areValues_calls (A : Option Addr) (n c : Nat) (L : List Int) (w : World) (lo hi : Nat) (h : SlI w lo hi A n L) (hn : n ≤ 1048576) :
  Calls Tryz.prog 317 #[.slice A n c] w (Says (L.all isVal) w) := by
 have q := hide (containsFuncI_calls 361 #[] (fun v => !(inB v 0 63)) A n c L w lo hi h hn (fun v W => by kernel_rfl) (fun v W _ => areValues1_calls v W));have hv : Hid (L.all isVal = !(L.any fun v => !(inB v 0 63))) := by
  show _ = _
  have : isVal = fun v => inB v 0 63 := rfl
  rw [this, List.not_any_eq_all_not]
  simp
 clear h;go_enter Tryz.func317, Tryz.ntmps317;go_wp2_with fail;refine q.out.mono ?_;rintro e w1 ⟨rfl, hb⟩;go_wp2_with fail;go_ret;exact ⟨ret_b (by rw [hv.out]), hb⟩
theorem join_len (sep : List UInt8) (m : Nat) : ∀ xs : List (List UInt8), (∀ x ∈ xs, x.length ≤ m) → (Lib.join xs sep).length ≤ xs.length * (m + sep.length)
 | [], _ => by rw [Lib.join_nil]; simp
 | [x], h => by
  rw [Lib.join_one];have := h x (by simp)
  simp
  omega
 | x :: y :: r, h => by
  have ih := join_len sep m (y :: r) (fun z hz => h z (List.mem_cons_of_mem _ hz));have hx := h x (by simp);rw [join_cons2, List.length_append, List.length_append, List.length_cons, Nat.add_mul];omega
def decB (n : Int) : ByteArray := ⟨(Lib.itoa n).toArray⟩
theorem joined_calls (A : Option Addr) (n c : Nat) (L : List Int) (w : World) (lo hi : Nat) (h : SlI w lo hi A n L) (hn : n ≤ 1048576) (hL : ∀ v ∈ L, -9223372036854775808 ≤ v ∧ v ≤ 9223372036854775807) (he : Env w) :
  Calls Tryz.prog 55 #[.slice A n c, .string ⟨#[44]⟩] w fun e w' => e = .returned (.string (mkB (Lib.join (L.map Lib.itoa) [44]))) ∧ Below w.heap.size w w' := by
 obtain ⟨i0, hi0, hz0, hz1, hz2⟩ := info_parts info_string;have hmk := fun W => make_row (P := Tryz.prog) 24 9 i0 _ _ n Tryz.underlying24 hi0 hz0 hz1 (by rw [hz2]; omega) (by omega) W
 clear hi0 hz0 hz1 hz2;have hlen := hide h.len;replace hL := hide hL;go_enter Tryz.func55, Tryz.ntmps55
 go_wp2
 go_loopw [13] (fun i wr => ∃ k : Nat, k ≤ n ∧ i = .int .i64 k ∧ Below w.heap.size w wr ∧ Fill 1 strv wr w.heap.size 9 n k (L.map decB)) (fun i _ => n - (intOf i).toNat)
 case atStart => exact ⟨0, Nat.zero_le _, rfl, bR.alloc zR _, Fill.start _ _ _ _ (by simp [madeCells])⟩
 case round =>
  obtain ⟨k, hk, rfl, hb, hf⟩ := hrel;clear hmk
  by_cases hlt : k < n
  ·obtain ⟨b, off, x, rfl, g1, g2, g3, hx, c0, -⟩ := h.get hlt
   replace c0 := (hb.cell (p := ⟨b, off + k, none⟩) g3).trans c0;have hxb := hL.out x (List.mem_of_getElem? hx);have q := hide (decimal_calls x hxb.1 hxb.2 wr (he.below hb zR));have hx2 : Hid ((L.map decB)[k]? = some (decB x)) := by show _ = _; rw [List.getElem?_map, hx]; rfl
   clear h hx hxb he;go_wp2_with fail;refine q.out.mono ?_;rintro e w1 ⟨rfl, hb1⟩;have hf1 := hf.keep (hb1.block _ hf.lt);obtain ⟨v0, d0⟩ := hf1.cell (i := k) (by omega);have z0 := hf1.frozen k;go_wp2_with fail;go_roundw
   case rel => exact ⟨k + 1, by omega, by go_num, (hb.trans (hb1.mono hb.size)).setCell zR _, hf1.set1 hlt (fun _ => rfl) hx2.out rfl⟩
   case measure => simp [intOf]; omega
  ·have hkn : k = n := by omega
   subst hkn;have hml : (L.map decB).length = k := by rw [List.length_map]; exact hlen.out
   have hsl := hf.done hml zR hf.lt;have hdat : (L.map decB).map (·.data.toList) = L.map Lib.itoa := by rw [List.map_map]; rfl
   have hjl := join_len [44] 21 (L.map Lib.itoa) (fun y hy => by
    obtain ⟨v, hv, rfl⟩ := List.mem_map.1 hy;exact Lib.itoa_length_le v (hL.out v hv).1 (hL.out v hv).2)
   rw [List.length_map, hlen.out, show 21 + ([44] : List UInt8).length = 22 from rfl] at hjl;have q : Calls Tryz.prog 123 #[.slice (some ⟨w.heap.size, 0, none⟩) k k, .string ⟨#[44]⟩] wr fun e w' => e = .returned (.string (mkB (Lib.join (L.map Lib.itoa) [44]))) ∧ Below wr.heap.size wr w' := by
    have := Tryz.strings_Join w.heap.size 0 k (L.map decB) ⟨#[44]⟩ wr (fun j x hx => by
     have hj : j < k := by rw [← hml]; exact (List.getElem?_eq_some_iff.1 hx).1
     obtain ⟨b, off, e1, _, _, _, hcell⟩ := hsl.at_ (by omega);cases e1;have := (hcell j x hx 0 _ rfl).1
     simpa using this) hf.lt (by rw [hml]; omega) (by rw [hml]; exact zR) (by
      rw [hdat]
      show (Lib.join (L.map Lib.itoa) [44]).length ≤ _
      omega)
    rw [hml, hdat] at this;exact this
   replace q := hide q;clear h hsl hdat hjl he;go_wp2_with fail;refine q.out.mono ?_;rintro e w1 ⟨rfl, hb1⟩;go_wp2_with fail;go_ret;exact ⟨rfl, hb.trans (hb1.mono hb.size)⟩
open Go.Lib
def blank (r : Nat) : Bool := r == 32
def okB (x : UInt8) : Prop := x.toNat < 128 ∧ x ≠ 32
def okW (u : List UInt8) : Prop := u ≠ [] ∧ ∀ x, x ∈ u → okB x
def spA : Nat → List (List UInt8) → List (Nat × Nat)
 | _, [] => []
 | a, u :: r => (a, a + u.length) :: spA (a + u.length + 1) r
section
variable {s : ByteArray}
theorem drop_lt {pos : Nat} {x : UInt8} {r : List UInt8} (h : s.data.toList.drop pos = x :: r) : pos < s.size := by
 rcases Nat.lt_or_ge pos s.size with h1 | h1
 ·exact h1
 ·rw [List.drop_eq_nil_of_le (by rw [bsize]; exact h1)] at h; cases h
theorem drop_get {pos : Nat} {x : UInt8} {r : List UInt8} (h : s.data.toList.drop pos = x :: r) (hp : pos < s.size) : s[pos]'hp = x := by
 have h1 := bget s pos hp;have h2 : (s.data.toList.drop pos)[0]? = some x := by rw [h]; rfl
 rw [List.getElem?_drop, Nat.add_zero, h1] at h2;exact Option.some.inj h2
theorem drop_next {pos : Nat} {x : UInt8} {r : List UInt8} (h : s.data.toList.drop pos = x :: r) : s.data.toList.drop (pos + 1) = r := by
 rw [← List.drop_drop, h]; rfl
theorem drop_app {pos : Nat} {u r : List UInt8} (h : s.data.toList.drop pos = u ++ r) : s.data.toList.drop (pos + u.length) = r := by
 rw [← List.drop_drop, h, List.drop_left]
theorem drop_dec {pos : Nat} {x : UInt8} {r : List UInt8} (h : s.data.toList.drop pos = x :: r) (hx : x.toNat < 128) : Utf8.decode s pos = (x.toNat, 1) := by
 have hp := drop_lt h;have hg := drop_get h hp;rw [decode_ascii s pos hp (by rw [hg]; exact hx), hg]
theorem blank_no {x : UInt8} (h : okB x) : blank x.toNat = false := by
 unfold blank;rw [beq_eq_false_iff_ne];intro e;exact h.2 (UInt8.toNat_inj.1 e)
theorem sp_one {pos f a : Nat} {x : UInt8} {r : List UInt8} {acc : List (Nat × Nat)} (h : s.data.toList.drop pos = x :: r) (hx : okB x) : spansFromP blank s (f + 1) pos (some a) acc = spansFromP blank s f (pos + 1) (some a) acc := by
 rw [spansFromP, if_pos (drop_lt h), drop_dec h hx.1];simp only [blank_no hx, if_neg Bool.false_ne_true]
theorem sp_new {pos f : Nat} {x : UInt8} {r : List UInt8} {acc : List (Nat × Nat)} (h : s.data.toList.drop pos = x :: r) (hx : okB x) : spansFromP blank s (f + 1) pos none acc = spansFromP blank s f (pos + 1) (some pos) acc := by
 rw [spansFromP, if_pos (drop_lt h), drop_dec h hx.1];simp only [blank_no hx, if_neg Bool.false_ne_true]
theorem sp_gap {pos f a : Nat} {r : List UInt8} {acc : List (Nat × Nat)} (h : s.data.toList.drop pos = 32 :: r) : spansFromP blank s (f + 1) pos (some a) acc = spansFromP blank s f (pos + 1) none (acc ++ [(a, pos)]) := by
 rw [spansFromP, if_pos (drop_lt h), drop_dec h (by decide)]
 rfl
theorem sp_in : ∀ {u r : List UInt8} {pos f a : Nat} {acc : List (Nat × Nat)}, s.data.toList.drop pos = u ++ r → (∀ x, x ∈ u → okB x) → spansFromP blank s (u.length + f) pos (some a) acc = spansFromP blank s f (pos + u.length) (some a) acc
 | [], r, pos, f, a, acc, _, _ => by simp
 | x :: u, r, pos, f, a, acc, h, hu => by
  rw [show (x :: u).length + f = (u.length + f) + 1 by rw [List.length_cons]; omega, sp_one h (hu x (List.mem_cons_self ..)), sp_in (drop_next h) (fun y hy => hu y (List.mem_cons_of_mem _ hy))]
  congr 1
  rw [List.length_cons]; omega
theorem sp_word {u r : List UInt8} {pos f : Nat} {acc : List (Nat × Nat)} (h : s.data.toList.drop pos = u ++ r) (hu : okW u) : spansFromP blank s (u.length + f) pos none acc = spansFromP blank s f (pos + u.length) (some pos) acc := by
 cases u with
 | nil => exact absurd rfl hu.1
 | cons x u =>
  rw [show (x :: u).length + f = (u.length + f) + 1 by rw [List.length_cons]; omega, sp_new h (hu.2 x (List.mem_cons_self ..)), sp_in (drop_next h) (fun y hy => hu.2 y (List.mem_cons_of_mem _ hy))]
  congr 1
  rw [List.length_cons]; omega
theorem sp_all : ∀ {ws : List (List UInt8)} {pos : Nat} {acc : List (Nat × Nat)}, ws ≠ [] → (∀ u, u ∈ ws → okW u) → s.data.toList.drop pos = Lib.join ws [32] →
  closeSpans s (spansFromP blank s (s.size - pos) pos none acc) = acc ++ spA pos ws
 | [], _, _, h, _, _ => absurd rfl h
 | [u], pos, acc, _, hw, hd => by
  rw [Lib.join_one] at hd;have hu := hw u (List.mem_cons_self ..);have hl : u.length = s.size - pos := by rw [← hd, List.length_drop, bsize]
  have hd2 : s.data.toList.drop pos = u ++ [] := by rw [List.append_nil]; exact hd
  have hp : pos < s.size := by
   cases u with
   | nil => exact absurd rfl hu.1
   | cons x u => exact drop_lt hd
  have h1 := sp_word (f := 0) (acc := acc) hd2 hu;rw [Nat.add_zero, hl] at h1;rw [h1]
  show acc ++ [(pos, s.size)] = acc ++ [(pos, pos + u.length)]
  rw [hl, show pos + (s.size - pos) = s.size by omega]
 | u :: v :: r, pos, acc, _, hw, hd => by
  rw [join_cons2, List.append_assoc] at hd;have hu := hw u (List.mem_cons_self ..);have hd1 := drop_app hd;have hd2 : s.data.toList.drop (pos + u.length) = 32 :: Lib.join (v :: r) [32] := hd1;have hp := drop_lt hd2;have hd3 := drop_next hd2;have hf : s.size - pos = u.length + ((s.size - (pos + u.length + 1)) + 1) := by omega
  rw [hf, sp_word hd hu, sp_gap hd2, sp_all (by simp) (fun y hy => hw y (List.mem_cons_of_mem _ hy)) hd3];rw [List.append_assoc]
  rfl
theorem spA_words : ∀ {ws : List (List UInt8)} {pos : Nat}, s.data.toList.drop pos = Lib.join ws [32] → (spA pos ws).map (fun x => s.extract x.1 x.2) = ws.map mkB
 | [], _, _ => rfl
 | [u], pos, hd => by
  rw [Lib.join_one] at hd
  show [s.extract pos (pos + u.length)] = [mkB u]
  rw [extract_mk, hd, Nat.add_sub_cancel_left, List.take_length]
 | u :: v :: r, pos, hd => by
  rw [join_cons2, List.append_assoc] at hd;have hd1 := drop_app hd;have hd2 : s.data.toList.drop (pos + u.length) = 32 :: Lib.join (v :: r) [32] := hd1;have ih := spA_words (drop_next hd2)
  show s.extract pos (pos + u.length) :: (spA (pos + u.length + 1) (v :: r)).map _ = mkB u :: (v :: r).map mkB
  rw [ih, extract_mk, hd, Nat.add_sub_cancel_left, List.take_left]
end
theorem fields_join {ws : List (List UInt8)} (h : ∀ u, u ∈ ws → okW u) : goFieldsP blank (mkB (Lib.join ws [32])) = ws.map mkB := by
 cases ws with
 | nil => rfl
 | cons u r =>
  unfold goFieldsP spansOfP;have hd : (mkB (Lib.join (u :: r) [32])).data.toList.drop 0 = Lib.join (u :: r) [32] := rfl;have h1 := sp_all (s := mkB (Lib.join (u :: r) [32])) (acc := []) (by simp) h hd;rw [Nat.sub_zero, List.nil_append] at h1;rw [h1];exact spA_words hd
theorem itoa_ok : ∀ n, n < 301 → okW (Lib.itoa (n : Nat)) ∧ numS (Lib.itoa (n : Nat)) = some (n : Int) ∧ (∀ x, x ∈ Lib.itoa (n : Nat) → x ≠ 58 ∧ x ≠ 124) ∧ (Lib.itoa (n : Nat)).length ≤ 3 := by
 have h : (List.range 301).all (fun n => !(Lib.itoa (n : Nat)).isEmpty && (Lib.itoa (n : Nat)).all (fun x => decide (x.toNat < 128) && decide (x ≠ 32) && decide (x ≠ 58) && decide (x ≠ 124)) && (numS (Lib.itoa (n : Nat)) == some (n : Int)) && decide ((Lib.itoa (n : Nat)).length ≤ 3)) = true := by decide +kernel
 intro n hn;have h1 := List.all_eq_true.1 h n (List.mem_range.2 hn);simp only [Bool.and_eq_true, decide_eq_true_eq, beq_iff_eq, List.all_eq_true] at h1;obtain ⟨⟨⟨a, b⟩, c⟩, d⟩ := h1;refine ⟨⟨fun e => ?_, fun x hx => ⟨(b x hx).1.1.1, (b x hx).1.1.2⟩⟩, c, fun x hx => ⟨(b x hx).1.2, (b x hx).2⟩, d⟩;rw [e] at a; cases a
end Go.Proofs.YtnhomkmfbngmgaaGreatDoor
namespace Go.Proofs.YtnhomkmfbngmgaaGreatDoor
open Go.ChangeShapes Go.WideShapes Go.ChangeAt Go.RowKit
theorem nameB_len {s : ByteArray} (h : nameB s = true) : s.size ≤ 10 := by
 unfold nameB at h;rw [Bool.and_eq_true, decide_eq_true_eq] at h;exact h.2.2
theorem isAction_calls (s : ByteArray) (w : World) (hs : s.size ≤ 1048576) : Calls Tryz.prog 178 #[.string s] w fun e w' => e = .returned (.bool (actB s)) ∧ w = w' := by
 have q := isName_calls s w (by unfold maxLen; omega)
 by_cases hn : nameB s = true
 ·rw [hn] at q
  replace q := hide q
  by_cases ht : s = tauB
  ·have hv : Hid (actB s = false) := by show _ = _; unfold actB; simp [ht]
   subst ht;clear hn;go_enter Tryz.func178, Tryz.ntmps178;go_wp2_with (first | (go_at_call 250; (with_reducible refine q.out.mono ?_); rintro e w1 ⟨rfl, rfl⟩));go_ret;exact ⟨ret_b (by rw [hv.out, tau_list]; rfl), rfl⟩
  ·have hv : Hid (actB s = true) := by show _ = _; unfold actB; simp [ht, hn]
   have hne := tau_ne ht;clear hn ht;go_enter Tryz.func178, Tryz.ntmps178;go_wp2_with (first | (go_at_call 250; (with_reducible refine q.out.mono ?_); rintro e w1 ⟨rfl, rfl⟩));go_ret;exact ⟨ret_b (by rw [hv.out]), rfl⟩
 ·replace hn := Bool.eq_false_iff.2 hn
  have hv : Hid (actB s = false) := by show _ = _; unfold actB; rw [hn]; rfl
  rw [hn] at q;replace q := hide q;clear hn;go_enter Tryz.func178, Tryz.ntmps178;go_wp2_with (first | (go_at_call 250; (with_reducible refine q.out.mono ?_); rintro e w1 ⟨rfl, rfl⟩));go_ret;exact ⟨ret_b (by rw [hv.out]), rfl⟩
theorem isVal_bounds {L : List Int} (h : L.all isVal = true) : ∀ v ∈ L, -9223372036854775808 ≤ v ∧ v ≤ 9223372036854775807 := fun v hv => by
 have := (List.all_eq_true.1 h) v hv
 simp [isVal] at this
 omega
def LabR (w w' : World) (o : Option (List UInt8)) (e : Ending) : Prop := ∃ t b, e = .returned (.tuple #[.string t, .bool b]) ∧ o = (if b then some t.data.toList else none) ∧ Below w.heap.size w w'
theorem labelOf_calls (nm : ByteArray) (A : Option Addr) (n c : Nat) (L : List Int) (w : World) (lo hi : Nat) (hs : nm.size ≤ 1048576) (h : SlI w lo hi A n L) (hn : n ≤ 1048577) (he : Env w) :
  Calls Tryz.prog 254 #[.string nm, .slice A n c] w fun e w' => LabR w w' (labOf nameL nm.data.toList L) e := by
 have hlen := h.len;have hq1 := isAction_calls nm w hs
 by_cases ht : nm = tauB
 ·have htl : nm.data.toList = tauL := by rw [ht]; rfl
  by_cases h0 : n = 0
  ·have hL0 : L = [] := List.eq_nil_of_length_eq_zero (by omega)
   have hv : Hid (labOf nameL nm.data.toList L = some tauL) := by show _ = _; unfold labOf; rw [if_pos htl, if_pos hL0]
   subst h0 ht;clear hL0 htl hlen hq1 h he;have htt : (tauB.toList == [116, 97, 117]) = true := by rw [tau_list]; rfl
   go_enter Tryz.func254, Tryz.ntmps254;go_wp2_with fail;go_ret2;exact ⟨tauB, true, rfl, by rw [hv.out]; rfl, bR⟩
  ·have hL0 : L ≠ [] := by rintro rfl; simp at hlen; omega
   have hv : Hid (labOf nameL nm.data.toList L = none) := by show _ = _; unfold labOf; rw [if_pos htl, if_neg hL0]
   have hb0 : ((n : Int) == 0) = false := by rw [beq_eq_false_iff_ne]; omega
   subst ht;clear hL0 htl hlen hq1 h he;have htt : (tauB.toList == [116, 97, 117]) = true := by rw [tau_list]; rfl
   go_enter Tryz.func254, Tryz.ntmps254;go_wp2_with fail;go_ret2;exact ⟨tauB, false, rfl, by rw [hv.out]; rfl, bR⟩
 ·have htl : nm.data.toList ≠ tauL := fun e => ht (by rw [← bytes_eta nm, e]; rfl)
  have hact : actB nm = nameB nm := by unfold actB; rw [decide_eq_false ht]; simp
  have hne := tau_ne ht;have hq2 := areValues_calls A n c L w lo hi h
  cases hnm : nameB nm with
  | false =>
   have hv : Hid (labOf nameL nm.data.toList L = none) := by show _ = _; unfold labOf; rw [if_neg htl, nameL_data, hnm]; rfl
   rw [hact, hnm] at hq1;replace hq1 := hide hq1;clear hact htl ht hnm h he hq2 hlen;go_enter Tryz.func254, Tryz.ntmps254;go_wp2_with (first | (go_at_call 178; (with_reducible refine hq1.out.mono ?_); rintro e w1 ⟨rfl, rfl⟩));go_ret2;exact ⟨⟨#[]⟩, false, rfl, by rw [hv.out]; rfl, bR⟩
  | true =>
   rw [hact, hnm] at hq1;replace hq1 := hide hq1
   by_cases h2 : 2 < n
   ·have hv : Hid (labOf nameL nm.data.toList L = none) := by
     show _ = _
     unfold labOf;rw [if_neg htl, nameL_data, hnm, if_pos (by rw [hlen]; simp [h2])]
    have h2I : (2 : Int) < (n : Int) := by omega
    clear hact htl ht hnm h he hq2 hlen;go_enter Tryz.func254, Tryz.ntmps254;go_wp2_with (first | (go_at_call 178; (with_reducible refine hq1.out.mono ?_); rintro e w1 ⟨rfl, rfl⟩));go_ret2;exact ⟨⟨#[]⟩, false, rfl, by rw [hv.out]; rfl, bR⟩
   ·replace hq2 := hq2 (by omega)
    have h2I : ¬ (2 : Int) < (n : Int) := by omega
    have h2L : ¬ 2 < L.length := by omega
    cases hall : L.all isVal with
    | false =>
     have hv : Hid (labOf nameL nm.data.toList L = none) := by
      show _ = _
      unfold labOf;rw [if_neg htl, nameL_data, hnm, if_pos (by rw [hall]; simp)]
     rw [hall] at hq2;replace hq2 := hide hq2;clear hact htl ht hnm h he hlen hall h2 h2L;go_enter Tryz.func254, Tryz.ntmps254;go_wp2_with (first | (go_at_call 178; (with_reducible refine hq1.out.mono ?_); rintro e w1 ⟨rfl, rfl⟩) | (go_at_call 317; (with_reducible refine hq2.out.mono ?_); rintro e w2 ⟨rfl, hb2⟩));go_ret2;exact ⟨⟨#[]⟩, false, rfl, by rw [hv.out]; rfl, hb2⟩
    | true =>
     rw [hall] at hq2;replace hq2 := hide hq2;have hcond : ¬ ((!(nameL nm.data.toList) || decide (2 < L.length) || !(L.all isVal)) = true) := by rw [nameL_data, hnm, hall, decide_eq_false h2L]; decide
     by_cases h0 : n = 0
     ·have hL0 : L = [] := List.eq_nil_of_length_eq_zero (by omega)
      have hv : Hid (labOf nameL nm.data.toList L = some nm.data.toList) := by
       show _ = _
       unfold labOf;rw [if_neg htl, if_neg hcond, if_pos hL0]
      subst h0;clear hact htl ht hnm h he hlen hall h2 h2L hcond hL0;go_enter Tryz.func254, Tryz.ntmps254;go_wp2_with (first | (go_at_call 178; (with_reducible refine hq1.out.mono ?_); rintro e w1 ⟨rfl, rfl⟩) | (go_at_call 317; (with_reducible refine hq2.out.mono ?_); rintro e w2 ⟨rfl, hb2⟩));go_ret2;exact ⟨nm, true, rfl, by rw [hv.out]; rfl, hb2⟩
     ·have hL0 : L ≠ [] := by rintro rfl; simp at hlen; omega
      have hb0 : ((n : Int) == 0) = false := by rw [beq_eq_false_iff_ne]; omega
      have q3 := hide (fun (W : World) (hW : Below w.heap.size w W) => joined_calls A n c L W lo hi (h.below hW (.inr zR)) (by omega) (isVal_bounds hall) (he.below hW zR));have hjl := join_len [44] 21 (L.map Lib.itoa) (fun y hy => by
       obtain ⟨v, hv, rfl⟩ := List.mem_map.1 hy;exact Lib.itoa_length_le v (isVal_bounds hall v hv).1 (isVal_bounds hall v hv).2)
      rw [List.length_map, show 21 + ([44] : List UInt8).length = 22 from rfl] at hjl;have hv : Hid (labOf nameL nm.data.toList L = some (nm.data.toList ++ [40] ++ Lib.join (L.map Lib.itoa) [44] ++ [41])) := by
       show _ = _
       unfold labOf;rw [if_neg htl, if_neg hcond, if_neg hL0]
      have hjs : (mkB (Lib.join (L.map Lib.itoa) [44])).size ≤ 44 := by rw [mkB_size]; omega
      have hnms := nameB_len hnm;have hjd : Hid ((mkB (Lib.join (L.map Lib.itoa) [44])).data.toList = Lib.join (L.map Lib.itoa) [44]) := rfl;clear hact htl ht hnm h he hlen hall h2 h2L hcond hL0 hjl;generalize mkB (Lib.join (L.map Lib.itoa) [44]) = J at *;go_enter Tryz.func254, Tryz.ntmps254;go_wp2_with (first | (go_at_call 178; (with_reducible refine hq1.out.mono ?_); rintro e w1 ⟨rfl, rfl⟩) | (go_at_call 317; (with_reducible refine hq2.out.mono ?_); rintro e w2 ⟨rfl, hb2⟩));refine (q3.out _ hb2).mono ?_;rintro e w3 ⟨rfl, hb3⟩;go_wp2_with fail;go_ret2;refine ⟨_, true, rfl, ?_, hb2.trans (hb3.mono hb2.size)⟩;rw [hv.out, ← hjd.out]
      simp [ByteArray.data_append]
end Go.Proofs.YtnhomkmfbngmgaaGreatDoor
