/-
  Several texts in one:
  A queue of elements of any size (a slice of the call's own that is cut at its head and appended to at its end). Conditions: short queues.
  A set of pairs of numbers as a map to bools. Conditions: numbers that fit.
  A queue of pairs of states with their traces, beside a set of pairs. Conditions: none.
  slices.Max at []int64, impl.blockCount, impl.tidy. Conditions: sizes.
  (Lts).quotient: the system of the blocks. Conditions: sizes.
  Bisimulation, and the last round of refinement as the greatest one: plain. Conditions: none.
  Validity of systems whose edges were sorted; part and quotient in plain words. Conditions: none.
  impl.firstTrace: two systems searched beside each other by the program. Conditions: both are valid and deterministic; what is looked for is told by a function that makes no change.
  What the rows' condition on the library's variables gives a walk; opening of systems as arguments. Conditions: none.
-/
import Derived.Test.YtnhomkmfbngmgaaGreatDoorBaseA
import Derived.Test.YtnhomkmfbngmgaaGreatDoorBaseB
import Derived.Test.YtnhomkmfbngmgaaGreatDoorBaseD
import Derived.Test.YtnhomkmfbngmgaaGreatDoorBaseE
import Derived.Test.YtnhomkmfbngmgaaGreatDoorBaseF
import Derived.Test.YtnhomkmfbngmgaaGreatDoorBaseG
import Derived.Test.YtnhomkmfbngmgaaGreatDoorBaseH
import Derived.Test.YtnhomkmfbngmgaaGreatDoorBaseI
import Derived.ArgAppend
import Derived.Laws.IdiomCopy
import Derived.Below
import Derived.Deep.DeepCutAuto
import Derived.Outline
import Derived.WalkSpells
import Derived.Laws.CopyOwn
import Derived.Laws.Bits64b
import Derived.StillTailTactics
import Derived.Deep.RegionLaw
import Derived.Deep.LoopGhost
set_option linter.unusedSimpArgs false
set_option linter.unusedVariables false
namespace Go.Proofs.YtnhomkmfbngmgaaGreatDoor
open Go.ChangeShapes Go.WideShapes Go.ChangeAt Go.RowKit
set_option linter.unusedVariables false

/-- Cells written one after the other. -/
def putsA (cur : Array Value) : Nat → List Value → Array Value
  | _, [] => cur
  | o, v :: vs => putsA (cur.setIfInBounds o v) (o + 1) vs
theorem putsA_size (vs : List Value) : ∀ (o : Nat) (cur : Array Value), (putsA cur o vs).size = cur.size := by
  induction vs with
  | nil => intro o cur; rfl
  | cons v vs ih => intro o cur; unfold putsA; rw [ih]; simp
theorem putsA_out (vs : List Value) : ∀ (o : Nat) (cur : Array Value) (j : Nat), (j < o ∨ o + vs.length ≤ j) → (putsA cur o vs)[j]? = cur[j]? := by
  induction vs with
  | nil => intro o cur j h; rfl
  | cons v vs ih =>
    intro o cur j h
    simp only [List.length_cons] at h
    unfold putsA
    rw [ih (o + 1) _ j (by omega), Array.getElem?_setIfInBounds_ne (by omega)]
theorem putsA_in (vs : List Value) : ∀ (o : Nat) (cur : Array Value), o + vs.length ≤ cur.size → ∀ (j : Nat) (u : Value), vs[j]? = some u → (putsA cur o vs)[o + j]? = some u := by
  induction vs with
  | nil => intro o cur h j u hu; simp at hu
  | cons v vs ih =>
    intro o cur h j u hu
    simp only [List.length_cons] at h
    unfold putsA
    cases j with
    | zero =>
      simp at hu
      subst hu
      rw [putsA_out vs (o + 1) _ (o + 0) (by omega), Nat.add_zero, Array.getElem?_setIfInBounds_self_of_lt (by omega)]
    | succ j =>
      have := ih (o + 1) (cur.setIfInBounds o v) (by simp; omega) j u (by simpa using hu)
      rw [show o + (j + 1) = o + 1 + j by omega]
      exact this
theorem setCells_heap (b : Nat) (t : TypeId) (vs : List Value) : ∀ (o : Nat) (w : World) (cur : Array Value), w.heap[b]? = some (.cells cur t (0, 0)) → (w.setCells b o vs).heap[b]? = some (.cells (putsA cur o vs) t (0, 0)) := by
  induction vs with
  | nil => intro o w cur h; exact h
  | cons v vs ih => intro o w cur h; exact ih (o + 1) _ _ (heap_setCell_same w b o cur _ _ h)
theorem setCells_other (b : Nat) (vs : List Value) : ∀ (o : Nat) (w : World) (k : Nat), k ≠ b → (w.setCells b o vs).heap[k]? = w.heap[k]? := by
  induction vs with
  | nil => intro o w k h; rfl
  | cons v vs ih =>
    intro o w k h
    have h1 := ih (o + 1) (w.setCell ⟨b, o, none⟩ v) k h
    exact h1.trans (Below.heap_setCell w _ _ k h)
theorem setCells_rest (b : Nat) (vs : List Value) : ∀ (o : Nat) (w : World), (w.setCells b o vs).os = w.os ∧ (w.setCells b o vs).tape = w.tape ∧ (w.setCells b o vs).output = w.output ∧ (w.setCells b o vs).heap.size = w.heap.size := by
  induction vs with
  | nil => intro o w; exact ⟨rfl, rfl, rfl, rfl⟩
  | cons v vs ih =>
    intro o w
    obtain ⟨h1, h2, h3, h4⟩ := ih (o + 1) (w.setCell ⟨b, o, none⟩ v)
    exact ⟨h1, h2, h3, h4.trans (World.size_setCell _ _ _)⟩

/-- The slice value `.slice A n c` is the call's own (a block from base on, at whatever offset), and holds l. -/
def OwnG {α : Type} (size : Nat) (f : α → List Value) (w : World) (base : Nat) (e : TypeId) (A : Option Addr) (n c : Nat) (l : List α) : Prop :=
  l.length = n ∧ ((A = none ∧ n = 0 ∧ c = 0) ∨ ∃ g off cur, A = some ⟨g, off, none⟩ ∧ base ≤ g ∧ w.heap[g]? = some (.cells cur e (0, 0)) ∧ n ≤ c ∧ c ≤ maxLen ∧ off + c * size ≤ cur.size ∧ ∀ (j : Nat) (u : Value), (l.flatMap f)[j]? = some u → cur[off + j]? = some u)

section
variable {α : Type} {size : Nat} {f : α → List Value} {w w' : World} {base n c : Nat} {e : TypeId} {A : Option Addr} {l : List α}
theorem OwnG.len (h : OwnG size f w base e A n c l) : l.length = n := h.1
theorem OwnG.of (h : Own size f w base e A n c l) : OwnG size f w base e A n c l := by
  refine ⟨h.1, ?_⟩
  rcases h.2.2 with ⟨hv, h0⟩ | ⟨g, cap, cur, hv, hb, hg, hnc, hcm, hcs, htake⟩
  · injection hv with h1 _ h3
    exact .inl ⟨h1, h0, h3⟩
  · injection hv with h1 _ h3
    subst h1 h3
    refine .inr ⟨g, 0, cur, rfl, hb, hg, hnc, hcm, by omega, fun j u hu => ?_⟩
    rw [← htake, List.getElem?_take] at hu
    split at hu
    · simpa using hu
    · cases hu
theorem OwnG.keep (h : OwnG size f w base e A n c l) (hk : ∀ g, base ≤ g → (Value.slice A n c).ownBlock = some g → w'.heap[g]? = w.heap[g]?) : OwnG size f w' base e A n c l := by
  refine ⟨h.1, ?_⟩
  rcases h.2 with hn | ⟨g, off, cur, rfl, hb, hg, rest⟩
  · exact .inl hn
  · exact .inr ⟨g, off, cur, rfl, hb, (hk g hb rfl).trans hg, rest⟩
theorem OwnG.typed (h : OwnG size f w base e A n c l) : ∀ g, (Value.slice A n c).ownBlock = some g → base ≤ g ∧ g < w.heap.size ∧ ∃ cur, w.heap[g]? = some (.cells cur e (0, 0)) := by
  intro g hg
  rcases h.2 with ⟨rfl, _⟩ | ⟨g', off, cur, rfl, hb, hg', rest⟩
  · cases hg
  · cases hg
    exact ⟨hb, (Array.getElem?_eq_some_iff.1 hg').1, cur, hg'⟩
theorem OwnG.lt (h : OwnG size f w base e A n c l) : ∀ g, (Value.slice A n c).ownBlock = some g → base ≤ g ∧ g < w.heap.size := fun g hg => ⟨(h.typed g hg).1, (h.typed g hg).2.1⟩
theorem OwnG.other (h : OwnG size f w base e A n c l) {b : Nat} {cur : Array Value} {t : TypeId} {z : Nat × Nat} (hb : w.heap[b]? = some (.cells cur t z)) (ht : t ≠ e) : some b ≠ (Value.slice A n c).ownBlock := fun e1 => by
  obtain ⟨-, -, cu, h1⟩ := h.typed _ e1.symm
  rw [hb] at h1
  injection h1 with h1
  injection h1 with _ h1
  exact ht h1
theorem OwnG.below (h : OwnG size f w base e A n c l) {B : Nat} (hb : Below B w w') (hB : w.heap.size ≤ B) : OwnG size f w' base e A n c l :=
  h.keep fun g _ hg => hb.block g (by have := (h.lt g hg).2; omega)
theorem OwnG.sink (h : OwnG size f w base e A n c l) {base' : Nat} (hb : base' ≤ base) : OwnG size f w base' e A n c l := by
  refine ⟨h.1, ?_⟩
  rcases h.2 with hn | ⟨g, off, cur, hv, hg, rest⟩
  · exact .inl hn
  · exact .inr ⟨g, off, cur, hv, Nat.le_trans hb hg, rest⟩
theorem addr_addG (g off k : Nat) : (⟨g, off, none⟩ : Addr).add k = ⟨g, off + k, none⟩ := by unfold Addr.add; split <;> simp_all
/-- The first element. -/
theorem OwnG.head {x : α} {r : List α} (h : OwnG size f w base e A n c (x :: r)) : ∃ g off, A = some ⟨g, off, none⟩ ∧ base ≤ g ∧ g < w.heap.size ∧ (∀ (j : Nat) (u : Value), (f x)[j]? = some u → w.cell? ⟨g, off + j, none⟩ = some u) ∧ 0 < n ∧ n ≤ c := by
  have hl := h.1
  simp at hl
  rcases h.2 with ⟨rfl, h0, _⟩ | ⟨g, off, cur, rfl, hb, hg, h1, h2, h3, h4⟩
  · omega
  · refine ⟨g, off, rfl, hb, (Array.getElem?_eq_some_iff.1 hg).1, fun j u hu => (cell_of_row w g _ cur _ (0, 0) hg).trans (h4 j u ?_), by omega, h1⟩
    rw [List.flatMap_cons, List.getElem?_append_left (List.getElem?_eq_some_iff.1 hu).1]
    exact hu
/-- `q[1:]`. -/
theorem OwnG.cut (hf : Flat f size) {x : α} {r : List α} (h : OwnG size f w base e A n c (x :: r)) : OwnG size f w base e (cutA A 1 c size) (n - 1) (c - 1) r := by
  have hl := h.1
  simp at hl
  rcases h.2 with ⟨rfl, h0, _⟩ | ⟨g, off, cur, rfl, hb, hg, h1, h2, h3, h4⟩
  · omega
  · refine ⟨by omega, .inr ?_⟩
    have hm : 1 * size + (c - 1) * size = c * size := by rw [← Nat.add_mul]; congr 1; omega
    by_cases hc : c = 1
    · subst hc
      refine ⟨g, off, cur, by simp [cutA], hb, hg, by omega, by unfold maxLen; omega, by omega, fun i y hy => ?_⟩
      have hr : r = [] := List.eq_nil_of_length_eq_zero (by omega)
      subst hr
      simp at hy
    · refine ⟨g, off + 1 * size, cur, by unfold cutA; rw [if_neg hc, Option.map_some, addr_addG], hb, hg, by omega, by omega, by omega, fun i y hy => ?_⟩
      have := h4 (size + i) y (by rw [List.flatMap_cons, List.getElem?_append_right (by rw [hf.len]; omega), hf.len]; simpa using hy)
      rw [show off + 1 * size + i = off + (size + i) by omega]
      exact this
theorem OwnG.cutBlock (A : Option Addr) (n c : Nat) : (Value.slice (cutA A 1 c size) (n - 1) (c - 1)).ownBlock = (Value.slice A n c).ownBlock := by
  cases A with
  | none => simp [cutA, Value.ownBlock]
  | some a =>
    unfold cutA
    split
    · rfl
    · simp only [Option.map_some, Value.ownBlock, Addr.add]
      split <;> rfl
/-- append of one element to a queue. -/
theorem run_appG {t : TypeId} {bytes : Nat} (w : World) (hE : Elem Tryz.prog t e size bytes) (hf : Flat f size) (ty : TypeId) (h : OwnG size f w base e A n c l) {B : Option Addr} {d lo hi : Nat} (x : α) (hx : Sl size f w lo hi B 1 [x]) (hn : (n + 1) * bytes ≤ 140737488355328) (hbase : base ≤ w.heap.size) :
    ∃ A' c' w', (Builtin.append_ #[t, t] ty #[.slice A n c, .slice B 1 d]).run Tryz.prog w = .ok (.slice A' (n + 1) c') w' ∧ OwnG size f w' base e A' (n + 1) c' (l ++ [x]) ∧ w.grownBy w' (Value.slice A n c).ownBlock ∧
      ((Value.slice A' (n + 1) c').ownBlock = (Value.slice A n c).ownBlock ∨ (Value.slice A' (n + 1) c').ownBlock = some w.heap.size) := by
  obtain ⟨ht, h0, hb0, i, z, hi, hz, hs, hby, hzs⟩ := hE
  have hnm : n + 1 ≤ 140737488355328 := Nat.le_trans (Nat.le_mul_of_pos_right _ hb0) hn
  obtain ⟨gb, ob, rfl, -, -, -, hc⟩ := hx.at_ (by omega)
  have hnews : ∀ j u, (f x)[j]? = some u → w.cell? ((⟨gb, ob, none⟩ : Addr).add j) = some u := fun j u hu => by
    have := (hc 0 x rfl j u hu).1
    rw [addr_addG]
    simpa using this
  have hone : ∀ u ∈ f x, u.oneCell' = true := fun u hu => hf.one x u hu
  have hfl : (f x).length = 1 * i.size := by rw [hf.len, hs, Nat.one_mul]
  have hll : (l.flatMap f).length = n * size := by rw [flat_length hf, h.1]
  have grown : ∀ (old : Nat) (olds : List Value), olds = l.flatMap f → old < n + 1 → ∀ row : Option Nat,
      OwnG size f (w.drew.alloc (.cells (olds.toArray ++ (f x).toArray ++ Builtin.zeroCells z.cells (grownCap w (n + 1) old e - (n + 1))) e)) base e (some ⟨w.heap.size, 0, none⟩) (n + 1) (grownCap w (n + 1) old e) (l ++ [x]) ∧
      w.grownBy (w.drew.alloc (.cells (olds.toArray ++ (f x).toArray ++ Builtin.zeroCells z.cells (grownCap w (n + 1) old e - (n + 1))) e)) row := by
    intro old olds hol ho row
    have hge := grownCap_ge w (n + 1) old e
    have hcm : grownCap w (n + 1) old e ≤ maxLen := grownCap_le_maxLen w (n + 1) old e (by unfold maxLen; omega)
    refine ⟨⟨by rw [List.length_append, h.1]; rfl, .inr ⟨w.heap.size, 0, _, rfl, hbase, heap_alloc_new w.drew _, hge, hcm, ?_, fun j u hu => ?_⟩⟩, ⟨rfl, rfl, rfl, by simp, fun k hk _ => Below.heap_alloc w.drew _ k hk⟩⟩
    · simp only [Array.size_append, List.size_toArray, size_zeroCells, hzs, hol, hll, hf.len, Nat.zero_add]
      rw [show n * size + size = (n + 1) * size by rw [Nat.add_mul, Nat.one_mul], ← Nat.add_mul]
      exact Nat.mul_le_mul_right _ (by omega)
    · have e1 : (olds.toArray ++ (f x).toArray : Array Value) = ((l ++ [x]).flatMap f).toArray := by rw [hol]; simp
      have hjl := (List.getElem?_eq_some_iff.1 hu).1
      rw [Nat.zero_add, Array.getElem?_append_left (by rw [e1]; simpa using hjl), e1]
      simpa using hu
  rcases h.2 with ⟨rfl, rfl, rfl⟩ | ⟨g, off, cur, rfl, hb, hg, hnc, hcm, hcs, hcur⟩
  · have hl : l = [] := List.eq_nil_of_length_eq_zero h.1
    subst hl
    have hr := run_append_nil (P := Tryz.prog) w t ty e i z ht hi hz ⟨gb, ob, none⟩ 1 d (f x) hfl hnews (by omega) (by omega) (by rw [hby]; omega)
    obtain ⟨g1, g2⟩ := grown 0 [] rfl (by omega) (Value.ownBlock (.slice none 0 0))
    simp only [Nat.zero_add, Array.empty_append] at g1 g2 ⊢
    exact ⟨_, _, _, hr, g1, g2, .inr rfl⟩
  · by_cases hroom : n + 1 ≤ c
    · have hfit : n * size + size ≤ c * size := by
        rw [show n * size + size = (n + 1) * size by rw [Nat.add_mul, Nat.one_mul]]
        exact Nat.mul_le_mul_right _ hroom
      have hr := run_append_room_cells (P := Tryz.prog) w t ty e i ht hi g off n c ⟨gb, ob, none⟩ 1 d (f x) hfl hnews hone hroom
        (fun j hj => by
          rw [hf.len] at hj
          rw [cell_of_row w g _ cur _ (0, 0) hg, hs, Array.getElem?_eq_getElem (by omega)]
          rfl) (fun j hj => frozen_of_row w g _ cur _ hg)
      rw [hs] at hr
      obtain ⟨r1, r2, r3, r4⟩ := setCells_rest g (f x) (off + n * size) w
      refine ⟨_, _, _, hr, ⟨by rw [List.length_append, h.1]; rfl, .inr ⟨g, off, _, rfl, hb, setCells_heap g _ (f x) _ w cur hg, hroom, hcm, by rw [putsA_size]; exact hcs, fun j u hu => ?_⟩⟩, ⟨r1, r2, r3, by rw [r4]; exact Nat.le_refl _, fun k hk hne => setCells_other g _ _ w k fun e1 => hne (by rw [e1]; rfl)⟩, .inl rfl⟩
      rw [List.flatMap_append, List.flatMap_singleton] at hu
      by_cases hin : j < n * size
      · rw [putsA_out _ _ _ _ (by omega)]
        rw [List.getElem?_append_left (by rw [hll]; exact hin)] at hu
        exact hcur j u hu
      · rw [List.getElem?_append_right (by rw [hll]; omega), hll] at hu
        have := putsA_in (f x) (off + n * size) cur (by rw [hf.len]; omega) (j - n * size) u hu
        rw [show off + n * size + (j - n * size) = off + j by omega] at this
        exact this
    · have holds : ∀ j u, (l.flatMap f)[j]? = some u → w.cell? ((⟨g, off, none⟩ : Addr).add j) = some u := by
        intro j u hj
        rw [addr_addG, cell_of_row w g _ cur _ (0, 0) hg]
        exact hcur j u hj
      have hr := run_append_grow (P := Tryz.prog) w t ty e i z ht hi hz ⟨g, off, none⟩ n c (l.flatMap f) (by rw [hll, hs]) holds ⟨gb, ob, none⟩ 1 d (f x) hfl hnews (by omega) (by omega) (growslice_fits (by omega) (by rw [hby]; exact hn))
      obtain ⟨g1, g2⟩ := grown c _ rfl (by omega) (Value.ownBlock (.slice (some ⟨g, off, none⟩) n c))
      exact ⟨_, _, _, hr, g1, g2, .inr rfl⟩
theorem step_appG {t : TypeId} {bytes : Nat} {w : World} {ops : Array Oper} {o : Oper} {a : Act} {K : Act → World → Prop} {E : Prop} (hgd : o.guard = none) (s x : Operand)
    (ho : o.op = .call { callee := .builtin .append, args := #[s, x], argTypes := #[t, t] }) (hE : Elem Tryz.prog t e size bytes) (hf : Flat f size)
    (hs : a.eval s = .slice A n c) (h : OwnG size f w base e A n c l) {B : Option Addr} {d lo hi : Nat} {y : α} (hx : a.eval x = .slice B 1 d) (hy : Sl size f w lo hi B 1 [y]) (hn : (n + 1) * bytes ≤ 140737488355328) (hbase : base ≤ w.heap.size)
    {Q : Exit → Act → World → Prop} (hK : ∀ A' c' w', OwnG size f w' base e A' (n + 1) c' (l ++ [y]) → w.grownBy w' (Value.slice A n c).ownBlock → Below base w w' →
      ((Value.slice A' (n + 1) c').ownBlock = (Value.slice A n c).ownBlock ∨ (Value.slice A' (n + 1) c').ownBlock = some w.heap.size) → K (a.put o.dst (.slice A' (n + 1) c')) w') :
    if Region.wanted o (yielded ops a.tmps) = true then Oper.wp Tryz.prog o a w K Q else E := by
  have hw : Region.wanted o (yielded ops a.tmps) = true := by simp [Region.wanted, hgd]
  rw [if_pos hw]
  obtain ⟨A', c', w', h1, h2, h3, h4⟩ := run_appG w hE hf o.type h (d := d) y hy hn hbase
  unfold Oper.wp execOp
  simp only [ho, resolve, invoke, builtin, Sem.run_bind, Sem.run_pure, Result.andThen_ok, List.map_toArray, List.map_cons, List.map_nil, hs, hx, h1]
  exact hK _ _ _ h2 h3 ((Below.refl _ _).grown h3 hbase fun k hk => (h.lt k hk).1) h4
end
end Go.Proofs.YtnhomkmfbngmgaaGreatDoor

namespace Go.Proofs.YtnhomkmfbngmgaaGreatDoor
open Go.ChangeShapes Go.WideShapes Go.ChangeAt Go.RowKit
open Go.Maps (Keyed)
set_option linter.unusedVariables false
/-- Block b is the set of the pairs of S. -/
structure PSetB (w : World) (b : Nat) (S : List PQ2) : Prop where
  nd : S.Nodup
  fit : ∀ q, q ∈ S → fitP q
  ex : ∃ (D : DataW Unit), w.ownsMap Tryz.prog 177 RB b S.length D ∧ Maps.size D = S.length ∧ DatS D S
section
variable {w w' : World} {b : Nat} {S : List PQ2}
theorem PSetB.made (w : World) : PSetB (w.alloc (.map #[] 0)) w.heap.size [] :=
  ⟨List.nodup_nil, (fun q h => by cases h), .map [], World.ownsMap_made _ _ _ _, rfl, ⟨fun l => ⟨(fun h => by cases h), (fun ⟨q, h, _⟩ => by cases h)⟩, fun l h => by cases h⟩⟩
theorem PSetB.lt (h : PSetB w b S) : b < w.heap.size := by obtain ⟨-, -, D, h1, -⟩ := h; exact h1.lt
theorem PSetB.keep (h : PSetB w b S) (hb : w'.heap[b]? = w.heap[b]?) : PSetB w' b S := by
  obtain ⟨h1, h2, D, ⟨es, clock, h3, r⟩, h4⟩ := h
  exact ⟨h1, h2, D, ⟨es, clock, hb.trans h3, r⟩, h4⟩
theorem PSetB.below (h : PSetB w b S) (hb : Below w.heap.size w w') : PSetB w' b S := h.keep (hb.block b h.lt)
theorem PSetB.map (h : PSetB w b S) : ∃ es clock, w.heap[b]? = some (.map es clock) := by obtain ⟨-, -, D, ⟨es, clock, h1, r⟩, -⟩ := h; exact ⟨es, clock, h1⟩
set_option maxRecDepth 100000 in
theorem PSetB.look (h : PSetB w b S) {q : PQ2} (hq : fitP q) : (Instr.lookup 173 (.map (some b)) (pairV q) false).run Tryz.prog w = .ok (.bool (decide (q ∈ S))) w := by
  obtain ⟨h1, h2, D, h3, h5, h6⟩ := h
  obtain ⟨l, hl⟩ := keyP hq
  obtain ⟨v, ps, hr, hv⟩ := h3.lookup keyedP Tryz.underlying173 (zeroB w) (plainElem_bool Tryz.underlying4 false) hl
  obtain ⟨c, rfl, hc⟩ := RB_inv hv
  simp only [Prod.mk.injEq] at hc
  rw [hr]
  congr 2
  by_cases hm : q ∈ S
  · rw [h6.val l ((h6.has l).2 ⟨q, hm, hl⟩)] at hc
    have := hc.1
    injection this with e
    injection e with e
    rw [decide_eq_true hm]
    exact e.symm
  · have hno : Maps.has D l = false := by
      cases hh : Maps.has D l with
      | false => rfl
      | true =>
        obtain ⟨q', h7, h8⟩ := (h6.has l).1 hh
        exact absurd (KL.inj h8 hl ▸ h7) hm
    rw [Go.Maps.atKey_of_not_has hno] at hc
    have := hc.1
    injection this with e
    injection e with e
    rw [decide_eq_false hm]
    exact e.symm
theorem PSetB.len (h : PSetB w b S) (ty : TypeId) : (Builtin.len_ #[173] ty #[.map (some b)]).run Tryz.prog w = .ok (.int .i64 (S.length : Int)) w := by
  obtain ⟨h1, h2, D, h3, h5, h6⟩ := h
  rw [h3.len Tryz.underlying173 ty, h5]
set_option maxRecDepth 100000 in
theorem PSetB.store (h : PSetB w b S) (hn : S.length < maxLen) {q : PQ2} (hq : fitP q) :
    ∃ w', (Instr.mapUpdate 173 (.map (some b)) (pairV q) (.bool true)).run Tryz.prog w = .ok () w' ∧ PSetB w' b (addQ S q) ∧ w.grownBy w' (some b) := by
  obtain ⟨h1, h2, D, h3, h5, h6⟩ := h
  have hm := h3.isMap
  obtain ⟨l, hl⟩ := keyP hq
  have hkl := keyedP.key hl
  obtain ⟨w', hr, h7, h8⟩ := h3.update keyedP Tryz.underlying173 hn hl (plainElem_bool Tryz.underlying4 true)
  have hsz : Maps.size (D.put l (.lit (.bool true))) = (addQ S q).length := by
    rw [Go.Maps.size_put (h3.tidy keyedP)]
    unfold addQ
    by_cases hm : q ∈ S
    · rw [if_pos ((h6.has l).2 ⟨q, hm, hl⟩), if_pos hm, h5]
    · rw [if_neg (fun hh => by obtain ⟨q', h9, h10⟩ := (h6.has l).1 hh; exact hm (KL.inj h10 hl ▸ h9)), if_neg hm, h5, List.length_append]
      rfl
  refine ⟨w', hr, ⟨?_, ?_, _, hsz ▸ owns_tight h7, hsz, ?_, ?_⟩, h8⟩
  · unfold addQ
    split
    · exact h1
    · rename_i hno
      rw [List.nodup_append]
      exact ⟨h1, by simp, fun a ha b' hb' => by rw [List.mem_singleton.1 hb']; rintro rfl; exact hno ha⟩
  · intro x hx
    rcases addQ_mem.1 hx with hx | rfl
    · exact h2 x hx
    · exact hq
  · intro l'
    by_cases e : l' = l
    · subst e
      exact ⟨fun _ => ⟨q, addQ_mem.2 (.inr rfl), hl⟩, fun _ => Go.Maps.has_true_of_atKey fun z => Go.Maps.atKey_put_same hm hkl _ z⟩
    · rw [Go.Maps.has_put_other e, h6.has]
      constructor
      · rintro ⟨x, hx, hxl⟩
        exact ⟨x, addQ_mem.2 (.inl hx), hxl⟩
      · rintro ⟨x, hx, hxl⟩
        rcases addQ_mem.1 hx with hx | rfl
        · exact ⟨x, hx, hxl⟩
        · exact absurd (Option.some.inj (hxl.symm.trans hl)) e
  · intro l' hh z
    by_cases e : l' = l
    · subst e
      exact Go.Maps.atKey_put_same hm hkl _ z
    · rw [Go.Maps.has_put_other e] at hh
      rw [Go.Maps.atKey_put_other e]
      exact h6.val l' hh z
end
end Go.Proofs.YtnhomkmfbngmgaaGreatDoor

namespace Go.Proofs.YtnhomkmfbngmgaaGreatDoor
open Go.ChangeShapes Go.WideShapes Go.ChangeAt Go.RowKit
set_option linter.unusedVariables false
set_option linter.unusedSimpArgs false

theorem OwnG.lit {α : Type} {size : Nat} {f : α → List Value} (hf : Flat f size) (w : World) {base : Nat} (e : TypeId) (x : α) (cur : Array Value) (hc : cur.toList = f x) (hb : base ≤ w.heap.size) : OwnG size f (w.alloc (.cells cur e)) base e (some ⟨w.heap.size, 0, none⟩) 1 1 [x] := by
  have hs : cur.size = size := by rw [← Array.length_toList, hc, hf.len]
  refine ⟨rfl, .inr ⟨w.heap.size, 0, cur, rfl, hb, heap_alloc_new w _, Nat.le_refl _, by unfold maxLen; omega, by omega, fun j u hu => ?_⟩⟩
  rw [List.flatMap_singleton, ← hc] at hu
  rw [Nat.zero_add]
  simpa using hu
/-- An element of the queue: two states, and where its trace lies. -/
abbrev PE := (Int × Int) × Option Addr × Nat × Nat
def pe (x : PE) : List Value := [.int .i64 x.1.1, .int .i64 x.1.2, .slice x.2.1 x.2.2.1 x.2.2.2]
theorem flat_pe : Flat pe 3 := ⟨fun _ => rfl, fun x v h => by
  unfold pe at h
  simp at h
  rcases h with rfl | rfl | rfl <;> rfl⟩
theorem elem_pe : Elem Tryz.prog 176 175 3 40 := Elem.of (z := .agg #[.int .i64 0, .int .i64 0, .slice none 0 0]) Tryz.underlying176 (by kernel_rfl) rfl (by omega) (by omega)
abbrev PEt := PE × List ByteArray
def ptQ (Q : List PEt) : List (PT ByteArray) := Q.map fun r => (r.1.1, r.2)
structure TodW (w0 wr : World) (A : Option Addr) (n c : Nat) (Q : List PEt) : Prop where
  own : OwnG 3 pe wr w0.heap.size 175 A n c (Q.map (·.1))
  rows : ∀ r ∈ Q, Own 1 strv wr w0.heap.size 9 r.1.2.1 r.1.2.2.1 r.1.2.2.2 r.2
section
variable {w0 wr w' : World} {A : Option Addr} {n c : Nat} {Q : List PEt}
theorem TodW.len (h : TodW w0 wr A n c Q) : Q.length = n := by have := h.own.len; rwa [List.length_map] at this
theorem TodW.below (h : TodW w0 wr A n c Q) (hb : Below wr.heap.size wr w') : TodW w0 w' A n c Q :=
  ⟨h.own.below hb (Nat.le_refl _), fun r hr => (h.rows r hr).below hb (Nat.le_refl _)⟩
/-- A map is written. -/
theorem TodW.stored (h : TodW w0 wr A n c Q) {bm : Nat} {es : Array MapEntry} {clock : Nat} (hm : wr.heap[bm]? = some (.map es clock)) (hg : wr.grownBy w' (some bm)) : TodW w0 w' A n c Q := by
  have key : ∀ {g : Nat} {cur : Array Value} {e : TypeId}, wr.heap[g]? = some (.cells cur e (0, 0)) → w'.heap[g]? = wr.heap[g]? := fun {g cur e} hb => hg.block g (Array.getElem?_eq_some_iff.1 hb).1 fun e1 => by
    injection e1 with e1
    rw [e1, hm] at hb
    cases hb
  exact ⟨h.own.keep fun g _ hg' => by obtain ⟨-, -, cur, h1⟩ := h.own.typed g hg'; exact key h1, fun r hr => (h.rows r hr).keep fun g hg' => by obtain ⟨-, -, cur, h1⟩ := (h.rows r hr).typedK hg'; exact key h1⟩
/-- One more. -/
theorem TodW.push (h : TodW w0 wr A n c Q) {r : PEt} (hr : Own 1 strv wr w0.heap.size 9 r.1.2.1 r.1.2.2.1 r.1.2.2.2 r.2) {A' : Option Addr} {c' : Nat} (ho : OwnG 3 pe w' w0.heap.size 175 A' (n + 1) c' (Q.map (·.1) ++ [r.1])) (hg : wr.grownBy w' (Value.slice A n c).ownBlock) : TodW w0 w' A' (n + 1) c' (Q ++ [r]) := by
  have key : ∀ (x : PEt), Own 1 strv wr w0.heap.size 9 x.1.2.1 x.1.2.2.1 x.1.2.2.2 x.2 → Own 1 strv w' w0.heap.size 9 x.1.2.1 x.1.2.2.1 x.1.2.2.2 x.2 := fun x hx => hx.keep fun g hg' => by
    obtain ⟨h1, h2, cur, h3⟩ := hx.typedK hg'
    exact hg.block g h2 (h.own.other h3 (by decide))
  refine ⟨by rw [List.map_append]; exact ho, fun x hx => ?_⟩
  rcases List.mem_append.1 hx with hx | hx
  · exact key x (h.rows x hx)
  · rw [List.mem_singleton.1 hx]
    exact key r hr
/-- The first is taken off. -/
theorem TodW.cut {r : PEt} (h : TodW w0 wr A n c (r :: Q)) : TodW w0 wr (cutA A 1 c 3) (n - 1) (c - 1) Q :=
  ⟨OwnG.cut flat_pe (x := r.1) h.own, fun x hx => h.rows x (List.mem_cons_of_mem _ hx)⟩
theorem TodW.head {r : PEt} (h : TodW w0 wr A n c (r :: Q)) : ∃ g off, A = some ⟨g, off, none⟩ ∧ g < wr.heap.size ∧ wr.cell? ⟨g, off, none⟩ = some (.int .i64 r.1.1.1) ∧ wr.cell? ⟨g, off + 1, none⟩ = some (.int .i64 r.1.1.2) ∧ wr.cell? ⟨g, off + 2, none⟩ = some (.slice r.1.2.1 r.1.2.2.1 r.1.2.2.2) ∧ 0 < n ∧ n ≤ c := by
  obtain ⟨g, off, rfl, -, hl, hc, h1, h2⟩ := OwnG.head (x := r.1) h.own
  exact ⟨g, off, rfl, hl, hc 0 _ rfl, hc 1 _ rfl, hc 2 _ rfl, h1, h2⟩
/-- The set lies elsewhere. -/
theorem TodW.apartM (h : TodW w0 wr A n c Q) {b : Nat} {Z : List (Int × Int)} (hm : PSetB wr b Z) : some b ≠ (Value.slice A n c).ownBlock := fun e => by
  obtain ⟨-, -, cur, h1⟩ := h.own.typed b e.symm
  obtain ⟨es, clock, h2⟩ := hm.map
  rw [h2] at h1
  cases h1
/-- A row of texts lies elsewhere. -/
theorem TodW.apartS (h : TodW w0 wr A n c Q) {base m d : Nat} {B : Option Addr} {l : List ByteArray} (o : Own 1 strv wr base 9 B m d l) (hg : wr.grownBy w' (Value.slice A n c).ownBlock) : Own 1 strv w' base 9 B m d l := o.keep fun g hg' => by
  obtain ⟨h1, h2, cur, h3⟩ := o.typedK hg'
  exact hg.block g h2 (h.own.other h3 (by decide))
end
end Go.Proofs.YtnhomkmfbngmgaaGreatDoor

namespace Go.Proofs.YtnhomkmfbngmgaaGreatDoor
open Go.ChangeShapes Go.WideShapes Go.ChangeAt Go.RowKit Go.Sort Go.Lib
set_option linter.unusedVariables false
set_option linter.unusedSimpArgs false

/-- The greatest of a list. -/
def MaxL (l : List Int) (M : Int) : Prop := M ∈ l ∧ ∀ x, x ∈ l → x ≤ M
theorem MaxL.step {l : List Int} {k : Nat} {x M : Int} (h : MaxL (l.take k) M) (hx : l[k]? = some x) : MaxL (l.take (k + 1)) (if M < x then x else M) := by
  rw [List.take_add_one, hx]
  by_cases c : M < x
  · rw [if_pos c]
    refine ⟨List.mem_append_right _ (List.mem_singleton.2 rfl), fun y hy => ?_⟩
    rcases List.mem_append.1 hy with g | g
    · have := h.2 y g; omega
    · have := List.mem_singleton.1 g; omega
  · rw [if_neg c]
    refine ⟨List.mem_append_left _ h.1, fun y hy => ?_⟩
    rcases List.mem_append.1 hy with g | g
    · exact h.2 y g
    · have := List.mem_singleton.1 g; omega
end Go.Proofs.YtnhomkmfbngmgaaGreatDoor

namespace Go.Proofs.YtnhomkmfbngmgaaGreatDoor
open Go.ChangeShapes Go.WideShapes Go.ChangeAt Go.RowKit Go.Sort Go.Lib
set_option linter.unusedVariables false
set_option linter.unusedSimpArgs false

/-- The block of a state. -/
def pv (p : List Int) (x : Int) : Int := p[x.toNat]?.getD 0
end Go.Proofs.YtnhomkmfbngmgaaGreatDoor

namespace Go.Proofs.YtnhomkmfbngmgaaGreatDoor
set_option linter.unusedVariables false

structure BisR {L : Type} (A B : Nat → L → Nat → Prop) (R : Nat → Nat → Prop) : Prop where
  fwd : ∀ x y s x', R x y → A x s x' → ∃ y', B y s y' ∧ R x' y'
  bwd : ∀ x y s y', R x y → B y s y' → ∃ x', A x s x' ∧ R x' y'
/-- Two states that are strongly bisimilar. -/
def Bis {L : Type} (A B : Nat → L → Nat → Prop) (a b : Nat) : Prop := ∃ R, BisR A B R ∧ R a b
section
variable {L : Type} {A B C : Nat → L → Nat → Prop} {a b c : Nat}
theorem Bis.refl (A : Nat → L → Nat → Prop) (a : Nat) : Bis A A a a :=
  ⟨fun x y => x = y, ⟨fun x y s x' e h => ⟨x', e ▸ h, rfl⟩, fun x y s y' e h => ⟨y', e.symm ▸ h, rfl⟩⟩, rfl⟩
theorem Bis.symm (h : Bis A B a b) : Bis B A b a := by
  obtain ⟨R, h1, h2⟩ := h
  exact ⟨fun x y => R y x, ⟨fun x y s x' e g => h1.bwd y x s x' e g, fun x y s y' e g => h1.fwd y x s y' e g⟩, h2⟩
theorem Bis.trans (h : Bis A B a b) (g : Bis B C b c) : Bis A C a c := by
  obtain ⟨R, h1, h2⟩ := h
  obtain ⟨S, g1, g2⟩ := g
  refine ⟨fun x z => ∃ y, R x y ∧ S y z, ⟨fun x z s x' e k => ?_, fun x z s z' e k => ?_⟩, b, h2, g2⟩
  · obtain ⟨y, e1, e2⟩ := e
    obtain ⟨y', k1, k2⟩ := h1.fwd x y s x' e1 k
    obtain ⟨z', k3, k4⟩ := g1.fwd y z s y' e2 k1
    exact ⟨z', k3, y', k2, k4⟩
  · obtain ⟨y, e1, e2⟩ := e
    obtain ⟨y', k1, k2⟩ := g1.bwd y z s z' e2 k
    obtain ⟨x', k3, k4⟩ := h1.bwd x y s y' e1 k1
    exact ⟨x', k3, y', k4, k2⟩
theorem Bis.step (h : Bis A B a b) {s : L} {a' : Nat} (k : A a s a') : ∃ b', B b s b' ∧ Bis A B a' b' := by
  obtain ⟨R, h1, h2⟩ := h
  obtain ⟨b', k1, k2⟩ := h1.fwd a b s a' h2 k
  exact ⟨b', k1, R, h1, k2⟩
end

/-- An edge with a numbered label. -/
def nE (es : List Ed) (x : Nat) (l : Int) (y : Nat) : Prop := ((x : Int), l, (y : Int)) ∈ es
section
variable {es : List Ed} {N r : Nat}
end

/-! ## Labels as texts -/
/-- An edge with the text of its label. -/
def tE (ls : List ByteArray) (es : List Ed) (x : Nat) (s : ByteArray) (y : Nat) : Prop := ∃ l : Nat, nE es x (l : Int) y ∧ ls[l]? = some s
end Go.Proofs.YtnhomkmfbngmgaaGreatDoor

namespace Go.Proofs.YtnhomkmfbngmgaaGreatDoor
open Go.ChangeShapes Go.WideShapes Go.ChangeAt Go.RowKit Go.Sort Go.Lib
set_option linter.unusedVariables false
set_option linter.unusedSimpArgs false

/-- What validity says of the names and the order. -/
theorem ltsV_names {st ini : Int} {ls : List ByteArray} {es : List Ed} (h : ltsV (st, ini, ls, es) = true) : namesB ls = true ∧ es.length ≤ 300 := by
  rw [ltsV_eq] at h
  simp only [Bool.and_eq_true, decide_eq_true_eq] at h
  exact ⟨h.1.2.2.1, h.1.2.2.2⟩
end Go.Proofs.YtnhomkmfbngmgaaGreatDoor

namespace Go.Proofs.YtnhomkmfbngmgaaGreatDoor
open Go.ChangeShapes Go.WideShapes Go.ChangeAt Go.RowKit
set_option linter.unusedVariables false
set_option linter.unusedSimpArgs false

theorem grown_cellT {w w' : World} {row : Option Nat} (hg : w.grownBy w' row) {b i : Nat} (hb : b < w.heap.size) (hne : some b ≠ row) : w'.cell? ⟨b, i, none⟩ = w.cell? ⟨b, i, none⟩ :=
  World.cell?_of_block (w := w) (by simpa using hg.block b hb hne)
theorem run_field2 (s0 s1 : Int) (A2 : Option Addr) (n2 k2 : Nat) (A : Option Addr) (m c : Nat) (W : World) : (Instr.field 27 (.agg #[.int .i64 s0, .int .i64 s1, .slice A2 n2 k2, .slice A m c]) 2).run Tryz.prog W = .ok (.slice A2 n2 k2) W := by
  first
  | (simp [Instr.field, run_underlying Tryz.underlying27, go_sem]; done)
  | (simp [Instr.field, run_underlying Tryz.underlying27, go_sem]; rfl)
/-- What the search answers. -/
def AnsT (r : Option (List ByteArray)) (w : World) (e : Ending) (w' : World) : Prop := match r with
  | none => e = .returned (.tuple #[.slice none 0 0, .bool false])
  | some t => ∃ A n c, e = .returned (.tuple #[.slice A n c, .bool true]) ∧ SlS w' w.heap.size w'.heap.size A n t
/-- The pairs that were seen are states of the two systems. -/
def SeenI (sA sB : Int) (Z : List (Int × Int)) : Prop := Z.Nodup ∧ ∀ q ∈ Z, (-1 ≤ q.1 ∧ q.1 ≤ sA - 1) ∧ -1 ≤ q.2 ∧ q.2 ≤ sB - 1
theorem SeenI.len {sA sB : Int} {Z : List (Int × Int)} (h : SeenI sA sB Z) (ha : sA ≤ 40) (hb : sB ≤ 40) : Z.length ≤ 1681 := by
  have h1 : RangeW (Z.map fun q => ((q, []) : PT ByteArray)) := by
    refine ⟨?_, fun e he => ?_⟩
    · unfold prs
      rw [List.map_map]
      have : (fun x => x.1) ∘ (fun q : Int × Int => ((q, []) : PT ByteArray)) = id := rfl
      rw [this, List.map_id]
      exact h.1
    · obtain ⟨q, hq, rfl⟩ := List.mem_map.1 he
      have := h.2 q hq
      dsimp only
      omega
  have h2 := h1.len
  rwa [List.length_map] at h2
theorem fit_pair {a b : Int} (h1 : -1 ≤ a) (h2 : a ≤ 1048576) (h3 : -1 ≤ b) (h4 : b ≤ 1048576) : fitP (a, b) :=
  ⟨WalkArith.wf_i64 (by omega), WalkArith.wf_i64 (by omega)⟩
theorem goE_rangeT {st ini : Int} {ls : List ByteArray} {es : List Ed} (h : ltsV (st, ini, ls, es) = true) (lab : ByteArray) (x : Int) : -1 ≤ goE es ls lab x ∧ goE es ls lab x ≤ st - 1 := goE_range h lab x
/-- The elements of the queue: pairs in range, traces not longer than what was seen. -/
def QueI (sA sB : Int) (z : Nat) (Q : List PEt) : Prop := ∀ r ∈ Q, ((-1 ≤ r.1.1.1 ∧ r.1.1.1 ≤ sA - 1) ∧ -1 ≤ r.1.1.2 ∧ r.1.1.2 ≤ sB - 1) ∧ r.1.2.2.1 ≤ z
theorem QueI.more {sA sB : Int} {z z' : Nat} {Q : List PEt} (h : QueI sA sB z Q) (hz : z ≤ z') : QueI sA sB z' Q := fun r hr => ⟨(h r hr).1, Nat.le_trans (h r hr).2 hz⟩
set_option maxRecDepth 100000 in
set_option maxHeartbeats 12800000 in
theorem firstTrace_calls {w : World} {sA iA sB iB : Int} {la lb : List ByteArray} {ea eb : List Ed} {A2 : Option Addr} {n2 k2 : Nat} {A3 : Option Addr} {n3 k3 : Nat} {B2 : Option Addr} {m2 j2 : Nat} {B3 : Option Addr} {m3 j3 : Nat}
    (ta : SlS w 0 w.heap.size A2 n2 la) (tea : SlE w 0 w.heap.size A3 n3 ea) (va : detV (sA, iA, la, ea) = true) (tb : SlS w 0 w.heap.size B2 m2 lb) (teb : SlE w 0 w.heap.size B3 m3 eb) (vb : detV (sB, iB, lb, eb) = true)
    (F : FuncId) (caps : Array Value) (bad : Int × Int → Bool) (hF : ∀ (v u : Value) (W : World), Sem.run Tryz.prog (callFunc F (#[v, u] ++ caps)) W = .ok (.enter F (#[v, u] ++ caps)) W)
    (hFc : ∀ (x y : Int) (W : World), Below w.heap.size w W → x ≤ sA - 1 → y ≤ sB - 1 → Calls Tryz.prog F (#[.int .i64 x, .int .i64 y] ++ caps) W fun e w' => e = .returned (.bool (bad (x, y))) ∧ Below W.heap.size W w') :
    Calls Tryz.prog 72 #[.agg #[.int .i64 sA, .int .i64 iA, .slice A2 n2 k2, .slice A3 n3 k3], .agg #[.int .i64 sB, .int .i64 iB, .slice B2 m2 j2, .slice B3 m3 j3], .func (.func F) #[] caps] w fun e w' => ∃ r : Option (List ByteArray), IRun (fun x t => (joiF (la ++ lb)).tail.map fun s => ((goE ea la s x.1, goE eb lb s x.2), t ++ [s])) bad [((iA, iB), [])] [] r ∧ AnsT r w e w' ∧ Below w.heap.size w w' := by
  have hE := hide elem_str
  have hEp := hide elem_pe
  have hla2 := ta.len
  have hlb2 := tb.len
  have hva : ltsV (sA, iA, la, ea) = true := by unfold detV at va; rw [Bool.and_eq_true] at va; exact va.1
  have hvb : ltsV (sB, iB, lb, eb) = true := by unfold detV at vb; rw [Bool.and_eq_true] at vb; exact vb.1
  have hfa := (ltsV_names hva).2
  have hfb := (ltsV_names hvb).2
  rw [tea.len] at hfa
  rw [teb.len] at hfb
  have hna : la.length ≤ 12 ∧ lb.length ≤ 12 := by
    have h1 := (ltsV_names hva).1
    have h2 := (ltsV_names hvb).1
    unfold namesB at h1 h2
    rw [Bool.and_eq_true] at h1 h2
    have h3 := inB_true.1 h1.1
    have h4 := inB_true.1 h2.1
    omega
  obtain ⟨hsA, hiA⟩ := lts_states hva
  obtain ⟨hsB, hiB⟩ := lts_states hvb
  have hJl : (joiF (la ++ lb)).length ≤ 25 := by
    have := joiF_len (la ++ lb)
    rw [List.length_append] at this
    omega
  obtain ⟨J, hJe⟩ : ∃ J, J = joiF (la ++ lb) := ⟨_, rfl⟩
  rw [← hJe] at hJl ⊢
  have hJ1 : 1 ≤ J.length := by rw [hJe]; exact (List.getElem?_eq_some_iff.1 (joi_head _)).1
  obtain ⟨w0, hw0⟩ : ∃ w0, w0 = (w.alloc (.cells #[.int .i64 sA, .int .i64 iA, .slice A2 n2 k2, .slice A3 n3 k3] 27)).alloc (.cells #[.int .i64 sB, .int .i64 iB, .slice B2 m2 j2, .slice B3 m3 j3] 27) := ⟨_, rfl⟩
  have z1 : (w.alloc (.cells #[.int .i64 sA, .int .i64 iA, .slice A2 n2 k2, .slice A3 n3 k3] 27)).heap.size = w.heap.size + 1 := World.size_alloc _ _
  have z0 : w0.heap.size = w.heap.size + 1 + 1 := by rw [hw0, World.size_alloc, z1]
  have hBx : LtsBox w0 w.heap.size sA iA A2 n2 k2 A3 n3 k3 := by rw [hw0]; exact (Below.heap_alloc _ _ _ (by omega)).trans (heap_alloc_new w _)
  have hBy : LtsBox w0 (w.heap.size + 1) sB iB B2 m2 j2 B3 m3 j3 := by rw [hw0, ← z1]; exact heap_alloc_new _ _
  have hb0 : Below w.heap.size w w0 := by rw [hw0]; exact ((Below.refl _ _).alloc (Nat.le_refl _) _).alloc (by omega) _
  obtain ⟨bA, hbA⟩ : ∃ bA, bA = w.heap.size := ⟨_, rfl⟩
  obtain ⟨bB, hbB⟩ : ∃ bB, bB = w.heap.size + 1 := ⟨_, rfl⟩
  rw [← hbA] at hBx
  rw [← hbB] at hBy
  have hlA : bA < w0.heap.size := by omega
  have hlB : bB < w0.heap.size := by omega
  have hSb := hide (fun (w' : World) (hx : Below w0.heap.size w0 w') => (show (w'.cell? ⟨bA, 0, none⟩ = some (.int .i64 sA) ∧ w'.cell? ⟨bA, 1, none⟩ = some (.int .i64 iA) ∧ w'.cell? ⟨bA, 2, none⟩ = some (.slice A2 n2 k2) ∧ w'.cell? ⟨bA, 3, none⟩ = some (.slice A3 n3 k3)) ∧ (w'.cell? ⟨bB, 0, none⟩ = some (.int .i64 sB) ∧ w'.cell? ⟨bB, 1, none⟩ = some (.int .i64 iB) ∧ w'.cell? ⟨bB, 2, none⟩ = some (.slice B2 m2 j2) ∧ w'.cell? ⟨bB, 3, none⟩ = some (.slice B3 m3 j3)) from ⟨⟨(hBx.below hx hlA).c0, (hBx.below hx hlA).c1, (hBx.below hx hlA).c2, (hBx.below hx hlA).c3⟩, (hBy.below hx hlB).c0, (hBy.below hx hlB).c1, (hBy.below hx hlB).c2, (hBy.below hx hlB).c3⟩))
  have qA0 := hide (fun (x : Int) (s : ByteArray) (W : World) (hW : Below w0.heap.size w0 W) => step_calls sA iA A2 n2 k2 A3 n3 k3 x s la ea W _ _ ((ta.below hb0 (.inl (Nat.le_refl _))).below hW (.inl hb0.size)) ((tea.below hb0 (.inl (Nat.le_refl _))).below hW (.inl hb0.size)) (by omega) va)
  have qB0 := hide (fun (x : Int) (s : ByteArray) (W : World) (hW : Below w0.heap.size w0 W) => step_calls sB iB B2 m2 j2 B3 m3 j3 x s lb eb W _ _ ((tb.below hb0 (.inl (Nat.le_refl _))).below hW (.inl hb0.size)) ((teb.below hb0 (.inl (Nat.le_refl _))).below hW (.inl hb0.size)) (by omega) vb)
  have hF0 := hide (fun (x y : Int) (W : World) (hW : Below w0.heap.size w0 W) => hFc x y W (hb0.trans (hW.mono hb0.size)))
  obtain ⟨wS, hwS⟩ : ∃ wS, wS = w0.alloc (.cells #[.slice A2 n2 k2, .slice B2 m2 j2] 24) := ⟨_, rfl⟩
  have ks : wS.heap[w0.heap.size]? = some (.cells #[.slice A2 n2 k2, .slice B2 m2 j2] 24 (0, 0)) := by rw [hwS]; exact heap_alloc_new w0 _
  have hbS : Below w0.heap.size w0 wS := by rw [hwS]; exact (Below.refl _ _).alloc (Nat.le_refl _) _
  have hqC := hide (concatS_calls w0.heap.size A2 n2 k2 B2 m2 j2 la lb wS _ _ _ _ ((cell_of_row _ _ 0 _ _ (0, 0) ks).trans rfl) ((cell_of_row _ _ 1 _ _ (0, 0) ks).trans rfl) (Array.getElem?_eq_some_iff.1 ks).1 ((ta.below hb0 (.inl (Nat.le_refl _))).below hbS (.inl hb0.size)) ((tb.below hb0 (.inl (Nat.le_refl _))).below hbS (.inl hb0.size)) (by omega) (by omega))
  obtain ⟨⟨a0, a1, a2, a3⟩, b0, b1, b2, b3⟩ := hSb.out w0 (Below.refl _ _)
  have hbw := hide hb0
  have hvah := hide hva
  have hvbh := hide hvb
  have hJh := hide hJe
  have hbSh := hide hbS
  have hl2 : n2 + m2 ≤ 24 := by omega
  replace hwS := hide hwS
  clear hBx hBy hb0 ta tea tb teb va vb hFc hfa hfb hva hvb hla2 hlb2 hna hJe ks hbS z0 z1
  go_enter Tryz.func72, Tryz.ntmps72
  go_upto_region 1 with fail
  rw [← show w0 = _ from hw0, ← hbB, ← hbA]
  replace hw0 := hide hw0
  replace hbA := hide hbA
  replace hbB := hide hbB
  go_upto_region 2 with (first
    | (go_at_call 155; go_loud (rw [← show wS = _ from hwS.out]; (with_reducible refine hqC.out.mono ?_); rintro e w1 ⟨A6, c6, rfl, hown6, hb6⟩; have hqL := hide (ltsC_calls 1 0 A6 (n2 + m2) c6 (la ++ lb) none 0 0 [] w1 _ _ 0 0 (hown6.sl flat_strv) (Nat.le_refl _) (by omega) Sl.nil_ (Nat.zero_le _) (by omega)); have hb6h := hide hb6))
    | (go_at_call 134; (with_reducible refine hqL.out.mono ?_); rintro e w2 ⟨AJ, nJ, cJ, A7, n7, c7, rfl, hJs, hO7, hb7, hcJ⟩; have hcut : ∀ W : World, (Instr.slice 24 (.slice AJ nJ cJ) (some (.int .i64 1)) none none).run Tryz.prog W = .ok (.slice (cutA AJ 1 cJ 1) (nJ - 1) (cJ - 1)) W := fun W => run_cut hE.out AJ nJ cJ 1 (by have := hJs.len; rw [← hJh.out] at this; omega) W; have hfld := run_field2 1 0 AJ nJ cJ A7 n7 c7))
  rw [← hJh.out] at hJs
  have hnJ := hJs.len
  have hJt := hide (hJs.cut (k := 1) (by omega) hcJ)
  have hdrop : Hid (J.drop 1 = J.tail) := List.drop_one
  have hb2 := hide (hbSh.out.trans ((hb6h.out.trans (hb7.mono hb6h.out.size)).mono hbSh.out.size))
  have hz2 := hb2.out.size
  generalize cutA AJ 1 cJ 1 = AT at *
  generalize cJ - 1 = cT at *
  obtain ⟨nT, hnT⟩ : ∃ nT, nT = nJ - 1 := ⟨_, rfl⟩
  rw [← hnT] at hJt ⊢
  rw [hdrop.out] at hJt
  have hnT24 : nT ≤ 24 := by omega
  clear hJs hO7 hb7 hcJ hqL hqC hcut hfld hown6 hb6 hb6h hbSh hnT hnJ
  obtain ⟨⟨a0, a1, a2, a3⟩, b0, b1, b2, b3⟩ := hSb.out w2 hb2.out
  -- the map
  obtain ⟨wM, hwM⟩ : ∃ wM, wM = w2.alloc (.map #[] 0) := ⟨_, rfl⟩
  have hM0 : PSetB wM w2.heap.size [] := by rw [hwM]; exact PSetB.made w2
  have hbM : Below w2.heap.size w2 wM := by rw [hwM]; exact (Below.refl _ _).alloc (Nat.le_refl _) _
  have hbM0 := hide (hb2.out.trans (hbM.mono hz2))
  obtain ⟨⟨d0, d1, d2, d3⟩, f0, f1, f2, f3⟩ := hSb.out wM hbM0.out
  have hmm := @run_makeMap Tryz.prog
  go_upto_region 3 with fail
  rw [← show wM = _ from hwM]
  replace hwM := hide hwM
  have hzM : w2.heap.size ≤ wM.heap.size := hbM.size
  have hT0 : Hid (TodW w2 (wM.alloc (.cells #[.int .i64 iA, .int .i64 iB, .slice none 0 0] 175)) (some ⟨wM.heap.size, 0, none⟩) 1 1 [(((iA, iB), none, 0, 0), [])]) := ⟨OwnG.lit flat_pe wM 175 ((iA, iB), none, 0, 0) _ rfl hzM, fun r hr => by rw [List.mem_singleton.1 hr]; exact Own.nil_ _ _ _⟩
  have hbT := hide (hbM.trans ((Below.refl wM.heap.size wM).alloc (Nat.le_refl _) (.cells #[.int .i64 iA, .int .i64 iB, .slice none 0 0] 175) |>.mono hzM))
  have hP0 := hide (hM0.below ((Below.refl wM.heap.size wM).alloc (Nat.le_refl _) (.cells #[.int .i64 iA, .int .i64 iB, .slice none 0 0] 175)))
  have hG0 : Hid (SeenI sA sB []) := ⟨List.nodup_nil, fun q h => by cases h⟩
  have hQ0 : Hid (QueI sA sB 0 [(((iA, iB), none, 0, 0), [])]) := fun r hr => by
    rw [List.mem_singleton.1 hr]
    dsimp only
    omega
  have hbM0' := hbM0
  clear hM0 hbM hbM0 a0 a1 a2 a3 b0 b1 b2 b3
  go_upto_region 4 with fail
  clear d0 d1 d2 d3 f0 f1 f2 f3
  go_loopg [10] (1 + 1682 * 25) (fun G s10 wr => ∃ (A : Option Addr) (n c : Nat) (Q : List PEt) (Z : List (Int × Int)), s10 = .slice A n c ∧ Hid (TodW w2 wr A n c Q) ∧ Hid (PSetB wr w2.heap.size Z) ∧ Hid (SeenI sA sB Z) ∧ Hid (QueI sA sB Z.length Q) ∧ Hid (Below w2.heap.size w2 wr) ∧ Hid (∀ r, IRun (fun (x : Int × Int) (t : List ByteArray) => J.tail.map fun s => ((goE ea la s x.1, goE eb lb s x.2), t ++ [s])) bad (ptQ Q) Z r → IRun (fun (x : Int × Int) (t : List ByteArray) => J.tail.map fun s => ((goE ea la s x.1, goE eb lb s x.2), t ++ [s])) bad [((iA, iB), [])] [] r) ∧ Hid (n + (1682 - Z.length) * 25 ≤ G ∧ n ≤ 1 + Z.length * 24))
  case atStart => exact ⟨_, 1, 1, [(((iA, iB), none, 0, 0), [])], [], rfl, hT0, hP0, hG0, hQ0, hbT, fun r h => h, by show _ ∧ _; simp⟩
  case round =>
    clear hT0 hP0 hG0 hQ0 hbT
    obtain ⟨A, n, c, Q, Z, rfl, hT, hPS, hG, hQ, hbr, hR, hgk⟩ := hrel
    have hQn := hT.out.len
    by_cases hn0 : 0 < n
    · obtain ⟨⟨⟨⟨x, y⟩, tA, tn, tc⟩, t⟩, Q', rfl⟩ : ∃ r Q', Q = r :: Q' := by
        cases Q with
        | nil => simp at hQn; omega
        | cons r Q' => exact ⟨r, Q', rfl⟩
      obtain ⟨G2, rfl⟩ : ∃ G2, gk = G2 + 1 := ⟨gk - 1, by have := hgk.out; omega⟩
      obtain ⟨gq, oq, rfl, hgl, p0, p1, p2, -, hnc⟩ := hT.out.head
      have hi0 : (0 : Int) < (n : Int) := by omega
      have hZl := hG.out.len hsA.2 hsB.2
      have hQr := (hQ.out _ (List.mem_cons_self ..))
      dsimp only at p0 p1 p2 hQr
      obtain ⟨⟨⟨hx0, hx1⟩, hy0, hy1⟩, htl⟩ := hQr
      have hQ2 : Hid (QueI sA sB Z.length Q') := fun r hr => hQ.out r (List.mem_cons_of_mem _ hr)
      have htr := (hT.out.rows _ (List.mem_cons_self ..))
      dsimp only at htr
      have htlen := htr.len
      have hcut : ∀ W : World, (Instr.slice 176 (.slice (some ⟨gq, oq, none⟩) n c) (some (.int .i64 1)) none none).run Tryz.prog W = .ok (.slice (cutA (some ⟨gq, oq, none⟩) 1 c 3) (n - 1) (c - 1)) W := fun W => run_cut hEp.out (some ⟨gq, oq, none⟩) n c 1 (by omega) W
      have hTc := hT.out.cut
      have hbk := OwnG.cutBlock (size := 3) (some ⟨gq, oq, none⟩) n c
      have hblt : ∀ q, (Value.slice (cutA (some ⟨gq, oq, none⟩) 1 c 3) (n - 1) (c - 1)).ownBlock = some q → q < wr.heap.size := fun q hq => (hTc.own.lt q hq).2
      obtain ⟨wp, hwp⟩ : ∃ wp, wp = wr.alloc (.cells #[.int .i64 x, .int .i64 y, .slice tA tn tc] 175) := ⟨_, rfl⟩
      obtain ⟨bp, hbp⟩ : ∃ bp, bp = wr.heap.size := ⟨_, rfl⟩
      have kp : wp.heap[bp]? = some (.cells #[.int .i64 x, .int .i64 y, .slice tA tn tc] 175 (0, 0)) := by rw [hwp, hbp]; exact heap_alloc_new wr _
      have hbP : Below wr.heap.size wr wp := by rw [hwp]; exact (Below.refl _ _).alloc (Nat.le_refl _) _
      have hTp := hide (hTc.below hbP)
      have hPp := hide (hPS.out.below hbP)
      have htp := hide (htr.below hbP (Nat.le_refl _))
      have hbrp := hide (hbr.out.trans (hbP.mono hbr.out.size))
      have hne : Hid (∀ q, (Value.slice (cutA (some ⟨gq, oq, none⟩) 1 c 3) (n - 1) (c - 1)).ownBlock = some q → q ≠ bp) := fun q hq => by have := hblt q hq; omega
      have hbm : w2.heap.size < bp := by have := hPS.out.lt; omega
      go_upto_region 6 with fail
      rw [← show wp = _ from hwp, ← hbp]
      have l0 := (cell_of_row _ _ 0 _ _ (0, 0) kp).trans (show _ = some (Value.int .i64 x) from rfl)
      have l1 := (cell_of_row _ _ 1 _ _ (0, 0) kp).trans (show _ = some (Value.int .i64 y) from rfl)
      have l2 := (cell_of_row _ _ 2 _ _ (0, 0) kp).trans (show _ = some (Value.slice tA tn tc) from rfl)
      replace hwp := hide hwp
      replace hbp := hide hbp
      replace hbP := hide hbP
      replace kp := hide kp
      clear p0 p1 p2 hT hPS hbr htr hTc
      go_upto_region 7 with fail
      generalize cutA (some ⟨gq, oq, none⟩) 1 c 3 = A1 at *
      have hlook : (Instr.lookup 173 (.map (some w2.heap.size)) (.agg #[.int .i64 x, .int .i64 y]) false).run Tryz.prog wp = .ok (.bool (decide ((x, y) ∈ Z))) wp := hPp.out.look (fit_pair hx0 (by omega) hy0 (by omega))
      go_cut [54] (fun v wx => v = .bool (decide (deadP (x, y) = true ∨ (x, y) ∈ Z)) ∧ wx = wp)
      case first =>
        by_cases c1 : x < 0
        · have d1 : decide (x < 0) = true := decide_eq_true c1
          by_cases c2 : y < 0
          · have d2 : decide (y < 0) = true := decide_eq_true c2
            have e9 : decide (deadP (x, y) = true ∨ (x, y) ∈ Z) = true := decide_eq_true (.inl (by unfold deadP; simp [c1, c2]))
            go_wp2_with fail
            go_meet
            exact ⟨by rw [e9], rfl⟩
          · have d2 : decide (y < 0) = false := decide_eq_false c2
            have e9 : decide (deadP (x, y) = true ∨ (x, y) ∈ Z) = decide ((x, y) ∈ Z) := by unfold deadP; simp [c1, c2]
            go_wp2_with fail
            go_meet
            exact ⟨by rw [e9], rfl⟩
        · have d1 : decide (x < 0) = false := decide_eq_false c1
          have e9 : decide (deadP (x, y) = true ∨ (x, y) ∈ Z) = decide ((x, y) ∈ Z) := by unfold deadP; simp [c1]
          go_wp2_with fail
          go_meet
          exact ⟨by rw [e9], rfl⟩
      case rest =>
        obtain ⟨rfl, rfl⟩ := hcut
        clear hlook hcut
        by_cases hskip : deadP (x, y) = true ∨ (x, y) ∈ Z
        · rw [decide_eq_true hskip]
          have hR2 := hide (fun r (h : IRun (fun (x : Int × Int) (t : List ByteArray) => J.tail.map fun s => ((goE ea la s x.1, goE eb lb s x.2), t ++ [s])) bad (ptQ Q') Z r) => hR.out r (IRun.skip (x := (x, y)) (t := t) hskip h))
          clear l0 l1 l2 hskip
          go_wp2_with fail
          go_roundg G2
          case measure => omega
          case rel => exact ⟨A1, n - 1, c - 1, Q', Z, rfl, hTp, hPp, hG, hQ2, hbrp, hR2, by show _ ∧ _; have := hgk.out; omega⟩
        · rw [decide_eq_false hskip]
          have hnm : (x, y) ∉ Z := fun h => hskip (.inr h)
          obtain ⟨wZ, hrun0, hPZ0, hgZ⟩ := hPp.out.store (q := (x, y)) (by unfold maxLen; omega) (fit_pair hx0 (by omega) hy0 (by omega))
          have hrun : (Instr.mapUpdate 173 (.map (some w2.heap.size)) (.agg #[.int .i64 x, .int .i64 y]) (.bool true)).run Tryz.prog wc = .ok () wZ := hrun0
          obtain ⟨Z2, hZ2⟩ : ∃ Z2, Z2 = addQ Z (x, y) := ⟨_, rfl⟩
          rw [← hZ2] at hPZ0
          have hZ2l : Z2.length = Z.length + 1 := by rw [hZ2]; unfold addQ; rw [if_neg hnm, List.length_append]; rfl
          have hG2 : Hid (SeenI sA sB Z2) := by
            show SeenI _ _ _
            rw [hZ2]
            unfold addQ
            rw [if_neg hnm]
            refine ⟨List.nodup_append.2 ⟨hG.out.1, by simp, fun a ha b hb e => ?_⟩, fun q hq => ?_⟩
            · rw [List.mem_singleton.1 hb] at e
              exact hnm (e ▸ ha)
            · rcases List.mem_append.1 hq with hq | hq
              · exact hG.out.2 q hq
              · rw [List.mem_singleton.1 hq]; exact ⟨⟨hx0, hx1⟩, hy0, hy1⟩
          have hmem : Hid (∀ q, q ∈ Z2 ↔ q ∈ Z ∨ q = (x, y)) := fun q => by rw [hZ2]; exact addQ_mem
          obtain ⟨es, clock, hmap⟩ := hPp.out.map
          have hTZ := hide (hTp.out.stored hmap hgZ)
          have hbrZ := hide (hbrp.out.grown hgZ hbrp.out.size (fun k e => by injection e with e; omega))
          have hnb : some bp ≠ some w2.heap.size := fun e => by injection e with e; omega
          have kz : wZ.heap[bp]? = some (.cells #[.int .i64 x, .int .i64 y, .slice tA tn tc] 175 (0, 0)) := (hgZ.block bp (Array.getElem?_eq_some_iff.1 kp.out).1 hnb).trans kp.out
          have htZ : Hid (Own 1 strv wZ w2.heap.size 9 tA tn tc t) := htp.out.keep fun g hg => by
            obtain ⟨-, g2, cur, g3⟩ := htp.out.typedK hg
            exact hgZ.block g g2 fun e => by injection e with e; rw [e, hmap] at g3; cases g3
          have m0 := (cell_of_row _ _ 0 _ _ (0, 0) kz).trans (show _ = some (Value.int .i64 x) from rfl)
          have m1 := (cell_of_row _ _ 1 _ _ (0, 0) kz).trans (show _ = some (Value.int .i64 y) from rfl)
          have m2 := (cell_of_row _ _ 2 _ _ (0, 0) kz).trans (show _ = some (Value.slice tA tn tc) from rfl)
          have hPZ := hide hPZ0
          replace hZ2 := hide hZ2
          replace kz := hide kz
          have hqF := hide (hF0.out x y wZ (hb2.out.trans (hbrZ.out.mono hz2)) hx1 hy1)
          clear hrun0 hPZ0 hgZ hmap
          go_upto_region 9 with fail
          clear l0 l1 l2 hrun
          cases hbad : bad (x, y) with
          | true =>
            rw [hbad] at hqF
            replace hqF := hide hqF.out
            have hhit := hide (hR.out _ (IRun.hit (x := (x, y)) (t := t) (Q := ptQ Q') hskip hbad))
            clear hbad
            go_wp2_with fail
            refine hqF.out.mono ?_
            rintro e w5 ⟨rfl, hb5⟩
            have n2 := (hb5.cell (p := ⟨bp, 2, none⟩) (Array.getElem?_eq_some_iff.1 kz.out).1).trans m2
            have htF := hide (((htZ.out.below hb5 (Nat.le_refl _)).sl flat_strv).more (Nat.le_trans hbw.out.size hz2) (Nat.le_refl _))
            have hbF := hide (hbw.out.trans ((hb2.out.trans ((hbrZ.out.trans (hb5.mono hbrZ.out.size)).mono hz2)).mono hbw.out.size))
            clear m0 m1 m2 hb5
            go_wp2_with fail
            go_ret2
            exact ⟨some t, hhit.out, ⟨tA, tn, tc, rfl, htF.out⟩, hbF.out⟩
          | false =>
            rw [hbad] at hqF
            replace hqF := hide hqF.out
            have hR2 := hide (fun r (h : IRun (fun (x : Int × Int) (t : List ByteArray) => J.tail.map fun s => ((goE ea la s x.1, goE eb lb s x.2), t ++ [s])) bad (ptQ Q' ++ J.tail.map fun s => ((goE ea la s x, goE eb lb s y), t ++ [s])) Z2 r) => hR.out r (IRun.go (x := (x, y)) (t := t) hskip hbad hmem.out h))
            clear hbad
            go_upto_region 10 with fail
            refine hqF.out.mono ?_
            rintro e w5 ⟨rfl, hb5⟩
            have hlz := (Array.getElem?_eq_some_iff.1 kz.out).1
            have hp5 : Hid (w5.cell? ⟨bp, 0, none⟩ = some (.int .i64 x) ∧ w5.cell? ⟨bp, 1, none⟩ = some (.int .i64 y) ∧ w5.cell? ⟨bp, 2, none⟩ = some (.slice tA tn tc)) := ⟨(hb5.cell (p := ⟨bp, 0, none⟩) hlz).trans m0, (hb5.cell (p := ⟨bp, 1, none⟩) hlz).trans m1, (hb5.cell (p := ⟨bp, 2, none⟩) hlz).trans m2⟩
            have hT5 := hide (hTZ.out.below hb5)
            have hP5 := hide (hPZ.out.below hb5)
            have ht5 := hide (htZ.out.below hb5 (Nat.le_refl _))
            have hbr5 := hide (hbrZ.out.trans (hb5.mono hbrZ.out.size))
            have hl5 : bp < w5.heap.size := Nat.lt_of_lt_of_le hlz hb5.size
            have hQ3 := hide (hQ2.out.more (z' := Z2.length) (by omega))
            have hQl : Q'.length = n - 1 := hTp.out.len
            clear m0 m1 m2 hb5 hqF hTp hPp htp hbrp hTZ hPZ htZ hbrZ hQ2
            have hgo := hgk.out
            have hne0 := hne
            clear hne hgk
            go_wp2_with fail
            go_loopw [10, 71] (fun s10 s71 wr => ∃ (k : Nat) (A' : Option Addr) (n' c' : Nat) (R : List PEt), k ≤ nT ∧ Hid (n' = n - 1 + k) ∧ s10 = .slice A' n' c' ∧ s71 = .int .i64 (k : Nat) ∧ Hid (TodW w2 wr A' n' c' R) ∧ Hid (ptQ R = ptQ Q' ++ (J.tail.take k).map fun s => ((goE ea la s x, goE eb lb s y), t ++ [s])) ∧ Hid (QueI sA sB Z2.length R) ∧ Hid (PSetB wr w2.heap.size Z2) ∧ Hid (wr.cell? ⟨bp, 0, none⟩ = some (.int .i64 x) ∧ wr.cell? ⟨bp, 1, none⟩ = some (.int .i64 y) ∧ wr.cell? ⟨bp, 2, none⟩ = some (.slice tA tn tc)) ∧ Hid (Own 1 strv wr w2.heap.size 9 tA tn tc t) ∧ Hid (∀ q, (Value.slice A' n' c').ownBlock = some q → q ≠ bp) ∧ Hid (Below w2.heap.size w2 wr) ∧ Hid (bp < wr.heap.size)) (fun _ s71 _ => nT - (intOf s71).toNat)
            case atStart => exact ⟨0, A1, n - 1, c - 1, Q', Nat.zero_le _, rfl, rfl, rfl, hT5, by show _ = _; simp, hQ3, hP5, hp5, ht5, hne0, hbr5, hl5⟩
            case round =>
              clear hT5 hQ3 hP5 hp5 ht5 hne0 hbr5 hl5
              obtain ⟨k, A', n', c', R, hk, hn', rfl, rfl, hTr, hRe, hQr, hPr, hpr, htrr, hne, hbr2, hbplh⟩ := hrel
              have hJtl := hJt.out.len
              by_cases hlt : k < nT
              · obtain ⟨gJ, oJ, s, rfl, -, -, hgJ, hs, pj, -⟩ := SlS.get (hJt.out.below hbr2.out (.inr (Nat.le_refl _))) hlt
                have i0 : (0 : Int) ≤ (k : Int) := by omega
                have i1 : (k : Int) < (nT : Int) := by omega
                have hbpl := hbplh.out
                have hRe9 : Hid (∀ r : PEt, r.1.1 = (goE ea la s x, goE eb lb s y) → r.2 = t ++ [s] → ptQ (R ++ [r]) = ptQ Q' ++ (J.tail.take (k + 1)).map fun s => ((goE ea la s x, goE eb lb s y), t ++ [s])) := fun r h1 h2 => by
                  have h0 := hRe.out
                  unfold ptQ at h0 ⊢
                  rw [List.map_append, h0, List.take_add_one, hs, List.map_append, List.append_assoc]
                  simp [h1, h2]
                have hQ9 : Hid (∀ (P : Option Addr) (p : Nat), QueI sA sB Z2.length (R ++ [(((goE ea la s x, goE eb lb s y), P, tn + 1, p), t ++ [s])])) := fun P p r hr => by
                  rcases List.mem_append.1 hr with hr | hr
                  · exact hQr.out r hr
                  · rw [List.mem_singleton.1 hr]
                    have g1 := goE_rangeT hvah.out s x
                    have g2 := goE_rangeT hvbh.out s y
                    dsimp only
                    omega
                obtain ⟨wD, hwD⟩ : ∃ wD, wD = wr.drew := ⟨_, rfl⟩
                have hDD : Hid (Below wr.heap.size wr wD) := by show Below _ _ _; rw [hwD]; exact (Below.refl _ _).drew
                replace hwD := hide hwD
                have h0W := hide (fun (W : World) (hW : Below wr.heap.size wr W) => hb2.out.trans ((hbr2.out.trans (hW.mono hbr2.out.size)).mono hz2))
                have hSS := hide (fun (w' : World) (hx : Below wr.heap.size wr w') => (show ((w'.cell? ⟨bA, 0, none⟩ = some (.int .i64 sA) ∧ w'.cell? ⟨bA, 1, none⟩ = some (.int .i64 iA) ∧ w'.cell? ⟨bA, 2, none⟩ = some (.slice A2 n2 k2) ∧ w'.cell? ⟨bA, 3, none⟩ = some (.slice A3 n3 k3)) ∧ (w'.cell? ⟨bB, 0, none⟩ = some (.int .i64 sB) ∧ w'.cell? ⟨bB, 1, none⟩ = some (.int .i64 iB) ∧ w'.cell? ⟨bB, 2, none⟩ = some (.slice B2 m2 j2) ∧ w'.cell? ⟨bB, 3, none⟩ = some (.slice B3 m3 j3))) ∧ w'.cell? ⟨bp, 0, none⟩ = some (.int .i64 x) ∧ w'.cell? ⟨bp, 1, none⟩ = some (.int .i64 y) ∧ w'.cell? ⟨bp, 2, none⟩ = some (.slice tA tn tc) from ⟨hSb.out w' (h0W.out w' hx), (hx.cell (p := ⟨bp, 0, none⟩) hbpl).trans hpr.out.1, (hx.cell (p := ⟨bp, 1, none⟩) hbpl).trans hpr.out.2.1, (hx.cell (p := ⟨bp, 2, none⟩) hbpl).trans hpr.out.2.2⟩))
                have qA := hide (fun (W : World) (hW : Below wr.heap.size wr W) => qA0.out x s W (h0W.out W hW))
                have qB := hide (fun (W : World) (hW : Below wr.heap.size wr W) => qB0.out y s W (h0W.out W hW))
                have qC := hide (fun (W : World) (hW : Below wr.heap.size wr W) => cloneS_calls tA tn tc t W _ _ ((htrr.out.sl flat_strv).below hW (.inr (Nat.le_refl _))) (by omega))
                have hn1 := hn'.out
                have hbig : n' ≤ 100000 := by omega
                clear hn1 hgo hs
                go_upto_region 14 with fail
                clear pj
                refine lateT_begin (S := fun w' => ((w'.cell? ⟨bA, 0, none⟩ = some (.int .i64 sA) ∧ w'.cell? ⟨bA, 1, none⟩ = some (.int .i64 iA) ∧ w'.cell? ⟨bA, 2, none⟩ = some (.slice A2 n2 k2) ∧ w'.cell? ⟨bA, 3, none⟩ = some (.slice A3 n3 k3)) ∧ (w'.cell? ⟨bB, 0, none⟩ = some (.int .i64 sB) ∧ w'.cell? ⟨bB, 1, none⟩ = some (.int .i64 iB) ∧ w'.cell? ⟨bB, 2, none⟩ = some (.slice B2 m2 j2) ∧ w'.cell? ⟨bB, 3, none⟩ = some (.slice B3 m3 j3))) ∧ w'.cell? ⟨bp, 0, none⟩ = some (.int .i64 x) ∧ w'.cell? ⟨bp, 1, none⟩ = some (.int .i64 y) ∧ w'.cell? ⟨bp, 2, none⟩ = some (.slice tA tn tc)) (st := 20) (by kernel_rfl) ?_
                rw [← show wD = _ from hwD.out]
                have hS0 : (fun w' : World => ((w'.cell? ⟨bA, 0, none⟩ = some (.int .i64 sA) ∧ w'.cell? ⟨bA, 1, none⟩ = some (.int .i64 iA) ∧ w'.cell? ⟨bA, 2, none⟩ = some (.slice A2 n2 k2) ∧ w'.cell? ⟨bA, 3, none⟩ = some (.slice A3 n3 k3)) ∧ (w'.cell? ⟨bB, 0, none⟩ = some (.int .i64 sB) ∧ w'.cell? ⟨bB, 1, none⟩ = some (.int .i64 iB) ∧ w'.cell? ⟨bB, 2, none⟩ = some (.slice B2 m2 j2) ∧ w'.cell? ⟨bB, 3, none⟩ = some (.slice B3 m3 j3))) ∧ w'.cell? ⟨bp, 0, none⟩ = some (.int .i64 x) ∧ w'.cell? ⟨bp, 1, none⟩ = some (.int .i64 y) ∧ w'.cell? ⟨bp, 2, none⟩ = some (.slice tA tn tc)) wD := hSS.out _ hDD.out
                refine lateT_take (i := 0) (oi := _) (v := ?_) [20] rfl (by kernel_rfl) (by kernel_rfl) (by kernel_rfl) (by kernel_rfl) (fun _ _ _ h => h) (Or.inl ⟨by rfl, ?hy⟩) hS0 ?_
                case hy => (intro w hSw; (try dsimp only at hSw); go_simp <;> with_reducible rfl)
                (try simp only [Act.put, List.setIfInBounds_toArray, List.set_cons_zero, List.set_cons_succ])
                refine lateT_take (i := 1) (oi := _) (v := ?_) [20] rfl (by kernel_rfl) (by kernel_rfl) (by kernel_rfl) (by kernel_rfl) (fun _ _ _ h => h) (Or.inl ⟨by rfl, ?hy⟩) hS0 ?_
                case hy => (intro w hSw; (try dsimp only at hSw); go_simp <;> with_reducible rfl)
                (try simp only [Act.put, List.setIfInBounds_toArray, List.set_cons_zero, List.set_cons_succ])
                refine lateT_take (i := 2) (oi := _) (v := ?_) [20] rfl (by kernel_rfl) (by kernel_rfl) (by kernel_rfl) (by kernel_rfl) (fun _ _ _ h => h) (Or.inl ⟨by rfl, ?hy⟩) hS0 ?_
                case hy => (intro w hSw; (try dsimp only at hSw); go_simp <;> with_reducible rfl)
                (try simp only [Act.put, List.setIfInBounds_toArray, List.set_cons_zero, List.set_cons_succ])
                refine lateT_take (i := 3) (oi := _) (v := ?_) [20] rfl (by kernel_rfl) (by kernel_rfl) (by kernel_rfl) (by kernel_rfl) (fun _ _ _ h => h) (Or.inl ⟨by rfl, ?hy⟩) hS0 ?_
                case hy => (intro w hSw; (try dsimp only at hSw); go_simp <;> with_reducible rfl)
                (try simp only [Act.put, List.setIfInBounds_toArray, List.set_cons_zero, List.set_cons_succ])
                refine lateT_take (i := 4) (oi := _) (v := ?_) [20] rfl (by kernel_rfl) (by kernel_rfl) (by kernel_rfl) (by kernel_rfl) (fun _ _ _ h => h) (Or.inl ⟨by rfl, ?hy⟩) hS0 ?_
                case hy => (intro w hSw; (try dsimp only at hSw); go_simp <;> with_reducible rfl)
                (try simp only [Act.put, List.setIfInBounds_toArray, List.set_cons_zero, List.set_cons_succ])
                refine lateT_take (i := 6) (oi := _) (v := ?_) [20] rfl (by kernel_rfl) (by kernel_rfl) (by kernel_rfl) (by kernel_rfl) (fun _ _ _ h => h) (Or.inl ⟨by rfl, ?hy⟩) hS0 ?_
                case hy => (intro w hSw; (try dsimp only at hSw); go_simp <;> with_reducible rfl)
                (try simp only [Act.put, List.setIfInBounds_toArray, List.set_cons_zero, List.set_cons_succ])
                refine lateT_take (i := 7) (oi := _) (v := ?_) [20] rfl (by kernel_rfl) (by kernel_rfl) (by kernel_rfl) (by kernel_rfl) (fun _ _ _ h => h) (Or.inl ⟨by rfl, ?hy⟩) hS0 ?_
                case hy => (intro w hSw; (try dsimp only at hSw); go_simp <;> with_reducible rfl)
                (try simp only [Act.put, List.setIfInBounds_toArray, List.set_cons_zero, List.set_cons_succ])
                refine lateT_take (i := 8) (oi := _) (v := ?_) [20] rfl (by kernel_rfl) (by kernel_rfl) (by kernel_rfl) (by kernel_rfl) (fun _ _ _ h => h) (Or.inl ⟨by rfl, ?hy⟩) hS0 ?_
                case hy => (intro w hSw; (try dsimp only at hSw); go_simp <;> with_reducible rfl)
                (try simp only [Act.put, List.setIfInBounds_toArray, List.set_cons_zero, List.set_cons_succ])
                refine lateT_take (i := 9) (oi := _) (v := ?_) [20] rfl (by kernel_rfl) (by kernel_rfl) (by kernel_rfl) (by kernel_rfl) (fun _ _ _ h => h) (Or.inl ⟨by rfl, ?hy⟩) hS0 ?_
                case hy => (intro w hSw; (try dsimp only at hSw); go_simp <;> with_reducible rfl)
                (try simp only [Act.put, List.setIfInBounds_toArray, List.set_cons_zero, List.set_cons_succ])
                refine lateT_take (i := 11) (oi := _) (v := ?_) [20] rfl (by kernel_rfl) (by kernel_rfl) (by kernel_rfl) (by kernel_rfl) (fun _ _ _ h => h) (Or.inl ⟨by rfl, ?hy⟩) hS0 ?_
                case hy => (intro w hSw; (try dsimp only at hSw); go_simp <;> with_reducible rfl)
                (try simp only [Act.put, List.setIfInBounds_toArray, List.set_cons_zero, List.set_cons_succ])
                refine lateT_take (i := 12) (oi := _) (v := ?_) [20] rfl (by kernel_rfl) (by kernel_rfl) (by kernel_rfl) (by kernel_rfl) (fun _ _ _ h => h) (Or.inl ⟨by rfl, ?hy⟩) hS0 ?_
                case hy => (intro w hSw; (try dsimp only at hSw); go_simp <;> with_reducible rfl)
                (try simp only [Act.put, List.setIfInBounds_toArray, List.set_cons_zero, List.set_cons_succ])
                refine lateT_take (i := 14) (oi := _) (v := ?_) [20] rfl (by kernel_rfl) (by kernel_rfl) (by kernel_rfl) (by kernel_rfl) (fun _ _ _ h => h) (Or.inl ⟨by rfl, ?hy⟩) hS0 ?_
                case hy => (intro w hSw; (try dsimp only at hSw); go_simp <;> with_reducible rfl)
                (try simp only [Act.put, List.setIfInBounds_toArray, List.set_cons_zero, List.set_cons_succ])
                refine lateT_two (i := 5) (j := 15) (by kernel_rfl) rfl rfl (fun K hK => ?_) (fun K hK => ?_)
                · go_simp
                  go_at_call 156
                  (with_reducible refine (qA.out wD hDD.out).mono ?_)
                  rintro e wS0a ⟨rfl, hbK⟩
                  have hbl0a := hide (hDD.out.trans (hbK.mono hDD.out.size))
                  clear hbK
                  refine hK.out _ _ (fun _ => hSS.out _ hbl0a.out) ?_
                  clear hK K
                  (try simp only [Act.put, List.setIfInBounds_toArray, List.set_cons_zero, List.set_cons_succ])
                  refine lateT_two (i := 10) (j := 15) (by kernel_rfl) rfl rfl (fun K hK => ?_) (fun K hK => ?_)
                  · go_simp
                    go_at_call 156
                    (with_reducible refine (qB.out wS0a hbl0a.out).mono ?_)
                    rintro e wS1aa ⟨rfl, hbK⟩
                    have hbl1aa := hide (hbl0a.out.trans (hbK.mono hbl0a.out.size))
                    clear hbK
                    refine hK.out _ _ (fun _ => hSS.out _ hbl1aa.out) ?_
                    clear hK K
                    (try simp only [Act.put, List.setIfInBounds_toArray, List.set_cons_zero, List.set_cons_succ])
                    refine lateT_two (i := 13) (j := 15) (by kernel_rfl) rfl rfl (fun K hK => ?_) (fun K hK => ?_)
                    · go_simp
                      go_at_call 131
                      (with_reducible refine (qC.out wS1aa hbl1aa.out).mono ?_)
                      rintro e wS2aaa ⟨cA, cc, rfl, hown0, hbK⟩
                      have hown := hide (hown0.sink hbl1aa.out.size)
                      clear hown0
                      have hbl2aaa := hide (hbl1aa.out.trans (hbK.mono hbl1aa.out.size))
                      clear hbK
                      refine hK.out _ _ (fun _ => hSS.out _ hbl2aaa.out) ?_
                      clear hK K
                      (try simp only [Act.put, List.setIfInBounds_toArray, List.set_cons_zero, List.set_cons_succ])
                      refine lateT_step (i := 15) (by kernel_rfl) rfl (fun K hK => ?_)
                      go_simp
                      have hbK := Below.alloc (Below.refl wS2aaa.heap.size wS2aaa) (Nat.le_refl _) (.cells #[.string s] 9)
                      have hlit := hide (Sl.lit1' (f := strv) wS2aaa 9 s #[.string s] rfl 1 _ rfl)
                      have hbl3aaa := hide (hbl2aaa.out.trans (hbK.mono hbl2aaa.out.size))
                      replace hown := hide (hown.out.below hbK (Nat.le_refl _))
                      clear hbK
                      refine hK.out _ _ (fun _ => hSS.out _ hbl3aaa.out) ?_
                      clear hK K
                      (try simp only [Act.put, List.setIfInBounds_toArray, List.set_cons_zero, List.set_cons_succ])
                      generalize hgWaaa : wS2aaa.alloc (.cells #[.string s] 9) = wS3aaa at *
                      replace hgWaaa := hide hgWaaa
                      have hzU := hbl3aaa.out.size
                      refine lateT_step (i := 16) (by kernel_rfl) rfl (fun K hK => ?_)
                      refine step_appL (m := 1) (d := 1) (by rfl) (.tmp 88) (.tmp 90) (by rfl) hE.out flat_strv (by go_simp) hown.out (by go_simp) hlit.out (by omega) hzU ?_
                      intro P1 p1 wU1 hown1 hgr1 hbw1 hat1
                      have hbU1 := hide (hbl3aaa.out.trans (hbw1.mono (Nat.le_refl _)))
                      have hown1' := hide hown1
                      clear hgr1 hbw1 hat1 hown hlit hown1
                      refine hK.out _ _ (fun _ => hSS.out _ hbU1.out) ?_
                      clear hK K
                      (try simp only [Act.put, List.setIfInBounds_toArray, List.set_cons_zero, List.set_cons_succ])
                      refine lateT_step (i := 17) (by kernel_rfl) rfl (fun K hK => ?_)
                      go_simp
                      refine hK.out _ _ (fun _ => hSS.out _ hbU1.out) ?_
                      clear hK K
                      (try simp only [Act.put, List.setIfInBounds_toArray, List.set_cons_zero, List.set_cons_succ])
                      refine lateT_step (i := 18) (by kernel_rfl) rfl (fun K hK => ?_)
                      go_simp
                      have hbK := Below.alloc (Below.refl wU1.heap.size wU1) (Nat.le_refl _) (.cells #[.int .i64 (goE ea la s x), .int .i64 (goE eb lb s y), .slice P1 (tn + 1) p1] 175)
                      have hbU2 := hide (hbU1.out.trans (hbK.mono hbU1.out.size))
                      have hown2 := hide (hown1'.out.below hbK (Nat.le_refl _))
                      have hlit2 := hide (Sl.lit1' (f := pe) wU1 175 ((goE ea la s x, goE eb lb s y), P1, tn + 1, p1) #[.int .i64 (goE ea la s x), .int .i64 (goE eb lb s y), .slice P1 (tn + 1) p1] rfl 3 _ rfl)
                      clear hbK hown1'
                      refine hK.out _ _ (fun _ => hSS.out _ hbU2.out) ?_
                      clear hK K
                      (try simp only [Act.put, List.setIfInBounds_toArray, List.set_cons_zero, List.set_cons_succ])
                      generalize hgU : wU1.alloc (.cells #[.int .i64 (goE ea la s x), .int .i64 (goE eb lb s y), .slice P1 (tn + 1) p1] 175) = wU2 at *
                      replace hgU := hide hgU
                      have hT2 := hide (hTr.out.below hbU2.out)
                      have hzV : w2.heap.size ≤ wU2.heap.size := Nat.le_trans hbr2.out.size hbU2.out.size
                      refine lateT_step (i := 19) (by kernel_rfl) rfl (fun K hK => ?_)
                      refine step_appG (n := n') (c := c') (d := 1) (by rfl) (.tmp 75) (.tmp 93) (by rfl) hEp.out flat_pe (by go_simp) hT2.out.own (by go_simp) hlit2.out (by omega) hzV ?_
                      intro A9 c9 w9 hown9 hgr9 hbw9 hat9
                      have hT9 := hide (hT2.out.push (r := (((goE ea la s x, goE eb lb s y), P1, tn + 1, p1), t ++ [s])) (hown2.out.sink hbr2.out.size) hown9 hgr9)
                      have hbL9 := hide ((hbr2.out.trans (hbU2.out.mono hbr2.out.size)).grown hgr9 hzV (fun q e => (hT2.out.own.lt q e).1))
                      have hlp : bp < wU2.heap.size := Nat.lt_of_lt_of_le hbpl hbU2.out.size
                      have hnp : some bp ≠ (Value.slice A' n' c').ownBlock := fun e => hne.out bp e.symm rfl
                      have hp9 : Hid (w9.cell? ⟨bp, 0, none⟩ = some (.int .i64 x) ∧ w9.cell? ⟨bp, 1, none⟩ = some (.int .i64 y) ∧ w9.cell? ⟨bp, 2, none⟩ = some (.slice tA tn tc)) := ⟨(grown_cellT hgr9 hlp hnp).trans (hSS.out _ hbU2.out).2.1, (grown_cellT hgr9 hlp hnp).trans (hSS.out _ hbU2.out).2.2.1, (grown_cellT hgr9 hlp hnp).trans (hSS.out _ hbU2.out).2.2.2⟩
                      have hS9 := hide (show (fun w' : World => ((w'.cell? ⟨bA, 0, none⟩ = some (.int .i64 sA) ∧ w'.cell? ⟨bA, 1, none⟩ = some (.int .i64 iA) ∧ w'.cell? ⟨bA, 2, none⟩ = some (.slice A2 n2 k2) ∧ w'.cell? ⟨bA, 3, none⟩ = some (.slice A3 n3 k3)) ∧ (w'.cell? ⟨bB, 0, none⟩ = some (.int .i64 sB) ∧ w'.cell? ⟨bB, 1, none⟩ = some (.int .i64 iB) ∧ w'.cell? ⟨bB, 2, none⟩ = some (.slice B2 m2 j2) ∧ w'.cell? ⟨bB, 3, none⟩ = some (.slice B3 m3 j3))) ∧ w'.cell? ⟨bp, 0, none⟩ = some (.int .i64 x) ∧ w'.cell? ⟨bp, 1, none⟩ = some (.int .i64 y) ∧ w'.cell? ⟨bp, 2, none⟩ = some (.slice tA tn tc)) w9 from ⟨hSb.out w9 (hb2.out.trans (hbL9.out.mono hz2)), hp9.out⟩)
                      have hne9 : Hid (∀ q, (Value.slice A9 (n' + 1) c9).ownBlock = some q → q ≠ bp) := fun q hq => by
                        rcases hat9 with e | e
                        · exact hne.out q (e ▸ hq)
                        · rw [e] at hq; injection hq with hq; omega
                      have hPS2 := hPr.out.below hbU2.out
                      have hP9 := hide (hPS2.keep (hgr9.block _ hPS2.lt (hT2.out.apartM hPS2)))
                      have htr9 := hide (hT2.out.apartS (htrr.out.below hbU2.out (Nat.le_refl _)) hgr9)
                      have hlp9 : bp < w9.heap.size := Nat.lt_of_lt_of_le hlp hgr9.size
                      clear hgr9 hbw9 hat9 hown9 hPS2
                      refine hK.out _ _ (fun _ => hS9.out) ?_
                      clear hK K
                      (try simp only [Act.put, List.setIfInBounds_toArray, List.set_cons_zero, List.set_cons_succ])
                      refine lateT_step (i := 20) (by kernel_rfl) rfl (fun K hK => ?_)
                      go_simp
                      refine hK.out _ _ (fun h => absurd rfl h) ?_
                      clear hK K
                      (try simp only [Act.put, List.setIfInBounds_toArray, List.set_cons_zero, List.set_cons_succ])
                      refine lateT_done (by kernel_rfl) ?_ _
                      have hbpl9 : Hid (bp < w9.heap.size) := hlp9
                      have hfin := hide (hRe9.out (((goE ea la s x, goE eb lb s y), P1, tn + 1, p1), t ++ [s]) rfl rfl)
                      have hQF := hide (hQ9.out P1 p1)
                      have hnF : Hid (n' + 1 = n - 1 + (k + 1)) := by show _ = _; have := hn'.out; omega
                      go_wp2_with fail
                      go_roundw
                      case rel => exact ⟨k + 1, A9, n' + 1, c9, _, by omega, hnF, rfl, by go_num, hT9, hfin, hQF, hP9, hp9, htr9, hne9, hbL9, hbpl9⟩
                      case measure => simp [intOf]; omega
                    · go_simp
                      have hbK := Below.alloc (Below.refl wS1aa.heap.size wS1aa) (Nat.le_refl _) (.cells #[.string s] 9)
                      have hlit := hide (Sl.lit1' (f := strv) wS1aa 9 s #[.string s] rfl 1 _ rfl)
                      have hbl2aab := hide (hbl1aa.out.trans (hbK.mono hbl1aa.out.size))
                      clear hbK
                      refine hK.out _ _ (fun _ => hSS.out _ hbl2aab.out) ?_
                      clear hK K
                      (try simp only [Act.put, List.setIfInBounds_toArray, List.set_cons_zero, List.set_cons_succ])
                      generalize hgWaab : wS1aa.alloc (.cells #[.string s] 9) = wS2aab at *
                      replace hgWaab := hide hgWaab
                      refine lateT_step (i := 13) (by kernel_rfl) rfl (fun K hK => ?_)
                      go_simp
                      go_at_call 131
                      (with_reducible refine (qC.out wS2aab hbl2aab.out).mono ?_)
                      rintro e wS3aab ⟨cA, cc, rfl, hown0, hbK⟩
                      have hown := hide (hown0.sink hbl2aab.out.size)
                      clear hown0
                      have hbl3aab := hide (hbl2aab.out.trans (hbK.mono hbl2aab.out.size))
                      replace hlit := hide (hlit.out.below hbK (.inr (Nat.le_refl _)))
                      clear hbK
                      refine hK.out _ _ (fun _ => hSS.out _ hbl3aab.out) ?_
                      clear hK K
                      (try simp only [Act.put, List.setIfInBounds_toArray, List.set_cons_zero, List.set_cons_succ])
                      have hzU := hbl3aab.out.size
                      refine lateT_step (i := 16) (by kernel_rfl) rfl (fun K hK => ?_)
                      refine step_appL (m := 1) (d := 1) (by rfl) (.tmp 88) (.tmp 90) (by rfl) hE.out flat_strv (by go_simp) hown.out (by go_simp) hlit.out (by omega) hzU ?_
                      intro P1 p1 wU1 hown1 hgr1 hbw1 hat1
                      have hbU1 := hide (hbl3aab.out.trans (hbw1.mono (Nat.le_refl _)))
                      have hown1' := hide hown1
                      clear hgr1 hbw1 hat1 hown hlit hown1
                      refine hK.out _ _ (fun _ => hSS.out _ hbU1.out) ?_
                      clear hK K
                      (try simp only [Act.put, List.setIfInBounds_toArray, List.set_cons_zero, List.set_cons_succ])
                      refine lateT_step (i := 17) (by kernel_rfl) rfl (fun K hK => ?_)
                      go_simp
                      refine hK.out _ _ (fun _ => hSS.out _ hbU1.out) ?_
                      clear hK K
                      (try simp only [Act.put, List.setIfInBounds_toArray, List.set_cons_zero, List.set_cons_succ])
                      refine lateT_step (i := 18) (by kernel_rfl) rfl (fun K hK => ?_)
                      go_simp
                      have hbK := Below.alloc (Below.refl wU1.heap.size wU1) (Nat.le_refl _) (.cells #[.int .i64 (goE ea la s x), .int .i64 (goE eb lb s y), .slice P1 (tn + 1) p1] 175)
                      have hbU2 := hide (hbU1.out.trans (hbK.mono hbU1.out.size))
                      have hown2 := hide (hown1'.out.below hbK (Nat.le_refl _))
                      have hlit2 := hide (Sl.lit1' (f := pe) wU1 175 ((goE ea la s x, goE eb lb s y), P1, tn + 1, p1) #[.int .i64 (goE ea la s x), .int .i64 (goE eb lb s y), .slice P1 (tn + 1) p1] rfl 3 _ rfl)
                      clear hbK hown1'
                      refine hK.out _ _ (fun _ => hSS.out _ hbU2.out) ?_
                      clear hK K
                      (try simp only [Act.put, List.setIfInBounds_toArray, List.set_cons_zero, List.set_cons_succ])
                      generalize hgU : wU1.alloc (.cells #[.int .i64 (goE ea la s x), .int .i64 (goE eb lb s y), .slice P1 (tn + 1) p1] 175) = wU2 at *
                      replace hgU := hide hgU
                      have hT2 := hide (hTr.out.below hbU2.out)
                      have hzV : w2.heap.size ≤ wU2.heap.size := Nat.le_trans hbr2.out.size hbU2.out.size
                      refine lateT_step (i := 19) (by kernel_rfl) rfl (fun K hK => ?_)
                      refine step_appG (n := n') (c := c') (d := 1) (by rfl) (.tmp 75) (.tmp 93) (by rfl) hEp.out flat_pe (by go_simp) hT2.out.own (by go_simp) hlit2.out (by omega) hzV ?_
                      intro A9 c9 w9 hown9 hgr9 hbw9 hat9
                      have hT9 := hide (hT2.out.push (r := (((goE ea la s x, goE eb lb s y), P1, tn + 1, p1), t ++ [s])) (hown2.out.sink hbr2.out.size) hown9 hgr9)
                      have hbL9 := hide ((hbr2.out.trans (hbU2.out.mono hbr2.out.size)).grown hgr9 hzV (fun q e => (hT2.out.own.lt q e).1))
                      have hlp : bp < wU2.heap.size := Nat.lt_of_lt_of_le hbpl hbU2.out.size
                      have hnp : some bp ≠ (Value.slice A' n' c').ownBlock := fun e => hne.out bp e.symm rfl
                      have hp9 : Hid (w9.cell? ⟨bp, 0, none⟩ = some (.int .i64 x) ∧ w9.cell? ⟨bp, 1, none⟩ = some (.int .i64 y) ∧ w9.cell? ⟨bp, 2, none⟩ = some (.slice tA tn tc)) := ⟨(grown_cellT hgr9 hlp hnp).trans (hSS.out _ hbU2.out).2.1, (grown_cellT hgr9 hlp hnp).trans (hSS.out _ hbU2.out).2.2.1, (grown_cellT hgr9 hlp hnp).trans (hSS.out _ hbU2.out).2.2.2⟩
                      have hS9 := hide (show (fun w' : World => ((w'.cell? ⟨bA, 0, none⟩ = some (.int .i64 sA) ∧ w'.cell? ⟨bA, 1, none⟩ = some (.int .i64 iA) ∧ w'.cell? ⟨bA, 2, none⟩ = some (.slice A2 n2 k2) ∧ w'.cell? ⟨bA, 3, none⟩ = some (.slice A3 n3 k3)) ∧ (w'.cell? ⟨bB, 0, none⟩ = some (.int .i64 sB) ∧ w'.cell? ⟨bB, 1, none⟩ = some (.int .i64 iB) ∧ w'.cell? ⟨bB, 2, none⟩ = some (.slice B2 m2 j2) ∧ w'.cell? ⟨bB, 3, none⟩ = some (.slice B3 m3 j3))) ∧ w'.cell? ⟨bp, 0, none⟩ = some (.int .i64 x) ∧ w'.cell? ⟨bp, 1, none⟩ = some (.int .i64 y) ∧ w'.cell? ⟨bp, 2, none⟩ = some (.slice tA tn tc)) w9 from ⟨hSb.out w9 (hb2.out.trans (hbL9.out.mono hz2)), hp9.out⟩)
                      have hne9 : Hid (∀ q, (Value.slice A9 (n' + 1) c9).ownBlock = some q → q ≠ bp) := fun q hq => by
                        rcases hat9 with e | e
                        · exact hne.out q (e ▸ hq)
                        · rw [e] at hq; injection hq with hq; omega
                      have hPS2 := hPr.out.below hbU2.out
                      have hP9 := hide (hPS2.keep (hgr9.block _ hPS2.lt (hT2.out.apartM hPS2)))
                      have htr9 := hide (hT2.out.apartS (htrr.out.below hbU2.out (Nat.le_refl _)) hgr9)
                      have hlp9 : bp < w9.heap.size := Nat.lt_of_lt_of_le hlp hgr9.size
                      clear hgr9 hbw9 hat9 hown9 hPS2
                      refine hK.out _ _ (fun _ => hS9.out) ?_
                      clear hK K
                      (try simp only [Act.put, List.setIfInBounds_toArray, List.set_cons_zero, List.set_cons_succ])
                      refine lateT_step (i := 20) (by kernel_rfl) rfl (fun K hK => ?_)
                      go_simp
                      refine hK.out _ _ (fun h => absurd rfl h) ?_
                      clear hK K
                      (try simp only [Act.put, List.setIfInBounds_toArray, List.set_cons_zero, List.set_cons_succ])
                      refine lateT_done (by kernel_rfl) ?_ _
                      have hbpl9 : Hid (bp < w9.heap.size) := hlp9
                      have hfin := hide (hRe9.out (((goE ea la s x, goE eb lb s y), P1, tn + 1, p1), t ++ [s]) rfl rfl)
                      have hQF := hide (hQ9.out P1 p1)
                      have hnF : Hid (n' + 1 = n - 1 + (k + 1)) := by show _ = _; have := hn'.out; omega
                      go_wp2_with fail
                      go_roundw
                      case rel => exact ⟨k + 1, A9, n' + 1, c9, _, by omega, hnF, rfl, by go_num, hT9, hfin, hQF, hP9, hp9, htr9, hne9, hbL9, hbpl9⟩
                      case measure => simp [intOf]; omega
                  · go_simp
                    have hbK := Below.alloc (Below.refl wS0a.heap.size wS0a) (Nat.le_refl _) (.cells #[.string s] 9)
                    have hlit := hide (Sl.lit1' (f := strv) wS0a 9 s #[.string s] rfl 1 _ rfl)
                    have hbl1ab := hide (hbl0a.out.trans (hbK.mono hbl0a.out.size))
                    clear hbK
                    refine hK.out _ _ (fun _ => hSS.out _ hbl1ab.out) ?_
                    clear hK K
                    (try simp only [Act.put, List.setIfInBounds_toArray, List.set_cons_zero, List.set_cons_succ])
                    generalize hgWab : wS0a.alloc (.cells #[.string s] 9) = wS1ab at *
                    replace hgWab := hide hgWab
                    refine lateT_step (i := 10) (by kernel_rfl) rfl (fun K hK => ?_)
                    go_simp
                    go_at_call 156
                    (with_reducible refine (qB.out wS1ab hbl1ab.out).mono ?_)
                    rintro e wS2ab ⟨rfl, hbK⟩
                    have hbl2ab := hide (hbl1ab.out.trans (hbK.mono hbl1ab.out.size))
                    replace hlit := hide (hlit.out.below hbK (.inr (Nat.le_refl _)))
                    clear hbK
                    refine hK.out _ _ (fun _ => hSS.out _ hbl2ab.out) ?_
                    clear hK K
                    (try simp only [Act.put, List.setIfInBounds_toArray, List.set_cons_zero, List.set_cons_succ])
                    refine lateT_step (i := 13) (by kernel_rfl) rfl (fun K hK => ?_)
                    go_simp
                    go_at_call 131
                    (with_reducible refine (qC.out wS2ab hbl2ab.out).mono ?_)
                    rintro e wS3ab ⟨cA, cc, rfl, hown0, hbK⟩
                    have hown := hide (hown0.sink hbl2ab.out.size)
                    clear hown0
                    have hbl3ab := hide (hbl2ab.out.trans (hbK.mono hbl2ab.out.size))
                    replace hlit := hide (hlit.out.below hbK (.inr (Nat.le_refl _)))
                    clear hbK
                    refine hK.out _ _ (fun _ => hSS.out _ hbl3ab.out) ?_
                    clear hK K
                    (try simp only [Act.put, List.setIfInBounds_toArray, List.set_cons_zero, List.set_cons_succ])
                    have hzU := hbl3ab.out.size
                    refine lateT_step (i := 16) (by kernel_rfl) rfl (fun K hK => ?_)
                    refine step_appL (m := 1) (d := 1) (by rfl) (.tmp 88) (.tmp 90) (by rfl) hE.out flat_strv (by go_simp) hown.out (by go_simp) hlit.out (by omega) hzU ?_
                    intro P1 p1 wU1 hown1 hgr1 hbw1 hat1
                    have hbU1 := hide (hbl3ab.out.trans (hbw1.mono (Nat.le_refl _)))
                    have hown1' := hide hown1
                    clear hgr1 hbw1 hat1 hown hlit hown1
                    refine hK.out _ _ (fun _ => hSS.out _ hbU1.out) ?_
                    clear hK K
                    (try simp only [Act.put, List.setIfInBounds_toArray, List.set_cons_zero, List.set_cons_succ])
                    refine lateT_step (i := 17) (by kernel_rfl) rfl (fun K hK => ?_)
                    go_simp
                    refine hK.out _ _ (fun _ => hSS.out _ hbU1.out) ?_
                    clear hK K
                    (try simp only [Act.put, List.setIfInBounds_toArray, List.set_cons_zero, List.set_cons_succ])
                    refine lateT_step (i := 18) (by kernel_rfl) rfl (fun K hK => ?_)
                    go_simp
                    have hbK := Below.alloc (Below.refl wU1.heap.size wU1) (Nat.le_refl _) (.cells #[.int .i64 (goE ea la s x), .int .i64 (goE eb lb s y), .slice P1 (tn + 1) p1] 175)
                    have hbU2 := hide (hbU1.out.trans (hbK.mono hbU1.out.size))
                    have hown2 := hide (hown1'.out.below hbK (Nat.le_refl _))
                    have hlit2 := hide (Sl.lit1' (f := pe) wU1 175 ((goE ea la s x, goE eb lb s y), P1, tn + 1, p1) #[.int .i64 (goE ea la s x), .int .i64 (goE eb lb s y), .slice P1 (tn + 1) p1] rfl 3 _ rfl)
                    clear hbK hown1'
                    refine hK.out _ _ (fun _ => hSS.out _ hbU2.out) ?_
                    clear hK K
                    (try simp only [Act.put, List.setIfInBounds_toArray, List.set_cons_zero, List.set_cons_succ])
                    generalize hgU : wU1.alloc (.cells #[.int .i64 (goE ea la s x), .int .i64 (goE eb lb s y), .slice P1 (tn + 1) p1] 175) = wU2 at *
                    replace hgU := hide hgU
                    have hT2 := hide (hTr.out.below hbU2.out)
                    have hzV : w2.heap.size ≤ wU2.heap.size := Nat.le_trans hbr2.out.size hbU2.out.size
                    refine lateT_step (i := 19) (by kernel_rfl) rfl (fun K hK => ?_)
                    refine step_appG (n := n') (c := c') (d := 1) (by rfl) (.tmp 75) (.tmp 93) (by rfl) hEp.out flat_pe (by go_simp) hT2.out.own (by go_simp) hlit2.out (by omega) hzV ?_
                    intro A9 c9 w9 hown9 hgr9 hbw9 hat9
                    have hT9 := hide (hT2.out.push (r := (((goE ea la s x, goE eb lb s y), P1, tn + 1, p1), t ++ [s])) (hown2.out.sink hbr2.out.size) hown9 hgr9)
                    have hbL9 := hide ((hbr2.out.trans (hbU2.out.mono hbr2.out.size)).grown hgr9 hzV (fun q e => (hT2.out.own.lt q e).1))
                    have hlp : bp < wU2.heap.size := Nat.lt_of_lt_of_le hbpl hbU2.out.size
                    have hnp : some bp ≠ (Value.slice A' n' c').ownBlock := fun e => hne.out bp e.symm rfl
                    have hp9 : Hid (w9.cell? ⟨bp, 0, none⟩ = some (.int .i64 x) ∧ w9.cell? ⟨bp, 1, none⟩ = some (.int .i64 y) ∧ w9.cell? ⟨bp, 2, none⟩ = some (.slice tA tn tc)) := ⟨(grown_cellT hgr9 hlp hnp).trans (hSS.out _ hbU2.out).2.1, (grown_cellT hgr9 hlp hnp).trans (hSS.out _ hbU2.out).2.2.1, (grown_cellT hgr9 hlp hnp).trans (hSS.out _ hbU2.out).2.2.2⟩
                    have hS9 := hide (show (fun w' : World => ((w'.cell? ⟨bA, 0, none⟩ = some (.int .i64 sA) ∧ w'.cell? ⟨bA, 1, none⟩ = some (.int .i64 iA) ∧ w'.cell? ⟨bA, 2, none⟩ = some (.slice A2 n2 k2) ∧ w'.cell? ⟨bA, 3, none⟩ = some (.slice A3 n3 k3)) ∧ (w'.cell? ⟨bB, 0, none⟩ = some (.int .i64 sB) ∧ w'.cell? ⟨bB, 1, none⟩ = some (.int .i64 iB) ∧ w'.cell? ⟨bB, 2, none⟩ = some (.slice B2 m2 j2) ∧ w'.cell? ⟨bB, 3, none⟩ = some (.slice B3 m3 j3))) ∧ w'.cell? ⟨bp, 0, none⟩ = some (.int .i64 x) ∧ w'.cell? ⟨bp, 1, none⟩ = some (.int .i64 y) ∧ w'.cell? ⟨bp, 2, none⟩ = some (.slice tA tn tc)) w9 from ⟨hSb.out w9 (hb2.out.trans (hbL9.out.mono hz2)), hp9.out⟩)
                    have hne9 : Hid (∀ q, (Value.slice A9 (n' + 1) c9).ownBlock = some q → q ≠ bp) := fun q hq => by
                      rcases hat9 with e | e
                      · exact hne.out q (e ▸ hq)
                      · rw [e] at hq; injection hq with hq; omega
                    have hPS2 := hPr.out.below hbU2.out
                    have hP9 := hide (hPS2.keep (hgr9.block _ hPS2.lt (hT2.out.apartM hPS2)))
                    have htr9 := hide (hT2.out.apartS (htrr.out.below hbU2.out (Nat.le_refl _)) hgr9)
                    have hlp9 : bp < w9.heap.size := Nat.lt_of_lt_of_le hlp hgr9.size
                    clear hgr9 hbw9 hat9 hown9 hPS2
                    refine hK.out _ _ (fun _ => hS9.out) ?_
                    clear hK K
                    (try simp only [Act.put, List.setIfInBounds_toArray, List.set_cons_zero, List.set_cons_succ])
                    refine lateT_step (i := 20) (by kernel_rfl) rfl (fun K hK => ?_)
                    go_simp
                    refine hK.out _ _ (fun h => absurd rfl h) ?_
                    clear hK K
                    (try simp only [Act.put, List.setIfInBounds_toArray, List.set_cons_zero, List.set_cons_succ])
                    refine lateT_done (by kernel_rfl) ?_ _
                    have hbpl9 : Hid (bp < w9.heap.size) := hlp9
                    have hfin := hide (hRe9.out (((goE ea la s x, goE eb lb s y), P1, tn + 1, p1), t ++ [s]) rfl rfl)
                    have hQF := hide (hQ9.out P1 p1)
                    have hnF : Hid (n' + 1 = n - 1 + (k + 1)) := by show _ = _; have := hn'.out; omega
                    go_wp2_with fail
                    go_roundw
                    case rel => exact ⟨k + 1, A9, n' + 1, c9, _, by omega, hnF, rfl, by go_num, hT9, hfin, hQF, hP9, hp9, htr9, hne9, hbL9, hbpl9⟩
                    case measure => simp [intOf]; omega
                · go_simp
                  have hbK := Below.alloc (Below.refl wD.heap.size wD) (Nat.le_refl _) (.cells #[.string s] 9)
                  have hlit := hide (Sl.lit1' (f := strv) wD 9 s #[.string s] rfl 1 _ rfl)
                  have hbl0b := hide (hDD.out.trans (hbK.mono hDD.out.size))
                  clear hbK
                  refine hK.out _ _ (fun _ => hSS.out _ hbl0b.out) ?_
                  clear hK K
                  (try simp only [Act.put, List.setIfInBounds_toArray, List.set_cons_zero, List.set_cons_succ])
                  generalize hgWb : wD.alloc (.cells #[.string s] 9) = wS0b at *
                  replace hgWb := hide hgWb
                  refine lateT_step (i := 5) (by kernel_rfl) rfl (fun K hK => ?_)
                  go_simp
                  go_at_call 156
                  (with_reducible refine (qA.out wS0b hbl0b.out).mono ?_)
                  rintro e wS1b ⟨rfl, hbK⟩
                  have hbl1b := hide (hbl0b.out.trans (hbK.mono hbl0b.out.size))
                  replace hlit := hide (hlit.out.below hbK (.inr (Nat.le_refl _)))
                  clear hbK
                  refine hK.out _ _ (fun _ => hSS.out _ hbl1b.out) ?_
                  clear hK K
                  (try simp only [Act.put, List.setIfInBounds_toArray, List.set_cons_zero, List.set_cons_succ])
                  refine lateT_step (i := 10) (by kernel_rfl) rfl (fun K hK => ?_)
                  go_simp
                  go_at_call 156
                  (with_reducible refine (qB.out wS1b hbl1b.out).mono ?_)
                  rintro e wS2b ⟨rfl, hbK⟩
                  have hbl2b := hide (hbl1b.out.trans (hbK.mono hbl1b.out.size))
                  replace hlit := hide (hlit.out.below hbK (.inr (Nat.le_refl _)))
                  clear hbK
                  refine hK.out _ _ (fun _ => hSS.out _ hbl2b.out) ?_
                  clear hK K
                  (try simp only [Act.put, List.setIfInBounds_toArray, List.set_cons_zero, List.set_cons_succ])
                  refine lateT_step (i := 13) (by kernel_rfl) rfl (fun K hK => ?_)
                  go_simp
                  go_at_call 131
                  (with_reducible refine (qC.out wS2b hbl2b.out).mono ?_)
                  rintro e wS3b ⟨cA, cc, rfl, hown0, hbK⟩
                  have hown := hide (hown0.sink hbl2b.out.size)
                  clear hown0
                  have hbl3b := hide (hbl2b.out.trans (hbK.mono hbl2b.out.size))
                  replace hlit := hide (hlit.out.below hbK (.inr (Nat.le_refl _)))
                  clear hbK
                  refine hK.out _ _ (fun _ => hSS.out _ hbl3b.out) ?_
                  clear hK K
                  (try simp only [Act.put, List.setIfInBounds_toArray, List.set_cons_zero, List.set_cons_succ])
                  have hzU := hbl3b.out.size
                  refine lateT_step (i := 16) (by kernel_rfl) rfl (fun K hK => ?_)
                  refine step_appL (m := 1) (d := 1) (by rfl) (.tmp 88) (.tmp 90) (by rfl) hE.out flat_strv (by go_simp) hown.out (by go_simp) hlit.out (by omega) hzU ?_
                  intro P1 p1 wU1 hown1 hgr1 hbw1 hat1
                  have hbU1 := hide (hbl3b.out.trans (hbw1.mono (Nat.le_refl _)))
                  have hown1' := hide hown1
                  clear hgr1 hbw1 hat1 hown hlit hown1
                  refine hK.out _ _ (fun _ => hSS.out _ hbU1.out) ?_
                  clear hK K
                  (try simp only [Act.put, List.setIfInBounds_toArray, List.set_cons_zero, List.set_cons_succ])
                  refine lateT_step (i := 17) (by kernel_rfl) rfl (fun K hK => ?_)
                  go_simp
                  refine hK.out _ _ (fun _ => hSS.out _ hbU1.out) ?_
                  clear hK K
                  (try simp only [Act.put, List.setIfInBounds_toArray, List.set_cons_zero, List.set_cons_succ])
                  refine lateT_step (i := 18) (by kernel_rfl) rfl (fun K hK => ?_)
                  go_simp
                  have hbK := Below.alloc (Below.refl wU1.heap.size wU1) (Nat.le_refl _) (.cells #[.int .i64 (goE ea la s x), .int .i64 (goE eb lb s y), .slice P1 (tn + 1) p1] 175)
                  have hbU2 := hide (hbU1.out.trans (hbK.mono hbU1.out.size))
                  have hown2 := hide (hown1'.out.below hbK (Nat.le_refl _))
                  have hlit2 := hide (Sl.lit1' (f := pe) wU1 175 ((goE ea la s x, goE eb lb s y), P1, tn + 1, p1) #[.int .i64 (goE ea la s x), .int .i64 (goE eb lb s y), .slice P1 (tn + 1) p1] rfl 3 _ rfl)
                  clear hbK hown1'
                  refine hK.out _ _ (fun _ => hSS.out _ hbU2.out) ?_
                  clear hK K
                  (try simp only [Act.put, List.setIfInBounds_toArray, List.set_cons_zero, List.set_cons_succ])
                  generalize hgU : wU1.alloc (.cells #[.int .i64 (goE ea la s x), .int .i64 (goE eb lb s y), .slice P1 (tn + 1) p1] 175) = wU2 at *
                  replace hgU := hide hgU
                  have hT2 := hide (hTr.out.below hbU2.out)
                  have hzV : w2.heap.size ≤ wU2.heap.size := Nat.le_trans hbr2.out.size hbU2.out.size
                  refine lateT_step (i := 19) (by kernel_rfl) rfl (fun K hK => ?_)
                  refine step_appG (n := n') (c := c') (d := 1) (by rfl) (.tmp 75) (.tmp 93) (by rfl) hEp.out flat_pe (by go_simp) hT2.out.own (by go_simp) hlit2.out (by omega) hzV ?_
                  intro A9 c9 w9 hown9 hgr9 hbw9 hat9
                  have hT9 := hide (hT2.out.push (r := (((goE ea la s x, goE eb lb s y), P1, tn + 1, p1), t ++ [s])) (hown2.out.sink hbr2.out.size) hown9 hgr9)
                  have hbL9 := hide ((hbr2.out.trans (hbU2.out.mono hbr2.out.size)).grown hgr9 hzV (fun q e => (hT2.out.own.lt q e).1))
                  have hlp : bp < wU2.heap.size := Nat.lt_of_lt_of_le hbpl hbU2.out.size
                  have hnp : some bp ≠ (Value.slice A' n' c').ownBlock := fun e => hne.out bp e.symm rfl
                  have hp9 : Hid (w9.cell? ⟨bp, 0, none⟩ = some (.int .i64 x) ∧ w9.cell? ⟨bp, 1, none⟩ = some (.int .i64 y) ∧ w9.cell? ⟨bp, 2, none⟩ = some (.slice tA tn tc)) := ⟨(grown_cellT hgr9 hlp hnp).trans (hSS.out _ hbU2.out).2.1, (grown_cellT hgr9 hlp hnp).trans (hSS.out _ hbU2.out).2.2.1, (grown_cellT hgr9 hlp hnp).trans (hSS.out _ hbU2.out).2.2.2⟩
                  have hS9 := hide (show (fun w' : World => ((w'.cell? ⟨bA, 0, none⟩ = some (.int .i64 sA) ∧ w'.cell? ⟨bA, 1, none⟩ = some (.int .i64 iA) ∧ w'.cell? ⟨bA, 2, none⟩ = some (.slice A2 n2 k2) ∧ w'.cell? ⟨bA, 3, none⟩ = some (.slice A3 n3 k3)) ∧ (w'.cell? ⟨bB, 0, none⟩ = some (.int .i64 sB) ∧ w'.cell? ⟨bB, 1, none⟩ = some (.int .i64 iB) ∧ w'.cell? ⟨bB, 2, none⟩ = some (.slice B2 m2 j2) ∧ w'.cell? ⟨bB, 3, none⟩ = some (.slice B3 m3 j3))) ∧ w'.cell? ⟨bp, 0, none⟩ = some (.int .i64 x) ∧ w'.cell? ⟨bp, 1, none⟩ = some (.int .i64 y) ∧ w'.cell? ⟨bp, 2, none⟩ = some (.slice tA tn tc)) w9 from ⟨hSb.out w9 (hb2.out.trans (hbL9.out.mono hz2)), hp9.out⟩)
                  have hne9 : Hid (∀ q, (Value.slice A9 (n' + 1) c9).ownBlock = some q → q ≠ bp) := fun q hq => by
                    rcases hat9 with e | e
                    · exact hne.out q (e ▸ hq)
                    · rw [e] at hq; injection hq with hq; omega
                  have hPS2 := hPr.out.below hbU2.out
                  have hP9 := hide (hPS2.keep (hgr9.block _ hPS2.lt (hT2.out.apartM hPS2)))
                  have htr9 := hide (hT2.out.apartS (htrr.out.below hbU2.out (Nat.le_refl _)) hgr9)
                  have hlp9 : bp < w9.heap.size := Nat.lt_of_lt_of_le hlp hgr9.size
                  clear hgr9 hbw9 hat9 hown9 hPS2
                  refine hK.out _ _ (fun _ => hS9.out) ?_
                  clear hK K
                  (try simp only [Act.put, List.setIfInBounds_toArray, List.set_cons_zero, List.set_cons_succ])
                  refine lateT_step (i := 20) (by kernel_rfl) rfl (fun K hK => ?_)
                  go_simp
                  refine hK.out _ _ (fun h => absurd rfl h) ?_
                  clear hK K
                  (try simp only [Act.put, List.setIfInBounds_toArray, List.set_cons_zero, List.set_cons_succ])
                  refine lateT_done (by kernel_rfl) ?_ _
                  have hbpl9 : Hid (bp < w9.heap.size) := hlp9
                  have hfin := hide (hRe9.out (((goE ea la s x, goE eb lb s y), P1, tn + 1, p1), t ++ [s]) rfl rfl)
                  have hQF := hide (hQ9.out P1 p1)
                  have hnF : Hid (n' + 1 = n - 1 + (k + 1)) := by show _ = _; have := hn'.out; omega
                  go_wp2_with fail
                  go_roundw
                  case rel => exact ⟨k + 1, A9, n' + 1, c9, _, by omega, hnF, rfl, by go_num, hT9, hfin, hQF, hP9, hp9, htr9, hne9, hbL9, hbpl9⟩
                  case measure => simp [intOf]; omega
              · obtain rfl : k = nT := by omega
                have hR3 : Hid (∀ r, IRun (fun (x : Int × Int) (t : List ByteArray) => J.tail.map fun s => ((goE ea la s x.1, goE eb lb s x.2), t ++ [s])) bad (ptQ R) Z2 r → IRun (fun (x : Int × Int) (t : List ByteArray) => J.tail.map fun s => ((goE ea la s x.1, goE eb lb s x.2), t ++ [s])) bad [((iA, iB), [])] [] r) := fun r h => by
                  refine hR2.out r ?_
                  rw [hRe.out, List.take_of_length_le (by omega)] at h
                  exact h
                have hn1 := hn'.out
                have hghost : Hid (n' + (1682 - Z2.length) * 25 ≤ G2 ∧ n' ≤ 1 + Z2.length * 24) := by show _ ∧ _; omega
                clear hn1 hR2 hRe hgo
                go_wp2_with fail
                go_roundg G2
                case measure => omega
                case rel => exact ⟨A', n', c', R, Z2, rfl, hTr, hPr, hG2, hQr, hbr2, hR3, hghost⟩
    · obtain rfl : n = 0 := by omega
      obtain rfl := List.eq_nil_of_length_eq_zero hQn
      have hbF := hide (hbw.out.trans ((hb2.out.trans (hbr.out.mono hz2)).mono hbw.out.size))
      go_wp2_with fail
      go_ret2
      exact ⟨none, hR.out _ IRun.nil, rfl, hbF.out⟩
end Go.Proofs.YtnhomkmfbngmgaaGreatDoor

namespace Go.Proofs.YtnhomkmfbngmgaaGreatDoor
open Go.ChangeShapes Go.WideShapes Go.ChangeAt Go.RowKit Go.Deep
set_option linter.unusedVariables false

abbrev laidL : List (String × DataW Unit) := Rows.fnLtsRow.laid
theorem pow_data : (Rows.laid_internal_strconv_uint64pow10 : DataW Unit) = Lib.tabData .u64 Lib.pow10Tab := by kernel_rfl
theorem good_of {W : World} (h : laidMet Tryz.prog laidL W) (hS : W.ShapedOpen Tryz.prog) : Good W := by
  have h3 : laidMet Tryz.prog (("internal/strconv.uint64pow10", Lib.tabData .u64 Lib.pow10Tab) :: [("unicode/utf8.acceptRanges", Rows.laid_unicode_utf8_acceptRanges), ("strconv.ErrRange", Rows.laid_strconv_ErrRange), ("strconv.ErrSyntax", Rows.laid_strconv_ErrSyntax), ("unicode/utf8.first", Rows.laid_unicode_utf8_first)]) W := by
    rw [← pow_data]
    exact h.tail.tail
  have h6 : laidMet Tryz.prog (("strconv.ErrSyntax", Rows.laid_strconv_ErrSyntax) :: [("unicode/utf8.first", Rows.laid_unicode_utf8_first)]) W := h3.tail.tail.tail
  refine ⟨hS, Lib.tabIs_of_head (g := 1) (t := 324) (e := 137) (n := 20) (by kernel_rfl) (by kernel_rfl) Tryz.underlying324 Tryz.underlying137 (by kernel_rfl) (by kernel_rfl) h3, ?_⟩
  obtain ⟨ps, ⟨g0, t0, cs0, f0, p0, q0, hg0, ht0, hv0, hd0, _, e0⟩, _, hrows⟩ := h6
  have hg : Tryz.prog.globalNamed "strconv.ErrSyntax" = some 4 := by kernel_rfl
  have ht : (Tryz.prog.globals[4]?).map (·.type) = some 224 := by kernel_rfl
  obtain rfl := Option.some.inj (hg.symm.trans hg0)
  obtain rfl := Option.some.inj (ht.symm.trans ht0)
  obtain ⟨l0⟩ := cs0
  obtain ⟨_, u, v, e1, _, _⟩ := iface_of_trod Tryz.underlying224 hd0
  have e2 : l0 = [.iface u v] := e1
  subst e2
  exact ⟨u, v, hv0⟩

section
variable {H : Type} {enc : TypeId × Value → H} {P : Program} {w : World} {base : Nat} {spare : Nat → Bool} {held : Bool}
/-- One field of a struct, at its place. -/
theorem fieldN {t : TypeId} {fs : Array Field} (hs : P.underlying t = some (.struct fs)) {fuel : Nat} {cs : List Value} {x : DataW H × List MemPlace} (h : DataW.trod enc P w base spare held fuel t cs = some x)
    (i : Nat) (f : Field) (hf : fs[i]? = some f) : ∃ (n : Nat) (y : DataW H × List MemPlace), DataW.trod enc P w base spare held n f.type ((cs.drop f.offset).take (P.cellsOf f.type)) = some y ∧ ∀ m ∈ y.2, m ∈ x.2 := by
  obtain ⟨xs, n, _, rfl, hcl, hxl, hg⟩ := DataW.trod_struct hs h
  have hi : i < fs.size := (Array.getElem?_eq_some_iff.1 hf).1
  have g := hg i f hf
  have hx : xs[i]? = some xs[i] := List.getElem?_eq_getElem (by omega)
  rw [hx] at g
  exact ⟨n, xs[i], g, fun m hm => List.mem_flatMap.2 ⟨xs[i], List.getElem_mem _, hm⟩⟩
theorem read_S {t e : TypeId} (ht : P.underlying t = some (.slice e)) (hC : P.cellsOf e = 1) (hi : P.underlying e = some .string) {fuel : Nat} {c : Value} {r : DataW H × List MemPlace} (h : DataW.trod enc P w base spare held fuel t [c] = some r)
    (hz : ∀ b off, MemPlace.cell b off ∈ r.2 → w.frozen? ⟨b, off, none⟩ = false) : ∃ d, ArgS w base w.heap.size c d := by
  obtain ⟨A, n, k, l, e1, e2, e3, e4⟩ := open_flatQ (w := w) (base := base) (spare := spare) (held := held) strv (fun s => s.size ≤ maxLen) ht hC (by omega) (fun fuel cs y hy hl _ => by
    obtain ⟨a, ea, _, na⟩ := DataW.trod_string hi hy
    exact ⟨a, ea, na⟩) h hz
  simp at e1
  exact ⟨l, A, n, k, e1, e2, e4, e3⟩
theorem read_E {t e ft : TypeId} {f0 f1 f2 : Field} (ht : P.underlying t = some (.slice e)) (he : P.underlying e = some (.struct #[f0, f1, f2])) (hone : oneCellFields P #[f0, f1, f2] = true) (hC : P.cellsOf e = 3) (h0 : f0.type = ft) (h1 : f1.type = ft) (h2 : f2.type = ft) (hi : P.underlying ft = some (.int .i64))
    {fuel : Nat} {c : Value} {r : DataW H × List MemPlace} (h : DataW.trod enc P w base spare held fuel t [c] = some r) (hz : ∀ b off, MemPlace.cell b off ∈ r.2 → w.frozen? ⟨b, off, none⟩ = false) : ∃ d, ArgE w base w.heap.size c d := by
  obtain ⟨A, n, k, l, e1, e2, e3, _⟩ := open_flatQ (w := w) (base := base) (spare := spare) (held := held) ev (fun _ => True) ht hC (by omega) (fun fuel cs y hy hl _ => by
    obtain ⟨m0, c0, y0, g0, t0, _⟩ := field1 he hone hC hy 0 _ rfl
    obtain ⟨m1, c1, y1, g1, t1, _⟩ := field1 he hone hC hy 1 _ rfl
    obtain ⟨m2, c2, y2, g2, t2, _⟩ := field1 he hone hC hy 2 _ rfl
    change DataW.trod enc P w base spare held _ f0.type _ = _ at t0
    change DataW.trod enc P w base spare held _ f1.type _ = _ at t1
    change DataW.trod enc P w base spare held _ f2.type _ = _ at t2
    rw [h0] at t0
    rw [h1] at t1
    rw [h2] at t2
    obtain ⟨a0, ea0, _, _⟩ := DataW.trod_int hi t0
    obtain ⟨a1, ea1, _, _⟩ := DataW.trod_int hi t1
    obtain ⟨a2, ea2, _, _⟩ := DataW.trod_int hi t2
    match cs, hl with
    | [k0, k1, k2], _ =>
      simp at g0 g1 g2 ea0 ea1 ea2
      subst g0 g1 g2 ea0 ea1 ea2
      exact ⟨(a0, a1, a2), rfl, trivial⟩) h hz
  simp at e1
  exact ⟨l, A, n, k, e1, e2, e3⟩
end

set_option maxRecDepth 100000 in
/-- Four cells that read as a system. -/
theorem read_L {H : Type} {enc : TypeId × Value → H} {w : World} {base : Nat} {spare : Nat → Bool} {held : Bool} {fuel : Nat} {k0 k1 k2 k3 : Value} {r : DataW H × List MemPlace}
    (h : DataW.trod enc Tryz.prog w base spare held fuel 45 [k0, k1, k2, k3] = some r) (hz : ∀ b off, MemPlace.cell b off ∈ r.2 → w.frozen? ⟨b, off, none⟩ = false) :
    ∃ (x : CL) (d : DL), [k0, k1, k2, k3] = [.int .i64 x.1, .int .i64 x.2.1, x.2.2.1, x.2.2.2] ∧ ReadL w base w.heap.size x d := by
  obtain ⟨m0, c0, y0, g0, t0, p0⟩ := field1 Tryz.underlying45 (by kernel_rfl) (by kernel_rfl) h 0 _ rfl
  obtain ⟨m1, c1, y1, g1, t1, p1⟩ := field1 Tryz.underlying45 (by kernel_rfl) (by kernel_rfl) h 1 _ rfl
  obtain ⟨m2, c2, y2, g2, t2, p2⟩ := field1 Tryz.underlying45 (by kernel_rfl) (by kernel_rfl) h 2 _ rfl
  obtain ⟨m3, c3, y3, g3, t3, p3⟩ := field1 Tryz.underlying45 (by kernel_rfl) (by kernel_rfl) h 3 _ rfl
  obtain ⟨a0, ea0, _, _⟩ := DataW.trod_int Tryz.underlying2 t0
  obtain ⟨a1, ea1, _, _⟩ := DataW.trod_int Tryz.underlying2 t1
  obtain ⟨d2, r2⟩ := read_S Tryz.underlying24 (by kernel_rfl) Tryz.underlying9 t2 (fun b off hp => hz b off (p2 _ hp))
  obtain ⟨d3, r3⟩ := read_E Tryz.underlying43 Tryz.underlying250 (by kernel_rfl) (by kernel_rfl) rfl rfl rfl Tryz.underlying2 t3 (fun b off hp => hz b off (p3 _ hp))
  simp at g0 g1 g2 g3 ea0 ea1
  subst g0 g1 g2 g3 ea0 ea1
  exact ⟨(a0, a1, k2, k3), (a0, a1, d2, d3), rfl, rfl, rfl, r2, r3⟩

set_option maxRecDepth 100000 in
theorem open_M {H : Type} {enc : TypeId × Value → H} {w : World} {base wbase : Nat} {spare : Nat → Bool} {held : Bool} {v : Value} {d : DataW H} {p : List MemPlace} {w0 : World} {r0 : Reach} (hw : Value.okWide Tryz.prog w0 r0 wbase 47 v)
    (h : DataW.Trod enc Tryz.prog w base spare held 47 v d p) (hz : ∀ b off, MemPlace.cell b off ∈ p → w.frozen? ⟨b, off, none⟩ = false) : ∃ x, ArgM w base w.heap.size v x := by
  obtain ⟨cs, rfl, hsz⟩ := okWide_struct Tryz.underlying47 hw
  obtain ⟨fuel, hf⟩ := h
  have hsz5 : cs.size = 5 := hsz
  have hf' : DataW.trod enc Tryz.prog w base spare held fuel 47 cs.toList = some (d, p) := hf
  obtain ⟨cs⟩ := cs
  match cs, hsz5 with
  | [k0, k1, k2, k3, k4], _ =>
    obtain ⟨m0, y0, t0, p0⟩ := fieldN Tryz.underlying47 hf' 0 _ rfl
    obtain ⟨m1, y1, t1, p1⟩ := fieldN Tryz.underlying47 hf' 1 _ rfl
    have e0 : (([k0, k1, k2, k3, k4] : List Value).drop 0).take (Tryz.prog.cellsOf 45) = [k0, k1, k2, k3] := by rw [show Tryz.prog.cellsOf 45 = 4 by kernel_rfl]; rfl
    have e1 : (([k0, k1, k2, k3, k4] : List Value).drop 4).take (Tryz.prog.cellsOf 32) = [k4] := by rw [show Tryz.prog.cellsOf 32 = 1 by kernel_rfl]; rfl
    have t0' : DataW.trod enc Tryz.prog w base spare held m0 45 [k0, k1, k2, k3] = some y0 := by rw [← e0]; exact t0
    have t1' : DataW.trod enc Tryz.prog w base spare held m1 32 [k4] = some y1 := by rw [← e1]; exact t1
    obtain ⟨x, d0, ex, r0⟩ := read_L t0' (fun b off hp => hz b off (p0 _ hp))
    obtain ⟨d1, r1⟩ := read_I Tryz.underlying32 (by kernel_rfl) Tryz.underlying2 t1' (fun b off hp => hz b off (p1 _ hp))
    injection ex with ex0 ex
    injection ex with ex1 ex
    injection ex with ex2 ex
    injection ex with ex3 ex
    subst ex0 ex1 ex2 ex3
    exact ⟨(d0, d1), x, k4, rfl, r0, r1⟩

end Go.Proofs.YtnhomkmfbngmgaaGreatDoor
