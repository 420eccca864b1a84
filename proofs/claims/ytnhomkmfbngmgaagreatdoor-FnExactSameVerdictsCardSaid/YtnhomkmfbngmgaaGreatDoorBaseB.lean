/-
  Several texts in one:
  Slices of the call's own that grow: what they hold, and append from any slice that reads as a list. Conditions: the new length times the element's bytes is at most 2^47.
  Words for slices of slices: the handles in one row, what each handle holds, all rows in different blocks. Conditions: rows of at most 1048576 elements.
  Words for slices whose elements hold a slice each beside other cells (hd tells an element's handle). Conditions: rows of at most 1048576 elements.
  Lists of int64 as fields of a law's arguments, and readings of fields. Conditions: none.
  The laws' helpers on lists of strings: sizes, copying, comparing. Conditions: sizes.
  The laws' helpers on lists of edges (three numbers each): sizes, copying, comparing. Conditions: sizes.
  Transition systems as data, and what makes one valid, deterministic. Conditions: none.
-/
import Derived.Test.YtnhomkmfbngmgaaGreatDoorBaseA
import Derived.Maps.AppendAt
import Derived.Laws.OwnMore
import Derived.OwnWalk
import Derived.StillTailTactics
import Derived.Outline
set_option linter.unusedSimpArgs false
set_option linter.unusedVariables false
namespace Go.Proofs.YtnhomkmfbngmgaaGreatDoor
open Go.RowKit

/-- The cells of an element: always size many, each one cell. -/
structure Flat {α : Type} (f : α → List Value) (size : Nat) : Prop where
  len : ∀ x, (f x).length = size
  one : ∀ x u, u ∈ f x → u.oneCell' = true

theorem flat_iv : Flat iv 1 := ⟨fun _ => rfl, fun x u h => by simp [iv] at h; subst h; rfl⟩

/-- What the program's tables say of a slice type and its elements. -/
def Elem (P : Program) (t e : TypeId) (size bytes : Nat) : Prop :=
  P.underlying t = some (.slice e) ∧ 0 < size ∧ 0 < bytes ∧ ∃ i z, P.info? e = some i ∧ i.zero = some z ∧ i.size = size ∧ i.bytes = bytes ∧ z.cells.size = size

theorem Elem.of {P : Program} {t e : TypeId} {size bytes : Nat} {z : Value} (ht : P.underlying t = some (.slice e)) (hi : (P.info? e).map (fun i => (i.zero, i.size, i.bytes)) = some (some z, size, bytes))
    (hz : z.cells.size = size) (h0 : 0 < size) (h1 : 0 < bytes) : Elem P t e size bytes := by
  obtain ⟨i, a, b, c, d⟩ := info_parts hi
  exact ⟨ht, h0, h1, i, z, a, b, c, d, hz⟩

/-- The slice value `.slice A n c` is the call's own (blocks from base on), and holds l. -/
def Own {α : Type} (size : Nat) (f : α → List Value) (w : World) (base : Nat) (e : TypeId) (A : Option Addr) (n c : Nat) (l : List α) : Prop :=
  l.length = n ∧ w.ownsRow base e size (.slice A n c) n (l.flatMap f)

theorem flat_length {α : Type} {f : α → List Value} {size : Nat} (hf : Flat f size) (l : List α) : (l.flatMap f).length = l.length * size := by
  induction l with
  | nil => simp
  | cons x l ih => simp [List.flatMap_cons, ih, hf.len, Nat.add_mul]; omega

theorem flat_at {α : Type} {f : α → List Value} {size : Nat} (hf : Flat f size) : ∀ (l : List α) (k : Nat) (x : α), l[k]? = some x → ∀ (j : Nat) (u : Value), (f x)[j]? = some u → (l.flatMap f)[k * size + j]? = some u := by
  intro l
  induction l with
  | nil => intro k x h; simp at h
  | cons y l ih =>
    intro k x h j u hu
    have hj : j < size := by rw [← hf.len x]; exact (List.getElem?_eq_some_iff.1 hu).1
    rw [List.flatMap_cons]
    cases k with
    | zero =>
      simp at h
      subst h
      rw [List.getElem?_append_left (by rw [hf.len]; omega)]
      simpa using hu
    | succ k =>
      simp at h
      rw [List.getElem?_append_right (by rw [hf.len, Nat.add_mul]; omega), hf.len]
      have : (k + 1) * size + j - size = k * size + j := by rw [Nat.add_mul]; omega
      rw [this]
      exact ih k x h j u hu

theorem flat_from {α : Type} {f : α → List Value} {size : Nat} (hf : Flat f size) : ∀ (l : List α) (j : Nat) (u : Value), (l.flatMap f)[j]? = some u → ∃ k i x, l[k]? = some x ∧ (f x)[i]? = some u ∧ j = k * size + i := by
  intro l
  induction l with
  | nil => intro j u h; simp at h
  | cons y l ih =>
    intro j u h
    rw [List.flatMap_cons] at h
    rcases Nat.lt_or_ge j size with hj | hj
    · rw [List.getElem?_append_left (by rw [hf.len]; exact hj)] at h
      exact ⟨0, j, y, rfl, h, by simp⟩
    · rw [List.getElem?_append_right (by rw [hf.len]; exact hj), hf.len] at h
      obtain ⟨k, i, x, h1, h2, h3⟩ := ih _ _ h
      exact ⟨k + 1, i, x, by simpa using h1, h2, by rw [Nat.add_mul]; omega⟩

theorem flat_one {α : Type} {f : α → List Value} {size : Nat} (hf : Flat f size) (l : List α) : ∀ u ∈ l.flatMap f, u.oneCell' = true := by
  intro u hu
  obtain ⟨x, _, hx⟩ := List.mem_flatMap.1 hu
  exact hf.one x u hx

section
variable {α : Type} {size : Nat} {f : α → List Value} {w w' : World} {base n c : Nat} {e : TypeId} {A : Option Addr} {l : List α}

theorem Own.len (h : Own size f w base e A n c l) : l.length = n := h.1

theorem Own.nil_ (w : World) (base : Nat) (e : TypeId) : Own size f w base e none 0 0 ([] : List α) := ⟨rfl, World.ownsRow_nil _ _ _ _⟩

theorem Own.lt (h : Own size f w base e A n c l) : ∀ g, (Value.slice A n c).ownBlock = some g → base ≤ g ∧ g < w.heap.size := h.2.lt

theorem Own.sl (h : Own size f w base e A n c l) (hf : Flat f size) : Sl size f w base w.heap.size A n l := by
  refine ⟨h.1, fun hn => ?_⟩
  rcases h.2.2 with ⟨hv, rfl⟩ | ⟨g, cap, cur, hv, hb, hg, hnc, hcm, hcs, htake⟩
  · omega
  · injection hv with hA _ _
    subst hA
    have hlt : g < w.heap.size := (Array.getElem?_eq_some_iff.1 hg).1
    refine ⟨g, 0, rfl, hb, hlt, hlt, fun k x hx j u hu => ?_⟩
    have h1 := flat_at hf l k x hx j u hu
    have h2 := h.2.cells (g := g) rfl _ _ h1
    have hadd : (⟨g, 0, none⟩ : Addr).add (k * size + j) = ⟨g, 0 + (k * size + j), none⟩ := by unfold Addr.add; split <;> simp_all
    rw [hadd] at h2
    exact ⟨h2, frozen_of_row w g _ cur e hg⟩

theorem Own.keep (h : Own size f w base e A n c l) (hk : ∀ g, (Value.slice A n c).ownBlock = some g → w'.heap[g]? = w.heap[g]?) : Own size f w' base e A n c l := by
  refine ⟨h.1, h.2.1, ?_⟩
  rcases h.2.2 with hn | ⟨g, cap, cur, hv, hb, hg, rest⟩
  · exact .inl hn
  · refine .inr ⟨g, cap, cur, hv, hb, ?_, rest⟩
    rw [hk g (by rw [hv]; rfl)]
    exact hg

theorem Own.below (h : Own size f w base e A n c l) {B : Nat} (hb : Below B w w') (hB : w.heap.size ≤ B) : Own size f w' base e A n c l :=
  h.keep fun g hg => hb.block g (by have := (h.lt g hg).2; omega)

end

/-- A slice written out in the text: one element, in a block of its own. -/
theorem Sl.lit1 {α : Type} {f : α → List Value} (w : World) (t : TypeId) (x : α) (cs : Array Value) (h : f x = cs.toList) (size lo : Nat) (hlo : lo ≤ w.heap.size) :
    Sl size f (w.alloc (.cells cs t)) lo (w.heap.size + 1) (some ⟨w.heap.size, 0, none⟩) 1 [x] := by
  refine ⟨rfl, fun _ => ⟨w.heap.size, 0, rfl, hlo, by omega, by simp, fun k y hy j u hu => ?_⟩⟩
  cases k with
  | succ k => simp at hy
  | zero =>
    simp at hy
    subst hy
    rw [h] at hu
    simp only [Nat.zero_mul, Nat.zero_add]
    have hg := heap_alloc_new w (.cells cs t)
    exact ⟨(cell_of_row _ _ _ cs t (0, 0) hg).trans (by simpa using hu), frozen_of_row _ _ _ cs t hg⟩

/-- The same, the new block's number as the walk spells it. -/
theorem Sl.lit1' {α : Type} {f : α → List Value} (w : World) (t : TypeId) (x : α) (cs : Array Value) (h : f x = cs.toList) (size g : Nat) (hg : g = w.heap.size) :
    Sl size f (w.alloc (.cells cs t)) 0 (g + 1) (some ⟨g, 0, none⟩) 1 [x] := by
  subst hg
  exact Sl.lit1 w t x cs h size 0 (Nat.zero_le _)

section
variable {P : Program} {α : Type} {size bytes : Nat} {f : α → List Value} {t e : TypeId}

theorem run_app (w : World) (hE : Elem P t e size bytes) (hf : Flat f size) (ty : TypeId) {base n c : Nat} {A : Option Addr} {l : List α} (hown : Own size f w base e A n c l)
    {B : Option Addr} {m d lo hi : Nat} {r : List α} (hr : Sl size f w lo hi B m r) (hsz : (n + m) * bytes ≤ 140737488355328) (hbase : base ≤ w.heap.size) :
    ∃ A' c' w', (Builtin.append_ #[t, t] ty #[.slice A n c, .slice B m d]).run P w = .ok (.slice A' (n + m) c') w' ∧ Own size f w' base e A' (n + m) c' (l ++ r) ∧ w.grownBy w' (Value.slice A n c).ownBlock ∧
      ((Value.slice A' (n + m) c').ownBlock = (Value.slice A n c).ownBlock ∨ (Value.slice A' (n + m) c').ownBlock = some w.heap.size) := by
  obtain ⟨ht, h0, hb0, i, z, hi', hz, hs, hby, hzs⟩ := hE
  have hnm : n + m ≤ 140737488355328 := Nat.le_trans (Nat.le_mul_of_pos_right _ hb0) hsz
  have key : ∀ v' w', w'.ownsRow base e size v' (n + m) (l.flatMap f ++ r.flatMap f) → ∃ A' c', v' = .slice A' (n + m) c' ∧ Own size f w' base e A' (n + m) c' (l ++ r) := by
    intro v' w' h
    have hsh : ∃ A' c', v' = .slice A' (n + m) c' := by
      rcases h.2 with ⟨rfl, h0⟩ | ⟨g, cap, cur, rfl, _⟩
      · exact ⟨none, 0, by rw [h0]⟩
      · exact ⟨_, _, rfl⟩
    obtain ⟨A', c', rfl⟩ := hsh
    exact ⟨A', c', rfl, by rw [List.length_append, hown.1, hr.len], by rw [List.flatMap_append]; exact h⟩
  by_cases hm : m = 0
  · subst hm
    have hr0 : r = [] := List.eq_nil_of_length_eq_zero hr.len
    subst hr0
    have hrun : (Builtin.append_ #[t, t] ty #[.slice A n c, .slice B 0 d]).run P w = .ok (.slice A n c) w := by
      rcases hown.2.2 with ⟨hv, rfl⟩ | ⟨g, cap, cur, hv, _, hg, hnc, _⟩
      · injection hv with h1 _ h3
        subst h1 h3
        cases B <;> simp [Builtin.append_, run_underlying ht, sizeOf, typeInfo, hi', Builtin.lenOf, Builtin.firstCells, loadCells, loadCellsFrom]
      · injection hv with h1 _ h3
        subst h1 h3
        cases B <;> simp [Builtin.append_, run_underlying ht, sizeOf, typeInfo, hi', Builtin.lenOf, Builtin.firstCells, loadCells, loadCellsFrom, hnc, storeCells]
    exact ⟨A, c, w, hrun, ⟨by simpa using hown.1, by simpa using hown.2⟩, ⟨rfl, rfl, rfl, Nat.le_refl _, fun _ _ _ => rfl⟩, .inl rfl⟩
  · obtain ⟨b, off, rfl, _, _, _, hc⟩ := hr.at_ (by omega)
    obtain ⟨v', w', h1, h2, h3, _, h5⟩ := run_append_own_at (P := P) w base t ty e i z size bytes ht hi' hz hs hby hzs h0 (.slice A n c) n (l.flatMap f) hown.2 ⟨b, off, none⟩ m d (r.flatMap f)
      (by rw [flat_length hf, hr.len]) (fun j u hu => by
        obtain ⟨k, i, x, hx, hu', rfl⟩ := flat_from hf r j u hu
        have hadd : (⟨b, off, none⟩ : Addr).add (k * size + i) = ⟨b, off + (k * size + i), none⟩ := by unfold Addr.add; split <;> simp_all
        rw [hadd]
        exact (hc k x hx i u hu').1) (flat_one hf r) (by unfold maxLen; omega) hsz hbase
    obtain ⟨A', c', rfl, h6⟩ := key v' w' h2
    exact ⟨A', c', w', h1, h6, h3, h5⟩

/-- append, at the walk's operation. -/
theorem wpList_app {w : World} {ops : Array Oper} {rest : List Oper} {o : Oper} {a : Act} {Q : Exit → Act → World → Prop} (hgd : o.guard = none) (s x : Operand)
    (ho : o.op = .call { callee := .builtin .append, args := #[s, x], argTypes := #[t, t] }) (hE : Elem P t e size bytes) (hf : Flat f size)
    {base n c : Nat} {A : Option Addr} {l : List α} (hs : a.eval s = .slice A n c) (hown : Own size f w base e A n c l)
    {B : Option Addr} {m d lo hi : Nat} {r : List α} (hx : a.eval x = .slice B m d) (hr : Sl size f w lo hi B m r) (hsz : (n + m) * bytes ≤ 140737488355328) (hbase : base ≤ w.heap.size)
    (h : ∀ A' c' w', Own size f w' base e A' (n + m) c' (l ++ r) → w.grownBy w' (Value.slice A n c).ownBlock → Below base w w' →
      ((Value.slice A' (n + m) c').ownBlock = (Value.slice A n c).ownBlock ∨ (Value.slice A' (n + m) c').ownBlock = some w.heap.size) → wpList P ops Q rest (a.put o.dst (.slice A' (n + m) c')) w') : wpList P ops Q (o :: rest) a w := by
  refine wpList_plain hgd fun K hK => ?_
  obtain ⟨A', c', w', h1, h2, h3, h4⟩ := run_app w hE hf o.type hown (d := d) hr hsz hbase
  unfold Oper.wp execOp
  simp only [ho, resolve, invoke, builtin, Sem.run_bind, Sem.run_pure, Result.andThen_ok, List.map_toArray, List.map_cons, List.map_nil, hs, hx, h1]
  exact hK _ _ (h A' c' w' h2 h3 ((Below.refl _ _).grown h3 hbase fun k hk => (hown.lt k hk).1) h4)
end

/-- An empty slice written out in the text, or made: of the call's own. -/
theorem Own.made {α : Type} {size : Nat} {f : α → List Value} (w : World) {base : Nat} (e : TypeId) (hb : base ≤ w.heap.size) : Own size f (w.alloc (.cells #[] e)) base e (some ⟨w.heap.size, 0, none⟩) 0 0 ([] : List α) :=
  ⟨rfl, World.ownsRow_made w #[] 0 hb (Nat.zero_le _) (by simp)⟩

theorem Own.alloc {α : Type} {size : Nat} {f : α → List Value} {w : World} {base n c : Nat} {e : TypeId} {A : Option Addr} {l : List α} (h : Own size f w base e A n c l) (o : Obj) : Own size f (w.alloc o) base e A n c l :=
  ⟨h.1, h.2.alloc o⟩

/-- Where `s[l:]` begins (at its end the old address stays). -/
def cutA (A : Option Addr) (l cap size : Nat) : Option Addr := if cap = l then A else A.map (·.add (l * size))

theorem Sl.cut {α : Type} {size : Nat} {f : α → List Value} {w : World} {lo hi n c k : Nat} {A : Option Addr} {l : List α} (h : Sl size f w lo hi A n l) (hk : k ≤ n) (hc : n ≤ c) : Sl size f w lo hi (cutA A k c size) (n - k) (l.drop k) := by
  refine ⟨by rw [List.length_drop, h.len], fun hn => ?_⟩
  obtain ⟨b, off, rfl, g1, g2, g3, hcell⟩ := h.at_ (by omega)
  have e : cutA (some ⟨b, off, none⟩) k c size = some ⟨b, off + k * size, none⟩ := by
    unfold cutA
    rw [if_neg (by omega)]
    simp only [Option.map_some, Addr.add]
    split <;> simp_all
  rw [e]
  refine ⟨b, off + k * size, rfl, g1, g2, g3, fun i x hx j u hu => ?_⟩
  rw [List.getElem?_drop] at hx
  have h1 := hcell (k + i) x hx j u hu
  have e2 : off + ((k + i) * size + j) = off + k * size + (i * size + j) := by rw [Nat.add_mul]; omega
  rw [e2] at h1
  exact h1

theorem Sl.take {α : Type} {size : Nat} {f : α → List Value} {w : World} {lo hi n k : Nat} {A : Option Addr} {l : List α} (h : Sl size f w lo hi A n l) (hk : k ≤ n) : Sl size f w lo hi A k (l.take k) := by
  refine ⟨by rw [List.length_take, h.len]; omega, fun hn => ?_⟩
  obtain ⟨b, off, rfl, g1, g2, g3, hcell⟩ := h.at_ (by omega)
  refine ⟨b, off, rfl, g1, g2, g3, fun i x hx j u hu => ?_⟩
  rw [List.getElem?_take] at hx
  split at hx
  · exact hcell i x hx j u hu
  · cases hx

/-- `s[k:]`. -/
theorem run_cut {P : Program} {t e : TypeId} {size bytes : Nat} (hE : Elem P t e size bytes) (A : Option Addr) (n c k : Nat) (hk : k ≤ n) (W : World) :
    (Instr.slice t (.slice A n c) (some (.int .i64 (k : Int))) none none).run P W = .ok (.slice (cutA A k c size) (n - k) (c - k)) W := by
  obtain ⟨ht, _, _, i, z, hi, _, hs, _⟩ := hE
  have he : P.elem t = e := by simp [Program.elem, ht]
  rw [run_slice_l W t A n c (by rw [he]; exact ht) .i64 k (by omega) (by omega)]
  simp [sizeOf, typeInfo, he, hi, hs, sliced, cutA]

/-- `s[:k]`. -/
theorem run_head {P : Program} {t e : TypeId} {size bytes : Nat} (hE : Elem P t e size bytes) (A : Option Addr) (n c k : Nat) (hk : k ≤ c) (W : World) :
    (Instr.slice t (.slice A n c) none (some (.int .i64 (k : Int))) none).run P W = .ok (.slice A k c) W := by
  obtain ⟨ht, _, _, i, z, hi, _, hs, _⟩ := hE
  have he : P.elem t = e := by simp [Program.elem, ht]
  rw [run_slice_h W t A n c (by rw [he]; exact ht) .i64 k (by omega) (by omega)]
  have ha : A.map (fun x => x.add 0) = A := by cases A <;> simp [Addr.add]
  simp [sizeOf, typeInfo, he, hi, hs, sliced, ha]

theorem Own.take {α : Type} {size : Nat} {f : α → List Value} {w : World} {base n c k : Nat} {e : TypeId} {A : Option Addr} {l : List α} (hf : Flat f size) (h : Own size f w base e A n c l) (hk : k ≤ n) : Own size f w base e A k c (l.take k) := by
  have hl : (l.take k).length = k := by rw [List.length_take, h.1]; omega
  have hfl : (l.take k).flatMap f = (l.flatMap f).take (k * size) := by
    have h1 : l.flatMap f = (l.take k).flatMap f ++ (l.drop k).flatMap f := by rw [← List.flatMap_append, List.take_append_drop]
    rw [h1]
    have h2 := flat_length hf (l.take k)
    rw [hl] at h2
    rw [← h2, List.take_left]
  refine ⟨hl, by rw [flat_length hf, hl], ?_⟩
  rcases h.2.2 with ⟨hv, h0⟩ | ⟨g, cap, cur, hv, hb, hg, hnc, hcm, hcs, htake⟩
  · injection hv with h1 _ h3
    subst h1 h3
    have : k = 0 := by omega
    subst this
    exact .inl ⟨rfl, rfl⟩
  · injection hv with h1 _ h3
    subst h1 h3
    refine .inr ⟨g, c, cur, rfl, hb, hg, by omega, hcm, hcs, ?_⟩
    rw [hfl, ← htake, List.take_take]
    congr 1
    have := Nat.mul_le_mul_right size hk
    omega

/-- A slice value as an element. -/
def sv (x : Option Addr × Nat × Nat) : List Value := [.slice x.1 x.2.1 x.2.2]
/-- Rows of different element types are different rows. -/
theorem Own.apart {α β : Type} {size size' : Nat} {f : α → List Value} {f' : β → List Value} {w : World} {base base' n c n' c' : Nat} {e e' : TypeId} {A A' : Option Addr} {l : List α} {l' : List β}
    (h : Own size f w base e A n c l) (g : Own size' f' w base' e' A' n' c' l') (he : e ≠ e') : (Value.slice A n c).ownBlock = none ∨ (Value.slice A n c).ownBlock ≠ (Value.slice A' n' c').ownBlock := by
  rcases h.2.2 with ⟨hv, _⟩ | ⟨b, cap, cur, hv, _, hb, _⟩
  · left; rw [hv]; rfl
  · right
    intro e1
    rcases g.2.2 with ⟨hv', _⟩ | ⟨b', cap', cur', hv', _, hb', _⟩
    · rw [hv, hv'] at e1; simp [Value.ownBlock] at e1
    · rw [hv, hv'] at e1
      simp [Value.ownBlock] at e1
      subst e1
      rw [hb] at hb'
      injection hb' with hb'
      injection hb' with _ ht
      exact he ht
theorem Own.kept {α : Type} {size : Nat} {f : α → List Value} {w w' : World} {base n c : Nat} {e : TypeId} {A : Option Addr} {l : List α} {row : Option Nat} (h : Own size f w base e A n c l) (hg : w.grownBy w' row) (hne : (Value.slice A n c).ownBlock = none ∨ (Value.slice A n c).ownBlock ≠ row) :
    Own size f w' base e A n c l := ⟨h.1, h.2.kept hg hne⟩

end Go.Proofs.YtnhomkmfbngmgaaGreatDoor

namespace Go.Proofs.YtnhomkmfbngmgaaGreatDoor
open Go.RowKit

/-- A slice's header. -/
abbrev Hd := Option Addr × Nat × Nat

/-- The block that a handle's elements lie in, as a span. -/
def spanOf (h : Hd) : Nat × Nat := if h.2.1 = 0 then (0, 0) else match h.1 with | some a => (a.block, a.block + 1) | none => (0, 0)
def offS (x y : Nat × Nat) : Prop := x.2 ≤ y.1 ∨ y.2 ≤ x.1
theorem offS.symm {x y : Nat × Nat} (h : offS x y) : offS y x := Or.symm h

theorem spanOf_zero (A : Option Addr) (c : Nat) : spanOf (A, 0, c) = (0, 0) := rfl
theorem spanOf_pos {n : Nat} (b off c : Nat) (hn : 0 < n) : spanOf (some ⟨b, off, none⟩, n, c) = (b, b + 1) := if_neg (by show ¬ n = 0; omega)

section
variable {α : Type} {size : Nat} {f : α → List Value} {w w' : World} {lo hi n : Nat} {A : Option Addr} {l : List α}

theorem Sl.tight (h : Sl size f w lo hi A n l) (c : Nat) : Sl size f w (spanOf (A, n, c)).1 (spanOf (A, n, c)).2 A n l := by
  rcases Nat.eq_zero_or_pos n with rfl | hn
  · exact ⟨h.1, fun h0 => absurd h0 (by omega)⟩
  · obtain ⟨b, off, rfl, g1, g2, g3, hc⟩ := h.at_ hn
    rw [spanOf_pos b off c hn]
    exact ⟨h.1, fun _ => ⟨b, off, rfl, Nat.le_refl _, Nat.lt_succ_self _, g3, hc⟩⟩

theorem Sl.span (h : Sl size f w lo hi A n l) (c : Nat) : spanOf (A, n, c) = (0, 0) ∨ (lo ≤ (spanOf (A, n, c)).1 ∧ (spanOf (A, n, c)).2 ≤ hi ∧ (spanOf (A, n, c)).2 ≤ w.heap.size) := by
  rcases Nat.eq_zero_or_pos n with rfl | hn
  · exact .inl rfl
  · obtain ⟨b, off, rfl, g1, g2, g3, hc⟩ := h.at_ hn
    rw [spanOf_pos b off c hn]
    exact .inr ⟨g1, g2, g3⟩

theorem Sl.loose {c : Nat} (h : Sl size f w (spanOf (A, n, c)).1 (spanOf (A, n, c)).2 A n l) (hs : spanOf (A, n, c) = (0, 0) ∨ (lo ≤ (spanOf (A, n, c)).1 ∧ (spanOf (A, n, c)).2 ≤ hi)) : Sl size f w lo hi A n l := by
  rcases Nat.eq_zero_or_pos n with rfl | hn
  · exact ⟨h.1, fun h0 => absurd h0 (by omega)⟩
  · obtain ⟨b, off, rfl, g1, g2, g3, hc⟩ := h.at_ hn
    rw [spanOf_pos b off c hn] at hs
    rcases hs with hs | hs
    · simp at hs
    · exact ⟨h.1, fun _ => ⟨b, off, rfl, hs.1, by have := hs.2; show b < hi; simp at this; omega, g3, hc⟩⟩

theorem Sl.keepB (h : Sl size f w lo hi A n l) (hs : w.heap.size ≤ w'.heap.size) (hk : ∀ b off, 0 < n → A = some ⟨b, off, none⟩ → lo ≤ b → b < w.heap.size → w'.heap[b]? = w.heap[b]?) : Sl size f w' lo hi A n l := by
  rcases Nat.eq_zero_or_pos n with rfl | hn
  · exact ⟨h.1, fun h0 => absurd h0 (by omega)⟩
  · have ht := h.tight 0
    obtain ⟨b, off, rfl, g1, g2, g3, _⟩ := h.at_ hn
    have e := spanOf_pos b off 0 hn
    exact (ht.keep hs fun b' h1 h2 h3 => by
      rw [e] at h1 h2
      simp at h1 h2
      have : b' = b := by omega
      subst this
      exact hk b' off hn rfl g1 h3).loose (c := 0) (.inr (by rw [e]; exact ⟨g1, g2⟩))

theorem Sl.onlyS (h : Sl size f w lo hi A n l) {x : Nat × Nat} (g : Only x.1 x.2 w w') {c : Nat} (hd : offS (spanOf (A, n, c)) x) : Sl size f w' lo hi A n l :=
  h.keepB g.size fun b off hn e _ hb => g.block b hb (by
    subst e
    rw [spanOf_pos b off c hn] at hd
    rcases hd with hd | hd
    · exact .inl (by simp at hd; omega)
    · exact .inr hd)
end

/-- The slice value `.slice A n c` holds handles, and each handle its own list. -/
structure Nest {α : Type} (size : Nat) (f : α → List Value) (w : World) (lo hi : Nat) (A : Option Addr) (n : Nat) (R : List (Hd × List α)) : Prop where
  outer : Sl 1 sv w lo hi A n (R.map (·.1))
  rows : ∀ r ∈ R, Sl size f w lo hi r.1.1 r.1.2.1 r.2 ∧ r.1.2.1 ≤ 1048576
  apart : R.Pairwise fun r s => offS (spanOf r.1) (spanOf s.1)
  away : ∀ r ∈ R, offS (spanOf (A, n, 0)) (spanOf r.1)

section
variable {α : Type} {size : Nat} {f : α → List Value} {w w' : World} {lo hi n : Nat} {A : Option Addr} {R : List (Hd × List α)}

theorem Nest.len (h : Nest size f w lo hi A n R) : R.length = n := by have := h.outer.len; rwa [List.length_map] at this
theorem Nest.nil_ : Nest size f w lo hi A 0 ([] : List (Hd × List α)) := ⟨Sl.nil_, fun _ h => (List.not_mem_nil h).elim, List.Pairwise.nil, fun _ h => (List.not_mem_nil h).elim⟩
theorem Nest.keep (h : Nest size f w lo hi A n R) (hs : w.heap.size ≤ w'.heap.size) (hk : ∀ b, lo ≤ b → b < hi → b < w.heap.size → w'.heap[b]? = w.heap[b]?) : Nest size f w' lo hi A n R :=
  ⟨h.outer.keep hs hk, fun r hr => ⟨(h.rows r hr).1.keep hs hk, (h.rows r hr).2⟩, h.apart, h.away⟩
theorem Nest.below {B : Nat} (h : Nest size f w lo hi A n R) (hb : Below B w w') (hB : hi ≤ B ∨ w.heap.size ≤ B) : Nest size f w' lo hi A n R :=
  h.keep hb.size fun b _ h2 h3 => hb.block b (by omega)
theorem Nest.only {lo' hi' : Nat} (h : Nest size f w lo hi A n R) (g : Only lo' hi' w w') (hd : hi ≤ lo' ∨ hi' ≤ lo) : Nest size f w' lo hi A n R :=
  h.keep g.size fun b h1 h2 h3 => g.block b h3 (by omega)
theorem Nest.more {lo' hi' : Nat} (h : Nest size f w lo hi A n R) (h1 : lo' ≤ lo) (h2 : hi ≤ hi') : Nest size f w lo' hi' A n R :=
  ⟨h.outer.more h1 h2, fun r hr => ⟨(h.rows r hr).1.more h1 h2, (h.rows r hr).2⟩, h.apart, h.away⟩
theorem Nest.top (h : Nest size f w lo hi A n R) : Nest size f w lo w.heap.size A n R :=
  ⟨h.outer.top, fun r hr => ⟨(h.rows r hr).1.top, (h.rows r hr).2⟩, h.apart, h.away⟩
theorem Nest.drewN (h : Nest size f w lo hi A n R) (k : Nat) : Nest size f (w.drewN k) lo hi A n R := h.keep (Nat.le_refl _) fun _ _ _ _ => rfl

theorem Nest.get (h : Nest size f w lo hi A n R) {k : Nat} (hk : k < n) :
    ∃ b off Ah nh ch s, A = some ⟨b, off, none⟩ ∧ lo ≤ b ∧ b < hi ∧ b < w.heap.size ∧ R[k]? = some ((Ah, nh, ch), s) ∧ w.cell? ⟨b, off + k, none⟩ = some (.slice Ah nh ch) ∧ w.frozen? ⟨b, off + k, none⟩ = false ∧ Sl size f w lo hi Ah nh s ∧ nh ≤ 1048576 := by
  obtain ⟨b, off, e, g1, g2, g3, hc⟩ := h.outer.at_ (by omega)
  have hkl : k < R.length := by rw [h.len]; exact hk
  obtain ⟨⟨⟨Ah, nh, ch⟩, s⟩, hr⟩ : ∃ r, R[k]? = some r := ⟨_, List.getElem?_eq_getElem hkl⟩
  have h0 := hc k (Ah, nh, ch) (by rw [List.getElem?_map, hr]; rfl) 0 _ rfl
  simp only [Nat.mul_one, Nat.add_zero] at h0
  have h1 := h.rows _ (List.mem_of_getElem? hr)
  exact ⟨b, off, Ah, nh, ch, s, e, g1, g2, g3, hr, h0.1, h0.2, h1.1, h1.2⟩

theorem pairwise_at {β : Type} {p : β → β → Prop} (hp : ∀ x y, p x y → p y x) {R : List β} (h : R.Pairwise p) {i j : Nat} {x y : β} (hi : R[i]? = some x) (hj : R[j]? = some y) (hne : i ≠ j) : p x y := by
  obtain ⟨hi', rfl⟩ := List.getElem?_eq_some_iff.1 hi
  obtain ⟨hj', rfl⟩ := List.getElem?_eq_some_iff.1 hj
  rcases Nat.lt_or_ge i j with hlt | hge
  · exact List.pairwise_iff_getElem.1 h i j hi' hj' hlt
  · exact hp _ _ (List.pairwise_iff_getElem.1 h j i hj' hi' (by omega))

/-- One row written anew, nothing else touched. -/
theorem Nest.put (h : Nest size f w lo hi A n R) {k : Nat} {Ah : Option Addr} {nh ch : Nat} {s s' : List α} (hr : R[k]? = some ((Ah, nh, ch), s))
    (g : Only (spanOf (Ah, nh, ch)).1 (spanOf (Ah, nh, ch)).2 w w') (hs : Sl size f w' (spanOf (Ah, nh, ch)).1 (spanOf (Ah, nh, ch)).2 Ah nh s') :
    Nest size f w' lo hi A n (R.set k ((Ah, nh, ch), s')) ∧ Only lo hi w w' := by
  have hk : k < R.length := (List.getElem?_eq_some_iff.1 hr).1
  have hm := List.mem_of_getElem? hr
  have e : (R.set k ((Ah, nh, ch), s')).map (·.1) = R.map (·.1) := by
    apply List.ext_getElem?
    intro i
    rw [List.getElem?_map, List.getElem?_map]
    by_cases hi : k = i
    · subst hi
      rw [List.getElem?_set_self hk, hr]
      rfl
    · rw [List.getElem?_set_ne hi]
  have h1 : Sl size f w lo hi Ah nh s ∧ nh ≤ 1048576 := h.rows _ hm
  refine ⟨⟨by rw [e]; exact h.outer.onlyS g (h.away _ hm), fun r hr' => ?_, ?_, fun r hr' => ?_⟩, ⟨g.os, g.tape, g.output, g.size, fun b hb ho => g.block b hb ?_⟩⟩
  · obtain ⟨i, hi⟩ := List.getElem?_of_mem hr'
    by_cases hki : k = i
    · subst hki
      rw [List.getElem?_set_self hk] at hi
      cases hi
      refine ⟨hs.loose (c := ch) ?_, h1.2⟩
      rcases h1.1.span ch with h2 | h2
      · exact .inl h2
      · exact .inr ⟨h2.1, h2.2.1⟩
    · rw [List.getElem?_set_ne hki] at hi
      have h2 := h.rows r (List.mem_of_getElem? hi)
      exact ⟨h2.1.onlyS g (pairwise_at (fun _ _ => offS.symm) h.apart hi hr (Ne.symm hki)), h2.2⟩
  · have h2 : (R.map (·.1)).Pairwise (fun x y => offS (spanOf x) (spanOf y)) := List.pairwise_map.2 h.apart
    rw [← e] at h2
    exact (List.pairwise_map (R := fun x y => offS (spanOf x) (spanOf y))).1 h2
  · obtain ⟨i, hi⟩ := List.getElem?_of_mem hr'
    by_cases hki : k = i
    · subst hki
      rw [List.getElem?_set_self hk] at hi
      cases hi
      have h9 := h.away _ hm
      exact h9
    · rw [List.getElem?_set_ne hki] at hi
      exact h.away _ (List.mem_of_getElem? hi)
  · rcases h1.1.span ch with h2 | h2
    · rw [h2]
      exact .inr (Nat.zero_le _)
    · omega
end

/-- The same, the outer row of the call's own: it may grow. -/
structure NestO {α : Type} (size : Nat) (f : α → List Value) (w : World) (base : Nat) (e : TypeId) (A : Option Addr) (n c : Nat) (R : List (Hd × List α)) : Prop where
  outer : Own 1 sv w base e A n c (R.map (·.1))
  rows : ∀ r ∈ R, Sl size f w base w.heap.size r.1.1 r.1.2.1 r.2 ∧ r.1.2.1 ≤ 1048576
  apart : R.Pairwise fun r s => offS (spanOf r.1) (spanOf s.1)
  away : ∀ r ∈ R, ∀ g, (Value.slice A n c).ownBlock = some g → offS (g, g + 1) (spanOf r.1)

section
variable {α : Type} {size : Nat} {f : α → List Value} {w w' : World} {base n c : Nat} {e : TypeId} {A : Option Addr} {R : List (Hd × List α)}

theorem NestO.len (h : NestO size f w base e A n c R) : R.length = n := by have := h.outer.len; rwa [List.length_map] at this
theorem NestO.nil_ (w : World) (base : Nat) (e : TypeId) : NestO size f w base e none 0 0 ([] : List (Hd × List α)) := ⟨Own.nil_ _ _ _, fun _ h => (List.not_mem_nil h).elim, List.Pairwise.nil, fun _ h => (List.not_mem_nil h).elim⟩
theorem NestO.made (w : World) {base : Nat} (e : TypeId) (hb : base ≤ w.heap.size) : NestO size f (w.alloc (.cells #[] e)) base e (some ⟨w.heap.size, 0, none⟩) 0 0 ([] : List (Hd × List α)) :=
  ⟨Own.made w e hb, fun _ h => (List.not_mem_nil h).elim, List.Pairwise.nil, fun _ h => (List.not_mem_nil h).elim⟩
theorem NestO.keep (h : NestO size f w base e A n c R) (hs : w.heap.size ≤ w'.heap.size) (hk : ∀ b, base ≤ b → b < w.heap.size → w'.heap[b]? = w.heap[b]?) : NestO size f w' base e A n c R :=
  ⟨h.outer.keep fun g hg => hk g (h.outer.lt g hg).1 (h.outer.lt g hg).2, fun r hr => ⟨((h.rows r hr).1.keep hs fun b h1 _ h3 => hk b h1 h3).more (Nat.le_refl _) hs, (h.rows r hr).2⟩, h.apart, h.away⟩
theorem NestO.below {B : Nat} (h : NestO size f w base e A n c R) (hb : Below B w w') (hB : w.heap.size ≤ B) : NestO size f w' base e A n c R := h.keep hb.size fun b _ h2 => hb.block b (by omega)

/-- One more row, which was made after the outer one. -/
theorem NestO.push {w0 w2 : World} (h : NestO size f w0 base e A n c R) (hb : Below w0.heap.size w0 w) {Ah : Option Addr} {nh ch : Nat} {s : List α} (x : Sl size f w w0.heap.size w.heap.size Ah nh s) (hn : nh ≤ 1048576)
    {A' : Option Addr} {c' : Nat} (hO : Own 1 sv w2 base e A' (n + 1) c' (R.map (·.1) ++ [(Ah, nh, ch)])) (hg : w.grownBy w2 (Value.slice A n c).ownBlock)
    (hne : (Value.slice A' (n + 1) c').ownBlock = (Value.slice A n c).ownBlock ∨ (Value.slice A' (n + 1) c').ownBlock = some w.heap.size) (hbase : base ≤ w0.heap.size) :
    NestO size f w2 base e A' (n + 1) c' (R ++ [((Ah, nh, ch), s)]) := by
  have hz := hb.size
  have hz2 := hg.size
  have hold : ∀ r ∈ R, spanOf r.1 = (0, 0) ∨ (base ≤ (spanOf r.1).1 ∧ (spanOf r.1).2 ≤ w0.heap.size) := fun r hr => by
    rcases (h.rows r hr).1.span r.1.2.2 with h1 | h1
    · exact .inl h1
    · exact .inr ⟨h1.1, h1.2.1⟩
  have hnew : spanOf (Ah, nh, ch) = (0, 0) ∨ (w0.heap.size ≤ (spanOf (Ah, nh, ch)).1 ∧ (spanOf (Ah, nh, ch)).2 ≤ w.heap.size) := by
    rcases x.span ch with h1 | h1
    · exact .inl h1
    · exact .inr ⟨h1.1, h1.2.1⟩
  refine ⟨by rw [List.map_append]; exact hO, fun r hr => ?_, List.pairwise_append.2 ⟨h.apart, List.pairwise_singleton _ _, fun r hr q hq => ?_⟩, fun r hr g hgq => ?_⟩
  · rcases List.mem_append.1 hr with hr | hr
    · have h1 := h.rows r hr
      refine ⟨(((h1.1.below hb (.inr (Nat.le_refl _))).more (Nat.le_refl _) (by omega : w0.heap.size ≤ w2.heap.size)).keepB hz2 fun b off hp e1 _ hb1 => hg.block b hb1 fun e2 => ?_), h1.2⟩
      have h2 := h.away r hr b e2.symm
      have h3 : spanOf r.1 = (b, b + 1) := by
        have h4 := spanOf_pos b off r.1.2.2 hp
        rw [← e1] at h4
        exact h4
      rw [h3] at h2
      rcases h2 with h2 | h2 <;> simp at h2 <;> omega
    · rw [List.mem_singleton.1 hr]
      refine ⟨((x.more hbase (by omega : w.heap.size ≤ w2.heap.size)).keepB hz2 fun b off hp e1 _ hb1 => hg.block b hb1 fun e2 => ?_), hn⟩
      have h2 := (h.outer.lt b e2.symm).2
      have h3 := spanOf_pos b off ch hp
      rw [← e1] at h3
      rw [h3] at hnew
      simp at hnew
      omega
  · rw [List.mem_singleton.1 hq]
    rcases hold r hr with h1 | h1
    · rw [h1]; exact .inl (Nat.zero_le _)
    · rcases hnew with h2 | h2
      · rw [h2]; exact .inr (Nat.zero_le _)
      · exact .inl (by show (spanOf r.1).2 ≤ (spanOf (Ah, nh, ch)).1; omega)
  · rcases hne with hne | hne
    · rw [hne] at hgq
      rcases List.mem_append.1 hr with hr | hr
      · exact h.away r hr g hgq
      · rw [List.mem_singleton.1 hr]
        have h2 := (h.outer.lt g hgq).2
        rcases hnew with h3 | h3
        · rw [h3]; exact .inr (Nat.zero_le _)
        · exact .inl (by show g + 1 ≤ (spanOf (Ah, nh, ch)).1; omega)
    · rw [hne] at hgq
      injection hgq with hgq
      subst hgq
      rcases List.mem_append.1 hr with hr | hr
      · rcases hold r hr with h1 | h1
        · rw [h1]; exact .inr (Nat.zero_le _)
        · exact .inr (by show (spanOf r.1).2 ≤ w.heap.size; omega)
      · rw [List.mem_singleton.1 hr]
        rcases hnew with h3 | h3
        · rw [h3]; exact .inr (Nat.zero_le _)
        · exact .inr h3.2
end

/-- How many elements the first k handles have. -/
def preH (H : List Hd) (k : Nat) : Nat := ((H.take k).map (·.2.1)).sum
/-- The first k rows hold their marks. -/
def MarkedK {α : Type} (mk : Int → α) (step : Nat) (m : Int) (k : Nat) (R : List (Hd × List α)) : Prop :=
  ∀ (i : Nat) (r : Hd × List α), i < k → R[i]? = some r → ∀ j : Nat, j < r.1.2.1 → r.2[j]? = some (mk (m + step * (preH (R.map (·.1)) i + j : Nat)))
theorem MarkedK.zero {α : Type} (mk : Int → α) (step : Nat) (m : Int) (R : List (Hd × List α)) : MarkedK mk step m 0 R := fun i r hi => absurd hi (by omega)
theorem handles_set {α : Type} {R : List (Hd × List α)} {k : Nat} {h : Hd} {s s' : List α} (hr : R[k]? = some (h, s)) : (R.set k (h, s')).map (·.1) = R.map (·.1) := by
  apply List.ext_getElem?
  intro i
  rw [List.getElem?_map, List.getElem?_map]
  by_cases hi : k = i
  · subst hi
    rw [List.getElem?_set_self (List.getElem?_eq_some_iff.1 hr).1, hr]
    rfl
  · rw [List.getElem?_set_ne hi]
theorem MarkedK.step {α : Type} {mk : Int → α} {step : Nat} {m : Int} {k : Nat} {R : List (Hd × List α)} (h : MarkedK mk step m k R) {Ah : Option Addr} {nh ch : Nat} {s s' : List α} (hr : R[k]? = some ((Ah, nh, ch), s))
    (hs : ∀ j : Nat, j < nh → s'[j]? = some (mk (m + step * (preH (R.map (·.1)) k + j : Nat)))) : MarkedK mk step m (k + 1) (R.set k ((Ah, nh, ch), s')) := by
  intro i r hi hr' j hj
  rw [handles_set hr]
  by_cases hki : k = i
  · subst hki
    rw [List.getElem?_set_self (List.getElem?_eq_some_iff.1 hr).1] at hr'
    cases hr'
    exact hs j hj
  · rw [List.getElem?_set_ne hki] at hr'
    exact h i r (by omega) hr' j hj

end Go.Proofs.YtnhomkmfbngmgaaGreatDoor

namespace Go.Proofs.YtnhomkmfbngmgaaGreatDoor
open Go.RowKit

theorem Only.trans {lo hi : Nat} {a b c : World} (h : Only lo hi a b) (g : Only lo hi b c) : Only lo hi a c :=
  ⟨g.os.trans h.os, g.tape.trans h.tape, g.output.trans h.output, Nat.le_trans h.size g.size, fun k hb hc => (g.block k (Nat.lt_of_lt_of_le hb h.size) hc).trans (h.block k hb hc)⟩
theorem Only.more {lo hi lo' hi' : Nat} {a b : World} (h : Only lo hi a b) (h1 : lo' ≤ lo) (h2 : hi ≤ hi') : Only lo' hi' a b :=
  ⟨h.os, h.tape, h.output, h.size, fun k hb hc => h.block k hb (by omega)⟩
/-- The words for a span from within a larger one. -/
theorem Only.span {lo hi : Nat} {a b : World} {x : Nat × Nat} (h : Only x.1 x.2 a b) (hs : x = (0, 0) ∨ (lo ≤ x.1 ∧ x.2 ≤ hi)) : Only lo hi a b :=
  ⟨h.os, h.tape, h.output, h.size, fun k hb hc => h.block k hb (by
    rcases hs with hs | hs
    · rw [hs]; exact .inr (Nat.zero_le _)
    · omega)⟩

/-- A list of elements, each with what its handle holds; all of it in [lo, hi). Nothing is said of different rows. -/
structure RowsG {β α : Type} (hd : β → Hd) (osz : Nat) (g : β → List Value) (size : Nat) (f : α → List Value) (most : Nat) (w : World) (lo hi : Nat) (A : Option Addr) (n : Nat) (R : List (β × List α)) : Prop where
  outer : Sl osz g w lo hi A n (R.map (·.1))
  rows : ∀ r ∈ R, Sl size f w lo hi (hd r.1).1 (hd r.1).2.1 r.2 ∧ (hd r.1).2.1 ≤ most

/-- The same, all rows in different blocks. -/
structure NestG {β α : Type} (hd : β → Hd) (osz : Nat) (g : β → List Value) (size : Nat) (f : α → List Value) (w : World) (lo hi : Nat) (A : Option Addr) (n : Nat) (R : List (β × List α)) : Prop where
  all : RowsG hd osz g size f 1048576 w lo hi A n R
  apart : R.Pairwise fun r s => offS (spanOf (hd r.1)) (spanOf (hd s.1))
  away : ∀ r ∈ R, offS (spanOf (A, n, 0)) (spanOf (hd r.1))

section
variable {β α : Type} {hd : β → Hd} {osz : Nat} {g : β → List Value} {size most : Nat} {f : α → List Value} {w w' : World} {lo hi n : Nat} {A : Option Addr} {R : List (β × List α)}

theorem RowsG.len (h : RowsG hd osz g size f most w lo hi A n R) : R.length = n := by have := h.outer.len; rwa [List.length_map] at this
theorem RowsG.nil_ : RowsG hd osz g size f most w lo hi A 0 ([] : List (β × List α)) := ⟨Sl.nil_, fun _ h => (List.not_mem_nil h).elim⟩
theorem RowsG.keep (h : RowsG hd osz g size f most w lo hi A n R) (hs : w.heap.size ≤ w'.heap.size) (hk : ∀ b, lo ≤ b → b < hi → b < w.heap.size → w'.heap[b]? = w.heap[b]?) : RowsG hd osz g size f most w' lo hi A n R :=
  ⟨h.outer.keep hs hk, fun r hr => ⟨(h.rows r hr).1.keep hs hk, (h.rows r hr).2⟩⟩
theorem RowsG.below {B : Nat} (h : RowsG hd osz g size f most w lo hi A n R) (hb : Below B w w') (hB : hi ≤ B ∨ w.heap.size ≤ B) : RowsG hd osz g size f most w' lo hi A n R :=
  h.keep hb.size fun b _ h2 h3 => hb.block b (by omega)
theorem RowsG.only {lo' hi' : Nat} (h : RowsG hd osz g size f most w lo hi A n R) (o : Only lo' hi' w w') (hd' : hi ≤ lo' ∨ hi' ≤ lo) : RowsG hd osz g size f most w' lo hi A n R :=
  h.keep o.size fun b h1 h2 h3 => o.block b h3 (by omega)
theorem RowsG.more {lo' hi' : Nat} (h : RowsG hd osz g size f most w lo hi A n R) (h1 : lo' ≤ lo) (h2 : hi ≤ hi') : RowsG hd osz g size f most w lo' hi' A n R :=
  ⟨h.outer.more h1 h2, fun r hr => ⟨(h.rows r hr).1.more h1 h2, (h.rows r hr).2⟩⟩
theorem RowsG.top (h : RowsG hd osz g size f most w lo hi A n R) : RowsG hd osz g size f most w lo w.heap.size A n R := ⟨h.outer.top, fun r hr => ⟨(h.rows r hr).1.top, (h.rows r hr).2⟩⟩
/-- Element k. -/
theorem RowsG.get (h : RowsG hd osz g size f most w lo hi A n R) {k : Nat} (hk : k < n) :
    ∃ b off x s, A = some ⟨b, off, none⟩ ∧ lo ≤ b ∧ b < hi ∧ b < w.heap.size ∧ R[k]? = some (x, s) ∧
      (∀ (j : Nat) (u : Value), (g x)[j]? = some u → w.cell? ⟨b, off + (k * osz + j), none⟩ = some u ∧ w.frozen? ⟨b, off + (k * osz + j), none⟩ = false) ∧ Sl size f w lo hi (hd x).1 (hd x).2.1 s ∧ (hd x).2.1 ≤ most := by
  obtain ⟨b, off, e, g1, g2, g3, hc⟩ := h.outer.at_ (by omega)
  have hkl : k < R.length := by rw [h.len]; exact hk
  obtain ⟨⟨x, s⟩, hr⟩ : ∃ r, R[k]? = some r := ⟨_, List.getElem?_eq_getElem hkl⟩
  have h1 := h.rows _ (List.mem_of_getElem? hr)
  exact ⟨b, off, x, s, e, g1, g2, g3, hr, hc k x (by rw [List.getElem?_map, hr]; rfl), h1.1, h1.2⟩

theorem NestG.len (h : NestG hd osz g size f w lo hi A n R) : R.length = n := h.all.len
theorem NestG.nil_ : NestG hd osz g size f w lo hi A 0 ([] : List (β × List α)) := ⟨RowsG.nil_, List.Pairwise.nil, fun _ h => (List.not_mem_nil h).elim⟩
theorem NestG.keep (h : NestG hd osz g size f w lo hi A n R) (hs : w.heap.size ≤ w'.heap.size) (hk : ∀ b, lo ≤ b → b < hi → b < w.heap.size → w'.heap[b]? = w.heap[b]?) : NestG hd osz g size f w' lo hi A n R := ⟨h.all.keep hs hk, h.apart, h.away⟩
theorem NestG.below {B : Nat} (h : NestG hd osz g size f w lo hi A n R) (hb : Below B w w') (hB : hi ≤ B ∨ w.heap.size ≤ B) : NestG hd osz g size f w' lo hi A n R := ⟨h.all.below hb hB, h.apart, h.away⟩
theorem NestG.only {lo' hi' : Nat} (h : NestG hd osz g size f w lo hi A n R) (o : Only lo' hi' w w') (hd' : hi ≤ lo' ∨ hi' ≤ lo) : NestG hd osz g size f w' lo hi A n R := ⟨h.all.only o hd', h.apart, h.away⟩
theorem NestG.more {lo' hi' : Nat} (h : NestG hd osz g size f w lo hi A n R) (h1 : lo' ≤ lo) (h2 : hi ≤ hi') : NestG hd osz g size f w lo' hi' A n R := ⟨h.all.more h1 h2, h.apart, h.away⟩
theorem NestG.top (h : NestG hd osz g size f w lo hi A n R) : NestG hd osz g size f w lo w.heap.size A n R := ⟨h.all.top, h.apart, h.away⟩

/-- What element k's handle holds written anew, nothing else touched. -/
theorem NestG.put (h : NestG hd osz g size f w lo hi A n R) {k : Nat} {x : β} {s s' : List α} (hr : R[k]? = some (x, s))
    (o : Only (spanOf (hd x)).1 (spanOf (hd x)).2 w w') (hs : Sl size f w' (spanOf (hd x)).1 (spanOf (hd x)).2 (hd x).1 (hd x).2.1 s') :
    NestG hd osz g size f w' lo hi A n (R.set k (x, s')) ∧ Only lo hi w w' := by
  have hk : k < R.length := (List.getElem?_eq_some_iff.1 hr).1
  have hm := List.mem_of_getElem? hr
  have e : (R.set k (x, s')).map (·.1) = R.map (·.1) := by
    apply List.ext_getElem?
    intro i
    rw [List.getElem?_map, List.getElem?_map]
    by_cases hi : k = i
    · subst hi
      rw [List.getElem?_set_self hk, hr]
      rfl
    · rw [List.getElem?_set_ne hi]
  have h1 : Sl size f w lo hi (hd x).1 (hd x).2.1 s ∧ (hd x).2.1 ≤ 1048576 := h.all.rows _ hm
  have hsp : spanOf (hd x) = (0, 0) ∨ (lo ≤ (spanOf (hd x)).1 ∧ (spanOf (hd x)).2 ≤ hi ∧ (spanOf (hd x)).2 ≤ w.heap.size) := h1.1.span (hd x).2.2
  refine ⟨⟨⟨by rw [e]; exact h.all.outer.onlyS (c := 0) o (h.away _ hm), fun r hr' => ?_⟩, ?_, fun r hr' => ?_⟩, o.span (by rcases hsp with h2 | h2; exact .inl h2; exact .inr ⟨h2.1, h2.2.1⟩)⟩
  · obtain ⟨i, hi⟩ := List.getElem?_of_mem hr'
    by_cases hki : k = i
    · subst hki
      rw [List.getElem?_set_self hk] at hi
      cases hi
      refine ⟨Sl.loose (c := (hd x).2.2) hs ?_, h1.2⟩
      rcases hsp with h2 | h2
      · exact .inl h2
      · exact .inr ⟨h2.1, h2.2.1⟩
    · rw [List.getElem?_set_ne hki] at hi
      have h2 := h.all.rows r (List.mem_of_getElem? hi)
      exact ⟨h2.1.onlyS (c := (hd r.1).2.2) o (pairwise_at (fun _ _ => offS.symm) h.apart hi hr (Ne.symm hki)), h2.2⟩
  · have h2 : (R.map (·.1)).Pairwise (fun x y => offS (spanOf (hd x)) (spanOf (hd y))) := List.pairwise_map.2 h.apart
    rw [← e] at h2
    exact (List.pairwise_map (R := fun x y => offS (spanOf (hd x)) (spanOf (hd y)))).1 h2
  · obtain ⟨i, hi⟩ := List.getElem?_of_mem hr'
    by_cases hki : k = i
    · subst hki
      rw [List.getElem?_set_self hk] at hi
      cases hi
      have h9 := h.away _ hm
      exact h9
    · rw [List.getElem?_set_ne hki] at hi
      exact h.away _ (List.mem_of_getElem? hi)

end

/-- A row of elements being made in block B, the first k laid, each handle's row made after it. -/
structure NestF {β α : Type} (hd : β → Hd) (osz : Nat) (g : β → List Value) (size : Nat) (f : α → List Value) (w : World) (B : Nat) (t : TypeId) (n k : Nat) (R : List (β × List α)) : Prop where
  len : R.length = k
  fill : Fill osz g w B t n k (R.map (·.1))
  rows : ∀ r ∈ R, Sl size f w (B + 1) w.heap.size (hd r.1).1 (hd r.1).2.1 r.2 ∧ (hd r.1).2.1 ≤ 1048576
  apart : R.Pairwise fun r s => offS (spanOf (hd r.1)) (spanOf (hd s.1))

section
variable {β α : Type} {hd : β → Hd} {osz : Nat} {g : β → List Value} {size : Nat} {f : α → List Value} {w w1 w2 : World} {B n k : Nat} {t : TypeId} {R : List (β × List α)}

theorem NestF.start (w : World) (t : TypeId) (cur : Array Value) (n : Nat) (hs : cur.size = n * osz) : NestF hd osz g size f (w.alloc (.cells cur t)) w.heap.size t n 0 ([] : List (β × List α)) :=
  ⟨rfl, Fill.start w t cur n hs, fun _ h => (List.not_mem_nil h).elim, List.Pairwise.nil⟩

/-- A row was made: the new element's. -/
theorem NestF.keep (h : NestF hd osz g size f w B t n k R) (hb : Below w.heap.size w w1) : NestF hd osz g size f w1 B t n k R :=
  ⟨h.len, h.fill.keep (hb.block _ h.fill.lt), fun r hr => ⟨((h.rows r hr).1.below hb (.inr (Nat.le_refl _))).more (Nat.le_refl _) hb.size, (h.rows r hr).2⟩, h.apart⟩

/-- One more element, whose row was made just now (between w and w1), laid in B. -/
theorem NestF.push (h : NestF hd osz g size f w B t n k R) (hb : Below w.heap.size w w1) {x : β} {s : List α} (hx : Sl size f w1 w.heap.size w1.heap.size (hd x).1 (hd x).2.1 s) (hn : (hd x).2.1 ≤ 1048576)
    (ho : Only B (B + 1) w1 w2) (hf : Fill osz g w2 B t n (k + 1) ((R.map (·.1)) ++ [x])) : NestF hd osz g size f w2 B t n (k + 1) (R ++ [(x, s)]) := by
  have hlt := h.fill.lt
  have hz := hb.size
  have hz2 := ho.size
  have h1 := h.keep hb
  refine ⟨by rw [List.length_append, h.len]; rfl, by rw [List.map_append]; exact hf, fun r hr => ?_, List.pairwise_append.2 ⟨h.apart, List.pairwise_singleton _ _, fun r hr q hq => ?_⟩⟩
  · rcases List.mem_append.1 hr with hr | hr
    · have h2 := h1.rows r hr
      exact ⟨(h2.1.only ho (.inr (Nat.le_refl _))).more (Nat.le_refl _) hz2, h2.2⟩
    · rw [List.mem_singleton.1 hr]
      exact ⟨(hx.only ho (.inr (by omega))).more (by omega) hz2, hn⟩
  · rw [List.mem_singleton.1 hq]
    have h2 := (h.rows r hr).1.span (hd r.1).2.2
    have h3 := hx.span (hd x).2.2
    show offS (spanOf (hd r.1)) (spanOf (hd x))
    rcases h2 with h2 | h2
    · have h2 : spanOf (hd r.1) = (0, 0) := h2
      rw [h2]; exact .inl (Nat.zero_le _)
    · rcases h3 with h3 | h3
      · have h3 : spanOf (hd x) = (0, 0) := h3
        rw [h3]; exact .inr (Nat.zero_le _)
      · exact .inl (Nat.le_trans h2.2.2 h3.1)

theorem NestF.done (h : NestF hd osz g size f w B t n n R) : NestG hd osz g size f w B w.heap.size (some ⟨B, 0, none⟩) n R := by
  have hlt := h.fill.lt
  refine ⟨⟨h.fill.done (by rw [List.length_map, h.len]) (Nat.le_refl _) hlt, fun r hr => ⟨(h.rows r hr).1.more (Nat.le_succ _) (Nat.le_refl _), (h.rows r hr).2⟩⟩, h.apart, fun r hr => ?_⟩
  rcases Nat.eq_zero_or_pos n with rfl | hn
  · rw [spanOf_zero]; exact .inl (Nat.zero_le _)
  · rw [spanOf_pos B 0 0 hn]
    have h2 := (h.rows r hr).1.span (hd r.1).2.2
    rcases h2 with h2 | h2
    · have h2 : spanOf (hd r.1) = (0, 0) := h2
      rw [h2]; exact .inr (Nat.zero_le _)
    · exact .inl h2.1
end

end Go.Proofs.YtnhomkmfbngmgaaGreatDoor

namespace Go.Proofs.YtnhomkmfbngmgaaGreatDoor
open Go.ChangeShapes Go.WideShapes Go.ChangeAt Go.RowKit Go.Deep
set_option linter.unusedVariables false

/-- What a size helper leaves. -/
def szLeft (left : Int) (tot : Nat) : Int := if left < tot then -1 else left - tot
theorem szLeft_big {left : Int} {tot : Nat} (h : left < tot) : szLeft left tot = -1 := if_pos h
theorem szLeft_fits {left : Int} {tot : Nat} (h : ¬ left < tot) : szLeft left tot = left - tot := if_neg h

def ArgI (w : World) (lo hi : Nat) (v : Value) (d : List Int) : Prop := ∃ A n c, v = .slice A n c ∧ n ≤ maxLen ∧ SlI w lo hi A n d
section
variable {w w' : World} {lo hi lo' hi' B : Nat} {v : Value} {d : List Int}
theorem ArgI.shape (h : ArgI w lo hi v d) : ∃ A n c, v = .slice A n c := by obtain ⟨A, n, c, h1, _⟩ := h; exact ⟨A, n, c, h1⟩
theorem ArgI.below (h : ArgI w lo hi v d) (hb : Below B w w') (hB : hi ≤ B ∨ w.heap.size ≤ B) : ArgI w' lo hi v d := by
  obtain ⟨A, n, c, h1, h2, h3⟩ := h
  exact ⟨A, n, c, h1, h2, h3.below hb hB⟩
theorem ArgI.more (h : ArgI w lo hi v d) (h1 : lo' ≤ lo) (h2 : hi ≤ hi') : ArgI w lo' hi' v d := by
  obtain ⟨A, n, c, q1, q2, q3⟩ := h
  exact ⟨A, n, c, q1, q2, q3.more h1 h2⟩
theorem ArgI.only (h : ArgI w lo hi v d) (g : Only lo' hi' w w') (hd : hi ≤ lo' ∨ hi' ≤ lo) : ArgI w' lo hi v d := by
  obtain ⟨A, n, c, h1, h2, h3⟩ := h
  exact ⟨A, n, c, h1, h2, h3.only g hd⟩
end

theorem szInt64S_calls (A : Option Addr) (n c : Nat) (left : Int) (w : World) (hn : n ≤ maxLen) (h0 : 0 ≤ left) (h1 : left ≤ 1048576) :
    Calls Tryz.prog 66 #[.slice A n c, .int .i64 left] w fun e w' => e = .returned (.int .i64 (szLeft left n)) ∧ w = w' := by
  unfold maxLen at hn
  by_cases h : left < n
  · go_enter Tryz.func66, Tryz.ntmps66
    go_wp2
    go_ret
    exact ⟨by rw [szLeft_big h]; rfl, rfl⟩
  · go_enter Tryz.func66, Tryz.ntmps66
    go_wp2
    go_ret
    exact ⟨by rw [szLeft_fits (by omega)]; rfl, rfl⟩
theorem toInt64S_a {v : Value} {d : List Int} {w : World} {lo hi : Nat} (h : ArgI w lo hi v d) (ht : d.length ≤ 1048576) :
    Calls Tryz.prog 70 #[v] w fun e w' => ∃ v', e = .returned v' ∧ ArgI w' w.heap.size w'.heap.size v' d ∧ Below w.heap.size w w' := by
  obtain ⟨A, n, c, rfl, h2, h3⟩ := h
  have hl := h3.len
  refine (toInt64S_calls A n c d w lo hi h3 (by omega)).mono ?_
  rintro e w' ⟨A', rfl, hb, hs⟩
  exact ⟨_, rfl, ⟨A', n, n, rfl, h2, hs⟩, hb⟩
theorem eqInt64S_a {v u : Value} {d e : List Int} {w : World} {lo hi lo' hi' : Nat} (h : ArgI w lo hi v d) (g : ArgI w lo' hi' u e) (hs : d.length ≤ 1048576) (gs : e.length ≤ 1048576) :
    Calls Tryz.prog 75 #[v, u] w fun r w' => r = .returned (.bool (decide (d = e))) ∧ Below w.heap.size w w' := by
  obtain ⟨A, n, c, rfl, h1, h2⟩ := h
  obtain ⟨B, m, b, rfl, g1, g2⟩ := g
  exact eqInt64S_calls A B n m c b d e w lo hi lo' hi' h2 g2 h1 g1

section
variable {H : Type} {enc : TypeId × Value → H} {P : Program} {w : World} {base : Nat} {spare : Nat → Bool} {held : Bool}
/-- One field of a struct whose fields are a cell each. -/
theorem field1 {t : TypeId} {fs : Array Field} (hs : P.underlying t = some (.struct fs)) (hone : oneCellFields P fs = true) (hC : P.cellsOf t = fs.size) {fuel : Nat} {cs : List Value} {x : DataW H × List MemPlace} (h : DataW.trod enc P w base spare held fuel t cs = some x)
    (i : Nat) (f : Field) (hf : fs[i]? = some f) : ∃ (n : Nat) (c : Value) (y : DataW H × List MemPlace), cs[i]? = some c ∧ DataW.trod enc P w base spare held n f.type [c] = some y ∧ ∀ m ∈ y.2, m ∈ x.2 := by
  obtain ⟨xs, n, _, rfl, hcl, hxl, hg⟩ := DataW.trod_struct hs h
  have hi : i < fs.size := (Array.getElem?_eq_some_iff.1 hf).1
  obtain ⟨o, k⟩ := hone_of hone i f hf
  have g := hg i f hf
  rw [o, k] at g
  have hx : xs[i]? = some xs[i] := List.getElem?_eq_getElem (by omega)
  have hc : cs[i]? = some cs[i] := List.getElem?_eq_getElem (by omega)
  refine ⟨n, cs[i], xs[i], hc, ?_, fun m hm => List.mem_flatMap.2 ⟨xs[i], List.getElem_mem _, hm⟩⟩
  rw [← hx, ← g]
  congr 1
  rw [List.drop_eq_getElem_cons (by omega)]
  rfl
theorem read_I {t e : TypeId} (ht : P.underlying t = some (.slice e)) (hC : P.cellsOf e = 1) (hi : P.underlying e = some (.int .i64)) {fuel : Nat} {c : Value} {r : DataW H × List MemPlace} (h : DataW.trod enc P w base spare held fuel t [c] = some r)
    (hz : ∀ b off, MemPlace.cell b off ∈ r.2 → w.frozen? ⟨b, off, none⟩ = false) : ∃ d, ArgI w base w.heap.size c d := by
  obtain ⟨A, n, k, l, e1, e2, e3, _⟩ := open_flatQ (w := w) (base := base) (spare := spare) (held := held) iv (fun _ => True) ht hC (by omega) (fun fuel cs y hy hl _ => by
    obtain ⟨a, ea, _, _⟩ := DataW.trod_int hi hy
    exact ⟨a, ea, trivial⟩) h hz
  simp at e1
  exact ⟨l, A, n, k, e1, e2, e3⟩
end

/-- Cells written one behind the other. -/
def putCells (w : World) (b : Nat) : Nat → List Value → World
  | _, [] => w
  | off, u :: us => putCells (w.setCell ⟨b, off, none⟩ u) b (off + 1) us

theorem putCells_row (b : Nat) (t : TypeId) (us : List Value) : ∀ (w : World) (off : Nat) (cur : Array Value), w.heap[b]? = some (.cells cur t (0, 0)) →
    ∃ cur', (putCells w b off us).heap[b]? = some (.cells cur' t (0, 0)) ∧ cur'.size = cur.size ∧ (∀ i, i < off → cur'[i]? = cur[i]?) ∧ (∀ j u, us[j]? = some u → off + us.length ≤ cur.size → cur'[off + j]? = some u) := by
  induction us with
  | nil => exact fun w off cur h => ⟨cur, h, rfl, fun _ _ => rfl, fun j u hu => by simp at hu⟩
  | cons v us ih =>
    intro w off cur h
    obtain ⟨cur', h1, h2, h3, h4⟩ := ih (w.setCell ⟨b, off, none⟩ v) (off + 1) (cur.setIfInBounds off v) (heap_setCell_same w b off cur t v h)
    refine ⟨cur', h1, by rw [h2]; simp, fun i hi => ?_, fun j u hu hl => ?_⟩
    · rw [h3 i (by omega), Array.getElem?_setIfInBounds_ne (by omega)]
    · simp only [List.length_cons] at hl
      cases j with
      | zero =>
        simp at hu
        subst hu
        rw [Nat.add_zero, h3 off (by omega)]
        simp [Array.getElem?_setIfInBounds]
        omega
      | succ j =>
        simp at hu
        have := h4 j u hu (by simp; omega)
        rwa [show off + (j + 1) = off + 1 + j by omega]
/-- Element k laid by putCells. -/
theorem Fill.putN {α : Type} {size : Nat} {f : α → List Value} {w : World} {B n k : Nat} {t : TypeId} {l : List α} (h : Fill size f w B t n k l) (hk : k < n) (hlen : ∀ x, (f x).length = size) {x : α} (hx : l[k]? = some x) :
    Fill size f (putCells w B (k * size) (f x)) B t n (k + 1) l :=
  h.step hlen hx fun cur hc hs => by
    obtain ⟨cur', h1, h2, h3, h4⟩ := putCells_row B t (f x) w (k * size) cur hc
    refine ⟨cur', h1, h2, h3, fun j u hu => h4 j u hu ?_⟩
    rw [hlen x, hs]
    have := Nat.mul_le_mul_right size (show k + 1 ≤ n by omega)
    rw [Nat.add_mul] at this
    omega
/-- The first cells of an element of a row that is there written anew. -/
theorem Sl.putPre {α : Type} {size : Nat} {f : α → List Value} {w : World} {lo hi n b off : Nat} {l : List α} (h : Sl size f w lo hi (some ⟨b, off, none⟩) n l) {k : Nat} {x0 : α} (hx0 : l[k]? = some x0) (hlen : ∀ x, (f x).length = size) (x : α)
    (us : List Value) (hus : us.length ≤ size) (hpre : ∀ j u, j < us.length → (f x)[j]? = some u → us[j]? = some u) (hrest : ∀ j u, us.length ≤ j → (f x)[j]? = some u → (f x0)[j]? = some u) :
    Sl size f (putCells w b (off + k * size) us) lo hi (some ⟨b, off, none⟩) n (l.set k x) := by
  have key : ∀ (us : List Value) (W : World) (o : Nat),
      (∀ (q : Addr), (putCells W b o us).frozen? q = W.frozen? q) ∧ (putCells W b o us).heap.size = W.heap.size ∧
      (∀ i, (i < o ∨ o + us.length ≤ i) → (putCells W b o us).cell? ⟨b, i, none⟩ = W.cell? ⟨b, i, none⟩) ∧
      ((∀ j, j < us.length → ∃ v, W.cell? ⟨b, o + j, none⟩ = some v) → ∀ j u, us[j]? = some u → (putCells W b o us).cell? ⟨b, o + j, none⟩ = some u) := by
    intro us
    induction us with
    | nil => exact fun W o => ⟨fun _ => rfl, rfl, fun _ _ => rfl, fun _ j u hu => by simp at hu⟩
    | cons v us ih =>
      intro W o
      obtain ⟨i1, i2, i3, i4⟩ := ih (W.setCell ⟨b, o, none⟩ v) (o + 1)
      refine ⟨fun q => (i1 q).trans (World.frozen?_setCell W _ q v), by rw [putCells, i2, World.size_setCell], fun i hi => ?_, fun hc j u hu => ?_⟩
      · simp only [List.length_cons] at hi
        refine (i3 i (by omega)).trans (World.cell?_setCell_other _ _ _ _ (by intro e; injection e with _ e _; omega))
      · cases j with
        | zero =>
          simp at hu
          subst hu
          obtain ⟨v0, hv0⟩ := hc 0 (by simp)
          exact (i3 o (by omega)).trans (World.cell?_setCell_same _ _ _ hv0)
        | succ j =>
          simp at hu
          have := i4 (fun j hj => by
            obtain ⟨v1, hv1⟩ := hc (j + 1) (by simp; omega)
            exact ⟨v1, (World.cell?_setCell_other _ _ _ _ (by intro e; injection e with _ e _; omega)).trans (by rw [← hv1]; congr 2; omega)⟩) j u hu
          rw [show o + (j + 1) = o + 1 + j by omega]
          exact this
  obtain ⟨k1, k2, k3, k4⟩ := key us w (off + k * size)
  have hkl : k < l.length := (List.getElem?_eq_some_iff.1 hx0).1
  have hll := h.len
  refine ⟨by rw [List.length_set]; exact h.len, fun _ => ?_⟩
  obtain ⟨b', off', e, g1, g2, g3, hc⟩ := h.at_ (by omega)
  cases e
  refine ⟨b, off, rfl, g1, g2, by rw [k2]; exact g3, fun i z hz j u hu => ?_⟩
  have hj : j < size := by rw [← hlen z]; exact (List.getElem?_eq_some_iff.1 hu).1
  rw [k1]
  by_cases hik : i = k
  · subst hik
    rw [List.getElem?_set_self hkl] at hz
    cases hz
    have hold := hc i x0 hx0
    have hex : ∀ j, j < us.length → ∃ v, w.cell? ⟨b, off + (i * size + j), none⟩ = some v ∧ w.frozen? ⟨b, off + (i * size + j), none⟩ = false := fun j hj => 
      ⟨_, hold j _ (List.getElem?_eq_getElem (by rw [hlen]; omega))⟩
    rcases Nat.lt_or_ge j us.length with hju | hju
    · refine ⟨?_, (hex j hju).choose_spec.2⟩
      rw [← Nat.add_assoc]
      exact k4 (fun j hj => by rw [Nat.add_assoc]; exact ⟨_, (hex j hj).choose_spec.1⟩) j u (hpre j u hju hu)
    · obtain ⟨h1, h2⟩ := hold j u (hrest j u hju hu)
      refine ⟨?_, h2⟩
      rw [k3 _ (by omega)]
      exact h1
  · have hil : i < l.length := by
      have := (List.getElem?_eq_some_iff.1 hz).1
      rwa [List.length_set] at this
    rw [List.getElem?_set_ne (by omega)] at hz
    obtain ⟨h1, h2⟩ := hc i z hz j u hu
    refine ⟨?_, h2⟩
    rw [k3 _ ?_]
    · exact h1
    · rcases Nat.lt_or_ge i k with hlt | hge
      · have := Nat.mul_le_mul_right size (show i + 1 ≤ k by omega)
        rw [Nat.add_mul] at this
        omega
      · have := Nat.mul_le_mul_right size (show k + 1 ≤ i by omega)
        rw [Nat.add_mul] at this
        omega
theorem Sl.putN {α : Type} {size : Nat} {f : α → List Value} {w : World} {lo hi n b off : Nat} {l : List α} (h : Sl size f w lo hi (some ⟨b, off, none⟩) n l) {k : Nat} (hk : k < n) (hlen : ∀ x, (f x).length = size) (x : α) :
    Sl size f (putCells w b (off + k * size) (f x)) lo hi (some ⟨b, off, none⟩) n (l.set k x) :=
  h.putPre (x0 := l[k]'(by rw [h.len]; exact hk)) (List.getElem?_eq_getElem _) hlen x (f x) (by rw [hlen]; exact Nat.le_refl _) (fun _ _ _ h => h) (fun j u hj hu => by
    have := (List.getElem?_eq_some_iff.1 hu).1
    omega)

end Go.Proofs.YtnhomkmfbngmgaaGreatDoor

namespace Go.Proofs.YtnhomkmfbngmgaaGreatDoor
open Go.ChangeShapes Go.WideShapes Go.ChangeAt Go.RowKit
set_option linter.unusedVariables false

def strv (s : ByteArray) : List Value := [.string s]
abbrev SlS := Sl 1 strv
theorem SlS.get {w : World} {lo hi n : Nat} {A : Option Addr} {l : List ByteArray} (h : SlS w lo hi A n l) {k : Nat} (hk : k < n) :
    ∃ b off x, A = some ⟨b, off, none⟩ ∧ lo ≤ b ∧ b < hi ∧ b < w.heap.size ∧ l[k]? = some x ∧ w.cell? ⟨b, off + k, none⟩ = some (.string x) ∧ w.frozen? ⟨b, off + k, none⟩ = false := by
  obtain ⟨b, off, e, g1, g2, g3, hc⟩ := h.at_ (by omega)
  have hl : k < l.length := by rw [h.len]; exact hk
  have h0 := hc k l[k] (List.getElem?_eq_getElem hl) 0 _ rfl
  simp only [Nat.mul_one, Nat.add_zero] at h0
  exact ⟨b, off, l[k], e, g1, g2, g3, List.getElem?_eq_getElem hl, h0.1, h0.2⟩
theorem str_neq {a b : ByteArray} (h : a ≠ b) : (a.toList == b.toList) = false := by
  obtain ⟨⟨x⟩⟩ := a
  obtain ⟨⟨y⟩⟩ := b
  have e1 : (ByteArray.mk ⟨x⟩).toList = x := ByteArray.toList_mk x
  have e2 : (ByteArray.mk ⟨y⟩).toList = y := ByteArray.toList_mk y
  rw [e1, e2, beq_eq_false_iff_ne]
  rintro rfl
  exact h rfl
/-- How much of `left` is there behind n. -/
def totS (l : List ByteArray) : Nat := l.length + (l.map (·.size)).sum
def preS (l : List ByteArray) (k : Nat) : Nat := ((l.take k).map (·.size)).sum
theorem preS_succ {l : List ByteArray} {k : Nat} {x : ByteArray} (h : l[k]? = some x) : preS l (k + 1) = preS l k + x.size := by
  unfold preS
  rw [List.take_add_one, h]
  simp
theorem preS_all {l : List ByteArray} {n : Nat} (h : l.length = n) : totS l = n + preS l n := by
  unfold totS preS
  rw [List.take_of_length_le (by omega), h]
theorem preS_mono (l : List ByteArray) {k n : Nat} (h : k ≤ n) : preS l k ≤ preS l n := by
  induction n with
  | zero =>
    have : k = 0 := by omega
    subst this; exact Nat.le_refl _
  | succ n ih =>
    rcases Nat.lt_or_ge k (n + 1) with h1 | h1
    · refine Nat.le_trans (ih (by omega)) ?_
      unfold preS
      rw [List.take_add_one, List.map_append, List.sum_append]
      omega
    · have : k = n + 1 := by omega
      subst this
      exact Nat.le_refl _

theorem szStringS_calls (A : Option Addr) (n c : Nat) (l : List ByteArray) (left : Int) (w : World) (lo hi : Nat) (h : SlS w lo hi A n l) (hn : n ≤ maxLen) (hs : ∀ s ∈ l, s.size ≤ maxLen) (h0 : 0 ≤ left) (h1 : left ≤ 1048576) :
    Calls Tryz.prog 140 #[.slice A n c, .int .i64 left] w fun e w' => e = .returned (.int .i64 (szLeft left (totS l))) ∧ Below w.heap.size w w' := by
  unfold maxLen at hn hs
  have hall := hide (preS_all h.len)
  by_cases hb : left < n
  · have hv : Hid (szLeft left (totS l) = -1) := by show _ = _; rw [hall.out]; exact szLeft_big (by omega)
    clear h
    go_enter Tryz.func140, Tryz.ntmps140
    go_wp2
    go_ret
    exact ⟨ret_i hv.out, Below.refl _ _⟩
  · replace hs := hide hs
    go_enter Tryz.func140, Tryz.ntmps140
    go_wp2
    go_loopw [1, 5] (fun s i wr => ∃ k : Nat, ∃ pre : Nat, k ≤ n ∧ i = .int .i64 k ∧ s = .int .i64 (left - (n : Int) - (pre : Int)) ∧ Hid (pre = preS l k) ∧ (n : Int) + (pre : Int) ≤ left ∧ Below w.heap.size w wr) (fun _ i _ => n - (intOf i).toNat)
    case atStart => exact ⟨0, 0, Nat.zero_le _, rfl, by go_num, rfl, by omega, Below.refl _ _⟩
    case round =>
      obtain ⟨k, pre, hk, rfl, rfl, hp, hle, hbw⟩ := hrel
      by_cases hlt : k < n
      · obtain ⟨b, off, x, rfl, g1, g2, g3, hx, c0, -⟩ := h.get hlt
        replace c0 := (hbw.cell (p := ⟨b, off + k, none⟩) g3).trans c0
        have hxs := hs.out x (List.mem_of_getElem? hx)
        have hnext := hide (preS_succ hx)
        have hmono := hide (preS_mono l (show k + 1 ≤ n by omega))
        clear h hx
        by_cases hbig : left - (n : Int) - (pre : Int) - (x.size : Int) < 0
        · have hv : Hid (szLeft left (totS l) = -1) := by
            show _ = _
            rw [hall.out]
            refine szLeft_big ?_
            have e1 := hnext.out; have e2 := hmono.out; have e3 := hp.out
            omega
          go_wp2
          go_ret
          exact ⟨ret_i hv.out, hbw⟩
        · go_wp2
          go_roundw
          case rel => exact ⟨k + 1, pre + x.size, by omega, by go_num, by go_num, (by show _ = _; rw [hnext.out, hp.out]), by omega, hbw⟩
          case measure => simp [intOf]; omega
      · have hkn : k = n := by omega
        subst hkn
        go_wp2
        go_ret
        refine ⟨ret_i ?_, hbw⟩
        rw [hall.out, ← hp.out, szLeft_fits (by omega)]
        omega

theorem info_string : (Tryz.prog.info? 9).map (fun i => (i.zero, i.size, i.bytes)) = some (some (.string ByteArray.empty), 1, 16) := by kernel_rfl

theorem toStringS_calls (A : Option Addr) (n c : Nat) (l : List ByteArray) (w : World) (lo hi : Nat) (h : SlS w lo hi A n l) (hn : n ≤ 1048576) :
    Calls Tryz.prog 148 #[.slice A n c] w fun e w' => ∃ A', e = .returned (.slice A' n n) ∧ Below w.heap.size w w' ∧ SlS w' w.heap.size w'.heap.size A' n l := by
  obtain ⟨i0, hi0, hz0, hz1, hz2⟩ := info_parts info_string
  have hmk := fun W => make_row (P := Tryz.prog) 24 9 i0 _ _ n Tryz.underlying24 hi0 hz0 hz1 (by rw [hz2]; omega) (by omega) W
  clear hi0 hz0 hz1 hz2
  have hlen := hide h.len
  go_enter Tryz.func148, Tryz.ntmps148
  go_wp2
  go_loopw [4] (fun i wr => ∃ k : Nat, k ≤ n ∧ i = .int .i64 k ∧ Below w.heap.size w wr ∧ Fill 1 strv wr w.heap.size 9 n k l) (fun i _ => n - (intOf i).toNat)
  case atStart => exact ⟨0, Nat.zero_le _, rfl, (Below.refl _ _).alloc (Nat.le_refl _) _, Fill.start _ _ _ _ (by simp [madeCells])⟩
  case round =>
    obtain ⟨k, hk, rfl, hb, hf⟩ := hrel
    clear hmk
    by_cases hlt : k < n
    · obtain ⟨b, off, x, rfl, g1, g2, g3, hx, c0, -⟩ := h.get hlt
      replace c0 := (hb.cell (p := ⟨b, off + k, none⟩) g3).trans c0
      obtain ⟨v0, d0⟩ := hf.cell (i := k) (by omega)
      have z0 := hf.frozen k
      replace hx := hide hx
      clear h
      go_wp2
      go_roundw
      case rel => exact ⟨k + 1, by omega, by go_num, hb.setCell (Nat.le_refl _) _, hf.set1 hlt (fun _ => rfl) hx.out rfl⟩
      case measure => simp [intOf]; omega
    · have : k = n := by omega
      subst this
      go_wp2
      go_ret
      exact ⟨_, rfl, hb, hf.done hlen.out (Nat.le_refl _) hf.lt⟩

set_option maxRecDepth 100000 in
theorem eqStringS_calls (A B : Option Addr) (n m c d : Nat) (l r : List ByteArray) (w : World) (lo hi lo' hi' : Nat) (h : SlS w lo hi A n l) (g : SlS w lo' hi' B m r) (hn : n ≤ maxLen) (hm : m ≤ maxLen) :
    Calls Tryz.prog 24 #[.slice A n c, .slice B m d] w fun e w' => e = .returned (.bool (decide (l = r))) ∧ Below w.heap.size w w' := by
  unfold maxLen at hn hm
  have hl := hide h.len
  have hr := hide g.len
  by_cases hnm : n = m
  · subst hnm
    go_enter Tryz.func24, Tryz.ntmps24
    go_wp2
    go_loopw [5] (fun i wr => ∃ k : Nat, k ≤ n ∧ i = .int .i64 k ∧ Below w.heap.size w wr ∧ Hid (l.take k = r.take k)) (fun i _ => n - (intOf i).toNat)
    case atStart => exact ⟨0, Nat.zero_le _, rfl, (Below.refl _ _), rfl⟩
    case round =>
      obtain ⟨k, hk, rfl, hb, he⟩ := hrel
      by_cases hlt : k < n
      · obtain ⟨b, off, x, rfl, g1, g2, g3, hx, c0, -⟩ := h.get hlt
        obtain ⟨b', off', y, rfl, g1', g2', g3', hy, d0, -⟩ := g.get hlt
        replace c0 := (hb.cell (p := ⟨b, off + k, none⟩) g3).trans c0
        replace d0 := (hb.cell (p := ⟨b', off' + k, none⟩) g3').trans d0
        replace hx := hide hx
        replace hy := hide hy
        clear h g
        have hk0 : (0 : Int) ≤ (k : Int) := by omega
        have hk1 : (k : Int) < (n : Int) := by omega
        by_cases hxy : x = y
        · subst hxy
          go_wp2
          go_quiet (fail)
          go_wp2
          go_roundw
          case rel => exact ⟨k + 1, by omega, by go_num, by first | exact hb | exact ⟨hb.os, hb.tape, hb.output, hb.size, hb.block⟩, take_step he.out hx.out hy.out rfl⟩
          case measure => simp [intOf]; omega
        · have hne := hide (take_stop hx.out hy.out hxy)
          have hq : (x.toList == y.toList) = false := str_neq hxy
          clear hxy
          go_wp2
          go_quiet (fail)
          go_wp2
          go_ret
          exact ⟨by simp [hne.out], by first | exact hb | exact ⟨hb.os, hb.tape, hb.output, hb.size, hb.block⟩⟩
      · have hkn : k = n := by omega
        subst hkn
        go_wp2
        go_ret
        exact ⟨by rw [take_all he.out hl.out hr.out]; simp, hb⟩
  · have hne : Hid (l ≠ r) := fun e => hnm (by rw [← hl.out, ← hr.out, e])
    have hb0 : ((n : Int) != (m : Int)) = true := by rw [bne_iff_ne]; omega
    go_enter Tryz.func24, Tryz.ntmps24
    go_wp2
    go_ret
    exact ⟨by simp [hne.out], Below.refl _ _⟩

end Go.Proofs.YtnhomkmfbngmgaaGreatDoor

namespace Go.Proofs.YtnhomkmfbngmgaaGreatDoor
open Go.ChangeShapes Go.WideShapes Go.ChangeAt Go.RowKit
set_option linter.unusedVariables false

abbrev Ed := Int × Int × Int
def ev (e : Ed) : List Value := [.int .i64 e.1, .int .i64 e.2.1, .int .i64 e.2.2]
abbrev SlE := Sl 3 ev
theorem SlE.get {w : World} {lo hi n : Nat} {A : Option Addr} {l : List Ed} (h : SlE w lo hi A n l) {k : Nat} (hk : k < n) :
    ∃ b off x y z, A = some ⟨b, off, none⟩ ∧ lo ≤ b ∧ b < hi ∧ b < w.heap.size ∧ l[k]? = some (x, y, z) ∧ w.cell? ⟨b, off + k * 3, none⟩ = some (.int .i64 x) ∧ w.cell? ⟨b, off + k * 3 + 1, none⟩ = some (.int .i64 y) ∧ w.cell? ⟨b, off + k * 3 + 2, none⟩ = some (.int .i64 z) ∧
      w.frozen? ⟨b, off + k * 3, none⟩ = false ∧ w.frozen? ⟨b, off + k * 3 + 1, none⟩ = false ∧ w.frozen? ⟨b, off + k * 3 + 2, none⟩ = false := by
  obtain ⟨b, off, e, g1, g2, g3, hc⟩ := h.at_ (by omega)
  have hl : k < l.length := by rw [h.len]; exact hk
  have h0 := hc k l[k] (List.getElem?_eq_getElem hl) 0 _ rfl
  have h1 := hc k l[k] (List.getElem?_eq_getElem hl) 1 _ rfl
  have h2 := hc k l[k] (List.getElem?_eq_getElem hl) 2 _ rfl
  rw [← Nat.add_assoc] at h1 h2
  exact ⟨b, off, l[k].1, l[k].2.1, l[k].2.2, e, g1, g2, g3, List.getElem?_eq_getElem hl, h0.1, h1.1, h2.1, h0.2, h1.2, h2.2⟩

theorem Fill.set3 {α : Type} {f : α → List Value} {w : World} {B n k : Nat} {t : TypeId} {l : List α} (h : Fill 3 f w B t n k l) (hk : k < n) (hlen : ∀ x, (f x).length = 3) {x : α} (hx : l[k]? = some x) {u v z : Value} (hf : f x = [u, v, z]) :
    Fill 3 f (((w.setCell ⟨B, k * 3, none⟩ u).setCell ⟨B, k * 3 + 1, none⟩ v).setCell ⟨B, k * 3 + 2, none⟩ z) B t n (k + 1) l :=
  h.step hlen hx fun cur hc hs => ⟨((cur.setIfInBounds (k * 3) u).setIfInBounds (k * 3 + 1) v).setIfInBounds (k * 3 + 2) z, heap_setCell_same _ B _ _ t z (heap_setCell_same _ B _ _ t v (heap_setCell_same w B _ cur t u hc)), by simp,
    fun i hi => by rw [Array.getElem?_setIfInBounds_ne (by omega), Array.getElem?_setIfInBounds_ne (by omega), Array.getElem?_setIfInBounds_ne (by omega)], fun j q hq => by
    rw [hf] at hq
    match j, hq with
    | 0, hq =>
      simp at hq
      subst hq
      rw [Array.getElem?_setIfInBounds_ne (by omega), Array.getElem?_setIfInBounds_ne (by omega)]
      simp [Array.getElem?_setIfInBounds]
      omega
    | 1, hq =>
      simp at hq
      subst hq
      rw [Array.getElem?_setIfInBounds_ne (by omega)]
      simp [Array.getElem?_setIfInBounds]
      omega
    | 2, hq =>
      simp at hq
      subst hq
      simp [Array.getElem?_setIfInBounds]
      omega⟩

theorem info_implEdge : (Tryz.prog.info? 84).map (fun i => (i.zero, i.size, i.bytes)) = some (some (.agg #[.int .i64 0, .int .i64 0, .int .i64 0]), 3, 24) := by kernel_rfl

theorem toEdge_calls (a b c : Int) (w : World) :
    Calls Tryz.prog 233 #[.agg #[.int .i64 a, .int .i64 b, .int .i64 c]] w fun e w' => e = .returned (.agg #[.int .i64 a, .int .i64 b, .int .i64 c]) ∧ Below w.heap.size w w' := by
  go_enter Tryz.func233, Tryz.ntmps233
  go_wp2
  go_returns
  refine ⟨rfl, ?_⟩
  go_grown

theorem szEdgeS_calls (A : Option Addr) (n c : Nat) (left : Int) (w : World) (hn : n ≤ maxLen) (h0 : 0 ≤ left) (h1 : left ≤ 1048576) :
    Calls Tryz.prog 141 #[.slice A n c, .int .i64 left] w fun e w' => e = .returned (.int .i64 (szLeft left n)) ∧ w = w' := by
  unfold maxLen at hn
  by_cases h : left < n
  · go_enter Tryz.func141, Tryz.ntmps141
    go_wp2
    go_ret
    exact ⟨by rw [szLeft_big h]; rfl, rfl⟩
  · go_enter Tryz.func141, Tryz.ntmps141
    go_wp2
    go_ret
    exact ⟨by rw [szLeft_fits (by omega)]; rfl, rfl⟩

theorem toEdgeS_calls (A : Option Addr) (n c : Nat) (l : List Ed) (w : World) (lo hi : Nat) (h : SlE w lo hi A n l) (hn : n ≤ 1048576) :
    Calls Tryz.prog 149 #[.slice A n c] w fun e w' => ∃ A', e = .returned (.slice A' n n) ∧ Below w.heap.size w w' ∧ SlE w' w.heap.size w'.heap.size A' n l := by
  obtain ⟨i0, hi0, hz0, hz1, hz2⟩ := info_parts info_implEdge
  have hmk := fun W => make_row (P := Tryz.prog) 25 84 i0 _ _ n Tryz.underlying25 hi0 hz0 hz1 (by rw [hz2]; omega) (by omega) W
  clear hi0 hz0 hz1 hz2
  have hlen := hide h.len
  go_enter Tryz.func149, Tryz.ntmps149
  go_wp2
  go_loopw [4] (fun i wr => ∃ k : Nat, k ≤ n ∧ i = .int .i64 k ∧ Below w.heap.size w wr ∧ Fill 3 ev wr w.heap.size 84 n k l) (fun i _ => n - (intOf i).toNat)
  case atStart => exact ⟨0, Nat.zero_le _, rfl, (Below.refl _ _).alloc (Nat.le_refl _) _, Fill.start _ _ _ _ (by simp [madeCells])⟩
  case round =>
    obtain ⟨k, hk, rfl, hb, hf⟩ := hrel
    clear hmk
    by_cases hlt : k < n
    · obtain ⟨b, off, x1, x2, x3, rfl, g1, g2, g3, hx, c0, c1, c2, -, -, -⟩ := h.get hlt
      replace c0 := (hb.cell g3).trans c0
      replace c1 := (hb.cell (p := ⟨b, off + k * 3 + 1, none⟩) g3).trans c1
      replace c2 := (hb.cell (p := ⟨b, off + k * 3 + 2, none⟩) g3).trans c2
      replace hx := hide hx
      clear h
      go_wp2_with (first | (go_at_call 233; refine (toEdge_calls _ _ _ _).mono ?_; rintro e w1 ⟨rfl, hb1⟩; have hf1 := hf.keep (hb1.block _ hf.lt); obtain ⟨v0, d0⟩ := hf1.cell (i := k * 3) (by omega); obtain ⟨v1, d1⟩ := hf1.cell (i := k * 3 + 1) (by omega); obtain ⟨v2, d2⟩ := hf1.cell (i := k * 3 + 2) (by omega); have z0 := hf1.frozen (k * 3); have z1 := hf1.frozen (k * 3 + 1); have z2 := hf1.frozen (k * 3 + 2)))
      go_roundw
      case rel => exact ⟨k + 1, by omega, by go_num, (((hb.trans (hb1.mono hb.size)).setCell (Nat.le_refl _) _).setCell (Nat.le_refl _) _).setCell (Nat.le_refl _) _, hf1.set3 hlt (fun _ => rfl) hx.out rfl⟩
      case measure => simp [intOf]; omega
    · have : k = n := by omega
      subst this
      go_wp2
      go_ret
      exact ⟨_, rfl, hb, hf.done hlen.out (Nat.le_refl _) hf.lt⟩

theorem eqEdge_calls (a1 a2 a3 b1 b2 b3 : Int) (w : World) :
    Calls Tryz.prog 236 #[.agg #[.int .i64 a1, .int .i64 a2, .int .i64 a3], .agg #[.int .i64 b1, .int .i64 b2, .int .i64 b3]] w fun e w' => e = .returned (.bool (decide (((a1, a2, a3) : Ed) = (b1, b2, b3)))) ∧ Below w.heap.size w w' := by
  by_cases h1 : a1 = b1 <;> by_cases h2 : a2 = b2 <;> by_cases h3 : a3 = b3
  all_goals
    go_enter Tryz.func236, Tryz.ntmps236
    go_wp2
    all_goals first | (exfalso; simp_all; done) | skip
    all_goals go_returns
    all_goals refine ⟨by simp [h1, h2, h3], ?_⟩
    all_goals go_grown

set_option maxRecDepth 100000 in
theorem eqEdgeS_calls (A B : Option Addr) (n m c d : Nat) (l r : List Ed) (w : World) (lo hi lo' hi' : Nat) (h : SlE w lo hi A n l) (g : SlE w lo' hi' B m r) (hn : n ≤ maxLen) (hm : m ≤ maxLen) :
    Calls Tryz.prog 157 #[.slice A n c, .slice B m d] w fun e w' => e = .returned (.bool (decide (l = r))) ∧ Below w.heap.size w w' := by
  unfold maxLen at hn hm
  have hl := hide h.len
  have hr := hide g.len
  by_cases hnm : n = m
  · subst hnm
    go_enter Tryz.func157, Tryz.ntmps157
    go_wp2
    go_loopw [5] (fun i wr => ∃ k : Nat, k ≤ n ∧ i = .int .i64 k ∧ Below w.heap.size w wr ∧ Hid (l.take k = r.take k)) (fun i _ => n - (intOf i).toNat)
    case atStart => exact ⟨0, Nat.zero_le _, rfl, (Below.refl _ _), rfl⟩
    case round =>
      obtain ⟨k, hk, rfl, hb, he⟩ := hrel
      by_cases hlt : k < n
      · obtain ⟨b, off, x1, x2, x3, rfl, g1, g2, g3, hx, c0, c1, c2, -, -, -⟩ := h.get hlt
        obtain ⟨b', off', y1, y2, y3, rfl, g1', g2', g3', hy, d0, d1, d2, -, -, -⟩ := g.get hlt
        replace c0 := (hb.cell g3).trans c0
        replace c1 := (hb.cell (p := ⟨b, off + k * 3 + 1, none⟩) g3).trans c1
        replace c2 := (hb.cell (p := ⟨b, off + k * 3 + 2, none⟩) g3).trans c2
        replace d0 := (hb.cell g3').trans d0
        replace d1 := (hb.cell (p := ⟨b', off' + k * 3 + 1, none⟩) g3').trans d1
        replace d2 := (hb.cell (p := ⟨b', off' + k * 3 + 2, none⟩) g3').trans d2
        replace hx := hide hx
        replace hy := hide hy
        clear h g
        have hq := eqEdge_calls x1 x2 x3 y1 y2 y3 wr.drew
        by_cases hxy : ((x1, x2, x3) : Ed) = (y1, y2, y3)
        · rw [decide_eq_true hxy] at hq
          replace hq := hide hq
          replace hxy := hide hxy
          go_wp2
          go_still_tail 8, (by kernel_rfl)
          change wpList _ _ _ _ _ wr.drew
          go_wp2_with (go_at_call 236; refine hq.out.mono ?_; rintro e w1 ⟨rfl, hb1⟩)
          go_roundw
          case rel => exact ⟨k + 1, by omega, by go_num, hb.drew.trans (hb1.mono hb.size), take_step he.out hx.out hy.out hxy.out⟩
          case measure => simp [intOf]; omega
        · rw [decide_eq_false hxy] at hq
          replace hq := hide hq
          have hne := hide (take_stop hx.out hy.out hxy)
          clear hxy
          go_wp2
          go_still_tail 8, (by kernel_rfl)
          change wpList _ _ _ _ _ wr.drew
          go_wp2_with (go_at_call 236; refine hq.out.mono ?_; rintro e w1 ⟨rfl, hb1⟩)
          go_ret
          exact ⟨by simp [hne.out], hb.drew.trans (hb1.mono hb.size)⟩
      · have hkn : k = n := by omega
        subst hkn
        go_wp2
        go_ret
        exact ⟨by rw [take_all he.out hl.out hr.out]; simp, hb⟩
  · have hne : Hid (l ≠ r) := fun e => hnm (by rw [← hl.out, ← hr.out, e])
    have hb0 : ((n : Int) != (m : Int)) = true := by rw [bne_iff_ne]; omega
    go_enter Tryz.func157, Tryz.ntmps157
    go_wp2
    go_ret
    exact ⟨by simp [hne.out], Below.refl _ _⟩

end Go.Proofs.YtnhomkmfbngmgaaGreatDoor

namespace Go.Proofs.YtnhomkmfbngmgaaGreatDoor
set_option linter.unusedVariables false

/-! ## All of the first n numbers -/
def allK (p : Nat → Bool) (n : Nat) : Bool := (List.range n).all p
theorem allK_bad {p : Nat → Bool} {n k : Nat} (hk : k < n) (h : p k = false) : allK p n = false := by
  unfold allK
  rw [← Bool.not_eq_true, List.all_eq_true]
  intro hc
  have := hc k (List.mem_range.2 hk)
  rw [h] at this
  cases this
theorem allK_good {p : Nat → Bool} {n : Nat} (h : ∀ j, j < n → p j = true) : allK p n = true :=
  List.all_eq_true.2 fun k hk => h k (List.mem_range.1 hk)
theorem allK_get {p : Nat → Bool} {n : Nat} (h : allK p n = true) {k : Nat} (hk : k < n) : p k = true :=
  (List.all_eq_true.1 h) k (List.mem_range.2 hk)
theorem lt_succ_cases {p : Nat → Prop} {k : Nat} (h : ∀ j, j < k → p j) (hk : p k) : ∀ j, j < k + 1 → p j := fun j hj => by
  rcases Nat.lt_or_ge j k with h1 | h1
  · exact h j h1
  · have : j = k := by omega
    subst this
    exact hk

/-! ## Data -/
/-- States, initial state, labels, edges. -/
abbrev DL := Int × Int × List ByteArray × List Ed

def tauB : ByteArray := ⟨#[116, 97, 117]⟩
/-- Order of edges. -/
def edLess (a b : Ed) : Bool := if a.1 ≠ b.1 then decide (a.1 < b.1) else if a.2.1 ≠ b.2.1 then decide (a.2.1 < b.2.1) else decide (a.2.2 < b.2.2)

section
variable (labB : ByteArray → Bool) (sLess : ByteArray → ByteArray → Bool)
/-- Label k is in order. -/
def okLab (ls : List ByteArray) (k : Nat) : Bool := match ls[k]? with
  | some s => labB s && (decide (s = tauB) == decide (k = 0)) && (decide (k ≤ 1) || match ls[k - 1]? with | some r => sLess r s | none => true)
  | none => true
def okEd (st m : Int) (es : List Ed) (k : Nat) : Bool := match es[k]? with
  | some e => inB e.1 0 (st - 1) && inB e.2.2 0 (st - 1) && inB e.2.1 0 (m - 1) && (decide (k = 0) || match es[k - 1]? with | some r => edLess r e | none => true)
  | none => true
def ltsB (d : DL) : Bool :=
  (inB d.1 1 40 && inB d.2.1 0 (d.1 - 1) && inB (d.2.2.1.length : Int) 1 12 && decide (d.2.2.2.length ≤ 300)) &&
  (allK (okLab labB sLess d.2.2.1) d.2.2.1.length && allK (okEd d.1 d.2.2.1.length d.2.2.2) d.2.2.2.length)
end
/-- Edge k keeps a system deterministic. -/
def okDet (es : List Ed) (k : Nat) : Bool := match es[k]? with
  | some e => !(decide (e.2.1 = 0)) && (decide (k = 0) || match es[k - 1]? with | some r => !(decide (r.1 = e.1) && decide (r.2.1 = e.2.1)) | none => true)
  | none => true
def detB (es : List Ed) : Bool := allK (okDet es) es.length
end Go.Proofs.YtnhomkmfbngmgaaGreatDoor
