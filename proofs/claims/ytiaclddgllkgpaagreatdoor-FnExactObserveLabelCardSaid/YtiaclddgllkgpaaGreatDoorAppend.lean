/-
  Slices of the call's own that grow: what they hold, and append from any slice that reads as a list. Conditions: the new length times the element's bytes is at most 2^47.
-/
import Derived.Test.YtiaclddgllkgpaaGreatDoorWords
import Derived.Maps.AppendAt
import Derived.Laws.OwnMore
import Derived.OwnWalk
namespace Go.Proofs.YtiaclddgllkgpaaGreatDoor
open Go.RowKit

/-- The cells of an element: always size many, each one cell. -/
structure Flat {α : Type} (f : α → List Value) (size : Nat) : Prop where
  len : ∀ x, (f x).length = size
  one : ∀ x u, u ∈ f x → u.oneCell' = true

theorem flat_tv : Flat tv 2 := ⟨fun _ => rfl, fun x u h => by simp [tv] at h; rcases h with rfl | rfl <;> rfl⟩
theorem flat_iv : Flat iv 1 := ⟨fun _ => rfl, fun x u h => by simp [iv] at h; subst h; rfl⟩

/-- What the program's tables say of a slice type and its elements. -/
def Elem (P : Program) (t e : TypeId) (size bytes : Nat) : Prop :=
  P.underlying t = some (.slice e) ∧ 0 < size ∧ 0 < bytes ∧ ∃ i z, P.info? e = some i ∧ i.zero = some z ∧ i.size = size ∧ i.bytes = bytes ∧ z.cells.size = size

theorem Elem.of {P : Program} {t e : TypeId} {size bytes : Nat} {z : Value} (ht : P.underlying t = some (.slice e)) (hi : (P.info? e).map (fun i => (i.zero, i.size, i.bytes)) = some (some z, size, bytes))
    (hz : z.cells.size = size) (h0 : 0 < size) (h1 : 0 < bytes) : Elem P t e size bytes := by
  obtain ⟨i, a, b, c, d⟩ := info_parts hi
  exact ⟨ht, h0, h1, i, z, a, b, c, d, hz⟩

/-- The slice value `.slice A n c` is the call's own (blocks from base on), and holds l. -/
def Own {α : Type} (size : Nat) (f : α → List Value) (w : World) (base : Nat) (e : TypeId) (A : Option Addr) (n c : Nat) (l : List α) : Prop :=
  l.length = n ∧ w.ownsRow base e size (.slice A n c) n (l.flatMap f)

theorem flat_length {α : Type} {f : α → List Value} {size : Nat} (hf : Flat f size) (l : List α) : (l.flatMap f).length = l.length * size := by
  induction l with
  | nil => simp
  | cons x l ih => simp [List.flatMap_cons, ih, hf.len, Nat.add_mul]; omega

theorem flat_at {α : Type} {f : α → List Value} {size : Nat} (hf : Flat f size) : ∀ (l : List α) (k : Nat) (x : α), l[k]? = some x → ∀ (j : Nat) (u : Value), (f x)[j]? = some u → (l.flatMap f)[k * size + j]? = some u := by
  intro l
  induction l with
  | nil => intro k x h; simp at h
  | cons y l ih =>
    intro k x h j u hu
    have hj : j < size := by rw [← hf.len x]; exact (List.getElem?_eq_some_iff.1 hu).1
    rw [List.flatMap_cons]
    cases k with
    | zero =>
      simp at h
      subst h
      rw [List.getElem?_append_left (by rw [hf.len]; omega)]
      simpa using hu
    | succ k =>
      simp at h
      rw [List.getElem?_append_right (by rw [hf.len, Nat.add_mul]; omega), hf.len]
      have : (k + 1) * size + j - size = k * size + j := by rw [Nat.add_mul]; omega
      rw [this]
      exact ih k x h j u hu

theorem flat_from {α : Type} {f : α → List Value} {size : Nat} (hf : Flat f size) : ∀ (l : List α) (j : Nat) (u : Value), (l.flatMap f)[j]? = some u → ∃ k i x, l[k]? = some x ∧ (f x)[i]? = some u ∧ j = k * size + i := by
  intro l
  induction l with
  | nil => intro j u h; simp at h
  | cons y l ih =>
    intro j u h
    rw [List.flatMap_cons] at h
    rcases Nat.lt_or_ge j size with hj | hj
    · rw [List.getElem?_append_left (by rw [hf.len]; exact hj)] at h
      exact ⟨0, j, y, rfl, h, by simp⟩
    · rw [List.getElem?_append_right (by rw [hf.len]; exact hj), hf.len] at h
      obtain ⟨k, i, x, h1, h2, h3⟩ := ih _ _ h
      exact ⟨k + 1, i, x, by simpa using h1, h2, by rw [Nat.add_mul]; omega⟩

theorem flat_one {α : Type} {f : α → List Value} {size : Nat} (hf : Flat f size) (l : List α) : ∀ u ∈ l.flatMap f, u.oneCell' = true := by
  intro u hu
  obtain ⟨x, _, hx⟩ := List.mem_flatMap.1 hu
  exact hf.one x u hx

section
variable {α : Type} {size : Nat} {f : α → List Value} {w w' : World} {base n c : Nat} {e : TypeId} {A : Option Addr} {l : List α}

theorem Own.len (h : Own size f w base e A n c l) : l.length = n := h.1

theorem Own.nil_ (w : World) (base : Nat) (e : TypeId) : Own size f w base e none 0 0 ([] : List α) := ⟨rfl, World.ownsRow_nil _ _ _ _⟩

theorem Own.lt (h : Own size f w base e A n c l) : ∀ g, (Value.slice A n c).ownBlock = some g → base ≤ g ∧ g < w.heap.size := h.2.lt

theorem Own.sl (h : Own size f w base e A n c l) (hf : Flat f size) : Sl size f w base w.heap.size A n l := by
  refine ⟨h.1, fun hn => ?_⟩
  rcases h.2.2 with ⟨hv, rfl⟩ | ⟨g, cap, cur, hv, hb, hg, hnc, hcm, hcs, htake⟩
  · omega
  · injection hv with hA _ _
    subst hA
    have hlt : g < w.heap.size := (Array.getElem?_eq_some_iff.1 hg).1
    refine ⟨g, 0, rfl, hb, hlt, hlt, fun k x hx j u hu => ?_⟩
    have h1 := flat_at hf l k x hx j u hu
    have h2 := h.2.cells (g := g) rfl _ _ h1
    have hadd : (⟨g, 0, none⟩ : Addr).add (k * size + j) = ⟨g, 0 + (k * size + j), none⟩ := by unfold Addr.add; split <;> simp_all
    rw [hadd] at h2
    exact ⟨h2, frozen_of_row w g _ cur e hg⟩

theorem Own.keep (h : Own size f w base e A n c l) (hk : ∀ g, (Value.slice A n c).ownBlock = some g → w'.heap[g]? = w.heap[g]?) : Own size f w' base e A n c l := by
  refine ⟨h.1, h.2.1, ?_⟩
  rcases h.2.2 with hn | ⟨g, cap, cur, hv, hb, hg, rest⟩
  · exact .inl hn
  · refine .inr ⟨g, cap, cur, hv, hb, ?_, rest⟩
    rw [hk g (by rw [hv]; rfl)]
    exact hg

theorem Own.below (h : Own size f w base e A n c l) {B : Nat} (hb : Below B w w') (hB : w.heap.size ≤ B) : Own size f w' base e A n c l :=
  h.keep fun g hg => hb.block g (by have := (h.lt g hg).2; omega)

theorem Own.lower (h : Own size f w base e A n c l) {base' : Nat} (hb : base' ≤ base) : Own size f w base' e A n c l := by
  refine ⟨h.1, h.2.1, ?_⟩
  rcases h.2.2 with hn | ⟨g, cap, cur, hv, hg, rest⟩
  · exact .inl hn
  · exact .inr ⟨g, cap, cur, hv, by omega, rest⟩
end

/-- A slice written out in the text: one element, in a block of its own. -/
theorem Sl.lit1 {α : Type} {f : α → List Value} (w : World) (t : TypeId) (x : α) (cs : Array Value) (h : f x = cs.toList) (size lo : Nat) (hlo : lo ≤ w.heap.size) :
    Sl size f (w.alloc (.cells cs t)) lo (w.heap.size + 1) (some ⟨w.heap.size, 0, none⟩) 1 [x] := by
  refine ⟨rfl, fun _ => ⟨w.heap.size, 0, rfl, hlo, by omega, by simp, fun k y hy j u hu => ?_⟩⟩
  cases k with
  | succ k => simp at hy
  | zero =>
    simp at hy
    subst hy
    rw [h] at hu
    simp only [Nat.zero_mul, Nat.zero_add]
    have hg := heap_alloc_new w (.cells cs t)
    exact ⟨(cell_of_row _ _ _ cs t (0, 0) hg).trans (by simpa using hu), frozen_of_row _ _ _ cs t hg⟩

/-- The same, the new block's number as the walk spells it. -/
theorem Sl.lit1' {α : Type} {f : α → List Value} (w : World) (t : TypeId) (x : α) (cs : Array Value) (h : f x = cs.toList) (size g : Nat) (hg : g = w.heap.size) :
    Sl size f (w.alloc (.cells cs t)) 0 (g + 1) (some ⟨g, 0, none⟩) 1 [x] := by
  subst hg
  exact Sl.lit1 w t x cs h size 0 (Nat.zero_le _)

section
variable {P : Program} {α : Type} {size bytes : Nat} {f : α → List Value} {t e : TypeId}

theorem run_app (w : World) (hE : Elem P t e size bytes) (hf : Flat f size) (ty : TypeId) {base n c : Nat} {A : Option Addr} {l : List α} (hown : Own size f w base e A n c l)
    {B : Option Addr} {m d lo hi : Nat} {r : List α} (hr : Sl size f w lo hi B m r) (hsz : (n + m) * bytes ≤ 140737488355328) (hbase : base ≤ w.heap.size) :
    ∃ A' c' w', (Builtin.append_ #[t, t] ty #[.slice A n c, .slice B m d]).run P w = .ok (.slice A' (n + m) c') w' ∧ Own size f w' base e A' (n + m) c' (l ++ r) ∧ w.grownBy w' (Value.slice A n c).ownBlock ∧
      ((Value.slice A' (n + m) c').ownBlock = (Value.slice A n c).ownBlock ∨ (Value.slice A' (n + m) c').ownBlock = some w.heap.size) := by
  obtain ⟨ht, h0, hb0, i, z, hi', hz, hs, hby, hzs⟩ := hE
  have hnm : n + m ≤ 140737488355328 := Nat.le_trans (Nat.le_mul_of_pos_right _ hb0) hsz
  have key : ∀ v' w', w'.ownsRow base e size v' (n + m) (l.flatMap f ++ r.flatMap f) → ∃ A' c', v' = .slice A' (n + m) c' ∧ Own size f w' base e A' (n + m) c' (l ++ r) := by
    intro v' w' h
    have hsh : ∃ A' c', v' = .slice A' (n + m) c' := by
      rcases h.2 with ⟨rfl, h0⟩ | ⟨g, cap, cur, rfl, _⟩
      · exact ⟨none, 0, by rw [h0]⟩
      · exact ⟨_, _, rfl⟩
    obtain ⟨A', c', rfl⟩ := hsh
    exact ⟨A', c', rfl, by rw [List.length_append, hown.1, hr.len], by rw [List.flatMap_append]; exact h⟩
  by_cases hm : m = 0
  · subst hm
    have hr0 : r = [] := List.eq_nil_of_length_eq_zero hr.len
    subst hr0
    have hrun : (Builtin.append_ #[t, t] ty #[.slice A n c, .slice B 0 d]).run P w = .ok (.slice A n c) w := by
      rcases hown.2.2 with ⟨hv, rfl⟩ | ⟨g, cap, cur, hv, _, hg, hnc, _⟩
      · injection hv with h1 _ h3
        subst h1 h3
        cases B <;> simp [Builtin.append_, run_underlying ht, sizeOf, typeInfo, hi', Builtin.lenOf, Builtin.firstCells, loadCells, loadCellsFrom]
      · injection hv with h1 _ h3
        subst h1 h3
        cases B <;> simp [Builtin.append_, run_underlying ht, sizeOf, typeInfo, hi', Builtin.lenOf, Builtin.firstCells, loadCells, loadCellsFrom, hnc, storeCells]
    exact ⟨A, c, w, hrun, ⟨by simpa using hown.1, by simpa using hown.2⟩, ⟨rfl, rfl, rfl, Nat.le_refl _, fun _ _ _ => rfl⟩, .inl rfl⟩
  · obtain ⟨b, off, rfl, _, _, _, hc⟩ := hr.at_ (by omega)
    obtain ⟨v', w', h1, h2, h3, _, h5⟩ := run_append_own_at (P := P) w base t ty e i z size bytes ht hi' hz hs hby hzs h0 (.slice A n c) n (l.flatMap f) hown.2 ⟨b, off, none⟩ m d (r.flatMap f)
      (by rw [flat_length hf, hr.len]) (fun j u hu => by
        obtain ⟨k, i, x, hx, hu', rfl⟩ := flat_from hf r j u hu
        have hadd : (⟨b, off, none⟩ : Addr).add (k * size + i) = ⟨b, off + (k * size + i), none⟩ := by unfold Addr.add; split <;> simp_all
        rw [hadd]
        exact (hc k x hx i u hu').1) (flat_one hf r) (by unfold maxLen; omega) hsz hbase
    obtain ⟨A', c', rfl, h6⟩ := key v' w' h2
    exact ⟨A', c', w', h1, h6, h3, h5⟩

/-- append, at the walk's operation. -/
theorem wpList_app {w : World} {ops : Array Oper} {rest : List Oper} {o : Oper} {a : Act} {Q : Exit → Act → World → Prop} (hgd : o.guard = none) (s x : Operand)
    (ho : o.op = .call { callee := .builtin .append, args := #[s, x], argTypes := #[t, t] }) (hE : Elem P t e size bytes) (hf : Flat f size)
    {base n c : Nat} {A : Option Addr} {l : List α} (hs : a.eval s = .slice A n c) (hown : Own size f w base e A n c l)
    {B : Option Addr} {m d lo hi : Nat} {r : List α} (hx : a.eval x = .slice B m d) (hr : Sl size f w lo hi B m r) (hsz : (n + m) * bytes ≤ 140737488355328) (hbase : base ≤ w.heap.size)
    (h : ∀ A' c' w', Own size f w' base e A' (n + m) c' (l ++ r) → w.grownBy w' (Value.slice A n c).ownBlock → Below base w w' →
      ((Value.slice A' (n + m) c').ownBlock = (Value.slice A n c).ownBlock ∨ (Value.slice A' (n + m) c').ownBlock = some w.heap.size) → wpList P ops Q rest (a.put o.dst (.slice A' (n + m) c')) w') : wpList P ops Q (o :: rest) a w := by
  refine wpList_plain hgd fun K hK => ?_
  obtain ⟨A', c', w', h1, h2, h3, h4⟩ := run_app w hE hf o.type hown (d := d) hr hsz hbase
  unfold Oper.wp execOp
  simp only [ho, resolve, invoke, builtin, Sem.run_bind, Sem.run_pure, Result.andThen_ok, List.map_toArray, List.map_cons, List.map_nil, hs, hx, h1]
  exact hK _ _ (h A' c' w' h2 h3 ((Below.refl _ _).grown h3 hbase fun k hk => (hown.lt k hk).1) h4)
end

theorem flatMap_take_succ {α β : Type} (g : α → List β) {l : List α} {k : Nat} {x : α} (hx : l[k]? = some x) : (l.take (k + 1)).flatMap g = (l.take k).flatMap g ++ g x := by
  rw [List.take_add_one, hx]
  simp
theorem map_take_succ {α β : Type} (g : α → β) {l : List α} {k : Nat} {x : α} (hx : l[k]? = some x) : (l.take (k + 1)).map g = (l.take k).map g ++ [g x] := by
  rw [List.take_add_one, hx]
  simp

/-- An empty slice written out in the text, or made: of the call's own. -/
theorem Own.made {α : Type} {size : Nat} {f : α → List Value} (w : World) {base : Nat} (e : TypeId) (hb : base ≤ w.heap.size) : Own size f (w.alloc (.cells #[] e)) base e (some ⟨w.heap.size, 0, none⟩) 0 0 ([] : List α) :=
  ⟨rfl, World.ownsRow_made w #[] 0 hb (Nat.zero_le _) (by simp)⟩

theorem Own.alloc {α : Type} {size : Nat} {f : α → List Value} {w : World} {base n c : Nat} {e : TypeId} {A : Option Addr} {l : List α} (h : Own size f w base e A n c l) (o : Obj) : Own size f (w.alloc o) base e A n c l :=
  ⟨h.1, h.2.alloc o⟩

/-- Two variables boxed one behind the other. -/
theorem two_boxes (w : World) (u v : Value) (t s : TypeId) :
    ((w.alloc (.cells #[u] t)).alloc (.cells #[v] s)).cell? ⟨w.heap.size, 0, none⟩ = some u ∧ ((w.alloc (.cells #[u] t)).alloc (.cells #[v] s)).cell? ⟨w.heap.size + 1, 0, none⟩ = some v := by
  constructor
  · rw [World.cell?_of_block (w := w.alloc (.cells #[u] t)) (Below.heap_alloc _ _ _ (by simp))]
    rw [cell_of_row _ _ 0 #[u] t (0, 0) (heap_alloc_new w _)]
    rfl
  · have h := heap_alloc_new (w.alloc (.cells #[u] t)) (.cells #[v] s)
    rw [World.size_alloc] at h
    rw [cell_of_row _ _ 0 #[v] s (0, 0) h]
    rfl

/-- Where `s[l:]` begins (at its end the old address stays). -/
def cutA (A : Option Addr) (l cap size : Nat) : Option Addr := if cap = l then A else A.map (·.add (l * size))

theorem Sl.cut {α : Type} {size : Nat} {f : α → List Value} {w : World} {lo hi n c k : Nat} {A : Option Addr} {l : List α} (h : Sl size f w lo hi A n l) (hk : k ≤ n) (hc : n ≤ c) : Sl size f w lo hi (cutA A k c size) (n - k) (l.drop k) := by
  refine ⟨by rw [List.length_drop, h.len], fun hn => ?_⟩
  obtain ⟨b, off, rfl, g1, g2, g3, hcell⟩ := h.at_ (by omega)
  have e : cutA (some ⟨b, off, none⟩) k c size = some ⟨b, off + k * size, none⟩ := by
    unfold cutA
    rw [if_neg (by omega)]
    simp only [Option.map_some, Addr.add]
    split <;> simp_all
  rw [e]
  refine ⟨b, off + k * size, rfl, g1, g2, g3, fun i x hx j u hu => ?_⟩
  rw [List.getElem?_drop] at hx
  have h1 := hcell (k + i) x hx j u hu
  have e2 : off + ((k + i) * size + j) = off + k * size + (i * size + j) := by rw [Nat.add_mul]; omega
  rw [e2] at h1
  exact h1

theorem Sl.take {α : Type} {size : Nat} {f : α → List Value} {w : World} {lo hi n k : Nat} {A : Option Addr} {l : List α} (h : Sl size f w lo hi A n l) (hk : k ≤ n) : Sl size f w lo hi A k (l.take k) := by
  refine ⟨by rw [List.length_take, h.len]; omega, fun hn => ?_⟩
  obtain ⟨b, off, rfl, g1, g2, g3, hcell⟩ := h.at_ (by omega)
  refine ⟨b, off, rfl, g1, g2, g3, fun i x hx j u hu => ?_⟩
  rw [List.getElem?_take] at hx
  split at hx
  · exact hcell i x hx j u hu
  · cases hx

/-- `s[k:]`. -/
theorem run_cut {P : Program} {t e : TypeId} {size bytes : Nat} (hE : Elem P t e size bytes) (A : Option Addr) (n c k : Nat) (hk : k ≤ n) (W : World) :
    (Instr.slice t (.slice A n c) (some (.int .i64 (k : Int))) none none).run P W = .ok (.slice (cutA A k c size) (n - k) (c - k)) W := by
  obtain ⟨ht, _, _, i, z, hi, _, hs, _⟩ := hE
  have he : P.elem t = e := by simp [Program.elem, ht]
  rw [run_slice_l W t A n c (by rw [he]; exact ht) .i64 k (by omega) (by omega)]
  simp [sizeOf, typeInfo, he, hi, hs, sliced, cutA]

/-- `s[:k]`. -/
theorem run_head {P : Program} {t e : TypeId} {size bytes : Nat} (hE : Elem P t e size bytes) (A : Option Addr) (n c k : Nat) (hk : k ≤ c) (W : World) :
    (Instr.slice t (.slice A n c) none (some (.int .i64 (k : Int))) none).run P W = .ok (.slice A k c) W := by
  obtain ⟨ht, _, _, i, z, hi, _, hs, _⟩ := hE
  have he : P.elem t = e := by simp [Program.elem, ht]
  rw [run_slice_h W t A n c (by rw [he]; exact ht) .i64 k (by omega) (by omega)]
  have ha : A.map (fun x => x.add 0) = A := by cases A <;> simp [Addr.add]
  simp [sizeOf, typeInfo, he, hi, hs, sliced, ha]

theorem Own.take {α : Type} {size : Nat} {f : α → List Value} {w : World} {base n c k : Nat} {e : TypeId} {A : Option Addr} {l : List α} (hf : Flat f size) (h : Own size f w base e A n c l) (hk : k ≤ n) : Own size f w base e A k c (l.take k) := by
  have hl : (l.take k).length = k := by rw [List.length_take, h.1]; omega
  have hfl : (l.take k).flatMap f = (l.flatMap f).take (k * size) := by
    have h1 : l.flatMap f = (l.take k).flatMap f ++ (l.drop k).flatMap f := by rw [← List.flatMap_append, List.take_append_drop]
    rw [h1]
    have h2 := flat_length hf (l.take k)
    rw [hl] at h2
    rw [← h2, List.take_left]
  refine ⟨hl, by rw [flat_length hf, hl], ?_⟩
  rcases h.2.2 with ⟨hv, h0⟩ | ⟨g, cap, cur, hv, hb, hg, hnc, hcm, hcs, htake⟩
  · injection hv with h1 _ h3
    subst h1 h3
    have : k = 0 := by omega
    subst this
    exact .inl ⟨rfl, rfl⟩
  · injection hv with h1 _ h3
    subst h1 h3
    refine .inr ⟨g, c, cur, rfl, hb, hg, by omega, hcm, hcs, ?_⟩
    rw [hfl, ← htake, List.take_take]
    congr 1
    have := Nat.mul_le_mul_right size hk
    omega

theorem Own.cap {α : Type} {size : Nat} {f : α → List Value} {w : World} {base n c : Nat} {e : TypeId} {A : Option Addr} {l : List α} (h : Own size f w base e A n c l) : n ≤ c := by
  rcases h.2.2 with ⟨hv, h0⟩ | ⟨g, cap, cur, hv, _, _, hnc, _⟩
  · omega
  · injection hv with _ _ h3
    omega

/-- A slice value as an element. -/
def sv (x : Option Addr × Nat × Nat) : List Value := [.slice x.1 x.2.1 x.2.2]
theorem flat_sv : Flat sv 1 := ⟨fun _ => rfl, fun x u h => by simp [sv] at h; subst h; rfl⟩

/-- Rows of different element types are different rows. -/
theorem Own.apart {α β : Type} {size size' : Nat} {f : α → List Value} {f' : β → List Value} {w : World} {base base' n c n' c' : Nat} {e e' : TypeId} {A A' : Option Addr} {l : List α} {l' : List β}
    (h : Own size f w base e A n c l) (g : Own size' f' w base' e' A' n' c' l') (he : e ≠ e') : (Value.slice A n c).ownBlock = none ∨ (Value.slice A n c).ownBlock ≠ (Value.slice A' n' c').ownBlock := by
  rcases h.2.2 with ⟨hv, _⟩ | ⟨b, cap, cur, hv, _, hb, _⟩
  · left; rw [hv]; rfl
  · right
    intro e1
    rcases g.2.2 with ⟨hv', _⟩ | ⟨b', cap', cur', hv', _, hb', _⟩
    · rw [hv, hv'] at e1; simp [Value.ownBlock] at e1
    · rw [hv, hv'] at e1
      simp [Value.ownBlock] at e1
      subst e1
      rw [hb] at hb'
      injection hb' with hb'
      injection hb' with _ ht
      exact he ht
theorem Own.kept {α : Type} {size : Nat} {f : α → List Value} {w w' : World} {base n c : Nat} {e : TypeId} {A : Option Addr} {l : List α} {row : Option Nat} (h : Own size f w base e A n c l) (hg : w.grownBy w' row) (hne : (Value.slice A n c).ownBlock = none ∨ (Value.slice A n c).ownBlock ≠ row) :
    Own size f w' base e A n c l := ⟨h.1, h.2.kept hg hne⟩

end Go.Proofs.YtiaclddgllkgpaaGreatDoor
