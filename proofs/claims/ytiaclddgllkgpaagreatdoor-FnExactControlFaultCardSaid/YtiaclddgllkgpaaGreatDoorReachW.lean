/-
  Words for the reference's pairs while they grow: rows of two numbers, edges, the struct that leads to both. Conditions: none.
-/
import Derived.Test.YtiaclddgllkgpaaGreatDoorFauS
namespace Go.Proofs.YtiaclddgllkgpaaGreatDoor
open Go.ChangeShapes Go.WideShapes Go.ChangeAt Go.RowKit Go.Sort
set_option linter.unusedVariables false
set_option linter.unusedSimpArgs false

section
variable {α : Type} {size : Nat} {f : α → List Value} {w w' : World} {base n c : Nat} {e : TypeId} {A : Option Addr} {l : List α}
/-- A row that grows lies in a block of its elements' type. -/
theorem Own.typed (h : Own size f w base e A n c l) {g : Nat} (hg : (Value.slice A n c).ownBlock = some g) : base ≤ g ∧ g < w.heap.size ∧ ∃ cur, w.heap[g]? = some (.cells cur e (0, 0)) := by
  refine ⟨(h.lt g hg).1, (h.lt g hg).2, ?_⟩
  rcases h.2.2 with ⟨hv, _⟩ | ⟨b, cap, cur, hv, _, hb, _⟩
  · rw [hv] at hg; cases hg
  · rw [hv] at hg
    obtain rfl : b = g := by injection hg
    exact ⟨cur, hb⟩
theorem Own.other (h : Own size f w base e A n c l) {b : Nat} {cur : Array Value} {t : TypeId} {z : Nat × Nat} (hb : w.heap[b]? = some (.cells cur t z)) (ht : t ≠ e) : some b ≠ (Value.slice A n c).ownBlock := fun e1 => by
  obtain ⟨-, -, cu, h1⟩ := h.typed e1.symm
  rw [hb] at h1
  injection h1 with h1
  injection h1 with _ h1
  exact ht h1
theorem grown_block {row : Option Nat} (hg : w.grownBy w' row) {b : Nat} {o : Obj} (hb : w.heap[b]? = some o) (hne : some b ≠ row) : w'.heap[b]? = some o :=
  (hg.block b (Array.getElem?_eq_some_iff.1 hb).1 hne).trans hb
end

theorem elem_int64S : Elem Tryz.prog 113 26 1 24 := Elem.of (z := .slice none 0 0) Tryz.underlying113 (by kernel_rfl) rfl (by omega) (by omega)

theorem alloc_some {w : World} {o : Obj} {a : Addr} {v : Value} (h : w.cell? a = some v) : (w.alloc o).cell? a = some v := (World.cell?_alloc_some w a o (by rw [h]; rfl)).trans h
abbrev hdG (g : Nat × PR) : Hd := (some ⟨g.1, 0, none⟩, 2, 2)
/-- Rows of two numbers, each in a block of its own. -/
structure GrowP (w : World) (base : Nat) (A : Option Addr) (n c : Nat) (G : List (Nat × PR)) : Prop where
  own : Own 1 sv w base 26 A n c (G.map hdG)
  rows : ∀ g ∈ G, base ≤ g.1 ∧ w.heap[g.1]? = some (.cells #[.int .i64 g.2.1, .int .i64 g.2.2] 2 (0, 0))
  nd : (G.map (·.1)).Nodup
theorem Sl.pair {w : World} {b : Nat} {t : TypeId} {x y : Int} (h : w.heap[b]? = some (.cells #[.int .i64 x, .int .i64 y] t (0, 0))) {lo hi : Nat} (h1 : lo ≤ b) (h2 : b < hi) : SlI w lo hi (some ⟨b, 0, none⟩) 2 [x, y] := by
  refine ⟨rfl, fun _ => ⟨b, 0, rfl, h1, h2, (Array.getElem?_eq_some_iff.1 h).1, fun k z hz j u hu => ?_⟩⟩
  match k, j, hz, hu with
  | 0, 0, hz, hu =>
    simp at hz
    subst hz
    exact ⟨(cell_of_row _ _ _ _ t (0, 0) h).trans (by simpa [iv] using hu), frozen_of_row _ _ _ _ t h⟩
  | 1, 0, hz, hu =>
    simp at hz
    subst hz
    exact ⟨(cell_of_row _ _ _ _ t (0, 0) h).trans (by simpa [iv] using hu), frozen_of_row _ _ _ _ t h⟩
  | 0, k + 1, _, hu => simp [iv] at hu
  | 1, k + 1, _, hu => simp [iv] at hu
  | k + 2, _, hz, _ => simp at hz
section
variable {w w' : World} {base n c : Nat} {A : Option Addr} {G : List (Nat × PR)}
theorem GrowP.len (h : GrowP w base A n c G) : G.length = n := by have := h.own.1; rwa [List.length_map] at this
theorem GrowP.kept (h : GrowP w base A n c G) (hk : ∀ b, b < w.heap.size → w'.heap[b]? = w.heap[b]?) : GrowP w' base A n c G :=
  ⟨h.own.keep fun g hg => hk g (h.own.lt g hg).2, fun g hg => ⟨(h.rows g hg).1, (hk g.1 (Array.getElem?_eq_some_iff.1 (h.rows g hg).2).1).trans (h.rows g hg).2⟩, h.nd⟩
/-- Another block is written. -/
theorem GrowP.set (h : GrowP w base A n c G) {p : Addr} {cur : Array Value} {t : TypeId} {z : Nat × Nat} (hb : w.heap[p.block]? = some (.cells cur t z)) (h1 : t ≠ 26) (h2 : t ≠ 2) (u : Value) : GrowP (w.setCell p u) base A n c G :=
  ⟨h.own.keep fun g hg => Below.heap_setCell _ _ _ _ fun e => h.own.other hb h1 (by rw [hg, e]), fun g hg => ⟨(h.rows g hg).1, (Below.heap_setCell _ _ _ _ fun e => by
    have := (h.rows g hg).2
    rw [e, hb] at this
    injection this with this
    injection this with _ this
    exact h2 this).trans (h.rows g hg).2⟩, h.nd⟩
theorem GrowP.grown (h : GrowP w base A n c G) {β : Type} {size : Nat} {f : β → List Value} {e : TypeId} {B : Option Addr} {m d : Nat} {l : List β} (ho : Own size f w base e B m d l) (h1 : e ≠ 26) (h2 : e ≠ 2) (hg : w.grownBy w' (Value.slice B m d).ownBlock) : GrowP w' base A n c G :=
  ⟨h.own.kept hg (by
    rcases h.own.apart ho (fun e1 => h1 e1.symm) with h3 | h3
    · exact .inl h3
    · exact .inr h3), fun g hg' => ⟨(h.rows g hg').1, grown_block hg (h.rows g hg').2 (ho.other (h.rows g hg').2 (fun e1 => h2 e1.symm))⟩, h.nd⟩
theorem GrowP.nest (h : GrowP w base A n c G) : Nest 1 iv w 0 w.heap.size A n (G.map fun g => (hdG g, [g.2.1, g.2.2])) := by
  refine ⟨?_, fun r hr => ?_, ?_, fun r hr => ?_⟩
  · rw [List.map_map]
    exact (h.own.sl flat_sv).more (Nat.zero_le _) (Nat.le_refl _)
  · obtain ⟨g, hg, rfl⟩ := List.mem_map.1 hr
    exact ⟨Sl.pair (h.rows g hg).2 (Nat.zero_le _) (Array.getElem?_eq_some_iff.1 (h.rows g hg).2).1, show 2 ≤ 1048576 by decide⟩
  · refine List.pairwise_map.2 ((List.pairwise_map.1 h.nd).imp fun {a b} hne => ?_)
    show offS (spanOf (some ⟨a.1, 0, none⟩, 2, 2)) (spanOf (some ⟨b.1, 0, none⟩, 2, 2))
    rw [spanOf_pos _ _ _ (by omega), spanOf_pos _ _ _ (by omega)]
    unfold offS
    show a.1 + 1 ≤ b.1 ∨ b.1 + 1 ≤ a.1
    omega
  · obtain ⟨g, hg, rfl⟩ := List.mem_map.1 hr
    show offS _ (spanOf (some ⟨g.1, 0, none⟩, 2, 2))
    rw [spanOf_pos _ _ _ (by omega)]
    have hne := h.own.other (h.rows g hg).2 (by decide)
    rcases h.own.2.2 with ⟨hv, h0⟩ | ⟨b, cap, cur, hv, _⟩
    · subst h0
      rw [spanOf_zero]
      exact .inl (Nat.zero_le _)
    · rw [hv] at hne
      injection hv with e1 e2 e3
      subst e1
      rcases Nat.eq_zero_or_pos n with h0 | h0
      · subst h0
        rw [spanOf_zero]
        exact .inl (Nat.zero_le _)
      · rw [spanOf_pos _ _ _ h0]
        unfold offS
        show b + 1 ≤ g.1 ∨ g.1 + 1 ≤ b
        have : g.1 ≠ b := fun e => hne (by rw [e]; rfl)
        omega
/-- A row more. -/
theorem GrowP.push (h : GrowP w base A n c G) {g : Nat × PR} (hg : w.heap[g.1]? = some (.cells #[.int .i64 g.2.1, .int .i64 g.2.2] 2 (0, 0))) (hb : base ≤ g.1) (hn : g.1 ∉ G.map (·.1)) {o : Obj}
    {A' : Option Addr} {c' : Nat} (ho : Own 1 sv w' base 26 A' (n + 1) c' (G.map hdG ++ [hdG g])) (hgr : (w.alloc o).grownBy w' (Value.slice A n c).ownBlock) : GrowP w' base A' (n + 1) c' (G ++ [g]) := by
  have hk : ∀ (x : Nat × PR), w.heap[x.1]? = some (.cells #[.int .i64 x.2.1, .int .i64 x.2.2] 2 (0, 0)) → w'.heap[x.1]? = some (.cells #[.int .i64 x.2.1, .int .i64 x.2.2] 2 (0, 0)) := fun x hx =>
    grown_block hgr ((Below.heap_alloc _ _ _ (Array.getElem?_eq_some_iff.1 hx).1).trans hx) (h.own.other hx (by decide))
  refine ⟨by rw [List.map_append]; exact ho, fun x hx => ?_, ?_⟩
  · rcases List.mem_append.1 hx with hx | hx
    · exact ⟨(h.rows x hx).1, hk x (h.rows x hx).2⟩
    · obtain rfl := List.mem_singleton.1 hx
      exact ⟨hb, hk x hg⟩
  · rw [List.map_append]
    refine List.nodup_append.2 ⟨h.nd, by simp, ?_⟩
    intro a ha b hb e
    simp at hb
    subst e hb
    exact hn ha
end

/-- append, at a step of a region that draws its order. -/
theorem step_app {P : Program} {α : Type} {size bytes : Nat} {f : α → List Value} {t e : TypeId} {w : World} {ops : Array Oper} {o : Oper} {a : Act} {K : Act → World → Prop} {Q : Exit → Act → World → Prop} {E : Prop} (hgd : o.guard = none) (s x : Operand)
    (ho : o.op = .call { callee := .builtin .append, args := #[s, x], argTypes := #[t, t] }) (hE : Elem P t e size bytes) (hf : Flat f size)
    {base n c : Nat} {A : Option Addr} {l : List α} (hs : a.eval s = .slice A n c) (hown : Own size f w base e A n c l)
    {B : Option Addr} {m d lo hi : Nat} {r : List α} (hx : a.eval x = .slice B m d) (hr : Sl size f w lo hi B m r) (hsz : (n + m) * bytes ≤ 140737488355328) (hbase : base ≤ w.heap.size)
    (h : ∀ A' c' w', Own size f w' base e A' (n + m) c' (l ++ r) → w.grownBy w' (Value.slice A n c).ownBlock → Below base w w' →
      ((Value.slice A' (n + m) c').ownBlock = (Value.slice A n c).ownBlock ∨ (Value.slice A' (n + m) c').ownBlock = some w.heap.size) → K (a.put o.dst (.slice A' (n + m) c')) w') :
    if Region.wanted o (yielded ops a.tmps) = true then Oper.wp P o a w K Q else E := by
  have hw : Region.wanted o (yielded ops a.tmps) = true := by simp [Region.wanted, hgd]
  rw [if_pos hw]
  obtain ⟨A', c', w', h1, h2, h3, h4⟩ := run_app w hE hf o.type hown (d := d) hr hsz hbase
  unfold Oper.wp execOp
  simp only [ho, resolve, invoke, builtin, Sem.run_bind, Sem.run_pure, Result.andThen_ok, List.map_toArray, List.map_cons, List.map_nil, hs, hx, h1]
  exact h _ _ _ h2 h3 ((Below.refl _ _).grown h3 hbase fun k hk => (hown.lt k hk).1) h4

/-- The reference's pairs as they grow. -/
structure ReachS (w : World) (base bx bp bd : Nat) (A : Option Addr) (n c : Nat) (G : List (Nat × PR)) (B : Option Addr) (m d : Nat) (E : List Ed) (fl : Bool) : Prop where
  lb : base ≤ bx
  cells : w.heap[bx]? = some (.cells #[.pointer (some ⟨bp, 0, none⟩), .pointer (some ⟨bd, 0, none⟩), .slice A n c, .slice B m d, .bool fl] 126 (0, 0))
  gp : GrowP w base A n c G
  ge : Own 3 ev w base 86 B m d E
section
variable {w w' : World} {base bx bp bd n c m d : Nat} {A B : Option Addr} {G : List (Nat × PR)} {E : List Ed} {fl : Bool}
theorem ReachS.lt (h : ReachS w base bx bp bd A n c G B m d E fl) : bx < w.heap.size := (Array.getElem?_eq_some_iff.1 h.cells).1
theorem ReachS.kept (h : ReachS w base bx bp bd A n c G B m d E fl) (hk : ∀ b, b < w.heap.size → w'.heap[b]? = w.heap[b]?) : ReachS w' base bx bp bd A n c G B m d E fl :=
  ⟨h.lb, (hk bx h.lt).trans h.cells, h.gp.kept hk, h.ge.keep fun g hg => hk g (h.ge.lt g hg).2⟩
theorem ReachS.below (h : ReachS w base bx bp bd A n c G B m d E fl) (hb : Below w.heap.size w w') : ReachS w' base bx bp bd A n c G B m d E fl := h.kept hb.block
theorem ReachS.facts (h : ReachS w base bx bp bd A n c G B m d E fl) : w.cell? ⟨bx, 0, none⟩ = some (.pointer (some ⟨bp, 0, none⟩)) ∧ w.cell? ⟨bx, 1, none⟩ = some (.pointer (some ⟨bd, 0, none⟩)) ∧ w.cell? ⟨bx, 2, none⟩ = some (.slice A n c) ∧
    w.cell? ⟨bx, 3, none⟩ = some (.slice B m d) ∧ w.cell? ⟨bx, 4, none⟩ = some (.bool fl) :=
  ⟨(cell_of_row _ _ 0 _ _ (0, 0) h.cells).trans rfl, (cell_of_row _ _ 1 _ _ (0, 0) h.cells).trans rfl, (cell_of_row _ _ 2 _ _ (0, 0) h.cells).trans rfl, (cell_of_row _ _ 3 _ _ (0, 0) h.cells).trans rfl, (cell_of_row _ _ 4 _ _ (0, 0) h.cells).trans rfl⟩
/-- Behind an append to the rows, ahead of its store. -/
theorem ReachS.mid2 (h : ReachS w base bx bp bd A n c G B m d E fl) {o : Obj} (hgr : (w.alloc o).grownBy w' (Value.slice A n c).ownBlock) : w'.heap[bx]? = some (.cells #[.pointer (some ⟨bp, 0, none⟩), .pointer (some ⟨bd, 0, none⟩), .slice A n c, .slice B m d, .bool fl] 126 (0, 0)) :=
  grown_block hgr ((Below.heap_alloc _ _ _ h.lt).trans h.cells) (h.gp.own.other h.cells (by decide))
theorem ReachS.mid3 (h : ReachS w base bx bp bd A n c G B m d E fl) {o : Obj} (hgr : (w.alloc o).grownBy w' (Value.slice B m d).ownBlock) : w'.heap[bx]? = some (.cells #[.pointer (some ⟨bp, 0, none⟩), .pointer (some ⟨bd, 0, none⟩), .slice A n c, .slice B m d, .bool fl] 126 (0, 0)) :=
  grown_block hgr ((Below.heap_alloc _ _ _ h.lt).trans h.cells) (h.ge.other h.cells (by decide))
theorem ReachS.row (h : ReachS w base bx bp bd A n c G B m d E fl) {g : Nat × PR} (hg : w.heap[g.1]? = some (.cells #[.int .i64 g.2.1, .int .i64 g.2.2] 2 (0, 0))) (hb : base ≤ g.1) (hn : g.1 ∉ G.map (·.1)) {o : Obj}
    {A' : Option Addr} {c' : Nat} (ho : Own 1 sv w' base 26 A' (n + 1) c' (G.map hdG ++ [hdG g])) (hgr : (w.alloc o).grownBy w' (Value.slice A n c).ownBlock) :
    ReachS (w'.setCell ⟨bx, 2, none⟩ (.slice A' (n + 1) c')) base bx bp bd A' (n + 1) c' (G ++ [g]) B m d E fl := by
  have h2 := h.mid2 hgr
  have gp := h.gp.push hg hb hn ho hgr
  have ge : Own 3 ev w' base 86 B m d E := (h.ge.alloc o).kept hgr (by
    rcases (h.ge.alloc o).apart (h.gp.own.alloc o) (by decide) with h3 | h3
    · exact .inl h3
    · exact .inr h3)
  exact ⟨h.lb, heap_setCell_same _ _ 2 _ _ _ h2, gp.set h2 (by decide) (by decide) _, ge.keep fun g hg => Below.heap_setCell _ _ _ _ fun e => ge.other h2 (by decide) (by rw [hg, e])⟩
theorem ReachS.edge (h : ReachS w base bx bp bd A n c G B m d E fl) {o : Obj} {B' : Option Addr} {d' : Nat} {E' : List Ed} (ho : Own 3 ev w' base 86 B' (m + 1) d' E') (hgr : (w.alloc o).grownBy w' (Value.slice B m d).ownBlock) :
    ReachS (w'.setCell ⟨bx, 3, none⟩ (.slice B' (m + 1) d')) base bx bp bd A n c G B' (m + 1) d' E' fl := by
  have h2 := h.mid3 hgr
  have gp : GrowP w' base A n c G := (h.gp.kept (w' := w.alloc o) fun b hb => Below.heap_alloc _ _ _ hb).grown (h.ge.alloc o) (by decide) (by decide) hgr
  exact ⟨h.lb, heap_setCell_same _ _ 3 _ _ _ h2, gp.set h2 (by decide) (by decide) _, ho.keep fun g hg => Below.heap_setCell _ _ _ _ fun e => ho.other h2 (by decide) (by rw [hg, e])⟩
theorem ReachS.flag (h : ReachS w base bx bp bd A n c G B m d E fl) (b : Bool) : ReachS (w.setCell ⟨bx, 4, none⟩ (.bool b)) base bx bp bd A n c G B m d E b :=
  ⟨h.lb, heap_setCell_same _ _ 4 _ _ _ h.cells, h.gp.set h.cells (by decide) (by decide) _, h.ge.keep fun g hg => Below.heap_setCell _ _ _ _ fun e => h.ge.other h.cells (by decide) (by rw [hg, e])⟩
end

/-- Blocks from s0 on and below s1 are none of those that grow. -/
def AwayS (bx : Nat) (A B : Option Addr) (n c m d s0 s1 : Nat) : Prop := (bx < s0 ∨ s1 ≤ bx) ∧ (∀ g, (Value.slice A n c).ownBlock = some g → g < s0 ∨ s1 ≤ g) ∧ ∀ g, (Value.slice B m d).ownBlock = some g → g < s0 ∨ s1 ≤ g
theorem AwayS.row {bx n c m d s0 s1 : Nat} {A B : Option Addr} (h : AwayS bx A B n c m d s0 s1) {w w' : World} {o : Obj} (hw : s1 ≤ w.heap.size) {A' : Option Addr} {c' : Nat} (hgr : (w.alloc o).grownBy w' (Value.slice A n c).ownBlock)
    (hat : (Value.slice A' (n + 1) c').ownBlock = (Value.slice A n c).ownBlock ∨ (Value.slice A' (n + 1) c').ownBlock = some (w.alloc o).heap.size) (u : Value) (i : Nat) :
    AwayS bx A' B (n + 1) c' m d s0 s1 ∧ ∀ b, s0 ≤ b → b < s1 → (w'.setCell ⟨bx, i, none⟩ u).heap[b]? = w.heap[b]? := by
  refine ⟨⟨h.1, fun g hg => ?_, h.2.2⟩, fun b h1 h2 => ?_⟩
  · rcases hat with h1 | h1
    · exact h.2.1 g (by rw [← h1]; exact hg)
    · rw [h1] at hg
      injection hg with hg
      rw [World.size_alloc] at hg
      omega
  · have hb : b < w.heap.size := by omega
    rw [Below.heap_setCell _ _ _ _ (by have := h.1; show b ≠ bx; omega), hgr.block b (by rw [World.size_alloc]; omega) (fun e => by have := h.2.1 b e.symm; omega)]
    exact Below.heap_alloc _ _ _ hb
theorem AwayS.edge {bx n c m d s0 s1 : Nat} {A B : Option Addr} (h : AwayS bx A B n c m d s0 s1) {w w' : World} {o : Obj} (hw : s1 ≤ w.heap.size) {B' : Option Addr} {d' : Nat} (hgr : (w.alloc o).grownBy w' (Value.slice B m d).ownBlock)
    (hat : (Value.slice B' (m + 1) d').ownBlock = (Value.slice B m d).ownBlock ∨ (Value.slice B' (m + 1) d').ownBlock = some (w.alloc o).heap.size) (u : Value) (i : Nat) :
    AwayS bx A B' n c (m + 1) d' s0 s1 ∧ ∀ b, s0 ≤ b → b < s1 → (w'.setCell ⟨bx, i, none⟩ u).heap[b]? = w.heap[b]? := by
  refine ⟨⟨h.1, h.2.1, fun g hg => ?_⟩, fun b h1 h2 => ?_⟩
  · rcases hat with h1 | h1
    · exact h.2.2 g (by rw [← h1]; exact hg)
    · rw [h1] at hg
      injection hg with hg
      rw [World.size_alloc] at hg
      omega
  · have hb : b < w.heap.size := by omega
    rw [Below.heap_setCell _ _ _ _ (by have := h.1; show b ≠ bx; omega), hgr.block b (by rw [World.size_alloc]; omega) (fun e => by have := h.2.2 b e.symm; omega)]
    exact Below.heap_alloc _ _ _ hb

end Go.Proofs.YtiaclddgllkgpaaGreatDoor
