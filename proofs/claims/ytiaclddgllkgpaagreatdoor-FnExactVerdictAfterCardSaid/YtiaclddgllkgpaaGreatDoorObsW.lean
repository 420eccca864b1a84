/-
  A table of rows in memory, and the questions that the program asks of it. Conditions: none.
-/
import Derived.Test.YtiaclddgllkgpaaGreatDoorSettle
import Derived.Deep.RegionLaw
import Derived.Laws.EntriesVeiled
import Derived.OneCell
namespace Go.Proofs.YtiaclddgllkgpaaGreatDoor
open Go.ChangeShapes Go.WideShapes Go.ChangeAt Go.RowKit Go.Sort
set_option linter.unusedVariables false
set_option linter.unusedSimpArgs false

/-- w' is w but for one block, and new blocks. -/
structure Sav (x : Nat) (w w' : World) : Prop where
  os : w'.os = w.os
  tape : w'.tape = w.tape
  output : w'.output = w.output
  size : w.heap.size ≤ w'.heap.size
  block : ∀ b, b < w.heap.size → b ≠ x → w'.heap[b]? = w.heap[b]?
theorem Sav.refl (x : Nat) (w : World) : Sav x w w := ⟨rfl, rfl, rfl, Nat.le_refl _, fun _ _ _ => rfl⟩
theorem Sav.trans {x : Nat} {a b c : World} (h : Sav x a b) (g : Sav x b c) : Sav x a c :=
  ⟨g.os.trans h.os, g.tape.trans h.tape, g.output.trans h.output, Nat.le_trans h.size g.size, fun y hy hn => (g.block y (Nat.lt_of_lt_of_le hy h.size) hn).trans (h.block y hy hn)⟩
theorem Sav.of_below {x : Nat} {w w' : World} (h : Below w.heap.size w w') : Sav x w w' := ⟨h.os, h.tape, h.output, h.size, fun b hb _ => h.block b hb⟩
theorem Sav.below {x : Nat} {w w' : World} {B : Nat} (h : Sav x w w') (hx : B ≤ x) (hB : B ≤ w.heap.size) : Below B w w' :=
  ⟨h.os, h.tape, h.output, h.size, fun b hb => h.block b (by omega) (by omega)⟩
theorem Sav.set (w : World) (p : Addr) (u : Value) : Sav p.block w (w.setCell p u) := ⟨rfl, rfl, rfl, by rw [World.size_setCell]; exact Nat.le_refl _, fun b hb hn => Below.heap_setCell _ _ _ _ hn⟩
theorem Sav.kept {x : Nat} {w w' : World} (h : Sav x w w') {b : Nat} {o : Obj} (hb : w.heap[b]? = some o) (hn : b ≠ x) : w'.heap[b]? = some o := (h.block b (Array.getElem?_eq_some_iff.1 hb).1 hn).trans hb

theorem Sav.cell {x : Nat} {w w' : World} (h : Sav x w w') {p : Addr} {v : Value} (hp : w.cell? p = some v) (hl : p.block < w.heap.size) (hn : p.block ≠ x) : w'.cell? p = some v := (World.cell?_of_block (w := w) (by simpa using h.block p.block hl hn)).trans hp

/-- The slice at block b0 is a table: each row in a block of its own. -/
structure MatAt (w : World) (lo b0 n p : Nat) (M : List (List Bool)) : Prop where
  sh : ShM n p M
  lb : lo ≤ b0
  lt : b0 < w.heap.size
  rows : ∃ f g : Nat → Nat, (∀ i, i < n → b0 + 1 < f i ∧ f i < w.heap.size ∧ w.cell? ⟨b0, i, none⟩ = some (.slice (some ⟨f i, g i, none⟩) p p)) ∧ (∀ i j, i < j → j < n → f i < f j) ∧ ∀ i r, M[i]? = some r → SlB w (f i) (f i + 1) (some ⟨f i, g i, none⟩) p r
section
variable {w w' : World} {lo b0 n p : Nat} {M : List (List Bool)}
theorem MatAt.keep (h : MatAt w lo b0 n p M) (hs : w.heap.size ≤ w'.heap.size) (hk : ∀ b, lo ≤ b → b < w.heap.size → w'.heap[b]? = w.heap[b]?) : MatAt w' lo b0 n p M := by
  obtain ⟨sh, lb, lt, f, g, h1, h2, h3⟩ := h
  refine ⟨sh, lb, by omega, f, g, fun i hi => ?_, h2, fun i r hr => ?_⟩
  · obtain ⟨e1, e2, e3⟩ := h1 i hi
    exact ⟨e1, by omega, (World.cell?_of_block (w := w) (by simpa using hk b0 lb lt)).trans e3⟩
  · have hi : i < n := by rw [← sh.1]; exact (List.getElem?_eq_some_iff.1 hr).1
    obtain ⟨e1, e2, e3⟩ := h1 i hi
    exact (h3 i r hr).keep hs fun b g1 g2 g3 => hk b (by omega) g3
theorem MatAt.sav {x : Nat} (h : MatAt w lo b0 n p M) (hs : Sav x w w') (hx : x < lo) : MatAt w' lo b0 n p M := h.keep hs.size fun b h1 h2 => hs.block b h2 (by omega)
theorem MatAt.below (h : MatAt w lo b0 n p M) (hb : Below w.heap.size w w') : MatAt w' lo b0 n p M := h.keep hb.size fun b _ hl => hb.block b hl
theorem MatAt.more {lo' : Nat} (h : MatAt w lo b0 n p M) (hl : lo' ≤ lo) : MatAt w lo' b0 n p M := ⟨h.sh, Nat.le_trans hl h.lb, h.lt, h.rows⟩
theorem MatAt.get (h : MatAt w lo b0 n p M) {x y : Nat} (hx : x < n) (hy : y < p) : ∃ b o c, getM M x y = some c ∧ b0 + 1 < b ∧ b < w.heap.size ∧ w.cell? ⟨b0, x, none⟩ = some (.slice (some ⟨b, o, none⟩) p p) ∧
    w.cell? ⟨b, o + y, none⟩ = some (.bool c) ∧ w.frozen? ⟨b, o + y, none⟩ = false ∧ ∀ d, MatAt (w.setCell ⟨b, o + y, none⟩ (.bool d)) lo b0 n p (setM M x y d) := by
  obtain ⟨sh, lb, lt, f, g, h1, h2, h3⟩ := h
  obtain ⟨r, c, hr, hrl, hc, hg⟩ := sh.get hx hy
  obtain ⟨e1, e2, e3⟩ := h1 x hx
  have hS := h3 x r hr
  obtain ⟨b, off, e, -, -, -, hl, c0, c1⟩ := hS.get hy
  injection e with e
  injection e with eb eo
  subst eb eo
  rw [inS_some hc] at c0
  refine ⟨f x, g x, c, hg, e1, e2, e3, c0, c1, fun d => ⟨sh.set d hx, lb, by rw [World.size_setCell]; exact lt, f, g, fun i hi => ?_, h2, fun i q hq => ?_⟩⟩
  · obtain ⟨a1, a2, a3⟩ := h1 i hi
    exact ⟨a1, by rw [World.size_setCell]; exact a2, (World.cell?_of_block (w := w) (by simpa using Below.heap_setCell _ _ _ _ (show b0 ≠ f x by omega))).trans a3⟩
  · unfold setM at hq
    by_cases hix : i = x
    · subst hix
      rw [List.getElem?_set_self (by rw [sh.1]; exact hx), hr] at hq
      obtain rfl := Option.some.inj hq
      exact hS.put hy d
    · rw [List.getElem?_set_ne (fun e => hix e.symm)] at hq
      have hi : i < n := by rw [← sh.1]; exact (List.getElem?_eq_some_iff.1 hq).1
      have hne : f i ≠ f x := by
        rcases Nat.lt_or_ge i x with h5 | h5
        · have := h2 i x h5 hx; omega
        · have := h2 x i (by omega) hi; omega
      exact (h3 i q hq).keep (by rw [World.size_setCell]; exact Nat.le_refl _) fun b g1 g2 g3 => Below.heap_setCell _ _ _ _ (show b ≠ f x by omega)
end

/-- The table holds the pair. -/
def hasM (M : List (List Bool)) (z : Int × Int) : Bool := decide (0 ≤ z.2) && ((getM M z.1.toNat z.2.toNat).getD false)

set_option maxRecDepth 100000 in
set_option maxHeartbeats 800000 in
theorem has_calls (bm lo b0 n p : Nat) (M : List (List Bool)) (v u : Int) (w : World) (hm : w.heap[bm]? = some (.cells #[.slice (some ⟨b0, 0, none⟩) n n] 137 (0, 0))) (h : MatAt w lo b0 n p M) (hv0 : 0 ≤ v) (hv1 : v < (n : Int)) (hu : u < (p : Int)) :
    Calls Tryz.prog 213 #[.int .i64 v, .int .i64 u, .pointer (some ⟨bm, 0, none⟩)] w (Says (hasM M (v, u)) w) := by
  have cM : w.cell? ⟨bm, 0, none⟩ = some (.slice (some ⟨b0, 0, none⟩) n n) := (cell_of_row _ _ 0 _ _ (0, 0) hm).trans rfl
  by_cases h0 : u < 0
  · have hr : Hid (hasM M (v, u) = false) := by
      show _ = _
      unfold hasM
      rw [decide_eq_false (by show ¬ (0 : Int) ≤ u; omega), Bool.false_and]
    have hI : ¬ (0 : Int) ≤ u := by omega
    clear hm h
    go_enter Tryz.func213, Tryz.ntmps213
    go_wp2
    go_ret
    exact ⟨ret_b (by rw [hr.out]), Below.refl _ _⟩
  · obtain ⟨x, rfl⟩ : ∃ x : Nat, v = (x : Int) := ⟨v.toNat, by omega⟩
    obtain ⟨y, rfl⟩ : ∃ y : Nat, u = (y : Int) := ⟨u.toNat, by omega⟩
    obtain ⟨b, o, c, hg, g1, g2, c0, c1, -, -⟩ := h.get (x := x) (y := y) (by omega) (by omega)
    have hr : Hid (hasM M ((x : Int), (y : Int)) = c) := by
      show _ = _
      unfold hasM
      rw [decide_eq_true (by show (0 : Int) ≤ (y : Int); omega), Bool.true_and]
      simp only [Int.toNat_natCast, hg, Option.getD_some]
    have hI : (0 : Int) ≤ (y : Int) := by omega
    have hI2 : (0 : Int) ≤ (x : Int) := by omega
    clear hm h h0 hg
    go_enter Tryz.func213, Tryz.ntmps213
    go_wp2
    go_ret
    exact ⟨ret_b (by rw [hr.out]), Below.refl _ _⟩

set_option maxRecDepth 100000 in
set_option maxHeartbeats 800000 in
theorem lea11_calls (b6 bm lo b0 n p : Nat) (M : List (List Bool)) (v u : Int) (w : World) (h6 : w.heap[b6]? = some (.cells #[.func (.func 213) #[] #[.pointer (some ⟨bm, 0, none⟩)]] 205 (0, 0)))
    (hm : w.heap[bm]? = some (.cells #[.slice (some ⟨b0, 0, none⟩) n n] 137 (0, 0))) (h : MatAt w lo b0 n p M) (hv0 : 0 ≤ v) (hv1 : v < (n : Int)) (hu : u < (p : Int)) :
    Calls Tryz.prog 189 #[.int .i64 v, .int .i64 u, .pointer (some ⟨b6, 0, none⟩)] w (Says (decide (u < 0) || hasM M (v, u)) w) := by
  have c6 : w.cell? ⟨b6, 0, none⟩ = some (.func (.func 213) #[] #[.pointer (some ⟨bm, 0, none⟩)]) := (cell_of_row _ _ 0 _ _ (0, 0) h6).trans rfl
  have q := hide (has_calls bm lo b0 n p M v u w hm h hv0 hv1 hu)
  clear h6 hm h
  by_cases h0 : u < 0
  · go_enter Tryz.func189, Tryz.ntmps189
    go_wp2
    go_ret
    exact ⟨ret_b (by rw [decide_eq_true h0, Bool.true_or]), Below.refl _ _⟩
  · go_enter Tryz.func189, Tryz.ntmps189
    go_wp2_with (first | (go_at_call 213; (with_reducible refine q.out.mono ?_); rintro e w1 ⟨rfl, hb1⟩))
    go_ret
    exact ⟨ret_b (by rw [decide_eq_false (by omega), Bool.false_or]), hb1⟩

set_option maxRecDepth 100000 in
set_option maxHeartbeats 800000 in
theorem any1_calls (Fi : FuncId) (ic : Array Value) (v u : Int) (f g : Bool) (bf bi : Nat) (w : World) (kf : w.heap[bf]? = some (.cells #[.bool f] 4 (0, 0))) (ki : w.heap[bi]? = some (.cells #[.func (.func Fi) #[] ic] 205 (0, 0)))
    (hF : ∀ (v u : Value) (W : World), Sem.run Tryz.prog (callFunc Fi (#[v, u] ++ ic)) W = .ok (.enter Fi (#[v, u] ++ ic)) W) (hcl : Calls Tryz.prog Fi (#[.int .i64 v, .int .i64 u] ++ ic) w (Says g w)) :
    Calls Tryz.prog 215 #[.int .i64 v, .int .i64 u, .pointer (some ⟨bf, 0, none⟩), .pointer (some ⟨bi, 0, none⟩)] w fun e w' => e = .returned (.tuple #[]) ∧ w'.heap[bf]? = some (.cells #[.bool (f || g)] 4 (0, 0)) ∧ Sav bf w w' := by
  have c0 : w.cell? ⟨bf, 0, none⟩ = some (.bool f) := (cell_of_row _ _ 0 _ _ (0, 0) kf).trans rfl
  have z0 : w.frozen? ⟨bf, 0, none⟩ = false := frozen_of_row _ _ 0 _ _ kf
  have c1 : w.cell? ⟨bi, 0, none⟩ = some (.func (.func Fi) #[] ic) := (cell_of_row _ _ 0 _ _ (0, 0) ki).trans rfl
  have hlt := (Array.getElem?_eq_some_iff.1 kf).1
  have q := hide hcl
  replace kf := hide kf
  clear hcl ki
  have hset : ∀ (W : World) (a b : Bool), W.heap[bf]? = some (.cells #[.bool a] 4 (0, 0)) → (W.setCell ⟨bf, 0, none⟩ (.bool b)).heap[bf]? = some (.cells #[.bool b] 4 (0, 0)) := fun W a b h => one_setCell h
  cases f with
  | true =>
    have e1 := hset w true true kf.out
    replace e1 := hide e1
    clear hset
    go_enter Tryz.func215, Tryz.ntmps215
    go_wp2
    go_end0
    exact ⟨rfl, e1.out, Sav.set w ⟨bf, 0, none⟩ _⟩
  | false =>
    replace hset := hide hset
    go_enter Tryz.func215, Tryz.ntmps215
    go_wp2_with (first | (refine q.out.mono ?_; rintro e w1 ⟨rfl, hb1⟩; have kf1 := (hb1.block bf hlt).trans kf.out; have d0 : w1.cell? ⟨bf, 0, none⟩ = some (.bool false) := (cell_of_row _ _ 0 _ _ (0, 0) kf1).trans rfl; have d1 : w1.frozen? ⟨bf, 0, none⟩ = false := frozen_of_row _ _ 0 _ _ kf1; replace kf1 := hide kf1))
    go_end0
    exact ⟨rfl, by rw [Bool.false_or]; exact hset.out w1 false g kf1.out, (Sav.of_below hb1).trans (Sav.set w1 ⟨bf, 0, none⟩ _)⟩

end Go.Proofs.YtiaclddgllkgpaaGreatDoor
