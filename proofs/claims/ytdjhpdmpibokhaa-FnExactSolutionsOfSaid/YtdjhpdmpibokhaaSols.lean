/-
  The function value of SolutionsOf. Conditions: valid expressions, values from 0 to 63, at most 4096 lists.
-/
import Derived.Test.YtdjhpdmpibokhaaDiffer3
import Derived.Test.YtdjhpdmpibokhaaBoilII
import Derived.Deep.RegionLaw
namespace Go.Proofs.Ytdjhpdmpibokhaa
open Go.ChangeShapes Go.WideShapes Go.ChangeAt Go.RowKit
set_option linter.unusedVariables false

theorem elem_int64S : Elem Try.prog 54 44 1 24 := Elem.of (z := .slice none 0 0) Try.underlying54 (by kernel_rfl) rfl (by omega) (by omega)

/-- append, at a step of a region that draws its order. -/
theorem step_app {P : Program} {α : Type} {size bytes : Nat} {f : α → List Value} {t e : TypeId} {w : World} {ops : Array Oper} {o : Oper} {a : Act} {K : Act → World → Prop} {Q : Exit → Act → World → Prop} {E : Prop} (hgd : o.guard = none) (s x : Operand)
    (ho : o.op = .call { callee := .builtin .append, args := #[s, x], argTypes := #[t, t] }) (hE : Elem P t e size bytes) (hf : Flat f size)
    {base n c : Nat} {A : Option Addr} {l : List α} (hs : a.eval s = .slice A n c) (hown : Own size f w base e A n c l)
    {B : Option Addr} {m d lo hi : Nat} {r : List α} (hx : a.eval x = .slice B m d) (hr : Sl size f w lo hi B m r) (hsz : (n + m) * bytes ≤ 140737488355328) (hbase : base ≤ w.heap.size)
    (h : ∀ A' c' w', Own size f w' base e A' (n + m) c' (l ++ r) → w.grownBy w' (Value.slice A n c).ownBlock → Below base w w' →
      ((Value.slice A' (n + m) c').ownBlock = (Value.slice A n c).ownBlock ∨ (Value.slice A' (n + m) c').ownBlock = some w.heap.size) → K (a.put o.dst (.slice A' (n + m) c')) w') :
    if Region.wanted o (yielded ops a.tmps) = true then Oper.wp P o a w K Q else E := by
  have hw : Region.wanted o (yielded ops a.tmps) = true := by simp [Region.wanted, hgd]
  rw [if_pos hw]
  obtain ⟨A', c', w', h1, h2, h3, h4⟩ := run_app w hE hf o.type hown (d := d) hr hsz hbase
  unfold Oper.wp execOp
  simp only [ho, resolve, invoke, builtin, Sem.run_bind, Sem.run_pure, Result.andThen_ok, List.map_toArray, List.map_cons, List.map_nil, hs, hx, h1]
  exact h _ _ _ h2 h3 ((Below.refl _ _).grown h3 hbase fun k hk => (hown.lt k hk).1) h4

def updS (a : List (Int × Int)) (s : List (List Int)) (v : List Int) : List (List Int) := if (valOf v a != 0) = true then s ++ [v] else s

/-- What the function value's variables hold: block o the rows found, block x the tree. -/
def SSt (a : List (Int × Int)) (px o x n : Nat) (s : List (List Int)) (W : World) : Prop :=
  TreeAt 111 60 W (fun g => g < x ∧ g ≠ o) px a ∧ W.heap[x]? = some (.cells #[.pointer (some ⟨px, 0, none⟩)] 81 (0, 0)) ∧
  ∃ A c R, W.heap[o]? = some (.cells #[.slice A s.length c] 54 (0, 0)) ∧ R.map (·.2) = s ∧ NestO 1 iv W (x + 2) 44 A s.length c R ∧ ∀ r ∈ R, r.1.2.1 = n

theorem SSt.keep {a : List (Int × Int)} {px o x n : Nat} {s : List (List Int)} {W W' : World} (h : SSt a px o x n s W) (hs : W.heap.size ≤ W'.heap.size) (hox : o < x) (hk : ∀ g, g < W.heap.size → g ≠ x + 1 → W'.heap[g]? = W.heap[g]?) : SSt a px o x n s W' := by
  obtain ⟨h1, h2, A, c, R, h3, h4, h5, h6⟩ := h
  exact ⟨h1.keep hs fun g q1 q2 => ⟨hk g q2 (by omega), q1⟩, (hk _ (lt_of_block h2) (by omega)).trans h2, A, c, R, (hk _ (lt_of_block h3) (by omega)).trans h3, h4, h5.keep hs fun g q1 q2 => hk g q2 (by omega), h6⟩

theorem SSt.only {a : List (Int × Int)} {px o x n : Nat} {s : List (List Int)} {W W' : World} (hox : o < x) (ho : Only (x + 1) (x + 2) W W') (h : SSt a px o x n s W) : SSt a px o x n s W' :=
  h.keep ho.size hox fun g h1 h2 => ho.block g h1 (by omega)

set_option maxHeartbeats 1600000 in
set_option maxRecDepth 100000 in
theorem solutions1_calls (a : List (Int × Int)) (px o x n base : Nat) (s : List (List Int)) (v bs : List Int) (W : World) (hS : SSt a px o x n s W) (hv : SlI W (x + 1) (x + 2) (some ⟨x + 1, 0, none⟩) n v) (hok : okV v bs) (hbb : ∀ y ∈ bs, 0 ≤ y ∧ y ≤ 63) (hn : n ≤ 1048576)
    (ha : ∀ t ∈ a, okTerm t n = true) (hbase : base ≤ o) (hox : o < x) (hVs : x + 2 ≤ W.heap.size) (hlen : s.length + 1 ≤ 4096) :
    Calls Try.prog 83 #[.slice (some ⟨x + 1, 0, none⟩) n n, .pointer (some ⟨x, 0, none⟩), .pointer (some ⟨o, 0, none⟩)] W (Does (updS a) (fun _ => true) (SSt a px o x n) base (x + 1) n s v W) := by
  have hvb := okV_mem hok (fun y hy => (hbb y hy).2)
  obtain ⟨hT, hx, A, c, R, ho, hR, hO, hrn⟩ := hS
  have y1 := cell_of_row _ _ 0 _ _ _ hx
  have y2 := cell_of_row _ _ 0 _ _ _ ho
  simp at y1 y2
  have q1 := hide (value_calls 60 px a _ n n v W _ _ (hT.keep (Nat.le_refl _) fun _ _ _ => ⟨rfl, trivial⟩) hv hn ha hvb)
  by_cases he : (valOf v a != 0) = true
  · have hup : Hid (updS a s v = s ++ [v]) := if_pos he
    have q2 := hide (fun W' (hW : Below W.heap.size W W') => cloneI_calls _ n n v W' _ _ (hv.below hW (.inr (Nat.le_refl _))) hn)
    have hE := hide elem_int64S
    have hol := lt_of_block ho
    have hT := hide hT
    have hx := hide hx
    have ho := hide ho
    replace hO := hide hO
    replace hrn := hide hrn
    replace hv := hide hv
    replace hR := hide hR
    clear hvb
    generalize valOf v a = va at *
    go_enter Try.func83, Try.ntmps83
    go_wp2_with fail
    refine q1.out.mono ?_
    rintro e w1 ⟨rfl, N, rfl⟩
    go_wp2_with fail
    go_region_law (first
      | (go_simp; go_at_call 81; refine (q2.out (W.drewN (N + 1)) ⟨rfl, rfl, rfl, Nat.le_refl _, fun _ _ => rfl⟩).mono ?_; rintro e w1 ⟨A1, c1, rfl, hA1, hb1⟩; have y3 := (old_cell (i := 0) hb1 hol).trans y2; have hz1 : W.heap.size ≤ w1.heap.size := hb1.size; have hz2 : x + 2 ≤ (w1.alloc (.cells #[.slice A1 n c1] 44)).heap.size := (by rw [World.size_alloc]; omega); have hO1 := hide (hO.out.below (Below.mono ⟨hb1.os, hb1.tape, hb1.output, hb1.size, hb1.block⟩ (Nat.le_refl _) : Below W.heap.size W w1) (Nat.le_refl _)); have ho1 := hide ((hb1.block o hol).trans ho.out); have y4 : (w1.alloc (.cells #[.slice A1 n c1] 44)).cell? ⟨o, 0, none⟩ = some (.slice A s.length c) := (old_cell ((Below.refl w1.heap.size w1).alloc (Nat.le_refl _) _) (by omega)).trans y3; replace hA1 := hide hA1)
      | (refine step_app (by rfl) (.tmp 9) (.tmp 12) (by rfl) hE.out flat_sv (by rfl) (hO1.out.outer.alloc _) (by rfl) (Sl.lit1' w1 44 (A1, n, c1) _ rfl 1 _ rfl) (by omega) hz2 ?_; intro A5 c5 w5 hown5 hgr5 hb5 hat5; have ho5 := (hb5.block o (by omega)).trans ((Below.heap_alloc w1 _ o (by omega)).trans ho1.out); have y5 := cell_of_row _ _ 0 _ _ _ ho5; have y6 := frozen_of_row _ _ 0 _ _ ho5; replace y5 : w5.cell? ⟨o, 0, none⟩ = some (.slice A s.length c) := y5; replace ho5 := hide ho5))
    all_goals (
      go_wp2_with fail
      go_ret
      have hbW : Below W.heap.size W w1 := ⟨hb1.os, hb1.tape, hb1.output, hb1.size, hb1.block⟩
      have hba : Below w1.heap.size w1 (w1.alloc (.cells #[.slice A1 n c1] 44)) := (Below.refl _ _).alloc (Nat.le_refl _) _
      have hbWa : Below W.heap.size W (w1.alloc (.cells #[.slice A1 n c1] 44)) := hbW.trans (hba.mono hz1)
      have hz5 := hb5.size
      have hz6 : W.heap.size ≤ w5.heap.size := Nat.le_trans hbWa.size hz5
      have hpush := NestO.push hO.out hbWa ((hA1.out.below hba (.inr (Nat.le_refl _))).more (Nat.le_refl _) hba.size) hn hown5 hgr5 hat5 (by omega)
      have hkg : ∀ g, g < x + 2 → g ≠ o → (w5.setCell ⟨o, 0, none⟩ (.slice A5 (s.length + 1) c5)).heap[g]? = W.heap[g]? := fun g k1 k2 => by
        rw [Below.heap_setCell _ _ _ _ k2]
        exact (hb5.block g k1).trans (hbWa.block g (by omega))
      have hsz : w5.heap.size ≤ (w5.setCell ⟨o, 0, none⟩ (.slice A5 (s.length + 1) c5)).heap.size := by simp [World.setCell]
      have eo : (w5.setCell ⟨o, 0, none⟩ (.slice A5 (s.length + 1) c5)).heap[o]? = some (.cells #[.slice A5 (s.length + 1) c5] 54 (0, 0)) := by
        rw [heap_setCell_same _ _ _ _ _ _ ho5.out]
        rfl
      refine ⟨rfl, ?_, hv.out.keep (Nat.le_trans hz6 hsz) (fun g k1 k2 k3 => hkg g (by omega) (by omega)), ?_⟩
      · have hl : (s ++ [v]).length = s.length + 1 := by simp
        rw [hup.out]
        unfold SSt
        rw [hl]
        refine ⟨hT.out.keep (Nat.le_trans hz6 hsz) fun g k1 k2 => ⟨hkg g (by omega) k1.2, k1⟩, (hkg _ (by omega) (by omega)).trans hx.out, A5, c5, _, eo, ?_, hpush.keep hsz fun g k1 k2 => Below.heap_setCell _ _ _ _ (by show g ≠ o; omega), fun r hr => ?_⟩
        · rw [List.map_append, hR.out]
          rfl
        · rcases List.mem_append.1 hr with hr | hr
          · exact hrn.out r hr
          · rw [List.mem_singleton.1 hr]
      · exact ((Below.mono hbWa (by omega)).trans (hb5.mono (by omega))).setCell (by show base ≤ o; omega) _)
  · replace he := Bool.eq_false_iff.2 he
    have hup : Hid (updS a s v = s) := if_neg (by rw [he]; decide)
    have hS := hide (show SSt a px o x n s W from ⟨hT, hx, A, c, R, ho, hR, hO, hrn⟩)
    replace hv := hide hv
    clear hvb hT hx ho hO hrn
    generalize valOf v a = va at *
    go_enter Try.func83, Try.ntmps83
    go_wp2_with fail
    refine q1.out.mono ?_
    rintro e w1 ⟨rfl, N, rfl⟩
    go_wp2_with fail
    go_ret
    exact ⟨rfl, by rw [hup.out]; exact hS.out.keep (Nat.le_refl _) hox (fun _ _ _ => rfl), hv.out.drewN _, ⟨rfl, rfl, rfl, Nat.le_refl _, fun _ _ => rfl⟩⟩

end Go.Proofs.Ytdjhpdmpibokhaa
