/-
  What is done for each edge, by the program. Conditions: sizes.
-/
import Derived.Test.YtiaclddgllkgpaaGreatDoorFindI
namespace Go.Proofs.YtiaclddgllkgpaaGreatDoor
open Go.ChangeShapes Go.WideShapes Go.ChangeAt Go.RowKit Go.Sort
set_option linter.unusedVariables false
set_option linter.unusedSimpArgs false

set_option maxRecDepth 100000 in
theorem cloneS_calls (A : Option Addr) (n c : Nat) (l : List ByteArray) (w : World) (lo hi : Nat) (h : SlS w lo hi A n l) (hn : n ≤ 1048576) :
    Calls Tryz.prog 150 #[.slice A n c] w fun e w' => ∃ A' c', e = .returned (.slice A' n c') ∧ Own 1 strv w' w.heap.size 9 A' n c' l ∧ Below w.heap.size w w' := by
  have hnil : ∀ (W : World) (a : Option Addr) (m d : Nat), (binOp .eql 22 (.slice a m d) (.slice none 0 0)).run Tryz.prog W = .ok (.bool a.isNone) W := fun W a m d => Lib.run_eql_slice_nil W 22 _ a m d 0 0 Tryz.underlying22
  have hE := hide elem_str
  cases A with
  | none =>
    have hn0 : n = 0 := by
      rcases Nat.eq_zero_or_pos n with h0 | h0
      · exact h0
      · obtain ⟨b, off, e, _⟩ := h.at_ h0
        cases e
    subst hn0
    have hl := List.eq_nil_of_length_eq_zero h.len
    subst hl
    go_enter Tryz.func150, Tryz.ntmps150
    go_wp2_with fail
    go_ret
    exact ⟨none, 0, rfl, Own.nil_ _ _ _, Below.refl _ _⟩
  | some a =>
    have hs := hide (h.below ((Below.refl w.heap.size w).alloc (Nat.le_refl _) (.cells #[] 9)) (.inr (Nat.le_refl _)))
    have hz : w.heap.size ≤ (w.alloc (.cells #[] 9)).heap.size := by simp
    clear h
    go_enter Tryz.func150, Tryz.ntmps150
    go_wp2_with (first | (at_builtin; (with_reducible refine wpList_app rfl (.tmp 5) (.tmp 6) rfl hE.out flat_strv rfl (Own.made w 9 (Nat.le_refl _)) rfl hs.out ?c1 hz ?_); rotate_right; intro A2 c2 w2 hown2 hgr2 hb2 _))
    case c1 => omega
    go_ret
    rw [Nat.zero_add, List.nil_append] at hown2
    exact ⟨_, _, rfl, hown2, ((Below.refl _ _).alloc (Nat.le_refl _) _).trans hb2⟩
theorem GotF.after {base X M n c d : Nat} {v : TV} {A C : Option Addr} {R : List PQ} {w w5 w' : World} {e : Ending} (hb : Below w.heap.size w w5) (h : GotF base X M v A n c C d R w5 e w') : GotF base X M v A n c C d R w e w' := by
  obtain ⟨A', C', n', c', d', G', H', h1, h2, h3, h4⟩ := h
  refine ⟨A', C', n', c', d', G', H', h1, h2, (But.of_below hb).trans h3 fun x hx => .inl hx, fun b hx => ?_⟩
  rcases h4 b hx with h5 | h5
  · exact .inl h5
  · exact .inr (Nat.le_trans hb.size h5)

set_option maxRecDepth 100000 in
set_option maxHeartbeats 3200000 in
theorem visit_calls (base X M bX bF bI : Nat) (v : TV) (A C : Option Addr) (n c d : Nat) (G : List (Nat × PR)) (H : List (Hd × List ByteArray)) (R : List PQ) (k : Nat) (q : PQ) (lab : ByteArray) (a b : Int) (w : World)
    (h : TogS w base X M v A n c G C d H R) (hX : w.heap[bX]? = some (.cells #[.pointer (some ⟨X, 0, none⟩)] 112 (0, 0))) (hF : w.heap[bF]? = some (.cells #[.func (.func 147) #[] #[.pointer (some ⟨bX, 0, none⟩)]] 173 (0, 0)))
    (hI : w.heap[bI]? = some (.cells #[.int .i64 (k : Int)] 3 (0, 0))) (hk : R[k]? = some q) (hq : q.2.length ≤ 1600) (hf : fitP (a, b)) (hn : n ≤ 1600) (hb : base ≤ w.heap.size) :
    Calls Tryz.prog 149 #[.string lab, .agg #[.int .i64 a, .int .i64 b], .pointer (some ⟨bF, 0, none⟩), .pointer (some ⟨bX, 0, none⟩), .pointer (some ⟨bI, 0, none⟩)] w (GotF base X M v A n c C d (addP R (a, b) (q.2 ++ [lab])) w) := by
  have hE := hide elem_str
  have hb0 : Below w.heap.size w (w.alloc (.cells #[.int .i64 a, .int .i64 b] 172)) := (Below.refl _ _).alloc (Nat.le_refl _) _
  have kq := heap_alloc_new w (.cells #[.int .i64 a, .int .i64 b] 172)
  have h0 := h.below hb0
  obtain ⟨bc, oc, Ah, nh, ch, rfl, -, gbc, hkn, pc, hoq⟩ := h0.ps.at_ (k := k) (l := q.2) (by rw [h0.eqp, List.getElem?_map, hk]; rfl)
  have hnh : nh ≤ 1600 := by rw [← hoq.len]; exact hq
  have hX0 := (hb0.block bX (Array.getElem?_eq_some_iff.1 hX).1).trans hX
  have hF0 := (hb0.block bF (Array.getElem?_eq_some_iff.1 hF).1).trans hF
  have hI0 := (hb0.block bI (Array.getElem?_eq_some_iff.1 hI).1).trans hI
  have y0 : (w.alloc (.cells #[.int .i64 a, .int .i64 b] 172)).cell? ⟨bF, 0, none⟩ = some (.func (.func 147) #[] #[.pointer (some ⟨bX, 0, none⟩)]) := (cell_of_row _ _ 0 _ _ (0, 0) hF0).trans rfl
  have y1 : (w.alloc (.cells #[.int .i64 a, .int .i64 b] 172)).cell? ⟨w.heap.size, 0, none⟩ = some (.int .i64 a) := (cell_of_row _ _ 0 _ _ (0, 0) kq).trans rfl
  have y2 : (w.alloc (.cells #[.int .i64 a, .int .i64 b] 172)).cell? ⟨w.heap.size, 1, none⟩ = some (.int .i64 b) := (cell_of_row _ _ 1 _ _ (0, 0) kq).trans rfl
  have y3 : (w.alloc (.cells #[.int .i64 a, .int .i64 b] 172)).cell? ⟨bX, 0, none⟩ = some (.pointer (some ⟨X, 0, none⟩)) := (cell_of_row _ _ 0 _ _ (0, 0) hX0).trans rfl
  have y4 := h0.f12
  have y5 : (w.alloc (.cells #[.int .i64 a, .int .i64 b] 172)).cell? ⟨bI, 0, none⟩ = some (.int .i64 (k : Int)) := (cell_of_row _ _ 0 _ _ (0, 0) hI0).trans rfl
  have y6 := pc
  have lF := (Array.getElem?_eq_some_iff.1 hF0).1
  have lQ := (Array.getElem?_eq_some_iff.1 kq).1
  have lX := (Array.getElem?_eq_some_iff.1 hX0).1
  have lI := (Array.getElem?_eq_some_iff.1 hI0).1
  have lT := h0.lt
  have hbz := hb0.size
  have hbB : base ≤ (w.alloc (.cells #[.int .i64 a, .int .i64 b] 172)).heap.size := Nat.le_trans hb hbz
  have hK0 : (0 : Int) ≤ (k : Int) := by omega
  have hK1 : (k : Int) < (n : Int) := by omega
  have hsz : (nh + 1) * 16 ≤ 140737488355328 := by omega
  have qc := hide fun (W : World) (hW : Below (w.alloc (.cells #[.int .i64 a, .int .i64 b] 172)).heap.size (w.alloc (.cells #[.int .i64 a, .int .i64 b] 172)) W) => cloneS_calls Ah nh ch q.2 W _ _ ((hoq.below hW (Nat.le_refl _)).sl flat_strv) (by omega)
  have qf := hide fun (W : World) (hW : Below (w.alloc (.cells #[.int .i64 a, .int .i64 b] 172)).heap.size (w.alloc (.cells #[.int .i64 a, .int .i64 b] 172)) W) (Ap : Option Addr) (cp : Nat) (hp : Own 1 strv W base 9 Ap (nh + 1) cp (q.2 ++ [lab])) =>
    (find_calls base X M bX v A _ n c d G H R a b Ap (nh + 1) cp (q.2 ++ [lab]) W (h0.below hW) ((hW.block bX lX).trans hX0) hp hf hn (Nat.le_trans hbB hW.size)).mono fun _ _ hg => GotF.after (hb0.trans (hW.mono hbz)) hg
  clear hX0 hF0 hI0 hX hF hI kq h0 h hb0 hoq pc hk hf
  go_enter Tryz.func149, Tryz.ntmps149
  go_upto_region 1 with fail
  generalize (w.alloc (.cells #[.int .i64 a, .int .i64 b] 172)) = W0 at *
  refine lateT_begin (S := fun w' => w'.cell? ⟨bF, 0, none⟩ = some (.func (.func 147) #[] #[.pointer (some ⟨bX, 0, none⟩)]) ∧ w'.cell? ⟨w.heap.size, 0, none⟩ = some (.int .i64 a) ∧ w'.cell? ⟨w.heap.size, 1, none⟩ = some (.int .i64 b) ∧ w'.cell? ⟨bX, 0, none⟩ = some (.pointer (some ⟨X, 0, none⟩)) ∧ w'.cell? ⟨X, 12, none⟩ = some (.slice (some ⟨bc, oc, none⟩) n d) ∧ w'.cell? ⟨bI, 0, none⟩ = some (.int .i64 (k : Int)) ∧ w'.cell? ⟨bc, oc + k, none⟩ = some (.slice Ah nh ch)) (st := 13) (by kernel_rfl) ?_
  have hS0 : (fun w' : World => w'.cell? ⟨bF, 0, none⟩ = some (.func (.func 147) #[] #[.pointer (some ⟨bX, 0, none⟩)]) ∧ w'.cell? ⟨w.heap.size, 0, none⟩ = some (.int .i64 a) ∧ w'.cell? ⟨w.heap.size, 1, none⟩ = some (.int .i64 b) ∧ w'.cell? ⟨bX, 0, none⟩ = some (.pointer (some ⟨X, 0, none⟩)) ∧ w'.cell? ⟨X, 12, none⟩ = some (.slice (some ⟨bc, oc, none⟩) n d) ∧ w'.cell? ⟨bI, 0, none⟩ = some (.int .i64 (k : Int)) ∧ w'.cell? ⟨bc, oc + k, none⟩ = some (.slice Ah nh ch)) W0.drew := ⟨y0, y1, y2, y3, y4, y5, y6⟩
  refine lateT_take (i := 0) (oi := _) (v := ?_) [13] rfl (by kernel_rfl) (by kernel_rfl) (by kernel_rfl) (by kernel_rfl) (fun _ _ _ h => h) (Or.inl ⟨by rfl, ?hy⟩) hS0 ?_
  case hy => (intro w hSw; (try dsimp only at hSw); go_simp <;> with_reducible rfl)
  (try simp only [Act.put, List.setIfInBounds_toArray, List.set_cons_zero, List.set_cons_succ])
  refine lateT_take (i := 1) (oi := _) (v := ?_) [13] rfl (by kernel_rfl) (by kernel_rfl) (by kernel_rfl) (by kernel_rfl) (fun _ _ _ h => h) (Or.inl ⟨by rfl, ?hy⟩) hS0 ?_
  case hy => (intro w hSw; (try dsimp only at hSw); go_simp <;> with_reducible rfl)
  (try simp only [Act.put, List.setIfInBounds_toArray, List.set_cons_zero, List.set_cons_succ])
  refine lateT_take (i := 2) (oi := _) (v := ?_) [3, 4, 5, 7, 8, 9, 12, 13] rfl (by kernel_rfl) (by kernel_rfl) (by kernel_rfl) (by kernel_rfl) (fun _ _ _ h => h) (Or.inl ⟨by rfl, ?hy⟩) hS0 ?_
  case hy => (intro w hSw; (try dsimp only at hSw); go_simp <;> with_reducible rfl)
  (try simp only [Act.put, List.setIfInBounds_toArray, List.set_cons_zero, List.set_cons_succ])
  refine lateT_take (i := 3) (oi := _) (v := ?_) [4, 5, 7, 8, 9, 12, 13] rfl (by kernel_rfl) (by kernel_rfl) (by kernel_rfl) (by kernel_rfl) (fun _ _ _ h => h) (Or.inl ⟨by rfl, ?hy⟩) hS0 ?_
  case hy => (intro w hSw; (try dsimp only at hSw); go_simp <;> with_reducible rfl)
  (try simp only [Act.put, List.setIfInBounds_toArray, List.set_cons_zero, List.set_cons_succ])
  refine lateT_take (i := 4) (oi := _) (v := ?_) [5, 7, 8, 9, 12, 13] rfl (by kernel_rfl) (by kernel_rfl) (by kernel_rfl) (by kernel_rfl) (fun _ _ _ h => h) (Or.inl ⟨by rfl, ?hy⟩) hS0 ?_
  case hy => (intro w hSw; (try dsimp only at hSw); go_simp <;> with_reducible rfl)
  (try simp only [Act.put, List.setIfInBounds_toArray, List.set_cons_zero, List.set_cons_succ])
  refine lateT_take (i := 5) (oi := _) (v := ?_) [7, 8, 9, 12, 13] rfl (by kernel_rfl) (by kernel_rfl) (by kernel_rfl) (by kernel_rfl) (fun _ _ _ h => h) (Or.inl ⟨by rfl, ?hy⟩) hS0 ?_
  case hy => (intro w hSw; (try dsimp only at hSw); go_simp <;> with_reducible rfl)
  (try simp only [Act.put, List.setIfInBounds_toArray, List.set_cons_zero, List.set_cons_succ])
  refine lateT_take (i := 6) (oi := _) (v := ?_) [7, 8, 9, 12, 13] rfl (by kernel_rfl) (by kernel_rfl) (by kernel_rfl) (by kernel_rfl) (fun _ _ _ h => h) (Or.inl ⟨by rfl, ?hy⟩) hS0 ?_
  case hy => (intro w hSw; (try dsimp only at hSw); go_simp <;> with_reducible rfl)
  (try simp only [Act.put, List.setIfInBounds_toArray, List.set_cons_zero, List.set_cons_succ])
  refine lateT_take (i := 7) (oi := _) (v := ?_) [8, 9, 12, 13] rfl (by kernel_rfl) (by kernel_rfl) (by kernel_rfl) (by kernel_rfl) (fun _ _ _ h => h) (Or.inl ⟨by rfl, ?hy⟩) hS0 ?_
  case hy => (intro w hSw; (try dsimp only at hSw); go_simp <;> with_reducible rfl)
  (try simp only [Act.put, List.setIfInBounds_toArray, List.set_cons_zero, List.set_cons_succ])
  refine lateT_take (i := 8) (oi := _) (v := ?_) [9, 12, 13] rfl (by kernel_rfl) (by kernel_rfl) (by kernel_rfl) (by kernel_rfl) (fun _ _ _ h => h) (Or.inl ⟨by rfl, ?hy⟩) hS0 ?_
  case hy => (intro w hSw; (try dsimp only at hSw); go_simp <;> with_reducible rfl)
  (try simp only [Act.put, List.setIfInBounds_toArray, List.set_cons_zero, List.set_cons_succ])
  refine lateT_take (i := 10) (oi := _) (v := ?_) [11, 12, 13] rfl (by kernel_rfl) (by kernel_rfl) (by kernel_rfl) (by kernel_rfl) (fun _ _ _ h => h) (Or.inl ⟨by rfl, ?hy⟩) hS0 ?_
  case hy => (intro w hSw; (try dsimp only at hSw); go_simp <;> with_reducible rfl)
  (try simp only [Act.put, List.setIfInBounds_toArray, List.set_cons_zero, List.set_cons_succ])
  refine lateT_two (i := 9) (j := 11) (by kernel_rfl) rfl rfl (fun K hK => ?_) (fun K hK => ?_)
  · go_simp
    go_at_call 150
    refine (qc.out W0.drew (Below.refl W0.heap.size W0).drew).mono ?_
    rintro e w5 ⟨A5, c5, rfl, hown5, hb5⟩
    have hbW5 : Below W0.heap.size W0 w5 := ⟨hb5.os, hb5.tape, hb5.output, hb5.size, hb5.block⟩
    replace hown5 : Own 1 strv w5 W0.heap.size 9 A5 nh c5 q.2 := hown5
    clear hb5
    have z0 := (hbW5.cell (p := ⟨bF, 0, none⟩) lF).trans y0
    have z1 := (hbW5.cell (p := ⟨w.heap.size, 0, none⟩) lQ).trans y1
    have z2 := (hbW5.cell (p := ⟨w.heap.size, 1, none⟩) lQ).trans y2
    have z3 := (hbW5.cell (p := ⟨bX, 0, none⟩) lX).trans y3
    have z4 := (hbW5.cell (p := ⟨X, 12, none⟩) lT).trans y4
    have z5 := (hbW5.cell (p := ⟨bI, 0, none⟩) lI).trans y5
    have z6 := (hbW5.cell (p := ⟨bc, oc + k, none⟩) gbc).trans y6
    go_wp2_with fail
    refine hK.out _ _ (fun _ => ⟨z0, z1, z2, z3, z4, z5, z6⟩) ?_
    clear hK K
    (try simp only [Act.put, List.setIfInBounds_toArray, List.set_cons_zero, List.set_cons_succ])
    refine lateT_step (i := 11) (by kernel_rfl) rfl (fun K hK => ?_)
    go_simp
    refine hK.out _ _ (fun _ => ⟨alloc_some z0, alloc_some z1, alloc_some z2, alloc_some z3, alloc_some z4, alloc_some z5, alloc_some z6⟩) ?_
    clear hK K
    (try simp only [Act.put, List.setIfInBounds_toArray, List.set_cons_zero, List.set_cons_succ])
    refine lateT_step (i := 12) (by kernel_rfl) rfl (fun K hK => ?_)
    refine step_app (d := 1) (by rfl) (.tmp 16) (.tmp 18) (by rfl) hE.out flat_strv (by go_simp) (hown5.alloc (.cells #[.string lab] 9)) (by go_simp) (Sl.lit1' w5 9 lab _ rfl 1 w5.heap.size rfl) hsz (by rw [World.size_alloc]; have := hbW5.size; omega) ?_
    intro A6 c6 w6 hown6 hgr6 hb6 hat6
    have hbW6 : Below W0.heap.size W0 w6 := (hbW5.alloc hbW5.size (.cells #[.string lab] 9)).trans hb6
    have u0 := (hbW6.cell (p := ⟨bF, 0, none⟩) lF).trans y0
    have u1 := (hbW6.cell (p := ⟨w.heap.size, 0, none⟩) lQ).trans y1
    have u2 := (hbW6.cell (p := ⟨w.heap.size, 1, none⟩) lQ).trans y2
    have u3 := (hbW6.cell (p := ⟨bX, 0, none⟩) lX).trans y3
    have u4 := (hbW6.cell (p := ⟨X, 12, none⟩) lT).trans y4
    have u5 := (hbW6.cell (p := ⟨bI, 0, none⟩) lI).trans y5
    have u6 := (hbW6.cell (p := ⟨bc, oc + k, none⟩) gbc).trans y6
    refine hK.out _ _ (fun _ => ⟨u0, u1, u2, u3, u4, u5, u6⟩) ?_
    clear hK K
    (try simp only [Act.put, List.setIfInBounds_toArray, List.set_cons_zero, List.set_cons_succ])
    refine lateT_step (i := 13) (by kernel_rfl) rfl (fun K hK => ?_)
    go_simp
    go_at_call 147
    refine (qf.out w6 hbW6 A6 c6 (hown6.lower hbB)).mono ?_
    rintro e w7 hG
    have hG' := hide hG
    obtain ⟨-, -, -, -, -, -, -, rfl, -⟩ := hG
    go_wp2_with fail
    refine hK.out _ _ (fun h => absurd rfl h) ?_
    clear hK K
    (try simp only [Act.put, List.setIfInBounds_toArray, List.set_cons_zero, List.set_cons_succ])
    refine lateT_done (by kernel_rfl) ?_ _
    go_wp2_with fail
    go_end0
    exact hG'.out
  · go_simp
    refine hK.out _ _ (fun _ => ⟨alloc_some y0, alloc_some y1, alloc_some y2, alloc_some y3, alloc_some y4, alloc_some y5, alloc_some y6⟩) ?_
    clear hK K
    (try simp only [Act.put, List.setIfInBounds_toArray, List.set_cons_zero, List.set_cons_succ])
    have hbL : Below W0.heap.size W0 (W0.alloc (.cells #[.string lab] 9)).drew := ((Below.refl W0.heap.size W0).alloc (Nat.le_refl _) (.cells #[.string lab] 9)).drew
    have hlit : SlS (W0.alloc (.cells #[.string lab] 9)) 0 (W0.heap.size + 1) (some ⟨W0.heap.size, 0, none⟩) 1 [lab] := Sl.lit1' W0 9 lab _ rfl 1 W0.heap.size rfl
    refine lateT_step (i := 9) (by kernel_rfl) rfl (fun K hK => ?_)
    go_simp
    go_at_call 150
    refine (qc.out (W0.alloc (.cells #[.string lab] 9)).drew hbL).mono ?_
    rintro e w5 ⟨A5, c5, rfl, hown5, hb5⟩
    have hbW5 : Below W0.heap.size W0 w5 := hbL.trans (hb5.mono hbL.size)
    have hlit5 := hlit.below (w' := w5) (B := (W0.alloc (.cells #[.string lab] 9)).heap.size) ⟨hb5.os, hb5.tape, hb5.output, hb5.size, hb5.block⟩ (.inr (Nat.le_refl _))
    replace hown5 : Own 1 strv w5 W0.heap.size 9 A5 nh c5 q.2 := hown5.lower hbL.size
    clear hb5 hlit
    have z0 := (hbW5.cell (p := ⟨bF, 0, none⟩) lF).trans y0
    have z1 := (hbW5.cell (p := ⟨w.heap.size, 0, none⟩) lQ).trans y1
    have z2 := (hbW5.cell (p := ⟨w.heap.size, 1, none⟩) lQ).trans y2
    have z3 := (hbW5.cell (p := ⟨bX, 0, none⟩) lX).trans y3
    have z4 := (hbW5.cell (p := ⟨X, 12, none⟩) lT).trans y4
    have z5 := (hbW5.cell (p := ⟨bI, 0, none⟩) lI).trans y5
    have z6 := (hbW5.cell (p := ⟨bc, oc + k, none⟩) gbc).trans y6
    go_wp2_with fail
    refine hK.out _ _ (fun _ => ⟨z0, z1, z2, z3, z4, z5, z6⟩) ?_
    clear hK K
    (try simp only [Act.put, List.setIfInBounds_toArray, List.set_cons_zero, List.set_cons_succ])
    refine lateT_step (i := 12) (by kernel_rfl) rfl (fun K hK => ?_)
    refine step_app (d := 1) (by rfl) (.tmp 16) (.tmp 18) (by rfl) hE.out flat_strv (by go_simp) hown5 (by go_simp) hlit5 hsz hbW5.size ?_
    intro A6 c6 w6 hown6 hgr6 hb6 hat6
    have hbW6 : Below W0.heap.size W0 w6 := hbW5.trans hb6
    have u0 := (hbW6.cell (p := ⟨bF, 0, none⟩) lF).trans y0
    have u1 := (hbW6.cell (p := ⟨w.heap.size, 0, none⟩) lQ).trans y1
    have u2 := (hbW6.cell (p := ⟨w.heap.size, 1, none⟩) lQ).trans y2
    have u3 := (hbW6.cell (p := ⟨bX, 0, none⟩) lX).trans y3
    have u4 := (hbW6.cell (p := ⟨X, 12, none⟩) lT).trans y4
    have u5 := (hbW6.cell (p := ⟨bI, 0, none⟩) lI).trans y5
    have u6 := (hbW6.cell (p := ⟨bc, oc + k, none⟩) gbc).trans y6
    refine hK.out _ _ (fun _ => ⟨u0, u1, u2, u3, u4, u5, u6⟩) ?_
    clear hK K
    (try simp only [Act.put, List.setIfInBounds_toArray, List.set_cons_zero, List.set_cons_succ])
    refine lateT_step (i := 13) (by kernel_rfl) rfl (fun K hK => ?_)
    go_simp
    go_at_call 147
    refine (qf.out w6 hbW6 A6 c6 (hown6.lower hbB)).mono ?_
    rintro e w7 hG
    have hG' := hide hG
    obtain ⟨-, -, -, -, -, -, -, rfl, -⟩ := hG
    go_wp2_with fail
    refine hK.out _ _ (fun h => absurd rfl h) ?_
    clear hK K
    (try simp only [Act.put, List.setIfInBounds_toArray, List.set_cons_zero, List.set_cons_succ])
    refine lateT_done (by kernel_rfl) ?_ _
    go_wp2_with fail
    go_end0
    exact hG'.out

end Go.Proofs.YtiaclddgllkgpaaGreatDoor
