/-
  The labels that a system prevents beside a plant: plain, and by the program. Conditions: sizes.
-/
import Derived.Test.YtiaclddgllkgpaaGreatDoorAlongI
import Derived.Test.YtiaclddgllkgpaaGreatDoorSortS
import Derived.Test.YtiaclddgllkgpaaGreatDoorRunU
namespace Go.Proofs.YtiaclddgllkgpaaGreatDoor
open Go.ChangeShapes Go.WideShapes Go.ChangeAt Go.RowKit Go.Sort
set_option linter.unusedVariables false
set_option linter.unusedSimpArgs false

def labE (ls : List ByteArray) (e : Ed) : ByteArray := (ls[e.2.1.toNat]?).getD ⟨#[]⟩
def prvE (p s : DL) (y : Int) (l : List Ed) : List ByteArray := (l.filter fun e => !(aloOk s y (labE p.2.2.1 e))).map (labE p.2.2.1)
def prvL (p s : DL) (x y : Int) : List ByteArray := prvE p s y (outE p.2.2.2 x)
theorem prvE_succ {p s : DL} {y : Int} {l : List Ed} {k : Nat} {e : Ed} (hx : l[k]? = some e) : prvE p s y (l.take (k + 1)) = prvE p s y (l.take k) ++ (if aloOk s y (labE p.2.2.1 e) = true then [] else [labE p.2.2.1 e]) := by
  unfold prvE
  rw [List.take_add_one, hx, List.filter_append, List.map_append]
  congr 1
  cases h : aloOk s y (labE p.2.2.1 e) <;> simp [h]
theorem prvE_len (p s : DL) (y : Int) (l : List Ed) : (prvE p s y l).length ≤ l.length := by
  unfold prvE
  rw [List.length_map]
  exact List.length_filter_le _ _
def prvG (p s : DL) : List ByteArray → Int → Int → Option (Int × Int)
  | [], x, y => some (x, y)
  | lab :: t, x, y => if 0 ≤ goE p.2.2.2 p.2.2.1 lab x ∧ aloOk s y lab = true then prvG p s t (goE p.2.2.2 p.2.2.1 lab x) (aloTo s y lab) else none
theorem prvG_step {p s : DL} {tr : List ByteArray} {k : Nat} {lab : ByteArray} {x y : Int} (hx : tr[k]? = some lab) (h : 0 ≤ goE p.2.2.2 p.2.2.1 lab x) (h2 : aloOk s y lab = true) : prvG p s (tr.drop k) x y = prvG p s (tr.drop (k + 1)) (goE p.2.2.2 p.2.2.1 lab x) (aloTo s y lab) := by
  rw [drop_cons hx]; conv => lhs; unfold prvG
  rw [if_pos ⟨h, h2⟩]
theorem prvG_bad {p s : DL} {tr : List ByteArray} {k : Nat} {lab : ByteArray} {x y : Int} (hx : tr[k]? = some lab) (h : ¬ (0 ≤ goE p.2.2.2 p.2.2.1 lab x ∧ aloOk s y lab = true)) : prvG p s (tr.drop k) x y = none := by
  rw [drop_cons hx]; unfold prvG
  rw [if_neg h]
theorem prvG_end {p s : DL} {tr : List ByteArray} {k : Nat} {x y : Int} (h : tr.length ≤ k) : prvG p s (tr.drop k) x y = some (x, y) := by
  rw [List.drop_eq_nil_of_le h]; rfl
def prvF (d : DP) (s : DL) (tr : List ByteArray) : List ByteArray × Int :=
  if (plantV d && detV s) = true then (match prvG d.1 s tr d.1.2.1 s.2.1 with | some (x, y) => (prvL d.1 s x y, 0) | none => ([], 3)) else ([], 1)

/-! ## What is prevented rises -/
theorem labs_up {ls : List ByteArray} (h : namesB ls = true) {i j : Nat} {x y : ByteArray} (h0 : 0 < i) (hij : i < j) (hi : ls[i]? = some x) (hj : ls[j]? = some y) : Op.bytesLess x.toList y.toList = true := by
  have h' := h
  unfold namesB at h
  rw [Bool.and_eq_true] at h
  have hall : ∀ k, k < ls.length → okL ls k = true := fun k hk => allK_get h.2 hk
  have hlt : ∀ {k : Nat} {y : ByteArray}, ls[k]? = some y → k < ls.length := fun hk => (List.getElem?_eq_some_iff.1 hk).1
  have up : ls.tail.Pairwise fun a b => Op.bytesLess a.toList b.toList = true := by
    refine pair_of_next (fun a b : ByteArray => Op.bytesLess a.toList b.toList = true) (fun _ _ _ h g => bytesLess_trans h g) _ fun k a b ha hb => ?_
    rw [List.getElem?_tail] at ha hb
    have hk := hall (k + 2) (hlt hb)
    rw [okL_at hb (by omega) (by simpa using ha)] at hk
    simp only [Bool.and_eq_true, Bool.or_eq_true, decide_eq_true_eq] at hk
    rcases hk.2 with h1 | h1
    · omega
    · exact h1
  have e1 : ls.tail[i - 1]? = some x := by rw [List.getElem?_tail, show i - 1 + 1 = i by omega]; exact hi
  have e2 : ls.tail[j - 1]? = some y := by rw [List.getElem?_tail, show j - 1 + 1 = j by omega]; exact hj
  obtain ⟨l1, e1⟩ := List.getElem?_eq_some_iff.1 e1
  obtain ⟨l2, e2⟩ := List.getElem?_eq_some_iff.1 e2
  have := List.pairwise_iff_getElem.1 up (i - 1) (j - 1) l1 l2 (by omega)
  rwa [e1, e2] at this
theorem incr_len : ∀ {l : List Int} {hi lo : Int}, l.Pairwise (· < ·) → (∀ v ∈ l, lo ≤ v ∧ v ≤ hi) → (l.length : Int) ≤ (if lo ≤ hi then hi - lo + 1 else 0)
  | [], hi, lo, _, _ => by simp; split <;> omega
  | a :: l, hi, lo, h, hb => by
    obtain ⟨h1, h2⟩ := List.pairwise_cons.1 h
    have ha := hb a (by simp)
    have := incr_len (l := l) (hi := hi) (lo := a + 1) h2 (fun v hv => ⟨by have := h1 v hv; omega, (hb v (List.mem_cons_of_mem _ hv)).2⟩)
    rw [List.length_cons]
    rw [if_pos (by omega)]
    split at this <;> omega
theorem det_first {st ini : Int} {ls : List ByteArray} {es : List Ed} (h : detV (st, ini, ls, es) = true) : ∀ e ∈ es, 1 ≤ e.2.1 ∧ e.2.1 ≤ (ls.length : Int) - 1 := fun e he => by
  obtain ⟨k, hk⟩ := List.getElem?_of_mem he
  obtain ⟨f, lb, tg⟩ := e
  have h1 := (edge_of (det_ltsA h) hk).2.2
  unfold detV at h
  rw [Bool.and_eq_true] at h
  have hd := allK_get h.2 (List.getElem?_eq_some_iff.1 hk).1
  refine ⟨?_, h1.2⟩
  by_cases h0 : lb = 0
  · rw [okD_bad hk h0] at hd
    cases hd
  · dsimp only
    omega
theorem out_pair {st ini : Int} {ls : List ByteArray} {es : List Ed} (h : detV (st, ini, ls, es) = true) (x : Int) : (outE es x).Pairwise fun a b => a.2.1 < b.2.1 := by
  have hp := (det_pair h).filter (fun e => decide (e.1 = x))
  refine List.Pairwise.imp_of_mem ?_ hp
  intro a b ha hb hr
  have ea : a.1 = x := by simpa using (List.mem_filter.1 ha).2
  have eb : b.1 = x := by simpa using (List.mem_filter.1 hb).2
  rcases hr with h1 | ⟨_, h2⟩
  · omega
  · exact h2
theorem labs_len {st ini : Int} {ls : List ByteArray} {es : List Ed} (h : ltsV (st, ini, ls, es) = true) : (ls.length : Int) ≤ 12 := by
  unfold ltsV ltsB at h
  simp only [Bool.and_eq_true] at h
  exact (inB_true.1 h.1.1.2).2
theorem out_few {st ini : Int} {ls : List ByteArray} {es : List Ed} (h : detV (st, ini, ls, es) = true) (x : Int) : (outE es x).length ≤ 12 := by
  have h1 : ((outE es x).map fun e => e.2.1).Pairwise (· < ·) := List.pairwise_map.2 (out_pair h x)
  have h2 := incr_len (lo := 1) (hi := (ls.length : Int) - 1) h1 (fun v hv => by
    obtain ⟨e, he, rfl⟩ := List.mem_map.1 hv
    exact det_first h e (List.mem_filter.1 he).1)
  rw [List.length_map] at h2
  have h3 := labs_len (det_ltsA h)
  split at h2 <;> omega
theorem labE_at {st ini : Int} {ls : List ByteArray} {es : List Ed} (h : detV (st, ini, ls, es) = true) {e : Ed} (he : e ∈ es) : ls[e.2.1.toNat]? = some (labE ls e) := by
  have := det_first h e he
  have hl : e.2.1.toNat < ls.length := by omega
  unfold labE
  rw [List.getElem?_eq_getElem hl]
  rfl
theorem prv_rises {st ini : Int} {ls : List ByteArray} {es : List Ed} (h : detV (st, ini, ls, es) = true) (s : DL) (x y : Int) : RisesS (prvL (st, ini, ls, es) s x y) := by
  have hp : (prvL (st, ini, ls, es) s x y).Pairwise fun a b => Op.bytesLess a.toList b.toList = true := by
    unfold prvL prvE
    refine List.pairwise_map.2 ?_
    refine List.Pairwise.imp_of_mem ?_ ((out_pair h x).filter _)
    intro a b ha hb hr
    have ma := (List.mem_filter.1 (List.mem_filter.1 ha).1).1
    have mb := (List.mem_filter.1 (List.mem_filter.1 hb).1).1
    have da := det_first h a ma
    have db := det_first h b mb
    exact labs_up (names_of (det_ltsA h)) (by omega) (by omega) (labE_at h ma) (labE_at h mb)
  intro k a b ha hb
  obtain ⟨l1, e1⟩ := List.getElem?_eq_some_iff.1 ha
  obtain ⟨l2, e2⟩ := List.getElem?_eq_some_iff.1 hb
  have := List.pairwise_iff_getElem.1 hp k (k + 1) l1 l2 (by omega)
  rwa [e1, e2] at this
theorem prv_few {st ini : Int} {ls : List ByteArray} {es : List Ed} (h : detV (st, ini, ls, es) = true) (s : DL) (x y : Int) : (prvL (st, ini, ls, es) s x y).length ≤ 12 := Nat.le_trans (prvE_len _ _ _ _) (out_few h x)
theorem prv_mem {st ini : Int} {ls : List ByteArray} {es : List Ed} (h : detV (st, ini, ls, es) = true) (s : DL) (x y : Int) : ∀ r ∈ prvL (st, ini, ls, es) s x y, r ∈ ls := fun r hr => by
  unfold prvL prvE at hr
  obtain ⟨e, he, rfl⟩ := List.mem_map.1 hr
  exact List.mem_of_getElem? (labE_at h (List.mem_filter.1 (List.mem_filter.1 he).1).1)

/-! ## Edges from a state, by the program -/
set_option maxRecDepth 100000 in
set_option maxHeartbeats 1600000 in
theorem out_calls (s0 s1 : Int) (v2 : Value) (A3 : Option Addr) (n3 k3 : Nat) (s : Int) (es : List Ed) (w : World) (lo hi : Nat) (t3 : SlE w lo hi A3 n3 es) (hes : n3 ≤ 1048576) (hv2 : ∃ A n k, v2 = .slice A n k) :
    Calls Tryz.prog 132 #[.agg #[.int .i64 s0, .int .i64 s1, v2, .slice A3 n3 k3], .int .i64 s] w fun e w' => ∃ A n c, e = .returned (.slice A n c) ∧ SlE w' w.heap.size w'.heap.size A n (outE es s) ∧ n ≤ 1048576 ∧ Below w.heap.size w w' := by
  obtain ⟨A2, n2, k2, rfl⟩ := hv2
  have l3 := hide t3.len
  have hE := hide elem_edge
  have hb0 : Below w.heap.size w (w.alloc (.cells #[.int .i64 s0, .int .i64 s1, .slice A2 n2 k2, .slice A3 n3 k3] 33)) := (Below.refl _ _).alloc (Nat.le_refl _) _
  have kE := heap_alloc_new w (.cells #[.int .i64 s0, .int .i64 s1, .slice A2 n2 k2, .slice A3 n3 k3] 33)
  have c3 : (w.alloc (.cells #[.int .i64 s0, .int .i64 s1, .slice A2 n2 k2, .slice A3 n3 k3] 33)).cell? ⟨w.heap.size, 3, none⟩ = some (.slice A3 n3 k3) := (cell_of_row _ _ 3 _ _ (0, 0) kE).trans rfl
  have hz' := hb0.size
  replace t3 := hide (t3.below hb0 (.inr (Nat.le_refl _)))
  replace hb0 := hide hb0
  clear kE
  go_enter Tryz.func132, Tryz.ntmps132
  go_upto_region 3 with fail
  clear c3
  generalize (w.alloc (.cells #[.int .i64 s0, .int .i64 s1, .slice A2 n2 k2, .slice A3 n3 k3] 33)) = W0 at *
  go_loopw [5, 11] (fun o i wr => ∃ k m c A, k ≤ n3 ∧ m ≤ k ∧ o = .slice A m c ∧ i = .int .i64 (k : Nat) ∧ Hid (Own 3 ev wr W0.heap.size 86 A m c (outE (es.take k) s)) ∧ Below W0.heap.size W0 wr) (fun _ i _ => n3 - (intOf i).toNat)
  case atStart => exact ⟨0, 0, 0, none, Nat.zero_le _, Nat.le_refl _, rfl, rfl, Own.nil_ _ _ _, Below.refl _ _⟩
  case round =>
    obtain ⟨k, m, c, A, hk, hmk, rfl, rfl, hown, hb⟩ := hrel
    have hz := hb.size
    by_cases hlt : k < n3
    · obtain ⟨b, off, f, lb, tg, rfl, g1, g2, g3, hx, a0, a1, a2, -, -, -⟩ := SlE.get t3.out hlt
      replace a0 := (hb.cell g3).trans a0
      replace a1 := (hb.cell (p := ⟨b, off + k * 3 + 1, none⟩) g3).trans a1
      replace a2 := (hb.cell (p := ⟨b, off + k * 3 + 2, none⟩) g3).trans a2
      have hsu := outE_succ (s := s) hx
      have hbE : Below wr.heap.size wr (wr.alloc (.cells #[.int .i64 f, .int .i64 lb, .int .i64 tg] 86)) := (Below.refl _ _).alloc (Nat.le_refl _) _
      have kE := heap_alloc_new wr (.cells #[.int .i64 f, .int .i64 lb, .int .i64 tg] 86)
      have z0 : (wr.alloc (.cells #[.int .i64 f, .int .i64 lb, .int .i64 tg] 86)).cell? ⟨wr.heap.size, 0, none⟩ = some (.int .i64 f) := (cell_of_row _ _ 0 _ _ (0, 0) kE).trans rfl
      have z1 : (wr.alloc (.cells #[.int .i64 f, .int .i64 lb, .int .i64 tg] 86)).cell? ⟨wr.heap.size, 1, none⟩ = some (.int .i64 lb) := (cell_of_row _ _ 1 _ _ (0, 0) kE).trans rfl
      have z2 : (wr.alloc (.cells #[.int .i64 f, .int .i64 lb, .int .i64 tg] 86)).cell? ⟨wr.heap.size, 2, none⟩ = some (.int .i64 tg) := (cell_of_row _ _ 2 _ _ (0, 0) kE).trans rfl
      have hbB := hb.trans (hbE.mono hz)
      have hzB := hbB.size
      replace hown := hide (hown.out.alloc (.cells #[.int .i64 f, .int .i64 lb, .int .i64 tg] 86))
      replace hbB := hide hbB
      clear hx g1 g2 kE hbE hb
      go_upto_region 5 with fail
      clear a0 a1 a2
      generalize (wr.alloc (.cells #[.int .i64 f, .int .i64 lb, .int .i64 tg] 86)) = WE at *
      generalize wr.heap.size = bE at *
      have hza : ∀ o, W0.heap.size ≤ (WE.alloc o).heap.size := fun o => by rw [World.size_alloc]; omega
      by_cases hf : f = s
      · subst hf
        rw [if_pos rfl] at hsu
        replace hsu := hide hsu
        go_wp2_with (first | (at_builtin; (with_reducible refine wpList_app rfl (.tmp 19) (.tmp 21) rfl hE.out flat_ev rfl (hown.out.alloc _) rfl (Sl.lit1' WE 86 (f, lb, tg) _ rfl 3 _ ?c0) ?c1 (hza _) ?_); rotate_right; intro A5 c5 w5 hown5 hgr5 hb5 _))
        case c0 => rfl
        case c1 => omega
        have hb6 := hide ((hbB.out.alloc hzB (.cells #[.int .i64 f, .int .i64 lb, .int .i64 tg] 86)).trans hb5)
        replace hown5 : Hid (Own 3 ev w5 W0.heap.size 86 A5 (m + 1) c5 (outE (es.take (k + 1)) f)) := by show Own _ _ _ _ _ _ _ _ _; rw [hsu.out]; exact hown5
        go_roundw
        case rel => exact ⟨k + 1, m + 1, c5, A5, by omega, by omega, rfl, by go_num, hown5, hb6.out⟩
        case measure => simp [intOf]; omega
      · rw [if_neg hf, List.append_nil] at hsu
        have hfb : (f == s) = false := by rw [beq_eq_false_iff_ne]; exact hf
        replace hown : Hid (Own 3 ev WE W0.heap.size 86 A m c (outE (es.take (k + 1)) s)) := by show Own _ _ _ _ _ _ _ _ _; rw [hsu]; exact hown.out
        clear hsu hf
        go_wp2_with fail
        go_roundw
        case rel => exact ⟨k + 1, m, c, A, by omega, by omega, rfl, by go_num, hown, hbB.out⟩
        case measure => simp [intOf]; omega
    · have hkn : k = n3 := by omega
      have hall : es.take k = es := List.take_of_length_le (by rw [l3.out, hkn]; exact Nat.le_refl _)
      have hsl := hide (hown.out.sl flat_ev)
      replace hall := hide hall
      replace hb := hide hb
      subst hkn
      go_wp2_with fail
      go_ret
      have h1 := hsl.out.more hz' (Nat.le_refl _)
      rw [hall.out] at h1
      exact ⟨A, m, c, rfl, h1, by omega, hb0.out.trans (hb.out.mono hz')⟩

end Go.Proofs.YtiaclddgllkgpaaGreatDoor
