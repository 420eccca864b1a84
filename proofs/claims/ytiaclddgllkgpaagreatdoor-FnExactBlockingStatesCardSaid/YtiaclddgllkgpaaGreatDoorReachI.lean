/-
  Reachable states, by the program; BlockingStates, by both. Conditions: sizes.
-/
import Derived.Test.YtiaclddgllkgpaaGreatDoorReach
namespace Go.Proofs.YtiaclddgllkgpaaGreatDoor
open Go.ChangeShapes Go.WideShapes Go.ChangeAt Go.RowKit Go.Sort
set_option linter.unusedVariables false
set_option linter.unusedSimpArgs false

theorem range_succ_int (k : Nat) : (List.range (k + 1)).map Int.ofNat = (List.range k).map Int.ofNat ++ [(k : Int)] := by
  rw [List.range_succ, List.map_append]
  rfl
set_option maxRecDepth 100000 in
theorem upTo_calls (N : Nat) (hN : N ≤ 1048000) (w : World) :
    Calls Tryz.prog 123 #[.int .i64 (N : Int)] w fun e w' => ∃ A c, e = .returned (.slice A N c) ∧ Own 1 iv w' w.heap.size 2 A N c ((List.range N).map Int.ofNat) ∧ Below w.heap.size w w' := by
  have hE := hide elem_int64
  go_enter Tryz.func123, Tryz.ntmps123
  go_wp2
  go_loopw [3, 6] (fun v i wr => ∃ (k : Nat) (A : Option Addr) (c : Nat), k ≤ N ∧ i = .int .i64 (k : Nat) ∧ v = .slice A k c ∧ Hid (Own 1 iv wr w.heap.size 2 A k c ((List.range k).map Int.ofNat)) ∧ Below w.heap.size w wr) (fun _ i _ => N - (intOf i).toNat)
  case atStart => exact ⟨0, none, 0, Nat.zero_le _, rfl, rfl, Own.nil_ _ _ _, Below.refl _ _⟩
  case round =>
    obtain ⟨k, A, c, hk, rfl, rfl, hown, hb⟩ := hrel
    by_cases hlt : k < N
    · have hz := hb.size
      have hza : ∀ o, w.heap.size ≤ (wr.alloc o).heap.size := fun o => by rw [World.size_alloc]; omega
      have hst := hide (range_succ_int k)
      replace hb := hide hb
      go_wp2_with (first | (at_builtin; (with_reducible refine wpList_app rfl (.tmp 9) (.tmp 11) rfl hE.out flat_iv rfl (hown.out.alloc _) rfl (Sl.lit1' wr 2 (k : Int) _ rfl 1 _ ?c0) ?c1 (hza _) ?_); rotate_right; intro A5 c5 w5 hown5 hgr5 hb5 _))
      case c0 => rfl
      case c1 => omega
      have hb6 := hide ((hb.out.alloc hz (.cells #[.int .i64 (k : Int)] 2)).trans hb5)
      go_roundw
      case rel => exact ⟨k + 1, A5, c5, by omega, by go_num, rfl, by rw [hst.out]; exact hown5, hb6.out⟩
      case measure => simp [intOf]; omega
    · have hkn : k = N := by omega
      subst hkn
      replace hb := hide hb
      go_wp2
      go_ret
      exact ⟨A, c, rfl, hown.out, hb.out⟩

def atI (l : List Int) (v : Int) : Int := (l[v.toNat]?).getD 0
theorem atI_get {l : List Int} {k : Nat} {x : Int} (h : l[k]? = some x) : atI l (k : Int) = x := by
  unfold atI
  rw [Int.toNat_natCast, h]
  rfl
theorem dist_reach {N : Nat} {es : List Ed} {ini : Int} {far : List Int} (h : DistIs (srcE [ini]) (arcE true es) N far) {k : Nat} (hk : k < N) : (!(decide (atI far (k : Int) < 0))) = reachB es ini k := by
  have hx : far[k]? = some (far[k]'(by rw [h.1]; exact hk)) := List.getElem?_eq_getElem _
  rw [atI_get hx]
  generalize far[k]'(by rw [h.1]; exact hk) = x at *
  obtain ⟨h1, h2⟩ := h.2 k x hx
  by_cases h0 : x < 0
  · rw [decide_eq_true h0]
    cases e : reachB es ini k with
    | false => rfl
    | true =>
      obtain ⟨m, hm⟩ := reachB_true.1 e
      exact absurd hm ((h2 h0).2 m)
  · rw [decide_eq_false h0]
    exact (reachB_true.2 ⟨_, (h1 (by omega)).1⟩).symm
theorem filter_reach {N : Nat} {es : List Ed} {ini : Int} {far : List Int} (h : DistIs (srcE [ini]) (arcE true es) N far) : (((List.range N).map Int.ofNat).filter fun v => !(decide (atI far v < 0))) = reachF N es ini := by
  unfold reachF
  rw [List.filter_map]
  congr 1
  apply List.filter_congr
  intro k hk
  exact dist_reach h (List.mem_range.1 hk)

theorem reach1_calls (b : Nat) (A : Option Addr) (n c : Nat) (far : List Int) (v : Int) (W : World) (lo hi : Nat) (hb : W.cell? ⟨b, 0, none⟩ = some (.slice A n c)) (h : SlI W lo hi A n far) (h0 : 0 ≤ v) (h1 : v < (n : Int)) :
    Calls Tryz.prog 124 (#[.int .i64 v] ++ #[.pointer (some ⟨b, 0, none⟩)]) W (Says (decide (atI far v < 0)) W) := by
  obtain ⟨b', off, x, rfl, -, -, -, hx, c0, -⟩ := SlI.get h (show v.toNat < n by omega)
  have hv : Hid (atI far v = x) := by show _ = _; unfold atI; rw [hx]; rfl
  clear hx h
  go_enter Tryz.func124, Tryz.ntmps124
  go_wp2_with fail
  go_ret
  exact ⟨ret_b (by rw [hv.out]), Below.refl _ _⟩
theorem block1_calls (b : Nat) (A : Option Addr) (n c : Nat) (far : List Int) (v : Int) (W : World) (lo hi : Nat) (hb : W.cell? ⟨b, 0, none⟩ = some (.slice A n c)) (h : SlI W lo hi A n far) (h0 : 0 ≤ v) (h1 : v < (n : Int)) :
    Calls Tryz.prog 73 (#[.int .i64 v] ++ #[.pointer (some ⟨b, 0, none⟩)]) W (Says (decide (0 ≤ atI far v)) W) := by
  obtain ⟨b', off, x, rfl, -, -, -, hx, c0, -⟩ := SlI.get h (show v.toNat < n by omega)
  have hv : Hid (atI far v = x) := by show _ = _; unfold atI; rw [hx]; rfl
  clear hx h
  go_enter Tryz.func73, Tryz.ntmps73
  go_wp2_with fail
  go_ret
  exact ⟨ret_b (by rw [hv.out]), Below.refl _ _⟩

set_option maxRecDepth 100000 in
set_option maxHeartbeats 1600000 in
theorem reachable_calls (N ini : Nat) (v2 : Value) (A3 : Option Addr) (n3 k3 : Nat) (es : List Ed) (w : World) (lo hi : Nat)
    (t3 : SlE w lo hi A3 n3 es) (hes : n3 ≤ 1048576) (hN1 : 1 ≤ N) (hN2 : N ≤ 40) (hini : ini < N) (hv2 : ∃ A n k, v2 = .slice A n k)
    (hedge : ∀ e ∈ es, (0 ≤ e.1 ∧ e.1 < (N : Int)) ∧ (0 ≤ e.2.2 ∧ e.2.2 < (N : Int))) :
    Calls Tryz.prog 72 #[.agg #[.int .i64 (N : Int), .int .i64 (ini : Int), v2, .slice A3 n3 k3]] w fun e w' => ∃ A m c, e = .returned (.slice A m c) ∧ SlI w' w.heap.size w'.heap.size A m (reachF N es (ini : Int)) ∧ m ≤ 40 ∧ m ≤ c ∧ Below w.heap.size w w' := by
  obtain ⟨A2, n2, k2, rfl⟩ := hv2
  have hb0 : Below w.heap.size w (w.alloc (.cells #[.int .i64 (N : Int), .int .i64 (ini : Int), .slice A2 n2 k2, .slice A3 n3 k3] 33)) := (Below.refl _ _).alloc (Nat.le_refl _) _
  have kE := heap_alloc_new w (.cells #[.int .i64 (N : Int), .int .i64 (ini : Int), .slice A2 n2 k2, .slice A3 n3 k3] 33)
  have hz : w.heap.size < (w.alloc (.cells #[.int .i64 (N : Int), .int .i64 (ini : Int), .slice A2 n2 k2, .slice A3 n3 k3] 33)).heap.size := by rw [World.size_alloc]; omega
  replace t3 := t3.below hb0 (.inr (Nat.le_refl _))
  have hz' := Nat.le_of_lt hz
  replace hb0 := hide hb0
  go_enter Tryz.func72, Tryz.ntmps72
  go_upto_region 1 with fail
  generalize (w.alloc (.cells #[.int .i64 (N : Int), .int .i64 (ini : Int), .slice A2 n2 k2, .slice A3 n3 k3] 33)) = W0 at *
  generalize hbm : w.heap.size = bm at *
  have c0 : W0.cell? ⟨bm, 0, none⟩ = some (.int .i64 (N : Int)) := (cell_of_row _ _ 0 _ _ (0, 0) kE).trans rfl
  have c1 : W0.cell? ⟨bm, 1, none⟩ = some (.int .i64 (ini : Int)) := (cell_of_row _ _ 1 _ _ (0, 0) kE).trans rfl
  have c2 : W0.cell? ⟨bm, 2, none⟩ = some (.slice A2 n2 k2) := (cell_of_row _ _ 2 _ _ (0, 0) kE).trans rfl
  have c3 : W0.cell? ⟨bm, 3, none⟩ = some (.slice A3 n3 k3) := (cell_of_row _ _ 3 _ _ (0, 0) kE).trans rfl
  have hbl : Below W0.heap.size W0 (W0.alloc (.cells #[.int .i64 (ini : Int)] 2)) := (Below.refl _ _).alloc (Nat.le_refl _) _
  have q := hide (distancesF_calls N (ini : Int) (.slice A2 n2 k2) A3 n3 k3 (some ⟨W0.heap.size, 0, none⟩) 1 1 es [(ini : Int)] _ lo hi 0 _ (t3.below hbl (.inr (Nat.le_refl _))) (Sl.lit1' W0 2 (ini : Int) _ rfl 1 _ rfl) hes (by omega) hN1 hN2 hedge (fun v hv => by simp at hv; omega))
  have hblz := hbl.size
  replace hbl := hide hbl
  replace kE := hide kE
  clear t3 hedge
  go_wp2_with fail
  refine q.out.mono ?_
  rintro e w1 ⟨Af, cf, rfl, hf, hd, hb1⟩
  have hbA := hbl.out.trans (hb1.mono hblz)
  have hzA := hbA.size
  have hbox : Below w1.heap.size w1 (w1.alloc (.cells #[.slice Af N cf] 26)) := (Below.refl _ _).alloc (Nat.le_refl _) _
  have kB := heap_alloc_new w1 (.cells #[.slice Af N cf] 26)
  have hbB := hbA.trans (hbox.mono hzA)
  have kE2 := (hbB.block _ hz).trans kE.out
  have d0 : (w1.alloc (.cells #[.slice Af N cf] 26)).cell? ⟨bm, 0, none⟩ = some (.int .i64 (N : Int)) := (cell_of_row _ _ 0 _ _ (0, 0) kE2).trans rfl
  have q2 := hide (upTo_calls N (by omega) (w1.alloc (.cells #[.slice Af N cf] 26)))
  have hfB := Sl.below hf hbox (.inr (Nat.le_refl _))
  have hbs : w1.heap.size < (w1.alloc (.cells #[.slice Af N cf] 26)).heap.size := by rw [World.size_alloc]; omega
  have hdr := hide (filter_reach hd)
  replace hbB := hide hbB
  replace kB := hide kB
  clear kE kE2 q hf hbox hbA c0 c1 c2 c3
  go_upto_region 2 with fail
  generalize (w1.alloc (.cells #[.slice Af N cf] 26)) = WB at *
  generalize w1.heap.size = bb at *
  go_wp2_with fail
  refine q2.out.mono ?_
  rintro e w2 ⟨A, c, rfl, hown, hb2⟩
  have hsl := hown.sl flat_iv
  have hcap := hown.cap
  have hmem : ∀ v ∈ (List.range N).map Int.ofNat, 0 ≤ v ∧ v < (N : Int) := fun v hv => by
    obtain ⟨k, hk, rfl⟩ := List.mem_map.1 hv
    have := List.mem_range.1 hk
    exact ⟨Int.natCast_nonneg _, by show (k : Int) < _; omega⟩
  have q3 := hide (deleteFuncI_calls 124 #[.pointer (some ⟨bb, 0, none⟩)] (fun v => decide (atI (distF true N es [(ini : Int)]) v < 0)) A N c _ w2 WB.heap.size hsl hcap (by omega) hb2.size (fun v W => by kernel_rfl) (fun v W hv hW => by
    obtain ⟨h0, h1⟩ := hmem v hv
    have hW2 := hb2.trans hW
    exact reach1_calls bb Af N cf _ v W _ _ ((hW2.cell (p := ⟨bb, 0, none⟩) hbs).trans ((cell_of_row _ _ 0 _ _ (0, 0) kB.out).trans rfl)) (Sl.below hfB hW2 (.inl (by omega))) h0 h1))
  replace hb2 := hide hb2
  clear hsl hmem hown hfB kB d0
  go_wp2_with fail
  refine q3.out.mono ?_
  rintro e w3 ⟨m, c', rfl, hmn, hmc, hres, hb3⟩
  have hbw := hide (hbB.out.trans ((hb2.out.trans hb3).mono hbB.out.size))
  have hres2 := hide hres
  clear hb3 hres
  go_wp2_with fail
  go_ret
  have hr := hres2.out.more (show bm ≤ WB.heap.size by have := hbB.out.size; omega) (Nat.le_refl _)
  rw [hdr.out] at hr
  exact ⟨A, m, c', rfl, by first | exact hr | (rw [hbm]; exact hr), by omega, hmc, by first | exact hb0.out.trans (hbw.out.mono hz') | (rw [hbm]; exact hb0.out.trans (hbw.out.mono hz'))⟩

end Go.Proofs.YtiaclddgllkgpaaGreatDoor
