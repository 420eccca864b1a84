/-
  Valid linear processes, by the program. Conditions: sizes.
-/
import Derived.Test.YtdjhpdmpibokhaaLinImpl2
namespace Go.Proofs.Ytdjhpdmpibokhaa
open Go.ChangeShapes Go.WideShapes Go.ChangeAt Go.RowKit
set_option linter.unusedVariables false

theorem linear1_calls {v0 v1 v3 v4 : Value} {nm : ByteArray} {d : DSu} {p : Int} {b : Nat} {W : World} {lo hi : Nat} (h : ReadSu W lo hi (v0, v1, nm, v3, v4) d) (ht : totSu d ≤ 1048576) (hp0 : 0 ≤ p) (hp1 : p ≤ 21) (hb : b < W.heap.size) (c0 : W.cell? ⟨b, 0, none⟩ = some (.int .i64 p)) :
    Calls Try.prog 90 (#[.agg #[v0, v1, .string nm, v3, v4]] ++ #[.pointer (some ⟨b, 0, none⟩)]) W (Says (!(summandB p d)) W) := by
  have hb0 : Below W.heap.size W (W.alloc (.cells #[v0, v1, .string nm, v3, v4] 103)) := (Below.refl _ _).alloc (Nat.le_refl _) _
  have q := hide (summandValid_calls (p := p) (h.below hb0 (.inr (Nat.le_refl _))) ht hp0 hp1)
  have c1 := (hb0.cell (p := ⟨b, 0, none⟩) hb).trans c0
  clear h
  show Calls _ _ #[.agg #[v0, v1, .string nm, v3, v4], .pointer (some ⟨b, 0, none⟩)] W _
  go_enter Try.func90, Try.ntmps90
  go_wp2_with fail
  refine q.out.mono ?_
  rintro e w1 ⟨rfl, hb1⟩
  go_wp2_with fail
  go_ret
  exact ⟨rfl, hb0.trans (hb1.mono hb0.size)⟩

set_option maxRecDepth 100000 in
theorem indexFuncSu_calls (F : FuncId) (caps : Array Value) (G : DSu → Bool) (A : Option Addr) (n c : Nat) (R : List (CSu × DSu)) (w : World) (lo hi : Nat) (h : RowSu w lo hi A n R) (hn : n ≤ 1048576)
    (hF : ∀ (v : Value) (W : World), Sem.run Try.prog (callFunc F (#[v] ++ caps)) W = .ok (.enter F (#[v] ++ caps)) W)
    (hcl : ∀ (v0 v1 v3 v4 : Value) (nm : ByteArray) (d : DSu) (W : World), d ∈ R.map (·.2) → Below w.heap.size w W → ReadSu W lo hi (v0, v1, nm, v3, v4) d → Calls Try.prog F (#[.agg #[v0, v1, .string nm, v3, v4]] ++ caps) W (Says (G d) W)) :
    Calls Try.prog 113 #[.slice A n c, .func (.func F) #[] caps] w fun e w' => ∃ i : Int, e = .returned (.int .i64 i) ∧ decide (0 ≤ i) = (R.map (·.2)).any G ∧ Below w.heap.size w w' := by
  have hlen := hide h.len
  replace hcl := hide hcl
  replace h := hide h
  go_enter Try.func113, Try.ntmps113
  go_wp2
  go_loopw [8] (fun i wr => ∃ k : Nat, k ≤ n ∧ i = .int .i64 k ∧ Below w.heap.size w wr ∧ Hid (((R.map (·.2)).take k).any G = false)) (fun i _ => n - (intOf i).toNat)
  case atStart => exact ⟨0, Nat.zero_le _, rfl, Below.refl _ _, rfl⟩
  case round =>
    obtain ⟨k, hk, rfl, hb, ha⟩ := hrel
    by_cases hlt : k < n
    · obtain ⟨b, off, v0, v1, nm, v3, v4, d, hA, g1, g2, g3, hx, c0, c1, c2, c3, c4, hs⟩ := (h.out.below lawsSu hb (.inr (Nat.le_refl _))).getSu hlt
      subst hA
      have hx2 : (R.map (·.2))[k]? = some d := by rw [List.getElem?_map, hx]; rfl
      have hc := hcl.out v0 v1 v3 v4 nm d wr (List.mem_of_getElem? hx2) hb hs
      replace hx2 := hide hx2
      clear h hcl hx hs
      by_cases hg : G d = true
      · rw [hg] at hc
        replace hc := hide hc
        have hy := hide (any_hit hx2.out hg)
        clear hg
        go_wp2_with fail
        refine hc.out.mono ?_
        rintro e w1 ⟨rfl, hb1⟩
        go_wp2_with fail
        go_ret
        exact ⟨_, rfl, by rw [hy.out]; simp, hb.trans (hb1.mono hb.size)⟩
      · replace hg := Bool.eq_false_iff.2 hg
        rw [hg] at hc
        replace hc := hide hc
        have hy := hide (any_take_succ ha.out hx2.out hg)
        clear hg
        go_wp2_with fail
        refine hc.out.mono ?_
        rintro e w1 ⟨rfl, hb1⟩
        go_wp2_with fail
        go_roundw
        case rel => exact ⟨k + 1, by omega, by go_num, hb.trans (hb1.mono hb.size), hy⟩
        case measure => simp [intOf]; omega
    · have hkn : k = n := by omega
      subst hkn
      clear hcl
      go_wp2
      go_ret
      have hy := ha.out
      rw [List.take_of_length_le (by have := hlen.out; rw [List.length_map]; omega)] at hy
      exact ⟨_, rfl, by rw [hy]; decide, hb⟩

theorem containsFuncSu_calls (F : FuncId) (caps : Array Value) (G : DSu → Bool) (A : Option Addr) (n c : Nat) (R : List (CSu × DSu)) (w : World) (lo hi : Nat) (h : RowSu w lo hi A n R) (hn : n ≤ 1048576)
    (hF : ∀ (v : Value) (W : World), Sem.run Try.prog (callFunc F (#[v] ++ caps)) W = .ok (.enter F (#[v] ++ caps)) W)
    (hcl : ∀ (v0 v1 v3 v4 : Value) (nm : ByteArray) (d : DSu) (W : World), d ∈ R.map (·.2) → Below w.heap.size w W → ReadSu W lo hi (v0, v1, nm, v3, v4) d → Calls Try.prog F (#[.agg #[v0, v1, .string nm, v3, v4]] ++ caps) W (Says (G d) W)) :
    Calls Try.prog 89 #[.slice A n c, .func (.func F) #[] caps] w (Says ((R.map (·.2)).any G) w) := by
  have q := hide (indexFuncSu_calls F caps G A n c R w lo hi h hn hF hcl)
  clear h hF hcl
  go_enter Try.func89, Try.ntmps89
  go_wp2_with fail
  refine q.out.mono ?_
  rintro e w1 ⟨i, rfl, hi, hb⟩
  replace hi := hide hi
  go_wp2_with fail
  go_ret
  exact ⟨ret_b hi.out.symm, hb⟩

theorem isState_calls (A : Option Addr) (n c : Nat) (l : List Int) (p : Int) (v1 v2 : Value) (w : World) (lo hi : Nat) (h : SlI w lo hi A n l) (hn : n ≤ 1048576) :
    Calls Try.prog 88 #[.agg #[.int .i64 p, v1, v2], .slice A n c] w fun e w' => e = .returned (.bool (decide ((n : Int) = p) && dataOk l)) ∧ Below w.heap.size w w' := by
  have hb0 : Below w.heap.size w (w.alloc (.cells #[.int .i64 p, v1, v2] 66)) := (Below.refl _ _).alloc (Nat.le_refl _) _
  have q := areValues_calls A n c l _ lo hi (h.below hb0 (.inr (Nat.le_refl _))) hn
  clear h
  by_cases h1 : (n : Int) = p
  · subst h1
    replace q := hide q
    go_enter Try.func88, Try.ntmps88
    go_wp2_with (first | (go_at_call 72; (with_reducible refine q.out.mono ?_); rintro e w1 ⟨rfl, hb1⟩))
    go_ret
    exact ⟨by simp, hb0.trans (hb1.mono hb0.size)⟩
  · have h2 : ((n : Int) == p) = false := by rw [beq_eq_false_iff_ne]; exact h1
    have hv : Hid ((decide ((n : Int) = p) && dataOk l) = false) := by show _ = _; simp [h1]
    clear q
    go_enter Try.func88, Try.ntmps88
    go_wp2_with fail
    go_ret
    exact ⟨ret_b (by rw [hv.out]), hb0⟩

set_option maxHeartbeats 1600000 in
set_option maxRecDepth 100000 in
theorem implValidLinear_u {v : Value} {d : DLi} {w : World} {lo hi : Nat} (h : FreshLi w lo hi v d) :
    Calls Try.prog 47 #[v] w fun e w' => e = .returned (.bool (linearB d)) ∧ Below w.heap.size w w' := by
  obtain ⟨p, d1, d2⟩ := d
  obtain ⟨⟨v1, v2, rfl, ⟨A1, n1, k1, e1, hn1, s1⟩, ⟨A2, n2, k2, R, e2, hn2, hR, rfl⟩⟩, ht⟩ := h
  dsimp only at *
  subst e1 e2
  have l1 := s1.len
  have hlen := hR.len
  rw [totLi_eq] at ht
  have hts : totSuS (R.map (·.2)) ≤ 1048576 := by omega
  have hn2s : n2 ≤ 1048576 := by unfold totSuS at hts; rw [List.length_map, hlen] at hts; omega
  have hval : linearB (p, d1, R.map (·.2)) = (inB p 0 21 && ((decide ((n1 : Int) = p) && dataOk d1) && (decide (n2 ≤ 60) && (R.map (·.2)).all (summandB p)))) := by unfold linearB; rw [List.length_map, hlen, l1]
  have hb0 : Below w.heap.size w (w.alloc (.cells #[.int .i64 p, .slice A1 n1 k1, .slice A2 n2 k2] 66)) := (Below.refl _ _).alloc (Nat.le_refl _) _
  have kk0 := heap_alloc_new w (.cells #[.int .i64 p, .slice A1 n1 k1, .slice A2 n2 k2] 66)
  have hz : w.heap.size < (w.alloc (.cells #[.int .i64 p, .slice A1 n1 k1, .slice A2 n2 k2] 66)).heap.size := by rw [World.size_alloc]; omega
  have q0 := fun W => within_calls p 0 21 W
  have q1 := isState_calls A1 n1 k1 d1 p (.slice A1 n1 k1) (.slice A2 n2 k2) _ lo hi (s1.below hb0 (.inr (Nat.le_refl _))) (by omega)
  generalize hB1 : (decide ((n1 : Int) = p) && dataOk d1) = B1 at *
  clear s1 l1 ht hn1
  by_cases z0 : inB p 0 21 = true
  · simp only [z0] at q0
    replace q0 := hide q0
    have hp : 0 ≤ p ∧ p ≤ 21 := by simpa [inB] using z0
    have hpa := hp.1
    have hpb := hp.2
    clear hp
    cases B1 with
    | false =>
      replace q1 := hide q1
      have hv : Hid (linearB (p, d1, R.map (·.2)) = false) := by show _ = _; rw [hval]; simp
      clear hval z0 hR hB1 hts hlen
      go_enter Try.func47, Try.ntmps47
      go_wp2_with (first | (go_at_call 52; (with_reducible refine (q0.out _).mono ?_); rintro e wx ⟨rfl, rfl⟩) | (go_at_call 88; (with_reducible refine q1.out.mono ?_); rintro e w1 ⟨rfl, hb1⟩))
      go_ret
      exact ⟨ret_b (by rw [hv.out]), hb0.trans (hb1.mono hb0.size)⟩
    | true =>
      replace q1 := hide q1
      by_cases z2 : n2 ≤ 60
      · have z2i : ¬ (60 : Int) < (n2 : Int) := by omega
        have hval2 : Hid (linearB (p, d1, R.map (·.2)) = (R.map (·.2)).all (summandB p)) := by show _ = _; rw [hval, z0]; simp [z2]
        replace hR := hide hR
        replace hts := hide hts
        clear hval z0 hB1 hlen z2
        go_enter Try.func47, Try.ntmps47
        go_wp2_with (first | (go_at_call 52; (with_reducible refine (q0.out _).mono ?_); rintro e wx ⟨rfl, rfl⟩) | (go_at_call 88; (with_reducible refine q1.out.mono ?_); rintro e w1 ⟨rfl, hb1⟩; replace kk0 := (hb1.block _ hz).trans kk0; have hbb := hb0.trans (hb1.mono hb0.size); replace hz := Nat.lt_of_lt_of_le hz hb1.size; have a0 : w1.cell? ⟨w.heap.size, 0, none⟩ = some (.int .i64 p) := (cell_of_row _ _ 0 _ _ (0, 0) kk0).trans rfl; have a1 : w1.cell? ⟨w.heap.size, 1, none⟩ = some (.slice A1 n1 k1) := (cell_of_row _ _ 1 _ _ (0, 0) kk0).trans rfl; have a2 : w1.cell? ⟨w.heap.size, 2, none⟩ = some (.slice A2 n2 k2) := (cell_of_row _ _ 2 _ _ (0, 0) kk0).trans rfl))
        have qc := containsFuncSu_calls 90 #[.pointer (some ⟨w.heap.size, 0, none⟩)] (fun d => !(summandB p d)) A2 n2 k2 R w1 lo hi (hR.out.below lawsSu hbb (.inr (Nat.le_refl _))) hn2s (fun _ _ => by kernel_rfl) (fun v0 v1 v3 v4 nm d W hm hW hs => linear1_calls hs (Nat.le_trans (mem_tot hm) hts.out) hpa hpb (Nat.lt_of_lt_of_le hz hW.size) ((cell_of_row _ _ 0 _ _ (0, 0) ((hW.block _ hz).trans kk0)).trans rfl))
        refine qc.mono ?_
        rintro e w2 ⟨rfl, hb2⟩
        go_wp2_with fail
        go_ret
        exact ⟨ret_b (by rw [hval2.out, List.all_eq_not_any_not]; try simp), hbb.trans (hb2.mono hbb.size)⟩
      · have z2i : (60 : Int) < (n2 : Int) := by omega
        have hv : Hid (linearB (p, d1, R.map (·.2)) = false) := by show _ = _; rw [hval]; simp [z2]
        clear hval z0 hR hB1 hts hlen z2
        go_enter Try.func47, Try.ntmps47
        go_wp2_with (first | (go_at_call 52; (with_reducible refine (q0.out _).mono ?_); rintro e wx ⟨rfl, rfl⟩) | (go_at_call 88; (with_reducible refine q1.out.mono ?_); rintro e w1 ⟨rfl, hb1⟩; replace kk0 := (hb1.block _ hz).trans kk0; have a2 : w1.cell? ⟨w.heap.size, 2, none⟩ = some (.slice A2 n2 k2) := (cell_of_row _ _ 2 _ _ (0, 0) kk0).trans rfl))
        go_ret
        exact ⟨ret_b (by rw [hv.out]), hb0.trans (hb1.mono hb0.size)⟩
  · replace z0 := Bool.eq_false_iff.2 z0
    simp only [z0] at q0
    replace q0 := hide q0
    have hv : Hid (linearB (p, d1, R.map (·.2)) = false) := by show _ = _; rw [hval, z0]; rfl
    clear hval z0 q1 hR hB1 hts hlen
    go_enter Try.func47, Try.ntmps47
    go_wp2_with (first | (go_at_call 52; (with_reducible refine (q0.out _).mono ?_); rintro e wx ⟨rfl, rfl⟩))
    go_ret
    exact ⟨ret_b (by rw [hv.out]), hb0⟩

end Go.Proofs.Ytdjhpdmpibokhaa
