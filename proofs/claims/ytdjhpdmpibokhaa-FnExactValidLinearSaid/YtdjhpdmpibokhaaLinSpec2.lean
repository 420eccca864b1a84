/-
  Valid linear processes, by the reference. Conditions: at most 1048576 elements.
-/
import Derived.Test.YtdjhpdmpibokhaaLinSpec
import Derived.Test.YtdjhpdmpibokhaaLin6
import Derived.Deep.QuietTactic
import Derived.BigQuiet
namespace Go.Proofs.Ytdjhpdmpibokhaa
open Go.ChangeShapes Go.WideShapes Go.ChangeAt Go.RowKit
set_option linter.unusedVariables false

theorem l08Data_calls (A : Option Addr) (n c : Nat) (l : List Int) (p : Int) (w : World) (lo hi : Nat) (h : SlI w lo hi A n l) (hn : n ≤ 1048576) :
    Calls Try.prog 110 #[.slice A n c, .int .i64 p] w fun e w' => e = .returned (.bool (decide ((n : Int) = p) && dataOk l)) ∧ w = w' := by
  have q := l03Data_calls A n c l w lo hi h hn
  clear h
  by_cases h1 : (n : Int) = p
  · subst h1
    replace q := hide q
    go_enter Try.func110, Try.ntmps110
    go_wp2_with (first | (go_at_call 70; (with_reducible refine q.out.mono ?_); rintro e w' ⟨rfl, rfl⟩))
    go_ret
    exact ⟨by simp, rfl⟩
  · have h2 : ((n : Int) == p) = false := by rw [beq_eq_false_iff_ne]; exact h1
    have hv : Hid ((decide ((n : Int) = p) && dataOk l) = false) := by show _ = _; simp [h1]
    clear q
    go_enter Try.func110, Try.ntmps110
    go_wp2_with fail
    go_ret
    exact ⟨ret_b (by rw [hv.out]), rfl⟩

def linearB (d : DLi) : Bool := inB d.1 0 21 && ((decide ((d.2.1.length : Int) = d.1) && dataOk d.2.1) && (decide (d.2.2.length ≤ 60) && d.2.2.all (summandB d.1)))

theorem same_quiet {P : Program} {f : FuncId} {args : Array Value} {w : World} {n : Nat} {v : Value} (h : Calls P f args (w.drewN n) fun e w' => e = .returned v ∧ w.drewN n = w') :
    Calls P f args (w.drewN n) fun e w'' => e = .returned v ∧ ∃ m, w'' = w.drewN m := h.mono fun _ _ ⟨he, hm⟩ => ⟨he, n, hm.symm⟩

theorem same_quiet2 {P : Program} {f : FuncId} {args : Array Value} {w : World} {N n : Nat} {v : Value} (h : Calls P f args (w.drewN (N + n)) fun e w' => e = .returned v ∧ w.drewN (N + n) = w') :
    Calls P f args (w.drewN (N + n)) fun e w'' => e = .returned v ∧ ∃ m, w'' = w.drewN (N + m) := h.mono fun _ _ ⟨he, hm⟩ => ⟨he, n, hm.symm⟩

set_option maxHeartbeats 3200000 in
set_option maxRecDepth 100000 in
theorem l08Is_calls {b : Nat} {v1 v2 : Value} {d : DLi} {w : World} {lo hi : Nat} (h1 : ArgI w lo hi v1 d.2.1) (h2 : ArgSuS w lo hi v2 d.2.2) (ht : totLi d ≤ 1048576)
    (c0 : w.cell? ⟨b, 0, none⟩ = some (.int .i64 d.1)) (c1 : w.cell? ⟨b, 1, none⟩ = some v1) (c2 : w.cell? ⟨b, 2, none⟩ = some v2) :
    Calls Try.prog 86 #[.pointer (some ⟨b, 0, none⟩)] w fun e w' => e = .returned (.bool (linearB d)) ∧ ∃ N, w' = w.drewN N := by
  obtain ⟨p, d1, d2⟩ := d
  obtain ⟨A1, n1, k1, e1, hn1, s1⟩ := h1
  obtain ⟨A2, n2, k2, R, e2, hn2, hR, rfl⟩ := h2
  dsimp only at *
  subst e1 e2
  have l1 := s1.len
  have hlen := hR.len
  rw [totLi_eq] at ht
  have hts : totSuS (R.map (·.2)) ≤ 1048576 := by omega
  have hn2s : n2 ≤ 1048576 := by unfold totSuS at hts; rw [List.length_map, hlen] at hts; omega
  have q0 := fun W => l00In_calls p 0 21 W
  have q1 := fun k => l08Data_calls A1 n1 k1 d1 p (w.drewN k) lo hi (s1.drewN k) (by omega)
  have hval : linearB (p, d1, R.map (·.2)) = (inB p 0 21 && ((decide ((n1 : Int) = p) && dataOk d1) && (decide (n2 ≤ 60) && (R.map (·.2)).all (summandB p)))) := by unfold linearB; rw [List.length_map, hlen, l1]
  generalize hB1 : (decide ((n1 : Int) = p) && dataOk d1) = B1 at *
  by_cases z0 : inB p 0 21 = true
  · simp only [z0] at q0
    replace q0 := hide q0
    have hp : 0 ≤ p ∧ p ≤ 21 := by simpa [inB] using z0
    cases B1 with
    | true =>
      replace q1 := hide q1
      by_cases z2 : n2 ≤ 60
      · have z2i : ¬ (60 : Int) < (n2 : Int) := by omega
        have hval2 : Hid (linearB (p, d1, R.map (·.2)) = (R.map (·.2)).all (summandB p)) := by show _ = _; rw [hval, z0]; simp [z2]
        replace hts := hide hts
        replace hR := hide hR
        replace hlen := hide hlen
        have hpa := hp.1
        have hpb := hp.2
        clear hval z0 z2 s1 hB1 ht l1 hp
        go_enter Try.func86, Try.ntmps86
        go_wp2_with fail
        go_quiet ((first | (go_at_call 49; with_reducible exact same_quiet (q0.out _)) | (go_at_call 110; with_reducible exact same_quiet (q1.out _))))
        go_wp2_with fail
        go_loopw [3] (fun i wr => ∃ k : Nat, k ≤ n2 ∧ i = .int .i64 k ∧ (∃ N, wr = w.drewN N) ∧ Hid (∀ l ∈ (R.map (·.2)).take k, summandB p l = true)) (fun i _ => n2 - (intOf i).toNat)
        case atStart => exact ⟨0, Nat.zero_le _, rfl, ⟨_, rfl⟩, fun l hl => by simp at hl⟩
        case round =>
          obtain ⟨k, hk, rfl, ⟨N, rfl⟩, hall⟩ := hrel
          clear q0 q1
          by_cases hlt : k < n2
          · obtain ⟨b2, off, v0, v1, nm, v3, v4, d, rfl, g1, g2, g3, hx, e0, e1, e2, e3, e4, hs⟩ := hR.out.getSu hlt
            have hx2 : (R.map (·.2))[k]? = some d := by rw [List.getElem?_map, hx]; rfl
            have q := fun m => l08Summand_calls (b := b2) (o := off + k * 5) (p := p) (w := w.drewN m) (hs.below (⟨rfl, rfl, rfl, Nat.le_refl _, fun _ _ => rfl⟩ : Below w.heap.size w (w.drewN m)) (.inr (Nat.le_refl _))) (Nat.le_trans (mem_tot (List.mem_of_getElem? hx2)) hts.out) hpa hpb e0 e1 e2 e3 e4
            have hk0 : (0 : Int) ≤ (k : Int) := by omega
            have hk1 : (k : Int) < (n2 : Int) := by omega
            clear hx hs hR e0 e1 e2 e3 e4
            by_cases c : summandB p d = true
            · simp only [c] at q
              replace q := hide q
              have hnext : Hid (∀ l ∈ (R.map (·.2)).take (k + 1), summandB p l = true) := fun l hl => by
                rw [List.take_add_one, hx2] at hl
                rcases List.mem_append.1 hl with hl | hl
                · exact hall.out l hl
                · simp at hl; subst hl; exact c
              clear c hx2
              go_wp2_with fail
              go_quiet ((go_at_call 111; with_reducible exact same_quiet2 (q.out _)))
              go_wp2_with fail
              go_roundw
              case rel => exact ⟨k + 1, by omega, by go_num, ⟨_, rfl⟩, hnext⟩
              case measure => simp [intOf]; omega
            · have hv : Hid ((R.map (·.2)).all (summandB p) = false) := by
                show _ = _
                rw [← Bool.not_eq_true]
                intro hc
                exact c (List.all_eq_true.1 hc d (List.mem_of_getElem? hx2))
              replace c := Bool.eq_false_iff.2 c
              simp only [c] at q
              replace q := hide q
              clear c hx2
              go_wp2_with fail
              go_quiet ((go_at_call 111; with_reducible exact same_quiet2 (q.out _)))
              go_wp2_with fail
              go_ret
              exact ⟨ret_b (by rw [hval2.out, hv.out]), N + nq, World.drewN_drewN _ _ _⟩
          · have hkn : k = n2 := by omega
            subst hkn
            have ha := hall.out
            rw [List.take_of_length_le (by rw [List.length_map, hlen.out]; exact Nat.le_refl _)] at ha
            have hv : Hid ((R.map (·.2)).all (summandB p) = true) := List.all_eq_true.2 ha
            clear ha hall hR
            go_wp2_with fail
            go_ret
            exact ⟨ret_b (by rw [hval2.out, hv.out]), _, rfl⟩
      · have z2i : (60 : Int) < (n2 : Int) := by omega
        have hv : Hid (linearB (p, d1, R.map (·.2)) = false) := by show _ = _; rw [hval]; simp [z2]
        clear hval z0 z2 s1 hR hB1 hts ht l1 hlen hp
        go_enter Try.func86, Try.ntmps86
        go_wp2_with fail
        go_quiet ((first | (go_at_call 49; with_reducible exact same_quiet (q0.out _)) | (go_at_call 110; with_reducible exact same_quiet (q1.out _))))
        go_wp2_with fail
        go_ret
        exact ⟨ret_b (by rw [hv.out]), _, rfl⟩
    | false =>
      replace q1 := hide q1
      have hv : Hid (linearB (p, d1, R.map (·.2)) = false) := by show _ = _; rw [hval]; simp
      clear hval z0 s1 hR hB1 hts ht l1 hlen hp
      go_enter Try.func86, Try.ntmps86
      go_wp2_with fail
      go_quiet ((first | (go_at_call 49; with_reducible exact same_quiet (q0.out _)) | (go_at_call 110; with_reducible exact same_quiet (q1.out _))))
      go_wp2_with fail
      go_ret
      exact ⟨ret_b (by rw [hv.out]), _, rfl⟩
  · replace z0 := Bool.eq_false_iff.2 z0
    simp only [z0] at q0
    replace q0 := hide q0
    have hv : Hid (linearB (p, d1, R.map (·.2)) = false) := by show _ = _; rw [hval, z0]; rfl
    clear hval z0 q1 s1 hR hB1 hts ht l1 hlen
    go_enter Try.func86, Try.ntmps86
    go_wp2_with fail
    go_quiet ((go_at_call 49; with_reducible exact same_quiet (q0.out _)))
    go_wp2_with fail
    go_ret
    exact ⟨ret_b (by rw [hv.out]), _, rfl⟩

theorem specValidLinear_u {v : Value} {d : DLi} {w : World} {lo hi : Nat} (h : FreshLi w lo hi v d) :
    Calls Try.prog 45 #[v] w fun e w' => e = .returned (.bool (linearB d)) ∧ Below w.heap.size w w' := by
  obtain ⟨⟨v1, v2, rfl, h1, h2⟩, ht⟩ := h
  have hb0 : Below w.heap.size w (w.alloc (.cells #[.int .i64 d.1, v1, v2] 66)) := (Below.refl _ _).alloc (Nat.le_refl _) _
  have k0 := heap_alloc_new w (.cells #[.int .i64 d.1, v1, v2] 66)
  have q := hide (l08Is_calls (b := w.heap.size) (h1.below hb0 (.inr (Nat.le_refl _))) (h2.below hb0 (.inr (Nat.le_refl _))) ht ((cell_of_row _ _ 0 _ _ (0, 0) k0).trans rfl) ((cell_of_row _ _ 1 _ _ (0, 0) k0).trans rfl) ((cell_of_row _ _ 2 _ _ (0, 0) k0).trans rfl))
  clear h1 h2 k0
  go_enter Try.func45, Try.ntmps45
  go_wp2_with fail
  refine q.out.mono ?_
  rintro e w1 ⟨rfl, N, rfl⟩
  go_wp2_with fail
  go_ret
  exact ⟨rfl, hb0.trans ⟨rfl, rfl, rfl, Nat.le_refl _, fun _ _ => rfl⟩⟩

end Go.Proofs.Ytdjhpdmpibokhaa
