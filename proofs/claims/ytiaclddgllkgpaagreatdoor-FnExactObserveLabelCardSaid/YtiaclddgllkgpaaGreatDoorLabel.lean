/-
  The program's reading of a label. Conditions: sizes.
-/
import Derived.Test.YtiaclddgllkgpaaGreatDoorLabI
namespace Go.Proofs.YtiaclddgllkgpaaGreatDoor
open Go.ChangeShapes Go.WideShapes Go.ChangeAt Go.RowKit
set_option linter.unusedVariables false

theorem nameB_len {s : ByteArray} (h : nameB s = true) : s.size ≤ 10 := by
  unfold nameB at h
  rw [Bool.and_eq_true, decide_eq_true_eq] at h
  exact h.2.2
theorem isAction_calls (s : ByteArray) (w : World) (hs : s.size ≤ 1048576) : Calls Tryz.prog 119 #[.string s] w fun e w' => e = .returned (.bool (actB s)) ∧ w = w' := by
  have q := isName_calls s w (by unfold maxLen; omega)
  by_cases hn : nameB s = true
  · rw [hn] at q
    replace q := hide q
    by_cases ht : s = tauB
    · have hv : Hid (actB s = false) := by show _ = _; unfold actB; simp [ht]
      subst ht
      clear hn
      go_enter Tryz.func119, Tryz.ntmps119
      go_wp2_with (first | (go_at_call 158; (with_reducible refine q.out.mono ?_); rintro e w1 ⟨rfl, rfl⟩))
      go_ret
      exact ⟨ret_b (by rw [hv.out, tau_list]; rfl), rfl⟩
    · have hv : Hid (actB s = true) := by show _ = _; unfold actB; simp [ht, hn]
      have hne := tau_ne ht
      clear hn ht
      go_enter Tryz.func119, Tryz.ntmps119
      go_wp2_with (first | (go_at_call 158; (with_reducible refine q.out.mono ?_); rintro e w1 ⟨rfl, rfl⟩))
      go_ret
      exact ⟨ret_b (by rw [hv.out]), rfl⟩
  · replace hn := Bool.eq_false_iff.2 hn
    have hv : Hid (actB s = false) := by show _ = _; unfold actB; rw [hn]; rfl
    rw [hn] at q
    replace q := hide q
    clear hn
    go_enter Tryz.func119, Tryz.ntmps119
    go_wp2_with (first | (go_at_call 158; (with_reducible refine q.out.mono ?_); rintro e w1 ⟨rfl, rfl⟩))
    go_ret
    exact ⟨ret_b (by rw [hv.out]), rfl⟩

theorem isVal_bounds {L : List Int} (h : L.all isVal = true) : ∀ v ∈ L, -9223372036854775808 ≤ v ∧ v ≤ 9223372036854775807 := fun v hv => by
  have := (List.all_eq_true.1 h) v hv
  simp [isVal] at this
  omega

/-- What labelOf hands back. -/
def LabR (w w' : World) (o : Option (List UInt8)) (e : Ending) : Prop := ∃ t b, e = .returned (.tuple #[.string t, .bool b]) ∧ o = (if b then some t.data.toList else none) ∧ Below w.heap.size w w'

set_option maxRecDepth 100000 in
set_option maxHeartbeats 800000 in
theorem labelOf_calls (nm : ByteArray) (A : Option Addr) (n c : Nat) (L : List Int) (w : World) (lo hi : Nat) (hs : nm.size ≤ 1048576) (h : SlI w lo hi A n L) (hn : n ≤ 1048577) (he : Env w) :
    Calls Tryz.prog 220 #[.string nm, .slice A n c] w fun e w' => LabR w w' (labOf nameL nm.data.toList L) e := by
  have hlen := h.len
  have hq1 := isAction_calls nm w hs
  by_cases ht : nm = tauB
  · have htl : nm.data.toList = tauL := by rw [ht]; rfl
    by_cases h0 : n = 0
    · have hL0 : L = [] := List.eq_nil_of_length_eq_zero (by omega)
      have hv : Hid (labOf nameL nm.data.toList L = some tauL) := by show _ = _; unfold labOf; rw [if_pos htl, if_pos hL0]
      subst h0 ht
      clear hL0 htl hlen hq1 h he
      have htt : (tauB.toList == [116, 97, 117]) = true := by rw [tau_list]; rfl
      go_enter Tryz.func220, Tryz.ntmps220
      go_wp2_with fail
      go_ret2
      exact ⟨tauB, true, rfl, by rw [hv.out]; rfl, Below.refl _ _⟩
    · have hL0 : L ≠ [] := by rintro rfl; simp at hlen; omega
      have hv : Hid (labOf nameL nm.data.toList L = none) := by show _ = _; unfold labOf; rw [if_pos htl, if_neg hL0]
      have hb0 : ((n : Int) == 0) = false := by rw [beq_eq_false_iff_ne]; omega
      subst ht
      clear hL0 htl hlen hq1 h he
      have htt : (tauB.toList == [116, 97, 117]) = true := by rw [tau_list]; rfl
      go_enter Tryz.func220, Tryz.ntmps220
      go_wp2_with fail
      go_ret2
      exact ⟨tauB, false, rfl, by rw [hv.out]; rfl, Below.refl _ _⟩
  · have htl : nm.data.toList ≠ tauL := fun e => ht (by rw [← bytes_eta nm, e]; rfl)
    have hact : actB nm = nameB nm := by unfold actB; rw [decide_eq_false ht]; simp
    have hne := tau_ne ht
    have hq2 := areValues_calls A n c L w lo hi h
    cases hnm : nameB nm with
    | false =>
      have hv : Hid (labOf nameL nm.data.toList L = none) := by show _ = _; unfold labOf; rw [if_neg htl, nameL_data, hnm]; rfl
      rw [hact, hnm] at hq1
      replace hq1 := hide hq1
      clear hact htl ht hnm h he hq2 hlen
      go_enter Tryz.func220, Tryz.ntmps220
      go_wp2_with (first | (go_at_call 119; (with_reducible refine hq1.out.mono ?_); rintro e w1 ⟨rfl, rfl⟩))
      go_ret2
      exact ⟨⟨#[]⟩, false, rfl, by rw [hv.out]; rfl, Below.refl _ _⟩
    | true =>
      rw [hact, hnm] at hq1
      replace hq1 := hide hq1
      by_cases h2 : 2 < n
      · have hv : Hid (labOf nameL nm.data.toList L = none) := by
          show _ = _
          unfold labOf
          rw [if_neg htl, nameL_data, hnm, if_pos (by rw [hlen]; simp [h2])]
        have h2I : (2 : Int) < (n : Int) := by omega
        clear hact htl ht hnm h he hq2 hlen
        go_enter Tryz.func220, Tryz.ntmps220
        go_wp2_with (first | (go_at_call 119; (with_reducible refine hq1.out.mono ?_); rintro e w1 ⟨rfl, rfl⟩))
        go_ret2
        exact ⟨⟨#[]⟩, false, rfl, by rw [hv.out]; rfl, Below.refl _ _⟩
      · replace hq2 := hq2 (by omega)
        have h2I : ¬ (2 : Int) < (n : Int) := by omega
        have h2L : ¬ 2 < L.length := by omega
        cases hall : L.all isVal with
        | false =>
          have hv : Hid (labOf nameL nm.data.toList L = none) := by
            show _ = _
            unfold labOf
            rw [if_neg htl, nameL_data, hnm, if_pos (by rw [hall]; simp)]
          rw [hall] at hq2
          replace hq2 := hide hq2
          clear hact htl ht hnm h he hlen hall h2 h2L
          go_enter Tryz.func220, Tryz.ntmps220
          go_wp2_with (first | (go_at_call 119; (with_reducible refine hq1.out.mono ?_); rintro e w1 ⟨rfl, rfl⟩) | (go_at_call 238; (with_reducible refine hq2.out.mono ?_); rintro e w2 ⟨rfl, hb2⟩))
          go_ret2
          exact ⟨⟨#[]⟩, false, rfl, by rw [hv.out]; rfl, hb2⟩
        | true =>
          rw [hall] at hq2
          replace hq2 := hide hq2
          have hcond : ¬ ((!(nameL nm.data.toList) || decide (2 < L.length) || !(L.all isVal)) = true) := by rw [nameL_data, hnm, hall, decide_eq_false h2L]; decide
          by_cases h0 : n = 0
          · have hL0 : L = [] := List.eq_nil_of_length_eq_zero (by omega)
            have hv : Hid (labOf nameL nm.data.toList L = some nm.data.toList) := by
              show _ = _
              unfold labOf
              rw [if_neg htl, if_neg hcond, if_pos hL0]
            subst h0
            clear hact htl ht hnm h he hlen hall h2 h2L hcond hL0
            go_enter Tryz.func220, Tryz.ntmps220
            go_wp2_with (first | (go_at_call 119; (with_reducible refine hq1.out.mono ?_); rintro e w1 ⟨rfl, rfl⟩) | (go_at_call 238; (with_reducible refine hq2.out.mono ?_); rintro e w2 ⟨rfl, hb2⟩))
            go_ret2
            exact ⟨nm, true, rfl, by rw [hv.out]; rfl, hb2⟩
          · have hL0 : L ≠ [] := by rintro rfl; simp at hlen; omega
            have hb0 : ((n : Int) == 0) = false := by rw [beq_eq_false_iff_ne]; omega
            have q3 := hide (fun (W : World) (hW : Below w.heap.size w W) => joined_calls A n c L W lo hi (h.below hW (.inr (Nat.le_refl _))) (by omega) (isVal_bounds hall) (he.below hW (Nat.le_refl _)))
            have hjl := join_len [44] 21 (L.map Lib.itoa) (fun y hy => by
              obtain ⟨v, hv, rfl⟩ := List.mem_map.1 hy
              exact Lib.itoa_length_le v (isVal_bounds hall v hv).1 (isVal_bounds hall v hv).2)
            rw [List.length_map, show 21 + ([44] : List UInt8).length = 22 from rfl] at hjl
            have hv : Hid (labOf nameL nm.data.toList L = some (nm.data.toList ++ [40] ++ Lib.join (L.map Lib.itoa) [44] ++ [41])) := by
              show _ = _
              unfold labOf
              rw [if_neg htl, if_neg hcond, if_neg hL0]
            have hjs : (mkB (Lib.join (L.map Lib.itoa) [44])).size ≤ 44 := by rw [mkB_size]; omega
            have hnms := nameB_len hnm
            have hjd : Hid ((mkB (Lib.join (L.map Lib.itoa) [44])).data.toList = Lib.join (L.map Lib.itoa) [44]) := rfl
            clear hact htl ht hnm h he hlen hall h2 h2L hcond hL0 hjl
            generalize mkB (Lib.join (L.map Lib.itoa) [44]) = J at *
            go_enter Tryz.func220, Tryz.ntmps220
            go_wp2_with (first | (go_at_call 119; (with_reducible refine hq1.out.mono ?_); rintro e w1 ⟨rfl, rfl⟩) | (go_at_call 238; (with_reducible refine hq2.out.mono ?_); rintro e w2 ⟨rfl, hb2⟩))
            refine (q3.out _ hb2).mono ?_
            rintro e w3 ⟨rfl, hb3⟩
            go_wp2_with fail
            go_ret2
            refine ⟨_, true, rfl, ?_, hb2.trans (hb3.mono hb2.size)⟩
            rw [hv.out, ← hjd.out]
            simp [ByteArray.data_append]

end Go.Proofs.YtiaclddgllkgpaaGreatDoor
