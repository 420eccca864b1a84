/-
  The program's test of plants. Conditions: sizes.
-/
import Derived.Test.YtiaclddgllkgpaaGreatDoorPlantS2
import Derived.Test.YtiaclddgllkgpaaGreatDoorBaseD
namespace Go.Proofs.YtiaclddgllkgpaaGreatDoor
open Go.ChangeShapes Go.WideShapes Go.ChangeAt Go.RowKit Go.Sort
set_option linter.unusedVariables false

set_option maxRecDepth 100000 in
set_option maxHeartbeats 1600000 in
theorem namesOk_calls (A : Option Addr) (n c : Nat) (l : List ByteArray) (w : World) (lo hi : Nat) (h : SlS w lo hi A n l) (hn : n ≤ 1048576) (hs : ∀ s ∈ l, s.size ≤ 1048576) :
    Calls Tryz.prog 67 #[.slice A n c] w fun e w' => e = .returned (.bool (actsB l)) ∧ w = w' := by
  have hlen := h.len
  have hval : Hid (actsB l = (decide (n ≤ 12) && (allK (okA l) n && allK (okInc l) n))) := by show _ = _; unfold actsB; rw [hlen]
  replace h := hide h
  replace hs := hide hs
  clear hlen
  go_enter Tryz.func67, Tryz.ntmps67
  go_wp2
  go_loopw [7] (fun i wr => ∃ k : Nat, k ≤ n ∧ i = .int .i64 (k : Nat) ∧ Hid (∀ j, j < k → okA l j = true) ∧ Hid (∀ j, j < k → okInc l j = true) ∧ wr = w) (fun i _ => n - (intOf i).toNat)
  case atStart => exact ⟨0, Nat.zero_le _, rfl, fun j hj => absurd hj (by omega), fun j hj => absurd hj (by omega), rfl⟩
  case round =>
    obtain ⟨k, hk, rfl, ha, ha2, rfl⟩ := hrel
    by_cases hlt : k < n
    · obtain ⟨b, off, x, rfl, -, -, g3, hx, p0, -⟩ := SlS.get h.out hlt
      have q := isAction_calls x wr (hs.out x (List.mem_of_getElem? hx))
      have hok := okA_at hx
      have hprev : Hid (0 < k → ∃ y, l[k - 1]? = some y ∧ wr.cell? ⟨b, off + (k - 1), none⟩ = some (.string y)) := fun hk0 => by
        obtain ⟨b', off', y, eA, -, -, -, hy, u0, -⟩ := SlS.get h.out (show k - 1 < n by omega)
        cases eA
        exact ⟨y, hy, u0⟩
      cases hact : actB x with
      | false =>
        rw [hact] at q hok
        have hv : Hid (actsB l = false) := by show _ = _; rw [hval.out, allK_bad hlt hok]; simp
        replace q := hide q
        clear hact hok ha ha2 h hx hprev
        go_wp2_with (first | (go_at_call 119; (with_reducible refine q.out.mono ?_); rintro e w1 ⟨rfl, rfl⟩))
        go_ret
        exact ⟨ret_b (by rw [hv.out]), rfl⟩
      | true =>
        rw [hact] at q hok
        have hnext : Hid (∀ j, j < k + 1 → okA l j = true) := lt_succ_cases ha.out hok
        replace q := hide q
        clear hact hok ha
        by_cases hk0 : 0 < k
        · obtain ⟨y, hy, u0⟩ := hprev.out hk0
          have hok2 := okInc_at hx hk0 hy
          have hlI : (0 : Int) < (k : Int) := by omega
          have hI2 : (0 : Int) ≤ (k : Int) - 1 := by omega
          have hI4 : (1 : Int) ≤ (k : Int) := by omega
          have hI3 : (k : Int) - 1 < (n : Int) := by omega
          have hI5 : ((k : Int) - 1).toNat = k - 1 := by omega
          have htot := bytesLess_total y.toList x.toList
          have htot2 := bytesLess_total x.toList y.toList
          unfold sLess at hok2
          clear hx hy hprev h
          cases hsl : Op.bytesLess y.toList x.toList with
          | true =>
            rw [hsl] at hok2
            have hnext2 : Hid (∀ j, j < k + 1 → okInc l j = true) := lt_succ_cases ha2.out hok2
            rw [hsl] at htot2
            have hA : Op.bytesLess x.toList y.toList = false := by cases hh : Op.bytesLess x.toList y.toList <;> simp [hh] at htot2 ⊢
            have hB : (x.toList == y.toList) = false := by cases hh : (x.toList == y.toList) <;> simp [hh] at htot2 ⊢
            clear hok2 ha2 htot htot2 hsl
            go_wp2_with (first | (go_at_call 119; (with_reducible refine q.out.mono ?_); rintro e w1 ⟨rfl, rfl⟩))
            go_roundw
            case rel => exact ⟨k + 1, by omega, by go_num, hnext, hnext2, trivial⟩
            case measure => simp [intOf]; omega
          | false =>
            rw [hsl] at hok2
            have hv : Hid (actsB l = false) := by show _ = _; rw [hval.out, allK_bad (p := okInc l) hlt hok2]; simp
            rw [hsl] at htot2
            cases hA : Op.bytesLess x.toList y.toList with
            | true =>
              clear hok2 ha2 htot htot2 hsl
              go_wp2_with (first | (go_at_call 119; (with_reducible refine q.out.mono ?_); rintro e w1 ⟨rfl, rfl⟩))
              go_ret
              exact ⟨ret_b (by rw [hv.out]), rfl⟩
            | false =>
              have hB : (x.toList == y.toList) = true := by cases hh : (x.toList == y.toList) <;> simp [hh, hA] at htot2 ⊢
              clear hok2 ha2 htot htot2 hsl
              go_wp2_with (first | (go_at_call 119; (with_reducible refine q.out.mono ?_); rintro e w1 ⟨rfl, rfl⟩))
              go_ret
              exact ⟨ret_b (by rw [hv.out]), rfl⟩
        · have hk00 : k = 0 := by omega
          subst hk00
          have hnext2 : Hid (∀ j, j < 0 + 1 → okInc l j = true) := lt_succ_cases ha2.out okInc_zero
          simp only [Nat.add_zero] at p0
          clear hx hprev h ha2
          go_wp2_with (first | (go_at_call 119; (with_reducible refine q.out.mono ?_); rintro e w1 ⟨rfl, rfl⟩))
          go_roundw
          case rel => exact ⟨0 + 1, by omega, by go_num, hnext, hnext2, trivial⟩
          case measure => simp [intOf]; omega
    · have hkn : k = n := by omega
      by_cases h12 : n ≤ 12
      · have hv : Hid (actsB l = true) := by show _ = _; rw [hval.out, decide_eq_true h12, allK_good (fun j hj => ha.out j (by omega)), allK_good (fun j hj => ha2.out j (by omega))]; rfl
        have h12I : (n : Int) ≤ 12 := by omega
        clear ha ha2 h
        go_wp2
        go_ret
        first | exact ⟨ret_b (by rw [hv.out]), rfl⟩ | exact ⟨ret_b (by rw [hv.out]; simp [h12I]), rfl⟩
      · have hv : Hid (actsB l = false) := by show _ = _; rw [hval.out, decide_eq_false h12]; rfl
        have h12I : ¬ (n : Int) ≤ 12 := by omega
        clear ha ha2 h
        go_wp2
        go_ret
        first | exact ⟨ret_b (by rw [hv.out]), rfl⟩ | exact ⟨ret_b (by rw [hv.out]; simp [h12I]), rfl⟩

end Go.Proofs.YtiaclddgllkgpaaGreatDoor
