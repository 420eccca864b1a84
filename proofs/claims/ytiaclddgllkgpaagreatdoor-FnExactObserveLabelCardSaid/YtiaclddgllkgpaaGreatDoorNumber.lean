/-
  The reference's reading of one number. Conditions: sizes.
-/
import Derived.Test.YtiaclddgllkgpaaGreatDoorSplit
namespace Go.Proofs.YtiaclddgllkgpaaGreatDoor
open Go.ChangeShapes Go.WideShapes Go.ChangeAt Go.RowKit
set_option linter.unusedVariables false

theorem isDig_B (x : UInt8) : isDig x = digitB (x.toNat : Int) := by
  unfold isDig digitB
  congr 1 <;> (rw [decide_eq_decide]; omega)
theorem numNeg_nil : numNeg [] = none := rfl
theorem numNeg_long {d : List UInt8} (h : ¬ d.length ≤ 18) : numNeg d = none := by unfold numNeg; rw [if_neg]; simp [h]
theorem numNeg_zero {d : List UInt8} (h : d.head? = some 48) : numNeg d = none := by unfold numNeg; rw [if_neg]; simp [h]
theorem numNeg_nd {d : List UInt8} (h : d.all isDig = false) : numNeg d = none := by unfold numNeg canon; rw [if_neg]; simp [h]
theorem numNeg_ok {d : List UInt8} (h0 : d ≠ []) (h1 : d.length ≤ 18) (h2 : d.head? ≠ some 48) (h3 : d.all isDig = true) : numNeg d = some (-(valN 0 d : Int)) := by unfold numNeg canon; rw [if_pos]; simp [h0, h1, h2, h3]
theorem numPos_nil : numPos [] = none := rfl
theorem numPos_long {d : List UInt8} (h : ¬ d.length ≤ 18) : numPos d = none := by unfold numPos; rw [if_neg]; simp [h]
theorem numPos_zero {d : List UInt8} (h : d.head? = some 48) (h1 : 1 < d.length) : numPos d = none := by
  unfold numPos canon
  rw [if_neg]
  have : ¬ d.length = 1 := by omega
  simp [h, this]
theorem numPos_nd {d : List UInt8} (h : d.all isDig = false) : numPos d = none := by unfold numPos canon; rw [if_neg]; simp [h]
theorem numPos_ok {d : List UInt8} (h0 : d ≠ []) (h1 : d.length ≤ 18) (h2 : ¬ (d.head? = some 48 ∧ 1 < d.length)) (h3 : d.all isDig = true) : numPos d = some (valN 0 d : Int) := by
  unfold numPos canon
  rw [if_pos]
  have : d.length = 1 ∨ d.head? ≠ some 48 := by
    by_cases h : d.length = 1
    · exact .inl h
    · right
      intro hh
      have : d.length ≠ 0 := fun e => h0 (List.eq_nil_of_length_eq_zero e)
      exact h2 ⟨hh, by omega⟩
  rcases this with h | h <;> simp [h0, h1, h, h3]
theorem take_dig {l : List UInt8} {k : Nat} {x : UInt8} (hx : l[k]? = some x) : (l.take (k + 1)).all isDig = ((l.take k).all isDig && isDig x) ∧ valN 0 (l.take (k + 1)) = valN 0 (l.take k) * 10 + (x.toNat - 48) := by
  have e : l.take (k + 1) = l.take k ++ [x] := by rw [List.take_add_one, hx]; rfl
  rw [e, valN_snoc, List.all_append]
  simp
theorem nd_of {l : List UInt8} {k : Nat} {x : UInt8} (hx : l[k]? = some x) (h : isDig x = false) : l.all isDig = false := by
  rw [Bool.eq_false_iff]
  intro ha
  have := (List.all_eq_true.1 ha) x (List.mem_of_getElem? hx)
  rw [h] at this
  cases this

set_option maxHeartbeats 1600000 in
set_option maxRecDepth 100000 in
theorem l01Number_calls (s : ByteArray) (w : World) (hs : s.size ≤ 1048576) : Calls Tryz.prog 202 #[.string s] w fun e w' => e = .returned (numR (numS s.data.toList)) ∧ w = w' := by
  have hs63 : (s.size : Int) ≤ 1048576 := by omega
  by_cases h0 : s.size = 0
  · have hl0 : s.data.toList = [] := List.eq_nil_of_length_eq_zero (by rw [bsize]; exact h0)
    have hres : Hid (numS s.data.toList = none) := by show _ = _; rw [hl0]; rfl
    clear hl0
    go_enter Tryz.func202, Tryz.ntmps202
    go_wp2
    go_ret2
    exact ⟨by rw [hres.out]; rfl, rfl⟩
  have hpos : 0 < s.size := by omega
  have hposI : (0 : Int) < (s.size : Int) := by omega
  have hg0 := bget s 0 hpos
  have hh0 : s.data.toList.head? = some s[0] := by rw [List.head?_eq_getElem?]; exact hg0
  by_cases hneg : s[0] = 45
  · have hc0 : ∀ h : 0 < s.size, (s[0].toNat : Int) = 45 := fun _ => by rw [hneg]; rfl
    have hN : Hid (numS s.data.toList = numNeg (s.data.toList.drop 1)) := by
      show _ = _
      unfold numS
      rw [hh0, hneg, if_pos rfl, ← List.drop_one]
    clear hh0 hg0 hneg
    by_cases h1 : s.size = 1
    · have hres : Hid (numS s.data.toList = none) := by
        show _ = _
        rw [hN.out, List.drop_of_length_le (by rw [bsize]; omega)]
        rfl
      have h1I : (s.size : Int) = 1 := by omega
      clear hN
      go_enter Tryz.func202, Tryz.ntmps202
      go_wp2
      go_ret2
      exact ⟨by rw [hres.out]; rfl, rfl⟩
    have h1I : ((s.size : Int) == 1) = false := by rw [beq_eq_false_iff_ne]; omega
    by_cases h18 : s.size ≤ 19
    · have h18I : ¬ (18 : Int) < (s.size : Int) - 1 := by omega
      have h1lt : 1 < s.size := by omega
      have h1ltI : (1 : Int) < (s.size : Int) := by omega
      have hg1 : (s.data.toList.drop 1).head? = some s[1] := by rw [List.head?_eq_getElem?, List.getElem?_drop]; exact bget s 1 h1lt
      by_cases hz : s[1] = 48
      · have hres : Hid (numS s.data.toList = none) := by show _ = _; rw [hN.out, numNeg_zero (by rw [hg1, hz])]
        have hc1 : ∀ h : 1 < s.size, (s[1].toNat : Int) = 48 := fun _ => by rw [hz]; rfl
        clear hN hg1 hz
        go_enter Tryz.func202, Tryz.ntmps202
        go_wp2
        go_ret2
        exact ⟨by rw [hres.out]; rfl, rfl⟩
      have hz2 : Hid ((s.data.toList.drop 1).head? ≠ some 48) := by show _ ≠ _; rw [hg1]; exact fun e => hz (Option.some.inj e)
      have hne : (s[1].toNat : Int) ≠ 48 := fun h => hz (UInt8.toNat_inj.1 (by simpa using (by omega : s[1].toNat = 48)))
      generalize hc : (s[1].toNat : Int) = c1 at *
      have hget1 : ∀ h : 1 < s.size, (s[1].toNat : Int) = c1 := fun _ => hc
      have hcb : (c1 == 48) = false := by rw [beq_eq_false_iff_ne]; exact hne
      clear hg1 hz hc hne
      go_enter Tryz.func202, Tryz.ntmps202
      go_wp2
      go_loop [5, 6] (fun n i => ∃ k v : Nat, 1 ≤ k ∧ k ≤ s.size ∧ i = .int .i64 (k : Nat) ∧ n = .int .i64 (v : Nat) ∧ v ≤ 1000000000000000000 ∧ Hid (v = valN 0 ((s.data.toList.drop 1).take (k - 1))) ∧ Hid (((s.data.toList.drop 1).take (k - 1)).all isDig = true)) (fun _ i => s.size - (intOf i).toNat)
      case atStart => exact ⟨1, 0, Nat.le_refl _, by omega, rfl, rfl, by omega, rfl, rfl⟩
      case round =>
        obtain ⟨k, v, hak, hk, rfl, rfl, hv18, hv, hd⟩ := hrel
        by_cases hlt : k < s.size
        · have hg : (s.data.toList.drop 1)[k - 1]? = some s[k] := by rw [List.getElem?_drop, show 1 + (k - 1) = k by omega]; exact bget s k hlt
          have hstep := take_dig hg
          have hdB := isDig_B s[k]
          have hq := fun W => l01Digit_calls (s[k].toNat : Int) W
          rw [← hdB] at hq
          by_cases hdig : isDig s[k] = true
          · rw [hdig] at hq
            have hx : 48 ≤ s[k].toNat ∧ s[k].toNat ≤ 57 := by simpa [isDig] using hdig
            have hlt17 : v < 100000000000000000 := by
              have h1 := valN_lt _ 0 0 hd.out (by decide)
              rw [← hv.out, List.length_take, List.length_drop, bsize] at h1
              have h2 : (10 : Nat) ^ (0 + min (k - 1) (s.size - 1)) ≤ 10 ^ 17 := Nat.pow_le_pow_right (by decide) (by omega)
              have h3 : (10 : Nat) ^ 17 = 100000000000000000 := by decide
              omega
            have hv2 : Hid (v * 10 + (s[k].toNat - 48) = valN 0 ((s.data.toList.drop 1).take (k + 1 - 1))) := by
              show _ = _
              rw [show k + 1 - 1 = (k - 1) + 1 by omega, hstep.2, ← hv.out]
            have hd2 : Hid (((s.data.toList.drop 1).take (k + 1 - 1)).all isDig = true) := by
              show _ = _
              rw [show k + 1 - 1 = (k - 1) + 1 by omega, hstep.1, hd.out, hdig]
              rfl
            replace hq := hide hq
            clear hg hstep hdB hdig hv hd
            generalize hxn : s[k].toNat = x at *
            have hgetk : ∀ h : k < s.size, (s[k].toNat : Int) = (x : Int) := fun _ => by rw [hxn]
            have hx1 : (48 : Int) ≤ (x : Int) := by omega
            have hx2 : (x : Int) ≤ 57 := by omega
            have hv17 : (v : Int) < 100000000000000000 := by omega
            clear hxn hx
            go_wp2_with (first | (go_at_call 223; (with_reducible refine (hq.out _).mono ?_); rintro e w' ⟨rfl, rfl⟩))
            go_round
            case rel => exact ⟨k + 1, v * 10 + (x - 48), by omega, by omega, by go_num, by go_num, by omega, hv2, hd2⟩
            case measure => simp [intOf]; omega
          · replace hdig := Bool.eq_false_iff.2 hdig
            rw [hdig] at hq
            have hres : Hid (numS s.data.toList = none) := by show _ = _; rw [hN.out, numNeg_nd (nd_of hg hdig)]
            replace hq := hide hq
            clear hg hstep hdB hdig hv hd
            generalize hxn : (s[k].toNat : Int) = x at *
            have hgetk : ∀ h : k < s.size, (s[k].toNat : Int) = x := fun _ => hxn
            go_wp2_with (first | (go_at_call 223; (with_reducible refine (hq.out _).mono ?_); rintro e w' ⟨rfl, rfl⟩))
            go_ret2
            exact ⟨by rw [hres.out]; rfl, rfl⟩
        · have hkn : k = s.size := by omega
          subst hkn
          have hfull : (s.data.toList.drop 1).take (s.size - 1) = (s.data.toList.drop 1) := List.take_of_length_le (by rw [List.length_drop, bsize]; omega)
          have hres : Hid (numS s.data.toList = some (-(v : Int))) := by
            show _ = _
            have h1 := hv.out; have h2 := hd.out
            rw [hfull] at h1 h2
            rw [hN.out, h1]
            exact numNeg_ok (by intro e; have := congrArg List.length e; rw [List.length_drop, bsize, List.length_nil] at this; omega) (by rw [List.length_drop, bsize]; omega) hz2.out h2
          clear hv hd hfull
          go_wp2_with fail
          go_ret2
          exact ⟨by rw [hres.out]; rfl, rfl⟩

    · have hres : Hid (numS s.data.toList = none) := by show _ = _; rw [hN.out, numNeg_long (by rw [List.length_drop, bsize]; omega)]
      have h18I : (18 : Int) < (s.size : Int) - 1 := by omega
      clear hN
      go_enter Tryz.func202, Tryz.ntmps202
      go_wp2
      go_ret2
      exact ⟨by rw [hres.out]; rfl, rfl⟩
  · have hN : Hid (numS s.data.toList = numPos (s.data.toList.drop 0)) := by
      show _ = _
      unfold numS
      rw [hh0, if_neg (fun e => hneg (Option.some.inj e)), List.drop_zero]
    have hne : (s[0].toNat : Int) ≠ 45 := fun h => hneg (UInt8.toNat_inj.1 (by simpa using (by omega : s[0].toNat = 45)))
    have hzb : ((s.size : Int) == 0) = false := by rw [beq_eq_false_iff_ne]; omega
    by_cases h18 : s.size ≤ 18
    · have h18I : ¬ (18 : Int) < (s.size : Int) := by omega
      by_cases hz : s[0] = 48 ∧ 1 < s.size
      · have hres : Hid (numS s.data.toList = none) := by show _ = _; rw [hN.out, List.drop_zero, numPos_zero (by rw [hh0, hz.1]) (by rw [bsize]; exact hz.2)]
        have hc1 : ∀ h : 0 < s.size, (s[0].toNat : Int) = 48 := fun _ => by rw [hz.1]; rfl
        have h1I : (1 : Int) < (s.size : Int) := by omega
        clear hN hh0 hg0 hneg hz hne
        go_enter Tryz.func202, Tryz.ntmps202
        go_wp2
        go_ret2
        exact ⟨by rw [hres.out]; rfl, rfl⟩
      have hz2 : Hid (¬ ((s.data.toList.drop 0).head? = some 48 ∧ 1 < (s.data.toList.drop 0).length)) := by
        show ¬ _
        rw [List.drop_zero, hh0, bsize]
        exact fun e => hz ⟨Option.some.inj e.1, e.2⟩
      have hz3 : (s[0].toNat : Int) ≠ 48 ∨ ¬ (1 : Int) < (s.size : Int) := by
        by_cases h : s[0] = 48
        · right
          intro h2
          exact hz ⟨h, by omega⟩
        · exact .inl fun h2 => h (UInt8.toNat_inj.1 (by simpa using (by omega : s[0].toNat = 48)))
      generalize hc : (s[0].toNat : Int) = c0 at *
      have hget0 : ∀ h : 0 < s.size, (s[0].toNat : Int) = c0 := fun _ => hc
      have hcb : (c0 == 45) = false := by rw [beq_eq_false_iff_ne]; exact hne
      clear hh0 hg0 hneg hz hc hne
      rcases hz3 with hz4 | hz4
      · have hcb2 : (c0 == 48) = false := by rw [beq_eq_false_iff_ne]; exact hz4
        clear hz4
        go_enter Tryz.func202, Tryz.ntmps202
        go_wp2
        go_loop [5, 6] (fun n i => ∃ k v : Nat, 0 ≤ k ∧ k ≤ s.size ∧ i = .int .i64 (k : Nat) ∧ n = .int .i64 (v : Nat) ∧ v ≤ 1000000000000000000 ∧ Hid (v = valN 0 ((s.data.toList.drop 0).take (k - 0))) ∧ Hid (((s.data.toList.drop 0).take (k - 0)).all isDig = true)) (fun _ i => s.size - (intOf i).toNat)
        case atStart => exact ⟨0, 0, Nat.le_refl _, by omega, rfl, rfl, by omega, rfl, rfl⟩
        case round =>
          obtain ⟨k, v, hak, hk, rfl, rfl, hv18, hv, hd⟩ := hrel
          by_cases hlt : k < s.size
          · have hg : (s.data.toList.drop 0)[k - 0]? = some s[k] := by rw [List.getElem?_drop, show 0 + (k - 0) = k by omega]; exact bget s k hlt
            have hstep := take_dig hg
            have hdB := isDig_B s[k]
            have hq := fun W => l01Digit_calls (s[k].toNat : Int) W
            rw [← hdB] at hq
            by_cases hdig : isDig s[k] = true
            · rw [hdig] at hq
              have hx : 48 ≤ s[k].toNat ∧ s[k].toNat ≤ 57 := by simpa [isDig] using hdig
              have hlt17 : v < 100000000000000000 := by
                have h1 := valN_lt _ 0 0 hd.out (by decide)
                rw [← hv.out, List.length_take, List.length_drop, bsize] at h1
                have h2 : (10 : Nat) ^ (0 + min (k - 0) (s.size - 0)) ≤ 10 ^ 17 := Nat.pow_le_pow_right (by decide) (by omega)
                have h3 : (10 : Nat) ^ 17 = 100000000000000000 := by decide
                omega
              have hv2 : Hid (v * 10 + (s[k].toNat - 48) = valN 0 ((s.data.toList.drop 0).take (k + 1 - 0))) := by
                show _ = _
                rw [show k + 1 - 0 = (k - 0) + 1 by omega, hstep.2, ← hv.out]
              have hd2 : Hid (((s.data.toList.drop 0).take (k + 1 - 0)).all isDig = true) := by
                show _ = _
                rw [show k + 1 - 0 = (k - 0) + 1 by omega, hstep.1, hd.out, hdig]
                rfl
              replace hq := hide hq
              clear hg hstep hdB hdig hv hd
              generalize hxn : s[k].toNat = x at *
              have hgetk : ∀ h : k < s.size, (s[k].toNat : Int) = (x : Int) := fun _ => by rw [hxn]
              have hx1 : (48 : Int) ≤ (x : Int) := by omega
              have hx2 : (x : Int) ≤ 57 := by omega
              have hv17 : (v : Int) < 100000000000000000 := by omega
              clear hxn hx
              go_wp2_with (first | (go_at_call 223; (with_reducible refine (hq.out _).mono ?_); rintro e w' ⟨rfl, rfl⟩))
              go_round
              case rel => exact ⟨k + 1, v * 10 + (x - 48), by omega, by omega, by go_num, by go_num, by omega, hv2, hd2⟩
              case measure => simp [intOf]; omega
            · replace hdig := Bool.eq_false_iff.2 hdig
              rw [hdig] at hq
              have hres : Hid (numS s.data.toList = none) := by show _ = _; rw [hN.out, numPos_nd (nd_of hg hdig)]
              replace hq := hide hq
              clear hg hstep hdB hdig hv hd
              generalize hxn : (s[k].toNat : Int) = x at *
              have hgetk : ∀ h : k < s.size, (s[k].toNat : Int) = x := fun _ => hxn
              go_wp2_with (first | (go_at_call 223; (with_reducible refine (hq.out _).mono ?_); rintro e w' ⟨rfl, rfl⟩))
              go_ret2
              exact ⟨by rw [hres.out]; rfl, rfl⟩
          · have hkn : k = s.size := by omega
            subst hkn
            have hfull : (s.data.toList.drop 0).take (s.size - 0) = (s.data.toList.drop 0) := List.take_of_length_le (by rw [List.length_drop, bsize]; omega)
            have hres : Hid (numS s.data.toList = some ((v : Int))) := by
              show _ = _
              have h1 := hv.out; have h2 := hd.out
              rw [hfull] at h1 h2
              rw [hN.out, h1]
              exact numPos_ok (by intro e; have := congrArg List.length e; rw [List.length_drop, bsize, List.length_nil] at this; omega) (by rw [List.length_drop, bsize]; omega) hz2.out h2
            clear hv hd hfull
            go_wp2_with fail
            go_ret2
            exact ⟨by rw [hres.out]; rfl, rfl⟩

      · have h1s : ¬ 1 < s.size := by omega
        by_cases hcb3 : c0 = 48
        · subst hcb3
          go_enter Tryz.func202, Tryz.ntmps202
          go_wp2
          go_loop [5, 6] (fun n i => ∃ k v : Nat, 0 ≤ k ∧ k ≤ s.size ∧ i = .int .i64 (k : Nat) ∧ n = .int .i64 (v : Nat) ∧ v ≤ 1000000000000000000 ∧ Hid (v = valN 0 ((s.data.toList.drop 0).take (k - 0))) ∧ Hid (((s.data.toList.drop 0).take (k - 0)).all isDig = true)) (fun _ i => s.size - (intOf i).toNat)
          case atStart => exact ⟨0, 0, Nat.le_refl _, by omega, rfl, rfl, by omega, rfl, rfl⟩
          case round =>
            obtain ⟨k, v, hak, hk, rfl, rfl, hv18, hv, hd⟩ := hrel
            by_cases hlt : k < s.size
            · have hg : (s.data.toList.drop 0)[k - 0]? = some s[k] := by rw [List.getElem?_drop, show 0 + (k - 0) = k by omega]; exact bget s k hlt
              have hstep := take_dig hg
              have hdB := isDig_B s[k]
              have hq := fun W => l01Digit_calls (s[k].toNat : Int) W
              rw [← hdB] at hq
              by_cases hdig : isDig s[k] = true
              · rw [hdig] at hq
                have hx : 48 ≤ s[k].toNat ∧ s[k].toNat ≤ 57 := by simpa [isDig] using hdig
                have hlt17 : v < 100000000000000000 := by
                  have h1 := valN_lt _ 0 0 hd.out (by decide)
                  rw [← hv.out, List.length_take, List.length_drop, bsize] at h1
                  have h2 : (10 : Nat) ^ (0 + min (k - 0) (s.size - 0)) ≤ 10 ^ 17 := Nat.pow_le_pow_right (by decide) (by omega)
                  have h3 : (10 : Nat) ^ 17 = 100000000000000000 := by decide
                  omega
                have hv2 : Hid (v * 10 + (s[k].toNat - 48) = valN 0 ((s.data.toList.drop 0).take (k + 1 - 0))) := by
                  show _ = _
                  rw [show k + 1 - 0 = (k - 0) + 1 by omega, hstep.2, ← hv.out]
                have hd2 : Hid (((s.data.toList.drop 0).take (k + 1 - 0)).all isDig = true) := by
                  show _ = _
                  rw [show k + 1 - 0 = (k - 0) + 1 by omega, hstep.1, hd.out, hdig]
                  rfl
                replace hq := hide hq
                clear hg hstep hdB hdig hv hd
                generalize hxn : s[k].toNat = x at *
                have hgetk : ∀ h : k < s.size, (s[k].toNat : Int) = (x : Int) := fun _ => by rw [hxn]
                have hx1 : (48 : Int) ≤ (x : Int) := by omega
                have hx2 : (x : Int) ≤ 57 := by omega
                have hv17 : (v : Int) < 100000000000000000 := by omega
                clear hxn hx
                go_wp2_with (first | (go_at_call 223; (with_reducible refine (hq.out _).mono ?_); rintro e w' ⟨rfl, rfl⟩))
                go_round
                case rel => exact ⟨k + 1, v * 10 + (x - 48), by omega, by omega, by go_num, by go_num, by omega, hv2, hd2⟩
                case measure => simp [intOf]; omega
              · replace hdig := Bool.eq_false_iff.2 hdig
                rw [hdig] at hq
                have hres : Hid (numS s.data.toList = none) := by show _ = _; rw [hN.out, numPos_nd (nd_of hg hdig)]
                replace hq := hide hq
                clear hg hstep hdB hdig hv hd
                generalize hxn : (s[k].toNat : Int) = x at *
                have hgetk : ∀ h : k < s.size, (s[k].toNat : Int) = x := fun _ => hxn
                go_wp2_with (first | (go_at_call 223; (with_reducible refine (hq.out _).mono ?_); rintro e w' ⟨rfl, rfl⟩))
                go_ret2
                exact ⟨by rw [hres.out]; rfl, rfl⟩
            · have hkn : k = s.size := by omega
              subst hkn
              have hfull : (s.data.toList.drop 0).take (s.size - 0) = (s.data.toList.drop 0) := List.take_of_length_le (by rw [List.length_drop, bsize]; omega)
              have hres : Hid (numS s.data.toList = some ((v : Int))) := by
                show _ = _
                have h1 := hv.out; have h2 := hd.out
                rw [hfull] at h1 h2
                rw [hN.out, h1]
                exact numPos_ok (by intro e; have := congrArg List.length e; rw [List.length_drop, bsize, List.length_nil] at this; omega) (by rw [List.length_drop, bsize]; omega) hz2.out h2
              clear hv hd hfull
              go_wp2_with fail
              go_ret2
              exact ⟨by rw [hres.out]; rfl, rfl⟩

        · have hcb2 : (c0 == 48) = false := by rw [beq_eq_false_iff_ne]; exact hcb3
          clear hcb3
          go_enter Tryz.func202, Tryz.ntmps202
          go_wp2
          go_loop [5, 6] (fun n i => ∃ k v : Nat, 0 ≤ k ∧ k ≤ s.size ∧ i = .int .i64 (k : Nat) ∧ n = .int .i64 (v : Nat) ∧ v ≤ 1000000000000000000 ∧ Hid (v = valN 0 ((s.data.toList.drop 0).take (k - 0))) ∧ Hid (((s.data.toList.drop 0).take (k - 0)).all isDig = true)) (fun _ i => s.size - (intOf i).toNat)
          case atStart => exact ⟨0, 0, Nat.le_refl _, by omega, rfl, rfl, by omega, rfl, rfl⟩
          case round =>
            obtain ⟨k, v, hak, hk, rfl, rfl, hv18, hv, hd⟩ := hrel
            by_cases hlt : k < s.size
            · have hg : (s.data.toList.drop 0)[k - 0]? = some s[k] := by rw [List.getElem?_drop, show 0 + (k - 0) = k by omega]; exact bget s k hlt
              have hstep := take_dig hg
              have hdB := isDig_B s[k]
              have hq := fun W => l01Digit_calls (s[k].toNat : Int) W
              rw [← hdB] at hq
              by_cases hdig : isDig s[k] = true
              · rw [hdig] at hq
                have hx : 48 ≤ s[k].toNat ∧ s[k].toNat ≤ 57 := by simpa [isDig] using hdig
                have hlt17 : v < 100000000000000000 := by
                  have h1 := valN_lt _ 0 0 hd.out (by decide)
                  rw [← hv.out, List.length_take, List.length_drop, bsize] at h1
                  have h2 : (10 : Nat) ^ (0 + min (k - 0) (s.size - 0)) ≤ 10 ^ 17 := Nat.pow_le_pow_right (by decide) (by omega)
                  have h3 : (10 : Nat) ^ 17 = 100000000000000000 := by decide
                  omega
                have hv2 : Hid (v * 10 + (s[k].toNat - 48) = valN 0 ((s.data.toList.drop 0).take (k + 1 - 0))) := by
                  show _ = _
                  rw [show k + 1 - 0 = (k - 0) + 1 by omega, hstep.2, ← hv.out]
                have hd2 : Hid (((s.data.toList.drop 0).take (k + 1 - 0)).all isDig = true) := by
                  show _ = _
                  rw [show k + 1 - 0 = (k - 0) + 1 by omega, hstep.1, hd.out, hdig]
                  rfl
                replace hq := hide hq
                clear hg hstep hdB hdig hv hd
                generalize hxn : s[k].toNat = x at *
                have hgetk : ∀ h : k < s.size, (s[k].toNat : Int) = (x : Int) := fun _ => by rw [hxn]
                have hx1 : (48 : Int) ≤ (x : Int) := by omega
                have hx2 : (x : Int) ≤ 57 := by omega
                have hv17 : (v : Int) < 100000000000000000 := by omega
                clear hxn hx
                go_wp2_with (first | (go_at_call 223; (with_reducible refine (hq.out _).mono ?_); rintro e w' ⟨rfl, rfl⟩))
                go_round
                case rel => exact ⟨k + 1, v * 10 + (x - 48), by omega, by omega, by go_num, by go_num, by omega, hv2, hd2⟩
                case measure => simp [intOf]; omega
              · replace hdig := Bool.eq_false_iff.2 hdig
                rw [hdig] at hq
                have hres : Hid (numS s.data.toList = none) := by show _ = _; rw [hN.out, numPos_nd (nd_of hg hdig)]
                replace hq := hide hq
                clear hg hstep hdB hdig hv hd
                generalize hxn : (s[k].toNat : Int) = x at *
                have hgetk : ∀ h : k < s.size, (s[k].toNat : Int) = x := fun _ => hxn
                go_wp2_with (first | (go_at_call 223; (with_reducible refine (hq.out _).mono ?_); rintro e w' ⟨rfl, rfl⟩))
                go_ret2
                exact ⟨by rw [hres.out]; rfl, rfl⟩
            · have hkn : k = s.size := by omega
              subst hkn
              have hfull : (s.data.toList.drop 0).take (s.size - 0) = (s.data.toList.drop 0) := List.take_of_length_le (by rw [List.length_drop, bsize]; omega)
              have hres : Hid (numS s.data.toList = some ((v : Int))) := by
                show _ = _
                have h1 := hv.out; have h2 := hd.out
                rw [hfull] at h1 h2
                rw [hN.out, h1]
                exact numPos_ok (by intro e; have := congrArg List.length e; rw [List.length_drop, bsize, List.length_nil] at this; omega) (by rw [List.length_drop, bsize]; omega) hz2.out h2
              clear hv hd hfull
              go_wp2_with fail
              go_ret2
              exact ⟨by rw [hres.out]; rfl, rfl⟩

    · have hres : Hid (numS s.data.toList = none) := by show _ = _; rw [hN.out, numPos_long (by rw [List.length_drop, bsize]; omega)]
      have h18I : (18 : Int) < (s.size : Int) := by omega
      generalize hc : (s[0].toNat : Int) = c0 at *
      have hget0 : ∀ h : 0 < s.size, (s[0].toNat : Int) = c0 := fun _ => hc
      have hcb : (c0 == 45) = false := by rw [beq_eq_false_iff_ne]; exact hne
      clear hh0 hg0 hneg hc hne hN
      go_enter Tryz.func202, Tryz.ntmps202
      go_wp2
      go_ret2
      exact ⟨by rw [hres.out]; rfl, rfl⟩

end Go.Proofs.YtiaclddgllkgpaaGreatDoor
