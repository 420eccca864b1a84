/-
  The reference's test of plants. Conditions: sizes.
-/
import Derived.Test.YtiaclddgllkgpaaGreatDoorBaseD
namespace Go.Proofs.YtiaclddgllkgpaaGreatDoor
open Go.ChangeShapes Go.WideShapes Go.ChangeAt Go.RowKit Go.Sort
set_option linter.unusedVariables false

def okA (l : List ByteArray) (k : Nat) : Bool := match l[k]? with
  | some s => actB s
  | none => true
def okInc (l : List ByteArray) (k : Nat) : Bool := match l[k]?, l[k - 1]? with
  | some s, some r => decide (k = 0) || sLess r s
  | _, _ => true
theorem okA_at {l : List ByteArray} {k : Nat} {s : ByteArray} (hx : l[k]? = some s) : okA l k = actB s := by unfold okA; rw [hx]
theorem okInc_zero {l : List ByteArray} : okInc l 0 = true := by unfold okInc; split <;> simp
theorem okInc_at {l : List ByteArray} {k : Nat} {s r : ByteArray} (hx : l[k]? = some s) (hk : 0 < k) (hy : l[k - 1]? = some r) : okInc l k = sLess r s := by
  unfold okInc
  rw [hx, hy]
  have : decide (k = 0) = false := decide_eq_false (by omega)
  simp only [this, Bool.false_or]
/-- Names of actions, rising, at most twelve. -/
def actsB (l : List ByteArray) : Bool := decide (l.length ≤ 12) && (allK (okA l) l.length && allK (okInc l) l.length)
def risesB (hi : Int) (l : List Int) : Bool := allK (okRise hi l) l.length
theorem okR_at {hi : Int} {l : List Int} {k : Nat} {x y : Int} (hx : l[k]? = some x) (hk : 0 < k) (hy : l[k - 1]? = some y) : okRise hi l k = (inB x 0 hi && decide (y < x)) := by
  unfold okRise
  rw [hx, hy]
  have : decide (k = 0) = false := decide_eq_false (by omega)
  simp only [this, Bool.false_or]
theorem okR_zero {hi : Int} {l : List Int} {x : Int} (hx : l[0]? = some x) : okRise hi l 0 = inB x 0 hi := by
  unfold okRise
  rw [hx]
  simp
theorem okR_bad {hi : Int} {l : List Int} {k : Nat} {x : Int} (hx : l[k]? = some x) (h : inB x 0 hi = false) : okRise hi l k = false := by
  unfold okRise
  rw [hx]
  simp only [h, Bool.false_and]

set_option maxHeartbeats 800000 in
theorem l11Actions_calls (A : Option Addr) (n c : Nat) (l : List ByteArray) (w : World) (lo hi : Nat) (h : SlS w lo hi A n l) (hn : n ≤ 1048576) (hs : ∀ s ∈ l, s.size ≤ 1048576) :
    Calls Tryz.prog 157 #[.slice A n c] w fun e w' => e = .returned (.bool (allK (okA l) n)) ∧ w = w' := by
  replace h := hide h
  replace hs := hide hs
  go_enter Tryz.func157, Tryz.ntmps157
  go_wp2
  go_loopw [3] (fun i wr => ∃ k : Nat, k ≤ n ∧ i = .int .i64 (k : Nat) ∧ Hid (∀ j, j < k → okA l j = true) ∧ wr = w) (fun i _ => n - (intOf i).toNat)
  case atStart => exact ⟨0, Nat.zero_le _, rfl, fun j hj => absurd hj (by omega), rfl⟩
  case round =>
    obtain ⟨k, hk, rfl, ha, rfl⟩ := hrel
    by_cases hlt : k < n
    · obtain ⟨b, off, x, rfl, -, -, -, hx, p0, -⟩ := SlS.get h.out hlt
      have q := l01Action_calls x wr (hs.out x (List.mem_of_getElem? hx))
      have hok := okA_at hx
      clear hx
      cases hact : actB x with
      | false =>
        rw [hact] at q hok
        have hv : Hid (allK (okA l) n = false) := allK_bad hlt hok
        replace q := hide q
        clear hact hok ha h
        go_wp2_with (first | (go_at_call 195; (with_reducible refine q.out.mono ?_); rintro e w1 ⟨rfl, rfl⟩))
        go_ret
        exact ⟨ret_b (by rw [hv.out]), rfl⟩
      | true =>
        rw [hact] at q hok
        have hnext : Hid (∀ j, j < k + 1 → okA l j = true) := lt_succ_cases ha.out hok
        replace q := hide q
        clear hact hok ha h
        go_wp2_with (first | (go_at_call 195; (with_reducible refine q.out.mono ?_); rintro e w1 ⟨rfl, rfl⟩))
        go_roundw
        case rel => exact ⟨k + 1, by omega, by go_num, hnext, trivial⟩
        case measure => simp [intOf]; omega
    · have hkn : k = n := by omega
      subst hkn
      have hv : Hid (allK (okA l) k = true) := allK_good ha.out
      clear ha
      go_wp2
      go_ret
      exact ⟨ret_b (by rw [hv.out]), rfl⟩

set_option maxRecDepth 100000 in
set_option maxHeartbeats 1600000 in
theorem l05Names_calls (A : Option Addr) (n c : Nat) (l : List ByteArray) (w : World) (lo hi : Nat) (h : SlS w lo hi A n l) (hn : n ≤ 1048576) (hs : ∀ s ∈ l, s.size ≤ 1048576) :
    Calls Tryz.prog 118 #[.slice A n c] w fun e w' => e = .returned (.bool (actsB l)) ∧ Below w.heap.size w w' := by
  have hlen := h.len
  have hval : actsB l = (decide (n ≤ 12) && (allK (okA l) n && allK (okInc l) n)) := by unfold actsB; rw [hlen]
  have q := l11Actions_calls A n c l w lo hi h hn hs
  by_cases h12 : n ≤ 12
  case neg =>
    rw [decide_eq_false h12] at hval
    have hv : Hid (actsB l = false) := hval
    have h12I : (12 : Int) < (n : Int) := by omega
    replace q := hide q
    clear hval hs hlen h h12
    go_enter Tryz.func118, Tryz.ntmps118
    go_wp2_with (first | (go_at_call 157; (with_reducible refine q.out.mono ?_); rintro e w1 ⟨rfl, rfl⟩))
    go_ret
    exact ⟨ret_b (by rw [hv.out]), Below.refl _ _⟩
  have h12I : ¬ (12 : Int) < (n : Int) := by omega
  rw [decide_eq_true h12, Bool.true_and] at hval
  cases h1 : allK (okA l) n with
  | false =>
    rw [h1] at q hval
    have hv : Hid (actsB l = false) := hval
    replace q := hide q
    clear hval hs hlen h h12 h1
    go_enter Tryz.func118, Tryz.ntmps118
    go_wp2_with (first | (go_at_call 157; (with_reducible refine q.out.mono ?_); rintro e w1 ⟨rfl, rfl⟩))
    go_ret
    exact ⟨ret_b (by rw [hv.out]), Below.refl _ _⟩
  | true =>
  rw [h1] at q
  rw [h1, Bool.true_and] at hval
  replace q := hide q
  replace hval := hide hval
  replace h := hide h
  clear hs hlen h1
  go_enter Tryz.func118, Tryz.ntmps118
  go_wp2_with (first | (go_at_call 157; (with_reducible refine q.out.mono ?_); rintro e w1 ⟨rfl, rfl⟩))
  go_loopw [3] (fun i wr => ∃ k : Nat, 1 ≤ k ∧ i = .int .i64 (k : Nat) ∧ Hid (k ≤ n + 1) ∧ Hid (∀ j, j < k → okInc l j = true) ∧ Below w.heap.size w wr) (fun i _ => n + 1 - (intOf i).toNat)
  case atStart => exact ⟨1, Nat.le_refl _, rfl, (show 1 ≤ n + 1 by omega), (fun j hj => by rw [show j = 0 by omega]; exact okInc_zero), Below.refl _ _⟩
  case round =>
    obtain ⟨k, hk1, rfl, hkn, ha, hb⟩ := hrel
    by_cases hlt : k < n
    · obtain ⟨b, off, x, rfl, -, -, g3, hx, p0, -⟩ := SlS.get h.out hlt
      obtain ⟨b', off', y, eA', -, -, -, hy, p1, -⟩ := SlS.get h.out (show k - 1 < n by omega)
      cases eA'
      have hok := okInc_at hx hk1 hy
      replace p0 := (hb.cell (p := ⟨b, off + k, none⟩) g3).trans p0
      replace p1 := (hb.cell (p := ⟨b, off + (k - 1), none⟩) g3).trans p1
      have f0 := fun d os => cell_regrown p0 d os
      have f1 := fun d os => cell_regrown p1 d os
      have hI0 : (0 : Int) ≤ (k : Int) := by omega
      have hI1 : (k : Int) < (n : Int) := by omega
      have hI2 : (0 : Int) ≤ (k : Int) - 1 := by omega
      have hI3 : (k : Int) - 1 < (n : Int) := by omega
      have hI4 : (1 : Int) ≤ (k : Int) := by omega
      have hI5 : ((k : Int) - 1).toNat = k - 1 := by omega
      have htot := bytesLess_total y.toList x.toList
      unfold sLess at hok
      clear hx hy p0 p1
      cases hsl : Op.bytesLess y.toList x.toList with
      | true =>
        rw [hsl] at hok
        have hnext : Hid (∀ j, j < k + 1 → okInc l j = true) := lt_succ_cases ha.out hok
        clear hok ha h
        go_wp2
        refine wp_region_quiet_below (by kernel_rfl) (by kernel_rfl) ?_
        repeat (go_big_quiet_step (fail))
        refine wpQuiet_nil ?_
        intro _ hw'
        obtain ⟨⟨dq, osq⟩, hw''⟩ := hw'
        subst hw''
        have hb2 := below_regrown wr dq osq
        generalize grow (redrawn wr dq) osq = wq at *
        clear f0 f1
        go_wp2
        go_roundw
        case rel => exact ⟨k + 1, by omega, by go_num, (show k + 1 ≤ n + 1 by omega), hnext, hb.trans (hb2.mono hb.size)⟩
        case measure => simp [intOf]; omega
      | false =>
        rw [hsl] at hok
        have hv : Hid (actsB l = false) := by show _ = _; rw [hval.out]; exact allK_bad hlt hok
        clear hok ha h
        go_wp2
        refine wp_region_quiet_below (by kernel_rfl) (by kernel_rfl) ?_
        repeat (go_big_quiet_step (fail))
        refine wpQuiet_nil ?_
        intro _ hw'
        obtain ⟨⟨dq, osq⟩, hw''⟩ := hw'
        subst hw''
        have hb2 := below_regrown wr dq osq
        generalize grow (redrawn wr dq) osq = wq at *
        clear f0 f1
        go_wp2
        go_ret
        exact ⟨ret_b (by rw [hv.out]), hb.trans (hb2.mono hb.size)⟩
    · have hv : Hid (actsB l = true) := by show _ = _; rw [hval.out]; exact allK_good fun j hj => ha.out j (by omega)
      clear ha h
      go_wp2
      go_ret
      exact ⟨ret_b (by rw [hv.out]), hb⟩

set_option maxRecDepth 100000 in
set_option maxHeartbeats 1600000 in
theorem l00Rises_calls (A : Option Addr) (n c : Nat) (l : List Int) (top : Int) (w : World) (lo hi : Nat) (h : SlI w lo hi A n l) (hn : n ≤ 1048576) :
    Calls Tryz.prog 117 #[.slice A n c, .int .i64 0, .int .i64 top] w fun e w' => e = .returned (.bool (risesB top l)) ∧ Below w.heap.size w w' := by
  have hlen := h.len
  have hval : Hid (risesB top l = allK (okRise top l) n) := by show _ = _; unfold risesB; rw [hlen]
  replace h := hide h
  clear hlen
  go_enter Tryz.func117, Tryz.ntmps117
  go_wp2
  go_loopw [7] (fun i wr => ∃ k : Nat, k ≤ n ∧ i = .int .i64 (k : Nat) ∧ Hid (∀ j, j < k → okRise top l j = true) ∧ Below w.heap.size w wr) (fun i _ => n - (intOf i).toNat)
  case atStart => exact ⟨0, Nat.zero_le _, rfl, fun j hj => absurd hj (by omega), Below.refl _ _⟩
  case round =>
    obtain ⟨k, hk, rfl, ha, hb⟩ := hrel
    by_cases hlt : k < n
    · obtain ⟨b, off, x, rfl, -, -, g3, hx, p0, -⟩ := SlI.get h.out hlt
      replace p0 := (hb.cell (p := ⟨b, off + k, none⟩) g3).trans p0
      have f0 := fun d os => cell_regrown p0 d os
      have q := same_regrown (w := wr) (l00In_calls x 0 top)
      have hI0 : (0 : Int) ≤ (k : Int) := by omega
      have hI1 : (k : Int) < (n : Int) := by omega
      have hprev : Hid (0 < k → ∃ y, l[k - 1]? = some y ∧ wr.cell? ⟨b, off + (k - 1), none⟩ = some (.int .i64 y)) := fun hk0 => by
        obtain ⟨b', off', y, eA, -, -, -, hy, u0, -⟩ := SlI.get h.out (show k - 1 < n by omega)
        cases eA
        exact ⟨y, hy, (hb.cell (p := ⟨b, off + (k - 1), none⟩) g3).trans u0⟩
      cases hin : inB x 0 top with
      | false =>
        simp only [hin] at q
        have hv : Hid (risesB top l = false) := by show _ = _; rw [hval.out]; exact allK_bad hlt (okR_bad hx hin)
        replace q := hide q
        clear hx ha h hprev p0 hin
        go_wp2
        refine wp_region_quiet_below (by kernel_rfl) (by kernel_rfl) ?_
        repeat (go_big_quiet_step (first | (with_reducible exact q.out _ _)))
        refine wpQuiet_nil ?_
        intro _ hw'
        obtain ⟨⟨dq, osq⟩, hw''⟩ := hw'
        subst hw''
        have hb2 := below_regrown wr dq osq
        generalize grow (redrawn wr dq) osq = wq at *
        go_wp2
        go_ret
        exact ⟨ret_b (by rw [hv.out]), hb.trans (hb2.mono hb.size)⟩
      | true =>
      simp only [hin] at q
      replace q := hide q
      by_cases hk0 : 0 < k
      · obtain ⟨y, hy, u0⟩ := hprev.out hk0
        have f1 := fun d os => cell_regrown u0 d os
        have hok := okR_at (hi := top) hx hk0 hy
        rw [hin, Bool.true_and] at hok
        have hlI : (0 : Int) < (k : Int) := by omega
        have hlJ : decide ((0 : Int) < (k : Int)) = true := decide_eq_true hlI
        have hI2 : (0 : Int) ≤ (k : Int) - 1 := by omega
        have hI4 : (1 : Int) ≤ (k : Int) := by omega
        have hI3 : (k : Int) - 1 < (n : Int) := by omega
        have hI5 : ((k : Int) - 1).toNat = k - 1 := by omega
        clear hx hy hprev h p0 u0 hin
        by_cases hxy : y < x
        · have hnext : Hid (∀ j, j < k + 1 → okRise top l j = true) := lt_succ_cases ha.out (by rw [hok, decide_eq_true hxy])
          have hle : ¬ x ≤ y := by omega
          have hleJ : decide (x ≤ y) = false := decide_eq_false hle
          clear hok ha hxy
          go_wp2
          refine wp_region_quiet_below (by kernel_rfl) (by kernel_rfl) ?_
          repeat (go_big_quiet_step (first | (with_reducible exact q.out _ _)))
          refine wpQuiet_nil ?_
          intro _ hw'
          obtain ⟨⟨dq, osq⟩, hw''⟩ := hw'
          subst hw''
          have hb2 := below_regrown wr dq osq
          generalize grow (redrawn wr dq) osq = wq at *
          clear f0 f1
          go_wp2
          go_roundw
          case rel => exact ⟨k + 1, by omega, by go_num, hnext, hb.trans (hb2.mono hb.size)⟩
          case measure => simp [intOf]; omega
        · have hv : Hid (risesB top l = false) := by show _ = _; rw [hval.out]; exact allK_bad hlt (by rw [hok, decide_eq_false hxy])
          have hle : x ≤ y := by omega
          have hleJ : decide (x ≤ y) = true := decide_eq_true hle
          clear hok ha hxy
          go_wp2
          refine wp_region_quiet_below (by kernel_rfl) (by kernel_rfl) ?_
          repeat (go_big_quiet_step (first | (with_reducible exact q.out _ _)))
          refine wpQuiet_nil ?_
          intro _ hw'
          obtain ⟨⟨dq, osq⟩, hw''⟩ := hw'
          subst hw''
          have hb2 := below_regrown wr dq osq
          generalize grow (redrawn wr dq) osq = wq at *
          clear f0 f1
          go_wp2
          go_ret
          exact ⟨ret_b (by rw [hv.out]), hb.trans (hb2.mono hb.size)⟩
      · have hk00 : k = 0 := by omega
        subst hk00
        have hnext : Hid (∀ j, j < 0 + 1 → okRise top l j = true) := lt_succ_cases ha.out (by rw [okR_zero hx, hin])
        simp only [Nat.add_zero] at p0
        replace f0 := fun d os => cell_regrown p0 d os
        clear hx hprev h p0 ha hin
        go_wp2
        refine wp_region_quiet_below (by kernel_rfl) (by kernel_rfl) ?_
        repeat (go_big_quiet_step (first | (with_reducible exact q.out _ _)))
        refine wpQuiet_nil ?_
        intro _ hw'
        obtain ⟨⟨dq, osq⟩, hw''⟩ := hw'
        subst hw''
        have hb2 := below_regrown wr dq osq
        generalize grow (redrawn wr dq) osq = wq at *
        clear f0
        go_wp2
        go_roundw
        case rel => exact ⟨0 + 1, by omega, by go_num, hnext, hb.trans (hb2.mono hb.size)⟩
        case measure => simp [intOf]; omega
    · have hkn : k = n := by omega
      subst hkn
      have hv : Hid (risesB top l = true) := by show _ = _; rw [hval.out]; exact allK_good ha.out
      clear ha h
      go_wp2
      go_ret
      exact ⟨ret_b (by rw [hv.out]), hb⟩

end Go.Proofs.YtiaclddgllkgpaaGreatDoor
