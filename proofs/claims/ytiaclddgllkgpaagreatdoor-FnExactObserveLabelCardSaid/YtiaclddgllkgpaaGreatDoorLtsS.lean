/-
  The reference's tests of labels' lists. Conditions: sizes.
-/
import Derived.Test.YtiaclddgllkgpaaGreatDoorLabel2
import Derived.Test.YtiaclddgllkgpaaGreatDoorLtsMath
import Derived.Lib.QuietBelow
import Derived.BigQuiet
import Derived.Laws.Cover1
namespace Go.Proofs.YtiaclddgllkgpaaGreatDoor
open Go.ChangeShapes Go.WideShapes Go.ChangeAt Go.RowKit Go.Sort
set_option linter.unusedVariables false

theorem l01Label_calls (s : ByteArray) (w : World) (hs : s.size ≤ 1048576) : Calls Tryz.prog 125 #[.string s] w fun e w' => e = .returned (.bool (labS s)) ∧ Below w.heap.size w w' := by
  have q := hide (l01Values_calls s w hs)
  go_enter Tryz.func125, Tryz.ntmps125
  go_wp2_with fail
  refine q.out.mono ?_
  rintro e w1 ⟨A, n, c, rfl, hb⟩
  go_wp2_with fail
  go_ret
  exact ⟨rfl, hb⟩
theorem labS_tau : labS tauB = true := by
  have h : (40 : UInt8) ∉ tauB.data.toList := by decide
  rw [labS_miss h]
  decide
def sLess (a b : ByteArray) : Bool := Op.bytesLess a.toList b.toList
theorem bytesLess_total : ∀ a b : List UInt8, (!(Op.bytesLess a b || a == b)) = Op.bytesLess b a
  | [], [] => rfl
  | [], _ :: _ => by simp [Op.bytesLess]
  | _ :: _, [] => by simp [Op.bytesLess]
  | x :: a, y :: b => by
    have ih := bytesLess_total a b
    simp only [Op.bytesLess]
    by_cases h1 : x = y
    · subst h1
      have h2 : ¬ x < x := by rw [UInt8.lt_iff_toNat_lt]; omega
      simp only [decide_eq_false h2, Bool.false_or, beq_self_eq_true, Bool.true_and]
      rw [← ih]
      congr 2
      simp
    · have h3 : ¬ y = x := fun e => h1 e.symm
      have hn : x.toNat ≠ y.toNat := fun e => h1 (UInt8.toNat_inj.1 e)
      by_cases h2 : x < y
      · have h4 : ¬ y < x := by rw [UInt8.lt_iff_toNat_lt] at h2 ⊢; omega
        simp [h1, h2, h3, h4]
      · have h4 : y < x := by rw [UInt8.lt_iff_toNat_lt] at h2 ⊢; omega
        simp [h1, h2, h3, h4]
abbrev okL := okLab labS sLess
theorem okL_at {l : List ByteArray} {k : Nat} {x y : ByteArray} (hx : l[k]? = some x) (hk : 0 < k) (hy : l[k - 1]? = some y) : okL l k = ((labS x && !(decide (x = tauB))) && (decide (k ≤ 1) || sLess y x)) := by
  show okLab labS sLess l k = _
  unfold okLab
  rw [hx, hy]
  have : decide (k = 0) = false := decide_eq_false (by omega)
  simp only [this]
  cases h : decide (x = tauB) <;> rfl
theorem okL_zero {l : List ByteArray} {x : ByteArray} (hx : l[0]? = some x) : okL l 0 = decide (x = tauB) := by
  show okLab labS sLess l 0 = _
  unfold okLab
  rw [hx]
  by_cases h : x = tauB
  · subst h
    simp [labS_tau]
  · simp [h]
def namesB (l : List ByteArray) : Bool := inB (l.length : Int) 1 12 && allK (okL l) l.length

set_option maxRecDepth 100000 in
set_option maxHeartbeats 1600000 in
theorem l11Names_calls (A : Option Addr) (n c : Nat) (l : List ByteArray) (w : World) (lo hi : Nat) (h : SlS w lo hi A n l) (hn : n ≤ 1048576) (hs : ∀ s ∈ l, s.size ≤ 1048576) :
    Calls Tryz.prog 152 #[.slice A n c] w fun e w' => e = .returned (.bool (namesB l)) ∧ Below w.heap.size w w' := by
  have hlen := h.len
  have hval : namesB l = (inB (n : Int) 1 12 && allK (okL l) n) := by unfold namesB; rw [hlen]
  by_cases h0 : n = 0
  · have hv : Hid (namesB l = false) := by show _ = _; rw [hval, h0]; rfl
    subst h0
    clear hval hs hlen h
    go_enter Tryz.func152, Tryz.ntmps152
    go_wp2
    go_ret
    exact ⟨ret_b (by rw [hv.out]), Below.refl _ _⟩
  have h0b : ((n : Int) == 0) = false := by rw [beq_eq_false_iff_ne]; omega
  by_cases h12 : 12 < n
  · have hv : Hid (namesB l = false) := by show _ = _; rw [hval, inB_false.2 (by omega)]; rfl
    have h12I : (12 : Int) < (n : Int) := by omega
    clear hval hs hlen h
    go_enter Tryz.func152, Tryz.ntmps152
    go_wp2
    go_ret
    exact ⟨ret_b (by rw [hv.out]), Below.refl _ _⟩
  have h12I : ¬ (12 : Int) < (n : Int) := by omega
  have hin : inB (n : Int) 1 12 = true := inB_true.2 (by omega)
  rw [hin, Bool.true_and] at hval
  obtain ⟨b0, o0, x0, rfl, p1, p2, p3, hx0, cc0, -⟩ := SlS.get h (show 0 < n by omega)
  have hz0 := okL_zero hx0
  have hpos : (0 : Int) < (n : Int) := by omega
  simp only [Nat.add_zero] at cc0
  by_cases ht0 : x0 = tauB
  · have htt : (x0.toList == [116, 97, 117]) = true := by rw [ht0, tau_list]; rfl
    rw [decide_eq_true ht0] at hz0
    replace hval := hide hval
    replace hs := hide hs
    replace hz0 := hide hz0
    clear hin hlen hx0 ht0
    go_enter Tryz.func152, Tryz.ntmps152
    go_wp2
    go_loopw [3] (fun i wr => ∃ k : Nat, 1 ≤ k ∧ k ≤ n ∧ i = .int .i64 (k : Nat) ∧ Hid (∀ j, j < k → okL l j = true) ∧ Below w.heap.size w wr) (fun i _ => n - (intOf i).toNat)
    case atStart => exact ⟨1, Nat.le_refl _, by omega, rfl, (fun j hj => by rw [show j = 0 by omega]; exact hz0.out), Below.refl _ _⟩
    case round =>
      obtain ⟨k, hk1, hk, rfl, ha, hb⟩ := hrel
      clear cc0 p1 p2 p3
      by_cases hlt : k < n
      · obtain ⟨b, off, x, eA, g1, g2, g3, hx, c0, -⟩ := SlS.get h hlt
        obtain ⟨b', off', y, eA', -, -, -, hy, c1, -⟩ := SlS.get h (show k - 1 < n by omega)
        cases eA
        cases eA'
        replace c0 := (hb.cell (p := ⟨b0, o0 + k, none⟩) g3).trans c0
        replace c1 := (hb.cell (p := ⟨b0, o0 + (k - 1), none⟩) g3).trans c1
        have hok := okL_at hx hk1 hy
        have hg : b0 < wr.heap.size := Nat.lt_of_lt_of_le g3 hb.size
        have q : ∀ d os, Calls Tryz.prog 125 #[.string x] (grow (redrawn wr d) os) (fun e w'' => e = .returned (.bool (labS x)) ∧ ∃ p : Regrown, w'' = grow (redrawn wr p.d) p.os) := fun d os => Calls.regrown_of (l01Label_calls x _ (hs.out x (List.mem_of_getElem? hx)))
        have e0 := fun d os => cell_regrown c0 d os
        have e1 := fun d os => cell_regrown c1 d os
        have hI0 : (0 : Int) ≤ (k : Int) := by omega
        have hI1 : (k : Int) < (n : Int) := by omega
        have hI2 : (0 : Int) ≤ (k : Int) - 1 := by omega
        have hI3 : (k : Int) - 1 < (n : Int) := by omega
        have hI4 : (1 : Int) ≤ (k : Int) := by omega
        have hI5 : ((k : Int) - 1).toNat = k - 1 := by omega
        clear h hx hy
        cases hlab : labS x with
        | false =>
          simp only [hlab] at q
          rw [hlab] at hok
          have hv : Hid (namesB l = false) := by show _ = _; rw [hval.out]; exact allK_bad hlt (by rw [hok]; rfl)
          replace q := hide q
          clear hok hlab ha hs
          go_wp2
          refine wp_region_quiet_below (by kernel_rfl) (by kernel_rfl) ?_
          repeat (go_big_quiet_step (first | exact q.out _ _))
          refine wpQuiet_nil ?_
          intro _ hw'
          obtain ⟨⟨dq, osq⟩, hw''⟩ := hw'
          subst hw''
          have hb2 := below_regrown wr dq osq
          generalize grow (redrawn wr dq) osq = wq at *
          go_wp2
          go_ret
          exact ⟨ret_b (by rw [hv.out]), hb.trans (hb2.mono hb.size)⟩
        | true =>
          simp only [hlab] at q
          rw [hlab] at hok
          replace q := hide q
          by_cases htx : x = tauB
          · have hv : Hid (namesB l = false) := by show _ = _; rw [hval.out]; exact allK_bad hlt (by rw [hok, decide_eq_true htx]; rfl)
            have htt : (x.toList == [116, 97, 117]) = true := by rw [htx, tau_list]; rfl
            clear hok hlab ha hs htx
            go_wp2
            refine wp_region_quiet_below (by kernel_rfl) (by kernel_rfl) ?_
            repeat (go_big_quiet_step (first | exact q.out _ _))
            refine wpQuiet_nil ?_
            intro _ hw'
            obtain ⟨⟨dq, osq⟩, hw''⟩ := hw'
            subst hw''
            have hb2 := below_regrown wr dq osq
            generalize grow (redrawn wr dq) osq = wq at *
            go_wp2
            go_ret
            exact ⟨ret_b (by rw [hv.out]), hb.trans (hb2.mono hb.size)⟩
          · have hne := tau_ne htx
            rw [decide_eq_false htx] at hok
            by_cases h1 : k = 1
            · have hnext : Hid (∀ j, j < k + 1 → okL l j = true) := lt_succ_cases ha.out (by rw [hok, h1]; rfl)
              have h1I : decide ((1 : Int) < (k : Int)) = false := decide_eq_false (by omega)
              replace h1 := hide h1
              clear hok hlab ha htx
              go_wp2
              refine wp_region_quiet_below (by kernel_rfl) (by kernel_rfl) ?_
              repeat (go_big_quiet_step (first | exact q.out _ _))
              refine wpQuiet_nil ?_
              intro _ hw'
              obtain ⟨⟨dq, osq⟩, hw''⟩ := hw'
              subst hw''
              have hb2 := below_regrown wr dq osq
              generalize grow (redrawn wr dq) osq = wq at *
              go_wp2
              go_roundw
              case rel => exact ⟨k + 1, by omega, by omega, by go_num, hnext, hb.trans (hb2.mono hb.size)⟩
              case measure => simp [intOf]; omega
            · have h1I : (1 : Int) < (k : Int) := by omega
              have h1J : decide ((1 : Int) < (k : Int)) = true := decide_eq_true h1I
              cases hsl : Op.bytesLess y.toList x.toList with
              | true =>
                have hnext : Hid (∀ j, j < k + 1 → okL l j = true) := lt_succ_cases ha.out (by
                  rw [hok]
                  unfold sLess
                  rw [hsl]
                  simp)
                clear hok hlab ha htx
                go_wp2
                refine wp_region_quiet_below (by kernel_rfl) (by kernel_rfl) ?_
                repeat (go_big_quiet_step (first | exact q.out _ _))
                refine wpQuiet_nil ?_
                intro _ hw'
                obtain ⟨⟨dq, osq⟩, hw''⟩ := hw'
                subst hw''
                have hb2 := below_regrown wr dq osq
                generalize grow (redrawn wr dq) osq = wq at *
                go_wp2
                go_roundw
                case rel => exact ⟨k + 1, by omega, by omega, by go_num, hnext, hb.trans (hb2.mono hb.size)⟩
                case measure => simp [intOf]; omega
              | false =>
                have hv : Hid (namesB l = false) := by
                  show _ = _
                  rw [hval.out]
                  refine allK_bad hlt ?_
                  rw [hok, decide_eq_false (show ¬ k ≤ 1 by omega)]
                  unfold sLess
                  rw [hsl]
                  rfl
                clear hok hlab ha htx hs
                go_wp2
                refine wp_region_quiet_below (by kernel_rfl) (by kernel_rfl) ?_
                repeat (go_big_quiet_step (first | exact q.out _ _))
                refine wpQuiet_nil ?_
                intro _ hw'
                obtain ⟨⟨dq, osq⟩, hw''⟩ := hw'
                subst hw''
                have hb2 := below_regrown wr dq osq
                generalize grow (redrawn wr dq) osq = wq at *
                go_wp2
                go_ret
                exact ⟨ret_b (by rw [hv.out]), hb.trans (hb2.mono hb.size)⟩
      · have hkn : k = n := by omega
        subst hkn
        have hv : Hid (namesB l = true) := by show _ = _; rw [hval.out]; exact allK_good ha.out
        go_wp2
        go_ret
        exact ⟨ret_b (by rw [hv.out]), hb⟩
  · have hne := tau_ne ht0
    rw [decide_eq_false ht0] at hz0
    have hv : Hid (namesB l = false) := by show _ = _; rw [hval]; exact allK_bad (by omega) hz0
    clear hval hs hz0 hin hlen hx0 ht0 h
    go_enter Tryz.func152, Tryz.ntmps152
    go_wp2
    go_ret
    exact ⟨ret_b (by rw [hv.out]), Below.refl _ _⟩

end Go.Proofs.YtiaclddgllkgpaaGreatDoor
