/-
  Valid summands, by the reference. Conditions: at most 1048576 elements.
-/
import Derived.Test.YtdjhpdmpibokhaaLin4
import Derived.Test.YtdjhpdmpibokhaaName
import Derived.Test.YtdjhpdmpibokhaaEval
namespace Go.Proofs.Ytdjhpdmpibokhaa
open Go.ChangeShapes Go.WideShapes Go.ChangeAt Go.RowKit
set_option linter.unusedVariables false

def tauB (s : ByteArray) : Bool := s.toList == [116, 97, 117]
def actionB (s : ByteArray) : Bool := nameB s && !(tauB s)

theorem l01Action_calls (s : ByteArray) (w : World) (hs : s.size ≤ maxLen) : Calls Try.prog 126 #[.string s] w fun e w' => e = .returned (.bool (actionB s)) ∧ w = w' := by
  have q := l01Name_calls s w hs
  by_cases h1 : nameB s = true
  · rw [h1] at q
    replace q := hide q
    have hv : Hid (actionB s = !(tauB s)) := by show _ = _; unfold actionB; rw [h1]; rfl
    clear h1
    cases h2 : tauB s with
    | true =>
      have t2 : s.toList = [116, 97, 117] := by simpa [tauB] using h2
      replace h2 := hide h2
      go_enter Try.func126, Try.ntmps126
      go_wp2_with (first | (go_at_call 130; (with_reducible refine q.out.mono ?_); rintro e w1 ⟨rfl, rfl⟩))
      go_ret
      exact ⟨ret_b (by rw [hv.out, h2.out]; rfl), rfl⟩
    | false =>
      have t2 : ¬ s.toList = [116, 97, 117] := by simpa [tauB] using h2
      replace h2 := hide h2
      go_enter Try.func126, Try.ntmps126
      go_wp2_with (first | (go_at_call 130; (with_reducible refine q.out.mono ?_); rintro e w1 ⟨rfl, rfl⟩))
      go_ret
      exact ⟨ret_b (by rw [hv.out, h2.out]; simp [t2]), rfl⟩
  · replace h1 := Bool.eq_false_iff.2 h1
    rw [h1] at q
    replace q := hide q
    have hv : Hid (actionB s = false) := by show _ = _; unfold actionB; rw [h1]; rfl
    clear h1
    go_enter Try.func126, Try.ntmps126
    go_wp2_with (first | (go_at_call 130; (with_reducible refine q.out.mono ?_); rintro e w1 ⟨rfl, rfl⟩))
    go_ret
    exact ⟨ret_b (by rw [hv.out]), rfl⟩

def prodS (l : List Int) : Int := l.foldl (fun m x => m * (x + 1)) 1
def sumsB (l : List Int) : Bool := (l.all fun x => inB x 1 7) && (decide (l.length ≤ 8) && decide (prodS l ≤ 4096))
theorem prodS_succ {l : List Int} {k : Nat} {x : Int} (h : l[k]? = some x) : prodS (l.take (k + 1)) = prodS (l.take k) * (x + 1) := by
  unfold prodS
  rw [List.take_add_one, h, List.foldl_append]
  rfl
theorem prod_bd {p x : Int} {k : Nat} (h1 : 1 ≤ p) (h2 : p ≤ (8 ^ k : Nat)) (h3 : 1 ≤ x) (h4 : x ≤ 7) : 1 ≤ p * (x + 1) ∧ p * (x + 1) ≤ (8 ^ (k + 1) : Nat) := by
  constructor
  · have := Int.mul_le_mul h1 (show (1 : Int) ≤ x + 1 by omega) (by omega) (by omega)
    omega
  · have := Int.mul_le_mul h2 (show x + 1 ≤ 8 by omega) (by omega) (by omega)
    rw [Nat.pow_succ]
    push_cast at this ⊢
    exact this
theorem pow8_le {k : Nat} (h : k ≤ 8) : (8 ^ k : Nat) ≤ 16777216 := Nat.le_trans (Nat.pow_le_pow_right (by omega) h) (by decide)
def triesF (l : List Int) : Int := if sumsB l = true then prodS l else 0

set_option maxHeartbeats 800000 in
theorem l08Tries_calls (A : Option Addr) (n c : Nat) (l : List Int) (w : World) (lo hi : Nat) (h : SlI w lo hi A n l) (hn : n ≤ 1048576) :
    Calls Try.prog 125 #[.slice A n c] w fun e w' => e = .returned (.int .i64 (triesF l)) ∧ w = w' := by
  have hlen := hide h.len
  by_cases h8 : 8 < n
  · have h8i : (8 : Int) < (n : Int) := by omega
    have hv : Hid (triesF l = 0) := by show _ = _; unfold triesF sumsB; rw [if_neg]; rw [hlen.out]; simp; omega
    clear h
    go_enter Try.func125, Try.ntmps125
    go_wp2
    go_ret
    exact ⟨ret_i (by rw [hv.out]), rfl⟩
  · have h8i : ¬ (8 : Int) < (n : Int) := by omega
    go_enter Try.func125, Try.ntmps125
    go_wp2_with fail
    go_loop [3, 4] (fun s i => ∃ k : Nat, k ≤ n ∧ i = .int .i64 k ∧ s = .int .i64 (prodS (l.take k)) ∧ 1 ≤ prodS (l.take k) ∧ prodS (l.take k) ≤ (8 ^ k : Nat) ∧ Hid (∀ x ∈ l.take k, inB x 1 7 = true)) (fun _ i => n - (intOf i).toNat)
    case atStart => exact ⟨0, Nat.zero_le _, rfl, rfl, by simp [prodS], by simp [prodS], fun x hx => by simp at hx⟩
    case round =>
      obtain ⟨k, hk, rfl, rfl, p1, p2, ha⟩ := hrel
      by_cases hlt : k < n
      · obtain ⟨b, off, x, rfl, g1, g2, g3, hx, c0, -⟩ := SlI.get h hlt
        have q := l00In_calls x 1 7 w
        have hps := prodS_succ hx
        have hp8 := pow8_le (show k ≤ 8 by omega)
        clear h
        by_cases hin : inB x 1 7 = true
        · have hx1 : 1 ≤ x ∧ x ≤ 7 := by simpa [inB] using hin
          have hbd := prod_bd p1 p2 hx1.1 hx1.2
          have hp9 := pow8_le (show k + 1 ≤ 8 by omega)
          rw [← hps] at hbd
          rw [hin] at q
          replace q := hide q
          have hnext : Hid (∀ y ∈ l.take (k + 1), inB y 1 7 = true) := fun y hy => by
            rw [List.take_add_one, hx] at hy
            rcases List.mem_append.1 hy with hy | hy
            · exact ha.out y hy
            · simp at hy; subst hy; exact hin
          replace hbd := hide hbd
          have hwr : wrap64 (prodS (l.take k) * (x + 1)) = prodS (l.take (k + 1)) := by rw [← hps]; have := hbd.out; unfold wrap64; omega
          have hx2 := hx1.1
          have hx3 := hx1.2
          have hprod := hbd.out
          rw [hps] at hprod
          clear hx hin ha hx1
          generalize hP : prodS (l.take k) = pk at *
          go_wp2_with (go_at_call 49; (with_reducible refine q.out.mono ?_); rintro e w1 ⟨rfl, rfl⟩)
          go_round
          case rel => exact ⟨k + 1, by omega, by go_num, by rw [hps], hbd.out.1, hbd.out.2, hnext⟩
          case measure => simp [intOf]; omega
        · have hv : Hid (triesF l = 0) := by
            show _ = _
            unfold triesF sumsB
            rw [if_neg]
            intro hc
            rw [Bool.and_eq_true] at hc
            exact hin (List.all_eq_true.1 hc.1 x (List.mem_of_getElem? hx))
          replace hin := Bool.eq_false_iff.2 hin
          rw [hin] at q
          replace q := hide q
          clear hx hin ha hps
          go_wp2_with (go_at_call 49; (with_reducible refine q.out.mono ?_); rintro e w1 ⟨rfl, rfl⟩)
          go_ret
          exact ⟨ret_i (by rw [hv.out]), rfl⟩
      · have hkn : k = n := by omega
        subst hkn
        have hall := ha.out
        rw [List.take_of_length_le (by rw [hlen.out]; exact Nat.le_refl _)] at hall
        have hp8 := pow8_le (show k ≤ 8 by omega)
        have hfull : l.take k = l := List.take_of_length_le (by rw [hlen.out]; exact Nat.le_refl _)
        rw [hfull] at p1 p2 ⊢
        by_cases hp : prodS l ≤ 4096
        · have hpi : ¬ 4096 < prodS l := by omega
          have hv : Hid (triesF l = prodS l) := by
            show _ = _
            unfold triesF sumsB
            rw [if_pos]
            rw [Bool.and_eq_true, Bool.and_eq_true]
            exact ⟨List.all_eq_true.2 hall, by rw [hlen.out]; simp; omega, by simpa using hp⟩
          clear h hall ha
          generalize hP : prodS l = pk at *
          go_wp2_with fail
          go_ret
          exact ⟨ret_i (by rw [hv.out]), rfl⟩
        · have hpi : 4096 < prodS l := by omega
          have hv : Hid (triesF l = 0) := by
            show _ = _
            unfold triesF sumsB
            rw [if_neg]
            intro hc
            rw [Bool.and_eq_true, Bool.and_eq_true] at hc
            exact hp (by simpa using hc.2.2)
          clear h hall ha
          generalize hP : prodS l = pk at *
          go_wp2_with fail
          go_ret
          exact ⟨ret_i (by rw [hv.out]), rfl⟩

theorem triesF_zero (l : List Int) (h : sumsB l = false) : triesF l = 0 := if_neg (by rw [h]; decide)
theorem prodS_pos (l : List Int) (h : ∀ x ∈ l, inB x 1 7 = true) : 1 ≤ prodS l := by
  unfold prodS
  suffices ∀ m : Int, 1 ≤ m → 1 ≤ l.foldl (fun m x => m * (x + 1)) m from this 1 (Int.le_refl _)
  induction l with
  | nil => exact fun m hm => hm
  | cons x r ih =>
    intro m hm
    have hx : 1 ≤ x ∧ x ≤ 7 := by have := h x (by simp); simpa [inB] using this
    refine ih (fun y hy => h y (by simp [hy])) _ ?_
    show 1 ≤ m * (x + 1)
    have := Int.mul_le_mul hm (show (1 : Int) ≤ x + 1 by omega) (by omega) (by omega)
    omega
theorem triesF_pos (l : List Int) (h : sumsB l = true) : 1 ≤ triesF l := by
  unfold triesF
  rw [if_pos h]
  unfold sumsB at h
  rw [Bool.and_eq_true] at h
  exact prodS_pos l (List.all_eq_true.1 h.1)

def eachB (d : DTT) (v : Int) : Bool := d.all fun e => isTerms e v 60

theorem l08Each_calls {v : Value} {d : DTT} {w : World} {lo hi : Nat} (h : ArgTT w lo hi v d) (ht : totTT d ≤ 1048576) (k0 : Int) (h0 : -1048576 ≤ k0) (h1 : k0 ≤ 1048576) :
    Calls Try.prog 127 #[v, .int .i64 k0] w fun e w' => e = .returned (.bool (eachB d k0)) ∧ w = w' := by
  obtain ⟨A, n, c, R, rfl, hn0, hR, rfl⟩ := h
  have htot := totTT_of hR
  have hn : n ≤ 1048576 := by omega
  have hR2 := hide (hR.upto (preG_all hR.len (m := 1048576) (by omega)))
  have hlen := hide hR.len
  clear hR htot ht
  go_enter Try.func127, Try.ntmps127
  go_wp2
  go_loop [5] (fun i => ∃ k : Nat, k ≤ n ∧ i = .int .i64 k ∧ Hid (∀ l ∈ (R.map (·.2)).take k, isTerms l k0 60 = true)) (fun i => n - (intOf i).toNat)
  case atStart => exact ⟨0, Nat.zero_le _, rfl, fun l hl => by simp at hl⟩
  case round =>
    obtain ⟨k, hk, rfl, hall⟩ := hrel
    by_cases hlt : k < n
    · obtain ⟨b, off, Ah, nh, ch, s, rfl, g1, g2, g3, hx, c0, hs, hnh⟩ := hR2.out.atT hlt
      have hx2 : (R.map (·.2))[k]? = some s := by rw [List.getElem?_map, hx]; rfl
      have q1 := l03Is_calls Ah nh ch s k0 60 w lo hi hs hnh h0 h1
      clear hs hx
      by_cases c1 : isTerms s k0 60 = true
      · rw [c1] at q1
        replace q1 := hide q1
        have hnext : Hid (∀ l ∈ (R.map (·.2)).take (k + 1), isTerms l k0 60 = true) := fun l hl => by
          rw [List.take_add_one, hx2] at hl
          rcases List.mem_append.1 hl with hl | hl
          · exact hall.out l hl
          · simp at hl; subst hl; exact c1
        clear c1 hx2
        go_wp2_with (go_at_call 50; (with_reducible refine q1.out.mono ?_); rintro e w1 ⟨rfl, rfl⟩)
        go_round
        case rel => exact ⟨k + 1, by omega, by go_num, hnext⟩
        case measure => simp [intOf]; omega
      · have hv : Hid (eachB (R.map (·.2)) k0 = false) := by
          show _ = _
          rw [← Bool.not_eq_true]
          intro hc
          exact c1 (List.all_eq_true.1 hc s (List.mem_of_getElem? hx2))
        replace c1 := Bool.eq_false_iff.2 c1
        rw [c1] at q1
        replace q1 := hide q1
        clear c1 hx2
        go_wp2_with (go_at_call 50; (with_reducible refine q1.out.mono ?_); rintro e w1 ⟨rfl, rfl⟩)
        go_ret
        exact ⟨ret_b (by rw [hv.out]), rfl⟩
    · have hkn : k = n := by omega
      subst hkn
      have ha := hall.out
      rw [List.take_of_length_le (by rw [List.length_map, hlen.out]; exact Nat.le_refl _)] at ha
      have hv : Hid (eachB (R.map (·.2)) k0 = true) := List.all_eq_true.2 ha
      clear ha hall
      go_wp2_with fail
      go_ret
      exact ⟨ret_b (by rw [hv.out]), rfl⟩

def nameCond (s : ByteArray) (n : Nat) : Bool := (if tauB s = true then decide (n = 0) else nameB s) && decide (n ≤ 2)
def summandB (p : Int) (d : DSu) : Bool :=
  sumsB d.1 && (isTerms d.2.1 (p + (d.1.length : Int)) 60 && (decide ((d.2.2.2.2.length : Int) = p) && (nameCond d.2.2.1 d.2.2.2.1.length && (eachB d.2.2.2.1 (p + (d.1.length : Int)) && eachB d.2.2.2.2 (p + (d.1.length : Int))))))

set_option maxHeartbeats 3200000 in
set_option maxRecDepth 100000 in
theorem l08Summand_calls {b o : Nat} {v0 v1 v3 v4 : Value} {nm : ByteArray} {d : DSu} {p : Int} {w : World} {lo hi : Nat} (h : ReadSu w lo hi (v0, v1, nm, v3, v4) d) (ht : totSu d ≤ 1048576) (hp0 : 0 ≤ p) (hp1 : p ≤ 21)
    (c0 : w.cell? ⟨b, o, none⟩ = some v0) (c1 : w.cell? ⟨b, o + 1, none⟩ = some v1) (c2 : w.cell? ⟨b, o + 2, none⟩ = some (.string nm)) (c3 : w.cell? ⟨b, o + 3, none⟩ = some v3) (c4 : w.cell? ⟨b, o + 4, none⟩ = some v4) :
    Calls Try.prog 111 #[.pointer (some ⟨b, o, none⟩), .int .i64 p] w fun e w' => e = .returned (.bool (summandB p d)) ∧ w = w' := by
  obtain ⟨d0, d1, dn, d3, d4⟩ := d
  obtain ⟨⟨A0, n0, k0, e0, hn0, s0⟩, ⟨A1, n1, k1, e1, hn1, s1⟩, ⟨en, hnn⟩, t3, t4⟩ := h
  dsimp only at *
  subst e0 e1 en
  have l0 := s0.len
  have l1 := s1.len
  have htot : totSu (d0, d1, nm, d3, d4) = n0 + n1 + nm.size + totTT d3 + totTT d4 := by simp [totSu, l0, l1]
  rw [htot] at ht
  have sh3 : ∃ A n c, v3 = .slice A n c ∧ n = d3.length ∧ n ≤ 1048576 := by obtain ⟨A, n, c, R, r1, r2, r3⟩ := t3.rows (by omega); exact ⟨A, n, c, r1, by rw [← r3.1, List.length_map, r2.len], r3.2⟩
  have sh4 : ∃ A n c, v4 = .slice A n c ∧ n = d4.length ∧ n ≤ 1048576 := by obtain ⟨A, n, c, R, r1, r2, r3⟩ := t4.rows (by omega); exact ⟨A, n, c, r1, by rw [← r3.1, List.length_map, r2.len], r3.2⟩
  obtain ⟨A3, n3, k3, rfl, hl3, hb3⟩ := sh3
  obtain ⟨A4, n4, k4, rfl, hl4, hb4⟩ := sh4
  have q0 := l08Tries_calls A0 n0 k0 d0 w lo hi s0 (by omega)
  have hval : summandB p (d0, d1, nm, d3, d4) = (sumsB d0 && (isTerms d1 (p + (n0 : Int)) 60 && (decide ((n4 : Int) = p) && (nameCond nm n3 && (eachB d3 (p + (n0 : Int)) && eachB d4 (p + (n0 : Int))))))) := by unfold summandB; rw [hl3, hl4, ← l0]
  by_cases b0 : sumsB d0 = true
  · have hn8 : n0 ≤ 8 := by
      unfold sumsB at b0
      rw [Bool.and_eq_true, Bool.and_eq_true] at b0
      have := b0.2.1
      rw [l0] at this
      simpa using this
    have ht0 := triesF_pos d0 b0
    have q1 := l03Is_calls A1 n1 k1 d1 (p + (n0 : Int)) 60 w lo hi s1 (by omega) (by omega) (by omega)
    have q3 := l08Each_calls t3 (by omega) (p + (n0 : Int)) (by omega) (by omega)
    have q4 := l08Each_calls t4 (by omega) (p + (n0 : Int)) (by omega) (by omega)
    have q2 := l01Action_calls nm w hnn
    have zt0 : (triesF d0 == 0) = false := by rw [beq_eq_false_iff_ne]; omega
    have hz0 : (0 : Int) ≤ p + (n0 : Int) := by omega
    have hz1 : p + (n0 : Int) ≤ 29 := by omega
    generalize triesF d0 = tr at *
    replace q0 := hide q0
    have z0 := b0
    clear s0 s1 t3 t4 l0 l1 htot ht hl3 hl4 hnn hn0 hn1 ht0 b0
    have z3 : True := trivial
    have z4 : True := trivial
    have zt : True := trivial
    have zn : True := trivial
    have zm : True := trivial
    have z2 : True := trivial
    by_cases z1 : isTerms d1 (p + (n0 : Int)) 60 = true
    · rw [z1] at q1; replace q1 := hide q1
      by_cases z2 : (n4 : Int) = p
      · have zz2 : ((n4 : Int) != p) = false := by simp [z2]
        by_cases zt : tauB nm = true
        · have w1 : nm.toList = [116, 97, 117] := by simpa [tauB] using zt
          by_cases zn : n3 = 0
          · subst zn
            have zn : True := trivial
            have zm : nameCond nm 0 = true := by unfold nameCond; rw [if_pos zt]; rfl
            replace q2 := hide q2
            by_cases z3 : eachB d3 (p + (n0 : Int)) = true
            · rw [z3] at q3; replace q3 := hide q3
              by_cases z4 : eachB d4 (p + (n0 : Int)) = true
              · rw [z4] at q4; replace q4 := hide q4
                have hv : Hid (summandB p (d0, d1, nm, d3, d4) = true) := by show _ = _; rw [hval]; simp [*]
                clear hval z0 z1 z2 z3 z4 zt zn zm
                go_enter Try.func111, Try.ntmps111
                go_wp2_with (first | (go_at_call 125; (with_reducible refine q0.out.mono ?_); rintro e w' ⟨rfl, rfl⟩) | (go_at_call 50; (with_reducible refine q1.out.mono ?_); rintro e w' ⟨rfl, rfl⟩) | (go_at_call 126; (with_reducible refine q2.out.mono ?_); rintro e w' ⟨rfl, rfl⟩) | (go_at_call 127; (with_reducible refine q3.out.mono ?_); rintro e w' ⟨rfl, rfl⟩) | (go_at_call 127; (with_reducible refine q4.out.mono ?_); rintro e w' ⟨rfl, rfl⟩))
                go_ret
                exact ⟨ret_b (by rw [hv.out]), rfl⟩
              · replace z4 := Bool.eq_false_iff.2 z4; rw [z4] at q4; replace q4 := hide q4
                have hv : Hid (summandB p (d0, d1, nm, d3, d4) = false) := by show _ = _; rw [hval]; simp [*]
                clear hval z0 z1 z2 z3 z4 zt zn zm
                go_enter Try.func111, Try.ntmps111
                go_wp2_with (first | (go_at_call 125; (with_reducible refine q0.out.mono ?_); rintro e w' ⟨rfl, rfl⟩) | (go_at_call 50; (with_reducible refine q1.out.mono ?_); rintro e w' ⟨rfl, rfl⟩) | (go_at_call 126; (with_reducible refine q2.out.mono ?_); rintro e w' ⟨rfl, rfl⟩) | (go_at_call 127; (with_reducible refine q3.out.mono ?_); rintro e w' ⟨rfl, rfl⟩) | (go_at_call 127; (with_reducible refine q4.out.mono ?_); rintro e w' ⟨rfl, rfl⟩))
                go_ret
                exact ⟨ret_b (by rw [hv.out]), rfl⟩
            · replace z3 := Bool.eq_false_iff.2 z3; rw [z3] at q3; replace q3 := hide q3; replace q4 := hide q4; have z4 := z3
              have hv : Hid (summandB p (d0, d1, nm, d3, d4) = false) := by show _ = _; rw [hval]; simp [*]
              clear hval z0 z1 z2 z3 z4 zt zn zm
              go_enter Try.func111, Try.ntmps111
              go_wp2_with (first | (go_at_call 125; (with_reducible refine q0.out.mono ?_); rintro e w' ⟨rfl, rfl⟩) | (go_at_call 50; (with_reducible refine q1.out.mono ?_); rintro e w' ⟨rfl, rfl⟩) | (go_at_call 126; (with_reducible refine q2.out.mono ?_); rintro e w' ⟨rfl, rfl⟩) | (go_at_call 127; (with_reducible refine q3.out.mono ?_); rintro e w' ⟨rfl, rfl⟩) | (go_at_call 127; (with_reducible refine q4.out.mono ?_); rintro e w' ⟨rfl, rfl⟩))
              go_ret
              exact ⟨ret_b (by rw [hv.out]), rfl⟩
          · have w2 : (0 : Int) < (n3 : Int) := by omega
            have zm : nameCond nm n3 = false := by simp [nameCond, zt, zn]
            replace q2 := hide q2; replace q3 := hide q3; replace q4 := hide q4
            have hv : Hid (summandB p (d0, d1, nm, d3, d4) = false) := by show _ = _; rw [hval]; simp [*]
            clear hval z0 z1 z2 z3 z4 zt zn zm
            go_enter Try.func111, Try.ntmps111
            go_wp2_with (first | (go_at_call 125; (with_reducible refine q0.out.mono ?_); rintro e w' ⟨rfl, rfl⟩) | (go_at_call 50; (with_reducible refine q1.out.mono ?_); rintro e w' ⟨rfl, rfl⟩) | (go_at_call 126; (with_reducible refine q2.out.mono ?_); rintro e w' ⟨rfl, rfl⟩) | (go_at_call 127; (with_reducible refine q3.out.mono ?_); rintro e w' ⟨rfl, rfl⟩) | (go_at_call 127; (with_reducible refine q4.out.mono ?_); rintro e w' ⟨rfl, rfl⟩))
            go_ret
            exact ⟨ret_b (by rw [hv.out]), rfl⟩
        · replace zt := Bool.eq_false_iff.2 zt
          have w1 : ¬ nm.toList = [116, 97, 117] := by simpa [tauB] using zt
          by_cases zn : nameB nm = true
          · have za : actionB nm = true := by simp [actionB, zn, zt]
            rw [za] at q2; replace q2 := hide q2
            clear za
            by_cases zk : n3 ≤ 2
            · have w3 : ¬ (2 : Int) < (n3 : Int) := by omega
              have zm : nameCond nm n3 = true := by simp [nameCond, zt, zn, zk]
              clear zk
              by_cases z3 : eachB d3 (p + (n0 : Int)) = true
              · rw [z3] at q3; replace q3 := hide q3
                by_cases z4 : eachB d4 (p + (n0 : Int)) = true
                · rw [z4] at q4; replace q4 := hide q4
                  have hv : Hid (summandB p (d0, d1, nm, d3, d4) = true) := by show _ = _; rw [hval]; simp [*]
                  clear hval z0 z1 z2 z3 z4 zt zn zm
                  go_enter Try.func111, Try.ntmps111
                  go_wp2_with (first | (go_at_call 125; (with_reducible refine q0.out.mono ?_); rintro e w' ⟨rfl, rfl⟩) | (go_at_call 50; (with_reducible refine q1.out.mono ?_); rintro e w' ⟨rfl, rfl⟩) | (go_at_call 126; (with_reducible refine q2.out.mono ?_); rintro e w' ⟨rfl, rfl⟩) | (go_at_call 127; (with_reducible refine q3.out.mono ?_); rintro e w' ⟨rfl, rfl⟩) | (go_at_call 127; (with_reducible refine q4.out.mono ?_); rintro e w' ⟨rfl, rfl⟩))
                  go_ret
                  exact ⟨ret_b (by rw [hv.out]), rfl⟩
                · replace z4 := Bool.eq_false_iff.2 z4; rw [z4] at q4; replace q4 := hide q4
                  have hv : Hid (summandB p (d0, d1, nm, d3, d4) = false) := by show _ = _; rw [hval]; simp [*]
                  clear hval z0 z1 z2 z3 z4 zt zn zm
                  go_enter Try.func111, Try.ntmps111
                  go_wp2_with (first | (go_at_call 125; (with_reducible refine q0.out.mono ?_); rintro e w' ⟨rfl, rfl⟩) | (go_at_call 50; (with_reducible refine q1.out.mono ?_); rintro e w' ⟨rfl, rfl⟩) | (go_at_call 126; (with_reducible refine q2.out.mono ?_); rintro e w' ⟨rfl, rfl⟩) | (go_at_call 127; (with_reducible refine q3.out.mono ?_); rintro e w' ⟨rfl, rfl⟩) | (go_at_call 127; (with_reducible refine q4.out.mono ?_); rintro e w' ⟨rfl, rfl⟩))
                  go_ret
                  exact ⟨ret_b (by rw [hv.out]), rfl⟩
              · replace z3 := Bool.eq_false_iff.2 z3; rw [z3] at q3; replace q3 := hide q3; replace q4 := hide q4; have z4 := z3
                have hv : Hid (summandB p (d0, d1, nm, d3, d4) = false) := by show _ = _; rw [hval]; simp [*]
                clear hval z0 z1 z2 z3 z4 zt zn zm
                go_enter Try.func111, Try.ntmps111
                go_wp2_with (first | (go_at_call 125; (with_reducible refine q0.out.mono ?_); rintro e w' ⟨rfl, rfl⟩) | (go_at_call 50; (with_reducible refine q1.out.mono ?_); rintro e w' ⟨rfl, rfl⟩) | (go_at_call 126; (with_reducible refine q2.out.mono ?_); rintro e w' ⟨rfl, rfl⟩) | (go_at_call 127; (with_reducible refine q3.out.mono ?_); rintro e w' ⟨rfl, rfl⟩) | (go_at_call 127; (with_reducible refine q4.out.mono ?_); rintro e w' ⟨rfl, rfl⟩))
                go_ret
                exact ⟨ret_b (by rw [hv.out]), rfl⟩
            · have w3 : (2 : Int) < (n3 : Int) := by omega
              have zm : nameCond nm n3 = false := by simp [nameCond, zk]
              replace q3 := hide q3; replace q4 := hide q4
              clear zk
              have hv : Hid (summandB p (d0, d1, nm, d3, d4) = false) := by show _ = _; rw [hval]; simp [*]
              clear hval z0 z1 z2 z3 z4 zt zn zm
              go_enter Try.func111, Try.ntmps111
              go_wp2_with (first | (go_at_call 125; (with_reducible refine q0.out.mono ?_); rintro e w' ⟨rfl, rfl⟩) | (go_at_call 50; (with_reducible refine q1.out.mono ?_); rintro e w' ⟨rfl, rfl⟩) | (go_at_call 126; (with_reducible refine q2.out.mono ?_); rintro e w' ⟨rfl, rfl⟩) | (go_at_call 127; (with_reducible refine q3.out.mono ?_); rintro e w' ⟨rfl, rfl⟩) | (go_at_call 127; (with_reducible refine q4.out.mono ?_); rintro e w' ⟨rfl, rfl⟩))
              go_ret
              exact ⟨ret_b (by rw [hv.out]), rfl⟩
          · replace zn := Bool.eq_false_iff.2 zn
            have za : actionB nm = false := by simp [actionB, zn]
            rw [za] at q2; replace q2 := hide q2
            clear za
            have zm : nameCond nm n3 = false := by simp [nameCond, zt, zn]
            replace q3 := hide q3; replace q4 := hide q4
            have hv : Hid (summandB p (d0, d1, nm, d3, d4) = false) := by show _ = _; rw [hval]; simp [*]
            clear hval z0 z1 z2 z3 z4 zt zn zm
            go_enter Try.func111, Try.ntmps111
            go_wp2_with (first | (go_at_call 125; (with_reducible refine q0.out.mono ?_); rintro e w' ⟨rfl, rfl⟩) | (go_at_call 50; (with_reducible refine q1.out.mono ?_); rintro e w' ⟨rfl, rfl⟩) | (go_at_call 126; (with_reducible refine q2.out.mono ?_); rintro e w' ⟨rfl, rfl⟩) | (go_at_call 127; (with_reducible refine q3.out.mono ?_); rintro e w' ⟨rfl, rfl⟩) | (go_at_call 127; (with_reducible refine q4.out.mono ?_); rintro e w' ⟨rfl, rfl⟩))
            go_ret
            exact ⟨ret_b (by rw [hv.out]), rfl⟩
      · have zz2 : ((n4 : Int) != p) = true := by rw [bne_iff_ne]; exact z2
        replace q2 := hide q2; replace q3 := hide q3; replace q4 := hide q4
        have hv : Hid (summandB p (d0, d1, nm, d3, d4) = false) := by show _ = _; rw [hval]; simp [*]
        clear hval z0 z1 z2 z3 z4 zt zn zm
        go_enter Try.func111, Try.ntmps111
        go_wp2_with (first | (go_at_call 125; (with_reducible refine q0.out.mono ?_); rintro e w' ⟨rfl, rfl⟩) | (go_at_call 50; (with_reducible refine q1.out.mono ?_); rintro e w' ⟨rfl, rfl⟩) | (go_at_call 126; (with_reducible refine q2.out.mono ?_); rintro e w' ⟨rfl, rfl⟩) | (go_at_call 127; (with_reducible refine q3.out.mono ?_); rintro e w' ⟨rfl, rfl⟩) | (go_at_call 127; (with_reducible refine q4.out.mono ?_); rintro e w' ⟨rfl, rfl⟩))
        go_ret
        exact ⟨ret_b (by rw [hv.out]), rfl⟩
    · replace z1 := Bool.eq_false_iff.2 z1; rw [z1] at q1; replace q1 := hide q1
      replace q2 := hide q2; replace q3 := hide q3; replace q4 := hide q4
      have hv : Hid (summandB p (d0, d1, nm, d3, d4) = false) := by show _ = _; rw [hval]; simp [*]
      clear hval z0 z1 z2 z3 z4 zt zn zm
      go_enter Try.func111, Try.ntmps111
      go_wp2_with (first | (go_at_call 125; (with_reducible refine q0.out.mono ?_); rintro e w' ⟨rfl, rfl⟩) | (go_at_call 50; (with_reducible refine q1.out.mono ?_); rintro e w' ⟨rfl, rfl⟩) | (go_at_call 126; (with_reducible refine q2.out.mono ?_); rintro e w' ⟨rfl, rfl⟩) | (go_at_call 127; (with_reducible refine q3.out.mono ?_); rintro e w' ⟨rfl, rfl⟩) | (go_at_call 127; (with_reducible refine q4.out.mono ?_); rintro e w' ⟨rfl, rfl⟩))
      go_ret
      exact ⟨ret_b (by rw [hv.out]), rfl⟩
  · replace b0 := Bool.eq_false_iff.2 b0
    rw [triesF_zero d0 b0] at q0
    replace q0 := hide q0
    have hv : Hid (summandB p (d0, d1, nm, d3, d4) = false) := by show _ = _; rw [hval, b0]; rfl
    clear hval b0 s0 s1 t3 t4 l0 l1 htot
    go_enter Try.func111, Try.ntmps111
    go_wp2_with (first | (go_at_call 125; (with_reducible refine q0.out.mono ?_); rintro e w' ⟨rfl, rfl⟩))
    go_ret
    exact ⟨ret_b (by rw [hv.out]), rfl⟩

end Go.Proofs.Ytdjhpdmpibokhaa
