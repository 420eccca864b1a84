/-
  Valid summands, by the program: all expressions, sums, names. Conditions: sizes.
-/
import Derived.Test.YtdjhpdmpibokhaaExprs
import Derived.Test.YtdjhpdmpibokhaaLinSpec2
namespace Go.Proofs.Ytdjhpdmpibokhaa
open Go.ChangeShapes Go.WideShapes Go.ChangeAt Go.RowKit
set_option linter.unusedVariables false

set_option maxHeartbeats 800000 in
theorem exprs_calls (v0 : Value) (nm : ByteArray) (A1 A3 A4 : Option Addr) (n1 k1 n3 k3 n4 k4 : Nat) (d1 : List (Int × Int)) (R3 R4 : List (Hd × List (Int × Int))) (w : World) (lo hi : Nat)
    (s1 : SlT w lo hi A1 n1 d1) (hn1 : n1 ≤ 1048576) (s3 : RowsT 1048576 w lo hi A3 n3 R3) (s4 : RowsT 1048576 w lo hi A4 n4 R4) (h3 : n3 ≤ 1000) (h4 : n4 ≤ 1000) :
    Calls Try.prog 116 #[.agg #[v0, .slice A1 n1 k1, .string nm, .slice A3 n3 k3, .slice A4 n4 k4]] w fun e w' => ∃ A' N c' R, e = .returned (.slice A' N c') ∧ N ≤ 1048576 ∧ SlTT w' 0 w'.heap.size A' N R ∧ R.map (·.2) = d1 :: (R3.map (·.2) ++ R4.map (·.2)) ∧ Below w.heap.size w w' := by
  have hW1 : Below w.heap.size w ((w.alloc (.cells #[v0, .slice A1 n1 k1, .string nm, .slice A3 n3 k3, .slice A4 n4 k4] 103)).alloc (.cells #[.slice A1 n1 k1] 25)) := ((Below.refl _ _).alloc (Nat.le_refl _) _).alloc (by simp only [World.size_alloc]; omega) _
  have l3 := s3.len
  have l4 := s4.len
  have f1 : Sl 1 sv ((w.alloc (.cells #[v0, .slice A1 n1 k1, .string nm, .slice A3 n3 k3, .slice A4 n4 k4] 103)).alloc (.cells #[.slice A1 n1 k1] 25)) 0 ((w.alloc (.cells #[v0, .slice A1 n1 k1, .string nm, .slice A3 n3 k3, .slice A4 n4 k4] 103)).alloc (.cells #[.slice A1 n1 k1] 25)).heap.size (some ⟨w.heap.size + 1, 0, none⟩) 1 [(A1, n1, k1)] := (Sl.lit1' (w.alloc (.cells #[v0, .slice A1 n1 k1, .string nm, .slice A3 n3 k3, .slice A4 n4 k4] 103)) 25 (A1, n1, k1) _ rfl 1 (w.heap.size + 1) (by rw [World.size_alloc])).top
  have f3 := ((s3.outer.below hW1 (.inr (Nat.le_refl _))).top).more (lo' := 0) (Nat.zero_le _) (Nat.le_refl _)
  have f4 := ((s4.outer.below hW1 (.inr (Nat.le_refl _))).top).more (lo' := 0) (Nat.zero_le _) (Nat.le_refl _)
  have hR := rowsS3 _ 0 (Nat.zero_le _) 39 (some ⟨w.heap.size + 1, 0, none⟩, 1, 1) (A3, n3, k3) (A4, n4, k4) _ _ _ 1000 f1 f3 f4 (by show 1 ≤ 1000; omega) h3 h4 (w.heap.size + 1 + 1) (by rw [World.size_alloc, World.size_alloc])
  have hpre : preG id [(((some ⟨w.heap.size + 1, 0, none⟩, 1, 1) : Hd), [((A1, n1, k1) : Hd)]), ((A3, n3, k3), R3.map (·.1)), ((A4, n4, k4), R4.map (·.1))] 3 = 1 + n3 + n4 := by simp [preG]; omega
  have q := concatTT_calls _ 3 3 _ _ _ _ _ hR (by omega) (by rw [hpre]; omega)
  rw [hpre] at q
  replace q := hide q
  have hb3 := hW1.alloc (Nat.le_trans hW1.size (Nat.le_refl _)) (.cells #[.slice (some ⟨w.heap.size + 1, 0, none⟩) 1 1, .slice A3 n3 k3, .slice A4 n4 k4] 39)
  replace hb3 := hide hb3
  replace s1 := hide s1
  replace s3 := hide s3
  replace s4 := hide s4
  clear hR f1 f3 f4 hW1 hpre
  go_enter Try.func116, Try.ntmps116
  go_wp2_with fail
  refine q.out.mono ?_
  rintro e w1 ⟨A', c', rfl, hS, hb⟩
  replace hS := hide hS
  go_wp2_with fail
  go_ret
  have hbl : Below w.heap.size w w1 := hb3.out.trans (hb.mono hb3.out.size)
  refine ⟨A', _, c', ((A1, n1, k1), d1) :: (R3 ++ R4), rfl, by omega, ⟨?_, fun r hr => ?_⟩, by simp, hbl⟩
  · have := hS.out.more (lo' := 0) (Nat.zero_le _) (Nat.le_refl _)
    simpa using this
  · rcases List.mem_cons.1 hr with rfl | hr
    · exact ⟨((s1.out.below hbl (.inr (Nat.le_refl _))).top).more (Nat.zero_le _) (Nat.le_refl _), hn1⟩
    · rcases List.mem_append.1 hr with hr | hr
      · exact ⟨(((s3.out.rows r hr).1.below hbl (.inr (Nat.le_refl _))).top).more (Nat.zero_le _) (Nat.le_refl _), (s3.out.rows r hr).2⟩
      · exact ⟨(((s4.out.rows r hr).1.below hbl (.inr (Nat.le_refl _))).top).more (Nat.zero_le _) (Nat.le_refl _), (s4.out.rows r hr).2⟩

theorem isAction_calls (s : ByteArray) (w : World) (hs : s.size ≤ maxLen) : Calls Try.prog 115 #[.string s] w fun e w' => e = .returned (.bool (actionB s)) ∧ w = w' := by
  have q := isName_calls s w hs
  by_cases h1 : nameB s = true
  · rw [h1] at q
    replace q := hide q
    have hv : Hid (actionB s = !(tauB s)) := by show _ = _; unfold actionB; rw [h1]; rfl
    clear h1
    cases h2 : tauB s with
    | true =>
      have t2 : s.toList = [116, 97, 117] := by simpa [tauB] using h2
      replace h2 := hide h2
      go_enter Try.func115, Try.ntmps115
      go_wp2_with (first | (go_at_call 128; (with_reducible refine q.out.mono ?_); rintro e w1 ⟨rfl, rfl⟩))
      go_ret
      exact ⟨ret_b (by rw [hv.out, h2.out]; rfl), rfl⟩
    | false =>
      have t2 : ¬ s.toList = [116, 97, 117] := by simpa [tauB] using h2
      replace h2 := hide h2
      go_enter Try.func115, Try.ntmps115
      go_wp2_with (first | (go_at_call 128; (with_reducible refine q.out.mono ?_); rintro e w1 ⟨rfl, rfl⟩))
      go_ret
      exact ⟨ret_b (by rw [hv.out, h2.out]; simp [t2]), rfl⟩
  · replace h1 := Bool.eq_false_iff.2 h1
    rw [h1] at q
    replace q := hide q
    have hv : Hid (actionB s = false) := by show _ = _; unfold actionB; rw [h1]; rfl
    clear h1
    go_enter Try.func115, Try.ntmps115
    go_wp2_with (first | (go_at_call 128; (with_reducible refine q.out.mono ?_); rintro e w1 ⟨rfl, rfl⟩))
    go_ret
    exact ⟨ret_b (by rw [hv.out]), rfl⟩

set_option maxHeartbeats 800000 in
set_option maxRecDepth 100000 in
theorem sumsOk_calls (A : Option Addr) (n c : Nat) (l : List Int) (v1 v3 v4 : Value) (nm : ByteArray) (w : World) (lo hi : Nat) (h : SlI w lo hi A n l) (hn : n ≤ 1048576) :
    Calls Try.prog 114 #[.agg #[.slice A n c, v1, .string nm, v3, v4]] w fun e w' => e = .returned (.bool (sumsB l)) ∧ Below w.heap.size w w' := by
  have hlen := hide h.len
  have hb0 : Below w.heap.size w (w.alloc (.cells #[.slice A n c, v1, .string nm, v3, v4] 103)) := (Below.refl _ _).alloc (Nat.le_refl _) _
  have q := fun x => within_calls x 1 7 (w.alloc (.cells #[.slice A n c, v1, .string nm, v3, v4] 103))
  replace h := hide (h.below hb0 (.inr (Nat.le_refl _)))
  go_enter Try.func114, Try.ntmps114
  go_wp2_with fail
  go_loop [3, 9] (fun s i => ∃ k : Nat, k ≤ n ∧ i = .int .i64 k ∧ ∃ p : Int, s = .int .i64 p ∧ Hid (k ≤ 8 → p = prodS (l.take k) ∧ 1 ≤ p ∧ p ≤ (8 ^ k : Nat)) ∧ Hid (∀ x ∈ l.take k, inB x 1 7 = true)) (fun _ i => n - (intOf i).toNat)
  case atStart => exact ⟨0, Nat.zero_le _, rfl, 1, rfl, fun _ => ⟨rfl, by omega, by simp⟩, fun x hx => by simp at hx⟩
  case round =>
    obtain ⟨k, hk, rfl, p, rfl, hp, ha⟩ := hrel
    by_cases hlt : k < n
    · obtain ⟨b, off, x, rfl, g1, g2, g3, hx, c0, -⟩ := SlI.get h.out hlt
      have qx := q x
      clear q
      by_cases hin : inB x 1 7 = true
      · have hx1 : 1 ≤ x ∧ x ≤ 7 := by simpa [inB] using hin
        have hxa := hx1.1
        have hxb := hx1.2
        rw [hin] at qx
        replace qx := hide qx
        have hnext : Hid (∀ y ∈ l.take (k + 1), inB y 1 7 = true) := fun y hy => by
          rw [List.take_add_one, hx] at hy
          rcases List.mem_append.1 hy with hy | hy
          · exact ha.out y hy
          · simp at hy; subst hy; exact hin
        have hps := prodS_succ hx
        have hpn : Hid (k + 1 ≤ 8 → wrap64 (p * (x + 1)) = prodS (l.take (k + 1)) ∧ 1 ≤ wrap64 (p * (x + 1)) ∧ wrap64 (p * (x + 1)) ≤ (8 ^ (k + 1) : Nat)) := fun h8 => by
          obtain ⟨e1, e2, e3⟩ := hp.out (by omega)
          have hbd := prod_bd e2 e3 hxa hxb
          have hp9 := pow8_le h8
          have hw : wrap64 (p * (x + 1)) = p * (x + 1) := by unfold wrap64; omega
          rw [hw, hps, ← e1]
          exact ⟨rfl, hbd.1, hbd.2⟩
        clear hx hin ha hx1 hp h hps
        go_wp2_with (go_at_call 52; (with_reducible refine qx.out.mono ?_); rintro e w1 ⟨rfl, rfl⟩)
        go_round
        case rel => exact ⟨k + 1, by omega, by go_num, _, rfl, hpn, hnext⟩
        case measure => simp [intOf]; omega
      · have hv : Hid (sumsB l = false) := by
          show _ = _
          unfold sumsB
          rw [Bool.and_eq_false_iff]
          left
          rw [← Bool.not_eq_true]
          intro hc
          exact hin (List.all_eq_true.1 hc x (List.mem_of_getElem? hx))
        replace hin := Bool.eq_false_iff.2 hin
        rw [hin] at qx
        replace qx := hide qx
        clear hx hin ha hp h
        go_wp2_with (go_at_call 52; (with_reducible refine qx.out.mono ?_); rintro e w1 ⟨rfl, rfl⟩)
        go_ret
        exact ⟨ret_b (by rw [hv.out]), hb0⟩
    · have hkn : k = n := by omega
      subst hkn
      have hall := ha.out
      rw [List.take_of_length_le (by rw [hlen.out]; exact Nat.le_refl _)] at hall
      have hfull : l.take k = l := List.take_of_length_le (by rw [hlen.out]; exact Nat.le_refl _)
      have hv : sumsB l = (decide (k ≤ 8) && decide (prodS l ≤ 4096)) := by unfold sumsB; rw [List.all_eq_true.2 hall, hlen.out]; rfl
      have hpp := hp.out
      rw [hfull] at hpp
      clear q ha hall hfull hp
      by_cases z8 : k ≤ 8
      · have z8i : (k : Int) ≤ 8 := by omega
        obtain ⟨e1, e2, e3⟩ := hpp z8
        subst e1
        generalize hP : prodS l = pl at *
        by_cases z9 : pl ≤ 4096
        · have hvv : Hid (sumsB l = true) := by show _ = _; rw [hv]; simp [z8, z9]
          clear hv h hP hlen
          go_wp2_with fail
          go_ret
          exact ⟨ret_b (by rw [hvv.out]), hb0⟩
        · have hvv : Hid (sumsB l = false) := by show _ = _; rw [hv]; simp [z9]
          clear hv h hP hlen
          go_wp2_with fail
          go_ret
          exact ⟨ret_b (by rw [hvv.out]), hb0⟩
      · have z8i : ¬ (k : Int) ≤ 8 := by omega
        have hvv : Hid (sumsB l = false) := by show _ = _; rw [hv]; simp [z8]
        clear hv h hlen hpp
        go_wp2_with fail
        go_ret
        exact ⟨ret_b (by rw [hvv.out]), hb0⟩

end Go.Proofs.Ytdjhpdmpibokhaa
