/-
  Conjunction: the program's and the reference's. Conditions: none but sizes.
-/
import Derived.Test.YtdjhpdmpibokhaaConj2
import Derived.Test.YtdjhpdmpibokhaaKindTT
import Derived.Test.YtdjhpdmpibokhaaResT
namespace Go.Proofs.Ytdjhpdmpibokhaa
open Go.ChangeShapes Go.WideShapes Go.ChangeAt Go.RowKit
set_option linter.unusedVariables false

def conjunctionF (L : DTT) : List (Int × Int) × Int :=
  if (L.any fun l => !(isTerms l 29 60)) = true then ([], 1) else if 60 < (conjF L).length then ([], 5) else (conjF L, 0)

theorem conjF_ge (L : DTT) (h : ∀ x ∈ L, 0 < x.length) : L.length ≤ (conjF L).length := by
  induction L with
  | nil => simp
  | cons x r ih =>
    have hx := h x (by simp)
    cases r with
    | nil => simp [conjF]; omega
    | cons y r =>
      have := ih fun z hz => h z (by simp at hz ⊢; right; exact hz)
      simp [conjF] at this ⊢
      omega

theorem conj1_calls (A : Option Addr) (n c : Nat) (l : List (Int × Int)) (W : World) (lo hi : Nat) (h : SlT W lo hi A n l) (hn : n ≤ 1048576) :
    Calls Try.prog 68 (#[.slice A n c] ++ #[]) W (Says (!(isTerms l 29 60)) W) := by
  have q := hide (termsOk_calls A n c l W lo hi h hn)
  clear h
  show Calls _ _ #[.slice A n c] W _
  go_enter Try.func68, Try.ntmps68
  go_wp2_with fail
  refine q.out.mono ?_
  rintro e w1 ⟨rfl, hb⟩
  go_wp2_with fail
  go_ret
  exact ⟨rfl, hb⟩

theorem RowsG.tt {most : Nat} {w : World} {lo hi n : Nat} {A : Option Addr} {R : List (Hd × List (Int × Int))} (h : RowsT 1048576 w lo hi A n R) : SlTT w lo hi A n R := ⟨h.outer, h.rows⟩

set_option maxRecDepth 100000 in
theorem implConjunction_u {v : Value} {d : DTT} {w : World} {lo hi : Nat} (h : FreshTT w lo hi v d) :
    Calls Try.prog 28 #[v] w fun e w' => ∃ r, e = .returned (.tuple #[r, .int .i64 (conjunctionF d).2]) ∧ ResT w' w.heap.size w'.heap.size r (conjunctionF d).1 ∧ Below w.heap.size w w' := by
  obtain ⟨A, n, R, rfl, hN, rfl, ht⟩ := h
  have htot := totTT_of hN.all
  have hn : n ≤ 1048576 := by omega
  have q1 := containsFuncTT_calls 68 #[] (fun l => !(isTerms l 29 60)) A n n R w lo hi (RowsG.tt (most := 0) hN.all) hn (fun _ _ => by kernel_rfl) (fun A' m d l W' _ hl hm => conj1_calls A' m d l W' lo hi hl hm)
  by_cases c1 : ((R.map (·.2)).any fun l => !(isTerms l 29 60)) = true
  · rw [c1] at q1
    have hv : Hid (conjunctionF (R.map (·.2)) = ([], 1)) := if_pos c1
    replace q1 := hide q1
    clear c1 hN htot ht
    go_enter Try.func28, Try.ntmps28
    go_wp2_with fail
    refine q1.out.mono ?_
    rintro e w1 ⟨rfl, hb⟩
    go_wp2_with fail
    go_ret2
    exact ⟨.slice none 0 0, by rw [hv.out]; rfl, ⟨none, 0, 0, rfl, by omega, by rw [hv.out]; exact Sl.nil_⟩, hb⟩
  · replace c1 := Bool.eq_false_iff.2 c1
    rw [c1] at q1
    replace q1 := hide q1
    have q2 := hide (fun W (hW : Below w.heap.size w W) => conjunction_calls n A n n R W lo hi (Nat.le_refl _) (hN.all.below hW (.inr (Nat.le_refl _))) hn (Nat.le_refl _))
    have hv : Hid (conjunctionF (R.map (·.2)) = if 60 < (conjF (R.map (·.2))).length then ([], 5) else (conjF (R.map (·.2)), 0)) := if_neg (by rw [c1]; decide)
    clear c1 hN htot ht
    go_enter Try.func28, Try.ntmps28
    go_wp2_with fail
    refine q1.out.mono ?_
    rintro e w1 ⟨rfl, hb⟩
    go_wp2_with fail
    refine (q2.out w1 hb).mono ?_
    rintro e w2 ⟨A1, m, c1, rfl, hs, hb2⟩
    have hz := hb.size
    have hl := hs.len
    by_cases c2 : 60 < m
    · have c3 : (60 : Int) < (m : Int) := by omega
      have hs := hide hs
      replace hl := hide hl
      replace hv := hv.out
      rw [if_pos (by rw [hl.out]; exact c2)] at hv
      replace hv := hide hv
      go_wp2_with fail
      go_ret2
      exact ⟨.slice none 0 0, by rw [hv.out]; rfl, ⟨none, 0, 0, rfl, by omega, by rw [hv.out]; exact Sl.nil_⟩, hb.trans (hb2.mono hz)⟩
    · have c3 : ¬ ((60 : Int) < (m : Int)) := by omega
      have hs := hide hs
      replace hl := hide hl
      replace hv := hv.out
      rw [if_neg (by rw [hl.out]; exact c2)] at hv
      replace hv := hide hv
      go_wp2_with fail
      go_ret2
      exact ⟨.slice A1 m c1, by rw [hv.out]; rfl, ⟨A1, m, c1, rfl, by omega, by rw [hv.out]; exact hs.out.more hz (Nat.le_refl _)⟩, hb.trans (hb2.mono hz)⟩

set_option maxHeartbeats 800000 in
set_option maxRecDepth 100000 in
theorem specConjunction_u {v : Value} {d : DTT} {w : World} {lo hi : Nat} (h : FreshTT w lo hi v d) :
    Calls Try.prog 26 #[v] w fun e w' => ∃ r, e = .returned (.tuple #[r, .int .i64 (conjunctionF d).2]) ∧ ResT w' w.heap.size w'.heap.size r (conjunctionF d).1 ∧ Below w.heap.size w w' := by
  obtain ⟨A, n, R, rfl, hN, rfl, ht⟩ := h
  have htot := totTT_of hN.all
  have hlen := hide hN.len
  have hn : n ≤ 1048576 := by omega
  have q2 := hide (l03All_calls A n n R w lo hi hN.all hn)
  have hN := hide hN
  clear htot ht
  go_enter Try.func26, Try.ntmps26
  go_wp2
  go_loop [4] (fun i => ∃ k : Nat, k ≤ n ∧ i = .int .i64 k ∧ ∀ l ∈ (R.map (·.2)).take k, isTerms l 29 60 = true) (fun i => n - (intOf i).toNat)
  case atStart => exact ⟨0, Nat.zero_le _, rfl, fun l hl => by simp at hl⟩
  case round =>
    obtain ⟨k, hk, rfl, hall⟩ := hrel
    replace hall := hide hall
    by_cases hlt : k < n
    · obtain ⟨b, off, Ah, nh, ch, s, rfl, g1, g2, g3, hx, c0, hs, hnh⟩ := hN.out.all.atT hlt
      have hx2 : (R.map (·.2))[k]? = some s := by rw [List.getElem?_map, hx]; rfl
      have q1 := l03Any_calls Ah nh ch s w lo hi hs hnh
      clear hs hx q2
      by_cases c1 : isTerms s 29 60 = true
      · rw [c1] at q1
        replace q1 := hide q1
        have hnext : Hid (∀ l ∈ (R.map (·.2)).take (k + 1), isTerms l 29 60 = true) := fun l hl => by
          rw [List.take_add_one, hx2] at hl
          rcases List.mem_append.1 hl with hl | hl
          · exact hall.out l hl
          · simp at hl; subst hl; exact c1
        clear c1 hx2
        go_wp2_with (go_at_call 56; (with_reducible refine q1.out.mono ?_); rintro e w1 ⟨rfl, rfl⟩)
        go_round
        case rel => exact ⟨k + 1, by omega, by go_num, hnext.out⟩
        case measure => simp [intOf]; omega
      · have hv : Hid (conjunctionF (R.map (·.2)) = ([], 1)) := if_pos (List.any_eq_true.2 ⟨s, List.mem_of_getElem? hx2, by rw [Bool.eq_false_iff.2 c1]; rfl⟩)
        replace c1 := Bool.eq_false_iff.2 c1
        rw [c1] at q1
        replace q1 := hide q1
        clear c1 hx2
        go_wp2_with (go_at_call 56; (with_reducible refine q1.out.mono ?_); rintro e w1 ⟨rfl, rfl⟩)
        go_ret2
        exact ⟨.slice none 0 0, by rw [hv.out]; rfl, ⟨none, 0, 0, rfl, by omega, by rw [hv.out]; exact Sl.nil_⟩, Below.refl _ _⟩
    · have hkn : k = n := by omega
      subst hkn
      have hL : (R.map (·.2)).length = k := by rw [List.length_map, hlen.out]
      have ha := hall.out
      rw [List.take_of_length_le (by omega)] at ha
      have hno : ¬ (((R.map (·.2)).any fun l => !(isTerms l 29 60)) = true) := by
        intro hc
        obtain ⟨l, hl, h2⟩ := List.any_eq_true.1 hc
        rw [ha l hl] at h2
        cases h2
      have hge := conjF_ge _ (fun l hl => isTerms_pos (ha l hl))
      rw [hL] at hge
      have hv : conjunctionF (R.map (·.2)) = if 60 < (conjF (R.map (·.2))).length then ([], 5) else (conjF (R.map (·.2)), 0) := if_neg hno
      clear ha hno hL hall
      by_cases c2 : 60 < k
      · have c3 : (60 : Int) < (k : Int) := by omega
        rw [if_pos (by omega)] at hv
        replace hv := hide hv
        go_wp2_with fail
        go_ret2
        exact ⟨.slice none 0 0, by rw [hv.out]; rfl, ⟨none, 0, 0, rfl, by omega, by rw [hv.out]; exact Sl.nil_⟩, Below.refl _ _⟩
      · have c3 : ¬ ((60 : Int) < (k : Int)) := by omega
        replace hv := hide hv
        go_wp2_with (go_at_call 66; (with_reducible refine q2.out.mono ?_); rintro e w2 ⟨A1, m, c1, rfl, hs, hb2⟩; have hl := hide hs.len; replace hs := hide hs)
        · have hv := hv.out
          rw [if_pos (by rw [hl.out]; omega)] at hv
          go_ret2
          exact ⟨.slice none 0 0, by rw [hv]; rfl, ⟨none, 0, 0, rfl, by omega, by rw [hv]; exact Sl.nil_⟩, hb2⟩
        · have hv := hv.out
          rw [if_neg (by rw [hl.out]; omega)] at hv
          go_ret2
          exact ⟨.slice A1 m c1, by rw [hv]; rfl, ⟨A1, m, c1, rfl, by omega, by rw [hv]; exact hs.out⟩, hb2⟩

end Go.Proofs.Ytdjhpdmpibokhaa
