/-
  SimulationClasses by the reference. Conditions: sizes.
-/
import Derived.Test.YthlaoedpjloloaaGreatDoorClsI
import Derived.Test.YthlaoedpjloloaaGreatDoorLitU
namespace Go.Proofs.YthlaoedpjloloaaGreatDoor
open Go.ChangeShapes Go.WideShapes Go.ChangeAt Go.RowKit Go.Sort
set_option linter.unusedVariables false
set_option linter.unusedSimpArgs false

theorem clsE_nn {E : Nat → Nat → Bool} : ∀ {k : Nat} {x : Int}, x ∈ (clsE E k).1 → 0 ≤ x
  | 0, x, h => by cases h
  | k + 1, x, h => by
    unfold clsE at h
    split at h
    · rcases List.mem_append.1 h with h | h
      · exact clsE_nn h
      · rw [List.mem_singleton.1 h]
        rename_i j hfj _
        cases hg : (clsE E k).1[j]? with
        | none => exact Int.le_refl _
        | some y => exact clsE_nn (List.mem_of_getElem? hg)
    · rcases List.mem_append.1 h with h | h
      · exact clsE_nn h
      · rw [List.mem_singleton.1 h]; omega
theorem clsE_blk {E : Nat → Nat → Bool} : ∀ {k : Nat}, (clsE E k).2 ≤ k
  | 0 => Nat.le_refl _
  | k + 1 => by
    have := clsE_blk (E := E) (k := k)
    unfold clsE
    split
    · dsimp only; omega
    · dsimp only; omega
/-- The class of k while it is looked for. -/
def InnS (E : Nat → Nat → Bool) (l : List Int) (k j : Nat) (v : Int) : Prop := (v = -1 ∧ (List.range j).find? (E k) = none) ∨ ∃ i, (List.range j).find? (E k) = some i ∧ l[i]? = some v ∧ 0 ≤ v
theorem find_more {E : Nat → Nat → Bool} {k j i n : Nat} (h : (List.range j).find? (E k) = some i) (hj : j ≤ n) : (List.range n).find? (E k) = some i := by
  induction n with
  | zero =>
    obtain rfl : j = 0 := by omega
    exact h
  | succ n ih =>
    rcases Nat.lt_or_ge n j with h1 | h1
    · obtain rfl : j = n + 1 := by omega
      exact h
    · rw [List.range_succ, List.find?_append, ih h1]
      rfl
theorem find_next {E : Nat → Nat → Bool} {k j : Nat} (h : (List.range j).find? (E k) = none) : (List.range (j + 1)).find? (E k) = if E k j = true then some j else none := by
  rw [List.range_succ, List.find?_append, h]
  cases hE : E k j <;> simp [hE]

set_option maxRecDepth 100000 in
set_option maxHeartbeats 3200000 in
theorem l17Classes_calls (bt : Nat) (x : CL) (n : Nat) (ini : Int) (ls : List ByteArray) (es : List Ed) (w : World) (h : LtsAt w bt x ((n : Int), ini, ls, es)) (hval : ltsV ((n : Int), ini, ls, es) = true) :
    Calls Tryz.prog 63 #[.pointer (some ⟨bt, 0, none⟩)] w fun e w' => ∃ A c, e = .returned (.slice A n c) ∧ SlI w' w.heap.size w'.heap.size A n (clsE (mutE (selfR n es ls)) n).1 ∧ Below w.heap.size w w' := by
  have hq1 := hide (l17Greatest_calls bt bt x x n n ini ini ls ls es es 0 w h h hval hval)
  have hn40 := (lts_boundsB hval).1
  have hE := hide elem_int64
  clear h hval
  go_enter Tryz.func63, Tryz.ntmps63
  go_upto_region 2 with (first | (go_at_call 75; (with_reducible refine hq1.out.mono ?_); rintro e w1 ⟨bq, Aq, cq, Hq, rfl, hT, hM, -, hb1⟩; have x3 := hT.facts.2.2.2; replace hT := hide hT; replace hM := hide hM; replace hb1 := hide hb1))
  clear hq1 x3
  have hst : Hid (Own 1 iv (w1.alloc (.cells #[] 2)) w1.heap.size 2 (some ⟨w1.heap.size, 0, none⟩) 0 0 (clsE (mutE (selfR n es ls)) 0).1) := Own.made w1 _ (Nat.le_refl _)
  have hb2 := hide ((Below.refl w1.heap.size w1).alloc (Nat.le_refl _) (.cells #[] 2))
  go_upto_region 5 with fail
  generalize (w1.alloc (.cells #[] 2)) = W2 at *
  go_loopg [4, 5, 6] n (fun J p q i wr => ∃ (k c : Nat) (A : Option Addr), k ≤ n ∧ p = .slice A k c ∧ q = .int .i64 ((clsE (mutE (selfR n es ls)) k).2 : Int) ∧ i = .int .i64 (k : Nat) ∧ Hid (Own 1 iv wr w1.heap.size 2 A k c (clsE (mutE (selfR n es ls)) k).1) ∧ Hid (Below w1.heap.size w1 wr) ∧ Hid (n - k ≤ J))
  case atStart => exact ⟨0, 0, _, Nat.zero_le _, rfl, rfl, rfl, hst, hb2, by show _ ≤ _; omega⟩
  case round =>
    clear hst hb2
    obtain ⟨k, c, A, hk, rfl, rfl, rfl, hown, hbr, hJ⟩ := hrel
    have hbk := clsE_blk (E := mutE (selfR n es ls)) (k := k)
    by_cases hlt : k < n
    · obtain ⟨J2, rfl⟩ : ∃ J2, gk = J2 + 1 := ⟨gk - 1, by have := hJ.out; omega⟩
      have hJ2 : Hid (n - (k + 1) ≤ J2) := by have := hJ.out; show _ ≤ _; omega
      have hX0 : (0 : Int) ≤ (k : Int) := by omega
      have hX1 : (k : Int) < (n : Int) := by omega
      have hT9 := hide (hT.out.below hbr.out)
      have hi0 : Hid (InnS (mutE (selfR n es ls)) (clsE (mutE (selfR n es ls)) k).1 k 0 (-1)) := .inl ⟨rfl, rfl⟩
      have hsl := hide (hown.out.sl flat_iv)
      have hza : ∀ o, w1.heap.size ≤ (wr.alloc o).heap.size := fun o => by rw [World.size_alloc]; have := hbr.out.size; omega
      generalize hbn : (clsE (mutE (selfR n es ls)) k).2 = bn at *
      replace hbn := hide hbn
      go_upto_region 9 with fail
      go_loop [7, 8] (fun p q => ∃ (j : Nat) (v : Int), j ≤ k ∧ p = .int .i64 v ∧ q = .int .i64 (j : Nat) ∧ Hid (InnS (mutE (selfR n es ls)) (clsE (mutE (selfR n es ls)) k).1 k j v)) (fun p q => k - (intOf q).toNat)
      case atStart => exact ⟨0, -1, Nat.zero_le _, rfl, rfl, hi0⟩
      case round =>
        clear hi0
        obtain ⟨j, v, hj, rfl, rfl, hi⟩ := hrel
        rcases hi.out with ⟨rfl, hno⟩ | ⟨i, hfi, hv, hv0⟩
        · by_cases hjl : j < k
          · have hY0 : (0 : Int) ≤ (j : Int) := by omega
            have hY1 : (j : Int) < (k : Int) := by omega
            have hY2 : (j : Int) < (n : Int) := by omega
            obtain ⟨b3, o3, b4, o4, c4, r1, rfl, -, -, -, q0, q1, hr1⟩ := hT9.out.rows.get hM.out hlt (show j < n by omega)
            obtain ⟨b5, o5, b6, o6, c6, r2, e7, -, -, -, q2, q3, hr2⟩ := hT9.out.rows.get hM.out (show j < n by omega) hlt
            injection e7 with e7
            injection e7 with e7 e6
            subst e7 e6
            have hEk : mutE (selfR n es ls) k j = (r1 && r2) := by
              classical
              unfold mutE
              congr 1
              · cases r1 with | true => exact decide_eq_true (hr1.1 rfl) | false => exact decide_eq_false fun h => by have := hr1.2 h; cases this
              · cases r2 with | true => exact decide_eq_true (hr2.1 rfl) | false => exact decide_eq_false fun h => by have := hr2.2 h; cases this
            have hnx := find_next hno
            rw [hEk] at hnx
            clear hr1 hr2 hEk hno hi
            cases r1 with
            | true =>
              cases r2 with
              | true =>
                obtain ⟨b8, o8, y, rfl, -, -, -, hy, p0, -⟩ := SlI.get hsl.out hjl
                have hi2 : Hid (InnS (mutE (selfR n es ls)) (clsE (mutE (selfR n es ls)) k).1 k (j + 1) y) := .inr ⟨j, hnx, hy, clsE_nn (List.mem_of_getElem? hy)⟩
                clear hnx hy
                go_wp2_with fail
                go_round
                case rel => exact ⟨j + 1, y, by omega, rfl, by go_num, hi2⟩
                case measure => simp [intOf]; omega
              | false =>
                have hi2 : Hid (InnS (mutE (selfR n es ls)) (clsE (mutE (selfR n es ls)) k).1 k (j + 1) (-1)) := .inl ⟨rfl, hnx⟩
                clear hnx
                go_wp2_with fail
                go_round
                case rel => exact ⟨j + 1, -1, by omega, rfl, by go_num, hi2⟩
                case measure => simp [intOf]; omega
            | false =>
              have hi2 : Hid (InnS (mutE (selfR n es ls)) (clsE (mutE (selfR n es ls)) k).1 k (j + 1) (-1)) := .inl ⟨rfl, hnx⟩
              clear hnx
              go_wp2_with fail
              go_round
              case rel => exact ⟨j + 1, -1, by omega, rfl, by go_num, hi2⟩
              case measure => simp [intOf]; omega
          · have hjk : j = k := by omega
            subst hjk
            have hc : clsE (mutE (selfR n es ls)) (j + 1) = ((clsE (mutE (selfR n es ls)) j).1 ++ [(bn : Int)], bn + 1) := by rw [← hbn.out]; conv => lhs; unfold clsE; rw [hno]
            have h1 : Hid ((clsE (mutE (selfR n es ls)) (j + 1)).1 = (clsE (mutE (selfR n es ls)) j).1 ++ [(bn : Int)]) := by show _ = _; rw [hc]
            have h2 : Hid ((clsE (mutE (selfR n es ls)) (j + 1)).2 = bn + 1) := by show _ = _; rw [hc]
            clear hc hno hi
            go_wp2_with (first | (at_builtin; (with_reducible refine wpList_app rfl (.tmp 56) (.tmp 58) rfl hE.out flat_iv rfl (hown.out.alloc _) rfl (Sl.lit1' wr 2 (bn : Int) _ rfl 1 _ ?c0) ?c1 (hza _) ?_); rotate_right; intro A7 c7 w7 hown7 hgr7 hb7 _))
            case c0 => rfl
            case c1 => omega
            have hb8 := hide ((hbr.out.alloc hbr.out.size (.cells #[.int .i64 (bn : Int)] 2)).trans hb7)
            replace hown7 : Hid (Own 1 iv w7 w1.heap.size 2 A7 (j + 1) c7 (clsE (mutE (selfR n es ls)) (j + 1)).1) := by show Own _ _ _ _ _ _ _ _ _; rw [h1.out]; exact hown7
            clear hgr7 hb7
            go_roundg J2
            case measure => omega
            case rel => exact ⟨j + 1, c7, A7, by omega, rfl, by rw [h2.out]; go_num, by go_num, hown7, hb8, hJ2⟩
        · have hc : clsE (mutE (selfR n es ls)) (k + 1) = ((clsE (mutE (selfR n es ls)) k).1 ++ [v], bn) := by
            have h9 := find_more hfi hj
            rw [← hbn.out]
            conv => lhs; unfold clsE; rw [h9]
            dsimp only
            rw [hv]
            rfl
          have h1 : Hid ((clsE (mutE (selfR n es ls)) (k + 1)).1 = (clsE (mutE (selfR n es ls)) k).1 ++ [v]) := by show _ = _; rw [hc]
          have h2 : Hid ((clsE (mutE (selfR n es ls)) (k + 1)).2 = bn) := by show _ = _; rw [hc]
          have hvn : ¬ v < 0 := by omega
          clear hc hfi hv hi
          have key : (j : Int) < (k : Int) ∨ ¬ (j : Int) < (k : Int) := Decidable.em _
          rcases key with hjk | hjk
          all_goals
            go_wp2_with (first | (at_builtin; (with_reducible refine wpList_app rfl (.tmp 56) (.tmp 58) rfl hE.out flat_iv rfl (hown.out.alloc _) rfl (Sl.lit1' wr 2 v _ rfl 1 _ ?c0) ?c1 (hza _) ?_); rotate_right; intro A7 c7 w7 hown7 hgr7 hb7 _))
            case c0 => rfl
            case c1 => omega
            have hb8 := hide ((hbr.out.alloc hbr.out.size (.cells #[.int .i64 v] 2)).trans hb7)
            replace hown7 : Hid (Own 1 iv w7 w1.heap.size 2 A7 (k + 1) c7 (clsE (mutE (selfR n es ls)) (k + 1)).1) := by show Own _ _ _ _ _ _ _ _ _; rw [h1.out]; exact hown7
            clear hgr7 hb7
            go_roundg J2
            case measure => omega
            case rel => exact ⟨k + 1, c7, A7, by omega, rfl, by rw [h2.out], by go_num, hown7, hb8, hJ2⟩
    · have hkn : k = n := by omega
      subst hkn
      have hres := hown.out.sl flat_iv
      have hb1' := hb1.out
      have hres2 := hide (hres.more hb1'.size (Nat.le_refl _))
      have hbw := hide (hb1'.trans (hbr.out.mono hb1'.size))
      clear hown hres hbk
      go_wp2_with fail
      go_ret
      exact ⟨A, c, rfl, hres2.out, hbw.out⟩

set_option maxRecDepth 100000 in
set_option maxHeartbeats 1600000 in
theorem specSimulationClasses_u {v : Value} {d : DL} {w : World} {lo hi : Nat} (he : Env w) (h : FreshL w lo hi v d) (hh : hi ≤ w.heap.size) :
    Calls Tryz.prog 33 #[v] w fun e w' => ∃ u, e = .returned (.tuple #[u, .int .i64 (clsF d).2]) ∧ ResI w' w.heap.size w'.heap.size u (clsF d).1 ∧ Below w.heap.size w w' := by
  obtain ⟨⟨⟨s0, s1, v2, v3⟩, rfl, hL⟩, ht⟩ := h
  obtain ⟨st, ini, ls, es⟩ := d
  have hAt := LtsAt.box hL hh ht
  have hb0 : Below w.heap.size w (w.alloc (.cells #[.int .i64 s0, .int .i64 s1, v2, v3] 31)) := (Below.refl _ _).alloc (Nat.le_refl _) _
  have hzs := hb0.size
  replace hb0 := hide hb0
  clear hL he
  go_enter Tryz.func33, Tryz.ntmps33
  go_upto_region 1 with fail
  generalize (w.alloc (.cells #[.int .i64 s0, .int .i64 s1, v2, v3] 31)) = W0 at *
  have q1 := l11Is_calls w.heap.size _ (st, ini, ls, es) W0 hAt
  cases hv : ltsV (st, ini, ls, es) with
  | false =>
    rw [hv] at q1
    replace q1 := hide q1
    have hval : Hid (clsF (st, ini, ls, es) = ([], 1)) := by show _ = _; unfold clsF; rw [hv]; rfl
    clear hv hAt
    go_wp2_with (first | (go_at_call 57; (with_reducible refine q1.out.mono ?_); rintro e w5 ⟨rfl, hb5⟩; replace hb5 := hide hb5))
    go_ret2
    exact ⟨.slice none 0 0, by rw [hval.out]; rfl, by rw [hval.out]; exact ⟨none, 0, 0, rfl, by omega, Sl.nil_⟩, hb0.out.trans (hb5.out.mono hzs)⟩
  | true =>
    rw [hv] at q1
    replace q1 := hide q1
    have hb40 := (lts_boundsB hv).1
    obtain ⟨n, rfl⟩ : ∃ n : Nat, st = (n : Int) := ⟨st.toNat, by omega⟩
    have hn40 : n ≤ 40 := by omega
    have hval : Hid (clsF ((n : Int), ini, ls, es) = ((clsE (mutE (selfR n es ls)) n).1, 0)) := by show _ = _; unfold clsF; rw [if_pos hv]; simp only [Int.toNat_natCast]
    have q2 := hide fun (W : World) (hW : Below W0.heap.size W0 W) => l17Classes_calls w.heap.size _ n ini ls es W (hAt.below hW (Nat.le_refl _)) hv
    clear hv hAt hb40
    go_wp2_with (first | (go_at_call 57; (with_reducible refine q1.out.mono ?_); rintro e w5 ⟨rfl, hb5⟩; have q3 := hide (q2.out w5 hb5); replace hb5 := hide hb5; clear q1) | (go_at_call 63; (with_reducible refine q3.out.mono ?_); rintro e w6 ⟨A6, c6, rfl, hs6, hb6⟩; replace hs6 := hide hs6; replace hb6 := hide hb6))
    go_ret2
    have hbw := hb0.out.trans (hb5.out.mono hzs)
    exact ⟨.slice A6 n c6, by rw [hval.out]; rfl, by rw [hval.out]; exact ⟨A6, n, c6, rfl, by omega, hs6.out.more hbw.size (Nat.le_refl _)⟩, hbw.trans (hb6.out.mono hbw.size)⟩

end Go.Proofs.YthlaoedpjloloaaGreatDoor
