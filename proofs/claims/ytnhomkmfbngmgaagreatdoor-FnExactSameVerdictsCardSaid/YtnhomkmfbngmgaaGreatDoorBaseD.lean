/-
  Several texts in one:
  The reference's test of a label. Conditions: sizes.
  slices.IndexFunc and slices.ContainsFunc at whatever function value that answers a bool and changes nothing that was there. Conditions: at most 1048576 elements.
  The program's reading of lists of numbers, joining, tests of values. Conditions: sizes.
  The program's reading of a label. Conditions: sizes.
  The program's test of a label, and its name. Conditions: sizes.
  The reference's tests of labels' lists. Conditions: sizes.
  The reference's tests of systems. Conditions: sizes.
  The reference's test of a system, whole. Conditions: sizes.
  The reference's tests of determinism and of monitors' parts. Conditions: sizes.
-/
import Derived.Test.YtnhomkmfbngmgaaGreatDoorBaseA
import Derived.Test.YtnhomkmfbngmgaaGreatDoorBaseB
import Derived.Test.YtnhomkmfbngmgaaGreatDoorBaseC
import Derived.Test.YtnhomkmfbngmgaaGreatDoorRows
import Derived.LoopTactic
import Derived.Lib.ItoaLen
import Derived.Lib.QuietBelow
import Derived.BigQuiet
import Derived.Laws.Cover1
import Derived.IntWalk
set_option linter.unusedSimpArgs false
set_option linter.unusedVariables false
namespace Go.Proofs.YtnhomkmfbngmgaaGreatDoor
open Go.ChangeShapes Go.WideShapes Go.ChangeAt Go.RowKit
set_option linter.unusedVariables false

theorem run_sub (s : ByteArray) (a b : Nat) (h1 : a ≤ b) (h2 : b ≤ s.size) (W : World) :
    (Instr.slice 9 (.string s) (some (.int .i64 (a : Int))) (some (.int .i64 (b : Int))) none).run Tryz.prog W = .ok (.string (s.extract a b)) W := by
  have e1 : (a : Int) ≤ (b : Int) := by omega
  have e2 : (b : Int) ≤ (s.size : Int) := by omega
  simp [Instr.slice, run_underlying Tryz.underlying9, Instr.sliceBounds, run_sliceBound, e1, e2]

def nameL (l : List UInt8) : Bool := nameB (mkB l)
/-- Labels, by the reference. -/
def labS (s : ByteArray) : Bool := (valsS nameL s.data.toList).isSome
theorem nameL_data (s : ByteArray) : nameL s.data.toList = nameB s := by unfold nameL mkB; rw [bytes_eta]
def actB (s : ByteArray) : Bool := nameB s && !(decide (s = tauB))
theorem mkB_inj {a b : List UInt8} (h : mkB a = mkB b) : a = b := by
  have := congrArg (fun s : ByteArray => s.data.toList) h
  simpa [mkB] using this
theorem tau_list : tauB.toList = [116, 97, 117] := ByteArray.toList_mk _
theorem tau_ne {s : ByteArray} (h : s ≠ tauB) : (s.toList == [116, 97, 117]) = false := by rw [← tau_list]; exact str_neq h

theorem l01Action_calls (s : ByteArray) (w : World) (hs : s.size ≤ 1048576) : Calls Tryz.prog 380 #[.string s] w fun e w' => e = .returned (.bool (actB s)) ∧ w = w' := by
  have q := l01Name_calls s w (by unfold maxLen; omega)
  by_cases hn : nameB s = true
  · rw [hn] at q
    replace q := hide q
    by_cases ht : s = tauB
    · have hv : Hid (actB s = false) := by show _ = _; unfold actB; simp [ht]
      subst ht
      clear hn
      go_enter Tryz.func380, Tryz.ntmps380
      go_wp2_with (first | (go_at_call 379; (with_reducible refine q.out.mono ?_); rintro e w1 ⟨rfl, rfl⟩))
      go_ret
      exact ⟨ret_b (by rw [hv.out, tau_list]; rfl), rfl⟩
    · have hv : Hid (actB s = true) := by show _ = _; unfold actB; simp [ht, hn]
      have hne := tau_ne ht
      clear hn ht
      go_enter Tryz.func380, Tryz.ntmps380
      go_wp2_with (first | (go_at_call 379; (with_reducible refine q.out.mono ?_); rintro e w1 ⟨rfl, rfl⟩))
      go_ret
      exact ⟨ret_b (by rw [hv.out]), rfl⟩
  · replace hn := Bool.eq_false_iff.2 hn
    have hv : Hid (actB s = false) := by show _ = _; unfold actB; rw [hn]; rfl
    rw [hn] at q
    replace q := hide q
    clear hn
    go_enter Tryz.func380, Tryz.ntmps380
    go_wp2_with (first | (go_at_call 379; (with_reducible refine q.out.mono ?_); rintro e w1 ⟨rfl, rfl⟩))
    go_ret
    exact ⟨ret_b (by rw [hv.out]), rfl⟩

theorem numsOf_none {f : List UInt8 → Option Int} : ∀ {l : List (List UInt8)} {k : Nat} {x : List UInt8}, l[k]? = some x → f x = none → numsOf f l = none
  | [], k, x, h, _ => by simp at h
  | y :: l, 0, x, h, hf => by
    simp at h
    subst h
    unfold numsOf
    rw [hf]
  | y :: l, k + 1, x, h, hf => by
    unfold numsOf
    rw [numsOf_none (l := l) (k := k) (by simpa using h) hf]
    split
    · rename_i h1; cases h1
    · rfl
theorem numsOf_some {f : List UInt8 → Option Int} : ∀ {l : List (List UInt8)}, (∀ (k : Nat) x, l[k]? = some x → (f x).isSome = true) → (numsOf f l).isSome = true
  | [], _ => rfl
  | y :: l, h => by
    have h1 := h 0 y rfl
    have h2 := numsOf_some (l := l) (f := f) (fun k x hx => h (k + 1) x (by simpa using hx))
    unfold numsOf
    cases hy : f y with
    | none => rw [hy] at h1; cases h1
    | some n =>
      cases hl : numsOf f l with
      | none => rw [hl] at h2; cases h2
      | some ns => rfl
theorem numV_in {l : List UInt8} {v : Int} (h : numS l = some v) : (numV l).isSome = inB v 0 63 := by
  unfold numV
  rw [h]
  have : isVal v = inB v 0 63 := rfl
  rw [← this]
  cases hv : isVal v <;> simp [Option.filter, hv]
theorem splitC_mem_len (c : UInt8) : ∀ (l x : List UInt8), x ∈ splitC c l → x.length ≤ l.length
  | [], x, h => by simp [splitC] at h; subst h; simp
  | y :: l, x, h => by
    have ih := splitC_mem_len c l
    by_cases hy : y = c
    · subst hy
      rw [splitC_ceq, List.mem_cons] at h
      rcases h with rfl | h
      · simp
      · have := ih x h
        simp only [List.length_cons]
        omega
    · rw [splitC_cne hy, List.mem_cons] at h
      obtain ⟨p, ps, hp⟩ := List.exists_cons_of_ne_nil (splitC_ne c l)
      rw [hp] at h ih
      simp only [List.headD_cons, List.tail_cons] at h
      rcases h with rfl | h
      · have := ih p (by simp)
        simp only [List.length_cons]
        omega
      · have := ih x (List.mem_cons_of_mem _ h)
        simp only [List.length_cons]
        omega
theorem elem_int : Elem Tryz.prog 32 2 1 8 := Elem.of Tryz.underlying32 info_int64 rfl (by decide) (by decide)

/-- What the tests of a label with a bracket see. -/
theorem open_hit {s : ByteArray} {a b : List UInt8} (h : s.data.toList = a ++ 40 :: b) (hn : (40 : UInt8) ∉ a) : openN s = a.length := by
  unfold openN
  rw [h]
  refine takeWhile_hit (fun j x hj hx => ?_) (by rw [List.getElem?_append_right (Nat.le_refl _)]; simp)
  rw [List.getElem?_append_left hj] at hx
  rintro rfl
  exact hn (List.mem_of_getElem? hx)
theorem open_miss {s : ByteArray} (hn : (40 : UInt8) ∉ s.data.toList) : openN s = s.size := by
  unfold openN
  rw [takeWhile_all (fun j x hx => by rintro rfl; exact hn (List.mem_of_getElem? hx)), bsize]
theorem labS_miss {s : ByteArray} (hn : (40 : UInt8) ∉ s.data.toList) : labS s = nameB s := by
  unfold labS valsS
  rw [if_pos hn, nameL_data]
  cases nameB s <;> rfl
theorem labS_hit {s : ByteArray} {a b : List UInt8} (h : s.data.toList = a ++ 40 :: b) (hn : (40 : UInt8) ∉ a) :
    labS s = ((actB (mkB a) && ((40 :: b).getLast? == some 41)) && ((numsOf numV (splitC 44 b.dropLast)).filter (fun ns => decide (ns.length ≤ 2))).isSome) := by
  unfold labS valsS labName
  rw [h, if_neg (by simp), cut_hit hn]
  have hlast : (a ++ 40 :: b).getLast? = (40 :: b).getLast? := by
    rw [List.getLast?_append]
    cases hh : (40 :: b).getLast? with
    | none => exact absurd (List.getLast?_eq_none_iff.1 hh) (by simp)
    | some x => rfl
  rw [hlast]
  have hact : (nameL a && !(a == tauL)) = actB (mkB a) := by
    unfold actB nameL
    congr 2
    by_cases h : a = tauL
    · subst h
      rw [decide_eq_true (show mkB tauL = tauB from rfl)]
      simp
    · have h2 : ¬ mkB a = tauB := fun e => h (mkB_inj e)
      rw [decide_eq_false h2, beq_eq_false_iff_ne]
      exact h
  simp only [hact]
  cases hc : (actB (mkB a) && ((40 :: b).getLast? == some 41)) <;> simp
theorem last_at {s : ByteArray} {a b : List UInt8} {z : Nat} (h : s.data.toList = a ++ 40 :: b) (hz : s.size = z + 1) (hlt : z < s.size) : (40 :: b).getLast? = some s[z] := by
  have h1 := bget s z hlt
  have hl : z + 1 = a.length + (b.length + 1) := by
    have := congrArg List.length h
    rw [bsize, List.length_append, List.length_cons] at this
    omega
  rw [h, List.getElem?_append_right (by omega)] at h1
  rw [List.getLast?_eq_getElem?, ← h1]
  congr 1
  simp only [List.length_cons]
  omega
theorem mid_at {s : ByteArray} {a b : List UInt8} {z : Nat} (h : s.data.toList = a ++ 40 :: b) (hz : s.size = z + 1) : s.extract (a.length + 1) z = mkB b.dropLast ∧ s.extract 0 a.length = mkB a := by
  have hl : z + 1 = a.length + (b.length + 1) := by
    have := congrArg List.length h
    rw [bsize, List.length_append, List.length_cons] at this
    omega
  refine ⟨?_, ?_⟩
  · rw [extract_mk, h]
    congr 1
    have e1 : (a ++ 40 :: b).drop (a.length + 1) = b := by
      rw [show a.length + 1 = (a ++ [40]).length by simp, show a ++ 40 :: b = (a ++ [40]) ++ b by simp, List.drop_left]
    rw [e1, List.dropLast_eq_take]
    congr 1
    omega
  · rw [extract_mk, h, List.drop_zero, Nat.sub_zero, List.take_left]

set_option maxHeartbeats 1600000 in
set_option maxRecDepth 100000 in
theorem l01Values_calls (s : ByteArray) (w : World) (hs : s.size ≤ 1048576) : Calls Tryz.prog 353 #[.string s] w fun e w' => ∃ A n c, e = .returned (.tuple #[.slice A n c, .bool (labS s)]) ∧ Below w.heap.size w w' := by
  have q0 := l01Open_calls s w hs
  by_cases hm : (40 : UInt8) ∈ s.data.toList
  · obtain ⟨a, b, hl, hn⟩ := split_at 40 _ hm
    obtain ⟨z, hz⟩ : ∃ z, s.size = z + 1 := ⟨s.size - 1, by have := congrArg List.length hl; rw [bsize, List.length_append, List.length_cons] at this; omega⟩
    have hzlt : z < s.size := by omega
    have hlen : s.size = a.length + (b.length + 1) := by
      have := congrArg List.length hl
      rw [bsize, List.length_append, List.length_cons] at this
      exact this
    have hlast := last_at hl hz hzlt
    obtain ⟨hmid, hfront⟩ := mid_at hl hz
    have hlab := labS_hit hl hn
    rw [hlast] at hlab
    rw [open_hit hl hn] at q0
    have q1 : ∀ W, Calls Tryz.prog 380 #[.string (s.extract 0 a.length)] W (fun e w' => e = .returned (.bool (actB (mkB a))) ∧ W = w') := fun W => by
      have := l01Action_calls (s.extract 0 a.length) W (by rw [hfront, mkB_size]; omega)
      rw [show actB (s.extract 0 a.length) = actB (mkB a) from by rw [hfront]] at this
      exact this
    have q2 : ∀ W, Calls Tryz.prog 381 #[.string (s.extract (a.length + 1) z), .int .u8 44] W (fun e w' => ∃ A n c, e = .returned (.slice A n c) ∧ n ≤ 1048577 ∧ SlS w' W.heap.size w'.heap.size A n ((splitC 44 b.dropLast).map mkB) ∧ Below W.heap.size W w') := fun W => by
      have := l01Split_calls (s.extract (a.length + 1) z) W (by rw [hmid, mkB_size, List.length_dropLast]; omega)
      rw [show piecesB 44 (s.extract (a.length + 1) z) = (splitC 44 b.dropLast).map mkB from by rw [hmid]; rfl] at this
      exact this
    have hmI : (a.length : Int) ≤ (s.size : Int) := by omega
    have hm0 : ((a.length : Int) == (s.size : Int)) = false := by rw [beq_eq_false_iff_ne]; omega
    have hzI : (s.size : Int) - 1 = (z : Int) := by omega
    have hamz : (a.length : Int) + 1 ≤ (z : Int) ∨ s[z] ≠ 41 := by
      rcases Nat.lt_or_ge a.length z with h1 | h1
      · exact .inl (by omega)
      · right
        have : a.length = z := by omega
        intro h2
        rw [h2] at hlast
        have hb : b = [] := List.eq_nil_of_length_eq_zero (by omega)
        rw [hb] at hlast
        simp at hlast
    have hplen := splitC_len 44 b.dropLast
    have hbl : b.length ≤ 1048576 := by omega
    rw [List.length_dropLast] at hplen
    replace q0 := hide q0
    replace q1 := hide q1
    replace q2 := hide q2
    replace hlab := hide hlab
    generalize hmm : a.length = m at *
    have hmz : m < s.size := by omega
    clear hm hl hlast hmid hfront hlen
    cases hact : actB (mkB a) with
    | false =>
      have hv : Hid (labS s = false) := by show _ = _; rw [hlab.out, hact]; rfl
      rw [hact] at q1
      clear hlab hact
      go_enter Tryz.func353, Tryz.ntmps353
      go_wp2_with (first | (go_at_call 363; (with_reducible refine q0.out.mono ?_); rintro e w1 ⟨rfl, rfl⟩) | (go_at_call 380; (with_reducible refine (q1.out _).mono ?_); rintro e w' ⟨rfl, rfl⟩))
      go_ret2
      exact ⟨none, 0, 0, by rw [hv.out]; rfl, Below.refl _ _⟩
    | true =>
      rw [hact] at q1
      have hE := hide elem_int
      by_cases h41 : s[z] = 41
      · have hv : Hid (labS s = ((numsOf numV (splitC 44 b.dropLast)).filter (fun ns => decide (ns.length ≤ 2))).isSome) := by
          show _ = _
          rw [hlab.out, hact, h41]
          rfl
        have hamI : (m : Int) + 1 ≤ (z : Int) := hamz.resolve_right (fun h => h h41)
        have hc : ∀ h : z < s.size, (s[z].toNat : Int) = 41 := fun _ => by rw [h41]; rfl
        have hsub : ∀ W, (Instr.slice 9 (.string s) (some (.int .i64 ((m : Int) + 1))) (some (.int .i64 (z : Int))) none).run Tryz.prog W = .ok (.string (s.extract (m + 1) z)) W := fun W => by
          have := run_sub s (m + 1) z (by omega) (by omega) W
          simpa using this
        clear hlab hact hamz h41 hz
        have hPs : Hid (∀ x ∈ splitC 44 b.dropLast, (mkB x).size ≤ 1048576) := fun x hx => by
          rw [mkB_size]
          have := splitC_mem_len 44 b.dropLast x hx
          rw [List.length_dropLast] at this
          omega
        generalize splitC 44 b.dropLast = P at *
        go_enter Tryz.func353, Tryz.ntmps353
        go_wp2_with (first | (go_at_call 363; (with_reducible refine q0.out.mono ?_); rintro e w1 ⟨rfl, rfl⟩) | (go_at_call 380; (with_reducible refine (q1.out _).mono ?_); rintro e w' ⟨rfl, rfl⟩) | fail)
        refine (q2.out _).mono ?_
        rintro e w2 ⟨A, n, c, rfl, hn1, hsl, hb2⟩
        have hPn : P.length = n := by have := hsl.len; rwa [List.length_map] at this
        replace hsl := hide hsl
        replace hPn := hide hPn
        have hzb := hb2.size
        go_wp2_with fail
        go_loopw [6, 7] (fun o i wr => ∃ (k : Nat) (A5 : Option Addr) (c5 : Nat) (L : List Int), k ≤ n ∧ o = .slice A5 k c5 ∧ i = .int .i64 (k : Nat) ∧ Hid (Own 1 iv wr w2.heap.size 2 A5 k c5 L) ∧ Hid (∀ j x, j < k → P[j]? = some x → (numV x).isSome = true) ∧ Below w2.heap.size w2 wr) (fun _ i _ => n - (intOf i).toNat)
        case atStart => exact ⟨0, _, _, [], Nat.zero_le _, rfl, rfl, Own.made w2 2 (Nat.le_refl _), fun j x h => absurd h (by omega), (Below.refl _ _).alloc (Nat.le_refl _) _⟩
        case round =>
          obtain ⟨k, A5, c5, L, hk, rfl, rfl, hown, hall, hb⟩ := hrel
          have hz2 := hb.size
          have hza : ∀ o, w2.heap.size ≤ (wr.alloc o).heap.size := fun o => by rw [World.size_alloc]; omega
          by_cases hlt : k < n
          · obtain ⟨bb, off, y, rfl, g1, g2, g3, hy, cc0, -⟩ := SlS.get hsl.out hlt
            replace cc0 := (hb.cell (p := ⟨bb, off + k, none⟩) g3).trans cc0
            rw [List.getElem?_map] at hy
            obtain ⟨x, hx, rfl⟩ := Option.map_eq_some_iff.1 hy
            have hxs : (mkB x).size ≤ 1048576 := by
              have h1 : x ∈ P := List.mem_of_getElem? hx
              exact hPs.out x h1
            have q3 := fun W => l01Number_calls (mkB x) W hxs
            rw [mkB_data] at q3
            cases hnx : numS x with
            | none =>
              have hv2 : Hid (labS s = false) := by
                show _ = _
                rw [hv.out, numsOf_none hx (by unfold numV; rw [hnx]; rfl)]
                rfl
              simp only [hnx] at q3
              have q4 : Hid (∀ W, Calls Tryz.prog 382 #[.string (mkB x)] W fun e w' => e = .returned (.tuple #[.int .i64 0, .bool false]) ∧ W = w') := q3
              clear hx hnx q3
              generalize mkB x = u at *
              go_wp2_with (first | (go_at_call 382; (with_reducible refine (q4.out _).mono ?_); rintro e w' ⟨rfl, rfl⟩))
              go_ret2
              exact ⟨none, 0, 0, by rw [hv2.out]; rfl, hb2.trans (hb.mono hb2.size)⟩
            | some v =>
              have hnv := numV_in hnx
              simp only [hnx] at q3
              have q4 : Hid (∀ W, Calls Tryz.prog 382 #[.string (mkB x)] W fun e w' => e = .returned (.tuple #[.int .i64 v, .bool true]) ∧ W = w') := q3
              have q5 := fun W => l00In_calls v 0 63 W
              cases hin : inB v 0 63 with
              | false =>
                have hv2 : Hid (labS s = false) := by
                  show _ = _
                  rw [hin] at hnv
                  rw [hv.out, numsOf_none hx (by cases h : numV x with | none => rfl | some y => rw [h] at hnv; cases hnv)]
                  rfl
                simp only [hin] at q5
                replace q5 := hide q5
                clear hx hnx q3 hin hnv
                generalize mkB x = u at *
                go_wp2_with (first | (go_at_call 382; (with_reducible refine (q4.out _).mono ?_); rintro e w' ⟨rfl, rfl⟩) | (go_at_call 144; (with_reducible refine (q5.out _).mono ?_); rintro e w' ⟨rfl, rfl⟩))
                go_ret2
                exact ⟨none, 0, 0, by rw [hv2.out]; rfl, hb2.trans (hb.mono hb2.size)⟩
              | true =>
                have hnext : Hid (∀ j x, j < k + 1 → P[j]? = some x → (numV x).isSome = true) := fun j y hj hyy => by
                  rcases Nat.lt_or_ge j k with h1 | h1
                  · exact hall.out j y h1 hyy
                  · have hjk : j = k := by omega
                    rw [hjk, hx] at hyy
                    have hxy := Option.some.inj hyy
                    rw [← hxy, hnv, hin]
                simp only [hin] at q5
                replace q5 := hide q5
                clear hx hnx q3 hin hnv
                generalize mkB x = u at *
                go_wp2_with (first | (go_at_call 382; (with_reducible refine (q4.out _).mono ?_); rintro e w' ⟨rfl, rfl⟩) | (go_at_call 144; (with_reducible refine (q5.out _).mono ?_); rintro e w' ⟨rfl, rfl⟩) | (at_builtin; (with_reducible refine wpList_app rfl (.tmp 62) (.tmp 64) rfl hE.out flat_iv rfl (hown.out.alloc _) rfl (Sl.lit1' wr 2 v _ rfl 1 _ ?c0) ?c1 (hza _) ?_); rotate_right; intro A7 c7 w7 hown7 hgr7 hb7 _))
                case c0 => rfl
                case c1 => omega
                go_roundw
                case rel => exact ⟨k + 1, A7, c7, L ++ [v], by omega, rfl, by go_num, hown7, hnext, (hb.alloc hz2 _).trans hb7⟩
                case measure => simp [intOf]; omega
          · have hkn : k = n := by omega
            subst hkn
            have hv2 : Hid (labS s = decide ((k : Int) ≤ 2)) := by
              show _ = _
              have h1 := numsOf_some (f := numV) (l := P) (fun j x hx => hall.out j x (by rw [← hPn.out]; exact (List.getElem?_eq_some_iff.1 hx).1) hx)
              obtain ⟨ns, hns⟩ := Option.isSome_iff_exists.1 h1
              have h2 := numsOf_len hns
              rw [hv.out, hns]
              rw [hPn.out] at h2
              by_cases h3 : k ≤ 2
              · have h4 : ns.length ≤ 2 := by omega
                have h5 : (k : Int) ≤ 2 := by omega
                simp [Option.filter, h4, h5]
              · have h4 : ¬ ns.length ≤ 2 := by omega
                have h5 : ¬ (k : Int) ≤ 2 := by omega
                simp [Option.filter, h4, h5]
            go_wp2_with fail
            go_ret2
            exact ⟨A5, k, c5, by rw [hv2.out]; rfl, hb2.trans (hb.mono hb2.size)⟩
      · have hv : Hid (labS s = false) := by
          show _ = _
          rw [hlab.out, hact]
          simp [h41]
        have hne : (s[z].toNat : Int) ≠ 41 := fun h => h41 (UInt8.toNat_inj.1 (by simpa using (by omega : s[z].toNat = 41)))
        generalize hc : (s[z].toNat : Int) = x at *
        have hgetk : ∀ h : z < s.size, (s[z].toNat : Int) = x := fun _ => hc
        have hcb : (x == 41) = false := by rw [beq_eq_false_iff_ne]; exact hne
        clear hlab hact hc hne h41 hamz
        go_enter Tryz.func353, Tryz.ntmps353
        go_wp2_with (first | (go_at_call 363; (with_reducible refine q0.out.mono ?_); rintro e w1 ⟨rfl, rfl⟩) | (go_at_call 380; (with_reducible refine (q1.out _).mono ?_); rintro e w' ⟨rfl, rfl⟩))
        go_ret2
        exact ⟨none, 0, 0, by rw [hv.out]; rfl, Below.refl _ _⟩
  · have hv := hide (labS_miss hm)
    rw [open_miss hm] at q0
    replace q0 := hide q0
    have q1 := hide (fun W => l01Name_calls s W (by unfold maxLen; omega))
    clear hm
    go_enter Tryz.func353, Tryz.ntmps353
    go_wp2_with (first | (go_at_call 363; (with_reducible refine q0.out.mono ?_); rintro e w1 ⟨rfl, rfl⟩) | (go_at_call 379; (with_reducible refine (q1.out _).mono ?_); rintro e w' ⟨rfl, rfl⟩))
    go_ret2
    exact ⟨some ⟨w.heap.size, 0, none⟩, 0, 0, by rw [hv.out]; rfl, (Below.refl _ _).alloc (Nat.le_refl _) _⟩

end Go.Proofs.YtnhomkmfbngmgaaGreatDoor

namespace Go.Proofs.YtnhomkmfbngmgaaGreatDoor
open Go.ChangeShapes Go.WideShapes Go.ChangeAt Go.RowKit
set_option linter.unusedVariables false

/-- What a predicate's call leaves. -/
def Says (b : Bool) (W : World) (e : Ending) (W' : World) : Prop := e = .returned (.bool b) ∧ Below W.heap.size W W'

theorem any_take_succ {α : Type} {G : α → Bool} {l : List α} {k : Nat} {x : α} (h : (l.take k).any G = false) (hx : l[k]? = some x) (hg : G x = false) : (l.take (k + 1)).any G = false := by
  rw [List.take_add_one, hx, List.any_append, h]
  simp [hg]
theorem any_hit {α : Type} {G : α → Bool} {l : List α} {k : Nat} {x : α} (hx : l[k]? = some x) (hg : G x = true) : l.any G = true :=
  List.any_eq_true.2 ⟨x, List.mem_of_getElem? hx, hg⟩

set_option maxRecDepth 100000 in
theorem indexFuncI_calls (F : FuncId) (caps : Array Value) (G : Int → Bool) (A : Option Addr) (n c : Nat) (l : List Int) (w : World) (lo hi : Nat) (h : SlI w lo hi A n l) (hn : n ≤ 1048576)
    (hF : ∀ (v : Value) (W : World), Sem.run Tryz.prog (callFunc F (#[v] ++ caps)) W = .ok (.enter F (#[v] ++ caps)) W)
    (hcl : ∀ (v : Int) (W : World), Below w.heap.size w W → Calls Tryz.prog F (#[.int .i64 v] ++ caps) W (Says (G v) W)) :
    Calls Tryz.prog 222 #[.slice A n c, .func (.func F) #[] caps] w fun e w' => ∃ i : Int, e = .returned (.int .i64 i) ∧ decide (0 ≤ i) = l.any G ∧ Below w.heap.size w w' := by
  have hlen := hide h.len
  replace hcl := hide hcl
  go_enter Tryz.func222, Tryz.ntmps222
  go_wp2
  go_loopw [8] (fun i wr => ∃ k : Nat, k ≤ n ∧ i = .int .i64 k ∧ Below w.heap.size w wr ∧ Hid ((l.take k).any G = false)) (fun i _ => n - (intOf i).toNat)
  case atStart => exact ⟨0, Nat.zero_le _, rfl, Below.refl _ _, rfl⟩
  case round =>
    obtain ⟨k, hk, rfl, hb, ha⟩ := hrel
    by_cases hlt : k < n
    · obtain ⟨b, off, x, rfl, g1, g2, g3, hx, c0, -⟩ := h.get hlt
      replace c0 := (hb.cell (p := ⟨b, off + k, none⟩) g3).trans c0
      have hc := hcl.out x wr hb
      replace hx := hide hx
      clear h hcl
      by_cases hg : G x = true
      · rw [hg] at hc
        replace hc := hide hc
        have hy := hide (any_hit hx.out hg)
        clear hg
        go_wp2_with fail
        refine hc.out.mono ?_
        rintro e w1 ⟨rfl, hb1⟩
        go_wp2_with fail
        go_ret
        exact ⟨_, rfl, by rw [hy.out]; simp, hb.trans (hb1.mono hb.size)⟩
      · replace hg := Bool.eq_false_iff.2 hg
        rw [hg] at hc
        replace hc := hide hc
        have hy := hide (any_take_succ ha.out hx.out hg)
        clear hg
        go_wp2_with fail
        refine hc.out.mono ?_
        rintro e w1 ⟨rfl, hb1⟩
        go_wp2_with fail
        go_roundw
        case rel => exact ⟨k + 1, by omega, by go_num, hb.trans (hb1.mono hb.size), hy⟩
        case measure => simp [intOf]; omega
    · have hkn : k = n := by omega
      subst hkn
      clear hcl
      go_wp2
      go_ret
      have hy := ha.out
      rw [List.take_of_length_le (by rw [hlen.out]; exact Nat.le_refl _)] at hy
      exact ⟨_, rfl, by rw [hy]; decide, hb⟩

theorem containsFuncI_calls (F : FuncId) (caps : Array Value) (G : Int → Bool) (A : Option Addr) (n c : Nat) (l : List Int) (w : World) (lo hi : Nat) (h : SlI w lo hi A n l) (hn : n ≤ 1048576)
    (hF : ∀ (v : Value) (W : World), Sem.run Tryz.prog (callFunc F (#[v] ++ caps)) W = .ok (.enter F (#[v] ++ caps)) W)
    (hcl : ∀ (v : Int) (W : World), Below w.heap.size w W → Calls Tryz.prog F (#[.int .i64 v] ++ caps) W (Says (G v) W)) :
    Calls Tryz.prog 151 #[.slice A n c, .func (.func F) #[] caps] w (Says (l.any G) w) := by
  have q := hide (indexFuncI_calls F caps G A n c l w lo hi h hn hF hcl)
  clear h hF hcl
  go_enter Tryz.func151, Tryz.ntmps151
  go_wp2_with fail
  refine q.out.mono ?_
  rintro e w1 ⟨i, rfl, hi, hb⟩
  replace hi := hide hi
  go_wp2_with fail
  go_ret
  exact ⟨ret_b hi.out.symm, hb⟩

end Go.Proofs.YtnhomkmfbngmgaaGreatDoor

namespace Go.Proofs.YtnhomkmfbngmgaaGreatDoor
open Go.ChangeShapes Go.WideShapes Go.ChangeAt Go.RowKit
set_option linter.unusedVariables false

theorem numsOf_snoc {f : List UInt8 → Option Int} : ∀ {l : List (List UInt8)} {ns : List Int} {x : List UInt8} {v : Int}, numsOf f l = some ns → f x = some v → numsOf f (l ++ [x]) = some (ns ++ [v])
  | [], ns, x, v, h, hf => by
    cases h
    show numsOf f [x] = _
    unfold numsOf
    rw [hf]
    rfl
  | y :: l, ns, x, v, h, hf => by
    unfold numsOf at h
    split at h
    · rename_i n ms hn hm
      cases h
      rw [List.cons_append]
      unfold numsOf
      rw [hn, numsOf_snoc hm hf]
      rfl
    · cases h

def dataL (l : List ByteArray) : List (List UInt8) := l.map (·.data.toList)
/-- What readNumbers hands back. -/
def NumsR (w w' : World) (n : Nat) (o : Option (List Int)) (e : Ending) : Prop :=
  match o with
  | none => e = .returned (.tuple #[.slice none 0 0, .bool false])
  | some ns => ∃ A c, e = .returned (.tuple #[.slice A n c, .bool true]) ∧ SlI w' w.heap.size w'.heap.size A n ns

set_option maxRecDepth 100000 in
set_option maxHeartbeats 800000 in
theorem readNumbers_calls (A : Option Addr) (n c : Nat) (l : List ByteArray) (w : World) (lo hi : Nat) (h : SlS w lo hi A n l) (hn : n ≤ 1048577) (hs : ∀ s ∈ l, s.size ≤ 1048576) (he : Env w) :
    Calls Tryz.prog 51 #[.slice A n c] w fun e w' => NumsR w w' n (numsOf numS (dataL l)) e ∧ Below w.heap.size w w' := by
  have hE := hide elem_int
  have hlen := hide h.len
  replace hs := hide hs
  go_enter Tryz.func51, Tryz.ntmps51
  go_wp2
  go_loopw [4, 11] (fun o i wr => ∃ (k : Nat) (A5 : Option Addr) (c5 : Nat) (L : List Int), k ≤ n ∧ o = .slice A5 k c5 ∧ i = .int .i64 (k : Nat) ∧ Hid (Own 1 iv wr w.heap.size 2 A5 k c5 L) ∧ Hid (numsOf numS ((dataL l).take k) = some L) ∧ Below w.heap.size w wr) (fun _ i _ => n - (intOf i).toNat)
  case atStart => exact ⟨0, none, 0, [], Nat.zero_le _, rfl, rfl, Own.nil_ _ _ _, rfl, Below.refl _ _⟩
  case round =>
    obtain ⟨k, A5, c5, L, hk, rfl, rfl, hown, hall, hb⟩ := hrel
    have hz := hb.size
    by_cases hlt : k < n
    · obtain ⟨bb, off, x, rfl, g1, g2, g3, hx, cc0, -⟩ := SlS.get h hlt
      replace cc0 := (hb.cell (p := ⟨bb, off + k, none⟩) g3).trans cc0
      have hx2 : (dataL l)[k]? = some x.data.toList := by unfold dataL; rw [List.getElem?_map, hx]; rfl
      have q3 := readDecimal_calls x (hs.out x (List.mem_of_getElem? hx)) wr (he.below hb (Nat.le_refl _))
      have htk : (dataL l).take (k + 1) = (dataL l).take k ++ [x.data.toList] := by rw [List.take_add_one, hx2]; rfl
      cases hnx : numS x.data.toList with
      | none =>
        have hv : Hid (numsOf numS (dataL l) = none) := numsOf_none hx2 hnx
        rw [hnx] at q3
        have q4 : Hid (Calls Tryz.prog 115 #[.string x] wr fun e w' => e = .returned (.tuple #[.int .i64 0, .bool false]) ∧ Below wr.heap.size wr w') := q3
        clear hx hx2 hnx q3 htk hall hown h he
        go_wp2_with fail
        refine q4.out.mono ?_
        rintro e w2 ⟨rfl, hb2⟩
        go_wp2_with fail
        go_ret2
        refine ⟨?_, hb.trans (hb2.mono hz)⟩
        rw [hv.out]
        rfl
      | some v =>
        have hnext : Hid (numsOf numS ((dataL l).take (k + 1)) = some (L ++ [v])) := by
          show _ = _
          rw [htk]
          exact numsOf_snoc hall.out hnx
        rw [hnx] at q3
        have q4 : Hid (Calls Tryz.prog 115 #[.string x] wr fun e w' => e = .returned (.tuple #[.int .i64 v, .bool true]) ∧ Below wr.heap.size wr w') := q3
        clear hx hx2 hnx q3 htk hall h he
        go_wp2_with fail
        refine q4.out.mono ?_
        rintro e w2 ⟨rfl, hb2⟩
        have hown2 := hide (hown.out.below hb2 (Nat.le_refl _))
        have hb3 := hb.trans (hb2.mono hz)
        have hz3 := hb3.size
        have hza : ∀ o, w.heap.size ≤ (w2.alloc o).heap.size := fun o => by rw [World.size_alloc]; omega
        clear hb2 hown
        go_wp2_with (first | (at_builtin; (with_reducible refine wpList_app rfl (.tmp 22) (.tmp 24) rfl hE.out flat_iv rfl (hown2.out.alloc _) rfl (Sl.lit1' w2 2 v _ rfl 1 _ ?c0) ?c1 (hza _) ?_); rotate_right; intro A7 c7 w7 hown7 hgr7 hb7 _))
        case c0 => rfl
        case c1 => omega
        go_roundw
        case rel => exact ⟨k + 1, A7, c7, L ++ [v], by omega, rfl, by go_num, hown7, hnext, (hb3.alloc hz3 _).trans hb7⟩
        case measure => simp [intOf]; omega
    · have hkn : k = n := by omega
      subst hkn
      have hv : Hid (numsOf numS (dataL l) = some L) := by
        have := hall.out
        rw [List.take_of_length_le (by unfold dataL; rw [List.length_map, hlen.out]; exact Nat.le_refl _)] at this
        exact this
      go_wp2_with fail
      go_ret2
      refine ⟨?_, hb⟩
      rw [hv.out]
      exact ⟨A5, c5, rfl, hown.out.sl flat_iv⟩

theorem isValue_calls (v : Int) (w : World) : Calls Tryz.prog 362 #[.int .i64 v] w fun e w' => e = .returned (.bool (inB v 0 63)) ∧ w = w' := by
  have q := hide (within_calls v 0 63 w)
  go_enter Tryz.func362, Tryz.ntmps362
  go_wp2_with fail
  refine q.out.mono ?_
  rintro e w1 ⟨rfl, rfl⟩
  go_wp2_with fail
  go_ret
  exact ⟨rfl, rfl⟩
theorem areValues1_calls (v : Int) (w : World) : Calls Tryz.prog 361 #[.int .i64 v] w (Says (!(inB v 0 63)) w) := by
  have q := hide (isValue_calls v w)
  go_enter Tryz.func361, Tryz.ntmps361
  go_wp2_with fail
  refine q.out.mono ?_
  rintro e w1 ⟨rfl, rfl⟩
  go_wp2_with fail
  go_ret
  exact ⟨rfl, Below.refl _ _⟩
theorem areValues_calls (A : Option Addr) (n c : Nat) (L : List Int) (w : World) (lo hi : Nat) (h : SlI w lo hi A n L) (hn : n ≤ 1048576) :
    Calls Tryz.prog 317 #[.slice A n c] w (Says (L.all isVal) w) := by
  have q := hide (containsFuncI_calls 361 #[] (fun v => !(inB v 0 63)) A n c L w lo hi h hn (fun v W => by kernel_rfl) (fun v W _ => areValues1_calls v W))
  have hv : Hid (L.all isVal = !(L.any fun v => !(inB v 0 63))) := by
    show _ = _
    have : isVal = fun v => inB v 0 63 := rfl
    rw [this, List.not_any_eq_all_not]
    simp
  clear h
  go_enter Tryz.func317, Tryz.ntmps317
  go_wp2_with fail
  refine q.out.mono ?_
  rintro e w1 ⟨rfl, hb⟩
  go_wp2_with fail
  go_ret
  exact ⟨ret_b (by rw [hv.out]), hb⟩

theorem join_len (sep : List UInt8) (m : Nat) : ∀ xs : List (List UInt8), (∀ x ∈ xs, x.length ≤ m) → (Lib.join xs sep).length ≤ xs.length * (m + sep.length)
  | [], _ => by rw [Lib.join_nil]; simp
  | [x], h => by
    rw [Lib.join_one]
    have := h x (by simp)
    simp
    omega
  | x :: y :: r, h => by
    have ih := join_len sep m (y :: r) (fun z hz => h z (List.mem_cons_of_mem _ hz))
    have hx := h x (by simp)
    rw [join_cons2, List.length_append, List.length_append, List.length_cons, Nat.add_mul]
    omega

def decB (n : Int) : ByteArray := ⟨(Lib.itoa n).toArray⟩
set_option maxRecDepth 100000 in
set_option maxHeartbeats 800000 in
theorem joined_calls (A : Option Addr) (n c : Nat) (L : List Int) (w : World) (lo hi : Nat) (h : SlI w lo hi A n L) (hn : n ≤ 1048576) (hL : ∀ v ∈ L, -9223372036854775808 ≤ v ∧ v ≤ 9223372036854775807) (he : Env w) :
    Calls Tryz.prog 55 #[.slice A n c, .string ⟨#[44]⟩] w fun e w' => e = .returned (.string (mkB (Lib.join (L.map Lib.itoa) [44]))) ∧ Below w.heap.size w w' := by
  obtain ⟨i0, hi0, hz0, hz1, hz2⟩ := info_parts info_string
  have hmk := fun W => make_row (P := Tryz.prog) 24 9 i0 _ _ n Tryz.underlying24 hi0 hz0 hz1 (by rw [hz2]; omega) (by omega) W
  clear hi0 hz0 hz1 hz2
  have hlen := hide h.len
  replace hL := hide hL
  go_enter Tryz.func55, Tryz.ntmps55
  go_wp2
  go_loopw [13] (fun i wr => ∃ k : Nat, k ≤ n ∧ i = .int .i64 k ∧ Below w.heap.size w wr ∧ Fill 1 strv wr w.heap.size 9 n k (L.map decB)) (fun i _ => n - (intOf i).toNat)
  case atStart => exact ⟨0, Nat.zero_le _, rfl, (Below.refl _ _).alloc (Nat.le_refl _) _, Fill.start _ _ _ _ (by simp [madeCells])⟩
  case round =>
    obtain ⟨k, hk, rfl, hb, hf⟩ := hrel
    clear hmk
    by_cases hlt : k < n
    · obtain ⟨b, off, x, rfl, g1, g2, g3, hx, c0, -⟩ := h.get hlt
      replace c0 := (hb.cell (p := ⟨b, off + k, none⟩) g3).trans c0
      have hxb := hL.out x (List.mem_of_getElem? hx)
      have q := hide (decimal_calls x hxb.1 hxb.2 wr (he.below hb (Nat.le_refl _)))
      have hx2 : Hid ((L.map decB)[k]? = some (decB x)) := by show _ = _; rw [List.getElem?_map, hx]; rfl
      clear h hx hxb he
      go_wp2_with fail
      refine q.out.mono ?_
      rintro e w1 ⟨rfl, hb1⟩
      have hf1 := hf.keep (hb1.block _ hf.lt)
      obtain ⟨v0, d0⟩ := hf1.cell (i := k) (by omega)
      have z0 := hf1.frozen k
      go_wp2_with fail
      go_roundw
      case rel => exact ⟨k + 1, by omega, by go_num, (hb.trans (hb1.mono hb.size)).setCell (Nat.le_refl _) _, hf1.set1 hlt (fun _ => rfl) hx2.out rfl⟩
      case measure => simp [intOf]; omega
    · have hkn : k = n := by omega
      subst hkn
      have hml : (L.map decB).length = k := by rw [List.length_map]; exact hlen.out
      have hsl := hf.done hml (Nat.le_refl _) hf.lt
      have hdat : (L.map decB).map (·.data.toList) = L.map Lib.itoa := by rw [List.map_map]; rfl
      have hjl := join_len [44] 21 (L.map Lib.itoa) (fun y hy => by
        obtain ⟨v, hv, rfl⟩ := List.mem_map.1 hy
        exact Lib.itoa_length_le v (hL.out v hv).1 (hL.out v hv).2)
      rw [List.length_map, hlen.out, show 21 + ([44] : List UInt8).length = 22 from rfl] at hjl
      have q : Calls Tryz.prog 123 #[.slice (some ⟨w.heap.size, 0, none⟩) k k, .string ⟨#[44]⟩] wr fun e w' => e = .returned (.string (mkB (Lib.join (L.map Lib.itoa) [44]))) ∧ Below wr.heap.size wr w' := by
        have := Tryz.strings_Join w.heap.size 0 k (L.map decB) ⟨#[44]⟩ wr (fun j x hx => by
          have hj : j < k := by rw [← hml]; exact (List.getElem?_eq_some_iff.1 hx).1
          obtain ⟨b, off, e1, _, _, _, hcell⟩ := hsl.at_ (by omega)
          cases e1
          have := (hcell j x hx 0 _ rfl).1
          simpa using this) hf.lt (by rw [hml]; omega) (by rw [hml]; exact Nat.le_refl _) (by
            rw [hdat]
            show (Lib.join (L.map Lib.itoa) [44]).length ≤ _
            omega)
        rw [hml, hdat] at this
        exact this
      replace q := hide q
      clear h hsl hdat hjl he
      go_wp2_with fail
      refine q.out.mono ?_
      rintro e w1 ⟨rfl, hb1⟩
      go_wp2_with fail
      go_ret
      exact ⟨rfl, hb.trans (hb1.mono hb.size)⟩

end Go.Proofs.YtnhomkmfbngmgaaGreatDoor

namespace Go.Proofs.YtnhomkmfbngmgaaGreatDoor
open Go.ChangeShapes Go.WideShapes Go.ChangeAt Go.RowKit
set_option linter.unusedVariables false

theorem nameB_len {s : ByteArray} (h : nameB s = true) : s.size ≤ 10 := by
  unfold nameB at h
  rw [Bool.and_eq_true, decide_eq_true_eq] at h
  exact h.2.2
theorem isAction_calls (s : ByteArray) (w : World) (hs : s.size ≤ 1048576) : Calls Tryz.prog 178 #[.string s] w fun e w' => e = .returned (.bool (actB s)) ∧ w = w' := by
  have q := isName_calls s w (by unfold maxLen; omega)
  by_cases hn : nameB s = true
  · rw [hn] at q
    replace q := hide q
    by_cases ht : s = tauB
    · have hv : Hid (actB s = false) := by show _ = _; unfold actB; simp [ht]
      subst ht
      clear hn
      go_enter Tryz.func178, Tryz.ntmps178
      go_wp2_with (first | (go_at_call 250; (with_reducible refine q.out.mono ?_); rintro e w1 ⟨rfl, rfl⟩))
      go_ret
      exact ⟨ret_b (by rw [hv.out, tau_list]; rfl), rfl⟩
    · have hv : Hid (actB s = true) := by show _ = _; unfold actB; simp [ht, hn]
      have hne := tau_ne ht
      clear hn ht
      go_enter Tryz.func178, Tryz.ntmps178
      go_wp2_with (first | (go_at_call 250; (with_reducible refine q.out.mono ?_); rintro e w1 ⟨rfl, rfl⟩))
      go_ret
      exact ⟨ret_b (by rw [hv.out]), rfl⟩
  · replace hn := Bool.eq_false_iff.2 hn
    have hv : Hid (actB s = false) := by show _ = _; unfold actB; rw [hn]; rfl
    rw [hn] at q
    replace q := hide q
    clear hn
    go_enter Tryz.func178, Tryz.ntmps178
    go_wp2_with (first | (go_at_call 250; (with_reducible refine q.out.mono ?_); rintro e w1 ⟨rfl, rfl⟩))
    go_ret
    exact ⟨ret_b (by rw [hv.out]), rfl⟩

theorem isVal_bounds {L : List Int} (h : L.all isVal = true) : ∀ v ∈ L, -9223372036854775808 ≤ v ∧ v ≤ 9223372036854775807 := fun v hv => by
  have := (List.all_eq_true.1 h) v hv
  simp [isVal] at this
  omega

/-- What labelOf hands back. -/
def LabR (w w' : World) (o : Option (List UInt8)) (e : Ending) : Prop := ∃ t b, e = .returned (.tuple #[.string t, .bool b]) ∧ o = (if b then some t.data.toList else none) ∧ Below w.heap.size w w'

set_option maxRecDepth 100000 in
set_option maxHeartbeats 800000 in
theorem labelOf_calls (nm : ByteArray) (A : Option Addr) (n c : Nat) (L : List Int) (w : World) (lo hi : Nat) (hs : nm.size ≤ 1048576) (h : SlI w lo hi A n L) (hn : n ≤ 1048577) (he : Env w) :
    Calls Tryz.prog 254 #[.string nm, .slice A n c] w fun e w' => LabR w w' (labOf nameL nm.data.toList L) e := by
  have hlen := h.len
  have hq1 := isAction_calls nm w hs
  by_cases ht : nm = tauB
  · have htl : nm.data.toList = tauL := by rw [ht]; rfl
    by_cases h0 : n = 0
    · have hL0 : L = [] := List.eq_nil_of_length_eq_zero (by omega)
      have hv : Hid (labOf nameL nm.data.toList L = some tauL) := by show _ = _; unfold labOf; rw [if_pos htl, if_pos hL0]
      subst h0 ht
      clear hL0 htl hlen hq1 h he
      have htt : (tauB.toList == [116, 97, 117]) = true := by rw [tau_list]; rfl
      go_enter Tryz.func254, Tryz.ntmps254
      go_wp2_with fail
      go_ret2
      exact ⟨tauB, true, rfl, by rw [hv.out]; rfl, Below.refl _ _⟩
    · have hL0 : L ≠ [] := by rintro rfl; simp at hlen; omega
      have hv : Hid (labOf nameL nm.data.toList L = none) := by show _ = _; unfold labOf; rw [if_pos htl, if_neg hL0]
      have hb0 : ((n : Int) == 0) = false := by rw [beq_eq_false_iff_ne]; omega
      subst ht
      clear hL0 htl hlen hq1 h he
      have htt : (tauB.toList == [116, 97, 117]) = true := by rw [tau_list]; rfl
      go_enter Tryz.func254, Tryz.ntmps254
      go_wp2_with fail
      go_ret2
      exact ⟨tauB, false, rfl, by rw [hv.out]; rfl, Below.refl _ _⟩
  · have htl : nm.data.toList ≠ tauL := fun e => ht (by rw [← bytes_eta nm, e]; rfl)
    have hact : actB nm = nameB nm := by unfold actB; rw [decide_eq_false ht]; simp
    have hne := tau_ne ht
    have hq2 := areValues_calls A n c L w lo hi h
    cases hnm : nameB nm with
    | false =>
      have hv : Hid (labOf nameL nm.data.toList L = none) := by show _ = _; unfold labOf; rw [if_neg htl, nameL_data, hnm]; rfl
      rw [hact, hnm] at hq1
      replace hq1 := hide hq1
      clear hact htl ht hnm h he hq2 hlen
      go_enter Tryz.func254, Tryz.ntmps254
      go_wp2_with (first | (go_at_call 178; (with_reducible refine hq1.out.mono ?_); rintro e w1 ⟨rfl, rfl⟩))
      go_ret2
      exact ⟨⟨#[]⟩, false, rfl, by rw [hv.out]; rfl, Below.refl _ _⟩
    | true =>
      rw [hact, hnm] at hq1
      replace hq1 := hide hq1
      by_cases h2 : 2 < n
      · have hv : Hid (labOf nameL nm.data.toList L = none) := by
          show _ = _
          unfold labOf
          rw [if_neg htl, nameL_data, hnm, if_pos (by rw [hlen]; simp [h2])]
        have h2I : (2 : Int) < (n : Int) := by omega
        clear hact htl ht hnm h he hq2 hlen
        go_enter Tryz.func254, Tryz.ntmps254
        go_wp2_with (first | (go_at_call 178; (with_reducible refine hq1.out.mono ?_); rintro e w1 ⟨rfl, rfl⟩))
        go_ret2
        exact ⟨⟨#[]⟩, false, rfl, by rw [hv.out]; rfl, Below.refl _ _⟩
      · replace hq2 := hq2 (by omega)
        have h2I : ¬ (2 : Int) < (n : Int) := by omega
        have h2L : ¬ 2 < L.length := by omega
        cases hall : L.all isVal with
        | false =>
          have hv : Hid (labOf nameL nm.data.toList L = none) := by
            show _ = _
            unfold labOf
            rw [if_neg htl, nameL_data, hnm, if_pos (by rw [hall]; simp)]
          rw [hall] at hq2
          replace hq2 := hide hq2
          clear hact htl ht hnm h he hlen hall h2 h2L
          go_enter Tryz.func254, Tryz.ntmps254
          go_wp2_with (first | (go_at_call 178; (with_reducible refine hq1.out.mono ?_); rintro e w1 ⟨rfl, rfl⟩) | (go_at_call 317; (with_reducible refine hq2.out.mono ?_); rintro e w2 ⟨rfl, hb2⟩))
          go_ret2
          exact ⟨⟨#[]⟩, false, rfl, by rw [hv.out]; rfl, hb2⟩
        | true =>
          rw [hall] at hq2
          replace hq2 := hide hq2
          have hcond : ¬ ((!(nameL nm.data.toList) || decide (2 < L.length) || !(L.all isVal)) = true) := by rw [nameL_data, hnm, hall, decide_eq_false h2L]; decide
          by_cases h0 : n = 0
          · have hL0 : L = [] := List.eq_nil_of_length_eq_zero (by omega)
            have hv : Hid (labOf nameL nm.data.toList L = some nm.data.toList) := by
              show _ = _
              unfold labOf
              rw [if_neg htl, if_neg hcond, if_pos hL0]
            subst h0
            clear hact htl ht hnm h he hlen hall h2 h2L hcond hL0
            go_enter Tryz.func254, Tryz.ntmps254
            go_wp2_with (first | (go_at_call 178; (with_reducible refine hq1.out.mono ?_); rintro e w1 ⟨rfl, rfl⟩) | (go_at_call 317; (with_reducible refine hq2.out.mono ?_); rintro e w2 ⟨rfl, hb2⟩))
            go_ret2
            exact ⟨nm, true, rfl, by rw [hv.out]; rfl, hb2⟩
          · have hL0 : L ≠ [] := by rintro rfl; simp at hlen; omega
            have hb0 : ((n : Int) == 0) = false := by rw [beq_eq_false_iff_ne]; omega
            have q3 := hide (fun (W : World) (hW : Below w.heap.size w W) => joined_calls A n c L W lo hi (h.below hW (.inr (Nat.le_refl _))) (by omega) (isVal_bounds hall) (he.below hW (Nat.le_refl _)))
            have hjl := join_len [44] 21 (L.map Lib.itoa) (fun y hy => by
              obtain ⟨v, hv, rfl⟩ := List.mem_map.1 hy
              exact Lib.itoa_length_le v (isVal_bounds hall v hv).1 (isVal_bounds hall v hv).2)
            rw [List.length_map, show 21 + ([44] : List UInt8).length = 22 from rfl] at hjl
            have hv : Hid (labOf nameL nm.data.toList L = some (nm.data.toList ++ [40] ++ Lib.join (L.map Lib.itoa) [44] ++ [41])) := by
              show _ = _
              unfold labOf
              rw [if_neg htl, if_neg hcond, if_neg hL0]
            have hjs : (mkB (Lib.join (L.map Lib.itoa) [44])).size ≤ 44 := by rw [mkB_size]; omega
            have hnms := nameB_len hnm
            have hjd : Hid ((mkB (Lib.join (L.map Lib.itoa) [44])).data.toList = Lib.join (L.map Lib.itoa) [44]) := rfl
            clear hact htl ht hnm h he hlen hall h2 h2L hcond hL0 hjl
            generalize mkB (Lib.join (L.map Lib.itoa) [44]) = J at *
            go_enter Tryz.func254, Tryz.ntmps254
            go_wp2_with (first | (go_at_call 178; (with_reducible refine hq1.out.mono ?_); rintro e w1 ⟨rfl, rfl⟩) | (go_at_call 317; (with_reducible refine hq2.out.mono ?_); rintro e w2 ⟨rfl, hb2⟩))
            refine (q3.out _ hb2).mono ?_
            rintro e w3 ⟨rfl, hb3⟩
            go_wp2_with fail
            go_ret2
            refine ⟨_, true, rfl, ?_, hb2.trans (hb3.mono hb2.size)⟩
            rw [hv.out, ← hjd.out]
            simp [ByteArray.data_append]

end Go.Proofs.YtnhomkmfbngmgaaGreatDoor

namespace Go.Proofs.YtnhomkmfbngmgaaGreatDoor
open Go.ChangeShapes Go.WideShapes Go.ChangeAt Go.RowKit
set_option linter.unusedVariables false

theorem nameL_tau : nameL tauL = true := by decide
/-- The values that the program reads out of a label. -/
def numsR (l : List UInt8) : Option (List Int) := if (Lib.cut l [40]).2.2 then numsOf numS (splitC 44 (Lib.trimSuffix (Lib.cut l [40]).2.1 [41])) else some []
theorem labS_none {s : ByteArray} (h : numsR s.data.toList = none) : labS s = false := by
  unfold labS
  rw [← valsP_eq nameL nameL_tau]
  unfold valsP
  rw [numP_fun]
  unfold numsR at h
  rw [h]
  rfl
theorem labS_some {s : ByteArray} {ns : List Int} (h : numsR s.data.toList = some ns) : labS s = decide (labOf nameL (Lib.cut s.data.toList [40]).1 ns = some s.data.toList) := by
  unfold labS
  rw [← valsP_eq nameL nameL_tau]
  unfold valsP
  rw [numP_fun]
  unfold numsR at h
  rw [h]
  by_cases hc : labOf nameL (Lib.cut s.data.toList [40]).1 ns = some s.data.toList
  · simp only [if_pos hc, decide_eq_true hc]
    rfl
  · simp only [if_neg hc, decide_eq_false hc]
    rfl
theorem Sl.laid (w : World) (t : TypeId) (l : List ByteArray) (lo : Nat) (hlo : lo ≤ w.heap.size) : SlS (w.alloc (.cells (l.map Value.string).toArray t)) lo (w.heap.size + 1) (some ⟨w.heap.size, 0, none⟩) l.length l := by
  refine ⟨rfl, fun _ => ⟨w.heap.size, 0, rfl, hlo, by omega, by simp, fun k x hx j u hu => ?_⟩⟩
  match j, hu with
  | 0, hu =>
    simp [strv] at hu
    subst hu
    simp only [Nat.zero_add, Nat.mul_one, Nat.add_zero]
    have hg := heap_alloc_new w (.cells (l.map Value.string).toArray t)
    refine ⟨(cell_of_row _ _ k _ t (0, 0) hg).trans ?_, frozen_of_row _ _ _ _ t hg⟩
    simp [hx]
theorem split_data (t : ByteArray) : (Lib.splitB ⟨#[44]⟩ 0 (Lib.countB t ⟨#[44]⟩) t).map (·.data.toList) = splitC 44 t.data.toList := by
  rw [Lib.splitB_data, ← split_one]
  rfl
theorem split_calls (t : ByteArray) (w : World) (hs : t.size ≤ 1048576) (he : Env w) :
    Calls Tryz.prog 50 #[.string t, .string ⟨#[44]⟩] w fun e w' => ∃ A n PB, e = .returned (.slice A n n) ∧ SlS w' w.heap.size w'.heap.size A n PB ∧ dataL PB = splitC 44 t.data.toList ∧ n ≤ 1048577 ∧ (∀ s ∈ PB, s.size ≤ 1048576) ∧ Below w.heap.size w w' := by
  have hc := Lib.splitB_all ⟨#[44]⟩ (by decide) 0 _ t rfl
  have hd := split_data t
  refine (Tryz.strings_Split_shaped t ⟨#[44]⟩ w he.good.shape (by omega) (by decide)).mono ?_
  rintro e w' ⟨rfl, rfl⟩
  generalize Lib.splitB ⟨#[44]⟩ 0 (Lib.countB t ⟨#[44]⟩) t = PB at *
  rw [← hc]
  refine ⟨_, _, PB, rfl, ?_, hd, ?_, ?_, (Below.refl _ _).alloc (Nat.le_refl _) _⟩
  · rw [World.size_alloc]
    exact Sl.laid w _ PB _ (Nat.le_refl _)
  · have h1 := splitC_len 44 t.data.toList
    rw [← hd, List.length_map, bsize] at h1
    omega
  · intro s hsm
    have h1 := splitC_mem_len 44 t.data.toList s.data.toList (by rw [← hd]; exact List.mem_map.2 ⟨s, hsm, rfl⟩)
    rw [bsize, bsize] at h1
    omega

/-- What readLabel hands back. -/
def ReadLab (w w' : World) (s : ByteArray) (e : Ending) : Prop := ∃ nm A n c, e = .returned (.tuple #[.string nm, .slice A n c, .bool (labS s)]) ∧ nm = (if labS s then mkB (Lib.cut s.data.toList [40]).1 else ⟨#[]⟩) ∧ Below w.heap.size w w'

set_option maxRecDepth 100000 in
set_option maxHeartbeats 1600000 in
theorem readLabel_calls (s : ByteArray) (w : World) (hs : s.size ≤ 1048576) (he : Env w) :
    Calls Tryz.prog 186 #[.string s] w fun e w' => ReadLab w w' s e := by
  have q0 : Calls Tryz.prog 252 #[.string s, .string ⟨#[40]⟩] w fun e w' => e = .returned (.tuple #[.string (mkB (Lib.cut s.data.toList [40]).1), .string (mkB (Lib.cut s.data.toList [40]).2.1), .bool (Lib.cut s.data.toList [40]).2.2]) ∧ Below w.heap.size w w' :=
    (Tryz.strings_Cut_shaped s ⟨#[40]⟩ w he.good.shape (by omega)).mono fun e w' ⟨a, n, b⟩ => ⟨a, b ▸ below_drewN w n⟩
  have hS := @labS_some s
  have hN := @labS_none s
  have hlen : (Lib.cut s.data.toList [40]).1.length ≤ 1048576 ∧ (Lib.cut s.data.toList [40]).2.1.length ≤ 1048576 := by
    unfold Lib.cut
    have := bsize s
    split <;> simp only [List.length_take, List.length_drop, List.length_nil] <;> omega
  unfold numsR at hS hN
  generalize hcut : Lib.cut s.data.toList [40] = C at *
  obtain ⟨a, b, more⟩ := C
  dsimp only at *
  replace hcut := hide hcut
  have has : (mkB a).size ≤ 1048576 := by rw [mkB_size]; exact hlen.1
  replace q0 := hide q0
  have q5 := fun (A : Option Addr) (n c : Nat) (L : List Int) (W : World) (lo hi : Nat) (h : SlI W lo hi A n L) (hn : n ≤ 1048577) (hW : Below w.heap.size w W) => labelOf_calls (mkB a) A n c L W lo hi has h hn (he.below hW (Nat.le_refl _))
  rw [mkB_data] at q5
  replace q5 := hide q5
  cases more with
  | false =>
    have hS2 := hide (hS (ns := []) rfl)
    clear hS hN he
    go_enter Tryz.func186, Tryz.ntmps186
    go_wp2_with fail
    refine q0.out.mono ?_
    rintro e w1 ⟨rfl, hb1⟩
    go_wp2_with fail
    refine (q5.out none 0 0 [] w1 0 0 Sl.nil_ (by omega) hb1).mono ?_
    rintro e w9 ⟨t, ok, rfl, hok, hb9⟩
    replace hb9 := hb1.trans (hb9.mono hb1.size)
    cases ok with
    | false =>
      have hv : Hid (labS s = false) := by
        show _ = _
        rw [hS2.out, hok]
        simp
      clear hS2 hok
      go_wp2_with fail
      go_returns
      exact ⟨⟨#[]⟩, none, 0, 0, by rw [hv.out]; rfl, by rw [hv.out]; rfl, hb9⟩
    | true =>
      by_cases hts : t = s
      · have hv : Hid (labS s = true) := by
          show _ = _
          rw [hS2.out, hok, hts]
          simp
        subst hts
        clear hS2 hok
        go_wp2_with fail
        go_returns
        exact ⟨mkB a, none, 0, 0, by rw [hv.out]; rfl, by rw [hv.out, hcut.out]; rfl, hb9⟩
      · have hv : Hid (labS s = false) := by
          show _ = _
          rw [hS2.out, hok, decide_eq_false_iff_not]
          intro e
          apply hts
          have := Option.some.inj e
          rw [← bytes_eta t, this, bytes_eta]
        have hne := str_neq hts
        clear hS2 hok hts
        go_wp2_with fail
        go_returns
        exact ⟨⟨#[]⟩, none, 0, 0, by rw [hv.out]; rfl, by rw [hv.out]; rfl, hb9⟩
  | true =>
    simp only [if_true] at hS hN
    have q1 : ∀ W, Calls Tryz.prog 253 #[.string (mkB b), .string ⟨#[41]⟩] W fun e w' => e = .returned (.string (mkB (Lib.trimSuffix b [41]))) ∧ w' = W := fun W => Tryz.strings_TrimSuffix (mkB b) ⟨#[41]⟩ W (by rw [mkB_size]; omega)
    have htl : (Lib.trimSuffix b [41]).length ≤ 1048576 := by
      unfold Lib.trimSuffix
      split
      · rw [List.length_take]; omega
      · exact hlen.2
    have q2 := fun (W : World) (hW : Below w.heap.size w W) => split_calls (mkB (Lib.trimSuffix b [41])) W (by rw [mkB_size]; exact htl) (he.below hW (Nat.le_refl _))
    rw [mkB_data] at q2
    have q3 := fun (A : Option Addr) (n c : Nat) (l : List ByteArray) (W : World) (lo hi : Nat) (h : SlS W lo hi A n l) (hn : n ≤ 1048577) (hss : ∀ s ∈ l, s.size ≤ 1048576) (hW : Below w.heap.size w W) => readNumbers_calls A n c l W lo hi h hn hss (he.below hW (Nat.le_refl _))
    replace q1 := hide q1
    replace q2 := hide q2
    replace q3 := hide q3
    clear he htl hlen
    cases hns : numsOf numS (splitC 44 (Lib.trimSuffix b [41])) with
    | none =>
      have hv : Hid (labS s = false) := hN hns
      replace hns := hide hns
      clear hS hN q5
      go_enter Tryz.func186, Tryz.ntmps186
      go_wp2_with fail
      refine q0.out.mono ?_
      rintro e w1 ⟨rfl, hb1⟩
      go_wp2_with fail
      refine (q1.out _).mono ?_
      rintro e w2 ⟨rfl, rfl⟩
      go_wp2_with fail
      refine (q2.out _ hb1).mono ?_
      rintro e w3 ⟨A3, n3, PB, rfl, hsl, hdat, hn3, hps, hb3⟩
      replace hb3 := hb1.trans (hb3.mono hb1.size)
      have q4 := q3.out A3 n3 n3 PB w3 _ _ hsl hn3 hps hb3
      rw [hdat, hns.out] at q4
      replace q4 := hide q4
      clear hsl hdat hps
      go_wp2_with fail
      refine q4.out.mono ?_
      rintro e w4 ⟨he4, hb4⟩
      change e = _ at he4
      subst he4
      go_wp2_with fail
      go_returns
      exact ⟨⟨#[]⟩, none, 0, 0, by rw [hv.out]; rfl, by rw [hv.out]; rfl, hb3.trans (hb4.mono hb3.size)⟩
    | some ns =>
      have hS2 := hide (hS hns)
      replace hns := hide hns
      clear hS hN
      go_enter Tryz.func186, Tryz.ntmps186
      go_wp2_with fail
      refine q0.out.mono ?_
      rintro e w1 ⟨rfl, hb1⟩
      go_wp2_with fail
      refine (q1.out _).mono ?_
      rintro e w2 ⟨rfl, rfl⟩
      go_wp2_with fail
      refine (q2.out _ hb1).mono ?_
      rintro e w3 ⟨A3, n3, PB, rfl, hsl, hdat, hn3, hps, hb3⟩
      replace hb3 := hb1.trans (hb3.mono hb1.size)
      have q4 := q3.out A3 n3 n3 PB w3 _ _ hsl hn3 hps hb3
      rw [hdat, hns.out] at q4
      replace q4 := hide q4
      clear hsl hdat hps
      go_wp2_with fail
      refine q4.out.mono ?_
      rintro e w4 ⟨⟨A4, c4, rfl, hs4⟩, hb4⟩
      replace hb4 := hb3.trans (hb4.mono hb3.size)
      replace hs4 := hide hs4
      go_wp2_with fail
      refine (q5.out A4 n3 c4 ns w4 _ _ hs4.out hn3 hb4).mono ?_
      rintro e w9 ⟨t, ok, rfl, hok, hb9⟩
      replace hb9 := hb4.trans (hb9.mono hb4.size)
      cases ok with
      | false =>
        have hv : Hid (labS s = false) := by
          show _ = _
          rw [hS2.out, hok]
          simp
        clear hS2 hok
        go_wp2_with fail
        go_returns
        exact ⟨⟨#[]⟩, none, 0, 0, by rw [hv.out]; rfl, by rw [hv.out]; rfl, hb9⟩
      | true =>
        by_cases hts : t = s
        · have hv : Hid (labS s = true) := by
            show _ = _
            rw [hS2.out, hok, hts]
            simp
          subst hts
          clear hS2 hok
          go_wp2_with fail
          go_returns
          exact ⟨mkB a, A4, n3, c4, by rw [hv.out]; rfl, by rw [hv.out, hcut.out]; rfl, hb9⟩
        · have hv : Hid (labS s = false) := by
            show _ = _
            rw [hS2.out, hok, decide_eq_false_iff_not]
            intro e
            apply hts
            have := Option.some.inj e
            rw [← bytes_eta t, this, bytes_eta]
          have hne := str_neq hts
          clear hS2 hok hts
          go_wp2_with fail
          go_returns
          exact ⟨⟨#[]⟩, none, 0, 0, by rw [hv.out]; rfl, by rw [hv.out]; rfl, hb9⟩

theorem isLabel_calls (s : ByteArray) (w : World) (hs : s.size ≤ 1048576) (he : Env w) :
    Calls Tryz.prog 120 #[.string s] w fun e w' => e = .returned (.bool (labS s)) ∧ Below w.heap.size w w' := by
  have q := hide (readLabel_calls s w hs he)
  clear he
  go_enter Tryz.func120, Tryz.ntmps120
  go_wp2_with fail
  refine q.out.mono ?_
  rintro e w1 ⟨nm, A, n, c, rfl, -, hb⟩
  go_wp2_with fail
  go_ret
  exact ⟨rfl, hb⟩

end Go.Proofs.YtnhomkmfbngmgaaGreatDoor

namespace Go.Proofs.YtnhomkmfbngmgaaGreatDoor
open Go.ChangeShapes Go.WideShapes Go.ChangeAt Go.RowKit Go.Sort
set_option linter.unusedVariables false

theorem l01Label_calls (s : ByteArray) (w : World) (hs : s.size ≤ 1048576) : Calls Tryz.prog 293 #[.string s] w fun e w' => e = .returned (.bool (labS s)) ∧ Below w.heap.size w w' := by
  have q := hide (l01Values_calls s w hs)
  go_enter Tryz.func293, Tryz.ntmps293
  go_wp2_with fail
  refine q.out.mono ?_
  rintro e w1 ⟨A, n, c, rfl, hb⟩
  go_wp2_with fail
  go_ret
  exact ⟨rfl, hb⟩
theorem labS_tau : labS tauB = true := by
  have h : (40 : UInt8) ∉ tauB.data.toList := by decide
  rw [labS_miss h]
  decide
def sLess (a b : ByteArray) : Bool := Op.bytesLess a.toList b.toList
theorem bytesLess_total : ∀ a b : List UInt8, (!(Op.bytesLess a b || a == b)) = Op.bytesLess b a
  | [], [] => rfl
  | [], _ :: _ => by simp [Op.bytesLess]
  | _ :: _, [] => by simp [Op.bytesLess]
  | x :: a, y :: b => by
    have ih := bytesLess_total a b
    simp only [Op.bytesLess]
    by_cases h1 : x = y
    · subst h1
      have h2 : ¬ x < x := by rw [UInt8.lt_iff_toNat_lt]; omega
      simp only [decide_eq_false h2, Bool.false_or, beq_self_eq_true, Bool.true_and]
      rw [← ih]
      congr 2
      simp
    · have h3 : ¬ y = x := fun e => h1 e.symm
      have hn : x.toNat ≠ y.toNat := fun e => h1 (UInt8.toNat_inj.1 e)
      by_cases h2 : x < y
      · have h4 : ¬ y < x := by rw [UInt8.lt_iff_toNat_lt] at h2 ⊢; omega
        simp [h2, h3, h4]
      · have h4 : y < x := by rw [UInt8.lt_iff_toNat_lt] at h2 ⊢; omega
        simp [h1, h2, h4]
abbrev okL := okLab labS sLess
theorem okL_at {l : List ByteArray} {k : Nat} {x y : ByteArray} (hx : l[k]? = some x) (hk : 0 < k) (hy : l[k - 1]? = some y) : okL l k = ((labS x && !(decide (x = tauB))) && (decide (k ≤ 1) || sLess y x)) := by
  show okLab labS sLess l k = _
  unfold okLab
  rw [hx, hy]
  have : decide (k = 0) = false := decide_eq_false (by omega)
  simp only [this]
  cases h : decide (x = tauB) <;> rfl
theorem okL_zero {l : List ByteArray} {x : ByteArray} (hx : l[0]? = some x) : okL l 0 = decide (x = tauB) := by
  show okLab labS sLess l 0 = _
  unfold okLab
  rw [hx]
  by_cases h : x = tauB
  · subst h
    simp [labS_tau]
  · simp [h]
def namesB (l : List ByteArray) : Bool := inB (l.length : Int) 1 12 && allK (okL l) l.length

set_option maxRecDepth 100000 in
set_option maxHeartbeats 1600000 in
theorem l11Names_calls (A : Option Addr) (n c : Nat) (l : List ByteArray) (w : World) (lo hi : Nat) (h : SlS w lo hi A n l) (hn : n ≤ 1048576) (hs : ∀ s ∈ l, s.size ≤ 1048576) :
    Calls Tryz.prog 231 #[.slice A n c] w fun e w' => e = .returned (.bool (namesB l)) ∧ Below w.heap.size w w' := by
  have hlen := h.len
  have hval : namesB l = (inB (n : Int) 1 12 && allK (okL l) n) := by unfold namesB; rw [hlen]
  by_cases h0 : n = 0
  · have hv : Hid (namesB l = false) := by show _ = _; rw [hval, h0]; rfl
    subst h0
    clear hval hs hlen h
    go_enter Tryz.func231, Tryz.ntmps231
    go_wp2
    go_ret
    exact ⟨ret_b (by rw [hv.out]), Below.refl _ _⟩
  have h0b : ((n : Int) == 0) = false := by rw [beq_eq_false_iff_ne]; omega
  by_cases h12 : 12 < n
  · have hv : Hid (namesB l = false) := by show _ = _; rw [hval, inB_false.2 (by omega)]; rfl
    have h12I : (12 : Int) < (n : Int) := by omega
    clear hval hs hlen h
    go_enter Tryz.func231, Tryz.ntmps231
    go_wp2
    go_ret
    exact ⟨ret_b (by rw [hv.out]), Below.refl _ _⟩
  have h12I : ¬ (12 : Int) < (n : Int) := by omega
  have hin : inB (n : Int) 1 12 = true := inB_true.2 (by omega)
  rw [hin, Bool.true_and] at hval
  obtain ⟨b0, o0, x0, rfl, p1, p2, p3, hx0, cc0, -⟩ := SlS.get h (show 0 < n by omega)
  have hz0 := okL_zero hx0
  have hpos : (0 : Int) < (n : Int) := by omega
  simp only [Nat.add_zero] at cc0
  by_cases ht0 : x0 = tauB
  · have htt : (x0.toList == [116, 97, 117]) = true := by rw [ht0, tau_list]; rfl
    rw [decide_eq_true ht0] at hz0
    replace hval := hide hval
    replace hs := hide hs
    replace hz0 := hide hz0
    clear hin hlen hx0 ht0
    go_enter Tryz.func231, Tryz.ntmps231
    go_wp2
    go_loopw [3] (fun i wr => ∃ k : Nat, 1 ≤ k ∧ k ≤ n ∧ i = .int .i64 (k : Nat) ∧ Hid (∀ j, j < k → okL l j = true) ∧ Below w.heap.size w wr) (fun i _ => n - (intOf i).toNat)
    case atStart => exact ⟨1, Nat.le_refl _, by omega, rfl, (fun j hj => by rw [show j = 0 by omega]; exact hz0.out), Below.refl _ _⟩
    case round =>
      obtain ⟨k, hk1, hk, rfl, ha, hb⟩ := hrel
      clear cc0 p1 p2 p3
      by_cases hlt : k < n
      · obtain ⟨b, off, x, eA, g1, g2, g3, hx, c0, -⟩ := SlS.get h hlt
        obtain ⟨b', off', y, eA', -, -, -, hy, c1, -⟩ := SlS.get h (show k - 1 < n by omega)
        cases eA
        cases eA'
        replace c0 := (hb.cell (p := ⟨b0, o0 + k, none⟩) g3).trans c0
        replace c1 := (hb.cell (p := ⟨b0, o0 + (k - 1), none⟩) g3).trans c1
        have hok := okL_at hx hk1 hy
        have hg : b0 < wr.heap.size := Nat.lt_of_lt_of_le g3 hb.size
        have q : ∀ d os, Calls Tryz.prog 293 #[.string x] (grow (redrawn wr d) os) (fun e w'' => e = .returned (.bool (labS x)) ∧ ∃ p : Regrown, w'' = grow (redrawn wr p.d) p.os) := fun d os => Calls.regrown_of (l01Label_calls x _ (hs.out x (List.mem_of_getElem? hx)))
        have e0 := fun d os => cell_regrown c0 d os
        have e1 := fun d os => cell_regrown c1 d os
        have hI0 : (0 : Int) ≤ (k : Int) := by omega
        have hI1 : (k : Int) < (n : Int) := by omega
        have hI2 : (0 : Int) ≤ (k : Int) - 1 := by omega
        have hI3 : (k : Int) - 1 < (n : Int) := by omega
        have hI4 : (1 : Int) ≤ (k : Int) := by omega
        have hI5 : ((k : Int) - 1).toNat = k - 1 := by omega
        clear h hx hy
        cases hlab : labS x with
        | false =>
          simp only [hlab] at q
          rw [hlab] at hok
          have hv : Hid (namesB l = false) := by show _ = _; rw [hval.out]; exact allK_bad hlt (by rw [hok]; rfl)
          replace q := hide q
          clear hok hlab ha hs
          go_wp2
          refine wp_region_quiet_below (by kernel_rfl) (by kernel_rfl) ?_
          repeat (go_big_quiet_step (first | exact q.out _ _))
          refine wpQuiet_nil ?_
          intro _ hw'
          obtain ⟨⟨dq, osq⟩, hw''⟩ := hw'
          subst hw''
          have hb2 := below_regrown wr dq osq
          generalize grow (redrawn wr dq) osq = wq at *
          go_wp2
          go_ret
          exact ⟨ret_b (by rw [hv.out]), hb.trans (hb2.mono hb.size)⟩
        | true =>
          simp only [hlab] at q
          rw [hlab] at hok
          replace q := hide q
          by_cases htx : x = tauB
          · have hv : Hid (namesB l = false) := by show _ = _; rw [hval.out]; exact allK_bad hlt (by rw [hok, decide_eq_true htx]; rfl)
            have htt : (x.toList == [116, 97, 117]) = true := by rw [htx, tau_list]; rfl
            clear hok hlab ha hs htx
            go_wp2
            refine wp_region_quiet_below (by kernel_rfl) (by kernel_rfl) ?_
            repeat (go_big_quiet_step (first | exact q.out _ _))
            refine wpQuiet_nil ?_
            intro _ hw'
            obtain ⟨⟨dq, osq⟩, hw''⟩ := hw'
            subst hw''
            have hb2 := below_regrown wr dq osq
            generalize grow (redrawn wr dq) osq = wq at *
            go_wp2
            go_ret
            exact ⟨ret_b (by rw [hv.out]), hb.trans (hb2.mono hb.size)⟩
          · have hne := tau_ne htx
            rw [decide_eq_false htx] at hok
            by_cases h1 : k = 1
            · have hnext : Hid (∀ j, j < k + 1 → okL l j = true) := lt_succ_cases ha.out (by rw [hok, h1]; rfl)
              have h1I : decide ((1 : Int) < (k : Int)) = false := decide_eq_false (by omega)
              replace h1 := hide h1
              clear hok hlab ha htx
              go_wp2
              refine wp_region_quiet_below (by kernel_rfl) (by kernel_rfl) ?_
              repeat (go_big_quiet_step (first | exact q.out _ _))
              refine wpQuiet_nil ?_
              intro _ hw'
              obtain ⟨⟨dq, osq⟩, hw''⟩ := hw'
              subst hw''
              have hb2 := below_regrown wr dq osq
              generalize grow (redrawn wr dq) osq = wq at *
              go_wp2
              go_roundw
              case rel => exact ⟨k + 1, by omega, by omega, by go_num, hnext, hb.trans (hb2.mono hb.size)⟩
              case measure => simp [intOf]; omega
            · have h1I : (1 : Int) < (k : Int) := by omega
              have h1J : decide ((1 : Int) < (k : Int)) = true := decide_eq_true h1I
              cases hsl : Op.bytesLess y.toList x.toList with
              | true =>
                have hnext : Hid (∀ j, j < k + 1 → okL l j = true) := lt_succ_cases ha.out (by
                  rw [hok]
                  unfold sLess
                  rw [hsl]
                  simp)
                clear hok hlab ha htx
                go_wp2
                refine wp_region_quiet_below (by kernel_rfl) (by kernel_rfl) ?_
                repeat (go_big_quiet_step (first | exact q.out _ _))
                refine wpQuiet_nil ?_
                intro _ hw'
                obtain ⟨⟨dq, osq⟩, hw''⟩ := hw'
                subst hw''
                have hb2 := below_regrown wr dq osq
                generalize grow (redrawn wr dq) osq = wq at *
                go_wp2
                go_roundw
                case rel => exact ⟨k + 1, by omega, by omega, by go_num, hnext, hb.trans (hb2.mono hb.size)⟩
                case measure => simp [intOf]; omega
              | false =>
                have hv : Hid (namesB l = false) := by
                  show _ = _
                  rw [hval.out]
                  refine allK_bad hlt ?_
                  rw [hok, decide_eq_false (show ¬ k ≤ 1 by omega)]
                  unfold sLess
                  rw [hsl]
                  rfl
                clear hok hlab ha htx hs
                go_wp2
                refine wp_region_quiet_below (by kernel_rfl) (by kernel_rfl) ?_
                repeat (go_big_quiet_step (first | exact q.out _ _))
                refine wpQuiet_nil ?_
                intro _ hw'
                obtain ⟨⟨dq, osq⟩, hw''⟩ := hw'
                subst hw''
                have hb2 := below_regrown wr dq osq
                generalize grow (redrawn wr dq) osq = wq at *
                go_wp2
                go_ret
                exact ⟨ret_b (by rw [hv.out]), hb.trans (hb2.mono hb.size)⟩
      · have hkn : k = n := by omega
        subst hkn
        have hv : Hid (namesB l = true) := by show _ = _; rw [hval.out]; exact allK_good ha.out
        go_wp2
        go_ret
        exact ⟨ret_b (by rw [hv.out]), hb⟩
  · have hne := tau_ne ht0
    rw [decide_eq_false ht0] at hz0
    have hv : Hid (namesB l = false) := by show _ = _; rw [hval]; exact allK_bad (by omega) hz0
    clear hval hs hz0 hin hlen hx0 ht0 h
    go_enter Tryz.func231, Tryz.ntmps231
    go_wp2
    go_ret
    exact ⟨ret_b (by rw [hv.out]), Below.refl _ _⟩

end Go.Proofs.YtnhomkmfbngmgaaGreatDoor

namespace Go.Proofs.YtnhomkmfbngmgaaGreatDoor
open Go.ChangeShapes Go.WideShapes Go.ChangeAt Go.RowKit Go.Sort
set_option linter.unusedVariables false

theorem same_regrown {f : FuncId} {args : Array Value} {w : World} {v : Value} (h : ∀ W, Calls Tryz.prog f args W fun e w' => e = .returned v ∧ W = w') (d : Nat) (os : Array Obj) :
    Calls Tryz.prog f args (grow (redrawn w d) os) fun e w'' => e = .returned v ∧ ∃ p : Regrown, w'' = grow (redrawn w p.d) p.os := (h _).mono fun _ _ ⟨a, b⟩ => ⟨a, ⟨d, os⟩, b.symm⟩

/-- A system at a known address. -/
def LtsAt (w : World) (bt : Nat) (x : CL) (d : DL) : Prop := ReadL w 0 w.heap.size x d ∧ totL d ≤ 1048576 ∧ bt < w.heap.size ∧ w.cell? ⟨bt, 0, none⟩ = some (.int .i64 x.1) ∧ w.cell? ⟨bt, 1, none⟩ = some (.int .i64 x.2.1) ∧ w.cell? ⟨bt, 2, none⟩ = some x.2.2.1 ∧ w.cell? ⟨bt, 3, none⟩ = some x.2.2.2
theorem LtsAt.below {w w' : World} {bt B : Nat} {x : CL} {d : DL} (h : LtsAt w bt x d) (hb : Below B w w') (hB : w.heap.size ≤ B) : LtsAt w' bt x d := by
  obtain ⟨h1, h2, h3, c0, c1, c2, c3⟩ := h
  have hs := hb.size
  exact ⟨(h1.below hb (.inr hB)).more (Nat.le_refl _) hs, h2, by omega, (hb.cell (p := ⟨bt, 0, none⟩) (by show bt < B; omega)).trans c0, (hb.cell (p := ⟨bt, 1, none⟩) (by show bt < B; omega)).trans c1, (hb.cell (p := ⟨bt, 2, none⟩) (by show bt < B; omega)).trans c2, (hb.cell (p := ⟨bt, 3, none⟩) (by show bt < B; omega)).trans c3⟩

set_option maxHeartbeats 800000 in
theorem l11Less_calls (b1 o1 b2 o2 : Nat) (x1 x2 x3 y1 y2 y3 : Int) (w : World)
    (c0 : w.cell? ⟨b1, o1, none⟩ = some (.int .i64 x1)) (c1 : w.cell? ⟨b1, o1 + 1, none⟩ = some (.int .i64 x2)) (c2 : w.cell? ⟨b1, o1 + 2, none⟩ = some (.int .i64 x3))
    (d0 : w.cell? ⟨b2, o2, none⟩ = some (.int .i64 y1)) (d1 : w.cell? ⟨b2, o2 + 1, none⟩ = some (.int .i64 y2)) (d2 : w.cell? ⟨b2, o2 + 2, none⟩ = some (.int .i64 y3)) :
    Calls Tryz.prog 232 #[.pointer (some ⟨b1, o1, none⟩), .pointer (some ⟨b2, o2, none⟩)] w fun e w' => e = .returned (.bool (edLess (x1, x2, x3) (y1, y2, y3))) ∧ ∃ m, w' = w.drewN m := by
  by_cases h1 : x1 = y1
  · subst h1
    by_cases h2 : x2 = y2
    · subst h2
      have hv : Hid (edLess (x1, x2, x3) (x1, x2, y3) = decide (x3 < y3)) := by show _ = _; simp [edLess]
      go_enter Tryz.func232, Tryz.ntmps232
      go_wp2
      go_quiet (fail)
      go_wp2
      go_quiet (fail)
      go_wp2
      go_quiet (fail)
      go_wp2
      go_ret
      exact ⟨ret_b (by rw [hv.out]), _, by rw [World.drewN_drewN, World.drewN_drewN]⟩
    · have hv : Hid (edLess (x1, x2, x3) (x1, y2, y3) = decide (x2 < y2)) := by show _ = _; simp [edLess, h2]
      have hq : (x2 != y2) = true := by simpa using h2
      clear h2
      go_enter Tryz.func232, Tryz.ntmps232
      go_wp2
      go_quiet (fail)
      go_wp2
      go_quiet (fail)
      go_wp2
      go_quiet (fail)
      go_wp2
      go_ret
      exact ⟨ret_b (by rw [hv.out]), _, by rw [World.drewN_drewN, World.drewN_drewN]⟩
  · have hv : Hid (edLess (x1, x2, x3) (y1, y2, y3) = decide (x1 < y1)) := by show _ = _; simp [edLess, h1]
    have hq : (x1 != y1) = true := by simpa using h1
    clear h1
    go_enter Tryz.func232, Tryz.ntmps232
    go_wp2
    go_quiet (fail)
    go_wp2
    go_quiet (fail)
    go_wp2
    go_ret
    exact ⟨ret_b (by rw [hv.out]), _, by rw [World.drewN_drewN]⟩

theorem okE_at {st m : Int} {es : List Ed} {k : Nat} {f lb tg : Int} {r : Ed} (hx : es[k]? = some (f, lb, tg)) (hk : 0 < k) (hy : es[k - 1]? = some r) : okEd st m es k = ((inB f 0 (st - 1) && (inB tg 0 (st - 1) && inB lb 0 (m - 1))) && edLess r (f, lb, tg)) := by
  unfold okEd
  rw [hx, hy]
  have : decide (k = 0) = false := decide_eq_false (by omega)
  simp only [this, Bool.false_or, Bool.and_assoc]
theorem okE_zero {st m : Int} {es : List Ed} {f lb tg : Int} (hx : es[0]? = some (f, lb, tg)) : okEd st m es 0 = (inB f 0 (st - 1) && (inB tg 0 (st - 1) && inB lb 0 (m - 1))) := by
  unfold okEd
  rw [hx]
  simp [Bool.and_assoc]
theorem okE_bad {st m : Int} {es : List Ed} {k : Nat} {f lb tg : Int} (hx : es[k]? = some (f, lb, tg)) (h : (inB f 0 (st - 1) && (inB tg 0 (st - 1) && inB lb 0 (m - 1))) = false) : okEd st m es k = false := by
  unfold okEd
  rw [hx]
  simp only [Bool.and_assoc] at h ⊢
  rw [← Bool.and_assoc, ← Bool.and_assoc, Bool.and_assoc (inB f 0 (st - 1)), h]
  rfl
/-- The reference's test of a system. -/
abbrev ltsV := ltsB labS sLess
theorem ltsV_eq (st ini : Int) (ls : List ByteArray) (es : List Ed) : ltsV (st, ini, ls, es) = ((inB st 1 40 && (inB ini 0 (st - 1) && (namesB ls && decide (es.length ≤ 300)))) && allK (okEd st ls.length es) es.length) := by
  show ltsB labS sLess (st, ini, ls, es) = _
  unfold ltsB namesB
  simp only
  cases inB st 1 40 <;> cases inB ini 0 (st - 1) <;> cases inB (ls.length : Int) 1 12 <;> cases decide (es.length ≤ 300) <;> cases allK (okLab labS sLess ls) ls.length <;> simp

end Go.Proofs.YtnhomkmfbngmgaaGreatDoor

namespace Go.Proofs.YtnhomkmfbngmgaaGreatDoor
open Go.ChangeShapes Go.WideShapes Go.ChangeAt Go.RowKit Go.Sort
set_option linter.unusedVariables false

theorem mem_le_sum : ∀ {l : List Nat} {x : Nat}, x ∈ l → x ≤ l.sum
  | y :: l, x, h => by
    rw [List.sum_cons]
    rcases List.mem_cons.1 h with rfl | h
    · omega
    · have := mem_le_sum h
      omega

set_option maxRecDepth 100000 in
set_option maxHeartbeats 3200000 in
theorem l11Is_calls (bt : Nat) (x : CL) (d : DL) (w : World) (h : LtsAt w bt x d) :
    Calls Tryz.prog 142 #[.pointer (some ⟨bt, 0, none⟩)] w fun e w' => e = .returned (.bool (ltsV d)) ∧ Below w.heap.size w w' := by
  obtain ⟨s0, s1, v2, v3⟩ := x
  obtain ⟨st, ini, ls, es⟩ := d
  obtain ⟨⟨e0, e1, ⟨A2, n2, k2, e2, hn2, hs2, t2⟩, ⟨A3, n3, k3, e3, hn3, t3⟩⟩, htot, hbt, c0, c1, c2, c3⟩ := h
  dsimp only at *
  subst e0 e1 e2 e3
  have l2 := t2.len
  have l3 := t3.len
  have hls : ls.length ≤ 1048576 := Nat.le_trans (totL_lab (s0, s1, ls, es)) htot
  have hes : es.length ≤ 1048576 := Nat.le_trans (totL_edg (s0, s1, ls, es)) htot
  have hss : ∀ s ∈ ls, s.size ≤ 1048576 := fun s hs => by
    have h1 : s.size ≤ (ls.map (·.size)).sum := mem_le_sum (List.mem_map.2 ⟨s, hs, rfl⟩)
    simp only [totL, totS] at htot
    omega
  have hval := ltsV_eq s0 s1 ls es
  rw [l2, l3] at hval
  have q0 := same_regrown (w := w) (l00In_calls s0 1 40)
  have q1 := same_regrown (w := w) (l00In_calls s1 0 (s0 - 1))
  have q2 : ∀ d os, Calls Tryz.prog 231 #[.slice A2 n2 k2] (grow (redrawn w d) os) (fun e w'' => e = .returned (.bool (namesB ls)) ∧ ∃ p : Regrown, w'' = grow (redrawn w p.d) p.os) := fun d os => Calls.regrown_of (l11Names_calls A2 n2 k2 ls _ _ _ (t2.below (below_regrown w d os) (.inr (Nat.le_refl _))) (by omega) hss)
  have f0 := fun d os => cell_regrown c0 d os
  have f1 := fun d os => cell_regrown c1 d os
  have f2 := fun d os => cell_regrown c2 d os
  have f3 := fun d os => cell_regrown c3 d os
  generalize hB2 : namesB ls = B2 at *
  replace l2 := hide l2
  replace l3 := hide l3
  clear hls hes
  replace htot := hide htot
  replace hs2 := hide hs2
  replace hss := hide hss
  unfold maxLen at hn2 hn3
  cases z0 : inB s0 1 40 with
  | false =>
    rw [z0] at hval
    simp only [z0] at q0
    have hv : Hid (ltsV (s0, s1, ls, es) = false) := hval
    replace q0 := hide q0
    clear hval q1 q2 z0 hB2 t2 t3
    go_enter Tryz.func142, Tryz.ntmps142
    go_wp2
    refine wp_region_quiet_below (by kernel_rfl) (by kernel_rfl) ?_
    repeat (go_big_quiet_step (first | (with_reducible exact q0.out _ _)))
    refine wpQuiet_nil ?_
    intro _ hw'
    obtain ⟨⟨dq, osq⟩, hw''⟩ := hw'
    subst hw''
    have hbq := below_regrown w dq osq
    generalize grow (redrawn w dq) osq = wq at *
    go_wp2
    go_ret
    exact ⟨ret_b (by rw [hv.out]), hbq⟩
  | true =>
  have hst := inB_true.1 z0
  have hst1 := hst.1
  have hst2 := hst.2
  clear hst
  rw [z0] at hval
  simp only [z0] at q0
  replace q0 := hide q0
  cases z1 : inB s1 0 (s0 - 1) with
  | false =>
    rw [z1] at hval
    simp only [z1] at q1
    have hv : Hid (ltsV (s0, s1, ls, es) = false) := hval
    replace q1 := hide q1
    clear hval q2 z0 z1 hB2 t2 t3
    go_enter Tryz.func142, Tryz.ntmps142
    go_wp2
    refine wp_region_quiet_below (by kernel_rfl) (by kernel_rfl) ?_
    repeat (go_big_quiet_step (first | (with_reducible exact q0.out _ _) | (with_reducible exact q1.out _ _)))
    refine wpQuiet_nil ?_
    intro _ hw'
    obtain ⟨⟨dq, osq⟩, hw''⟩ := hw'
    subst hw''
    have hbq := below_regrown w dq osq
    generalize grow (redrawn w dq) osq = wq at *
    go_wp2
    go_ret
    exact ⟨ret_b (by rw [hv.out]), hbq⟩
  | true =>
  rw [z1] at hval
  simp only [z1] at q1
  replace q1 := hide q1
  cases B2 with
  | false =>
    have hv : Hid (ltsV (s0, s1, ls, es) = false) := hval
    replace q2 := hide q2
    clear hval z0 z1 hB2 t2 t3
    go_enter Tryz.func142, Tryz.ntmps142
    go_wp2
    refine wp_region_quiet_below (by kernel_rfl) (by kernel_rfl) ?_
    repeat (go_big_quiet_step (first | (with_reducible exact q0.out _ _) | (with_reducible exact q1.out _ _) | (with_reducible exact q2.out _ _)))
    refine wpQuiet_nil ?_
    intro _ hw'
    obtain ⟨⟨dq, osq⟩, hw''⟩ := hw'
    subst hw''
    have hbq := below_regrown w dq osq
    generalize grow (redrawn w dq) osq = wq at *
    go_wp2
    go_ret
    exact ⟨ret_b (by rw [hv.out]), hbq⟩
  | true =>
  replace q2 := hide q2
  by_cases h300 : n3 ≤ 300
  case neg =>
    rw [decide_eq_false h300] at hval
    have hv : Hid (ltsV (s0, s1, ls, es) = false) := hval
    have h3I : (300 : Int) < (n3 : Int) := by omega
    clear hval z0 z1 hB2 t2 t3
    go_enter Tryz.func142, Tryz.ntmps142
    go_wp2
    refine wp_region_quiet_below (by kernel_rfl) (by kernel_rfl) ?_
    repeat (go_big_quiet_step (first | (with_reducible exact q0.out _ _) | (with_reducible exact q1.out _ _) | (with_reducible exact q2.out _ _)))
    refine wpQuiet_nil ?_
    intro _ hw'
    obtain ⟨⟨dq, osq⟩, hw''⟩ := hw'
    subst hw''
    have hbq := below_regrown w dq osq
    generalize grow (redrawn w dq) osq = wq at *
    go_wp2
    go_ret
    exact ⟨ret_b (by rw [hv.out]), hbq⟩
  rw [decide_eq_true h300] at hval
  have hval2 : Hid (ltsV (s0, s1, ls, es) = allK (okEd s0 (n2 : Int) es) n3) := by show _ = _; rw [hval]; rfl
  have h3I : ¬ (300 : Int) < (n3 : Int) := by omega
  replace t3 := hide t3
  clear hval z0 z1 hB2 t2 htot hs2 hss
  go_enter Tryz.func142, Tryz.ntmps142
  go_wp2
  refine wp_region_quiet_below (by kernel_rfl) (by kernel_rfl) ?_
  repeat (go_big_quiet_step (first | (with_reducible exact q0.out _ _) | (with_reducible exact q1.out _ _) | (with_reducible exact q2.out _ _)))
  refine wpQuiet_nil ?_
  intro _ hw'
  obtain ⟨⟨dq, osq⟩, hw''⟩ := hw'
  subst hw''
  have hbq := below_regrown w dq osq
  generalize grow (redrawn w dq) osq = wq at *
  clear f0 f1 f2 f3 q0 q1 q2
  replace hbq := hide hbq
  have cc3 := (hbq.out.cell (p := ⟨bt, 3, none⟩) hbt).trans c3
  go_wp2
  go_loopw [3] (fun i wr => ∃ k : Nat, k ≤ n3 ∧ i = .int .i64 (k : Nat) ∧ Hid (∀ j, j < k → okEd s0 (n2 : Int) es j = true) ∧ Below w.heap.size w wr ∧ wr.cell? ⟨bt, 3, none⟩ = some (.slice A3 n3 k3)) (fun i _ => n3 - (intOf i).toNat)
  case atStart => exact ⟨0, Nat.zero_le _, rfl, fun j hj => absurd hj (by omega), hbq.out, cc3⟩
  case round =>
    obtain ⟨k, hk, rfl, ha, hb, y3⟩ := hrel
    clear cc3
    by_cases hlt : k < n3
    · obtain ⟨b, off, f, lb, tg, rfl, g1, g2, g3, hx, a0, a1, a2, -, -, -⟩ := SlE.get t3.out hlt
      replace a0 := (hb.cell g3).trans a0
      replace a1 := (hb.cell (p := ⟨b, off + k * 3 + 1, none⟩) g3).trans a1
      replace a2 := (hb.cell (p := ⟨b, off + k * 3 + 2, none⟩) g3).trans a2
      have hg := Nat.lt_of_lt_of_le g3 hb.size
      have hgt := Nat.lt_of_lt_of_le hbt hb.size
      have y0 := (hb.cell (p := ⟨bt, 0, none⟩) hbt).trans c0
      have y2 := (hb.cell (p := ⟨bt, 2, none⟩) hbt).trans c2
      have hbox : Below wr.heap.size wr (wr.alloc (.cells #[.int .i64 f, .int .i64 lb, .int .i64 tg] 84)) := (Below.refl _ _).alloc (Nat.le_refl _) _
      have kE := heap_alloc_new wr (.cells #[.int .i64 f, .int .i64 lb, .int .i64 tg] 84)
      have hzE : wr.heap.size < (wr.alloc (.cells #[.int .i64 f, .int .i64 lb, .int .i64 tg] 84)).heap.size := by rw [World.size_alloc]; omega
      have x0 := (hbox.cell (p := ⟨bt, 0, none⟩) hgt).trans y0
      have x2 := (hbox.cell (p := ⟨bt, 2, none⟩) hgt).trans y2
      have x3 := (hbox.cell (p := ⟨bt, 3, none⟩) hgt).trans y3
      have z0 : (wr.alloc (.cells #[.int .i64 f, .int .i64 lb, .int .i64 tg] 84)).cell? ⟨wr.heap.size, 0, none⟩ = some (.int .i64 f) := (cell_of_row _ _ 0 _ _ (0, 0) kE).trans rfl
      have z1 : (wr.alloc (.cells #[.int .i64 f, .int .i64 lb, .int .i64 tg] 84)).cell? ⟨wr.heap.size, 0 + 1, none⟩ = some (.int .i64 lb) := (cell_of_row _ _ 1 _ _ (0, 0) kE).trans rfl
      have z2 : (wr.alloc (.cells #[.int .i64 f, .int .i64 lb, .int .i64 tg] 84)).cell? ⟨wr.heap.size, 0 + 2, none⟩ = some (.int .i64 tg) := (cell_of_row _ _ 2 _ _ (0, 0) kE).trans rfl
      have hprev : 0 < k → ∃ r1 r2 r3, es[k - 1]? = some (r1, r2, r3) ∧ (wr.alloc (.cells #[.int .i64 f, .int .i64 lb, .int .i64 tg] 84)).cell? ⟨b, off + (k - 1) * 3, none⟩ = some (.int .i64 r1) ∧ (wr.alloc (.cells #[.int .i64 f, .int .i64 lb, .int .i64 tg] 84)).cell? ⟨b, off + (k - 1) * 3 + 1, none⟩ = some (.int .i64 r2) ∧ (wr.alloc (.cells #[.int .i64 f, .int .i64 lb, .int .i64 tg] 84)).cell? ⟨b, off + (k - 1) * 3 + 2, none⟩ = some (.int .i64 r3) := fun hk0 => by
        obtain ⟨b', off', r1, r2, r3, eA, -, -, -, hy, p0, p1, p2, -, -, -⟩ := SlE.get t3.out (show k - 1 < n3 by omega)
        cases eA
        exact ⟨r1, r2, r3, hy, (hbox.cell hg).trans ((hb.cell g3).trans p0), (hbox.cell (p := ⟨b, off + (k - 1) * 3 + 1, none⟩) hg).trans ((hb.cell (p := ⟨b, off + (k - 1) * 3 + 1, none⟩) g3).trans p1), (hbox.cell (p := ⟨b, off + (k - 1) * 3 + 2, none⟩) hg).trans ((hb.cell (p := ⟨b, off + (k - 1) * 3 + 2, none⟩) g3).trans p2)⟩
      replace hprev := hide hprev
      have hbw := hide (hb.trans (hbox.mono hb.size))
      have hgtW := Nat.lt_of_lt_of_le hgt hbox.size
      have hI0 : (0 : Int) ≤ (k : Int) := by omega
      have hI1 : (k : Int) < (n3 : Int) := by omega
      clear t3 hg g1 g2 g3 y0 y2 hb hbox kE c0 c1 c2 c3
      go_wp2
      clear a0 a1 a2 y3
      generalize hWE : (wr.alloc (.cells #[.int .i64 f, .int .i64 lb, .int .i64 tg] 84)) = WE at *
      generalize hbE : wr.heap.size = bE at *
      clear hWE hbE
      have r0 := same_regrown (w := WE) (l00In_calls f 0 (s0 - 1))
      have r1 := same_regrown (w := WE) (l00In_calls tg 0 (s0 - 1))
      have r2 := same_regrown (w := WE) (l00In_calls lb 0 ((n2 : Int) - 1))
      have f0 := fun d os => cell_regrown x0 d os
      have f2 := fun d os => cell_regrown x2 d os
      have u0 := fun d os => cell_regrown z0 d os
      have u1 := fun d os => cell_regrown z1 d os
      have u2 := fun d os => cell_regrown z2 d os
      simp only [Nat.zero_add] at u1 u2
      cases w0 : inB f 0 (s0 - 1) with
      | false =>
        have hv : Hid (ltsV (s0, s1, ls, es) = false) := by show _ = _; rw [hval2.out]; exact allK_bad hlt (okE_bad hx (by rw [w0]; rfl))
        simp only [w0] at r0
        replace r0 := hide r0
        clear r1 r2 w0 hx hprev ha
        refine wp_region_quiet_below (by kernel_rfl) (by kernel_rfl) ?_
        repeat (go_big_quiet_step (first | (with_reducible exact r0.out _ _)))
        refine wpQuiet_nil ?_
        intro _ hw'
        obtain ⟨⟨dq, osq⟩, hw''⟩ := hw'
        subst hw''
        have hbq := below_regrown WE dq osq
        generalize grow (redrawn WE dq) osq = wq at *
        go_wp2
        go_ret
        exact ⟨ret_b (by rw [hv.out]), hbw.out.trans (hbq.mono hbw.out.size)⟩
      | true =>
      simp only [w0] at r0
      replace r0 := hide r0
      cases w1 : inB tg 0 (s0 - 1) with
      | false =>
        have hv : Hid (ltsV (s0, s1, ls, es) = false) := by show _ = _; rw [hval2.out]; exact allK_bad hlt (okE_bad hx (by rw [w0, w1]; rfl))
        simp only [w1] at r1
        replace r1 := hide r1
        clear r2 w0 w1 hx hprev ha
        refine wp_region_quiet_below (by kernel_rfl) (by kernel_rfl) ?_
        repeat (go_big_quiet_step (first | (with_reducible exact r0.out _ _) | (with_reducible exact r1.out _ _)))
        refine wpQuiet_nil ?_
        intro _ hw'
        obtain ⟨⟨dq, osq⟩, hw''⟩ := hw'
        subst hw''
        have hbq := below_regrown WE dq osq
        generalize grow (redrawn WE dq) osq = wq at *
        go_wp2
        go_ret
        exact ⟨ret_b (by rw [hv.out]), hbw.out.trans (hbq.mono hbw.out.size)⟩
      | true =>
      simp only [w1] at r1
      replace r1 := hide r1
      cases w2 : inB lb 0 ((n2 : Int) - 1) with
      | false =>
        have hv : Hid (ltsV (s0, s1, ls, es) = false) := by show _ = _; rw [hval2.out]; exact allK_bad hlt (okE_bad hx (by rw [w0, w1, w2]; rfl))
        simp only [w2] at r2
        replace r2 := hide r2
        clear w0 w1 w2 hx hprev ha
        refine wp_region_quiet_below (by kernel_rfl) (by kernel_rfl) ?_
        repeat (go_big_quiet_step (first | (with_reducible exact r0.out _ _) | (with_reducible exact r1.out _ _) | (with_reducible exact r2.out _ _)))
        refine wpQuiet_nil ?_
        intro _ hw'
        obtain ⟨⟨dq, osq⟩, hw''⟩ := hw'
        subst hw''
        have hbq := below_regrown WE dq osq
        generalize grow (redrawn WE dq) osq = wq at *
        go_wp2
        go_ret
        exact ⟨ret_b (by rw [hv.out]), hbw.out.trans (hbq.mono hbw.out.size)⟩
      | true =>
      simp only [w2] at r2
      replace r2 := hide r2
      by_cases hk0 : 0 < k
      · obtain ⟨p1, p2, p3, hy, v0, v1, v2⟩ := hprev.out hk0
        have hok := okE_at (st := s0) (m := (n2 : Int)) hx hk0 hy
        rw [w0, w1, w2] at hok
        have hlI : (0 : Int) < (k : Int) := by omega
        have hlJ : decide ((0 : Int) < (k : Int)) = true := decide_eq_true hlI
        have hI4 : (1 : Int) ≤ (k : Int) := by omega
        have hI3 : (k : Int) - 1 < (n3 : Int) := by omega
        have hI5 : ((k : Int) - 1).toNat = k - 1 := by omega
        cases hls : edLess (p1, p2, p3) (f, lb, tg) with
        | true =>
          have hnext : Hid (∀ j, j < k + 1 → okEd s0 (n2 : Int) es j = true) := lt_succ_cases ha.out (by rw [hok, hls]; rfl)
          clear w0 w1 w2 hx hprev ha hok hy
          refine wp_region_quiet_below (by kernel_rfl) (by kernel_rfl) ?_
          repeat (go_big_quiet_step (first | (with_reducible exact r0.out _ _) | (with_reducible exact r1.out _ _) | (with_reducible exact r2.out _ _)))
          refine wpQuiet_nil ?_
          intro _ hw'
          obtain ⟨⟨dq, osq⟩, hw''⟩ := hw'
          subst hw''
          have hbq := below_regrown WE dq osq
          generalize grow (redrawn WE dq) osq = wq at *
          have l0 := (hbq.cell (p := ⟨b, off + (k - 1) * 3, none⟩) (block_lt_of_cell v0)).trans v0
          have l1 := (hbq.cell (p := ⟨b, off + (k - 1) * 3 + 1, none⟩) (block_lt_of_cell v1)).trans v1
          have l2' := (hbq.cell (p := ⟨b, off + (k - 1) * 3 + 2, none⟩) (block_lt_of_cell v2)).trans v2
          have m0 := (hbq.cell (p := ⟨bE, 0, none⟩) (block_lt_of_cell z0)).trans z0
          have m1 := (hbq.cell (p := ⟨bE, 0 + 1, none⟩) (block_lt_of_cell z1)).trans z1
          have m2 := (hbq.cell (p := ⟨bE, 0 + 2, none⟩) (block_lt_of_cell z2)).trans z2
          have m3 := (hbq.cell (p := ⟨bt, 3, none⟩) hgtW).trans x3
          have hbq2 := hide (hbw.out.trans (hbq.mono hbw.out.size))
          have ql := l11Less_calls b (off + (k - 1) * 3) bE 0 p1 p2 p3 f lb tg wq l0 l1 l2' m0 m1 m2
          rw [hls] at ql
          replace ql := hide ql
          clear f0 f2 u0 u1 u2 z0 z1 z2 x0 x2 v0 v1 v2 l0 l1 l2' m0 m1 m2 x3 hbq
          go_wp2_with (first | (go_at_call 232; (with_reducible refine ql.out.mono ?_); rintro e w9 ⟨rfl, mm, rfl⟩))
          go_roundw
          case rel => exact ⟨k + 1, by omega, by go_num, hnext, hbq2.out.trans (below_drewN wq mm |>.mono hbq2.out.size), m3⟩
          case measure => simp [intOf]; omega
        | false =>
          have hv : Hid (ltsV (s0, s1, ls, es) = false) := by show _ = _; rw [hval2.out]; exact allK_bad hlt (by rw [hok, hls]; rfl)
          clear w0 w1 w2 hx hprev ha hok hy
          refine wp_region_quiet_below (by kernel_rfl) (by kernel_rfl) ?_
          repeat (go_big_quiet_step (first | (with_reducible exact r0.out _ _) | (with_reducible exact r1.out _ _) | (with_reducible exact r2.out _ _)))
          refine wpQuiet_nil ?_
          intro _ hw'
          obtain ⟨⟨dq, osq⟩, hw''⟩ := hw'
          subst hw''
          have hbq := below_regrown WE dq osq
          generalize grow (redrawn WE dq) osq = wq at *
          have l0 := (hbq.cell (p := ⟨b, off + (k - 1) * 3, none⟩) (block_lt_of_cell v0)).trans v0
          have l1 := (hbq.cell (p := ⟨b, off + (k - 1) * 3 + 1, none⟩) (block_lt_of_cell v1)).trans v1
          have l2' := (hbq.cell (p := ⟨b, off + (k - 1) * 3 + 2, none⟩) (block_lt_of_cell v2)).trans v2
          have m0 := (hbq.cell (p := ⟨bE, 0, none⟩) (block_lt_of_cell z0)).trans z0
          have m1 := (hbq.cell (p := ⟨bE, 0 + 1, none⟩) (block_lt_of_cell z1)).trans z1
          have m2 := (hbq.cell (p := ⟨bE, 0 + 2, none⟩) (block_lt_of_cell z2)).trans z2
          have m3 := (hbq.cell (p := ⟨bt, 3, none⟩) hgtW).trans x3
          have hbq2 := hide (hbw.out.trans (hbq.mono hbw.out.size))
          have ql := l11Less_calls b (off + (k - 1) * 3) bE 0 p1 p2 p3 f lb tg wq l0 l1 l2' m0 m1 m2
          rw [hls] at ql
          replace ql := hide ql
          clear f0 f2 u0 u1 u2 z0 z1 z2 x0 x2 v0 v1 v2 l0 l1 l2' m0 m1 m2 x3 hbq
          go_wp2_with (first | (go_at_call 232; (with_reducible refine ql.out.mono ?_); rintro e w9 ⟨rfl, mm, rfl⟩))
          go_ret
          exact ⟨ret_b (by rw [hv.out]), hbq2.out.trans (below_drewN wq mm |>.mono hbq2.out.size)⟩
      · have hk00 : k = 0 := by omega
        subst hk00
        have hok := okE_zero (st := s0) (m := (n2 : Int)) hx
        rw [w0, w1, w2] at hok
        have hnext : Hid (∀ j, j < 0 + 1 → okEd s0 (n2 : Int) es j = true) := lt_succ_cases ha.out (by rw [hok]; rfl)
        clear w0 w1 w2 hx hprev ha hok
        refine wp_region_quiet_below (by kernel_rfl) (by kernel_rfl) ?_
        repeat (go_big_quiet_step (first | (with_reducible exact r0.out _ _) | (with_reducible exact r1.out _ _) | (with_reducible exact r2.out _ _)))
        refine wpQuiet_nil ?_
        intro _ hw'
        obtain ⟨⟨dq, osq⟩, hw''⟩ := hw'
        subst hw''
        have hbq := below_regrown WE dq osq
        generalize grow (redrawn WE dq) osq = wq at *
        have m3 := (hbq.cell (p := ⟨bt, 3, none⟩) hgtW).trans x3
        have hbq2 := hide (hbw.out.trans (hbq.mono hbw.out.size))
        clear f0 f2 u0 u1 u2 z0 z1 z2 x0 x2 x3
        go_wp2
        go_roundw
        case rel => exact ⟨0 + 1, by omega, by go_num, hnext, hbq2.out, m3⟩
        case measure => simp [intOf]; omega
    · have hkn : k = n3 := by omega
      subst hkn
      have hv : Hid (ltsV (s0, s1, ls, es) = true) := by show _ = _; rw [hval2.out]; exact allK_good ha.out
      go_wp2
      go_ret
      exact ⟨ret_b (by rw [hv.out]), hb⟩

end Go.Proofs.YtnhomkmfbngmgaaGreatDoor

namespace Go.Proofs.YtnhomkmfbngmgaaGreatDoor
open Go.ChangeShapes Go.WideShapes Go.ChangeAt Go.RowKit Go.Sort
set_option linter.unusedVariables false

theorem okD_at {es : List Ed} {k : Nat} {f lb tg r1 r2 r3 : Int} (hx : es[k]? = some (f, lb, tg)) (hk : 0 < k) (hy : es[k - 1]? = some (r1, r2, r3)) : okDet es k = (!(decide (lb = 0)) && !(decide (r1 = f) && decide (r2 = lb))) := by
  unfold okDet
  rw [hx, hy]
  have : decide (k = 0) = false := decide_eq_false (by omega)
  simp only [this, Bool.false_or]
theorem okD_zero {es : List Ed} {f lb tg : Int} (hx : es[0]? = some (f, lb, tg)) : okDet es 0 = !(decide (lb = 0)) := by
  unfold okDet
  rw [hx]
  simp
theorem okD_bad {es : List Ed} {k : Nat} {f lb tg : Int} (hx : es[k]? = some (f, lb, tg)) (h : lb = 0) : okDet es k = false := by
  unfold okDet
  rw [hx]
  simp [h]

set_option maxRecDepth 100000 in
set_option maxHeartbeats 1600000 in
theorem l11Single_calls (bt : Nat) (x : CL) (d : DL) (w : World) (h : LtsAt w bt x d) :
    Calls Tryz.prog 143 #[.pointer (some ⟨bt, 0, none⟩)] w fun e w' => e = .returned (.bool (detB d.2.2.2)) ∧ Below w.heap.size w w' := by
  obtain ⟨s0, s1, v2, v3⟩ := x
  obtain ⟨st, ini, ls, es⟩ := d
  obtain ⟨⟨e0, e1, -, ⟨A3, n3, k3, e3, hn3, t3⟩⟩, htot, hbt, -, -, -, c3⟩ := h
  dsimp only at *
  subst e0 e1 e3
  have l3 := t3.len
  have hval : Hid (detB es = allK (okDet es) n3) := by show _ = _; unfold detB; rw [l3]
  replace t3 := hide t3
  clear htot l3
  unfold maxLen at hn3
  go_enter Tryz.func143, Tryz.ntmps143
  go_wp2
  go_loopw [3] (fun i wr => ∃ k : Nat, k ≤ n3 ∧ i = .int .i64 (k : Nat) ∧ Hid (∀ j, j < k → okDet es j = true) ∧ Below w.heap.size w wr ∧ wr.cell? ⟨bt, 3, none⟩ = some (.slice A3 n3 k3)) (fun i _ => n3 - (intOf i).toNat)
  case atStart => exact ⟨0, Nat.zero_le _, rfl, fun j hj => absurd hj (by omega), Below.refl _ _, c3⟩
  case round =>
    obtain ⟨k, hk, rfl, ha, hb, y3⟩ := hrel
    clear c3
    by_cases hlt : k < n3
    · obtain ⟨b, off, f, lb, tg, rfl, g1, g2, g3, hx, a0, a1, -, -, -, -⟩ := SlE.get t3.out hlt
      replace a0 := (hb.cell g3).trans a0
      replace a1 := (hb.cell (p := ⟨b, off + k * 3 + 1, none⟩) g3).trans a1
      have hgt := Nat.lt_of_lt_of_le hbt hb.size
      have f3 := fun d os => cell_regrown y3 d os
      have u0 := fun d os => cell_regrown a0 d os
      have u1 := fun d os => cell_regrown a1 d os
      have hI0 : (0 : Int) ≤ (k : Int) := by omega
      have hI1 : (k : Int) < (n3 : Int) := by omega
      by_cases hlb : lb = 0
      · have hv : Hid (detB es = false) := by show _ = _; rw [hval.out]; exact allK_bad hlt (okD_bad hx hlb)
        subst hlb
        clear t3 hx ha g1 g2 g3
        go_wp2
        refine wp_region_quiet_below (by kernel_rfl) (by kernel_rfl) ?_
        repeat (go_big_quiet_step (fail))
        refine wpQuiet_nil ?_
        intro _ hw'
        obtain ⟨⟨dq, osq⟩, hw''⟩ := hw'
        subst hw''
        have hbq := below_regrown wr dq osq
        generalize grow (redrawn wr dq) osq = wq at *
        go_wp2
        go_ret
        exact ⟨ret_b (by rw [hv.out]), hb.trans (hbq.mono hb.size)⟩
      have hl0 : (lb == 0) = false := by rw [beq_eq_false_iff_ne]; exact hlb
      by_cases hk0 : 0 < k
      · obtain ⟨b', off', r1, r2, r3, eA, -, -, -, hy, p0, p1, -, -, -, -⟩ := SlE.get t3.out (show k - 1 < n3 by omega)
        cases eA
        replace p0 := (hb.cell g3).trans p0
        replace p1 := (hb.cell (p := ⟨b, off + (k - 1) * 3 + 1, none⟩) g3).trans p1
        have v0 := fun d os => cell_regrown p0 d os
        have v1 := fun d os => cell_regrown p1 d os
        have hok := okD_at hx hk0 hy
        rw [decide_eq_false hlb] at hok
        have hlI : (0 : Int) < (k : Int) := by omega
        have hlJ : decide ((0 : Int) < (k : Int)) = true := decide_eq_true hlI
        have hI4 : (1 : Int) ≤ (k : Int) := by omega
        have hI3 : (k : Int) - 1 < (n3 : Int) := by omega
        have hI5 : ((k : Int) - 1).toNat = k - 1 := by omega
        clear t3 g1 g2 g3 hx hy hlb
        by_cases hf : f = r1
        · by_cases hr : lb = r2
          · have hv : Hid (detB es = false) := by show _ = _; rw [hval.out]; exact allK_bad hlt (by rw [hok, decide_eq_true hf.symm, decide_eq_true hr.symm]; rfl)
            subst hf hr
            clear hok ha
            go_wp2
            refine wp_region_quiet_below (by kernel_rfl) (by kernel_rfl) ?_
            repeat (go_big_quiet_step (fail))
            refine wpQuiet_nil ?_
            intro _ hw'
            obtain ⟨⟨dq, osq⟩, hw''⟩ := hw'
            subst hw''
            have hbq := below_regrown wr dq osq
            generalize grow (redrawn wr dq) osq = wq at *
            go_wp2
            go_ret
            exact ⟨ret_b (by rw [hv.out]), hb.trans (hbq.mono hb.size)⟩
          · have hnext : Hid (∀ j, j < k + 1 → okDet es j = true) := lt_succ_cases ha.out (by rw [hok, decide_eq_false (fun e : r2 = lb => hr e.symm)]; simp)
            have hrb : (lb == r2) = false := by rw [beq_eq_false_iff_ne]; exact hr
            subst hf
            clear hok ha hr
            go_wp2
            refine wp_region_quiet_below (by kernel_rfl) (by kernel_rfl) ?_
            repeat (go_big_quiet_step (fail))
            refine wpQuiet_nil ?_
            intro _ hw'
            obtain ⟨⟨dq, osq⟩, hw''⟩ := hw'
            subst hw''
            have hbq := below_regrown wr dq osq
            generalize grow (redrawn wr dq) osq = wq at *
            have y3q := (hbq.cell (p := ⟨bt, 3, none⟩) hgt).trans y3
            clear f3 u0 u1 v0 v1
            go_wp2
            go_roundw
            case rel => exact ⟨k + 1, by omega, by go_num, hnext, hb.trans (hbq.mono hb.size), y3q⟩
            case measure => simp [intOf]; omega
        · have hnext : Hid (∀ j, j < k + 1 → okDet es j = true) := lt_succ_cases ha.out (by rw [hok, decide_eq_false (fun e : r1 = f => hf e.symm)]; rfl)
          have hfb : (f == r1) = false := by rw [beq_eq_false_iff_ne]; exact hf
          clear hok ha hf
          go_wp2
          refine wp_region_quiet_below (by kernel_rfl) (by kernel_rfl) ?_
          repeat (go_big_quiet_step (fail))
          refine wpQuiet_nil ?_
          intro _ hw'
          obtain ⟨⟨dq, osq⟩, hw''⟩ := hw'
          subst hw''
          have hbq := below_regrown wr dq osq
          generalize grow (redrawn wr dq) osq = wq at *
          have y3q := (hbq.cell (p := ⟨bt, 3, none⟩) hgt).trans y3
          clear f3 u0 u1 v0 v1
          go_wp2
          go_roundw
          case rel => exact ⟨k + 1, by omega, by go_num, hnext, hb.trans (hbq.mono hb.size), y3q⟩
          case measure => simp [intOf]; omega
      · have hk00 : k = 0 := by omega
        subst hk00
        have hnext : Hid (∀ j, j < 0 + 1 → okDet es j = true) := lt_succ_cases ha.out (by rw [okD_zero hx, decide_eq_false hlb]; rfl)
        clear t3 hx ha hlb hval g1 g2 g3
        go_wp2
        refine wp_region_quiet_below (by kernel_rfl) (by kernel_rfl) ?_
        repeat (go_big_quiet_step (fail))
        refine wpQuiet_nil ?_
        intro _ hw'
        obtain ⟨⟨dq, osq⟩, hw''⟩ := hw'
        subst hw''
        have hbq := below_regrown wr dq osq
        generalize grow (redrawn wr dq) osq = wq at *
        have y3q := (hbq.cell (p := ⟨bt, 3, none⟩) hgt).trans y3
        clear f3 u0 u1
        go_wp2
        go_roundw
        case rel => exact ⟨0 + 1, by omega, by go_num, hnext, hb.trans (hbq.mono hb.size), y3q⟩
        case measure => simp [intOf]; omega
    · have hkn : k = n3 := by omega
      subst hkn
      have hv : Hid (detB es = true) := by show _ = _; rw [hval.out]; exact allK_good ha.out
      go_wp2
      go_ret
      exact ⟨ret_b (by rw [hv.out]), hb⟩

theorem flat_ev : Flat ev 3 := ⟨fun _ => rfl, fun x u h => by simp [ev] at h; rcases h with rfl | rfl | rfl <;> rfl⟩
theorem elem_edge : Elem Tryz.prog 25 84 3 24 := Elem.of Tryz.underlying25 info_implEdge rfl (by decide) (by decide)
def outE (es : List Ed) (s : Int) : List Ed := es.filter fun e => decide (e.1 = s)
theorem outE_succ {es : List Ed} {k : Nat} {e : Ed} {s : Int} (hx : es[k]? = some e) : outE (es.take (k + 1)) s = outE (es.take k) s ++ (if e.1 = s then [e] else []) := by
  unfold outE
  rw [List.take_add_one, hx, List.filter_append]
  congr 1
  by_cases h : e.1 = s <;> simp [h]

set_option maxRecDepth 100000 in
set_option maxHeartbeats 1600000 in
theorem l11Out_calls (bt : Nat) (x : CL) (d : DL) (s : Int) (w : World) (h : LtsAt w bt x d) :
    Calls Tryz.prog 145 #[.pointer (some ⟨bt, 0, none⟩), .int .i64 s] w fun e w' => ∃ A n c, e = .returned (.slice A n c) ∧ SlE w' w.heap.size w'.heap.size A n (outE d.2.2.2 s) ∧ n ≤ 1048576 ∧ Below w.heap.size w w' := by
  obtain ⟨s0, s1, v2, v3⟩ := x
  obtain ⟨st, ini, ls, es⟩ := d
  obtain ⟨⟨e0, e1, -, ⟨A3, n3, k3, e3, hn3, t3⟩⟩, htot, hbt, -, -, -, c3⟩ := h
  dsimp only at *
  subst e0 e1 e3
  have l3 := hide t3.len
  have hes : n3 ≤ 1048576 := by rw [← l3.out]; exact Nat.le_trans (totL_edg (s0, s1, ls, es)) htot
  have hE := hide elem_edge
  replace t3 := hide t3
  clear htot hn3
  go_enter Tryz.func145, Tryz.ntmps145
  go_wp2
  go_loopw [5, 6] (fun o i wr => ∃ k m c A, k ≤ n3 ∧ m ≤ k ∧ o = .slice A m c ∧ i = .int .i64 (k : Nat) ∧ Hid (Own 3 ev wr w.heap.size 84 A m c (outE (es.take k) s)) ∧ Below w.heap.size w wr ∧ wr.cell? ⟨bt, 3, none⟩ = some (.slice A3 n3 k3)) (fun _ i _ => n3 - (intOf i).toNat)
  case atStart => exact ⟨0, 0, 0, _, Nat.zero_le _, Nat.le_refl _, rfl, rfl, Own.made w 84 (Nat.le_refl _), (Below.refl _ _).alloc (Nat.le_refl _) _, (((Below.refl w.heap.size w).alloc (Nat.le_refl _) _).cell (p := ⟨bt, 3, none⟩) hbt).trans c3⟩
  case round =>
    obtain ⟨k, m, c, A, hk, hmk, rfl, rfl, hown, hb, y3⟩ := hrel
    clear c3
    have hz := hb.size
    have hza : ∀ o, w.heap.size ≤ (wr.alloc o).heap.size := fun o => by rw [World.size_alloc]; omega
    by_cases hlt : k < n3
    · obtain ⟨b, off, f, lb, tg, rfl, g1, g2, g3, hx, a0, a1, a2, -, -, -⟩ := SlE.get t3.out hlt
      replace a0 := (hb.cell g3).trans a0
      replace a1 := (hb.cell (p := ⟨b, off + k * 3 + 1, none⟩) g3).trans a1
      replace a2 := (hb.cell (p := ⟨b, off + k * 3 + 2, none⟩) g3).trans a2
      have hsu := outE_succ (s := s) hx
      clear t3 hx g1 g2
      by_cases hf : f = s
      · subst hf
        rw [if_pos rfl] at hsu
        replace hsu := hide hsu
        go_wp2_with (first | (at_builtin; (with_reducible refine wpList_app rfl (.tmp 27) (.tmp 35) rfl hE.out flat_ev rfl (hown.out.alloc _) rfl (Sl.lit1' wr 84 (f, lb, tg) _ rfl 3 _ ?c0) ?c1 (hza _) ?_); rotate_right; intro A5 c5 w5 hown5 hgr5 hb5 _))
        case c0 => rfl
        case c1 => omega
        have hb6 := (hb.alloc hz (.cells #[.int .i64 f, .int .i64 lb, .int .i64 tg] 84)).trans hb5
        have y5 := (((hb.alloc hz (.cells #[.int .i64 f, .int .i64 lb, .int .i64 tg] 84)).trans hb5).cell (p := ⟨bt, 3, none⟩) hbt)
        have y30 := (hb.cell (p := ⟨bt, 3, none⟩) hbt)
        rw [y3] at y30
        have y6 := y5.trans y30.symm
        replace hown5 : Hid (Own 3 ev w5 w.heap.size 84 A5 (m + 1) c5 (outE (es.take (k + 1)) f)) := by show Own _ _ _ _ _ _ _ _ _; rw [hsu.out]; exact hown5
        go_roundw
        case rel => exact ⟨k + 1, m + 1, c5, A5, by omega, by omega, rfl, by go_num, hown5, hb6, y6⟩
        case measure => simp [intOf]; omega
      · rw [if_neg hf, List.append_nil] at hsu
        have hfb : (f == s) = false := by rw [beq_eq_false_iff_ne]; exact hf
        replace hown : Hid (Own 3 ev wr w.heap.size 84 A m c (outE (es.take (k + 1)) s)) := by show Own _ _ _ _ _ _ _ _ _; rw [hsu]; exact hown.out
        clear hsu hf
        go_wp2_with fail
        go_roundw
        case rel => exact ⟨k + 1, m, c, A, by omega, by omega, rfl, by go_num, hown, hb, y3⟩
        case measure => simp [intOf]; omega
    · have hkn : k = n3 := by omega
      have hall : es.take k = es := List.take_of_length_le (by rw [l3.out, hkn]; exact Nat.le_refl _)
      have hsl := hide (hown.out.sl flat_ev)
      replace hall := hide hall
      subst hkn
      go_wp2_with fail
      go_ret
      have h1 := hsl.out
      rw [hall.out] at h1
      exact ⟨A, m, c, rfl, h1, by omega, hb⟩

end Go.Proofs.YtnhomkmfbngmgaaGreatDoor
