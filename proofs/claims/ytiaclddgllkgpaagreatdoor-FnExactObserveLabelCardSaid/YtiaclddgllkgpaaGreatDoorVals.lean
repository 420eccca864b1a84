/-
  The reference's test of a label. Conditions: sizes.
-/
import Derived.Test.YtiaclddgllkgpaaGreatDoorNumber
namespace Go.Proofs.YtiaclddgllkgpaaGreatDoor
open Go.ChangeShapes Go.WideShapes Go.ChangeAt Go.RowKit
set_option linter.unusedVariables false

theorem run_sub (s : ByteArray) (a b : Nat) (h1 : a ≤ b) (h2 : b ≤ s.size) (W : World) :
    (Instr.slice 9 (.string s) (some (.int .i64 (a : Int))) (some (.int .i64 (b : Int))) none).run Tryz.prog W = .ok (.string (s.extract a b)) W := by
  have e1 : (a : Int) ≤ (b : Int) := by omega
  have e2 : (b : Int) ≤ (s.size : Int) := by omega
  simp [Instr.slice, run_underlying Tryz.underlying9, Instr.sliceBounds, run_sliceBound, e1, e2]

def nameL (l : List UInt8) : Bool := nameB (mkB l)
/-- Labels, by the reference. -/
def labS (s : ByteArray) : Bool := (valsS nameL s.data.toList).isSome
theorem nameL_data (s : ByteArray) : nameL s.data.toList = nameB s := by unfold nameL mkB; rw [bytes_eta]
def actB (s : ByteArray) : Bool := nameB s && !(decide (s = tauB))
theorem mkB_inj {a b : List UInt8} (h : mkB a = mkB b) : a = b := by
  have := congrArg (fun s : ByteArray => s.data.toList) h
  simpa [mkB] using this
theorem tauB_eq : tauB = mkB tauL := rfl

theorem tau_list : tauB.toList = [116, 97, 117] := ByteArray.toList_mk _
theorem tau_ne {s : ByteArray} (h : s ≠ tauB) : (s.toList == [116, 97, 117]) = false := by rw [← tau_list]; exact str_neq h

theorem l01Action_calls (s : ByteArray) (w : World) (hs : s.size ≤ 1048576) : Calls Tryz.prog 195 #[.string s] w fun e w' => e = .returned (.bool (actB s)) ∧ w = w' := by
  have q := l01Name_calls s w (by unfold maxLen; omega)
  by_cases hn : nameB s = true
  · rw [hn] at q
    replace q := hide q
    by_cases ht : s = tauB
    · have hv : Hid (actB s = false) := by show _ = _; unfold actB; simp [ht]
      subst ht
      clear hn
      go_enter Tryz.func195, Tryz.ntmps195
      go_wp2_with (first | (go_at_call 200; (with_reducible refine q.out.mono ?_); rintro e w1 ⟨rfl, rfl⟩))
      go_ret
      exact ⟨ret_b (by rw [hv.out, tau_list]; rfl), rfl⟩
    · have hv : Hid (actB s = true) := by show _ = _; unfold actB; simp [ht, hn]
      have hne := tau_ne ht
      clear hn ht
      go_enter Tryz.func195, Tryz.ntmps195
      go_wp2_with (first | (go_at_call 200; (with_reducible refine q.out.mono ?_); rintro e w1 ⟨rfl, rfl⟩))
      go_ret
      exact ⟨ret_b (by rw [hv.out]), rfl⟩
  · replace hn := Bool.eq_false_iff.2 hn
    have hv : Hid (actB s = false) := by show _ = _; unfold actB; rw [hn]; rfl
    rw [hn] at q
    replace q := hide q
    clear hn
    go_enter Tryz.func195, Tryz.ntmps195
    go_wp2_with (first | (go_at_call 200; (with_reducible refine q.out.mono ?_); rintro e w1 ⟨rfl, rfl⟩))
    go_ret
    exact ⟨ret_b (by rw [hv.out]), rfl⟩

theorem numsOf_none {f : List UInt8 → Option Int} : ∀ {l : List (List UInt8)} {k : Nat} {x : List UInt8}, l[k]? = some x → f x = none → numsOf f l = none
  | [], k, x, h, _ => by simp at h
  | y :: l, 0, x, h, hf => by
    simp at h
    subst h
    unfold numsOf
    rw [hf]
  | y :: l, k + 1, x, h, hf => by
    unfold numsOf
    rw [numsOf_none (l := l) (k := k) (by simpa using h) hf]
    split
    · rename_i h1; cases h1
    · rfl
theorem numsOf_some {f : List UInt8 → Option Int} : ∀ {l : List (List UInt8)}, (∀ (k : Nat) x, l[k]? = some x → (f x).isSome = true) → (numsOf f l).isSome = true
  | [], _ => rfl
  | y :: l, h => by
    have h1 := h 0 y rfl
    have h2 := numsOf_some (l := l) (f := f) (fun k x hx => h (k + 1) x (by simpa using hx))
    unfold numsOf
    cases hy : f y with
    | none => rw [hy] at h1; cases h1
    | some n =>
      cases hl : numsOf f l with
      | none => rw [hl] at h2; cases h2
      | some ns => rfl
theorem numV_in {l : List UInt8} {v : Int} (h : numS l = some v) : (numV l).isSome = inB v 0 63 := by
  unfold numV
  rw [h]
  have : isVal v = inB v 0 63 := rfl
  rw [← this]
  cases hv : isVal v <;> simp [Option.filter, hv]
theorem splitC_mem_len (c : UInt8) : ∀ (l x : List UInt8), x ∈ splitC c l → x.length ≤ l.length
  | [], x, h => by simp [splitC] at h; subst h; simp
  | y :: l, x, h => by
    have ih := splitC_mem_len c l
    by_cases hy : y = c
    · subst hy
      rw [splitC_ceq, List.mem_cons] at h
      rcases h with rfl | h
      · simp
      · have := ih x h
        simp only [List.length_cons]
        omega
    · rw [splitC_cne hy, List.mem_cons] at h
      obtain ⟨p, ps, hp⟩ := List.exists_cons_of_ne_nil (splitC_ne c l)
      rw [hp] at h ih
      simp only [List.headD_cons, List.tail_cons] at h
      rcases h with rfl | h
      · have := ih p (by simp)
        simp only [List.length_cons]
        omega
      · have := ih x (List.mem_cons_of_mem _ h)
        simp only [List.length_cons]
        omega
theorem elem_int : Elem Tryz.prog 26 2 1 8 := Elem.of Tryz.underlying26 info_int64 rfl (by decide) (by decide)

/-- What the tests of a label with a bracket see. -/
theorem open_hit {s : ByteArray} {a b : List UInt8} (h : s.data.toList = a ++ 40 :: b) (hn : (40 : UInt8) ∉ a) : openN s = a.length := by
  unfold openN
  rw [h]
  refine takeWhile_hit (fun j x hj hx => ?_) (by rw [List.getElem?_append_right (Nat.le_refl _)]; simp)
  rw [List.getElem?_append_left hj] at hx
  rintro rfl
  exact hn (List.mem_of_getElem? hx)
theorem open_miss {s : ByteArray} (hn : (40 : UInt8) ∉ s.data.toList) : openN s = s.size := by
  unfold openN
  rw [takeWhile_all (fun j x hx => by rintro rfl; exact hn (List.mem_of_getElem? hx)), bsize]
theorem labS_miss {s : ByteArray} (hn : (40 : UInt8) ∉ s.data.toList) : labS s = nameB s := by
  unfold labS valsS
  rw [if_pos hn, nameL_data]
  cases nameB s <;> rfl
theorem labS_hit {s : ByteArray} {a b : List UInt8} (h : s.data.toList = a ++ 40 :: b) (hn : (40 : UInt8) ∉ a) :
    labS s = ((actB (mkB a) && ((40 :: b).getLast? == some 41)) && ((numsOf numV (splitC 44 b.dropLast)).filter (fun ns => decide (ns.length ≤ 2))).isSome) := by
  unfold labS valsS labName
  rw [h, if_neg (by simp), cut_hit hn]
  have hlast : (a ++ 40 :: b).getLast? = (40 :: b).getLast? := by
    rw [List.getLast?_append]
    cases hh : (40 :: b).getLast? with
    | none => exact absurd (List.getLast?_eq_none_iff.1 hh) (by simp)
    | some x => rfl
  rw [hlast]
  have hact : (nameL a && !(a == tauL)) = actB (mkB a) := by
    unfold actB nameL
    congr 2
    by_cases h : a = tauL
    · subst h
      rw [decide_eq_true (show mkB tauL = tauB from rfl)]
      simp
    · have h2 : ¬ mkB a = tauB := fun e => h (mkB_inj e)
      rw [decide_eq_false h2, beq_eq_false_iff_ne]
      exact h
  simp only [hact]
  cases hc : (actB (mkB a) && ((40 :: b).getLast? == some 41)) <;> simp
theorem last_at {s : ByteArray} {a b : List UInt8} {z : Nat} (h : s.data.toList = a ++ 40 :: b) (hz : s.size = z + 1) (hlt : z < s.size) : (40 :: b).getLast? = some s[z] := by
  have h1 := bget s z hlt
  have hl : z + 1 = a.length + (b.length + 1) := by
    have := congrArg List.length h
    rw [bsize, List.length_append, List.length_cons] at this
    omega
  rw [h, List.getElem?_append_right (by omega)] at h1
  rw [List.getLast?_eq_getElem?, ← h1]
  congr 1
  simp only [List.length_cons]
  omega
theorem mid_at {s : ByteArray} {a b : List UInt8} {z : Nat} (h : s.data.toList = a ++ 40 :: b) (hz : s.size = z + 1) : s.extract (a.length + 1) z = mkB b.dropLast ∧ s.extract 0 a.length = mkB a := by
  have hl : z + 1 = a.length + (b.length + 1) := by
    have := congrArg List.length h
    rw [bsize, List.length_append, List.length_cons] at this
    omega
  refine ⟨?_, ?_⟩
  · rw [extract_mk, h]
    congr 1
    have e1 : (a ++ 40 :: b).drop (a.length + 1) = b := by
      rw [show a.length + 1 = (a ++ [40]).length by simp, show a ++ 40 :: b = (a ++ [40]) ++ b by simp, List.drop_left]
    rw [e1, List.dropLast_eq_take]
    congr 1
    omega
  · rw [extract_mk, h, List.drop_zero, Nat.sub_zero, List.take_left]

set_option maxHeartbeats 1600000 in
set_option maxRecDepth 100000 in
theorem l01Values_calls (s : ByteArray) (w : World) (hs : s.size ≤ 1048576) : Calls Tryz.prog 160 #[.string s] w fun e w' => ∃ A n c, e = .returned (.tuple #[.slice A n c, .bool (labS s)]) ∧ Below w.heap.size w w' := by
  have q0 := l01Open_calls s w hs
  by_cases hm : (40 : UInt8) ∈ s.data.toList
  · obtain ⟨a, b, hl, hn⟩ := split_at 40 _ hm
    obtain ⟨z, hz⟩ : ∃ z, s.size = z + 1 := ⟨s.size - 1, by have := congrArg List.length hl; rw [bsize, List.length_append, List.length_cons] at this; omega⟩
    have hzlt : z < s.size := by omega
    have hlen : s.size = a.length + (b.length + 1) := by
      have := congrArg List.length hl
      rw [bsize, List.length_append, List.length_cons] at this
      exact this
    have hlast := last_at hl hz hzlt
    obtain ⟨hmid, hfront⟩ := mid_at hl hz
    have hlab := labS_hit hl hn
    rw [hlast] at hlab
    rw [open_hit hl hn] at q0
    have q1 : ∀ W, Calls Tryz.prog 195 #[.string (s.extract 0 a.length)] W (fun e w' => e = .returned (.bool (actB (mkB a))) ∧ W = w') := fun W => by
      have := l01Action_calls (s.extract 0 a.length) W (by rw [hfront, mkB_size]; omega)
      rw [show actB (s.extract 0 a.length) = actB (mkB a) from by rw [hfront]] at this
      exact this
    have q2 : ∀ W, Calls Tryz.prog 201 #[.string (s.extract (a.length + 1) z), .int .u8 44] W (fun e w' => ∃ A n c, e = .returned (.slice A n c) ∧ n ≤ 1048577 ∧ SlS w' W.heap.size w'.heap.size A n ((splitC 44 b.dropLast).map mkB) ∧ Below W.heap.size W w') := fun W => by
      have := l01Split_calls (s.extract (a.length + 1) z) W (by rw [hmid, mkB_size, List.length_dropLast]; omega)
      rw [show piecesB 44 (s.extract (a.length + 1) z) = (splitC 44 b.dropLast).map mkB from by rw [hmid]; rfl] at this
      exact this
    have hmI : (a.length : Int) ≤ (s.size : Int) := by omega
    have hm0 : ((a.length : Int) == (s.size : Int)) = false := by rw [beq_eq_false_iff_ne]; omega
    have hzI : (s.size : Int) - 1 = (z : Int) := by omega
    have hamz : (a.length : Int) + 1 ≤ (z : Int) ∨ s[z] ≠ 41 := by
      rcases Nat.lt_or_ge a.length z with h1 | h1
      · exact .inl (by omega)
      · right
        have : a.length = z := by omega
        intro h2
        rw [h2] at hlast
        have hb : b = [] := List.eq_nil_of_length_eq_zero (by omega)
        rw [hb] at hlast
        simp at hlast
    have hplen := splitC_len 44 b.dropLast
    have hbl : b.length ≤ 1048576 := by omega
    rw [List.length_dropLast] at hplen
    replace q0 := hide q0
    replace q1 := hide q1
    replace q2 := hide q2
    replace hlab := hide hlab
    generalize hmm : a.length = m at *
    have hmz : m < s.size := by omega
    clear hm hl hlast hmid hfront hlen
    cases hact : actB (mkB a) with
    | false =>
      have hv : Hid (labS s = false) := by show _ = _; rw [hlab.out, hact]; rfl
      rw [hact] at q1
      clear hlab hact
      go_enter Tryz.func160, Tryz.ntmps160
      go_wp2_with (first | (go_at_call 199; (with_reducible refine q0.out.mono ?_); rintro e w1 ⟨rfl, rfl⟩) | (go_at_call 195; (with_reducible refine (q1.out _).mono ?_); rintro e w' ⟨rfl, rfl⟩))
      go_ret2
      exact ⟨none, 0, 0, by rw [hv.out]; rfl, Below.refl _ _⟩
    | true =>
      rw [hact] at q1
      have hE := hide elem_int
      by_cases h41 : s[z] = 41
      · have hv : Hid (labS s = ((numsOf numV (splitC 44 b.dropLast)).filter (fun ns => decide (ns.length ≤ 2))).isSome) := by
          show _ = _
          rw [hlab.out, hact, h41]
          rfl
        have hamI : (m : Int) + 1 ≤ (z : Int) := hamz.resolve_right (fun h => h h41)
        have hc : ∀ h : z < s.size, (s[z].toNat : Int) = 41 := fun _ => by rw [h41]; rfl
        have hsub : ∀ W, (Instr.slice 9 (.string s) (some (.int .i64 ((m : Int) + 1))) (some (.int .i64 (z : Int))) none).run Tryz.prog W = .ok (.string (s.extract (m + 1) z)) W := fun W => by
          have := run_sub s (m + 1) z (by omega) (by omega) W
          simpa using this
        clear hlab hact hamz h41 hz
        have hPs : Hid (∀ x ∈ splitC 44 b.dropLast, (mkB x).size ≤ 1048576) := fun x hx => by
          rw [mkB_size]
          have := splitC_mem_len 44 b.dropLast x hx
          rw [List.length_dropLast] at this
          omega
        generalize splitC 44 b.dropLast = P at *
        go_enter Tryz.func160, Tryz.ntmps160
        go_wp2_with (first | (go_at_call 199; (with_reducible refine q0.out.mono ?_); rintro e w1 ⟨rfl, rfl⟩) | (go_at_call 195; (with_reducible refine (q1.out _).mono ?_); rintro e w' ⟨rfl, rfl⟩) | fail)
        refine (q2.out _).mono ?_
        rintro e w2 ⟨A, n, c, rfl, hn1, hsl, hb2⟩
        have hPn : P.length = n := by have := hsl.len; rwa [List.length_map] at this
        replace hsl := hide hsl
        replace hPn := hide hPn
        have hzb := hb2.size
        go_wp2_with fail
        go_loopw [6, 7] (fun o i wr => ∃ (k : Nat) (A5 : Option Addr) (c5 : Nat) (L : List Int), k ≤ n ∧ o = .slice A5 k c5 ∧ i = .int .i64 (k : Nat) ∧ Hid (Own 1 iv wr w2.heap.size 2 A5 k c5 L) ∧ Hid (∀ j x, j < k → P[j]? = some x → (numV x).isSome = true) ∧ Below w2.heap.size w2 wr) (fun _ i _ => n - (intOf i).toNat)
        case atStart => exact ⟨0, _, _, [], Nat.zero_le _, rfl, rfl, Own.made w2 2 (Nat.le_refl _), fun j x h => absurd h (by omega), (Below.refl _ _).alloc (Nat.le_refl _) _⟩
        case round =>
          obtain ⟨k, A5, c5, L, hk, rfl, rfl, hown, hall, hb⟩ := hrel
          have hz2 := hb.size
          have hza : ∀ o, w2.heap.size ≤ (wr.alloc o).heap.size := fun o => by rw [World.size_alloc]; omega
          by_cases hlt : k < n
          · obtain ⟨bb, off, y, rfl, g1, g2, g3, hy, cc0, -⟩ := SlS.get hsl.out hlt
            replace cc0 := (hb.cell (p := ⟨bb, off + k, none⟩) g3).trans cc0
            rw [List.getElem?_map] at hy
            obtain ⟨x, hx, rfl⟩ := Option.map_eq_some_iff.1 hy
            have hxs : (mkB x).size ≤ 1048576 := by
              have h1 : x ∈ P := List.mem_of_getElem? hx
              exact hPs.out x h1
            have q3 := fun W => l01Number_calls (mkB x) W hxs
            rw [mkB_data] at q3
            cases hnx : numS x with
            | none =>
              have hv2 : Hid (labS s = false) := by
                show _ = _
                rw [hv.out, numsOf_none hx (by unfold numV; rw [hnx]; rfl)]
                rfl
              simp only [hnx] at q3
              have q4 : Hid (∀ W, Calls Tryz.prog 202 #[.string (mkB x)] W fun e w' => e = .returned (.tuple #[.int .i64 0, .bool false]) ∧ W = w') := q3
              clear hx hnx q3
              generalize mkB x = u at *
              go_wp2_with (first | (go_at_call 202; (with_reducible refine (q4.out _).mono ?_); rintro e w' ⟨rfl, rfl⟩))
              go_ret2
              exact ⟨none, 0, 0, by rw [hv2.out]; rfl, hb2.trans (hb.mono hb2.size)⟩
            | some v =>
              have hnv := numV_in hnx
              simp only [hnx] at q3
              have q4 : Hid (∀ W, Calls Tryz.prog 202 #[.string (mkB x)] W fun e w' => e = .returned (.tuple #[.int .i64 v, .bool true]) ∧ W = w') := q3
              have q5 := fun W => l00In_calls v 0 63 W
              cases hin : inB v 0 63 with
              | false =>
                have hv2 : Hid (labS s = false) := by
                  show _ = _
                  rw [hin] at hnv
                  rw [hv.out, numsOf_none hx (by cases h : numV x with | none => rfl | some y => rw [h] at hnv; cases hnv)]
                  rfl
                simp only [hin] at q5
                replace q5 := hide q5
                clear hx hnx q3 hin hnv
                generalize mkB x = u at *
                go_wp2_with (first | (go_at_call 202; (with_reducible refine (q4.out _).mono ?_); rintro e w' ⟨rfl, rfl⟩) | (go_at_call 113; (with_reducible refine (q5.out _).mono ?_); rintro e w' ⟨rfl, rfl⟩))
                go_ret2
                exact ⟨none, 0, 0, by rw [hv2.out]; rfl, hb2.trans (hb.mono hb2.size)⟩
              | true =>
                have hnext : Hid (∀ j x, j < k + 1 → P[j]? = some x → (numV x).isSome = true) := fun j y hj hyy => by
                  rcases Nat.lt_or_ge j k with h1 | h1
                  · exact hall.out j y h1 hyy
                  · have hjk : j = k := by omega
                    rw [hjk, hx] at hyy
                    have hxy := Option.some.inj hyy
                    rw [← hxy, hnv, hin]
                simp only [hin] at q5
                replace q5 := hide q5
                clear hx hnx q3 hin hnv
                generalize mkB x = u at *
                go_wp2_with (first | (go_at_call 202; (with_reducible refine (q4.out _).mono ?_); rintro e w' ⟨rfl, rfl⟩) | (go_at_call 113; (with_reducible refine (q5.out _).mono ?_); rintro e w' ⟨rfl, rfl⟩) | (at_builtin; (with_reducible refine wpList_app rfl (.tmp 62) (.tmp 64) rfl hE.out flat_iv rfl (hown.out.alloc _) rfl (Sl.lit1' wr 2 v _ rfl 1 _ ?c0) ?c1 (hza _) ?_); rotate_right; intro A7 c7 w7 hown7 hgr7 hb7 _))
                case c0 => rfl
                case c1 => omega
                go_roundw
                case rel => exact ⟨k + 1, A7, c7, L ++ [v], by omega, rfl, by go_num, hown7, hnext, (hb.alloc hz2 _).trans hb7⟩
                case measure => simp [intOf]; omega
          · have hkn : k = n := by omega
            subst hkn
            have hv2 : Hid (labS s = decide ((k : Int) ≤ 2)) := by
              show _ = _
              have h1 := numsOf_some (f := numV) (l := P) (fun j x hx => hall.out j x (by rw [← hPn.out]; exact (List.getElem?_eq_some_iff.1 hx).1) hx)
              obtain ⟨ns, hns⟩ := Option.isSome_iff_exists.1 h1
              have h2 := numsOf_len hns
              rw [hv.out, hns]
              rw [hPn.out] at h2
              by_cases h3 : k ≤ 2
              · have h4 : ns.length ≤ 2 := by omega
                have h5 : (k : Int) ≤ 2 := by omega
                simp [Option.filter, h4, h5]
              · have h4 : ¬ ns.length ≤ 2 := by omega
                have h5 : ¬ (k : Int) ≤ 2 := by omega
                simp [Option.filter, h4, h5]
            go_wp2_with fail
            go_ret2
            exact ⟨A5, k, c5, by rw [hv2.out]; rfl, hb2.trans (hb.mono hb2.size)⟩
      · have hv : Hid (labS s = false) := by
          show _ = _
          rw [hlab.out, hact]
          simp [h41]
        have hne : (s[z].toNat : Int) ≠ 41 := fun h => h41 (UInt8.toNat_inj.1 (by simpa using (by omega : s[z].toNat = 41)))
        generalize hc : (s[z].toNat : Int) = x at *
        have hgetk : ∀ h : z < s.size, (s[z].toNat : Int) = x := fun _ => hc
        have hcb : (x == 41) = false := by rw [beq_eq_false_iff_ne]; exact hne
        clear hlab hact hc hne h41 hamz
        go_enter Tryz.func160, Tryz.ntmps160
        go_wp2_with (first | (go_at_call 199; (with_reducible refine q0.out.mono ?_); rintro e w1 ⟨rfl, rfl⟩) | (go_at_call 195; (with_reducible refine (q1.out _).mono ?_); rintro e w' ⟨rfl, rfl⟩))
        go_ret2
        exact ⟨none, 0, 0, by rw [hv.out]; rfl, Below.refl _ _⟩
  · have hv := hide (labS_miss hm)
    rw [open_miss hm] at q0
    replace q0 := hide q0
    have q1 := hide (fun W => l01Name_calls s W (by unfold maxLen; omega))
    clear hm
    go_enter Tryz.func160, Tryz.ntmps160
    go_wp2_with (first | (go_at_call 199; (with_reducible refine q0.out.mono ?_); rintro e w1 ⟨rfl, rfl⟩) | (go_at_call 200; (with_reducible refine (q1.out _).mono ?_); rintro e w' ⟨rfl, rfl⟩))
    go_ret2
    exact ⟨some ⟨w.heap.size, 0, none⟩, 0, 0, by rw [hv.out]; rfl, (Below.refl _ _).alloc (Nat.le_refl _) _⟩

end Go.Proofs.YtiaclddgllkgpaaGreatDoor
