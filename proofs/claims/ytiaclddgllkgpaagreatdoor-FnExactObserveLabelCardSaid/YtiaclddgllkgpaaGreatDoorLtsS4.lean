/-
  The reference's tests of determinism and of monitors' parts. Conditions: sizes.
-/
import Derived.Test.YtiaclddgllkgpaaGreatDoorLtsS3
namespace Go.Proofs.YtiaclddgllkgpaaGreatDoor
open Go.ChangeShapes Go.WideShapes Go.ChangeAt Go.RowKit Go.Sort
set_option linter.unusedVariables false

theorem okD_at {es : List Ed} {k : Nat} {f lb tg r1 r2 r3 : Int} (hx : es[k]? = some (f, lb, tg)) (hk : 0 < k) (hy : es[k - 1]? = some (r1, r2, r3)) : okDet es k = (!(decide (lb = 0)) && !(decide (r1 = f) && decide (r2 = lb))) := by
  unfold okDet
  rw [hx, hy]
  have : decide (k = 0) = false := decide_eq_false (by omega)
  simp only [this, Bool.false_or]
theorem okD_zero {es : List Ed} {f lb tg : Int} (hx : es[0]? = some (f, lb, tg)) : okDet es 0 = !(decide (lb = 0)) := by
  unfold okDet
  rw [hx]
  simp
theorem okD_bad {es : List Ed} {k : Nat} {f lb tg : Int} (hx : es[k]? = some (f, lb, tg)) (h : lb = 0) : okDet es k = false := by
  unfold okDet
  rw [hx]
  simp [h]

set_option maxRecDepth 100000 in
set_option maxHeartbeats 1600000 in
theorem l11Single_calls (bt : Nat) (x : CL) (d : DL) (w : World) (h : LtsAt w bt x d) :
    Calls Tryz.prog 112 #[.pointer (some ⟨bt, 0, none⟩)] w fun e w' => e = .returned (.bool (detB d.2.2.2)) ∧ Below w.heap.size w w' := by
  obtain ⟨s0, s1, v2, v3⟩ := x
  obtain ⟨st, ini, ls, es⟩ := d
  obtain ⟨⟨e0, e1, -, ⟨A3, n3, k3, e3, hn3, t3⟩⟩, htot, hbt, -, -, -, c3⟩ := h
  dsimp only at *
  subst e0 e1 e3
  have l3 := t3.len
  have hval : Hid (detB es = allK (okDet es) n3) := by show _ = _; unfold detB; rw [l3]
  replace t3 := hide t3
  clear htot l3
  unfold maxLen at hn3
  go_enter Tryz.func112, Tryz.ntmps112
  go_wp2
  go_loopw [3] (fun i wr => ∃ k : Nat, k ≤ n3 ∧ i = .int .i64 (k : Nat) ∧ Hid (∀ j, j < k → okDet es j = true) ∧ Below w.heap.size w wr ∧ wr.cell? ⟨bt, 3, none⟩ = some (.slice A3 n3 k3)) (fun i _ => n3 - (intOf i).toNat)
  case atStart => exact ⟨0, Nat.zero_le _, rfl, fun j hj => absurd hj (by omega), Below.refl _ _, c3⟩
  case round =>
    obtain ⟨k, hk, rfl, ha, hb, y3⟩ := hrel
    clear c3
    by_cases hlt : k < n3
    · obtain ⟨b, off, f, lb, tg, rfl, g1, g2, g3, hx, a0, a1, -, -, -, -⟩ := SlE.get t3.out hlt
      replace a0 := (hb.cell g3).trans a0
      replace a1 := (hb.cell (p := ⟨b, off + k * 3 + 1, none⟩) g3).trans a1
      have hgt := Nat.lt_of_lt_of_le hbt hb.size
      have f3 := fun d os => cell_regrown y3 d os
      have u0 := fun d os => cell_regrown a0 d os
      have u1 := fun d os => cell_regrown a1 d os
      have hI0 : (0 : Int) ≤ (k : Int) := by omega
      have hI1 : (k : Int) < (n3 : Int) := by omega
      by_cases hlb : lb = 0
      · have hv : Hid (detB es = false) := by show _ = _; rw [hval.out]; exact allK_bad hlt (okD_bad hx hlb)
        subst hlb
        clear t3 hx ha g1 g2 g3
        go_wp2
        refine wp_region_quiet_below (by kernel_rfl) (by kernel_rfl) ?_
        repeat (go_big_quiet_step (fail))
        refine wpQuiet_nil ?_
        intro _ hw'
        obtain ⟨⟨dq, osq⟩, hw''⟩ := hw'
        subst hw''
        have hbq := below_regrown wr dq osq
        generalize grow (redrawn wr dq) osq = wq at *
        go_wp2
        go_ret
        exact ⟨ret_b (by rw [hv.out]), hb.trans (hbq.mono hb.size)⟩
      have hl0 : (lb == 0) = false := by rw [beq_eq_false_iff_ne]; exact hlb
      by_cases hk0 : 0 < k
      · obtain ⟨b', off', r1, r2, r3, eA, -, -, -, hy, p0, p1, -, -, -, -⟩ := SlE.get t3.out (show k - 1 < n3 by omega)
        cases eA
        replace p0 := (hb.cell g3).trans p0
        replace p1 := (hb.cell (p := ⟨b, off + (k - 1) * 3 + 1, none⟩) g3).trans p1
        have v0 := fun d os => cell_regrown p0 d os
        have v1 := fun d os => cell_regrown p1 d os
        have hok := okD_at hx hk0 hy
        rw [decide_eq_false hlb] at hok
        have hlI : (0 : Int) < (k : Int) := by omega
        have hlJ : decide ((0 : Int) < (k : Int)) = true := decide_eq_true hlI
        have hI4 : (1 : Int) ≤ (k : Int) := by omega
        have hI3 : (k : Int) - 1 < (n3 : Int) := by omega
        have hI5 : ((k : Int) - 1).toNat = k - 1 := by omega
        clear t3 g1 g2 g3 hx hy hlb
        by_cases hf : f = r1
        · by_cases hr : lb = r2
          · have hv : Hid (detB es = false) := by show _ = _; rw [hval.out]; exact allK_bad hlt (by rw [hok, decide_eq_true hf.symm, decide_eq_true hr.symm]; rfl)
            subst hf hr
            clear hok ha
            go_wp2
            refine wp_region_quiet_below (by kernel_rfl) (by kernel_rfl) ?_
            repeat (go_big_quiet_step (fail))
            refine wpQuiet_nil ?_
            intro _ hw'
            obtain ⟨⟨dq, osq⟩, hw''⟩ := hw'
            subst hw''
            have hbq := below_regrown wr dq osq
            generalize grow (redrawn wr dq) osq = wq at *
            go_wp2
            go_ret
            exact ⟨ret_b (by rw [hv.out]), hb.trans (hbq.mono hb.size)⟩
          · have hnext : Hid (∀ j, j < k + 1 → okDet es j = true) := lt_succ_cases ha.out (by rw [hok, decide_eq_false (fun e : r2 = lb => hr e.symm)]; simp)
            have hrb : (lb == r2) = false := by rw [beq_eq_false_iff_ne]; exact hr
            subst hf
            clear hok ha hr
            go_wp2
            refine wp_region_quiet_below (by kernel_rfl) (by kernel_rfl) ?_
            repeat (go_big_quiet_step (fail))
            refine wpQuiet_nil ?_
            intro _ hw'
            obtain ⟨⟨dq, osq⟩, hw''⟩ := hw'
            subst hw''
            have hbq := below_regrown wr dq osq
            generalize grow (redrawn wr dq) osq = wq at *
            have y3q := (hbq.cell (p := ⟨bt, 3, none⟩) hgt).trans y3
            clear f3 u0 u1 v0 v1
            go_wp2
            go_roundw
            case rel => exact ⟨k + 1, by omega, by go_num, hnext, hb.trans (hbq.mono hb.size), y3q⟩
            case measure => simp [intOf]; omega
        · have hnext : Hid (∀ j, j < k + 1 → okDet es j = true) := lt_succ_cases ha.out (by rw [hok, decide_eq_false (fun e : r1 = f => hf e.symm)]; rfl)
          have hfb : (f == r1) = false := by rw [beq_eq_false_iff_ne]; exact hf
          clear hok ha hf
          go_wp2
          refine wp_region_quiet_below (by kernel_rfl) (by kernel_rfl) ?_
          repeat (go_big_quiet_step (fail))
          refine wpQuiet_nil ?_
          intro _ hw'
          obtain ⟨⟨dq, osq⟩, hw''⟩ := hw'
          subst hw''
          have hbq := below_regrown wr dq osq
          generalize grow (redrawn wr dq) osq = wq at *
          have y3q := (hbq.cell (p := ⟨bt, 3, none⟩) hgt).trans y3
          clear f3 u0 u1 v0 v1
          go_wp2
          go_roundw
          case rel => exact ⟨k + 1, by omega, by go_num, hnext, hb.trans (hbq.mono hb.size), y3q⟩
          case measure => simp [intOf]; omega
      · have hk00 : k = 0 := by omega
        subst hk00
        have hnext : Hid (∀ j, j < 0 + 1 → okDet es j = true) := lt_succ_cases ha.out (by rw [okD_zero hx, decide_eq_false hlb]; rfl)
        clear t3 hx ha hlb hval g1 g2 g3
        go_wp2
        refine wp_region_quiet_below (by kernel_rfl) (by kernel_rfl) ?_
        repeat (go_big_quiet_step (fail))
        refine wpQuiet_nil ?_
        intro _ hw'
        obtain ⟨⟨dq, osq⟩, hw''⟩ := hw'
        subst hw''
        have hbq := below_regrown wr dq osq
        generalize grow (redrawn wr dq) osq = wq at *
        have y3q := (hbq.cell (p := ⟨bt, 3, none⟩) hgt).trans y3
        clear f3 u0 u1
        go_wp2
        go_roundw
        case rel => exact ⟨0 + 1, by omega, by go_num, hnext, hb.trans (hbq.mono hb.size), y3q⟩
        case measure => simp [intOf]; omega
    · have hkn : k = n3 := by omega
      subst hkn
      have hv : Hid (detB es = true) := by show _ = _; rw [hval.out]; exact allK_good ha.out
      go_wp2
      go_ret
      exact ⟨ret_b (by rw [hv.out]), hb⟩

theorem flat_ev : Flat ev 3 := ⟨fun _ => rfl, fun x u h => by simp [ev] at h; rcases h with rfl | rfl | rfl <;> rfl⟩
theorem elem_edge : Elem Tryz.prog 31 86 3 24 := Elem.of Tryz.underlying31 info_implEdge rfl (by decide) (by decide)
def outE (es : List Ed) (s : Int) : List Ed := es.filter fun e => decide (e.1 = s)
theorem outE_succ {es : List Ed} {k : Nat} {e : Ed} {s : Int} (hx : es[k]? = some e) : outE (es.take (k + 1)) s = outE (es.take k) s ++ (if e.1 = s then [e] else []) := by
  unfold outE
  rw [List.take_add_one, hx, List.filter_append]
  congr 1
  by_cases h : e.1 = s <;> simp [h]

set_option maxRecDepth 100000 in
set_option maxHeartbeats 1600000 in
theorem l11Out_calls (bt : Nat) (x : CL) (d : DL) (s : Int) (w : World) (h : LtsAt w bt x d) :
    Calls Tryz.prog 87 #[.pointer (some ⟨bt, 0, none⟩), .int .i64 s] w fun e w' => ∃ A n c, e = .returned (.slice A n c) ∧ SlE w' w.heap.size w'.heap.size A n (outE d.2.2.2 s) ∧ n ≤ 1048576 ∧ Below w.heap.size w w' := by
  obtain ⟨s0, s1, v2, v3⟩ := x
  obtain ⟨st, ini, ls, es⟩ := d
  obtain ⟨⟨e0, e1, -, ⟨A3, n3, k3, e3, hn3, t3⟩⟩, htot, hbt, -, -, -, c3⟩ := h
  dsimp only at *
  subst e0 e1 e3
  have l3 := hide t3.len
  have hes : n3 ≤ 1048576 := by rw [← l3.out]; exact Nat.le_trans (totL_edg (s0, s1, ls, es)) htot
  have hE := hide elem_edge
  replace t3 := hide t3
  clear htot hn3
  go_enter Tryz.func87, Tryz.ntmps87
  go_wp2
  go_loopw [5, 6] (fun o i wr => ∃ k m c A, k ≤ n3 ∧ m ≤ k ∧ o = .slice A m c ∧ i = .int .i64 (k : Nat) ∧ Hid (Own 3 ev wr w.heap.size 86 A m c (outE (es.take k) s)) ∧ Below w.heap.size w wr ∧ wr.cell? ⟨bt, 3, none⟩ = some (.slice A3 n3 k3)) (fun _ i _ => n3 - (intOf i).toNat)
  case atStart => exact ⟨0, 0, 0, _, Nat.zero_le _, Nat.le_refl _, rfl, rfl, Own.made w 86 (Nat.le_refl _), (Below.refl _ _).alloc (Nat.le_refl _) _, (((Below.refl w.heap.size w).alloc (Nat.le_refl _) _).cell (p := ⟨bt, 3, none⟩) hbt).trans c3⟩
  case round =>
    obtain ⟨k, m, c, A, hk, hmk, rfl, rfl, hown, hb, y3⟩ := hrel
    clear c3
    have hz := hb.size
    have hza : ∀ o, w.heap.size ≤ (wr.alloc o).heap.size := fun o => by rw [World.size_alloc]; omega
    by_cases hlt : k < n3
    · obtain ⟨b, off, f, lb, tg, rfl, g1, g2, g3, hx, a0, a1, a2, -, -, -⟩ := SlE.get t3.out hlt
      replace a0 := (hb.cell g3).trans a0
      replace a1 := (hb.cell (p := ⟨b, off + k * 3 + 1, none⟩) g3).trans a1
      replace a2 := (hb.cell (p := ⟨b, off + k * 3 + 2, none⟩) g3).trans a2
      have hsu := outE_succ (s := s) hx
      clear t3 hx g1 g2
      by_cases hf : f = s
      · subst hf
        rw [if_pos rfl] at hsu
        replace hsu := hide hsu
        go_wp2_with (first | (at_builtin; (with_reducible refine wpList_app rfl (.tmp 27) (.tmp 35) rfl hE.out flat_ev rfl (hown.out.alloc _) rfl (Sl.lit1' wr 86 (f, lb, tg) _ rfl 3 _ ?c0) ?c1 (hza _) ?_); rotate_right; intro A5 c5 w5 hown5 hgr5 hb5 _))
        case c0 => rfl
        case c1 => omega
        have hb6 := (hb.alloc hz (.cells #[.int .i64 f, .int .i64 lb, .int .i64 tg] 86)).trans hb5
        have y5 := (((hb.alloc hz (.cells #[.int .i64 f, .int .i64 lb, .int .i64 tg] 86)).trans hb5).cell (p := ⟨bt, 3, none⟩) hbt)
        have y30 := (hb.cell (p := ⟨bt, 3, none⟩) hbt)
        rw [y3] at y30
        have y6 := y5.trans y30.symm
        replace hown5 : Hid (Own 3 ev w5 w.heap.size 86 A5 (m + 1) c5 (outE (es.take (k + 1)) f)) := by show Own _ _ _ _ _ _ _ _ _; rw [hsu.out]; exact hown5
        go_roundw
        case rel => exact ⟨k + 1, m + 1, c5, A5, by omega, by omega, rfl, by go_num, hown5, hb6, y6⟩
        case measure => simp [intOf]; omega
      · rw [if_neg hf, List.append_nil] at hsu
        have hfb : (f == s) = false := by rw [beq_eq_false_iff_ne]; exact hf
        replace hown : Hid (Own 3 ev wr w.heap.size 86 A m c (outE (es.take (k + 1)) s)) := by show Own _ _ _ _ _ _ _ _ _; rw [hsu]; exact hown.out
        clear hsu hf
        go_wp2_with fail
        go_roundw
        case rel => exact ⟨k + 1, m, c, A, by omega, by omega, rfl, by go_num, hown, hb, y3⟩
        case measure => simp [intOf]; omega
    · have hkn : k = n3 := by omega
      have hall : es.take k = es := List.take_of_length_le (by rw [l3.out, hkn]; exact Nat.le_refl _)
      have hsl := hide (hown.out.sl flat_ev)
      replace hall := hide hall
      subst hkn
      go_wp2_with fail
      go_ret
      have h1 := hsl.out
      rw [hall.out] at h1
      exact ⟨A, m, c, rfl, h1, by omega, hb⟩

end Go.Proofs.YtiaclddgllkgpaaGreatDoor
