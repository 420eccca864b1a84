/-
  One step of a deterministic system, by the reference. Conditions: sizes.
-/
import Derived.Test.YtiaclddgllkgpaaGreatDoorGoMath
import Derived.Test.YtiaclddgllkgpaaGreatDoorBaseD
import Derived.Test.YtiaclddgllkgpaaGreatDoorVis
namespace Go.Proofs.YtiaclddgllkgpaaGreatDoor
open Go.ChangeShapes Go.WideShapes Go.ChangeAt Go.RowKit Go.Sort
set_option linter.unusedVariables false

theorem folE_cons {es : List Ed} {ls : List ByteArray} {lab : ByteArray} {s : Int} {k : Nat} {e : Ed} (h0 : folE (es.take k) ls lab s = []) (hx : es[k]? = some e) (hh : hitE ls lab s e = true) : goE es ls lab s = e.2.2 := by
  have hlt := (List.getElem?_eq_some_iff.1 hx).1
  have hdrop : es.drop k = e :: es.drop (k + 1) := by rw [List.drop_eq_getElem_cons hlt, (List.getElem?_eq_some_iff.1 hx).2]
  have hes : es = es.take k ++ es.drop k := (List.take_append_drop k es).symm
  unfold goE
  have h1 : folE es ls lab s = folE (es.take k) ls lab s ++ folE (es.drop k) ls lab s := by
    unfold folE
    rw [← List.map_append, ← List.filter_append, List.take_append_drop]
  rw [h1, h0, hdrop]
  unfold folE
  simp [hh]
theorem goE_none {es : List Ed} {ls : List ByteArray} {lab : ByteArray} {s : Int} (h : folE es ls lab s = []) : goE es ls lab s = -1 := by
  unfold goE
  rw [h]
  rfl
theorem fol_miss {es : List Ed} {ls : List ByteArray} {lab : ByteArray} {s : Int} {k : Nat} {e : Ed} (h0 : folE (es.take k) ls lab s = []) (hx : es[k]? = some e) (hh : hitE ls lab s e = false) : folE (es.take (k + 1)) ls lab s = [] := by
  rw [folE_succ hx, h0, hh]
  rfl
theorem fol_neg {st ini : Int} {ls : List ByteArray} {es : List Ed} (h : ltsV (st, ini, ls, es) = true) {lab : ByteArray} {s : Int} (hs : s < 0) : folE es ls lab s = [] := by
  unfold folE
  rw [List.map_eq_nil_iff, List.filter_eq_nil_iff]
  rintro ⟨f, lb, tg⟩ he
  obtain ⟨k, hk⟩ := List.getElem?_of_mem he
  have h1 := (edge_of h hk).1.1
  unfold hitE
  have : decide (f = s) = false := decide_eq_false (by omega)
  simp [this]

set_option maxRecDepth 100000 in
set_option maxHeartbeats 1600000 in
theorem l12Go_calls (bt : Nat) (x : CL) (d : DL) (s : Int) (lab : ByteArray) (w : World) (h : LtsAt w bt x d) (hval : ltsV d = true) :
    Calls Tryz.prog 100 #[.pointer (some ⟨bt, 0, none⟩), .int .i64 s, .string lab] w fun e w' => e = .returned (.int .i64 (goE d.2.2.2 d.2.2.1 lab s)) ∧ Below w.heap.size w w' := by
  obtain ⟨s0, s1, v2, v3⟩ := x
  obtain ⟨st, ini, ls, es⟩ := d
  obtain ⟨⟨e0, e1, ⟨A2, n2, k2, e2, hn2, hs2, t2⟩, ⟨A3, n3, k3, e3, hn3, t3⟩⟩, htot, hbt, -, -, c2, c3⟩ := h
  dsimp only at *
  subst e0 e1 e2 e3
  have l2 := t2.len
  have l3 := t3.len
  have hes : n3 ≤ 1048576 := by rw [← l3]; exact Nat.le_trans (totL_edg (s0, s1, ls, es)) htot
  replace l2 := hide l2
  replace l3 := hide l3
  replace t2 := hide t2
  replace t3 := hide t3
  replace hval := hide hval
  clear htot hs2 hn2 hn3
  by_cases hs0 : s < 0
  · have hv : Hid (goE es ls lab s = -1) := goE_none (fol_neg hval.out hs0)
    have hsI : ¬ (0 : Int) ≤ s := by omega
    clear t2 t3
    by_cases h0 : 0 < n3
    · have h0I : (0 : Int) < (n3 : Int) := by omega
      go_enter Tryz.func100, Tryz.ntmps100
      go_wp2
      go_loopw [7] (fun i wr => i = .int .i64 0 ∧ wr = w) (fun i _ => 0)
      case atStart => exact ⟨rfl, rfl⟩
      case round =>
        obtain ⟨rfl, rfl⟩ := hrel
        go_wp2
        go_ret
        exact ⟨ret_i (by rw [hv.out]), Below.refl _ _⟩
    · have h0I : ¬ (0 : Int) < (n3 : Int) := by omega
      go_enter Tryz.func100, Tryz.ntmps100
      go_wp2
      go_loopw [7] (fun i wr => i = .int .i64 0 ∧ wr = w) (fun i _ => 0)
      case atStart => exact ⟨rfl, rfl⟩
      case round =>
        obtain ⟨rfl, rfl⟩ := hrel
        go_wp2
        go_ret
        exact ⟨ret_i (by rw [hv.out]), Below.refl _ _⟩
  have hsI : (0 : Int) ≤ s := by omega
  go_enter Tryz.func100, Tryz.ntmps100
  go_wp2
  go_loopw [7] (fun i wr => ∃ k : Nat, k ≤ n3 ∧ i = .int .i64 (k : Nat) ∧ Hid (folE (es.take k) ls lab s = []) ∧ Below w.heap.size w wr) (fun i _ => n3 - (intOf i).toNat)
  case atStart => exact ⟨0, Nat.zero_le _, rfl, rfl, Below.refl _ _⟩
  case round =>
    obtain ⟨k, hk, rfl, ha, hb⟩ := hrel
    have y2 := (hb.cell (p := ⟨bt, 2, none⟩) hbt).trans c2
    have y3 := (hb.cell (p := ⟨bt, 3, none⟩) hbt).trans c3
    clear c2 c3
    by_cases hlt : k < n3
    · obtain ⟨b, off, f, lb, tg, rfl, -, -, g3, hx, p0, p1, p2, -, -, -⟩ := SlE.get t3.out hlt
      replace p0 := (hb.cell g3).trans p0
      replace p1 := (hb.cell (p := ⟨b, off + k * 3 + 1, none⟩) g3).trans p1
      replace p2 := (hb.cell (p := ⟨b, off + k * 3 + 2, none⟩) g3).trans p2
      have hed := edge_of hval.out hx
      have hl0 : (0 : Int) ≤ lb := hed.2.2.1
      have hl1 : lb < (n2 : Int) := by have := hed.2.2.2; have := l2.out; omega
      obtain ⟨b2, off2, r, rfl, -, -, g32, hr, p3, -⟩ := SlS.get t2.out (show lb.toNat < n2 by omega)
      replace p3 := (hb.cell (p := ⟨b2, off2 + lb.toNat, none⟩) g32).trans p3
      have f2 := fun d os => cell_regrown y2 d os
      have f3 := fun d os => cell_regrown y3 d os
      have u0 := fun d os => cell_regrown p0 d os
      have u1 := fun d os => cell_regrown p1 d os
      have u3 := fun d os => cell_regrown p3 d os
      have hh := hitE_at (lab := lab) (s := s) (f := f) (tg := tg) hr
      have hI0 : (0 : Int) ≤ (k : Int) := by omega
      have hI1 : (k : Int) < (n3 : Int) := by omega
      have gr : b < wr.heap.size := Nat.lt_of_lt_of_le g3 hb.size
      clear hed t2 t3
      by_cases hf : f = s
      · rw [decide_eq_true hf, Bool.true_and] at hh
        by_cases hrl : r = lab
        · have hv : Hid (goE es ls lab s = tg) := folE_cons ha.out hx (by rw [hh]; exact decide_eq_true hrl)
          subst hf
          subst hrl
          have hself : (r.toList == r.toList) = true := beq_self_eq_true _
          clear hx hr hh ha
          go_wp2
          refine wp_region_quiet_below (by kernel_rfl) (by kernel_rfl) ?_
          repeat (go_big_quiet_step (fail))
          refine wpQuiet_nil ?_
          intro _ hw'
          obtain ⟨⟨dq, osq⟩, hw''⟩ := hw'
          subst hw''
          have hbq := below_regrown wr dq osq
          generalize grow (redrawn wr dq) osq = wq at *
          have z3 := (hbq.cell (p := ⟨bt, 3, none⟩) (Nat.lt_of_lt_of_le hbt hb.size)).trans y3
          have z2 := (hbq.cell (p := ⟨b, off + k * 3 + 2, none⟩) gr).trans p2
          clear f2 f3 u0 u1 u3
          replace hbq := hide hbq
          go_wp2
          go_ret
          exact ⟨ret_i (by rw [hv.out]), hb.trans (hbq.out.mono hb.size)⟩
        · have hne := str_list_ne (a := lab) (b := r) (fun e => hrl e.symm)
          obtain ⟨hne1, hne2⟩ := hne
          have hnext : Hid (folE (es.take (k + 1)) ls lab s = []) := fol_miss ha.out hx (by rw [hh]; exact decide_eq_false hrl)
          subst hf
          clear hx hr hh ha hrl
          go_wp2
          refine wp_region_quiet_below (by kernel_rfl) (by kernel_rfl) ?_
          repeat (go_big_quiet_step (fail))
          refine wpQuiet_nil ?_
          intro _ hw'
          obtain ⟨⟨dq, osq⟩, hw''⟩ := hw'
          subst hw''
          have hbq := below_regrown wr dq osq
          generalize grow (redrawn wr dq) osq = wq at *
          have hbw := hide (hb.trans (hbq.mono hb.size))
          clear f2 f3 u0 u1 u3 hbq hb
          go_wp2
          go_roundw
          case rel => exact ⟨k + 1, by omega, by go_num, hnext, hbw.out⟩
          case measure => simp [intOf]; omega
      · have hfb : (f == s) = false := by rw [beq_eq_false_iff_ne]; exact hf
        have hnext : Hid (folE (es.take (k + 1)) ls lab s = []) := fol_miss ha.out hx (by rw [hh, decide_eq_false hf]; rfl)
        clear hx hr hh ha
        go_wp2
        refine wp_region_quiet_below (by kernel_rfl) (by kernel_rfl) ?_
        repeat (go_big_quiet_step (fail))
        refine wpQuiet_nil ?_
        intro _ hw'
        obtain ⟨⟨dq, osq⟩, hw''⟩ := hw'
        subst hw''
        have hbq := below_regrown wr dq osq
        generalize grow (redrawn wr dq) osq = wq at *
        have hbw := hide (hb.trans (hbq.mono hb.size))
        clear f2 f3 u0 u1 u3 hbq hb
        go_wp2
        go_roundw
        case rel => exact ⟨k + 1, by omega, by go_num, hnext, hbw.out⟩
        case measure => simp [intOf]; omega
    · have hkn : k = n3 := by omega
      subst hkn
      have hv : Hid (goE es ls lab s = -1) := goE_none (by have := ha.out; rw [List.take_of_length_le (by rw [l3.out]; exact Nat.le_refl _)] at this; exact this)
      clear ha t2 t3
      go_wp2
      go_ret
      exact ⟨ret_i (by rw [hv.out]), hb⟩

end Go.Proofs.YtiaclddgllkgpaaGreatDoor
