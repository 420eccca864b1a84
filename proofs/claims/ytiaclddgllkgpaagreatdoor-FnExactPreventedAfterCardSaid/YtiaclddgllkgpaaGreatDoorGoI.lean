/-
  One step of a deterministic system, by the program. Conditions: sizes.
-/
import Derived.Test.YtiaclddgllkgpaaGreatDoorGoS
import Derived.Test.YtiaclddgllkgpaaGreatDoorShort
import Derived.Test.YtiaclddgllkgpaaGreatDoorBaseD
namespace Go.Proofs.YtiaclddgllkgpaaGreatDoor
open Go.ChangeShapes Go.WideShapes Go.ChangeAt Go.RowKit Go.Sort
set_option linter.unusedVariables false
set_option linter.unusedSimpArgs false

set_option maxRecDepth 100000 in
set_option maxHeartbeats 3200000 in
theorem follow_calls (s0 s1 : Int) (A2 : Option Addr) (n2 k2 : Nat) (A3 : Option Addr) (n3 k3 : Nat) (A1 : Option Addr) (c1 : Nat) (s : Int) (lab : ByteArray) (ls : List ByteArray) (es : List Ed) (w : World) (lo hi lo1 hi1 : Nat)
    (t2 : SlS w lo hi A2 n2 ls) (t3 : SlE w lo hi A3 n3 es) (t1 : SlI w lo1 hi1 A1 1 [s]) (hes : n3 ≤ 1048576) (hval : detV (s0, s1, ls, es) = true) :
    Calls Tryz.prog 131 #[.agg #[.int .i64 s0, .int .i64 s1, .slice A2 n2 k2, .slice A3 n3 k3], .slice A1 1 c1, .string lab] w fun e w' => ∃ A n c, e = .returned (.slice A n c) ∧ SlI w' w.heap.size w'.heap.size A n (folE es ls lab s) ∧ n ≤ 1 ∧ Below w.heap.size w w' := by
  have l2 := hide t2.len
  have l3 := hide t3.len
  have hone := hide (fol_one hval lab s)
  have hlts : Hid (ltsV (s0, s1, ls, es) = true) := by unfold detV at hval; rw [Bool.and_eq_true] at hval; exact hval.1
  have hW0 := hide (show Below w.heap.size w (w.alloc (.cells #[.int .i64 s0, .int .i64 s1, .slice A2 n2 k2, .slice A3 n3 k3] 33)) from (Below.refl _ _).alloc (Nat.le_refl _) _)
  have kE := heap_alloc_new w (.cells #[.int .i64 s0, .int .i64 s1, .slice A2 n2 k2, .slice A3 n3 k3] 33)
  have hbt : w.heap.size < (w.alloc (.cells #[.int .i64 s0, .int .i64 s1, .slice A2 n2 k2, .slice A3 n3 k3] 33)).heap.size := by rw [World.size_alloc]; omega
  have hE := hide elem_int
  replace t1 := hide t1
  replace t2 := hide t2
  replace t3 := hide t3
  clear hval
  go_enter Tryz.func131, Tryz.ntmps131
  go_upto_region 3 with fail
  have c2 : (w.alloc (.cells #[.int .i64 s0, .int .i64 s1, .slice A2 n2 k2, .slice A3 n3 k3] 33)).cell? ⟨w.heap.size, 2, none⟩ = some (.slice A2 n2 k2) := (cell_of_row _ _ 2 _ _ (0, 0) kE).trans rfl
  have c3 : (w.alloc (.cells #[.int .i64 s0, .int .i64 s1, .slice A2 n2 k2, .slice A3 n3 k3] 33)).cell? ⟨w.heap.size, 3, none⟩ = some (.slice A3 n3 k3) := (cell_of_row _ _ 3 _ _ (0, 0) kE).trans rfl
  clear kE
  generalize hWW : (w.alloc (.cells #[.int .i64 s0, .int .i64 s1, .slice A2 n2 k2, .slice A3 n3 k3] 33)) = W0 at *
  clear hWW
  have hbt1 : w.heap.size + 1 ≤ W0.heap.size := hbt
  go_loopw [7, 13] (fun o i wr => ∃ k m c A, k ≤ n3 ∧ o = .slice A m c ∧ i = .int .i64 (k : Nat) ∧ m ≤ 1 ∧ Hid (Own 1 iv wr W0.heap.size 2 A m c (folE (es.take k) ls lab s)) ∧ Below W0.heap.size W0 wr) (fun _ i _ => n3 - (intOf i).toNat)
  case atStart => exact ⟨0, 0, 0, none, Nat.zero_le _, rfl, rfl, Nat.zero_le _, Own.nil_ _ _ _, Below.refl _ _⟩
  case round =>
    obtain ⟨k, m, c, A, hk, rfl, rfl, hm, hown, hb⟩ := hrel
    have hz := hb.size
    have hwb := hW0.out.trans (hb.mono (by omega))
    have y2 := (hb.cell (p := ⟨w.heap.size, 2, none⟩) hbt).trans c2
    have y3 := (hb.cell (p := ⟨w.heap.size, 3, none⟩) hbt).trans c3
    clear c2 c3
    by_cases hlt : k < n3
    · obtain ⟨b, off, f, lb, tg, rfl, -, -, g3, hx, p0, p1, p2, -, -, -⟩ := SlE.get t3.out hlt
      replace p0 := (hwb.cell g3).trans p0
      replace p1 := (hwb.cell (p := ⟨b, off + k * 3 + 1, none⟩) g3).trans p1
      replace p2 := (hwb.cell (p := ⟨b, off + k * 3 + 2, none⟩) g3).trans p2
      have hed := edge_of hlts.out hx
      have hl0 : (0 : Int) ≤ lb := hed.2.2.1
      have hl1 : lb < (n2 : Int) := by have := hed.2.2.2; have := l2.out; omega
      obtain ⟨b2, off2, r, rfl, -, -, g32, hr, p3, -⟩ := SlS.get t2.out (show lb.toNat < n2 by omega)
      have hh := hitE_at (lab := lab) (s := s) (f := f) (tg := tg) hr
      have hsu := folE_succ (ls := ls) (lab := lab) (s := s) hx
      have hsb := Nat.le_trans (folE_sub es ls lab s (k + 1)) hone.out
      have hbE : Below wr.heap.size wr (wr.alloc (.cells #[.int .i64 f, .int .i64 lb, .int .i64 tg] 86)) := (Below.refl _ _).alloc (Nat.le_refl _) _
      have kE := heap_alloc_new wr (.cells #[.int .i64 f, .int .i64 lb, .int .i64 tg] 86)
      have hgw : w.heap.size < wr.heap.size := by omega
      have x2 := (hbE.cell (p := ⟨w.heap.size, 2, none⟩) hgw).trans y2
      have x3 := (hbE.cell (p := ⟨w.heap.size, 3, none⟩) hgw).trans y3
      have z0 : (wr.alloc (.cells #[.int .i64 f, .int .i64 lb, .int .i64 tg] 86)).cell? ⟨wr.heap.size, 0, none⟩ = some (.int .i64 f) := (cell_of_row _ _ 0 _ _ (0, 0) kE).trans rfl
      have z1 : (wr.alloc (.cells #[.int .i64 f, .int .i64 lb, .int .i64 tg] 86)).cell? ⟨wr.heap.size, 1, none⟩ = some (.int .i64 lb) := (cell_of_row _ _ 1 _ _ (0, 0) kE).trans rfl
      have z2 : (wr.alloc (.cells #[.int .i64 f, .int .i64 lb, .int .i64 tg] 86)).cell? ⟨wr.heap.size, 2, none⟩ = some (.int .i64 tg) := (cell_of_row _ _ 2 _ _ (0, 0) kE).trans rfl
      have hbw : Below w.heap.size w (wr.alloc (.cells #[.int .i64 f, .int .i64 lb, .int .i64 tg] 86)) := hwb.trans (hbE.mono hwb.size)
      have p3' := (hbw.cell (p := ⟨b2, off2 + lb.toNat, none⟩) g32).trans p3
      have hbB := hb.trans (hbE.mono hz)
      have hzB := hbB.size
      have qc := hide (containsI_calls f A1 1 c1 [s] _ lo1 hi1 (t1.out.below hbw (.inr (Nat.le_refl _))) (by omega))
      replace hown := hide (hown.out.alloc (.cells #[.int .i64 f, .int .i64 lb, .int .i64 tg] 86))
      have hI0 : (0 : Int) ≤ (k : Int) := by omega
      have hI1 : (k : Int) < (n3 : Int) := by omega
      have hany : [s].any (fun x => decide (x = f)) = decide (f = s) := by
        by_cases e : s = f
        · simp [e]
        · have : ¬ f = s := fun x => e x.symm
          simp [e, this]
      rw [hany] at qc
      replace hbB := hide hbB
      clear hed t1 t2 t3 hwb hb hbE kE p3 hz hbw
      go_upto_region 5 with fail
      clear p0 p1 p2 y2 y3 x3
      generalize hWE : (wr.alloc (.cells #[.int .i64 f, .int .i64 lb, .int .i64 tg] 86)) = WE at *
      generalize hbE : wr.heap.size = bE at *
      clear hWE hbE
      have hza : ∀ o, W0.heap.size ≤ (WE.alloc o).heap.size := fun o => by rw [World.size_alloc]; omega
      by_cases hrl : r = lab
      · subst hrl
        have hself : (r.toList == r.toList) = true := beq_self_eq_true _
        by_cases hf : f = s
        · rw [hh, decide_eq_true hf, decide_eq_true rfl] at hsu
          rw [decide_eq_true hf] at qc
          have hm0 : m = 0 := by
            have h1 := hown.out.len
            rw [hsu] at hsb
            simp at hsb
            rw [hsb] at h1
            exact h1.symm
          subst hm0
          replace hsu := hide hsu
          clear hx hr hh hf hany hsb
          go_wp2_with (first
            | (go_at_call 165; (with_reducible refine qc.out.mono ?_); rintro e w' ⟨rfl, rfl⟩)
            | (at_builtin; (with_reducible refine wpList_app rfl (.tmp 31) (.tmp 34) rfl hE.out flat_iv rfl (hown.out.alloc _) rfl (Sl.lit1' _ 2 tg _ rfl 1 _ ?c0) ?c1 (hza _) ?_); rotate_right; intro A5 c5 w5 hown5 hgr5 hb5 _))
          case c0 => rfl
          case c1 => omega
          have hb6 := (hbB.out.alloc hzB (.cells #[.int .i64 tg] 2)).trans hb5
          replace hown5 : Hid (Own 1 iv w5 W0.heap.size 2 A5 (0 + 1) c5 (folE (es.take (k + 1)) ls r s)) := by show Own _ _ _ _ _ _ _ _ _; rw [hsu.out]; exact hown5
          go_roundw
          case rel => exact ⟨k + 1, 0 + 1, c5, A5, by omega, rfl, by go_num, by omega, hown5, hb6⟩
          case measure => simp [intOf]; omega
        · rw [hh, decide_eq_false hf] at hsu
          rw [decide_eq_false hf] at qc
          replace hown : Hid (Own 1 iv WE W0.heap.size 2 A m c (folE (es.take (k + 1)) ls r s)) := by show Own _ _ _ _ _ _ _ _ _; rw [hsu]; simpa using hown.out
          clear hx hr hh hf hany hsb hsu
          go_wp2_with (first
            | (go_at_call 165; (with_reducible refine qc.out.mono ?_); rintro e w' ⟨rfl, rfl⟩))
          go_roundw
          case rel => exact ⟨k + 1, m, c, A, by omega, rfl, by go_num, hm, hown, hbB.out⟩
          case measure => simp [intOf]; omega
      · obtain ⟨hne1, hne2⟩ := str_list_ne (a := lab) (b := r) (fun e => hrl e.symm)
        rw [hh, decide_eq_false hrl, Bool.and_false] at hsu
        replace hown : Hid (Own 1 iv WE W0.heap.size 2 A m c (folE (es.take (k + 1)) ls lab s)) := by show Own _ _ _ _ _ _ _ _ _; rw [hsu]; simpa using hown.out
        clear hx hr hh hany hsb hsu hrl
        go_wp2_with fail
        go_roundw
        case rel => exact ⟨k + 1, m, c, A, by omega, rfl, by go_num, hm, hown, hbB.out⟩
        case measure => simp [intOf]; omega
    · have hkn : k = n3 := by omega
      have hall : es.take k = es := List.take_of_length_le (by rw [l3.out, hkn]; exact Nat.le_refl _)
      rw [hall] at hown
      have q1 := hide (sort_short A m c hm wr)
      have q2 := hide (compact_short A m c hm wr)
      clear t1 t2 t3
      go_wp2_with fail
      refine q1.out.mono ?_
      rintro e w1 ⟨rfl, rfl⟩
      go_wp2_with fail
      refine q2.out.mono ?_
      rintro e w1 ⟨rfl, rfl⟩
      go_wp2_with fail
      go_ret
      exact ⟨A, m, c, rfl, (hown.out.sl flat_iv).more (by omega) (Nat.le_refl _), hm, hwb⟩

set_option maxRecDepth 100000 in
set_option maxHeartbeats 800000 in
theorem step_calls (s0 s1 : Int) (A2 : Option Addr) (n2 k2 : Nat) (A3 : Option Addr) (n3 k3 : Nat) (s : Int) (lab : ByteArray) (ls : List ByteArray) (es : List Ed) (w : World) (lo hi : Nat)
    (t2 : SlS w lo hi A2 n2 ls) (t3 : SlE w lo hi A3 n3 es) (hes : n3 ≤ 1048576) (hval : detV (s0, s1, ls, es) = true) :
    Calls Tryz.prog 90 #[.agg #[.int .i64 s0, .int .i64 s1, .slice A2 n2 k2, .slice A3 n3 k3], .int .i64 s, .string lab] w fun e w' => e = .returned (.int .i64 (goE es ls lab s)) ∧ Below w.heap.size w w' := by
  have hlts : Hid (ltsV (s0, s1, ls, es) = true) := by unfold detV at hval; rw [Bool.and_eq_true] at hval; exact hval.1
  have hbW : Below w.heap.size w (w.alloc (.cells #[.int .i64 s0, .int .i64 s1, .slice A2 n2 k2, .slice A3 n3 k3] 33)) := (Below.refl _ _).alloc (Nat.le_refl _) _
  have hbW2 : Below w.heap.size w ((w.alloc (.cells #[.int .i64 s0, .int .i64 s1, .slice A2 n2 k2, .slice A3 n3 k3] 33)).alloc (.cells #[.int .i64 s] 2)) := hbW.alloc (by rw [World.size_alloc]; omega) _
  by_cases hs : s < 0
  · have hv : Hid (goE es ls lab s = -1) := goE_none (fol_neg hlts.out hs)
    replace hbW := hide hbW
    clear hbW2 t2 t3 hval
    go_enter Tryz.func90, Tryz.ntmps90
    go_wp2_with fail
    go_ret
    exact ⟨ret_i (by rw [hv.out]), hbW.out⟩
  have q := follow_calls s0 s1 A2 n2 k2 A3 n3 k3 (some ⟨(w.alloc (.cells #[.int .i64 s0, .int .i64 s1, .slice A2 n2 k2, .slice A3 n3 k3] 33)).heap.size, 0, none⟩) 1 s lab ls es _ lo hi 0 _ (t2.below hbW2 (.inr (Nat.le_refl _))) (t3.below hbW2 (.inr (Nat.le_refl _))) (Sl.lit1' _ 2 s _ rfl 1 _ rfl) hes hval
  rw [World.size_alloc] at q
  replace q := hide q
  have hbz := hbW2.size
  replace hbW2 := hide hbW2
  clear hbW t2 t3 hval
  go_enter Tryz.func90, Tryz.ntmps90
  go_wp2_with fail
  refine q.out.mono ?_
  rintro e w1 ⟨A, n, c, rfl, hsl, hn, hb⟩
  have hbw := hide (hbW2.out.trans (hb.mono hbz))
  have hlen := hsl.len
  clear hb q
  by_cases h0 : n = 0
  · have hv : Hid (goE es ls lab s = -1) := goE_none (List.eq_nil_of_length_eq_zero (by omega))
    subst h0
    clear hlen hsl
    go_wp2_with fail
    go_ret
    exact ⟨ret_i (by rw [hv.out]), hbw.out⟩
  · have h1 : n = 1 := by omega
    subst h1
    obtain ⟨b, off, x, rfl, -, -, -, hx, p0, -⟩ := SlI.get hsl (show 0 < 1 by omega)
    simp only [Nat.add_zero] at p0
    have hv : Hid (goE es ls lab s = x) := by
      show _ = _
      unfold goE
      cases hf : folE es ls lab s with
      | nil => rw [hf] at hx; simp at hx
      | cons a t => rw [hf] at hx; simpa using hx
    clear hlen hsl hx
    go_wp2_with fail
    go_ret
    exact ⟨ret_i (by rw [hv.out]), hbw.out⟩

end Go.Proofs.YtiaclddgllkgpaaGreatDoor
