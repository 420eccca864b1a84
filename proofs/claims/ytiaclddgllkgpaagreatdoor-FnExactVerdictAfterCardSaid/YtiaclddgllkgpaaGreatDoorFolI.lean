/-
  The states to which edges with a label lead from some states, by the program. Conditions: sizes.
-/
import Derived.Test.YtiaclddgllkgpaaGreatDoorSortI
import Derived.Test.YtiaclddgllkgpaaGreatDoorBaseE
import Derived.Test.YtiaclddgllkgpaaGreatDoorBaseD
namespace Go.Proofs.YtiaclddgllkgpaaGreatDoor
open Go.ChangeShapes Go.WideShapes Go.ChangeAt Go.RowKit Go.Sort
set_option linter.unusedVariables false
set_option linter.unusedSimpArgs false

/-- The edge leads from one of the states by the label. -/
def hitS (ls : List ByteArray) (lab : ByteArray) (S : List Int) (e : Ed) : Bool := S.any (fun x => decide (x = e.1)) && (match ls[e.2.1.toNat]? with | some r => decide (r = lab) | none => false)
def folS (es : List Ed) (ls : List ByteArray) (lab : ByteArray) (S : List Int) : List Int := (es.filter (hitS ls lab S)).map (·.2.2)
def folV (es : List Ed) (ls : List ByteArray) (lab : ByteArray) (S : List Int) : List Int := Lib.compact (sortI (folS es ls lab S))
theorem hitS_at {ls : List ByteArray} {lab r : ByteArray} {S : List Int} {f lb tg : Int} (hr : ls[lb.toNat]? = some r) : hitS ls lab S (f, lb, tg) = (S.any (fun x => decide (x = f)) && decide (r = lab)) := by
  unfold hitS
  simp only [hr]
theorem folS_succ {es : List Ed} {k : Nat} {e : Ed} {ls : List ByteArray} {lab : ByteArray} {S : List Int} (hx : es[k]? = some e) : folS (es.take (k + 1)) ls lab S = folS (es.take k) ls lab S ++ (if hitS ls lab S e then [e.2.2] else []) := by
  unfold folS
  rw [List.take_add_one, hx, List.filter_append, List.map_append]
  congr 1
  by_cases h : hitS ls lab S e = true <;> simp [h]
theorem folS_len (es : List Ed) (ls : List ByteArray) (lab : ByteArray) (S : List Int) : (folS es ls lab S).length ≤ es.length := by
  unfold folS
  rw [List.length_map]
  exact List.length_filter_le _ _
theorem folV_len (es : List Ed) (ls : List ByteArray) (lab : ByteArray) (S : List Int) : (folV es ls lab S).length ≤ es.length :=
  Nat.le_trans (compact_len _) (by rw [sortI_len]; exact folS_len es ls lab S)
theorem folV_mem {es : List Ed} {ls : List ByteArray} {lab : ByteArray} {S : List Int} {v : Int} : v ∈ folV es ls lab S ↔ ∃ e ∈ es, e.1 ∈ S ∧ ls[e.2.1.toNat]? = some lab ∧ e.2.2 = v := by
  unfold folV
  rw [compact_mem, sortI_mem]
  unfold folS
  rw [List.mem_map]
  constructor
  · rintro ⟨e, he, rfl⟩
    obtain ⟨h1, h2⟩ := List.mem_filter.1 he
    unfold hitS at h2
    rw [Bool.and_eq_true, List.any_eq_true] at h2
    obtain ⟨⟨x, hx, hxe⟩, h3⟩ := h2
    refine ⟨e, h1, by rw [← of_decide_eq_true hxe]; exact hx, ?_, rfl⟩
    revert h3
    cases ls[e.2.1.toNat]? with
    | none => intro h; cases h
    | some r => intro h; rw [of_decide_eq_true h]
  · rintro ⟨e, h1, h2, h3, rfl⟩
    refine ⟨e, List.mem_filter.2 ⟨h1, ?_⟩, rfl⟩
    unfold hitS
    rw [Bool.and_eq_true, List.any_eq_true, h3]
    exact ⟨⟨e.1, h2, decide_eq_true rfl⟩, decide_eq_true rfl⟩

theorem Own.grown_below {α : Type} {size : Nat} {f : α → List Value} {w w' : World} {base n c B : Nat} {e : TypeId} {A : Option Addr} {l : List α} (h : Own size f w base e A n c l) (hg : w.grownBy w' (Value.slice A n c).ownBlock) (hB : B ≤ base) (hb : base ≤ w.heap.size) : Below B w w' :=
  (Below.refl _ _).grown hg (by omega) fun k hk => Nat.le_trans hB (h.lt k hk).1

set_option maxRecDepth 100000 in
set_option maxHeartbeats 3200000 in
theorem followS_calls (s0 s1 : Int) (A2 : Option Addr) (n2 k2 : Nat) (A3 : Option Addr) (n3 k3 : Nat) (A1 : Option Addr) (n1 c1 : Nat) (S : List Int) (lab : ByteArray) (ls : List ByteArray) (es : List Ed) (w : World) (lo hi lo1 hi1 : Nat)
    (t2 : SlS w lo hi A2 n2 ls) (t3 : SlE w lo hi A3 n3 es) (t1 : SlI w lo1 hi1 A1 n1 S) (hS : n1 ≤ 1048576) (hes : n3 ≤ 1048576) (hval : ltsV (s0, s1, ls, es) = true) :
    Calls Tryz.prog 131 #[.agg #[.int .i64 s0, .int .i64 s1, .slice A2 n2 k2, .slice A3 n3 k3], .slice A1 n1 c1, .string lab] w fun e w' => ∃ A n c, e = .returned (.slice A n c) ∧ Own 1 iv w' w.heap.size 2 A n c (folV es ls lab S) ∧ Below w.heap.size w w' := by
  have l2 := hide t2.len
  have l3 := hide t3.len
  have hlts := hide hval
  have hW0 := hide (show Below w.heap.size w (w.alloc (.cells #[.int .i64 s0, .int .i64 s1, .slice A2 n2 k2, .slice A3 n3 k3] 33)) from (Below.refl _ _).alloc (Nat.le_refl _) _)
  have kE := heap_alloc_new w (.cells #[.int .i64 s0, .int .i64 s1, .slice A2 n2 k2, .slice A3 n3 k3] 33)
  have hbt : w.heap.size < (w.alloc (.cells #[.int .i64 s0, .int .i64 s1, .slice A2 n2 k2, .slice A3 n3 k3] 33)).heap.size := by rw [World.size_alloc]; omega
  have hE := hide elem_int
  replace t1 := hide t1
  replace t2 := hide t2
  replace t3 := hide t3
  clear hval
  go_enter Tryz.func131, Tryz.ntmps131
  go_upto_region 3 with fail
  have c2 : (w.alloc (.cells #[.int .i64 s0, .int .i64 s1, .slice A2 n2 k2, .slice A3 n3 k3] 33)).cell? ⟨w.heap.size, 2, none⟩ = some (.slice A2 n2 k2) := (cell_of_row _ _ 2 _ _ (0, 0) kE).trans rfl
  have c3 : (w.alloc (.cells #[.int .i64 s0, .int .i64 s1, .slice A2 n2 k2, .slice A3 n3 k3] 33)).cell? ⟨w.heap.size, 3, none⟩ = some (.slice A3 n3 k3) := (cell_of_row _ _ 3 _ _ (0, 0) kE).trans rfl
  clear kE
  generalize hWW : (w.alloc (.cells #[.int .i64 s0, .int .i64 s1, .slice A2 n2 k2, .slice A3 n3 k3] 33)) = W0 at *
  clear hWW
  have hbt1 : w.heap.size + 1 ≤ W0.heap.size := hbt
  go_loopw [7, 13] (fun o i wr => ∃ k m c A, k ≤ n3 ∧ m ≤ k ∧ o = .slice A m c ∧ i = .int .i64 (k : Nat) ∧ Hid (Own 1 iv wr W0.heap.size 2 A m c (folS (es.take k) ls lab S)) ∧ Below W0.heap.size W0 wr) (fun _ i _ => n3 - (intOf i).toNat)
  case atStart => exact ⟨0, 0, 0, none, Nat.zero_le _, Nat.zero_le _, rfl, rfl, Own.nil_ _ _ _, Below.refl _ _⟩
  case round =>
    obtain ⟨k, m, c, A, hk, hm, rfl, rfl, hown, hb⟩ := hrel
    have hz := hb.size
    have hwb := hW0.out.trans (hb.mono (by omega))
    have y2 := (hb.cell (p := ⟨w.heap.size, 2, none⟩) hbt).trans c2
    have y3 := (hb.cell (p := ⟨w.heap.size, 3, none⟩) hbt).trans c3
    clear c2 c3
    by_cases hlt : k < n3
    · obtain ⟨b, off, f, lb, tg, rfl, -, -, g3, hx, p0, p1, p2, -, -, -⟩ := SlE.get t3.out hlt
      replace p0 := (hwb.cell g3).trans p0
      replace p1 := (hwb.cell (p := ⟨b, off + k * 3 + 1, none⟩) g3).trans p1
      replace p2 := (hwb.cell (p := ⟨b, off + k * 3 + 2, none⟩) g3).trans p2
      have hed := edge_of hlts.out hx
      have hl0 : (0 : Int) ≤ lb := hed.2.2.1
      have hl1 : lb < (n2 : Int) := by have := hed.2.2.2; have := l2.out; omega
      obtain ⟨b2, off2, r, rfl, -, -, g32, hr, p3, -⟩ := SlS.get t2.out (show lb.toNat < n2 by omega)
      have hh := hitS_at (lab := lab) (S := S) (f := f) (tg := tg) hr
      have hsu := folS_succ (ls := ls) (lab := lab) (S := S) hx
      have hbE : Below wr.heap.size wr (wr.alloc (.cells #[.int .i64 f, .int .i64 lb, .int .i64 tg] 86)) := (Below.refl _ _).alloc (Nat.le_refl _) _
      have kE := heap_alloc_new wr (.cells #[.int .i64 f, .int .i64 lb, .int .i64 tg] 86)
      have hgw : w.heap.size < wr.heap.size := by omega
      have x2 := (hbE.cell (p := ⟨w.heap.size, 2, none⟩) hgw).trans y2
      have x3 := (hbE.cell (p := ⟨w.heap.size, 3, none⟩) hgw).trans y3
      have z0 : (wr.alloc (.cells #[.int .i64 f, .int .i64 lb, .int .i64 tg] 86)).cell? ⟨wr.heap.size, 0, none⟩ = some (.int .i64 f) := (cell_of_row _ _ 0 _ _ (0, 0) kE).trans rfl
      have z1 : (wr.alloc (.cells #[.int .i64 f, .int .i64 lb, .int .i64 tg] 86)).cell? ⟨wr.heap.size, 1, none⟩ = some (.int .i64 lb) := (cell_of_row _ _ 1 _ _ (0, 0) kE).trans rfl
      have z2 : (wr.alloc (.cells #[.int .i64 f, .int .i64 lb, .int .i64 tg] 86)).cell? ⟨wr.heap.size, 2, none⟩ = some (.int .i64 tg) := (cell_of_row _ _ 2 _ _ (0, 0) kE).trans rfl
      have hbw : Below w.heap.size w (wr.alloc (.cells #[.int .i64 f, .int .i64 lb, .int .i64 tg] 86)) := hwb.trans (hbE.mono hwb.size)
      have p3' := (hbw.cell (p := ⟨b2, off2 + lb.toNat, none⟩) g32).trans p3
      have hbB := hb.trans (hbE.mono hz)
      have hzB := hbB.size
      have qc := containsI_calls f A1 n1 c1 S _ lo1 hi1 (t1.out.below hbw (.inr (Nat.le_refl _))) hS
      replace hown := hide (hown.out.alloc (.cells #[.int .i64 f, .int .i64 lb, .int .i64 tg] 86))
      have hI0 : (0 : Int) ≤ (k : Int) := by omega
      have hI1 : (k : Int) < (n3 : Int) := by omega
      replace hbB := hide hbB
      clear hed t1 t2 t3 hwb hb hbE kE p3 hz hbw
      generalize hany : S.any (fun x => decide (x = f)) = an at *
      clear hany
      replace qc := hide qc
      go_upto_region 5 with fail
      clear p0 p1 p2 y2 y3 x3
      generalize hWE : (wr.alloc (.cells #[.int .i64 f, .int .i64 lb, .int .i64 tg] 86)) = WE at *
      generalize hbE : wr.heap.size = bE at *
      clear hWE hbE
      have hza : ∀ o, W0.heap.size ≤ (WE.alloc o).heap.size := fun o => by rw [World.size_alloc]; omega
      by_cases hrl : r = lab
      · subst hrl
        have hself : (r.toList == r.toList) = true := beq_self_eq_true _
        rw [hh, decide_eq_true rfl, Bool.and_true] at hsu
        cases an with
        | true =>
          rw [if_pos rfl] at hsu
          replace hsu := hide hsu
          clear hx hr hh
          go_wp2_with (first
            | (go_at_call 165; (with_reducible refine qc.out.mono ?_); rintro e w' ⟨rfl, rfl⟩)
            | (at_builtin; (with_reducible refine wpList_app rfl (.tmp 31) (.tmp 34) rfl hE.out flat_iv rfl (hown.out.alloc _) rfl (Sl.lit1' _ 2 tg _ rfl 1 _ ?c0) ?c1 (hza _) ?_); rotate_right; intro A5 c5 w5 hown5 hgr5 hb5 _))
          case c0 => rfl
          case c1 => omega
          have hb6 := (hbB.out.alloc hzB (.cells #[.int .i64 tg] 2)).trans hb5
          replace hown5 : Hid (Own 1 iv w5 W0.heap.size 2 A5 (m + 1) c5 (folS (es.take (k + 1)) ls r S)) := by show Own _ _ _ _ _ _ _ _ _; rw [hsu.out]; exact hown5
          go_roundw
          case rel => exact ⟨k + 1, m + 1, c5, A5, by omega, by omega, rfl, by go_num, hown5, hb6⟩
          case measure => simp [intOf]; omega
        | false =>
          replace hown : Hid (Own 1 iv WE W0.heap.size 2 A m c (folS (es.take (k + 1)) ls r S)) := by show Own _ _ _ _ _ _ _ _ _; rw [hsu]; simpa using hown.out
          clear hx hr hh hsu
          go_wp2_with (first
            | (go_at_call 165; (with_reducible refine qc.out.mono ?_); rintro e w' ⟨rfl, rfl⟩))
          go_roundw
          case rel => exact ⟨k + 1, m, c, A, by omega, by omega, rfl, by go_num, hown, hbB.out⟩
          case measure => simp [intOf]; omega
      · obtain ⟨hne1, hne2⟩ := str_list_ne (a := lab) (b := r) (fun e => hrl e.symm)
        rw [hh, decide_eq_false hrl, Bool.and_false] at hsu
        replace hown : Hid (Own 1 iv WE W0.heap.size 2 A m c (folS (es.take (k + 1)) ls lab S)) := by show Own _ _ _ _ _ _ _ _ _; rw [hsu]; simpa using hown.out
        clear hx hr hh hsu hrl
        go_wp2_with fail
        go_roundw
        case rel => exact ⟨k + 1, m, c, A, by omega, by omega, rfl, by go_num, hown, hbB.out⟩
        case measure => simp [intOf]; omega
    · have hkn : k = n3 := by omega
      have hall : es.take k = es := List.take_of_length_le (by rw [l3.out, hkn]; exact Nat.le_refl _)
      rw [hall] at hown
      have hf := folS_len es ls lab S
      have hm9 : m ≤ 1000000000 := by omega
      have q1 := hide (sortI_calls hown.out hm9)
      have hwz : W0.heap.size ≤ wr.heap.size := hz
      replace hb := hide hb
      replace hwb := hide hwb
      clear t1 t2 t3
      go_wp2_with fail
      refine q1.out.mono ?_
      rintro e w1 ⟨rfl, hs1, hg1⟩
      have hbs1 := hown.out.grown_below hg1 (Nat.le_refl _) hwz
      have q2 := hide (compactI_calls hs1 hm9)
      have hw1 : W0.heap.size ≤ w1.heap.size := Nat.le_trans hwz hbs1.size
      replace hs1 := hide hs1
      replace hbs1 := hide hbs1
      clear hg1
      go_wp2_with fail
      refine q2.out.mono ?_
      rintro e w2 ⟨rfl, hs2, hg2⟩
      have hbs2 := hide (hs1.out.grown_below hg2 (Nat.le_refl _) hw1)
      replace hs2 := hide hs2
      clear hg2
      go_wp2_with fail
      go_ret
      exact ⟨_, _, _, rfl, hs2.out.lower (by omega), hW0.out.trans (((hb.out.trans hbs1.out).trans hbs2.out).mono (by omega))⟩

end Go.Proofs.YtiaclddgllkgpaaGreatDoor
