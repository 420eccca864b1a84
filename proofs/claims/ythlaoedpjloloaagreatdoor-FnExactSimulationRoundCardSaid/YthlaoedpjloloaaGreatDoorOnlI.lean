/-
  A system with those edges alone that a function keeps, by the program. Conditions: sizes.
-/
import Derived.Test.YthlaoedpjloloaaGreatDoorFuncsE
import Derived.Test.YthlaoedpjloloaaGreatDoorBaseG
namespace Go.Proofs.YthlaoedpjloloaaGreatDoor
open Go.ChangeShapes Go.WideShapes Go.ChangeAt Go.RowKit Go.Sort
set_option linter.unusedVariables false
set_option linter.unusedSimpArgs false

/-- Where the system that is made stands. -/
structure OnlS (w wr : World) (s0 s1 : Int) (A2 : Option Addr) (n2 k2 : Nat) (A : Option Addr) (m c : Nat) (l : List Ed) : Prop where
  kR : wr.heap[w.heap.size + 1]? = some (.cells #[.int .i64 0, .int .i64 0, .slice none 0 0, .slice none 0 0] 31 (0, 0))
  kO : wr.heap[w.heap.size + 1 + 1]? = some (.cells #[.int .i64 s0, .int .i64 s1, .slice A2 n2 k2, .slice A m c] 31 (0, 0))
  own : Own 3 ev wr w.heap.size 99 A m c l
  bel : Below w.heap.size w wr
theorem OnlS.below {w wr wx : World} {s0 s1 : Int} {A2 : Option Addr} {n2 k2 : Nat} {A : Option Addr} {m c : Nat} {l : List Ed} (h : OnlS w wr s0 s1 A2 n2 k2 A m c l) (hb : Below wr.heap.size wr wx) : OnlS w wx s0 s1 A2 n2 k2 A m c l :=
  ⟨(hb.block _ (Array.getElem?_eq_some_iff.1 h.kR).1).trans h.kR, (hb.block _ (Array.getElem?_eq_some_iff.1 h.kO).1).trans h.kO, h.own.below hb (Nat.le_refl _), h.bel.trans (hb.mono h.bel.size)⟩
/-- Behind an append. -/
theorem OnlS.mid {w wr wx : World} {s0 s1 : Int} {A2 : Option Addr} {n2 k2 : Nat} {A : Option Addr} {m c : Nat} {l : List Ed} (h : OnlS w wr s0 s1 A2 n2 k2 A m c l) {o : Obj} (hg : (wr.alloc o).grownBy wx (Value.slice A m c).ownBlock) : wx.heap[w.heap.size + 1 + 1]? = some (.cells #[.int .i64 s0, .int .i64 s1, .slice A2 n2 k2, .slice A m c] 31 (0, 0)) :=
  grown_blockT hg ((Below.heap_alloc _ _ _ (Array.getElem?_eq_some_iff.1 h.kO).1).trans h.kO) (h.own.otherT h.kO (by decide))
theorem OnlS.next {w wr wx : World} {s0 s1 : Int} {A2 : Option Addr} {n2 k2 : Nat} {A : Option Addr} {m c : Nat} {l : List Ed} (h : OnlS w wr s0 s1 A2 n2 k2 A m c l) {o : Obj} (hg : (wr.alloc o).grownBy wx (Value.slice A m c).ownBlock) (hb : Below w.heap.size (wr.alloc o) wx)
    {A' : Option Addr} {c' : Nat} {l' : List Ed} (ho : Own 3 ev wx w.heap.size 99 A' (m + 1) c' l') : OnlS w (wx.setCell ⟨w.heap.size + 1 + 1, 3, none⟩ (.slice A' (m + 1) c')) s0 s1 A2 n2 k2 A' (m + 1) c' l' := by
  have k1 := h.mid hg
  have k2 := grown_blockT hg ((Below.heap_alloc _ _ _ (Array.getElem?_eq_some_iff.1 h.kR).1).trans h.kR) (h.own.otherT h.kR (by decide))
  refine ⟨(Below.heap_setCell _ _ _ _ (by show _ ≠ w.heap.size + 1 + 1; omega)).trans k2, heap_setCell_same _ _ 3 _ _ _ k1, ?_, ?_⟩
  · exact ho.keep fun g hg' => Below.heap_setCell _ _ _ _ fun e => ho.otherT k1 (by decide) (by rw [hg']; exact congrArg some e.symm)
  · exact ((h.bel.alloc h.bel.size o).trans hb).setCell (by show w.heap.size ≤ w.heap.size + 1 + 1; omega) _

set_option maxRecDepth 100000 in
set_option maxHeartbeats 3200000 in
theorem only_calls (F : FuncId) (caps : Array Value) (G : Ed → Bool) (s0 s1 : Int) (A2 : Option Addr) (n2 k2 : Nat) (A3 : Option Addr) (n3 k3 : Nat) (es : List Ed) (w : World) (lo hi : Nat) (t3 : SlE w lo hi A3 n3 es) (hes : n3 ≤ 1048576)
    (hF : ∀ (v : Value) (W : World), Sem.run Tryz.prog (callFunc F (#[v] ++ caps)) W = .ok (.enter F (#[v] ++ caps)) W)
    (hcl : ∀ (f lb tg : Int), (f, lb, tg) ∈ es → ∀ (W : World), Below w.heap.size w W → Calls Tryz.prog F (#[.agg #[.int .i64 f, .int .i64 lb, .int .i64 tg]] ++ caps) W (Says (G (f, lb, tg)) W)) :
    Calls Tryz.prog 60 #[.agg #[.int .i64 s0, .int .i64 s1, .slice A2 n2 k2, .slice A3 n3 k3], .func (.func F) #[] caps] w fun e w' => ∃ A m c, e = .returned (.agg #[.int .i64 s0, .int .i64 s1, .slice A2 n2 k2, .slice A m c]) ∧ SlE w' w.heap.size w'.heap.size A m (es.filter G) ∧ m ≤ n3 ∧ Below w.heap.size w w' := by
  have l3 := hide t3.len
  have hE := hide elem_edge
  have z1 : (w.alloc (.cells #[.int .i64 s0, .int .i64 s1, .slice A2 n2 k2, .slice A3 n3 k3] 31)).heap.size = w.heap.size + 1 := World.size_alloc _ _
  have z2 : ((w.alloc (.cells #[.int .i64 s0, .int .i64 s1, .slice A2 n2 k2, .slice A3 n3 k3] 31)).alloc (.cells #[.int .i64 0, .int .i64 0, .slice none 0 0, .slice none 0 0] 31)).heap.size = w.heap.size + 1 + 1 := by rw [World.size_alloc, z1]
  have hb1 : Below w.heap.size w ((w.alloc (.cells #[.int .i64 s0, .int .i64 s1, .slice A2 n2 k2, .slice A3 n3 k3] 31)).alloc (.cells #[.int .i64 0, .int .i64 0, .slice none 0 0, .slice none 0 0] 31)) := ((Below.refl _ _).alloc (Nat.le_refl _) _).alloc (by omega) _
  have kE := (Below.heap_alloc (w.alloc (.cells #[.int .i64 s0, .int .i64 s1, .slice A2 n2 k2, .slice A3 n3 k3] 31)) (.cells #[.int .i64 0, .int .i64 0, .slice none 0 0, .slice none 0 0] 31) w.heap.size (by omega)).trans (heap_alloc_new w (.cells #[.int .i64 s0, .int .i64 s1, .slice A2 n2 k2, .slice A3 n3 k3] 31))
  have kR := heap_alloc_new (w.alloc (.cells #[.int .i64 s0, .int .i64 s1, .slice A2 n2 k2, .slice A3 n3 k3] 31)) (.cells #[.int .i64 0, .int .i64 0, .slice none 0 0, .slice none 0 0] 31)
  rw [z1] at kR
  have a0 := (cell_of_row _ _ 0 _ _ (0, 0) kE).trans (show _ = some (Value.int .i64 s0) from rfl)
  have a1 := (cell_of_row _ _ 1 _ _ (0, 0) kE).trans (show _ = some (Value.int .i64 s1) from rfl)
  have a2 := (cell_of_row _ _ 2 _ _ (0, 0) kE).trans (show _ = some (Value.slice A2 n2 k2) from rfl)
  replace t3 := hide t3
  replace hcl := hide hcl
  clear z1
  go_enter Tryz.func60, Tryz.ntmps60
  go_upto_region 1 with fail
  generalize ((w.alloc (.cells #[.int .i64 s0, .int .i64 s1, .slice A2 n2 k2, .slice A3 n3 k3] 31)).alloc (.cells #[.int .i64 0, .int .i64 0, .slice none 0 0, .slice none 0 0] 31)) = W1 at *
  have hzO : (W1.alloc (.cells #[.int .i64 s0, .int .i64 s1, .slice A2 n2 k2, .slice none 0 0] 31)).heap.size = w.heap.size + 1 + 1 + 1 := by rw [World.size_alloc, z2]
  have kO := heap_alloc_new W1 (.cells #[.int .i64 s0, .int .i64 s1, .slice A2 n2 k2, .slice none 0 0] 31)
  rw [z2] at kO
  have hst : Hid (OnlS w (W1.alloc (.cells #[.int .i64 s0, .int .i64 s1, .slice A2 n2 k2, .slice none 0 0] 31)) s0 s1 A2 n2 k2 none 0 0 (List.filter G (es.take 0))) :=
    ⟨(Below.heap_alloc _ _ _ (by omega)).trans kR, kO, Own.nil_ _ _ _, hb1.alloc hb1.size _⟩
  have kB3 := (Below.heap_alloc W1 (.cells #[.int .i64 s0, .int .i64 s1, .slice A2 n2 k2, .slice none 0 0] 31) w.heap.size (by omega)).trans kE
  have a3 := (cell_of_row _ _ 3 _ _ (0, 0) kB3).trans (show _ = some (Value.slice A3 n3 k3) from rfl)
  replace hb1 := hide hb1
  replace kB3 := hide kB3
  clear kE kR kO
  go_upto_region 2 with fail
  clear a0 a1 a2
  generalize (W1.alloc (.cells #[.int .i64 s0, .int .i64 s1, .slice A2 n2 k2, .slice none 0 0] 31)) = W2 at *
  go_upto_region 3 with fail
  clear a3
  go_loopg [18] n3 (fun J i wr => ∃ (k m c : Nat) (A : Option Addr), k ≤ n3 ∧ m ≤ k ∧ i = .int .i64 (k : Nat) ∧ Hid (OnlS w wr s0 s1 A2 n2 k2 A m c (List.filter G (es.take k))) ∧ Hid (n3 - k ≤ J))
  case atStart => exact ⟨0, 0, 0, none, Nat.zero_le _, Nat.le_refl _, rfl, hst, by show _ ≤ _; omega⟩
  case round =>
    clear hst hb1 kB3 hzO z2
    obtain ⟨k, m, c, A, hk, hmk, rfl, hs, hJ⟩ := hrel
    by_cases hlt : k < n3
    · obtain ⟨J2, rfl⟩ : ∃ J2, gk = J2 + 1 := ⟨gk - 1, by have := hJ.out; omega⟩
      have hJ2 : Hid (n3 - (k + 1) ≤ J2) := by have := hJ.out; show _ ≤ _; omega
      obtain ⟨b, off, f, lb, tg, rfl, g1, g2, g3, hx, a0, a1, a2, -, -, -⟩ := SlE.get t3.out hlt
      have hbr := hs.out.bel
      replace a0 := (hbr.cell g3).trans a0
      replace a1 := (hbr.cell (p := ⟨b, off + k * 3 + 1, none⟩) g3).trans a1
      replace a2 := (hbr.cell (p := ⟨b, off + k * 3 + 2, none⟩) g3).trans a2
      have hsu : List.filter G (es.take (k + 1)) = List.filter G (es.take k) ++ (if G (f, lb, tg) = true then [(f, lb, tg)] else []) := by
        rw [List.take_add_one, hx, List.filter_append]
        congr 1
        cases hG : G (f, lb, tg) <;> simp [hG]
      have hbE : Below wr.heap.size wr (wr.alloc (.cells #[.int .i64 f, .int .i64 lb, .int .i64 tg] 99)) := (Below.refl _ _).alloc (Nat.le_refl _) _
      have kE := heap_alloc_new wr (.cells #[.int .i64 f, .int .i64 lb, .int .i64 tg] 99)
      have y0 : (wr.alloc (.cells #[.int .i64 f, .int .i64 lb, .int .i64 tg] 99)).cell? ⟨wr.heap.size, 0, none⟩ = some (.int .i64 f) := (cell_of_row _ _ 0 _ _ (0, 0) kE).trans rfl
      have y1 : (wr.alloc (.cells #[.int .i64 f, .int .i64 lb, .int .i64 tg] 99)).cell? ⟨wr.heap.size, 1, none⟩ = some (.int .i64 lb) := (cell_of_row _ _ 1 _ _ (0, 0) kE).trans rfl
      have y2 : (wr.alloc (.cells #[.int .i64 f, .int .i64 lb, .int .i64 tg] 99)).cell? ⟨wr.heap.size, 2, none⟩ = some (.int .i64 tg) := (cell_of_row _ _ 2 _ _ (0, 0) kE).trans rfl
      have hsE := hide (hs.out.below hbE)
      have hc := hcl.out f lb tg (List.mem_of_getElem? hx) _ (hbr.trans (hbE.mono hbr.size))
      have hzE : wr.heap.size < (wr.alloc (.cells #[.int .i64 f, .int .i64 lb, .int .i64 tg] 99)).heap.size := by rw [World.size_alloc]; omega
      clear hs hx kE hbE hbr
      go_upto_region 5 with fail
      clear a0 a1 a2
      generalize (wr.alloc (.cells #[.int .i64 f, .int .i64 lb, .int .i64 tg] 99)) = WE at *
      generalize wr.heap.size = bE at *
      cases hG : G (f, lb, tg) with
      | false =>
        rw [hG] at hc hsu
        rw [if_neg (by decide), List.append_nil] at hsu
        replace hsu := hide hsu
        replace hc := hide hc
        clear hG
        go_wp2_with fail
        refine hc.out.mono ?_
        rintro e w1 ⟨rfl, hb1⟩
        have hs1 : Hid (OnlS w w1 s0 s1 A2 n2 k2 A m c (List.filter G (es.take (k + 1)))) := by show OnlS _ _ _ _ _ _ _ _ _ _ _; rw [hsu.out]; exact hsE.out.below hb1
        clear hb1
        go_wp2_with fail
        go_roundg J2
        case measure => omega
        case rel => exact ⟨k + 1, m, c, A, by omega, by omega, by go_num, hs1, hJ2⟩
      | true =>
        rw [hG] at hc hsu
        rw [if_pos rfl] at hsu
        replace hsu := hide hsu
        replace hc := hide hc
        clear hG
        go_wp2_with fail
        refine hc.out.mono ?_
        rintro e w1 ⟨rfl, hb1⟩
        have hs1 := hsE.out.below hb1
        have u0 := (hb1.cell (p := ⟨bE, 0, none⟩) hzE).trans y0
        have u1 := (hb1.cell (p := ⟨bE, 1, none⟩) hzE).trans y1
        have u2 := (hb1.cell (p := ⟨bE, 2, none⟩) hzE).trans y2
        have o3 := (cell_of_row _ _ 3 _ _ (0, 0) hs1.kO).trans (show _ = some (Value.slice A m c) from rfl)
        have hown := hide hs1.own
        have hza : ∀ o, w.heap.size ≤ (w1.alloc o).heap.size := fun o => by rw [World.size_alloc]; have := hs1.bel.size; omega
        replace hs1 := hide hs1
        clear hb1 y0 y1 y2 hsE
        go_wp2_with (first | (at_builtin; (with_reducible refine wpList_app rfl (.tmp 26) (.tmp 28) rfl hE.out flat_ev rfl (hown.out.alloc _) rfl (Sl.lit1' w1 99 (f, lb, tg) _ rfl 3 _ ?c0) ?c1 (hza _) ?_); rotate_right; intro A7 c7 w7 hown7 hgr7 hb7 _; have k7 := hs1.out.mid hgr7; have k7f := frozen_of_row _ _ 3 _ _ k7; have hs7 := hide (hs1.out.next hgr7 hb7 hown7); have k7c := (cell_of_row _ _ 3 _ _ (0, 0) k7).trans (show _ = some (Value.slice A m c) from rfl); clear hgr7 hb7 hown7 k7))
        case c0 => rfl
        case c1 => omega
        rw [← hsu.out] at hs7
        go_roundg J2
        case measure => omega
        case rel => exact ⟨k + 1, m + 1, c7, A7, by omega, by omega, by go_num, hs7, hJ2⟩
    · have hkn : k = n3 := by omega
      subst hkn
      have hall : es.take k = es := List.take_of_length_le (by rw [l3.out]; exact Nat.le_refl _)
      rw [hall] at hs
      have o0 := (cell_of_row _ _ 0 _ _ (0, 0) hs.out.kO).trans (show _ = some (Value.int .i64 s0) from rfl)
      have o1 := (cell_of_row _ _ 1 _ _ (0, 0) hs.out.kO).trans (show _ = some (Value.int .i64 s1) from rfl)
      have o2 := (cell_of_row _ _ 2 _ _ (0, 0) hs.out.kO).trans (show _ = some (Value.slice A2 n2 k2) from rfl)
      have o3 := (cell_of_row _ _ 3 _ _ (0, 0) hs.out.kO).trans (show _ = some (Value.slice A m c) from rfl)
      have r0 := (cell_of_row _ _ 0 _ _ (0, 0) hs.out.kR).trans (show _ = some (Value.int .i64 0) from rfl)
      have r1 := (cell_of_row _ _ 1 _ _ (0, 0) hs.out.kR).trans (show _ = some (Value.int .i64 0) from rfl)
      have r2 := (cell_of_row _ _ 2 _ _ (0, 0) hs.out.kR).trans (show _ = some (Value.slice none 0 0) from rfl)
      have r3 := (cell_of_row _ _ 3 _ _ (0, 0) hs.out.kR).trans (show _ = some (Value.slice none 0 0) from rfl)
      have f0 := frozen_of_row _ _ 0 _ _ hs.out.kR
      have f1 := frozen_of_row _ _ 1 _ _ hs.out.kR
      have f2 := frozen_of_row _ _ 2 _ _ hs.out.kR
      have f3 := frozen_of_row _ _ 3 _ _ hs.out.kR
      have kF : ((((wr.setCell ⟨w.heap.size + 1, 0, none⟩ (.int .i64 s0)).setCell ⟨w.heap.size + 1, 1, none⟩ (.int .i64 s1)).setCell ⟨w.heap.size + 1, 2, none⟩ (.slice A2 n2 k2)).setCell ⟨w.heap.size + 1, 3, none⟩ (.slice A m c)).heap[w.heap.size + 1]? = some (.cells #[.int .i64 s0, .int .i64 s1, .slice A2 n2 k2, .slice A m c] 31 (0, 0)) := heap_setCell_same _ _ 3 _ _ _ (heap_setCell_same _ _ 2 _ _ _ (heap_setCell_same _ _ 1 _ _ _ (heap_setCell_same _ _ 0 _ _ _ hs.out.kR)))
      have rF0 : ((((wr.setCell ⟨w.heap.size + 1, 0, none⟩ (.int .i64 s0)).setCell ⟨w.heap.size + 1, 1, none⟩ (.int .i64 s1)).setCell ⟨w.heap.size + 1, 2, none⟩ (.slice A2 n2 k2)).setCell ⟨w.heap.size + 1, 3, none⟩ (.slice A m c)).cell? ⟨w.heap.size + 1, 0, none⟩ = some (.int .i64 s0) := (cell_of_row _ _ 0 _ _ (0, 0) kF).trans rfl
      have rF1 : ((((wr.setCell ⟨w.heap.size + 1, 0, none⟩ (.int .i64 s0)).setCell ⟨w.heap.size + 1, 1, none⟩ (.int .i64 s1)).setCell ⟨w.heap.size + 1, 2, none⟩ (.slice A2 n2 k2)).setCell ⟨w.heap.size + 1, 3, none⟩ (.slice A m c)).cell? ⟨w.heap.size + 1, 1, none⟩ = some (.int .i64 s1) := (cell_of_row _ _ 1 _ _ (0, 0) kF).trans rfl
      have rF2 : ((((wr.setCell ⟨w.heap.size + 1, 0, none⟩ (.int .i64 s0)).setCell ⟨w.heap.size + 1, 1, none⟩ (.int .i64 s1)).setCell ⟨w.heap.size + 1, 2, none⟩ (.slice A2 n2 k2)).setCell ⟨w.heap.size + 1, 3, none⟩ (.slice A m c)).cell? ⟨w.heap.size + 1, 2, none⟩ = some (.slice A2 n2 k2) := (cell_of_row _ _ 2 _ _ (0, 0) kF).trans rfl
      have rF3 : ((((wr.setCell ⟨w.heap.size + 1, 0, none⟩ (.int .i64 s0)).setCell ⟨w.heap.size + 1, 1, none⟩ (.int .i64 s1)).setCell ⟨w.heap.size + 1, 2, none⟩ (.slice A2 n2 k2)).setCell ⟨w.heap.size + 1, 3, none⟩ (.slice A m c)).cell? ⟨w.heap.size + 1, 3, none⟩ = some (.slice A m c) := (cell_of_row _ _ 3 _ _ (0, 0) kF).trans rfl
      have hoF : Only (w.heap.size + 1) (w.heap.size + 1 + 1) wr ((((wr.setCell ⟨w.heap.size + 1, 0, none⟩ (.int .i64 s0)).setCell ⟨w.heap.size + 1, 1, none⟩ (.int .i64 s1)).setCell ⟨w.heap.size + 1, 2, none⟩ (.slice A2 n2 k2)).setCell ⟨w.heap.size + 1, 3, none⟩ (.slice A m c)) := ((((Only.refl (w.heap.size + 1) (w.heap.size + 1 + 1) wr).setCell (p := ⟨w.heap.size + 1, 0, none⟩) (Nat.le_refl _) (Nat.lt_succ_self _) _).setCell (p := ⟨w.heap.size + 1, 1, none⟩) (Nat.le_refl _) (Nat.lt_succ_self _) _).setCell (p := ⟨w.heap.size + 1, 2, none⟩) (Nat.le_refl _) (Nat.lt_succ_self _) _).setCell (p := ⟨w.heap.size + 1, 3, none⟩) (Nat.le_refl _) (Nat.lt_succ_self _) _
      have hkR := hs.out.kR
      have hown := hs.out.own
      have hbF : Hid (Below w.heap.size w ((((wr.setCell ⟨w.heap.size + 1, 0, none⟩ (.int .i64 s0)).setCell ⟨w.heap.size + 1, 1, none⟩ (.int .i64 s1)).setCell ⟨w.heap.size + 1, 2, none⟩ (.slice A2 n2 k2)).setCell ⟨w.heap.size + 1, 3, none⟩ (.slice A m c))) := (((hs.out.bel.setCell (by show w.heap.size ≤ w.heap.size + 1; omega) _).setCell (by show w.heap.size ≤ w.heap.size + 1; omega) _).setCell (by show w.heap.size ≤ w.heap.size + 1; omega) _).setCell (by show w.heap.size ≤ w.heap.size + 1; omega) _
      have hsl : Hid (SlE ((((wr.setCell ⟨w.heap.size + 1, 0, none⟩ (.int .i64 s0)).setCell ⟨w.heap.size + 1, 1, none⟩ (.int .i64 s1)).setCell ⟨w.heap.size + 1, 2, none⟩ (.slice A2 n2 k2)).setCell ⟨w.heap.size + 1, 3, none⟩ (.slice A m c)) w.heap.size ((((wr.setCell ⟨w.heap.size + 1, 0, none⟩ (.int .i64 s0)).setCell ⟨w.heap.size + 1, 1, none⟩ (.int .i64 s1)).setCell ⟨w.heap.size + 1, 2, none⟩ (.slice A2 n2 k2)).setCell ⟨w.heap.size + 1, 3, none⟩ (.slice A m c)).heap.size A m (List.filter G es)) := by
        have h1 : Own 3 ev ((((wr.setCell ⟨w.heap.size + 1, 0, none⟩ (.int .i64 s0)).setCell ⟨w.heap.size + 1, 1, none⟩ (.int .i64 s1)).setCell ⟨w.heap.size + 1, 2, none⟩ (.slice A2 n2 k2)).setCell ⟨w.heap.size + 1, 3, none⟩ (.slice A m c)) w.heap.size 99 A m c (List.filter G es) := hown.keep fun g hg => by
          have hne : g ≠ w.heap.size + 1 := fun e => hown.otherT hkR (by decide) (by rw [hg, e])
          rw [Below.heap_setCell _ _ _ _ hne, Below.heap_setCell _ _ _ _ hne, Below.heap_setCell _ _ _ _ hne, Below.heap_setCell _ _ _ _ hne]
        exact h1.sl flat_ev
      clear hall hkR hown hoF kF hs
      go_wp2_with fail
      (try simp only [Exit.inBlock, Exit.then])
      clear o0 o1 o2 o3 r0 r1 r2 r3 f0 f1 f2 f3
      generalize ((((wr.setCell ⟨w.heap.size + 1, 0, none⟩ (.int .i64 s0)).setCell ⟨w.heap.size + 1, 1, none⟩ (.int .i64 s1)).setCell ⟨w.heap.size + 1, 2, none⟩ (.slice A2 n2 k2)).setCell ⟨w.heap.size + 1, 3, none⟩ (.slice A m c)) = wF at *
      refine bodyPost_ret (by simp [results, Tryz.results60, go_sem, rF0, rF1, rF2, rF3]; try rfl) rfl ?_
      exact ⟨A, m, c, rfl, hsl.out, by omega, hbF.out⟩

end Go.Proofs.YthlaoedpjloloaaGreatDoor
