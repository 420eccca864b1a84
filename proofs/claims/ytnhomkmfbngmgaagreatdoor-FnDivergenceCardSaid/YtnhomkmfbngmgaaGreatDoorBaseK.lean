/-
  Lemmas that the law of this claim leans on. Conditions: sizes.
-/
import Derived.Test.YtnhomkmfbngmgaaGreatDoorBaseA
import Derived.Test.YtnhomkmfbngmgaaGreatDoorBaseC
import Derived.Test.YtnhomkmfbngmgaaGreatDoorBaseE
import Derived.Test.YtnhomkmfbngmgaaGreatDoorBaseG
import Derived.Test.YtnhomkmfbngmgaaGreatDoorBaseI
import Derived.Test.YtnhomkmfbngmgaaGreatDoorBaseJ
import Derived.Deep.LoopGhost
import Derived.Deep.RegionLaw
import Derived.StillTailTactics
set_option maxHeartbeats 6400000
set_option maxRecDepth 100000
set_option linter.unusedSimpArgs false
set_option linter.unusedVariables false
namespace Go.Proofs.YtnhomkmfbngmgaaGreatDoor
open Go.ChangeShapes Go.WideShapes Go.ChangeAt Go.RowKit Go.Sort
structure OnlS (w wr : World) (s0 s1 : Int) (A2 : Option Addr) (n2 k2 : Nat) (A : Option Addr) (m c : Nat) (l : List Ed) : Prop where
 kR : wr.heap[w.heap.size + 1]? = some (.cells #[.int .i64 0, .int .i64 0, .slice none 0 0, .slice none 0 0] 27 (0, 0))
 kO : wr.heap[w.heap.size + 1 + 1]? = some (.cells #[.int .i64 s0, .int .i64 s1, .slice A2 n2 k2, .slice A m c] 27 (0, 0))
 own : Own 3 ev wr w.heap.size 84 A m c l
 bel : Below w.heap.size w wr
theorem OnlS.below {w wr wx : World} {s0 s1 : Int} {A2 : Option Addr} {n2 k2 : Nat} {A : Option Addr} {m c : Nat} {l : List Ed} (h : OnlS w wr s0 s1 A2 n2 k2 A m c l) (hb : Below wr.heap.size wr wx) : OnlS w wx s0 s1 A2 n2 k2 A m c l :=
 ⟨(hb.block _ (Array.getElem?_eq_some_iff.1 h.kR).1).trans h.kR, (hb.block _ (Array.getElem?_eq_some_iff.1 h.kO).1).trans h.kO, h.own.below hb zR, h.bel.trans (hb.mono h.bel.size)⟩
theorem OnlS.mid {w wr wx : World} {s0 s1 : Int} {A2 : Option Addr} {n2 k2 : Nat} {A : Option Addr} {m c : Nat} {l : List Ed} (h : OnlS w wr s0 s1 A2 n2 k2 A m c l) {o : Obj} (hg : (wr.alloc o).grownBy wx (Value.slice A m c).ownBlock) : wx.heap[w.heap.size + 1 + 1]? = some (.cells #[.int .i64 s0, .int .i64 s1, .slice A2 n2 k2, .slice A m c] 27 (0, 0)) :=
 grown_blockT hg ((Below.heap_alloc _ _ _ (Array.getElem?_eq_some_iff.1 h.kO).1).trans h.kO) (h.own.otherT h.kO (by decide))
theorem OnlS.next {w wr wx : World} {s0 s1 : Int} {A2 : Option Addr} {n2 k2 : Nat} {A : Option Addr} {m c : Nat} {l : List Ed} (h : OnlS w wr s0 s1 A2 n2 k2 A m c l) {o : Obj} (hg : (wr.alloc o).grownBy wx (Value.slice A m c).ownBlock) (hb : Below w.heap.size (wr.alloc o) wx)
  {A' : Option Addr} {c' : Nat} {l' : List Ed} (ho : Own 3 ev wx w.heap.size 84 A' (m + 1) c' l') : OnlS w (wx.setCell ⟨w.heap.size + 1 + 1, 3, none⟩ (.slice A' (m + 1) c')) s0 s1 A2 n2 k2 A' (m + 1) c' l' := by
 have k1 := h.mid hg;have k2 := grown_blockT hg ((Below.heap_alloc _ _ _ (Array.getElem?_eq_some_iff.1 h.kR).1).trans h.kR) (h.own.otherT h.kR (by decide));refine ⟨(Below.heap_setCell _ _ _ _ (by show _ ≠ w.heap.size + 1 + 1; omega)).trans k2, heap_setCell_same _ _ 3 _ _ _ k1, ?_, ?_⟩
 ·exact ho.keep fun g hg' => Below.heap_setCell _ _ _ _ fun e => ho.otherT k1 (by decide) (by rw [hg']; exact congrArg some e.symm)
 ·exact ((h.bel.alloc h.bel.size o).trans hb).setCell (by show w.heap.size ≤ w.heap.size + 1 + 1; omega) _
theorem only_calls (F : FuncId) (caps : Array Value) (G : Ed → Bool) (s0 s1 : Int) (A2 : Option Addr) (n2 k2 : Nat) (A3 : Option Addr) (n3 k3 : Nat) (es : List Ed) (w : World) (lo hi : Nat) (t3 : SlE w lo hi A3 n3 es) (hes : n3 ≤ 1048576)
  (hF : ∀ (v : Value) (W : World), Sem.run Tryz.prog (callFunc F (#[v] ++ caps)) W = .ok (.enter F (#[v] ++ caps)) W)
  (hcl : ∀ (f lb tg : Int), (f, lb, tg) ∈ es → ∀ (W : World), Below w.heap.size w W → Calls Tryz.prog F (#[.agg #[.int .i64 f, .int .i64 lb, .int .i64 tg]] ++ caps) W (Says (G (f, lb, tg)) W)) :
  Calls Tryz.prog 262 #[.agg #[.int .i64 s0, .int .i64 s1, .slice A2 n2 k2, .slice A3 n3 k3], .func (.func F) #[] caps] w fun e w' => ∃ A m c, e = .returned (.agg #[.int .i64 s0, .int .i64 s1, .slice A2 n2 k2, .slice A m c]) ∧ SlE w' w.heap.size w'.heap.size A m (es.filter G) ∧ m ≤ n3 ∧ Below w.heap.size w w' := by
 have l3 := hide t3.len;have hE := hide elem_edge;have z1 : (w.alloc (.cells #[.int .i64 s0, .int .i64 s1, .slice A2 n2 k2, .slice A3 n3 k3] 27)).heap.size = w.heap.size + 1 := World.size_alloc _ _;have z2 : ((w.alloc (.cells #[.int .i64 s0, .int .i64 s1, .slice A2 n2 k2, .slice A3 n3 k3] 27)).alloc (.cells #[.int .i64 0, .int .i64 0, .slice none 0 0, .slice none 0 0] 27)).heap.size = w.heap.size + 1 + 1 := by rw [World.size_alloc, z1]
 have hb1 : Below w.heap.size w ((w.alloc (.cells #[.int .i64 s0, .int .i64 s1, .slice A2 n2 k2, .slice A3 n3 k3] 27)).alloc (.cells #[.int .i64 0, .int .i64 0, .slice none 0 0, .slice none 0 0] 27)) := (bR.alloc zR _).alloc (by omega) _;have kE := (Below.heap_alloc (w.alloc (.cells #[.int .i64 s0, .int .i64 s1, .slice A2 n2 k2, .slice A3 n3 k3] 27)) (.cells #[.int .i64 0, .int .i64 0, .slice none 0 0, .slice none 0 0] 27) w.heap.size (by omega)).trans (heap_alloc_new w (.cells #[.int .i64 s0, .int .i64 s1, .slice A2 n2 k2, .slice A3 n3 k3] 27));have kR := heap_alloc_new (w.alloc (.cells #[.int .i64 s0, .int .i64 s1, .slice A2 n2 k2, .slice A3 n3 k3] 27)) (.cells #[.int .i64 0, .int .i64 0, .slice none 0 0, .slice none 0 0] 27);rw [z1] at kR;have a0 := (cell_of_row _ _ 0 _ _ (0, 0) kE).trans (show _ = some (Value.int .i64 s0) from rfl);have a1 := (cell_of_row _ _ 1 _ _ (0, 0) kE).trans (show _ = some (Value.int .i64 s1) from rfl);have a2 := (cell_of_row _ _ 2 _ _ (0, 0) kE).trans (show _ = some (Value.slice A2 n2 k2) from rfl);replace t3 := hide t3;replace hcl := hide hcl;clear z1;go_enter Tryz.func262, Tryz.ntmps262;go_upto_region 1 with fail;generalize ((w.alloc (.cells #[.int .i64 s0, .int .i64 s1, .slice A2 n2 k2, .slice A3 n3 k3] 27)).alloc (.cells #[.int .i64 0, .int .i64 0, .slice none 0 0, .slice none 0 0] 27)) = W1 at *;have hzO : (W1.alloc (.cells #[.int .i64 s0, .int .i64 s1, .slice A2 n2 k2, .slice none 0 0] 27)).heap.size = w.heap.size + 1 + 1 + 1 := by rw [World.size_alloc, z2]
 have kO := heap_alloc_new W1 (.cells #[.int .i64 s0, .int .i64 s1, .slice A2 n2 k2, .slice none 0 0] 27);rw [z2] at kO;have hst : Hid (OnlS w (W1.alloc (.cells #[.int .i64 s0, .int .i64 s1, .slice A2 n2 k2, .slice none 0 0] 27)) s0 s1 A2 n2 k2 none 0 0 (List.filter G (es.take 0))) :=
  ⟨(Below.heap_alloc _ _ _ (by omega)).trans kR, kO, Own.nil_ _ _ _, hb1.alloc hb1.size _⟩
 have kB3 := (Below.heap_alloc W1 (.cells #[.int .i64 s0, .int .i64 s1, .slice A2 n2 k2, .slice none 0 0] 27) w.heap.size (by omega)).trans kE;have a3 := (cell_of_row _ _ 3 _ _ (0, 0) kB3).trans (show _ = some (Value.slice A3 n3 k3) from rfl);replace hb1 := hide hb1;replace kB3 := hide kB3;clear kE kR kO;go_upto_region 2 with fail;clear a0 a1 a2;generalize (W1.alloc (.cells #[.int .i64 s0, .int .i64 s1, .slice A2 n2 k2, .slice none 0 0] 27)) = W2 at *;go_upto_region 3 with fail;clear a3
 go_loopg [18] n3 (fun J i wr => ∃ (k m c : Nat) (A : Option Addr), k ≤ n3 ∧ m ≤ k ∧ i = .int .i64 (k : Nat) ∧ Hid (OnlS w wr s0 s1 A2 n2 k2 A m c (List.filter G (es.take k))) ∧ Hid (n3 - k ≤ J))
 case atStart => exact ⟨0, 0, 0, none, Nat.zero_le _, zR, rfl, hst, by show _ ≤ _; omega⟩
 case round =>
  clear hst hb1 kB3 hzO z2;obtain ⟨k, m, c, A, hk, hmk, rfl, hs, hJ⟩ := hrel
  by_cases hlt : k < n3
  ·obtain ⟨J2, rfl⟩ : ∃ J2, gk = J2 + 1 := ⟨gk - 1, by have := hJ.out; omega⟩
   have hJ2 : Hid (n3 - (k + 1) ≤ J2) := by have := hJ.out; show _ ≤ _; omega
   obtain ⟨b, off, f, lb, tg, rfl, g1, g2, g3, hx, a0, a1, a2, -, -, -⟩ := SlE.get t3.out hlt;have hbr := hs.out.bel;replace a0 := (hbr.cell g3).trans a0;replace a1 := (hbr.cell (p := ⟨b, off + k * 3 + 1, none⟩) g3).trans a1;replace a2 := (hbr.cell (p := ⟨b, off + k * 3 + 2, none⟩) g3).trans a2;have hsu : List.filter G (es.take (k + 1)) = List.filter G (es.take k) ++ (if G (f, lb, tg) = true then [(f, lb, tg)] else []) := by
    rw [List.take_add_one, hx, List.filter_append]
    congr 1
    cases hG : G (f, lb, tg) <;> simp [hG]
   have hbE : Below wr.heap.size wr (wr.alloc (.cells #[.int .i64 f, .int .i64 lb, .int .i64 tg] 84)) := bR.alloc zR _;have kE := heap_alloc_new wr (.cells #[.int .i64 f, .int .i64 lb, .int .i64 tg] 84);have y0 : (wr.alloc (.cells #[.int .i64 f, .int .i64 lb, .int .i64 tg] 84)).cell? ⟨wr.heap.size, 0, none⟩ = some (.int .i64 f) := cR 0 kE;have y1 : (wr.alloc (.cells #[.int .i64 f, .int .i64 lb, .int .i64 tg] 84)).cell? ⟨wr.heap.size, 1, none⟩ = some (.int .i64 lb) := cR 1 kE;have y2 : (wr.alloc (.cells #[.int .i64 f, .int .i64 lb, .int .i64 tg] 84)).cell? ⟨wr.heap.size, 2, none⟩ = some (.int .i64 tg) := cR 2 kE;have hsE := hide (hs.out.below hbE);have hc := hcl.out f lb tg (List.mem_of_getElem? hx) _ (hbr.trans (hbE.mono hbr.size));have hzE : wr.heap.size < (wr.alloc (.cells #[.int .i64 f, .int .i64 lb, .int .i64 tg] 84)).heap.size := by rw [World.size_alloc]; omega
   clear hs hx kE hbE hbr;go_upto_region 5 with fail;clear a0 a1 a2;generalize (wr.alloc (.cells #[.int .i64 f, .int .i64 lb, .int .i64 tg] 84)) = WE at *;generalize wr.heap.size = bE at *
   cases hG : G (f, lb, tg) with
   | false =>
    rw [hG] at hc hsu;rw [if_neg (by decide), List.append_nil] at hsu;replace hsu := hide hsu;replace hc := hide hc;clear hG;go_wp2_with fail;refine hc.out.mono ?_;rintro e w1 ⟨rfl, hb1⟩;have hs1 : Hid (OnlS w w1 s0 s1 A2 n2 k2 A m c (List.filter G (es.take (k + 1)))) := by show OnlS _ _ _ _ _ _ _ _ _ _ _; rw [hsu.out]; exact hsE.out.below hb1
    clear hb1;go_wp2_with fail
    go_roundg J2
    case measure => omega
    case rel => exact ⟨k + 1, m, c, A, by omega, by omega, by go_num, hs1, hJ2⟩
   | true =>
    rw [hG] at hc hsu;rw [if_pos rfl] at hsu;replace hsu := hide hsu;replace hc := hide hc;clear hG;go_wp2_with fail;refine hc.out.mono ?_;rintro e w1 ⟨rfl, hb1⟩;have hs1 := hsE.out.below hb1;have u0 := (hb1.cell (p := ⟨bE, 0, none⟩) hzE).trans y0;have u1 := (hb1.cell (p := ⟨bE, 1, none⟩) hzE).trans y1;have u2 := (hb1.cell (p := ⟨bE, 2, none⟩) hzE).trans y2;have o3 := (cell_of_row _ _ 3 _ _ (0, 0) hs1.kO).trans (show _ = some (Value.slice A m c) from rfl);have hown := hide hs1.own;have hza : ∀ o, w.heap.size ≤ (w1.alloc o).heap.size := fun o => by rw [World.size_alloc]; have := hs1.bel.size; omega
    replace hs1 := hide hs1;clear hb1 y0 y1 y2 hsE;go_wp2_with (first | (at_builtin; (with_reducible refine wpList_app rfl (.tmp 26) (.tmp 28) rfl hE.out flat_ev rfl (hown.out.alloc _) rfl (Sl.lit1' w1 84 (f, lb, tg) _ rfl 3 _ ?c0) ?c1 (hza _) ?_); rotate_right; intro A7 c7 w7 hown7 hgr7 hb7 _; have k7 := hs1.out.mid hgr7; have k7f := frozen_of_row _ _ 3 _ _ k7; have hs7 := hide (hs1.out.next hgr7 hb7 hown7); have k7c := (cell_of_row _ _ 3 _ _ (0, 0) k7).trans (show _ = some (Value.slice A m c) from rfl); clear hgr7 hb7 hown7 k7))
    case c0 => rfl
    case c1 => omega
    rw [← hsu.out] at hs7
    go_roundg J2
    case measure => omega
    case rel => exact ⟨k + 1, m + 1, c7, A7, by omega, by omega, by go_num, hs7, hJ2⟩
  ·have hkn : k = n3 := by omega
   subst hkn;have hall : es.take k = es := List.take_of_length_le (by rw [l3.out]; exact zR);rw [hall] at hs;have o0 := (cell_of_row _ _ 0 _ _ (0, 0) hs.out.kO).trans (show _ = some (Value.int .i64 s0) from rfl);have o1 := (cell_of_row _ _ 1 _ _ (0, 0) hs.out.kO).trans (show _ = some (Value.int .i64 s1) from rfl);have o2 := (cell_of_row _ _ 2 _ _ (0, 0) hs.out.kO).trans (show _ = some (Value.slice A2 n2 k2) from rfl);have o3 := (cell_of_row _ _ 3 _ _ (0, 0) hs.out.kO).trans (show _ = some (Value.slice A m c) from rfl);have r0 := (cell_of_row _ _ 0 _ _ (0, 0) hs.out.kR).trans (show _ = some (Value.int .i64 0) from rfl);have r1 := (cell_of_row _ _ 1 _ _ (0, 0) hs.out.kR).trans (show _ = some (Value.int .i64 0) from rfl);have r2 := (cell_of_row _ _ 2 _ _ (0, 0) hs.out.kR).trans (show _ = some (Value.slice none 0 0) from rfl);have r3 := (cell_of_row _ _ 3 _ _ (0, 0) hs.out.kR).trans (show _ = some (Value.slice none 0 0) from rfl);have f0 := frozen_of_row _ _ 0 _ _ hs.out.kR;have f1 := frozen_of_row _ _ 1 _ _ hs.out.kR;have f2 := frozen_of_row _ _ 2 _ _ hs.out.kR;have f3 := frozen_of_row _ _ 3 _ _ hs.out.kR;have kF : ((((wr.setCell ⟨w.heap.size + 1, 0, none⟩ (.int .i64 s0)).setCell ⟨w.heap.size + 1, 1, none⟩ (.int .i64 s1)).setCell ⟨w.heap.size + 1, 2, none⟩ (.slice A2 n2 k2)).setCell ⟨w.heap.size + 1, 3, none⟩ (.slice A m c)).heap[w.heap.size + 1]? = some (.cells #[.int .i64 s0, .int .i64 s1, .slice A2 n2 k2, .slice A m c] 27 (0, 0)) := heap_setCell_same _ _ 3 _ _ _ (heap_setCell_same _ _ 2 _ _ _ (heap_setCell_same _ _ 1 _ _ _ (heap_setCell_same _ _ 0 _ _ _ hs.out.kR)));have rF0 : ((((wr.setCell ⟨w.heap.size + 1, 0, none⟩ (.int .i64 s0)).setCell ⟨w.heap.size + 1, 1, none⟩ (.int .i64 s1)).setCell ⟨w.heap.size + 1, 2, none⟩ (.slice A2 n2 k2)).setCell ⟨w.heap.size + 1, 3, none⟩ (.slice A m c)).cell? ⟨w.heap.size + 1, 0, none⟩ = some (.int .i64 s0) := cR 0 kF;have rF1 : ((((wr.setCell ⟨w.heap.size + 1, 0, none⟩ (.int .i64 s0)).setCell ⟨w.heap.size + 1, 1, none⟩ (.int .i64 s1)).setCell ⟨w.heap.size + 1, 2, none⟩ (.slice A2 n2 k2)).setCell ⟨w.heap.size + 1, 3, none⟩ (.slice A m c)).cell? ⟨w.heap.size + 1, 1, none⟩ = some (.int .i64 s1) := cR 1 kF;have rF2 : ((((wr.setCell ⟨w.heap.size + 1, 0, none⟩ (.int .i64 s0)).setCell ⟨w.heap.size + 1, 1, none⟩ (.int .i64 s1)).setCell ⟨w.heap.size + 1, 2, none⟩ (.slice A2 n2 k2)).setCell ⟨w.heap.size + 1, 3, none⟩ (.slice A m c)).cell? ⟨w.heap.size + 1, 2, none⟩ = some (.slice A2 n2 k2) := cR 2 kF;have rF3 : ((((wr.setCell ⟨w.heap.size + 1, 0, none⟩ (.int .i64 s0)).setCell ⟨w.heap.size + 1, 1, none⟩ (.int .i64 s1)).setCell ⟨w.heap.size + 1, 2, none⟩ (.slice A2 n2 k2)).setCell ⟨w.heap.size + 1, 3, none⟩ (.slice A m c)).cell? ⟨w.heap.size + 1, 3, none⟩ = some (.slice A m c) := cR 3 kF
   have hoF : Only (w.heap.size + 1) (w.heap.size + 1 + 1) wr ((((wr.setCell ⟨w.heap.size + 1, 0, none⟩ (.int .i64 s0)).setCell ⟨w.heap.size + 1, 1, none⟩ (.int .i64 s1)).setCell ⟨w.heap.size + 1, 2, none⟩ (.slice A2 n2 k2)).setCell ⟨w.heap.size + 1, 3, none⟩ (.slice A m c)) := ((((Only.refl (w.heap.size + 1) (w.heap.size + 1 + 1) wr).setCell (p := ⟨w.heap.size + 1, 0, none⟩) zR (Nat.lt_succ_self _) _).setCell (p := ⟨w.heap.size + 1, 1, none⟩) zR (Nat.lt_succ_self _) _).setCell (p := ⟨w.heap.size + 1, 2, none⟩) zR (Nat.lt_succ_self _) _).setCell (p := ⟨w.heap.size + 1, 3, none⟩) zR (Nat.lt_succ_self _) _;have hkR := hs.out.kR;have hown := hs.out.own;have hbF : Hid (Below w.heap.size w ((((wr.setCell ⟨w.heap.size + 1, 0, none⟩ (.int .i64 s0)).setCell ⟨w.heap.size + 1, 1, none⟩ (.int .i64 s1)).setCell ⟨w.heap.size + 1, 2, none⟩ (.slice A2 n2 k2)).setCell ⟨w.heap.size + 1, 3, none⟩ (.slice A m c))) := (((hs.out.bel.setCell (by show w.heap.size ≤ w.heap.size + 1; omega) _).setCell (by show w.heap.size ≤ w.heap.size + 1; omega) _).setCell (by show w.heap.size ≤ w.heap.size + 1; omega) _).setCell (by show w.heap.size ≤ w.heap.size + 1; omega) _;have hsl : Hid (SlE ((((wr.setCell ⟨w.heap.size + 1, 0, none⟩ (.int .i64 s0)).setCell ⟨w.heap.size + 1, 1, none⟩ (.int .i64 s1)).setCell ⟨w.heap.size + 1, 2, none⟩ (.slice A2 n2 k2)).setCell ⟨w.heap.size + 1, 3, none⟩ (.slice A m c)) w.heap.size ((((wr.setCell ⟨w.heap.size + 1, 0, none⟩ (.int .i64 s0)).setCell ⟨w.heap.size + 1, 1, none⟩ (.int .i64 s1)).setCell ⟨w.heap.size + 1, 2, none⟩ (.slice A2 n2 k2)).setCell ⟨w.heap.size + 1, 3, none⟩ (.slice A m c)).heap.size A m (List.filter G es)) := by
    have h1 : Own 3 ev ((((wr.setCell ⟨w.heap.size + 1, 0, none⟩ (.int .i64 s0)).setCell ⟨w.heap.size + 1, 1, none⟩ (.int .i64 s1)).setCell ⟨w.heap.size + 1, 2, none⟩ (.slice A2 n2 k2)).setCell ⟨w.heap.size + 1, 3, none⟩ (.slice A m c)) w.heap.size 84 A m c (List.filter G es) := hown.keep fun g hg => by
     have hne : g ≠ w.heap.size + 1 := fun e => hown.otherT hkR (by decide) (by rw [hg, e])
     rw [Below.heap_setCell _ _ _ _ hne, Below.heap_setCell _ _ _ _ hne, Below.heap_setCell _ _ _ _ hne, Below.heap_setCell _ _ _ _ hne]
    exact h1.sl flat_ev
   clear hall hkR hown hoF kF hs;go_wp2_with fail
   (try simp only [Exit.inBlock, Exit.then])
   clear o0 o1 o2 o3 r0 r1 r2 r3 f0 f1 f2 f3;generalize ((((wr.setCell ⟨w.heap.size + 1, 0, none⟩ (.int .i64 s0)).setCell ⟨w.heap.size + 1, 1, none⟩ (.int .i64 s1)).setCell ⟨w.heap.size + 1, 2, none⟩ (.slice A2 n2 k2)).setCell ⟨w.heap.size + 1, 3, none⟩ (.slice A m c)) = wF at *;refine bodyPost_ret (by simp [results, Tryz.results262, go_sem, rF0, rF1, rF2, rF3]; try rfl) rfl ?_;exact ⟨A, m, c, rfl, hsl.out, by omega, hbF.out⟩
end Go.Proofs.YtnhomkmfbngmgaaGreatDoor
namespace Go.Proofs.YtnhomkmfbngmgaaGreatDoor
inductive StarR (R : Nat → Nat → Prop) : Nat → Nat → Prop
 | refl (x : Nat) : StarR R x x
 | step {x y z : Nat} : R x y → StarR R y z → StarR R x z
theorem StarR.trans {R : Nat → Nat → Prop} {x y z : Nat} (h : StarR R x y) (g : StarR R y z) : StarR R x z := by
 induction h with
 | refl => exact g
 | step e _ ih => exact .step e (ih g)
theorem StarR.snoc {R : Nat → Nat → Prop} {x y z : Nat} (h : StarR R x y) (g : R y z) : StarR R x z := h.trans (.step g (.refl z))
theorem StarR.mono {R S : Nat → Nat → Prop} (hs : ∀ x y, R x y → S x y) {x y : Nat} (h : StarR R x y) : StarR S x y := by
 induction h with
 | refl => exact .refl _
 | step e _ ih => exact .step (hs _ _ e) ih
def Dvg (R : Nat → Nat → Prop) (x : Nat) : Prop := ∃ D : Nat → Prop, D x ∧ ∀ y, D y → ∃ z, R y z ∧ D z
theorem Dvg.next {R : Nat → Nat → Prop} {x : Nat} (h : Dvg R x) : ∃ y, R x y ∧ Dvg R y := by
 obtain ⟨D, h1, h2⟩ := h;obtain ⟨y, g1, g2⟩ := h2 x h1;exact ⟨y, g1, D, g2, h2⟩
theorem Dvg.mono {R S : Nat → Nat → Prop} (hs : ∀ x y, R x y → S x y) {x : Nat} (h : Dvg R x) : Dvg S x := by
 obtain ⟨D, h1, h2⟩ := h;refine ⟨D, h1, fun y hy => ?_⟩;obtain ⟨z, g1, g2⟩ := h2 y hy;exact ⟨z, hs _ _ g1, g2⟩
section
variable {L α β : Type} {E : Nat → L → Nat → Prop} {τ : L} {d : Prop} {q : Nat → α} {p : Nat → β} {x y : Nat} {l : L}
def inrt (E : Nat → L → Nat → Prop) (τ : L) (q : Nat → α) (x y : Nat) : Prop := E x τ y ∧ q x = q y
def offr (E : Nat → L → Nat → Prop) (τ : L) (q : Nat → α) (x : Nat) (l : L) (b : α) : Prop := ∃ x' x'', StarR (inrt E τ q) x x' ∧ E x' l x'' ∧ q x'' = b ∧ ¬ (l = τ ∧ q x' = q x'')
structure Stb (E : Nat → L → Nat → Prop) (τ : L) (d : Prop) (q : Nat → α) : Prop where
 off : ∀ x y l b, q x = q y → offr E τ q x l b → offr E τ q y l b
 dvg : d → ∀ x y, q x = q y → Dvg (inrt E τ q) x → Dvg (inrt E τ q) y
theorem star_same (h : StarR (inrt E τ q) x y) : q x = q y := by
 induction h with
 | refl => rfl
 | step e _ ih => exact e.2.trans ih
theorem inrt_mono (hf : ∀ x y, q x = q y → p x = p y) (x y : Nat) (h : inrt E τ q x y) : inrt E τ p x y := ⟨h.1, hf _ _ h.2⟩
theorem Stb.one (h : Stb E τ d q) (hf : ∀ x y, q x = q y → p x = p y) {x' : Nat} (hq : q x = q y) (hs : inrt E τ p x x') : ∃ y', StarR (inrt E τ p) y y' ∧ q x' = q y' := by
 by_cases e : q x = q x'
 ·exact ⟨y, .refl _, e ▸ hq⟩
 ·obtain ⟨y1, y2, g1, g2, g3, -⟩ := h.off x y τ (q x') hq ⟨x, x', .refl _, hs.1, rfl, fun h => e h.2⟩
  exact ⟨y2, (g1.mono (inrt_mono hf)).snoc ⟨g2, by rw [← hf _ _ (star_same g1), ← hf _ _ hq, hf _ _ g3]; exact hs.2⟩, g3.symm⟩
theorem Stb.star (h : Stb E τ d q) (hf : ∀ x y, q x = q y → p x = p y) {x x' : Nat} (hs : StarR (inrt E τ p) x x') : ∀ {y : Nat}, q x = q y → ∃ y', StarR (inrt E τ p) y y' ∧ q x' = q y' := by
 induction hs with
 | refl => intro y hq; exact ⟨y, .refl _, hq⟩
 | step e _ ih =>
  intro y hq;obtain ⟨y1, g1, g2⟩ := h.one hf hq e;obtain ⟨y2, g3, g4⟩ := ih g2;exact ⟨y2, g1.trans g3, g4⟩
theorem Stb.fine_off (h : Stb E τ d q) (hf : ∀ x y, q x = q y → p x = p y) {b : β} (hq : q x = q y) (ho : offr E τ p x l b) : offr E τ p y l b := by
 obtain ⟨x1, x2, g1, g2, g3, g4⟩ := ho;obtain ⟨y1, k1, k2⟩ := h.star hf g1 hq;obtain ⟨y2, y3, m1, m2, m3, -⟩ := h.off x1 y1 l (q x2) k2 ⟨x1, x2, .refl _, g2, rfl, fun e => g4 ⟨e.1, hf _ _ e.2⟩⟩;refine ⟨y2, y3, k1.trans (m1.mono (inrt_mono hf)), m2, by rw [hf _ _ m3]; exact g3, fun e => g4 ⟨e.1, ?_⟩⟩;rw [hf _ _ k2, hf _ _ (star_same m1), e.2, hf _ _ m3]
theorem dvg_leave (hf : ∀ x y, q x = q y → p x = p y) (h : Dvg (inrt E τ p) x) (hn : ¬ Dvg (inrt E τ q) x) : ∃ x1 x2, StarR (inrt E τ q) x x1 ∧ inrt E τ p x1 x2 ∧ ¬ q x1 = q x2 ∧ Dvg (inrt E τ p) x2 := by
 refine Classical.byContradiction fun hc => hn ⟨fun z => StarR (inrt E τ q) x z ∧ Dvg (inrt E τ p) z, ⟨.refl _, h⟩, fun z hz => ?_⟩
 obtain ⟨z', g1, g2⟩ := hz.2.next
 by_cases e : q z = q z'
 ·exact ⟨z', ⟨g1.1, e⟩, hz.1.snoc ⟨g1.1, e⟩, g2⟩
 ·exact absurd ⟨z, z', hz.1, g1, e, g2⟩ hc
theorem Stb.fine_dvg (h : Stb E τ d q) (hd : d) (hf : ∀ x y, q x = q y → p x = p y) (hq : q x = q y) (hx : Dvg (inrt E τ p) x) : Dvg (inrt E τ p) y := by
 refine ⟨fun y => ∃ x, q x = q y ∧ Dvg (inrt E τ p) x, ⟨x, hq, hx⟩, fun y hy => ?_⟩;obtain ⟨x, hq, hx⟩ := hy
 by_cases hD : Dvg (inrt E τ q) x
 ·obtain ⟨y', g1, g2⟩ := (h.dvg hd x y hq hD).next
  exact ⟨y', inrt_mono hf _ _ g1, y', rfl, g2.mono (inrt_mono hf)⟩
 ·obtain ⟨x1, x2, k1, k2, k3, k4⟩ := dvg_leave hf hx hD
  obtain ⟨y1, y2, g1, g2, g3, -⟩ := h.off x y τ (q x2) hq ⟨x1, x2, k1, k2.1, rfl, fun e => k3 e.2⟩
  cases g1 with
  | refl => exact ⟨y2, ⟨g2, by rw [← hf _ _ hq, hf _ _ (star_same k1), k2.2, hf _ _ g3]⟩, x2, g3.symm, k4⟩
  | step e _ => exact ⟨_, inrt_mono hf _ _ e, x, hq.trans e.2, hx⟩
theorem strong_stb (hB : ∀ x y l x', q x = q y → E x l x' → ∃ y', E y l y' ∧ q x' = q y') : Stb E τ d q := by
 refine ⟨fun x y l b hq ho => ?_, fun _ x y hq hx => ?_⟩
 ·obtain ⟨x1, x2, g1, g2, g3, g4⟩ := ho
  have hs : ∀ {x x1 : Nat}, StarR (inrt E τ q) x x1 → ∀ {y : Nat}, q x = q y → ∃ y1, StarR (inrt E τ q) y y1 ∧ q x1 = q y1 := by
   intro x x1 h
   induction h with
   | refl => intro y hq; exact ⟨y, .refl _, hq⟩
   | step e _ ih =>
    intro y hq;obtain ⟨y1, k1, k2⟩ := hB _ _ _ _ hq e.1;obtain ⟨y2, k3, k4⟩ := ih k2;exact ⟨y2, .step ⟨k1, by rw [← hq, ← k2]; exact e.2⟩ k3, k4⟩
  obtain ⟨y1, k1, k2⟩ := hs g1 hq;obtain ⟨y2, k3, k4⟩ := hB _ _ _ _ k2 g2;exact ⟨y1, y2, k1, k3, by rw [← k4]; exact g3, fun e => g4 ⟨e.1, by rw [k2, k4]; exact e.2⟩⟩
 ·refine ⟨fun y => ∃ x, q x = q y ∧ Dvg (inrt E τ q) x, ⟨x, hq, hx⟩, fun y hy => ?_⟩
  obtain ⟨x, hq, hx⟩ := hy;obtain ⟨x', g1, g2⟩ := hx.next;obtain ⟨y', k1, k2⟩ := hB _ _ _ _ hq g1.1;exact ⟨y', ⟨k1, by rw [← hq, ← k2]; exact g1.2⟩, x', k2, g2⟩
theorem Stb.weak {d' : Prop} (h : Stb E τ d q) (hd : d' → d) : Stb E τ d' q := ⟨h.off, fun g => h.dvg (hd g)⟩
end
section
variable {L α : Type} {E M : Nat → L → Nat → Prop} {τ : L} {d : Prop} {P : Nat → Nat} {x y : Nat} {l : L}
def QuoB (E M : Nat → L → Nat → Prop) (τ : L) (d : Prop) (P : Nat → Nat) : Prop :=
 ∀ b l c, M b l c ↔ (∃ x x', E x l x' ∧ P x = b ∧ P x' = c ∧ ¬ (l = τ ∧ P x = P x')) ∨ (d ∧ l = τ ∧ b = c ∧ ∃ x, P x = b ∧ Dvg (inrt E τ P) x)
theorem star_id {b c : Nat} (h : StarR (inrt M τ fun x => x) b c) : b = c := star_same h
theorem quo_off (h : Stb E τ d P) (hM : QuoB E M τ d P) {c : Nat} : offr E τ P x l c ↔ offr M τ (fun x => x) (P x) l c := by
 constructor
 ·rintro ⟨x1, x2, g1, g2, rfl, g4⟩
  exact ⟨P x1, P x2, by rw [star_same g1]; exact .refl _, (hM _ _ _).2 (.inl ⟨x1, x2, g2, rfl, rfl, g4⟩), rfl, g4⟩
 ·rintro ⟨b1, b2, g1, g2, g3, g4⟩
  have e := star_id g1
  rcases (hM _ _ _).1 g2 with ⟨u, u', k1, k2, k3, k4⟩ | ⟨_, k1, k2, _⟩
  ·exact h.off u x l c (by rw [k2, e]) ⟨u, u', .refl _, k1, by rw [k3]; exact g3, k4⟩
  ·exact absurd ⟨k1, k2⟩ g4
theorem quo_dvg (h : Stb E τ d P) (hM : QuoB E M τ d P) (hd : d) : Dvg (inrt E τ P) x ↔ Dvg (inrt M τ fun x => x) (P x) := by
 constructor
 ·intro hx
  exact ⟨fun b => b = P x, rfl, fun b hb => ⟨b, ⟨(hM _ _ _).2 (.inr ⟨hd, rfl, rfl, x, hb.symm, hx⟩), rfl⟩, hb⟩⟩
 ·intro hx
  obtain ⟨c, ⟨g1, g2⟩, -⟩ := hx.next;have g2 : P x = c := g2
  rcases (hM _ _ _).1 g1 with ⟨u, u', k1, k2, k3, k4⟩ | ⟨_, _, _, u, k1, k2⟩
  ·exact absurd ⟨rfl, by rw [k2, k3, g2]⟩ k4
  ·exact h.dvg hd u x k1 k2
variable {pm : Nat → α}
theorem star_up (hM : QuoB E M τ d P) (h : StarR (inrt E τ fun x => pm (P x)) x y) : StarR (inrt M τ pm) (P x) (P y) := by
 induction h with
 | refl => exact .refl _
 | @step x y z e _ ih =>
  by_cases c : P x = P y
  ·rw [c]; exact ih
  ·exact .step ⟨(hM _ _ _).2 (.inl ⟨x, y, e.1, rfl, rfl, fun h => c h.2⟩), e.2⟩ ih
theorem one_down (h : Stb E τ d P) (hM : QuoB E M τ d P) {b c : Nat} (hs : M b l c) (hn : ¬ (l = τ ∧ b = c)) (hx : P x = b) : ∃ x1 x2, StarR (inrt E τ P) x x1 ∧ E x1 l x2 ∧ P x2 = c := by
 rcases (hM _ _ _).1 hs with ⟨u, u', k1, k2, k3, k4⟩ | ⟨_, k1, k2, _⟩
 ·obtain ⟨x1, x2, g1, g2, g3, -⟩ := h.off u x l c (by rw [k2, hx]) ⟨u, u', .refl _, k1, k3, k4⟩
  exact ⟨x1, x2, g1, g2, g3⟩
 ·exact absurd ⟨k1, k2⟩ hn
theorem inrt_comp (pm : Nat → α) (x y : Nat) (h : inrt E τ P x y) : inrt E τ (fun x => pm (P x)) x y := ⟨h.1, congrArg pm h.2⟩
theorem star_down (h : Stb E τ d P) (hM : QuoB E M τ d P) {b c : Nat} (hs : StarR (inrt M τ pm) b c) : ∀ {x : Nat}, P x = b → ∃ x', StarR (inrt E τ fun x => pm (P x)) x x' ∧ P x' = c := by
 induction hs with
 | refl => intro x hx; exact ⟨x, .refl _, hx⟩
 | @step b b' c e _ ih =>
  intro x hx
  by_cases hb : b = b'
  ·exact ih (by rw [hx, hb])
  ·obtain ⟨x1, x2, g1, g2, g3⟩ := one_down h hM e.1 (fun h => hb h.2) hx
   obtain ⟨x3, k1, k2⟩ := ih g3;refine ⟨x3, ((g1.mono (inrt_comp pm)).snoc ⟨g2, ?_⟩).trans k1, k2⟩
   show pm (P x1) = pm (P x2)
   rw [← star_same g1, hx, g3]; exact e.2
end
section
variable {L α β : Type} {E U : Nat → L → Nat → Prop} {τ : L} {d : Prop} {P : Nat → β} {q : Nat → α} {f : Nat → Nat} {g : β → α} {i j : Nat} {l : L}
structure Emb (E U : Nat → L → Nat → Prop) (f : Nat → Nat) : Prop where
 up : ∀ i l j, E i l j → U (f i) l (f j)
 down : ∀ i l y, U (f i) l y → ∃ j, y = f j ∧ E i l j
theorem Emb.inrt_up (h : Emb E U f) (hq : ∀ i, q (f i) = g (P i)) (e : inrt E τ P i j) : inrt U τ q (f i) (f j) := ⟨h.up _ _ _ e.1, by rw [hq, hq, e.2]⟩
theorem Emb.star_up (h : Emb E U f) (hq : ∀ i, q (f i) = g (P i)) (e : StarR (inrt E τ P) i j) : StarR (inrt U τ q) (f i) (f j) := by
 induction e with
 | refl => exact .refl _
 | step e _ ih => exact .step (h.inrt_up hq e) ih
theorem Emb.inrt_down (h : Emb E U f) (hq : ∀ i, q (f i) = g (P i)) (hg : ∀ a b, g a = g b → a = b) {y : Nat} (e : inrt U τ q (f i) y) : ∃ j, y = f j ∧ inrt E τ P i j := by
 obtain ⟨j, rfl, k⟩ := h.down _ _ _ e.1;refine ⟨j, rfl, k, hg _ _ ?_⟩;rw [← hq, ← hq]; exact e.2
theorem Emb.star_down (h : Emb E U f) (hq : ∀ i, q (f i) = g (P i)) (hg : ∀ a b, g a = g b → a = b) {u v : Nat} (e : StarR (inrt U τ q) u v) : ∀ {i : Nat}, u = f i → ∃ j, v = f j ∧ StarR (inrt E τ P) i j := by
 induction e with
 | refl => intro i hi; exact ⟨i, hi, .refl _⟩
 | step e _ ih =>
  intro i hi;subst hi;obtain ⟨j, rfl, k⟩ := h.inrt_down hq hg e;obtain ⟨m, rfl, k2⟩ := ih rfl;exact ⟨m, rfl, .step k k2⟩
theorem Emb.off (h : Emb E U f) (hq : ∀ i, q (f i) = g (P i)) (hg : ∀ a b, g a = g b → a = b) {b : α} : offr U τ q (f i) l b ↔ ∃ c, b = g c ∧ offr E τ P i l c := by
 constructor
 ·rintro ⟨x1, x2, g1, g2, g3, g4⟩
  obtain ⟨j, rfl, k⟩ := h.star_down hq hg g1 rfl;obtain ⟨m, rfl, k2⟩ := h.down _ _ _ g2;exact ⟨P m, by rw [← g3, hq], j, m, k, k2, rfl, fun e => g4 ⟨e.1, by rw [hq, hq, e.2]⟩⟩
 ·rintro ⟨c, rfl, j, m, k1, k2, k3, k4⟩
  exact ⟨f j, f m, h.star_up hq k1, h.up _ _ _ k2, by rw [hq, k3], fun e => k4 ⟨e.1, hg _ _ (by rw [← hq, ← hq]; exact e.2)⟩⟩
theorem Emb.dvg (h : Emb E U f) (hq : ∀ i, q (f i) = g (P i)) (hg : ∀ a b, g a = g b → a = b) : Dvg (inrt U τ q) (f i) ↔ Dvg (inrt E τ P) i := by
 constructor
 ·rintro ⟨D, h1, h2⟩
  refine ⟨fun i => D (f i), h1, fun j hj => ?_⟩;obtain ⟨z, g1, g2⟩ := h2 _ hj;obtain ⟨m, rfl, k⟩ := h.inrt_down hq hg g1;exact ⟨m, k, g2⟩
 ·rintro ⟨D, h1, h2⟩
  refine ⟨fun u => ∃ j, u = f j ∧ D j, ⟨i, rfl, h1⟩, fun u hu => ?_⟩;obtain ⟨j, rfl, hj⟩ := hu;obtain ⟨m, g1, g2⟩ := h2 j hj;exact ⟨f m, h.inrt_up hq g1, m, rfl, g2⟩
end
structure RefG (g : List Int → List Int) (N : Nat) : Prop where
 part : ∀ p, PartN N (g p)
 fine : ∀ p, PartN N p → ∀ i j, i < N → j < N → sameB (g p) i j → sameB p i j
def itP (g : List Int → List Int) (N : Nat) : Nat → List Int
 | 0 => zeroP N
 | n + 1 => g (itP g N n)
def LastG (g : List Int → List Int) (N r : Nat) : Prop := itP g N (r + 1) = itP g N r ∧ ∀ m, m < r → itP g N (m + 1) ≠ itP g N m
section
variable {g : List Int → List Int} {N r s : Nat}
theorem itP_part (h : RefG g N) (n : Nat) : PartN N (itP g N n) := by
 cases n with
 | zero => exact zeroP_part N
 | succ n => exact h.part _
theorem itP_ref (h : RefG g N) {n : Nat} (hne : itP g N (n + 1) ≠ itP g N n) : numB (itP g N n) < numB (itP g N (n + 1)) := by
 have hl : (itP g N n).length = (itP g N (n + 1)).length := by rw [(itP_part h n).len, (itP_part h (n + 1)).len]
 obtain ⟨h1, h2⟩ := numB_fine hl fun i j hi hj hs => h.fine _ (itP_part h n) i j (by rw [(itP_part h n).len] at hi; exact hi) (by rw [(itP_part h n).len] at hj; exact hj) hs
 by_cases e : numB (itP g N n) = numB (itP g N (n + 1))
 ·refine absurd (part_ext (itP_part h (n + 1)) (itP_part h n) fun i j hi hj => ⟨fun hs => h.fine _ (itP_part h n) i j hi hj hs, fun hs => h2 e i j (by rw [(itP_part h n).len]; exact hi) (by rw [(itP_part h n).len]; exact hj) hs⟩) hne
 ·omega
theorem itP_many (h : RefG g N) (hN : 1 ≤ N) {n : Nat} (hn : ∀ m, m < n → itP g N (m + 1) ≠ itP g N m) : n + 1 ≤ numB (itP g N n) := by
 induction n with
 | zero =>
  have hm : (0 : Int) ∈ firsts [] (itP g N 0) := firsts_mem.2 (.inr (by unfold itP zeroP; exact List.mem_replicate.2 ⟨by omega, rfl⟩));have := List.length_pos_of_mem hm;unfold numB; omega
 | succ n ih =>
  have h1 := ih fun m hm => hn m (by omega)
  have h2 := itP_ref h (hn n (by omega));omega
theorem itP_bound (h : RefG g N) (hN : 1 ≤ N) {n : Nat} (hn : ∀ m, m < n → itP g N (m + 1) ≠ itP g N m) : n + 1 ≤ N := by
 have h1 := itP_many h hN hn;have h2 := numB_le (itP g N n);rw [(itP_part h n).len] at h2;omega
end
section
variable {es : List Ed} {N r : Nat}
end
open Go.Sort
def pq (p : List Int) (x : Nat) : Option Int := p[x]?
def inrE (es : List Ed) (p : List Int) : Nat → Nat → Prop := inrt (nE es) (0 : Int) (pq p)
open Classical in
noncomputable def offL (es : List Ed) (N : Nat) (p : List Int) (k : Nat) : List Int := (es.filter fun e => decide (StarR (inrE es p) k e.1.toNat ∧ ¬ (e.2.1 = 0 ∧ pq p e.1.toNat = pq p e.2.2.toNat))).map (cdE N p)
open Classical in
noncomputable def dvgI (es : List Ed) (d : Bool) (p : List Int) (k : Nat) : Int := if d = true ∧ Dvg (inrE es p) k then 1 else 0
noncomputable def keyB (es : List Ed) (N : Nat) (d : Bool) (p : List Int) (k : Nat) : List Int := [(p[k]?).getD 0, dvgI es d p k] ++ Lib.compact (sortI (offL es N p k))
noncomputable def refB (es : List Ed) (N : Nat) (d : Bool) (p : List Int) : List Int := nkF ((List.range N).map (keyB es N d p))
section
variable {es : List Ed} {N : Nat} {p : List Int} {d : Bool}
open Classical in
theorem offL_mem (he : EdIn N es) (hp : p.length = N) {k : Nat} {c : Int} : c ∈ offL es N p k ↔ ∃ l b, offr (nE es) 0 (pq p) k l (some b) ∧ c = l * (N : Int) + b := by
 unfold offL;rw [List.mem_map]
 constructor
 ·rintro ⟨e, h1, rfl⟩
  obtain ⟨h1, h2⟩ := List.mem_filter.1 h1;obtain ⟨h2, h3⟩ := of_decide_eq_true h2;obtain ⟨b, hb⟩ := to_get he hp h1;obtain ⟨f, l, t⟩ := e;have hin := he _ h1;dsimp only at h2 h3 hb hin;refine ⟨l, b, ⟨f.toNat, t.toNat, h2, ?_, hb, h3⟩, by unfold cdE; dsimp only; rw [hb]; rfl⟩;unfold nE;rw [show ((f.toNat : Nat) : Int) = f by omega, show ((t.toNat : Nat) : Int) = t by omega];exact h1
 ·rintro ⟨l, b, ⟨x1, x2, h1, h2, h3, h4⟩, rfl⟩
  refine ⟨_, List.mem_filter.2 ⟨h2, decide_eq_true ?_⟩, ?_⟩
  ·simpa using ⟨h1, fun e => fun g => h4 ⟨e, g⟩⟩
  ·unfold cdE
   have h3 : p[x2]? = some b := h3
   simp [h3]
theorem refB_part (es : List Ed) (N : Nat) (d : Bool) (p : List Int) : PartN N (refB es N d p) := ⟨by unfold refB; rw [nkF_len]; simp, nkF_norm _⟩
theorem refB_same (he : EdIn N es) (hp : p.length = N) (hr : ∀ x, x ∈ p → 0 ≤ x ∧ x < (N : Int)) {i j : Nat} (hi : i < N) (hj : j < N) :
  sameB (refB es N d p) i j ↔ sameB p i j ∧ (d = true → (Dvg (inrE es p) i ↔ Dvg (inrE es p) j)) ∧ ∀ l b, offr (nE es) 0 (pq p) i l (some b) ↔ offr (nE es) 0 (pq p) j l (some b) := by
 have hk : ((List.range N).map (keyB es N d p)).length = N := by simp
 unfold refB;rw [nk_same (by omega) (by omega), List.getElem?_map, List.getElem?_map, List.getElem?_range hi, List.getElem?_range hj];simp only [Option.map_some, Option.some.injEq];unfold keyB;simp only [List.cons_append, List.nil_append, List.cons.injEq];rw [set_ext];have e1 : (p[i]?).getD 0 = (p[j]?).getD 0 ↔ sameB p i j := by
  unfold sameB;rw [List.getElem?_eq_getElem (by omega), List.getElem?_eq_getElem (by omega)]
  simp
 have e2 : dvgI es d p i = dvgI es d p j ↔ (d = true → (Dvg (inrE es p) i ↔ Dvg (inrE es p) j)) := by
  unfold dvgI
  by_cases hd : d = true
  ·by_cases h1 : Dvg (inrE es p) i <;> by_cases h2 : Dvg (inrE es p) j <;> simp [hd, h1, h2]
  ·simp [hd]
 have hin : ∀ {k : Nat} {l b : Int}, offr (nE es) 0 (pq p) k l (some b) → 0 ≤ b ∧ b < (N : Int) := fun ⟨_, x2, _, _, hb, _⟩ => hr _ (List.mem_of_getElem? (show p[x2]? = some _ from hb))
 rw [e1, e2];refine and_congr_right fun _ => and_congr_right fun _ => ?_
 constructor
 ·intro h l b
  have := h (l * (N : Int) + b);rw [offL_mem he hp, offL_mem he hp] at this
  constructor
  ·intro g
   obtain ⟨l2, b2, g2, e⟩ := this.1 ⟨l, b, g, rfl⟩;obtain ⟨rfl, rfl⟩ := cd_inj (hin g) (hin g2) e;exact g2
  ·intro g
   obtain ⟨l2, b2, g2, e⟩ := this.2 ⟨l, b, g, rfl⟩;obtain ⟨rfl, rfl⟩ := cd_inj (hin g) (hin g2) e;exact g2
 ·intro h c
  rw [offL_mem he hp, offL_mem he hp]
  constructor
  ·rintro ⟨l, b, g, e⟩; exact ⟨l, b, (h l b).1 g, e⟩
  ·rintro ⟨l, b, g, e⟩; exact ⟨l, b, (h l b).2 g, e⟩
theorem refB_ref (he : EdIn N es) : RefG (refB es N d) N := ⟨fun p => refB_part es N d p, fun p hp i j hi hj h => ((refB_same he hp.len hp.range hi hj).1 h).1⟩
theorem offr_some (he : EdIn N es) (hp : p.length = N) {k : Nat} {l : Int} {b : Option Int} (h : offr (nE es) 0 (pq p) k l b) : ∃ c, b = some c := by
 obtain ⟨x1, x2, _, h2, rfl, _⟩ := h;exact ⟨_, List.getElem?_eq_getElem (show x2 < p.length by rw [hp]; exact (nE_in he h2).2)⟩
theorem isSome_at {α : Type} {l : List α} {i : Nat} : (l[i]?).isSome = true ↔ i < l.length := by
 by_cases h : i < l.length
 ·rw [List.getElem?_eq_getElem h]; simp [h]
 ·rw [List.getElem?_eq_none (by omega)]; simp [h]
theorem pq_in (hp : p.length = N) {x y : Nat} (h : pq p x = pq p y) : x < N ↔ y < N := by
 unfold pq at h;rw [← hp, ← isSome_at, h, isSome_at]
theorem none_off (he : EdIn N es) {α : Type} {q : Nat → α} {x : Nat} (hx : ¬ x < N) {l : Int} {b : α} : ¬ offr (nE es) 0 q x l b := by
 rintro ⟨x1, x2, h1, h2, _⟩
 cases h1 with
 | refl => exact hx (nE_in he h2).1
 | step e _ => exact hx (nE_in he e.1).1
theorem none_dvg (he : EdIn N es) {α : Type} {q : Nat → α} {x : Nat} (hx : ¬ x < N) : ¬ Dvg (inrt (nE es) (0 : Int) q) x := fun h => by
 obtain ⟨y, h1, _⟩ := h.next;exact hx (nE_in he h1.1).1
theorem stable_stb (he : EdIn N es) (hp : PartN N p) (hs : refB es N d p = p) : Stb (nE es) (0 : Int) (d = true) (pq p) := by
 have key : ∀ {x y : Nat}, pq p x = pq p y → x < N → (d = true → (Dvg (inrE es p) x ↔ Dvg (inrE es p) y)) ∧ ∀ l b, offr (nE es) 0 (pq p) x l (some b) ↔ offr (nE es) 0 (pq p) y l (some b) := fun {x y} hxy hx => by
  have hy := (pq_in hp.len hxy).1 hx;have hxy : sameB p x y := hxy;rw [← hs] at hxy;exact ((refB_same he hp.len hp.range hx hy).1 hxy).2
 refine ⟨fun x y l b hq ho => ?_, fun hd x y hq hx => ?_⟩
 ·by_cases h : x < N
  ·obtain ⟨c, rfl⟩ := offr_some he hp.len ho
   exact ((key hq h).2 l c).1 ho
  ·exact absurd ho (none_off he h)
 ·by_cases h : x < N
  ·exact ((key hq h).1 hd).1 hx
  ·exact absurd hx (none_dvg he h)
theorem stb_rnd (he : EdIn N es) {α : Type} {q : Nat → α} (hq : Stb (nE es) (0 : Int) (d = true) q) (hr : ∀ x y, q x = q y → (x < N ↔ y < N)) : ∀ (n : Nat) {x y : Nat}, x < N → y < N → q x = q y → sameB (itP (refB es N d) N n) x y
 | 0, x, y, hx, hy, _ => rnd_zero (es := es) hx hy
 | n + 1, x, y, hx, hy, h => by
  have hP := itP_part (refB_ref (d := d) he) n;have hf : ∀ x y, q x = q y → pq (itP (refB es N d) N n) x = pq (itP (refB es N d) N n) y := fun x y e => by
   by_cases hx : x < N
   ·exact stb_rnd he hq hr n hx ((hr x y e).1 hx) e
   ·have hy : ¬ y < N := fun g => hx ((hr x y e).2 g)
    unfold pq;rw [List.getElem?_eq_none (by rw [hP.len]; omega), List.getElem?_eq_none (by rw [hP.len]; omega)]
  refine (refB_same he hP.len hP.range hx hy).2 ⟨hf x y h, fun hd => ⟨fun g => hq.fine_dvg hd hf h g, fun g => hq.fine_dvg hd hf h.symm g⟩, fun l b => ⟨fun g => hq.fine_off hf h g, fun g => hq.fine_off hf h.symm g⟩⟩
end
open Go.ChangeAt Go.ChangeShapes Go.Lib Go.RowKit Go.WideShapes
structure MinW (wb w : World) (J : List ByteArray) (R : List Int) (E : List Ed) (g : Option Nat) (r : Option (Option Addr × Nat)) (q : Option ((Option Addr × Nat × Nat) × (Option Addr × Nat × Nat))) : Prop where
 below : Below wb.heap.size wb w
 box : ∀ b, g = some b → wb.heap.size ≤ b ∧ LtsBox w b 0 0 none 0 0 none 0 0
 rch : ∀ h, r = some h → SlI w 0 w.heap.size h.1 h.2 R
 prt : ∀ h, q = some h → ∃ lo hi, SlS w lo hi h.1.1 h.1.2.1 J ∧ SlE w lo hi h.2.1 h.2.2.1 E ∧ wb.heap.size ≤ lo ∧ hi ≤ w.heap.size ∧ ∀ b, g = some b → b < lo ∨ hi ≤ b
section
variable {wb w w' : World} {J : List ByteArray} {R : List Int} {E : List Ed} {g : Option Nat} {r : Option (Option Addr × Nat)} {q : Option ((Option Addr × Nat × Nat) × (Option Addr × Nat × Nat))}
theorem MinW.start (wb : World) (J : List ByteArray) (R : List Int) (E : List Ed) : MinW wb wb J R E none none none := ⟨bR, fun b e => (by cases e), fun h e => (by cases e), fun h e => (by cases e)⟩
theorem MinW.keep (h : MinW wb w J R E g r q) (hb : Below w.heap.size w w') : MinW wb w' J R E g r q where
 below := h.below.trans (hb.mono h.below.size)
 box := fun b e => ⟨(h.box b e).1, (h.box b e).2.below hb (h.box b e).2.lt⟩
 rch := fun k e => ((h.rch k e).below hb (.inr zR)).here'
 prt := fun k e => by
  obtain ⟨lo, hi, h1, h2, h3, h4, h5⟩ := h.prt k e;exact ⟨lo, hi, h1.below hb (.inl h4), h2.below hb (.inl h4), h3, Nat.le_trans h4 hb.size, h5⟩
theorem MinW.drew (h : MinW wb w J R E g r q) : MinW wb w.drew J R E g r q := h.keep bR.drew
theorem MinW.alloc (h : MinW wb w J R E none r q) : MinW wb (w.alloc (.cells #[.int .i64 0, .int .i64 0, .slice none 0 0, .slice none 0 0] 27)) J R E (some w.heap.size) r q := by
 have hb : Below w.heap.size w (w.alloc (.cells #[.int .i64 0, .int .i64 0, .slice none 0 0, .slice none 0 0] 27)) := bR.alloc zR _;have h1 := h.keep hb;refine ⟨h1.below, fun b e => ?_, h1.rch, fun k e => ?_⟩
 ·cases e
  exact ⟨h.below.size, heap_alloc_new w _⟩
 ·obtain ⟨lo, hi, g1, g2, g3, g4, g5⟩ := h.prt k e
  exact ⟨lo, hi, g1.below hb (.inl g4), g2.below hb (.inl g4), g3, Nat.le_trans g4 hb.size, fun b e2 => by cases e2; exact .inr g4⟩
theorem MinW.reach (h : MinW wb w J R E g none none) {A : Option Addr} {n : Nat} (hb : Below w.heap.size w w') (ho : SlI w' w.heap.size w'.heap.size A n R) : MinW wb w' J R E g (some (A, n)) none :=
 ⟨(h.keep hb).below, (h.keep hb).box, fun k e => by cases e; exact ho.here', fun k e => by cases e⟩
theorem MinW.part (h : MinW wb w J R E g r none) {A B : Option Addr} {n c m d : Nat} (hb : Below w.heap.size w w') (hs : SlS w' w.heap.size w'.heap.size A n J) (he : SlE w' w.heap.size w'.heap.size B m E) : MinW wb w' J R E g r (some ((A, n, c), (B, m, d))) :=
 ⟨(h.keep hb).below, (h.keep hb).box, (h.keep hb).rch, fun k e => by
  cases e
  exact ⟨_, _, hs, he, h.below.size, zR, fun b e2 => .inl (h.box b e2).2.lt⟩⟩
structure MinF (wb wf : World) (J : List ByteArray) (E : List Ed) (b : Nat) (s i : Int) (A : Option Addr) (n c : Nat) (B : Option Addr) (m d : Nat) : Prop where
 below : Below wb.heap.size wb wf
 box : LtsBox wf b s i A n c B m d
 base : wb.heap.size ≤ b
 ss : SlS wf 0 wf.heap.size A n J
 se : SlE wf 0 wf.heap.size B m E
theorem MinW.fill {A B : Option Addr} {n c m d b : Nat} (h : MinW wb w J R E (some b) r (some ((A, n, c), (B, m, d)))) (s i : Int) :
  MinF wb ((((w.setCell ⟨b, 0, none⟩ (.int .i64 s)).setCell ⟨b, 1, none⟩ (.int .i64 i)).setCell ⟨b, 2, none⟩ (.slice A n c)).setCell ⟨b, 3, none⟩ (.slice B m d)) J E b s i A n c B m d := by
 obtain ⟨hg, hx⟩ := h.box b rfl;obtain ⟨lo, hi, g1, g2, g3, g4, g5⟩ := h.prt _ rfl;have g5 := g5 b rfl;have x0 : (w.setCell ⟨b, 0, none⟩ (.int .i64 s)).heap[b]? = _ := heap_setCell_same w b 0 _ _ _ hx;have x1 := heap_setCell_same _ b 1 _ _ (.int .i64 i) x0;have x2 := heap_setCell_same _ b 2 _ _ (.slice A n c) x1;have x3 := heap_setCell_same _ b 3 _ _ (.slice B m d) x2;have o1 := (Only.refl b (b + 1) w).setCell (p := ⟨b, 0, none⟩) zR (Nat.lt_succ_self _) (.int .i64 s);have o2 := o1.setCell (p := ⟨b, 1, none⟩) zR (Nat.lt_succ_self _) (.int .i64 i);have o3 := o2.setCell (p := ⟨b, 2, none⟩) zR (Nat.lt_succ_self _) (.slice A n c);have o4 := o3.setCell (p := ⟨b, 3, none⟩) zR (Nat.lt_succ_self _) (.slice B m d);exact ⟨Only.below h.below o4 hg h.below.size, x3, hg, (g1.only o4 (by omega)).here', (g2.only o4 (by omega)).here'⟩
end
theorem reach_nodup {N : Nat} {es : List Ed} {ini : Int} : (reachF N es ini).Nodup := by
 unfold reachF;exact List.Pairwise.map Int.ofNat (fun a b h e => h (Int.ofNat.inj e)) (List.Pairwise.filter _ List.nodup_range)
theorem results_cs {fn : Func} {p q : Tmp} {ty : TypeId} (h : fn.results = #[.cell p ty, .tmp q]) (tmps : Array Value) (P : Program) (w : World) :
  (results fn tmps).run P w = ((asAddr (tmps.getD p undef)).run P w).andThen fun a w₁ => ((loadVar ty a).run P w₁).andThen fun v w₂ => .ok (.tuple #[v, tmps.getD q undef]) w₂ := by
 simp only [results, h]
 simp [Sem.run_bind, Result.andThen]
end Go.Proofs.YtnhomkmfbngmgaaGreatDoor
namespace Go.Proofs.YtnhomkmfbngmgaaGreatDoor
open Go.ChangeShapes Go.WideShapes Go.ChangeAt Go.RowKit Go.Sort
def inG (p : List Int) (e : Ed) : Bool := decide (e.2.1 = 0) && decide (p[e.1.toNat]? = p[e.2.2.toNat]?)
theorem inG_true {p : List Int} {e : Ed} : inG p e = true ↔ e.2.1 = 0 ∧ p[e.1.toNat]? = p[e.2.2.toNat]? := by unfold inG; simp
theorem inert1_calls (N : Nat) (P : Option Addr) (cP : Nat) (p : List Int) (bP : Nat) (f l t : Int) (w : World) (lo hi : Nat) (hP : SlI w lo hi P N p) (hbl : bP < w.heap.size) (hb : w.cell? ⟨bP, 0, none⟩ = some (.slice P N cP)) (hf : 0 ≤ f ∧ f < (N : Int)) (ht : 0 ≤ t ∧ t < (N : Int)) :
  Calls Tryz.prog 263 #[.agg #[.int .i64 f, .int .i64 l, .int .i64 t], .pointer (some ⟨bP, 0, none⟩)] w (Says (inG p (f, l, t)) w) := by
 obtain ⟨f, rfl⟩ : ∃ k : Nat, f = (k : Int) := ⟨f.toNat, by omega⟩;obtain ⟨t, rfl⟩ : ∃ k : Nat, t = (k : Int) := ⟨t.toNat, by omega⟩;obtain ⟨gP, oP, pf, rfl, -, -, hgP, hpf, cf, -⟩ := SlI.get hP (show f < N by omega);obtain ⟨gP2, oP2, pt, e2, -, -, -, hpt, ct, -⟩ := SlI.get hP (show t < N by omega);cases e2;have hval : Hid (inG p ((f : Int), l, (t : Int)) = ((l == 0) && (pf == pt))) := by
  show _ = _
  unfold inG;simp only [Int.toNat_natCast, hpf, hpt]
  by_cases h1 : l = 0 <;> by_cases h2 : pf = pt <;> simp [h1, h2]
 have hb1 : Below w.heap.size w (w.alloc (.cells #[.int .i64 (f : Int), .int .i64 l, .int .i64 (t : Int)] 84)) := bR.alloc zR _;have k8 := heap_alloc_new w (.cells #[.int .i64 (f : Int), .int .i64 l, .int .i64 (t : Int)] 84);obtain ⟨w1, hw1⟩ : ∃ w1, w1 = w.alloc (.cells #[.int .i64 (f : Int), .int .i64 l, .int .i64 (t : Int)] 84) := ⟨_, rfl⟩;rw [← hw1] at hb1 k8;have c0 := (hb1.cell (p := ⟨bP, 0, none⟩) hbl).trans hb;replace cf := (hb1.cell (p := ⟨gP, oP + f, none⟩) hgP).trans cf;replace ct := (hb1.cell (p := ⟨gP, oP + t, none⟩) hgP).trans ct;have e0 : w1.cell? ⟨w.heap.size, 0, none⟩ = some (.int .i64 (f : Int)) := cR 0 k8;have e1 : w1.cell? ⟨w.heap.size, 1, none⟩ = some (.int .i64 l) := cR 1 k8;have e2 : w1.cell? ⟨w.heap.size, 2, none⟩ = some (.int .i64 (t : Int)) := cR 2 k8;have f0 : (0 : Int) ≤ (f : Int) := by omega
 have f1 : (f : Int) < (N : Int) := by omega
 have t0 : (0 : Int) ≤ (t : Int) := by omega
 have t1 : (t : Int) < (N : Int) := by omega
 replace hb1 := hide hb1;replace hpf := hide hpf;replace hpt := hide hpt;clear hP hb k8 hf ht
 by_cases hl : l = 0
 ·subst hl
  have g1 : ((0 : Int) == 0) = true := rfl;go_enter Tryz.func263, Tryz.ntmps263;go_upto_region 1 with fail;rw [← hw1];replace hw1 := hide hw1;go_quiet (fail);go_wp2_with fail;go_ret;exact ⟨by rw [hval.out]; rfl, hb1.out.trans (below_drewN _ _ |>.mono hb1.out.size)⟩
 ·have g1 : (l == 0) = false := beq_eq_false_iff_ne.2 hl
  go_enter Tryz.func263, Tryz.ntmps263;go_upto_region 1 with fail;rw [← hw1];replace hw1 := hide hw1;go_quiet (fail);go_wp2_with fail;go_ret;exact ⟨by rw [hval.out, g1]; rfl, hb1.out.trans (below_drewN _ _ |>.mono hb1.out.size)⟩
theorem inertOnly_calls {w : World} {N ini : Nat} {A : Option Addr} {n : Nat} {B : Option Addr} {m : Nat} {ls : List ByteArray} {es : List Ed} (h : SysA w N ini A n B m ls es) (c d : Nat) (P : Option Addr) (cP : Nat) (p : List Int) (hP : SlI w 0 w.heap.size P N p) :
  Calls Tryz.prog 200 #[.agg #[.int .i64 (N : Int), .int .i64 (ini : Int), .slice A n c, .slice B m d], .slice P N cP] w fun e w' => ∃ A' m' c', e = .returned (.agg #[.int .i64 (N : Int), .int .i64 (ini : Int), .slice A n c, .slice A' m' c']) ∧ SlE w' w.heap.size w'.heap.size A' m' (es.filter (inG p)) ∧ m' ≤ m ∧ Below w.heap.size w w' := by
 have hm := h.many;have hB := h.box (c := c) (d := d);obtain ⟨w3, hw3⟩ : ∃ w3, w3 = ((w.alloc (ltsC N ini A n c B m d)).alloc (.cells #[.slice P N cP] 32)).alloc (.cells #[.int .i64 0, .int .i64 0, .slice none 0 0, .slice none 0 0] 27) := ⟨_, rfl⟩;have z1 : (w.alloc (ltsC N ini A n c B m d)).heap.size = w.heap.size + 1 := World.size_alloc _ _;have hb2 : Below (w.heap.size + 1) (w.alloc (ltsC N ini A n c B m d)) w3 := by
  rw [hw3];exact (bR.alloc (by rw [z1]; exact zR) _).alloc (by rw [World.size_alloc, z1]; omega) _
 have hBw := hB.below (by rw [z1]; exact hb2);have z3 : w3.heap.size = w.heap.size + 3 := by rw [hw3, World.size_alloc, World.size_alloc, z1]
 have kP : w3.heap[w.heap.size + 1]? = some (.cells #[.slice P N cP] 32 (0, 0)) := by
  rw [hw3];refine (Below.heap_alloc _ _ _ (by rw [World.size_alloc, z1]; omega)).trans ?_;have := heap_alloc_new (w.alloc (ltsC N ini A n c B m d)) (.cells #[.slice P N cP] 32);rw [z1] at this;exact this
 have kR : w3.heap[w.heap.size + 2]? = some (.cells #[.int .i64 0, .int .i64 0, .slice none 0 0, .slice none 0 0] 27 (0, 0)) := by
  rw [hw3];have := heap_alloc_new ((w.alloc (ltsC N ini A n c B m d)).alloc (.cells #[.slice P N cP] 32)) (.cells #[.int .i64 0, .int .i64 0, .slice none 0 0, .slice none 0 0] 27);rw [World.size_alloc, z1] at this;exact this
 have hP3 := (hP.below hBw.bel (.inr zR)).here';have hends := hide h.ends;have qO := hide (only_calls 263 #[.pointer (some ⟨w.heap.size + 1, 0, none⟩)] (inG p) (N : Int) (ini : Int) A n c B m d es w3 _ _ hBw.sys.se (by omega) (fun v W => by kernel_rfl) fun f lb tg hx W hW =>
  inert1_calls N P cP p (w.heap.size + 1) f lb tg W _ _ (hP3.below hW (.inr zR)) (by have := hW.size; omega) ((cell_of_row _ _ 0 _ _ (0, 0) ((hW.block _ (by omega)).trans kP)).trans rfl) (hends.out _ hx).1 (hends.out _ hx).2)
 have b0 := hBw.box.c0;have b1 := hBw.box.c1;have b2 := hBw.box.c2;have b3 := hBw.box.c3;have zz : w.heap.size + 2 < w3.heap.size := by omega
 have zz2 : w.heap.size ≤ w3.heap.size := by omega
 replace kR := hide kR;replace kP := hide kP;have hbel := hide hBw.bel;replace z3 := hide z3;clear h hB hb2 hP hP3 hBw z1;go_enter Tryz.func200, Tryz.ntmps200;go_upto_region 1 with fail;rw [← show w3 = _ from hw3];replace hw3 := hide hw3;go_wp2_with fail;refine qO.out.mono ?_;rintro e w4 ⟨A', m', c', rfl, hO, hm', hb4⟩;have h8 : w4.heap[w.heap.size + 2]? = _ := (hb4.block _ zz).trans kR.out;have a0 : w4.cell? ⟨w.heap.size + 2, 0, none⟩ = some (.int .i64 0) := cR 0 h8;have a1 : w4.cell? ⟨w.heap.size + 2, 1, none⟩ = some (.int .i64 0) := cR 1 h8;have a2 : w4.cell? ⟨w.heap.size + 2, 2, none⟩ = some (.slice none 0 0) := cR 2 h8;have a3 : w4.cell? ⟨w.heap.size + 2, 3, none⟩ = some (.slice none 0 0) := cR 3 h8;have y0 : w4.frozen? ⟨w.heap.size + 2, 0, none⟩ = false := frozen_of_row _ _ 0 _ _ h8;have y1 : w4.frozen? ⟨w.heap.size + 2, 1, none⟩ = false := frozen_of_row _ _ 1 _ _ h8;have y2 : w4.frozen? ⟨w.heap.size + 2, 2, none⟩ = false := frozen_of_row _ _ 2 _ _ h8;have y3 : w4.frozen? ⟨w.heap.size + 2, 3, none⟩ = false := frozen_of_row _ _ 3 _ _ h8;have hbF := hide (hbel.out.trans (hb4.mono zz2));replace hb4 := hide hb4;replace h8 := hide h8;replace hO := hide hO;clear qO b0 b1 b2 b3;go_wp2_with fail
 (try simp only [Exit.inBlock, Exit.then])
 refine bodyPost_ret_by (v := .agg #[.int .i64 (N : Int), .int .i64 (ini : Int), .slice A n c, .slice A' m' c']) ?_ rfl ?_
 focus
  rw [results_cell1 rfl];go_simp
 change ∃ A9 m9 c9, _ ∧ SlE (put4 w4 (w.heap.size + 2) _ _ _ _) _ _ _ _ _ ∧ _ ∧ Below _ _ (put4 w4 (w.heap.size + 2) _ _ _ _)
 have hZs := put4_size w4 (w.heap.size + 2) (.int .i64 (N : Int)) (.int .i64 (ini : Int)) (.slice A n c) (.slice A' m' c');have hz4 := hb4.out.size;refine ⟨A', m', c', rfl, ?_, hm', ?_⟩
 ·exact (Sl.keep hO.out (by omega) fun q h1 h2 h3 => put4_other _ _ _ _ _ _ (by have := z3.out; omega)).more (by omega) (Nat.le_of_eq hZs.symm)
 ·exact ⟨hbF.out.os, hbF.out.tape, hbF.out.output, Nat.le_trans hbF.out.size (Nat.le_of_eq hZs.symm), fun q hq => (put4_other _ _ _ _ _ _ (by omega)).trans (hbF.out.block q hq)⟩
def tauE (es : List Ed) (x y : Nat) : Prop := nE es x 0 y
open Classical in
noncomputable def dvgL (es : List Ed) (N : Nat) : List Bool := setOf N fun k => decide (Dvg (tauE es) k)
theorem inS_dvgL {es : List Ed} {N k : Nat} (hk : k < N) : inS (dvgL es N) k = true ↔ Dvg (tauE es) k := by
 unfold dvgL;rw [inS_setOf]
 simp [hk]
def goD (b : List Bool) (e : Ed) : Bool := decide (e.2.1 = 0) && inS b e.2.2.toNat
theorem goD_any {N : Nat} {es : List Ed} (he : EdIn N es) {b : List Bool} {k : Nat} : (outE es (k : Int)).any (goD b) = true ↔ ∃ t, tauE es k t ∧ inS b t = true := by
 rw [List.any_eq_true]
 constructor
 ·rintro ⟨⟨f, l, t⟩, h1, h2⟩
  obtain ⟨h3, h4⟩ := List.mem_filter.1 h1;have h4 := of_decide_eq_true h4;unfold goD at h2;rw [Bool.and_eq_true] at h2;have h5 := of_decide_eq_true h2.1;have h6 := h2.2;have hin := he _ h3;dsimp only at h4 h5 h6 hin;refine ⟨t.toNat, ?_, h6⟩;unfold tauE nE;rw [← h4, ← h5, show ((t.toNat : Nat) : Int) = t by omega];exact h3
 ·rintro ⟨t, h1, h2⟩
  exact ⟨_, List.mem_filter.2 ⟨h1, by simp⟩, by unfold goD; simpa using h2⟩
theorem numBR_off {s : List Bool} {v : Nat} (hv : v < s.length) (hs : inS s v = true) : numBR (s.set v false) + 1 = numBR s := by
 have h1 := numBR_set (s := s.set v false) (v := v) (by rw [List.length_set]; exact hv) (by rw [inS_set hv, if_pos rfl]);rw [List.set_set] at h1;have h2 : s.set v true = s := by
  refine List.ext_getElem (by simp) fun i h3 h4 => ?_
  rw [List.getElem_set]
  split
  ·rename_i e
   subst e;unfold inS at hs;rw [List.getElem?_eq_getElem hv] at hs;exact hs.symm
  ·rfl
 rw [h2] at h1;omega
structure DvO (N : Nat) (es : List Ed) (b : List Bool) (ag : Bool) : Prop where
 len : b.length = N
 sup : ∀ k, k < N → Dvg (tauE es) k → inS b k = true
 cls : ag = false → ∀ k, k < N → inS b k = true → ∃ t, tauE es k t ∧ inS b t = true
structure DvI (N : Nat) (es : List Ed) (b0 b : List Bool) (j : Nat) (ag : Bool) : Prop where
 len : b.length = N
 sup : ∀ k, k < N → Dvg (tauE es) k → inS b k = true
 same : ag = false → b = b0 ∧ ∀ k, k < j → inS b0 k = true → ∃ t, tauE es k t ∧ inS b0 t = true
 drop : ag = true → numBR b < numBR b0
theorem DvO.start (N : Nat) (es : List Ed) : DvO N es (List.replicate N true) true := ⟨by simp, fun k hk _ => by unfold inS; rw [List.getElem?_replicate, if_pos hk]; rfl, fun h => by cases h⟩
theorem DvO.begin {N : Nat} {es : List Ed} {b : List Bool} {ag : Bool} (h : DvO N es b ag) : DvI N es b b 0 false := ⟨h.len, h.sup, fun _ => ⟨rfl, fun k hk => absurd hk (Nat.not_lt_zero k)⟩, fun h => by cases h⟩
theorem DvI.done {N : Nat} {es : List Ed} {b0 b : List Bool} {ag : Bool} (h : DvI N es b0 b N ag) : DvO N es b ag := ⟨h.len, h.sup, fun e k hk hb => by
 obtain ⟨e1, e2⟩ := h.same e;rw [e1] at hb ⊢;exact e2 k hk hb⟩
theorem DvI.keep {N : Nat} {es : List Ed} {b0 b : List Bool} {j : Nat} {ag : Bool} (h : DvI N es b0 b j ag) (hj : inS b j = true → ∃ t, tauE es j t ∧ inS b t = true) : DvI N es b0 b (j + 1) ag := ⟨h.len, h.sup, fun e => by
 obtain ⟨e1, e2⟩ := h.same e;refine ⟨e1, fun k hk hb => ?_⟩
 by_cases c : k < j
 ·exact e2 k c hb
 ·obtain rfl : k = j := by omega
  rw [e1] at hj;exact hj hb, h.drop⟩
theorem DvI.off {N : Nat} {es : List Ed} {b0 b : List Bool} {j : Nat} {ag : Bool} (h : DvI N es b0 b j ag) (he : EdIn N es) (hj : j < N) (hb : inS b j = true) (hn : ¬ ∃ t, tauE es j t ∧ inS b t = true) : DvI N es b0 (b.set j false) (j + 1) true := by
 have hl : j < b.length := by rw [h.len]; exact hj
 refine ⟨by rw [List.length_set]; exact h.len, fun k hk hd => ?_, fun e => (by cases e), fun _ => ?_⟩
 ·rw [inS_set hl]
  split
  ·rename_i e
   subst e;obtain ⟨t, h1, h2⟩ := hd.next;exact absurd ⟨t, h1, h.sup t (nE_in he h1).2 h2⟩ hn
  ·exact h.sup k hk hd
 ·have h1 := numBR_off hl hb
  cases hag : ag with
  | true => have := h.drop hag; omega
  | false => rw [← (h.same hag).1]; omega
theorem DvO.last {N : Nat} {es : List Ed} {b : List Bool} (h : DvO N es b false) (he : EdIn N es) : b = dvgL es N := by
 have hD : ∀ k, k < N → (inS b k = true ↔ Dvg (tauE es) k) := fun k hk => ⟨fun hb => ⟨fun k => k < N ∧ inS b k = true, ⟨hk, hb⟩, fun k hk => by
  obtain ⟨t, h1, h2⟩ := h.cls rfl k hk.1 hk.2;exact ⟨t, h1, (nE_in he h1).2, h2⟩⟩, h.sup k hk⟩
 refine List.ext_getElem (by rw [h.len]; simp [dvgL, setOf]) fun i h1 h2 => ?_
 have hi : i < N := by rw [← h.len]; exact h1
 have e1 : inS b i = b[i] := by unfold inS; rw [List.getElem?_eq_getElem h1]; rfl
 have e2 : inS (dvgL es N) i = (dvgL es N)[i] := by unfold inS; rw [List.getElem?_eq_getElem h2]; rfl
 rw [← e1, ← e2];have := (hD i hi).trans (inS_dvgL hi).symm
 cases h3 : inS b i <;> cases h4 : inS (dvgL es N) i <;> simp [h3, h4] at this ⊢
theorem dvgL_inert {N : Nat} {es : List Ed} {p : List Int} (he : EdIn N es) {k : Nat} : Dvg (tauE (es.filter (inG p))) k ↔ Dvg (inrE es p) k := by
 have key : ∀ x y, tauE (es.filter (inG p)) x y ↔ inrE es p x y := fun x y => by
  unfold tauE nE inrE inrt pq nE;rw [List.mem_filter, inG_true]
  simp
 exact ⟨Dvg.mono fun x y => (key x y).1, Dvg.mono fun x y => (key x y).2⟩
theorem div1_calls (N : Nat) (A : Option Addr) (cA : Nat) (b : List Bool) (bO : Nat) (f l t : Int) (w : World) (lo hi : Nat) (hP : SlB w lo hi A N b) (hbl : bO < w.heap.size) (hb : w.cell? ⟨bO, 0, none⟩ = some (.slice A N cA)) (ht : 0 ≤ t ∧ t < (N : Int)) :
  Calls Tryz.prog 208 #[.agg #[.int .i64 f, .int .i64 l, .int .i64 t], .pointer (some ⟨bO, 0, none⟩)] w (Says (goD b (f, l, t)) w) := by
 obtain ⟨t, rfl⟩ : ∃ k : Nat, t = (k : Int) := ⟨t.toNat, by omega⟩;obtain ⟨gP, oP, rfl, -, -, hgP, -, ct, -⟩ := SlB.get hP (show t < N by omega);obtain ⟨x, hx⟩ : ∃ x, x = inS b t := ⟨_, rfl⟩;rw [← hx] at ct;have hval : Hid (goD b (f, l, (t : Int)) = ((l == 0) && x)) := by
  show _ = _
  unfold goD;simp only [Int.toNat_natCast, hx]
  by_cases h1 : l = 0 <;> simp [h1]
 have hb1 : Below w.heap.size w (w.alloc (.cells #[.int .i64 f, .int .i64 l, .int .i64 (t : Int)] 84)) := bR.alloc zR _;have k8 := heap_alloc_new w (.cells #[.int .i64 f, .int .i64 l, .int .i64 (t : Int)] 84);obtain ⟨w1, hw1⟩ : ∃ w1, w1 = w.alloc (.cells #[.int .i64 f, .int .i64 l, .int .i64 (t : Int)] 84) := ⟨_, rfl⟩;rw [← hw1] at hb1 k8;have c0 := (hb1.cell (p := ⟨bO, 0, none⟩) hbl).trans hb;replace ct := (hb1.cell (p := ⟨gP, oP + t, none⟩) hgP).trans ct;have e1 : w1.cell? ⟨w.heap.size, 1, none⟩ = some (.int .i64 l) := cR 1 k8;have e2 : w1.cell? ⟨w.heap.size, 2, none⟩ = some (.int .i64 (t : Int)) := cR 2 k8;have t0 : (0 : Int) ≤ (t : Int) := by omega
 have t1 : (t : Int) < (N : Int) := by omega
 replace hb1 := hide hb1;replace hx := hide hx;clear hP hb k8 ht
 by_cases hl : l = 0
 ·subst hl
  have g1 : ((0 : Int) == 0) = true := rfl;go_enter Tryz.func208, Tryz.ntmps208;go_upto_region 1 with fail;rw [← hw1];replace hw1 := hide hw1;go_wp2_with fail;go_ret;exact ⟨by rw [hval.out]; rfl, hb1.out⟩
 ·have g1 : (l == 0) = false := beq_eq_false_iff_ne.2 hl
  go_enter Tryz.func208, Tryz.ntmps208;go_upto_region 1 with fail;rw [← hw1];replace hw1 := hide hw1;go_wp2_with fail;go_ret;exact ⟨by rw [hval.out, g1]; rfl, hb1.out⟩
structure DvW (w1 wr : World) (bO gA oA N cA : Nat) (b : List Bool) : Prop where
 row : SlB wr w1.heap.size wr.heap.size (some ⟨gA, oA, none⟩) N b
 box : wr.heap[bO]? = some (.cells #[.slice (some ⟨gA, oA, none⟩) N cA] 135 (0, 0))
 bel : Below w1.heap.size w1 wr
 ge : w1.heap.size ≤ bO
theorem DvW.below {w1 wr wx : World} {bO gA oA N cA : Nat} {b : List Bool} (h : DvW w1 wr bO gA oA N cA b) (hb : Below wr.heap.size wr wx) : DvW w1 wx bO gA oA N cA b :=
 ⟨(h.row.below hb (.inr zR)).more zR hb.size, (hb.block _ (Array.getElem?_eq_some_iff.1 h.box).1).trans h.box, h.bel.trans (hb.mono h.bel.size), h.ge⟩
theorem DvW.put {w1 wr : World} {bO gA oA N cA : Nat} {b : List Bool} (h : DvW w1 wr bO gA oA N cA b) {k : Nat} (hk : k < N) (hne : gA ≠ bO) (x : Bool) : DvW w1 (wr.setCell ⟨gA, oA + k, none⟩ (.bool x)) bO gA oA N cA (b.set k x) := by
 obtain ⟨-, -, g1, -, -⟩ := h.row.cell' hk;have hz : (wr.setCell ⟨gA, oA + k, none⟩ (.bool x)).heap.size = wr.heap.size := World.size_setCell _ _ _;exact ⟨by rw [hz]; exact h.row.put hk x, (Below.heap_setCell _ _ _ _ (by show bO ≠ gA; omega)).trans h.box, h.bel.setCell g1 _, h.ge⟩
theorem divergent_calls (N ini : Nat) (A : Option Addr) (n c : Nat) (B : Option Addr) (m d : Nat) (es : List Ed) (w : World) (hes : SlE w 0 w.heap.size B m es) (hm : m ≤ 1000) (hN1 : 1 ≤ N) (hN2 : N ≤ 40) (he : EdIn N es) :
  Calls Tryz.prog 112 #[.agg #[.int .i64 (N : Int), .int .i64 (ini : Int), .slice A n c, .slice B m d]] w fun e w' => ∃ A' c', e = .returned (.slice A' N c') ∧ SlB w' w.heap.size w'.heap.size A' N (dvgL es N) ∧ Below w.heap.size w w' := by
 obtain ⟨w1, hw1⟩ : ∃ w1, w1 = w.alloc (ltsC N ini A n c B m d) := ⟨_, rfl⟩;have hb1 : Below w.heap.size w w1 := by rw [hw1]; exact bR.alloc zR _
 have kT : LtsBox w1 w.heap.size (N : Int) (ini : Int) A n c B m d := by rw [hw1]; exact heap_alloc_new w _
 obtain ⟨wL, hwL⟩ : ∃ wL, wL = w1.alloc (.cells #[.bool true] 4) := ⟨_, rfl⟩;have hbL : Below w1.heap.size w1 wL := by rw [hwL]; exact bR.alloc zR _
 have hlit : SlB wL w1.heap.size (w1.heap.size + 1) (some ⟨w1.heap.size, 0, none⟩) 1 [true] := by rw [hwL]; exact Sl.lit1 (f := fun b => [.bool b]) w1 4 true #[.bool true] rfl 1 _ zR
 have qR := hide (repeatB_calls (some ⟨w1.heap.size, 0, none⟩) 1 true N wL _ _ hlit (by omega) (by omega));have b0 := kT.c0;have hAll := hide (fun (wx : World) (hx : Below w1.heap.size w1 wx) => And.intro (kT.below hx kT.lt) ((hes.below (hb1.trans (hx.mono hb1.size)) (.inr zR))));have he' := hide he;have hzT := kT.lt;replace hb1 := hide hb1;replace hbL := hide hbL;clear hes hlit he kT;go_enter Tryz.func112, Tryz.ntmps112;go_upto_region 1 with fail;rw [← show w1 = w.alloc (.cells #[.int .i64 (N : Int), .int .i64 (ini : Int), .slice A n c, .slice B m d] 27) from hw1];have hwL' := hide hwL;replace hw1 := hide hw1;go_wp2_with (first | (rw [← hwL]; go_at_call 207; (with_reducible refine qR.out.mono ?_); rintro e w3 ⟨AR, rfl, hR, hbR⟩));obtain ⟨gA, oA, rfl, gA1, -, gA2, -⟩ := hR.at_ hN1;have hzL := hbL.out.size;have hz3 := hbR.size;have hD0 : Hid (DvW w1 (w3.alloc (.cells #[.slice (some ⟨gA, oA, none⟩) N N] 135)) w3.heap.size gA oA N N (List.replicate N true)) := by
  have hba : Below w3.heap.size w3 (w3.alloc (.cells #[.slice (some ⟨gA, oA, none⟩) N N] 135)) := bR.alloc zR _;exact ⟨(hR.below hba (.inr zR)).more hzL hba.size, heap_alloc_new w3 _, (hbL.out.trans (hbR.mono hzL)).trans (hba.mono (by omega)), by omega⟩
 obtain ⟨bO, hbO⟩ : ∃ bO, bO = w3.heap.size := ⟨_, rfl⟩;rw [← hbO] at hD0 ⊢;have hne : gA ≠ bO := by omega
 have hge : w1.heap.size ≤ bO := by omega
 replace hbO := hide hbO;replace hR := hide hR;replace hbR := hide hbR;clear b0 qR hwL hwL'
 go_loopg [4] (N + 1) (fun G v4 wr => ∃ (b : List Bool) (ag : Bool), v4 = .bool ag ∧ Hid (DvW w1 wr bO gA oA N N b) ∧ Hid (DvO N es b ag) ∧ Hid (numBR b + (if ag = true then 1 else 0) ≤ G))
 case atStart => exact ⟨_, true, rfl, hD0.out, DvO.start N es, by show _ ≤ _; rw [if_pos rfl]; have := numBR_le (List.replicate N true); simp only [List.length_replicate] at this; omega⟩
 case round =>
  clear hD0;obtain ⟨b, ag, rfl, hW, hO, hG⟩ := hrel;have c0 := (cell_of_row _ _ 0 _ _ (0, 0) hW.out.box).trans (show _ = some (Value.slice (some ⟨gA, oA, none⟩) N N) from rfl)
  cases ag with
  | false =>
   have hlast := hO.out.last he'.out;have hrow := hW.out.row;rw [hlast] at hrow;have hz1 := hb1.out.size;have hF := hide (hrow.more hz1 zR);have hbF := hide (hb1.out.trans (hW.out.bel.mono hz1));clear hlast hrow;go_wp2_with fail;go_ret;exact ⟨_, N, rfl, hF.out, hbF.out⟩
  | true =>
   have hg1 := hG.out;rw [if_pos rfl] at hg1;obtain ⟨G2, rfl⟩ : ∃ G2, gk = G2 + 1 := ⟨gk - 1, by omega⟩;have hbeg := hide hO.out.begin;have hW0 := hW;obtain ⟨wo, rfl⟩ : ∃ wo : World, wo = wr := ⟨_, rfl⟩;clear hO hG hW;go_wp2_with fail
   go_loopw [4, 14] (fun v4 v14 wr => ∃ (j : Nat) (ag : Bool) (b2 : List Bool), j ≤ N ∧ v14 = .int .i64 (j : Nat) ∧ v4 = .bool ag ∧ Hid (DvW w1 wr bO gA oA N N b2) ∧ Hid (DvI N es b b2 j ag)) (fun _ v _ => N - (intOf v).toNat)
   case atStart => exact ⟨0, false, b, Nat.zero_le _, rfl, rfl, hW0.out, hbeg.out⟩
   case round =>
    clear hW0 hbeg c0;obtain ⟨j, ag, b2, hj, rfl, rfl, hW, hI⟩ := hrel
    by_cases hlt : j < N
    ·have j0 : (0 : Int) ≤ (j : Int) := by omega
     have j1 : (j : Int) < (N : Int) := by omega
     obtain ⟨kT, hse⟩ := hAll.out wr hW.out.bel;have b0 := kT.c0;have b1 := kT.c1;have b2' := kT.c2;have b3 := kT.c3;have qO := hide (out_calls (N : Int) (ini : Int) (.slice A n c) B m d (j : Int) es wr _ _ hse (by omega) ⟨_, _, _, rfl⟩);clear kT hse;go_upto_region 8 with fail;go_wp2_with fail;refine qO.out.mono ?_;rintro e w5 ⟨Ao, no, co, rfl, hOe, hno, hb5⟩;have hW5 := hide (hW.out.below hb5);have qC := hide (containsFuncEd_calls 208 #[.pointer (some ⟨bO, 0, none⟩)] (goD b2) Ao no co (outE es (j : Int)) w5 _ _ hOe hno (fun v W => by kernel_rfl) fun x y z W hx hWb => by
      have hW6 := hW5.out.below hWb;have hin := he'.out _ (List.mem_filter.1 hx).1;exact div1_calls N (some ⟨gA, oA, none⟩) N b2 bO x y z W _ _ hW6.row (Array.getElem?_eq_some_iff.1 hW6.box).1 (cR 0 hW6.box) ⟨hin.2.2.1, hin.2.2.2⟩)
     have hgo := goD_any (b := b2) (k := j) he'.out;generalize (outE es (j : Int)).any (goD b2) = go at qC hgo;replace hgo := hide hgo;clear qO b0 b1 b2' b3 hOe hb5 hW;go_wp2_with fail;refine qC.out.mono ?_;rintro e w6 ⟨rfl, hb6⟩;have hW6 := hide (hW5.out.below hb6);have c1 := (cell_of_row _ _ 0 _ _ (0, 0) hW6.out.box).trans (show _ = some (Value.slice (some ⟨gA, oA, none⟩) N N) from rfl);obtain ⟨d0, f0, -, -, dlt⟩ := hW6.out.row.cell' hlt;clear qC hb6 hW5
     by_cases hbj : inS b2 j = true
     ·rw [hbj] at d0
      cases go with
      | true =>
       have hI2 := hide (hI.out.keep fun _ => hgo.out.1 rfl);replace hbj := hide hbj;go_wp2_with fail;go_roundw
       case rel => exact ⟨j + 1, ag, b2, by omega, by go_num, rfl, hW6.out, hI2.out⟩
       case measure => simp [intOf]; omega
      | false =>
       have hI2 := hide (hI.out.off he'.out hlt hbj fun hx => by have := hgo.out.2 hx; cases this);have hW7 := hide (hW6.out.put hlt hne false);replace hbj := hide hbj;go_wp2_with fail;go_roundw
       case rel => exact ⟨j + 1, true, b2.set j false, by omega, by go_num, rfl, hW7.out, hI2.out⟩
       case measure => simp [intOf]; omega
     ·have hbf : inS b2 j = false := Bool.eq_false_iff.2 hbj
      rw [hbf] at d0;have hI2 := hide (hI.out.keep fun hx => absurd hx hbj);replace hbj := hide hbj;replace hbf := hide hbf;go_wp2_with fail;go_roundw
      case rel => exact ⟨j + 1, ag, b2, by omega, by go_num, rfl, hW6.out, hI2.out⟩
      case measure => simp [intOf]; omega
    ·obtain rfl : j = N := by omega
     have hDo := hide hI.out.done;have hG3 : Hid (numBR b2 + (if ag = true then 1 else 0) ≤ G2) := by
      show _ ≤ _
      cases hag : ag with
      | true => rw [if_pos rfl]; have := hI.out.drop hag; omega
      | false => rw [if_neg (by decide), (hI.out.same hag).1]; omega
     have j1 : ¬ (j : Int) < (j : Int) := by omega
     go_wp2_with fail
     go_roundg G2
     case rel => exact ⟨b2, ag, rfl, hW.out, hDo.out, hG3.out⟩
     case measure => exact Nat.lt_succ_self _
open Go.Lib
theorem arc_step {J ls : List ByteArray} {es : List Ed} (hJ : ∀ s, s ∈ ls → s ∈ J) (hl : ∀ e, e ∈ es → 0 ≤ e.2.1 ∧ e.2.1 < (ls.length : Int)) {f t : Int} {s : ByteArray} :
  (∃ l : Nat, (∃ a, a ∈ es.map (arcOf ls) ∧ (f, (l : Int), t) = arcD J a) ∧ J[l]? = some s) ↔ ∃ l : Nat, (f, (l : Int), t) ∈ es ∧ ls[l]? = some s := by
 constructor
 ·rintro ⟨l, ⟨a, ha, e⟩, hs⟩
  obtain ⟨x, hx, rfl⟩ := List.mem_map.1 ha;have hlx := hl x hx;unfold arcD at e;injection e with e1 e2;injection e2 with e2 e3;obtain ⟨k, h1, h2⟩ := idxZ_get (hJ _ (arcOf_mem (la := ls) (e := x) hlx));have : k = l := by omega
  subst this;rw [hs] at h2;have h3 := Option.some.inj h2;unfold arcOf at h3 e1 e3;simp only at h3 e1 e3;rw [List.getElem?_eq_getElem (show x.2.1.toNat < ls.length by omega), Option.getD_some] at h3;refine ⟨x.2.1.toNat, ?_, by rw [h3]; exact List.getElem?_eq_getElem _⟩;rw [show ((x.2.1.toNat : Nat) : Int) = x.2.1 by omega, e1, e3];exact hx
 ·rintro ⟨l, hx, hs⟩
  have hms := List.mem_of_getElem? hs;obtain ⟨k, h1, h2⟩ := idxZ_get (hJ s hms);refine ⟨k, ⟨arcOf ls (f, (l : Int), t), List.mem_map.2 ⟨_, hx, rfl⟩, ?_⟩, h2⟩;rw [arcOf_at hs];unfold arcD;simp only;rw [h1]
theorem uni_tE {la : List ByteArray} {ea : List Ed} {lb : List ByteArray} {eb : List Ed} {Na : Nat}
  (ha : ∀ e, e ∈ ea → (0 ≤ e.1 ∧ e.1 < (Na : Int)) ∧ (0 ≤ e.2.1 ∧ e.2.1 < (la.length : Int)) ∧ (0 ≤ e.2.2 ∧ e.2.2 < (Na : Int)))
  (hb : ∀ e, e ∈ eb → 0 ≤ e.1 ∧ (0 ≤ e.2.1 ∧ e.2.1 < (lb.length : Int)) ∧ 0 ≤ e.2.2) {x y : Nat} {s : ByteArray} :
  tE (joiF (la ++ lb)) (uniE la ea lb eb Na) x s y ↔ sumE Na (tE la ea) (tE lb eb) x s y := by
 have hJa : ∀ s, s ∈ la → s ∈ joiF (la ++ lb) := fun s hs => (joi_mem_iff _ _).2 (.inr (List.mem_append_left _ hs))
 have hJb : ∀ s, s ∈ lb → s ∈ joiF (la ++ lb) := fun s hs => (joi_mem_iff _ _).2 (.inr (List.mem_append_right _ hs))
 have ka := fun (f t : Int) (s : ByteArray) => arc_step (es := ea) (f := f) (t := t) (s := s) hJa fun e he => (ha e he).2.1
 have kb := fun (f t : Int) (s : ByteArray) => arc_step (es := eb) (f := f) (t := t) (s := s) hJb fun e he => (hb e he).2.1
 unfold tE sumE nE
 constructor
 ·rintro ⟨l, he, hs⟩
  unfold uniE at he;obtain ⟨a, hm, e⟩ := ltsEs_mem.1 he;unfold uniA at hm
  rcases List.mem_append.1 hm with h | h
  ·obtain ⟨l', h1, h2⟩ := (ka (x : Int) (y : Int) s).1 ⟨l, ⟨a, h, e⟩, hs⟩
   have := ha _ h1;dsimp only at this;exact .inl ⟨by omega, by omega, l', h1, h2⟩
  ·obtain ⟨b, hb', rfl⟩ := List.mem_map.1 h
   have hbx := hb';obtain ⟨z, hz, hzb⟩ := List.mem_map.1 hb';have hz2 := hb z hz;have e0 := e;unfold arcD shiftA at e;injection e with e1 e2;injection e2 with e2 e3;simp only at e1 e2 e3;have b1 : b.1 = z.1 := by rw [← hzb]; rfl
   have b2 : b.2.2 = z.2.2 := by rw [← hzb]; rfl
   obtain ⟨l', h1, h2⟩ := (kb b.1 b.2.2 s).1 ⟨l, ⟨b, hbx, by unfold arcD; rw [e2]⟩, hs⟩;refine .inr ⟨b.1.toNat, b.2.2.toNat, by omega, by omega, l', ?_, h2⟩;rw [show ((b.1.toNat : Nat) : Int) = b.1 by omega, show ((b.2.2.toNat : Nat) : Int) = b.2.2 by omega];exact h1
 ·rintro (⟨-, -, l, h1, h2⟩ | ⟨x', y', rfl, rfl, l, h1, h2⟩)
  ·obtain ⟨k, ⟨a, hm, e⟩, hs⟩ := (ka (x : Int) (y : Int) s).2 ⟨l, h1, h2⟩
   exact ⟨k, ltsEs_mem.2 ⟨a, List.mem_append_left _ hm, e⟩, hs⟩
  ·obtain ⟨k, ⟨a, hm, e⟩, hs⟩ := (kb (x' : Int) (y' : Int) s).2 ⟨l, h1, h2⟩
   refine ⟨k, ltsEs_mem.2 ⟨shiftA Na a, List.mem_append_right _ (List.mem_map.2 ⟨a, hm, rfl⟩), ?_⟩, hs⟩;unfold arcD at e;injection e with e1 e2;injection e2 with e2 e3;unfold arcD shiftA;simp only;rw [← e1, ← e2, ← e3]
   congr 1
   ·omega
   ·congr 1
    omega
theorem reach_mem {N : Nat} {es : List Ed} {ini a : Int} : a ∈ reachF N es ini ↔ ∃ k : Nat, a = (k : Int) ∧ k < N ∧ ReachE es ini k := by
 unfold reachF;rw [List.mem_map]
 constructor
 ·rintro ⟨k, hk, rfl⟩
  obtain ⟨h1, h2⟩ := List.mem_filter.1 hk;exact ⟨k, rfl, List.mem_range.1 h1, reachB_true.1 h2⟩
 ·rintro ⟨k, rfl, h1, h2⟩
  exact ⟨k, List.mem_filter.2 ⟨List.mem_range.2 h1, reachB_true.2 h2⟩, rfl⟩
theorem reach_ini {N ini : Nat} {es : List Ed} (h : ini < N) : (ini : Int) ∈ reachF N es (ini : Int) :=
 reach_mem.2 ⟨ini, rfl, h, 0, by simp [lay, srcE]⟩
theorem reach_closed {N : Nat} {es : List Ed} {ini : Int} (he : EdIn N es) (a l b : Int) (ha : a ∈ reachF N es ini) (h : (a, l, b) ∈ es) : b ∈ reachF N es ini := by
 obtain ⟨k, rfl, h1, h2⟩ := reach_mem.1 ha;have h3 := he _ h;dsimp only at h3;obtain ⟨j, rfl⟩ : ∃ j : Nat, b = (j : Int) := ⟨b.toNat, by omega⟩;exact reach_mem.2 ⟨j, rfl, by omega, h2.step ⟨_, h, by simp⟩⟩
theorem part_in {N : Nat} {es : List Ed} {S : List Int} (he : EdIn N es) (hn : S.Nodup) : EdIn S.length (partF S es) := by
 rintro ⟨f, l, t⟩ hm;obtain ⟨i, j, a, b, rfl, rfl, hi, hj, hx⟩ := (partF_part hn f l t).1 hm;have h1 := (List.getElem?_eq_some_iff.1 hi).1;have h2 := (List.getElem?_eq_some_iff.1 hj).1;have h3 := he _ hx;dsimp only at h3 ⊢;omega
theorem joi_nodup (l : List ByteArray) : (joiF l).Nodup := by
 unfold joiF;refine List.Pairwise.map ofL (fun a b h e => ?_) (compact_rise (sortL_rise _));have : a = b := by rw [← toL_ofL a, ← toL_ofL b, e]
 rw [this, ltL_irr] at h
 cases h
theorem uni_lab {la : List ByteArray} {ea : List Ed} {lb : List ByteArray} {eb : List Ed} {Na : Nat}
  (ha : ∀ e, e ∈ ea → 0 ≤ e.2.1 ∧ e.2.1 < (la.length : Int)) (hb : ∀ e, e ∈ eb → 0 ≤ e.2.1 ∧ e.2.1 < (lb.length : Int)) :
  ∀ e, e ∈ uniE la ea lb eb Na → 0 ≤ e.2.1 ∧ e.2.1 < ((joiF (la ++ lb)).length : Int) := by
 intro e he;obtain ⟨a, hm, rfl⟩ := ltsEs_mem.1 he;have lab : ∀ s, s ∈ la ++ lb → 0 ≤ idxZ (joiF (la ++ lb)) s ∧ idxZ (joiF (la ++ lb)) s < ((joiF (la ++ lb)).length : Int) := fun s hs => by
  obtain ⟨k, h1, h2⟩ := idxZ_get ((joi_mem_iff (la ++ lb) s).2 (.inr hs));have := (List.getElem?_eq_some_iff.1 h2).1;omega
 unfold uniA at hm
 rcases List.mem_append.1 hm with h | h
 ·obtain ⟨x, hx, rfl⟩ := List.mem_map.1 h
  exact lab _ (List.mem_append_left lb (arcOf_mem (ha x hx)))
 ·obtain ⟨y, hy, rfl⟩ := List.mem_map.1 h
  obtain ⟨x, hx, rfl⟩ := List.mem_map.1 hy;exact lab _ (List.mem_append_right la (arcOf_mem (hb x hx)))
theorem r8Has_calls (v : Int) (A : Option Addr) (n c : Nat) (l : List Int) (w : World) (lo hi : Nat) (h : SlI w lo hi A n l) (hn : n ≤ 1048576) :
  Calls Tryz.prog 47 #[.slice A n c, .int .i64 v] w fun e w' => e = .returned (.bool (decide (v ∈ l))) ∧ w' = w := by
 have hlen := hide h.len;go_enter Tryz.func47, Tryz.ntmps47;go_wp2_with fail
 go_loopw [5] (fun i wr => ∃ k : Nat, k ≤ n ∧ i = .int .i64 (k : Nat) ∧ Hid (v ∉ l.take k) ∧ wr = w) (fun i _ => n - (intOf i).toNat)
 case atStart => exact ⟨0, Nat.zero_le _, rfl, (by show ¬ _; rw [List.take_zero]; exact List.not_mem_nil), rfl⟩
 case round =>
  obtain ⟨k, hk, rfl, ha, rfl⟩ := hrel
  by_cases hlt : k < n
  ·obtain ⟨b, off, x, rfl, g1, g2, g3, hx, c0, -⟩ := SlI.get h hlt
   have k0 : (0 : Int) ≤ (k : Int) := by omega
   have k1 : (k : Int) < (n : Int) := by omega
   clear h
   by_cases hq : x = v
   ·subst hq
    have hm : Hid (decide (x ∈ l) = true) := decide_eq_true (List.mem_of_getElem? hx);have hself : (x == x) = true := by simp
    replace hx := hide hx;go_wp2_with fail;go_ret;exact ⟨ret_b hm.out, rfl⟩
   ·have hy : Hid (v ∉ l.take (k + 1)) := by
     show ¬ _
     rw [List.take_add_one, hx, List.mem_append];rintro (h1 | h1)
     ·exact ha.out h1
     ·exact hq (List.mem_singleton.1 h1).symm
    have hne : (x == v) = false := by rw [beq_eq_false_iff_ne]; exact hq
    replace hx := hide hx;clear hq;go_wp2_with fail;go_roundw
    case rel => exact ⟨k + 1, by omega, by go_num, hy.out, trivial⟩
    case measure => simp [intOf]; omega
  ·obtain rfl : k = n := by omega
   have hm := ha.out;rw [List.take_of_length_le (by rw [hlen.out]; exact zR)] at hm;have hm2 : Hid (decide (v ∈ l) = false) := decide_eq_false hm;clear h hm;go_wp2_with fail;go_ret;exact ⟨ret_b hm2.out, rfl⟩
end Go.Proofs.YtnhomkmfbngmgaaGreatDoor
namespace Go.Proofs.YtnhomkmfbngmgaaGreatDoor
theorem asc_one : ∀ {A B : List Int}, A.Pairwise (· < ·) → B.Pairwise (· < ·) → (∀ x, x ∈ A ↔ x ∈ B) → A = B
 | [], [], _, _, _ => rfl
 | [], b :: B, _, _, h => absurd ((h b).2 (List.mem_cons_self ..)) (List.not_mem_nil)
 | a :: A, [], _, _, h => absurd ((h a).1 (List.mem_cons_self ..)) (List.not_mem_nil)
 | a :: A, b :: B, hA, hB, h => by
  obtain ⟨ha, hA'⟩ := List.pairwise_cons.1 hA;obtain ⟨hb, hB'⟩ := List.pairwise_cons.1 hB;have e : a = b := by
   rcases List.mem_cons.1 ((h a).1 (List.mem_cons_self ..)) with e | h1
   ·exact e
   ·rcases List.mem_cons.1 ((h b).2 (List.mem_cons_self ..)) with e | h2
    ·exact e.symm
    ·have := hb a h1
     have := ha b h2;omega
  subst e
  congr 1
  refine asc_one hA' hB' fun x => ?_
  constructor
  ·intro hx
   rcases List.mem_cons.1 ((h x).1 (List.mem_cons_of_mem _ hx)) with rfl | g
   ·have := ha _ hx; omega
   ·exact g
  ·intro hx
   rcases List.mem_cons.1 ((h x).2 (List.mem_cons_of_mem _ hx)) with rfl | g
   ·have := hb _ hx; omega
   ·exact g
def putI (l : List Int) (n : Int) : List Int := (l.filter fun x => decide (x < n)) ++ n :: l.filter fun x => decide (n < x)
theorem putI_mem {l : List Int} {n x : Int} : x ∈ putI l n ↔ x ∈ l ∨ x = n := by
 unfold putI;rw [List.mem_append, List.mem_cons, List.mem_filter, List.mem_filter, decide_eq_true_eq, decide_eq_true_eq]
 constructor
 ·rintro (h | h | h)
  ·exact .inl h.1
  ·exact .inr h
  ·exact .inl h.1
 ·rintro (h | h)
  ·by_cases h1 : x < n
   ·exact .inl ⟨h, h1⟩
   ·by_cases h2 : n < x
    ·exact .inr (.inr ⟨h, h2⟩)
    ·exact .inr (.inl (by omega))
  ·exact .inr (.inl h)
theorem putI_asc {l : List Int} {n : Int} (h : l.Pairwise (· < ·)) : (putI l n).Pairwise (· < ·) := by
 refine List.pairwise_append.2 ⟨h.filter _, List.pairwise_cons.2 ⟨fun x hx => of_decide_eq_true (List.mem_filter.1 hx).2, h.filter _⟩, ?_⟩;intro a ha b hb;have h1 := of_decide_eq_true (List.mem_filter.1 ha).2
 rcases List.mem_cons.1 hb with rfl | hb
 ·exact h1
 ·have := of_decide_eq_true (List.mem_filter.1 hb).2
  omega
theorem putI_of {l k : List Int} {n : Int} (h : l.Pairwise (· < ·)) (hk : k.Pairwise (· < ·)) (hm : ∀ x, x ∈ k ↔ x ∈ l ∨ x = n) : putI l n = k :=
 asc_one (putI_asc h) hk fun x => by rw [putI_mem, hm]
def doneI (l : List Int) (n : Int) (i : Nat) : Bool := (l.take i).any fun x => decide (n ≤ x)
def outI (l : List Int) (n : Int) (i : Nat) : List Int := if doneI l n i then putI (l.take i) n else l.take i
section
variable {l : List Int} {n x : Int} {i : Nat}
theorem doneI_succ (hx : l[i]? = some x) : doneI l n (i + 1) = (doneI l n i || decide (n ≤ x)) := by
 unfold doneI;rw [List.take_add_one, hx, List.any_append]
 simp
theorem asc_snoc (h : l.Pairwise (· < ·)) (hx : l[i]? = some x) : ∀ y, y ∈ l.take i → y < x := by
 intro y hy;obtain ⟨hi, e⟩ := List.getElem?_eq_some_iff.1 hx;obtain ⟨j, hj, rfl⟩ := List.getElem_of_mem hy;rw [List.length_take] at hj;rw [List.getElem_take];have := List.pairwise_iff_getElem.1 h j i (by omega) hi (by omega);omega
theorem asc_take (h : l.Pairwise (· < ·)) (k : Nat) : (l.take k).Pairwise (· < ·) := h.sublist (List.take_sublist _ _)
theorem asc_app {k : List Int} (h : k.Pairwise (· < ·)) (hy : ∀ y, y ∈ k → y < x) : (k ++ [x]).Pairwise (· < ·) :=
 List.pairwise_append.2 ⟨h, by simp, fun a ha b hb => by rw [List.mem_singleton.1 hb]; exact hy a ha⟩
theorem outI_succ (h : l.Pairwise (· < ·)) (hx : l[i]? = some x) :
  outI l n (i + 1) = (if doneI l n i = false ∧ n ≤ x ∧ n < x then outI l n i ++ [n] else outI l n i) ++ [x] := by
 have ht : l.take (i + 1) = l.take i ++ [x] := by rw [List.take_add_one, hx]; rfl
 have hlt := asc_snoc h hx;have hta := asc_take h i;unfold outI;rw [doneI_succ hx]
 cases hd : doneI l n i with
 | true =>
  rw [Bool.true_or, if_pos rfl, if_neg (by simp), if_pos rfl];obtain ⟨y, hy, hyn⟩ := List.any_eq_true.1 hd;have hyn := of_decide_eq_true hyn;have hyx := hlt y hy;refine putI_of (asc_take h (i + 1)) (asc_app (putI_asc hta) fun z hz => ?_) fun z => ?_
  ·rcases putI_mem.1 hz with hz | rfl
   ·exact hlt z hz
   ·omega
  ·rw [ht]
   simp only [List.mem_append, List.mem_singleton, putI_mem]
   constructor
   ·rintro ((a | a) | a)
    ·exact .inl (.inl a)
    ·exact .inr a
    ·exact .inl (.inr a)
   ·rintro ((a | a) | a)
    ·exact .inl (.inl a)
    ·exact .inr a
    ·exact .inl (.inr a)
 | false =>
  rw [Bool.false_or, if_neg Bool.false_ne_true];have hall : ∀ y, y ∈ l.take i → y < n := fun y hy => by
   have := List.any_eq_false.1 hd y hy;rw [decide_eq_true_eq] at this;omega
  by_cases hn : n ≤ x
  ·rw [decide_eq_true hn, if_pos rfl]
   by_cases hnx : n < x
   ·rw [if_pos ⟨rfl, hn, hnx⟩]
    refine putI_of (asc_take h (i + 1)) (asc_app (asc_app hta hall) fun z hz => ?_) fun z => ?_
    ·rcases List.mem_append.1 hz with hz | hz
     ·exact hlt z hz
     ·rw [List.mem_singleton.1 hz]; exact hnx
    ·rw [ht]
     simp only [List.mem_append, List.mem_singleton]
     constructor
     ·rintro ((a | a) | a)
      ·exact .inl (.inl a)
      ·exact .inr a
      ·exact .inl (.inr a)
     ·rintro ((a | a) | a)
      ·exact .inl (.inl a)
      ·exact .inr a
      ·exact .inl (.inr a)
   ·rw [if_neg (by omega)]
    obtain rfl : n = x := by omega
    refine putI_of (asc_take h (i + 1)) (asc_app hta hlt) fun z => ?_
    rw [ht];simp only [List.mem_append, List.mem_singleton, or_assoc, or_self]
  ·rw [decide_eq_false hn, if_neg Bool.false_ne_true, if_neg (by omega), ht]
theorem outI_end (h : l.Pairwise (· < ·)) : (if doneI l n l.length then outI l n l.length else outI l n l.length ++ [n]) = putI l n := by
 unfold outI;rw [List.take_length]
 cases hd : doneI l n l.length with
 | true => rfl
 | false =>
  rw [if_neg Bool.false_ne_true, if_neg Bool.false_ne_true]
  symm
  refine putI_of h (asc_app h fun y hy => ?_) fun z => by simp
  unfold doneI at hd;rw [List.take_length] at hd;have := List.any_eq_false.1 hd y hy;rw [decide_eq_true_eq] at this;omega
end
open Go.ChangeAt Go.ChangeShapes Go.RowKit Go.WideShapes
theorem l00Put_calls (A : Option Addr) (n c : Nat) (l : List Int) (x : Int) (w : World) (lo hi : Nat) (h : SlI w lo hi A n l) (hasc : l.Pairwise (· < ·)) (hn : n ≤ 1048000) :
  Calls Tryz.prog 256 #[.slice A n c, .int .i64 x] w fun e w' => ∃ A' n' c', e = .returned (.slice A' n' c') ∧ Own 1 iv w' w.heap.size 2 A' n' c' (putI l x) ∧ n' ≤ n + 1 ∧ Below w.heap.size w w' := by
 have hE := hide elem_int64;have hlen := h.len;replace h := hide h.top;replace hasc := hide hasc;go_enter Tryz.func256, Tryz.ntmps256;go_wp2_with fail
 go_loopw [5, 6, 7] (fun v dn i wr => ∃ (k m : Nat) (Ao : Option Addr) (co : Nat), k ≤ n ∧ m ≤ k + 1 ∧ i = .int .i64 (k : Nat) ∧ v = .slice Ao m co ∧ dn = .bool (doneI l x k) ∧ Hid (Own 1 iv wr w.heap.size 2 Ao m co (outI l x k)) ∧ Below w.heap.size w wr) (fun _ _ i _ => n - (intOf i).toNat)
 case atStart => exact ⟨0, 0, _, 0, Nat.zero_le _, Nat.zero_le _, rfl, rfl, rfl, Own.made _ _ zR, bR.alloc zR _⟩
 case round =>
  obtain ⟨k, m, Ao, co, hk, hm, rfl, rfl, rfl, hown, hb⟩ := hrel
  by_cases hlt : k < n
  ·have hz := hb.size
   have hza : ∀ o, w.heap.size ≤ (wr.alloc o).heap.size := fun o => by rw [World.size_alloc]; omega
   obtain ⟨b, off, y, rfl, g1, g2, g3, hy, c0, -⟩ := SlI.get h.out hlt;replace c0 := (hb.cell (p := ⟨b, off + k, none⟩) g3).trans c0;have hd := doneI_succ (n := x) hy;have ho := outI_succ (n := x) hasc.out hy;have k0 : (0 : Int) ≤ (k : Int) := by omega
   have k1 : (k : Int) < (n : Int) := by omega
   replace hy := hide hy;replace hb := hide hb
   by_cases one : doneI l x k = false ∧ x < y
   ·obtain ⟨d0, hxy⟩ := one
    have hm2 : m ≤ k := by
     have h1 := hown.out.len;have h2 : outI l x k = l.take k := by unfold outI; rw [d0]; rfl
     rw [h2, List.length_take] at h1;omega
    have e1 : Hid (outI l x (k + 1) = outI l x k ++ [x] ++ [y]) := by show _ = _; rw [ho, if_pos ⟨d0, by omega, hxy⟩]
    have e2 : Hid (doneI l x (k + 1) = true) := by show _ = _; rw [hd, d0, decide_eq_true (show x ≤ y by omega)]; rfl
    have hge : decide (y ≥ x) = true := decide_eq_true (by omega);have hge2 : y ≥ x := by omega
    have hgt : y > x := hxy;rw [d0];clear hd ho d0;have c0a : ∀ o, (wr.alloc o).cell? ⟨b, off + k, none⟩ = some (.int .i64 y) := fun o => (((Below.refl wr.heap.size wr).alloc zR o).cell (p := ⟨b, off + k, none⟩) (by show b < wr.heap.size; omega)).trans c0
    have e4 := hide (show ∀ o, Below w.heap.size w (wr.alloc o) from fun o => hb.out.alloc hz o);go_wp2_with (first
     | (at_builtin; (with_reducible refine wpList_app rfl (.tmp 31) (.tmp 33) rfl hE.out flat_iv rfl (hown.out.alloc _) rfl (Sl.lit1' wr 2 x _ rfl 1 _ ?c0) ?c1 (hza _) ?_); rotate_right; intro A5 c5 w5 hown5 hgr5 hb5 _; have c5' := (hb5.cell (p := ⟨b, off + k, none⟩) g3).trans (c0a _); have hz5 := hb5.size; have hza5 : ∀ o, w.heap.size ≤ (w5.alloc o).heap.size := fun o => (by rw [World.size_alloc]; rw [World.size_alloc] at hz5; omega); have hz5' := Nat.le_trans (hza _) hz5; replace hown5 := hide hown5; replace hb5 := hide hb5; clear hgr5)
     | (at_builtin; (with_reducible refine wpList_app rfl (.tmp 35) (.tmp 40) rfl hE.out flat_iv rfl (hown5.out.alloc _) rfl (Sl.lit1' w5 2 y _ rfl 1 _ ?d0) ?d1 (hza5 _) ?_); rotate_right; intro A6 c6 w6 hown6 hgr6 hb6 _))
    case d0 => rfl
    case d1 => omega
    case c0 => rfl
    case c1 => omega
    have hb7 := hide ((e4.out _).trans (hb5.out.trans (bR.alloc hz5' _ |>.trans hb6)));rw [← e1.out] at hown6;go_roundw
    case rel => exact ⟨k + 1, m + 1 + 1, A6, c6, by omega, by omega, by go_num, rfl, by rw [e2.out], hown6, hb7.out⟩
    case measure => simp [intOf]; omega
   ·have e1 : Hid (outI l x (k + 1) = outI l x k ++ [y]) := by show _ = _; rw [ho, if_neg (fun c => one ⟨c.1, c.2.2⟩)]
    replace hd := hide hd;clear ho;have e4 := hide (show ∀ o, Below w.heap.size w (wr.alloc o) from fun o => hb.out.alloc hz o)
    cases d0 : doneI l x k with
    | true =>
     have e2 : Hid (doneI l x (k + 1) = true) := by show _ = _; rw [hd.out, d0]; rfl
     clear hd d0 one;go_wp2_with (first
      | (at_builtin; (with_reducible refine wpList_app rfl (.tmp 35) (.tmp 40) rfl hE.out flat_iv rfl (hown.out.alloc _) rfl (Sl.lit1' wr 2 y _ rfl 1 _ ?d0) ?d1 (hza _) ?_); rotate_right; intro A6 c6 w6 hown6 hgr6 hb6 _))
     case d0 => rfl
     case d1 => omega
     have hb7 := hide ((e4.out _).trans hb6);rw [← e1.out] at hown6;go_roundw
     case rel => exact ⟨k + 1, m + 1, A6, c6, by omega, by omega, by go_num, rfl, by rw [e2.out], hown6, hb7.out⟩
     case measure => simp [intOf]; omega
    | false =>
     by_cases hxy : x ≤ y
     ·have e2 : Hid (doneI l x (k + 1) = true) := by show _ = _; rw [hd.out, d0, decide_eq_true hxy]; rfl
      have hge : decide (y ≥ x) = true := decide_eq_true (by omega);have hge2 : y ≥ x := by omega
      have hgt : ¬ y > x := fun c => one ⟨d0, c⟩
      clear hd d0 one;go_wp2_with (first
       | (at_builtin; (with_reducible refine wpList_app rfl (.tmp 35) (.tmp 40) rfl hE.out flat_iv rfl (hown.out.alloc _) rfl (Sl.lit1' wr 2 y _ rfl 1 _ ?d0) ?d1 (hza _) ?_); rotate_right; intro A6 c6 w6 hown6 hgr6 hb6 _))
      case d0 => rfl
      case d1 => omega
      have hb7 := hide ((e4.out _).trans hb6);rw [← e1.out] at hown6;go_roundw
      case rel => exact ⟨k + 1, m + 1, A6, c6, by omega, by omega, by go_num, rfl, by rw [e2.out], hown6, hb7.out⟩
      case measure => simp [intOf]; omega
     ·have e2 : Hid (doneI l x (k + 1) = false) := by show _ = _; rw [hd.out, d0, decide_eq_false hxy]; rfl
      have hge : decide (y ≥ x) = false := decide_eq_false (by omega);have hge2 : ¬ y ≥ x := by omega
      clear hd d0 one;go_wp2_with (first
       | (at_builtin; (with_reducible refine wpList_app rfl (.tmp 35) (.tmp 40) rfl hE.out flat_iv rfl (hown.out.alloc _) rfl (Sl.lit1' wr 2 y _ rfl 1 _ ?d0) ?d1 (hza _) ?_); rotate_right; intro A6 c6 w6 hown6 hgr6 hb6 _))
      case d0 => rfl
      case d1 => omega
      have hb7 := hide ((e4.out _).trans hb6);rw [← e1.out] at hown6;go_roundw
      case rel => exact ⟨k + 1, m + 1, A6, c6, by omega, by omega, by go_num, rfl, by rw [e2.out], hown6, hb7.out⟩
      case measure => simp [intOf]; omega
  ·obtain rfl : k = n := by omega
   have hend := outI_end (n := x) hasc.out;rw [hlen] at hend;have hz := hb.size;replace hb := hide hb
   cases d0 : doneI l x k with
   | true =>
    rw [d0, if_pos rfl] at hend;rw [hend] at hown;clear hend;go_wp2_with fail;go_ret;exact ⟨_, _, _, rfl, hown.out, by omega, hb.out⟩
   | false =>
    rw [d0, if_neg Bool.false_ne_true] at hend;replace hend := hide hend;have hza : ∀ o, w.heap.size ≤ (wr.alloc o).heap.size := fun o => by rw [World.size_alloc]; omega
    have hm2 : m ≤ k := by
     have h1 := hown.out.len;have h2 : outI l x k = l.take k := by unfold outI; rw [d0]; rfl
     rw [h2, List.length_take] at h1;omega
    have e4 := hide (show ∀ o, Below w.heap.size w (wr.alloc o) from fun o => hb.out.alloc hz o);go_wp2_with (first
     | (at_builtin; (with_reducible refine wpList_app rfl (.tmp 44) (.tmp 46) rfl hE.out flat_iv rfl (hown.out.alloc _) rfl (Sl.lit1' wr 2 x _ rfl 1 _ ?d0) ?d1 (hza _) ?_); rotate_right; intro A6 c6 w6 hown6 hgr6 hb6 _))
    case d0 => rfl
    case d1 => omega
    have hb7 := hide ((e4.out _).trans hb6);rw [hend.out] at hown6;go_wp2_with fail;go_ret;exact ⟨_, _, _, rfl, hown6, by omega, hb7.out⟩
end Go.Proofs.YtnhomkmfbngmgaaGreatDoor
