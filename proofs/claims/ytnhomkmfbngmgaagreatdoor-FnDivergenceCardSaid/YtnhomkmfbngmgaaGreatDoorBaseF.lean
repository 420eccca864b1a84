/-
  Lemmas that the law of this claim leans on. Conditions: sizes.
-/
import Derived.Test.YtnhomkmfbngmgaaGreatDoorBaseA
import Derived.Test.YtnhomkmfbngmgaaGreatDoorBaseB
import Derived.Test.YtnhomkmfbngmgaaGreatDoorBaseC
import Derived.Test.YtnhomkmfbngmgaaGreatDoorBaseD
import Derived.Test.YtnhomkmfbngmgaaGreatDoorBaseE
import Derived.Deep.DeepCutAuto
import Derived.Deep.QuietTactic
import Derived.StillTailTactics
import Derived.StillTail
import Derived.OrdersHeld
import Derived.Deep.RegionHeld3
set_option maxHeartbeats 6400000
set_option maxRecDepth 100000
set_option linter.unusedSimpArgs false
set_option linter.unusedVariables false
namespace Go.Proofs.YtnhomkmfbngmgaaGreatDoor
open Go.ChangeShapes Go.WideShapes Go.ChangeAt Go.RowKit
def fstG {α : Type} (G : α → Bool) (l : List α) (i : Int) : Prop := (i = -1 ∧ l.any G = false) ∨ ∃ k : Nat, i = k ∧ k < l.length ∧ (l.take k).any G = false ∧ ∃ x, l[k]? = some x ∧ G x = true
theorem equalI_calls (A B : Option Addr) (n m c d : Nat) (l r : List Int) (w : World) (lo hi lo' hi' : Nat) (h : SlI w lo hi A n l) (g : SlI w lo' hi' B m r) (hn : n ≤ 1048576) (hm : m ≤ 1048576) :
  Calls Tryz.prog 80 #[.slice A n c, .slice B m d] w fun e w' => e = .returned (.bool (decide (l = r))) ∧ Below w.heap.size w w' := by
 have hl := hide h.len;have hr := hide g.len
 by_cases hnm : n = m
 ·subst hnm
  replace h := hide h;replace g := hide g;go_enter Tryz.func80, Tryz.ntmps80
  go_wp2
  go_loopw [13] (fun i wr => ∃ k : Nat, k ≤ n ∧ i = .int .i64 k ∧ Below w.heap.size w wr ∧ l.take k = r.take k) (fun i _ => n - (intOf i).toNat)
  case atStart => exact ⟨0, Nat.zero_le _, rfl, bR, rfl⟩
  case round =>
   obtain ⟨k, hk, rfl, hb, he⟩ := hrel;replace he := hide he
   by_cases hlt : k < n
   ·obtain ⟨b, off, x, rfl, g1, g2, g3, hx, c0, -⟩ := h.out.get hlt
    obtain ⟨b', off', y, rfl, g1', g2', g3', hy, d0, -⟩ := g.out.get hlt;replace c0 := (hb.cell (p := ⟨b, off + k, none⟩) g3).trans c0;replace d0 := (hb.cell (p := ⟨b', off' + k, none⟩) g3').trans d0;replace hx := hide hx;replace hy := hide hy;clear h g;have hk0 : (0 : Int) ≤ (k : Int) := by omega
    have hk1 : (k : Int) < (n : Int) := by omega
    by_cases hxy : x = y
    ·subst hxy
     have hq : (x != x) = false := by simp
     go_wp2
     go_quiet (fail)
     go_wp2
     go_roundw
     case rel => exact ⟨k + 1, by omega, by go_num, by first | exact hb | exact ⟨hb.os, hb.tape, hb.output, hb.size, hb.block⟩, take_step he.out hx.out hy.out rfl⟩
     case measure => simp [intOf]; omega
    ·have hne := hide (take_stop hx.out hy.out hxy)
     have hq : (x != y) = true := by rw [bne_iff_ne]; exact hxy
     go_wp2
     go_quiet (fail)
     go_wp2
     go_ret;exact ⟨by simp [hne.out], by first | exact hb | exact ⟨hb.os, hb.tape, hb.output, hb.size, hb.block⟩⟩
   ·have hkn : k = n := by omega
    subst hkn;clear h g
    go_wp2
    go_ret;exact ⟨by rw [take_all he.out hl.out hr.out]; simp, hb⟩
 ·have hne : Hid (l ≠ r) := fun e => hnm (by rw [← hl.out, ← hr.out, e])
  have hb0 : ((n : Int) != (m : Int)) = true := by rw [bne_iff_ne]; omega
  clear h g;go_enter Tryz.func80, Tryz.ntmps80
  go_wp2
  go_ret;exact ⟨by simp [hne.out], bR⟩
theorem indexFuncR_calls (F : FuncId) (caps : Array Value) (G : List Int → Bool) (A : Option Addr) (n c : Nat) (R : List (Hd × List Int)) (w : World) (lo hi : Nat) (h : RowsI 1048576 w lo hi A n R) (hn : n ≤ 1048576)
  (hF : ∀ (v : Value) (W : World), Sem.run Tryz.prog (callFunc F (#[v] ++ caps)) W = .ok (.enter F (#[v] ++ caps)) W)
  (hcl : ∀ (A : Option Addr) (m d : Nat) (l : List Int) (W : World), ((A, m, d), l) ∈ R → Below w.heap.size w W → SlI W lo hi A m l → m ≤ 1048576 → Calls Tryz.prog F (#[.slice A m d] ++ caps) W (Says (G l) W)) :
  Calls Tryz.prog 239 #[.slice A n c, .func (.func F) #[] caps] w fun e w' => ∃ i : Int, e = .returned (.int .i64 i) ∧ fstG G (R.map (·.2)) i ∧ Below w.heap.size w w' := by
 have hlen : Hid (R.length = n) := by have := h.1.len; rwa [List.length_map] at this
 replace hcl := hide hcl;replace h := hide h;go_enter Tryz.func239, Tryz.ntmps239
 go_wp2
 go_loopw [8] (fun i wr => ∃ k : Nat, k ≤ n ∧ i = .int .i64 k ∧ Below w.heap.size w wr ∧ Hid (((R.map (·.2)).take k).any G = false)) (fun i _ => n - (intOf i).toNat)
 case atStart => exact ⟨0, Nat.zero_le _, rfl, bR, rfl⟩
 case round =>
  obtain ⟨k, hk, rfl, hb, ha⟩ := hrel
  by_cases hlt : k < n
  ·have hxr : R[k]? = some (R[k]'(by have := hlen.out; omega)) := List.getElem?_eq_getElem _
   have hmem : (R[k]'(by have := hlen.out; omega)) ∈ R := List.getElem_mem _;obtain ⟨hs0, hm0⟩ := h.out.2 _ hmem;obtain ⟨b, off, hA, g1, g2, g3, hc0⟩ := h.out.1.at_ (show 0 < n by omega);have c0 := (hc0 k _ (by rw [List.getElem?_map, hxr]; rfl) 0 _ rfl).1;rw [Nat.mul_one, Nat.add_zero] at c0;generalize (R[k]'(by have := hlen.out; omega)) = r at *;obtain ⟨⟨Ah, m, ch⟩, s⟩ := r
   (try dsimp only at hs0 hm0 c0)
   replace c0 := (hb.cell (p := ⟨b, off + k, none⟩) g3).trans c0;subst hA;have hc := hcl.out Ah m ch s wr hmem hb (hs0.below hb (.inr zR)) hm0;have hx2 : (R.map (·.2))[k]? = some s := by rw [List.getElem?_map, hxr]; rfl
   replace hx2 := hide hx2;clear h hcl hs0 hxr hmem hc0
   by_cases hg : G s = true
   ·rw [hg] at hc
    replace hc := hide hc;have hy : Hid (fstG G (R.map (·.2)) k) := .inr ⟨k, rfl, by rw [List.length_map, hlen.out]; exact hlt, ha.out, s, hx2.out, hg⟩;clear hg;go_wp2_with fail;refine hc.out.mono ?_;rintro e w1 ⟨rfl, hb1⟩;go_wp2_with fail;go_ret;exact ⟨_, rfl, hy.out, hb.trans (hb1.mono hb.size)⟩
   ·replace hg := Bool.eq_false_iff.2 hg
    rw [hg] at hc;replace hc := hide hc;have hy := hide (any_take_succ ha.out hx2.out hg);clear hg;go_wp2_with fail;refine hc.out.mono ?_;rintro e w1 ⟨rfl, hb1⟩;go_wp2_with fail;go_roundw
    case rel => exact ⟨k + 1, by omega, by go_num, hb.trans (hb1.mono hb.size), hy⟩
    case measure => simp [intOf]; omega
  ·have hkn : k = n := by omega
   subst hkn;clear hcl h
   go_wp2
   go_ret;have hy := ha.out
   rw [List.take_of_length_le (by rw [List.length_map, hlen.out]; exact zR)] at hy;exact ⟨_, rfl, .inl ⟨rfl, hy⟩, hb⟩
theorem drewN_grow {w w' : World} {row : Option Nat} (h : w.grownBy w' row) (k : Nat) : w.grownBy (w'.drewN k) row := ⟨h.os, h.tape, h.output, h.size, h.block⟩
theorem setCell_grow {w w' : World} {row : Option Nat} (h : w.grownBy w' row) {g i : Nat} (hg : some g = row ∨ w.heap.size ≤ g) (v : Value) : w.grownBy (w'.setCell ⟨g, i, none⟩ v) row :=
 ⟨h.os, h.tape, h.output, by rw [World.size_setCell]; exact h.size, fun k hk hne => (Below.heap_setCell _ _ _ _ (by
  show k ≠ g
  rintro rfl
  rcases hg with e | e
  ·exact hne e
  ·omega)).trans (h.block k hk hne)⟩
theorem drewN_below (w : World) (k : Nat) {B : Nat} : Below B w (w.drewN k) := ⟨rfl, rfl, rfl, zR, fun _ _ => rfl⟩
theorem l11Put_calls (A : Option Addr) (n c : Nat) (es : List Ed) (f lb t : Int) (w : World) (base : Nat) (h : Own 3 ev w base 84 A n c es) (hs : RisE es) (hn : n ≤ 100000) (hbase : base ≤ w.heap.size) :
  Calls Tryz.prog 175 #[.slice A n c, .agg #[.int .i64 f, .int .i64 lb, .int .i64 t]] w fun e w' => ∃ A' n' c' es', e = .returned (.slice A' n' c') ∧ Own 3 ev w' base 84 A' n' c' es' ∧ PutO es (f, lb, t) es' ∧ Below base w w' ∧ w.grownBy w' (Value.slice A n c).ownBlock ∧ ((Value.slice A' n' c').ownBlock = (Value.slice A n c).ownBlock ∨ ∃ g, (Value.slice A' n' c').ownBlock = some g ∧ w.heap.size ≤ g) := by
 have hE := hide elem_edge;have hlen := h.len;have hb0 := hide ((Below.refl base w).alloc hbase (.cells #[.int .i64 f, .int .i64 lb, .int .i64 t] 84));have k0 := heap_alloc_new w (.cells #[.int .i64 f, .int .i64 lb, .int .i64 t] 84);have hO0 := hide (h.alloc (.cells #[.int .i64 f, .int .i64 lb, .int .i64 t] 84));have hz0 : w.heap.size < (w.alloc (.cells #[.int .i64 f, .int .i64 lb, .int .i64 t] 84)).heap.size := by simp
 obtain ⟨wA, hwA⟩ : ∃ wA, wA = w.alloc (.cells #[.int .i64 f, .int .i64 lb, .int .i64 t] 84) := ⟨_, rfl⟩;have hG0 := hide (World.grownBy_alloc w (.cells #[.int .i64 f, .int .i64 lb, .int .i64 t] 84) (Value.slice A n c).ownBlock);rw [← hwA] at hb0 k0 hO0 hz0 hG0;have hlt := hide h.lt;replace hs := hide hs;clear h;obtain ⟨be, hbe⟩ : ∃ be, be = w.heap.size := ⟨_, rfl⟩;have hne : Hid (∀ g, (Value.slice A n c).ownBlock = some g → base ≤ g ∧ g < be) := fun g e => by rw [hbe]; exact hlt.out g e
 rw [← hbe] at k0;have hkeep : Hid (∀ W : World, W.heap[be]? = wA.heap[be]? → W.cell? ⟨be, 0, none⟩ = some (.int .i64 f) ∧ W.cell? ⟨be, 1, none⟩ = some (.int .i64 lb) ∧ W.cell? ⟨be, 2, none⟩ = some (.int .i64 t)) := fun W hW =>
  ⟨cR 0 (hW.trans k0), cR 1 (hW.trans k0), cR 2 (hW.trans k0)⟩
 clear k0 hlt;go_enter Tryz.func175, Tryz.ntmps175;go_upto_region 2 with fail;rw [← hwA, ← hbe];replace hwA := hide hwA;have hbe2 : base ≤ be := by rw [hbe]; exact hbase
 have hbe3 : be < wA.heap.size := by rw [hbe]; exact hz0
 replace hbe := hide hbe
 go_loopw [5] (fun i wr => ∃ (k : Nat) (N : Nat), k ≤ n ∧ i = .int .i64 (k : Nat) ∧ wr = wA.drewN N ∧ Hid (∀ j x, k ≤ j → es[j]? = some x → edLess (f, lb, t) x = true)) (fun i _ => (intOf i).toNat)
 case atStart => exact ⟨n, 0, zR, by go_num, rfl, fun j x h1 h2 => by have := (List.getElem?_eq_some_iff.1 h2).1; omega⟩
 case round =>
  obtain ⟨k, N, hk, rfl, rfl, hhi⟩ := hrel;obtain ⟨e0, e1, e2⟩ := hkeep.out (wA.drewN N) rfl
  by_cases hgo : ∃ k' x, k = k' + 1 ∧ es[k']? = some x ∧ edLess (f, lb, t) x = true
  ·obtain ⟨k', ⟨x, y, z⟩, rfl, hx, hl⟩ := hgo
   have q0 : (0 : Int) < (k' : Int) + 1 := by omega
   have q1 : (0 : Int) ≤ (k' : Int) := by omega
   have q2 : (k' : Int) < (n : Int) := by omega
   obtain ⟨g, off, x', y', z', rfl, -, -, -, hx', d0, d1, d2, -⟩ := SlE.get ((hO0.out.keep (w' := wA.drewN N) fun _ _ => rfl).sl flat_ev) (show k' < n by omega);rw [hx] at hx';injection hx' with hx';injection hx' with r1 r2;injection r2 with r2 r3;subst r1 r2 r3;have ql := l11Less_calls be 0 g (off + k' * 3) f lb t x y z (wA.drewN N) e0 e1 e2 d0 d1 d2;rw [hl] at ql;replace ql := hide ql;have hhi2 : Hid (∀ j x, k' ≤ j → es[j]? = some x → edLess (f, lb, t) x = true) := fun j u h1 h2 => by
    by_cases e : j = k'
    ·subst e; rw [hx] at h2; injection h2 with h2; rw [← h2]; exact hl
    ·exact hhi.out j u (by omega) h2
   clear hx hl hhi;go_wp2_with (first | (go_at_call 232; (with_reducible refine ql.out.mono ?_); rintro e w' ⟨rfl, N2, rfl⟩));go_roundw
   case rel => exact ⟨k', N + N2, by omega, by go_num, rfl, hhi2.out⟩
   case measure => simp [intOf]
  ·have hsplit : k = 0 ∨ ∃ k' x y z, k = k' + 1 ∧ es[k']? = some (x, y, z) ∧ edLess (f, lb, t) (x, y, z) = false := by
    cases k with
    | zero => exact .inl rfl
    | succ k' =>
     obtain ⟨x, hx⟩ : ∃ x, es[k']? = some x := ⟨_, List.getElem?_eq_getElem (by omega)⟩;exact .inr ⟨k', x.1, x.2.1, x.2.2, rfl, hx, Bool.eq_false_iff.2 fun h => hgo ⟨k', x, rfl, hx, h⟩⟩
   clear hgo
   by_cases hold : ∃ k' , k = k' + 1 ∧ es[k']? = some (f, lb, t)
   ·obtain ⟨k', rfl, hx⟩ := hold
    have q0 : (0 : Int) < (k' : Int) + 1 := by omega
    have q1 : (0 : Int) ≤ (k' : Int) := by omega
    have q2 : (k' : Int) < (n : Int) := by omega
    obtain ⟨g, off, x', y', z', rfl, -, -, -, hx', d0, d1, d2, -⟩ := SlE.get ((hO0.out.keep (w' := wA.drewN N) fun _ _ => rfl).sl flat_ev) (show k' < n by omega);rw [hx] at hx';injection hx' with hx';injection hx' with r1 r2;injection r2 with r2 r3;subst r1 r2 r3;have ql := l11Less_calls be 0 g (off + k' * 3) f lb t f lb t (wA.drewN N) e0 e1 e2 d0 d1 d2;rw [edLess_irr] at ql;replace ql := hide ql;have hput := hide (PutO.old hs.out (List.mem_of_getElem? hx));have q3 : IntKind.i64.wrap (k' : Int) = (k' : Int) := IntWalk.i64_in _ (by omega);clear hx hhi hsplit;go_upto_region 4 with (first | (go_at_call 232; (with_reducible refine ql.out.mono ?_); rintro e w' ⟨rfl, N2, rfl⟩));obtain ⟨wq, hwq⟩ : ∃ wq, wq = wA.drewN (N + N2) := ⟨_, rfl⟩;have u0 : wq.cell? ⟨be, 0, none⟩ = some (.int .i64 f) := by rw [hwq]; exact e0
    have u1 : wq.cell? ⟨be, 1, none⟩ = some (.int .i64 lb) := by rw [hwq]; exact e1
    have u2 : wq.cell? ⟨be, 2, none⟩ = some (.int .i64 t) := by rw [hwq]; exact e2
    have v0 : wq.cell? ⟨g, off + k' * 3, none⟩ = some (.int .i64 f) := by rw [hwq]; exact d0
    have v1 : wq.cell? ⟨g, off + k' * 3 + 1, none⟩ = some (.int .i64 lb) := by rw [hwq]; exact d1
    have v2 : wq.cell? ⟨g, off + k' * 3 + 2, none⟩ = some (.int .i64 t) := by rw [hwq]; exact d2
    have hOq : Hid (Own 3 ev wq base 84 (some ⟨g, off, none⟩) n c es) := by rw [hwq]; exact hO0.out.keep fun _ _ => rfl
    have hbq : Hid (Below base w wq) := by rw [hwq]; exact hb0.out.trans (drewN_below _ _)
    have hGq : Hid (w.grownBy wq (Value.slice (some ⟨g, off, none⟩) n c).ownBlock) := by rw [hwq]; exact drewN_grow hG0.out _
    rw [← hwq];replace hwq := hide hwq;clear d0 d1 d2 e0 e1 e2;go_quiet (fail);go_wp2_with fail;go_ret;exact ⟨_, _, _, es, rfl, hOq.out.keep fun _ _ => rfl, hput.out, hbq.out.trans (drewN_below _ _), drewN_grow hGq.out _, .inl rfl⟩
   ·have hput : Hid (PutO es (f, lb, t) (es.take k ++ (f, lb, t) :: es.drop k)) := PutO.new hs.out (by
     rcases hsplit with h | ⟨k', x, y, z, rfl, hx, hl⟩
     ·exact .inl h
     ·refine .inr ⟨_, hx, ?_⟩
      rcases edLess_total (a := (f, lb, t)) (b := (x, y, z)) (fun e => hold ⟨k', rfl, by rw [hx, e]⟩) with h | h
      ·rw [hl] at h; cases h
      ·exact h) hhi.out
    rcases hsplit with hk0 | ⟨k', x, y, z, hk1, hx, hl⟩
    focus
     have z1 : ¬ (0 : Int) < (k : Int) := by omega
     have z2 : decide ((0 : Int) < (k : Int)) = false := decide_eq_false z1;have z3 : decide (0 < k) = false := decide_eq_false (by omega);have z4 : ¬ 0 < k := by omega
     clear hold hhi hk0;go_upto_region 4 with fail;go_quiet (fail);go_upto_region 6 with fail;obtain ⟨wv, hwv⟩ : ∃ wv, wv = (wA.drewN N).drewN nq := ⟨_, rfl⟩;have hOv : Hid (Own 3 ev wv base 84 A n c es) := by rw [hwv]; exact hO0.out.keep fun _ _ => rfl
     have hbv : Hid (Below base w wv) := by rw [hwv]; exact (hb0.out.trans (drewN_below _ _)).trans (drewN_below _ _)
     have hev : Hid (wv.heap[be]? = wA.heap[be]?) := by rw [hwv]; rfl
     have hGv : Hid (w.grownBy wv (Value.slice A n c).ownBlock) := by rw [hwv]; exact drewN_grow (drewN_grow hG0.out _) _
     have hzv : be < wv.heap.size := by rw [hwv]; exact hbe3
     rw [← hwv];replace hwv := hide hwv;clear z1 z2 z3 z4 e0 e1 e2
    rotate_left
    focus
     have hne3 : ¬ (x = f ∧ y = lb ∧ z = t) := fun ⟨a, b, c⟩ => hold ⟨k', hk1, by rw [hx, a, b, c]⟩
     have q0 : (0 : Int) < (k' : Int) + 1 := by omega
     have q1 : (0 : Int) ≤ (k' : Int) := by omega
     have q2 : (k' : Int) < (n : Int) := by omega
     have q3 : IntKind.i64.wrap (k' : Int) = (k' : Int) := IntWalk.i64_in _ (by omega);clear hold hhi;subst hk1;obtain ⟨g, off, x', y', z', eA, -, -, -, hx', d0, d1, d2, -⟩ := SlE.get ((hO0.out.keep (w' := wA.drewN N) fun _ _ => rfl).sl flat_ev) (show k' < n by omega);rw [hx] at hx';injection hx' with hx';injection hx' with r1 r2;injection r2 with r2 r3;subst r1 r2 r3 eA;have ql := l11Less_calls be 0 g (off + k' * 3) f lb t x y z (wA.drewN N) e0 e1 e2 d0 d1 d2;rw [hl] at ql;replace ql := hide ql;clear hx hl;go_upto_region 4 with (first | (go_at_call 232; (with_reducible refine ql.out.mono ?_); rintro e w' ⟨rfl, N2, rfl⟩));obtain ⟨wq, hwq⟩ : ∃ wq, wq = wA.drewN (N + N2) := ⟨_, rfl⟩;have u0 : wq.cell? ⟨be, 0, none⟩ = some (.int .i64 f) := by rw [hwq]; exact e0
     have u1 : wq.cell? ⟨be, 1, none⟩ = some (.int .i64 lb) := by rw [hwq]; exact e1
     have u2 : wq.cell? ⟨be, 2, none⟩ = some (.int .i64 t) := by rw [hwq]; exact e2
     have v0 : wq.cell? ⟨g, off + k' * 3, none⟩ = some (.int .i64 x) := by rw [hwq]; exact d0
     have v1 : wq.cell? ⟨g, off + k' * 3 + 1, none⟩ = some (.int .i64 y) := by rw [hwq]; exact d1
     have v2 : wq.cell? ⟨g, off + k' * 3 + 2, none⟩ = some (.int .i64 z) := by rw [hwq]; exact d2
     have hOq : Hid (Own 3 ev wq base 84 (some ⟨g, off, none⟩) n c es) := by rw [hwq]; exact hO0.out.keep fun _ _ => rfl
     have hbq : Hid (Below base w wq) := by rw [hwq]; exact hb0.out.trans (drewN_below _ _)
     have heq : Hid (wq.heap[be]? = wA.heap[be]?) := by rw [hwq]; rfl
     have hGq : Hid (w.grownBy wq (Value.slice (some ⟨g, off, none⟩) n c).ownBlock) := by rw [hwq]; exact drewN_grow hG0.out _
     have hzq : be < wq.heap.size := by rw [hwq]; exact hbe3
     rw [← hwq];clear d0 d1 d2 e0 e1 e2 ql;replace hwq := hide hwq;have hcase : (x == f) = false ∨ (f = x ∧ (y == lb) = false) ∨ (f = x ∧ lb = y ∧ (z == t) = false) := by
      by_cases a : x = f
      ·by_cases b : y = lb
       ·exact .inr (.inr ⟨a.symm, b.symm, beq_eq_false_iff_ne.2 fun c => hne3 ⟨a, b, c⟩⟩)
       ·exact .inr (.inl ⟨a.symm, beq_eq_false_iff_ne.2 b⟩)
      ·exact .inl (beq_eq_false_iff_ne.2 a)
     clear hne3
     rcases hcase with e3 | ⟨e4, e3⟩ | ⟨e4, e5, e3⟩
     rotate_left
     subst e4
     rotate_left
     subst e4 e5
     rotate_left
     all_goals
      go_quiet (fail);go_upto_region 6 with fail;obtain ⟨wv, hwv⟩ : ∃ wv, wv = wq.drewN nq := ⟨_, rfl⟩;have hOv : Hid (Own 3 ev wv base 84 (some ⟨g, off, none⟩) n c es) := by rw [hwv]; exact hOq.out.keep fun _ _ => rfl
      have hbv : Hid (Below base w wv) := by rw [hwv]; exact hbq.out.trans (drewN_below _ _)
      have hev : Hid (wv.heap[be]? = wA.heap[be]?) := by rw [hwv]; exact heq.out
      have hGv : Hid (w.grownBy wv (Value.slice (some ⟨g, off, none⟩) n c).ownBlock) := by rw [hwv]; exact drewN_grow hGq.out _
      have hzv : be < wv.heap.size := by rw [hwv]; exact hzq
      rw [← hwv];replace hwv := hide hwv;clear u0 u1 u2 v0 v1 v2 e3 hzq hbq heq hOq hGq q0 q1 q2 q3;obtain ⟨k, hk9⟩ : ∃ k, k = k' + 1 := ⟨_, rfl⟩;have hk8 : (k' : Int) + 1 = (k : Int) := by omega
      rw [hk8];rw [← hk9] at hk hput;clear hk8 hk9
    all_goals
     have hza : base ≤ (wv.alloc (.cells #[.int .i64 0, .int .i64 0, .int .i64 0] 84)).heap.size := by rw [World.size_alloc]; omega
     have hba := hide (hbv.out.alloc (show base ≤ wv.heap.size by omega) (.cells #[.int .i64 0, .int .i64 0, .int .i64 0] 84));go_upto_region 7 with (first | (at_builtin; (with_reducible refine wpList_app rfl (.tmp 32) (.tmp 34) rfl hE.out flat_ev rfl (hOv.out.alloc _) rfl (Sl.lit1' wv 84 ((0, 0, 0) : Ed) _ rfl 3 _ ?d0) ?d1 hza ?_); rotate_right; intro A6 c6 w6 hown6 hgr6 hb6 hat6))
     case d0 => rfl
     case d1 => omega
     obtain ⟨g6, rfl, hg6⟩ := hown6.neE (by omega);have hgb : g6 ≠ be := by
      rcases hat6 with e | e
      ·have := hne.out g6 (e.symm.trans rfl)
       omega
      ·have e2 : some g6 = some (wv.alloc (.cells #[.int .i64 0, .int .i64 0, .int .i64 0] 84)).heap.size := e
       injection e2 with e2;rw [World.size_alloc] at e2;omega
     have hg6r : (Value.slice (some ⟨g6, 0, none⟩) (n + 1) c6).ownBlock = _ ∨ w.heap.size ≤ g6 := hat6.imp id fun e => by
      have e2 : some g6 = some (wv.alloc (.cells #[.int .i64 0, .int .i64 0, .int .i64 0] 84)).heap.size := e;injection e2 with e2;rw [World.size_alloc] at e2;have := hGv.out.size;omega
     have hG6 := hide ((hGv.out.trans (World.grownBy_alloc wv _ _)).trans hgr6);replace hg6r := hide hg6r;have hb7 := hide (hba.out.trans hb6);have he6 : Hid (w6.heap[be]? = wA.heap[be]?) := by
      show _ = _
      rw [hgr6.block be (by rw [World.size_alloc]; omega) (fun e => by have := hne.out be e.symm; omega)];rw [Below.heap_alloc _ _ _ hzv];exact hev.out
     have hS0 : Hid (Own 3 ev w6 base 84 (some ⟨g6, 0, none⟩) (n + 1) c6 (es.take n ++ ((0, 0, 0) : Ed) :: es.drop n)) := by
      show Own _ _ _ _ _ _ _ _ _
      rw [List.take_of_length_le (by omega), List.drop_eq_nil_of_le (by omega)];exact hown6
     clear hown6 hgr6 hb6 hat6 hOv hbv hba hza hev hGv;go_wp2_with fail;obtain ⟨wP, hwP⟩ : ∃ wP : World, wP = w6 := ⟨_, rfl⟩
     go_loopw [6] (fun i wr => ∃ (q : Nat) (y : Ed), k ≤ q ∧ q ≤ n ∧ i = .int .i64 (q : Nat) ∧ Hid (Own 3 ev wr base 84 (some ⟨g6, 0, none⟩) (n + 1) c6 (es.take q ++ y :: es.drop q)) ∧ Hid (Below base w wr) ∧ Hid (wr.heap[be]? = wA.heap[be]?) ∧ Hid (w.grownBy wr _)) (fun i _ => (intOf i).toNat)
     case atStart => exact ⟨n, _, hk, zR, by go_num, hS0.out, hb7.out, he6.out, hG6.out⟩
     case round =>
      clear hS0 hb7 he6 hG6;obtain ⟨q, y, hq1, hq2, rfl, hS, hb, hev, hG⟩ := hrel
      by_cases hqt : k < q
      ·obtain ⟨q', rfl⟩ : ∃ q', q = q' + 1 := ⟨q - 1, by omega⟩
       have p0 : (k : Int) < (q' : Int) + 1 := by omega
       have p1 : (0 : Int) ≤ (q' : Int) := by omega
       have p2 : (q' : Int) < (n : Int) + 1 := by omega
       have p3 : (q' : Int) + 1 < (n : Int) + 1 := by omega
       have p4 : (0 : Int) ≤ (q' : Int) + 1 := by omega
       obtain ⟨⟨x1, x2, x3⟩, hx1⟩ : ∃ x, es[q']? = some x := ⟨_, List.getElem?_eq_getElem (by omega)⟩;obtain ⟨ga, oa, xa, ya, za, ea, -, -, -, hxa, ca0, ca1, ca2, -⟩ := SlE.get (hS.out.sl flat_ev) (show q' < n + 1 by omega)
       cases ea
       rw [Nat.zero_add] at ca0 ca1 ca2;rw [shiftG_get hx1] at hxa;injection hxa with hxa;injection hxa with r1 r2;injection r2 with r2 r3;subst r1 r2 r3;obtain ⟨gb, ob, xb, yb, zb, eb, -, -, -, -, cb0, cb1, cb2, fb0, fb1, fb2⟩ := SlE.get (hS.out.sl flat_ev) (show q' + 1 < n + 1 by omega)
       cases eb
       rw [Nat.zero_add] at cb0 cb1 cb2 fb0 fb1 fb2;have hset := hS.out.setE (q' + 1) x1 x2 x3;rw [shiftG_set hx1] at hset;replace hset := hide hset;have hbs := hide (((hb.out.setCell (p := ⟨g6, (q' + 1) * 3, none⟩) hg6 (.int .i64 x1)).setCell (p := ⟨g6, (q' + 1) * 3 + 1, none⟩) hg6 (.int .i64 x2)).setCell (p := ⟨g6, (q' + 1) * 3 + 2, none⟩) hg6 (.int .i64 x3));have hes : Hid ((((wr.setCell ⟨g6, (q' + 1) * 3, none⟩ (.int .i64 x1)).setCell ⟨g6, (q' + 1) * 3 + 1, none⟩ (.int .i64 x2)).setCell ⟨g6, (q' + 1) * 3 + 2, none⟩ (.int .i64 x3)).heap[be]? = wA.heap[be]?) := by
        show _ = _
        rw [Below.heap_setCell _ _ _ _ (by show be ≠ g6; omega), Below.heap_setCell _ _ _ _ (by show be ≠ g6; omega), Below.heap_setCell _ _ _ _ (by show be ≠ g6; omega)];exact hev.out
       have hGs := hide (setCell_grow (setCell_grow (setCell_grow hG.out (i := (q' + 1) * 3) hg6r.out (.int .i64 x1)) (i := (q' + 1) * 3 + 1) hg6r.out (.int .i64 x2)) (i := (q' + 1) * 3 + 2) hg6r.out (.int .i64 x3));clear hx1;go_wp2_with fail;go_roundw
       case rel => exact ⟨q', (x1, x2, x3), by omega, by omega, by go_num, hset.out, hbs.out, hes.out, hGs.out⟩
       case measure => simp [intOf]
      ·obtain rfl : q = k := by omega
       have p0 : ¬ (q : Int) < (q : Int) := by omega
       have p1 : (0 : Int) ≤ (q : Int) := by omega
       have p2 : (q : Int) < (n : Int) + 1 := by omega
       obtain ⟨e0, e1, e2⟩ := hkeep.out wr hev.out;obtain ⟨gb, ob, xb, yb, zb, eb, -, -, -, -, cb0, cb1, cb2, fb0, fb1, fb2⟩ := SlE.get (hS.out.sl flat_ev) (show q < n + 1 by omega)
       cases eb
       rw [Nat.zero_add] at cb0 cb1 cb2 fb0 fb1 fb2;have hset := hS.out.setE q f lb t;rw [shiftG_end (by omega)] at hset;replace hset := hide hset;have hbs := hide (((hb.out.setCell (p := ⟨g6, q * 3, none⟩) hg6 (.int .i64 f)).setCell (p := ⟨g6, q * 3 + 1, none⟩) hg6 (.int .i64 lb)).setCell (p := ⟨g6, q * 3 + 2, none⟩) hg6 (.int .i64 t));have hGs := hide (setCell_grow (setCell_grow (setCell_grow hG.out (i := q * 3) hg6r.out (.int .i64 f)) (i := q * 3 + 1) hg6r.out (.int .i64 lb)) (i := q * 3 + 2) hg6r.out (.int .i64 t));go_wp2_with fail;go_ret;exact ⟨_, _, _, rfl, _, hset.out, hput.out, hbs.out, hGs.out, hg6r.out.imp id fun h => ⟨_, rfl, h⟩⟩
def MadeE (ts : List ByteArray) (es es2 : List Ed) : Prop := RisE es2 ∧ es2.length ≤ es.length ∧ ∀ x, x ∈ es2 → ∃ e, e ∈ es ∧ x.1 = e.1 ∧ x.2.2 = e.2.2 ∧ 0 ≤ x.2.1 ∧ x.2.1 < ((joiF ts).length : Int)
theorem MadeE.start (ts : List ByteArray) : MadeE ts [] [] := ⟨List.Pairwise.nil, zR, fun x hx => absurd hx List.not_mem_nil⟩
theorem MadeE.put {ts : List ByteArray} {es es2 es3 : List Ed} {k : Nat} {f lb t i : Int} (h : MadeE ts (es.take k) es2) (hk : es[k]? = some (f, lb, t)) (hi : 0 ≤ i ∧ i < ((joiF ts).length : Int)) (hp : PutO es2 (f, i, t) es3) : MadeE ts (es.take (k + 1)) es3 := by
 have hkl := (List.getElem?_eq_some_iff.1 hk).1;have e : es.take (k + 1) = es.take k ++ [(f, lb, t)] := by rw [List.take_add_one, hk]; rfl
 refine ⟨hp.1, ?_, fun x hx => ?_⟩
 ·have h1 := hp.2.2
  have h2 := h.2.1;rw [e, List.length_append];simp only [List.length_singleton];omega
 ·rcases (hp.2.1 x).1 hx with rfl | hx
  ·exact ⟨(f, lb, t), by rw [e]; exact List.mem_append_right _ (List.mem_singleton.2 rfl), rfl, rfl, hi⟩
  ·obtain ⟨y, hy, r⟩ := h.2.2 x hx
   exact ⟨y, by rw [e]; exact List.mem_append_left _ hy, r⟩
theorem joi_mem {ts : List ByteArray} {s : ByteArray} (h : s ∈ ts) : s ∈ joiF ts := by
 unfold joiF;refine List.mem_map.2 ⟨toL s, ?_, ofL_toL s⟩;rw [compactL_mem, List.mem_mergeSort];exact List.mem_map_of_mem (List.mem_cons_of_mem _ h)
theorem joi_find {ts : List ByteArray} {s : ByteArray} {i : Int} (h : s ∈ ts) (hf : FindI (joiF ts) s i) : 0 ≤ i ∧ i < ((joiF ts).length : Int) := by
 rcases hf with ⟨-, h2⟩ | ⟨k, rfl, h2, -⟩
 ·rw [any_of_mem.2 (joi_mem h)] at h2; cases h2
 ·have := (List.getElem?_eq_some_iff.1 h2).1
  omega
theorem results_cell1 {fn : Func} {p : Tmp} {ty : TypeId} (h : fn.results = #[.cell p ty]) (tmps : Array Value) (P : Program) (w : World) :
  (results fn tmps).run P w = ((asAddr (tmps.getD p undef)).run P w).andThen fun a w₁ => (loadVar ty a).run P w₁ := by
 simp only [results, h]
 simp [Sem.run_bind, Result.andThen]
theorem l11Make_calls (st ini : Int) (A : Option Addr) (n c : Nat) (ts : List ByteArray) (B : Option Addr) (m d : Nat) (es : List Ed) (w : World) (hs : SlS w 0 w.heap.size A n ts) (he : SlE w 0 w.heap.size B m es) (hl : ∀ e, e ∈ es → 0 ≤ e.2.1 ∧ e.2.1 < (n : Int)) (hn : n ≤ 99999) (hm : m ≤ 99999) :
  Calls Tryz.prog 94 #[.int .i64 st, .int .i64 ini, .slice A n c, .slice B m d] w fun e w' => ∃ A2 n2 c2 B2 m2 d2 es2, e = .returned (.agg #[.int .i64 st, .int .i64 ini, .slice A2 n2 c2, .slice B2 m2 d2]) ∧ SlS w' w.heap.size w'.heap.size A2 n2 (joiF ts) ∧ SlE w' w.heap.size w'.heap.size B2 m2 es2 ∧ MadeE ts es es2 ∧ Below w.heap.size w w' := by
 have hB0 := hide ((Below.refl w.heap.size w).alloc zR (.cells #[.int .i64 0, .int .i64 0, .slice none 0 0, .slice none 0 0] 27));have k8 := heap_alloc_new w (.cells #[.int .i64 0, .int .i64 0, .slice none 0 0, .slice none 0 0] 27);have hz1 : w.heap.size < (w.alloc (.cells #[.int .i64 0, .int .i64 0, .slice none 0 0, .slice none 0 0] 27)).heap.size := by simp
 obtain ⟨w1, hw1⟩ : ∃ w1, w1 = w.alloc (.cells #[.int .i64 0, .int .i64 0, .slice none 0 0, .slice none 0 0] 27) := ⟨_, rfl⟩;rw [← hw1] at hB0 k8 hz1;have qj := hide (l11Join_calls A n c ts w1 0 w.heap.size (hs.below hB0.out (.inl zR)) (by omega) (by omega));have hlen := hide he.len;have hlenS := hide hs.len;replace hs := hide hs;replace he := hide he;replace hl := hide hl;replace k8 := hide k8;go_enter Tryz.func94, Tryz.ntmps94;go_upto_region 1 with fail;rw [← hw1];replace hw1 := hide hw1;go_wp2_with fail;refine qj.out.mono ?_;rintro e w2 ⟨A2, n2, c2, rfl, hJ, hb2⟩;have hz2 := hb2.size;have hO0 := (Own.made (α := Ed) (size := 3) (f := ev) w2 84 zR).alloc (.cells #[.int .i64 st, .int .i64 ini, .slice A2 n2 c2, .slice (some ⟨w2.heap.size, 0, none⟩) 0 0] 27);have hbo := heap_alloc_new (w2.alloc (.cells #[] 84)) (.cells #[.int .i64 st, .int .i64 ini, .slice A2 n2 c2, .slice (some ⟨w2.heap.size, 0, none⟩) 0 0] 27);rw [World.size_alloc] at hbo;have hbL := ((Below.refl w2.heap.size w2).alloc zR (.cells #[] 84)).alloc (by rw [World.size_alloc]; omega) (.cells #[.int .i64 st, .int .i64 ini, .slice A2 n2 c2, .slice (some ⟨w2.heap.size, 0, none⟩) 0 0] 27);obtain ⟨wL, hwL⟩ : ∃ wL, wL = (w2.alloc (.cells #[] 84)).alloc (.cells #[.int .i64 st, .int .i64 ini, .slice A2 n2 c2, .slice (some ⟨w2.heap.size, 0, none⟩) 0 0] 27) := ⟨_, rfl⟩;rw [← hwL] at hO0 hbo hbL;replace hO0 := hide hO0;replace hbo := hide hbo;replace hbL := hide hbL;replace hJ := hide hJ;replace hb2 := hide hb2;obtain ⟨bo, hboe⟩ : ∃ bo, bo = w2.heap.size + 1 := ⟨_, rfl⟩;rw [← hboe] at hbo;have hJs := hide (hJ.out.sl flat_strv);have hjn := hide hJ.out.len;have hJlen : Hid ((joiF ts).length ≤ ts.length + 1) := by
  show _ ≤ _
  unfold joiF;rw [List.length_map];refine Nat.le_trans (Go.Lib.compact_length_le _) ?_;rw [List.length_mergeSort, List.length_map, List.length_cons];exact zR
 clear qj;go_upto_region 3 with fail;rw [← hwL, ← hboe];replace hwL := hide hwL;have hbow : w2.heap.size < bo := by omega
 replace hboe := hide hboe
 go_loopw [10] (fun i wr => ∃ (k : Nat) (E : Option Addr) (mm cc : Nat) (es1 : List Ed), k ≤ m ∧ i = .int .i64 (k : Nat) ∧ Hid (wr.heap[bo]? = some (.cells #[.int .i64 st, .int .i64 ini, .slice A2 n2 c2, .slice E mm cc] 27 (0, 0))) ∧ Hid (Own 3 ev wr w2.heap.size 84 E mm cc es1) ∧ Hid (MadeE ts (es.take k) es1) ∧ Hid (∀ g, (Value.slice E mm cc).ownBlock = some g → g ≠ bo) ∧ Hid (Below w2.heap.size w2 wr)) (fun i _ => m - (intOf i).toNat)
 case atStart => exact ⟨0, _, 0, 0, [], Nat.zero_le _, rfl, hbo.out, hO0.out, MadeE.start ts, (fun g e => by cases e; exact Nat.ne_of_lt hbow), hbL.out⟩
 case round =>
  clear hO0 hbo hbL;obtain ⟨k, E, mm, cc, es1, hk, rfl, hbo, hO, hM, hne, hb⟩ := hrel;have hb1 := hide (hb2.out.trans (hb.out.mono hz2));have hbw := hide (hB0.out.trans (hb1.out.mono (by omega)))
  by_cases hlt : k < m
  ·have k0 : (0 : Int) ≤ (k : Int) := by omega
   have k1 : (k : Int) < (m : Int) := by omega
   obtain ⟨gb, ob, f, lb, t, rfl, -, -, hgb, hx, x0, x1, x2, -⟩ := SlE.get (he.out.below hbw.out (.inl zR)) hlt;obtain ⟨hl0, hl1⟩ := hl.out _ (List.mem_of_getElem? hx)
   (try dsimp only at hl0 hl1)
   obtain ⟨l, rfl⟩ : ∃ l : Nat, lb = (l : Int) := ⟨lb.toNat, by omega⟩;have hbx := heap_alloc_new wr (.cells #[.int .i64 f, .int .i64 (l : Int), .int .i64 t] 84);obtain ⟨wE, hwE⟩ : ∃ wE, wE = wr.alloc (.cells #[.int .i64 f, .int .i64 (l : Int), .int .i64 t] 84) := ⟨_, rfl⟩;rw [← hwE] at hbx;obtain ⟨be, hbe⟩ : ∃ be, be = wr.heap.size := ⟨_, rfl⟩;rw [← hbe] at hbx;have hBE := hide ((hb.out.alloc hb.out.size (.cells #[.int .i64 f, .int .i64 (l : Int), .int .i64 t] 84)));rw [← hwE] at hBE;have hbwE := hB0.out.trans ((hb2.out.trans (hBE.out.mono hz2)).mono (by omega));obtain ⟨bA, oA, s, rfl, -, -, -, hts, cs, -⟩ := SlS.get (hs.out.below hbwE (.inl zR)) (show l < n by omega);have hbol : bo < wr.heap.size := (Array.getElem?_eq_some_iff.1 hbo.out).1;have hboE : wE.heap[bo]? = _ := ((show wE.heap[bo]? = wr.heap[bo]? by rw [hwE]; exact Below.heap_alloc _ _ _ hbol)).trans hbo.out;have c2' : wE.cell? ⟨bo, 2, none⟩ = some (.slice A2 n2 c2) := cR 2 hboE;have y1 : wE.cell? ⟨be, 1, none⟩ = some (.int .i64 (l : Int)) := cR 1 hbx;have z1 : wE.frozen? ⟨be, 1, none⟩ = false := frozen_of_row _ _ 1 _ _ hbx;have hbel : be < wE.heap.size := (Array.getElem?_eq_some_iff.1 hbx).1;have l0 : (0 : Int) ≤ (l : Int) := by omega
   have l1 : (l : Int) < (n : Int) := by omega
   have qf := hide (l11Find_calls s A2 n2 c2 (joiF ts) wE.drew _ _ ((hJs.out.below hBE.out (.inl zR)).drewN 1) (by
    have h1 := hjn.out;have h2 := hJlen.out;have h3 := hlenS.out
    omega))
   have hsm := hide (List.mem_of_getElem? hts);replace hx := hide hx;clear hts;go_upto_region 6 with fail;rw [← hwE, ← hbe];replace hwE := hide hwE;replace hbe := hide hbe;replace hbx := hide hbx;replace hboE := hide hboE;clear x0 x1 x2
   go_still_tail 7, (by kernel_rfl)
   change wpList _ _ _ _ _ wE.drew
   go_upto_region 7 with (first | (go_at_call 174; (with_reducible refine qf.out.mono ?_); rintro e w5 ⟨i, rfl, hfi, rfl⟩));obtain ⟨wF, hwG⟩ : ∃ wF, wF = (wE.setCell ⟨be, 1, none⟩ (.int .i64 i)).drew := ⟨_, rfl⟩;have hwF : wF = wE.drew.setCell ⟨be, 1, none⟩ (.int .i64 i) := by
    rw [hwG]
    first | rfl | simp
   have hbxF : Hid (wF.heap[be]? = some (.cells #[.int .i64 f, .int .i64 i, .int .i64 t] 84 (0, 0))) := by
    show _ = _
    rw [hwF];exact heap_setCell_same wE.drew be 1 _ _ (.int .i64 i) hbx.out
   have hsame : ∀ q, q ≠ be → wF.heap[q]? = wE.heap[q]? := fun q hq => by rw [hwF]; exact Below.heap_setCell _ _ _ _ hq
   have hbF : Hid (Below w2.heap.size w2 wF) := by
    show Below _ _ _
    rw [hwF];have h0 : Below w2.heap.size w2 wE.drew := hBE.out.trans ⟨rfl, rfl, rfl, zR, fun _ _ => rfl⟩;exact h0.setCell (p := ⟨be, 1, none⟩) (by show w2.heap.size ≤ be; rw [hbe.out]; exact hb.out.size) (.int .i64 i)
   have hEbe : ∀ q, (Value.slice E mm cc).ownBlock = some q → q < be := fun q e => by rw [hbe.out]; exact (hO.out.lt q e).2
   have hOF := hO.out.keep (w' := wF) fun q e => (hsame q (by have := hEbe q e; omega)).trans (by rw [hwE.out]; exact Below.heap_alloc _ _ _ (hO.out.lt q e).2)
   have hbne : bo ≠ be := by rw [hbe.out]; omega
   have hboF : wF.heap[bo]? = _ := (hsame bo hbne).trans hboE.out;have hboFl : bo < wF.heap.size := (Array.getElem?_eq_some_iff.1 hboF).1;have hM1 := hM.out.2.1;rw [List.length_take] at hM1;have hmm := hO.out.len;have qp := hide (l11Put_calls E mm cc es1 f i t wF w2.heap.size hOF hM.out.1 (by omega) hbF.out.size);have c3' : wF.cell? ⟨bo, 3, none⟩ = some (.slice E mm cc) := cR 3 hboF;have b0 : wF.cell? ⟨be, 0, none⟩ = some (.int .i64 f) := cR 0 hbxF.out;have b1 : wF.cell? ⟨be, 1, none⟩ = some (.int .i64 i) := cR 1 hbxF.out;have b2 : wF.cell? ⟨be, 2, none⟩ = some (.int .i64 t) := cR 2 hbxF.out;have hi := joi_find hsm.out hfi;have hne2 := hide hne.out;replace hboF := hide hboF;rw [← hwG];replace hwF := hide hwF;replace hwG := hide hwG;clear c2' y1 z1 cs qf hOF hsame;go_wp2_with fail;refine qp.out.mono ?_;rintro e w8 ⟨A8, n8, c8, es8, rfl, hO8, hP8, hb8, hG8, hr8⟩;have hbo8 : w8.heap[bo]? = _ := (hG8.block bo hboFl (fun e => hne2.out bo e.symm rfl)).trans hboF.out;have d3 : w8.cell? ⟨bo, 3, none⟩ = some (.slice E mm cc) := cR 3 hbo8;have f3 : w8.frozen? ⟨bo, 3, none⟩ = false := frozen_of_row _ _ 3 _ _ hbo8;have hbo9 : Hid ((w8.setCell ⟨bo, 3, none⟩ (.slice A8 n8 c8)).heap[bo]? = some (.cells #[.int .i64 st, .int .i64 ini, .slice A2 n2 c2, .slice A8 n8 c8] 27 (0, 0))) := heap_setCell_same w8 bo 3 _ _ (.slice A8 n8 c8) hbo8;have hne8 : ∀ q, (Value.slice A8 n8 c8).ownBlock = some q → q ≠ bo := fun q e => by
    rcases hr8 with h | ⟨q2, h, hq2⟩
    ·exact hne2.out q (h.symm.trans e)
    ·rw [h] at e
     injection e with e;omega
   have hO9 := hide (hO8.keep (w' := w8.setCell ⟨bo, 3, none⟩ (.slice A8 n8 c8)) fun q e => Below.heap_setCell _ _ _ _ (hne8 q e));have hM9 := hide (hM.out.put hx.out hi hP8);have hb9 := hide ((hbF.out.trans hb8).setCell (p := ⟨bo, 3, none⟩) (Nat.le_of_lt hbow) (.slice A8 n8 c8));replace hne8 := hide hne8;replace hbo8 := hide hbo8;clear qp hO8 hP8 hb8 hG8 hr8 hx;go_wp2_with fail;go_roundw
   case rel => exact ⟨k + 1, A8, n8, c8, es8, by omega, by go_num, hbo9.out, hO9.out, hM9.out, hne8.out, hb9.out⟩
   case measure => simp [intOf]; omega
  ·obtain rfl : k = m := by omega
   have k1 : ¬ (k : Int) < (k : Int) := by omega
   have hMf : Hid (MadeE ts es es1) := by
    have := hM.out;rw [List.take_of_length_le (by rw [hlen.out]; exact zR)] at this;exact this
   have h8 : wr.heap[w.heap.size]? = _ := (hb1.out.block w.heap.size hz1).trans k8.out;have a0 : wr.cell? ⟨w.heap.size, 0, none⟩ = some (.int .i64 0) := cR 0 h8;have a1 : wr.cell? ⟨w.heap.size, 1, none⟩ = some (.int .i64 0) := cR 1 h8;have a2 : wr.cell? ⟨w.heap.size, 2, none⟩ = some (.slice none 0 0) := cR 2 h8;have a3 : wr.cell? ⟨w.heap.size, 3, none⟩ = some (.slice none 0 0) := cR 3 h8;have z0 : wr.frozen? ⟨w.heap.size, 0, none⟩ = false := frozen_of_row _ _ 0 _ _ h8;have z1 : wr.frozen? ⟨w.heap.size, 1, none⟩ = false := frozen_of_row _ _ 1 _ _ h8;have z2 : wr.frozen? ⟨w.heap.size, 2, none⟩ = false := frozen_of_row _ _ 2 _ _ h8;have z3 : wr.frozen? ⟨w.heap.size, 3, none⟩ = false := frozen_of_row _ _ 3 _ _ h8;have b0 : wr.cell? ⟨bo, 0, none⟩ = some (.int .i64 st) := cR 0 hbo.out;have b1 : wr.cell? ⟨bo, 1, none⟩ = some (.int .i64 ini) := cR 1 hbo.out;have b2 : wr.cell? ⟨bo, 2, none⟩ = some (.slice A2 n2 c2) := cR 2 hbo.out;have b3 : wr.cell? ⟨bo, 3, none⟩ = some (.slice E mm cc) := cR 3 hbo.out;have hJr := hide (hJs.out.below hb.out (.inl zR));have hOr := hide (hO.out.sl flat_ev);replace h8 := hide h8;clear hM;go_wp2_with fail
   (try simp only [Exit.inBlock, Exit.then])
   refine bodyPost_ret_by (v := .agg #[.int .i64 st, .int .i64 ini, .slice A2 n2 c2, .slice E mm cc]) ?_ rfl ?_
   focus
    rw [results_cell1 rfl];go_simp
   obtain ⟨wZ, hwZ⟩ : ∃ wZ, wZ = ((((wr.setCell ⟨w.heap.size, 0, none⟩ (.int .i64 st)).setCell ⟨w.heap.size, 1, none⟩ (.int .i64 ini)).setCell ⟨w.heap.size, 2, none⟩ (.slice A2 n2 c2)).setCell ⟨w.heap.size, 3, none⟩ (.slice E mm cc)) := ⟨_, rfl⟩;have hZ : ∀ q, q ≠ w.heap.size → wZ.heap[q]? = wr.heap[q]? := fun q hq => by
    rw [hwZ, Below.heap_setCell _ _ _ _ hq, Below.heap_setCell _ _ _ _ hq, Below.heap_setCell _ _ _ _ hq, Below.heap_setCell _ _ _ _ hq]
   have hZs : wZ.heap.size = wr.heap.size := by rw [hwZ]; simp
   have hZb : Below w.heap.size w wZ := by
    rw [hwZ];exact (((hbw.out.setCell (p := ⟨w.heap.size, 0, none⟩) zR _).setCell (p := ⟨w.heap.size, 1, none⟩) zR _).setCell (p := ⟨w.heap.size, 2, none⟩) zR _).setCell (p := ⟨w.heap.size, 3, none⟩) zR _
   rw [← hwZ];have hbs := hb.out.size;have h1 : SlS wZ w.heap.size wZ.heap.size A2 n2 (joiF ts) := (Sl.keep hJr.out (by omega) fun q h1 h2 h3 => hZ q (by omega)).more (by omega) (by omega);have h2 : SlE wZ w.heap.size wZ.heap.size E mm es1 := (Sl.keep hOr.out (by omega) fun q h1 h2 h3 => hZ q (by omega)).more (by omega) (by omega);exact ⟨_, _, _, _, _, ⟨_, rfl⟩, h1, _, h2, hMf.out, hZb⟩
def nm5 : List ByteArray := [⟨#[97]⟩, ⟨#[98]⟩, ⟨#[99]⟩, ⟨#[103, 101, 116, 40, 48, 41]⟩, ⟨#[103, 101, 116, 40, 49, 41]⟩]
def NamD (ts : List ByteArray) : Prop := ∀ x, x ∈ ts → x = tauB ∨ x ∈ nm5
theorem NamD.app {ts : List ByteArray} (h : NamD ts) {x : ByteArray} (hx : x ∈ nm5) : NamD (ts ++ [x]) := fun y hy => by
 rcases List.mem_append.1 hy with h1 | h1
 ·exact h y h1
 ·rw [List.mem_singleton.1 h1]; exact .inr hx
theorem l11DrawNames_calls (b N : Nat) (w : World) (h : SrcW w b N) (hN : N ≤ 800000000) :
  Calls Tryz.prog 209 #[.pointer (some ⟨b, 0, none⟩)] w fun e w' => ∃ A n c ts, e = .returned (.slice A n c) ∧ SlS w' w.heap.size w'.heap.size A n ts ∧ 2 ≤ n ∧ n ≤ 5 ∧ NamD ts ∧ SrcW w' b (N + 10) ∧ Only b (b + 1) w w' := by
 have hE := hide elem_str;have hbl := h.lt;have k1 := heap_alloc_new w (.cells #[.string tauB] 9);have hO1 : Own 1 strv (w.alloc (.cells #[.string tauB] 9)) w.heap.size 9 (some ⟨w.heap.size, 0, none⟩) 1 1 [tauB] := Own.litL k1 rfl zR;have hO0 := hO1.alloc (.cells #[.string ⟨#[97]⟩, .string ⟨#[98]⟩, .string ⟨#[99]⟩, .string ⟨#[103, 101, 116, 40, 48, 41]⟩, .string ⟨#[103, 101, 116, 40, 49, 41]⟩] 9);have hS0 := (h.alloc (.cells #[.string tauB] 9)).alloc (.cells #[.string ⟨#[97]⟩, .string ⟨#[98]⟩, .string ⟨#[99]⟩, .string ⟨#[103, 101, 116, 40, 48, 41]⟩, .string ⟨#[103, 101, 116, 40, 49, 41]⟩] 9);have hon := ((Only.refl b (b + 1) w).alloc' (.cells #[.string tauB] 9)).alloc' (.cells #[.string ⟨#[97]⟩, .string ⟨#[98]⟩, .string ⟨#[99]⟩, .string ⟨#[103, 101, 116, 40, 48, 41]⟩, .string ⟨#[103, 101, 116, 40, 49, 41]⟩] 9);have hbx := heap_alloc_new (w.alloc (.cells #[.string tauB] 9)) (.cells #[.string ⟨#[97]⟩, .string ⟨#[98]⟩, .string ⟨#[99]⟩, .string ⟨#[103, 101, 116, 40, 48, 41]⟩, .string ⟨#[103, 101, 116, 40, 49, 41]⟩] 9);rw [World.size_alloc] at hbx;have hz0 : w.heap.size + 2 ≤ ((w.alloc (.cells #[.string tauB] 9)).alloc (.cells #[.string ⟨#[97]⟩, .string ⟨#[98]⟩, .string ⟨#[99]⟩, .string ⟨#[103, 101, 116, 40, 48, 41]⟩, .string ⟨#[103, 101, 116, 40, 49, 41]⟩] 9)).heap.size := by simp
 obtain ⟨wA, hwA⟩ : ∃ wA, wA = (w.alloc (.cells #[.string tauB] 9)).alloc (.cells #[.string ⟨#[97]⟩, .string ⟨#[98]⟩, .string ⟨#[99]⟩, .string ⟨#[103, 101, 116, 40, 48, 41]⟩, .string ⟨#[103, 101, 116, 40, 49, 41]⟩] 9) := ⟨_, rfl⟩;rw [← hwA] at hO0 hS0 hon hbx hz0;replace hO0 := hide hO0;replace hS0 := hide hS0;replace hon := hide hon;replace hbx := hide hbx;clear h hO1 k1;go_enter Tryz.func209, Tryz.ntmps209;go_upto_region 4 with fail;have hwA' : (w.alloc (.cells #[.string ⟨#[116, 97, 117]⟩] 9)).alloc (.cells #[.string ⟨#[97]⟩, .string ⟨#[98]⟩, .string ⟨#[99]⟩, .string ⟨#[103, 101, 116, 40, 48, 41]⟩, .string ⟨#[103, 101, 116, 40, 49, 41]⟩] 9) = wA := hwA.symm;rw [hwA'];replace hwA := hide hwA;replace hwA' := hide hwA'
 go_loopw [3, 5] (fun o i wr => ∃ (k : Nat) (A : Option Addr) (m c : Nat) (ts : List ByteArray), k ≤ 5 ∧ i = .int .i64 (k : Nat) ∧ o = .slice A m c ∧ 1 ≤ m ∧ m ≤ 4 ∧ Hid (Own 1 strv wr w.heap.size 9 A m c ts) ∧ Hid (NamD ts) ∧ Hid (SrcW wr b (N + 2 * k)) ∧ Hid (Only b (b + 1) w wr) ∧ Hid (wr.heap[w.heap.size + 1]? = wA.heap[w.heap.size + 1]?) ∧ Hid (∀ g, (Value.slice A m c).ownBlock = some g → g ≠ w.heap.size + 1) ∧ w.heap.size + 2 ≤ wr.heap.size) (fun _ i _ => 5 - (intOf i).toNat)
 case atStart => exact ⟨0, _, 1, 1, [tauB], Nat.zero_le _, rfl, rfl, zR, by omega, hO0.out, (fun x hx => .inl (List.mem_singleton.1 hx)), hS0.out, hon.out, rfl, (fun g e => by cases e; exact Nat.ne_of_lt (Nat.lt_succ_self _)), hz0⟩
 case round =>
  clear hO0 hS0 hon;obtain ⟨k, A, m, c, ts, hk, rfl, rfl, hm1, hm4, hO, hD, hS, hon, hbk, hnb, hzr⟩ := hrel
  by_cases hlt : k < 5
  ·have k0 : (0 : Int) ≤ (k : Int) := by omega
   have k1 : (k : Int) < 5 := by omega
   have q := hide (one_calls b (N + 2 * k) 2 wr hS.out (by omega));have hc : ∃ x, x ∈ nm5 ∧ ∀ W : World, W.heap[w.heap.size + 1]? = wA.heap[w.heap.size + 1]? → W.cell? ⟨w.heap.size + 1, k, none⟩ = some (.string x) := by
    have : k = 0 ∨ k = 1 ∨ k = 2 ∨ k = 3 ∨ k = 4 := by omega
    rcases this with rfl | rfl | rfl | rfl | rfl
    all_goals
     refine ⟨_, ?_, fun W hW => (cell_of_row _ _ _ _ _ (0, 0) (hW.trans hbx.out)).trans rfl⟩
     simp [nm5]
   obtain ⟨x, hxm, hxc⟩ := hc;replace hxc := hide hxc;have hbw := hS.out.lt;go_upto_region 6 with fail;go_wp2_with fail;refine q.out.mono ?_;rintro e w5 ⟨v, rfl, hT⟩;have hO5 := hide (hO.out.keep (w' := w5) fun g e => hT.only.block g (hO.out.lt g e).2 (by have := (hO.out.lt g e).1; omega));have hS5 := hide (hT.src.more (show N + 2 * k + 2 ≤ N + 2 * (k + 1) by omega));have hon5 := hide (Only.trans' hon.out hT.only);have hbk5 := hide ((hT.only.block (w.heap.size + 1) (by omega) (by omega)).trans hbk.out);have hz5 : w.heap.size + 2 ≤ w5.heap.size := by have := hT.size; omega
   have cx := hxc.out w5 hbk5.out;clear q hO hS hon hbk hT
   cases v with
   | false =>
    clear cx;go_wp2_with fail;go_roundw
    case rel => exact ⟨k + 1, A, m, c, ts, by omega, by go_num, rfl, hm1, hm4, hO5.out, hD.out, hS5.out, hon5.out, hbk5.out, hnb.out, hz5⟩
    case measure => simp [intOf]; omega
   | true =>
    by_cases hm : m < 4
    ·have g1 : (m : Int) < 4 := by omega
     have hza : w.heap.size ≤ (w5.alloc (.cells #[.string x] 9)).heap.size := by rw [World.size_alloc]; omega
     have hOa := hide (hO5.out.alloc (.cells #[.string x] 9));have hSa := hide (hS5.out.alloc (.cells #[.string x] 9));have hona := hide (hon5.out.alloc' (.cells #[.string x] 9));have hbka : Hid ((w5.alloc (.cells #[.string x] 9)).heap[w.heap.size + 1]? = wA.heap[w.heap.size + 1]?) := (Below.heap_alloc _ _ _ (by omega)).trans hbk5.out;have hrow := hide (fun q (e : (Value.slice A m c).ownBlock = some q) => (hOa.out.lt q e).1);have hD2 := hide (hD.out.app hxm);clear hO5 hS5 hon5 hbk5;go_wp2_with (first | (at_builtin; (with_reducible refine wpList_app rfl (.tmp 21) (.tmp 26) rfl hE.out flat_strv rfl hOa.out rfl (Sl.lit1' w5 9 x _ rfl 1 _ ?d0) ?d1 hza ?_); rotate_right; intro A6 c6 w6 hown6 hgr6 hb6 hat6))
     case d0 => rfl
     case d1 => omega
     have hS6 := hide (hSa.out.grow hgr6 (fun q e => by have := hrow.out q e; omega));have hon6 := hide (hona.out.grow hgr6 (fun q e => hrow.out q e));have hbk6 := hide ((hgr6.block (w.heap.size + 1) (by rw [World.size_alloc]; omega) (fun e => hnb.out _ e.symm rfl)).trans hbka.out);have hnb6 : Hid (∀ g, (Value.slice A6 (m + 1) c6).ownBlock = some g → g ≠ w.heap.size + 1) := fun g e => by
      rcases hat6 with h1 | h1
      ·exact hnb.out g (h1.symm.trans e)
      ·rw [h1] at e
       injection e with e;rw [World.size_alloc] at e;omega
     have hz6 := hgr6.size;rw [World.size_alloc] at hz6;replace hown6 := hide hown6;clear hgr6 hb6 hat6 hOa hSa hona hbka hrow;go_roundw
     case rel => exact ⟨k + 1, A6, _, c6, _, by omega, by go_num, rfl, by omega, by omega, hown6.out, hD2.out, hS6.out, hon6.out, hbk6.out, hnb6.out, by omega⟩
     case measure => simp [intOf]; omega
    ·have g1 : ¬ (m : Int) < 4 := by omega
     clear cx;go_wp2_with fail;go_roundw
     case rel => exact ⟨k + 1, A, m, c, ts, by omega, by go_num, rfl, hm1, hm4, hO5.out, hD.out, hS5.out, hon5.out, hbk5.out, hnb.out, hz5⟩
     case measure => simp [intOf]; omega
  ·obtain rfl : k = 5 := by omega
   have hSe := hide (hS.out.more (show N + 2 * 5 ≤ N + 10 by omega))
   by_cases hm : m = 1
   ·subst hm
    have hza : w.heap.size ≤ (wr.alloc (.cells #[.string ⟨#[97]⟩] 9)).heap.size := by rw [World.size_alloc]; omega
    have hOa := hide (hO.out.alloc (.cells #[.string ⟨#[97]⟩] 9));have hSa := hide (hSe.out.alloc (.cells #[.string ⟨#[97]⟩] 9));have hona := hide (hon.out.alloc' (.cells #[.string ⟨#[97]⟩] 9));have hrow := hide (fun q (e : (Value.slice A 1 c).ownBlock = some q) => (hOa.out.lt q e).1);have hD2 := hide (hD.out.app (x := ⟨#[97]⟩) (by simp [nm5]));clear hO hS hon hbk hnb;go_wp2_with (first | (at_builtin; (with_reducible refine wpList_app rfl (.tmp 31) (.tmp 32) rfl hE.out flat_strv rfl hOa.out rfl (Sl.lit1' wr 9 (⟨#[97]⟩ : ByteArray) _ rfl 1 _ ?d0) ?d1 hza ?_); rotate_right; intro A6 c6 w6 hown6 hgr6 hb6 hat6))
    case d0 => rfl
    case d1 => omega
    have hS6 := hide (hSa.out.grow hgr6 (fun q e => by have := hrow.out q e; omega));have hon6 := hide (hona.out.grow hgr6 (fun q e => hrow.out q e));have hsl := hide (hown6.sl flat_strv);clear hgr6 hb6 hat6 hOa hSa hona hrow hown6;go_ret;exact ⟨_, _, _, _, rfl, hsl.out, by omega, by omega, hD2.out, hS6.out, hon6.out⟩
   ·have g1 : ((m : Int) == 1) = false := by rw [beq_eq_false_iff_ne]; omega
    have g2 : ¬ m = 1 := hm;have hsl := hide (hO.out.sl flat_strv);go_wp2_with fail;go_ret;exact ⟨_, _, _, _, rfl, hsl.out, by omega, by omega, hD.out, hSe.out, hon.out⟩
end Go.Proofs.YtnhomkmfbngmgaaGreatDoor
namespace Go.Proofs.YtnhomkmfbngmgaaGreatDoor
theorem nm5_lab : ∀ x, x ∈ nm5 → labS x = true ∧ x ≠ tauB := by
 intro x hx;unfold nm5 at hx;simp only [List.mem_cons, List.mem_nil_iff, or_false] at hx
 rcases hx with rfl | rfl | rfl | rfl | rfl
 all_goals exact ⟨by kernel_rfl, by decide⟩
theorem joi_rise (ts : List ByteArray) : ((joiF ts).map toL).Pairwise fun x y => ltL x y = true := by
 unfold joiF;rw [map_toL_ofL2];exact compact_rise (sortL_rise _)
theorem joi_mem_iff (ts : List ByteArray) (x : ByteArray) : x ∈ joiF ts ↔ x = tauB ∨ x ∈ ts := by
 constructor
 ·intro h
  unfold joiF at h;obtain ⟨y, hy, rfl⟩ := List.mem_map.1 h;rw [compactL_mem, List.mem_mergeSort] at hy;obtain ⟨z, hz, rfl⟩ := List.mem_map.1 hy;rw [ofL_toL];exact List.mem_cons.1 hz
 ·intro h
  unfold joiF;refine List.mem_map.2 ⟨toL x, ?_, ofL_toL x⟩;rw [compactL_mem, List.mem_mergeSort];exact List.mem_map_of_mem (List.mem_cons.2 h)
theorem joi_lt {ts : List ByteArray} {i j : Nat} {x y : ByteArray} (hx : (joiF ts)[i]? = some x) (hy : (joiF ts)[j]? = some y) (hij : i < j) : ltL (toL x) (toL y) = true := by
 have hi := List.getElem?_eq_some_iff.1 hx;have hj := List.getElem?_eq_some_iff.1 hy;have := List.pairwise_iff_getElem.1 (joi_rise ts) i j (by rw [List.length_map]; exact hi.1) (by rw [List.length_map]; exact hj.1) hij;rw [List.getElem_map, List.getElem_map, hi.2, hj.2] at this;exact this
theorem not_lt_tau (x : List UInt8) : ltL x tauBL = false := Bool.eq_false_iff.2 fun h => by
 rw [ltL_iff] at h
 rcases h.2 with e | e
 ·exact h.1 e
 ·exact e.1 rfl
theorem joi_head (ts : List ByteArray) : (joiF ts)[0]? = some tauB := by
 have hm : tauB ∈ joiF ts := (joi_mem_iff ts tauB).2 (.inl rfl);obtain ⟨j, hj⟩ := List.getElem?_of_mem hm
 by_cases e : j = 0
 ·rw [← e]; exact hj
 ·have hjl := (List.getElem?_eq_some_iff.1 hj).1
  obtain ⟨x, hx⟩ : ∃ x, (joiF ts)[0]? = some x := ⟨_, List.getElem?_eq_getElem (by omega)⟩;have := joi_lt hx hj (by omega);rw [toL_tau, not_lt_tau] at this
  cases this
theorem joi_names {ts : List ByteArray} (h : ∀ x, x ∈ ts → x = tauB ∨ labS x = true) (hl : (joiF ts).length ≤ 12) : namesB (joiF ts) = true := by
 have h0 := joi_head ts;have hpos := (List.getElem?_eq_some_iff.1 h0).1;unfold namesB;rw [Bool.and_eq_true];refine ⟨inB_true.2 (by omega), allK_good fun k hk => ?_⟩;obtain ⟨s, hs⟩ : ∃ s, (joiF ts)[k]? = some s := ⟨_, List.getElem?_eq_getElem hk⟩
 by_cases k0 : k = 0
 ·subst k0
  rw [okL_zero hs];rw [h0] at hs;injection hs with hs;exact decide_eq_true hs.symm
 ·obtain ⟨y, hy⟩ : ∃ y, (joiF ts)[k - 1]? = some y := ⟨_, List.getElem?_eq_getElem (by omega)⟩
  rw [okL_at hs (by omega) hy];have hst : s ≠ tauB := fun e => by
   have := joi_lt h0 hs (by omega);rw [e, ltL_irr] at this
   cases this
  have hlab : labS s = true := by
   rcases (joi_mem_iff ts s).1 (List.mem_of_getElem? hs) with e | e
   ·exact absurd e hst
   ·rcases h s e with e2 | e2
    ·exact absurd e2 hst
    ·exact e2
  rw [hlab, decide_eq_false hst]
  by_cases k1 : k ≤ 1
  ·simp [k1]
  ·have hlt := joi_lt hy hs (by omega)
   rw [ltL_iff] at hlt;have hyt : toL y ≠ tauBL := fun e => by
    have h3 := joi_lt h0 hy (by omega);rw [toL_tau, e, ltL_irr] at h3
    cases h3
   rcases hlt.2 with e | e
   ·exact absurd e hyt
   ·have : sLess y s = true := by unfold sLess; rw [toL_eq, toL_eq]; exact e.2
    simp [this]
theorem made_valid {st ini : Int} {ts : List ByteArray} {es es2 : List Ed} (h1 : 1 ≤ st ∧ st ≤ 40) (h2 : 0 ≤ ini ∧ ini < st) (hn : ∀ x, x ∈ ts → x = tauB ∨ labS x = true) (hl : (joiF ts).length ≤ 12) (hes : es.length ≤ 300) (he : ∀ e, e ∈ es → (0 ≤ e.1 ∧ e.1 < st) ∧ 0 ≤ e.2.2 ∧ e.2.2 < st) (hm : MadeE ts es es2) : ltsV (st, ini, joiF ts, es2) = true := by
 obtain ⟨m1, m2, m3⟩ := hm;rw [ltsV_eq];simp only [Bool.and_eq_true, decide_eq_true_eq];refine ⟨⟨inB_true.2 (by omega), inB_true.2 (by omega), joi_names hn hl, by omega⟩, allK_good fun k hk => ?_⟩;obtain ⟨⟨f, lb, t⟩, hx⟩ : ∃ x, es2[k]? = some x := ⟨_, List.getElem?_eq_getElem hk⟩;obtain ⟨e, hem, e1, e2, e3, e4⟩ := m3 _ (List.mem_of_getElem? hx);obtain ⟨a1, a2⟩ := he e hem
 (try dsimp only at e1 e2 e3 e4)
 have b1 : inB f 0 (st - 1) = true := inB_true.2 (by omega);have b2 : inB t 0 (st - 1) = true := inB_true.2 (by omega);have b3 : inB lb 0 (((joiF ts).length : Int) - 1) = true := inB_true.2 (by omega)
 by_cases k0 : k = 0
 ·subst k0
  have := okE_zero (st := st) (m := (joiF ts).length) hx;rw [this, b1, b2, b3]; rfl
 ·obtain ⟨r, hr⟩ : ∃ r, es2[k - 1]? = some r := ⟨_, List.getElem?_eq_getElem (by omega)⟩
  have := okE_at (st := st) (m := (joiF ts).length) hx (by omega) hr;rw [this, b1, b2, b3];have p := List.pairwise_iff_getElem.1 m1 (k - 1) k (by omega) hk (by omega);rw [(List.getElem?_eq_some_iff.1 hr).2, (List.getElem?_eq_some_iff.1 hx).2] at p;rw [p]; rfl
open Go.ChangeAt Go.ChangeShapes Go.RowKit Go.WideShapes
def put4 (w : World) (g : Nat) (v0 v1 v2 v3 : Value) : World := (((w.setCell ⟨g, 0, none⟩ v0).setCell ⟨g, 1, none⟩ v1).setCell ⟨g, 2, none⟩ v2).setCell ⟨g, 3, none⟩ v3
theorem put4_other (w : World) (g : Nat) (v0 v1 v2 v3 : Value) {q : Nat} (h : q ≠ g) : (put4 w g v0 v1 v2 v3).heap[q]? = w.heap[q]? := by
 unfold put4;rw [Below.heap_setCell _ _ _ _ h, Below.heap_setCell _ _ _ _ h, Below.heap_setCell _ _ _ _ h, Below.heap_setCell _ _ _ _ h]
theorem put4_size (w : World) (g : Nat) (v0 v1 v2 v3 : Value) : (put4 w g v0 v1 v2 v3).heap.size = w.heap.size := by unfold put4; simp
theorem put4_only {lo hi g : Nat} {a w : World} (h : Only lo hi a w) (hg : a.heap.size ≤ g) (v0 v1 v2 v3 : Value) : Only lo hi a (put4 w g v0 v1 v2 v3) :=
 (((h.setNew (p := ⟨g, 0, none⟩) hg v0).setNew (p := ⟨g, 1, none⟩) hg v1).setNew (p := ⟨g, 2, none⟩) hg v2).setNew (p := ⟨g, 3, none⟩) hg v3
def DrawnG (K M Q b N : Nat) (w : World) (e : Ending) (w' : World) : Prop := ∃ (st ini : Nat) (A : Option Addr) (n c : Nat) (B : Option Addr) (m d : Nat) (ts : List ByteArray) (es : List Ed),
 e = .returned (.agg #[.int .i64 (st : Int), .int .i64 (ini : Int), .slice A n c, .slice B m d]) ∧ SlS w' w.heap.size w'.heap.size A n (joiF ts) ∧ SlE w' w.heap.size w'.heap.size B m es ∧
 ltsV ((st : Int), (ini : Int), joiF ts, es) = true ∧ st ≤ 7 ∧ es.length ≤ M ∧ n ≤ K ∧ NamD ts ∧ SrcW w' b (N + Q) ∧ Only b (b + 1) w w'
def KindO (nb : Nat) (l : List Int) : Prop := (∀ j : Nat, j < nb → j < l.length → l[j]? = some (j : Int)) ∧ ∀ x, x ∈ l → 0 ≤ x ∧ x < (nb : Int)
theorem KindO.start (nb : Nat) : KindO nb [] := ⟨fun j _ h => absurd h (by simp), fun x h => absurd h List.not_mem_nil⟩
theorem KindO.app {nb : Nat} {l : List Int} (h : KindO nb l) {x : Int} (hx : 0 ≤ x ∧ x < (nb : Int)) (hk : l.length < nb → x = (l.length : Int)) : KindO nb (l ++ [x]) := by
 refine ⟨fun j hj hl => ?_, fun y hy => ?_⟩
 ·rw [List.length_append, List.length_singleton] at hl
  by_cases e : j < l.length
  ·rw [List.getElem?_append_left e]; exact h.1 j hj e
  ·obtain rfl : j = l.length := by omega
   rw [List.getElem?_append_right zR, Nat.sub_self, hk hj]
   rfl
 ·rcases List.mem_append.1 hy with g | g
  ·exact h.2 y g
  ·rw [List.mem_singleton.1 g]; exact hx
def EdD (st m : Nat) (es : List Ed) : Prop := ∀ e, e ∈ es → (0 ≤ e.1 ∧ e.1 < (st : Int)) ∧ (0 ≤ e.2.1 ∧ e.2.1 < (m : Int)) ∧ 0 ≤ e.2.2 ∧ e.2.2 < (st : Int)
theorem EdD.start (st m : Nat) : EdD st m [] := fun e h => absurd h List.not_mem_nil
theorem EdD.app {st m : Nat} {es : List Ed} (h : EdD st m es) {f l t : Int} (h1 : 0 ≤ f ∧ f < (st : Int)) (h2 : 0 ≤ l ∧ l < (m : Int)) (h3 : 0 ≤ t ∧ t < (st : Int)) : EdD st m (es ++ [(f, l, t)]) := fun e he => by
 rcases List.mem_append.1 he with g | g
 ·exact h e g
 ·rw [List.mem_singleton.1 g]; exact ⟨h1, h2, h3⟩
theorem joi_len (ts : List ByteArray) : (joiF ts).length ≤ ts.length + 1 := by
 unfold joiF;rw [List.length_map];refine Nat.le_trans (Go.Lib.compact_length_le _) ?_;rw [List.length_mergeSort, List.length_map, List.length_cons];exact zR
theorem l11DrawOk_calls (b N : Nat) (w : World) (h : SrcW w b N) (hN : N ≤ 700000000) :
  Calls Tryz.prog 113 #[.pointer (some ⟨b, 0, none⟩)] w (DrawnG 6 60 1000 b N w) := by
 have hEi := hide elem_int;have hEe := hide elem_edge;have hbl := h.lt;have hon0 := (Only.refl b (b + 1) w).alloc' (.cells #[.int .i64 0, .int .i64 0, .slice none 0 0, .slice none 0 0] 27);have k8 := heap_alloc_new w (.cells #[.int .i64 0, .int .i64 0, .slice none 0 0, .slice none 0 0] 27);have hS0 := h.alloc (.cells #[.int .i64 0, .int .i64 0, .slice none 0 0, .slice none 0 0] 27);have hz0 : w.heap.size < (w.alloc (.cells #[.int .i64 0, .int .i64 0, .slice none 0 0, .slice none 0 0] 27)).heap.size := by simp
 obtain ⟨wA, hwA⟩ : ∃ wA, wA = w.alloc (.cells #[.int .i64 0, .int .i64 0, .slice none 0 0, .slice none 0 0] 27) := ⟨_, rfl⟩;rw [← hwA] at hon0 k8 hS0 hz0;have q1 := hide (pick_calls b N 4 wA hS0 (by omega));replace hon0 := hide hon0;replace k8 := hide k8;clear h hS0;go_enter Tryz.func113, Tryz.ntmps113;go_upto_region 1 with fail;rw [← hwA];replace hwA := hide hwA;go_wp2_with fail;refine q1.out.mono ?_;rintro e w1 ⟨x, rfl, x0, x1, hs1⟩;obtain ⟨nb, hnb⟩ : ∃ nb : Nat, 1 + x = (nb : Int) := ⟨(1 + x).toNat, by omega⟩;have hnb1 : 1 ≤ nb ∧ nb ≤ 4 := by omega
 have q2 := hide (pick_calls b (N + 2) (7 - (nb : Int)) w1 hs1.src (by omega));replace hs1 := hide hs1;clear q1 x0 x1;go_wp2_with fail;refine q2.out.mono ?_;rintro e w2 ⟨y, rfl, y0, y1, hs2⟩;clear hnb;obtain ⟨st, hst⟩ : ∃ st : Nat, (nb : Int) + y = (st : Int) := ⟨((nb : Int) + y).toNat, by omega⟩;have hst1 : nb ≤ st ∧ st ≤ 6 := by omega
 have q3 := hide (l11DrawNames_calls b (N + 2 + 2) w2 hs2.src (by omega));have hz2 : wA.heap.size = w2.heap.size := by have := hs1.out.size; have := hs2.size; omega
 have hon2 := hide (hs1.out.only.trans' hs2.only);replace hz2 := hide hz2;clear q2 y0 y1 hs1 hs2;go_wp2_with fail;refine q3.out.mono ?_;rintro e w3 ⟨A, n, c, ts, rfl, hT, hn2, hn5, hD, hs3, hon3⟩;clear hst;have hT1 := hide (hT.below ((Below.refl w3.heap.size w3).alloc zR (.cells #[] 2)) (.inr zR));have hlT := hide hT.len;have hO0 : Hid (Own 1 iv (w3.alloc (.cells #[] 2)) w3.heap.size 2 (some ⟨w3.heap.size, 0, none⟩) 0 0 ([] : List Int)) := Own.made (α := Int) (size := 1) (f := iv) w3 2 zR;have hs4 := hide (hs3.alloc (.cells #[] 2));have hon4 := hide ((Only.refl b (b + 1) w3).alloc' (.cells #[] 2));have hon30 := hide (hon2.out.trans' hon3);have hz3 : w2.heap.size ≤ w3.heap.size := hon3.size;replace hT := hide hT;replace hD := hide hD;obtain ⟨hnb0, hnb4⟩ := hnb1;obtain ⟨hst0, hst6⟩ := hst1;have hbl3 : b < w3.heap.size := hs3.lt;have hbl2 : b < w2.heap.size := by have := hz2.out; omega
 clear q3 hon2 hs3 hon3;go_wp2_with fail
 go_loopw [6, 7] (fun o i wr => ∃ (k : Nat) (K : Option Addr) (kc : Nat) (l : List Int), k ≤ st ∧ i = .int .i64 (k : Nat) ∧ o = .slice K k kc ∧ Hid (Own 1 iv wr w3.heap.size 2 K k kc l) ∧ Hid (KindO nb l) ∧ Hid (SrcW wr b (N + 14 + 2 * k)) ∧ Hid (Only b (b + 1) w3 wr)) (fun _ i _ => st - (intOf i).toNat)
 case atStart => exact ⟨0, _, 0, [], Nat.zero_le _, rfl, rfl, hO0.out, KindO.start nb, hs4.out, hon4.out⟩
 case round =>
  clear hO0 hs4 hon4 hT1;obtain ⟨k, K, kc, l, hk, rfl, rfl, hO, hK, hS, hon⟩ := hrel;have hzr := hon.out.size;have hll : l.length = k := hO.out.len
  by_cases hlt : k < st
  ·have k1 : (k : Int) < (st : Int) := by omega
   by_cases hkb : k < nb
   ·have k2 : (k : Int) < (nb : Int) := by omega
    have hza : w3.heap.size ≤ (wr.alloc (.cells #[.int .i64 (k : Int)] 2)).heap.size := by rw [World.size_alloc]; omega
    have hOa := hide (hO.out.alloc (.cells #[.int .i64 (k : Int)] 2));have hSa := hide (hS.out.alloc (.cells #[.int .i64 (k : Int)] 2));have hona := hide (hon.out.alloc' (.cells #[.int .i64 (k : Int)] 2));have hrow := hide (fun q (e : (Value.slice K k kc).ownBlock = some q) => (hOa.out.lt q e).1);have hK2 := hide (hK.out.app (x := (k : Int)) (by omega) (fun _ => by omega));clear hO hS hon hll hzr;go_wp2_with (first | (at_builtin; (with_reducible refine wpList_app rfl (.tmp 36) (.tmp 38) rfl hEi.out flat_iv rfl hOa.out rfl (Sl.lit1' wr 2 (k : Int) _ rfl 1 _ ?d0) ?d1 hza ?_); rotate_right; intro A6 c6 w6 hown6 hgr6 hb6 hat6))
    case d0 => rfl
    case d1 => omega
    have hS6 := hide ((hSa.out.grow hgr6 (fun q e => by have := hrow.out q e; omega)).more (show N + 14 + 2 * k ≤ N + 14 + 2 * (k + 1) by omega));have hon6 := hide (hona.out.grow hgr6 (fun q e => hrow.out q e));replace hown6 := hide hown6;clear hgr6 hb6 hat6 hOa hSa hona hrow;go_wp2_with fail;go_roundw
    case rel => exact ⟨k + 1, A6, c6, _, by omega, by go_num, rfl, hown6.out, hK2.out, hS6.out, hon6.out⟩
    case measure => simp [intOf]; omega
   ·have k2 : ¬ (k : Int) < (nb : Int) := by omega
    have q := hide (pick_calls b (N + 14 + 2 * k) (nb : Int) wr hS.out (by omega));go_wp2_with fail;refine q.out.mono ?_;rintro e w5 ⟨z, rfl, z0, z1, hs5⟩;have hO5 := hide (hO.out.keep (w' := w5) fun g e => hs5.only.block g (hO.out.lt g e).2 (by have := (hO.out.lt g e).1; omega));have hon5 := hide (hon.out.trans' hs5.only);have hz5 := hs5.size;have hza : w3.heap.size ≤ (w5.alloc (.cells #[.int .i64 z] 2)).heap.size := by rw [World.size_alloc]; omega
    have hOa := hide (hO5.out.alloc (.cells #[.int .i64 z] 2));have hSa := hide (hs5.src.alloc (.cells #[.int .i64 z] 2));have hona := hide (hon5.out.alloc' (.cells #[.int .i64 z] 2));have hrow := hide (fun q (e : (Value.slice K k kc).ownBlock = some q) => (hOa.out.lt q e).1);have hK2 := hide (hK.out.app (x := z) (by omega) (fun h => by omega));clear hO hS hon hll hzr hz5 hO5 hon5 hs5 q z0 z1;go_wp2_with (first | (at_builtin; (with_reducible refine wpList_app rfl (.tmp 40) (.tmp 44) rfl hEi.out flat_iv rfl hOa.out rfl (Sl.lit1' w5 2 z _ rfl 1 _ ?d0) ?d1 hza ?_); rotate_right; intro A6 c6 w6 hown6 hgr6 hb6 hat6))
    case d0 => rfl
    case d1 => omega
    have hS6 := hide ((hSa.out.grow hgr6 (fun q e => by have := hrow.out q e; omega)).more (show N + 14 + 2 * k + 2 ≤ N + 14 + 2 * (k + 1) by omega));have hon6 := hide (hona.out.grow hgr6 (fun q e => hrow.out q e));replace hown6 := hide hown6;clear hgr6 hb6 hat6 hOa hSa hona hrow;go_wp2_with fail;go_roundw
    case rel => exact ⟨k + 1, A6, c6, _, by omega, by go_num, rfl, hown6.out, hK2.out, hS6.out, hon6.out⟩
    case measure => simp [intOf]; omega
  ·obtain rfl : k = st := by omega
   have k1 : ¬ (k : Int) < (k : Int) := by omega
   obtain ⟨wK, rfl⟩ : ∃ wK : World, wK = wr := ⟨_, rfl⟩;have hKs := hide (hO.out.sl flat_iv);have hE0 : Hid (Own 3 ev (wK.alloc (.cells #[] 84)) wK.heap.size 84 (some ⟨wK.heap.size, 0, none⟩) 0 0 ([] : List Ed)) := Own.made (α := Ed) (size := 3) (f := ev) wK 84 zR;have hSe := hide (hS.out.alloc (.cells #[] 84));have hone := hide ((Only.refl b (b + 1) wK).alloc' (.cells #[] 84));have hTK := hide (hT.out.only hon.out (.inr (by have := hzr; have := hbl; omega)));have q4 := hide (pick_calls b _ (2 + 2 * (nb : Int)) (wK.alloc (.cells #[] 84)) hSe.out (by omega));clear hS;go_wp2_with fail;refine q4.out.mono ?_;rintro e w6 ⟨r0, rfl, r00, r01, hs6⟩;obtain ⟨r, rfl⟩ : ∃ r : Nat, r0 = (r : Int) := ⟨r0.toNat, by omega⟩;have hr9 : r ≤ 9 := by omega
   have hE6 := hide (hE0.out.keep (w' := w6) fun g e => hs6.only.block g (hE0.out.lt g e).2 (by have := (hE0.out.lt g e).1; omega));have hon6 := hide (hone.out.trans' hs6.only);replace hs6 := hide (hs6.src.more (show N + 14 + 2 * k + 2 ≤ N + 40 + 30 * (9 - r) by omega));clear q4 hE0 hSe hone r00 r01;go_wp2_with fail;obtain ⟨st, rfl⟩ : ∃ st, st = k := ⟨_, rfl⟩;obtain ⟨gk, ok, rfl, -⟩ := hKs.out.at_ (by omega);have hbK : b < wK.heap.size := by omega
   clear hlt k1 hk hO hlT
   go_loopw [8, 9] (fun v8 v9 wr => ∃ (r mm cc : Nat) (E : Option Addr) (es : List Ed), v9 = .int .i64 (r : Nat) ∧ r ≤ 9 ∧ v8 = .slice E mm cc ∧ mm ≤ 6 * (9 - r) ∧ Hid (Own 3 ev wr wK.heap.size 84 E mm cc es) ∧ Hid (EdD st n es) ∧ Hid (SrcW wr b (N + 40 + 30 * (9 - r))) ∧ Hid (Only b (b + 1) wK wr)) (fun _ v _ => (intOf v).toNat)
   case atStart => exact ⟨r, 0, 0, _, [], rfl, hr9, rfl, Nat.zero_le _, hE6.out, EdD.start _ _, hs6.out, hon6.out⟩
   case round =>
    clear hE6 hs6 hon6 hr9;obtain ⟨r, mm, cc, E, es, rfl, hr, rfl, hmm, hO, hEd, hS, hon6⟩ := hrel
    by_cases hpos : 0 < r
    ·have p1 : (0 : Int) < (r : Int) := by omega
     obtain ⟨NN, hNN⟩ : ∃ NN, N + 40 + 30 * (9 - r) = NN := ⟨_, rfl⟩;rw [hNN] at hS;have hNNb : NN ≤ N + 400 := by omega
     replace hNN := hide hNN;have q5 := hide (pick_calls b NN (nb : Int) wr hS.out (by omega));go_wp2_with fail;refine q5.out.mono ?_;rintro e w7 ⟨f, rfl, f0, f1, h7⟩;have q6 := hide (pick_calls b (NN + 2) (n : Int) w7 h7.src (by omega));replace h7 := hide h7;clear q5;go_wp2_with fail;refine q6.out.mono ?_;rintro e w8 ⟨lb, rfl, l0, l1, h8⟩;have q7 := hide (pick_calls b (NN + 2 + 2) (nb : Int) w8 h8.src (by omega));replace h8 := hide (h7.out.trans h8);clear q6 h7;go_wp2_with fail;refine q7.out.mono ?_;rintro e w9 ⟨t, rfl, t0, t1, h9⟩;obtain ⟨tn, rfl⟩ : ∃ tn : Nat, t = (tn : Int) := ⟨t.toNat, by omega⟩;replace h9 := h8.out.trans h9;have hO9 := hide (hO.out.keep (w' := w9) fun g e => h9.only.block g (hO.out.lt g e).2 (by have := (hO.out.lt g e).1; omega));have hon9 := hide (hon6.out.trans' h9.only);have hS9 := hide (h9.src.more (show NN + 2 + 2 + 2 ≤ NN + 6 + 2 * 0 by omega));have hlb : 0 ≤ lb ∧ lb < (n : Int) := by omega
     have htn : tn < nb := by omega
     clear q7 h8 h9 hO hS hon6 l0 l1 t0 t1 f0 f1;go_wp2_with fail
     go_loopw [8, 13] (fun v8 v13 wz => ∃ (j mm2 cc2 : Nat) (E2 : Option Addr) (es2 : List Ed), j ≤ st ∧ v13 = .int .i64 (j : Nat) ∧ v8 = .slice E2 mm2 cc2 ∧ mm2 ≤ mm + j ∧ Hid (Own 3 ev wz wK.heap.size 84 E2 mm2 cc2 es2) ∧ Hid (EdD st n es2) ∧ Hid (SrcW wz b (NN + 6 + 2 * j)) ∧ Hid (Only b (b + 1) wK wz)) (fun _ v _ => st - (intOf v).toNat)
     case atStart => exact ⟨0, mm, cc, E, es, Nat.zero_le _, rfl, rfl, zR, hO9.out, hEd.out, hS9.out, hon9.out⟩
     case round =>
      clear hO9 hS9 hon9 hEd;obtain ⟨j, mm2, cc2, E2, es2, hj, rfl, rfl, hmm2, hO, hEd, hS, hon6⟩ := hrel
      by_cases hlt : j < st
      ·have j0 : (0 : Int) ≤ (j : Int) := by omega
       have j1 : (j : Int) < (st : Int) := by omega
       obtain ⟨gk2, ok2, y, e1, -, -, -, hy, ck, -⟩ := SlI.get (hKs.out.only hon6.out (.inr (by omega))) hlt;cases e1;have hzO := hon6.out.size
       by_cases hyf : y = f
       ·obtain rfl : f = y := hyf.symm
        have g1 : (f == f) = true := by simp
        obtain ⟨wO, rfl⟩ : ∃ wO : World, wO = wr := ⟨_, rfl⟩;have hA0 : Hid (Own 1 iv (wO.alloc (.cells #[] 2)) wO.heap.size 2 (some ⟨wO.heap.size, 0, none⟩) 0 0 ([] : List Int)) := Own.made (α := Int) (size := 1) (f := iv) wO 2 zR;have hB0 := hide ((Below.refl wO.heap.size wO).alloc zR (.cells #[] 2));clear hy;go_wp2_with fail;clear ck
        go_loopw [14, 15] (fun v14 v15 wy => ∃ (i an ac : Nat) (AA : Option Addr) (la : List Int), i ≤ st ∧ v15 = .int .i64 (i : Nat) ∧ v14 = .slice AA an ac ∧ an ≤ i ∧ Hid (tn < i → 0 < an) ∧ Hid (Own 1 iv wy wO.heap.size 2 AA an ac la) ∧ Hid (∀ x, x ∈ la → 0 ≤ x ∧ x < (st : Int)) ∧ Hid (Below wO.heap.size wO wy)) (fun _ v _ => st - (intOf v).toNat)
        case atStart => exact ⟨0, 0, 0, _, [], Nat.zero_le _, rfl, rfl, zR, (fun h => absurd h (by omega)), hA0.out, (fun x h => absurd h List.not_mem_nil), hB0.out⟩
        case round =>
         clear hA0 hB0;obtain ⟨i, an, ac, AA, la, hi, rfl, rfl, han, hne, hA, hla, hB⟩ := hrel
         by_cases hil : i < st
         ·have i0 : (0 : Int) ≤ (i : Int) := by omega
          have i1 : (i : Int) < (st : Int) := by omega
          obtain ⟨gk2, ok2, y, e1, -, -, -, hy, ck, -⟩ := SlI.get ((hKs.out.only hon6.out (.inr (by omega))).below hB.out (.inl hzO)) hil;cases e1
          by_cases hyt : y = (tn : Int)
          ·obtain rfl : (tn : Int) = y := hyt.symm
           have g2 : ((tn : Int) == (tn : Int)) = true := by simp
           have hzy := hB.out.size;have hza : wO.heap.size ≤ (wr.alloc (.cells #[.int .i64 (i : Int)] 2)).heap.size := by rw [World.size_alloc]; omega
           have hOa := hide (hA.out.alloc (.cells #[.int .i64 (i : Int)] 2));have hBa := hide (hB.out.alloc hzy (.cells #[.int .i64 (i : Int)] 2));have hrow := hide (fun q (e : (Value.slice AA an ac).ownBlock = some q) => (hOa.out.lt q e).1);have hla2 : Hid (∀ x, x ∈ la ++ [(i : Int)] → 0 ≤ x ∧ x < (st : Int)) := fun x hx => by
            rcases List.mem_append.1 hx with h | h
            ·exact hla.out x h
            ·rw [List.mem_singleton.1 h]; omega
           clear hA hB hla hy hzy;go_wp2_with (first | (at_builtin; (with_reducible refine wpList_app rfl (.tmp 89) (.tmp 91) rfl hEi.out flat_iv rfl hOa.out rfl (Sl.lit1' wr 2 (i : Int) _ rfl 1 _ ?d0) ?d1 hza ?_); rotate_right; intro A6 c6 w6 hown6 hgr6 hb6 hat6))
           case d0 => rfl
           case d1 => omega
           have hB6 := hide (hBa.out.grown hgr6 (Nat.le_trans zR hBa.out.size) (fun q e => hrow.out q e));replace hown6 := hide hown6;clear hgr6 hb6 hat6 hOa hBa hrow ck;go_wp2_with fail;go_roundw
           case rel => exact ⟨i + 1, an + 1, c6, A6, _, by omega, by go_num, rfl, by omega, (fun _ => by omega), hown6.out, hla2.out, hB6.out⟩
           case measure => simp [intOf]; omega
          ·have g2 : (y == (tn : Int)) = false := by rw [beq_eq_false_iff_ne]; exact hyt
           have hne2 : Hid (tn < i + 1 → 0 < an) := fun h => by
            by_cases e : tn < i
            ·exact hne.out e
            ·obtain rfl : tn = i := by omega
             have := hK.out.1 tn htn (List.getElem?_eq_some_iff.1 hy).1;rw [hy] at this;injection this with this;exact absurd this hyt
           clear hy;go_wp2_with fail;clear ck;go_roundw
           case rel => exact ⟨i + 1, an, ac, AA, la, by omega, by go_num, rfl, by omega, hne2.out, hA.out, hla.out, hB.out⟩
           case measure => simp [intOf]; omega
         ·obtain rfl : i = st := by omega
          have i1 : ¬ (i : Int) < (i : Int) := by omega
          have hpa : 0 < an := hne.out (by omega);have hls := hide (hA.out.sl flat_iv);have hbO : b < wO.heap.size := by omega
          have hSy := hide (hS.out.below hB.out hbO);have q8 := hide (among_calls b (NN + 6 + 2 * j) AA an ac la wr _ _ hSy.out (by omega) hls.out (.inr (by omega)) hpa (by omega));have hzy := hB.out.size;go_wp2_with fail;refine q8.out.mono ?_;rintro e w10 ⟨x, rfl, hx, hs10⟩;have hxb := hla.out x hx;have hO10 := hide (hO.out.keep (w' := w10) fun g e => (hs10.only.block g (Nat.lt_of_lt_of_le (hO.out.lt g e).2 hzy) (by have := (hO.out.lt g e).1; omega)).trans (hB.out.block g (hO.out.lt g e).2));have hon10 := hide ((hon6.out.belowAt hB.out hzO).trans' hs10.only);have hS10 := hide (hs10.src);have hz10 := hon10.out.size;have hza : wK.heap.size ≤ (w10.alloc (.cells #[.int .i64 (j : Int), .int .i64 lb, .int .i64 x] 84)).heap.size := by rw [World.size_alloc]; omega
          have hOa := hide (hO10.out.alloc (.cells #[.int .i64 (j : Int), .int .i64 lb, .int .i64 x] 84));have hSa := hide (hS10.out.alloc (.cells #[.int .i64 (j : Int), .int .i64 lb, .int .i64 x] 84));have hona := hide (hon10.out.alloc' (.cells #[.int .i64 (j : Int), .int .i64 lb, .int .i64 x] 84));have hrow := hide (fun q (e : (Value.slice E2 mm2 cc2).ownBlock = some q) => (hOa.out.lt q e).1);have hEd2 := hide (hEd.out.app (f := (j : Int)) (l := lb) (t := x) (by omega) hlb hxb);clear hO hS hon6 hA hB hla hls hSy q8 hs10 hO10 hon10 hS10 hx hxb hne hz10 hzy;go_wp2_with (first | (at_builtin; (with_reducible refine wpList_app rfl (.tmp 93) (.tmp 100) rfl hEe.out flat_ev rfl hOa.out rfl (Sl.lit1' w10 84 ((j : Int), lb, x) _ rfl 3 _ ?d0) ?d1 hza ?_); rotate_right; intro A6 c6 w6 hown6 hgr6 hb6 hat6))
          case d0 => rfl
          case d1 => omega
          have hS6 := hide ((hSa.out.grow hgr6 (fun q e => by have := hrow.out q e; omega)).more (show NN + 6 + 2 * j + 2 ≤ NN + 6 + 2 * (j + 1) by omega));have hon6 := hide (hona.out.grow hgr6 (fun q e => hrow.out q e));replace hown6 := hide hown6;clear hgr6 hb6 hat6 hOa hSa hona hrow;go_wp2_with fail;go_roundw
          case rel => exact ⟨j + 1, mm2 + 1, c6, A6, _, by omega, by go_num, rfl, by omega, hown6.out, hEd2.out, hS6.out, hon6.out⟩
          case measure => simp [intOf]; omega
       ·have g1 : (y == f) = false := by rw [beq_eq_false_iff_ne]; exact hyf
        have hS2 := hide (hS.out.more (show NN + 6 + 2 * j ≤ NN + 6 + 2 * (j + 1) by omega));clear hy;go_wp2_with fail;clear ck;go_roundw
        case rel => exact ⟨j + 1, mm2, cc2, E2, es2, by omega, by go_num, rfl, by omega, hO.out, hEd.out, hS2.out, hon6.out⟩
        case measure => simp [intOf]; omega
      ·obtain rfl : j = st := by omega
       have j1 : ¬ (j : Int) < (j : Int) := by omega
       obtain ⟨r2, rfl⟩ : ∃ r2, r = r2 + 1 := ⟨r - 1, by omega⟩;have hS2 := hide (hS.out.more (show NN + 6 + 2 * j ≤ N + 40 + 30 * (9 - r2) by have := hNN.out; omega));go_wp2_with fail;go_roundw
       case rel => exact ⟨r2, mm2, cc2, E2, es2, by go_num, by omega, rfl, by omega, hO.out, hEd.out, hS2.out, hon6.out⟩
       case measure => simp [intOf]
    ·obtain rfl : r = 0 := by omega
     have p1 : ¬ (0 : Int) < ((0 : Nat) : Int) := by omega
     have q9 := hide (one_calls b _ 3 wr hS.out (by omega));obtain ⟨wL, rfl⟩ : ∃ wL : World, wL = wr := ⟨_, rfl⟩;have hzL := hon6.out.size;go_upto_if 103 with (first | (go_at_call 92; (with_reducible refine q9.out.mono ?_); rintro e w5 ⟨yes, rfl, hs5⟩; replace hs5 := hide hs5))
     go_cut [8] (fun v8 wx => ∃ (mm2 cc2 : Nat) (E2 : Option Addr) (es2 : List Ed), v8 = .slice E2 mm2 cc2 ∧ mm2 ≤ 55 ∧ Hid (Own 3 ev wx wK.heap.size 84 E2 mm2 cc2 es2) ∧ Hid (EdD st n es2) ∧ Hid (SrcW wx b (N + 400)) ∧ Hid (Only b (b + 1) wK wx))
     case first =>
      have hO5 := hide (hO.out.keep (w' := w5) fun g e => hs5.out.only.block g (hO.out.lt g e).2 (by have := (hO.out.lt g e).1; omega));have hon5 := hide (hon6.out.trans' hs5.out.only)
      cases yes with
      | false =>
       have hS5 := hide (hs5.out.src.more (show N + 40 + 30 * (9 - 0) + 2 ≤ N + 400 by omega));go_wp2_with fail;go_meet;exact ⟨mm, cc, E, es, rfl, by omega, hO5.out, hEd.out, hS5.out, hon5.out⟩
      | true =>
       have r1 := hide (pick_calls b _ (st : Int) w5 hs5.out.src (by omega));clear hs5 q9;go_wp2_with fail;refine r1.out.mono ?_;rintro e w6 ⟨f, rfl, f0, f1, h6⟩;have r2 := hide (pick_calls b _ (n : Int) w6 h6.src (by omega));replace h6 := hide h6;clear r1;go_wp2_with fail;refine r2.out.mono ?_;rintro e w7 ⟨lb, rfl, l0, l1, h7⟩;have r3 := hide (pick_calls b _ (st : Int) w7 h7.src (by omega));replace h7 := hide (h6.out.trans h7);clear r2 h6;go_wp2_with fail;refine r3.out.mono ?_;rintro e w8 ⟨t, rfl, t0, t1, h8⟩;replace h8 := h7.out.trans h8;have hO8 := hide (hO5.out.keep (w' := w8) fun g e => h8.only.block g (hO5.out.lt g e).2 (by have := (hO5.out.lt g e).1; omega));have hon8 := hide (hon5.out.trans' h8.only);have hS8 := hide (h8.src.more (show N + 40 + 30 * (9 - 0) + 2 + 2 + 2 + 2 ≤ N + 400 by omega));have hz8 := hon8.out.size;have hza : wK.heap.size ≤ (w8.alloc (.cells #[.int .i64 f, .int .i64 lb, .int .i64 t] 84)).heap.size := by rw [World.size_alloc]; omega
       have hOa := hide (hO8.out.alloc (.cells #[.int .i64 f, .int .i64 lb, .int .i64 t] 84));have hSa := hide (hS8.out.alloc (.cells #[.int .i64 f, .int .i64 lb, .int .i64 t] 84));have hona := hide (hon8.out.alloc' (.cells #[.int .i64 f, .int .i64 lb, .int .i64 t] 84));have hrow := hide (fun q (e : (Value.slice E mm cc).ownBlock = some q) => (hOa.out.lt q e).1);have hEd2 := hide (hEd.out.app (f := f) (l := lb) (t := t) (by omega) (by omega) (by omega));clear r3 h7 h8 hO5 hon5 hO8 hon8 hS8 hz8 hO f0 f1 l0 l1 t0 t1;go_wp2_with (first | (at_builtin; (with_reducible refine wpList_app rfl (.tmp 104) (.tmp 116) rfl hEe.out flat_ev rfl hOa.out rfl (Sl.lit1' w8 84 (f, lb, t) _ rfl 3 _ ?d0) ?d1 hza ?_); rotate_right; intro A6 c6 w9 hown6 hgr6 hb6 hat6))
       case d0 => rfl
       case d1 => omega
       have hS6 := hide (hSa.out.grow hgr6 (fun q e => by have := hrow.out q e; omega));have hon9 := hide (hona.out.grow hgr6 (fun q e => hrow.out q e));replace hown6 := hide hown6;clear hgr6 hb6 hat6 hOa hSa hona hrow;go_meet;exact ⟨mm + 1, c6, A6, _, rfl, by omega, hown6.out, hEd2.out, hS6.out, hon9.out⟩
     case rest =>
      clear hO hEd hS hon6 q9;obtain ⟨mm2, cc2, E2, es2, rfl, hmm2, hO, hEd, hS, honC⟩ := hcut;have r1 := hide (pick_calls b _ (st : Int) wc hS.out (by omega));have hzC := honC.out.size;go_wp2_with fail;refine r1.out.mono ?_;rintro e w6 ⟨ini, rfl, i0, i1, h6⟩;obtain ⟨ini, rfl⟩ : ∃ k : Nat, ini = (k : Int) := ⟨ini.toNat, by omega⟩;have hini : ini < st := by omega
      have hon6 := hide (honC.out.trans' h6.only);have hz6 := h6.size;have hO6 := hO.out.keep (w' := w6) fun g e => h6.only.block g (hO.out.lt g e).2 (by have := (hO.out.lt g e).1; omega)
      have hmm := hO6.len;have r2 := hide (l11Make_calls (st : Int) (ini : Int) A n c ts E2 mm2 cc2 es2 w6 ((hTK.out.only hon6.out (.inr (by omega))).more (Nat.zero_le _) (by omega)) ((hO6.sl flat_ev).more (Nat.zero_le _) zR) (fun e he => (hEd.out e he).2.1) (by omega) (by omega));replace h6 := hide h6;clear r1 hO hS hO6 i0 i1;go_wp2_with fail;refine r2.out.mono ?_;rintro e w7 ⟨A2, n2, c2, B2, m2, d2, es3, rfl, hA2, hB2, hM, hb7⟩;have hF := hide (((hon30.out.trans' hon.out).trans' hon6.out).belowAt hb7 (by have := hz2.out; omega));have h8 : w7.heap[w.heap.size]? = _ := (hF.out.block w.heap.size hz0 (by omega)).trans k8.out;have a0 : w7.cell? ⟨w.heap.size, 0, none⟩ = some (.int .i64 0) := cR 0 h8;have a1 : w7.cell? ⟨w.heap.size, 1, none⟩ = some (.int .i64 0) := cR 1 h8;have a2 : w7.cell? ⟨w.heap.size, 2, none⟩ = some (.slice none 0 0) := cR 2 h8;have a3 : w7.cell? ⟨w.heap.size, 3, none⟩ = some (.slice none 0 0) := cR 3 h8;have z0 : w7.frozen? ⟨w.heap.size, 0, none⟩ = false := frozen_of_row _ _ 0 _ _ h8;have z1 : w7.frozen? ⟨w.heap.size, 1, none⟩ = false := frozen_of_row _ _ 1 _ _ h8;have z2 : w7.frozen? ⟨w.heap.size, 2, none⟩ = false := frozen_of_row _ _ 2 _ _ h8;have z3 : w7.frozen? ⟨w.heap.size, 3, none⟩ = false := frozen_of_row _ _ 3 _ _ h8;have hS7 := hide (h6.out.src.below hb7 (by omega));have hz7 := hb7.size;have hlA := hA2.len;have hlj := joi_len ts;have hlT : ts.length = n := hTK.out.len;replace hA2 := hide hA2;replace hB2 := hide hB2;replace hM := hide hM;replace h8 := hide h8;clear r2 hb7;go_wp2_with fail
      (try simp only [Exit.inBlock, Exit.then])
      refine bodyPost_ret_by (v := .agg #[.int .i64 (st : Int), .int .i64 (ini : Int), .slice A2 n2 c2, .slice B2 m2 d2]) ?_ rfl ?_
      focus
       rw [results_cell1 rfl];go_simp
      change DrawnG 6 60 1000 b N w _ (put4 w7 w.heap.size _ _ _ _)
      have hw2 : w.heap.size < w2.heap.size := by have := hz2.out; omega
      have hZs := put4_size w7 w.heap.size (.int .i64 (st : Int)) (.int .i64 (ini : Int)) (.slice A2 n2 c2) (.slice B2 m2 d2);have hmade : ltsV ((st : Int), (ini : Int), joiF ts, es3) = true := made_valid (by omega) (by omega) (fun x hx => (hD.out x hx).imp id fun h => (nm5_lab x h).1) (by omega) (by omega) (fun e he => ⟨(hEd.out e he).1, (hEd.out e he).2.2⟩) hM.out;refine ⟨st, ini, A2, n2, c2, B2, m2, d2, ts, es3, rfl, ?_, ?_, hmade, by omega, by have := hM.out.2.1; omega, by omega, hD.out, ?_, ?_⟩
      ·exact (Sl.keep hA2.out (by omega) fun q h1 h2 h3 => put4_other _ _ _ _ _ _ (by omega)).more (by omega) (by omega)
      ·exact (Sl.keep hB2.out (by omega) fun q h1 h2 h3 => put4_other _ _ _ _ _ _ (by omega)).more (by omega) (by omega)
      ·exact (hS7.out.keep (by omega) fun q hq => put4_other _ _ _ _ _ _ (by omega)).more (by omega)
      ·exact put4_only (hon0.out.trans' hF.out) zR _ _ _ _
end Go.Proofs.YtnhomkmfbngmgaaGreatDoor
namespace Go.Proofs.YtnhomkmfbngmgaaGreatDoor
open Go
section
variable {P : Program} {ops : Array Oper} {Q : Exit → Act → World → Prop} {md : Region.Mode} {S : World → Prop} {st : Nat}
def lateT (P : Program) (md : Region.Mode) (ops : Array Oper) (Q : Exit → Act → World → Prop) (S : World → Prop) (st : Nat) : Nat → Array Bool → Act → World → Prop
 | 0, got, a, w => Region.ready md ops got = [] ∧ Q .normal a w
 | m + 1, got, a, w => (Region.ready md ops got = [] → Q .normal a w) ∧
  ∀ i ∈ Region.ready md ops got, wpOp P ops Q i (fun a' w' => (i ≠ st → S w') ∧ lateT P md ops Q S st m (got.setIfInBounds i true) a' w') a w
theorem lateT.any : ∀ (m : Nat) (got : Array Bool) (a : Act) (w : World), lateT P md ops Q S st m got a w → wpAny P md ops Q m got a w
 | 0, _, _, _, h => h
 | m + 1, got, _, _, h => ⟨h.1, fun i hi => wpOp_mono (fun a' w' k => lateT.any m _ a' w' k.2) (h.2 i hi)⟩
def chainW (md : Region.Mode) (ops : Array Oper) : Nat → List Nat → Bool
 | _, [] => true
 | i, d :: ds => Region.waitsFor md ops d i && chainW md ops d ds
def openW (got : Array Bool) (ds : List Nat) : Bool := ds.all fun d => !got.getD d true
theorem openW_mem {got : Array Bool} {ds : List Nat} (h : openW got ds = true) {d : Nat} (hd : d ∈ ds) : got.getD d true = false := by
 unfold openW at h;have := List.all_eq_true.1 h d hd
 simpa using this
theorem chainW_shut {got : Array Bool} : ∀ (ds : List Nat) (i : Nat), chainW md ops i ds = true → got.getD i true = false → openW got ds = true → ∀ d ∈ ds, d ∉ Region.ready md ops got
 | [], _, _, _, _, d, hd => by cases hd
 | e :: ds, i, h, hi, ho, d, hd => by
  unfold chainW at h;rw [Bool.and_eq_true] at h;have he : got.getD e true = false := openW_mem ho (by simp)
  rcases List.mem_cons.1 hd with rfl | hd
  ·intro hr
   obtain ⟨oj, h1, x, hx, hb, hon⟩ := Region.waitsFor_spec h.1;obtain ⟨-, o, h2, h3⟩ := mem_ready.1 hr;rw [h1] at h2;obtain rfl := Option.some.inj h2;have := h3 x hx hb;rw [hon, getD_both hi] at this
   cases this
  ·exact chainW_shut ds e h.2 he (by unfold openW at ho ⊢; rw [List.all_cons, Bool.and_eq_true] at ho; exact ho.2) d hd
theorem lateT_first {i : Nat} {oi : Oper} {v : Value} {ds : List Nat} (hi : ops[i]? = some oi) (hsel : Region.noSelect ops = true) (hc : chainW md ops i ds = true) (hst : st ∈ ds)
  (hQ : ∀ c a w, Q (.panic c) (a.put oi.dst v) w → Q (.panic c) a w) : ∀ (m : Nat) (got : Array Bool) (a : Act) (w : World),
   (∀ j oj, ops[j]? = some oj → j ≠ i → got.getD j true = false → (∀ e ∈ oj.after, Region.binds md e = true → e.on ≠ i) → oi.apart ops oj = true) →
   i ∈ Region.ready md ops got → openW got ds = true → YieldsIf P ops S oi v a → S w →
   lateT P md ops Q S st m (got.setIfInBounds i true) (a.put oi.dst v) w → lateT P md ops Q S st (m + 1) got a w
 | 0, got, a, w, _, hr, _, hy, hS, H => by
  refine ⟨fun h => (by rw [h] at hr; cases hr), fun j hj => ?_⟩
  by_cases hji : j = i
  ·subst hji; exact hy.wpOp hi hS ⟨fun _ => hS, H⟩
  ·have := ready_mono hj hji
   rw [H.1] at this
   cases this
 | m + 1, got, a, w, hfree, hr, ho, hy, hS, H => by
  refine ⟨fun h => (by rw [h] at hr; cases hr), fun j hj => ?_⟩
  by_cases hji : j = i
  ·subst hji; exact hy.wpOp hi hS ⟨fun _ => hS, H⟩
  ·have h1 := H.2 j (ready_mono hj hji)
   obtain ⟨hjun, oj, hoj, hall⟩ := mem_ready.1 hj;have hi0 := (mem_ready.1 hr).1;have hjd : j ∉ ds := fun hm => chainW_shut ds i hc hi0 ho j hm hj
   have hjst : j ≠ st := fun e => hjd (e ▸ hst)
   have hnot : ∀ e ∈ oj.after, Region.binds md e = true → e.on ≠ i := fun e he hb heq => by
    have h2 := hall e he hb;rw [heq, getD_both hi0] at h2
    cases h2
   have h2 := wpOp_putIf hoj (hfree j oj hoj hji hjun hnot) (fun cs b => Region.noSelect_spec hsel i oi cs b hi) (fun cs b => Region.noSelect_spec hsel j oj cs b hoj) hQ hy h1;refine wpOp_mono (fun a' w' h3 => ⟨h3.2.1, lateT_first hi hsel hc hst hQ m (got.setIfInBounds j true) a' w' (fun k ok hk hki hun hno => ?_) (ready_mono hr (Ne.symm hji)) ?_ h3.1 (h3.2.1 hjst) ?_⟩) h2
   ·refine hfree k ok hk hki ?_ hno
    by_cases hjk : j = k
    ·subst hjk; exact hjun
    ·rw [getD_set_ne true hjk] at hun; exact hun
   ·unfold openW
    rw [List.all_eq_true];intro d hd;rw [getD_set_ne true (fun e : j = d => hjd (by rw [e]; exact hd)), openW_mem ho hd]
    rfl
   ·rw [Array.setIfInBounds_comm _ _ hji]
    exact h3.2.2
theorem lateT_take {i : Nat} {oi : Oper} {v : Value} {m : Nat} {got : Array Bool} {a : Act} {w : World} (ds : List Nat) (hi : ops[i]? = some oi) (hsel : Region.noSelect ops = true) (hf : Region.free md ops got i = true)
  (hr : (Region.ready md ops got).contains i = true) (hc : (chainW md ops i ds && openW got ds && ds.contains st) = true) (hQ : ∀ c a w, Q (.panic c) (a.put oi.dst v) w → Q (.panic c) a w) (hy : YieldsIf P ops S oi v a) (hS : S w)
  (h : lateT P md ops Q S st m (got.setIfInBounds i true) (a.put oi.dst v) w) : lateT P md ops Q S st (m + 1) got a w := by
 rw [Bool.and_eq_true, Bool.and_eq_true] at hc;exact lateT_first hi hsel hc.1.1 (by simpa using hc.2) hQ m got a w (Region.free_spec hi hf) (by simpa using hr) hc.1.2 hy hS h
theorem lateT_step {i : Nat} {o : Oper} {m : Nat} {got : Array Bool} {a : Act} {w : World} (hr : Region.ready md ops got = [i]) (ho : ops[i]? = some o)
  (h : ∀ K : Act → World → Prop, Shut (∀ a w, (i ≠ st → S w) → lateT P md ops Q S st m (got.setIfInBounds i true) a w → K a w) → if Region.wanted o (yielded ops a.tmps) = true then Oper.wp P o a w K Q else K (a.put o.dst undef) w) : lateT P md ops Q S st (m + 1) got a w := by
 refine ⟨fun h0 => (by rw [hr] at h0; cases h0), fun j hj => ?_⟩;rw [hr] at hj;obtain rfl := List.mem_singleton.1 hj;exact wpOp_step ho fun K hK => h K fun a w hS hl => hK a w ⟨hS, hl⟩
theorem sB {α : Type _} {x : α} {xs : List α} {a : α} : (x :: xs).set 0 a = a :: xs := rfl
theorem sC {α : Type _} {x : α} {xs : List α} {i : Nat} {a : α} : (x :: xs).set (i + 1) a = x :: xs.set i a := rfl
theorem sA {α : Type _} {l : List α} {i : Nat} {a : α} : l.toArray.setIfInBounds i a = (l.set i a).toArray := by rw [List.setIfInBounds_toArray]
theorem tkA (v : Value) (i : Nat) {oi : Oper} {m : Nat} {got : Array Bool} {a a' : Act} {w : World} (ds : List Nat) (hi : ops[i]? = some oi) (hy : YieldsIf P ops S oi v a) (hS : S w)
  (h : lateT P md ops Q S st m (got.setIfInBounds i true) a' w) (ha : a.put oi.dst v = a' := by first | (simp only [Act.put, sA, sB, sC]; rfl) | simp only [Act.put, sA, sB, sC] | rfl) (hsel : Region.noSelect ops = true := by kernel_rfl) (hf : Region.free md ops got i = true := by kernel_rfl)
  (hr : (Region.ready md ops got).contains i = true := by kernel_rfl) (hc : (chainW md ops i ds && openW got ds && ds.contains st) = true := by kernel_rfl) (hQ : ∀ c a w, Q (.panic c) (a.put oi.dst v) w → Q (.panic c) a w := by exact fun _ _ _ h => h) : lateT P md ops Q S st (m + 1) got a w := lateT_take ds hi hsel hf hr hc hQ hy hS (ha ▸ h)
theorem tkB (i : Nat) {v : Value} {oi : Oper} {m : Nat} {got : Array Bool} {a a' : Act} {w : World} (ds : List Nat) (hS : S w) (h : lateT P md ops Q S st m (got.setIfInBounds i true) a' w) (hi : ops[i]? = some oi := by rfl)
  (hy : YieldsIf P ops S oi v a := by (refine Or.inl ⟨by rfl, ?_⟩; intro w hSw; (try dsimp only at hSw); go_simp <;> with_reducible rfl)) (ha : a.put oi.dst v = a' := by first | (simp only [Act.put, sA, sB, sC]; rfl) | simp only [Act.put, sA, sB, sC] | rfl) (hsel : Region.noSelect ops = true := by kernel_rfl) (hf : Region.free md ops got i = true := by kernel_rfl)
  (hr : (Region.ready md ops got).contains i = true := by kernel_rfl) (hc : (chainW md ops i ds && openW got ds && ds.contains st) = true := by kernel_rfl) (hQ : ∀ c a w, Q (.panic c) (a.put oi.dst v) w → Q (.panic c) a w := by exact fun _ _ _ h => h) : lateT P md ops Q S st (m + 1) got a w := lateT_take ds hi hsel hf hr hc hQ hy hS (ha ▸ h)
theorem tkD (i : Nat) {v : Value} {oi : Oper} {m : Nat} {got : Array Bool} {a a' : Act} {w : World} (ds : List Nat) (hS : S w) (h : lateT P md ops Q S st m (got.setIfInBounds i true) a' w) (hi : ops[i]? = some oi := by rfl)
  (hy : YieldsIf P ops S oi v a := by (refine Or.inl ⟨by kernel_rfl, ?_⟩; intro w hSw; (try dsimp only at hSw); go_simp <;> with_reducible rfl)) (ha : a.put oi.dst v = a' := by first | (simp only [Act.put, sA, sB, sC]; rfl) | simp only [Act.put, sA, sB, sC] | rfl) (hsel : Region.noSelect ops = true := by kernel_rfl) (hf : Region.free md ops got i = true := by kernel_rfl)
  (hr : (Region.ready md ops got).contains i = true := by kernel_rfl) (hc : (chainW md ops i ds && openW got ds && ds.contains st) = true := by kernel_rfl) (hQ : ∀ c a w, Q (.panic c) (a.put oi.dst v) w → Q (.panic c) a w := by exact fun _ _ _ h => h) : lateT P md ops Q S st (m + 1) got a w := lateT_take ds hi hsel hf hr hc hQ hy hS (ha ▸ h)
theorem lS (i : Nat) {o : Oper} {m : Nat} {got : Array Bool} {a : Act} {w : World}
  (h : ∀ K : Act → World → Prop, Shut (∀ a w, (i ≠ st → S w) → lateT P md ops Q S st m (got.setIfInBounds i true) a w → K a w) → if Region.wanted o (yielded ops a.tmps) = true then Oper.wp P o a w K Q else K (a.put o.dst undef) w) (hr : Region.ready md ops got = [i] := by kernel_rfl) (ho : ops[i]? = some o := by rfl) : lateT P md ops Q S st (m + 1) got a w := lateT_step hr ho h
theorem tkC (i : Nat) {oi : Oper} {m : Nat} {got : Array Bool} {a a' : Act} {w : World} (ds : List Nat) (hS : S w) (h : lateT P md ops Q S st m (got.setIfInBounds i true) a' w) (hi : ops[i]? = some oi := by rfl)
  (hy : YieldsIf P ops S oi undef a := by exact Or.inr ⟨by kernel_rfl, rfl⟩) (ha : a.put oi.dst undef = a' := by first | (simp only [Act.put, sA, sB, sC]; rfl) | simp only [Act.put, sA, sB, sC] | rfl) (hsel : Region.noSelect ops = true := by kernel_rfl) (hf : Region.free md ops got i = true := by kernel_rfl)
  (hr : (Region.ready md ops got).contains i = true := by kernel_rfl) (hc : (chainW md ops i ds && openW got ds && ds.contains st) = true := by kernel_rfl) (hQ : ∀ c a w, Q (.panic c) (a.put oi.dst undef) w → Q (.panic c) a w := by exact fun _ _ _ h => h) : lateT P md ops Q S st (m + 1) got a w := lateT_take ds hi hsel hf hr hc hQ hy hS (ha ▸ h)
theorem kP {i m : Nat} {g : Array Bool} {K : Act → World → Prop} (hK : Shut (∀ a w, (i ≠ st → S w) → lateT P md ops Q S st m g a w → K a w)) {a a' : Act} {w : World} (hS : i ≠ st → S w) (h : lateT P md ops Q S st m g a' w) (ha : a = a' := by first | (simp only [Act.put, sA, sB, sC]; rfl) | simp only [Act.put, sA, sB, sC] | rfl) : K a w := hK.out _ _ hS (ha ▸ h)
theorem lateT_two {i j : Nat} {o o' : Oper} {m : Nat} {got : Array Bool} {a : Act} {w : World} (hr : Region.ready md ops got = [i, j]) (ho : ops[i]? = some o) (ho' : ops[j]? = some o')
  (h : ∀ K : Act → World → Prop, Shut (∀ a w, (i ≠ st → S w) → lateT P md ops Q S st m (got.setIfInBounds i true) a w → K a w) → if Region.wanted o (yielded ops a.tmps) = true then Oper.wp P o a w K Q else K (a.put o.dst undef) w)
  (h' : ∀ K : Act → World → Prop, Shut (∀ a w, (j ≠ st → S w) → lateT P md ops Q S st m (got.setIfInBounds j true) a w → K a w) → if Region.wanted o' (yielded ops a.tmps) = true then Oper.wp P o' a w K Q else K (a.put o'.dst undef) w) : lateT P md ops Q S st (m + 1) got a w := by
 refine ⟨fun h0 => (by rw [hr] at h0; cases h0), fun k hk => ?_⟩;rw [hr] at hk
 rcases List.mem_cons.1 hk with rfl | hk
 ·exact wpOp_step ho fun K hK => h K fun a w hS hl => hK a w ⟨hS, hl⟩
 ·obtain rfl := List.mem_singleton.1 hk
  exact wpOp_step ho' fun K hK => h' K fun a w hS hl => hK a w ⟨hS, hl⟩
theorem lateT_done {got : Array Bool} {a : Act} {w : World} (hr : Region.ready md ops got = []) (h : Q .normal a w) : ∀ m, lateT P md ops Q S st m got a w
 | 0 => ⟨hr, h⟩
 | _ + 1 => ⟨fun _ => h, by rw [hr]; simp⟩
theorem lateT_begin {id : Nat} {a : Act} {w : World} (hm : P.follows .mixedOrders = true) (h : lateT P .any ops Q S st ops.size (Array.replicate ops.size false) a w.drew) : (Code.region id ops true).wp P Q a w :=
 wp_region_any hm (lateT.any _ _ _ _ h)
end
end Go.Proofs.YtnhomkmfbngmgaaGreatDoor
