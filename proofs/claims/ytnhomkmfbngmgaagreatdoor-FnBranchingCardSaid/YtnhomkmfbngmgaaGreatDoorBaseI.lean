/-
  Several texts in one:
  areAlike with strong, AreBisimilar. Conditions: sizes.
  slices.DeleteFunc on a list of numbers, at a test that
  Reachable states, by the reference and by the program.
  Reachable states, by the program; BlockingStates, by both.
  Where a number lies in a list, and whether it does, by the
  A box and a clone of labels in any order; a system that grows
  (Lts).part: the part of a system over some of its states.
  slices.Max at []int64, impl.blockCount, impl.tidy.
-/
import Derived.Test.YtnhomkmfbngmgaaGreatDoorBaseE
import Derived.Test.YtnhomkmfbngmgaaGreatDoorBaseG
import Derived.Test.YtnhomkmfbngmgaaGreatDoorBaseH
import Derived.Lib.SliceRun
import Derived.StillTailTactics
import Derived.Deep.LoopGhost
set_option linter.unusedSimpArgs false
set_option linter.unusedVariables false
namespace Go.Proofs.YtnhomkmfbngmgaaGreatDoor
open Go.ChangeShapes Go.WideShapes Go.ChangeAt Go.RowKit Go.Sort Go.Lib
set_option linter.unusedVariables false
set_option linter.unusedSimpArgs false

structure TwoS (w wr : World) (Na ia : Nat) (A : Option Addr) (n c : Nat) (B : Option Addr) (m d : Nat) (Nb ib : Nat) (A' : Option Addr) (n' c' : Nat) (B' : Option Addr) (m' d' : Nat) : Prop where
 boxa : LtsBox wr w.heap.size (Na : Int) (ia : Int) A n c B m d
 boxb : LtsBox wr (w.heap.size + 1) (Nb : Int) (ib : Int) A' n' c' B' m' d'
 bel : Below w.heap.size w wr
def TwoC (w w' : World) (Na ia : Nat) (A : Option Addr) (n c : Nat) (B : Option Addr) (m d : Nat) (Nb ib : Nat) (A' : Option Addr) (n' c' : Nat) (B' : Option Addr) (m' d' : Nat) : Prop :=
 w'.cell? ⟨w.heap.size, 0, none⟩ = some (.int .i64 (Na : Int)) ∧ w'.cell? ⟨w.heap.size, 1, none⟩ = some (.int .i64 (ia : Int)) ∧ w'.cell? ⟨w.heap.size, 2, none⟩ = some (.slice A n c) ∧ w'.cell? ⟨w.heap.size, 3, none⟩ = some (.slice B m d) ∧
 w'.cell? ⟨w.heap.size + 1, 0, none⟩ = some (.int .i64 (Nb : Int)) ∧ w'.cell? ⟨w.heap.size + 1, 1, none⟩ = some (.int .i64 (ib : Int)) ∧ w'.cell? ⟨w.heap.size + 1, 2, none⟩ = some (.slice A' n' c') ∧ w'.cell? ⟨w.heap.size + 1, 3, none⟩ = some (.slice B' m' d')
section
variable {w wr w2 : World} {Na ia : Nat} {A : Option Addr} {n c : Nat} {B : Option Addr} {m d : Nat} {Nb ib : Nat} {A' : Option Addr} {n' c' : Nat} {B' : Option Addr} {m' d' : Nat}
theorem TwoS.below (h : TwoS w wr Na ia A n c B m d Nb ib A' n' c' B' m' d') {K : Nat} (hb : Below K wr w2) (hK : wr.heap.size ≤ K) : TwoS w w2 Na ia A n c B m d Nb ib A' n' c' B' m' d' := by
 have := h.boxa.lt
 have := h.boxb.lt
 exact ⟨h.boxa.below hb (by omega), h.boxb.below hb (by omega), h.bel.trans (hb.mono (by omega))⟩
theorem TwoS.cells (h : TwoS w wr Na ia A n c B m d Nb ib A' n' c' B' m' d') : TwoC w wr Na ia A n c B m d Nb ib A' n' c' B' m' d' :=
 ⟨h.boxa.c0, h.boxa.c1, h.boxa.c2, h.boxa.c3, h.boxb.c0, h.boxb.c1, h.boxb.c2, h.boxb.c3⟩
theorem TwoS.start (w : World) (Na ia : Nat) (A : Option Addr) (n c : Nat) (B : Option Addr) (m d : Nat) (Nb ib : Nat) (A' : Option Addr) (n' c' : Nat) (B' : Option Addr) (m' d' : Nat) :
  TwoS w ((w.alloc (ltsC Na ia A n c B m d)).alloc (ltsC Nb ib A' n' c' B' m' d')) Na ia A n c B m d Nb ib A' n' c' B' m' d' := by
 have z1 : (w.alloc (ltsC Na ia A n c B m d)).heap.size = w.heap.size + 1 := World.size_alloc _ _
 have b1 := (Below.refl (w.heap.size + 1) (w.alloc (ltsC Na ia A n c B m d))).alloc (by omega) (ltsC Nb ib A' n' c' B' m' d')
 have x1 : LtsBox (w.alloc (ltsC Na ia A n c B m d)) w.heap.size (Na : Int) (ia : Int) A n c B m d := heap_alloc_new w _
 have x2 : LtsBox ((w.alloc (ltsC Na ia A n c B m d)).alloc (ltsC Nb ib A' n' c' B' m' d')) (w.heap.size + 1) (Nb : Int) (ib : Int) A' n' c' B' m' d' := by rw [← z1]; exact heap_alloc_new _ _
 exact ⟨x1.below b1 (by omega), x2, ((Below.refl w.heap.size w).alloc (Nat.le_refl _) _).trans (b1.mono (by omega))⟩
end
set_option maxRecDepth 100000 in
set_option maxHeartbeats 1600000 in
theorem initialTogether_calls (Na ia : Nat) (A : Option Addr) (n c : Nat) (B : Option Addr) (m d : Nat) (Nb ib : Nat) (A' : Option Addr) (n' c' : Nat) (B' : Option Addr) (m' d' : Nat) (P : Option Addr) (cP : Nat) (p : List Int) (w : World) (lo hi : Nat) (hP : SlI w lo hi P (Na + Nb) p) (hia : ia < Na) (hib : ib < Nb) (hNa : Na ≤ 40) (hNb : Nb ≤ 40) :
  Calls Tryz.prog 136 #[.agg #[.int .i64 (Na : Int), .int .i64 (ia : Int), .slice A n c, .slice B m d], .agg #[.int .i64 (Nb : Int), .int .i64 (ib : Int), .slice A' n' c', .slice B' m' d'], .slice P (Na + Nb) cP] w (Says (decide (p[ia]? = p[Na + ib]?)) w) := by
 have hT := TwoS.start w Na ia A n c B m d Nb ib A' n' c' B' m' d'
 obtain ⟨w1, hw1⟩ : ∃ w1, w1 = (w.alloc (ltsC Na ia A n c B m d)).alloc (ltsC Nb ib A' n' c' B' m' d') := ⟨_, rfl⟩
 rw [← hw1] at hT
 obtain ⟨g, o, x, rfl, -, -, hg, hx, cx, -⟩ := SlI.get hP (show ia < Na + Nb by omega)
 obtain ⟨g2, o2, y, e2, -, -, hg2, hy, cy, -⟩ := SlI.get hP (show Na + ib < Na + Nb by omega)
 cases e2
 replace cx := (hT.bel.cell (p := ⟨g, o + ia, none⟩) hg).trans cx
 replace cy := (hT.bel.cell (p := ⟨g, o + (Na + ib), none⟩) hg).trans cy
 obtain ⟨a0, a1, a2, a3, b0, b1, b2, b3⟩ := hT.cells
 have hsum : IntKind.i64.wrap ((Na : Int) + (ib : Int)) = (Na : Int) + (ib : Int) := IntWalk.i64_in _ (by omega)
 have hsum2 : ((Na : Int) + (ib : Int)).toNat = Na + ib := by omega
 have i0 : (0 : Int) ≤ (ia : Int) := by omega
 have i1 : (ia : Int) < ((Na + Nb : Nat) : Int) := by omega
 have j0 : (0 : Int) ≤ (Na : Int) + (ib : Int) := by omega
 have j1 : (Na : Int) + (ib : Int) < ((Na + Nb : Nat) : Int) := by omega
 have hv : decide (p[ia]? = p[Na + ib]?) = (x == y) := by rw [hx, hy]; by_cases e : x = y <;> simp [e]
 rw [hv]
 have hbel := hide hT.bel
 clear hT hP hx hy hv
 by_cases e : x = y
 ·subst e
  have g1 : (x == x) = true := by simp
  rw [g1]
  go_enter Tryz.func136, Tryz.ntmps136
  go_upto_region 1 with fail
  rw [show ((w.alloc (.cells #[.int .i64 (Na : Int), .int .i64 (ia : Int), .slice A n c, .slice B m d] 27)).alloc (.cells #[.int .i64 (Nb : Int), .int .i64 (ib : Int), .slice A' n' c', .slice B' m' d'] 27)) = w1 from hw1.symm]
  replace hw1 := hide hw1
  go_quiet (fail)
  go_wp2_with fail
  go_ret
  exact ⟨rfl, hbel.out.trans ((below_drewN _ _).mono hbel.out.size)⟩
 ·have g1 : (x == y) = false := by rw [beq_eq_false_iff_ne]; exact e
  rw [g1]
  go_enter Tryz.func136, Tryz.ntmps136
  go_upto_region 1 with fail
  rw [show ((w.alloc (.cells #[.int .i64 (Na : Int), .int .i64 (ia : Int), .slice A n c, .slice B m d] 27)).alloc (.cells #[.int .i64 (Nb : Int), .int .i64 (ib : Int), .slice A' n' c', .slice B' m' d'] 27)) = w1 from hw1.symm]
  replace hw1 := hide hw1
  go_quiet (fail)
  go_wp2_with fail
  go_ret
  exact ⟨rfl, hbel.out.trans ((below_drewN _ _).mono hbel.out.size)⟩
section
variable {w : World} {Na ia : Nat} {A : Option Addr} {n : Nat} {B : Option Addr} {m : Nat} {la : List ByteArray} {ea : List Ed} {Nb ib : Nat} {A' : Option Addr} {n' : Nat} {B' : Option Addr} {m' : Nat} {lb : List ByteArray} {eb : List Ed}
theorem SysA.three (h : SysA w Na ia A n B m la ea) : ∀ e, e ∈ ea → (0 ≤ e.1 ∧ e.1 < (Na : Int)) ∧ (0 ≤ e.2.1 ∧ e.2.1 < (la.length : Int)) ∧ (0 ≤ e.2.2 ∧ e.2.2 < (Na : Int)) := fun e he => ⟨(h.ends e he).1, h.labs e he, (h.ends e he).2⟩
end
end Go.Proofs.YtnhomkmfbngmgaaGreatDoor

namespace Go.Proofs.YtnhomkmfbngmgaaGreatDoor
open Go.ChangeShapes Go.WideShapes Go.ChangeAt Go.RowKit
set_option linter.unusedVariables false

theorem below_cells {B b : Nat} {a : World} (hb : B ≤ b) : ∀ (vs : List Value) (o : Nat) (w : World), Below B a w → Below B a (w.setCells b o vs)
 | [], _, _, h => h
 | v :: r, o, w, h => below_cells hb r (o + 1) _ (h.setCell hb v)
theorem size_cells (b : Nat) : ∀ (vs : List Value) (o : Nat) (w : World), (w.setCells b o vs).heap.size = w.heap.size
 | [], _, _ => rfl
 | v :: r, o, w => (size_cells b r (o + 1) _).trans (World.size_setCell _ _ _)

theorem filter_step {q : Int → Bool} {l : List Int} {k : Nat} {x : Int} (hx : l[k]? = some x) : (l.take (k + 1)).filter q = (l.take k).filter q ++ if q x then [x] else [] := by
 rw [List.take_add_one, hx, List.filter_append]
 cases h : q x <;> simp [h]

def firstI (G : Int → Bool) (l : List Int) (i : Int) : Prop := (i = -1 ∧ l.any G = false) ∨ ∃ k : Nat, i = k ∧ k < l.length ∧ (l.take k).any G = false ∧ ∃ x, l[k]? = some x ∧ G x = true

set_option maxRecDepth 100000 in
theorem indexFuncI2_calls (F : FuncId) (caps : Array Value) (G : Int → Bool) (A : Option Addr) (n c : Nat) (l : List Int) (w : World) (lo hi : Nat) (h : SlI w lo hi A n l) (hn : n ≤ 1048576)
  (hF : ∀ (v : Value) (W : World), Sem.run Tryz.prog (callFunc F (#[v] ++ caps)) W = .ok (.enter F (#[v] ++ caps)) W)
  (hcl : ∀ (v : Int) (W : World), v ∈ l → Below w.heap.size w W → Calls Tryz.prog F (#[.int .i64 v] ++ caps) W (Says (G v) W)) :
  Calls Tryz.prog 222 #[.slice A n c, .func (.func F) #[] caps] w fun e w' => ∃ i : Int, e = .returned (.int .i64 i) ∧ firstI G l i ∧ Below w.heap.size w w' := by
 have hlen := hide h.len
 replace hcl := hide hcl
 go_enter Tryz.func222, Tryz.ntmps222
 go_wp2
 go_loopw [8] (fun i wr => ∃ k : Nat, k ≤ n ∧ i = .int .i64 k ∧ Below w.heap.size w wr ∧ Hid ((l.take k).any G = false)) (fun i _ => n - (intOf i).toNat)
 case atStart => exact ⟨0, Nat.zero_le _, rfl, Below.refl _ _, rfl⟩
 case round =>
  obtain ⟨k, hk, rfl, hb, ha⟩ := hrel
  by_cases hlt : k < n
  ·obtain ⟨b, off, x, rfl, g1, g2, g3, hx, c0, -⟩ := h.get hlt
   replace c0 := (hb.cell (p := ⟨b, off + k, none⟩) g3).trans c0
   have hc := hcl.out x wr (List.mem_of_getElem? hx) hb
   replace hx := hide hx
   clear h hcl
   by_cases hg : G x = true
   ·rw [hg] at hc
    replace hc := hide hc
    have hy : Hid (firstI G l k) := .inr ⟨k, rfl, by rw [hlen.out]; exact hlt, ha.out, x, hx.out, hg⟩
    clear hg
    go_wp2_with fail
    refine hc.out.mono ?_
    rintro e w1 ⟨rfl, hb1⟩
    go_wp2_with fail
    go_ret
    exact ⟨_, rfl, hy.out, hb.trans (hb1.mono hb.size)⟩
   ·replace hg := Bool.eq_false_iff.2 hg
    rw [hg] at hc
    replace hc := hide hc
    have hy := hide (any_take_succ ha.out hx.out hg)
    clear hg
    go_wp2_with fail
    refine hc.out.mono ?_
    rintro e w1 ⟨rfl, hb1⟩
    go_wp2_with fail
    go_roundw
    case rel => exact ⟨k + 1, by omega, by go_num, hb.trans (hb1.mono hb.size), hy⟩
    case measure => simp [intOf]; omega
  ·have hkn : k = n := by omega
   subst hkn
   clear hcl h
   go_wp2
   go_ret
   have hy := ha.out
   rw [List.take_of_length_le (by rw [hlen.out]; exact Nat.le_refl _)] at hy
   exact ⟨_, rfl, .inl ⟨rfl, hy⟩, hb⟩

structure DelI (G : Int → Bool) (l M : List Int) (k i : Nat) : Prop where
 len : M.length = l.length
 cnt : i = ((l.take k).filter fun x => !G x).length
 lt : i < k
 kept : M.take i = (l.take k).filter fun x => !G x
 later : ∀ q, k ≤ q → M[q]? = l[q]?
theorem DelI.start {G : Int → Bool} {l : List Int} {k : Nat} {x : Int} (hk : k < l.length) (ha : (l.take k).any G = false) (hx : l[k]? = some x) (hg : G x = true) : DelI G l l (k + 1) k := by
 have h1 : (l.take (k + 1)).filter (fun x => !G x) = l.take k := by
  rw [filter_step hx, hg]
  simp only [Bool.not_true, Bool.false_eq_true, if_false, List.append_nil]
  exact List.filter_eq_self.2 fun y hy => by rw [Bool.not_eq_true']; exact Bool.eq_false_iff.2 fun c => by rw [List.any_eq_false] at ha; exact ha y hy c
 exact ⟨rfl, by rw [h1, List.length_take]; omega, Nat.lt_succ_self _, by rw [h1], fun _ _ => rfl⟩
theorem DelI.skip {G : Int → Bool} {l M : List Int} {k i : Nat} {x : Int} (h : DelI G l M k i) (hx : l[k]? = some x) (hg : G x = true) : DelI G l M (k + 1) i := by
 have h1 : (l.take (k + 1)).filter (fun x => !G x) = (l.take k).filter (fun x => !G x) := by rw [filter_step hx, hg]; simp
 exact ⟨h.len, by rw [h1]; exact h.cnt, by have := h.lt; omega, by rw [h1]; exact h.kept, fun q hq => h.later q (by omega)⟩
theorem DelI.put {G : Int → Bool} {l M : List Int} {k i : Nat} {x : Int} (h : DelI G l M k i) (hx : l[k]? = some x) (hg : G x = false) : DelI G l (M.set i x) (k + 1) (i + 1) := by
 have h1 : (l.take (k + 1)).filter (fun x => !G x) = (l.take k).filter (fun x => !G x) ++ [x] := by rw [filter_step hx, hg]; simp
 have hk : k < l.length := (List.getElem?_eq_some_iff.1 hx).1
 have hil : i < M.length := by rw [h.len]; have := h.lt; omega
 refine ⟨by rw [List.length_set]; exact h.len, by rw [h1, List.length_append, ← h.cnt]; rfl, by have := h.lt; omega, ?_, fun q hq => ?_⟩
 ·rw [List.take_add_one, List.getElem?_set_self hil, h1, ← h.kept, List.take_set_of_le (Nat.le_refl _)]
  rfl
 ·rw [List.getElem?_set_ne (by have := h.lt; omega)]
  exact h.later q (by omega)

theorem zero_int (w : World) : (zeroValue 2).run Tryz.prog w = .ok (.int .i64 0) w := by
 obtain ⟨i0, hi0, hz0, _⟩ := info_parts info_int64
 simp [zeroValue, typeInfo, hi0, hz0]


set_option maxHeartbeats 1600000 in
set_option maxRecDepth 100000 in
theorem deleteFuncI_calls (F : FuncId) (caps : Array Value) (G : Int → Bool) (A : Option Addr) (n c : Nat) (l : List Int) (w : World) (lo : Nat) (h : SlI w lo w.heap.size A n l) (hc : n ≤ c) (hn : n ≤ 1048576) (hlo : lo ≤ w.heap.size)
  (hF : ∀ (v : Value) (W : World), Sem.run Tryz.prog (callFunc F (#[v] ++ caps)) W = .ok (.enter F (#[v] ++ caps)) W)
  (hcl : ∀ (v : Int) (W : World), v ∈ l → Below lo w W → Calls Tryz.prog F (#[.int .i64 v] ++ caps) W (Says (G v) W)) :
  Calls Tryz.prog 126 #[.slice A n c, .func (.func F) #[] caps] w fun e w' => ∃ m c', e = .returned (.slice A m c') ∧ m ≤ n ∧ m ≤ c' ∧ SlI w' lo w'.heap.size A m (l.filter fun x => !G x) ∧ Below lo w w' := by
 have hlen := hide h.len
 have q := hide (indexFuncI2_calls F caps G A n c l w lo _ h hn hF (fun v W hv hW => hcl v W hv (hW.mono hlo)))
 replace h := hide h
 replace hcl := hide hcl
 go_enter Tryz.func126, Tryz.ntmps126
 go_wp2_with fail
 refine q.out.mono ?_
 rintro e w1 ⟨i, rfl, hfi, hb1⟩
 have hbl := hb1.mono hlo
 have h1 := hide ((h.out.below hb1 (.inr (Nat.le_refl _))).top)
 clear q
 rcases hfi with ⟨rfl, hno⟩ | ⟨k0, rfl, hk0, hno, x0, hx0, hg0⟩
 ·have hfl : Hid (l.filter (fun x => !G x) = l) := List.filter_eq_self.2 fun y hy => by rw [Bool.not_eq_true']; exact Bool.eq_false_iff.2 fun c => by rw [List.any_eq_false] at hno; exact hno y hy c
  clear hcl h hno
  go_wp2_with fail
  go_ret
  exact ⟨n, _, rfl, Nat.le_refl _, hc, by rw [hfl.out]; exact h1.out, hbl⟩
 ·rw [hlen.out] at hk0
  obtain ⟨b, off, y0, rfl, g1, g2, g3, -⟩ := h.out.get hk0
  have hst := hide (DelI.start (by rw [hlen.out]; exact hk0) hno hx0 hg0)
  have hne : ((k0 : Int) == -1) = false := by rw [beq_eq_false_iff_ne]; omega
  clear hno hx0 hg0 h
  go_wp2_with fail
  go_loopw [5, 6] (fun iv' jv wr => ∃ (k i : Nat) (M : List Int), k ≤ n ∧ jv = .int .i64 k ∧ iv' = .int .i64 i ∧ Hid (DelI G l M k i) ∧ Hid (SlI wr lo wr.heap.size (some ⟨b, off, none⟩) n M) ∧ Hid (Below lo w wr)) (fun _ jv _ => n - (intOf jv).toNat)
  case atStart => exact ⟨k0 + 1, k0, l, by omega, by go_num, rfl, hst, h1, hbl⟩
  case round =>
   obtain ⟨k, i, M, hk, rfl, rfl, hD, hM, hb⟩ := hrel
   clear h1 hst
   have hik := hD.out.lt
   by_cases hlt : k < n
   ·obtain ⟨b', o', x, e', -, -, g3', hx, c0, -⟩ := hM.out.get hlt
    cases e'
    rw [hD.out.later k (Nat.le_refl _)] at hx
    have hcx := hcl.out x wr (List.mem_of_getElem? hx) hb.out
    have hzw := hb.out.size
    by_cases hg : G x = true
    ·rw [hg] at hcx
     replace hcx := hide hcx
     have hD2 := hide (hD.out.skip hx hg)
     clear hcl hx hg
     go_wp2_with fail
     refine hcx.out.mono ?_
     rintro e w2 ⟨rfl, hb2⟩
     have hM2 := hide ((hM.out.below hb2 (.inr (Nat.le_refl _))).top)
     have hb3 := hide (hb.out.trans (hb2.mono (Nat.le_trans hlo hzw)))
     clear hb2 c0
     go_wp2_with fail
     go_roundw
     case rel => exact ⟨k + 1, i, M, by omega, by go_num, rfl, hD2, hM2, hb3⟩
     case measure => simp [intOf]; omega
    ·replace hg := Bool.eq_false_iff.2 hg
     rw [hg] at hcx
     replace hcx := hide hcx
     have hD2 := hide (hD.out.put hx hg)
     clear hcl hx hg
     go_wp2_with fail
     refine hcx.out.mono ?_
     rintro e w2 ⟨rfl, hb2⟩
     have hM2 := (hM.out.below hb2 (.inr (Nat.le_refl _))).top
     have hM3 := hide (SlI.put' hM2 (show i < n by omega) x)
     obtain ⟨b', o', xx, e', -, -, -, -, d0, z0⟩ := SlI.get hM2 (show i < n by omega)
     cases e'
     have hb3 := hide ((hb.out.trans (hb2.mono (Nat.le_trans hlo hzw))).setCell (p := ⟨b, off + i, none⟩) g1 (.int .i64 x))
     clear hb2 c0 hM2
     have i1 : (0 : Int) ≤ (i : Int) := by omega
     have i2 : (i : Int) < (n : Int) := by omega
     go_wp2_with fail
     go_roundw
     case rel => exact ⟨k + 1, i + 1, _, by omega, by go_num, by go_num, hD2, by show SlI _ _ _ _ _ _; rw [World.size_setCell]; exact hM3.out, hb3⟩
     case measure => simp [intOf]; omega
   ·have hkn : k = n := by omega
    subst hkn
    clear hcl
    have hkept := hD.out.kept
    have hcnt := hD.out.cnt
    have htk : l.take k = l := List.take_of_length_le (by rw [hlen.out]; exact Nat.le_refl _)
    rw [htk] at hkept hcnt
    have hcut : ∀ W : World, (Instr.slice 32 (.slice (some ⟨b, off, none⟩) k c) (some (.int .i64 (i : Int))) none none).run Tryz.prog W = .ok (.slice (some ⟨b, off + i, none⟩) (k - i) (c - i)) W := fun W => by
     rw [run_cut elem_int64 (some ⟨b, off, none⟩) k c i (by omega) W]
     unfold cutA
     rw [if_neg (by omega), Option.map_some, addr_add, Nat.mul_one]
    have hhead : ∀ W : World, (Instr.slice 32 (.slice (some ⟨b, off, none⟩) k c) none (some (.int .i64 (i : Int))) none).run Tryz.prog W = .ok (.slice (some ⟨b, off, none⟩) i c) W := fun W => run_head elem_int64 (some ⟨b, off, none⟩) k c i (by omega) W
    have hcl : ∀ ty : TypeId, (Builtin.clear_ #[32] ty #[.slice (some ⟨b, off + i, none⟩) (k - i) (c - i)]).run Tryz.prog wr = .ok (.tuple #[]) (wr.setCells b (off + i) (List.replicate (k - i) (.int .i64 0))) := fun ty =>
     Lib.run_clear_slice wr 32 2 ty (.int .i64 0) Tryz.underlying32 zero_int rfl rfl b (off + i) (k - i) (c - i) (by omega) (fun j hj => by
      obtain ⟨b', o', xx, e', -, -, -, -, d0, -⟩ := hM.out.get (show i + j < k by omega)
      cases e'
      rw [show off + i + j = off + (i + j) by omega, d0]; rfl) (fun j hj => by
      obtain ⟨b', o', xx, e', -, -, -, -, -, z0⟩ := hM.out.get (show i + j < k by omega)
      cases e'
      rw [show off + i + j = off + (i + j) by omega]; exact z0)
    have hres : Hid (SlI (wr.setCells b (off + i) (List.replicate (k - i) (.int .i64 0))) lo (wr.setCells b (off + i) (List.replicate (k - i) (.int .i64 0))).heap.size (some ⟨b, off, none⟩) i (l.filter fun x => !G x)) := by
     refine ⟨hcnt.symm, fun hi0 => ?_⟩
     obtain ⟨b', o', e', q1, q2, q3, q4⟩ := hM.out.at_ (show 0 < k by omega)
     cases e'
     refine ⟨b, off, rfl, q1, by rw [size_cells]; exact q3, by rw [size_cells]; exact q3, fun j x hx u v hv => ?_⟩
     rw [← hkept, List.getElem?_take] at hx
     split at hx
     ·obtain ⟨r1, r2⟩ := q4 j x hx u v hv
      have hu : u = 0 := by
       have := (List.getElem?_eq_some_iff.1 hv).1
       simp [iv] at this
       exact this
      subst hu
      exact ⟨(World.cell?_setCells_out b _ _ _ _ (fun _ _ => by left; show off + (j * 1 + 0) < off + i; omega)).trans r1, (World.frozen?_setCells b _ _ _ _).trans r2⟩
     ·cases hx
    have hbF : Hid (Below lo w (wr.setCells b (off + i) (List.replicate (k - i) (.int .i64 0)))) := below_cells g1 _ _ _ hb.out
    clear hkept hcnt
    go_wp2_with fail
    go_ret
    exact ⟨i, _, rfl, by omega, by omega, hres.out, hbF.out⟩

end Go.Proofs.YtnhomkmfbngmgaaGreatDoor

namespace Go.Proofs.YtnhomkmfbngmgaaGreatDoor
open Go.ChangeShapes Go.WideShapes Go.ChangeAt Go.RowKit Go.Sort
set_option linter.unusedVariables false
set_option linter.unusedSimpArgs false

def numBR (s : List Bool) : Nat := (s.filter id).length
theorem numBR_le (s : List Bool) : numBR s ≤ s.length := List.length_filter_le _ _
theorem numBR_set {s : List Bool} : ∀ {v : Nat}, v < s.length → inS s v = false → numBR (s.set v true) = numBR s + 1 := by
 induction s with
 | nil => intro v h; simp at h
 | cons b s ih =>
  intro v hv h
  cases v with
  | zero =>
   have hb : b = false := by simpa [inS] using h
   subst hb
   simp [numBR]
  | succ v =>
   have h1 := ih (v := v) (by simpa using hv) (by simpa [inS] using h)
   unfold numBR at h1 ⊢
   cases b <;> simp [List.filter_cons] at h1 ⊢ <;> omega


def ReachE (es : List Ed) (ini : Int) (k : Nat) : Prop := ∃ m, lay (srcE [ini]) (arcE true es) m k
noncomputable def reachB (es : List Ed) (ini : Int) (k : Nat) : Bool := open Classical in decide (ReachE es ini k)
theorem reachB_true {es : List Ed} {ini : Int} {k : Nat} : reachB es ini k = true ↔ ReachE es ini k := by
 unfold reachB
 simp
noncomputable def reachF (N : Nat) (es : List Ed) (ini : Int) : List Int := ((List.range N).filter (reachB es ini)).map Int.ofNat
theorem ReachE.step {es : List Ed} {ini : Int} {a k : Nat} (h : ReachE es ini a) (ha : arcE true es a k) : ReachE es ini k := by
 obtain ⟨m, hm⟩ := h
 exact ⟨m + 1, .inr ⟨a, hm, ha⟩⟩
theorem SlB.cell' {w : World} {lo hi n b off : Nat} {l : List Bool} (h : SlB w lo hi (some ⟨b, off, none⟩) n l) {k : Nat} (hk : k < n) : w.cell? ⟨b, off + k, none⟩ = some (.bool (inS l k)) ∧ w.frozen? ⟨b, off + k, none⟩ = false ∧ lo ≤ b ∧ b < hi ∧ b < w.heap.size := by
 obtain ⟨b', off', e, g1, g2, g3, -, h1, h2⟩ := h.get hk
 cases e
 exact ⟨h1, h2, g1, g2, g3⟩

end Go.Proofs.YtnhomkmfbngmgaaGreatDoor

namespace Go.Proofs.YtnhomkmfbngmgaaGreatDoor
open Go.ChangeShapes Go.WideShapes Go.ChangeAt Go.RowKit Go.Sort
set_option linter.unusedVariables false
set_option linter.unusedSimpArgs false

theorem range_succ_int (k : Nat) : (List.range (k + 1)).map Int.ofNat = (List.range k).map Int.ofNat ++ [(k : Int)] := by
 rw [List.range_succ, List.map_append]
 rfl
set_option maxRecDepth 100000 in
theorem upTo_calls (N : Nat) (hN : N ≤ 1048000) (w : World) :
  Calls Tryz.prog 127 #[.int .i64 (N : Int)] w fun e w' => ∃ A c, e = .returned (.slice A N c) ∧ Own 1 iv w' w.heap.size 2 A N c ((List.range N).map Int.ofNat) ∧ Below w.heap.size w w' := by
 have hE := hide elem_int64
 go_enter Tryz.func127, Tryz.ntmps127
 go_wp2
 go_loopw [3, 6] (fun v i wr => ∃ (k : Nat) (A : Option Addr) (c : Nat), k ≤ N ∧ i = .int .i64 (k : Nat) ∧ v = .slice A k c ∧ Hid (Own 1 iv wr w.heap.size 2 A k c ((List.range k).map Int.ofNat)) ∧ Below w.heap.size w wr) (fun _ i _ => N - (intOf i).toNat)
 case atStart => exact ⟨0, none, 0, Nat.zero_le _, rfl, rfl, Own.nil_ _ _ _, Below.refl _ _⟩
 case round =>
  obtain ⟨k, A, c, hk, rfl, rfl, hown, hb⟩ := hrel
  by_cases hlt : k < N
  ·have hz := hb.size
   have hza : ∀ o, w.heap.size ≤ (wr.alloc o).heap.size := fun o => by rw [World.size_alloc]; omega
   have hst := hide (range_succ_int k)
   replace hb := hide hb
   go_wp2_with (first | (at_builtin; (with_reducible refine wpList_app rfl (.tmp 9) (.tmp 11) rfl hE.out flat_iv rfl (hown.out.alloc _) rfl (Sl.lit1' wr 2 (k : Int) _ rfl 1 _ ?c0) ?c1 (hza _) ?_); rotate_right; intro A5 c5 w5 hown5 hgr5 hb5 _))
   case c0 => rfl
   case c1 => omega
   have hb6 := hide ((hb.out.alloc hz (.cells #[.int .i64 (k : Int)] 2)).trans hb5)
   go_roundw
   case rel => exact ⟨k + 1, A5, c5, by omega, by go_num, rfl, by rw [hst.out]; exact hown5, hb6.out⟩
   case measure => simp [intOf]; omega
  ·have hkn : k = N := by omega
   subst hkn
   replace hb := hide hb
   go_wp2
   go_ret
   exact ⟨A, c, rfl, hown.out, hb.out⟩

def atI (l : List Int) (v : Int) : Int := (l[v.toNat]?).getD 0
theorem atI_get {l : List Int} {k : Nat} {x : Int} (h : l[k]? = some x) : atI l (k : Int) = x := by
 unfold atI
 rw [Int.toNat_natCast, h]
 rfl
theorem dist_reach {N : Nat} {es : List Ed} {ini : Int} {far : List Int} (h : DistIs (srcE [ini]) (arcE true es) N far) {k : Nat} (hk : k < N) : (!(decide (atI far (k : Int) < 0))) = reachB es ini k := by
 have hx : far[k]? = some (far[k]'(by rw [h.1]; exact hk)) := List.getElem?_eq_getElem _
 rw [atI_get hx]
 generalize far[k]'(by rw [h.1]; exact hk) = x at *
 obtain ⟨h1, h2⟩ := h.2 k x hx
 by_cases h0 : x < 0
 ·rw [decide_eq_true h0]
  cases e : reachB es ini k with
  | false => rfl
  | true =>
   obtain ⟨m, hm⟩ := reachB_true.1 e
   exact absurd hm ((h2 h0).2 m)
 ·rw [decide_eq_false h0]
  exact (reachB_true.2 ⟨_, (h1 (by omega)).1⟩).symm
theorem filter_reach {N : Nat} {es : List Ed} {ini : Int} {far : List Int} (h : DistIs (srcE [ini]) (arcE true es) N far) : (((List.range N).map Int.ofNat).filter fun v => !(decide (atI far v < 0))) = reachF N es ini := by
 unfold reachF
 rw [List.filter_map]
 congr 1
 apply List.filter_congr
 intro k hk
 exact dist_reach h (List.mem_range.1 hk)

theorem reach1_calls (b : Nat) (A : Option Addr) (n c : Nat) (far : List Int) (v : Int) (W : World) (lo hi : Nat) (hb : W.cell? ⟨b, 0, none⟩ = some (.slice A n c)) (h : SlI W lo hi A n far) (h0 : 0 ≤ v) (h1 : v < (n : Int)) :
  Calls Tryz.prog 128 (#[.int .i64 v] ++ #[.pointer (some ⟨b, 0, none⟩)]) W (Says (decide (atI far v < 0)) W) := by
 obtain ⟨b', off, x, rfl, -, -, -, hx, c0, -⟩ := SlI.get h (show v.toNat < n by omega)
 have hv : Hid (atI far v = x) := by show _ = _; unfold atI; rw [hx]; rfl
 clear hx h
 go_enter Tryz.func128, Tryz.ntmps128
 go_wp2_with fail
 go_ret
 exact ⟨ret_b (by rw [hv.out]), Below.refl _ _⟩
set_option maxRecDepth 100000 in
set_option maxHeartbeats 1600000 in
theorem reachable_calls (N ini : Nat) (v2 : Value) (A3 : Option Addr) (n3 k3 : Nat) (es : List Ed) (w : World) (lo hi : Nat)
  (t3 : SlE w lo hi A3 n3 es) (hes : n3 ≤ 1048576) (hN1 : 1 ≤ N) (hN2 : N ≤ 40) (hini : ini < N) (hv2 : ∃ A n k, v2 = .slice A n k)
  (hedge : ∀ e ∈ es, (0 ≤ e.1 ∧ e.1 < (N : Int)) ∧ (0 ≤ e.2.2 ∧ e.2.2 < (N : Int))) :
  Calls Tryz.prog 58 #[.agg #[.int .i64 (N : Int), .int .i64 (ini : Int), v2, .slice A3 n3 k3]] w fun e w' => ∃ A m c, e = .returned (.slice A m c) ∧ SlI w' w.heap.size w'.heap.size A m (reachF N es (ini : Int)) ∧ m ≤ 40 ∧ m ≤ c ∧ Below w.heap.size w w' := by
 obtain ⟨A2, n2, k2, rfl⟩ := hv2
 have hb0 : Below w.heap.size w (w.alloc (.cells #[.int .i64 (N : Int), .int .i64 (ini : Int), .slice A2 n2 k2, .slice A3 n3 k3] 27)) := (Below.refl _ _).alloc (Nat.le_refl _) _
 have kE := heap_alloc_new w (.cells #[.int .i64 (N : Int), .int .i64 (ini : Int), .slice A2 n2 k2, .slice A3 n3 k3] 27)
 have hz : w.heap.size < (w.alloc (.cells #[.int .i64 (N : Int), .int .i64 (ini : Int), .slice A2 n2 k2, .slice A3 n3 k3] 27)).heap.size := by rw [World.size_alloc]; omega
 replace t3 := t3.below hb0 (.inr (Nat.le_refl _))
 have hz' := Nat.le_of_lt hz
 replace hb0 := hide hb0
 go_enter Tryz.func58, Tryz.ntmps58
 go_upto_region 1 with fail
 generalize (w.alloc (.cells #[.int .i64 (N : Int), .int .i64 (ini : Int), .slice A2 n2 k2, .slice A3 n3 k3] 27)) = W0 at *
 generalize hbm : w.heap.size = bm at *
 have c0 : W0.cell? ⟨bm, 0, none⟩ = some (.int .i64 (N : Int)) := (cell_of_row _ _ 0 _ _ (0, 0) kE).trans rfl
 have c1 : W0.cell? ⟨bm, 1, none⟩ = some (.int .i64 (ini : Int)) := (cell_of_row _ _ 1 _ _ (0, 0) kE).trans rfl
 have c2 : W0.cell? ⟨bm, 2, none⟩ = some (.slice A2 n2 k2) := (cell_of_row _ _ 2 _ _ (0, 0) kE).trans rfl
 have c3 : W0.cell? ⟨bm, 3, none⟩ = some (.slice A3 n3 k3) := (cell_of_row _ _ 3 _ _ (0, 0) kE).trans rfl
 have hbl : Below W0.heap.size W0 (W0.alloc (.cells #[.int .i64 (ini : Int)] 2)) := (Below.refl _ _).alloc (Nat.le_refl _) _
 have q := hide (distancesF_calls N (ini : Int) (.slice A2 n2 k2) A3 n3 k3 (some ⟨W0.heap.size, 0, none⟩) 1 1 es [(ini : Int)] _ lo hi 0 _ (t3.below hbl (.inr (Nat.le_refl _))) (Sl.lit1' W0 2 (ini : Int) _ rfl 1 _ rfl) hes (by omega) hN1 hN2 hedge (fun v hv => by simp at hv; omega))
 have hblz := hbl.size
 replace hbl := hide hbl
 replace kE := hide kE
 clear t3 hedge
 go_wp2_with fail
 refine q.out.mono ?_
 rintro e w1 ⟨Af, cf, rfl, hf, hd, hb1⟩
 have hbA := hbl.out.trans (hb1.mono hblz)
 have hzA := hbA.size
 have hbox : Below w1.heap.size w1 (w1.alloc (.cells #[.slice Af N cf] 32)) := (Below.refl _ _).alloc (Nat.le_refl _) _
 have kB := heap_alloc_new w1 (.cells #[.slice Af N cf] 32)
 have hbB := hbA.trans (hbox.mono hzA)
 have kE2 := (hbB.block _ hz).trans kE.out
 have d0 : (w1.alloc (.cells #[.slice Af N cf] 32)).cell? ⟨bm, 0, none⟩ = some (.int .i64 (N : Int)) := (cell_of_row _ _ 0 _ _ (0, 0) kE2).trans rfl
 have q2 := hide (upTo_calls N (by omega) (w1.alloc (.cells #[.slice Af N cf] 32)))
 have hfB := Sl.below hf hbox (.inr (Nat.le_refl _))
 have hbs : w1.heap.size < (w1.alloc (.cells #[.slice Af N cf] 32)).heap.size := by rw [World.size_alloc]; omega
 have hdr := hide (filter_reach hd)
 replace hbB := hide hbB
 replace kB := hide kB
 clear kE kE2 q hf hbox hbA c0 c1 c2 c3
 go_upto_region 2 with fail
 generalize (w1.alloc (.cells #[.slice Af N cf] 32)) = WB at *
 generalize w1.heap.size = bb at *
 go_wp2_with fail
 refine q2.out.mono ?_
 rintro e w2 ⟨A, c, rfl, hown, hb2⟩
 have hsl := hown.sl flat_iv
 have hcap := hown.cap
 have hmem : ∀ v ∈ (List.range N).map Int.ofNat, 0 ≤ v ∧ v < (N : Int) := fun v hv => by
  obtain ⟨k, hk, rfl⟩ := List.mem_map.1 hv
  have := List.mem_range.1 hk
  exact ⟨Int.natCast_nonneg _, by show (k : Int) < _; omega⟩
 have q3 := hide (deleteFuncI_calls 128 #[.pointer (some ⟨bb, 0, none⟩)] (fun v => decide (atI (distF true N es [(ini : Int)]) v < 0)) A N c _ w2 WB.heap.size hsl hcap (by omega) hb2.size (fun v W => by kernel_rfl) (fun v W hv hW => by
  obtain ⟨h0, h1⟩ := hmem v hv
  have hW2 := hb2.trans hW
  exact reach1_calls bb Af N cf _ v W _ _ ((hW2.cell (p := ⟨bb, 0, none⟩) hbs).trans ((cell_of_row _ _ 0 _ _ (0, 0) kB.out).trans rfl)) (Sl.below hfB hW2 (.inl (by omega))) h0 h1))
 replace hb2 := hide hb2
 clear hsl hmem hown hfB kB d0
 go_wp2_with fail
 refine q3.out.mono ?_
 rintro e w3 ⟨m, c', rfl, hmn, hmc, hres, hb3⟩
 have hbw := hide (hbB.out.trans ((hb2.out.trans hb3).mono hbB.out.size))
 have hres2 := hide hres
 clear hb3 hres
 go_wp2_with fail
 go_ret
 have hr := hres2.out.more (show bm ≤ WB.heap.size by have := hbB.out.size; omega) (Nat.le_refl _)
 rw [hdr.out] at hr
 exact ⟨A, m, c', rfl, by first | exact hr | (rw [hbm]; exact hr), by omega, hmc, by first | exact hb0.out.trans (hbw.out.mono hz') | (rw [hbm]; exact hb0.out.trans (hbw.out.mono hz'))⟩

end Go.Proofs.YtnhomkmfbngmgaaGreatDoor

namespace Go.Proofs.YtnhomkmfbngmgaaGreatDoor
open Go.ChangeShapes Go.WideShapes Go.ChangeAt Go.RowKit
set_option linter.unusedVariables false
set_option linter.unusedSimpArgs false

def FstI (l : List Int) (v i : Int) : Prop := (i = -1 ∧ v ∉ l) ∨ ∃ k : Nat, i = k ∧ k < l.length ∧ l[k]? = some v
set_option maxRecDepth 100000 in
theorem indexX_calls (v : Int) (A : Option Addr) (n c : Nat) (l : List Int) (w : World) (lo hi : Nat) (h : SlI w lo hi A n l) (hn : n ≤ 1048576) :
  Calls Tryz.prog 130 #[.slice A n c, .int .i64 v] w fun e w' => ∃ i : Int, e = .returned (.int .i64 i) ∧ FstI l v i ∧ w = w' := by
 have hlen := hide h.len
 go_enter Tryz.func130, Tryz.ntmps130
 go_wp2
 go_loop [8] (fun i => ∃ k : Nat, k ≤ n ∧ i = .int .i64 k ∧ Hid (v ∉ l.take k)) (fun i => n - (intOf i).toNat)
 case atStart => exact ⟨0, Nat.zero_le _, rfl, by rw [List.take_zero]; exact List.not_mem_nil⟩
 case round =>
  obtain ⟨k, hk, rfl, ha⟩ := hrel
  by_cases hlt : k < n
  ·obtain ⟨b, off, x, rfl, g1, g2, g3, hx, c0, -⟩ := SlI.get h hlt
   clear h
   have hx2 := hide hx
   by_cases hq : x = v
   ·subst hq
    clear hx
    go_wp2
    go_ret
    exact ⟨_, rfl, .inr ⟨k, rfl, (List.getElem?_eq_some_iff.1 hx2.out).1, hx2.out⟩, rfl⟩
   ·have hy : Hid (v ∉ l.take (k + 1)) := by
     show ¬ _
     rw [List.take_add_one, hx, List.mem_append]
     rintro (h1 | h1)
     ·exact ha.out h1
     ·exact hq (List.mem_singleton.1 h1).symm
    have hne : (v == x) = false := by rw [beq_eq_false_iff_ne]; exact fun e => hq e.symm
    clear hx hq
    go_wp2
    go_round
    case rel => exact ⟨k + 1, by omega, by go_num, hy⟩
    case measure => simp [intOf]; omega
  ·have hkn : k = n := by omega
   subst hkn
   clear h
   go_wp2
   go_ret
   have hy := ha.out
   rw [List.take_of_length_le (by rw [hlen.out]; exact Nat.le_refl _)] at hy
   exact ⟨_, rfl, .inl ⟨rfl, hy⟩, rfl⟩
end Go.Proofs.YtnhomkmfbngmgaaGreatDoor

namespace Go.Proofs.YtnhomkmfbngmgaaGreatDoor
open Go.ChangeShapes Go.WideShapes Go.ChangeAt Go.RowKit Go.Sort Go.Lib
set_option linter.unusedVariables false
set_option linter.unusedSimpArgs false

structure AlcW (wb w : World) (J : List ByteArray) (g : Option Nat) (q : Option (Option Addr × Nat × Nat)) : Prop where
 below : Below wb.heap.size wb w
 box : ∀ b, g = some b → wb.heap.size ≤ b ∧ LtsBox w b 0 0 none 0 0 none 0 0
 lab : ∀ h, q = some h → Own 1 strv w wb.heap.size 9 h.1 h.2.1 h.2.2 J ∧ ∀ b, g = some b → some b ≠ (Value.slice h.1 h.2.1 h.2.2).ownBlock
section
variable {wb w w' : World} {J : List ByteArray} {g : Option Nat} {q : Option (Option Addr × Nat × Nat)}
theorem AlcW.start (wb : World) (J : List ByteArray) : AlcW wb wb J none none := ⟨Below.refl _ _, fun b e => (by cases e), fun h e => (by cases e)⟩
theorem AlcW.drew (h : AlcW wb w J g q) : AlcW wb w.drew J g q := ⟨h.below.drew, h.box, fun k e => ⟨(h.lab k e).1.keep fun _ _ => rfl, (h.lab k e).2⟩⟩
theorem AlcW.alloc (h : AlcW wb w J none q) : AlcW wb (w.alloc (.cells #[.int .i64 0, .int .i64 0, .slice none 0 0, .slice none 0 0] 27)) J (some w.heap.size) q where
 below := h.below.alloc h.below.size _
 box := fun b e => by
  cases e
  exact ⟨h.below.size, heap_alloc_new w _⟩
 lab := fun k e => ⟨(h.lab k e).1.alloc _, fun b e2 e3 => by
  cases e2
  have := ((h.lab k e).1.lt _ e3.symm).2
  omega⟩
theorem AlcW.clone (h : AlcW wb w J g none) {A : Option Addr} {n c : Nat} (hb : Below w.heap.size w w') (ho : Own 1 strv w' w.heap.size 9 A n c J) : AlcW wb w' J g (some (A, n, c)) where
 below := h.below.trans (hb.mono h.below.size)
 box := fun b e => ⟨(h.box b e).1, (h.box b e).2.below hb (h.box b e).2.lt⟩
 lab := fun k e => by
  cases e
  refine ⟨ho.sink h.below.size, fun b e2 e3 => ?_⟩
  have h1 := (h.box b e2).2.lt
  have h2 := (ho.lt _ e3.symm).1
  omega
end
structure LtmP (w wr : World) (g9 e0 : Nat) (s i : Int) (A1 : Option Addr) (n2 c1 : Nat) (J : List ByteArray) (A3 : Option Addr) (k c3 : Nat) (E : List Ed) : Prop where
 box : LtsBox wr g9 s i A1 n2 c1 A3 k c3
 res : LtsBox wr w.heap.size 0 0 none 0 0 none 0 0
 labs : Own 1 strv wr (w.heap.size + 1) 9 A1 n2 c1 J
 eds : Own 3 ev wr e0 84 A3 k c3 E
 bel : Below w.heap.size w wr
 base : w.heap.size < g9 ∧ g9 < e0
 lt : ∀ q, (Value.slice A1 n2 c1).ownBlock = some q → q ≠ g9 ∧ q < e0
 top : e0 ≤ wr.heap.size
section
variable {w wr w' : World} {g9 e0 : Nat} {s i : Int} {A1 : Option Addr} {n2 c1 : Nat} {J : List ByteArray} {A3 : Option Addr} {k c3 : Nat} {E : List Ed}
theorem LtmP.below (h : LtmP w wr g9 e0 s i A1 n2 c1 J A3 k c3 E) (hb : Below wr.heap.size wr w') : LtmP w w' g9 e0 s i A1 n2 c1 J A3 k c3 E where
 box := h.box.below hb h.box.lt
 res := h.res.below hb h.res.lt
 labs := h.labs.below hb (Nat.le_refl _)
 eds := h.eds.below hb (Nat.le_refl _)
 bel := h.bel.trans (hb.mono h.bel.size)
 base := h.base
 lt := h.lt
 top := Nat.le_trans h.top hb.size
theorem LtmP.same (h : LtmP w wr g9 e0 s i A1 n2 c1 J A3 k c3 E) {E' : List Ed} (hg : wr.grownBy w' (Value.slice A3 k c3).ownBlock) (ho : Own 3 ev w' e0 84 A3 k c3 E') : LtmP w w' g9 e0 s i A1 n2 c1 J A3 k c3 E' := by
 have hb0 := h.base
 have ha : ∀ q, q < e0 → some q ≠ (Value.slice A3 k c3).ownBlock := fun q hq e => by
  have := (h.eds.lt q e.symm).1
  omega
 exact ⟨h.box.grown hg (ha _ (by omega)), h.res.grown hg (ha _ (by omega)), h.labs.keep fun q hq => hg.block q (h.labs.lt q hq).2 (ha q (h.lt q hq).2), ho, h.bel.grown hg h.bel.size fun q e => by have := (h.eds.lt q e).1; omega, hb0, h.lt, Nat.le_trans h.top hg.size⟩
theorem LtmP.grown (h : LtmP w wr g9 e0 s i A1 n2 c1 J A3 k c3 E) {A7 : Option Addr} {k7 c7 : Nat} {E' : List Ed} (hg : wr.grownBy w' (Value.slice A3 k c3).ownBlock) (ho : Own 3 ev w' e0 84 A7 k7 c7 E') : LtsBox w' g9 s i A1 n2 c1 A3 k c3 ∧ LtmP w (w'.setCell ⟨g9, 3, none⟩ (.slice A7 k7 c7)) g9 e0 s i A1 n2 c1 J A7 k7 c7 E' := by
 have hb0 := h.base
 have ha : ∀ q, q < e0 → some q ≠ (Value.slice A3 k c3).ownBlock := fun q hq e => by
  have := (h.eds.lt q e.symm).1
  omega
 have hbx := h.box.grown hg (ha _ (by omega))
 have hrs := h.res.grown hg (ha _ (by omega))
 have hO : Only g9 (g9 + 1) w' (w'.setCell ⟨g9, 3, none⟩ (.slice A7 k7 c7)) := (Only.refl g9 (g9 + 1) w').setCell (p := ⟨g9, 3, none⟩) (Nat.le_refl _) (Nat.lt_succ_self _) _
 have hbel : Below w.heap.size w w' := h.bel.grown hg h.bel.size fun q e => by have := (h.eds.lt q e).1; omega
 refine ⟨hbx, hbx.set3, hrs.only hO (.inl (by omega)), ?_, ?_, Only.below hbel hO (by omega) hbel.size, hb0, h.lt, by rw [World.size_setCell]; exact Nat.le_trans h.top hg.size⟩
 ·have hl : Own 1 strv w' (w.heap.size + 1) 9 A1 n2 c1 J := h.labs.keep fun q hq => hg.block q (h.labs.lt q hq).2 (ha q (h.lt q hq).2)
  exact hl.asideL (fun e => (h.lt _ e.symm).1 rfl) _
 ·exact ho.asideL (fun e => by have := (ho.lt _ e.symm).1; omega) _
theorem LtmP.done (h : LtmP w wr g9 e0 s i A1 n2 c1 J A3 k c3 E) {wf : World} (a b c d : Value)
  (hw : wf = (((wr.setCell ⟨w.heap.size, 0, none⟩ a).setCell ⟨w.heap.size, 1, none⟩ b).setCell ⟨w.heap.size, 2, none⟩ c).setCell ⟨w.heap.size, 3, none⟩ d) :
  SlS wf w.heap.size wf.heap.size A1 n2 J ∧ Own 3 ev wf w.heap.size 84 A3 k c3 E ∧ Below w.heap.size w wf := by
 have hb0 := h.base
 have n1 : some w.heap.size ≠ (Value.slice A1 n2 c1).ownBlock := fun e => by have := (h.labs.lt _ e.symm).1; omega
 have n3 : some w.heap.size ≠ (Value.slice A3 k c3).ownBlock := fun e => by have := (h.eds.lt _ e.symm).1; omega
 have o1 := (Only.refl w.heap.size (w.heap.size + 1) wr).setCell (p := ⟨w.heap.size, 0, none⟩) (Nat.le_refl _) (Nat.lt_succ_self _) a
 have o2 := o1.setCell (p := ⟨w.heap.size, 1, none⟩) (Nat.le_refl _) (Nat.lt_succ_self _) b
 have o3 := o2.setCell (p := ⟨w.heap.size, 2, none⟩) (Nat.le_refl _) (Nat.lt_succ_self _) c
 have o4 := o3.setCell (p := ⟨w.heap.size, 3, none⟩) (Nat.le_refl _) (Nat.lt_succ_self _) d
 rw [hw]
 refine ⟨?_, ?_, Only.below h.bel o4 (Nat.le_refl _) h.bel.size⟩
 ·exact (((((h.labs.asideL n1 _).asideL n1 _).asideL n1 _).asideL n1 _).sl flat_strv).more (by omega) (Nat.le_refl _)
 ·exact (((((h.eds.asideL n3 _).asideL n3 _).asideL n3 _).asideL n3 _)).sink (by omega)
theorem LtmP.doneL (h : LtmP w wr g9 e0 s i A1 n2 c1 J A3 k c3 E) {wf : World} (a b c d : Value)
  (hw : wf = (((wr.setCell ⟨w.heap.size, 0, none⟩ a).setCell ⟨w.heap.size, 1, none⟩ b).setCell ⟨w.heap.size, 2, none⟩ c).setCell ⟨w.heap.size, 3, none⟩ d) :
  Own 1 strv wf w.heap.size 9 A1 n2 c1 J := by
 have n1 : some w.heap.size ≠ (Value.slice A1 n2 c1).ownBlock := fun e => by have := (h.labs.lt _ e.symm).1; omega
 rw [hw]
 exact ((((h.labs.asideL n1 _).asideL n1 _).asideL n1 _).asideL n1 _).sink (by omega)
theorem AlcW.fill {wb w1 : World} {A : Option Addr} {n c g : Nat} (h : AlcW wb w1 J (some g) (some (A, n, c))) (hr : LtsBox wb w.heap.size 0 0 none 0 0 none 0 0) (hw : w.heap.size + 1 ≤ wb.heap.size) (hbel : Below w.heap.size w wb) (s i : Int) {e0 : Nat} (he0 : e0 = w1.heap.size) :
  LtmP w ((((w1.setCell ⟨g, 0, none⟩ (.int .i64 s)).setCell ⟨g, 1, none⟩ (.int .i64 i)).setCell ⟨g, 2, none⟩ (.slice A n c)).setCell ⟨g, 3, none⟩ (.slice none 0 0)) g e0 s i A n c J none 0 0 [] := by
 obtain ⟨hg, hx⟩ := h.box g rfl
 obtain ⟨hl, hne⟩ := h.lab _ rfl
 have hne := hne g rfl
 have hgl := hx.lt
 have x0 : (w1.setCell ⟨g, 0, none⟩ (.int .i64 s)).heap[g]? = _ := heap_setCell_same w1 g 0 _ _ _ hx
 have x1 := heap_setCell_same _ g 1 _ _ (.int .i64 i) x0
 have x2 := heap_setCell_same _ g 2 _ _ (.slice A n c) x1
 have x3 := heap_setCell_same _ g 3 _ _ (.slice none 0 0) x2
 have o1 := (Only.refl g (g + 1) w1).setCell (p := ⟨g, 0, none⟩) (Nat.le_refl _) (Nat.lt_succ_self _) (.int .i64 s)
 have o2 := o1.setCell (p := ⟨g, 1, none⟩) (Nat.le_refl _) (Nat.lt_succ_self _) (.int .i64 i)
 have o3 := o2.setCell (p := ⟨g, 2, none⟩) (Nat.le_refl _) (Nat.lt_succ_self _) (.slice A n c)
 have o4 := o3.setCell (p := ⟨g, 3, none⟩) (Nat.le_refl _) (Nat.lt_succ_self _) (.slice none 0 0)
 have hbw : Below w.heap.size w w1 := hbel.trans (h.below.mono (by omega))
 exact ⟨x3, (hr.below h.below (by omega)).only o4 (.inl (by omega)), ((((hl.asideL hne _).asideL hne _).asideL hne _).asideL hne _).sink (by omega), Own.nil_ _ _ _, Only.below hbw o4 (by omega) hbw.size, ⟨by omega, by omega⟩, fun q hq => ⟨fun e => hne (by rw [← e]; exact hq.symm), by have := (hl.lt q hq).2; omega⟩, by simp [he0]⟩
end
def posZ (l : List Int) (v : Int) : Int := if v ∈ l then ((l.idxOf v : Nat) : Int) else -1
theorem FstI.pos {l : List Int} {v i : Int} (hn : l.Nodup) (h : FstI l v i) : i = posZ l v := by
 unfold posZ
 rcases h with ⟨rfl, h1⟩ | ⟨k, rfl, hk, hx⟩
 ·rw [if_neg h1]
 ·have hm := List.mem_of_getElem? hx
  rw [if_pos hm]
  have h2 : l.idxOf v < l.length := List.idxOf_lt_length_iff.2 hm
  have h3 : l[l.idxOf v] = v := List.getElem_idxOf h2
  have h4 : l[k] = v := by
   rw [List.getElem?_eq_getElem hk] at hx
   exact Option.some.inj hx
  have := (List.getElem_inj hn).1 (h4.trans h3.symm)
  omega
theorem posZ_at {l : List Int} (hn : l.Nodup) {v : Int} {k : Nat} : posZ l v = (k : Int) ↔ l[k]? = some v := by
 unfold posZ
 constructor
 ·intro h
  by_cases hm : v ∈ l
  ·rw [if_pos hm] at h
   have h2 : l.idxOf v < l.length := List.idxOf_lt_length_iff.2 hm
   have h3 : l[l.idxOf v] = v := List.getElem_idxOf h2
   have : l.idxOf v = k := by omega
   subst this
   rw [List.getElem?_eq_getElem h2, h3]
  ·rw [if_neg hm] at h
   omega
 ·intro hx
  have hm := List.mem_of_getElem? hx
  rw [if_pos hm]
  have h2 : l.idxOf v < l.length := List.idxOf_lt_length_iff.2 hm
  have h3 : l[l.idxOf v] = v := List.getElem_idxOf h2
  obtain ⟨hk, h4⟩ := List.getElem?_eq_some_iff.1 hx
  have := (List.getElem_inj hn).1 (h4.trans h3.symm)
  omega
end Go.Proofs.YtnhomkmfbngmgaaGreatDoor

namespace Go.Proofs.YtnhomkmfbngmgaaGreatDoor
open Go.ChangeShapes Go.WideShapes Go.ChangeAt Go.RowKit Go.Sort Go.Lib
set_option linter.unusedVariables false
set_option linter.unusedSimpArgs false

def partO (S : List Int) (e : Ed) : Option Ed := if 0 ≤ posZ S e.1 ∧ 0 ≤ posZ S e.2.2 then some (posZ S e.1, e.2.1, posZ S e.2.2) else none
def partF (S : List Int) (es : List Ed) : List Ed := sortE (es.filterMap (partO S))
set_option maxRecDepth 100000 in
theorem part1_calls (v : Int) (b : Nat) (P : Option Addr) (q cP : Nat) (S : List Int) (W : World) (lo hi : Nat) (hb : W.cell? ⟨b, 0, none⟩ = some (.slice P q cP)) (h : SlI W lo hi P q S) (hq : q ≤ 1000) (hn : S.Nodup) :
  Calls Tryz.prog 129 (#[.int .i64 v] ++ #[.pointer (some ⟨b, 0, none⟩)]) W fun e w' => e = .returned (.int .i64 (posZ S v)) ∧ w' = W := by
 have hq1 := hide (indexX_calls v P q cP S W lo hi h (by omega))
 clear h
 go_enter Tryz.func129, Tryz.ntmps129
 go_wp2_with fail
 refine hq1.out.mono ?_
 rintro e w2 ⟨i, rfl, hi, rfl⟩
 have hp := hide (hi.pos hn)
 clear hi hq1
 go_wp2_with fail
 go_ret
 exact ⟨ret_i hp.out.symm, rfl⟩
set_option maxRecDepth 100000 in
set_option maxHeartbeats 6400000 in
theorem part_calls {w : World} {N ini : Nat} {A : Option Addr} {n : Nat} {B : Option Addr} {m : Nat} {ls : List ByteArray} {es : List Ed} (h : SysA w N ini A n B m ls es) (c d : Nat) (P : Option Addr) (q cP lo hi : Nat) (S : List Int) (hP : SlI w lo hi P q S) (hhi : hi ≤ w.heap.size) (hq : q ≤ 1000) (hn : S.Nodup) :
  Calls Tryz.prog 59 #[.agg #[.int .i64 (N : Int), .int .i64 (ini : Int), .slice A n c, .slice B m d], .slice P q cP] w fun e w' => ∃ A2 c2 A3 n3 c3, e = .returned (.agg #[.int .i64 (q : Int), .int .i64 (posZ S (ini : Int)), .slice A2 n c2, .slice A3 n3 c3]) ∧ SlS w' w.heap.size w'.heap.size A2 n ls ∧ SlE w' w.heap.size w'.heap.size A3 n3 (partF S es) ∧ Below w.heap.size w w' := by
 have hEe := hide elem_edge
 obtain ⟨hm, hn12, hn1, hle, hll⟩ := h.many
 obtain ⟨wB, hwB⟩ : ∃ wB, wB = (w.alloc (ltsC N ini A n c B m d)).alloc (.cells #[.slice P q cP] 32) := ⟨_, rfl⟩
 have za : (w.alloc (ltsC N ini A n c B m d)).heap.size = w.heap.size + 1 := World.size_alloc _ _
 have zB : wB.heap.size = w.heap.size + 1 + 1 := by rw [hwB, World.size_alloc, za]
 have bB : Below w.heap.size w wB := by rw [hwB]; exact ((Below.refl w.heap.size w).alloc (Nat.le_refl _) _).alloc (by omega) _
 have xB : LtsBox wB w.heap.size (N : Int) (ini : Int) A n c B m d := by
  rw [hwB]
  have x1 : LtsBox (w.alloc (ltsC N ini A n c B m d)) w.heap.size (N : Int) (ini : Int) A n c B m d := heap_alloc_new w _
  exact x1.below (K := w.heap.size + 1) ((Below.refl _ _).alloc (by omega) _) (by omega)
 have sB : wB.heap[w.heap.size + 1]? = some (.cells #[.slice P q cP] 32 (0, 0)) := by rw [hwB, ← za]; exact heap_alloc_new _ _
 have sC : wB.cell? ⟨w.heap.size + 1, 0, none⟩ = some (.slice P q cP) := (cell_of_row _ _ 0 _ _ (0, 0) sB).trans rfl
 obtain ⟨w1, hw1⟩ : ∃ w1, w1 = wB.alloc (.cells #[.int .i64 0, .int .i64 0, .slice none 0 0, .slice none 0 0] 27) := ⟨_, rfl⟩
 have hbel1 : Hid (Below wB.heap.size wB w1) := by show Below _ _ _; rw [hw1]; exact (Below.refl _ _).alloc (Nat.le_refl _) _
 have hr1 : Hid (LtsBox w1 wB.heap.size 0 0 none 0 0 none 0 0) := by show LtsBox _ _ _ _ _ _ _ _ _ _; rw [hw1]; exact heap_alloc_new wB _
 have hz1 : Hid (wB.heap.size + 1 ≤ w1.heap.size) := hr1.out.lt
 have hAll : ∀ wx, Below wB.heap.size wB wx → SysA wx N ini A n B m ls es ∧ LtsBox wx w.heap.size (N : Int) (ini : Int) A n c B m d ∧ wx.cell? ⟨w.heap.size + 1, 0, none⟩ = some (.slice P q cP) ∧ SlI wx lo hi P q S := fun wx hx =>
  ⟨h.below (bB.trans (hx.mono bB.size)) (Nat.le_refl _), xB.below hx (by omega), (hx.cell (p := ⟨w.heap.size + 1, 0, none⟩) (by show w.heap.size + 1 < _; omega)).trans sC, hP.below (bB.trans (hx.mono bB.size)) (.inl hhi)⟩
 have hSS : Hid (∀ wx, Below w1.heap.size w1 wx → wx.cell? ⟨w.heap.size, 1, none⟩ = some (.int .i64 (ini : Int)) ∧ wx.cell? ⟨w.heap.size, 2, none⟩ = some (.slice A n c) ∧ wx.cell? ⟨w.heap.size + 1, 0, none⟩ = some (.slice P q cP)) := fun wx hx => by
  obtain ⟨-, y, z, -⟩ := hAll wx (hbel1.out.trans (hx.mono hbel1.out.size))
  exact ⟨y.c1, y.c2, z⟩
 have hPos : Hid (∀ wx, Below w1.heap.size w1 wx → Calls Tryz.prog 129 #[.int .i64 (ini : Int), .pointer (some ⟨w.heap.size + 1, 0, none⟩)] wx fun e w' => e = .returned (.int .i64 (posZ S (ini : Int))) ∧ w' = wx) := fun wx hx => by
  obtain ⟨-, -, z, y⟩ := hAll wx (hbel1.out.trans (hx.mono hbel1.out.size))
  exact part1_calls _ _ _ _ _ _ _ _ _ z y hq hn
 have hCl : Hid (∀ wx, Below w1.heap.size w1 wx → Calls Tryz.prog 131 #[.slice A n c] wx fun e w' => ∃ A' c', e = .returned (.slice A' n c') ∧ Own 1 strv w' wx.heap.size 9 A' n c' ls ∧ Below wx.heap.size wx w') := fun wx hx => by
  obtain ⟨y, -, -, -⟩ := hAll wx (hbel1.out.trans (hx.mono hbel1.out.size))
  exact cloneS_calls _ _ _ _ _ _ _ y.ss (by omega)
 replace hAll := hide hAll
 replace zB := hide zB
 replace za := hide za
 have hbBh := hide bB
 clear bB xB sB sC h hP
 go_enter Tryz.func59, Tryz.ntmps59
 go_upto_region 1 with fail
 rw [show (((w.alloc (.cells #[.int .i64 (N : Int), .int .i64 (ini : Int), .slice A n c, .slice B m d] 27)).alloc (.cells #[.slice P q cP] 32)).alloc (.cells #[.int .i64 0, .int .i64 0, .slice none 0 0, .slice none 0 0] 27)) = w1 from by rw [hw1, hwB]]
 replace hw1 := hide hw1
 replace hwB := hide hwB
 go_upto_region 2 with fail
 go_cut [6] (fun v6 wx => ∃ g9 e0 A1 c1, v6 = .pointer (some ⟨g9, 0, none⟩) ∧ Hid (LtmP wB wx g9 e0 (q : Int) (posZ S (ini : Int)) A1 n c1 ls none 0 0 []))
 case first =>
  refine lateT_begin (S := fun w' => w'.cell? ⟨w.heap.size, 1, none⟩ = some (.int .i64 (ini : Int)) ∧ w'.cell? ⟨w.heap.size, 2, none⟩ = some (.slice A n c) ∧ w'.cell? ⟨w.heap.size + 1, 0, none⟩ = some (.slice P q cP)) (st := 11) (by kernel_rfl) ?_
  have hD := (AlcW.start w1 ls).drew
  generalize w1.drew = wA at *
  have hS0 := hSS.out _ hD.below
  refine tkA ?_ 0 [11] rfl (Or.inl ⟨by rfl, ?hy⟩) hS0 ?_
  case hy => (intro w9 hSw; obtain ⟨s0, s1, s2⟩ := hSw; go_simp <;> with_reducible rfl)
  (try simp only [Act.put, sA, sB, sC])
  refine tkA ?_ 2 [11] rfl (Or.inl ⟨by rfl, ?hy⟩) hS0 ?_
  case hy => (intro w9 hSw; obtain ⟨s0, s1, s2⟩ := hSw; go_simp <;> with_reducible rfl)
  (try simp only [Act.put, sA, sB, sC])
  refine tkA ?_ 3 [11] rfl (Or.inl ⟨by rfl, ?hy⟩) hS0 ?_
  case hy => (intro w9 hSw; obtain ⟨s0, s1, s2⟩ := hSw; go_simp <;> with_reducible rfl)
  (try simp only [Act.put, sA, sB, sC])
  refine tkA ?_ 4 [11] rfl (Or.inl ⟨by rfl, ?hy⟩) hS0 ?_
  case hy => (intro w9 hSw; obtain ⟨s0, s1, s2⟩ := hSw; go_simp <;> with_reducible rfl)
  (try simp only [Act.put, sA, sB, sC])
  refine tkA ?_ 6 [11] rfl (Or.inl ⟨by rfl, ?hy⟩) hS0 ?_
  case hy => (intro w9 hSw; obtain ⟨s0, s1, s2⟩ := hSw; go_simp <;> with_reducible rfl)
  (try simp only [Act.put, sA, sB, sC])
  refine tkA ?_ 7 [11] rfl (Or.inl ⟨by rfl, ?hy⟩) hS0 ?_
  case hy => (intro w9 hSw; obtain ⟨s0, s1, s2⟩ := hSw; go_simp <;> with_reducible rfl)
  (try simp only [Act.put, sA, sB, sC])
  refine tkA ?_ 1 [11] rfl (Or.inl ⟨by rfl, ?hy⟩) hS0 ?_
  case hy => (intro w9 hSw; obtain ⟨s0, s1, s2⟩ := hSw; go_simp <;> with_reducible rfl)
  (try simp only [Act.put, sA, sB, sC])
  refine lateT_two (i := 5) (j := 10) (by kernel_rfl) rfl rfl (fun K hK => ?_) (fun K hK => ?_)
  ·go_simp
   go_at_call 129; (with_reducible refine (hPos.out _ hD.below).mono ?_); rintro e w6 ⟨rfl, e6⟩; rw [e6]; clear e6 w6
   (try go_wp2_with fail)
   refine hK.out _ _ (fun _ => hSS.out _ hD.below) ?_
   clear hK K
   (try simp only [Act.put, sA, sB, sC])
   refine lateT_two (i := 8) (j := 10) (by kernel_rfl) rfl rfl (fun K hK => ?_) (fun K hK => ?_)
   ·go_simp
    go_at_call 131; (with_reducible refine (hCl.out _ hD.below).mono ?_); rintro e wA ⟨A1, c1, rfl, hO6, hb6⟩
    replace hD := hD.clone hb6 hO6
    clear hO6 hb6
    (try go_wp2_with fail)
    refine hK.out _ _ (fun _ => hSS.out _ hD.below) ?_
    clear hK K
    (try simp only [Act.put, sA, sB, sC])
    refine lateT_two (i := 9) (j := 10) (by kernel_rfl) rfl rfl (fun K hK => ?_) (fun K hK => ?_)
    ·go_simp
     refine hK.out _ _ (fun _ => hSS.out _ hD.below) ?_
     clear hK K
     (try simp only [Act.put, sA, sB, sC])
     refine lateT_step (i := 10) (by kernel_rfl) rfl (fun K hK => ?_)
     go_simp
     replace hD := hD.alloc
     refine hK.out _ _ (fun _ => hSS.out _ hD.below) ?_
     clear hK K
     (try simp only [Act.put, sA, sB, sC])
     generalize wA.alloc (.cells #[.int .i64 0, .int .i64 0, .slice none 0 0, .slice none 0 0] 27) = wA at *
     refine lateT_step (i := 11) (by kernel_rfl) rfl (fun K hK => ?_)
     have hbx := (hD.box _ rfl).2
     have z0 := hbx.c0
     have z1 := hbx.c1
     have z2 := hbx.c2
     have z3 := hbx.c3
     have f0 := hbx.f0
     have f1 := hbx.f1
     have f2 := hbx.f2
     have f3 := hbx.f3
     go_simp
     refine hK.out _ _ (fun h => absurd rfl h) ?_
     clear hK K
     (try simp only [Act.put, sA, sB, sC])
     refine lateT_done (by kernel_rfl) ?_ _
     have hM := hD.fill hr1.out hz1.out hbel1.out (q : Int) (posZ S (ini : Int)) rfl
     go_wp2_with fail
     go_meet
     exact ⟨_, _, _, _, rfl, hide hM⟩
    ·go_simp
     replace hD := hD.alloc
     refine hK.out _ _ (fun _ => hSS.out _ hD.below) ?_
     clear hK K
     (try simp only [Act.put, sA, sB, sC])
     generalize wA.alloc (.cells #[.int .i64 0, .int .i64 0, .slice none 0 0, .slice none 0 0] 27) = wA at *
     refine lateT_step (i := 9) (by kernel_rfl) rfl (fun K hK => ?_)
     go_simp
     refine hK.out _ _ (fun _ => hSS.out _ hD.below) ?_
     clear hK K
     (try simp only [Act.put, sA, sB, sC])
     refine lateT_step (i := 11) (by kernel_rfl) rfl (fun K hK => ?_)
     have hbx := (hD.box _ rfl).2
     have z0 := hbx.c0
     have z1 := hbx.c1
     have z2 := hbx.c2
     have z3 := hbx.c3
     have f0 := hbx.f0
     have f1 := hbx.f1
     have f2 := hbx.f2
     have f3 := hbx.f3
     go_simp
     refine hK.out _ _ (fun h => absurd rfl h) ?_
     clear hK K
     (try simp only [Act.put, sA, sB, sC])
     refine lateT_done (by kernel_rfl) ?_ _
     have hM := hD.fill hr1.out hz1.out hbel1.out (q : Int) (posZ S (ini : Int)) rfl
     go_wp2_with fail
     go_meet
     exact ⟨_, _, _, _, rfl, hide hM⟩
   ·go_simp
    replace hD := hD.alloc
    refine hK.out _ _ (fun _ => hSS.out _ hD.below) ?_
    clear hK K
    (try simp only [Act.put, sA, sB, sC])
    generalize wA.alloc (.cells #[.int .i64 0, .int .i64 0, .slice none 0 0, .slice none 0 0] 27) = wA at *
    refine lateT_step (i := 8) (by kernel_rfl) rfl (fun K hK => ?_)
    go_simp
    go_at_call 131; (with_reducible refine (hCl.out _ hD.below).mono ?_); rintro e wA ⟨A1, c1, rfl, hO6, hb6⟩
    replace hD := hD.clone hb6 hO6
    clear hO6 hb6
    (try go_wp2_with fail)
    refine hK.out _ _ (fun _ => hSS.out _ hD.below) ?_
    clear hK K
    (try simp only [Act.put, sA, sB, sC])
    refine lateT_step (i := 9) (by kernel_rfl) rfl (fun K hK => ?_)
    go_simp
    refine hK.out _ _ (fun _ => hSS.out _ hD.below) ?_
    clear hK K
    (try simp only [Act.put, sA, sB, sC])
    refine lateT_step (i := 11) (by kernel_rfl) rfl (fun K hK => ?_)
    have hbx := (hD.box _ rfl).2
    have z0 := hbx.c0
    have z1 := hbx.c1
    have z2 := hbx.c2
    have z3 := hbx.c3
    have f0 := hbx.f0
    have f1 := hbx.f1
    have f2 := hbx.f2
    have f3 := hbx.f3
    go_simp
    refine hK.out _ _ (fun h => absurd rfl h) ?_
    clear hK K
    (try simp only [Act.put, sA, sB, sC])
    refine lateT_done (by kernel_rfl) ?_ _
    have hM := hD.fill hr1.out hz1.out hbel1.out (q : Int) (posZ S (ini : Int)) rfl
    go_wp2_with fail
    go_meet
    exact ⟨_, _, _, _, rfl, hide hM⟩
  ·go_simp
   replace hD := hD.alloc
   refine hK.out _ _ (fun _ => hSS.out _ hD.below) ?_
   clear hK K
   (try simp only [Act.put, sA, sB, sC])
   generalize wA.alloc (.cells #[.int .i64 0, .int .i64 0, .slice none 0 0, .slice none 0 0] 27) = wA at *
   refine lateT_step (i := 5) (by kernel_rfl) rfl (fun K hK => ?_)
   go_simp
   go_at_call 129; (with_reducible refine (hPos.out _ hD.below).mono ?_); rintro e w6 ⟨rfl, e6⟩; rw [e6]; clear e6 w6
   (try go_wp2_with fail)
   refine hK.out _ _ (fun _ => hSS.out _ hD.below) ?_
   clear hK K
   (try simp only [Act.put, sA, sB, sC])
   refine lateT_step (i := 8) (by kernel_rfl) rfl (fun K hK => ?_)
   go_simp
   go_at_call 131; (with_reducible refine (hCl.out _ hD.below).mono ?_); rintro e wA ⟨A1, c1, rfl, hO6, hb6⟩
   replace hD := hD.clone hb6 hO6
   clear hO6 hb6
   (try go_wp2_with fail)
   refine hK.out _ _ (fun _ => hSS.out _ hD.below) ?_
   clear hK K
   (try simp only [Act.put, sA, sB, sC])
   refine lateT_step (i := 9) (by kernel_rfl) rfl (fun K hK => ?_)
   go_simp
   refine hK.out _ _ (fun _ => hSS.out _ hD.below) ?_
   clear hK K
   (try simp only [Act.put, sA, sB, sC])
   refine lateT_step (i := 11) (by kernel_rfl) rfl (fun K hK => ?_)
   have hbx := (hD.box _ rfl).2
   have z0 := hbx.c0
   have z1 := hbx.c1
   have z2 := hbx.c2
   have z3 := hbx.c3
   have f0 := hbx.f0
   have f1 := hbx.f1
   have f2 := hbx.f2
   have f3 := hbx.f3
   go_simp
   refine hK.out _ _ (fun h => absurd rfl h) ?_
   clear hK K
   (try simp only [Act.put, sA, sB, sC])
   refine lateT_done (by kernel_rfl) ?_ _
   have hM := hD.fill hr1.out hz1.out hbel1.out (q : Int) (posZ S (ini : Int)) rfl
   go_wp2_with fail
   go_meet
   exact ⟨_, _, _, _, rfl, hide hM⟩
 case rest =>
  obtain ⟨g9, e9, A1, c1, rfl, hL0⟩ := hcut
  have b3 := (hAll.out wc hL0.out.bel).2.1.c3
  clear hSS hPos hCl hbel1 hr1 hz1
  go_wp2_with fail
  go_loopw [25] (fun v25 wr => ∃ (k k3 : Nat) (A3 : Option Addr) (c3 : Nat), k ≤ m ∧ v25 = .int .i64 (k : Nat) ∧ k3 ≤ k ∧ Hid (LtmP wB wr g9 e9 (q : Int) (posZ S (ini : Int)) A1 n c1 ls A3 k3 c3 ((es.take k).filterMap (partO S)))) (fun v _ => m - (intOf v).toNat)
  case atStart => exact ⟨0, 0, none, 0, Nat.zero_le _, rfl, Nat.le_refl _, hL0.out⟩
  case round =>
   clear hL0 b3
   obtain ⟨k, k3, A3, c3, hk, rfl, hk3, hL⟩ := hrel
   by_cases hlt : k < m
   ·obtain ⟨hSy, -, -, -⟩ := hAll.out wr hL.out.bel
    obtain ⟨gB, oB, f, l, t, rfl, -, -, hgB, hx, x0, x1, x2, -⟩ := SlE.get hSy.se hlt
    clear hSy
    have k0 : (0 : Int) ≤ (k : Int) := by omega
    have k1 : (k : Int) < (m : Int) := by omega
    have hstep : Hid ((es.take (k + 1)).filterMap (partO S) = (es.take k).filterMap (partO S) ++ (partO S (f, l, t)).toList) := by
     show _ = _
     rw [List.take_add_one, hx, List.filterMap_append]
     congr 1
    obtain ⟨bA, hbA⟩ : ∃ bA, bA = wr.heap.size := ⟨_, rfl⟩
    obtain ⟨wA, hwA⟩ : ∃ wA, wA = wr.alloc (.cells #[.int .i64 f, .int .i64 l, .int .i64 t] 84) := ⟨_, rfl⟩
    have ka : wA.heap[bA]? = some (.cells #[.int .i64 f, .int .i64 l, .int .i64 t] 84 (0, 0)) := by rw [hwA, hbA]; exact heap_alloc_new wr _
    obtain ⟨wD, hwD⟩ : ∃ wD, wD = wA.drew := ⟨_, rfl⟩
    have hbD : Below wr.heap.size wr wD := by rw [hwD, hwA]; exact ((Below.refl _ _).alloc (Nat.le_refl _) _).drew
    have hLD := hide (hL.out.below hbD)
    have kd : wD.heap[bA]? = some (.cells #[.int .i64 f, .int .i64 l, .int .i64 t] 84 (0, 0)) := by rw [hwD]; exact ka
    have e0 := (cell_of_row _ _ 0 _ _ (0, 0) kd).trans (show _ = some (Value.int .i64 f) from rfl)
    have e1 := (cell_of_row _ _ 1 _ _ (0, 0) kd).trans (show _ = some (Value.int .i64 l) from rfl)
    have e2 := (cell_of_row _ _ 2 _ _ (0, 0) kd).trans (show _ = some (Value.int .i64 t) from rfl)
    obtain ⟨-, -, hSc, hSl⟩ := hAll.out wD hLD.out.bel
    have hPf := part1_calls f (w.heap.size + 1) P q cP S wD _ _ hSc hSl hq hn
    have hPt := part1_calls t (w.heap.size + 1) P q cP S wD _ _ hSc hSl hq hn
    have hpo : partO S (f, l, t) = if 0 ≤ posZ S f ∧ 0 ≤ posZ S t then some (posZ S f, l, posZ S t) else none := rfl
    rw [show partO S (f, l, t) = if 0 ≤ posZ S f ∧ 0 ≤ posZ S t then some (posZ S f, l, posZ S t) else none from rfl] at hstep
    clear hpo
    generalize posZ S f = pf at hPf hstep
    generalize posZ S t = pt at hPt hstep
    replace hPf : Hid (Calls Tryz.prog 129 #[.int .i64 f, .pointer (some ⟨w.heap.size + 1, 0, none⟩)] wD fun e w' => e = .returned (.int .i64 pf) ∧ w' = wD) := hPf
    replace hPt : Hid (Calls Tryz.prog 129 #[.int .i64 t, .pointer (some ⟨w.heap.size + 1, 0, none⟩)] wD fun e w' => e = .returned (.int .i64 pt) ∧ w' = wD) := hPt
    replace hx := hide hx
    replace hbD := hide hbD
    clear kd ka hSc hSl
    go_upto_region 6 with fail
    rw [← show bA = _ from hbA]
    rw [← show wA = _ from hwA]
    replace hwA := hide hwA
    replace hwD := hide hwD
    replace hbA := hide hbA
    clear x0 x1 x2
    refine lateT_begin (S := fun w' => w'.cell? ⟨bA, 0, none⟩ = some (.int .i64 f) ∧ w'.cell? ⟨bA, 2, none⟩ = some (.int .i64 t)) (st := 9) (by kernel_rfl) ?_
    rw [← show wD = _ from hwD.out]
    have hS0 : (fun w' : World => w'.cell? ⟨bA, 0, none⟩ = some (.int .i64 f) ∧ w'.cell? ⟨bA, 2, none⟩ = some (.int .i64 t)) wD := ⟨e0, e2⟩
    refine tkA ?_ 0 [9] rfl (Or.inl ⟨by rfl, ?hy⟩) hS0 ?_
    case hy => intro w hSw; (try dsimp only at hSw); go_simp <;> with_reducible rfl
    (try simp only [Act.put, sA, sB, sC])
    refine tkA ?_ 1 [9] rfl (Or.inl ⟨by rfl, ?hy⟩) hS0 ?_
    case hy => intro w hSw; (try dsimp only at hSw); go_simp <;> with_reducible rfl
    (try simp only [Act.put, sA, sB, sC])
    refine tkA ?_ 2 [9] rfl (Or.inl ⟨by rfl, ?hy⟩) hS0 ?_
    case hy => intro w hSw; (try dsimp only at hSw); go_simp <;> with_reducible rfl
    (try simp only [Act.put, sA, sB, sC])
    refine tkA ?_ 4 [9] rfl (Or.inl ⟨by rfl, ?hy⟩) hS0 ?_
    case hy => intro w hSw; (try dsimp only at hSw); go_simp <;> with_reducible rfl
    (try simp only [Act.put, sA, sB, sC])
    refine tkA ?_ 5 [9] rfl (Or.inl ⟨by rfl, ?hy⟩) hS0 ?_
    case hy => intro w hSw; (try dsimp only at hSw); go_simp <;> with_reducible rfl
    (try simp only [Act.put, sA, sB, sC])
    refine tkA ?_ 6 [9] rfl (Or.inl ⟨by rfl, ?hy⟩) hS0 ?_
    case hy => intro w hSw; (try dsimp only at hSw); go_simp <;> with_reducible rfl
    (try simp only [Act.put, sA, sB, sC])
    refine lateT_step (i := 3) (by kernel_rfl) rfl (fun K hK => ?_)
    go_simp
    go_at_call 129
    (with_reducible refine hPf.out.mono ?_)
    rintro e w6 ⟨rfl, e6⟩
    rw [e6]
    clear e6 w6
    (try go_wp2_with fail)
    refine hK.out _ _ (fun _ => ⟨e0, e2⟩) ?_
    clear hK K
    (try simp only [Act.put, sA, sB, sC])
    refine lateT_step (i := 7) (by kernel_rfl) rfl (fun K hK => ?_)
    go_simp
    go_at_call 129
    (with_reducible refine hPt.out.mono ?_)
    rintro e w6 ⟨rfl, e6⟩
    rw [e6]
    clear e6 w6
    (try go_wp2_with fail)
    refine hK.out _ _ (fun _ => ⟨e0, e2⟩) ?_
    clear hK K
    (try simp only [Act.put, sA, sB, sC])
    refine lateT_step (i := 8) (by kernel_rfl) rfl (fun K hK => ?_)
    go_simp
    refine hK.out _ _ (fun _ => ⟨e0, e2⟩) ?_
    clear hK K
    (try simp only [Act.put, sA, sB, sC])
    refine lateT_step (i := 9) (by kernel_rfl) rfl (fun K hK => ?_)
    go_simp
    refine hK.out _ _ (fun h => absurd rfl h) ?_
    clear hK K
    (try simp only [Act.put, sA, sB, sC])
    refine lateT_done (by kernel_rfl) ?_ _
    clear hPf hPt
    by_cases p1 : 0 ≤ pf
    ·by_cases p2 : 0 ≤ pt
     ·have hs2 := hstep.out
      rw [if_pos ⟨p1, p2⟩] at hs2
      replace hs2 := hide hs2
      have b3 := hLD.out.box.c3
      obtain ⟨wL, hwL⟩ : ∃ wL, wL = wD.alloc (.cells #[.int .i64 pf, .int .i64 l, .int .i64 pt] 84) := ⟨_, rfl⟩
      have hbl : Below wD.heap.size wD wL := by rw [hwL]; exact (Below.refl _ _).alloc (Nat.le_refl _) _
      have hLL := hLD.out.below hbl
      rw [hwL] at hLL
      replace hLL := hide hLL
      have hOL := hide hLL.out.eds
      have hlit : Hid (Sl 3 ev (wD.alloc (.cells #[.int .i64 pf, .int .i64 l, .int .i64 pt] 84)) 0 (wD.heap.size + 1) (some ⟨wD.heap.size, 0, none⟩) 1 [(pf, l, pt)]) := Sl.lit1' (f := ev) wD 84 (pf, l, pt) #[.int .i64 pf, .int .i64 l, .int .i64 pt] rfl 3 _ rfl
      have hsz : (k3 + 1) * 24 ≤ 140737488355328 := by omega
      have hb9 := hLL.out.top
      have hs3 : Hid ((es.take (k + 1)).filterMap (partO S) = (es.take k).filterMap (partO S) ++ [(pf, l, pt)]) := hs2.out
      replace hwL := hide hwL
      clear hs2 hstep hL hbl
      go_upto_region 8 with fail
      go_wp2_with (first | (at_builtin; (with_reducible refine wpList_app rfl (.tmp 44) (.tmp 50) rfl hEe.out flat_ev rfl hOL.out rfl hlit.out ?d1 hb9 ?_); rotate_right; intro A7 c7 w7 hown7 hgr7 hb7 hat7; obtain ⟨hbx7, hL8⟩ := hLL.out.grown hgr7 hown7; have d3 := hbx7.c3; have f3 := hbx7.f3; rw [← hs3.out] at hL8; replace hL8 := hide hL8; clear hown7 hgr7 hb7 hat7 hbx7))
      case d1 => exact hsz
      go_roundw
      case rel => exact ⟨k + 1, k3 + 1, A7, c7, by omega, by go_num, by omega, hL8.out⟩
      case measure => simp [intOf]; omega
     ·have hs2 := hstep.out
      rw [if_neg (fun e => p2 e.2)] at hs2
      have hL9 := hLD.out
      rw [show (es.take k).filterMap (partO S) = (es.take (k + 1)).filterMap (partO S) by rw [hs2]; simp] at hL9
      replace hL9 := hide hL9
      clear hs2 hstep hL hLD
      go_wp2_with fail
      go_roundw
      case rel => exact ⟨k + 1, k3, A3, c3, by omega, by go_num, by omega, hL9.out⟩
      case measure => simp [intOf]; omega
    ·have hs2 := hstep.out
     rw [if_neg (fun e => p1 e.1)] at hs2
     have hL9 := hLD.out
     rw [show (es.take k).filterMap (partO S) = (es.take (k + 1)).filterMap (partO S) by rw [hs2]; simp] at hL9
     replace hL9 := hide hL9
     clear hs2 hstep hL hLD
     go_wp2_with fail
     go_roundw
     case rel => exact ⟨k + 1, k3, A3, c3, by omega, by go_num, by omega, hL9.out⟩
     case measure => simp [intOf]; omega
   ·have hkm : k = m := by omega
    subst hkm
    have hLm := hL.out
    rw [List.take_of_length_le (by omega)] at hLm
    have c3a := hLm.box.c3
    have hqS := hide (sortE_calls hLm.eds (by omega))
    replace hLm := hide hLm
    clear hL
    go_upto_region 11 with (first | (go_at_call 132; (with_reducible refine hqS.out.mono ?_); rintro e w6 ⟨rfl, hO6, hg6⟩))
    have hL6 := hLm.out.same hg6 hO6
    have hres : LtsBox w6 (w.heap.size + 1 + 1) 0 0 none 0 0 none 0 0 := by rw [← zB.out]; exact hL6.res
    have y0 := hL6.box.c0
    have y1 := hL6.box.c1
    have y2 := hL6.box.c2
    have y3 := hL6.box.c3
    have r0 := hres.c0
    have r1 := hres.c1
    have r2 := hres.c2
    have r3 := hres.c3
    have v0 := hres.f0
    have v1 := hres.f1
    have v2 := hres.f2
    have v3 := hres.f3
    replace hL6 := hide hL6
    clear hO6 hg6 hqS c3a hLm hres
    go_wp2_with fail
    (try simp only [Exit.inBlock, Exit.then])
    refine bodyPost_ret_by (v := .agg #[.int .i64 (q : Int), .int .i64 (posZ S (ini : Int)), .slice A1 n c1, .slice A3 k3 c3]) ?_ rfl ?_
    focus
     rw [results_cell1 rfl]
     go_simp
    obtain ⟨f1, f2, f3⟩ := hL6.out.done (.int .i64 (q : Int)) (.int .i64 (posZ S (ini : Int))) (.slice A1 n c1) (.slice A3 k3 c3) (by rw [zB.out])
    have hzB := zB.out
    exact ⟨A1, c1, A3, k3, c3, rfl, f1.more (by omega) (Nat.le_refl _), (f2.sl flat_ev).more (by omega) (Nat.le_refl _), hbBh.out.trans (f3.mono (by omega))⟩
end Go.Proofs.YtnhomkmfbngmgaaGreatDoor

namespace Go.Proofs.YtnhomkmfbngmgaaGreatDoor
open Go.ChangeShapes Go.WideShapes Go.ChangeAt Go.RowKit Go.Sort Go.Lib
set_option linter.unusedVariables false
set_option linter.unusedSimpArgs false

def MaxL (l : List Int) (M : Int) : Prop := M ∈ l ∧ ∀ x, x ∈ l → x ≤ M
theorem MaxL.step {l : List Int} {k : Nat} {x M : Int} (h : MaxL (l.take k) M) (hx : l[k]? = some x) : MaxL (l.take (k + 1)) (if M < x then x else M) := by
 rw [List.take_add_one, hx]
 by_cases c : M < x
 ·rw [if_pos c]
  refine ⟨List.mem_append_right _ (List.mem_singleton.2 rfl), fun y hy => ?_⟩
  rcases List.mem_append.1 hy with g | g
  ·have := h.2 y g; omega
  ·have := List.mem_singleton.1 g; omega
 ·rw [if_neg c]
  refine ⟨List.mem_append_left _ h.1, fun y hy => ?_⟩
  rcases List.mem_append.1 hy with g | g
  ·exact h.2 y g
  ·have := List.mem_singleton.1 g; omega
set_option maxRecDepth 100000 in
set_option maxHeartbeats 1600000 in
theorem maxI_calls (A : Option Addr) (n c : Nat) (l : List Int) (w : World) (lo hi : Nat) (h : SlI w lo hi A n l) (hn : 0 < n) (hn2 : n ≤ 1000000) :
  Calls Tryz.prog 245 #[.slice A n c] w fun e w' => ∃ M, e = .returned (.int .i64 M) ∧ MaxL l M ∧ w' = w := by
 have hlen := hide h.len
 have g1 : ¬ (n : Int) < 1 := by omega
 obtain ⟨b, off, x0, rfl, -, -, -, hx0, c0, -⟩ := SlI.get h hn
 rw [Nat.add_zero] at c0
 have n0 : (0 : Int) < (n : Int) := by omega
 have hst : Hid (MaxL (l.take 1) x0) := by
  show MaxL _ _
  rw [show 1 = 0 + 1 from rfl, List.take_add_one, hx0]
  exact ⟨List.mem_singleton.2 rfl, fun y hy => by have := List.mem_singleton.1 hy; omega⟩
 clear hx0
 go_enter Tryz.func245, Tryz.ntmps245
 go_wp2_with fail
 go_loopw [3, 4] (fun v3 v4 wr => ∃ (k : Nat) (M : Int), 1 ≤ k ∧ k ≤ n ∧ v4 = .int .i64 (k : Nat) ∧ v3 = .int .i64 M ∧ Hid (MaxL (l.take k) M) ∧ wr = w) (fun _ v _ => n - (intOf v).toNat)
 case atStart => exact ⟨1, x0, Nat.le_refl _, by omega, rfl, rfl, hst.out, rfl⟩
 case round =>
  clear hst c0
  obtain ⟨k, M, hk1, hk, rfl, rfl, hM, rfl⟩ := hrel
  by_cases hlt : k < n
  ·obtain ⟨b2, o2, x, e2, -, -, -, hx, cx, -⟩ := SlI.get h hlt
   cases e2
   have hM2 := hide (hM.out.step hx)
   have k0 : (0 : Int) ≤ (k : Int) := by omega
   have k1 : (k : Int) < (n : Int) := by omega
   clear h hx
   by_cases c : M < x
   ·have hM3 := hM2.out
    rw [if_pos c] at hM3
    replace hM3 := hide hM3
    have c2 : ¬ x < M := by omega
    have c3 : M ≤ x := by omega
    clear hM2
    go_wp2_with fail
    go_roundw
    case rel => exact ⟨k + 1, x, by omega, by omega, by go_num, by rw [Int.max_eq_right c3], hM3.out, trivial⟩
    case measure => simp [intOf]; omega
   ·have hM3 := hM2.out
    rw [if_neg c] at hM3
    replace hM3 := hide hM3
    have c2 : x ≤ M := by omega
    clear hM2
    go_wp2_with fail
    go_roundw
    case rel => exact ⟨k + 1, M, by omega, by omega, by go_num, by rw [Int.max_eq_left c2], hM3.out, trivial⟩
    case measure => simp [intOf]; omega
  ·obtain rfl : k = n := by omega
   have hF := hM.out
   rw [List.take_of_length_le (by rw [hlen.out]; exact Nat.le_refl _)] at hF
   replace hF := hide hF
   clear h
   go_wp2_with fail
   go_ret
   exact ⟨M, rfl, hF.out, rfl⟩
set_option maxRecDepth 100000 in
theorem blockCount_calls (A : Option Addr) (n c : Nat) (l : List Int) (w : World) (lo hi : Nat) (h : SlI w lo hi A n l) (hn : 0 < n) (hn2 : n ≤ 1000000) (hl : ∀ x, x ∈ l → 0 ≤ x ∧ x ≤ 1000000) :
  Calls Tryz.prog 168 #[.slice A n c] w fun e w' => ∃ M, e = .returned (.int .i64 (M + 1)) ∧ MaxL l M ∧ w' = w := by
 have q := hide (maxI_calls A n c l w lo hi h hn hn2)
 clear h
 go_enter Tryz.func168, Tryz.ntmps168
 go_wp2_with fail
 refine q.out.mono ?_
 rintro e w2 ⟨M, rfl, hM, rfl⟩
 have hb := hl M hM.1
 have hw : IntKind.i64.wrap (M + 1) = M + 1 := IntWalk.i64_in _ (by omega)
 replace hM := hide hM
 clear q
 go_wp2_with fail
 go_ret
 exact ⟨M, rfl, hM.out, rfl⟩
set_option maxRecDepth 100000 in
set_option maxHeartbeats 1600000 in
theorem tidy_calls {wq w : World} {g9 e0 : Nat} {s i : Int} {A1 : Option Addr} {n2 c1 : Nat} {J : List ByteArray} {A3 : Option Addr} {k c3 : Nat} {E : List Ed} (h : LtmP wq w g9 e0 s i A1 n2 c1 J A3 k c3 E) (hk : k ≤ 1000000) :
  Calls Tryz.prog 169 #[.pointer (some ⟨g9, 0, none⟩)] w fun e w' => ∃ n3, e = .returned (.tuple #[]) ∧ LtmP wq w' g9 e0 s i A1 n2 c1 J A3 n3 c3 (Lib.compact (sortE E)) := by
 have c3a := h.box.c3
 have hqS := hide (sortE_calls h.eds (by omega))
 replace h := hide h
 go_enter Tryz.func169, Tryz.ntmps169
 go_upto_region 1 with (first | (go_at_call 132; (with_reducible refine hqS.out.mono ?_); rintro e w6 ⟨rfl, hO6, hg6⟩))
 have hL6 := h.out.same hg6 hO6
 have c36 := hL6.box.c3
 obtain ⟨n3, hn3⟩ : ∃ n3, n3 = (Lib.compact (sortE E)).length := ⟨_, rfl⟩
 have hqC := compactE_calls hO6 (by omega) hO6.le_cap
 rw [← hn3] at hqC
 replace hqC := hide hqC
 replace hL6 := hide hL6
 replace hn3 := hide hn3
 clear hO6 hg6 hqS c3a h
 go_wp2_with (first | (go_at_call 228; (with_reducible refine hqC.out.mono ?_); rintro e w7 ⟨rfl, hO7, hg7⟩; obtain ⟨hbx7, hL8⟩ := hL6.out.grown hg7 hO7; have c37 := hbx7.c3; have f37 := hbx7.f3))
 go_returns
 exact ⟨n3, rfl, hL8⟩
end Go.Proofs.YtnhomkmfbngmgaaGreatDoor
