/-
  The states after a trace, by the program. Conditions: sizes.
-/
import Derived.Test.YtiaclddgllkgpaaGreatDoorIntI
import Derived.Test.YtiaclddgllkgpaaGreatDoorBaseE
namespace Go.Proofs.YtiaclddgllkgpaaGreatDoor
open Go.ChangeShapes Go.WideShapes Go.ChangeAt Go.RowKit Go.Sort
set_option linter.unusedVariables false
set_option linter.unusedSimpArgs false

/-- Reached from the states with P by a label, then by internal edges. -/
def VisC (es : List Ed) (ls : List ByteArray) (P : Int → Prop) (lab : ByteArray) : Int → Prop := TauC es ls fun u => ∃ e ∈ es, P e.1 ∧ ls[e.2.1.toNat]? = some lab ∧ e.2.2 = u
/-- Reached by a trace. -/
def AftC (es : List Ed) (ls : List ByteArray) (P : Int → Prop) (tr : List ByteArray) : Int → Prop := tr.foldl (VisC es ls) (TauC es ls P)
theorem TauC.imp {es : List Ed} {ls : List ByteArray} {P Q : Int → Prop} (h : ∀ v, P v → Q v) {v : Int} (hv : TauC es ls P v) : TauC es ls Q v := by
  induction hv with
  | base h1 => exact .base (h _ h1)
  | step _ he hl ih => exact .step ih he hl
theorem TauC.congr {es : List Ed} {ls : List ByteArray} {P Q : Int → Prop} (h : ∀ v, P v ↔ Q v) (v : Int) : TauC es ls P v ↔ TauC es ls Q v := ⟨TauC.imp fun v => (h v).1, TauC.imp fun v => (h v).2⟩
theorem VisC.congr {es : List Ed} {ls : List ByteArray} {P Q : Int → Prop} (h : ∀ v, P v ↔ Q v) (lab : ByteArray) (v : Int) : VisC es ls P lab v ↔ VisC es ls Q lab v := by
  refine TauC.congr (fun u => ?_) v
  constructor
  · rintro ⟨e, he, h1, h2, h3⟩
    exact ⟨e, he, (h _).1 h1, h2, h3⟩
  · rintro ⟨e, he, h1, h2, h3⟩
    exact ⟨e, he, (h _).2 h1, h2, h3⟩
theorem AftC_succ {es : List Ed} {ls : List ByteArray} {P : Int → Prop} {tr : List ByteArray} {k : Nat} {lab : ByteArray} (h : tr[k]? = some lab) : AftC es ls P (tr.take (k + 1)) = VisC es ls (AftC es ls P (tr.take k)) lab := by
  unfold AftC
  rw [List.take_add_one, h, List.foldl_append]
  rfl

set_option maxRecDepth 100000 in
set_option maxHeartbeats 3200000 in
theorem visible_calls (s0 s1 : Int) (A2 : Option Addr) (n2 k2 : Nat) (A3 : Option Addr) (n3 k3 : Nat) (A1 : Option Addr) (n1 c1 : Nat) (S : List Int) (lab : ByteArray) (ls : List ByteArray) (es : List Ed) (w : World) (lo hi lo1 hi1 : Nat)
    (t2 : SlS w lo hi A2 n2 ls) (t3 : SlE w lo hi A3 n3 es) (t1 : SlI w lo1 hi1 A1 n1 S) (hS : n1 ≤ 1000000) (hes : n3 ≤ 1048576) (hval : ltsV (s0, s1, ls, es) = true) :
    Calls Tryz.prog 185 #[.agg #[.int .i64 s0, .int .i64 s1, .slice A2 n2 k2, .slice A3 n3 k3], .slice A1 n1 c1, .string lab] w fun e w' => ∃ A n c R, e = .returned (.slice A n c) ∧ SlI w' w.heap.size w'.heap.size A n R ∧ (∀ v, v ∈ R ↔ VisC es ls (· ∈ S) lab v) ∧ n ≤ 340 ∧ Below w.heap.size w w' := by
  have l3 := t3.len
  have he3 : es.length ≤ 300 := by
    have := hval
    rw [ltsV_eq] at this
    simp only [Bool.and_eq_true] at this
    exact of_decide_eq_true this.1.2.2.2
  have hW0 : Below w.heap.size w (w.alloc (.cells #[.int .i64 s0, .int .i64 s1, .slice A2 n2 k2, .slice A3 n3 k3] 33)).drew := ((Below.refl _ _).alloc (Nat.le_refl _) _).drew
  have kE := heap_alloc_new w (.cells #[.int .i64 s0, .int .i64 s1, .slice A2 n2 k2, .slice A3 n3 k3] 33)
  have x0 : (w.alloc (.cells #[.int .i64 s0, .int .i64 s1, .slice A2 n2 k2, .slice A3 n3 k3] 33)).cell? ⟨w.heap.size, 0, none⟩ = some (.int .i64 s0) := (cell_of_row _ _ 0 _ _ (0, 0) kE).trans rfl
  have x1 : (w.alloc (.cells #[.int .i64 s0, .int .i64 s1, .slice A2 n2 k2, .slice A3 n3 k3] 33)).cell? ⟨w.heap.size, 1, none⟩ = some (.int .i64 s1) := (cell_of_row _ _ 1 _ _ (0, 0) kE).trans rfl
  have x2 : (w.alloc (.cells #[.int .i64 s0, .int .i64 s1, .slice A2 n2 k2, .slice A3 n3 k3] 33)).cell? ⟨w.heap.size, 2, none⟩ = some (.slice A2 n2 k2) := (cell_of_row _ _ 2 _ _ (0, 0) kE).trans rfl
  have x3 : (w.alloc (.cells #[.int .i64 s0, .int .i64 s1, .slice A2 n2 k2, .slice A3 n3 k3] 33)).cell? ⟨w.heap.size, 3, none⟩ = some (.slice A3 n3 k3) := (cell_of_row _ _ 3 _ _ (0, 0) kE).trans rfl
  clear kE
  have hbt : w.heap.size < (w.alloc (.cells #[.int .i64 s0, .int .i64 s1, .slice A2 n2 k2, .slice A3 n3 k3] 33)).drew.heap.size := by show _ < (w.alloc _).heap.size; rw [World.size_alloc]; omega
  have hbt2 := hW0.size
  have t2' := t2.below hW0 (.inr (Nat.le_refl _))
  have t3' := t3.below hW0 (.inr (Nat.le_refl _))
  have q1 := hide (followS_calls s0 s1 A2 n2 k2 A3 n3 k3 A1 n1 c1 S lab ls es _ lo hi lo1 hi1 t2' t3' (t1.below hW0 (.inr (Nat.le_refl _))) (by omega) hes hval)
  have q2 := hide fun (A : Option Addr) (n c : Nat) (W : World) (lo5 hi5 : Nat) (hb : Below (w.alloc (.cells #[.int .i64 s0, .int .i64 s1, .slice A2 n2 k2, .slice A3 n3 k3] 33)).drew.heap.size (w.alloc (.cells #[.int .i64 s0, .int .i64 s1, .slice A2 n2 k2, .slice A3 n3 k3] 33)).drew W) (h : SlI W lo5 hi5 A n (folV es ls lab S)) => internal_calls s0 s1 A2 n2 k2 A3 n3 k3 A n c _ ls es W lo hi lo5 hi5 (t2'.below hb (.inr (Nat.le_refl _))) (t3'.below hb (.inr (Nat.le_refl _))) h (by have h1 := h.len; have h2 := folV_len es ls lab S; omega) hes hval
  have hvm : Hid (∀ v, TauC es ls (· ∈ folV es ls lab S) v ↔ VisC es ls (· ∈ S) lab v) := fun v => TauC.congr (fun u => folV_mem) v
  have hfl := hide (folV_len es ls lab S)
  replace hW0 := hide hW0
  replace he3 := hide he3
  clear t1 t2 t3 t2' t3' l3 hval
  go_enter Tryz.func185, Tryz.ntmps185
  go_upto_region 1 with fail
  go_region_held3 (fun w' => w'.cell? ⟨w.heap.size, 0, none⟩ = some (.int .i64 s0) ∧ w'.cell? ⟨w.heap.size, 1, none⟩ = some (.int .i64 s1) ∧ w'.cell? ⟨w.heap.size, 2, none⟩ = some (.slice A2 n2 k2) ∧ w'.cell? ⟨w.heap.size, 3, none⟩ = some (.slice A3 n3 k3)) (first | exact ⟨x0, x1, x2, x3⟩ | exact ⟨z0, z1, z2, z3⟩ | exact ⟨v0, v1, v2, v3⟩ | go_keep)
    (first
      | (go_at_call 131; (with_reducible refine q1.out.mono ?_); rintro e w5 ⟨Af, nf, cf, rfl, hof, hb5⟩; have z0 := (hb5.cell (p := ⟨w.heap.size, 0, none⟩) hbt).trans x0; have z1 := (hb5.cell (p := ⟨w.heap.size, 1, none⟩) hbt).trans x1; have z2 := (hb5.cell (p := ⟨w.heap.size, 2, none⟩) hbt).trans x2; have z3 := (hb5.cell (p := ⟨w.heap.size, 3, none⟩) hbt).trans x3; have hnf := hof.len; have hz5 := hb5.size; have q3 := hide (q2.out Af nf cf w5 _ _ hb5 (hof.sl flat_iv)); replace hof := hide hof; replace hb5 := hide hb5)
      | (go_at_call 184; (with_reducible refine q3.out.mono ?_); rintro e w6 ⟨Ai, ni, ci, Ri, rfl, hsi, hmi, hni, hb6⟩; have v0 := (hb6.cell (p := ⟨w.heap.size, 0, none⟩) (Nat.lt_of_lt_of_le hbt hz5)).trans z0; have v1 := (hb6.cell (p := ⟨w.heap.size, 1, none⟩) (Nat.lt_of_lt_of_le hbt hz5)).trans z1; have v2 := (hb6.cell (p := ⟨w.heap.size, 2, none⟩) (Nat.lt_of_lt_of_le hbt hz5)).trans z2; have v3 := (hb6.cell (p := ⟨w.heap.size, 3, none⟩) (Nat.lt_of_lt_of_le hbt hz5)).trans z3; replace hsi := hide hsi; replace hmi := hide hmi; replace hb6 := hide hb6))
  go_wp2_with fail
  go_ret
  exact ⟨Ai, ni, ci, Ri, rfl, hsi.out.more (by omega) (Nat.le_refl _), fun v => (hmi.out v).trans (hvm.out v), by have := hfl.out; have := he3.out; omega, hW0.out.trans ((hb5.out.mono hbt2).trans (hb6.out.mono (by omega)))⟩

set_option maxRecDepth 100000 in
set_option maxHeartbeats 3200000 in
theorem after_calls (s0 s1 : Int) (A2 : Option Addr) (n2 k2 : Nat) (A3 : Option Addr) (n3 k3 : Nat) (A1 : Option Addr) (n1 c1 : Nat) (tr : List ByteArray) (ls : List ByteArray) (es : List Ed) (w : World) (lo hi lo1 hi1 : Nat)
    (t2 : SlS w lo hi A2 n2 ls) (t3 : SlE w lo hi A3 n3 es) (t1 : SlS w lo1 hi1 A1 n1 tr) (hS : n1 ≤ 1048576) (hes : n3 ≤ 1048576) (hval : ltsV (s0, s1, ls, es) = true) :
    Calls Tryz.prog 142 #[.agg #[.int .i64 s0, .int .i64 s1, .slice A2 n2 k2, .slice A3 n3 k3], .slice A1 n1 c1] w fun e w' => ∃ A n c R, e = .returned (.slice A n c) ∧ SlI w' w.heap.size w'.heap.size A n R ∧ (∀ v, v ∈ R ↔ AftC es ls (· = s1) tr v) ∧ n ≤ 340 ∧ Below w.heap.size w w' := by
  have l1 := hide t1.len
  have hW0 := hide (show Below w.heap.size w (w.alloc (.cells #[.int .i64 s0, .int .i64 s1, .slice A2 n2 k2, .slice A3 n3 k3] 33)) from (Below.refl _ _).alloc (Nat.le_refl _) _)
  have kE := heap_alloc_new w (.cells #[.int .i64 s0, .int .i64 s1, .slice A2 n2 k2, .slice A3 n3 k3] 33)
  have hbt : w.heap.size < (w.alloc (.cells #[.int .i64 s0, .int .i64 s1, .slice A2 n2 k2, .slice A3 n3 k3] 33)).heap.size := by rw [World.size_alloc]; omega
  have x0 : (w.alloc (.cells #[.int .i64 s0, .int .i64 s1, .slice A2 n2 k2, .slice A3 n3 k3] 33)).cell? ⟨w.heap.size, 0, none⟩ = some (.int .i64 s0) := (cell_of_row _ _ 0 _ _ (0, 0) kE).trans rfl
  have x1 : (w.alloc (.cells #[.int .i64 s0, .int .i64 s1, .slice A2 n2 k2, .slice A3 n3 k3] 33)).cell? ⟨w.heap.size, 1, none⟩ = some (.int .i64 s1) := (cell_of_row _ _ 1 _ _ (0, 0) kE).trans rfl
  have x2 : (w.alloc (.cells #[.int .i64 s0, .int .i64 s1, .slice A2 n2 k2, .slice A3 n3 k3] 33)).cell? ⟨w.heap.size, 2, none⟩ = some (.slice A2 n2 k2) := (cell_of_row _ _ 2 _ _ (0, 0) kE).trans rfl
  have x3 : (w.alloc (.cells #[.int .i64 s0, .int .i64 s1, .slice A2 n2 k2, .slice A3 n3 k3] 33)).cell? ⟨w.heap.size, 3, none⟩ = some (.slice A3 n3 k3) := (cell_of_row _ _ 3 _ _ (0, 0) kE).trans rfl
  clear kE
  go_enter Tryz.func142, Tryz.ntmps142
  go_upto_region 1 with fail
  generalize hWW : (w.alloc (.cells #[.int .i64 s0, .int .i64 s1, .slice A2 n2 k2, .slice A3 n3 k3] 33)) = W0 at *
  clear hWW
  have hbt1 : w.heap.size + 1 ≤ W0.heap.size := hbt
  have hA : Below W0.heap.size W0 (W0.alloc (.cells #[.int .i64 s1] 2)) := (Below.refl _ _).alloc (Nat.le_refl _) _
  have hwA := hW0.out.trans (hA.mono (by omega))
  have q0 := hide (internal_calls s0 s1 A2 n2 k2 A3 n3 k3 (some ⟨W0.heap.size, 0, none⟩) 1 1 [s1] ls es (W0.alloc (.cells #[.int .i64 s1] 2)) lo hi 0 (W0.heap.size + 1) (t2.below hwA (.inr (Nat.le_refl _))) (t3.below hwA (.inr (Nat.le_refl _))) (Sl.lit1' W0 2 s1 _ rfl 1 _ rfl) (by omega) hes hval)
  have hone : Hid (∀ v, TauC es ls (· ∈ [s1]) v ↔ AftC es ls (· = s1) (tr.take 0) v) := fun v => TauC.congr (fun u => List.mem_singleton) v
  have q1 := hide fun (S : List Int) (lab : ByteArray) (A : Option Addr) (n c : Nat) (W : World) (hb : Below w.heap.size w W) (lo5 hi5 : Nat) (h : SlI W lo5 hi5 A n S) (hn : n ≤ 340) => visible_calls s0 s1 A2 n2 k2 A3 n3 k3 A n c S lab ls es W lo hi lo5 hi5 (t2.below hb (.inr (Nat.le_refl _))) (t3.below hb (.inr (Nat.le_refl _))) h (by omega) hes hval
  have hAs : (W0.alloc (.cells #[.int .i64 s1] 2)).heap.size = W0.heap.size + 1 := by rw [World.size_alloc]
  replace hA := hide hA
  replace hAs := hide hAs
  replace t1 := hide t1
  clear t2 t3 hval hwA
  go_upto_region 3 with (first | (go_at_call 184; (with_reducible refine (q0.out).mono ?_); rintro e wx ⟨A0, n0, c0, R0, rfl, hs0, hm0, hn0, hb0⟩))
  have hz0 := hb0.size
  have hbx := hide (hA.out.trans (hb0.mono hA.out.size))
  replace hs0 := hide hs0
  have hm1 : Hid (∀ v, v ∈ R0 ↔ AftC es ls (· = s1) (tr.take 0) v) := fun v => (hm0 v).trans (hone.out v)
  have hzA : W0.heap.size + 1 ≤ wx.heap.size := by have := hAs.out; omega
  go_loopg [5, 15] n1 (fun G o i wr => ∃ k m c A R, k ≤ n1 ∧ o = .slice A m c ∧ i = .int .i64 (k : Nat) ∧ Hid (SlI wr W0.heap.size wr.heap.size A m R) ∧ Hid (∀ v, v ∈ R ↔ AftC es ls (· = s1) (tr.take k) v) ∧ m ≤ 340 ∧ Hid (n1 ≤ G + k) ∧ Below W0.heap.size W0 wr)
  case atStart => exact ⟨0, n0, c0, A0, R0, Nat.zero_le _, rfl, rfl, hs0.out.more (by have := hAs.out; omega) (Nat.le_refl _), hm1, by omega, by show _ ≤ _; omega, hbx.out⟩
  case round =>
    clear hs0 hm1 hm0 hb0 hbx hone q0 hzA hz0
    obtain ⟨k, m, c, A, R, hk, rfl, rfl, hsl, hm, hm4, hG, hb⟩ := hrel
    have hz := hb.size
    have hwb := hW0.out.trans (hb.mono (by omega))
    by_cases hlt : k < n1
    · obtain ⟨G3, rfl⟩ : ∃ G3, gk = G3 + 1 := ⟨gk - 1, by have := hG.out; omega⟩
      have hG3 : Hid (n1 ≤ G3 + (k + 1)) := by have := hG.out; show _ ≤ _; omega
      obtain ⟨b, off, lab, rfl, -, -, gb, hx, px, -⟩ := SlS.get (t1.out.below hwb (.inr (Nat.le_refl _))) hlt
      have y0 := (hb.cell (p := ⟨w.heap.size, 0, none⟩) hbt).trans x0
      have y1 := (hb.cell (p := ⟨w.heap.size, 1, none⟩) hbt).trans x1
      have y2 := (hb.cell (p := ⟨w.heap.size, 2, none⟩) hbt).trans x2
      have y3 := (hb.cell (p := ⟨w.heap.size, 3, none⟩) hbt).trans x3
      have hI0 : (0 : Int) ≤ (k : Int) := by omega
      have hI1 : (k : Int) < (n1 : Int) := by omega
      have q2 := hide (q1.out R lab A m c wr hwb _ _ hsl.out hm4)
      have hsu := AftC_succ (es := es) (ls := ls) (P := (· = s1)) hx
      have hnx : Hid (∀ v, VisC es ls (· ∈ R) lab v ↔ AftC es ls (· = s1) (tr.take (k + 1)) v) := fun v => by rw [hsu]; exact VisC.congr hm.out lab v
      replace hb := hide hb
      replace hwb := hide hwb
      clear hx hsu hsl hm
      go_wp2_with (first | (go_at_call 185; (with_reducible refine q2.out.mono ?_); rintro e w5 ⟨A5, n5, c5, R5, rfl, hs5, hm5, hn5, hb5⟩))
      have hm6 : Hid (∀ v, v ∈ R5 ↔ AftC es ls (· = s1) (tr.take (k + 1)) v) := fun v => (hm5 v).trans (hnx.out v)
      have hs6 := hide (hs5.more (show W0.heap.size ≤ wr.heap.size from hz) (Nat.le_refl _))
      have hb6 := hb.out.trans (hb5.mono hz)
      clear hm5 hs5 hb5 hb
      go_roundg G3
      case measure => omega
      case rel => exact ⟨k + 1, n5, c5, A5, R5, by omega, rfl, by go_num, hs6, hm6, hn5, hG3, hb6⟩
    · have hkn : k = n1 := by omega
      subst hkn
      have hall : tr.take k = tr := List.take_of_length_le (by rw [l1.out]; exact Nat.le_refl _)
      rw [hall] at hm
      replace hwb := hide hwb
      replace hb := hide hb
      go_wp2_with fail
      go_ret
      exact ⟨_, _, _, R, rfl, hsl.out.more (by omega) (Nat.le_refl _), hm.out, hm4, hwb.out⟩

end Go.Proofs.YtiaclddgllkgpaaGreatDoor
