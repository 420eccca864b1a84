/-
  A monitor's next state, by the reference and by the program. Conditions: sizes.
-/
import Derived.Test.YtiaclddgllkgpaaGreatDoorBaseE
import Derived.Test.YtiaclddgllkgpaaGreatDoorBaseD
namespace Go.Proofs.YtiaclddgllkgpaaGreatDoor
open Go.ChangeShapes Go.WideShapes Go.ChangeAt Go.RowKit Go.Sort
set_option linter.unusedVariables false
set_option linter.unusedSimpArgs false

/-- The verdict of a state. -/
def verM (d : DM) (s : Int) : Int := (d.2[s.toNat]?).getD 0
/-- The state behind a label; -1 if there is none. -/
def nextM (d : DM) (lab : ByteArray) (s : Int) : Int := if verM d s = 0 then goE d.1.2.2.2 d.1.2.2.1 lab s else s
theorem monV_det {d : DM} (h : monV d = true) : detV d.1 = true := by
  unfold monV at h
  rw [Bool.and_eq_true] at h
  exact h.1
theorem monV_lts {d : DM} (h : monV d = true) : ltsV d.1 = true := by
  have := monV_det h
  unfold detV at this
  rw [Bool.and_eq_true] at this
  exact this.1
theorem monV_len {d : DM} (h : monV d = true) : (d.2.length : Int) = d.1.1 := by
  unfold monV at h
  simp only [Bool.and_eq_true, decide_eq_true_eq] at h
  exact h.2.1
theorem lts_states {st ini : Int} {ls : List ByteArray} {es : List Ed} (h : ltsV (st, ini, ls, es) = true) : (1 ≤ st ∧ st ≤ 40) ∧ (0 ≤ ini ∧ ini ≤ st - 1) := by
  unfold ltsV ltsB at h
  simp only [Bool.and_eq_true] at h
  exact ⟨inB_true.1 h.1.1.1.1, inB_true.1 h.1.1.1.2⟩
theorem goE_range {st ini : Int} {ls : List ByteArray} {es : List Ed} (h : ltsV (st, ini, ls, es) = true) (lab : ByteArray) (s : Int) : -1 ≤ goE es ls lab s ∧ goE es ls lab s ≤ st - 1 := by
  have hst := (lts_states h).1
  unfold goE
  cases hf : folE es ls lab s with
  | nil => simp; omega
  | cons a t =>
    have : a ∈ folE es ls lab s := by rw [hf]; simp
    unfold folE at this
    obtain ⟨⟨f, lb, tg⟩, he, rfl⟩ := List.mem_map.1 this
    obtain ⟨k, hk⟩ := List.getElem?_of_mem (List.mem_filter.1 he).1
    have := (edge_of h hk).2.1
    simp
    omega
theorem nextM_range {d : DM} (h : monV d = true) (lab : ByteArray) {s : Int} (h0 : 0 ≤ s) (h1 : s < d.1.1) : -1 ≤ nextM d lab s ∧ nextM d lab s < d.1.1 := by
  obtain ⟨⟨st, ini, ls, es⟩, vs⟩ := d
  have hr := goE_range (monV_lts h) lab s
  dsimp only at h1 hr ⊢
  unfold nextM
  dsimp only
  split
  · omega
  · omega

theorem l11State_calls (bt : Nat) (x : CL) (d : DL) (s : Int) (w : World) (h : LtsAt w bt x d) (hval : ltsV d = true) :
    Calls Tryz.prog 74 #[.pointer (some ⟨bt, 0, none⟩), .int .i64 s] w fun e w' => e = .returned (.bool (inB s 0 (d.1 - 1))) ∧ w = w' := by
  obtain ⟨s0, s1, v2, v3⟩ := x
  obtain ⟨st, ini, ls, es⟩ := d
  have hst := (lts_states hval).1
  obtain ⟨⟨e0, -, -, -⟩, -, -, c0, -, -, -⟩ := h
  dsimp only at *
  subst e0
  have h1 := hst.1
  have h2 := hst.2
  have q := hide (l00In_calls s 0 (s0 - 1) w)
  clear hst hval
  go_enter Tryz.func74, Tryz.ntmps74
  go_wp2_with fail
  refine q.out.mono ?_
  rintro e w' ⟨rfl, rfl⟩
  go_wp2_with fail
  go_ret
  exact ⟨rfl, rfl⟩

set_option maxRecDepth 100000 in
set_option maxHeartbeats 800000 in
theorem l30Next_calls (bm : Nat) (x : CL) (A4 : Option Addr) (n4 k4 : Nat) (d : DL) (vs : List Int) (s : Int) (lab : ByteArray) (w : World) (h : LtsAt w bm x d) (hc4 : w.cell? ⟨bm, 4, none⟩ = some (.slice A4 n4 k4)) (t4 : SlI w 0 w.heap.size A4 n4 vs)
    (hval : monV (d, vs) = true) (h0 : 0 ≤ s) (h1 : s < d.1) :
    Calls Tryz.prog 76 #[.pointer (some ⟨bm, 0, none⟩), .int .i64 s, .string lab] w fun e w' => e = .returned (.int .i64 (nextM (d, vs) lab s)) ∧ Below w.heap.size w w' := by
  have hlen := monV_len hval
  have l4 := t4.len
  have q := hide (l12Go_calls bm x d s lab w h (monV_lts hval))
  dsimp only at hlen
  have hsn : s.toNat < n4 := by omega
  have hsI : s < (n4 : Int) := by omega
  obtain ⟨b, off, v, rfl, -, -, -, hx, p0, -⟩ := SlI.get t4 hsn
  have hver : verM (d, vs) s = v := by unfold verM; rw [hx]; rfl
  have hn : nextM (d, vs) lab s = if v = 0 then goE d.2.2.2 d.2.2.1 lab s else s := by unfold nextM; rw [hver]
  clear hlen l4 t4 hx hver hval h h1
  by_cases hv : v = 0
  · rw [if_pos hv] at hn
    replace hn := hide hn
    subst hv
    go_enter Tryz.func76, Tryz.ntmps76
    go_wp2_with fail
    refine q.out.mono ?_
    rintro e w' ⟨rfl, hb⟩
    go_wp2_with fail
    go_ret
    exact ⟨ret_i (by rw [hn.out]), hb⟩
  · rw [if_neg hv] at hn
    replace hn := hide hn
    have hvb : (v != 0) = true := by rw [bne_iff_ne]; exact hv
    clear q hv
    go_enter Tryz.func76, Tryz.ntmps76
    go_wp2_with fail
    go_ret
    exact ⟨ret_i (by rw [hn.out]), Below.refl _ _⟩

set_option maxRecDepth 100000 in
set_option maxHeartbeats 800000 in
theorem observe_calls (s0 s1 : Int) (A2 : Option Addr) (n2 k2 : Nat) (A3 : Option Addr) (n3 k3 : Nat) (A4 : Option Addr) (n4 k4 : Nat) (vs : List Int) (s : Int) (lab : ByteArray) (ls : List ByteArray) (es : List Ed) (w : World) (lo hi : Nat)
    (t2 : SlS w lo hi A2 n2 ls) (t3 : SlE w lo hi A3 n3 es) (t4 : SlI w lo hi A4 n4 vs) (hes : n3 ≤ 1048576) (hval : monV ((s0, s1, ls, es), vs) = true) (h0 : 0 ≤ s) (h1 : s < s0) :
    Calls Tryz.prog 79 #[.agg #[.int .i64 s0, .int .i64 s1, .slice A2 n2 k2, .slice A3 n3 k3, .slice A4 n4 k4], .int .i64 s, .string lab] w fun e w' => e = .returned (.int .i64 (nextM ((s0, s1, ls, es), vs) lab s)) ∧ Below w.heap.size w w' := by
  have hlen := monV_len hval
  have l4 := t4.len
  dsimp only at hlen
  have hbW : Below w.heap.size w (w.alloc (.cells #[.int .i64 s0, .int .i64 s1, .slice A2 n2 k2, .slice A3 n3 k3, .slice A4 n4 k4] 35)) := (Below.refl _ _).alloc (Nat.le_refl _) _
  have q := hide (step_calls s0 s1 A2 n2 k2 A3 n3 k3 s lab ls es _ lo hi (t2.below hbW (.inr (Nat.le_refl _))) (t3.below hbW (.inr (Nat.le_refl _))) hes (monV_det hval))
  have hsn : s.toNat < n4 := by omega
  have hsI : s < (n4 : Int) := by omega
  obtain ⟨b, off, v, rfl, -, -, g3, hx, p0, -⟩ := SlI.get t4 hsn
  replace p0 := (hbW.cell (p := ⟨b, off + s.toNat, none⟩) g3).trans p0
  have hver : verM ((s0, s1, ls, es), vs) s = v := by unfold verM; rw [hx]; rfl
  have hn : nextM ((s0, s1, ls, es), vs) lab s = if v = 0 then goE es ls lab s else s := by unfold nextM; rw [hver]
  have hbz := hbW.size
  replace hbW := hide hbW
  clear hlen l4 t2 t3 t4 hx hver hval h1
  by_cases hv : v = 0
  · rw [if_pos hv] at hn
    replace hn := hide hn
    subst hv
    go_enter Tryz.func79, Tryz.ntmps79
    go_wp2_with fail
    refine q.out.mono ?_
    rintro e w' ⟨rfl, hb⟩
    replace hb := hide hb
    go_wp2_with fail
    go_ret
    exact ⟨ret_i (by rw [hn.out]), hbW.out.trans (hb.out.mono hbz)⟩
  · rw [if_neg hv] at hn
    replace hn := hide hn
    have hvb : (v != 0) = true := by rw [bne_iff_ne]; exact hv
    clear q hv
    go_enter Tryz.func79, Tryz.ntmps79
    go_wp2_with fail
    go_ret
    exact ⟨ret_i (by rw [hn.out]), hbW.out⟩

end Go.Proofs.YtiaclddgllkgpaaGreatDoor
