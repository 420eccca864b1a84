/-
  slices.ContainsFunc at a function value that is asked of the list's own elements. Conditions: at most 1048576 elements.
-/
import Derived.Test.YtiaclddgllkgpaaGreatDoorBaseB
namespace Go.Proofs.YtiaclddgllkgpaaGreatDoor
open Go.ChangeShapes Go.WideShapes Go.ChangeAt Go.RowKit
set_option linter.unusedVariables false

set_option maxRecDepth 100000 in
theorem indexFuncM_calls (F : FuncId) (caps : Array Value) (G : Int → Bool) (A : Option Addr) (n c : Nat) (l : List Int) (w : World) (lo hi : Nat) (h : SlI w lo hi A n l) (hn : n ≤ 1048576)
    (hF : ∀ (v : Value) (W : World), Sem.run Tryz.prog (callFunc F (#[v] ++ caps)) W = .ok (.enter F (#[v] ++ caps)) W)
    (hcl : ∀ (v : Int), v ∈ l → ∀ (W : World), Below w.heap.size w W → Calls Tryz.prog F (#[.int .i64 v] ++ caps) W (Says (G v) W)) :
    Calls Tryz.prog 115 #[.slice A n c, .func (.func F) #[] caps] w fun e w' => ∃ i : Int, e = .returned (.int .i64 i) ∧ decide (0 ≤ i) = l.any G ∧ Below w.heap.size w w' := by
  have hlen := hide h.len
  replace hcl := hide hcl
  go_enter Tryz.func115, Tryz.ntmps115
  go_wp2
  go_loopw [8] (fun i wr => ∃ k : Nat, k ≤ n ∧ i = .int .i64 k ∧ Below w.heap.size w wr ∧ Hid ((l.take k).any G = false)) (fun i _ => n - (intOf i).toNat)
  case atStart => exact ⟨0, Nat.zero_le _, rfl, Below.refl _ _, rfl⟩
  case round =>
    obtain ⟨k, hk, rfl, hb, ha⟩ := hrel
    by_cases hlt : k < n
    · obtain ⟨b, off, x, rfl, g1, g2, g3, hx, c0, -⟩ := h.get hlt
      replace c0 := (hb.cell (p := ⟨b, off + k, none⟩) g3).trans c0
      have hc := hcl.out x (List.mem_of_getElem? hx) wr hb
      replace hx := hide hx
      clear h hcl
      by_cases hg : G x = true
      · rw [hg] at hc
        replace hc := hide hc
        have hy := hide (any_hit hx.out hg)
        clear hg
        go_wp2_with fail
        refine hc.out.mono ?_
        rintro e w1 ⟨rfl, hb1⟩
        go_wp2_with fail
        go_ret
        exact ⟨_, rfl, by rw [hy.out]; simp, hb.trans (hb1.mono hb.size)⟩
      · replace hg := Bool.eq_false_iff.2 hg
        rw [hg] at hc
        replace hc := hide hc
        have hy := hide (any_take_succ ha.out hx.out hg)
        clear hg
        go_wp2_with fail
        refine hc.out.mono ?_
        rintro e w1 ⟨rfl, hb1⟩
        go_wp2_with fail
        go_roundw
        case rel => exact ⟨k + 1, by omega, by go_num, hb.trans (hb1.mono hb.size), hy⟩
        case measure => simp [intOf]; omega
    · have hkn : k = n := by omega
      subst hkn
      clear hcl
      go_wp2
      go_ret
      have hy := ha.out
      rw [List.take_of_length_le (by rw [hlen.out]; exact Nat.le_refl _)] at hy
      exact ⟨_, rfl, by rw [hy]; decide, hb⟩

theorem containsFuncM_calls (F : FuncId) (caps : Array Value) (G : Int → Bool) (A : Option Addr) (n c : Nat) (l : List Int) (w : World) (lo hi : Nat) (h : SlI w lo hi A n l) (hn : n ≤ 1048576)
    (hF : ∀ (v : Value) (W : World), Sem.run Tryz.prog (callFunc F (#[v] ++ caps)) W = .ok (.enter F (#[v] ++ caps)) W)
    (hcl : ∀ (v : Int), v ∈ l → ∀ (W : World), Below w.heap.size w W → Calls Tryz.prog F (#[.int .i64 v] ++ caps) W (Says (G v) W)) :
    Calls Tryz.prog 60 #[.slice A n c, .func (.func F) #[] caps] w (Says (l.any G) w) := by
  have q := hide (indexFuncM_calls F caps G A n c l w lo hi h hn hF hcl)
  clear h hF hcl
  go_enter Tryz.func60, Tryz.ntmps60
  go_wp2_with fail
  refine q.out.mono ?_
  rintro e w1 ⟨i, rfl, hi, hb⟩
  replace hi := hide hi
  go_wp2_with fail
  go_ret
  exact ⟨ret_b hi.out.symm, hb⟩

end Go.Proofs.YtiaclddgllkgpaaGreatDoor
