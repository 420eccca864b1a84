/-
  slices.Clone, lists of expressions, and the code for bounds. Conditions: at most 1048576 elements.
-/
import Derived.Test.YtdjhpdmpibokhaaAssign
import Derived.Test.YtdjhpdmpibokhaaEval4
import Derived.Test.YtdjhpdmpibokhaaPostfix
namespace Go.Proofs.Ytdjhpdmpibokhaa
open Go.ChangeShapes Go.WideShapes Go.ChangeAt Go.RowKit
set_option linter.unusedVariables false

theorem elem_int64 : Elem Try.prog 44 2 1 8 := Elem.of (z := .int .i64 0) Try.underlying44 (by kernel_rfl) rfl (by omega) (by omega)

theorem cloneI_calls (A : Option Addr) (n c : Nat) (l : List Int) (w : World) (lo hi : Nat) (h : SlI w lo hi A n l) (hn : n ≤ 1048576) :
    Calls Try.prog 81 #[.slice A n c] w fun e w' => ∃ A' c', e = .returned (.slice A' n c') ∧ SlI w' w.heap.size w'.heap.size A' n l ∧ Below w.heap.size w w' := by
  have hnil : ∀ (W : World) (a : Option Addr) (m d : Nat), (binOp .eql 44 (.slice a m d) (.slice none 0 0)).run Try.prog W = .ok (.bool a.isNone) W := fun W a m d => Lib.run_eql_slice_nil W 44 _ a m d 0 0 Try.underlying44
  have hE := hide elem_int64
  cases A with
  | none =>
    have hn0 : n = 0 := by
      rcases Nat.eq_zero_or_pos n with h0 | h0
      · exact h0
      · obtain ⟨b, off, e, _⟩ := h.at_ h0
        cases e
    subst hn0
    have hl := List.eq_nil_of_length_eq_zero h.len
    subst hl
    go_enter Try.func81, Try.ntmps81
    go_wp2_with fail
    go_ret
    exact ⟨none, 0, rfl, Sl.nil_, Below.refl _ _⟩
  | some a =>
    have hs := hide (h.below ((Below.refl w.heap.size w).alloc (Nat.le_refl _) (.cells #[] 2)) (.inr (Nat.le_refl _)))
    have hz : w.heap.size ≤ (w.alloc (.cells #[] 2)).heap.size := by simp
    clear h
    go_enter Try.func81, Try.ntmps81
    go_wp2_with (first | (at_builtin; (with_reducible refine wpList_app rfl (.tmp 5) (.tmp 6) rfl hE.out flat_iv rfl (Own.made w 2 (Nat.le_refl _)) rfl hs.out ?c1 hz ?_); rotate_right; intro A2 c2 w2 hown2 hgr2 hb2 _))
    case c1 => omega
    go_ret
    rw [Nat.zero_add, List.nil_append] at hown2
    exact ⟨_, _, rfl, hown2.sl flat_iv, ((Below.refl _ _).alloc (Nat.le_refl _) _).trans hb2⟩

/-- A slice of slices of terms: the handles with what they hold. -/
def SlTT (w : World) (lo hi : Nat) (A : Option Addr) (n : Nat) (R : List ((Option Addr × Nat × Nat) × List (Int × Int))) : Prop :=
  Sl 1 sv w lo hi A n (R.map (·.1)) ∧ ∀ r ∈ R, SlT w lo hi r.1.1 r.1.2.1 r.2 ∧ r.1.2.1 ≤ 1048576

theorem SlTT.below {w w' : World} {lo hi n B : Nat} {A : Option Addr} {R : List ((Option Addr × Nat × Nat) × List (Int × Int))} (h : SlTT w lo hi A n R) (hb : Below B w w') (hB : hi ≤ B ∨ w.heap.size ≤ B) : SlTT w' lo hi A n R :=
  ⟨h.1.below hb hB, fun r hr => ⟨(h.2 r hr).1.below hb hB, (h.2 r hr).2⟩⟩
theorem SlTT.get {w : World} {lo hi n k : Nat} {A : Option Addr} {R : List ((Option Addr × Nat × Nat) × List (Int × Int))} (h : SlTT w lo hi A n R) (hk : k < n) :
    ∃ b off Ah nh ch s, A = some ⟨b, off, none⟩ ∧ lo ≤ b ∧ b < hi ∧ b < w.heap.size ∧ R[k]? = some ((Ah, nh, ch), s) ∧ w.cell? ⟨b, off + k, none⟩ = some (.slice Ah nh ch) ∧ SlT w lo hi Ah nh s ∧ nh ≤ 1048576 := by
  obtain ⟨b, off, e, g1, g2, g3, hc⟩ := h.1.at_ (by omega)
  have hl := h.1.len
  rw [List.length_map] at hl
  have hkl : k < R.length := by omega
  obtain ⟨⟨⟨Ah, nh, ch⟩, s⟩, hr⟩ : ∃ r, R[k]? = some r := ⟨_, List.getElem?_eq_getElem hkl⟩
  have h0 := (hc k (Ah, nh, ch) (by rw [List.getElem?_map, hr]; rfl) 0 _ rfl).1
  simp only [Nat.mul_one, Nat.add_zero] at h0
  have h1 := h.2 _ (List.mem_of_getElem? hr)
  exact ⟨b, off, Ah, nh, ch, s, e, g1, g2, g3, hr, h0, h1.1, h1.2⟩

set_option maxRecDepth 100000 in
theorem indexFuncTT_calls (F : FuncId) (caps : Array Value) (G : List (Int × Int) → Bool) (A : Option Addr) (n c : Nat) (R : List ((Option Addr × Nat × Nat) × List (Int × Int))) (w : World) (lo hi : Nat) (h : SlTT w lo hi A n R) (hn : n ≤ 1048576)
    (hF : ∀ (v : Value) (W : World), Sem.run Try.prog (callFunc F (#[v] ++ caps)) W = .ok (.enter F (#[v] ++ caps)) W)
    (hcl : ∀ (A : Option Addr) (m d : Nat) (l : List (Int × Int)) (W : World), Below w.heap.size w W → SlT W lo hi A m l → m ≤ 1048576 → Calls Try.prog F (#[.slice A m d] ++ caps) W (Says (G l) W)) :
    Calls Try.prog 98 #[.slice A n c, .func (.func F) #[] caps] w fun e w' => ∃ i : Int, e = .returned (.int .i64 i) ∧ decide (0 ≤ i) = (R.map (·.2)).any G ∧ Below w.heap.size w w' := by
  have hlen := hide h.1.len
  replace hcl := hide hcl
  replace h := hide h
  go_enter Try.func98, Try.ntmps98
  go_wp2
  go_loopw [8] (fun i wr => ∃ k : Nat, k ≤ n ∧ i = .int .i64 k ∧ Below w.heap.size w wr ∧ Hid (((R.map (·.2)).take k).any G = false)) (fun i _ => n - (intOf i).toNat)
  case atStart => exact ⟨0, Nat.zero_le _, rfl, Below.refl _ _, rfl⟩
  case round =>
    obtain ⟨k, hk, rfl, hb, ha⟩ := hrel
    by_cases hlt : k < n
    · obtain ⟨b, off, Ah, nh, ch, s, hA, g1, g2, g3, hx, c0, hs, hnh⟩ := (h.out.below hb (.inr (Nat.le_refl _))).get hlt
      subst hA
      have hc := hcl.out Ah nh ch s wr hb hs hnh
      have hx2 : (R.map (·.2))[k]? = some s := by rw [List.getElem?_map, hx]; rfl
      replace hx2 := hide hx2
      clear h hcl hx hs
      by_cases hg : G s = true
      · rw [hg] at hc
        replace hc := hide hc
        have hy := hide (any_hit hx2.out hg)
        clear hg
        go_wp2_with fail
        refine hc.out.mono ?_
        rintro e w1 ⟨rfl, hb1⟩
        go_wp2_with fail
        go_ret
        exact ⟨_, rfl, by rw [hy.out]; simp, hb.trans (hb1.mono hb.size)⟩
      · replace hg := Bool.eq_false_iff.2 hg
        rw [hg] at hc
        replace hc := hide hc
        have hy := hide (any_take_succ ha.out hx2.out hg)
        clear hg
        go_wp2_with fail
        refine hc.out.mono ?_
        rintro e w1 ⟨rfl, hb1⟩
        go_wp2_with fail
        go_roundw
        case rel => exact ⟨k + 1, by omega, by go_num, hb.trans (hb1.mono hb.size), hy⟩
        case measure => simp [intOf]; omega
    · have hkn : k = n := by omega
      subst hkn
      clear hcl
      go_wp2
      go_ret
      have hy := ha.out
      rw [List.take_of_length_le (by have := hlen.out; rw [List.length_map] at this ⊢; omega)] at hy
      exact ⟨_, rfl, by rw [hy]; decide, hb⟩

theorem containsFuncTT_calls (F : FuncId) (caps : Array Value) (G : List (Int × Int) → Bool) (A : Option Addr) (n c : Nat) (R : List ((Option Addr × Nat × Nat) × List (Int × Int))) (w : World) (lo hi : Nat) (h : SlTT w lo hi A n R) (hn : n ≤ 1048576)
    (hF : ∀ (v : Value) (W : World), Sem.run Try.prog (callFunc F (#[v] ++ caps)) W = .ok (.enter F (#[v] ++ caps)) W)
    (hcl : ∀ (A : Option Addr) (m d : Nat) (l : List (Int × Int)) (W : World), Below w.heap.size w W → SlT W lo hi A m l → m ≤ 1048576 → Calls Try.prog F (#[.slice A m d] ++ caps) W (Says (G l) W)) :
    Calls Try.prog 67 #[.slice A n c, .func (.func F) #[] caps] w (Says ((R.map (·.2)).any G) w) := by
  have q := hide (indexFuncTT_calls F caps G A n c R w lo hi h hn hF hcl)
  clear h hF hcl
  go_enter Try.func67, Try.ntmps67
  go_wp2_with fail
  refine q.out.mono ?_
  rintro e w1 ⟨i, rfl, hi, hb⟩
  replace hi := hide hi
  go_wp2_with fail
  go_ret
  exact ⟨ret_b hi.out.symm, hb⟩

end Go.Proofs.Ytdjhpdmpibokhaa
