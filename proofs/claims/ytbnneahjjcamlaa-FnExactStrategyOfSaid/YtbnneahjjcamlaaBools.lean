/-
  Lists of bool in memory: reading, writing, copies, and the functions that turn sets into lists of indices. Conditions: at most 1048576 elements.
-/
import Derived.Test.YtbnneahjjcamlaaArgI
import Derived.Test.YtbnneahjjcamlaaGame3
import Derived.Outline
import Derived.WalkSpells
namespace Go.Proofs.Ytbnneahjjcamlaa
open Go.ChangeShapes Go.WideShapes Go.ChangeAt Go.RowKit
set_option linter.unusedVariables false

/-- A bool. -/
def bv (b : Bool) : List Value := [.bool b]
abbrev SlB := Sl 1 bv
theorem flat_bv : Flat bv 1 := ⟨fun _ => rfl, fun x u h => by simp [bv] at h; subst h; rfl⟩
theorem info_bool : (Try.prog.info? 4).map (fun i => (i.zero, i.size, i.bytes)) = some (some (.bool false), 1, 1) := by kernel_rfl
theorem elem_bool : Elem Try.prog 36 4 1 1 := Elem.of Try.underlying36 info_bool rfl (by omega) (by omega)
theorem elem_int64 : Elem Try.prog 24 2 1 8 := Elem.of Try.underlying24 info_int64 rfl (by omega) (by omega)

section
variable {w w' : World} {lo hi n : Nat} {A : Option Addr}
theorem SlB.get {l : List Bool} (h : SlB w lo hi A n l) {k : Nat} (hk : k < n) :
    ∃ b off, A = some ⟨b, off, none⟩ ∧ lo ≤ b ∧ b < hi ∧ b < w.heap.size ∧ l[k]? = some (inS l k) ∧ w.cell? ⟨b, off + k, none⟩ = some (.bool (inS l k)) ∧ w.frozen? ⟨b, off + k, none⟩ = false := by
  obtain ⟨b, off, e, g1, g2, g3, hc⟩ := h.at_ (by omega)
  have hl : k < l.length := by rw [h.len]; exact hk
  have h0 := hc k (inS l k) (inS_get hl) 0 _ rfl
  simp only [Nat.mul_one, Nat.add_zero] at h0
  exact ⟨b, off, e, g1, g2, g3, inS_get hl, h0.1, h0.2⟩
theorem SlB.put {b off : Nat} {l : List Bool} (h : SlB w lo hi (some ⟨b, off, none⟩) n l) {k : Nat} (hk : k < n) (x : Bool) : SlB (w.setCell ⟨b, off + k, none⟩ (.bool x)) lo hi (some ⟨b, off, none⟩) n (l.set k x) := by
  have := h.putN hk (fun _ => rfl) x
  simpa [putCells, bv] using this
theorem SlI.put' {b off : Nat} {l : List Int} (h : SlI w lo hi (some ⟨b, off, none⟩) n l) {k : Nat} (hk : k < n) (x : Int) : SlI (w.setCell ⟨b, off + k, none⟩ (.int .i64 x)) lo hi (some ⟨b, off, none⟩) n (l.set k x) := h.put hk x
end

/-- Made by make([]bool, n). -/
theorem SlB.made (w : World) (n : Nat) : SlB (w.alloc (.cells (madeCells #[.bool false] n) 4)) w.heap.size (w.heap.size + 1) (some ⟨w.heap.size, 0, none⟩) n (setOf n fun _ => false) := by
  refine ⟨setOf_len _ _, fun hn => ⟨w.heap.size, 0, rfl, Nat.le_refl _, by omega, by simp, fun k x hx j u hu => ?_⟩⟩
  have hk : k < n := by
    have := (List.getElem?_eq_some_iff.1 hx).1
    rwa [setOf_len] at this
  rw [setOf_get hk] at hx
  cases hx
  have hj : j = 0 := by
    have := (List.getElem?_eq_some_iff.1 hu).1
    simp [bv] at this
    exact this
  subst hj
  simp [bv] at hu
  subst hu
  have hg := heap_alloc_new w (.cells (madeCells #[.bool false] n) 4)
  refine ⟨(cell_of_row _ _ _ _ _ (0, 0) hg).trans ?_, frozen_of_row _ _ _ _ _ hg⟩
  simp [madeCells, Value.cells, hk, Nat.mod_one]

theorem run_make_bool (n : Nat) (hn : n ≤ 1048576) (W : World) : (Instr.makeSlice 36 (.int .i64 (n : Int)) (.int .i64 (n : Int))).run Try.prog W = .ok (.slice (some ⟨W.heap.size, 0, none⟩) n n) (W.alloc (.cells (madeCells #[.bool false] n) 4)) := by
  obtain ⟨i0, hi0, hz0, hz1, hz2⟩ := info_parts info_bool
  have h := make_row (P := Try.prog) 36 4 i0 _ _ n Try.underlying36 hi0 hz0 hz1 (by rw [hz2]; omega) (by omega) W
  rw [Nat.mul_one] at h
  exact h

theorem cloneB_calls (A : Option Addr) (n c : Nat) (l : List Bool) (w : World) (lo hi : Nat) (h : SlB w lo hi A n l) (hn : n ≤ 1048576) :
    Calls Try.prog 126 #[.slice A n c] w fun e w' => ∃ A' c', e = .returned (.slice A' n c') ∧ SlB w' w.heap.size w'.heap.size A' n l ∧ Below w.heap.size w w' := by
  have hnil : ∀ (W : World) (a : Option Addr) (m d : Nat), (binOp .eql 36 (.slice a m d) (.slice none 0 0)).run Try.prog W = .ok (.bool a.isNone) W := fun W a m d => Lib.run_eql_slice_nil W 36 _ a m d 0 0 Try.underlying36
  have hE := hide elem_bool
  cases A with
  | none =>
    have hn0 : n = 0 := by
      rcases Nat.eq_zero_or_pos n with h0 | h0
      · exact h0
      · obtain ⟨b, off, e, _⟩ := h.at_ h0
        cases e
    subst hn0
    have hl := List.eq_nil_of_length_eq_zero h.len
    subst hl
    go_enter Try.func126, Try.ntmps126
    go_wp2_with fail
    go_ret
    exact ⟨none, 0, rfl, Sl.nil_, Below.refl _ _⟩
  | some a =>
    have hs := hide (h.below ((Below.refl w.heap.size w).alloc (Nat.le_refl _) (.cells #[] 4)) (.inr (Nat.le_refl _)))
    have hz : w.heap.size ≤ (w.alloc (.cells #[] 4)).heap.size := by simp
    clear h
    go_enter Try.func126, Try.ntmps126
    go_wp2_with (first | (at_builtin; (with_reducible refine wpList_app rfl (.tmp 5) (.tmp 6) rfl hE.out flat_bv rfl (Own.made w 4 (Nat.le_refl _)) rfl hs.out ?c1 hz ?_); rotate_right; intro A2 c2 w2 hown2 hgr2 hb2 _))
    case c1 => omega
    go_ret
    rw [Nat.zero_add, List.nil_append] at hown2
    exact ⟨_, _, rfl, hown2.sl flat_bv, ((Below.refl _ _).alloc (Nat.le_refl _) _).trans hb2⟩

theorem idxK_step {l : List Bool} {k : Nat} (hk : k < l.length) : ((List.range (k + 1)).filter (inS l)).map Int.ofNat = ((List.range k).filter (inS l)).map Int.ofNat ++ (if inS l k = true then [(k : Int)] else []) := by
  rw [List.range_succ, List.filter_append, List.map_append]
  congr 1
  by_cases h : inS l k = true <;> simp [List.filter_cons, h]
theorem idxK_len (l : List Bool) (k : Nat) : (((List.range k).filter (inS l)).map Int.ofNat).length ≤ k := by
  rw [List.length_map]
  exact Nat.le_trans (List.length_filter_le _ _) (by simp)

set_option maxHeartbeats 800000 in
theorem trueAt_calls (A : Option Addr) (n c : Nat) (l : List Bool) (w : World) (lo hi : Nat) (h : SlB w lo hi A n l) (hn : n ≤ 1048576) :
    Calls Try.prog 127 #[.slice A n c] w fun e w' => ∃ A' c', e = .returned (.slice A' (idxOf l).length c') ∧ Own 1 iv w' w.heap.size 2 A' (idxOf l).length c' (idxOf l) ∧ Below w.heap.size w w' := by
  have hE := hide elem_int64
  have hlen := hide h.len
  replace h := hide h
  go_enter Try.func127, Try.ntmps127
  go_wp2
  go_loopw [3, 8] (fun v i wr => ∃ (k : Nat) (A2 : Option Addr) (m c2 : Nat), k ≤ n ∧ i = .int .i64 k ∧ v = .slice A2 m c2 ∧ Own 1 iv wr w.heap.size 2 A2 m c2 (((List.range k).filter (inS l)).map Int.ofNat) ∧ Below w.heap.size w wr) (fun _ i _ => n - (intOf i).toNat)
  case atStart => exact ⟨0, none, 0, 0, Nat.zero_le _, rfl, rfl, Own.nil_ _ _ _, Below.refl _ _⟩
  case round =>
    obtain ⟨k, A2, m, c2, hk, rfl, rfl, hown, hb⟩ := hrel
    have hm : m ≤ k := by have := idxK_len l k; rw [hown.len] at this; exact this
    replace hown := hide hown
    by_cases hlt : k < n
    · obtain ⟨b, off, rfl, g1, g2, g3, hx, c0, -⟩ := SlB.get (h.out.below hb (.inr (Nat.le_refl _))) hlt
      have hst := idxK_step (l := l) (k := k) (by rw [hlen.out]; exact hlt)
      have hz := hb.size
      clear h hx
      by_cases hq : inS l k = true
      · rw [if_pos hq] at hst
        replace hst := hide hst
        rw [hq] at c0
        clear hq
        have hza : w.heap.size ≤ (wr.alloc (.cells #[.int .i64 (k : Int)] 2)).heap.size := by simp; omega
        go_wp2_with (first | (at_builtin; (with_reducible refine wpList_app rfl (.tmp 14) (.tmp 16) rfl hE.out flat_iv rfl (hown.out.alloc _) rfl (Sl.lit1' wr 2 (k : Int) _ rfl 1 _ ?c0) ?c1 hza ?_); rotate_right; intro A5 c5 w5 hown5 hgr5 hb5 _))
        case c0 => rfl
        case c1 => omega
        go_roundw
        case rel => exact ⟨k + 1, A5, _, c5, by omega, by go_num, rfl, by rw [hst.out]; exact hown5, (hb.alloc hz _).trans hb5⟩
        case measure => simp [intOf]; omega
      · rw [if_neg hq, List.append_nil] at hst
        replace hst := hide hst
        rw [Bool.eq_false_iff.2 hq] at c0
        clear hq
        go_wp2
        go_roundw
        case rel => exact ⟨k + 1, A2, m, c2, by omega, by go_num, rfl, by rw [hst.out]; exact hown.out, hb⟩
        case measure => simp [intOf]; omega
    · have hkn : k = n := by omega
      subst hkn
      clear h
      have hl2 := hlen.out
      go_wp2
      go_ret
      subst hl2
      have hown' := hown.out
      have hml : m = (idxOf l).length := hown'.len.symm
      subst hml
      exact ⟨A2, c2, rfl, hown', hb⟩

set_option maxHeartbeats 800000 in
theorem l15True_calls (A : Option Addr) (n c : Nat) (l : List Bool) (w : World) (lo hi : Nat) (h : SlB w lo hi A n l) (hn : n ≤ 1048576) :
    Calls Try.prog 123 #[.slice A n c] w fun e w' => ∃ A' c', e = .returned (.slice A' (idxOf l).length c') ∧ Own 1 iv w' w.heap.size 2 A' (idxOf l).length c' (idxOf l) ∧ Below w.heap.size w w' := by
  have hE := hide elem_int64
  have hlen := hide h.len
  replace h := hide h
  go_enter Try.func123, Try.ntmps123
  go_wp2
  go_loopw [3, 4] (fun v i wr => ∃ (k : Nat) (A2 : Option Addr) (m c2 : Nat), k ≤ n ∧ i = .int .i64 k ∧ v = .slice A2 m c2 ∧ Own 1 iv wr w.heap.size 2 A2 m c2 (((List.range k).filter (inS l)).map Int.ofNat) ∧ Below w.heap.size w wr) (fun _ i _ => n - (intOf i).toNat)
  case atStart => exact ⟨0, _, 0, 0, Nat.zero_le _, rfl, rfl, Own.made w _ (Nat.le_refl _), (Below.refl _ _).alloc (Nat.le_refl _) _⟩
  case round =>
    obtain ⟨k, A2, m, c2, hk, rfl, rfl, hown, hb⟩ := hrel
    have hm : m ≤ k := by have := idxK_len l k; rw [hown.len] at this; exact this
    replace hown := hide hown
    by_cases hlt : k < n
    · obtain ⟨b, off, rfl, g1, g2, g3, hx, c0, -⟩ := SlB.get (h.out.below hb (.inr (Nat.le_refl _))) hlt
      have hst := idxK_step (l := l) (k := k) (by rw [hlen.out]; exact hlt)
      have hz := hb.size
      clear h hx
      by_cases hq : inS l k = true
      · rw [if_pos hq] at hst
        replace hst := hide hst
        rw [hq] at c0
        clear hq
        have hza : w.heap.size ≤ (wr.alloc (.cells #[.int .i64 (k : Int)] 2)).heap.size := by simp; omega
        go_wp2_with (first | (at_builtin; (with_reducible refine wpList_app rfl (.tmp 16) (.tmp 18) rfl hE.out flat_iv rfl (hown.out.alloc _) rfl (Sl.lit1' wr 2 (k : Int) _ rfl 1 _ ?c0) ?c1 hza ?_); rotate_right; intro A5 c5 w5 hown5 hgr5 hb5 _))
        case c0 => rfl
        case c1 => omega
        go_roundw
        case rel => exact ⟨k + 1, A5, _, c5, by omega, by go_num, rfl, by rw [hst.out]; exact hown5, (hb.alloc hz _).trans hb5⟩
        case measure => simp [intOf]; omega
      · rw [if_neg hq, List.append_nil] at hst
        replace hst := hide hst
        rw [Bool.eq_false_iff.2 hq] at c0
        clear hq
        go_wp2
        go_roundw
        case rel => exact ⟨k + 1, A2, m, c2, by omega, by go_num, rfl, by rw [hst.out]; exact hown.out, hb⟩
        case measure => simp [intOf]; omega
    · have hkn : k = n := by omega
      subst hkn
      clear h
      have hl2 := hlen.out
      go_wp2
      go_ret
      subst hl2
      have hown' := hown.out
      have hml : m = (idxOf l).length := hown'.len.symm
      subst hml
      exact ⟨A2, c2, rfl, hown', hb⟩

theorem indexTrue_calls (A : Option Addr) (n c : Nat) (l : List Bool) (w : World) (lo hi : Nat) (h : SlB w lo hi A n l) (hn : n ≤ 1048576) :
    Calls Try.prog 144 #[.slice A n c, .bool true] w fun e w' => ∃ i : Int, e = .returned (.int .i64 i) ∧ decide (0 ≤ i) = anyS l ∧ w = w' := by
  have hlen := hide h.len
  go_enter Try.func144, Try.ntmps144
  go_wp2
  go_loop [8] (fun i => ∃ k : Nat, k ≤ n ∧ i = .int .i64 k ∧ Hid (∀ j, j < k → inS l j = false)) (fun i => n - (intOf i).toNat)
  case atStart => exact ⟨0, Nat.zero_le _, rfl, fun j hj => absurd hj (by omega)⟩
  case round =>
    obtain ⟨k, hk, rfl, ha⟩ := hrel
    by_cases hlt : k < n
    · obtain ⟨b, off, rfl, g1, g2, g3, hx, c0, -⟩ := h.get hlt
      clear h hx
      by_cases hq : inS l k = true
      · have hy := hide (anyS_of (by rw [hlen.out]; exact hlt) hq)
        rw [hq] at c0
        clear hq
        go_wp2
        go_ret
        exact ⟨_, rfl, by rw [hy.out]; simp, rfl⟩
      · have hy : Hid (∀ j, j < k + 1 → inS l j = false) := fun j hj => by
          rcases Nat.lt_or_ge j k with h1 | h1
          · exact ha.out j h1
          · have : j = k := by omega
            subst this
            exact Bool.eq_false_iff.2 hq
        rw [Bool.eq_false_iff.2 hq] at c0
        clear hq
        go_wp2
        go_round
        case rel => exact ⟨k + 1, by omega, by go_num, hy⟩
        case measure => simp [intOf]; omega
    · have hkn : k = n := by omega
      subst hkn
      clear h
      go_wp2
      go_ret
      exact ⟨_, rfl, by rw [anyS_false (by rw [hlen.out]; exact ha.out)]; decide, rfl⟩

theorem containsTrue_calls (A : Option Addr) (n c : Nat) (l : List Bool) (w : World) (lo hi : Nat) (h : SlB w lo hi A n l) (hn : n ≤ 1048576) :
    Calls Try.prog 131 #[.slice A n c, .bool true] w fun e w' => e = .returned (.bool (anyS l)) ∧ w = w' := by
  have q := hide (indexTrue_calls A n c l w lo hi h hn)
  clear h
  go_enter Try.func131, Try.ntmps131
  go_wp2_with fail
  refine q.out.mono ?_
  rintro e w1 ⟨i, rfl, hi, rfl⟩
  replace hi := hide hi
  go_wp2_with fail
  go_ret
  exact ⟨ret_b hi.out.symm, rfl⟩

theorem truth_calls (b : Bool) (w : World) : Calls Try.prog 98 #[.bool b] w fun e w' => e = .returned (.int .i64 (if b then 1 else 0)) ∧ w = w' := by
  cases b
  all_goals
    go_enter Try.func98, Try.ntmps98
    go_wp2
    go_ret
    exact ⟨rfl, rfl⟩
theorem l03Truth_calls (b : Bool) (w : World) : Calls Try.prog 86 #[.bool b] w fun e w' => e = .returned (.int .i64 (if b then 1 else 0)) ∧ w = w' := by
  cases b
  all_goals
    go_enter Try.func86, Try.ntmps86
    go_wp2
    go_ret
    exact ⟨rfl, rfl⟩

end Go.Proofs.Ytbnneahjjcamlaa
