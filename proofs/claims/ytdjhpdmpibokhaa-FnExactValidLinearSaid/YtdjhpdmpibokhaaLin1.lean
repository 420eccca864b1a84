/-
  Linear processes as arguments of a law: what a value reads as, and the helpers for sizes. Conditions: none.
-/
import Derived.Test.YtdjhpdmpibokhaaKindTT
import Derived.Test.YtdjhpdmpibokhaaBoilI
import Derived.Test.YtdjhpdmpibokhaaRowR
namespace Go.Proofs.Ytdjhpdmpibokhaa
open Go.ChangeShapes Go.WideShapes Go.ChangeAt Go.RowKit
set_option linter.unusedVariables false

def ArgI (w : World) (lo hi : Nat) (v : Value) (d : List Int) : Prop := ∃ A n c, v = .slice A n c ∧ n ≤ maxLen ∧ SlI w lo hi A n d
def ArgT (w : World) (lo hi : Nat) (v : Value) (d : List (Int × Int)) : Prop := ∃ A n c, v = .slice A n c ∧ n ≤ maxLen ∧ SlT w lo hi A n d
abbrev DSu := List Int × List (Int × Int) × ByteArray × DTT × DTT
instance decDTT : DecidableEq DTT := inferInstanceAs (DecidableEq (List (List (Int × Int))))
instance decDSu : DecidableEq DSu := inferInstanceAs (DecidableEq (List Int × List (Int × Int) × ByteArray × DTT × DTT))
instance decDSuS : DecidableEq (List DSu) := inferInstance
instance decDLi : DecidableEq (Int × List Int × List DSu) := inferInstance
/-- A summand's cells. -/
abbrev CSu := Value × Value × ByteArray × Value × Value
def cellsSu (x : CSu) : List Value := [x.1, x.2.1, .string x.2.2.1, x.2.2.2.1, x.2.2.2.2]
def ReadSu (w : World) (lo hi : Nat) (x : CSu) (d : DSu) : Prop := ArgI w lo hi x.1 d.1 ∧ ArgT w lo hi x.2.1 d.2.1 ∧ (x.2.2.1 = d.2.2.1 ∧ x.2.2.1.size ≤ maxLen) ∧ ArgTT w lo hi x.2.2.2.1 d.2.2.2.1 ∧ ArgTT w lo hi x.2.2.2.2 d.2.2.2.2
def totSu (d : DSu) : Nat := d.1.length + d.2.1.length + d.2.2.1.size + totTT d.2.2.2.1 + totTT d.2.2.2.2
/-- A row of summands. -/
abbrev RowSu := RowR ReadSu 5 cellsSu
def ArgSuS (w : World) (lo hi : Nat) (v : Value) (d : List DSu) : Prop := ∃ A n c R, v = .slice A n c ∧ n ≤ maxLen ∧ RowSu w lo hi A n R ∧ R.map (·.2) = d
abbrev DLi := Int × List Int × List DSu
def ArgLi (w : World) (lo hi : Nat) (v : Value) (d : DLi) : Prop := ∃ v1 v2, v = .agg #[.int .i64 d.1, v1, v2] ∧ ArgI w lo hi v1 d.2.1 ∧ ArgSuS w lo hi v2 d.2.2
/-- A linear process' cells. -/
abbrev CLi := Int × Value × Value
def ReadLi (w : World) (lo hi : Nat) (x : CLi) (d : DLi) : Prop := x.1 = d.1 ∧ ArgI w lo hi x.2.1 d.2.1 ∧ ArgSuS w lo hi x.2.2 d.2.2
def totSuS (d : List DSu) : Nat := d.length + (d.map totSu).sum
def totLi (d : DLi) : Nat := d.2.1.length + totSuS d.2.2
def FreshLi (w : World) (lo hi : Nat) (v : Value) (d : DLi) : Prop := ArgLi w lo hi v d ∧ totLi d ≤ 1048576

section
variable {w w' : World} {lo hi lo' hi' B : Nat} {v : Value}
theorem ArgI.shape {d : List Int} (h : ArgI w lo hi v d) : ∃ A n c, v = .slice A n c := by obtain ⟨A, n, c, h1, _⟩ := h; exact ⟨A, n, c, h1⟩
theorem ArgT.shape {d : List (Int × Int)} (h : ArgT w lo hi v d) : ∃ A n c, v = .slice A n c := by obtain ⟨A, n, c, h1, _⟩ := h; exact ⟨A, n, c, h1⟩
theorem ArgTT.shape {d : DTT} (h : ArgTT w lo hi v d) : ∃ A n c, v = .slice A n c := by obtain ⟨A, n, c, R, h1, _⟩ := h; exact ⟨A, n, c, h1⟩
theorem ArgSuS.shape {d : List DSu} (h : ArgSuS w lo hi v d) : ∃ A n c, v = .slice A n c := by obtain ⟨A, n, c, R, h1, _⟩ := h; exact ⟨A, n, c, h1⟩
theorem ArgI.below {d : List Int} (h : ArgI w lo hi v d) (hb : Below B w w') (hB : hi ≤ B ∨ w.heap.size ≤ B) : ArgI w' lo hi v d := by
  obtain ⟨A, n, c, h1, h2, h3⟩ := h
  exact ⟨A, n, c, h1, h2, h3.below hb hB⟩
theorem ArgT.below {d : List (Int × Int)} (h : ArgT w lo hi v d) (hb : Below B w w') (hB : hi ≤ B ∨ w.heap.size ≤ B) : ArgT w' lo hi v d := by
  obtain ⟨A, n, c, h1, h2, h3⟩ := h
  exact ⟨A, n, c, h1, h2, h3.below hb hB⟩
theorem ReadSu.below {x : CSu} {d : DSu} (h : ReadSu w lo hi x d) (hb : Below B w w') (hB : hi ≤ B ∨ w.heap.size ≤ B) : ReadSu w' lo hi x d :=
  ⟨h.1.below hb hB, h.2.1.below hb hB, h.2.2.1, h.2.2.2.1.below hb hB, h.2.2.2.2.below hb hB⟩
theorem ArgI.more {d : List Int} (h : ArgI w lo hi v d) (h1 : lo' ≤ lo) (h2 : hi ≤ hi') : ArgI w lo' hi' v d := by
  obtain ⟨A, n, c, q1, q2, q3⟩ := h
  exact ⟨A, n, c, q1, q2, q3.more h1 h2⟩
theorem ArgT.more {d : List (Int × Int)} (h : ArgT w lo hi v d) (h1 : lo' ≤ lo) (h2 : hi ≤ hi') : ArgT w lo' hi' v d := by
  obtain ⟨A, n, c, q1, q2, q3⟩ := h
  exact ⟨A, n, c, q1, q2, q3.more h1 h2⟩
theorem ArgTT.more {d : DTT} (h : ArgTT w lo hi v d) (h1 : lo' ≤ lo) (h2 : hi ≤ hi') : ArgTT w lo' hi' v d := by
  obtain ⟨A, n, c, R, q1, q2, q3, q4⟩ := h
  exact ⟨A, n, c, R, q1, q2, q3.more h1 h2, q4⟩
theorem FreshTT.arg {d : DTT} (h : FreshTT w lo hi v d) : ArgTT w lo hi v d := by
  obtain ⟨A, n, R, q1, q2, q3, q4⟩ := h
  have ht := totTT_of q2.all
  rw [q3] at ht
  exact ⟨A, n, n, R, q1, by unfold maxLen; omega, ⟨q2.all.outer, fun r hr => ⟨(q2.all.rows r hr).1, by have := (q2.all.rows r hr).2; unfold maxLen; omega⟩⟩, q3⟩
theorem ReadSu.more {x : CSu} {d : DSu} (h : ReadSu w lo hi x d) (h1 : lo' ≤ lo) (h2 : hi ≤ hi') : ReadSu w lo' hi' x d :=
  ⟨h.1.more h1 h2, h.2.1.more h1 h2, h.2.2.1, h.2.2.2.1.more h1 h2, h.2.2.2.2.more h1 h2⟩
theorem ArgI.only {d : List Int} (h : ArgI w lo hi v d) (g : Only lo' hi' w w') (hd : hi ≤ lo' ∨ hi' ≤ lo) : ArgI w' lo hi v d := by
  obtain ⟨A, n, c, h1, h2, h3⟩ := h
  exact ⟨A, n, c, h1, h2, h3.only g hd⟩
theorem ArgT.only {d : List (Int × Int)} (h : ArgT w lo hi v d) (g : Only lo' hi' w w') (hd : hi ≤ lo' ∨ hi' ≤ lo) : ArgT w' lo hi v d := by
  obtain ⟨A, n, c, h1, h2, h3⟩ := h
  exact ⟨A, n, c, h1, h2, h3.only g hd⟩
theorem ReadSu.only {x : CSu} {d : DSu} (h : ReadSu w lo hi x d) (g : Only lo' hi' w w') (hd : hi ≤ lo' ∨ hi' ≤ lo) : ReadSu w' lo hi x d :=
  ⟨h.1.only g hd, h.2.1.only g hd, h.2.2.1, h.2.2.2.1.only g hd, h.2.2.2.2.only g hd⟩
theorem lawsSu : RdLaws ReadSu := ⟨fun h => h.below, fun h => h.only, fun h => h.more⟩
theorem ArgSuS.below {d : List DSu} (h : ArgSuS w lo hi v d) (hb : Below B w w') (hB : hi ≤ B ∨ w.heap.size ≤ B) : ArgSuS w' lo hi v d := by
  obtain ⟨A, n, c, R, h1, h2, h3, h4⟩ := h
  exact ⟨A, n, c, R, h1, h2, h3.below lawsSu hb hB, h4⟩
theorem ArgLi.below {d : DLi} (h : ArgLi w lo hi v d) (hb : Below B w w') (hB : hi ≤ B ∨ w.heap.size ≤ B) : ArgLi w' lo hi v d := by
  obtain ⟨v1, v2, h1, h2, h3⟩ := h
  exact ⟨v1, v2, h1, h2.below hb hB, h3.below hb hB⟩
theorem FreshLi.below {d : DLi} (h : FreshLi w lo hi v d) (hb : Below B w w') (hB : hi ≤ B ∨ w.heap.size ≤ B) : FreshLi w' lo hi v d := ⟨h.1.below hb hB, h.2⟩

theorem ArgSuS.more {d : List DSu} (h : ArgSuS w lo hi v d) (h1 : lo' ≤ lo) (h2 : hi ≤ hi') : ArgSuS w lo' hi' v d := by
  obtain ⟨A, n, c, R, q1, q2, q3, q4⟩ := h
  exact ⟨A, n, c, R, q1, q2, q3.more lawsSu h1 h2, q4⟩
theorem ArgSuS.only {d : List DSu} (h : ArgSuS w lo hi v d) (g : Only lo' hi' w w') (hd : hi ≤ lo' ∨ hi' ≤ lo) : ArgSuS w' lo hi v d := by
  obtain ⟨A, n, c, R, h1, h2, h3, h4⟩ := h
  exact ⟨A, n, c, R, h1, h2, h3.only lawsSu g hd, h4⟩
theorem RowR.getSu {A : Option Addr} {n k : Nat} {R : List (CSu × DSu)} (h : RowSu w lo hi A n R) (hk : k < n) :
    ∃ b off v0 v1 nm v3 v4 d, A = some ⟨b, off, none⟩ ∧ lo ≤ b ∧ b < hi ∧ b < w.heap.size ∧ R[k]? = some ((v0, v1, nm, v3, v4), d) ∧ w.cell? ⟨b, off + k * 5, none⟩ = some v0 ∧ w.cell? ⟨b, off + k * 5 + 1, none⟩ = some v1 ∧ w.cell? ⟨b, off + k * 5 + 2, none⟩ = some (.string nm) ∧
      w.cell? ⟨b, off + k * 5 + 3, none⟩ = some v3 ∧ w.cell? ⟨b, off + k * 5 + 4, none⟩ = some v4 ∧ ReadSu w lo hi (v0, v1, nm, v3, v4) d := by
  obtain ⟨b, off, e, g1, g2, g3, hc⟩ := h.outer.at_ (by omega)
  have hkl : k < R.length := by rw [h.len]; exact hk
  obtain ⟨⟨⟨v0, v1, nm, v3, v4⟩, d⟩, hr⟩ : ∃ r, R[k]? = some r := ⟨_, List.getElem?_eq_getElem hkl⟩
  have q := hc k (v0, v1, nm, v3, v4) (by rw [List.getElem?_map, hr]; rfl)
  exact ⟨b, off, v0, v1, nm, v3, v4, d, e, g1, g2, g3, hr, (q 0 _ rfl).1, (q 1 _ rfl).1, (q 2 _ rfl).1, (q 3 _ rfl).1, (q 4 _ rfl).1, h.rows _ (List.mem_of_getElem? hr)⟩
end

theorem str_ne {a b : ByteArray} (h : a ≠ b) : (a.toList == b.toList) = false := by
  obtain ⟨⟨x⟩⟩ := a
  obtain ⟨⟨y⟩⟩ := b
  have e1 : (ByteArray.mk ⟨x⟩).toList = x := ByteArray.toList_mk x
  have e2 : (ByteArray.mk ⟨y⟩).toList = y := ByteArray.toList_mk y
  rw [e1, e2, beq_eq_false_iff_ne]
  rintro rfl
  exact h rfl

/-- Sums over the first k rows. -/
def preN {α : Type} (f : α → Nat) (R : List α) (k : Nat) : Nat := ((R.take k).map f).sum
theorem preN_zero {α : Type} (f : α → Nat) (R : List α) : preN f R 0 = 0 := rfl
theorem preN_succ {α : Type} {f : α → Nat} {R : List α} {k : Nat} {x : α} (h : R[k]? = some x) : preN f R (k + 1) = preN f R k + f x := by
  unfold preN
  rw [List.take_add_one, h]
  simp
theorem preN_mono {α : Type} (f : α → Nat) (R : List α) {k n : Nat} (h : k ≤ n) : preN f R k ≤ preN f R n := by
  induction n with
  | zero => have : k = 0 := by omega
            subst this; exact Nat.le_refl _
  | succ n ih =>
    rcases Nat.lt_or_ge k (n + 1) with h1 | h1
    · refine Nat.le_trans (ih (by omega)) ?_
      unfold preN
      rw [List.take_add_one, List.map_append, List.sum_append]
      omega
    · have : k = n + 1 := by omega
      subst this
      exact Nat.le_refl _
theorem preN_all {α : Type} (f : α → Nat) (R : List α) {n : Nat} (h : R.length = n) : preN f R n = (R.map f).sum := by
  unfold preN
  rw [List.take_of_length_le (by omega)]

theorem szInt64S_calls (A : Option Addr) (n c : Nat) (left : Int) (w : World) (hn : n ≤ maxLen) (h0 : 0 ≤ left) (h1 : left ≤ 1048576) :
    Calls Try.prog 84 #[.slice A n c, .int .i64 left] w fun e w' => e = .returned (.int .i64 (szLeft left n)) ∧ w = w' := by
  unfold maxLen at hn
  by_cases h : left < n
  · go_enter Try.func84, Try.ntmps84
    go_wp2
    go_ret
    exact ⟨by rw [szLeft_big h]; rfl, rfl⟩
  · go_enter Try.func84, Try.ntmps84
    go_wp2
    go_ret
    exact ⟨by rw [szLeft_fits (by omega)]; rfl, rfl⟩

theorem szT_left (A : Option Addr) (n c : Nat) (left : Int) (w : World) (hn : n ≤ maxLen) (h0 : 0 ≤ left) (h1 : left ≤ 1048576) :
    Calls Try.prog 12 #[.slice A n c, .int .i64 left] w fun e w' => e = .returned (.int .i64 (szLeft left n)) ∧ w = w' := szTermS_calls A n c left w hn h0 h1

set_option maxHeartbeats 800000 in
theorem szSummand_b {x : CSu} {d : DSu} {left : Int} {w : World} {lo hi : Nat} (h : ReadSu w lo hi x d) (h0 : 0 ≤ left) (h1 : left ≤ 1048576) :
    Calls Try.prog 109 #[.agg #[x.1, x.2.1, .string x.2.2.1, x.2.2.2.1, x.2.2.2.2], .int .i64 left] w fun e w' => e = .returned (.int .i64 (szLeft left (totSu d))) ∧ Below w.heap.size w w' := by
  obtain ⟨v0, v1, nm, v3, v4⟩ := x
  obtain ⟨d0, d1, dn, d3, d4⟩ := d
  obtain ⟨⟨A0, n0, c0, e0, hn0, s0⟩, ⟨A1, n1, c1, e1, hn1, s1⟩, ⟨en, hnn⟩, t3, t4⟩ := h
  dsimp only at *
  subst e0 e1 en
  have l0 := s0.len
  have l1 := s1.len
  have hb0 : Below w.heap.size w (w.alloc (.cells #[.slice A0 n0 c0, .slice A1 n1 c1, .string nm, v3, v4] 122)) := (Below.refl _ _).alloc (Nat.le_refl _) _
  replace t3 := t3.below hb0 (.inr (Nat.le_refl _))
  replace t4 := t4.below hb0 (.inr (Nat.le_refl _))
  have htot : totSu (d0, d1, nm, d3, d4) = n0 + n1 + nm.size + totTT d3 + totTT d4 := by simp [totSu, l0, l1]
  have hnn' : nm.size ≤ 9223372036854775807 := by unfold maxLen at hnn; omega
  rw [htot]
  clear s0 s1 l0 l1 htot
  have q0 := szInt64S_calls A0 n0 c0 left (w.alloc (.cells #[.slice A0 n0 c0, .slice A1 n1 c1, .string nm, v3, v4] 122)) hn0 h0 h1
  by_cases b0 : left < n0
  · rw [szLeft_big b0] at q0
    replace q0 := hide q0
    clear t3 t4
    go_enter Try.func109, Try.ntmps109
    go_wp2_with (first | (go_at_call 84; (with_reducible refine q0.out.mono ?_); rintro e w' ⟨rfl, rfl⟩))
    go_ret
    exact ⟨by rw [szLeft_big (by omega)]; rfl, hb0⟩
  rw [szLeft_fits b0] at q0
  replace q0 := hide q0
  have q1 := szT_left A1 n1 c1 (left - n0) (w.alloc (.cells #[.slice A0 n0 c0, .slice A1 n1 c1, .string nm, v3, v4] 122)) hn1 (by omega) (by omega)
  by_cases b1 : left - n0 < n1
  · rw [szLeft_big b1] at q1
    replace q1 := hide q1
    clear t3 t4
    go_enter Try.func109, Try.ntmps109
    go_wp2_with (first | (go_at_call 84; (with_reducible refine q0.out.mono ?_); rintro e w' ⟨rfl, rfl⟩) | (go_at_call 12; (with_reducible refine q1.out.mono ?_); rintro e w' ⟨rfl, rfl⟩))
    go_ret
    exact ⟨by rw [szLeft_big (by omega)]; rfl, hb0⟩
  rw [szLeft_fits b1] at q1
  replace q1 := hide q1
  by_cases b2 : left - n0 - n1 < nm.size
  · clear t3 t4
    go_enter Try.func109, Try.ntmps109
    go_wp2_with (first | (go_at_call 84; (with_reducible refine q0.out.mono ?_); rintro e w' ⟨rfl, rfl⟩) | (go_at_call 12; (with_reducible refine q1.out.mono ?_); rintro e w' ⟨rfl, rfl⟩))
    go_ret
    exact ⟨by rw [szLeft_big (by omega)]; rfl, hb0⟩
  have q3 := szTermSS_u (left := left - n0 - n1 - nm.size) t3 (by omega) (by omega)
  by_cases b3 : left - n0 - n1 - nm.size < totTT d3
  · rw [szLeft_big b3] at q3
    replace q3 := hide q3
    clear t3 t4
    go_enter Try.func109, Try.ntmps109
    go_wp2_with (first | (go_at_call 84; (with_reducible refine q0.out.mono ?_); rintro e w' ⟨rfl, rfl⟩) | (go_at_call 12; (with_reducible refine q1.out.mono ?_); rintro e w' ⟨rfl, rfl⟩) | (go_at_call 25; (with_reducible refine q3.out.mono ?_); rintro e w' ⟨rfl, rfl⟩))
    go_ret
    exact ⟨by rw [szLeft_big (by omega)]; rfl, hb0⟩
  rw [szLeft_fits b3] at q3
  replace q3 := hide q3
  have q4 := szTermSS_u (left := left - n0 - n1 - nm.size - totTT d3) t4 (by omega) (by omega)
  by_cases b4 : left - n0 - n1 - nm.size - totTT d3 < totTT d4
  · rw [szLeft_big b4] at q4
    replace q4 := hide q4
    clear t3 t4
    go_enter Try.func109, Try.ntmps109
    go_wp2_with (first | (go_at_call 84; (with_reducible refine q0.out.mono ?_); rintro e w' ⟨rfl, rfl⟩) | (go_at_call 12; (with_reducible refine q1.out.mono ?_); rintro e w' ⟨rfl, rfl⟩) | (go_at_call 25; (with_reducible refine q3.out.mono ?_); rintro e w' ⟨rfl, rfl⟩) | (go_at_call 25; (with_reducible refine q4.out.mono ?_); rintro e w' ⟨rfl, rfl⟩))
    go_ret
    exact ⟨by rw [szLeft_big (by omega)]; rfl, hb0⟩
  rw [szLeft_fits b4] at q4
  replace q4 := hide q4
  clear t3 t4
  go_enter Try.func109, Try.ntmps109
  go_wp2_with (first | (go_at_call 84; (with_reducible refine q0.out.mono ?_); rintro e w' ⟨rfl, rfl⟩) | (go_at_call 12; (with_reducible refine q1.out.mono ?_); rintro e w' ⟨rfl, rfl⟩) | (go_at_call 25; (with_reducible refine q3.out.mono ?_); rintro e w' ⟨rfl, rfl⟩) | (go_at_call 25; (with_reducible refine q4.out.mono ?_); rintro e w' ⟨rfl, rfl⟩))
  go_ret
  exact ⟨by rw [szLeft_fits (by omega)]; exact ret_i (by omega), hb0⟩

end Go.Proofs.Ytdjhpdmpibokhaa
