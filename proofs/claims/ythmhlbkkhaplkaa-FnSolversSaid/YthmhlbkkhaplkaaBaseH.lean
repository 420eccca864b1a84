/-
  Several texts in one:
  Rows of a measure as numbers: plain. Conditions: none.
  The measures of a game: how many numbers a row has for a priority, rows compared, by the program. Conditions: a valid game.
  append(s, make([]int64, k)...) to a slice of the call's own: k zeros more. Conditions: short slices.
  The least row that is enough, by the program. Conditions: a valid game.
  The least numbers that are enough, by raising them one by one: plain. Conditions: a valid game.
  The measures of a game are made, by the program. Conditions: a valid game.
  What a vertex needs, by the program. Conditions: a valid game.
  Whether a row is one, and whether it is enough, by the program; tests of lists by functions. Conditions: a valid game.
  No row of a table passes a test, by the program; the tests of rows and of moves. Conditions: a valid game.
-/
import Derived.Test.YthmhlbkkhaplkaaBaseC
import Derived.Test.YthmhlbkkhaplkaaBaseE
import Derived.Test.YthmhlbkkhaplkaaBaseF
import Derived.Test.YthmhlbkkhaplkaaBaseG
import Derived.StillTailTactics
import Derived.Lib.AppendZerosOnto
import Derived.Laws.EntriesVeiled
set_option linter.unusedSimpArgs false
set_option linter.unusedVariables false
namespace Go.Proofs.Ythmhlbkkhaplkaa
set_option linter.unusedVariables false
set_option linter.unusedSimpArgs false

/-- A row of five numbers within bounds. -/
def RowD (m : Nat → Nat) (l : List Int) : Prop := l.length = 5 ∧ ∀ j, j < 5 → 0 ≤ atL l j ∧ atL l j ≤ (m j : Int)
def encL (m : Nat → Nat) (l : List Int) : Nat := encN m (fun j => (atL l j).toNat) 5
theorem atL_cons_zero (a : Int) (l : List Int) : atL (a :: l) 0 = a := rfl
theorem atL_cons_succ (a : Int) (l : List Int) (j : Nat) : atL (a :: l) (j + 1) = atL l j := by unfold atL; rw [List.getElem?_cons_succ]
def sgnN (x y : Nat) : Int := if x < y then -1 else if y < x then 1 else 0
section
variable {m : Nat → Nat}
/-- The order of words is the order of the numbers. -/
theorem lexC_suf : ∀ (k : Nat), k ≤ 5 → ∀ l r : List Int, l.length = k → r.length = k → (∀ i, i < k → 0 ≤ atL l i ∧ atL l i ≤ (m (5 - k + i) : Int)) → (∀ i, i < k → 0 ≤ atL r i ∧ atL r i ≤ (m (5 - k + i) : Int)) →
    lexC l r = sgnN (encN m (fun j => (atL l (j - (5 - k))).toNat) k) (encN m (fun j => (atL r (j - (5 - k))).toNat) k)
  | 0, _, l, r, hl, hr, _, _ => by
    obtain rfl := List.eq_nil_of_length_eq_zero hl
    obtain rfl := List.eq_nil_of_length_eq_zero hr
    rfl
  | k + 1, hk, [], _, hl, _, _, _ => by simp at hl
  | k + 1, hk, _ :: _, [], _, hr, _, _ => by simp at hr
  | k + 1, hk, a :: l, b :: r, hl, hr, h1, h2 => by
    have hl' : l.length = k := by simpa using hl
    have hr' : r.length = k := by simpa using hr
    have s1 : ∀ i, i < k → 0 ≤ atL l i ∧ atL l i ≤ (m (5 - k + i) : Int) := fun i hi => by
      have := h1 (i + 1) (by omega)
      rw [atL_cons_succ, show 5 - (k + 1) + (i + 1) = 5 - k + i by omega] at this
      exact this
    have s2 : ∀ i, i < k → 0 ≤ atL r i ∧ atL r i ≤ (m (5 - k + i) : Int) := fun i hi => by
      have := h2 (i + 1) (by omega)
      rw [atL_cons_succ, show 5 - (k + 1) + (i + 1) = 5 - k + i by omega] at this
      exact this
    have ih := lexC_suf k (by omega) l r hl' hr' s1 s2
    have e : ∀ (c : Int) (q : List Int), encN m (fun j => (atL (c :: q) (j - (5 - (k + 1)))).toNat) (k + 1) = c.toNat * bdN m k + encN m (fun j => (atL q (j - (5 - k))).toNat) k := fun c q => by
      show (atL (c :: q) (4 - k - (5 - (k + 1)))).toNat * bdN m k + encN m _ k = _
      rw [show 4 - k - (5 - (k + 1)) = 0 by omega, atL_cons_zero]
      congr 1
      refine encN_congr k (by omega) fun j hj _ => ?_
      (try dsimp only)
      rw [show j - (5 - (k + 1)) = (j - (5 - k)) + 1 by omega, atL_cons_succ]
    have b1 := encN_lt (m := m) (d := fun j => (atL l (j - (5 - k))).toNat) k fun j hj => by
      have := (s1 (4 - j - (5 - k)) (by omega))
      rw [show 5 - k + (4 - j - (5 - k)) = 4 - j by omega] at this
      (try dsimp only)
      omega
    have b2 := encN_lt (m := m) (d := fun j => (atL r (j - (5 - k))).toNat) k fun j hj => by
      have := (s2 (4 - j - (5 - k)) (by omega))
      rw [show 5 - k + (4 - j - (5 - k)) = 4 - j by omega] at this
      (try dsimp only)
      omega
    have a0 := (h1 0 (by omega)).1
    have c0 := (h2 0 (by omega)).1
    rw [atL_cons_zero] at a0 c0
    rw [e, e]
    show (if a = b then lexC l r else cmpI a b) = _
    generalize encN m (fun j => (atL l (j - (5 - k))).toNat) k = x at *
    generalize encN m (fun j => (atL r (j - (5 - k))).toNat) k = y at *
    generalize bdN m k = B at *
    by_cases hab : a = b
    · rw [if_pos hab, ih, hab]
      unfold sgnN
      by_cases c1 : x < y
      · rw [if_pos c1, if_pos (by omega)]
      · by_cases c2 : y < x
        · rw [if_neg c1, if_pos c2, if_neg (by omega), if_pos (by omega)]
        · rw [if_neg c1, if_neg c2, if_neg (by omega), if_neg (by omega)]
    · rw [if_neg hab]
      unfold cmpI sgnN
      by_cases c1 : a < b
      · have := Nat.mul_le_mul_right B (show a.toNat + 1 ≤ b.toNat by omega)
        rw [Nat.add_mul, Nat.one_mul] at this
        rw [if_pos c1, if_pos (by omega)]
      · have := Nat.mul_le_mul_right B (show b.toNat + 1 ≤ a.toNat by omega)
        rw [Nat.add_mul, Nat.one_mul] at this
        rw [if_neg c1, if_pos (show b < a by omega), if_neg (by omega), if_pos (by omega)]
theorem lexC_enc {l r : List Int} (hl : RowD m l) (hr : RowD m r) : lexC l r = sgnN (encL m l) (encL m r) := by
  have := lexC_suf 5 (Nat.le_refl _) l r hl.1 hr.1 (fun i hi => by rw [show 5 - 5 + i = i by omega]; exact hl.2 i hi) (fun i hi => by rw [show 5 - 5 + i = i by omega]; exact hr.2 i hi)
  exact this
theorem RowD.lt {l : List Int} (h : RowD m l) : encL m l < bdN m 5 := encN_lt 5 fun j hj => by have := h.2 (4 - j) (by omega); (try dsimp only); omega
/-- The first n numbers, and zeros. -/
theorem atL_cut {l : List Int} (hl : l.length = 5) {n : Nat} (hn : n ≤ 5) (j : Nat) (hj : j < 5) : atL (l.take n ++ List.replicate (5 - n) 0) j = if j < n then atL l j else 0 := by
  unfold atL
  by_cases c : j < n
  · rw [if_pos c, List.getElem?_append_left (by rw [List.length_take]; omega), List.getElem?_take, if_pos c]
  · rw [if_neg c, List.getElem?_append_right (by rw [List.length_take]; omega), List.getElem?_replicate]
    split <;> rfl
theorem RowD.cut {l : List Int} (h : RowD m l) {n : Nat} (hn : n ≤ 5) : RowD m (l.take n ++ List.replicate (5 - n) 0) ∧ encL m (l.take n ++ List.replicate (5 - n) 0) = encL m l / bdN m (5 - n) * bdN m (5 - n) := by
  refine ⟨⟨by rw [List.length_append, List.length_take, List.length_replicate, h.1]; omega, fun j hj => ?_⟩, ?_⟩
  · rw [atL_cut h.1 hn j hj]
    split
    · exact h.2 j hj
    · omega
  · have h1 := encN_cut (m := m) (d := fun j => (atL l j).toNat) hn (fun j hj => by have := h.2 j hj; (try dsimp only); omega) 5 (Nat.le_refl _)
    rw [if_pos (by omega)] at h1
    show encN m _ 5 = encN m _ 5 / _ * _
    rw [← h1]
    refine encN_congr 5 (Nat.le_refl _) fun j _ hj => ?_
    (try dsimp only)
    rw [atL_cut h.1 hn j hj]
    split <;> rfl
theorem lexC_cut {l r : List Int} (hl : RowD m l) (hr : RowD m r) {n : Nat} (hn : n ≤ 5) : lexC (l.take n) (r.take n) = sgnN (encL m l / bdN m (5 - n)) (encL m r / bdN m (5 - n)) := by
  have h1 := lexC_enc (hl.cut hn).1 (hr.cut hn).1
  rw [lexC_app _ (by rw [List.length_take, List.length_take, hl.1, hr.1]), (hl.cut hn).2, (hr.cut hn).2] at h1
  rw [h1]
  have hB := bdN_pos m (5 - n)
  generalize encL m l / bdN m (5 - n) = x
  generalize encL m r / bdN m (5 - n) = y
  generalize bdN m (5 - n) = B at *
  unfold sgnN
  have key : ∀ a b : Nat, a * B < b * B ↔ a < b := fun a b => Nat.mul_lt_mul_right hB
  simp only [key]
theorem atL_set {l : List Int} {i j : Nat} (hi : i < l.length) (x : Int) : atL (l.set i x) j = if j = i then x else atL l j := by
  unfold atL
  by_cases e : j = i
  · subst e; rw [List.getElem?_set_self hi, if_pos rfl]; rfl
  · rw [List.getElem?_set_ne (fun h => e h.symm), if_neg e]
/-- One more at digit i. -/
theorem encL_inc {l : List Int} (h : RowD m l) {i : Nat} (hi : i < 5) (hm : atL l i < (m i : Int)) : RowD m (l.set i (atL l i + 1)) ∧ encL m (l.set i (atL l i + 1)) = encL m l + bdN m (4 - i) := by
  have hl := h.1
  refine ⟨⟨by rw [List.length_set]; exact hl, fun j hj => ?_⟩, ?_⟩
  · rw [atL_set (by omega)]
    have := h.2 j hj
    by_cases e : j = i
    · subst e; rw [if_pos rfl]; omega
    · rw [if_neg e]; exact this
  · have h1 := encN_inc (m := m) (d := fun j => (atL l j).toNat) hi 5 (Nat.le_refl _)
    rw [if_pos (by omega)] at h1
    show encN m _ 5 = encN m _ 5 + _
    rw [← h1]
    refine encN_congr 5 (Nat.le_refl _) fun j _ hj => ?_
    (try dsimp only)
    rw [atL_set (by omega)]
    by_cases e : j = i
    · subst e
      have := (h.2 j hj).1
      rw [if_pos rfl, if_pos rfl]; omega
    · rw [if_neg e, if_neg e]
/-- The greatest digit put to zero. -/
theorem encL_zero {l : List Int} (h : RowD m l) {i : Nat} (hi : i < 5) (hm : atL l i = (m i : Int)) : RowD m (l.set i 0) ∧ encL m (l.set i 0) + bdN m (5 - i) = encL m l + bdN m (4 - i) := by
  have hl := h.1
  have hr : RowD m (l.set i 0) := ⟨by rw [List.length_set]; exact hl, fun j hj => by
    rw [atL_set (by omega)]
    by_cases e : j = i
    · rw [if_pos e]; omega
    · rw [if_neg e]; exact h.2 j hj⟩
  refine ⟨hr, ?_⟩
  -- add one at digit i, m i times
  have step : ∀ q, q ≤ m i → encL m (l.set i (q : Int)) = encL m (l.set i 0) + q * bdN m (4 - i) := fun q => by
    induction q with
    | zero => intro _; simp
    | succ q ih =>
      intro hq
      have hd : RowD m (l.set i (q : Int)) := ⟨by rw [List.length_set]; exact hl, fun j hj => by
        rw [atL_set (by omega)]
        by_cases e : j = i
        · subst e; rw [if_pos rfl]; omega
        · rw [if_neg e]; exact h.2 j hj⟩
      have ha : atL (l.set i (q : Int)) i = q := by rw [atL_set (by omega), if_pos rfl]
      have h2 := (encL_inc hd hi (by rw [ha]; omega)).2
      rw [ha, List.set_set] at h2
      rw [show ((q + 1 : Nat) : Int) = (q : Int) + 1 by omega, h2, ih (by omega), Nat.add_mul, Nat.one_mul, Nat.add_assoc]
  have h3 := step (m i) (Nat.le_refl _)
  have h4 : l.set i (m i : Int) = l := by
    apply List.ext_getElem?
    intro j
    by_cases e : j = i
    · subst e
      rw [List.getElem?_set_self (by omega), ← hm]
      unfold atL
      rw [List.getElem?_eq_getElem (by omega)]; rfl
    · rw [List.getElem?_set_ne (fun h => e h.symm)]
  rw [h4] at h3
  rw [h3]
  have h5 : bdN m (5 - i) = (m i + 1) * bdN m (4 - i) := by
    rw [show 5 - i = (4 - i) + 1 by omega]
    show (m (4 - (4 - i)) + 1) * _ = _
    rw [show 4 - (4 - i) = i by omega]
  rw [h5, Nat.add_mul, Nat.one_mul]
  omega
end
/-- A row reads as a number: an empty one as the greatest. -/
def RowR (g : DV) (p : Int) (l : List Int) (x : Nat) : Prop := (l = [] ∧ x = topF g p) ∨ (RowD (mostF g p) l ∧ x = encL (mostF g p) l)
section
variable {g : DV} {p : Int} {l r : List Int} {x y : Nat}
theorem RowR.le (h : RowR g p l x) : x ≤ topF g p := by
  rcases h with ⟨-, rfl⟩ | ⟨h, rfl⟩
  · exact Nat.le_refl _
  · exact Nat.le_of_lt h.lt
theorem RowR.nil_iff (h : RowR g p l x) : l = [] ↔ x = topF g p := by
  rcases h with ⟨h1, h2⟩ | ⟨h, rfl⟩
  · simp [h1, h2]
  · constructor
    · intro e; rw [e] at h; exact absurd h.1 (by decide)
    · intro e; have := h.lt; unfold topF at e; omega
theorem RowR.zeros (g : DV) (p : Int) : RowR g p [0, 0, 0, 0, 0] 0 := by
  refine .inr ⟨⟨rfl, fun j hj => ?_⟩, ?_⟩
  · have : atL [0, 0, 0, 0, 0] j = 0 := by
      match j, hj with
      | 0, _ => rfl
      | 1, _ => rfl
      | 2, _ => rfl
      | 3, _ => rfl
      | 4, _ => rfl
    rw [this]; omega
  · show 0 = encN _ (fun j => (atL [0, 0, 0, 0, 0] j).toNat) 5
    rw [← encN_zero (m := mostF g p) 5]
    refine encN_congr 5 (Nat.le_refl _) fun j _ hj => ?_
    match j, hj with
    | 0, _ => rfl
    | 1, _ => rfl
    | 2, _ => rfl
    | 3, _ => rfl
    | 4, _ => rfl
/-- Comparing rows. -/
theorem RowR.cmp (h : RowR g p l x) (k : RowR g p r y) (hl : l ≠ []) (hr : r ≠ []) : lexC l r = sgnN x y := by
  rcases h with ⟨e, -⟩ | ⟨h, rfl⟩
  · exact absurd e hl
  rcases k with ⟨e, -⟩ | ⟨k, rfl⟩
  · exact absurd e hr
  exact lexC_enc h k
end
end Go.Proofs.Ythmhlbkkhaplkaa

namespace Go.Proofs.Ythmhlbkkhaplkaa
open Go.ChangeShapes Go.WideShapes Go.ChangeAt Go.RowKit
set_option linter.unusedVariables false
set_option linter.unusedSimpArgs false

/-- The measures lie in block b: the player and how often each bad priority comes. -/
def MeaW (w : World) (b : Nat) (p : Int) (m : Nat → Nat) : Prop :=
  ∃ v, w.heap[b]? = some (.cells #[v, .int .i64 p, .int .i64 (m 0 : Int), .int .i64 (m 1 : Int), .int .i64 (m 2 : Int), .int .i64 (m 3 : Int), .int .i64 (m 4 : Int)] 90 (0, 0))
section
variable {w w' : World} {b : Nat} {p : Int} {m : Nat → Nat}
theorem MeaW.lt (h : MeaW w b p m) : b < w.heap.size := by obtain ⟨v, h⟩ := h; exact (Array.getElem?_eq_some_iff.1 h).1
theorem MeaW.keep (h : MeaW w b p m) (hk : w'.heap[b]? = w.heap[b]?) : MeaW w' b p m := by obtain ⟨v, h⟩ := h; exact ⟨v, hk.trans h⟩
theorem MeaW.below {B : Nat} (h : MeaW w b p m) (hb : Below B w w') (hB : b < B) : MeaW w' b p m := h.keep (hb.block b hB)
theorem MeaW.pl (h : MeaW w b p m) : w.cell? ⟨b, 1, none⟩ = some (.int .i64 p) := by obtain ⟨v, h⟩ := h; exact (cell_of_row _ _ 1 _ _ (0, 0) h).trans rfl
theorem MeaW.at (h : MeaW w b p m) {i : Nat} (hi : i < 5) : w.cell? ⟨b, 2 + i, none⟩ = some (.int .i64 (m i : Int)) := by
  obtain ⟨v, h⟩ := h
  refine (cell_of_row _ _ (2 + i) _ _ (0, 0) h).trans ?_
  match i, hi with
  | 0, _ => rfl
  | 1, _ => rfl
  | 2, _ => rfl
  | 3, _ => rfl
  | 4, _ => rfl
theorem MeaW.frozen (h : MeaW w b p m) (i : Nat) : w.frozen? ⟨b, i, none⟩ = false := by obtain ⟨v, h⟩ := h; exact frozen_of_row _ _ i _ _ h
theorem MeaW.drewN (h : MeaW w b p m) (k : Nat) : MeaW (w.drewN k) b p m := h
end

theorem bad_calls (b : Nat) (p : Int) (m : Nat → Nat) (i : Nat) (w : World) (h : MeaW w b p m) (hp : p = 0 ∨ p = 1) (hi : i ≤ 5) :
    Calls Try.prog 94 #[.pointer (some ⟨b, 0, none⟩), .int .i64 (i : Int)] w fun e w' => e = .returned (.int .i64 (badF p i)) ∧ w = w' := by
  have c1 := h.pl
  have hv : Hid (2 * (i : Int) + 1 - p = badF p i) := rfl
  have hb : 0 ≤ p ∧ p ≤ 1 := by omega
  obtain ⟨hb0, hb1⟩ := hb
  go_enter Try.func94, Try.ntmps94
  go_wp2_with fail
  go_ret
  exact ⟨ret_i hv.out.symm, rfl⟩
set_option maxRecDepth 100000 in
theorem upTo_calls (b : Nat) (p : Int) (m : Nat → Nat) (q : Int) (w : World) (h : MeaW w b p m) (hp : p = 0 ∨ p = 1) (hq : 0 ≤ q ∧ q ≤ 9) :
    Calls Try.prog 70 #[.pointer (some ⟨b, 0, none⟩), .int .i64 q] w fun e w' => e = .returned (.int .i64 (upF p q : Int)) ∧ w = w' := by
  have qb := hide (fun i (hi : i ≤ 5) => bad_calls b p m i w h hp hi)
  have hu : upF p q ≤ 5 := by unfold upF; omega
  clear h
  go_enter Try.func70, Try.ntmps70
  go_wp2_with fail
  go_loop [5] (fun v => ∃ k : Nat, k ≤ upF p q ∧ v = .int .i64 (k : Nat)) (fun v => 5 - (intOf v).toNat)
  case atStart => exact ⟨0, Nat.zero_le _, rfl⟩
  case round =>
    obtain ⟨k, hk, rfl⟩ := hrel
    by_cases h5 : k < 5
    · have k1 : (k : Int) < 5 := by omega
      have q1 := hide (qb.out k (by omega))
      by_cases hlt : k < upF p q
      · have hle : badF p k ≤ q := (upF_bad hp hq.1).2 hlt
        generalize badF p k = z at *
        go_wp2_with (first | (go_at_call 94; (with_reducible refine q1.out.mono ?_); rintro e w' ⟨rfl, rfl⟩))
        go_round
        case rel => exact ⟨k + 1, by omega, by go_num⟩
        case measure => simp [intOf]; omega
      · have hle : ¬ badF p k ≤ q := fun c => hlt ((upF_bad hp hq.1).1 c)
        have hku : Hid (k = upF p q) := by show _ = _; omega
        generalize badF p k = z at *
        go_wp2_with (first | (go_at_call 94; (with_reducible refine q1.out.mono ?_); rintro e w' ⟨rfl, rfl⟩))
        go_ret
        exact ⟨ret_i (by rw [hku.out]), rfl⟩
    · have k1 : ¬ (k : Int) < 5 := by omega
      have hku : Hid (k = upF p q) := by show _ = _; omega
      go_wp2_with fail
      go_ret
      exact ⟨ret_i (by rw [hku.out]), rfl⟩

set_option maxRecDepth 100000 in
theorem compareRows_calls (A B : Option Addr) (n k c d : Nat) (l r : List Int) (g : DV) (p : Int) (x y : Nat) (w : World) (lo hi lo' hi' : Nat) (h : SlI w lo hi A n l) (k' : SlI w lo' hi' B k r) (hx : RowR g p l x) (hy : RowR g p r y) :
    Calls Try.prog 29 #[.slice A n c, .slice B k d] w fun e w' => e = .returned (.int .i64 (sgnN x y)) ∧ w = w' := by
  have hxl := hx.le
  have hyl := hy.le
  have hxn := hx.nil_iff
  have hyn := hy.nil_iff
  have hln := h.len
  have hrn := k'.len
  have hn5 : n ≤ 5 := by
    rcases hx with ⟨e, -⟩ | ⟨e, -⟩
    · rw [e] at hln; simp at hln; omega
    · have := e.1; omega
  have hk5 : k ≤ 5 := by
    rcases hy with ⟨e, -⟩ | ⟨e, -⟩
    · rw [e] at hrn; simp at hrn; omega
    · have := e.1; omega
  have q := hide (compare_calls A B n k c d l r w _ _ _ _ h k' (by omega) (by omega))
  clear h k'
  by_cases h1 : n = 0
  · have hl0 : l = [] := List.eq_nil_of_length_eq_zero (by omega)
    have ex := hxn.1 hl0
    have f1 : ((n : Int) == 0) = true := by rw [beq_iff_eq]; omega
    have f1' : (n == 0) = true := by rw [beq_iff_eq]; exact h1
    have f1'' : (n : Int) = 0 := by omega
    by_cases h2 : k = 0
    · have hr0 : r = [] := List.eq_nil_of_length_eq_zero (by omega)
      have ey := hyn.1 hr0
      have hv : Hid (sgnN x y = 0) := by show _ = _; rw [ex, ey]; unfold sgnN; rw [if_neg (by omega), if_neg (by omega)]
      have f2 : (k : Int) = 0 := by omega
      clear hxl hyl hxn hyn ex ey q
      go_enter Try.func29, Try.ntmps29
      go_wp2_with fail
      go_ret
      exact ⟨ret_i hv.out, rfl⟩
    · have hyt : y ≠ topF g p := fun e => by have := hyn.2 e; rw [this] at hrn; simp at hrn; omega
      have hv : Hid (sgnN x y = 1) := by show _ = _; rw [ex]; unfold sgnN; rw [if_neg (by omega), if_pos (by omega)]
      have f2 : ¬ (k : Int) = 0 := by omega
      have f2' : ((k : Int) == 0) = false := by rw [beq_eq_false_iff_ne]; exact f2
      clear hxl hyl hxn hyn ex hyt q
      go_enter Try.func29, Try.ntmps29
      go_wp2_with fail
      go_ret
      exact ⟨ret_i hv.out, rfl⟩
  · have hxt : x ≠ topF g p := fun e => by have := hxn.2 e; rw [this] at hln; simp at hln; omega
    have f1 : ¬ (n : Int) = 0 := by omega
    have f1' : ((n : Int) == 0) = false := by rw [beq_eq_false_iff_ne]; exact f1
    by_cases h2 : k = 0
    · have hr0 : r = [] := List.eq_nil_of_length_eq_zero (by omega)
      have ey := hyn.1 hr0
      have hv : Hid (sgnN x y = -1) := by show _ = _; rw [ey]; unfold sgnN; rw [if_pos (by omega)]
      have f2 : (k : Int) = 0 := by omega
      clear hxl hyl hxn hyn ey hxt q
      go_enter Try.func29, Try.ntmps29
      go_wp2_with fail
      go_ret
      exact ⟨ret_i hv.out, rfl⟩
    · have hv := hx.cmp hy (fun e => by rw [e] at hln; simp at hln; omega) (fun e => by rw [e] at hrn; simp at hrn; omega)
      rw [hv] at q
      have f2 : ¬ (k : Int) = 0 := by omega
      have f2' : ((k : Int) == 0) = false := by rw [beq_eq_false_iff_ne]; exact f2
      clear hxl hyl hxn hyn hxt hv
      go_enter Try.func29, Try.ntmps29
      go_wp2_with (first | (go_at_call 68; (with_reducible refine q.out.mono ?_); rintro e w' ⟨rfl, rfl⟩))
      go_ret
      exact ⟨rfl, rfl⟩

end Go.Proofs.Ythmhlbkkhaplkaa

namespace Go.Proofs.Ythmhlbkkhaplkaa
open Go.ChangeShapes Go.WideShapes Go.ChangeAt Go.RowKit
set_option linter.unusedVariables false
set_option linter.unusedSimpArgs false

theorem zero_flat (k : Nat) : (List.replicate k (0 : Int)).flatMap iv = List.replicate k (.int .i64 0) := by
  induction k with
  | zero => rfl
  | succ k ih => rw [List.replicate_succ, List.flatMap_cons, ih]; rfl
theorem zeroCells_int (k : Nat) : Builtin.zeroCells (Value.int .i64 0).cells k = (List.replicate k (Value.int .i64 0)).toArray := by
  have hc : (Value.int .i64 0).cells = #[Value.int .i64 0] := rfl
  unfold Builtin.zeroCells
  rw [hc]
  apply Array.ext
  · simp
  · intro i h1 h2
    simp [Nat.mod_one]
theorem wrap_zero : IntKind.i64.wrap (0 : Int) = 0 := by rw [IntKind.wrap_i64]; rfl

section
variable {w : World} {base n c : Nat} {A : Option Addr} {l : List Int}
theorem run_appZ (w : World) (ty : TypeId) {base n c : Nat} {A : Option Addr} {l : List Int} (hown : Own 1 iv w base 2 A n c l) (k : Nat) (hsz : n + k ≤ 1048576) (hbase : base ≤ w.heap.size) :
    ∃ A' c' w', (Builtin.append_ #[26, 3] ty #[.slice A n c, .int .i64 (k : Int)]).run Try.prog w = .ok (.slice A' (n + k) c') w' ∧ Own 1 iv w' base 2 A' (n + k) c' (l ++ List.replicate k 0) ∧ w.grownBy w' (Value.slice A n c).ownBlock ∧
      ((Value.slice A' (n + k) c').ownBlock = (Value.slice A n c).ownBlock ∨ (Value.slice A' (n + k) c').ownBlock = some w.heap.size) := by
  obtain ⟨ht, h0, hb0, i, z, hi', hz, hs, hby, hzs⟩ := elem_int64
  have hzz : z = .int .i64 0 := by
    have h1 : (Try.prog.info? 2).map (fun i => i.zero) = some (some (.int .i64 0)) := by kernel_rfl
    rw [hi'] at h1
    simp at h1
    rw [hz] at h1
    injection h1
  subst hzz
  have htn : Try.prog.underlying 3 = some (.int .i64) := Try.underlying3
  have hlen : ((l ++ List.replicate k (0 : Int)).flatMap iv).length = (n + k) * 1 := by rw [flat_length flat_iv, List.length_append, hown.1, List.length_replicate]
  have hll : (l ++ List.replicate k (0 : Int)).length = n + k := by rw [List.length_append, hown.1, List.length_replicate]
  have hfm : (l ++ List.replicate k (0 : Int)).flatMap iv = l.flatMap iv ++ List.replicate k (.int .i64 0) := by rw [List.flatMap_append, zero_flat]
  have hxl : (l.flatMap iv).length = n := by rw [flat_length flat_iv, hown.1, Nat.mul_one]
  have grown : ∀ (old : Nat), old < n + k → ∀ (row : Option Nat),
      Own 1 iv (w.drew.alloc (.cells ((l.flatMap iv).toArray ++ Builtin.zeroCells (Value.int .i64 0).cells k ++ Builtin.zeroCells (Value.int .i64 0).cells (grownCap w (n + k) old 2 - (n + k))) 2)) base 2 (some ⟨w.heap.size, 0, none⟩) (n + k) (grownCap w (n + k) old 2) (l ++ List.replicate k 0) ∧
      w.grownBy (w.drew.alloc (.cells ((l.flatMap iv).toArray ++ Builtin.zeroCells (Value.int .i64 0).cells k ++ Builtin.zeroCells (Value.int .i64 0).cells (grownCap w (n + k) old 2 - (n + k))) 2)) row := by
    intro old ho row
    have hge := grownCap_ge w (n + k) old 2
    have hcm : grownCap w (n + k) old 2 ≤ maxLen := grownCap_le_maxLen w (n + k) old 2 (by unfold maxLen; omega)
    refine ⟨⟨hll, hlen, .inr ⟨w.heap.size, _, _, rfl, hbase, heap_alloc_new w.drew _, hge, hcm, ?_, ?_⟩⟩, ⟨rfl, rfl, rfl, by simp, fun q hq _ => Below.heap_alloc w.drew _ q hq⟩⟩
    · rw [zeroCells_int, zeroCells_int]
      simp only [Array.size_append, List.size_toArray, List.length_replicate, hxl]
      omega
    · rw [zeroCells_int, zeroCells_int, hfm]
      simp only [Array.toList_append, List.toList_toArray]
      have hl2 : (l.flatMap iv ++ List.replicate k (Value.int .i64 0)).length = (n + k) * 1 := by rw [List.length_append, hxl, List.length_replicate, Nat.mul_one]
      rw [← hl2]
      exact List.take_left
  rcases hown.2.2 with ⟨hv, rfl⟩ | ⟨g, cap, cur, hv, hbg, hg, hnc, hcm, hcs, htake⟩
  · injection hv with h1 _ h3
    subst h1 h3
    have hl0 : l = [] := List.eq_nil_of_length_eq_zero hown.1
    subst hl0
    by_cases hk : k = 0
    · subst hk
      refine ⟨none, 0, w, ?_, Own.nil_ _ _ _, ⟨rfl, rfl, rfl, Nat.le_refl _, fun _ _ _ => rfl⟩, .inl rfl⟩
      simp [Builtin.append_, run_underlying ht, run_underlying htn, sizeOf, typeInfo, hi', asInt, asIntOf, wrap_zero]
    · have hr := Lib.run_append_nil_zeros (P := Try.prog) w 26 3 ty 2 i _ .i64 .i64 ht htn hi' hz k (by omega) (by omega) (by omega) (by rw [hby]; omega)
      have hgr := grown 0 (by omega) (Value.ownBlock (.slice none 0 0))
      simp only [Nat.zero_add, List.flatMap_nil, List.nil_append, Array.empty_append] at hgr hr ⊢
      exact ⟨_, _, _, hr, hgr.1, hgr.2, .inr rfl⟩
  · injection hv with h1 _ h3
    subst h1 h3
    by_cases hroom : n + k ≤ c
    · have hst := run_storeCells_at Try.prog g (n * 1) 2 (List.replicate k (Value.int .i64 0)) 0 cur w hg (by rw [hcs, List.length_replicate]; omega) (fun u hu => by rw [List.eq_of_mem_replicate hu]; rfl)
      simp only [Nat.add_zero, List.length_replicate, Nat.mul_one] at hst
      have hw : IntKind.i64.wrap (k : Int) = k := by rw [IntKind.wrap_i64]; omega
      have hneg : ¬ ((k : Int) < 0) := by omega
      have h48 : ¬ (281474976710656 < (k : Int) * (i.bytes : Int)) := by rw [hby]; omega
      by_cases hk : k = 0
      · subst hk
        refine ⟨_, c, w, ?_, by rw [List.replicate_zero, List.append_nil]; exact hown, ⟨rfl, rfl, rfl, Nat.le_refl _, fun _ _ _ => rfl⟩, .inl rfl⟩
        simp [Builtin.append_, run_underlying ht, run_underlying htn, sizeOf, typeInfo, hi', asInt, asIntOf, wrap_zero, hnc, hs, Addr.add_lit, storeCells]
      have hks : ¬ (k * i.size = 0) := by rw [hs]; omega
      have hr : (Builtin.append_ #[26, 3] ty #[.slice (some ⟨g, 0, none⟩) n c, .int .i64 (k : Int)]).run Try.prog w = .ok (.slice (some ⟨g, 0, none⟩) (n + k) c) (w.setRow g (cur.toList.take n ++ List.replicate k (Value.int .i64 0) ++ cur.toList.drop (n + k)).toArray) := by
        simp [Builtin.append_, run_underlying ht, run_underlying htn, sizeOf, typeInfo, zeroValue, hi', hz, asInt, asIntOf, hw, hneg, h48, hks, hroom, hs, zeroCells_int, Addr.add_lit, hst]
        exact fun e => absurd e hk
      refine ⟨_, _, _, hr, ⟨hll, hlen, .inr ⟨g, c, _, rfl, hbg, setRow_heap w g cur _ 2 _ hg, hroom, hcm, ?_, ?_⟩⟩, ⟨rfl, rfl, rfl, by simp, fun q _ hq => setRow_other w g q _ (fun e => hq (by simp [Value.ownBlock, e]))⟩, .inl rfl⟩
      · simp only [List.size_toArray, List.length_append, List.length_take, List.length_drop, Array.length_toList, List.length_replicate]
        omega
      · rw [hfm]
        rw [Nat.mul_one] at htake
        simp only [List.toList_toArray, htake]
        have hl2 : (l.flatMap iv ++ List.replicate k (Value.int .i64 0)).length = (n + k) * 1 := by rw [List.length_append, hxl, List.length_replicate, Nat.mul_one]
        rw [← hl2]
        exact List.take_left
    · have hold : (Builtin.firstCells i.size n (.slice (some ⟨g, 0, none⟩) n c)).run Try.prog w.drew = .ok (l.flatMap iv).toArray w.drew :=
        run_firstCells_some (P := Try.prog) w.drew i.size n ⟨g, 0, none⟩ n c (l.flatMap iv) (by rw [hs, hxl, Nat.mul_one]) (hown.2.cells (g := g) rfl)
      have hr := Lib.run_append_grow_zeros (P := Try.prog) w 26 3 ty 2 i _ .i64 .i64 ht htn hi' hz (some ⟨g, 0, none⟩) n c (l.flatMap iv) hold k (by omega) (by omega) (by omega) (by omega) (by rw [hby]; omega) (by rw [hby]; exact growslice_fits (by omega) (by omega))
      have hgr := grown c (by omega) (Value.ownBlock (.slice (some ⟨g, 0, none⟩) n c))
      exact ⟨_, _, _, hr, hgr.1, hgr.2, .inr rfl⟩
end

end Go.Proofs.Ythmhlbkkhaplkaa

namespace Go.Proofs.Ythmhlbkkhaplkaa
open Go.ChangeShapes Go.WideShapes Go.ChangeAt Go.RowKit
set_option linter.unusedVariables false
set_option linter.unusedSimpArgs false

/-- A row value that reads as a number. -/
def RowV (w : World) (lo hi : Nat) (A : Option Addr) (n : Nat) (g : DV) (p : Int) (x : Nat) : Prop := ∃ l, SlI w lo hi A n l ∧ RowR g p l x
theorem RowR.len {g : DV} {p : Int} {l : List Int} {x : Nat} (h : RowR g p l x) : (l.length = 0 ∧ x = topF g p) ∨ (l.length = 5 ∧ x < topF g p) := by
  rcases h with ⟨e, ex⟩ | ⟨e, ex⟩
  · left; rw [e]; exact ⟨rfl, ex⟩
  · right; exact ⟨e.1, by rw [ex]; exact e.lt⟩
/-- Where the search for a digit that may grow stands: the digits from i + 1 to n - 1 are zeros. -/
def NeedI (g : DV) (p : Int) (E n : Nat) (l : List Int) (i : Nat) : Prop := RowD (mostF g p) l ∧ encL (mostF g p) l + bdN (mostF g p) (5 - i) = E + bdN (mostF g p) (5 - n)
theorem NeedI.step {g : DV} {p : Int} {E n i : Nat} {l : List Int} (h : NeedI g p E n l (i + 1)) (hi : i < 5) (hm : atL l i = (mostF g p i : Int)) : NeedI g p E n (l.set i 0) i := by
  obtain ⟨h1, h2⟩ := encL_zero h.1 hi hm
  refine ⟨h1, ?_⟩
  have h3 := h.2
  rw [show 5 - (i + 1) = 4 - i by omega] at h3
  omega
theorem NeedI.done {g : DV} {p : Int} {E n i : Nat} {l : List Int} (h : NeedI g p E n l (i + 1)) (hi : i < 5) (hm : atL l i < (mostF g p i : Int)) : RowD (mostF g p) (l.set i (atL l i + 1)) ∧ encL (mostF g p) (l.set i (atL l i + 1)) = E + bdN (mostF g p) (5 - n) := by
  obtain ⟨h1, h2⟩ := encL_inc h.1 hi hm
  refine ⟨h1, ?_⟩
  have h3 := h.2
  rw [show 5 - (i + 1) = 4 - i by omega] at h3
  omega

set_option maxRecDepth 100000 in
set_option maxHeartbeats 1600000 in
theorem needed_calls (b : Nat) (g : DV) (p q : Int) (A : Option Addr) (n c : Nat) (x : Nat) (w : World) (lo hi : Nat) (h : MeaW w b p (mostF g p)) (hp : p = 0 ∨ p = 1) (hq : 0 ≤ q ∧ q ≤ 9) (hr : RowV w lo hi A n g p x) (hc : n ≤ c) (hgl : g.length ≤ 120) :
    Calls Try.prog 67 #[.pointer (some ⟨b, 0, none⟩), .int .i64 q, .slice A n c] w fun e w' => ∃ A' n' c', e = .returned (.slice A' n' c') ∧ n' ≤ c' ∧ RowV w' w.heap.size w'.heap.size A' n' g p (needF g p q x) ∧ Below w.heap.size w w' := by
  obtain ⟨l, hs, hx⟩ := hr
  have hE := hide elem_int64
  have hb := h.lt
  have hln := hs.len
  have qu := hide (upTo_calls b p (mostF g p) q w h hp hq)
  have hu : upF p q ≤ 5 := by unfold upF; omega
  rcases hx.len with ⟨e0, ex⟩ | ⟨e5, ex⟩
  · have hv : Hid (needF g p q x = topF g p) := by show _ = _; unfold needF; rw [if_pos (by omega)]
    have f1 : (n : Int) = 0 := by omega
    clear hs h qu hx
    go_enter Try.func67, Try.ntmps67
    go_wp2_with fail
    go_ret
    exact ⟨none, 0, 0, rfl, Nat.le_refl _, ⟨[], Sl.nil_, .inl ⟨rfl, hv.out⟩⟩, Below.refl _ _⟩
  · have hRD : RowD (mostF g p) l ∧ x = encL (mostF g p) l := by
      rcases hx with ⟨e, -⟩ | hx
      · rw [e] at e5; exact absurd e5 (by decide)
      · exact hx
    obtain ⟨hD, rfl⟩ := hRD
    obtain rfl : n = 5 := by omega
    have hCU := hide (hD.cut hu)
    have hc1 := h.pl
    have q2 := hide (cloneOwn_calls A (upF p q) c (l.take (upF p q)) w _ _ (hs.take (by omega)) (by omega))
    have hhead : ∀ W : World, (Instr.slice 26 (.slice A 5 c) none (some (.int .i64 (upF p q : Int))) none).run Try.prog W = .ok (.slice A (upF p q) c) W := fun W => run_head hE.out A 5 c (upF p q) (by omega) W
    have hneed : Hid (needF g p q (encL (mostF g p) l) = encL (mostF g p) l / cutF g p q * cutF g p q + if q % 2 = p then 0 else cutF g p q) := by
      show _ = _
      unfold needF
      rw [if_neg (by omega)]
    have hcl : Hid (cutF g p q = bdN (mostF g p) (5 - upF p q)) := rfl
    have hlt := hide hD.lt
    replace h := hide h
    clear hs hx hD
    generalize hug : upF p q = u at *
    go_enter Try.func67, Try.ntmps67
    go_wp2_with fail
    refine qu.out.mono ?_
    rintro e w1 ⟨rfl, rfl⟩
    clear qu
    go_upto_region 4 with fail
    go_cut [8] (fun s wx => ∃ (A2 : Option Addr) (c2 : Nat), s = .slice A2 5 c2 ∧ Hid (Own 1 iv wx w.heap.size 2 A2 5 c2 (l.take u ++ List.replicate (5 - u) 0)) ∧ Hid (Below w.heap.size w wx))
    case first =>
      go_wp2_with fail
      refine q2.out.mono ?_
      rintro e w2 ⟨A2, c2, rfl, hO, hB⟩
      obtain ⟨A3, c3, w3, hrun, hO3, hg3, -⟩ := run_appZ w2 26 hO (5 - u) (by omega) hB.size
      have hB3 := hide (hB.trans (hO.grown_below hg3 (Nat.le_refl _) hB.size))
      rw [show u + (5 - u) = 5 by omega] at hrun hO3
      have h5 : (5 : Int) - (u : Int) = ((5 - u : Nat) : Int) := by omega
      replace hO3 := hide hO3
      clear hO hB hg3 q2
      go_wp2_with (first | (at_builtin; refine Lib.wpList_append_run _ rfl (.tmp 19) (.tmp 21) 26 3 rfl _ _ rfl rfl _ _ hrun ?_))
      go_meet
      exact ⟨A3, c3, rfl, hO3.out, hB3.out⟩
    case rest =>
      obtain ⟨A2, c2, rfl, hO, hB⟩ := hcut
      have hh := hide (h.out.below hB.out hb)
      have c1 := hh.out.pl
      clear q2 hhead hc1
      by_cases hpar : q % 2 = p
      · have e1 : (q % 2 == p) = true := by rw [beq_iff_eq]; exact hpar
        rw [if_pos hpar, Nat.add_zero] at hneed
        have hres : Hid (RowR g p (l.take u ++ List.replicate (5 - u) 0) (needF g p q (encL (mostF g p) l))) := .inr ⟨hCU.out.1, by rw [hneed.out, hcl.out, hCU.out.2]⟩
        have hq0 := hq.1
        clear hpar
        go_wp2_with fail
        go_ret
        exact ⟨A2, 5, c2, rfl, hO.out.cap, ⟨_, hO.out.sl flat_iv, hres.out⟩, hB.out⟩
      · have e1 : (q % 2 == p) = false := by rw [beq_eq_false_iff_ne]; exact hpar
        rw [if_neg hpar] at hneed
        have hu1 : 1 ≤ u := by rw [← hug]; unfold upF; omega
        have hI0 : Hid (NeedI g p (encL (mostF g p) l / cutF g p q * cutF g p q) u (l.take u ++ List.replicate (5 - u) 0) u) := ⟨hCU.out.1, by rw [hCU.out.2, hcl.out]⟩
        have hq0 := hq.1
        generalize hE0 : encL (mostF g p) l / cutF g p q * cutF g p q = E at *
        generalize l.take u ++ List.replicate (5 - u) 0 = l0 at *
        have hET : Hid (E + cutF g p q ≤ topF g p) := by show _ ≤ _; rw [← hE0]; exact cut_next (cutF_pos g p q) (cutF_dvd g p q) ex
        obtain ⟨ba, oa, rfl, hba, -, -, -⟩ := (hO.out.sl flat_iv).at_ (by omega)
        have hS0 := hide (hO.out.sl flat_iv)
        have hcap := hO.out.cap
        clear hpar hCU hO
        go_wp2_with fail
        go_loopw [9] (fun v wr => ∃ (i : Nat) (lr : List Int), i ≤ u ∧ v = .int .i64 ((i : Int) - 1) ∧ Hid (NeedI g p E u lr i) ∧ Hid (SlI wr w.heap.size wr.heap.size (some ⟨ba, oa, none⟩) 5 lr) ∧ Hid (Below w.heap.size w wr)) (fun v _ => (intOf v + 1).toNat)
        case atStart => exact ⟨u, l0, Nat.le_refl _, by go_num, hI0.out, hS0.out, hB.out⟩
        case round =>
          clear hI0 hS0 hB hh c1
          obtain ⟨i, lr, hi, rfl, hI, hS, hb2⟩ := hrel
          cases i with
          | zero =>
            have hE1 := hI.out.2
            have hres : Hid (needF g p q (encL (mostF g p) l) = topF g p) := by
              show _ = _
              have h1 : cutF g p q = bdN (mostF g p) (5 - u) := hcl.out
              have h2 : bdN (mostF g p) (5 - 0) = topF g p := rfl
              have h3 := hET.out
              have h4 := hneed.out
              omega
            have i1 : ¬ (((0 : Nat) : Int) - 1 ≥ 0) := by omega
            clear hE1
            go_wp2_with fail
            go_ret
            exact ⟨none, 0, 0, rfl, Nat.le_refl _, ⟨[], Sl.nil_, .inl ⟨rfl, hres.out⟩⟩, hb2.out⟩
          | succ i =>
            have hh := h.out.below hb2.out hb
            have cm := hh.at (show i < 5 by omega)
            have e1 : ((i + 1 : Nat) : Int) - 1 = (i : Int) := by omega
            rw [e1]
            have i0 : (0 : Int) ≤ (i : Int) := by omega
            have i5 : (i : Int) < 5 := by omega
            obtain ⟨y, hy, cy, fy⟩ := SlI.cell hS.out (show i < 5 by omega)
            have hya : atL lr i = y := atL_get hy
            have hbl : ba < wr.heap.size := by
              obtain ⟨b', o', e, -, -, q, -⟩ := hS.out.at_ (by omega)
              cases e; exact q
            have hyb := hI.out.1.2 i (by omega)
            rw [hya] at hyb
            have hmb : (mostF g p i : Int) ≤ 1048576 := by have : mostF g p i ≤ g.length := List.countP_le_length; omega
            clear hy hh
            by_cases hlt : y < (mostF g p i : Int)
            · have hd := hI.out.done (by omega) (by rw [hya]; exact hlt)
              rw [hya] at hd
              have hres : Hid (RowR g p (lr.set i (y + 1)) (needF g p q (encL (mostF g p) l))) := .inr ⟨hd.1, by rw [hneed.out, hd.2, hcl.out]⟩
              clear hd hya
              generalize (mostF g p i : Int) = mi at *
              go_wp2_with fail
              go_quiet (fail)
              obtain ⟨wq, hwq⟩ : ∃ wq, wq = wr.drewN nq := ⟨_, rfl⟩
              have cyq : wq.cell? ⟨ba, oa + i, none⟩ = some (.int .i64 y) := by rw [hwq]; exact cy
              have fyq : wq.frozen? ⟨ba, oa + i, none⟩ = false := by rw [hwq]; exact fy
              have hS2 : Hid (SlI (wq.setCell ⟨ba, oa + i, none⟩ (.int .i64 (y + 1))) w.heap.size wr.heap.size (some ⟨ba, oa, none⟩) 5 (lr.set i (y + 1))) := by rw [hwq]; exact SlI.put (hS.out.drewN nq) (show i < 5 by omega) (y + 1)
              have hb3 : Hid (Below w.heap.size w (wq.setCell ⟨ba, oa + i, none⟩ (.int .i64 (y + 1)))) := by rw [hwq]; exact (hb2.out.trans ((below_drewN wr nq).mono hb2.out.size)).setCell (p := ⟨ba, oa + i, none⟩) hba (.int .i64 (y + 1))
              have hzq : (wq.setCell ⟨ba, oa + i, none⟩ (.int .i64 (y + 1))).heap.size = wr.heap.size := by rw [World.size_setCell, hwq]; rfl
              rw [← hwq]
              replace hzq := hide hzq
              clear hwq cy fy cm
              go_wp2_with fail
              go_ret
              exact ⟨_, 5, c2, rfl, hcap, ⟨_, hS2.out.more (Nat.le_refl _) (by rw [hzq.out]; exact Nat.le_refl _), hres.out⟩, hb3.out⟩
            · have hst := hI.out.step (by omega) (by rw [hya]; omega)
              replace hst := hide hst
              clear hya
              generalize (mostF g p i : Int) = mi at *
              go_wp2_with fail
              go_quiet (fail)
              obtain ⟨wq, hwq⟩ : ∃ wq, wq = wr.drewN nq := ⟨_, rfl⟩
              have cyq : wq.cell? ⟨ba, oa + i, none⟩ = some (.int .i64 y) := by rw [hwq]; exact cy
              have fyq : wq.frozen? ⟨ba, oa + i, none⟩ = false := by rw [hwq]; exact fy
              have hS2 : Hid (SlI (wq.setCell ⟨ba, oa + i, none⟩ (.int .i64 (0))) w.heap.size wr.heap.size (some ⟨ba, oa, none⟩) 5 (lr.set i (0))) := by rw [hwq]; exact SlI.put (hS.out.drewN nq) (show i < 5 by omega) 0
              have hb3 : Hid (Below w.heap.size w (wq.setCell ⟨ba, oa + i, none⟩ (.int .i64 (0)))) := by rw [hwq]; exact (hb2.out.trans ((below_drewN wr nq).mono hb2.out.size)).setCell (p := ⟨ba, oa + i, none⟩) hba (.int .i64 (0))
              have hzq : (wq.setCell ⟨ba, oa + i, none⟩ (.int .i64 (0))).heap.size = wr.heap.size := by rw [World.size_setCell, hwq]; rfl
              rw [← hwq]
              replace hzq := hide hzq
              clear hwq cy fy cm
              go_wp2_with fail
              go_roundw
              case rel => exact ⟨i, _, by omega, by go_num, hst.out, hS2.out.more (Nat.le_refl _) (by rw [hzq.out]; exact Nat.le_refl _), hb3.out⟩
              case measure => simp [intOf]

end Go.Proofs.Ythmhlbkkhaplkaa

namespace Go.Proofs.Ythmhlbkkhaplkaa
set_option linter.unusedVariables false
set_option linter.unusedSimpArgs false

theorem snoc_ind {α : Type} {P : List α → Prop} (h0 : P []) (h1 : ∀ l x, P l → P (l ++ [x])) (l : List α) : P l := by
  have key : ∀ n (l : List α), l.length = n → P l := fun n => by
    induction n with
    | zero => intro l hl; rw [List.eq_nil_of_length_eq_zero hl]; exact h0
    | succ n ih =>
      intro l hl
      have hne : l ≠ [] := fun e => by rw [e] at hl; simp at hl
      rw [← List.dropLast_concat_getLast hne]
      exact h1 _ _ (ih _ (by rw [List.length_dropLast, hl]; rfl))
  exact key _ l rfl
/-- What a vertex needs with the numbers of others. -/
def dueF (g : DV) (p o q : Int) (l : List Int) (μ : Nat → Nat) : Nat :=
  if o = p then l.foldl (fun a u => if needF g p q (μ u.toNat) < a then needF g p q (μ u.toNat) else a) (topF g p)
  else l.foldl (fun a u => if a < needF g p q (μ u.toNat) then needF g p q (μ u.toNat) else a) 0
section
variable {g : DV} {p o q : Int} {μ ν : Nat → Nat} {l : List Int}
theorem dueF_nil : dueF g p o q [] μ = if o = p then topF g p else 0 := by unfold dueF; split <;> rfl
theorem dueF_snoc (l : List Int) (u : Int) : dueF g p o q (l ++ [u]) μ = if o = p then (if needF g p q (μ u.toNat) < dueF g p o q l μ then needF g p q (μ u.toNat) else dueF g p o q l μ) else (if dueF g p o q l μ < needF g p q (μ u.toNat) then needF g p q (μ u.toNat) else dueF g p o q l μ) := by
  unfold dueF
  by_cases e : o = p
  · simp only [if_pos e, List.foldl_append, List.foldl_cons, List.foldl_nil]
  · simp only [if_neg e, List.foldl_append, List.foldl_cons, List.foldl_nil]
theorem dueF_step {k : Nat} {u : Int} (h : l[k]? = some u) : dueF g p o q (l.take (k + 1)) μ = if o = p then (if needF g p q (μ u.toNat) < dueF g p o q (l.take k) μ then needF g p q (μ u.toNat) else dueF g p o q (l.take k) μ) else (if dueF g p o q (l.take k) μ < needF g p q (μ u.toNat) then needF g p q (μ u.toNat) else dueF g p o q (l.take k) μ) := by
  rw [List.take_add_one, h]
  exact dueF_snoc _ _
theorem dueF_own (e : o = p) (l : List Int) : (∀ u, u ∈ l → dueF g p o q l μ ≤ needF g p q (μ u.toNat)) ∧ dueF g p o q l μ ≤ topF g p ∧ (dueF g p o q l μ = topF g p ∨ ∃ u, u ∈ l ∧ dueF g p o q l μ = needF g p q (μ u.toNat)) := by
  refine snoc_ind (P := fun l => (∀ u, u ∈ l → dueF g p o q l μ ≤ needF g p q (μ u.toNat)) ∧ dueF g p o q l μ ≤ topF g p ∧ (dueF g p o q l μ = topF g p ∨ ∃ u, u ∈ l ∧ dueF g p o q l μ = needF g p q (μ u.toNat))) ?_ (fun l v ih => ?_) l
  · rw [dueF_nil, if_pos e]; exact ⟨fun u hu => absurd hu (List.not_mem_nil), Nat.le_refl _, .inl rfl⟩
  · (try dsimp only at ih ⊢)
    rw [dueF_snoc, if_pos e]
    obtain ⟨h1, h2, h3⟩ := ih
    split
    · rename_i c
      refine ⟨fun u hu => ?_, by omega, .inr ⟨v, by simp, rfl⟩⟩
      rcases List.mem_append.1 hu with hu | hu
      · have := h1 u hu; omega
      · rw [List.mem_singleton.1 hu]; exact Nat.le_refl _
    · rename_i c
      refine ⟨fun u hu => ?_, h2, ?_⟩
      · rcases List.mem_append.1 hu with hu | hu
        · exact h1 u hu
        · rw [List.mem_singleton.1 hu]; omega
      · rcases h3 with h3 | ⟨u, hu, h3⟩
        · exact .inl h3
        · exact .inr ⟨u, List.mem_append_left _ hu, h3⟩
theorem dueF_opp (e : o ≠ p) (l : List Int) : (∀ u, u ∈ l → needF g p q (μ u.toNat) ≤ dueF g p o q l μ) ∧ (dueF g p o q l μ = 0 ∨ ∃ u, u ∈ l ∧ dueF g p o q l μ = needF g p q (μ u.toNat)) := by
  refine snoc_ind (P := fun l => (∀ u, u ∈ l → needF g p q (μ u.toNat) ≤ dueF g p o q l μ) ∧ (dueF g p o q l μ = 0 ∨ ∃ u, u ∈ l ∧ dueF g p o q l μ = needF g p q (μ u.toNat))) ?_ (fun l v ih => ?_) l
  · rw [dueF_nil, if_neg e]; exact ⟨fun u hu => absurd hu (List.not_mem_nil), .inl rfl⟩
  · (try dsimp only at ih ⊢)
    rw [dueF_snoc, if_neg e]
    obtain ⟨h1, h3⟩ := ih
    split
    · rename_i c
      refine ⟨fun u hu => ?_, .inr ⟨v, by simp, rfl⟩⟩
      rcases List.mem_append.1 hu with hu | hu
      · have := h1 u hu; omega
      · rw [List.mem_singleton.1 hu]; exact Nat.le_refl _
    · rename_i c
      refine ⟨fun u hu => ?_, ?_⟩
      · rcases List.mem_append.1 hu with hu | hu
        · exact h1 u hu
        · rw [List.mem_singleton.1 hu]; omega
      · rcases h3 with h3 | ⟨u, hu, h3⟩
        · exact .inl h3
        · exact .inr ⟨u, List.mem_append_left _ hu, h3⟩
theorem dueF_top : dueF g p o q l μ ≤ topF g p := by
  by_cases e : o = p
  · exact (dueF_own e l).2.1
  · rcases (dueF_opp (μ := μ) (q := q) (g := g) e l).2 with h | ⟨u, _, h⟩
    · rw [h]; exact Nat.zero_le _
    · rw [h]; exact needF_le
/-- What vertex v needs. -/
def dueV (g : DV) (p : Int) (μ : Nat → Nat) (v : Nat) : Nat := dueF g p (gOwn g v) (gPri g v) (gRaw g v) μ
theorem dueV_le (ok : GameOk g) (hν : PreF g p ν) {v : Nat} (hv : v < g.length) (h : ∀ u, u < g.length → μ u ≤ ν u) : dueV g p μ v ≤ ν v := by
  unfold dueV
  have hin : ∀ u, u ∈ gRaw g v → u.toNat ∈ gNxt g v ∧ u.toNat < g.length := fun u hu => by
    have : u.toNat ∈ gNxt g v := by rw [gNxt_raw]; exact List.mem_map_of_mem hu
    exact ⟨this, ok.succ _ _ this⟩
  by_cases e : gOwn g v = p
  · by_cases c : ν v < topF g p
    · obtain ⟨u, hu, h1⟩ := hν.own v hv e c
      rw [gNxt_raw] at hu
      obtain ⟨x, hx, rfl⟩ := List.mem_map.1 hu
      have h2 := (dueF_own (μ := μ) (q := gPri g v) (g := g) e (gRaw g v)).1 x hx
      exact Nat.le_trans h2 (Nat.le_trans (needF_mono (h _ (hin x hx).2)) h1)
    · exact Nat.le_trans dueF_top (by omega)
  · rcases (dueF_opp (μ := μ) (q := gPri g v) (g := g) e (gRaw g v)).2 with h1 | ⟨x, hx, h1⟩
    · rw [h1]; exact Nat.zero_le _
    · rw [h1]
      exact Nat.le_trans (needF_mono (h _ (hin x hx).2)) (hν.opp v hv e _ (hin x hx).1)
/-- Numbers that need not be raised are enough. -/
theorem pre_of_due (ok : GameOk g) (h : ∀ v, v < g.length → dueV g p μ v ≤ μ v) : PreF g p μ := by
  refine ⟨fun v hv e c => ?_, fun v hv e u hu => ?_⟩
  · have h1 := h v hv
    unfold dueV at h1
    rcases (dueF_own (μ := μ) (q := gPri g v) (g := g) e (gRaw g v)).2.2 with h2 | ⟨x, hx, h2⟩
    · omega
    · exact ⟨x.toNat, by rw [gNxt_raw]; exact List.mem_map_of_mem hx, by rw [← h2]; exact h1⟩
  · have h1 := h v hv
    unfold dueV at h1
    rw [gNxt_raw] at hu
    obtain ⟨x, hx, rfl⟩ := List.mem_map.1 hu
    exact Nat.le_trans ((dueF_opp (μ := μ) (q := gPri g v) (g := g) e (gRaw g v)).1 x hx) h1
/-- Below all numbers that are enough. -/
def LeastI (g : DV) (p : Int) (μ : Nat → Nat) : Prop := (∀ v, v < g.length → μ v ≤ topF g p) ∧ ∀ ν, PreF g p ν → ∀ v, v < g.length → μ v ≤ ν v
theorem LeastI.zero : LeastI g p fun _ => 0 := ⟨fun _ _ => Nat.zero_le _, fun _ _ _ _ => Nat.zero_le _⟩
theorem LeastI.raise (ok : GameOk g) (h : LeastI g p μ) {k : Nat} (hk : k < g.length) : LeastI g p fun v => if v = k then dueV g p μ k else μ v := by
  refine ⟨fun v hv => ?_, fun ν hν v hv => ?_⟩
  · dsimp only
    split
    · exact dueF_top
    · exact h.1 v hv
  · dsimp only
    split
    · rename_i e; rw [e]; exact dueV_le ok hν hk (h.2 ν hν)
    · exact h.2 ν hν v hv
/-- How much there is left to raise. -/
def leftI (g : DV) (p : Int) (μ : Nat → Nat) : Nat := ((List.range g.length).map fun v => topF g p - μ v).sum
theorem sum_lt {n k : Nat} {f f' : Nat → Nat} (hk : k < n) (h : ∀ v, v ≠ k → f' v = f v) (hlt : f' k < f k) : ((List.range n).map f').sum < ((List.range n).map f).sum := by
  induction n with
  | zero => omega
  | succ n ih =>
    rw [List.range_succ, List.map_append, List.map_append, List.sum_append, List.sum_append]
    simp only [List.map_cons, List.map_nil, List.sum_cons, List.sum_nil, Nat.add_zero]
    by_cases e : k = n
    · subst e
      have : (List.range k).map f' = (List.range k).map f := List.map_congr_left fun v hv => h v (by have := List.mem_range.1 hv; omega)
      rw [this]; omega
    · have := ih (by omega)
      rw [h n (fun e' => e e'.symm)]; omega
theorem leftI_raise (h : LeastI g p μ) {k x : Nat} (hk : k < g.length) (hx : μ k < x) (hx2 : x ≤ topF g p) : leftI g p (fun v => if v = k then x else μ v) < leftI g p μ := by
  refine sum_lt (k := k) hk (fun v hv => ?_) ?_
  · dsimp only; rw [if_neg hv]
  · dsimp only; rw [if_pos rfl]; omega
theorem least_done (ok : GameOk g) (hp : p = 0 ∨ p = 1) (h : LeastI g p μ) (hd : ∀ v, v < g.length → dueV g p μ v ≤ μ v) {v : Nat} (hv : v < g.length) : μ v < topF g p ↔ wonI g v = p :=
  least_pre ok hp (pre_of_due ok hd) (fun ν hν u hu => h.2 ν hν u hu) hv
end
end Go.Proofs.Ythmhlbkkhaplkaa

namespace Go.Proofs.Ythmhlbkkhaplkaa
open Go.ChangeShapes Go.WideShapes Go.ChangeAt Go.RowKit
set_option linter.unusedVariables false
set_option linter.unusedSimpArgs false

theorem most_step {g : DV} {p : Int} {k : Nat} {o q : Int} {l : List Int} (h : g[k]? = some (o, q, l)) (i : Nat) : mostF (g.take (k + 1)) p i = mostF (g.take k) p i + if q % 2 ≠ p ∧ q / 2 = (i : Int) then 1 else 0 := by
  unfold mostF
  rw [List.take_add_one, h, List.countP_append]
  simp only [Option.toList_some, List.countP_cons, List.countP_nil, Nat.zero_add]
  congr 1
  by_cases c : q % 2 ≠ p ∧ q / 2 = (i : Int)
  · rw [if_pos c, if_pos (decide_eq_true c)]
  · rw [if_neg c, if_neg (by simpa using c)]
theorem MeaW.congr {w : World} {b : Nat} {p : Int} {m m' : Nat → Nat} (h : MeaW w b p m) (e : ∀ i, i < 5 → m i = m' i) : MeaW w b p m' := by
  obtain ⟨v, h⟩ := h
  refine ⟨v, ?_⟩
  rw [h, e 0 (by omega), e 1 (by omega), e 2 (by omega), e 3 (by omega), e 4 (by omega)]
theorem MeaW.inc {w : World} {b : Nat} {p : Int} {m : Nat → Nat} (h : MeaW w b p m) {i : Nat} (hi : i < 5) : MeaW (w.setCell ⟨b, 2 + i, none⟩ (.int .i64 ((m i : Int) + 1))) b p fun j => if j = i then m j + 1 else m j := by
  obtain ⟨v, h⟩ := h
  refine ⟨v, ?_⟩
  have := heap_setCell_same w b (2 + i) _ _ (.int .i64 ((m i : Int) + 1)) h
  rw [this]
  match i, hi with
  | 0, _ => rfl
  | 1, _ => rfl
  | 2, _ => rfl
  | 3, _ => rfl
  | 4, _ => rfl

set_option maxRecDepth 100000 in
set_option maxHeartbeats 1600000 in
theorem newMeasured_calls (G : Option Addr) (n d : Nat) (g : DV) (p : Int) (w : World) (hg : GameAt w G n g) (ok : GameOk g) (hp : p = 0 ∨ p = 1) :
    Calls Try.prog 27 #[.slice G n d, .int .i64 p] w fun e w' => e = .returned (.pointer (some ⟨w.heap.size, 0, none⟩)) ∧ MeaW w' w.heap.size p (mostF g p) ∧ Below w.heap.size w w' := by
  have hgl := hg.len
  have hn1 : 0 < n ∧ n ≤ 120 := by have := ok.1; omega
  obtain ⟨bg, og, rfl, hbg⟩ := hg.addr hn1.1
  have hM0 : Hid (MeaW (w.alloc (.cells #[.slice (some ⟨bg, og, none⟩) n d, .int .i64 p, .int .i64 0, .int .i64 0, .int .i64 0, .int .i64 0, .int .i64 0] 90)) w.heap.size p (mostF (g.take 0) p)) := ⟨_, heap_alloc_new w _⟩
  have hB0 : Hid (Below w.heap.size w (w.alloc (.cells #[.slice (some ⟨bg, og, none⟩) n d, .int .i64 p, .int .i64 0, .int .i64 0, .int .i64 0, .int .i64 0, .int .i64 0] 90))) := (Below.refl _ _).alloc (Nat.le_refl _) _
  replace hg := hide hg
  replace ok := hide ok
  replace hgl := hide hgl
  obtain ⟨hn0, hn7⟩ := hn1
  obtain ⟨b, hb⟩ : ∃ b, b = w.heap.size := ⟨_, rfl⟩
  go_enter Try.func27, Try.ntmps27
  go_wp2_with fail
  rw [← hb] at hM0
  rw [← hb]
  have hwb : w.heap.size ≤ b := by omega
  replace hb := hide hb
  go_loopw [14] (fun i wr => ∃ k : Nat, k ≤ n ∧ i = .int .i64 (k : Nat) ∧ Hid (MeaW wr b p (mostF (g.take k) p)) ∧ Hid (Below w.heap.size w wr)) (fun i _ => n - (intOf i).toNat)
  case atStart => exact ⟨0, Nat.zero_le _, rfl, hM0.out, hB0.out⟩
  case round =>
    clear hM0 hB0
    obtain ⟨k, hk, rfl, hM, hB⟩ := hrel
    by_cases hlt : k < n
    · have k0 : (0 : Int) ≤ (k : Int) := by omega
      have k1 : (k : Int) < (n : Int) := by omega
      obtain ⟨o, pr, l, Ah, nh, ch, hx, c0, c1, c2, -, -, -, hpr, -⟩ := (hg.out.below hB.out (Nat.le_refl _)).cell ok.out hlt
      obtain ⟨hp0, hp9⟩ := hpr
      have hst := hide (most_step (p := p) hx)
      have hbox := heap_alloc_new wr (.cells #[.int .i64 o, .int .i64 pr, .slice Ah nh ch] 49)
      have hbl := hM.out.lt
      have hB1 := hide (hB.out.alloc hB.out.size (.cells #[.int .i64 o, .int .i64 pr, .slice Ah nh ch] 49))
      have hM1 := hide (hM.out.keep (w' := wr.alloc (.cells #[.int .i64 o, .int .i64 pr, .slice Ah nh ch] 49)) (Below.heap_alloc _ _ _ hbl))
      have y1 : (wr.alloc (.cells #[.int .i64 o, .int .i64 pr, .slice Ah nh ch] 49)).cell? ⟨wr.heap.size, 1, none⟩ = some (.int .i64 pr) := (cell_of_row _ _ 1 _ _ (0, 0) hbox).trans rfl
      clear hx hbox
      by_cases hpar : pr % 2 = p
      · have e1 : (pr % 2 != p) = false := by rw [hpar]; simp
        have hM2 : Hid (MeaW (wr.alloc (.cells #[.int .i64 o, .int .i64 pr, .slice Ah nh ch] 49)) b p (mostF (g.take (k + 1)) p)) := hM1.out.congr fun i _ => by rw [hst.out, if_neg (fun c => c.1 hpar)]; rfl
        clear hpar hM1
        go_wp2_with fail
        go_roundw
        case rel => exact ⟨k + 1, by omega, by go_num, hM2.out, hB1.out⟩
        case measure => simp [intOf]; omega
      · have e1 : (pr % 2 != p) = true := by simpa using hpar
        obtain ⟨i, hi⟩ : ∃ i : Nat, pr / 2 = (i : Int) := ⟨(pr / 2).toNat, by omega⟩
        have hi5 : i < 5 := by omega
        have i0 : (0 : Int) ≤ (i : Int) := by omega
        have i5 : (i : Int) < 5 := by omega
        have hM2 := hide (hM1.out.inc hi5)
        have hmst : Hid (∀ j, j < 5 → (if j = i then mostF (g.take k) p j + 1 else mostF (g.take k) p j) = mostF (g.take (k + 1)) p j) := fun j _ => by
          rw [hst.out]
          by_cases e : j = i
          · subst e; rw [if_pos rfl, if_pos ⟨hpar, hi⟩]
          · rw [if_neg e, if_neg (fun c => e (by have := c.2; omega))]; rfl
        have hmb : mostF (g.take k) p i ≤ 120 := by
          have h1 : mostF (g.take k) p i ≤ (g.take k).length := List.countP_le_length
          rw [List.length_take] at h1
          omega
        have cm := hM1.out.at hi5
        have fm := hM1.out.frozen (2 + i)
        have hB2 := hide (hB1.out.setCell (p := ⟨b, 2 + i, none⟩) hwb (.int .i64 ((mostF (g.take k) p i : Int) + 1)))
        have hq2 : IntKind.i64.wrap (pr.tdiv 2) = (i : Int) := by rw [Int.tdiv_eq_ediv_of_nonneg hp0, hi]; exact IntWalk.i64_in _ (by omega)
        generalize hmi : mostF (g.take k) p i = mi at *
        have hq3 : IntKind.i64.wrap ((mi : Int) + 1) = (mi : Int) + 1 := IntWalk.i64_in _ (by omega)
        clear hpar hM1 hM
        go_upto_region 6 with fail
        generalize wr.alloc (.cells #[.int .i64 o, .int .i64 pr, .slice Ah nh ch] 49) = W1 at *
        refine lateT_begin (S := fun w' => w'.cell? ⟨wr.heap.size, 1, none⟩ = some (.int .i64 pr) ∧ w'.cell? ⟨b, 2 + i, none⟩ = some (.int .i64 (mi : Int))) (st := 12) (by kernel_rfl) ?_
        have hS0 : (fun w' : World => w'.cell? ⟨wr.heap.size, 1, none⟩ = some (.int .i64 pr) ∧ w'.cell? ⟨b, 2 + i, none⟩ = some (.int .i64 (mi : Int))) W1.drew := ⟨y1, cm⟩
        refine lateT_take (i := 0) (oi := _) (v := ?_) [12] rfl (by kernel_rfl) (by kernel_rfl) (by kernel_rfl) (by kernel_rfl) (fun _ _ _ h => h) (Or.inl ⟨by rfl, ?hy⟩) hS0 ?_
        case hy => (intro w hSw; (try dsimp only at hSw); go_simp <;> with_reducible rfl)
        (try simp only [Act.put, List.setIfInBounds_toArray, List.set_cons_zero, List.set_cons_succ])
        refine lateT_take (i := 1) (oi := _) (v := ?_) [12] rfl (by kernel_rfl) (by kernel_rfl) (by kernel_rfl) (by kernel_rfl) (fun _ _ _ h => h) (Or.inl ⟨by rfl, ?hy⟩) hS0 ?_
        case hy => (intro w hSw; (try dsimp only at hSw); go_simp <;> with_reducible rfl)
        (try simp only [Act.put, List.setIfInBounds_toArray, List.set_cons_zero, List.set_cons_succ])
        refine lateT_take (i := 2) (oi := _) (v := ?_) [12] rfl (by kernel_rfl) (by kernel_rfl) (by kernel_rfl) (by kernel_rfl) (fun _ _ _ h => h) (Or.inl ⟨by rfl, ?hy⟩) hS0 ?_
        case hy => (intro w hSw; (try dsimp only at hSw); go_simp <;> with_reducible rfl)
        (try simp only [Act.put, List.setIfInBounds_toArray, List.set_cons_zero, List.set_cons_succ])
        refine lateT_take (i := 3) (oi := _) (v := ?_) [12] rfl (by kernel_rfl) (by kernel_rfl) (by kernel_rfl) (by kernel_rfl) (fun _ _ _ h => h) (Or.inl ⟨by rfl, ?hy⟩) hS0 ?_
        case hy => (intro w hSw; (try dsimp only at hSw); go_simp <;> with_reducible rfl)
        (try simp only [Act.put, List.setIfInBounds_toArray, List.set_cons_zero, List.set_cons_succ])
        refine lateT_take (i := 4) (oi := _) (v := ?_) [12] rfl (by kernel_rfl) (by kernel_rfl) (by kernel_rfl) (by kernel_rfl) (fun _ _ _ h => h) (Or.inl ⟨by rfl, ?hy⟩) hS0 ?_
        case hy => (intro w hSw; (try dsimp only at hSw); go_simp <;> with_reducible rfl)
        (try simp only [Act.put, List.setIfInBounds_toArray, List.set_cons_zero, List.set_cons_succ])
        refine lateT_take (i := 5) (oi := _) (v := ?_) [12] rfl (by kernel_rfl) (by kernel_rfl) (by kernel_rfl) (by kernel_rfl) (fun _ _ _ h => h) (Or.inl ⟨by rfl, ?hy⟩) hS0 ?_
        case hy => (intro w hSw; (try dsimp only at hSw); go_simp <;> with_reducible rfl)
        (try simp only [Act.put, List.setIfInBounds_toArray, List.set_cons_zero, List.set_cons_succ])
        refine lateT_take (i := 6) (oi := _) (v := ?_) [12] rfl (by kernel_rfl) (by kernel_rfl) (by kernel_rfl) (by kernel_rfl) (fun _ _ _ h => h) (Or.inl ⟨by rfl, ?hy⟩) hS0 ?_
        case hy => (intro w hSw; (try dsimp only at hSw); go_simp <;> with_reducible rfl)
        (try simp only [Act.put, List.setIfInBounds_toArray, List.set_cons_zero, List.set_cons_succ])
        refine lateT_take (i := 7) (oi := _) (v := ?_) [12] rfl (by kernel_rfl) (by kernel_rfl) (by kernel_rfl) (by kernel_rfl) (fun _ _ _ h => h) (Or.inl ⟨by rfl, ?hy⟩) hS0 ?_
        case hy => (intro w hSw; (try dsimp only at hSw); go_simp <;> with_reducible rfl)
        (try simp only [Act.put, List.setIfInBounds_toArray, List.set_cons_zero, List.set_cons_succ])
        refine lateT_take (i := 8) (oi := _) (v := ?_) [12] rfl (by kernel_rfl) (by kernel_rfl) (by kernel_rfl) (by kernel_rfl) (fun _ _ _ h => h) (Or.inl ⟨by rfl, ?hy⟩) hS0 ?_
        case hy => (intro w hSw; (try dsimp only at hSw); go_simp <;> with_reducible rfl)
        (try simp only [Act.put, List.setIfInBounds_toArray, List.set_cons_zero, List.set_cons_succ])
        refine lateT_take (i := 9) (oi := _) (v := ?_) [10, 11, 12] rfl (by kernel_rfl) (by kernel_rfl) (by kernel_rfl) (by kernel_rfl) (fun _ _ _ h => h) (Or.inl ⟨by rfl, ?hy⟩) hS0 ?_
        case hy => (intro w hSw; (try dsimp only at hSw); go_simp <;> with_reducible rfl)
        (try simp only [Act.put, List.setIfInBounds_toArray, List.set_cons_zero, List.set_cons_succ])
        refine lateT_take (i := 10) (oi := _) (v := ?_) [11, 12] rfl (by kernel_rfl) (by kernel_rfl) (by kernel_rfl) (by kernel_rfl) (fun _ _ _ h => h) (Or.inl ⟨by rfl, ?hy⟩) hS0 ?_
        case hy => (intro w hSw; (try dsimp only at hSw); go_simp <;> with_reducible rfl)
        (try simp only [Act.put, List.setIfInBounds_toArray, List.set_cons_zero, List.set_cons_succ])
        refine lateT_take (i := 11) (oi := _) (v := ?_) [12] rfl (by kernel_rfl) (by kernel_rfl) (by kernel_rfl) (by kernel_rfl) (fun _ _ _ h => h) (Or.inl ⟨by rfl, ?hy⟩) hS0 ?_
        case hy => (intro w hSw; (try dsimp only at hSw); go_simp <;> with_reducible rfl)
        (try simp only [Act.put, List.setIfInBounds_toArray, List.set_cons_zero, List.set_cons_succ])
        refine lateT_step (i := 12) (by kernel_rfl) rfl (fun K hK => ?_)
        go_simp
        refine hK.out _ _ (fun h => absurd rfl h) ?_
        clear hK K
        (try simp only [Act.put, List.setIfInBounds_toArray, List.set_cons_zero, List.set_cons_succ])
        refine lateT_done (by kernel_rfl) ?_ _
        go_wp2_with fail
        go_roundw
        case rel => exact ⟨k + 1, by omega, by go_num, (hM2.out.keep rfl).congr hmst.out, ⟨hB2.out.os, hB2.out.tape, hB2.out.output, hB2.out.size, hB2.out.block⟩⟩
        case measure => simp [intOf]; omega
    · obtain rfl : k = n := by omega
      have k1 : ¬ (k : Int) < (k : Int) := by omega
      have hall : g.take k = g := List.take_of_length_le (by have := hgl.out; omega)
      rw [hall] at hM
      go_wp2_with fail
      go_ret
      exact ⟨by rw [hb.out]; rfl, by rw [← hb.out]; exact hM.out, hB.out⟩

end Go.Proofs.Ythmhlbkkhaplkaa

namespace Go.Proofs.Ythmhlbkkhaplkaa
open Go.ChangeShapes Go.WideShapes Go.ChangeAt Go.RowKit
set_option linter.unusedVariables false
set_option linter.unusedSimpArgs false

theorem below_drew (w : World) : Below w.heap.size w w.drew := ⟨rfl, rfl, rfl, Nat.le_refl _, fun _ _ => rfl⟩
/-- A table of rows in block b, the rows in other blocks. -/
def TabW (w : World) (b n : Nat) (g : DV) (p : Int) (μ : Nat → Nat) : Prop :=
  b < w.heap.size ∧ ∀ k, k < n → ∃ A m c, w.cell? ⟨b, k, none⟩ = some (.slice A m c) ∧ w.frozen? ⟨b, k, none⟩ = false ∧ m ≤ c ∧ RowV w 0 w.heap.size A m g p (μ k) ∧ (0 < m → ∀ q o, A = some ⟨q, o, none⟩ → q ≠ b)
theorem RowV.keep {w w' : World} {lo hi n : Nat} {A : Option Addr} {g : DV} {p : Int} {x : Nat} (h : RowV w lo hi A n g p x) (hz : w.heap.size ≤ w'.heap.size) (hk : ∀ q, lo ≤ q → q < hi → q < w.heap.size → w'.heap[q]? = w.heap[q]?) : RowV w' lo hi A n g p x := by
  obtain ⟨l, h1, h2⟩ := h
  exact ⟨l, h1.keep hz hk, h2⟩
theorem RowV.more {w : World} {lo hi lo' hi' n : Nat} {A : Option Addr} {g : DV} {p : Int} {x : Nat} (h : RowV w lo hi A n g p x) (h1 : lo' ≤ lo) (h2 : hi ≤ hi') : RowV w lo' hi' A n g p x := by
  obtain ⟨l, a, b⟩ := h
  exact ⟨l, a.more h1 h2, b⟩
theorem RowV.below {w w' : World} {lo hi n B : Nat} {A : Option Addr} {g : DV} {p : Int} {x : Nat} (h : RowV w lo hi A n g p x) (hb : Below B w w') (hB : hi ≤ B ∨ w.heap.size ≤ B) : RowV w' lo hi A n g p x :=
  h.keep hb.size fun q _ h2 h3 => hb.block q (by omega)
section
variable {w w' : World} {b n : Nat} {g : DV} {p : Int} {μ : Nat → Nat}
theorem TabW.below {B : Nat} (h : TabW w b n g p μ) (hb : Below B w w') (hB : w.heap.size ≤ B) : TabW w' b n g p μ := by
  obtain ⟨h1, h2⟩ := h
  refine ⟨by have := hb.size; omega, fun k hk => ?_⟩
  obtain ⟨A, m, c, a1, a2, a3, a4, a5⟩ := h2 k hk
  have hbb : w'.heap[b]? = w.heap[b]? := hb.block b (by omega)
  exact ⟨A, m, c, (World.cell?_of_block (w := w) (by simpa using hbb)).trans a1, (World.frozen?_of_block (w := w) (by simpa using hbb)).trans a2, a3, (a4.below hb (.inr hB)).more (Nat.le_refl _) hb.size, a5⟩
theorem TabW.set (h : TabW w b n g p μ) {k : Nat} (hk : k < n) {A : Option Addr} {m c x : Nat} (hr : RowV w 0 w.heap.size A m g p x) (hmc : m ≤ c) (hne : 0 < m → ∀ q o, A = some ⟨q, o, none⟩ → q ≠ b) :
    TabW (w.setCell ⟨b, k, none⟩ (.slice A m c)) b n g p (fun v => if v = k then x else μ v) := by
  obtain ⟨h1, h2⟩ := h
  have keepR : ∀ (B : Option Addr) (m' y : Nat), RowV w 0 w.heap.size B m' g p y → (0 < m' → ∀ q o, B = some ⟨q, o, none⟩ → q ≠ b) → RowV (w.setCell ⟨b, k, none⟩ (.slice A m c)) 0 (w.setCell ⟨b, k, none⟩ (.slice A m c)).heap.size B m' g p y := fun B m' y hy hn => by
    obtain ⟨l, hl, hr⟩ := hy
    refine ⟨l, ⟨hl.1, fun hm => ?_⟩, hr⟩
    obtain ⟨b2, o2, rfl, q1, q2, q3, q4⟩ := hl.2 hm
    have hk2 : (w.setCell ⟨b, k, none⟩ (.slice A m c)).heap[b2]? = w.heap[b2]? := Below.heap_setCell _ _ _ _ (hn hm b2 o2 rfl)
    refine ⟨b2, o2, rfl, q1, by rw [World.size_setCell]; exact q2, by rw [World.size_setCell]; exact q3, fun i z hz j u hu => ?_⟩
    obtain ⟨r1, r2⟩ := q4 i z hz j u hu
    exact ⟨(World.cell?_of_block (w := w) (by simpa using hk2)).trans r1, (World.frozen?_of_block (w := w) (by simpa using hk2)).trans r2⟩
  refine ⟨by rw [World.size_setCell]; exact h1, fun j hj => ?_⟩
  obtain ⟨A2, m2, c2, a1, a2, a3, a4, a5⟩ := h2 j hj
  by_cases e : j = k
  · subst e
    exact ⟨A, m, c, World.cell?_setCell_same _ _ _ a1, by rw [World.frozen?_setCell]; exact a2, hmc, by dsimp only; rw [if_pos rfl]; exact keepR _ _ _ hr hne, hne⟩
  · exact ⟨A2, m2, c2, (World.cell?_setCell_other _ _ _ _ (by intro e2; injection e2 with _ e2 _; omega)).trans a1, by rw [World.frozen?_setCell]; exact a2, a3, by dsimp only; rw [if_neg e]; exact keepR _ _ _ a4 a5, a5⟩
theorem TabW.congr {μ' : Nat → Nat} (h : TabW w b n g p μ) (e : ∀ v, v < n → μ v = μ' v) : TabW w b n g p μ' := by
  obtain ⟨h1, h2⟩ := h
  refine ⟨h1, fun k hk => ?_⟩
  rw [← e k hk]; exact h2 k hk
end

/-- An empty row, and one of zeros. -/
theorem zeros_row (w : World) (g : DV) (p : Int) : RowV (w.alloc (.cells (madeCells #[.int .i64 0] 5) 2)) w.heap.size (w.heap.size + 1) (some ⟨w.heap.size, 0, none⟩) 5 g p 0 :=
  ⟨intK 5 0 fun _ => 0, SlI.made w 5 _, RowR.zeros g p⟩

set_option maxRecDepth 100000 in
set_option maxHeartbeats 3200000 in
theorem due_calls (b bt : Nat) (g : DV) (p o q : Int) (Ah : Option Addr) (nh ch : Nat) (l : List Int) (n ct : Nat) (μ : Nat → Nat) (w : World) (hM : MeaW w b p (mostF g p)) (hp : p = 0 ∨ p = 1) (hq : 0 ≤ q ∧ q ≤ 9) (ho : 0 ≤ o ∧ o ≤ 1) (hgl : g.length ≤ 120)
    (hs : SlI w 0 w.heap.size Ah nh l) (hnh : nh ≤ 1048576) (hin : ∀ u, u ∈ l → 0 ≤ u ∧ u < n) (hT : TabW w bt n g p μ) :
    Calls Try.prog 28 #[.pointer (some ⟨b, 0, none⟩), .agg #[.int .i64 o, .int .i64 q, .slice Ah nh ch], .slice (some ⟨bt, 0, none⟩) n ct] w fun e w' => ∃ A m c, e = .returned (.slice A m c) ∧ m ≤ c ∧ RowV w' w.heap.size w'.heap.size A m g p (dueF g p o q l μ) ∧ Below w.heap.size w w' := by
  have hbx := heap_alloc_new w (.cells #[.int .i64 o, .int .i64 q, .slice Ah nh ch] 49)
  have hB0 := hide ((Below.refl w.heap.size w).alloc (Nat.le_refl _) (.cells #[.int .i64 o, .int .i64 q, .slice Ah nh ch] 49))
  have hbl0 : w.heap.size < (w.alloc (.cells #[.int .i64 o, .int .i64 q, .slice Ah nh ch] 49)).heap.size := by simp
  have hbb := hM.lt
  have hbt := hT.1
  have hz1 := hB0.out.size
  have y0 : (w.alloc (.cells #[.int .i64 o, .int .i64 q, .slice Ah nh ch] 49)).cell? ⟨w.heap.size, 0, none⟩ = some (.int .i64 o) := (cell_of_row _ _ 0 _ _ (0, 0) hbx).trans rfl
  have hlen := hs.len
  have hX := hide (fun W (hW : Below (w.alloc (.cells #[.int .i64 o, .int .i64 q, .slice Ah nh ch] 49)).heap.size (w.alloc (.cells #[.int .i64 o, .int .i64 q, .slice Ah nh ch] 49)) W) => (hW.block w.heap.size hbl0).trans hbx)
  have hM1 := hide (hM.below hB0.out hbb)
  have hs1 := hide ((hs.below hB0.out (.inl (Nat.le_refl _))).more (Nat.le_refl _) (Nat.le_refl _))
  have hT1 := hide (hT.below hB0.out (Nat.le_refl _))
  have hzero := hide (fun W => zeros_row W g p)
  have hpl := hM1.out.pl
  replace hin := hide hin
  clear hM hs hT hbx
  have hnil := hide (dueF_nil (g := g) (p := p) (o := o) (q := q) (μ := μ))
  obtain ⟨wB, hwB⟩ : ∃ wB, wB = w.alloc (.cells #[.int .i64 o, .int .i64 q, .slice Ah nh ch] 49) := ⟨_, rfl⟩
  go_enter Try.func28, Try.ntmps28
  go_upto_region 2 with fail
  rw [← hwB]
  rw [← hwB] at hB0 hbl0 hz1 y0 hX hM1 hs1 hT1 hpl
  replace hwB := hide hwB
  obtain ⟨ho0, ho1⟩ := ho
  go_cut [18] (fun s wx => s = .bool (o != p) ∧ Hid (Below wB.heap.size wB wx))
  case first =>
    go_wp2_with fail
    go_quiet (fail)
    go_wp2_with fail
    go_meet
    exact ⟨rfl, below_drewN _ _⟩
  obtain ⟨rfl, hBq⟩ := hcut
  have hzq := hBq.out.size
  go_upto_if 18 with fail
  go_cut [7] (fun s wx => ∃ (A : Option Addr) (m c : Nat), s = .slice A m c ∧ m ≤ c ∧ Hid (RowV wx w.heap.size wx.heap.size A m g p (dueF g p o q (l.take 0) μ)) ∧ Hid (Below wB.heap.size wB wx))
  case first =>
    have hmk : ∀ W, (Instr.makeSlice 26 (.int .i64 5) (.int .i64 5)).run Try.prog W = .ok (.slice (some ⟨W.heap.size, 0, none⟩) 5 5) (W.alloc (.cells (madeCells #[.int .i64 0] 5) 2)) := fun W => run_make_int 5 (by omega) W
    by_cases hop : o = p
    · have e1 : (o != p) = false := by simpa using hop
      have hv : Hid (dueF g p o q (l.take 0) μ = topF g p) := by show _ = _; rw [List.take_zero, hnil.out, if_pos hop]
      clear hop
      rw [e1]
      go_wp2_with fail
      go_meet
      exact ⟨none, 0, 0, rfl, Nat.le_refl _, ⟨[], Sl.nil_, .inl ⟨rfl, hv.out⟩⟩, hBq.out⟩
    · have e1 : (o != p) = true := by simpa using hop
      have hv : Hid (dueF g p o q (l.take 0) μ = 0) := by show _ = _; rw [List.take_zero, hnil.out, if_neg hop]
      clear hop
      rw [e1]
      go_wp2_with fail
      go_meet
      exact ⟨_, 5, 5, rfl, Nat.le_refl _, by rw [hv.out]; exact (hzero.out wc).more (by omega) (by rw [World.size_alloc]; exact Nat.le_refl _), hBq.out.alloc hzq _⟩
  case rest =>
    clear hBq hzq
    obtain ⟨A0, m0, c0, rfl, hmc0, hR0, hB1⟩ := hcut
    have y2 : wc.cell? ⟨w.heap.size, 2, none⟩ = some (.slice Ah nh ch) := (cell_of_row _ _ 2 _ _ (0, 0) (hX.out _ hB1.out)).trans rfl
    have hB2 := hide (hB0.out.trans (hB1.out.mono hz1))
    have hz3 := hB1.out.size
    clear hzero hnil y0 hpl
    go_wp2_with fail
    go_loopw [7, 23] (fun s i wr => ∃ (k : Nat) (A : Option Addr) (m c : Nat), k ≤ nh ∧ i = .int .i64 (k : Nat) ∧ s = .slice A m c ∧ m ≤ c ∧ Hid (RowV wr w.heap.size wr.heap.size A m g p (dueF g p o q (l.take k) μ)) ∧ Hid (Below wB.heap.size wB wr)) (fun _ i _ => nh - (intOf i).toNat)
    case atStart => exact ⟨0, A0, m0, c0, Nat.zero_le _, rfl, rfl, hmc0, hR0.out, hB1.out⟩
    case round =>
      clear hR0 hB1 hB2 hz3 y2
      obtain ⟨k, A, m, c, hk, rfl, rfl, hmc, hR, hB⟩ := hrel
      by_cases hlt : k < nh
      · have k0 : (0 : Int) ≤ (k : Int) := by omega
        have k1 : (k : Int) < (nh : Int) := by omega
        obtain ⟨bl, ol, uI, rfl, -, -, -, hu, cu, -⟩ := SlI.get (Sl.below hs1.out hB.out (.inl (by omega))) hlt
        obtain ⟨hu0, hun⟩ := hin.out uI (List.mem_of_getElem? hu)
        obtain ⟨u, rfl⟩ : ∃ u : Nat, uI = (u : Int) := ⟨uI.toNat, by omega⟩
        have u1 : (u : Int) < (n : Int) := hun
        have hstep := hide (dueF_step (g := g) (p := p) (o := o) (q := q) (μ := μ) hu)
        have hkX := hX.out wr hB.out
        have yo : wr.cell? ⟨w.heap.size, 0, none⟩ = some (.int .i64 o) := (cell_of_row _ _ 0 _ _ (0, 0) hkX).trans rfl
        have yq : wr.cell? ⟨w.heap.size, 1, none⟩ = some (.int .i64 q) := (cell_of_row _ _ 1 _ _ (0, 0) hkX).trans rfl
        have hT2 := hT1.out.below hB.out (Nat.le_refl _)
        have hM2 := hM1.out.below hB.out (by omega)
        obtain ⟨Ar, nr, cr, yr, -, hnc, hrow, -⟩ := hT2.2 u (by omega)
        have hbl : w.heap.size < wr.drew.heap.size := by have := hB.out.size; show _ < wr.heap.size; omega
        have hbt2 : bt < wr.drew.heap.size := by have := hB.out.size; show _ < wr.heap.size; omega
        have qn := hide (needed_calls b g p q Ar nr cr (μ u) wr.drew 0 _ hM2 hp hq (hrow.below (below_drew wr) (.inr (Nat.le_refl _))) hnc hgl)
        have hzr := hB.out.size
        clear hkX hT2 hM2 hrow hu
        go_upto_region 7 with fail
        go_cut [10] (fun s wx => ∃ (A2 : Option Addr) (n2 c2 : Nat), s = .slice A2 n2 c2 ∧ n2 ≤ c2 ∧ Hid (RowV wx wr.heap.size wx.heap.size A2 n2 g p (needF g p q (μ u))) ∧ Hid (Below wr.heap.size wr wx))
        case first =>
          refine lateT_begin (S := fun w' => w'.cell? ⟨w.heap.size, 1, none⟩ = some (.int .i64 q) ∧ w'.cell? ⟨bt, u, none⟩ = some (.slice Ar nr cr)) (st := 8) (by kernel_rfl) ?_
          have hS0 : (fun w' : World => w'.cell? ⟨w.heap.size, 1, none⟩ = some (.int .i64 q) ∧ w'.cell? ⟨bt, u, none⟩ = some (.slice Ar nr cr)) wr.drew := ⟨yq, yr⟩
          refine lateT_take (i := 0) (oi := _) (v := ?_) [8] rfl (by kernel_rfl) (by kernel_rfl) (by kernel_rfl) (by kernel_rfl) (fun _ _ _ h => h) (Or.inl ⟨by rfl, ?hy⟩) hS0 ?_
          case hy => (intro w hSw; (try dsimp only at hSw); go_simp <;> with_reducible rfl)
          (try simp only [Act.put, List.setIfInBounds_toArray, List.set_cons_zero, List.set_cons_succ])
          refine lateT_take (i := 1) (oi := _) (v := ?_) [8] rfl (by kernel_rfl) (by kernel_rfl) (by kernel_rfl) (by kernel_rfl) (fun _ _ _ h => h) (Or.inl ⟨by rfl, ?hy⟩) hS0 ?_
          case hy => (intro w hSw; (try dsimp only at hSw); go_simp <;> with_reducible rfl)
          (try simp only [Act.put, List.setIfInBounds_toArray, List.set_cons_zero, List.set_cons_succ])
          refine lateT_take (i := 2) (oi := _) (v := ?_) [8] rfl (by kernel_rfl) (by kernel_rfl) (by kernel_rfl) (by kernel_rfl) (fun _ _ _ h => h) (Or.inl ⟨by rfl, ?hy⟩) hS0 ?_
          case hy => (intro w hSw; (try dsimp only at hSw); go_simp <;> with_reducible rfl)
          (try simp only [Act.put, List.setIfInBounds_toArray, List.set_cons_zero, List.set_cons_succ])
          refine lateT_take (i := 3) (oi := _) (v := ?_) [8] rfl (by kernel_rfl) (by kernel_rfl) (by kernel_rfl) (by kernel_rfl) (fun _ _ _ h => h) (Or.inl ⟨by rfl, ?hy⟩) hS0 ?_
          case hy => (intro w hSw; (try dsimp only at hSw); go_simp <;> with_reducible rfl)
          (try simp only [Act.put, List.setIfInBounds_toArray, List.set_cons_zero, List.set_cons_succ])
          refine lateT_take (i := 4) (oi := _) (v := ?_) [8] rfl (by kernel_rfl) (by kernel_rfl) (by kernel_rfl) (by kernel_rfl) (fun _ _ _ h => h) (Or.inl ⟨by rfl, ?hy⟩) hS0 ?_
          case hy => (intro w hSw; (try dsimp only at hSw); go_simp <;> with_reducible rfl)
          (try simp only [Act.put, List.setIfInBounds_toArray, List.set_cons_zero, List.set_cons_succ])
          refine lateT_take (i := 5) (oi := _) (v := ?_) [8] rfl (by kernel_rfl) (by kernel_rfl) (by kernel_rfl) (by kernel_rfl) (fun _ _ _ h => h) (Or.inl ⟨by rfl, ?hy⟩) hS0 ?_
          case hy => (intro w hSw; (try dsimp only at hSw); go_simp <;> with_reducible rfl)
          (try simp only [Act.put, List.setIfInBounds_toArray, List.set_cons_zero, List.set_cons_succ])
          refine lateT_take (i := 6) (oi := _) (v := ?_) [8] rfl (by kernel_rfl) (by kernel_rfl) (by kernel_rfl) (by kernel_rfl) (fun _ _ _ h => h) (Or.inl ⟨by rfl, ?hy⟩) hS0 ?_
          case hy => (intro w hSw; (try dsimp only at hSw); go_simp <;> with_reducible rfl)
          (try simp only [Act.put, List.setIfInBounds_toArray, List.set_cons_zero, List.set_cons_succ])
          refine lateT_step (i := 7) (by kernel_rfl) rfl (fun K hK => ?_)
          go_simp
          go_at_call 67
          refine qn.out.mono ?_
          rintro e w2 ⟨A2, n2, c2, rfl, hnc2, hr2, hb2⟩
          have yq2 : w2.cell? ⟨w.heap.size, 1, none⟩ = some (.int .i64 q) := (hb2.cell (p := ⟨w.heap.size, 1, none⟩) hbl).trans yq
          have yr2 : w2.cell? ⟨bt, u, none⟩ = some (.slice Ar nr cr) := (hb2.cell (p := ⟨bt, u, none⟩) hbt2).trans yr
          have hB2 := hide ((below_drew wr).trans hb2)
          replace hr2 := hide hr2
          replace hb2 := hide hb2
          go_wp2_with fail
          refine hK.out _ _ (fun _ => ⟨yq2, yr2⟩) ?_
          clear hK K
          (try simp only [Act.put, List.setIfInBounds_toArray, List.set_cons_zero, List.set_cons_succ])
          refine lateT_step (i := 8) (by kernel_rfl) rfl (fun K hK => ?_)
          go_simp
          refine hK.out _ _ (fun h => absurd rfl h) ?_
          clear hK K
          (try simp only [Act.put, List.setIfInBounds_toArray, List.set_cons_zero, List.set_cons_succ])
          refine lateT_done (by kernel_rfl) ?_ _
          go_wp2_with fail
          go_meet
          exact ⟨A2, n2, c2, rfl, hnc2, hr2.out, hB2.out⟩
        case rest =>
          obtain ⟨A2, n2, c2, rfl, hnc2, hr2, hb4⟩ := hcut
          have hB3 := hide (hB.out.trans (hb4.out.mono hzr))
          have hz4 := hB3.out.size
          have hzr2 : w.heap.size ≤ wr.heap.size := by omega
          have hR3 := hide ((hR.out.below hb4.out (.inl (Nat.le_refl _))).more (Nat.le_refl _) hb4.out.size)
          have yo2 : wc.cell? ⟨w.heap.size, 0, none⟩ = some (.int .i64 o) := (cell_of_row _ _ 0 _ _ (0, 0) (hX.out wc hB3.out)).trans rfl
          have yp2 := (hM1.out.below hB3.out (by omega)).pl
          have hstep' := hstep.out
          rw [show ((u : Int)).toNat = u by omega] at hstep'
          replace hstep := hide hstep'
          obtain ⟨la, hla, hra⟩ := hr2.out
          obtain ⟨lb, hlb, hrb⟩ := hR3.out
          have qc := compareRows_calls A2 A n2 m c2 c la lb g p _ _ wc _ _ _ _ hla hlb hra hrb
          clear yo yq yr cu qn hstep' hla hra hlb hrb hR hB hb4
          rcases Nat.lt_trichotomy (needF g p q (μ u)) (dueF g p o q (l.take k) μ) with hlt2 | heq2 | hgt2
          · have hs : sgnN (needF g p q (μ u)) (dueF g p o q (l.take k) μ) = -1 := by unfold sgnN; rw [if_pos hlt2]
            rw [hs] at qc
            replace qc := hide qc
            by_cases hop : o = p
            · have e1 : (o != p) = false := by simpa using hop
              have e2 : (o == p) = true := by simpa using hop
              have hst : Hid (dueF g p o q (l.take (k + 1)) μ = needF g p q (μ u)) := by show _ = _; rw [hstep.out, if_pos hop]; rw [if_pos hlt2]
              clear hop hs hstep
              go_wp2_with (first | (go_at_call 29; (with_reducible refine qc.out.mono ?_); rintro e w' ⟨rfl, rfl⟩))
              go_quiet (fail)
              go_wp2_with fail
              go_roundw
              case rel => exact ⟨k + 1, A2, n2, c2, by omega, by go_num, rfl, hnc2, by rw [hst.out]; exact (hr2.out.below (below_drewN wc nq) (.inr (Nat.le_refl _))).more hzr2 (Nat.le_refl _), hB3.out.trans ((below_drewN wc nq).mono hz4)⟩
              case measure => simp [intOf]; omega
            · have e1 : (o != p) = true := by simpa using hop
              have e2 : (o == p) = false := by simpa using hop
              have hst : Hid (dueF g p o q (l.take (k + 1)) μ = dueF g p o q (l.take k) μ) := by show _ = _; rw [hstep.out, if_neg hop]; rw [if_neg (by omega)]
              clear hop hs hstep
              go_wp2_with (first | (go_at_call 29; (with_reducible refine qc.out.mono ?_); rintro e w' ⟨rfl, rfl⟩))
              go_quiet (fail)
              go_wp2_with fail
              go_roundw
              case rel => exact ⟨k + 1, A, m, c, by omega, by go_num, rfl, hmc, by rw [hst.out]; exact (hR3.out.below (below_drewN wc nq) (.inr (Nat.le_refl _))).more (Nat.le_refl _) (Nat.le_refl _), hB3.out.trans ((below_drewN wc nq).mono hz4)⟩
              case measure => simp [intOf]; omega
          · have hs : sgnN (needF g p q (μ u)) (dueF g p o q (l.take k) μ) = 0 := by unfold sgnN; rw [if_neg (by omega), if_neg (by omega)]
            rw [hs] at qc
            replace qc := hide qc
            by_cases hop : o = p
            · have e1 : (o != p) = false := by simpa using hop
              have e2 : (o == p) = true := by simpa using hop
              have hst : Hid (dueF g p o q (l.take (k + 1)) μ = dueF g p o q (l.take k) μ) := by show _ = _; rw [hstep.out, if_pos hop]; rw [if_neg (by omega)]
              clear hop hs hstep
              go_wp2_with (first | (go_at_call 29; (with_reducible refine qc.out.mono ?_); rintro e w' ⟨rfl, rfl⟩))
              go_quiet (fail)
              go_wp2_with fail
              go_roundw
              case rel => exact ⟨k + 1, A, m, c, by omega, by go_num, rfl, hmc, by rw [hst.out]; exact (hR3.out.below (below_drewN wc nq) (.inr (Nat.le_refl _))).more (Nat.le_refl _) (Nat.le_refl _), hB3.out.trans ((below_drewN wc nq).mono hz4)⟩
              case measure => simp [intOf]; omega
            · have e1 : (o != p) = true := by simpa using hop
              have e2 : (o == p) = false := by simpa using hop
              have hst : Hid (dueF g p o q (l.take (k + 1)) μ = dueF g p o q (l.take k) μ) := by show _ = _; rw [hstep.out, if_neg hop]; rw [if_neg (by omega)]
              clear hop hs hstep
              go_wp2_with (first | (go_at_call 29; (with_reducible refine qc.out.mono ?_); rintro e w' ⟨rfl, rfl⟩))
              go_quiet (fail)
              go_wp2_with fail
              go_roundw
              case rel => exact ⟨k + 1, A, m, c, by omega, by go_num, rfl, hmc, by rw [hst.out]; exact (hR3.out.below (below_drewN wc nq) (.inr (Nat.le_refl _))).more (Nat.le_refl _) (Nat.le_refl _), hB3.out.trans ((below_drewN wc nq).mono hz4)⟩
              case measure => simp [intOf]; omega
          · have hs : sgnN (needF g p q (μ u)) (dueF g p o q (l.take k) μ) = 1 := by unfold sgnN; rw [if_neg (by omega), if_pos hgt2]
            rw [hs] at qc
            replace qc := hide qc
            by_cases hop : o = p
            · have e1 : (o != p) = false := by simpa using hop
              have e2 : (o == p) = true := by simpa using hop
              have hst : Hid (dueF g p o q (l.take (k + 1)) μ = dueF g p o q (l.take k) μ) := by show _ = _; rw [hstep.out, if_pos hop]; rw [if_neg (by omega)]
              clear hop hs hstep
              go_wp2_with (first | (go_at_call 29; (with_reducible refine qc.out.mono ?_); rintro e w' ⟨rfl, rfl⟩))
              go_quiet (fail)
              go_wp2_with fail
              go_roundw
              case rel => exact ⟨k + 1, A, m, c, by omega, by go_num, rfl, hmc, by rw [hst.out]; exact (hR3.out.below (below_drewN wc nq) (.inr (Nat.le_refl _))).more (Nat.le_refl _) (Nat.le_refl _), hB3.out.trans ((below_drewN wc nq).mono hz4)⟩
              case measure => simp [intOf]; omega
            · have e1 : (o != p) = true := by simpa using hop
              have e2 : (o == p) = false := by simpa using hop
              have hst : Hid (dueF g p o q (l.take (k + 1)) μ = needF g p q (μ u)) := by show _ = _; rw [hstep.out, if_neg hop]; rw [if_pos hgt2]
              clear hop hs hstep
              go_wp2_with (first | (go_at_call 29; (with_reducible refine qc.out.mono ?_); rintro e w' ⟨rfl, rfl⟩))
              go_quiet (fail)
              go_wp2_with fail
              go_roundw
              case rel => exact ⟨k + 1, A2, n2, c2, by omega, by go_num, rfl, hnc2, by rw [hst.out]; exact (hr2.out.below (below_drewN wc nq) (.inr (Nat.le_refl _))).more hzr2 (Nat.le_refl _), hB3.out.trans ((below_drewN wc nq).mono hz4)⟩
              case measure => simp [intOf]; omega
      · obtain rfl : k = nh := by omega
        have k1 : ¬ (k : Int) < (k : Int) := by omega
        have hall : l.take k = l := List.take_of_length_le (by omega)
        rw [hall] at hR
        go_wp2_with fail
        go_ret
        exact ⟨A, m, c, rfl, hmc, hR.out, hB0.out.trans (hB.out.mono hz1)⟩

end Go.Proofs.Ythmhlbkkhaplkaa

namespace Go.Proofs.Ythmhlbkkhaplkaa
open Go.ChangeShapes Go.WideShapes Go.ChangeAt Go.RowKit
set_option linter.unusedVariables false
set_option linter.unusedSimpArgs false

theorem containsFuncJ_calls (F : FuncId) (caps : Array Value) (G : Int → Bool) (A : Option Addr) (n c : Nat) (l : List Int) (w : World) (lo hi : Nat) (h : SlI w lo hi A n l) (hn : n ≤ 1048576)
    (hF : ∀ (v : Value) (W : World), Sem.run Try.prog (callFunc F (#[v] ++ caps)) W = .ok (.enter F (#[v] ++ caps)) W)
    (hcl : ∀ (v : Int) (W : World), v ∈ l → Below w.heap.size w W → Calls Try.prog F (#[.int .i64 v] ++ caps) W (Says (G v) W)) :
    Calls Try.prog 35 #[.slice A n c, .func (.func F) #[] caps] w fun e w' => e = .returned (.bool (l.any G)) ∧ Below w.heap.size w w' := by
  have q := hide (indexFuncI_calls F caps G A n c l w lo hi h hn hF hcl)
  clear h hcl hF
  go_enter Try.func35, Try.ntmps35
  go_wp2_with fail
  refine q.out.mono ?_
  rintro e w1 ⟨i, rfl, hi, hb⟩
  replace hb := hide hb
  rcases hi with ⟨rfl, hv⟩ | ⟨k, rfl, -, -, x, hx, hg⟩
  · replace hv := hide hv
    clear q
    go_wp2_with fail
    go_ret
    exact ⟨ret_b hv.out, hb.out⟩
  · have hv : Hid (l.any G = true) := List.any_eq_true.2 ⟨x, List.mem_of_getElem? hx, hg⟩
    have k0 : (0 : Int) ≤ (k : Int) := by omega
    clear q
    go_wp2_with fail
    go_ret
    exact ⟨ret_b hv.out, hb.out⟩

set_option maxRecDepth 100000 in
theorem rowOk_calls (b : Nat) (g : DV) (p : Int) (A : Option Addr) (n c x : Nat) (w : World) (lo hi : Nat) (h : MeaW w b p (mostF g p)) (hr : RowV w lo hi A n g p x) :
    Calls Try.prog 32 #[.pointer (some ⟨b, 0, none⟩), .slice A n c] w fun e w' => e = .returned (.bool true) ∧ w = w' := by
  obtain ⟨l, hs, hx⟩ := hr
  have hln := hs.len
  have qw := hide (fun a b c W => within_calls a b c W)
  rcases hx.len with ⟨e0, -⟩ | ⟨e5, -⟩
  · have f1 : (n : Int) = 0 := by omega
    clear hs h hx
    go_enter Try.func32, Try.ntmps32
    go_wp2_with fail
    go_ret
    exact ⟨rfl, rfl⟩
  · have hD : Hid (RowD (mostF g p) l) := by
      rcases hx with ⟨e, -⟩ | hx
      · rw [e] at e5; exact absurd e5 (by decide)
      · exact hx.1
    obtain rfl : n = 5 := by omega
    replace h := hide h
    clear hx
    go_enter Try.func32, Try.ntmps32
    go_wp2_with fail
    go_loop [15] (fun i => ∃ k : Nat, k ≤ 5 ∧ i = .int .i64 (k : Nat)) (fun i => 5 - (intOf i).toNat)
    case atStart => exact ⟨0, Nat.zero_le _, rfl⟩
    case round =>
      obtain ⟨k, hk, rfl⟩ := hrel
      by_cases hlt : k < 5
      · have k0 : (0 : Int) ≤ (k : Int) := by omega
        have k1 : (k : Int) < 5 := by omega
        obtain ⟨b1, o1, y, rfl, -, -, -, hy, cy, -⟩ := SlI.get hs hlt
        have hyb := hD.out.2 k hlt
        rw [atL_get hy] at hyb
        have cm := h.out.at hlt
        have hin : Hid (inB y 0 (mostF g p k : Int) = true) := inB_true.2 hyb
        generalize (mostF g p k : Int) = mk at *
        clear hy hyb
        go_wp2_with (first | (go_at_call 51; (with_reducible refine (qw.out _ _ _ _).mono ?_); rintro e w' ⟨rfl, rfl⟩; rw [hin.out]))
        go_round
        case rel => exact ⟨k + 1, by omega, by go_num⟩
        case measure => simp [intOf]; omega
      · have k1 : ¬ (k : Int) < 5 := by omega
        go_wp2_with fail
        go_ret
        exact ⟨rfl, rfl⟩

/-- One number is enough for another one. -/
def enoB (g : DV) (p q : Int) (x y : Nat) : Bool := decide (needF g p q y ≤ x)
set_option maxRecDepth 100000 in
set_option maxHeartbeats 1600000 in
theorem enough_calls (b : Nat) (g : DV) (p q : Int) (A B : Option Addr) (n m c d x y : Nat) (w : World) (lo hi lo' hi' : Nat) (h : MeaW w b p (mostF g p)) (hp : p = 0 ∨ p = 1) (hq : 0 ≤ q ∧ q ≤ 9) (hr : RowV w lo hi A n g p x) (hs : RowV w lo' hi' B m g p y) (hc : n ≤ c) (hd : m ≤ d) :
    Calls Try.prog 34 #[.pointer (some ⟨b, 0, none⟩), .slice A n c, .int .i64 q, .slice B m d] w fun e w' => e = .returned (.bool (enoB g p q x y)) ∧ ∃ N, w' = w.drewN N := by
  obtain ⟨l, hl, hx⟩ := hr
  obtain ⟨r, hr, hy⟩ := hs
  have hE := hide elem_int64
  have hln := hl.len
  have hrn := hr.len
  rcases hx.len with ⟨e0, ex⟩ | ⟨e5, ex⟩
  · have f1 : (n : Int) = 0 := by omega
    have hv : Hid (enoB g p q x y = true) := decide_eq_true (by rw [ex]; exact needF_le)
    clear hl hr h hx hy ex
    go_enter Try.func34, Try.ntmps34
    go_wp2_with fail
    go_ret
    exact ⟨ret_b hv.out, 0, rfl⟩
  · have f1 : ¬ (n : Int) = 0 := by omega
    have f1' : ((n : Int) == 0) = false := by rw [beq_eq_false_iff_ne]; exact f1
    rcases hy.len with ⟨d0, ey⟩ | ⟨d5, ey⟩
    · have f2 : (m : Int) = 0 := by omega
      have hv : Hid (enoB g p q x y = false) := decide_eq_false (by unfold needF; rw [if_pos (by omega)]; omega)
      clear hl hr h hx hy ex ey
      go_enter Try.func34, Try.ntmps34
      go_wp2_with fail
      go_ret
      exact ⟨ret_b hv.out, 0, rfl⟩
    · have hDx : RowD (mostF g p) l ∧ x = encL (mostF g p) l := by
        rcases hx with ⟨e, -⟩ | hx
        · rw [e] at e5; exact absurd e5 (by decide)
        · exact hx
      have hDy : RowD (mostF g p) r ∧ y = encL (mostF g p) r := by
        rcases hy with ⟨e, -⟩ | hy
        · rw [e] at d5; exact absurd d5 (by decide)
        · exact hy
      have hu : upF p q ≤ 5 := by unfold upF; omega
      have hcmp := lexC_cut hDx.1 hDy.1 hu
      rw [← hDx.2, ← hDy.2] at hcmp
      have hiff := needF_iff (g := g) (p := p) (q := q) ey ex
      obtain rfl : n = 5 := by omega
      obtain rfl : m = 5 := by omega
      have qu := hide (upTo_calls b p (mostF g p) q w h hp hq)
      have hp1 := h.pl
      have hh1 : ∀ W : World, (Instr.slice 26 (.slice A 5 c) none (some (.int .i64 (upF p q : Int))) none).run Try.prog W = .ok (.slice A (upF p q) c) W := fun W => run_head hE.out A 5 c (upF p q) (by omega) W
      have hh2 : ∀ W : World, (Instr.slice 26 (.slice B 5 d) none (some (.int .i64 (upF p q : Int))) none).run Try.prog W = .ok (.slice B (upF p q) d) W := fun W => run_head hE.out B 5 d (upF p q) (by omega) W
      have qc := fun N => compare_calls A B (upF p q) (upF p q) c d (l.take (upF p q)) (r.take (upF p q)) (w.drewN N) _ _ _ _ ((hl.take (by omega)).drewN N) ((hr.take (by omega)).drewN N) (by omega) (by omega)
      rw [hcmp] at qc
      have hB : cutF g p q = bdN (mostF g p) (5 - upF p q) := rfl
      rw [hB] at hiff
      have hq0 := hq.1
      clear hl hr hx hy hDx hDy hcmp
      generalize hug : upF p q = u at *
      generalize x / bdN (mostF g p) (5 - u) = X at *
      generalize y / bdN (mostF g p) (5 - u) = Y at *
      have key : ∀ z : Int, sgnN X Y = z → ∀ v : Bool, enoB g p q x y = v → (z > 0 ∨ (z = 0 ∧ q % 2 = p) ↔ v = true) → True := fun _ _ _ _ _ => trivial
      rcases Nat.lt_trichotomy X Y with hlt | heq | hgt
      · have hs : sgnN X Y = -1 := by unfold sgnN; rw [if_pos hlt]
        have hv : Hid (enoB g p q x y = false) := decide_eq_false (by rw [hiff]; split <;> omega)
        rw [hs] at qc
        replace qc := hide qc
        clear hiff hs key hlt
        go_enter Try.func34, Try.ntmps34
        go_wp2_with (first | (go_at_call 70; (with_reducible refine qu.out.mono ?_); rintro e w' ⟨rfl, rfl⟩))
        go_quiet ((go_at_call 68; with_reducible exact same_quiet (qc.out _)))
        go_wp2_with fail
        go_ret
        exact ⟨ret_b hv.out, _, rfl⟩
      · have hs : sgnN X Y = 0 := by unfold sgnN; rw [if_neg (by omega), if_neg (by omega)]
        rw [hs] at qc
        replace qc := hide qc
        by_cases hpar : q % 2 = p
        · have hv : Hid (enoB g p q x y = true) := decide_eq_true (by rw [hiff, if_pos hpar]; omega)
          have e1 : (q % 2 == p) = true := by rw [beq_iff_eq]; exact hpar
          clear hiff hs key heq hpar
          go_enter Try.func34, Try.ntmps34
          go_wp2_with (first | (go_at_call 70; (with_reducible refine qu.out.mono ?_); rintro e w' ⟨rfl, rfl⟩))
          go_quiet ((go_at_call 68; with_reducible exact same_quiet (qc.out _)))
          go_wp2_with fail
          go_ret
          exact ⟨ret_b hv.out, _, rfl⟩
        · have hv : Hid (enoB g p q x y = false) := decide_eq_false (by rw [hiff, if_neg hpar]; omega)
          have e1 : (q % 2 == p) = false := by rw [beq_eq_false_iff_ne]; exact hpar
          clear hiff hs key heq hpar
          go_enter Try.func34, Try.ntmps34
          go_wp2_with (first | (go_at_call 70; (with_reducible refine qu.out.mono ?_); rintro e w' ⟨rfl, rfl⟩))
          go_quiet ((go_at_call 68; with_reducible exact same_quiet (qc.out _)))
          go_wp2_with fail
          go_ret
          exact ⟨ret_b hv.out, _, rfl⟩
      · have hs : sgnN X Y = 1 := by unfold sgnN; rw [if_neg (by omega), if_pos hgt]
        have hv : Hid (enoB g p q x y = true) := decide_eq_true (by rw [hiff]; split <;> omega)
        rw [hs] at qc
        replace qc := hide qc
        clear hiff hs key hgt
        go_enter Try.func34, Try.ntmps34
        go_wp2_with (first | (go_at_call 70; (with_reducible refine qu.out.mono ?_); rintro e w' ⟨rfl, rfl⟩))
        go_quiet ((go_at_call 68; with_reducible exact same_quiet (qc.out _)))
        go_wp2_with fail
        go_ret
        exact ⟨ret_b hv.out, _, rfl⟩

end Go.Proofs.Ythmhlbkkhaplkaa

namespace Go.Proofs.Ythmhlbkkhaplkaa
open Go.ChangeShapes Go.WideShapes Go.ChangeAt Go.RowKit
set_option linter.unusedVariables false
set_option linter.unusedSimpArgs false

set_option maxRecDepth 100000 in
theorem indexFuncT_calls (F : FuncId) (caps : Array Value) (b n c : Nat) (g : DV) (p : Int) (μ : Nat → Nat) (w : World) (h : TabW w b n g p μ) (hn : n ≤ 120)
    (hF : ∀ (v : Value) (W : World), Sem.run Try.prog (callFunc F (#[v] ++ caps)) W = .ok (.enter F (#[v] ++ caps)) W)
    (hcl : ∀ (A : Option Addr) (m d x : Nat) (W : World), RowV W 0 W.heap.size A m g p x → Below w.heap.size w W → Calls Try.prog F (#[.slice A m d] ++ caps) W (Says false W)) :
    Calls Try.prog 69 #[.slice (some ⟨b, 0, none⟩) n c, .func (.func F) #[] caps] w fun e w' => e = .returned (.int .i64 (-1)) ∧ Below w.heap.size w w' := by
  replace hcl := hide hcl
  replace h := hide h
  go_enter Try.func69, Try.ntmps69
  go_wp2
  go_loopw [8] (fun i wr => ∃ k : Nat, k ≤ n ∧ i = .int .i64 k ∧ Hid (Below w.heap.size w wr)) (fun i _ => n - (intOf i).toNat)
  case atStart => exact ⟨0, Nat.zero_le _, rfl, Below.refl _ _⟩
  case round =>
    obtain ⟨k, hk, rfl, hb⟩ := hrel
    by_cases hlt : k < n
    · have k0 : (0 : Int) ≤ (k : Int) := by omega
      have k1 : (k : Int) < (n : Int) := by omega
      obtain ⟨A, m, d, c0, -, -, hr, -⟩ := (h.out.below hb.out (Nat.le_refl _)).2 k hlt
      have hc := hide (hcl.out A m d _ wr hr hb.out)
      clear h hcl hr
      go_wp2_with fail
      refine hc.out.mono ?_
      rintro e w1 ⟨rfl, hb1⟩
      have hb2 := hide (hb.out.trans (hb1.mono hb.out.size))
      clear hb1
      go_wp2_with fail
      go_roundw
      case rel => exact ⟨k + 1, by omega, by go_num, hb2⟩
      case measure => simp [intOf]; omega
    · have hkn : k = n := by omega
      subst hkn
      clear hcl h
      go_wp2
      go_ret
      exact ⟨rfl, hb.out⟩
theorem containsFuncT_calls (F : FuncId) (caps : Array Value) (b n c : Nat) (g : DV) (p : Int) (μ : Nat → Nat) (w : World) (h : TabW w b n g p μ) (hn : n ≤ 120)
    (hF : ∀ (v : Value) (W : World), Sem.run Try.prog (callFunc F (#[v] ++ caps)) W = .ok (.enter F (#[v] ++ caps)) W)
    (hcl : ∀ (A : Option Addr) (m d x : Nat) (W : World), RowV W 0 W.heap.size A m g p x → Below w.heap.size w W → Calls Try.prog F (#[.slice A m d] ++ caps) W (Says false W)) :
    Calls Try.prog 30 #[.slice (some ⟨b, 0, none⟩) n c, .func (.func F) #[] caps] w fun e w' => e = .returned (.bool false) ∧ Below w.heap.size w w' := by
  have q := hide (indexFuncT_calls F caps b n c g p μ w h hn hF hcl)
  clear h hcl hF
  go_enter Try.func30, Try.ntmps30
  go_wp2_with fail
  refine q.out.mono ?_
  rintro e w1 ⟨rfl, hb⟩
  replace hb := hide hb
  go_wp2_with fail
  go_ret
  exact ⟨rfl, hb.out⟩

theorem isM1_calls (bm bx : Nat) (g : DV) (p : Int) (A : Option Addr) (m d x : Nat) (w : World) (lo hi : Nat) (hM : MeaW w bm p (mostF g p)) (hx : w.cell? ⟨bx, 0, none⟩ = some (.pointer (some ⟨bm, 0, none⟩))) (hr : RowV w lo hi A m g p x) :
    Calls Try.prog 31 (#[.slice A m d] ++ #[.pointer (some ⟨bx, 0, none⟩)]) w (Says false w) := by
  have q := hide (rowOk_calls bm g p A m d x w lo hi hM hr)
  clear hM hr
  show Calls _ _ #[.slice A m d, .pointer (some ⟨bx, 0, none⟩)] _ _
  go_enter Try.func31, Try.ntmps31
  go_wp2_with (first | (go_at_call 32; (with_reducible refine q.out.mono ?_); rintro e w' ⟨rfl, rfl⟩))
  go_ret
  exact ⟨rfl, Below.refl _ _⟩

theorem same_quietN {P : Program} {f : FuncId} {args : Array Value} {w : World} {n : Nat} {v : Value} (h : Calls P f args (w.drewN n) fun e w' => e = .returned v ∧ ∃ N, w' = (w.drewN n).drewN N) :
    Calls P f args (w.drewN n) fun e w'' => e = .returned v ∧ ∃ m, w'' = w.drewN m := by
  refine h.mono ?_
  rintro e w' ⟨rfl, N, rfl⟩
  exact ⟨rfl, n + N, by rw [World.drewN_drewN]⟩
set_option maxRecDepth 100000 in
theorem isM2_calls (bm bx b5 bt b8 b9 n c k u : Nat) (g : DV) (p o q : Int) (Ah : Option Addr) (nh ch : Nat) (μ : Nat → Nat) (w : World) (hp : p = 0 ∨ p = 1) (hq : 0 ≤ q ∧ q ≤ 9) (hM : MeaW w bm p (mostF g p)) (hT : TabW w bt n g p μ)
    (hx : w.cell? ⟨bx, 0, none⟩ = some (.pointer (some ⟨bm, 0, none⟩))) (h5 : w.cell? ⟨b5, 0, none⟩ = some (.slice (some ⟨bt, 0, none⟩) n c)) (h8 : w.cell? ⟨b8, 0, none⟩ = some (.int .i64 (k : Nat)))
    (h9 : w.cell? ⟨b9, 1, none⟩ = some (.int .i64 q)) (hk : k < n) (hu : u < n) :
    Calls Try.prog 33 (#[.int .i64 (u : Nat)] ++ #[.pointer (some ⟨bx, 0, none⟩), .pointer (some ⟨b5, 0, none⟩), .pointer (some ⟨b8, 0, none⟩), .pointer (some ⟨b9, 0, none⟩)]) w (Says (enoB g p q (μ k) (μ u)) w) := by
  obtain ⟨A1, m1, d1, c1, -, hc1, hr1, -⟩ := hT.2 k hk
  obtain ⟨A2, m2, d2, c2, -, hc2, hr2, -⟩ := hT.2 u hu
  have qe := hide (fun N => enough_calls bm g p q A1 A2 m1 m2 d1 d2 (μ k) (μ u) (w.drewN N) 0 w.heap.size 0 w.heap.size (hM.drewN N) hp hq hr1 hr2 hc1 hc2)
  have k0 : (0 : Int) ≤ (k : Int) := by omega
  have k1 : (k : Int) < (n : Int) := by omega
  have u0 : (0 : Int) ≤ (u : Int) := by omega
  have u1 : (u : Int) < (n : Int) := by omega
  clear hM hT hr1 hr2
  generalize enoB g p q (μ k) (μ u) = v at *
  show Calls _ _ #[.int .i64 (u : Nat), .pointer (some ⟨bx, 0, none⟩), .pointer (some ⟨b5, 0, none⟩), .pointer (some ⟨b8, 0, none⟩), .pointer (some ⟨b9, 0, none⟩)] _ _
  go_enter Try.func33, Try.ntmps33
  go_wp2_with fail
  go_quiet ((go_at_call 34; with_reducible exact same_quietN (qe.out _)))
  go_wp2_with fail
  go_ret
  exact ⟨rfl, below_drewN _ _⟩

theorem isM3_calls (b10 u : Nat) (v : Bool) (caps : Array Value) (w : World) (h : w.cell? ⟨b10, 0, none⟩ = some (.func (.func 33) #[] caps))
    (hF : ∀ (v : Value) (W : World), Sem.run Try.prog (callFunc 33 (#[v] ++ caps)) W = .ok (.enter 33 (#[v] ++ caps)) W)
    (hcl : Calls Try.prog 33 (#[.int .i64 (u : Nat)] ++ caps) w (Says v w)) :
    Calls Try.prog 36 (#[.int .i64 (u : Nat)] ++ #[.pointer (some ⟨b10, 0, none⟩)]) w (Says (!v) w) := by
  replace hcl := hide hcl
  show Calls _ _ #[.int .i64 (u : Nat), .pointer (some ⟨b10, 0, none⟩)] _ _
  go_enter Try.func36, Try.ntmps36
  go_wp2_with fail
  refine hcl.out.mono ?_
  rintro e w1 ⟨rfl, hb⟩
  replace hb := hide hb
  go_wp2_with fail
  go_ret
  exact ⟨rfl, hb.out⟩

end Go.Proofs.Ythmhlbkkhaplkaa
