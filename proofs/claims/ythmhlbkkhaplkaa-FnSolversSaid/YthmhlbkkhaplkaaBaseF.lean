/-
  Several texts in one:
  The source of choices: a cell with the bytes, how far they are read, and a number that goes on behind them. Conditions: fewer than 10^9 choices are drawn.
  Ascending lists with the same members: plain. Conditions: none.
  A number put to its place among ascending ones: plain. Conditions: the numbers ascend.
  A number put to its place among ascending ones, by the reference. Conditions: the numbers ascend; at most 1048000 of them.
  A region that draws its order and ends in a store to a cell that it loads: reads are taken first, what is known of the world need not hold behind the last store. Conditions: none.
  A game that is drawn from a source is a valid one. Conditions: fewer than 10^9 choices are drawn.
  The reference's copy of a game. Conditions: valid games.
  A game whose moves may be written anew beside a row of the call's own. Conditions: at most 1048576 vertices.
  The reference's first winning choices: the walk. Conditions: valid games.
  A game with a region and choices, and choices for each vertex, drawn from bytes. Conditions: valid bytes; for the choices a valid game.
-/
import Derived.Test.YthmhlbkkhaplkaaBaseA
import Derived.Test.YthmhlbkkhaplkaaBaseB
import Derived.Test.YthmhlbkkhaplkaaBaseC
import Derived.Test.YthmhlbkkhaplkaaBaseE
import Derived.Test.YthmhlbkkhaplkaaChecked
import Derived.StillTailTactics
import Derived.Deep.QuietTactic
import Derived.BigQuiet
import Derived.StillTail
import Derived.OrdersHeld
import Derived.Deep.RegionHeld3
import Derived.Deep.CutBlock
import Derived.Deep.DeepCutAuto
set_option linter.unusedSimpArgs false
set_option linter.unusedVariables false
namespace Go.Proofs.Ythmhlbkkhaplkaa
open Go.ChangeShapes Go.WideShapes Go.ChangeAt Go.RowKit
set_option linter.unusedVariables false
set_option linter.unusedSimpArgs false

/-- A byte. -/
def byv (n : Int) : List Value := [.int .u8 n]
abbrev SlU := Sl 1 byv

/-- The source lies in block b; of its bytes at most N are read. -/
def SrcW (w : World) (b N : Nat) : Prop :=
  ∃ (A : Option Addr) (n c : Nat) (code : List Int) (at_ : Nat) (seed : Int), w.heap[b]? = some (.cells #[.slice A n c, .int .i64 (at_ : Int), .int .u64 seed] 71 (0, 0)) ∧ at_ ≤ N ∧ n ≤ maxLen ∧
    SlU w 0 b A n code ∧ ∀ x, x ∈ code → 0 ≤ x ∧ x ≤ 255
/-- What drawing does: the source alone changes. -/
structure SrcTo (w w' : World) (b N : Nat) : Prop where
  src : SrcW w' b N
  only : Only b (b + 1) w w'
  size : w'.heap.size = w.heap.size

section
variable {w w' w2 : World} {b N M : Nat}
theorem SrcW.lt (h : SrcW w b N) : b < w.heap.size := by
  obtain ⟨A, n, c, code, a, s, hb, _⟩ := h
  exact (Array.getElem?_eq_some_iff.1 hb).1
theorem SrcW.more (h : SrcW w b N) (hN : N ≤ M) : SrcW w b M := by
  obtain ⟨A, n, c, code, a, s, hb, ha, r⟩ := h
  exact ⟨A, n, c, code, a, s, hb, Nat.le_trans ha hN, r⟩
theorem SrcW.keep (h : SrcW w b N) (hs : w.heap.size ≤ w'.heap.size) (hk : ∀ k, k ≤ b → w'.heap[k]? = w.heap[k]?) : SrcW w' b N := by
  obtain ⟨A, n, c, code, a, s, hb, ha, hn, hc, r⟩ := h
  exact ⟨A, n, c, code, a, s, (hk b (Nat.le_refl _)).trans hb, ha, hn, hc.keep hs fun k _ h2 _ => hk k (by omega), r⟩
theorem SrcW.below {B : Nat} (h : SrcW w b N) (hb : Below B w w') (hB : b < B) : SrcW w' b N := h.keep hb.size fun k hk => hb.block k (by omega)
theorem SrcTo.refl (h : SrcW w b N) : SrcTo w w b N := ⟨h, Only.refl _ _ _, rfl⟩
theorem Only.trans' {lo hi : Nat} {a w w' : World} (h : Only lo hi a w) (g : Only lo hi w w') : Only lo hi a w' :=
  ⟨g.os.trans h.os, g.tape.trans h.tape, g.output.trans h.output, Nat.le_trans h.size g.size, fun k hk ho => (g.block k (Nat.lt_of_lt_of_le hk h.size) ho).trans (h.block k hk ho)⟩
theorem SrcTo.trans (h : SrcTo w w' b N) (g : SrcTo w' w2 b M) : SrcTo w w2 b M := ⟨g.src, h.only.trans' g.only, g.size.trans h.size⟩
theorem SrcTo.more (h : SrcTo w w' b N) (hN : N ≤ M) : SrcTo w w' b M := ⟨h.src.more hN, h.only, h.size⟩
theorem SrcW.put {A : Option Addr} {n c : Nat} {code : List Int} {a : Nat} {s s' : Int} (hb : w.heap[b]? = some (.cells #[.slice A n c, .int .i64 (a : Int), .int .u64 s] 71 (0, 0))) (hn : n ≤ maxLen) (hc : SlU w 0 b A n code) (hr : ∀ x, x ∈ code → 0 ≤ x ∧ x ≤ 255) (k0 k : Nat) :
    SrcTo w ((((w.drewN k0).setCell ⟨b, 1, none⟩ (.int .i64 ((a : Int) + 1))).setCell ⟨b, 2, none⟩ (.int .u64 s')).drewN k) b (a + 1) := by
  have hlt : b < w.heap.size := (Array.getElem?_eq_some_iff.1 hb).1
  replace hb : (w.drewN k0).heap[b]? = _ := hb
  have hc2 : SlU (w.drewN k0) 0 b A n code := hc.drewN k0
  have hO : Only b (b + 1) w (w.drewN k0) := ⟨rfl, rfl, rfl, Nat.le_refl _, fun _ _ _ => rfl⟩
  have hz : (w.drewN k0).heap.size = w.heap.size := rfl
  generalize w.drewN k0 = W at *
  refine ⟨⟨A, n, c, code, a + 1, s', ?_, Nat.le_refl _, hn, ?_, hr⟩, ?_, ?_⟩
  · have h1 := heap_setCell_same W b 1 _ _ (.int .i64 ((a : Int) + 1)) hb
    have h2 := heap_setCell_same _ b 2 _ _ (.int .u64 s') h1
    exact h2
  · refine Sl.drewN (w := (W.setCell ⟨b, 1, none⟩ (.int .i64 ((a : Int) + 1))).setCell ⟨b, 2, none⟩ (.int .u64 s')) ?_ k
    exact hc2.keep (by simp [World.size_setCell]) fun q _ h2 h3 => (Below.heap_setCell _ _ _ _ (by show q ≠ b; omega)).trans (Below.heap_setCell _ _ _ _ (by show q ≠ b; omega))
  · have h1 := (hO.setCell (p := ⟨b, 1, none⟩) (Nat.le_refl _) (Nat.lt_succ_self _) (.int .i64 ((a : Int) + 1))).setCell (p := ⟨b, 2, none⟩) (Nat.le_refl _) (Nat.lt_succ_self _) (.int .u64 s')
    exact ⟨h1.os, h1.tape, h1.output, h1.size, h1.block⟩
  · show ((W.setCell _ _).setCell _ _).heap.size = _
    rw [World.size_setCell, World.size_setCell]; exact hz
end

theorem byte_bits (x : Int) : 0 ≤ bits .and .u64 x 255 ∧ bits .and .u64 x 255 ≤ 255 := by
  have h : ((BitVec.ofInt 64 x &&& BitVec.ofInt 64 255).toNat) ≤ 255 := by
    rw [BitVec.toNat_and]
    exact Nat.le_trans Nat.and_le_right (by decide)
  have e : bits .and .u64 x 255 = IntKind.u64.wrap ((BitVec.ofInt 64 x &&& BitVec.ofInt 64 255).toNat : Nat) := rfl
  rw [e, IntKind.wrap_u64]
  omega

theorem byte_wrap (x : Int) : 0 ≤ wrap64 (bits .and .u64 x 255) ∧ wrap64 (bits .and .u64 x 255) ≤ 255 := by
  have h := byte_bits x
  have e : wrap64 (bits .and .u64 x 255) = bits .and .u64 x 255 := by unfold wrap64; omega
  rw [e]; exact h

set_option maxRecDepth 100000 in
set_option maxHeartbeats 1600000 in
theorem next_calls (b N : Nat) (w : World) (h : SrcW w b N) (hN : N ≤ 1000000000) :
    Calls Try.prog 75 #[.pointer (some ⟨b, 0, none⟩)] w fun e w' => ∃ x : Int, e = .returned (.int .i64 x) ∧ 0 ≤ x ∧ x ≤ 255 ∧ SrcTo w w' b (N + 1) := by
  obtain ⟨A, n, c, code, a, s, hb, ha, hn, hc, hr⟩ := h
  have hput := hide fun s' k0 k => (SrcW.put (s' := s') hb hn hc hr k0 k).more (M := N + 1) (by omega)
  have c0 : w.cell? ⟨b, 0, none⟩ = some (.slice A n c) := (cell_of_row w b 0 _ _ (0, 0) hb).trans rfl
  have c1 : w.cell? ⟨b, 1, none⟩ = some (.int .i64 (a : Int)) := (cell_of_row w b 1 _ _ (0, 0) hb).trans rfl
  have c2 : w.cell? ⟨b, 2, none⟩ = some (.int .u64 s) := (cell_of_row w b 2 _ _ (0, 0) hb).trans rfl
  have f1 := frozen_of_row w b 1 _ _ hb
  have f2 := frozen_of_row w b 2 _ _ hb
  have hnm : n ≤ 9223372036854775807 := Nat.le_trans hn (by unfold maxLen; omega)
  replace hb := hide hb
  by_cases hlt : a < n
  · obtain ⟨bc, oc, rfl, -, -, -, hat⟩ := hc.at_ (by omega)
    have hl : a < code.length := by rw [hc.len]; exact hlt
    have hx := hat a _ (List.getElem?_eq_getElem hl) 0 _ rfl
    simp only [Nat.mul_one, Nat.add_zero] at hx
    obtain ⟨x0, x1⟩ := hr _ (List.getElem_mem hl)
    generalize code[a] = x at *
    obtain ⟨hx, -⟩ := hx
    replace hc := hide hc
    clear hat hr
    have i0 : (0 : Int) ≤ (a : Int) := by omega
    have i1 : (a : Int) < (n : Int) := by omega
    have i2 : (a : Int) + 1 ≤ (n : Int) := by omega
    have j1 : decide ((a : Int) < (n : Int)) = true := decide_eq_true i1
    have j2 : decide ((a : Int) + 1 ≤ (n : Int)) = true := decide_eq_true i2
    go_enter Try.func75, Try.ntmps75
    go_wp2_with fail
    go_quiet (fail)
    go_wp2_with fail
    go_quiet (fail)
    go_wp2_with fail
    go_quiet (fail)
    go_wp2_with fail
    go_ret
    exact ⟨x, rfl, x0, x1, hput.out _ _ _⟩
  · replace hc := hide hc
    have i1 : ¬ (a : Int) < (n : Int) := by omega
    have i2 : ¬ (a : Int) + 1 ≤ (n : Int) := by omega
    have j1 : decide ((a : Int) < (n : Int)) = false := decide_eq_false i1
    have j2 : decide ((a : Int) + 1 ≤ (n : Int)) = false := decide_eq_false i2
    go_enter Try.func75, Try.ntmps75
    go_wp2_with fail
    go_quiet (fail)
    go_wp2_with fail
    go_quiet (fail)
    go_wp2_with fail
    go_ret
    exact ⟨_, rfl, (byte_wrap _).1, (byte_wrap _).2, hput.out _ _ _⟩

/-- A number below n (0 where n is 1 or less). -/
def PickR (b N : Nat) (n : Int) (w : World) (e : Ending) (w' : World) : Prop := ∃ x : Int, e = .returned (.int .i64 x) ∧ 0 ≤ x ∧ (x < n ∨ x = 0) ∧ SrcTo w w' b (N + 2)
theorem pick_rem (x : Int) {n : Int} (hn : 1 < n) : 0 ≤ x % n ∧ x % n < n := ⟨Int.emod_nonneg _ (by omega), Int.emod_lt_of_pos _ (by omega)⟩
set_option maxRecDepth 100000 in
set_option maxHeartbeats 1600000 in
theorem pick_calls (b N : Nat) (n : Int) (w : World) (h : SrcW w b N) (hN : N ≤ 900000000) :
    Calls Try.prog 45 #[.pointer (some ⟨b, 0, none⟩), .int .i64 n] w (PickR b N n w) := by
  have q1 := hide (next_calls b N w h (by omega))
  have hself := hide ((SrcTo.refl h).more (show N ≤ N + 2 by omega))
  clear h
  by_cases h1 : n ≤ 1
  · go_enter Try.func45, Try.ntmps45
    go_wp2_with fail
    go_ret
    exact ⟨0, rfl, by omega, .inr rfl, hself.out⟩
  · have hne : n ≠ 0 := by omega
    by_cases h2 : 200 < n
    · go_enter Try.func45, Try.ntmps45
      go_wp2_with fail
      refine q1.out.mono ?_
      rintro e w1 ⟨x, rfl, x0, x1, hs1⟩
      have q2 := hide (next_calls b (N + 1) w1 hs1.src (by omega))
      replace hs1 := hide hs1
      go_wp2_with fail
      refine q2.out.mono ?_
      rintro e w2 ⟨y, rfl, y0, y1, hs2⟩
      have hs3 := hide (hs1.out.trans hs2)
      clear hs1 hs2 q1 q2
      have hr := pick_rem (x * 256 + y) (show 1 < n by omega)
      go_wp2_with fail
      go_ret
      exact ⟨_, rfl, hr.1, .inl hr.2, hs3.out⟩
    · go_enter Try.func45, Try.ntmps45
      go_wp2_with fail
      refine q1.out.mono ?_
      rintro e w1 ⟨x, rfl, x0, x1, hs1⟩
      have hs3 := hide (hs1.more (show N + 1 ≤ N + 2 by omega))
      clear hs1 q1
      have hr := pick_rem x (show 1 < n by omega)
      go_wp2_with fail
      go_ret
      exact ⟨_, rfl, hr.1, .inl hr.2, hs3.out⟩
theorem one_calls (b N : Nat) (n : Int) (w : World) (h : SrcW w b N) (hN : N ≤ 900000000) :
    Calls Try.prog 21 #[.pointer (some ⟨b, 0, none⟩), .int .i64 n] w fun e w' => ∃ v : Bool, e = .returned (.bool v) ∧ SrcTo w w' b (N + 2) := by
  have q1 := hide (pick_calls b N n w h hN)
  clear h
  go_enter Try.func21, Try.ntmps21
  go_wp2_with fail
  refine q1.out.mono ?_
  rintro e w1 ⟨x, rfl, x0, x1, hs1⟩
  replace hs1 := hide hs1
  clear q1
  go_wp2_with fail
  go_ret
  exact ⟨_, rfl, hs1.out⟩

end Go.Proofs.Ythmhlbkkhaplkaa

namespace Go.Proofs.Ythmhlbkkhaplkaa
set_option linter.unusedVariables false
set_option linter.unusedSimpArgs false

/-- Two strictly ascending lists of the same numbers are one. -/
theorem asc_one : ∀ {A B : List Int}, A.Pairwise (· < ·) → B.Pairwise (· < ·) → (∀ x, x ∈ A ↔ x ∈ B) → A = B
  | [], [], _, _, _ => rfl
  | [], b :: B, _, _, h => absurd ((h b).2 (List.mem_cons_self ..)) (List.not_mem_nil)
  | a :: A, [], _, _, h => absurd ((h a).1 (List.mem_cons_self ..)) (List.not_mem_nil)
  | a :: A, b :: B, hA, hB, h => by
    obtain ⟨ha, hA'⟩ := List.pairwise_cons.1 hA
    obtain ⟨hb, hB'⟩ := List.pairwise_cons.1 hB
    have e : a = b := by
      rcases List.mem_cons.1 ((h a).1 (List.mem_cons_self ..)) with e | h1
      · exact e
      · rcases List.mem_cons.1 ((h b).2 (List.mem_cons_self ..)) with e | h2
        · exact e.symm
        · have := hb a h1
          have := ha b h2
          omega
    subst e
    congr 1
    refine asc_one hA' hB' fun x => ?_
    constructor
    · intro hx
      rcases List.mem_cons.1 ((h x).1 (List.mem_cons_of_mem _ hx)) with rfl | g
      · have := ha _ hx; omega
      · exact g
    · intro hx
      rcases List.mem_cons.1 ((h x).2 (List.mem_cons_of_mem _ hx)) with rfl | g
      · have := hb _ hx; omega
      · exact g

end Go.Proofs.Ythmhlbkkhaplkaa

namespace Go.Proofs.Ythmhlbkkhaplkaa
set_option linter.unusedVariables false
set_option linter.unusedSimpArgs false

def putI (l : List Int) (n : Int) : List Int := (l.filter fun x => decide (x < n)) ++ n :: l.filter fun x => decide (n < x)
theorem putI_mem {l : List Int} {n x : Int} : x ∈ putI l n ↔ x ∈ l ∨ x = n := by
  unfold putI
  rw [List.mem_append, List.mem_cons, List.mem_filter, List.mem_filter, decide_eq_true_eq, decide_eq_true_eq]
  constructor
  · rintro (h | h | h)
    · exact .inl h.1
    · exact .inr h
    · exact .inl h.1
  · rintro (h | h)
    · by_cases h1 : x < n
      · exact .inl ⟨h, h1⟩
      · by_cases h2 : n < x
        · exact .inr (.inr ⟨h, h2⟩)
        · exact .inr (.inl (by omega))
    · exact .inr (.inl h)
theorem putI_asc {l : List Int} {n : Int} (h : l.Pairwise (· < ·)) : (putI l n).Pairwise (· < ·) := by
  refine List.pairwise_append.2 ⟨h.filter _, List.pairwise_cons.2 ⟨fun x hx => of_decide_eq_true (List.mem_filter.1 hx).2, h.filter _⟩, ?_⟩
  intro a ha b hb
  have h1 := of_decide_eq_true (List.mem_filter.1 ha).2
  rcases List.mem_cons.1 hb with rfl | hb
  · exact h1
  · have := of_decide_eq_true (List.mem_filter.1 hb).2
    omega
theorem putI_of {l k : List Int} {n : Int} (h : l.Pairwise (· < ·)) (hk : k.Pairwise (· < ·)) (hm : ∀ x, x ∈ k ↔ x ∈ l ∨ x = n) : putI l n = k :=
  asc_one (putI_asc h) hk fun x => by rw [putI_mem, hm]
/-- Whether the place is found among the first i; what lies in the new list then. -/
def doneI (l : List Int) (n : Int) (i : Nat) : Bool := (l.take i).any fun x => decide (n ≤ x)
def outI (l : List Int) (n : Int) (i : Nat) : List Int := if doneI l n i then putI (l.take i) n else l.take i
section
variable {l : List Int} {n x : Int} {i : Nat}
theorem doneI_succ (hx : l[i]? = some x) : doneI l n (i + 1) = (doneI l n i || decide (n ≤ x)) := by
  unfold doneI
  rw [List.take_add_one, hx, List.any_append]
  simp
theorem asc_snoc (h : l.Pairwise (· < ·)) (hx : l[i]? = some x) : ∀ y, y ∈ l.take i → y < x := by
  intro y hy
  obtain ⟨hi, e⟩ := List.getElem?_eq_some_iff.1 hx
  obtain ⟨j, hj, rfl⟩ := List.getElem_of_mem hy
  rw [List.length_take] at hj
  rw [List.getElem_take]
  have := List.pairwise_iff_getElem.1 h j i (by omega) hi (by omega)
  omega
theorem asc_take (h : l.Pairwise (· < ·)) (k : Nat) : (l.take k).Pairwise (· < ·) := h.sublist (List.take_sublist _ _)
theorem asc_app {k : List Int} (h : k.Pairwise (· < ·)) (hy : ∀ y, y ∈ k → y < x) : (k ++ [x]).Pairwise (· < ·) :=
  List.pairwise_append.2 ⟨h, by simp, fun a ha b hb => by rw [List.mem_singleton.1 hb]; exact hy a ha⟩
/-- One more number: what the loop appends. -/
theorem outI_succ (h : l.Pairwise (· < ·)) (hx : l[i]? = some x) :
    outI l n (i + 1) = (if doneI l n i = false ∧ n ≤ x ∧ n < x then outI l n i ++ [n] else outI l n i) ++ [x] := by
  have ht : l.take (i + 1) = l.take i ++ [x] := by rw [List.take_add_one, hx]; rfl
  have hlt := asc_snoc h hx
  have hta := asc_take h i
  unfold outI
  rw [doneI_succ hx]
  cases hd : doneI l n i with
  | true =>
    rw [Bool.true_or, if_pos rfl, if_neg (by simp), if_pos rfl]
    obtain ⟨y, hy, hyn⟩ := List.any_eq_true.1 hd
    have hyn := of_decide_eq_true hyn
    have hyx := hlt y hy
    refine putI_of (asc_take h (i + 1)) (asc_app (putI_asc hta) fun z hz => ?_) fun z => ?_
    · rcases putI_mem.1 hz with hz | rfl
      · exact hlt z hz
      · omega
    · rw [ht]
      simp only [List.mem_append, List.mem_singleton, putI_mem]
      constructor
      · rintro ((a | a) | a)
        · exact .inl (.inl a)
        · exact .inr a
        · exact .inl (.inr a)
      · rintro ((a | a) | a)
        · exact .inl (.inl a)
        · exact .inr a
        · exact .inl (.inr a)
  | false =>
    rw [Bool.false_or, if_neg Bool.false_ne_true]
    have hall : ∀ y, y ∈ l.take i → y < n := fun y hy => by
      have := List.any_eq_false.1 hd y hy
      rw [decide_eq_true_eq] at this
      omega
    by_cases hn : n ≤ x
    · rw [decide_eq_true hn, if_pos rfl]
      by_cases hnx : n < x
      · rw [if_pos ⟨rfl, hn, hnx⟩]
        refine putI_of (asc_take h (i + 1)) (asc_app (asc_app hta hall) fun z hz => ?_) fun z => ?_
        · rcases List.mem_append.1 hz with hz | hz
          · exact hlt z hz
          · rw [List.mem_singleton.1 hz]; exact hnx
        · rw [ht]
          simp only [List.mem_append, List.mem_singleton]
          constructor
          · rintro ((a | a) | a)
            · exact .inl (.inl a)
            · exact .inr a
            · exact .inl (.inr a)
          · rintro ((a | a) | a)
            · exact .inl (.inl a)
            · exact .inr a
            · exact .inl (.inr a)
      · rw [if_neg (by omega)]
        obtain rfl : n = x := by omega
        refine putI_of (asc_take h (i + 1)) (asc_app hta hlt) fun z => ?_
        rw [ht]
        simp only [List.mem_append, List.mem_singleton, or_assoc, or_self]
    · rw [decide_eq_false hn, if_neg Bool.false_ne_true, if_neg (by omega), ht]
theorem outI_end (h : l.Pairwise (· < ·)) : (if doneI l n l.length then outI l n l.length else outI l n l.length ++ [n]) = putI l n := by
  unfold outI
  rw [List.take_length]
  cases hd : doneI l n l.length with
  | true => rfl
  | false =>
    rw [if_neg Bool.false_ne_true, if_neg Bool.false_ne_true]
    symm
    refine putI_of h (asc_app h fun y hy => ?_) fun z => by simp
    unfold doneI at hd
    rw [List.take_length] at hd
    have := List.any_eq_false.1 hd y hy
    rw [decide_eq_true_eq] at this
    omega
end
end Go.Proofs.Ythmhlbkkhaplkaa

namespace Go.Proofs.Ythmhlbkkhaplkaa
open Go.ChangeShapes Go.WideShapes Go.ChangeAt Go.RowKit
set_option linter.unusedVariables false
set_option linter.unusedSimpArgs false

set_option maxRecDepth 100000 in
set_option maxHeartbeats 1600000 in
theorem l00Put_calls (A : Option Addr) (n c : Nat) (l : List Int) (x : Int) (w : World) (lo hi : Nat) (h : SlI w lo hi A n l) (hasc : l.Pairwise (· < ·)) (hn : n ≤ 1048000) :
    Calls Try.prog 46 #[.slice A n c, .int .i64 x] w fun e w' => ∃ A' n' c', e = .returned (.slice A' n' c') ∧ Own 1 iv w' w.heap.size 2 A' n' c' (putI l x) ∧ n' ≤ n + 1 ∧ Below w.heap.size w w' := by
  have hE := hide elem_int64
  have hlen := h.len
  replace h := hide h.top
  replace hasc := hide hasc
  go_enter Try.func46, Try.ntmps46
  go_wp2_with fail
  go_loopw [5, 6, 7] (fun v dn i wr => ∃ (k m : Nat) (Ao : Option Addr) (co : Nat), k ≤ n ∧ m ≤ k + 1 ∧ i = .int .i64 (k : Nat) ∧ v = .slice Ao m co ∧ dn = .bool (doneI l x k) ∧ Hid (Own 1 iv wr w.heap.size 2 Ao m co (outI l x k)) ∧ Below w.heap.size w wr) (fun _ _ i _ => n - (intOf i).toNat)
  case atStart => exact ⟨0, 0, _, 0, Nat.zero_le _, Nat.zero_le _, rfl, rfl, rfl, Own.made _ _ (Nat.le_refl _), (Below.refl _ _).alloc (Nat.le_refl _) _⟩
  case round =>
    obtain ⟨k, m, Ao, co, hk, hm, rfl, rfl, rfl, hown, hb⟩ := hrel
    by_cases hlt : k < n
    · have hz := hb.size
      have hza : ∀ o, w.heap.size ≤ (wr.alloc o).heap.size := fun o => by rw [World.size_alloc]; omega
      obtain ⟨b, off, y, rfl, g1, g2, g3, hy, c0, -⟩ := SlI.get h.out hlt
      replace c0 := (hb.cell (p := ⟨b, off + k, none⟩) g3).trans c0
      have hd := doneI_succ (n := x) hy
      have ho := outI_succ (n := x) hasc.out hy
      have k0 : (0 : Int) ≤ (k : Int) := by omega
      have k1 : (k : Int) < (n : Int) := by omega
      replace hy := hide hy
      replace hb := hide hb
      by_cases one : doneI l x k = false ∧ x < y
      · obtain ⟨d0, hxy⟩ := one
        have hm2 : m ≤ k := by
          have h1 := hown.out.len
          have h2 : outI l x k = l.take k := by unfold outI; rw [d0]; rfl
          rw [h2, List.length_take] at h1
          omega
        have e1 : Hid (outI l x (k + 1) = outI l x k ++ [x] ++ [y]) := by show _ = _; rw [ho, if_pos ⟨d0, by omega, hxy⟩]
        have e2 : Hid (doneI l x (k + 1) = true) := by show _ = _; rw [hd, d0, decide_eq_true (show x ≤ y by omega)]; rfl
        have hge : decide (y ≥ x) = true := decide_eq_true (by omega)
        have hge2 : y ≥ x := by omega
        have hgt : y > x := hxy
        rw [d0]
        clear hd ho d0
        have c0a : ∀ o, (wr.alloc o).cell? ⟨b, off + k, none⟩ = some (.int .i64 y) := fun o => (((Below.refl wr.heap.size wr).alloc (Nat.le_refl _) o).cell (p := ⟨b, off + k, none⟩) (by show b < wr.heap.size; omega)).trans c0
        have e4 := hide (show ∀ o, Below w.heap.size w (wr.alloc o) from fun o => hb.out.alloc hz o)
        go_wp2_with (first
          | (at_builtin; (with_reducible refine wpList_app rfl (.tmp 31) (.tmp 33) rfl hE.out flat_iv rfl (hown.out.alloc _) rfl (Sl.lit1' wr 2 x _ rfl 1 _ ?c0) ?c1 (hza _) ?_); rotate_right; intro A5 c5 w5 hown5 hgr5 hb5 _; have c5' := (hb5.cell (p := ⟨b, off + k, none⟩) g3).trans (c0a _); have hz5 := hb5.size; have hza5 : ∀ o, w.heap.size ≤ (w5.alloc o).heap.size := fun o => (by rw [World.size_alloc]; rw [World.size_alloc] at hz5; omega); have hz5' := Nat.le_trans (hza _) hz5; replace hown5 := hide hown5; replace hb5 := hide hb5; clear hgr5)
          | (at_builtin; (with_reducible refine wpList_app rfl (.tmp 35) (.tmp 40) rfl hE.out flat_iv rfl (hown5.out.alloc _) rfl (Sl.lit1' w5 2 y _ rfl 1 _ ?d0) ?d1 (hza5 _) ?_); rotate_right; intro A6 c6 w6 hown6 hgr6 hb6 _))
        case d0 => rfl
        case d1 => omega
        case c0 => rfl
        case c1 => omega
        have hb7 := hide ((e4.out _).trans (hb5.out.trans ((Below.refl _ _).alloc hz5' _ |>.trans hb6)))
        rw [← e1.out] at hown6
        go_roundw
        case rel => exact ⟨k + 1, m + 1 + 1, A6, c6, by omega, by omega, by go_num, rfl, by rw [e2.out], hown6, hb7.out⟩
        case measure => simp [intOf]; omega
      · have e1 : Hid (outI l x (k + 1) = outI l x k ++ [y]) := by show _ = _; rw [ho, if_neg (fun c => one ⟨c.1, c.2.2⟩)]
        replace hd := hide hd
        clear ho
        have e4 := hide (show ∀ o, Below w.heap.size w (wr.alloc o) from fun o => hb.out.alloc hz o)
        cases d0 : doneI l x k with
        | true =>
          have e2 : Hid (doneI l x (k + 1) = true) := by show _ = _; rw [hd.out, d0]; rfl
          clear hd d0 one
          go_wp2_with (first
            | (at_builtin; (with_reducible refine wpList_app rfl (.tmp 35) (.tmp 40) rfl hE.out flat_iv rfl (hown.out.alloc _) rfl (Sl.lit1' wr 2 y _ rfl 1 _ ?d0) ?d1 (hza _) ?_); rotate_right; intro A6 c6 w6 hown6 hgr6 hb6 _))
          case d0 => rfl
          case d1 => omega
          have hb7 := hide ((e4.out _).trans hb6)
          rw [← e1.out] at hown6
          go_roundw
          case rel => exact ⟨k + 1, m + 1, A6, c6, by omega, by omega, by go_num, rfl, by rw [e2.out], hown6, hb7.out⟩
          case measure => simp [intOf]; omega
        | false =>
          by_cases hxy : x ≤ y
          · have e2 : Hid (doneI l x (k + 1) = true) := by show _ = _; rw [hd.out, d0, decide_eq_true hxy]; rfl
            have hge : decide (y ≥ x) = true := decide_eq_true (by omega)
            have hge2 : y ≥ x := by omega
            have hgt : ¬ y > x := fun c => one ⟨d0, c⟩
            clear hd d0 one
            go_wp2_with (first
              | (at_builtin; (with_reducible refine wpList_app rfl (.tmp 35) (.tmp 40) rfl hE.out flat_iv rfl (hown.out.alloc _) rfl (Sl.lit1' wr 2 y _ rfl 1 _ ?d0) ?d1 (hza _) ?_); rotate_right; intro A6 c6 w6 hown6 hgr6 hb6 _))
            case d0 => rfl
            case d1 => omega
            have hb7 := hide ((e4.out _).trans hb6)
            rw [← e1.out] at hown6
            go_roundw
            case rel => exact ⟨k + 1, m + 1, A6, c6, by omega, by omega, by go_num, rfl, by rw [e2.out], hown6, hb7.out⟩
            case measure => simp [intOf]; omega
          · have e2 : Hid (doneI l x (k + 1) = false) := by show _ = _; rw [hd.out, d0, decide_eq_false hxy]; rfl
            have hge : decide (y ≥ x) = false := decide_eq_false (by omega)
            have hge2 : ¬ y ≥ x := by omega
            clear hd d0 one
            go_wp2_with (first
              | (at_builtin; (with_reducible refine wpList_app rfl (.tmp 35) (.tmp 40) rfl hE.out flat_iv rfl (hown.out.alloc _) rfl (Sl.lit1' wr 2 y _ rfl 1 _ ?d0) ?d1 (hza _) ?_); rotate_right; intro A6 c6 w6 hown6 hgr6 hb6 _))
            case d0 => rfl
            case d1 => omega
            have hb7 := hide ((e4.out _).trans hb6)
            rw [← e1.out] at hown6
            go_roundw
            case rel => exact ⟨k + 1, m + 1, A6, c6, by omega, by omega, by go_num, rfl, by rw [e2.out], hown6, hb7.out⟩
            case measure => simp [intOf]; omega
    · obtain rfl : k = n := by omega
      have hend := outI_end (n := x) hasc.out
      rw [hlen] at hend
      have hz := hb.size
      replace hb := hide hb
      cases d0 : doneI l x k with
      | true =>
        rw [d0, if_pos rfl] at hend
        rw [hend] at hown
        clear hend
        go_wp2_with fail
        go_ret
        exact ⟨_, _, _, rfl, hown.out, by omega, hb.out⟩
      | false =>
        rw [d0, if_neg Bool.false_ne_true] at hend
        replace hend := hide hend
        have hza : ∀ o, w.heap.size ≤ (wr.alloc o).heap.size := fun o => by rw [World.size_alloc]; omega
        have hm2 : m ≤ k := by
          have h1 := hown.out.len
          have h2 : outI l x k = l.take k := by unfold outI; rw [d0]; rfl
          rw [h2, List.length_take] at h1
          omega
        have e4 := hide (show ∀ o, Below w.heap.size w (wr.alloc o) from fun o => hb.out.alloc hz o)
        go_wp2_with (first
          | (at_builtin; (with_reducible refine wpList_app rfl (.tmp 44) (.tmp 46) rfl hE.out flat_iv rfl (hown.out.alloc _) rfl (Sl.lit1' wr 2 x _ rfl 1 _ ?d0) ?d1 (hza _) ?_); rotate_right; intro A6 c6 w6 hown6 hgr6 hb6 _))
        case d0 => rfl
        case d1 => omega
        have hb7 := hide ((e4.out _).trans hb6)
        rw [hend.out] at hown6
        go_wp2_with fail
        go_ret
        exact ⟨_, _, _, rfl, hown6, by omega, hb7.out⟩

end Go.Proofs.Ythmhlbkkhaplkaa

namespace Go.Proofs.Ythmhlbkkhaplkaa
open Go
set_option linter.unusedVariables false

section
variable {P : Program} {ops : Array Oper} {Q : Exit → Act → World → Prop} {md : Region.Mode} {S : World → Prop} {st : Nat}

/-- Any order from here on; S holds behind each operation but number st. -/
def lateT (P : Program) (md : Region.Mode) (ops : Array Oper) (Q : Exit → Act → World → Prop) (S : World → Prop) (st : Nat) : Nat → Array Bool → Act → World → Prop
  | 0, got, a, w => Region.ready md ops got = [] ∧ Q .normal a w
  | m + 1, got, a, w => (Region.ready md ops got = [] → Q .normal a w) ∧
    ∀ i ∈ Region.ready md ops got, wpOp P ops Q i (fun a' w' => (i ≠ st → S w') ∧ lateT P md ops Q S st m (got.setIfInBounds i true) a' w') a w
theorem lateT.any : ∀ (m : Nat) (got : Array Bool) (a : Act) (w : World), lateT P md ops Q S st m got a w → wpAny P md ops Q m got a w
  | 0, _, _, _, h => h
  | m + 1, got, _, _, h => ⟨h.1, fun i hi => wpOp_mono (fun a' w' k => lateT.any m _ a' w' k.2) (h.2 i hi)⟩

/-- Each of these waits for the one ahead of it. -/
def chainW (md : Region.Mode) (ops : Array Oper) : Nat → List Nat → Bool
  | _, [] => true
  | i, d :: ds => Region.waitsFor md ops d i && chainW md ops d ds
def openW (got : Array Bool) (ds : List Nat) : Bool := ds.all fun d => !got.getD d true
theorem openW_mem {got : Array Bool} {ds : List Nat} (h : openW got ds = true) {d : Nat} (hd : d ∈ ds) : got.getD d true = false := by
  unfold openW at h
  have := List.all_eq_true.1 h d hd
  simpa using this
theorem chainW_shut {got : Array Bool} : ∀ (ds : List Nat) (i : Nat), chainW md ops i ds = true → got.getD i true = false → openW got ds = true → ∀ d ∈ ds, d ∉ Region.ready md ops got
  | [], _, _, _, _, d, hd => by cases hd
  | e :: ds, i, h, hi, ho, d, hd => by
    unfold chainW at h
    rw [Bool.and_eq_true] at h
    have he : got.getD e true = false := openW_mem ho (by simp)
    rcases List.mem_cons.1 hd with rfl | hd
    · intro hr
      obtain ⟨oj, h1, x, hx, hb, hon⟩ := Region.waitsFor_spec h.1
      obtain ⟨-, o, h2, h3⟩ := mem_ready.1 hr
      rw [h1] at h2
      obtain rfl := Option.some.inj h2
      have := h3 x hx hb
      rw [hon, getD_both hi] at this
      cases this
    · exact chainW_shut ds e h.2 he (by unfold openW at ho ⊢; rw [List.all_cons, Bool.and_eq_true] at ho; exact ho.2) d hd

theorem lateT_first {i : Nat} {oi : Oper} {v : Value} {ds : List Nat} (hi : ops[i]? = some oi) (hsel : Region.noSelect ops = true) (hc : chainW md ops i ds = true) (hst : st ∈ ds)
    (hQ : ∀ c a w, Q (.panic c) (a.put oi.dst v) w → Q (.panic c) a w) : ∀ (m : Nat) (got : Array Bool) (a : Act) (w : World),
      (∀ j oj, ops[j]? = some oj → j ≠ i → got.getD j true = false → (∀ e ∈ oj.after, Region.binds md e = true → e.on ≠ i) → oi.apart ops oj = true) →
      i ∈ Region.ready md ops got → openW got ds = true → YieldsIf P ops S oi v a → S w →
      lateT P md ops Q S st m (got.setIfInBounds i true) (a.put oi.dst v) w → lateT P md ops Q S st (m + 1) got a w
  | 0, got, a, w, _, hr, _, hy, hS, H => by
    refine ⟨fun h => (by rw [h] at hr; cases hr), fun j hj => ?_⟩
    by_cases hji : j = i
    · subst hji; exact hy.wpOp hi hS ⟨fun _ => hS, H⟩
    · have := ready_mono hj hji
      rw [H.1] at this
      cases this
  | m + 1, got, a, w, hfree, hr, ho, hy, hS, H => by
    refine ⟨fun h => (by rw [h] at hr; cases hr), fun j hj => ?_⟩
    by_cases hji : j = i
    · subst hji; exact hy.wpOp hi hS ⟨fun _ => hS, H⟩
    · have h1 := H.2 j (ready_mono hj hji)
      obtain ⟨hjun, oj, hoj, hall⟩ := mem_ready.1 hj
      have hi0 := (mem_ready.1 hr).1
      have hjd : j ∉ ds := fun hm => chainW_shut ds i hc hi0 ho j hm hj
      have hjst : j ≠ st := fun e => hjd (e ▸ hst)
      have hnot : ∀ e ∈ oj.after, Region.binds md e = true → e.on ≠ i := fun e he hb heq => by
        have h2 := hall e he hb
        rw [heq, getD_both hi0] at h2
        cases h2
      have h2 := wpOp_putIf hoj (hfree j oj hoj hji hjun hnot) (fun cs b => Region.noSelect_spec hsel i oi cs b hi) (fun cs b => Region.noSelect_spec hsel j oj cs b hoj) hQ hy h1
      refine wpOp_mono (fun a' w' h3 => ⟨h3.2.1, lateT_first hi hsel hc hst hQ m (got.setIfInBounds j true) a' w' (fun k ok hk hki hun hno => ?_) (ready_mono hr (Ne.symm hji)) ?_ h3.1 (h3.2.1 hjst) ?_⟩) h2
      · refine hfree k ok hk hki ?_ hno
        by_cases hjk : j = k
        · subst hjk; exact hjun
        · rw [getD_set_ne true hjk] at hun; exact hun
      · unfold openW
        rw [List.all_eq_true]
        intro d hd
        rw [getD_set_ne true (fun e : j = d => hjd (by rw [e]; exact hd)), openW_mem ho hd]
        rfl
      · rw [Array.setIfInBounds_comm _ _ hji]
        exact h3.2.2
/-- A read, an address, a copy is taken first. -/
theorem lateT_take {i : Nat} {oi : Oper} {v : Value} {m : Nat} {got : Array Bool} {a : Act} {w : World} (ds : List Nat) (hi : ops[i]? = some oi) (hsel : Region.noSelect ops = true) (hf : Region.free md ops got i = true)
    (hr : (Region.ready md ops got).contains i = true) (hc : (chainW md ops i ds && openW got ds && ds.contains st) = true) (hQ : ∀ c a w, Q (.panic c) (a.put oi.dst v) w → Q (.panic c) a w) (hy : YieldsIf P ops S oi v a) (hS : S w)
    (h : lateT P md ops Q S st m (got.setIfInBounds i true) (a.put oi.dst v) w) : lateT P md ops Q S st (m + 1) got a w := by
  rw [Bool.and_eq_true, Bool.and_eq_true] at hc
  exact lateT_first hi hsel hc.1.1 (by simpa using hc.2) hQ m got a w (Region.free_spec hi hf) (by simpa using hr) hc.1.2 hy hS h
/-- The only operation that may come. -/
theorem lateT_step {i : Nat} {o : Oper} {m : Nat} {got : Array Bool} {a : Act} {w : World} (hr : Region.ready md ops got = [i]) (ho : ops[i]? = some o)
    (h : ∀ K : Act → World → Prop, Shut (∀ a w, (i ≠ st → S w) → lateT P md ops Q S st m (got.setIfInBounds i true) a w → K a w) → if Region.wanted o (yielded ops a.tmps) = true then Oper.wp P o a w K Q else K (a.put o.dst undef) w) : lateT P md ops Q S st (m + 1) got a w := by
  refine ⟨fun h0 => (by rw [hr] at h0; cases h0), fun j hj => ?_⟩
  rw [hr] at hj
  obtain rfl := List.mem_singleton.1 hj
  exact wpOp_step ho fun K hK => h K fun a w hS hl => hK a w ⟨hS, hl⟩
theorem lateT_done {got : Array Bool} {a : Act} {w : World} (hr : Region.ready md ops got = []) (h : Q .normal a w) : ∀ m, lateT P md ops Q S st m got a w
  | 0 => ⟨hr, h⟩
  | _ + 1 => ⟨fun _ => h, by rw [hr]; simp⟩
theorem lateT_begin {id : Nat} {a : Act} {w : World} (hm : P.follows .mixedOrders = true) (h : lateT P .any ops Q S st ops.size (Array.replicate ops.size false) a w.drew) : (Code.region id ops true).wp P Q a w :=
  wp_region_any hm (lateT.any _ _ _ _ h)
end

end Go.Proofs.Ythmhlbkkhaplkaa

namespace Go.Proofs.Ythmhlbkkhaplkaa
open Go.ChangeShapes Go.WideShapes Go.ChangeAt Go.RowKit
set_option linter.unusedVariables false
set_option linter.unusedSimpArgs false

theorem Only.alloc' {lo hi : Nat} {a w : World} (h : Only lo hi a w) (o : Obj) : Only lo hi a (w.alloc o) :=
  ⟨h.os, h.tape, h.output, by rw [World.size_alloc]; have := h.size; omega, fun q hq hd => (Below.heap_alloc _ _ _ (by have := h.size; omega)).trans (h.block q hq hd)⟩
theorem Only.setNew {lo hi : Nat} {a w : World} (h : Only lo hi a w) {p : Addr} (hp : a.heap.size ≤ p.block) (u : Value) : Only lo hi a (w.setCell p u) :=
  ⟨h.os, h.tape, h.output, by rw [World.size_setCell]; exact h.size, fun q hq hd => (Below.heap_setCell _ _ _ _ (by omega)).trans (h.block q hq hd)⟩
theorem Only.drew' {lo hi : Nat} {a w : World} (h : Only lo hi a w) : Only lo hi a w.drew := ⟨h.os, h.tape, h.output, h.size, h.block⟩
theorem Only.belowAt {lo hi B : Nat} {a w w' : World} (h : Only lo hi a w) (g : Below B w w') (hB : a.heap.size ≤ B) : Only lo hi a w' :=
  ⟨g.os.trans h.os, g.tape.trans h.tape, g.output.trans h.output, Nat.le_trans h.size g.size, fun q hq hd => (g.block q (by omega)).trans (h.block q hq hd)⟩
theorem Only.grow {lo hi : Nat} {a w w' : World} (h : Only lo hi a w) {row : Option Nat} (g : w.grownBy w' row) (hr : ∀ k, row = some k → a.heap.size ≤ k) : Only lo hi a w' :=
  ⟨g.os.trans h.os, g.tape.trans h.tape, g.output.trans h.output, Nat.le_trans h.size g.size, fun q hq hd => (g.block q (by have := h.size; omega) (fun e => by have := hr q e.symm; omega)).trans (h.block q hq hd)⟩

section
variable {w w' : World} {b N M : Nat}
theorem SrcW.alloc (h : SrcW w b N) (o : Obj) : SrcW (w.alloc o) b N := h.below ((Below.refl w.heap.size w).alloc (Nat.le_refl _) o) h.lt
theorem SrcW.drew (h : SrcW w b N) : SrcW w.drew b N := h
theorem SrcW.drewN (h : SrcW w b N) (k : Nat) : SrcW (w.drewN k) b N := h
theorem SrcW.setNew (h : SrcW w b N) {p : Addr} (hp : b < p.block) (u : Value) : SrcW (w.setCell p u) b N :=
  h.keep (by rw [World.size_setCell]; exact Nat.le_refl _) fun q hq => Below.heap_setCell _ _ _ _ (by omega)
theorem SrcW.grow (h : SrcW w b N) {row : Option Nat} (g : w.grownBy w' row) (hr : ∀ k, row = some k → b < k) : SrcW w' b N :=
  h.keep g.size fun q hq => g.block q (by have := h.lt; omega) (fun e => by have := hr q e.symm; omega)
end

set_option maxRecDepth 100000 in
theorem among_calls (b N : Nat) (A : Option Addr) (n c : Nat) (l : List Int) (w : World) (lo hi : Nat) (h : SrcW w b N) (hN : N ≤ 900000000) (hs : SlI w lo hi A n l) (hd : hi ≤ b ∨ b + 1 ≤ lo) (hn : 0 < n) (hm : n ≤ 1048576) :
    Calls Try.prog 22 #[.pointer (some ⟨b, 0, none⟩), .slice A n c] w fun e w' => ∃ x : Int, e = .returned (.int .i64 x) ∧ x ∈ l ∧ SrcTo w w' b (N + 2) := by
  have q1 := hide (pick_calls b N (n : Int) w h hN)
  obtain ⟨ba, oa, rfl, g1, g2, g3, -⟩ := hs.at_ hn
  replace hs := hide hs
  clear h
  go_enter Try.func22, Try.ntmps22
  go_wp2_with fail
  refine q1.out.mono ?_
  rintro e w1 ⟨x, rfl, x0, x1, hs1⟩
  obtain ⟨k, rfl⟩ : ∃ k : Nat, x = (k : Int) := ⟨x.toNat, by omega⟩
  have hk : k < n := by omega
  have hl := hs.out.only hs1.only (by omega)
  obtain ⟨b', o', y, e1, -, -, -, hy, c0, -⟩ := SlI.get hl hk
  cases e1
  replace hs1 := hide hs1
  have hmem := hide (List.mem_of_getElem? hy)
  have k0 : (0 : Int) ≤ (k : Int) := by omega
  have k1 : (k : Int) < (n : Int) := by omega
  clear q1 hl hy x0 x1
  go_wp2_with fail
  go_ret
  exact ⟨y, rfl, hmem.out, hs1.out⟩

section
variable {w w4 w5 : World} {base n c : Nat} {A : Option Addr} {R : List (CV × List Int)}
/-- One more vertex; between the list and the append blocks ahead of the call's own may have changed. -/
theorem GrowV.push2 (h : GrowV w base A n c R) (hz4 : w.heap.size ≤ w4.heap.size) (hkp : ∀ q, base ≤ q → q < w.heap.size → w4.heap[q]? = w.heap[q]?) (hbase : base ≤ w.heap.size) {o p : Int} {Ah : Option Addr} {nh ch : Nat} {s : List Int} (hs : SlI w4 w.heap.size w4.heap.size Ah nh s) (hnh : nh ≤ 1048576)
    {A5 : Option Addr} {c5 : Nat} (hown : Own 3 gV w5 base 49 A5 (n + 1) c5 (R.map (·.1) ++ [(o, p, Ah, nh, ch)])) (hgr : w4.grownBy w5 (Value.slice A n c).ownBlock)
    (hat : (Value.slice A5 (n + 1) c5).ownBlock = (Value.slice A n c).ownBlock ∨ (Value.slice A5 (n + 1) c5).ownBlock = some w4.heap.size) :
    GrowV w5 base A5 (n + 1) c5 (R ++ [((o, p, Ah, nh, ch), s)]) := by
  have hz5 := hgr.size
  have keepS : ∀ (B : Option Addr) (m lo hi : Nat) (l : List Int), SlI w4 lo hi B m l → (∀ b off, 0 < m → B = some ⟨b, off, none⟩ → (Value.slice A n c).ownBlock ≠ some b) → SlI w5 lo w5.heap.size B m l := by
    intro B m lo hi l hl hne
    refine ⟨hl.1, fun hm => ?_⟩
    obtain ⟨b, off, rfl, g1, g2, g3, hc⟩ := hl.2 hm
    have hk := hgr.block b g3 (fun e => hne b off hm rfl e.symm)
    refine ⟨b, off, rfl, g1, by omega, by omega, fun k x hx j u hu => ?_⟩
    obtain ⟨h1, h2⟩ := hc k x hx j u hu
    exact ⟨(World.cell?_of_block (w := w4) (by simpa using hk)).trans h1, (World.frozen?_of_block (w := w4) (by simpa using hk)).trans h2⟩
  have hold : ∀ r ∈ R, SlI w4 base w.heap.size (hdV r.1).1 (hdV r.1).2.1 r.2 := fun r hr => (h.rows r hr).1.keep hz4 fun q h1 h2 h3 => hkp q h1 h3
  refine ⟨by rw [List.map_append]; exact hown, fun r hr => ?_, fun r hr hm b off e => ?_⟩
  · rcases List.mem_append.1 hr with hr | hr
    · exact ⟨keepS _ _ _ _ _ (hold r hr) (fun b off hm e => h.off r hr hm b off e), (h.rows r hr).2⟩
    · have := List.mem_singleton.1 hr
      subst this
      refine ⟨(keepS _ _ _ _ _ hs (fun b off hm e => ?_)).more hbase (Nat.le_refl _), hnh⟩
      obtain ⟨b', off', e', g1, -⟩ := hs.at_ hm
      rw [e] at e'
      cases e'
      intro e2
      have := (h.own.lt b e2).2
      omega
  · rcases List.mem_append.1 hr with hr | hr
    · obtain ⟨b', off', e', g1, g2, g3, -⟩ := (hold r hr).at_ hm
      rw [e] at e'
      cases e'
      rcases hat with h1 | h1
      · rw [h1]; exact h.off r hr hm b off e
      · rw [h1]
        intro e2
        injection e2 with e2
        omega
    · have := List.mem_singleton.1 hr
      subst this
      obtain ⟨b', off', e', g1, g2, g3, -⟩ := hs.at_ hm
      have e : Ah = _ := e
      rw [e] at e'
      cases e'
      rcases hat with h1 | h1
      · rw [h1]
        intro e2
        have := (h.own.lt b e2).2
        omega
      · rw [h1]
        intro e2
        injection e2 with e2
        omega
end

/-- A vertex that is being drawn: its cells, and the list of its moves in a block behind them. -/
def VxW (w : World) (v : Nat) (o p : Int) (nh : Nat) (l : List Int) : Prop :=
  ∃ A ch, w.heap[v]? = some (.cells #[.int .i64 o, .int .i64 p, .slice A nh ch] 49 (0, 0)) ∧ SlI w (v + 1) w.heap.size A nh l
theorem VxW.keep {w w' : World} {v nh : Nat} {o p : Int} {l : List Int} (h : VxW w v o p nh l) (hz : w.heap.size ≤ w'.heap.size) (hk : ∀ q, v ≤ q → q < w.heap.size → w'.heap[q]? = w.heap[q]?) : VxW w' v o p nh l := by
  obtain ⟨A, ch, hb, hs⟩ := h
  have hlt : v < w.heap.size := (Array.getElem?_eq_some_iff.1 hb).1
  exact ⟨A, ch, (hk v (Nat.le_refl _) hlt).trans hb, (hs.keep hz fun q h1 _ h3 => hk q (by omega) h3).more (Nat.le_refl _) hz⟩
theorem VxW.src {w w' : World} {v nh b N : Nat} {o p : Int} {l : List Int} (h : VxW w v o p nh l) (g : SrcTo w w' b N) (hb : b < v) : VxW w' v o p nh l :=
  h.keep (by rw [g.size]; exact Nat.le_refl _) fun q h1 h2 => g.only.block q h2 (by omega)
theorem GrowV.keepB {w w' : World} {base n c : Nat} {A : Option Addr} {R : List (CV × List Int)} (h : GrowV w base A n c R) (hz : w.heap.size ≤ w'.heap.size) (hk : ∀ q, base ≤ q → q < w.heap.size → w'.heap[q]? = w.heap[q]?) : GrowV w' base A n c R :=
  ⟨h.own.keep fun g hg => hk g (h.own.lt g hg).1 (h.own.lt g hg).2, fun r hr => ⟨((h.rows r hr).1.keep hz fun q a _ c => hk q a c).more (Nat.le_refl _) hz, (h.rows r hr).2⟩, h.off⟩
theorem GrowV.src {w w' : World} {base n c b N : Nat} {A : Option Addr} {R : List (CV × List Int)} (h : GrowV w base A n c R) (g : SrcTo w w' b N) (hb : b < base) : GrowV w' base A n c R :=
  h.keepB (by rw [g.size]; exact Nat.le_refl _) fun q h1 h2 => g.only.block q h2 (by omega)
theorem Inc.put {m x : Int} {l : List Int} (h : Inc m l) (h0 : 0 ≤ x) (h1 : x < m) : Inc m (putI l x) := by
  refine ⟨fun y hy => ?_, putI_asc h.2⟩
  rcases putI_mem.1 hy with hy | rfl
  · exact h.1 y hy
  · exact ⟨h0, h1⟩

theorem VxW.setP {w : World} {v nh : Nat} {o p : Int} {l : List Int} (h : VxW w v o p nh l) (q : Int) : VxW (w.setCell ⟨v, 1, none⟩ (.int .i64 q)) v o q nh l := by
  obtain ⟨A, ch, hb, hs⟩ := h
  refine ⟨A, ch, heap_setCell_same w v 1 _ _ _ hb, (hs.keep (by rw [World.size_setCell]; exact Nat.le_refl _) fun k h1 _ _ => Below.heap_setCell _ _ _ _ (by show k ≠ v; omega)).more (Nat.le_refl _) (by rw [World.size_setCell]; exact Nat.le_refl _)⟩
theorem VxW.setN {w : World} {v nh nh' c' : Nat} {o p : Int} {l l' : List Int} {A' : Option Addr} (h : VxW w v o p nh l) (hs : SlI w (v + 1) w.heap.size A' nh' l') : VxW (w.setCell ⟨v, 2, none⟩ (.slice A' nh' c')) v o p nh' l' := by
  obtain ⟨A, ch, hb, -⟩ := h
  refine ⟨A', c', heap_setCell_same w v 2 _ _ _ hb, (hs.keep (by rw [World.size_setCell]; exact Nat.le_refl _) fun k h1 _ _ => Below.heap_setCell _ _ _ _ (by show k ≠ v; omega)).more (Nat.le_refl _) (by rw [World.size_setCell]; exact Nat.le_refl _)⟩
theorem VxW.facts {w : World} {v nh : Nat} {o p : Int} {l : List Int} (h : VxW w v o p nh l) : v < w.heap.size ∧ w.frozen? ⟨v, 1, none⟩ = false ∧ w.frozen? ⟨v, 2, none⟩ = false ∧ w.cell? ⟨v, 0, none⟩ = some (.int .i64 o) ∧ w.cell? ⟨v, 1, none⟩ = some (.int .i64 p) := by
  obtain ⟨A, ch, hb, -⟩ := h
  exact ⟨(Array.getElem?_eq_some_iff.1 hb).1, frozen_of_row _ _ 1 _ _ hb, frozen_of_row _ _ 2 _ _ hb, (cell_of_row w v 0 _ _ (0, 0) hb).trans rfl, (cell_of_row w v 1 _ _ (0, 0) hb).trans rfl⟩
theorem VxW.list {w : World} {v nh : Nat} {o p : Int} {l : List Int} (h : VxW w v o p nh l) : ∃ A ch, w.cell? ⟨v, 2, none⟩ = some (.slice A nh ch) ∧ SlI w (v + 1) w.heap.size A nh l := by
  obtain ⟨A, ch, hb, hs⟩ := h
  exact ⟨A, ch, (cell_of_row w v 2 _ _ (0, 0) hb).trans rfl, hs⟩
/-- Numbers written out in the text. -/
theorem Sl.litI (w : World) (t : TypeId) (l : List Int) (cs : Array Value) (h : cs.toList = l.map (Value.int .i64)) : SlI (w.alloc (.cells cs t)) w.heap.size (w.heap.size + 1) (some ⟨w.heap.size, 0, none⟩) l.length l := by
  refine ⟨rfl, fun _ => ⟨w.heap.size, 0, rfl, Nat.le_refl _, by omega, by simp, fun k y hy j u hu => ?_⟩⟩
  have hj : j = 0 := by have := (List.getElem?_eq_some_iff.1 hu).1; simp [iv] at this; exact this
  subst hj
  simp [iv] at hu
  subst hu
  simp only [Nat.mul_one, Nat.add_zero, Nat.zero_add]
  have hg := heap_alloc_new w (.cells cs t)
  refine ⟨(cell_of_row _ _ _ cs t (0, 0) hg).trans ?_, frozen_of_row _ _ _ cs t hg⟩
  rw [← Array.getElem?_toList, h, List.getElem?_map, hy]; rfl

set_option maxRecDepth 100000 in
set_option maxHeartbeats 3200000 in
theorem l23DrawOk_calls (b N : Nat) (w : World) (h : SrcW w b N) (hN : N ≤ 1000000) :
    Calls Try.prog 19 #[.pointer (some ⟨b, 0, none⟩)] w fun e w' => ∃ A n c R, e = .returned (.slice A n c) ∧ GrowV w' w.heap.size A n c R ∧ GameOk (R.map dV) ∧ n ≤ 7 ∧ SrcW w' b (N + 1000) ∧ Only b (b + 1) w w' := by
  have hE := hide elem_vertex
  have hbw := h.lt
  have q1 := hide (pick_calls b N 7 _ (h.alloc (.cells #[] 49)) (by omega))
  have hG0 := hide (GrowV.made w w.heap.size (Nat.le_refl _))
  have hO0 := hide ((Only.refl b (b + 1) w).alloc' (.cells #[] 49))
  clear h
  go_enter Try.func19, Try.ntmps19
  go_wp2_with fail
  refine q1.out.mono ?_
  rintro e w1 ⟨x, rfl, x0, x1, hs1⟩
  obtain ⟨n, hn⟩ : ∃ n : Nat, 1 + x = (n : Int) := ⟨(1 + x).toNat, by omega⟩
  have hn1 : 1 ≤ n ∧ n ≤ 7 := by omega
  have q2 := hide (pick_calls b (N + 2) 5 w1 hs1.src (by omega))
  have hG1 := hide (hG0.out.src hs1 hbw)
  have hO1 := hide (hO0.out.trans' hs1.only)
  clear hs1 q1 hG0 hO0
  go_wp2_with fail
  refine q2.out.mono ?_
  rintro e w2 ⟨y, rfl, y0, y1, hs2⟩
  clear hn x0 x1
  obtain ⟨tp, ht⟩ : ∃ tp : Int, 1 + y = tp := ⟨_, rfl⟩
  have ht1 : 1 ≤ tp ∧ tp ≤ 5 := by omega
  have hG2 := hide (hG1.out.src hs2 hbw)
  have hO2 := hide (hO1.out.trans' hs2.only)
  replace hs2 := hide hs2.src
  clear q2 hG1 hO1
  obtain ⟨hn0, hn7⟩ := hn1
  clear y0 y1
  go_wp2_with fail
  clear ht
  go_loopw [3, 6] (fun v i wr => ∃ (k : Nat) (Ao : Option Addr) (co : Nat) (R : List (CV × List Int)), k ≤ n ∧ i = .int .i64 k ∧ v = .slice Ao k co ∧ Hid (GrowV wr w.heap.size Ao k co R) ∧ Hid (∀ x, x ∈ R.map dV → VxOk n x) ∧ Hid (SrcW wr b (N + 4 + 30 * k)) ∧ Hid (Only b (b + 1) w wr)) (fun _ i _ => n - (intOf i).toNat)
  case atStart => exact ⟨0, _, 0, [], Nat.zero_le _, rfl, rfl, hG2.out, fun _ h => (List.not_mem_nil h).elim, hs2.out, hO2.out⟩
  case round =>
    obtain ⟨k, Ao, co, R, hk, rfl, rfl, hG, hR, hS, hO⟩ := hrel
    clear hG2 hs2 hO2
    by_cases hlt : k < n
    · have k1 : (k : Int) < (n : Int) := by omega
      have q3 := hide (pick_calls b (N + 4 + 30 * k) 2 wr hS.out (by omega))
      go_wp2_with fail
      refine q3.out.mono ?_
      rintro e w3 ⟨o, rfl, o0, o1, hs3⟩
      have q4 := hide (pick_calls b _ tp w3 hs3.src (by omega))
      replace hs3 := hide hs3
      clear q3
      go_wp2_with fail
      refine q4.out.mono ?_
      rintro e w4 ⟨p, rfl, p0, p1, hs4⟩
      replace hs4 := hide (hs3.out.trans hs4)
      clear q4 hs3
      have hlb := hO.out.size
      have hzw4 := hs4.out.size
      obtain ⟨vb, hvb⟩ : ∃ vb, vb = w4.heap.size + 1 := ⟨_, rfl⟩
      have hV0 : Hid (VxW ((w4.alloc (.cells #[] 2)).alloc (.cells #[.int .i64 o, .int .i64 p, .slice (some ⟨w4.heap.size, 0, none⟩) 0 0] 49)) vb o p 0 []) := by
        refine ⟨some ⟨w4.heap.size, 0, none⟩, 0, ?_, Sl.nil_⟩
        have := heap_alloc_new (w4.alloc (.cells #[] 2)) (.cells #[.int .i64 o, .int .i64 p, .slice (some ⟨w4.heap.size, 0, none⟩) 0 0] 49)
        rw [World.size_alloc] at this
        rw [hvb]; exact this
      have hS0 : Hid (SrcW ((w4.alloc (.cells #[] 2)).alloc (.cells #[.int .i64 o, .int .i64 p, .slice (some ⟨w4.heap.size, 0, none⟩) 0 0] 49)) b (N + 4 + 30 * k + 4)) := (hs4.out.src.alloc _).alloc _
      have hP0 : Hid (Only b (b + 1) wr ((w4.alloc (.cells #[] 2)).alloc (.cells #[.int .i64 o, .int .i64 p, .slice (some ⟨w4.heap.size, 0, none⟩) 0 0] 49))) := (hs4.out.only.alloc' _).alloc' _
      have hrb : wr.heap.size < vb := by omega
      obtain ⟨NN, hNN⟩ : ∃ NN, N + 4 + 30 * k = NN := ⟨_, rfl⟩
      have hNN1 : NN ≤ 2000000 := by omega
      rw [hNN] at hS0
      have hp9 : 0 ≤ p ∧ p ≤ 9 := by omega
      have ho9 : 0 ≤ o ∧ o ≤ 1 := by omega
      clear hs4 hzw4 p0 p1 o0 o1
      go_upto_region 8 with fail
      rw [← hvb]
      clear hvb
      generalize World.alloc (World.alloc w4 _) _ = W0 at *
      have q5 := hide (one_calls b _ 12 W0 hS0.out (by omega))
      go_upto_if 29 with (first | (go_at_call 21; (with_reducible refine q5.out.mono ?_); rintro e w5 ⟨yes, rfl, hs5⟩; replace hs5 := hide hs5))
      go_cut [] (fun wx => ∃ p2 : Int, Hid (0 ≤ p2 ∧ p2 ≤ 9) ∧ Hid (VxW wx vb o p2 0 []) ∧ Hid (SrcW wx b (NN + 8)) ∧ Hid (Only b (b + 1) wr wx))
      case first =>
        have hV5 := hide (hV0.out.src hs5.out (by omega))
        have hP5 := hide (hP0.out.trans' hs5.out.only)
        cases yes with
        | false =>
          go_wp2_with fail
          go_meet
          exact ⟨p, hp9, hV5.out, hs5.out.src.more (by omega), hP5.out⟩
        | true =>
          have q6 := hide (pick_calls b _ 10 w5 hs5.out.src (by omega))
          go_wp2_with fail
          refine q6.out.mono ?_
          rintro e w6 ⟨p2, rfl, p20, p21, hs6⟩
          have hV6 := hide (hV5.out.src hs6 (by omega))
          have hP6 := hide (hP5.out.trans' hs6.only)
          obtain ⟨hv6, f1, f2, c0, c1⟩ := hV6.out.facts
          replace hs6 := hide hs6
          go_wp2_with fail
          go_meet
          exact ⟨p2, by show _ ∧ _; omega, hV6.out.setP p2, (hs6.out.src.setNew (by show b < vb; omega) _).more (by omega), hP6.out.setNew (by show _ ≤ vb; omega) _⟩
      case rest =>
        obtain ⟨p2, hp2, hV, hS1, hP⟩ := hcut
        clear hV0 hS0 hP0 q5 hp9
        obtain ⟨hvc, -⟩ := hV.out.facts
        have hlist := hide (Sl.litI wc 2 [0, 1, 1, 2, 2, 3] #[.int .i64 0, .int .i64 1, .int .i64 1, .int .i64 2, .int .i64 2, .int .i64 3] rfl)
        have q7 := hide (among_calls b (NN + 8) (some ⟨wc.heap.size, 0, none⟩) 6 6 [0, 1, 1, 2, 2, 3] _ _ _ (hS1.out.alloc (.cells #[.int .i64 0, .int .i64 1, .int .i64 1, .int .i64 2, .int .i64 2, .int .i64 3] 2)) (by omega) hlist.out (.inr (by have := hS1.out.lt; omega)) (by omega) (by omega))
        have hV7 := hide (hV.out.keep (w' := wc.alloc (.cells #[.int .i64 0, .int .i64 1, .int .i64 1, .int .i64 2, .int .i64 2, .int .i64 3] 2)) (by rw [World.size_alloc]; omega) fun q _ h2 => Below.heap_alloc _ _ _ h2)
        have hP7 := hide (hP.out.alloc' (.cells #[.int .i64 0, .int .i64 1, .int .i64 1, .int .i64 2, .int .i64 2, .int .i64 3] 2))
        clear hlist hV hS1 hP
        go_wp2_with fail
        refine q7.out.mono ?_
        rintro e w7 ⟨cnt, rfl, hcnt, hs7⟩
        obtain ⟨ct, rfl, hct⟩ : ∃ ct : Nat, cnt = (ct : Int) ∧ ct ≤ 3 := by
          simp only [List.mem_cons, List.not_mem_nil, or_false] at hcnt
          exact ⟨cnt.toNat, by omega, by omega⟩
        clear hcnt q7
        have hV8 := hide (hV7.out.src hs7 (by omega))
        have hP8 := hide (hP7.out.trans' hs7.only)
        replace hs7 := hide hs7.src
        clear hV7 hP7
        go_wp2_with fail
        obtain ⟨wO, rfl⟩ : ∃ wO : World, wO = wr := ⟨_, rfl⟩
        go_loopw [8] (fun v wz => ∃ (ev nh : Nat) (l : List Int), v = .int .i64 ev ∧ nh + ev ≤ 3 ∧ Hid (VxW wz vb o p2 nh l) ∧ Hid (Inc n l) ∧ Hid (SrcW wz b (NN + 16 - 2 * ev)) ∧ Hid (Only b (b + 1) wO wz)) (fun v _ => (intOf v).toNat)
        case atStart => exact ⟨ct, 0, [], rfl, by omega, hV8.out, ⟨fun _ h => (List.not_mem_nil h).elim, List.Pairwise.nil⟩, hs7.out.more (by omega), hP8.out⟩
        case round =>
          clear hV8 hs7 hP8
          obtain ⟨ev, nh, l, rfl, hev, hV, hI, hS2, hP⟩ := hrel
          by_cases hpos : 0 < ev
          · have p1 : (0 : Int) < (ev : Int) := by omega
            obtain ⟨A2, c2, k2, hl⟩ := hV.out.list
            obtain ⟨hvz, -⟩ := hV.out.facts
            replace hl := hide hl
            have q8 := hide (pick_calls b _ (n : Int) wr.drew hS2.out.drew (by omega))
            go_upto_region 13 with fail
            refine lateT_begin (S := fun w' => w'.cell? ⟨vb, 2, none⟩ = some (.slice A2 nh c2)) (st := 7) (by kernel_rfl) ?_
            have hS0 : (fun w' : World => w'.cell? ⟨vb, 2, none⟩ = some (.slice A2 nh c2)) wr.drew := k2
            refine lateT_take (i := 0) (oi := _) (v := ?_) [7] rfl (by kernel_rfl) (by kernel_rfl) (by kernel_rfl) (by kernel_rfl) (fun _ _ _ h => h) (Or.inl ⟨by rfl, ?hy⟩) hS0 ?_
            case hy => (intro w hSw; (try dsimp only at hSw); go_simp <;> with_reducible rfl)
            (try simp only [Act.put, List.setIfInBounds_toArray, List.set_cons_zero, List.set_cons_succ])
            refine lateT_take (i := 1) (oi := _) (v := ?_) [7] rfl (by kernel_rfl) (by kernel_rfl) (by kernel_rfl) (by kernel_rfl) (fun _ _ _ h => h) (Or.inl ⟨by rfl, ?hy⟩) hS0 ?_
            case hy => (intro w hSw; (try dsimp only at hSw); go_simp <;> with_reducible rfl)
            (try simp only [Act.put, List.setIfInBounds_toArray, List.set_cons_zero, List.set_cons_succ])
            refine lateT_take (i := 2) (oi := _) (v := ?_) [7] rfl (by kernel_rfl) (by kernel_rfl) (by kernel_rfl) (by kernel_rfl) (fun _ _ _ h => h) (Or.inl ⟨by rfl, ?hy⟩) hS0 ?_
            case hy => (intro w hSw; (try dsimp only at hSw); go_simp <;> with_reducible rfl)
            (try simp only [Act.put, List.setIfInBounds_toArray, List.set_cons_zero, List.set_cons_succ])
            refine lateT_take (i := 3) (oi := _) (v := ?_) [7] rfl (by kernel_rfl) (by kernel_rfl) (by kernel_rfl) (by kernel_rfl) (fun _ _ _ h => h) (Or.inl ⟨by rfl, ?hy⟩) hS0 ?_
            case hy => (intro w hSw; (try dsimp only at hSw); go_simp <;> with_reducible rfl)
            (try simp only [Act.put, List.setIfInBounds_toArray, List.set_cons_zero, List.set_cons_succ])
            refine lateT_step (i := 4) (by kernel_rfl) rfl (fun K hK => ?_)
            go_simp
            go_at_call 45
            refine q8.out.mono ?_
            rintro e w8 ⟨x8, rfl, x80, x81, hs8⟩
            have hV9 := hide (hV.out.src (w := wr.drew) hs8 (by omega))
            have hP9 := hide ((hP.out.drew').trans' hs8.only)
            have k29 : w8.cell? ⟨vb, 2, none⟩ = some (.slice A2 nh c2) := by
              have := hs8.only.block vb hvz (by omega)
              exact (World.cell?_of_block (w := wr.drew) (by simpa using this)).trans k2
            have hl9 := hide (hl.out.drew.only hs8.only (.inr (by omega)))
            have q9 := hide (l00Put_calls A2 nh c2 l x8 w8 _ _ hl9.out hI.out.2 (by omega))
            replace hs8 := hide hs8.src
            go_wp2_with fail
            refine hK.out _ _ (fun _ => k29) ?_
            clear hK K
            (try simp only [Act.put, List.setIfInBounds_toArray, List.set_cons_zero, List.set_cons_succ])
            refine lateT_step (i := 5) (by kernel_rfl) rfl (fun K hK => ?_)
            go_simp
            go_at_call 46
            refine q9.out.mono ?_
            rintro e w9 ⟨A3, n3, c3, rfl, hown9, hn3, hb9⟩
            have hvz9 : vb < w8.heap.size := hV9.out.facts.1
            have k30 : w9.cell? ⟨vb, 2, none⟩ = some (.slice A2 nh c2) := (hb9.cell (p := ⟨vb, 2, none⟩) hvz9).trans k29
            have hV10 := hide (hV9.out.keep hb9.size fun q _ h2 => hb9.block q h2)
            have hP10 := hide (hP9.out.belowAt hb9 (by omega))
            have hs10 := hide (hs8.out.below hb9 (by omega))
            have hVN := hide (hV10.out.setN (c' := c3) ((hown9.sl flat_iv).more (by omega) (Nat.le_refl _)))
            obtain ⟨hv10, -, f2, -⟩ := hV10.out.facts
            have hI9 := hide (Inc.put (x := x8) hI.out x80 (by omega))
            have hsN := hide (hs10.out.setNew (p := ⟨vb, 2, none⟩) (by show b < vb; omega) (.slice A3 n3 c3))
            have hPN := hide (hP10.out.setNew (p := ⟨vb, 2, none⟩) (by show _ ≤ vb; omega) (.slice A3 n3 c3))
            clear hown9 hb9
            go_wp2_with fail
            refine hK.out _ _ (fun _ => k30) ?_
            clear hK K
            (try simp only [Act.put, List.setIfInBounds_toArray, List.set_cons_zero, List.set_cons_succ])
            refine lateT_step (i := 6) (by kernel_rfl) rfl (fun K hK => ?_)
            go_simp
            refine hK.out _ _ (fun _ => k30) ?_
            clear hK K
            (try simp only [Act.put, List.setIfInBounds_toArray, List.set_cons_zero, List.set_cons_succ])
            refine lateT_step (i := 7) (by kernel_rfl) rfl (fun K hK => ?_)
            go_simp
            refine hK.out _ _ (fun h => absurd rfl h) ?_
            clear hK K
            (try simp only [Act.put, List.setIfInBounds_toArray, List.set_cons_zero, List.set_cons_succ])
            refine lateT_done (by kernel_rfl) ?_ _
            obtain ⟨ev', rfl⟩ : ∃ ev', ev = ev' + 1 := ⟨ev - 1, by omega⟩
            go_wp2_with fail
            go_roundw
            case rel => exact ⟨ev', n3, _, by go_num, by omega, hVN.out, hI9.out, hsN.out.more (by omega), hPN.out⟩
            case measure => simp [intOf]
          · have ev0 : ev = 0 := by omega
            subst ev0
            obtain ⟨A2, c2, k2, hl⟩ := hV.out.list
            obtain ⟨hvz, -, -, k0, k1'⟩ := hV.out.facts
            have hzO := hP.out.size
            have hown := hide (hG.out.own.keep (w' := wr) fun q hq => hP.out.block q (hG.out.own.lt q hq).2 (by have := (hG.out.own.lt q hq).1; omega))
            replace hl := hide hl
            have hza : w.heap.size ≤ (wr.alloc (.cells #[.int .i64 o, .int .i64 p2, .slice A2 nh c2] 49)).heap.size := by rw [World.size_alloc]; omega
            go_wp2_with (first | (at_builtin; (with_reducible refine wpList_app rfl (.tmp 47) (.tmp 49) rfl hE.out flat_gV rfl (hown.out.alloc _) rfl (Sl.lit1' wr 49 (o, p2, A2, nh, c2) _ rfl 3 _ ?d0) ?d1 hza ?_); rotate_right; intro A6 c6 w6 hown6 hgr6 hb6 hat6))
            case d0 => rfl
            case d1 => omega
            have hz6 := hgr6.size
            rw [World.size_alloc] at hz6
            have hrow : ∀ q, (Value.slice Ao k co).ownBlock = some q → w.heap.size ≤ q ∧ q < wO.heap.size := fun q hq => hG.out.own.lt q hq
            have hlA : SlI (wr.alloc (.cells #[.int .i64 o, .int .i64 p2, .slice A2 nh c2] 49)) wO.heap.size (wr.alloc (.cells #[.int .i64 o, .int .i64 p2, .slice A2 nh c2] 49)).heap.size A2 nh l :=
              (hl.out.keep (by rw [World.size_alloc]; omega) fun q _ _ h3 => Below.heap_alloc _ _ _ h3).more (by omega) (by rw [World.size_alloc]; omega)
            have hPa := hP.out.alloc' (.cells #[.int .i64 o, .int .i64 p2, .slice A2 nh c2] 49)
            have hG6 := hide (hG.out.push2 hPa.size (fun q h1 h2 => hPa.block q h2 (by omega)) hlb (o := o) (p := p2) hlA (by omega) hown6 hgr6 hat6)
            have hO6 : Hid (Only b (b + 1) w w6) := (hO.out.trans' hPa).grow hgr6 fun q hq => (hrow q hq).1
            have hS6 := hide ((hS2.out.alloc (.cells #[.int .i64 o, .int .i64 p2, .slice A2 nh c2] 49)).grow hgr6 fun q hq => by have := (hrow q hq).1; omega)
            have hR6 : Hid (∀ x, x ∈ (R ++ [((o, p2, A2, nh, c2), l)]).map dV → VxOk n x) := fun x hx => by
              rw [List.map_append] at hx
              rcases List.mem_append.1 hx with hx | hx
              · exact hR.out x hx
              · rw [List.mem_singleton.1 hx]
                exact ⟨ho9, hp2.out, hI.out⟩
            clear hgr6 hat6 hown6 hb6 hlA hPa
            go_wp2_with fail
            go_roundw
            case rel => exact ⟨k + 1, A6, c6, _, by omega, by go_num, rfl, hG6.out, hR6.out, hS6.out.more (by omega), hO6.out⟩
            case measure => simp [intOf]; omega
    · obtain rfl : k = n := by omega
      go_wp2_with fail
      go_ret
      refine ⟨Ao, k, co, R, rfl, hG.out, ⟨?_, fun x hx => ?_⟩, hn7, hS.out.more (by omega), hO.out⟩
      · have h1 := hG.out.own.len
        rw [List.length_map] at h1 ⊢
        omega
      · have h1 := hG.out.own.len
        rw [List.length_map] at h1
        rw [List.length_map, h1]
        exact hR.out x hx

end Go.Proofs.Ythmhlbkkhaplkaa

namespace Go.Proofs.Ythmhlbkkhaplkaa
open Go.ChangeShapes Go.WideShapes Go.ChangeAt Go.RowKit
set_option linter.unusedVariables false

set_option maxHeartbeats 3200000 in
set_option maxRecDepth 100000 in
theorem l23Own_calls (A : Option Addr) (n c : Nat) (g : DV) (w : World) (h : GameAt w A n g) (ok : GameOk g) :
    Calls Try.prog 48 #[.slice A n c] w fun e w' => ∃ b c', e = .returned (.slice (some ⟨b, 0, none⟩) n c') ∧ GameW w' b 0 n g ∧ w.heap.size ≤ b ∧ Below w.heap.size w w' := by
  have hgl := h.len
  have hn : 0 < n ∧ n ≤ 120 := by have := ok.1; omega
  obtain ⟨hn0, hn1⟩ := hn
  obtain ⟨b, off, rfl, hbl⟩ := h.addr hn0
  replace h := hide h
  have hE := hide elem_vertex
  replace hgl := hide hgl
  replace ok := hide ok
  go_enter Try.func48, Try.ntmps48
  go_wp2_with fail
  go_loopw [3, 4] (fun v i wr => ∃ (k : Nat) (Ao : Option Addr) (co : Nat) (R : List (CV × List Int)), k ≤ n ∧ i = .int .i64 k ∧ v = .slice Ao k co ∧ GrowV wr w.heap.size Ao k co R ∧ R.map dV = g.take k ∧ Below w.heap.size w wr) (fun _ i _ => n - (intOf i).toNat)
  case atStart => exact ⟨0, _, 0, [], Nat.zero_le _, rfl, rfl, GrowV.made _ _ (Nat.le_refl _), rfl, (Below.refl _ _).alloc (Nat.le_refl _) _⟩
  case round =>
    obtain ⟨k, Ao, co, R, hk, rfl, rfl, hG, hR, hb⟩ := hrel
    by_cases hlt : k < n
    · have hr := h.out.below hb (Nat.le_refl _)
      have hz := hb.size
      obtain ⟨o, p, l, Ah, nh, ch, hx, c0, c1', c2', hs, hnh, -⟩ := hr.cell ok.out hlt
      have hk1 : (0 : Int) ≤ (k : Int) := by omega
      have hk2 : (k : Int) < (n : Int) := by omega
      have hbx : Below wr.heap.size wr wr.drew := (Below.refl _ _).drew
      have hq := hide (l00Own_calls Ah nh ch l _ _ _ (hs.below hbx (.inr (Nat.le_refl _))) hnh)
      have hsz : (k + 1) * 40 ≤ 140737488355328 := by omega
      have n0 : some b ≠ (Value.slice Ao k co).ownBlock := fun e2 => by have := (hG.own.lt b e2.symm).1; omega
      have hlt1 : b < wr.heap.size := by omega
      replace hG := hide hG
      replace hR := hide hR
      replace hb := hide hb
      replace hbx := hide hbx
      replace hx := hide hx
      clear hr hs h
      go_wp2
      go_region_held3 (fun w' => w'.cell? ⟨b, off + k * 3, none⟩ = some (.int .i64 o) ∧ w'.cell? ⟨b, off + k * 3 + 1, none⟩ = some (.int .i64 p) ∧ w'.cell? ⟨b, off + k * 3 + 2, none⟩ = some (.slice Ah nh ch)) (first | exact ⟨k4, k5, k6⟩ | exact ⟨k0, k1, k2⟩ | go_keep)
        (first
          | (go_at_call 49; (refine hq.out.mono ?_); rintro e w2 ⟨A2, c2, rfl, hs2, hb2⟩; change Below wr.heap.size _ _ at hb2; have k0 := (hb2.cell (p := ⟨b, off + k * 3, none⟩) hlt1).trans c0; have k1 := (hb2.cell (p := ⟨b, off + k * 3 + 1, none⟩) hlt1).trans c1'; have k2 := (hb2.cell (p := ⟨b, off + k * 3 + 2, none⟩) hlt1).trans c2'; have hz2 : wr.heap.size ≤ w2.heap.size := hb2.size; have hb3 := hide (hbx.out.trans (hb2.mono (Nat.le_refl _))); replace hs2 := hide hs2; clear hb2; have hza3 := Nat.le_trans hz hb3.out.size; have hown3 := hide (hG.out.own.below hb3.out (Nat.le_refl _)))
          | (refine step_app (d := 1) (by rfl) (.tmp 12) (.tmp 30) (by rfl) hE.out flat_gV (by go_simp) (hown3.out.alloc _) (by go_simp) (Sl.lit1' w2 49 (o, p, A2, nh, c2) _ rfl 3 w2.heap.size rfl) hsz (le_alloc hza3) ?_; intro A5 c5 w5 hown5 hgr5 hb5 hat5; have k4 := grown_cell hgr5 (alloc_lt (Nat.lt_of_lt_of_le hlt1 hz2)) n0 (alloc_cell (Nat.lt_of_lt_of_le hlt1 hz2) k0); have k5 := grown_cell hgr5 (alloc_lt (Nat.lt_of_lt_of_le hlt1 hz2)) n0 (alloc_cell (Nat.lt_of_lt_of_le hlt1 hz2) k1); have k6 := grown_cell hgr5 (alloc_lt (Nat.lt_of_lt_of_le hlt1 hz2)) n0 (alloc_cell (Nat.lt_of_lt_of_le hlt1 hz2) k2); replace hown5 := hide hown5; replace hgr5 := hide hgr5; replace hb5 := hide hb5; replace hat5 := hide hat5))
      have hs4 : SlI (w2.alloc (.cells #[.int .i64 o, .int .i64 p, .slice A2 nh c2] 49)) wr.heap.size (w2.alloc (.cells #[.int .i64 o, .int .i64 p, .slice A2 nh c2] 49)).heap.size A2 nh l :=
        (Sl.below hs2.out ((Below.refl w2.heap.size w2).alloc (Nat.le_refl _) _) (.inr (Nat.le_refl _))).more (by simp) (by simp)
      have hG5 := hide (hG.out.push (hb3.out.alloc hb3.out.size _) hz hs4 hnh hown5.out hgr5.out hat5.out)
      have hR5 : Hid ((R ++ [((o, p, A2, nh, c2), l)]).map dV = g.take (k + 1)) := by
        show _ = _
        rw [List.map_append, hR.out, List.take_add_one, hx.out]
        rfl
      have hb6 := hide ((hb.out.trans (hb3.out.mono hz)).trans (((Below.refl w.heap.size w2).alloc hza3 _).trans hb5.out))
      clear k0 k1 k2 k4 k5 k6 c0 c1' c2' hs4
      go_wp2
      go_roundw
      case rel => exact ⟨k + 1, A5, c5, _, by omega, by go_num, rfl, hG5.out, hR5.out, hb6.out⟩
      case measure => simp [intOf]; omega
    · have hkn : k = n := by omega
      subst hkn
      clear h
      obtain ⟨b9, rfl, hb9, hW⟩ := hG.atW hn0
      rw [hR, List.take_of_length_le (by rw [← hgl.out]; exact Nat.le_refl _)] at hW
      replace hW := hide hW
      clear hG hR
      go_wp2
      go_ret
      exact ⟨b9, _, rfl, hW.out, hb9, hb⟩

end Go.Proofs.Ythmhlbkkhaplkaa

namespace Go.Proofs.Ythmhlbkkhaplkaa
open Go.ChangeShapes Go.WideShapes Go.ChangeAt Go.RowKit
set_option linter.unusedVariables false

/-- A game lies at b, its lists in other blocks; none of it is the row. -/
def GameR (w : World) (b off n : Nat) (g : DV) (row : Option Nat) : Prop :=
  some b ≠ row ∧ ∃ R, RowsV 1048576 w 0 w.heap.size (some ⟨b, off, none⟩) n R ∧ R.map dV = g ∧ ∀ r ∈ R, 0 < (hdV r.1).2.1 → ∀ b' o', (hdV r.1).1 = some ⟨b', o', none⟩ → b' ≠ b ∧ some b' ≠ row
section
variable {w w' : World} {b off n k : Nat} {g : DV} {row row' : Option Nat}
theorem GameR.gw (h : GameR w b off n g row) : GameW w b off n g := by
  obtain ⟨_, R, h1, h2, h3⟩ := h
  exact ⟨R, h1, h2, fun r hr h0 b' o' e => (h3 r hr h0 b' o' e).1⟩
theorem GameR.below {B : Nat} (h : GameR w b off n g row) (hb : Below B w w') (hB : w.heap.size ≤ B) : GameR w' b off n g row := by
  obtain ⟨h0, R, h1, h2, h3⟩ := h
  exact ⟨h0, R, (h1.below hb (.inl hB)).more (Nat.le_refl _) hb.size, h2, h3⟩
/-- The row is new. -/
theorem GameW.withRow (h : GameW w b off n g) (hn : 0 < n) (hr : ∀ q, row = some q → w.heap.size ≤ q) : GameR w b off n g row := by
  obtain ⟨R, h1, h2, h3⟩ := h
  refine ⟨fun e => ?_, R, h1, h2, fun r hr' h0 b' o' e => ⟨h3 r hr' h0 b' o' e, fun e2 => ?_⟩⟩
  · have := hr b e.symm
    obtain ⟨b9, o9, e9, -, -, g3, -⟩ := h1.outer.at_ hn
    cases e9
    omega
  · have := hr b' e2.symm
    obtain ⟨b9, o9, e9, -, -, g3, -⟩ := (h1.rows r hr').1.at_ h0
    rw [e] at e9
    cases e9
    omega
/-- The row is written or grows. -/
theorem GameR.turn (h : GameR w b off n g row) (hs : w.heap.size ≤ w'.heap.size) (hk : ∀ q, q < w.heap.size → some q ≠ row → w'.heap[q]? = w.heap[q]?) (hr : row' = row ∨ ∀ q, row' = some q → w.heap.size ≤ q) (hn : 0 < n) : GameR w' b off n g row' := by
  obtain ⟨hbr, R, h1, h2, h3⟩ := h
  have keepS : ∀ {α : Type} (sz : Nat) (f : α → List Value) (B : Option Addr) (m : Nat) (s : List α), Sl sz f w 0 w.heap.size B m s → (0 < m → ∀ b' o', B = some ⟨b', o', none⟩ → some b' ≠ row) → Sl sz f w' 0 w'.heap.size B m s := by
    intro α sz f B m s hl hne
    refine ⟨hl.1, fun hm => ?_⟩
    obtain ⟨b2, o2, rfl, q1, q2, q3, q4⟩ := hl.2 hm
    have hk2 := hk b2 q3 (hne hm b2 o2 rfl)
    refine ⟨b2, o2, rfl, q1, by omega, by omega, fun i z hz j u hu => ?_⟩
    obtain ⟨r1, r2⟩ := q4 i z hz j u hu
    exact ⟨(World.cell?_of_block (w := w) (by simpa using hk2)).trans r1, (World.frozen?_of_block (w := w) (by simpa using hk2)).trans r2⟩
  have hlt : b < w.heap.size := by
    obtain ⟨b9, o9, e9, -, -, g3, -⟩ := h1.outer.at_ hn
    cases e9
    exact g3
  refine ⟨fun e => ?_, R, ⟨keepS _ _ _ _ _ h1.outer (fun _ b' o' e => by cases e; exact hbr), fun r hr' => ⟨keepS _ _ _ _ _ (h1.rows r hr').1 (fun h0 b' o' e => (h3 r hr' h0 b' o' e).2), (h1.rows r hr').2⟩⟩, h2, fun r hr' h0 b' o' e => ⟨(h3 r hr' h0 b' o' e).1, fun e2 => ?_⟩⟩
  · rcases hr with rfl | hr
    · exact hbr e
    · have := hr b e.symm; omega
  · rcases hr with rfl | hr
    · exact (h3 r hr' h0 b' o' e).2 e2
    · have := hr b' e2.symm
      obtain ⟨b9, o9, e9, -, -, g3, -⟩ := (h1.rows r hr').1.at_ h0
      rw [e] at e9
      cases e9
      omega
theorem GameR.put (h : GameR w b off n g row) (hk : k < n) {A2 : Option Addr} {nh c2 : Nat} {l : List Int} (hs : SlI w 0 w.heap.size A2 nh l) (hnh : nh ≤ 1048576) (hne : 0 < nh → ∀ b' o', A2 = some ⟨b', o', none⟩ → b' ≠ b ∧ some b' ≠ row) :
    GameR (w.setCell ⟨b, off + k * 3 + 2, none⟩ (.slice A2 nh c2)) b off n (putN g k l) row := by
  obtain ⟨hbr, R, h1, rfl, h3⟩ := h
  obtain ⟨b', off', ⟨x, y, hd0⟩, s0, e, g1, g2, g3, hr, hc0, -, -⟩ := h1.get hk
  cases e
  have hkl : k < R.length := (List.getElem?_eq_some_iff.1 hr).1
  have keepS : ∀ (B : Option Addr) (m : Nat) (s : List Int), SlI w 0 w.heap.size B m s → (0 < m → ∀ b' o', B = some ⟨b', o', none⟩ → b' ≠ b) → SlI (w.setCell ⟨b, off + k * 3 + 2, none⟩ (.slice A2 nh c2)) 0 (w.setCell ⟨b, off + k * 3 + 2, none⟩ (.slice A2 nh c2)).heap.size B m s := by
    intro B m s hl hn
    refine ⟨hl.1, fun hm => ?_⟩
    obtain ⟨b2, o2, rfl, q1, q2, q3, q4⟩ := hl.2 hm
    have hk2 : (w.setCell ⟨b, off + k * 3 + 2, none⟩ (.slice A2 nh c2)).heap[b2]? = w.heap[b2]? := Below.heap_setCell _ _ _ _ (hn hm b2 o2 rfl)
    refine ⟨b2, o2, rfl, q1, by rw [World.size_setCell]; exact q2, by rw [World.size_setCell]; exact q3, fun i z hz j u hu => ?_⟩
    obtain ⟨r1, r2⟩ := q4 i z hz j u hu
    exact ⟨(World.cell?_of_block (w := w) (by simpa using hk2)).trans r1, (World.frozen?_of_block (w := w) (by simpa using hk2)).trans r2⟩
  refine ⟨hbr, R.set k ((x, y, A2, nh, c2), l), ⟨⟨by rw [List.length_map, List.length_set, h1.len], fun hn0 => ?_⟩, fun r hr' => ?_⟩, ?_, fun r hr' => ?_⟩
  · obtain ⟨b3, o3, e3, p1, p2, p3, p4⟩ := h1.outer.2 hn0
    cases e3
    refine ⟨b, off, rfl, p1, by rw [World.size_setCell]; exact p2, by rw [World.size_setCell]; exact p3, fun i z hz j u hu => ?_⟩
    have hj : j < 3 := by have := (List.getElem?_eq_some_iff.1 hu).1; simpa [gV] using this
    rw [World.frozen?_setCell]
    rw [List.map_set] at hz
    by_cases hik : k = i
    · subst hik
      rw [List.getElem?_set_self (by rw [List.length_map]; exact hkl)] at hz
      cases hz
      have hold := p4 k (x, y, hd0) (by rw [List.getElem?_map, hr]; rfl)
      match j, hj with
      | 0, _ => exact ⟨(World.cell?_setCell_other _ _ _ _ (by intro e; injection e with _ e _; omega)).trans ((hold 0 _ rfl).1.trans hu), (hold 0 _ rfl).2⟩
      | 1, _ => exact ⟨(World.cell?_setCell_other _ _ _ _ (by intro e; injection e with _ e _; omega)).trans ((hold 1 _ rfl).1.trans hu), (hold 1 _ rfl).2⟩
      | 2, _ =>
        have h2 := hold 2 _ rfl
        refine ⟨?_, h2.2⟩
        have h4 := World.cell?_setCell_same w ⟨b, off + (k * 3 + 2), none⟩ (.slice A2 nh c2) h2.1
        simp [gV] at hu
        subst hu
        exact h4
    · rw [List.getElem?_set_ne hik] at hz
      obtain ⟨q1, q2⟩ := p4 i z hz j u hu
      exact ⟨(World.cell?_setCell_other _ _ _ _ (by intro e; injection e with _ e _; omega)).trans q1, q2⟩
  · rcases List.mem_or_eq_of_mem_set hr' with hr' | hr'
    · exact ⟨keepS _ _ _ (h1.rows r hr').1 (fun h0 b' o' e => (h3 r hr' h0 b' o' e).1), (h1.rows r hr').2⟩
    · subst hr'
      exact ⟨keepS _ _ _ hs (fun h0 b' o' e => (hne h0 b' o' e).1), hnh⟩
  · have hx : (R.map dV)[k]? = some (x, y, s0) := by rw [List.getElem?_map, hr]; rfl
    rw [List.map_set]
    unfold putN
    rw [gOwn_at hx, gPri_at hx]
    rfl
  · rcases List.mem_or_eq_of_mem_set hr' with hr' | hr'
    · exact h3 r hr'
    · subst hr'
      exact hne
end
theorem Own.only {α : Type} {size : Nat} {f : α → List Value} {w w' : World} {base n c lo hi : Nat} {e : TypeId} {A : Option Addr} {l : List α} (h : Own size f w base e A n c l) (o : Only lo hi w w') (hb : hi ≤ base) : Own size f w' base e A n c l :=
  h.keep fun g hg => o.block g (h.lt g hg).2 (.inr (by have := (h.lt g hg).1; omega))
theorem Below.only {B lo hi : Nat} {w w' : World} (h : Below B w w') (hB : w.heap.size ≤ B) : Only lo hi w w' := ⟨h.os, h.tape, h.output, h.size, fun k hk _ => h.block k (by omega)⟩

end Go.Proofs.Ythmhlbkkhaplkaa

namespace Go.Proofs.Ythmhlbkkhaplkaa
open Go.ChangeShapes Go.WideShapes Go.ChangeAt Go.RowKit
set_option linter.unusedVariables false

/-- Where the search for a choice stands. -/
def InnerK (w : World) (b n : Nat) (L : DV) (k : Nat) (l : List Int) (row : Option Nat) (i : Nat) (ch : Int) : Prop :=
  (ch = -1 ∧ (l.take i).find? (keeps (winnersF L) L k) = none ∧ ∃ X, GameR w b 0 n (putN L k X) row) ∨ (0 ≤ ch ∧ pickF L k = some ch ∧ GameR w b 0 n (putN L k [ch]) row)
theorem InnerK.game {w : World} {b n : Nat} {L : DV} {k : Nat} {l : List Int} {row : Option Nat} {i : Nat} {ch : Int} (h : InnerK w b n L k l row i ch) : ∃ X, GameR w b 0 n (putN L k X) row := by
  rcases h with ⟨_, _, h⟩ | ⟨_, _, h⟩
  · exact h
  · exact ⟨_, h⟩
theorem GameR.cellN {w : World} {b n k : Nat} {g : DV} {row : Option Nat} (h : GameR w b 0 n g row) (hk : k < n) : (∃ Ah nh ch, w.cell? ⟨b, k * 3 + 2, none⟩ = some (.slice Ah nh ch)) ∧ w.frozen? ⟨b, k * 3 + 2, none⟩ = false ∧ b < w.heap.size := by
  obtain ⟨R, h1, _, _⟩ := h.gw
  obtain ⟨b', off', x, s, e, g1, g2, g3, hr, hc, hs, hn⟩ := h1.get hk
  cases e
  have h2 := hc 2 _ rfl
  rw [Nat.zero_add] at h2
  exact ⟨⟨_, _, _, h2.1⟩, h2.2, g3⟩
theorem GameR.drewN {w : World} {b n : Nat} {g : DV} {row : Option Nat} (h : GameR w b 0 n g row) (N : Nat) : GameR (w.drewN N) b 0 n g row := h.below (below_drewN w N) (Nat.le_refl _)
/-- A move fixed: a new list of one, stored. -/
theorem GameR.fix {w : World} {b n k : Nat} {L : DV} {X : List Int} {row : Option Nat} (h : GameR w b 0 n (putN L k X) row) (hk : k < n) (x : Int) (hrow : ∀ q, row = some q → q < w.heap.size) :
    GameR ((w.setCell ⟨b, k * 3 + 2, none⟩ (.slice (some ⟨w.heap.size, 0, none⟩) 1 1)).alloc (.cells #[.int .i64 x] 2)) b 0 n (putN L k [x]) row := by
  have hb : b < w.heap.size := (h.cellN hk).2.2
  have h1 := h.below ((Below.refl w.heap.size w).alloc (Nat.le_refl _) (.cells #[.int .i64 x] 2)) (Nat.le_refl _)
  have hs : SlI (w.alloc (.cells #[.int .i64 x] 2)) 0 (w.alloc (.cells #[.int .i64 x] 2)).heap.size (some ⟨w.heap.size, 0, none⟩) 1 [x] := (Sl.lit1' w 2 x _ rfl 1 w.heap.size rfl).more (Nat.le_refl _) (by simp)
  have h2 := h1.put (c2 := 1) hk hs (by omega) (fun _ b' o' e => by
    injection e with e
    injection e with e _ _
    subst e
    exact ⟨by omega, fun e2 => by have := hrow _ e2.symm; omega⟩)
  rw [putN_put] at h2
  simp only [Nat.zero_add] at h2
  rwa [World.setCell_alloc_past _ _ _ _ hb] at h2

theorem only_cell {lo hi q i : Nat} {w w' : World} {v : Value} (h : Only lo hi w w') (hq : q < w.heap.size) (hc : q < lo ∨ hi ≤ q) (hv : w.cell? ⟨q, i, none⟩ = some v) : w'.cell? ⟨q, i, none⟩ = some v :=
  (World.cell?_of_block (w := w) (by simpa using h.block q hq hc)).trans hv
theorem alloc_frozen {w : World} {o : Obj} {q i : Nat} (hq : q < w.heap.size) (hc : w.frozen? ⟨q, i, none⟩ = false) : (w.alloc o).frozen? ⟨q, i, none⟩ = false :=
  (World.frozen?_of_block (w := w) (by simpa using Below.heap_alloc w o q hq)).trans hc
theorem app_end {V w5 : World} {b n k : Nat} {L : DV} {Ao A5 : Option Addr} {co c5 : Nat} {obj : Obj} (hG : GameR V b 0 n L (Value.slice Ao k co).ownBlock) (hgr : (V.alloc obj).grownBy w5 (Value.slice Ao k co).ownBlock)
    (hat : (Value.slice A5 (k + 1) c5).ownBlock = (Value.slice Ao k co).ownBlock ∨ (Value.slice A5 (k + 1) c5).ownBlock = some (V.alloc obj).heap.size) (hn : 0 < n) : GameR w5 b 0 n L (Value.slice A5 (k + 1) c5).ownBlock :=
  (hG.below ((Below.refl V.heap.size V).alloc (Nat.le_refl _) obj) (Nat.le_refl _)).turn hgr.size (fun q hq hne => hgr.block q hq hne) (hat.imp id fun e q e2 => by rw [e] at e2; injection e2 with e2; omega) hn
theorem only_end {w2 V w5 : World} {b : Nat} {obj : Obj} (ho : Only b (b + 1) w2 V) (hb : Below w2.heap.size (V.alloc obj) w5) : Only b (b + 1) w2 w5 :=
  ho.trans (Below.only (lo := b) (hi := b + 1) ((Below.refl V.heap.size V).alloc (Nat.le_refl _) obj) (Nat.le_refl _)) |> fun h => ⟨hb.os.trans h.os, hb.tape.trans h.tape, hb.output.trans h.output, Nat.le_trans h.size hb.size, fun q hq hc => (hb.block q hq).trans (h.block q hq hc)⟩
theorem stepF_some {s : DV × List Int} {k : Nat} {n : Int} (h : pickF s.1 k = some n) : stepF s k = (putN s.1 k [n], s.2 ++ [n]) := by unfold stepF; rw [h]
theorem stepF_none {s : DV × List Int} {k : Nat} (h : pickF s.1 k = none) : stepF s k = (s.1, s.2 ++ [-1]) := by unfold stepF; rw [h]

set_option maxHeartbeats 3200000 in
set_option maxRecDepth 100000 in
theorem l23Solve_calls (A : Option Addr) (n c : Nat) (g : DV) (w : World) (h : GameAt w A n g) (ok : GameOk g) :
    Calls Try.prog 20 #[.slice A n c] w fun e w' => ∃ v A' c', e = .returned (.tuple #[v, .slice A' n c']) ∧ SlI w' w.heap.size w'.heap.size A' n (stratF g) ∧ Below w.heap.size w w' ∧ ∃ A1 k1 m, v = .slice A1 n k1 ∧ SlI w' w.heap.size m A1 n (winnersF g) ∧ SlI w' m w'.heap.size A' n (stratF g) ∧ w.heap.size ≤ m := by
  have hgl := h.len
  obtain ⟨hn0, hn1⟩ : 0 < n ∧ n ≤ 120 := by have := ok.1; omega
  have hst := hide (fun k (hk : k ≤ n) => stateK_ok ok k (by rw [← hgl]; exact hk))
  obtain ⟨ba, oa, rfl, hba⟩ := h.addr hn0
  have q1 := hide (l23Winners_calls _ n c g w h ok)
  replace h := hide h
  replace ok := hide ok
  replace hgl := hide hgl
  have hE := hide elem_int64
  go_enter Try.func20, Try.ntmps20
  go_wp2_with fail
  refine q1.out.mono ?_
  rintro e w1 ⟨A1, k1, rfl, hs1, hb1⟩
  obtain ⟨b1, o1, rfl, g11, g12, g13, -⟩ := hs1.at_ hn0
  have q2 := hide (l23Own_calls _ n c g w1 (h.out.below hb1 (Nat.le_refl _)) ok.out)
  have hz1 := hb1.size
  replace hs1 := hide hs1
  clear q1
  go_wp2_with fail
  refine q2.out.mono ?_
  rintro e w2 ⟨b, c2, rfl, hG2, hbb, hb2⟩
  have hz2 := hb2.size
  have hbl : b < w2.heap.size := (hG2.frozen hn0).2
  have bel2 := hide (hb1.trans (hb2.mono hz1))
  have hs2 := hide (hs1.out.below hb2 (.inr (Nat.le_refl _)))
  have hW0 : Hid (GameR (w2.alloc (.cells #[] 2)) b 0 n (stateK g 0).1 (some w2.heap.size)) := (hG2.withRow hn0 (fun q e => by injection e with e; omega)).below ((Below.refl w2.heap.size w2).alloc (Nat.le_refl _) _) (Nat.le_refl _)
  clear q2 hs1 hb1 hb2 hG2
  go_wp2_with fail
  go_loopw [6, 7] (fun v i wr => ∃ (k : Nat) (Ao : Option Addr) (co : Nat), k ≤ n ∧ i = .int .i64 k ∧ v = .slice Ao k co ∧ Hid (Own 1 iv wr w2.heap.size 2 Ao k co (stateK g k).2) ∧ Hid (GameR wr b 0 n (stateK g k).1 (Value.slice Ao k co).ownBlock) ∧ Hid (Only b (b + 1) w2 wr)) (fun _ i _ => n - (intOf i).toNat)
  case atStart => exact ⟨0, _, 0, Nat.zero_le _, rfl, rfl, Own.made w2 _ (Nat.le_refl _), hW0, Below.only ((Below.refl w2.heap.size w2).alloc (Nat.le_refl _) _) (Nat.le_refl _)⟩
  case round =>
    obtain ⟨k, Ao, co, hk, rfl, rfl, hown, hGR, ho⟩ := hrel
    clear hW0
    have S := hst.out k hk
    have hsucc := stateK_succ g k
    by_cases hlt : k < n
    · have hlt' : k < g.length := by have := hgl.out; omega
      generalize stateK g k = st at *
      have belr : Below w.heap.size w wr := Only.below bel2.out ho.out (Nat.le_trans hz1 hbb) (Nat.le_trans hz1 hz2)
      have hzr := ho.out.size
      obtain ⟨o, p, l, Ah, nh, ch, hx, c0, c1', c2', hl, hnh, -⟩ := hGR.out.gw.at.cell S.ok hlt
      simp only [Nat.zero_add] at c0 c1' c2'
      obtain ⟨o9, p9, l9, Ah9, nh9, ch9, hx9, d0, -⟩ := (h.out.below belr (Nat.le_refl _)).cell ok.out hlt
      have hsame := S.later k (Nat.le_refl _)
      rw [hx, hx9] at hsame
      injection hsame with hsame
      injection hsame with e1 e2
      injection e2 with e2 e3
      subst e1 e2 e3
      have hoL : gOwn st.1 k = o := gOwn_at hx
      have hog : gOwn g k = o := gOwn_at hx9
      have hraw : gRaw st.1 k = l := gRaw_at hx
      have hwonL : wonI st.1 k = wonI g k := wonI_eq S.win S.len (by rw [S.len]; exact hlt')
      have hlen := hl.len
      have hrow : ∀ q, (Value.slice Ao k co).ownBlock = some q → q < wr.heap.size := fun q e => (hown.out.lt q e).2
      have q3 := hide (l00Own_calls Ah nh ch l wr _ _ hl hnh)
      have hbr : b < wr.heap.size := by omega
      have i1 : (0 : Int) ≤ (k : Int) := by omega
      have i2 : (k : Int) < (n : Int) := by omega
      replace hst := hide hst
      have hx9' := hide hx9
      replace hsucc := hide hsucc
      replace S := hide S
      replace hoL := hide hoL
      replace hog := hide hog
      replace hraw := hide hraw
      replace hwonL := hide hwonL
      replace hrow := hide hrow
      replace hlen := hide hlen
      clear hx hx9 hl
      go_wp2_with fail
      refine q3.out.mono ?_
      rintro e w3 ⟨A3, c3, rfl, hs3, hb3⟩
      have hz3 := hb3.size
      have ho3 := hide (ho.out.trans (Below.only (lo := b) (hi := b + 1) hb3 (Nat.le_refl _)))
      have hown3 := hide (hown.out.below hb3 (Nat.le_refl _))
      have hGR3 := hide (hGR.out.below hb3 (Nat.le_refl _))
      have belw3 := hide (belr.trans (hb3.mono belr.size))
      have hs23 := hide (hs2.out.only ho3.out (.inl hbb))
      obtain ⟨x0, hx0, m0, -⟩ := SlI.cell hs23.out hlt
      rw [winnersF_at hlt'] at hx0
      injection hx0 with hx0
      have d0' : w3.cell? ⟨ba, oa + k * 3, none⟩ = some (.int .i64 o) := (hb3.cell (p := ⟨ba, oa + k * 3, none⟩) (by show ba < _; have := belr.size; omega)).trans d0
      replace hs3 := hide hs3
      replace belr := hide belr
      have hrow3 : Hid (∀ q, (Value.slice Ao k co).ownBlock = some q → q < w3.heap.size) := fun q e => Nat.lt_of_lt_of_le (hrow.out q e) hz3
      obtain ⟨⟨Ah4, nh4, ch4, n2⟩, z2, hbl3⟩ := hGR3.out.cellN hlt
      have hnew : Hid (0 < nh → ∀ b' o', A3 = some ⟨b', o', none⟩ → b' ≠ b ∧ some b' ≠ (Value.slice Ao k co).ownBlock) := fun h0 b' o' e => by
        obtain ⟨b9, o9, e9, h9, -⟩ := hs3.out.at_ h0
        rw [e] at e9
        cases e9
        exact ⟨by omega, fun e2 => by have := hrow.out _ e2.symm; omega⟩
      clear q3 hGR hown hb3 c0 c1' c2' d0 hrow
      by_cases hw : o = wonI g k
      · obtain ⟨nn, hpk, -, -⟩ := pick_is S.out.ok (by rw [S.out.len]; exact hlt') (by rw [hoL.out, hwonL.out]; exact hw)
        replace hpk := hide hpk
        have heq : (x0 == o) = true := by rw [beq_iff_eq, ← hx0]; exact hw.symm
        have hpf : Hid (pickF st.1 k = l.find? (keeps (winnersF st.1) st.1 k)) := by show _ = _; unfold pickF; rw [if_pos (by rw [hoL.out, hwonL.out]; exact hw), hraw.out]
        have hinc : Hid (∀ x, x ∈ l → 0 ≤ x ∧ x < st.1.length) := fun x hx => (S.out.ok.raw (v := k) (by rw [hraw.out]; exact hx)).2
        have hraw' : Hid (putN st.1 k l = st.1) := by show _ = _; rw [← hraw.out]; exact putN_raw (by rw [S.out.len]; exact hlt')
        clear hw hwonL
        go_wp2_with fail
        go_loopw [8, 10] (fun cv iv' wi => ∃ (i : Nat) (cc : Int), i ≤ nh ∧ iv' = .int .i64 i ∧ cv = .int .i64 cc ∧ Hid (InnerK wi b n st.1 k l (Value.slice Ao k co).ownBlock i cc) ∧ Hid (Only b (b + 1) w3 wi)) (fun _ iv' _ => nh - (intOf iv').toNat)
        case atStart => exact ⟨0, -1, Nat.zero_le _, rfl, rfl, .inl ⟨rfl, rfl, l, by rw [hraw'.out]; exact hGR3.out⟩, Only.refl _ _ _⟩
        case round =>
          obtain ⟨i, cc, hi, rfl, rfl, hK, hoi⟩ := hrel
          obtain ⟨X, hX⟩ := hK.out.game
          have m1 := only_cell hoi.out (show b1 < w3.heap.size by omega) (.inl (show b1 < b by omega)) m0
          have e1 := only_cell hoi.out (show ba < w3.heap.size by omega) (.inl (show ba < b by omega)) d0'
          have hi0 : (0 : Int) ≤ (i : Int) := by omega
          have hzi := hoi.out.size
          clear m0 d0' n2 z2
          by_cases hcn : cc < 0
          · obtain ⟨hcc, hfind, -⟩ := hK.out.resolve_right (fun h => by have := h.1; omega)
            subst hcc
            by_cases hil : i < nh
            · have hs3i := hs3.out.only hoi.out (.inr (show b + 1 ≤ _ from hbr))
              obtain ⟨b3, o3, x, rfl, q1, q2, q3, hx, p0, -⟩ := SlI.get hs3i hil
              have hxb := hinc.out x (List.mem_of_getElem? hx)
              have okx := hide (S.out.ok.putN (v := k) (by rw [S.out.len]; exact hlt') hxb)
              have j1 : decide ((-1 : Int) < 0) = true := rfl
              have j2 : decide ((i : Int) < (nh : Int)) = true := decide_eq_true (by omega)
              have hi1 : (i : Int) < (nh : Int) := by omega
              have hrowi : Hid (∀ q, (Value.slice Ao k co).ownBlock = some q → q < wr.heap.size) := fun q e => Nat.lt_of_lt_of_le (hrow3.out q e) hzi
              replace hfind := hide hfind
              replace hx := hide hx
              replace hX := hide hX
              clear hs3i hK
              go_wp2
              go_quiet (fail)
              have hXV := hX.out.drewN nq
              have hF := hide (hXV.fix hlt x (fun q e => hrowi.out q e))
              obtain ⟨⟨Ah5, nh5, ch5, n5⟩, z5, hbl5⟩ := hXV.cellN hlt
              have p0V : (wr.drewN nq).cell? ⟨b3, o3 + i, none⟩ = some (.int .i64 x) := p0
              have hoV := hide (hoi.out.trans (Below.only (lo := b) (hi := b + 1) (below_drewN wr nq) (Nat.le_refl _)))
              clear hXV p0 hX hrowi m1 e1 j2 q3 hoi
              generalize wr.drewN nq = V at *
              have n5a := alloc_cell (o := .cells #[.int .i64 x] 2) hbl5 n5
              have z5a := alloc_frozen (o := .cells #[.int .i64 x] 2) hbl5 z5
              have q4 := hide (l23Winners_calls (some ⟨b, 0, none⟩) n c2 (putN st.1 k [x]) _ (hF.out.gw.at) okx.out)
              have hoW := hide ((hoV.out.setCell (p := ⟨b, k * 3 + 2, none⟩) (Nat.le_refl _) (Nat.lt_succ_self _) (.slice (some ⟨V.heap.size, 0, none⟩) 1 1)).trans (Below.only (lo := b) (hi := b + 1) ((Below.refl _ (V.setCell ⟨b, k * 3 + 2, none⟩ (.slice (some ⟨V.heap.size, 0, none⟩) 1 1))).alloc (Nat.le_refl _) (.cells #[.int .i64 x] 2)) (Nat.le_refl _)))
              go_wp2_with fail
              refine q4.out.mono ?_
              rintro e w4 ⟨A4, c4, rfl, hs4, hb4⟩
              have ho4 := hide (hoW.out.trans (Below.only (lo := b) (hi := b + 1) hb4 (Nat.le_refl _)))
              have hG4 := hide (hF.out.below hb4 (Nat.le_refl _))
              have hsW4 := hs23.out.only ho4.out (.inl hbb)
              have q5 := l00Same_calls A4 (some ⟨b1, o1, none⟩) n n c4 k1 _ _ w4 _ _ _ _ hs4 hsW4 (by omega) (by omega)
              rw [← S.out.win] at q5
              clear q4 hs4 hb4 hsW4 n5 z5 n5a z5a p0V hoV hoW
              by_cases hkx : keeps (winnersF st.1) st.1 k x = true
              · rw [show decide (winnersF (putN st.1 k [x]) = winnersF st.1) = true from hkx] at q5
                replace q5 := hide q5
                have hhit := hide (hpf.out.trans (find_hit hfind.out hx.out hkx))
                clear hkx
                go_wp2_with fail
                refine q5.out.mono ?_
                rintro e w5 ⟨rfl, hb5⟩
                have ho5 := hide (ho4.out.trans (Below.only (lo := b) (hi := b + 1) hb5 (Nat.le_refl _)))
                obtain ⟨x9, hx9, p5, -⟩ := SlI.cell (hs3.out.only ho5.out (.inr (show b + 1 ≤ _ from hbr))) hil
                rw [hx.out] at hx9
                injection hx9 with hx9
                subst hx9
                have hK5 : Hid (InnerK w5 b n st.1 k l (Value.slice Ao k co).ownBlock (i + 1) x) := .inr ⟨hxb.1, hhit.out, hG4.out.below hb5 (Nat.le_refl _)⟩
                clear hb5
                go_wp2_with fail
                go_roundw
                case rel => exact ⟨i + 1, x, by omega, by go_num, rfl, hK5, ho5⟩
                case measure => simp [intOf]; omega
              · rw [show decide (winnersF (putN st.1 k [x]) = winnersF st.1) = false from Bool.eq_false_iff.2 hkx] at q5
                replace q5 := hide q5
                have hmiss := hide (find_take_step hfind.out hx.out (Bool.eq_false_iff.2 hkx))
                clear hkx
                go_wp2_with fail
                refine q5.out.mono ?_
                rintro e w5 ⟨rfl, hb5⟩
                have ho5 := hide (ho4.out.trans (Below.only (lo := b) (hi := b + 1) hb5 (Nat.le_refl _)))
                have hK5 : Hid (InnerK w5 b n st.1 k l (Value.slice Ao k co).ownBlock (i + 1) (-1)) := .inl ⟨rfl, hmiss.out, [x], hG4.out.below hb5 (Nat.le_refl _)⟩
                clear hb5
                go_wp2_with fail
                go_roundw
                case rel => exact ⟨i + 1, -1, by omega, by go_num, rfl, hK5, ho5⟩
                case measure => simp [intOf]; omega
            · exfalso
              have : i = nh := by omega
              subst this
              have h8 := hpf.out.symm.trans hpk.out
              rw [List.take_of_length_le (by rw [hlen.out]; exact Nat.le_refl _), h8] at hfind
              cases hfind
          · obtain ⟨-, hpc, hGc⟩ := hK.out.resolve_left (fun h => by have := h.1; omega)
            have hstep : Hid (stateK g (k + 1) = (putN st.1 k [cc], st.2 ++ [cc])) := hsucc.out.trans (stepF_some hpc)
            have j1 : decide (cc < 0) = false := decide_eq_false hcn
            have hOi := hide (hown3.out.only hoi.out hbl)
            have hoo := hide (ho3.out.trans hoi.out)
            replace hGc := hide hGc
            clear hK hpc hX
            by_cases hil : i < nh
            · have j2 : decide ((i : Int) < (nh : Int)) = true := decide_eq_true (by omega)
              have hi1 : (i : Int) < (nh : Int) := by omega
              go_wp2
              go_quiet (fail)
              have hGV := hide (hGc.out.drewN nq)
              have hOV := hide (hOi.out.below (below_drewN wr nq) (Nat.le_refl _))
              have hoV := hide (hoo.out.trans (Below.only (lo := b) (hi := b + 1) (below_drewN wr nq) (Nat.le_refl _)))
              have hzV := hoV.out.size
              clear m1 e1 j1 j2 hoi hOi hoo hGc
              generalize wr.drewN nq = V at *
              go_wp2_with (first | (at_builtin; (with_reducible refine wpList_app rfl (.tmp 74) (.tmp 76) rfl hE.out flat_iv rfl (hOV.out.alloc _) rfl (Sl.lit1' _ 2 cc _ rfl 1 _ ?c0) ?c1 (le_alloc hzV) ?_); rotate_right; intro A5 c5 w5 hown5 hgr5 hb5 hat5))
              case c0 => first | rfl | simp
              case c1 => omega
              have hG6 := hide (app_end hGV.out hgr5 hat5 hn0)
              have ho6 := hide (only_end hoV.out hb5)
              replace hown5 := hide hown5
              clear hgr5 hat5 hb5
              go_roundw
              case rel => exact ⟨k + 1, A5, c5, by omega, by go_num, rfl, by rw [hstep.out]; exact hown5.out, by rw [hstep.out]; exact hG6.out, ho6.out⟩
              case measure => simp [intOf]; omega
            · have j2 : decide ((i : Int) < (nh : Int)) = false := decide_eq_false (by omega)
              go_wp2
              go_quiet (fail)
              have hGV := hide (hGc.out.drewN nq)
              have hOV := hide (hOi.out.below (below_drewN wr nq) (Nat.le_refl _))
              have hoV := hide (hoo.out.trans (Below.only (lo := b) (hi := b + 1) (below_drewN wr nq) (Nat.le_refl _)))
              have hzV := hoV.out.size
              clear m1 e1 j1 j2 hoi hOi hoo hGc
              generalize wr.drewN nq = V at *
              go_wp2_with (first | (at_builtin; (with_reducible refine wpList_app rfl (.tmp 74) (.tmp 76) rfl hE.out flat_iv rfl (hOV.out.alloc _) rfl (Sl.lit1' _ 2 cc _ rfl 1 _ ?c0) ?c1 (le_alloc hzV) ?_); rotate_right; intro A5 c5 w5 hown5 hgr5 hb5 hat5))
              case c0 => first | rfl | simp
              case c1 => omega
              have hG6 := hide (app_end hGV.out hgr5 hat5 hn0)
              have ho6 := hide (only_end hoV.out hb5)
              replace hown5 := hide hown5
              clear hgr5 hat5 hb5
              go_roundw
              case rel => exact ⟨k + 1, A5, c5, by omega, by go_num, rfl, by rw [hstep.out]; exact hown5.out, by rw [hstep.out]; exact hG6.out, ho6.out⟩
              case measure => simp [intOf]; omega
      · have hpk : Hid (pickF st.1 k = none) := by show _ = _; unfold pickF; rw [if_neg (by rw [hoL.out, hwonL.out]; exact hw)]
        have hne : (x0 == o) = false := by rw [beq_eq_false_iff_ne, ← hx0]; exact fun e => hw e.symm
        have hstep : Hid (stateK g (k + 1) = (st.1, st.2 ++ [-1])) := hsucc.out.trans (stepF_none hpk.out)
        have hraw' : Hid (putN st.1 k l = st.1) := by show _ = _; rw [← hraw.out]; exact putN_raw (by rw [S.out.len]; exact hlt')
        have hGN : Hid (∀ N, GameR (w3.drewN N) b 0 n st.1 (Value.slice Ao k co).ownBlock) := fun N => hGR3.out.drewN N
        have hON : Hid (∀ N, Own 1 iv (w3.drewN N) w2.heap.size 2 Ao k co st.2) := fun N => hown3.out.below (below_drewN _ N) (Nat.le_refl _)
        have hoN : Hid (∀ N, Only b (b + 1) w2 (w3.drewN N)) := fun N => ho3.out.trans (Below.only (below_drewN w3 N) (Nat.le_refl _))
        have hsN : Hid (∀ N, SlI (w3.drewN N) wr.heap.size w3.heap.size A3 nh l) := fun N => hs3.out.drewN N
        have hzN : Hid (∀ N, w2.heap.size ≤ (w3.drewN N).heap.size) := fun N => (hoN.out N).size
        have j1 : decide ((-1 : Int) < 0) = true := rfl
        clear hpk hw hwonL
        go_wp2_with fail
        go_loopw [8, 10] (fun cv iv' wi => cv = .int .i64 (-1) ∧ iv' = .int .i64 0 ∧ wi = w3) (fun _ _ _ => 0)
        case atStart => exact ⟨rfl, rfl, rfl⟩
        case round =>
          obtain ⟨rfl, rfl, rfl⟩ := hrel
          by_cases hnh0 : 0 < nh
          · have j2 : decide ((0 : Int) < (nh : Int)) = true := decide_eq_true (by omega)
            go_wp2
            go_quiet (fail)
            have hGV := (hGN.out nq).put (c2 := c3) hlt ((hsN.out nq).top.more (Nat.zero_le _) (Nat.le_refl _)) hnh hnew.out
            simp only [Nat.zero_add] at hGV
            rw [hraw'.out] at hGV
            replace hGV := hide hGV
            have hOV := hide ((hON.out nq).only ((Only.refl b (b + 1) (wr.drewN nq)).setCell (p := ⟨b, k * 3 + 2, none⟩) (Nat.le_refl _) (Nat.lt_succ_self _) (.slice A3 nh c3)) hbl)
            have hoV := hide ((hoN.out nq).setCell (p := ⟨b, k * 3 + 2, none⟩) (Nat.le_refl _) (Nat.lt_succ_self _) (.slice A3 nh c3))
            have hzV := hoV.out.size
            obtain ⟨⟨Ah5, nh5, ch5, m2⟩, y2, hbl5⟩ := (hGN.out nq).cellN hlt
            generalize wr.drewN nq = V at *
            clear n2 z2 m0 d0'
            go_wp2_with (first | (at_builtin; (with_reducible refine wpList_app rfl (.tmp 74) (.tmp 76) rfl hE.out flat_iv rfl (hOV.out.alloc _) rfl (Sl.lit1' _ 2 (-1 : Int) _ rfl 1 _ ?c0) ?c1 (le_alloc hzV) ?_); rotate_right; intro A5 c5 w5 hown5 hgr5 hb5 hat5))
            case c0 => first | rfl | simp
            case c1 => omega
            have hG6 := hide (app_end hGV.out hgr5 hat5 hn0)
            have ho6 := hide (only_end hoV.out hb5)
            replace hown5 := hide hown5
            clear hgr5 hat5 hb5
            go_roundw
            case rel => exact ⟨k + 1, A5, c5, by omega, by go_num, rfl, by rw [hstep.out]; exact hown5.out, by rw [hstep.out]; exact hG6.out, ho6.out⟩
            case measure => simp [intOf]; omega
          · have j2 : decide ((0 : Int) < (nh : Int)) = false := decide_eq_false (by omega)
            go_wp2
            go_quiet (fail)
            have hGV := (hGN.out nq).put (c2 := c3) hlt ((hsN.out nq).top.more (Nat.zero_le _) (Nat.le_refl _)) hnh hnew.out
            simp only [Nat.zero_add] at hGV
            rw [hraw'.out] at hGV
            replace hGV := hide hGV
            have hOV := hide ((hON.out nq).only ((Only.refl b (b + 1) (wr.drewN nq)).setCell (p := ⟨b, k * 3 + 2, none⟩) (Nat.le_refl _) (Nat.lt_succ_self _) (.slice A3 nh c3)) hbl)
            have hoV := hide ((hoN.out nq).setCell (p := ⟨b, k * 3 + 2, none⟩) (Nat.le_refl _) (Nat.lt_succ_self _) (.slice A3 nh c3))
            have hzV := hoV.out.size
            obtain ⟨⟨Ah5, nh5, ch5, m2⟩, y2, hbl5⟩ := (hGN.out nq).cellN hlt
            generalize wr.drewN nq = V at *
            clear n2 z2 m0 d0'
            go_wp2_with (first | (at_builtin; (with_reducible refine wpList_app rfl (.tmp 74) (.tmp 76) rfl hE.out flat_iv rfl (hOV.out.alloc _) rfl (Sl.lit1' _ 2 (-1 : Int) _ rfl 1 _ ?c0) ?c1 (le_alloc hzV) ?_); rotate_right; intro A5 c5 w5 hown5 hgr5 hb5 hat5))
            case c0 => first | rfl | simp
            case c1 => omega
            have hG6 := hide (app_end hGV.out hgr5 hat5 hn0)
            have ho6 := hide (only_end hoV.out hb5)
            replace hown5 := hide hown5
            clear hgr5 hat5 hb5
            go_roundw
            case rel => exact ⟨k + 1, A5, c5, by omega, by go_num, rfl, by rw [hstep.out]; exact hown5.out, by rw [hstep.out]; exact hG6.out, ho6.out⟩
            case measure => simp [intOf]; omega
    · have hkn : k = n := by omega
      subst hkn
      have hfin : Hid (stratF g = (stateK g k).2) := by show _ = _; unfold stratF; rw [← hgl.out]
      clear h hst hsucc S
      go_wp2_with fail
      go_ret2
      exact ⟨_, _, _, rfl, by rw [hfin.out]; exact (hown.out.sl flat_iv).more (by omega) (Nat.le_refl _), Only.below bel2.out ho.out (Nat.le_trans hz1 hbb) (Nat.le_trans hz1 hz2), _, _, w2.heap.size, rfl, (hs2.out.only ho.out (.inl hbb)).more (Nat.le_refl _) hz2, by rw [hfin.out]; exact hown.out.sl flat_iv, Nat.le_trans hz1 hz2⟩

end Go.Proofs.Ythmhlbkkhaplkaa

namespace Go.Proofs.Ythmhlbkkhaplkaa
open Go.ChangeShapes Go.WideShapes Go.ChangeAt Go.RowKit
set_option linter.unusedVariables false
set_option linter.unusedSimpArgs false

theorem l00From_calls (A : Option Addr) (n c : Nat) (code : List Int) (w : World) (h : SlU w 0 w.heap.size A n code) (hc : ∀ x, x ∈ code → 0 ≤ x ∧ x ≤ 255) (hn : n ≤ maxLen) :
    Calls Try.prog 18 #[.slice A n c] w fun e w' => e = .returned (.pointer (some ⟨w.heap.size, 0, none⟩)) ∧ SrcW w' w.heap.size 0 ∧ Below w.heap.size w w' ∧ w'.heap.size = w.heap.size + 1 := by
  have hS : Hid (SrcW (w.alloc (.cells #[.slice A n c, .int .i64 0, .int .u64 0] 71)) w.heap.size 0) :=
    ⟨A, n, c, code, 0, 0, heap_alloc_new w _, Nat.le_refl _, hn, h.below ((Below.refl w.heap.size w).alloc (Nat.le_refl _) _) (.inr (Nat.le_refl _)), hc⟩
  clear h
  go_enter Try.func18, Try.ntmps18
  go_wp2_with fail
  go_ret
  exact ⟨rfl, hS.out, (Below.refl _ _).alloc (Nat.le_refl _) _, by rw [World.size_alloc]⟩

/-- One of the moves at each vertex that has some. -/
def DrawnC (g : DV) (C : List Int) (k : Nat) : Prop := ∀ v, v < k → (gRaw g v = [] → atC C v = -1) ∧ (gRaw g v ≠ [] → atC C v ∈ gRaw g v)
theorem atC_app {C : List Int} {x : Int} {v : Nat} (h : v ≤ C.length) : atC (C ++ [x]) v = if v = C.length then x else atC C v := by
  unfold atC
  by_cases e : v = C.length
  · rw [if_pos e, e, List.getElem?_append_right (Nat.le_refl _)]; simp
  · rw [if_neg e, List.getElem?_append_left (by omega)]
theorem DrawnC.push {g : DV} {C : List Int} {k : Nat} {x : Int} (h : DrawnC g C k) (hl : C.length = k) (h0 : gRaw g k = [] → x = -1) (h1 : gRaw g k ≠ [] → x ∈ gRaw g k) : DrawnC g (C ++ [x]) (k + 1) := by
  intro v hv
  rw [atC_app (by omega), hl]
  by_cases e : v = k
  · rw [if_pos e, e]; exact ⟨h0, h1⟩
  · rw [if_neg e]; exact h v (by omega)

theorem GrowV.cell {w : World} {base n c k : Nat} {A : Option Addr} {R : List (CV × List Int)} (h : GrowV w base A n c R) (hk : k < n) :
    ∃ b off o p l Ah nh ch, A = some ⟨b, off, none⟩ ∧ b < w.heap.size ∧ base ≤ b ∧ (R.map dV)[k]? = some (o, p, l) ∧ w.cell? ⟨b, off + k * 3 + 2, none⟩ = some (.slice Ah nh ch) ∧ SlI w base w.heap.size Ah nh l ∧ nh ≤ 1048576 := by
  have hs := h.own.sl flat_gV
  obtain ⟨b, off, rfl, g1, g2, g3, hc⟩ := hs.at_ (by omega)
  have hl : k < R.length := by have := hs.len; rw [List.length_map] at this; omega
  obtain ⟨⟨o, p, Ah, nh, ch⟩, l⟩ : CV × List Int := R[k]
  have hx : R[k]? = some R[k] := List.getElem?_eq_getElem hl
  have hr := h.rows _ (List.getElem_mem hl)
  have h2 := hc k (R[k]).1 (by rw [List.getElem?_map, hx]; rfl) 2 _ rfl
  rw [← Nat.add_assoc] at h2
  exact ⟨b, off, (R[k]).1.1, (R[k]).1.2.1, (R[k]).2, (R[k]).1.2.2.1, (R[k]).1.2.2.2.1, (R[k]).1.2.2.2.2, rfl, g3, g1, by rw [List.getElem?_map, hx]; rfl, h2.1, hr.1, hr.2⟩

/-- Where the drawing of a region and choices stands. -/
structure R8S (w w2 wr : World) (B1 m B3 N n : Nat) (A1 Ax : Option Addr) (W : List Int) : Prop where
  src : SrcW wr w.heap.size N
  won : SlI wr w2.heap.size m A1 n W
  cho : ∃ ch, SlI wr m B3 Ax n ch
  gm : ∀ q, B1 ≤ q → q < w2.heap.size → wr.heap[q]? = w2.heap[q]?
  bel : Below w.heap.size w wr
  hi : B3 ≤ wr.heap.size
  l1 : w.heap.size < B1
  l2 : B1 ≤ w2.heap.size
  l3 : w2.heap.size ≤ m
  l4 : m ≤ B3
section
variable {w w2 wr w' : World} {B1 m B3 N M n : Nat} {A1 Ax : Option Addr} {W : List Int}
theorem R8S.draw (h : R8S w w2 wr B1 m B3 N n A1 Ax W) (hs : SrcTo wr w' w.heap.size M) : R8S w w2 w' B1 m B3 M n A1 Ax W := by
  obtain ⟨ch, hch⟩ := h.cho
  have l1 := h.l1
  have l2 := h.l2
  have l3 := h.l3
  have hi := h.hi
  have l4 := h.l4
  exact ⟨hs.src, h.won.only hs.only (by omega), ⟨ch, hch.only hs.only (by omega)⟩, fun q a b => (hs.only.block q (by omega) (by omega)).trans (h.gm q a b), Only.below h.bel hs.only (Nat.le_refl _) h.bel.size, by rw [hs.size]; exact hi, l1, l2, l3, l4⟩
theorem R8S.alloc (h : R8S w w2 wr B1 m B3 N n A1 Ax W) (o : Obj) : R8S w w2 (wr.alloc o) B1 m B3 N n A1 Ax W := by
  obtain ⟨ch, hch⟩ := h.cho
  have hb := (Below.refl wr.heap.size wr).alloc (Nat.le_refl _) o
  have hi := h.hi
  have l3 := h.l3
  have l4 := h.l4
  exact ⟨h.src.alloc o, h.won.below hb (.inr (Nat.le_refl _)), ⟨ch, hch.below hb (.inr (Nat.le_refl _))⟩, fun q a b => (Below.heap_alloc _ _ _ (by omega)).trans (h.gm q a b), h.bel.alloc h.bel.size o, by rw [World.size_alloc]; omega, h.l1, h.l2, h.l3, h.l4⟩
theorem R8S.grow (h : R8S w w2 wr B1 m B3 N n A1 Ax W) {row : Option Nat} (g : wr.grownBy w' row) (hr : ∀ k, row = some k → B3 ≤ k) : R8S w w2 w' B1 m B3 N n A1 Ax W := by
  obtain ⟨ch, hch⟩ := h.cho
  have l1 := h.l1
  have l2 := h.l2
  have l3 := h.l3
  have hi := h.hi
  have l4 := h.l4
  have key : ∀ q, q < B3 → w'.heap[q]? = wr.heap[q]? := fun q hq => g.block q (by omega) fun e => by have := hr q e.symm; omega
  exact ⟨h.src.keep g.size fun q hq => key q (by have := h.src.lt; omega), h.won.keep g.size fun q _ h2 _ => key q (by omega), ⟨ch, hch.keep g.size fun q _ h2 _ => key q h2⟩, fun q a b => (key q (by omega)).trans (h.gm q a b), h.bel.grown g h.bel.size fun k hk => by have := hr k hk; omega, Nat.le_trans hi g.size, l1, l2, l3, l4⟩
theorem R8S.put {bx ox k : Nat} (h : R8S w w2 wr B1 m B3 N n A1 (some ⟨bx, ox, none⟩) W) (hk : k < n) (x : Int) : R8S w w2 (wr.setCell ⟨bx, ox + k, none⟩ (.int .i64 x)) B1 m B3 N n A1 (some ⟨bx, ox, none⟩) W ∧ wr.frozen? ⟨bx, ox + k, none⟩ = false ∧ m ≤ bx ∧ bx < B3 ∧ ∃ y, wr.cell? ⟨bx, ox + k, none⟩ = some (.int .i64 y) := by
  obtain ⟨ch, hch⟩ := h.cho
  obtain ⟨b', o', y, e1, g1, g2, g3, hy, cc, cf⟩ := SlI.get hch hk
  cases e1
  have l1 := h.l1
  have l2 := h.l2
  have l3 := h.l3
  have hi := h.hi
  have key : ∀ q, q ≠ bx → (wr.setCell ⟨bx, ox + k, none⟩ (.int .i64 x)).heap[q]? = wr.heap[q]? := fun q hq => Below.heap_setCell _ _ _ _ hq
  exact ⟨⟨h.src.setNew (by show _ < bx; omega) _, h.won.keep (by rw [World.size_setCell]; exact Nat.le_refl _) fun q _ h2 _ => key q (by omega), ⟨_, hch.put hk x⟩, fun q a b => (key q (by omega)).trans (h.gm q a b), h.bel.setCell (by show _ ≤ bx; omega) _, by rw [World.size_setCell]; exact hi, l1, l2, l3, h.l4⟩, cf, g1, g2, y, cc⟩
theorem R8S.more (h : R8S w w2 wr B1 m B3 N n A1 Ax W) (hN : N ≤ M) : R8S w w2 wr B1 m B3 M n A1 Ax W := ⟨h.src.more hN, h.won, h.cho, h.gm, h.bel, h.hi, h.l1, h.l2, h.l3, h.l4⟩
end

end Go.Proofs.Ythmhlbkkhaplkaa
