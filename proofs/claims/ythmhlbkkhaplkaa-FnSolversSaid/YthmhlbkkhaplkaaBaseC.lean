/-
  Several texts in one:
  Games (lists of vertices) as arguments of a law: words, and the helpers' contracts in one shape. Conditions: none.
  What a predicate's call leaves. Conditions: none.
  slices.IndexFunc and slices.ContainsFunc on lists of vertices at whatever function value that answers a bool and changes nothing that was there. Conditions: at most 1048576 elements.
  Lists of bool in memory: reading, writing, copies, and the functions that turn sets into lists of indices. Conditions: at most 1048576 elements.
  Validity of games: what the program's and the reference's tests compute. Conditions: at most 1048576 vertices.
  Validity of games: ValidGame by the program and by the reference. Conditions: at most 1048576 vertices.
  Words for games and sets in memory, at an address that is known. Conditions: none.
  The reference's helpers on games: whole sets, differences, ends, attractors. Conditions: valid games.
  The reference's attractor. Conditions: valid games, a set within the vertices that are alive.
  The reference's recursive computation of winners. Conditions: valid games.
  slices.Repeat of one element. Conditions: at most 1048576 copies.
  Arenas in memory (a game, who may move where, the vertices that are left), and the functions on them that only read: marked, exits. Conditions: valid games.
-/
import Derived.Test.YthmhlbkkhaplkaaBaseA
import Derived.Test.YthmhlbkkhaplkaaBaseB
import Derived.StillTailTactics
import Derived.Outline
import Derived.WalkSpells
import Derived.IntWalk
import Derived.Deep.LoopGhost
import Derived.Laws.CopyOwn
import Derived.Laws.Bits64b
import Derived.Deep.RegionLaw
import Derived.Deep.RegionHeld3
set_option linter.unusedSimpArgs false
set_option linter.unusedVariables false
namespace Go.Proofs.Ythmhlbkkhaplkaa
open Go.ChangeShapes Go.WideShapes Go.ChangeAt Go.RowKit Go.Deep
set_option linter.unusedVariables false

abbrev CV := Int × Int × Hd
def hdV (x : CV) : Hd := x.2.2
def gV (x : CV) : List Value := [.int .i64 x.1, .int .i64 x.2.1, .slice x.2.2.1 x.2.2.2.1 x.2.2.2.2]
def dV (r : CV × List Int) : Vx := (r.1.1, r.1.2.1, r.2)
def totV (d : DV) : Nat := d.length + (d.map fun x => x.2.2.length).sum
abbrev RowsV (most : Nat) := RowsG hdV 3 gV 1 iv most
abbrev NestV := NestG hdV 3 gV 1 iv
def ArgV (w : World) (lo hi : Nat) (v : Value) (d : DV) : Prop := ∃ A n c R, v = .slice A n c ∧ n ≤ maxLen ∧ RowsV maxLen w lo hi A n R ∧ R.map dV = d
def FreshV (w : World) (lo hi : Nat) (v : Value) (d : DV) : Prop := ∃ A n R, v = .slice A n n ∧ NestV w lo hi A n R ∧ R.map dV = d ∧ totV d ≤ 1048576

theorem ArgV.below {w w' : World} {lo hi B : Nat} {v : Value} {d : DV} (h : ArgV w lo hi v d) (hb : Below B w w') (hB : hi ≤ B ∨ w.heap.size ≤ B) : ArgV w' lo hi v d := by
  obtain ⟨A, n, c, R, h1, h2, h3, h4⟩ := h
  exact ⟨A, n, c, R, h1, h2, h3.below hb hB, h4⟩
theorem ArgV.only {w w' : World} {lo hi lo' hi' : Nat} {v : Value} {d : DV} (h : ArgV w lo hi v d) (g : Only lo' hi' w w') (hd : hi ≤ lo' ∨ hi' ≤ lo) : ArgV w' lo hi v d := by
  obtain ⟨A, n, c, R, h1, h2, h3, h4⟩ := h
  exact ⟨A, n, c, R, h1, h2, h3.only g hd, h4⟩
theorem FreshV.below {w w' : World} {lo hi B : Nat} {v : Value} {d : DV} (h : FreshV w lo hi v d) (hb : Below B w w') (hB : hi ≤ B ∨ w.heap.size ≤ B) : FreshV w' lo hi v d := by
  obtain ⟨A, n, R, h1, h2, h3⟩ := h
  exact ⟨A, n, R, h1, h2.below hb hB, h3⟩
theorem FreshV.only {w w' : World} {lo hi lo' hi' : Nat} {v : Value} {d : DV} (h : FreshV w lo hi v d) (g : Only lo' hi' w w') (hd : hi ≤ lo' ∨ hi' ≤ lo) : FreshV w' lo hi v d := by
  obtain ⟨A, n, R, h1, h2, h3⟩ := h
  exact ⟨A, n, R, h1, h2.only g hd, h3⟩
/-- Element k. -/
theorem RowsG.atV {most : Nat} {w : World} {lo hi n k : Nat} {A : Option Addr} {R : List (CV × List Int)} (h : RowsV most w lo hi A n R) (hk : k < n) :
    ∃ b off x y Ah nh ch s, A = some ⟨b, off, none⟩ ∧ lo ≤ b ∧ b < hi ∧ b < w.heap.size ∧ R[k]? = some ((x, y, Ah, nh, ch), s) ∧ w.cell? ⟨b, off + k * 3, none⟩ = some (.int .i64 x) ∧ w.cell? ⟨b, off + k * 3 + 1, none⟩ = some (.int .i64 y) ∧ w.cell? ⟨b, off + k * 3 + 2, none⟩ = some (.slice Ah nh ch) ∧
      w.frozen? ⟨b, off + k * 3, none⟩ = false ∧ w.frozen? ⟨b, off + k * 3 + 1, none⟩ = false ∧ SlI w lo hi Ah nh s ∧ nh ≤ most := by
  obtain ⟨b, off, ⟨x, y, Ah, nh, ch⟩, s, e, g1, g2, g3, hr, hc, hs, hn⟩ := h.get hk
  exact ⟨b, off, x, y, Ah, nh, ch, s, e, g1, g2, g3, hr, (hc 0 _ rfl).1, (hc 1 _ rfl).1, (hc 2 _ rfl).1, (hc 0 _ rfl).2, (hc 1 _ rfl).2, hs, hn⟩

theorem info_impV : (Try.prog.info? 49).map (fun i => (i.zero, i.size, i.bytes)) = some (some (.agg #[.int .i64 0, .int .i64 0, .slice none 0 0]), 3, 40) := by kernel_rfl

end Go.Proofs.Ythmhlbkkhaplkaa

namespace Go.Proofs.Ythmhlbkkhaplkaa
open Go.RowKit

/-- What a predicate's call leaves. -/
def Says (b : Bool) (W : World) (e : Ending) (W' : World) : Prop := e = .returned (.bool b) ∧ Below W.heap.size W W'

theorem any_take_succ {α : Type} {G : α → Bool} {l : List α} {k : Nat} {x : α} (h : (l.take k).any G = false) (hx : l[k]? = some x) (hg : G x = false) : (l.take (k + 1)).any G = false := by
  rw [List.take_add_one, hx, List.any_append, h]
  simp [hg]
theorem any_hit {α : Type} {G : α → Bool} {l : List α} {k : Nat} {x : α} (hx : l[k]? = some x) (hg : G x = true) : l.any G = true :=
  List.any_eq_true.2 ⟨x, List.mem_of_getElem? hx, hg⟩

end Go.Proofs.Ythmhlbkkhaplkaa

namespace Go.Proofs.Ythmhlbkkhaplkaa
open Go.ChangeShapes Go.WideShapes Go.ChangeAt Go.RowKit
set_option linter.unusedVariables false

set_option maxRecDepth 100000 in
theorem indexFuncV_calls (F : FuncId) (caps : Array Value) (G : Vx → Bool) (A : Option Addr) (n c : Nat) (R : List (CV × List Int)) (w : World) (lo hi : Nat) (h : RowsV 1048576 w lo hi A n R) (hn : n ≤ 1048576)
    (hF : ∀ (v : Value) (W : World), Sem.run Try.prog (callFunc F (#[v] ++ caps)) W = .ok (.enter F (#[v] ++ caps)) W)
    (hcl : ∀ (x y : Int) (Ah : Option Addr) (nh ch : Nat) (s : List Int) (W : World), Below w.heap.size w W → SlI W lo hi Ah nh s → nh ≤ 1048576 → Calls Try.prog F (#[.agg #[.int .i64 x, .int .i64 y, .slice Ah nh ch]] ++ caps) W (Says (G (x, y, s)) W)) :
    Calls Try.prog 82 #[.slice A n c, .func (.func F) #[] caps] w fun e w' => ∃ i : Int, e = .returned (.int .i64 i) ∧ decide (0 ≤ i) = (R.map dV).any G ∧ Below w.heap.size w w' := by
  have hlen := hide h.len
  replace hcl := hide hcl
  replace h := hide h
  go_enter Try.func82, Try.ntmps82
  go_wp2
  go_loopw [8] (fun i wr => ∃ k : Nat, k ≤ n ∧ i = .int .i64 k ∧ Below w.heap.size w wr ∧ Hid (((R.map dV).take k).any G = false)) (fun i _ => n - (intOf i).toNat)
  case atStart => exact ⟨0, Nat.zero_le _, rfl, Below.refl _ _, rfl⟩
  case round =>
    obtain ⟨k, hk, rfl, hb, ha⟩ := hrel
    by_cases hlt : k < n
    · obtain ⟨b, off, x, y, Ah, nh, ch, s, rfl, g1, g2, g3, hx, c0, c1, c2, -, -, hs, hnh⟩ := (h.out.below hb (.inr (Nat.le_refl _))).atV hlt
      have hx2 := hide (show (R.map dV)[k]? = some (x, y, s) by rw [List.getElem?_map, hx]; rfl)
      have hc := hcl.out x y Ah nh ch s wr hb hs hnh
      clear h hcl hx hs
      by_cases hg : G (x, y, s) = true
      · rw [hg] at hc
        replace hc := hide hc
        have hy := hide (any_hit hx2.out hg)
        clear hg
        go_wp2_with fail
        refine hc.out.mono ?_
        rintro e w1 ⟨rfl, hb1⟩
        go_wp2_with fail
        go_ret
        exact ⟨_, rfl, by rw [hy.out]; simp, hb.trans (hb1.mono hb.size)⟩
      · replace hg := Bool.eq_false_iff.2 hg
        rw [hg] at hc
        replace hc := hide hc
        have hy := hide (any_take_succ ha.out hx2.out hg)
        clear hg
        go_wp2_with fail
        refine hc.out.mono ?_
        rintro e w1 ⟨rfl, hb1⟩
        go_wp2_with fail
        go_roundw
        case rel => exact ⟨k + 1, by omega, by go_num, hb.trans (hb1.mono hb.size), hy⟩
        case measure => simp [intOf]; omega
    · have hkn : k = n := by omega
      subst hkn
      clear hcl h
      go_wp2
      go_ret
      have hy := ha.out
      rw [List.take_of_length_le (by rw [List.length_map, hlen.out]; exact Nat.le_refl _)] at hy
      exact ⟨_, rfl, by rw [hy]; decide, hb⟩

theorem containsFuncV_calls (F : FuncId) (caps : Array Value) (G : Vx → Bool) (A : Option Addr) (n c : Nat) (R : List (CV × List Int)) (w : World) (lo hi : Nat) (h : RowsV 1048576 w lo hi A n R) (hn : n ≤ 1048576)
    (hF : ∀ (v : Value) (W : World), Sem.run Try.prog (callFunc F (#[v] ++ caps)) W = .ok (.enter F (#[v] ++ caps)) W)
    (hcl : ∀ (x y : Int) (Ah : Option Addr) (nh ch : Nat) (s : List Int) (W : World), Below w.heap.size w W → SlI W lo hi Ah nh s → nh ≤ 1048576 → Calls Try.prog F (#[.agg #[.int .i64 x, .int .i64 y, .slice Ah nh ch]] ++ caps) W (Says (G (x, y, s)) W)) :
    Calls Try.prog 52 #[.slice A n c, .func (.func F) #[] caps] w (Says ((R.map dV).any G) w) := by
  have q := hide (indexFuncV_calls F caps G A n c R w lo hi h hn hF hcl)
  clear h hF hcl
  go_enter Try.func52, Try.ntmps52
  go_wp2_with fail
  refine q.out.mono ?_
  rintro e w1 ⟨i, rfl, hi, hb⟩
  replace hi := hide hi
  go_wp2_with fail
  go_ret
  exact ⟨ret_b hi.out.symm, hb⟩

end Go.Proofs.Ythmhlbkkhaplkaa

namespace Go.Proofs.Ythmhlbkkhaplkaa
open Go.ChangeShapes Go.WideShapes Go.ChangeAt Go.RowKit
set_option linter.unusedVariables false

/-- A bool. -/
def bv (b : Bool) : List Value := [.bool b]
abbrev SlB := Sl 1 bv
theorem flat_bv : Flat bv 1 := ⟨fun _ => rfl, fun x u h => by simp [bv] at h; subst h; rfl⟩
theorem info_bool : (Try.prog.info? 4).map (fun i => (i.zero, i.size, i.bytes)) = some (some (.bool false), 1, 1) := by kernel_rfl
theorem elem_bool : Elem Try.prog 79 4 1 1 := Elem.of Try.underlying79 info_bool rfl (by omega) (by omega)
theorem elem_int64 : Elem Try.prog 26 2 1 8 := Elem.of Try.underlying26 info_int64 rfl (by omega) (by omega)

section
variable {w w' : World} {lo hi n : Nat} {A : Option Addr}
theorem SlB.get {l : List Bool} (h : SlB w lo hi A n l) {k : Nat} (hk : k < n) :
    ∃ b off, A = some ⟨b, off, none⟩ ∧ lo ≤ b ∧ b < hi ∧ b < w.heap.size ∧ l[k]? = some (inS l k) ∧ w.cell? ⟨b, off + k, none⟩ = some (.bool (inS l k)) ∧ w.frozen? ⟨b, off + k, none⟩ = false := by
  obtain ⟨b, off, e, g1, g2, g3, hc⟩ := h.at_ (by omega)
  have hl : k < l.length := by rw [h.len]; exact hk
  have h0 := hc k (inS l k) (inS_get hl) 0 _ rfl
  simp only [Nat.mul_one, Nat.add_zero] at h0
  exact ⟨b, off, e, g1, g2, g3, inS_get hl, h0.1, h0.2⟩
theorem SlB.put {b off : Nat} {l : List Bool} (h : SlB w lo hi (some ⟨b, off, none⟩) n l) {k : Nat} (hk : k < n) (x : Bool) : SlB (w.setCell ⟨b, off + k, none⟩ (.bool x)) lo hi (some ⟨b, off, none⟩) n (l.set k x) := by
  have := h.putN hk (fun _ => rfl) x
  simpa [putCells, bv] using this
theorem SlI.put' {b off : Nat} {l : List Int} (h : SlI w lo hi (some ⟨b, off, none⟩) n l) {k : Nat} (hk : k < n) (x : Int) : SlI (w.setCell ⟨b, off + k, none⟩ (.int .i64 x)) lo hi (some ⟨b, off, none⟩) n (l.set k x) := h.put hk x
end

/-- Made by make([]bool, n). -/
theorem SlB.made (w : World) (n : Nat) : SlB (w.alloc (.cells (madeCells #[.bool false] n) 4)) w.heap.size (w.heap.size + 1) (some ⟨w.heap.size, 0, none⟩) n (setOf n fun _ => false) := by
  refine ⟨setOf_len _ _, fun hn => ⟨w.heap.size, 0, rfl, Nat.le_refl _, by omega, by simp, fun k x hx j u hu => ?_⟩⟩
  have hk : k < n := by
    have := (List.getElem?_eq_some_iff.1 hx).1
    rwa [setOf_len] at this
  rw [setOf_get hk] at hx
  cases hx
  have hj : j = 0 := by
    have := (List.getElem?_eq_some_iff.1 hu).1
    simp [bv] at this
    exact this
  subst hj
  simp [bv] at hu
  subst hu
  have hg := heap_alloc_new w (.cells (madeCells #[.bool false] n) 4)
  refine ⟨(cell_of_row _ _ _ _ _ (0, 0) hg).trans ?_, frozen_of_row _ _ _ _ _ hg⟩
  simp [madeCells, Value.cells, hk, Nat.mod_one]

theorem run_make_bool (n : Nat) (hn : n ≤ 1048576) (W : World) : (Instr.makeSlice 79 (.int .i64 (n : Int)) (.int .i64 (n : Int))).run Try.prog W = .ok (.slice (some ⟨W.heap.size, 0, none⟩) n n) (W.alloc (.cells (madeCells #[.bool false] n) 4)) := by
  obtain ⟨i0, hi0, hz0, hz1, hz2⟩ := info_parts info_bool
  have h := make_row (P := Try.prog) 79 4 i0 _ _ n Try.underlying79 hi0 hz0 hz1 (by rw [hz2]; omega) (by omega) W
  rw [Nat.mul_one] at h
  exact h

theorem cloneB_calls (A : Option Addr) (n c : Nat) (l : List Bool) (w : World) (lo hi : Nat) (h : SlB w lo hi A n l) (hn : n ≤ 1048576) :
    Calls Try.prog 84 #[.slice A n c] w fun e w' => ∃ A' c', e = .returned (.slice A' n c') ∧ SlB w' w.heap.size w'.heap.size A' n l ∧ Below w.heap.size w w' := by
  have hnil : ∀ (W : World) (a : Option Addr) (m d : Nat), (binOp .eql 79 (.slice a m d) (.slice none 0 0)).run Try.prog W = .ok (.bool a.isNone) W := fun W a m d => Lib.run_eql_slice_nil W 79 _ a m d 0 0 Try.underlying79
  have hE := hide elem_bool
  cases A with
  | none =>
    have hn0 : n = 0 := by
      rcases Nat.eq_zero_or_pos n with h0 | h0
      · exact h0
      · obtain ⟨b, off, e, _⟩ := h.at_ h0
        cases e
    subst hn0
    have hl := List.eq_nil_of_length_eq_zero h.len
    subst hl
    go_enter Try.func84, Try.ntmps84
    go_wp2_with fail
    go_ret
    exact ⟨none, 0, rfl, Sl.nil_, Below.refl _ _⟩
  | some a =>
    have hs := hide (h.below ((Below.refl w.heap.size w).alloc (Nat.le_refl _) (.cells #[] 4)) (.inr (Nat.le_refl _)))
    have hz : w.heap.size ≤ (w.alloc (.cells #[] 4)).heap.size := by simp
    clear h
    go_enter Try.func84, Try.ntmps84
    go_wp2_with (first | (at_builtin; (with_reducible refine wpList_app rfl (.tmp 5) (.tmp 6) rfl hE.out flat_bv rfl (Own.made w 4 (Nat.le_refl _)) rfl hs.out ?c1 hz ?_); rotate_right; intro A2 c2 w2 hown2 hgr2 hb2 _))
    case c1 => omega
    go_ret
    rw [Nat.zero_add, List.nil_append] at hown2
    exact ⟨_, _, rfl, hown2.sl flat_bv, ((Below.refl _ _).alloc (Nat.le_refl _) _).trans hb2⟩

theorem idxK_step {l : List Bool} {k : Nat} (hk : k < l.length) : ((List.range (k + 1)).filter (inS l)).map Int.ofNat = ((List.range k).filter (inS l)).map Int.ofNat ++ (if inS l k = true then [(k : Int)] else []) := by
  rw [List.range_succ, List.filter_append, List.map_append]
  congr 1
  by_cases h : inS l k = true <;> simp [List.filter_cons, h]
theorem idxK_len (l : List Bool) (k : Nat) : (((List.range k).filter (inS l)).map Int.ofNat).length ≤ k := by
  rw [List.length_map]
  exact Nat.le_trans (List.length_filter_le _ _) (by simp)

set_option maxHeartbeats 800000 in
theorem trueAt_calls (A : Option Addr) (n c : Nat) (l : List Bool) (w : World) (lo hi : Nat) (h : SlB w lo hi A n l) (hn : n ≤ 1048576) :
    Calls Try.prog 85 #[.slice A n c] w fun e w' => ∃ A' c', e = .returned (.slice A' (idxOf l).length c') ∧ Own 1 iv w' w.heap.size 2 A' (idxOf l).length c' (idxOf l) ∧ Below w.heap.size w w' := by
  have hE := hide elem_int64
  have hlen := hide h.len
  replace h := hide h
  go_enter Try.func85, Try.ntmps85
  go_wp2
  go_loopw [3, 8] (fun v i wr => ∃ (k : Nat) (A2 : Option Addr) (m c2 : Nat), k ≤ n ∧ i = .int .i64 k ∧ v = .slice A2 m c2 ∧ Own 1 iv wr w.heap.size 2 A2 m c2 (((List.range k).filter (inS l)).map Int.ofNat) ∧ Below w.heap.size w wr) (fun _ i _ => n - (intOf i).toNat)
  case atStart => exact ⟨0, none, 0, 0, Nat.zero_le _, rfl, rfl, Own.nil_ _ _ _, Below.refl _ _⟩
  case round =>
    obtain ⟨k, A2, m, c2, hk, rfl, rfl, hown, hb⟩ := hrel
    have hm : m ≤ k := by have := idxK_len l k; rw [hown.len] at this; exact this
    replace hown := hide hown
    by_cases hlt : k < n
    · obtain ⟨b, off, rfl, g1, g2, g3, hx, c0, -⟩ := SlB.get (h.out.below hb (.inr (Nat.le_refl _))) hlt
      have hst := idxK_step (l := l) (k := k) (by rw [hlen.out]; exact hlt)
      have hz := hb.size
      clear h hx
      by_cases hq : inS l k = true
      · rw [if_pos hq] at hst
        replace hst := hide hst
        rw [hq] at c0
        clear hq
        have hza : w.heap.size ≤ (wr.alloc (.cells #[.int .i64 (k : Int)] 2)).heap.size := by simp; omega
        go_wp2_with (first | (at_builtin; (with_reducible refine wpList_app rfl (.tmp 14) (.tmp 16) rfl hE.out flat_iv rfl (hown.out.alloc _) rfl (Sl.lit1' wr 2 (k : Int) _ rfl 1 _ ?c0) ?c1 hza ?_); rotate_right; intro A5 c5 w5 hown5 hgr5 hb5 _))
        case c0 => rfl
        case c1 => omega
        go_roundw
        case rel => exact ⟨k + 1, A5, _, c5, by omega, by go_num, rfl, by rw [hst.out]; exact hown5, (hb.alloc hz _).trans hb5⟩
        case measure => simp [intOf]; omega
      · rw [if_neg hq, List.append_nil] at hst
        replace hst := hide hst
        rw [Bool.eq_false_iff.2 hq] at c0
        clear hq
        go_wp2
        go_roundw
        case rel => exact ⟨k + 1, A2, m, c2, by omega, by go_num, rfl, by rw [hst.out]; exact hown.out, hb⟩
        case measure => simp [intOf]; omega
    · have hkn : k = n := by omega
      subst hkn
      clear h
      have hl2 := hlen.out
      go_wp2
      go_ret
      subst hl2
      have hown' := hown.out
      have hml : m = (idxOf l).length := hown'.len.symm
      subst hml
      exact ⟨A2, c2, rfl, hown', hb⟩

set_option maxHeartbeats 800000 in
theorem l15True_calls (A : Option Addr) (n c : Nat) (l : List Bool) (w : World) (lo hi : Nat) (h : SlB w lo hi A n l) (hn : n ≤ 1048576) :
    Calls Try.prog 97 #[.slice A n c] w fun e w' => ∃ A' c', e = .returned (.slice A' (idxOf l).length c') ∧ Own 1 iv w' w.heap.size 2 A' (idxOf l).length c' (idxOf l) ∧ Below w.heap.size w w' := by
  have hE := hide elem_int64
  have hlen := hide h.len
  replace h := hide h
  go_enter Try.func97, Try.ntmps97
  go_wp2
  go_loopw [3, 4] (fun v i wr => ∃ (k : Nat) (A2 : Option Addr) (m c2 : Nat), k ≤ n ∧ i = .int .i64 k ∧ v = .slice A2 m c2 ∧ Own 1 iv wr w.heap.size 2 A2 m c2 (((List.range k).filter (inS l)).map Int.ofNat) ∧ Below w.heap.size w wr) (fun _ i _ => n - (intOf i).toNat)
  case atStart => exact ⟨0, _, 0, 0, Nat.zero_le _, rfl, rfl, Own.made w _ (Nat.le_refl _), (Below.refl _ _).alloc (Nat.le_refl _) _⟩
  case round =>
    obtain ⟨k, A2, m, c2, hk, rfl, rfl, hown, hb⟩ := hrel
    have hm : m ≤ k := by have := idxK_len l k; rw [hown.len] at this; exact this
    replace hown := hide hown
    by_cases hlt : k < n
    · obtain ⟨b, off, rfl, g1, g2, g3, hx, c0, -⟩ := SlB.get (h.out.below hb (.inr (Nat.le_refl _))) hlt
      have hst := idxK_step (l := l) (k := k) (by rw [hlen.out]; exact hlt)
      have hz := hb.size
      clear h hx
      by_cases hq : inS l k = true
      · rw [if_pos hq] at hst
        replace hst := hide hst
        rw [hq] at c0
        clear hq
        have hza : w.heap.size ≤ (wr.alloc (.cells #[.int .i64 (k : Int)] 2)).heap.size := by simp; omega
        go_wp2_with (first | (at_builtin; (with_reducible refine wpList_app rfl (.tmp 16) (.tmp 18) rfl hE.out flat_iv rfl (hown.out.alloc _) rfl (Sl.lit1' wr 2 (k : Int) _ rfl 1 _ ?c0) ?c1 hza ?_); rotate_right; intro A5 c5 w5 hown5 hgr5 hb5 _))
        case c0 => rfl
        case c1 => omega
        go_roundw
        case rel => exact ⟨k + 1, A5, _, c5, by omega, by go_num, rfl, by rw [hst.out]; exact hown5, (hb.alloc hz _).trans hb5⟩
        case measure => simp [intOf]; omega
      · rw [if_neg hq, List.append_nil] at hst
        replace hst := hide hst
        rw [Bool.eq_false_iff.2 hq] at c0
        clear hq
        go_wp2
        go_roundw
        case rel => exact ⟨k + 1, A2, m, c2, by omega, by go_num, rfl, by rw [hst.out]; exact hown.out, hb⟩
        case measure => simp [intOf]; omega
    · have hkn : k = n := by omega
      subst hkn
      clear h
      have hl2 := hlen.out
      go_wp2
      go_ret
      subst hl2
      have hown' := hown.out
      have hml : m = (idxOf l).length := hown'.len.symm
      subst hml
      exact ⟨A2, c2, rfl, hown', hb⟩

theorem indexTrue_calls (A : Option Addr) (n c : Nat) (l : List Bool) (w : World) (lo hi : Nat) (h : SlB w lo hi A n l) (hn : n ≤ 1048576) :
    Calls Try.prog 98 #[.slice A n c, .bool true] w fun e w' => ∃ i : Int, e = .returned (.int .i64 i) ∧ decide (0 ≤ i) = anyS l ∧ w = w' := by
  have hlen := hide h.len
  go_enter Try.func98, Try.ntmps98
  go_wp2
  go_loop [8] (fun i => ∃ k : Nat, k ≤ n ∧ i = .int .i64 k ∧ Hid (∀ j, j < k → inS l j = false)) (fun i => n - (intOf i).toNat)
  case atStart => exact ⟨0, Nat.zero_le _, rfl, fun j hj => absurd hj (by omega)⟩
  case round =>
    obtain ⟨k, hk, rfl, ha⟩ := hrel
    by_cases hlt : k < n
    · obtain ⟨b, off, rfl, g1, g2, g3, hx, c0, -⟩ := h.get hlt
      clear h hx
      by_cases hq : inS l k = true
      · have hy := hide (anyS_of (by rw [hlen.out]; exact hlt) hq)
        rw [hq] at c0
        clear hq
        go_wp2
        go_ret
        exact ⟨_, rfl, by rw [hy.out]; simp, rfl⟩
      · have hy : Hid (∀ j, j < k + 1 → inS l j = false) := fun j hj => by
          rcases Nat.lt_or_ge j k with h1 | h1
          · exact ha.out j h1
          · have : j = k := by omega
            subst this
            exact Bool.eq_false_iff.2 hq
        rw [Bool.eq_false_iff.2 hq] at c0
        clear hq
        go_wp2
        go_round
        case rel => exact ⟨k + 1, by omega, by go_num, hy⟩
        case measure => simp [intOf]; omega
    · have hkn : k = n := by omega
      subst hkn
      clear h
      go_wp2
      go_ret
      exact ⟨_, rfl, by rw [anyS_false (by rw [hlen.out]; exact ha.out)]; decide, rfl⟩

theorem containsTrue_calls (A : Option Addr) (n c : Nat) (l : List Bool) (w : World) (lo hi : Nat) (h : SlB w lo hi A n l) (hn : n ≤ 1048576) :
    Calls Try.prog 89 #[.slice A n c, .bool true] w fun e w' => e = .returned (.bool (anyS l)) ∧ w = w' := by
  have q := hide (indexTrue_calls A n c l w lo hi h hn)
  clear h
  go_enter Try.func89, Try.ntmps89
  go_wp2_with fail
  refine q.out.mono ?_
  rintro e w1 ⟨i, rfl, hi, rfl⟩
  replace hi := hide hi
  go_wp2_with fail
  go_ret
  exact ⟨ret_b hi.out.symm, rfl⟩

theorem truth_calls (b : Bool) (w : World) : Calls Try.prog 61 #[.bool b] w fun e w' => e = .returned (.int .i64 (if b then 1 else 0)) ∧ w = w' := by
  cases b
  all_goals
    go_enter Try.func61, Try.ntmps61
    go_wp2
    go_ret
    exact ⟨rfl, rfl⟩
theorem l03Truth_calls (b : Bool) (w : World) : Calls Try.prog 81 #[.bool b] w fun e w' => e = .returned (.int .i64 (if b then 1 else 0)) ∧ w = w' := by
  cases b
  all_goals
    go_enter Try.func81, Try.ntmps81
    go_wp2
    go_ret
    exact ⟨rfl, rfl⟩

end Go.Proofs.Ythmhlbkkhaplkaa

namespace Go.Proofs.Ythmhlbkkhaplkaa
open Go.ChangeShapes Go.WideShapes Go.ChangeAt Go.RowKit
set_option linter.unusedVariables false

theorem same_quiet {P : Program} {f : FuncId} {args : Array Value} {w : World} {n : Nat} {v : Value} (h : Calls P f args (w.drewN n) fun e w' => e = .returned v ∧ w.drewN n = w') :
    Calls P f args (w.drewN n) fun e w'' => e = .returned v ∧ ∃ m, w'' = w.drewN m := h.mono fun _ _ ⟨he, hm⟩ => ⟨he, n, hm.symm⟩
theorem below_drewN (w : World) (k : Nat) : Below w.heap.size w (w.drewN k) := ⟨rfl, rfl, rfl, Nat.le_refl _, fun _ _ => rfl⟩

theorem within_calls (n lo hi : Int) (w : World) :
    Calls Try.prog 51 #[.int .i64 n, .int .i64 lo, .int .i64 hi] w fun e w' => e = .returned (.bool (inB n lo hi)) ∧ w = w' := by
  by_cases h : lo ≤ n
  · have hr := hide (show inB n lo hi = decide (n ≤ hi) from by unfold inB; simp [h])
    go_enter Try.func51, Try.ntmps51
    go_wp2
    go_ret
    exact ⟨ret_b (by rw [hr.out]), rfl⟩
  · have hr := hide (show inB n lo hi = false from by unfold inB; simp [h])
    go_enter Try.func51, Try.ntmps51
    go_wp2
    go_ret
    exact ⟨ret_b (by rw [hr.out]), rfl⟩
theorem index_calls (x : Int) (m : Nat) (hm : m ≤ 1048576) (w : World) :
    Calls Try.prog 41 #[.int .i64 x, .int .i64 m] w fun e w' => e = .returned (.bool (inB x 0 ((m : Int) - 1))) ∧ w = w' := by
  go_enter Try.func41, Try.ntmps41
  go_wp2_with (go_at_call 51; refine (within_calls _ _ _ _).mono ?_; rintro e w' ⟨rfl, rfl⟩)
  go_ret
  exact ⟨rfl, rfl⟩

theorem inB_true {n lo hi : Int} : inB n lo hi = true ↔ lo ≤ n ∧ n ≤ hi := by unfold inB; simp
theorem inB_false {n lo hi : Int} : inB n lo hi = false ↔ ¬ (lo ≤ n ∧ n ≤ hi) := by rw [← inB_true]; simp
theorem vx_eq (m : Int) (x : Vx) : decide (VxOk m x) = (inB x.1 0 1 && (inB x.2.1 0 9 && decide (Inc m x.2.2))) := by
  unfold VxOk
  rw [Bool.eq_iff_iff]
  simp [inB_true, and_assoc]

set_option maxHeartbeats 800000 in
theorem increasing_calls (A : Option Addr) (n c : Nat) (l : List Int) (m : Nat) (hm : m ≤ 1048576) (w : World) (lo hi : Nat) (h : SlI w lo hi A n l) (hn : n ≤ maxLen) :
    Calls Try.prog 37 #[.slice A n c, .int .i64 m] w fun e w' => e = .returned (.bool (decide (Inc m l))) ∧ w = w' := by
  have hn' : n ≤ 9223372036854775807 := by unfold maxLen at hn; omega
  have hlen := hide h.len
  replace h := hide h
  clear hn
  go_enter Try.func37, Try.ntmps37
  go_wp2
  go_loop [9] (fun i => ∃ k : Nat, k ≤ n ∧ i = .int .i64 k ∧ Hid (Inc m (l.take k))) (fun i => n - (intOf i).toNat)
  case atStart => exact ⟨0, Nat.zero_le _, rfl, by show Inc m (l.take 0); rw [List.take_zero]; exact Inc.nil_ _⟩
  case round =>
    obtain ⟨k, hk, rfl, ha⟩ := hrel
    by_cases hlt : k < n
    · obtain ⟨b, off, x, eA, g1, g2, g3, hx, c0, -⟩ := h.out.get hlt
      by_cases hr : 0 ≤ x ∧ x < m
      · have hin : inB x 0 ((m : Int) - 1) = true := inB_true.2 (by omega)
        by_cases hk0 : 0 < k
        · obtain ⟨b', off', y, eA', -, -, -, hy, d0, -⟩ := h.out.get (show k - 1 < n by omega)
          rw [eA] at eA'
          cases eA'
          subst eA
          clear h
          by_cases hyx : x ≤ y
          · have hv : Hid (decide (Inc m l) = false) := decide_eq_false (Inc.fall (k := k - 1) hy (by rw [show k - 1 + 1 = k by omega]; exact hx) hyx)
            clear hx hy hr
            go_wp2_with (go_at_call 41; (with_reducible refine (index_calls _ _ hm _).mono ?_); rintro e w' ⟨rfl, rfl⟩)
            go_ret
            exact ⟨ret_b (by rw [hv.out]), rfl⟩
          · have hnext : Hid (Inc m (l.take (k + 1))) := by
              have h1 := ha.out
              rw [show k = k - 1 + 1 by omega] at h1 ⊢
              exact h1.step hy (by rw [show k - 1 + 1 = k by omega]; exact hx) hr (by omega)
            clear hx hy hr
            go_wp2_with (go_at_call 41; (with_reducible refine (index_calls _ _ hm _).mono ?_); rintro e w' ⟨rfl, rfl⟩)
            go_round
            case rel => exact ⟨k + 1, by omega, by go_num, hnext⟩
            case measure => simp [intOf]; omega
        · have hnext : Hid (Inc m (l.take (k + 1))) := by
            have : k = 0 := by omega
            subst this
            exact Inc.one hx hr
          subst eA
          clear h hx hr
          go_wp2_with (go_at_call 41; (with_reducible refine (index_calls _ _ hm _).mono ?_); rintro e w' ⟨rfl, rfl⟩)
          go_round
          case rel => exact ⟨k + 1, by omega, by go_num, hnext⟩
          case measure => simp [intOf]; omega
      · have hin : inB x 0 ((m : Int) - 1) = false := inB_false.2 (by omega)
        have hv : Hid (decide (Inc m l) = false) := decide_eq_false (Inc.bad hx hr)
        subst eA
        clear h hx hr
        go_wp2_with (go_at_call 41; (with_reducible refine (index_calls _ _ hm _).mono ?_); rintro e w' ⟨rfl, rfl⟩)
        go_ret
        exact ⟨ret_b (by rw [hv.out]), rfl⟩
    · have hkn : k = n := by omega
      subst hkn
      have ha' := ha.out
      rw [List.take_of_length_le (by rw [hlen.out]; exact Nat.le_refl _)] at ha'
      have hv : Hid (decide (Inc m l) = true) := decide_eq_true ha'
      clear h ha ha'
      go_wp2
      go_ret
      exact ⟨ret_b (by rw [hv.out]), rfl⟩

end Go.Proofs.Ythmhlbkkhaplkaa

namespace Go.Proofs.Ythmhlbkkhaplkaa
open Go.ChangeShapes Go.WideShapes Go.ChangeAt Go.RowKit
set_option linter.unusedVariables false

set_option maxRecDepth 100000 in
theorem validGame1_calls (o p : Int) (Ah : Option Addr) (nh ch : Nat) (s : List Int) (bg : Nat) (Ag : Option Addr) (m cg : Nat) (W : World) (lo hi : Nat) (h : SlI W lo hi Ah nh s) (hn : nh ≤ 1048576) (hm : m ≤ 1048576)
    (hc : W.cell? ⟨bg, 0, none⟩ = some (.slice Ag m cg)) (hbg : bg < W.heap.size) :
    Calls Try.prog 53 #[.agg #[.int .i64 o, .int .i64 p, .slice Ah nh ch], .pointer (some ⟨bg, 0, none⟩)] W (Says (!decide (VxOk m (o, p, s))) W) := by
  have hb0 := hide ((Below.refl W.heap.size W).alloc (Nat.le_refl _) (.cells #[.int .i64 o, .int .i64 p, .slice Ah nh ch] 49))
  have q := hide (increasing_calls Ah nh ch s m hm (W.alloc (.cells #[.int .i64 o, .int .i64 p, .slice Ah nh ch] 49)) lo hi (h.below hb0.out (.inr (Nat.le_refl _))) (by unfold maxLen; omega))
  have hv := vx_eq m (o, p, s)
  dsimp only at hv
  clear h
  by_cases z0 : inB o 0 1 = true
  · by_cases z1 : inB p 0 9 = true
    · rw [z0, z1] at hv
      simp only [Bool.true_and] at hv
      by_cases z2 : decide (Inc m s) = true
      · rw [z2] at hv
        replace hv := hide hv
        go_enter Try.func53, Try.ntmps53
        go_wp2_with (first | (go_at_call 51; (with_reducible refine (within_calls _ _ _ _).mono ?_); rintro e w' ⟨rfl, rfl⟩) | (go_at_call 37; (with_reducible refine q.out.mono ?_); rintro e w' ⟨rfl, rfl⟩))
        go_ret
        exact ⟨ret_b (by rw [hv.out]; rfl), hb0.out⟩
      · replace z2 := Bool.eq_false_iff.2 z2
        rw [z2] at hv
        replace hv := hide hv
        go_enter Try.func53, Try.ntmps53
        go_wp2_with (first | (go_at_call 51; (with_reducible refine (within_calls _ _ _ _).mono ?_); rintro e w' ⟨rfl, rfl⟩) | (go_at_call 37; (with_reducible refine q.out.mono ?_); rintro e w' ⟨rfl, rfl⟩))
        go_ret
        exact ⟨ret_b (by rw [hv.out]; rfl), hb0.out⟩
    · replace z1 := Bool.eq_false_iff.2 z1
      rw [z0, z1] at hv
      replace hv := hide hv
      go_enter Try.func53, Try.ntmps53
      go_wp2_with (first | (go_at_call 51; (with_reducible refine (within_calls _ _ _ _).mono ?_); rintro e w' ⟨rfl, rfl⟩))
      go_ret
      exact ⟨ret_b (by rw [hv.out]; rfl), hb0.out⟩
  · replace z0 := Bool.eq_false_iff.2 z0
    rw [z0] at hv
    replace hv := hide hv
    go_enter Try.func53, Try.ntmps53
    go_wp2_with (first | (go_at_call 51; (with_reducible refine (within_calls _ _ _ _).mono ?_); rintro e w' ⟨rfl, rfl⟩))
    go_ret
    exact ⟨ret_b (by rw [hv.out]; rfl), hb0.out⟩

theorem game_any {g : DV} (hl : 1 ≤ g.length ∧ g.length ≤ 120) : decide (GameOk g) = !(g.any fun x => !decide (VxOk g.length x)) := by
  by_cases h : ∀ x, x ∈ g → VxOk g.length x
  · have h1 : (g.any fun x => !decide (VxOk g.length x)) = false := List.any_eq_false.2 fun x hx => by simp [h x hx]
    rw [decide_eq_true (show GameOk g from ⟨hl, h⟩), h1]
    rfl
  · have h1 : (g.any fun x => !decide (VxOk g.length x)) = true := by
      rw [List.any_eq_true]
      exact Classical.byContradiction fun hn => h fun x hx => Classical.byContradiction fun hv => hn ⟨x, hx, by simp [hv]⟩
    rw [decide_eq_false (fun hg : GameOk g => h hg.2), h1]
    rfl

set_option maxRecDepth 100000 in
theorem validGame_calls (A : Option Addr) (n c : Nat) (R : List (CV × List Int)) (w : World) (lo hi : Nat) (h : RowsV 1048576 w lo hi A n R) (hn : n ≤ 1048576) :
    Calls Try.prog 23 #[.slice A n c] w (Says (decide (GameOk (R.map dV))) w) := by
  have hb0 := hide ((Below.refl w.heap.size w).alloc (Nat.le_refl _) (.cells #[.slice A n c] 25))
  have hlen : (R.map dV).length = n := by rw [List.length_map, h.len]
  by_cases hr : 1 ≤ n ∧ n ≤ 120
  · have hin : inB (n : Int) 1 120 = true := inB_true.2 (by omega)
    have hv := game_any (g := R.map dV) (by rw [hlen]; exact hr)
    rw [hlen] at hv
    have hcell := fun (W : World) (hW : Below (w.heap.size + 1) (w.alloc (.cells #[.slice A n c] 25)) W) => (hW.cell (p := ⟨w.heap.size, 0, none⟩) (by show w.heap.size < _; omega)).trans (show (w.alloc (.cells #[.slice A n c] 25)).cell? ⟨w.heap.size, 0, none⟩ = some (.slice A n c) from (cell_of_row _ _ 0 _ _ (0, 0) (heap_alloc_new w _)).trans rfl)
    have q := containsFuncV_calls 53 #[.pointer (some ⟨w.heap.size, 0, none⟩)] (fun x => !decide (VxOk n x)) A n c R (w.alloc (.cells #[.slice A n c] 25)) lo hi (h.below hb0.out (.inr (Nat.le_refl _))) hn (fun v W => by kernel_rfl)
      (fun x y Ah nh ch s W hW hs hnh => validGame1_calls x y Ah nh ch s w.heap.size A n c W lo hi hs hnh hn (hcell W (by simpa using hW)) (by have := hW.size; simp at this; omega))
    rw [hlen] at *
    replace q := hide q
    replace hv := hide hv
    clear h hcell hr
    go_enter Try.func23, Try.ntmps23
    go_wp2_with (first | (go_at_call 51; (with_reducible refine (within_calls _ _ _ _).mono ?_); rintro e w' ⟨rfl, rfl⟩) | (go_at_call 52; refine q.out.mono ?_; rintro e w1 ⟨rfl, hb1⟩))
    go_ret
    exact ⟨ret_b (by rw [hv.out, List.any_map]), hb0.out.trans (hb1.mono hb0.out.size)⟩
  · have hin : inB (n : Int) 1 120 = false := inB_false.2 (by omega)
    have hv : Hid (decide (GameOk (R.map dV)) = false) := decide_eq_false fun hg => hr (by have := hg.1; rwa [hlen] at this)
    clear h hr hlen
    go_enter Try.func23, Try.ntmps23
    go_wp2_with (first | (go_at_call 51; (with_reducible refine (within_calls _ _ _ _).mono ?_); rintro e w' ⟨rfl, rfl⟩))
    go_ret
    exact ⟨ret_b (by rw [hv.out]), hb0.out⟩

end Go.Proofs.Ythmhlbkkhaplkaa

namespace Go.Proofs.Ythmhlbkkhaplkaa
open Go.RowKit
set_option linter.unusedVariables false

theorem Sl.tight' {α : Type} {size : Nat} {f : α → List Value} {w : World} {lo hi n b off : Nat} {l : List α} (h : Sl size f w lo hi (some ⟨b, off, none⟩) n l) (hn : 0 < n) : Sl size f w b (b + 1) (some ⟨b, off, none⟩) n l := by
  have := h.tight 0
  rwa [spanOf_pos b off 0 hn] at this

/-- A game lies here. -/
def GameAt (w : World) (A : Option Addr) (n : Nat) (g : DV) : Prop := ∃ R, RowsV 1048576 w 0 w.heap.size A n R ∧ R.map dV = g ∧ n = g.length
/-- A set lies here. -/
def SetAt (w : World) (A : Option Addr) (n : Nat) (s : List Bool) : Prop := SlB w 0 w.heap.size A n s

section
variable {w w' : World} {A : Option Addr} {n b off k lo hi : Nat} {g : DV} {s : List Bool}
theorem GameAt.len (h : GameAt w A n g) : n = g.length := by obtain ⟨R, _, _, h⟩ := h; exact h
theorem SetAt.len (h : SetAt w A n s) : s.length = n := Sl.len h
theorem SetAt.sl (h : SetAt w A n s) : Sl 1 bv w 0 w.heap.size A n s := h
theorem GameAt.below {B : Nat} (h : GameAt w A n g) (hb : Below B w w') (hB : w.heap.size ≤ B) : GameAt w' A n g := by
  obtain ⟨R, h1, h2, h3⟩ := h
  exact ⟨R, (h1.below hb (.inl hB)).more (Nat.le_refl _) hb.size, h2, h3⟩
theorem SetAt.below {B : Nat} (h : SetAt w A n s) (hb : Below B w w') (hB : w.heap.size ≤ B) : SetAt w' A n s := (Sl.below h hb (.inl hB)).more (Nat.le_refl _) hb.size
theorem GameAt.drewN (h : GameAt w A n g) (k : Nat) : GameAt (w.drewN k) A n g := h.below (below_drewN w k) (Nat.le_refl _)
theorem SetAt.drewN (h : SetAt w A n s) (k : Nat) : SetAt (w.drewN k) A n s := h.below (below_drewN w k) (Nat.le_refl _)
theorem SlB.at_set (h : SlB w lo hi A n s) : SetAt w A n s := h.top.more (Nat.zero_le _) (Nat.le_refl _)
theorem GameAt.addr (h : GameAt w A n g) (hn : 0 < n) : ∃ b off, A = some ⟨b, off, none⟩ ∧ b < w.heap.size := by
  obtain ⟨R, h1, _⟩ := h
  obtain ⟨b, off, e, _, _, h3, _⟩ := h1.outer.at_ hn
  exact ⟨b, off, e, h3⟩
theorem SetAt.addr (h : SetAt w A n s) (hn : 0 < n) : ∃ b off, A = some ⟨b, off, none⟩ ∧ b < w.heap.size := by
  obtain ⟨b, off, e, _, _, h3, _⟩ := Sl.at_ h hn
  exact ⟨b, off, e, h3⟩
theorem SlB.cell (h : SlB w lo hi (some ⟨b, off, none⟩) n s) (hk : k < n) : w.cell? ⟨b, off + k, none⟩ = some (.bool (inS s k)) ∧ w.frozen? ⟨b, off + k, none⟩ = false ∧ lo ≤ b ∧ b < hi ∧ b < w.heap.size := by
  obtain ⟨b', off', e, h1, h2, h3, _, h4, h5⟩ := h.get hk
  cases e
  exact ⟨h4, h5, h1, h2, h3⟩
theorem SetAt.cell (h : SetAt w (some ⟨b, off, none⟩) n s) (hk : k < n) : w.cell? ⟨b, off + k, none⟩ = some (.bool (inS s k)) := (SlB.cell h hk).1
theorem SlI.cell {l : List Int} (h : SlI w lo hi (some ⟨b, off, none⟩) n l) (hk : k < n) : ∃ x, l[k]? = some x ∧ w.cell? ⟨b, off + k, none⟩ = some (.int .i64 x) ∧ w.frozen? ⟨b, off + k, none⟩ = false := by
  obtain ⟨b', off', x, e, h1, h2, h3, h4, h5, h6⟩ := h.get hk
  cases e
  exact ⟨x, h4, h5, h6⟩
/-- Vertex k. -/
theorem GameAt.cell (h : GameAt w (some ⟨b, off, none⟩) n g) (ok : GameOk g) (hk : k < n) :
    ∃ o p l Ah nh ch, g[k]? = some (o, p, l) ∧ w.cell? ⟨b, off + k * 3, none⟩ = some (.int .i64 o) ∧ w.cell? ⟨b, off + k * 3 + 1, none⟩ = some (.int .i64 p) ∧ w.cell? ⟨b, off + k * 3 + 2, none⟩ = some (.slice Ah nh ch) ∧
      SlI w 0 w.heap.size Ah nh l ∧ nh ≤ 1048576 ∧ (0 ≤ o ∧ o ≤ 1) ∧ (0 ≤ p ∧ p ≤ 9) ∧ Inc n l := by
  obtain ⟨R, h1, rfl, h3⟩ := h
  obtain ⟨b', off', o, p, Ah, nh, ch, l, e, g1, g2, g3, hx, c0, c1, c2, -, -, hs, hn⟩ := h1.atV hk
  cases e
  have hx2 : (R.map dV)[k]? = some (o, p, l) := by rw [List.getElem?_map, hx]; rfl
  have hv := ok.at_ hx2
  rw [← h3] at hv
  exact ⟨o, p, l, Ah, nh, ch, hx2, c0, c1, c2, hs, hn, hv.1, hv.2.1, hv.2.2⟩
end

end Go.Proofs.Ythmhlbkkhaplkaa

namespace Go.Proofs.Ythmhlbkkhaplkaa
open Go.ChangeShapes Go.WideShapes Go.ChangeAt Go.RowKit
set_option linter.unusedVariables false

theorem l23Whole_calls (n : Nat) (w : World) (hn : n ≤ 1048576) :
    Calls Try.prog 76 #[.int .i64 n] w fun e w' => ∃ A' c', e = .returned (.slice A' n c') ∧ SlB w' w.heap.size w'.heap.size A' n (setOf n fun _ => true) ∧ Below w.heap.size w w' := by
  have hmk := run_make_bool n hn
  have hstart := SlB.made w n
  rw [← setK_zero n (fun _ => true)] at hstart
  replace hstart := hide hstart
  go_enter Try.func76, Try.ntmps76
  go_wp2
  go_loopw [4] (fun i wr => ∃ k : Nat, k ≤ n ∧ i = .int .i64 k ∧ SlB wr w.heap.size (w.heap.size + 1) (some ⟨w.heap.size, 0, none⟩) n (setK n k fun _ => true) ∧ Below w.heap.size w wr ∧ w.heap.size < wr.heap.size) (fun i _ => n - (intOf i).toNat)
  case atStart => exact ⟨0, Nat.zero_le _, rfl, hstart.out, (Below.refl _ _).alloc (Nat.le_refl _) _, by simp⟩
  case round =>
    obtain ⟨k, hk, rfl, hs, hb, hz⟩ := hrel
    clear hmk hstart
    by_cases hlt : k < n
    · obtain ⟨c0, z0, -, -, -⟩ := SlB.cell hs hlt
      rw [Nat.zero_add] at c0 z0
      have hnext := hs.put hlt true
      rw [setK_step hlt rfl, Nat.zero_add] at hnext
      replace hnext := hide hnext
      clear hs
      go_wp2
      go_roundw
      case rel => exact ⟨k + 1, by omega, by go_num, hnext.out, hb.setCell (Nat.le_refl _) _, by rw [World.size_setCell]; exact hz⟩
      case measure => simp [intOf]; omega
    · have hkn : k = n := by omega
      subst hkn
      rw [setK_all] at hs
      replace hs := hide hs
      go_wp2
      go_ret
      exact ⟨_, _, rfl, hs.out.more (Nat.le_refl _) hz, hb⟩

set_option maxHeartbeats 800000 in
theorem l23Less_calls (A B : Option Addr) (n c d : Nat) (a b : List Bool) (w : World) (ha : SetAt w A n a) (hb0 : SetAt w B n b) (hn : n ≤ 1048576) :
    Calls Try.prog 79 #[.slice A n c, .slice B n d] w fun e w' => ∃ A' c', e = .returned (.slice A' n c') ∧ SlB w' w.heap.size w'.heap.size A' n (setOf n fun v => inS a v && !inS b v) ∧ Below w.heap.size w w' := by
  have hE := hide elem_bool
  replace ha := hide ha
  replace hb0 := hide hb0
  go_enter Try.func79, Try.ntmps79
  go_wp2
  go_loopw [5, 6] (fun v i wr => ∃ (k : Nat) (A2 : Option Addr) (c2 : Nat), k ≤ n ∧ i = .int .i64 k ∧ v = .slice A2 k c2 ∧ Own 1 bv wr w.heap.size 4 A2 k c2 ((List.range k).map fun v => inS a v && !inS b v) ∧ Below w.heap.size w wr) (fun _ i _ => n - (intOf i).toNat)
  case atStart => exact ⟨0, _, 0, Nat.zero_le _, rfl, rfl, Own.made w _ (Nat.le_refl _), (Below.refl _ _).alloc (Nat.le_refl _) _⟩
  case round =>
    obtain ⟨k, A2, c2, hk, rfl, rfl, hown, hb⟩ := hrel
    replace hown := hide hown
    by_cases hlt : k < n
    · obtain ⟨b1, o1, rfl, -⟩ := SetAt.addr ha.out (by omega)
      obtain ⟨b2, o2, rfl, -⟩ := SetAt.addr hb0.out (by omega)
      have p0 := (ha.out.below hb (Nat.le_refl _)).cell hlt
      have q0 := (hb0.out.below hb (Nat.le_refl _)).cell hlt
      have hz := hb.size
      have hst := range_map_step (fun v => inS a v && !inS b v) k
      clear ha hb0
      by_cases z1 : inS a k = true
      · rw [z1] at p0
        rw [z1, Bool.true_and] at hst
        by_cases z2 : inS b k = true
        · rw [z2] at q0 hst
          replace hst := hide hst
          clear z1 z2
          have hza : w.heap.size ≤ (wr.alloc (.cells #[.bool false] 4)).heap.size := by simp; omega
          go_wp2_with (first | (at_builtin; (with_reducible refine wpList_app rfl (.tmp 14) (.tmp 26) rfl hE.out flat_bv rfl (hown.out.alloc _) rfl (Sl.lit1' wr 4 false _ rfl 1 _ ?c0) ?c1 hza ?_); rotate_right; intro A5 c5 w5 hown5 hgr5 hb5 _))
          case c0 => rfl
          case c1 => omega
          go_roundw
          case rel => exact ⟨k + 1, A5, c5, by omega, by go_num, rfl, by rw [hst.out]; exact hown5, (hb.alloc hz _).trans hb5⟩
          case measure => simp [intOf]; omega
        · replace z2 := Bool.eq_false_iff.2 z2
          rw [z2] at q0 hst
          replace hst := hide hst
          clear z1 z2
          have hza : w.heap.size ≤ (wr.alloc (.cells #[.bool true] 4)).heap.size := by simp; omega
          go_wp2_with (first | (at_builtin; (with_reducible refine wpList_app rfl (.tmp 14) (.tmp 26) rfl hE.out flat_bv rfl (hown.out.alloc _) rfl (Sl.lit1' wr 4 true _ rfl 1 _ ?c0) ?c1 hza ?_); rotate_right; intro A5 c5 w5 hown5 hgr5 hb5 _))
          case c0 => rfl
          case c1 => omega
          go_roundw
          case rel => exact ⟨k + 1, A5, c5, by omega, by go_num, rfl, by rw [hst.out]; exact hown5, (hb.alloc hz _).trans hb5⟩
          case measure => simp [intOf]; omega
      · replace z1 := Bool.eq_false_iff.2 z1
        rw [z1] at p0
        rw [z1, Bool.false_and] at hst
        replace hst := hide hst
        clear z1 q0
        have hza : w.heap.size ≤ (wr.alloc (.cells #[.bool false] 4)).heap.size := by simp; omega
        go_wp2_with (first | (at_builtin; (with_reducible refine wpList_app rfl (.tmp 14) (.tmp 26) rfl hE.out flat_bv rfl (hown.out.alloc _) rfl (Sl.lit1' wr 4 false _ rfl 1 _ ?c0) ?c1 hza ?_); rotate_right; intro A5 c5 w5 hown5 hgr5 hb5 _))
        case c0 => rfl
        case c1 => omega
        go_roundw
        case rel => exact ⟨k + 1, A5, c5, by omega, by go_num, rfl, by rw [hst.out]; exact hown5, (hb.alloc hz _).trans hb5⟩
        case measure => simp [intOf]; omega
    · have hkn : k = n := by omega
      subst hkn
      clear ha hb0
      go_wp2
      go_ret
      exact ⟨_, _, rfl, hown.out.sl flat_bv, hb⟩

set_option maxHeartbeats 1600000 in
theorem l23Ends_calls (A B : Option Addr) (n c d : Nat) (g : DV) (alive : List Bool) (player : Int) (w : World) (hg : GameAt w A n g) (ok : GameOk g) (ha : SetAt w B n alive) :
    Calls Try.prog 78 #[.slice A n c, .slice B n d, .int .i64 player] w fun e w' => ∃ A' c', e = .returned (.slice A' n c') ∧ SlB w' w.heap.size w'.heap.size A' n (setOf n fun v => inS alive v && decide (gOwn g v = player) && (gNxt g v).isEmpty) ∧ Below w.heap.size w w' := by
  have hgl := hg.len
  have hn : 0 < n ∧ n ≤ 120 := by have := ok.1; omega
  obtain ⟨hn0, hn1⟩ := hn
  have hmk := run_make_bool n (by omega)
  have hstart := SlB.made w n
  rw [← setK_zero n (fun v => inS alive v && decide (gOwn g v = player) && (gNxt g v).isEmpty)] at hstart
  replace hstart := hide hstart
  obtain ⟨b1, o1, rfl, hb1⟩ := hg.addr hn0
  obtain ⟨b2, o2, rfl, hb2⟩ := ha.addr hn0
  replace hg := hide hg
  replace ha := hide ha
  replace hgl := hide hgl
  replace ok := hide ok
  go_enter Try.func78, Try.ntmps78
  go_wp2
  go_loopw [8] (fun i wr => ∃ k : Nat, k ≤ n ∧ i = .int .i64 k ∧ SlB wr w.heap.size (w.heap.size + 1) (some ⟨w.heap.size, 0, none⟩) n (setK n k fun v => inS alive v && decide (gOwn g v = player) && (gNxt g v).isEmpty) ∧ Below w.heap.size w wr ∧ w.heap.size < wr.heap.size) (fun i _ => n - (intOf i).toNat)
  case atStart => exact ⟨0, Nat.zero_le _, rfl, hstart.out, (Below.refl _ _).alloc (Nat.le_refl _) _, by simp⟩
  case round =>
    obtain ⟨k, hk, rfl, hs, hb, hz⟩ := hrel
    clear hmk hstart
    by_cases hlt : k < n
    · obtain ⟨s0, z0, -, -, -⟩ := SlB.cell hs hlt
      rw [Nat.zero_add] at s0 z0
      obtain ⟨o, p, l, Ah, nh, ch, hx, c0, c1, c2, hl, -, -, -, -⟩ := (hg.out.below hb (Nat.le_refl _)).cell ok.out hlt
      have a0 := (ha.out.below hb (Nat.le_refl _)).cell hlt
      have hnext := fun v (hv : v = (inS alive k && decide (gOwn g k = player) && (gNxt g k).isEmpty)) => setK_step (p := fun v => inS alive v && decide (gOwn g v = player) && (gNxt g v).isEmpty) hlt hv
      have hput := fun v => hs.put hlt v
      rw [gOwn_at hx, gNxt_at hx] at hnext
      have hll : (l.map Int.toNat).isEmpty = decide (nh = 0) := by
        have := hl.len
        cases l <;> simp at this ⊢ <;> omega
      rw [hll] at hnext
      clear hl hx hll
      have hfin : ∀ v, v = (inS alive k && decide (o = player) && decide (nh = 0)) → SlB (wr.setCell ⟨w.heap.size, k, none⟩ (.bool v)) w.heap.size (w.heap.size + 1) (some ⟨w.heap.size, 0, none⟩) n (setK n (k + 1) fun v => inS alive v && decide (gOwn g v = player) && (gNxt g v).isEmpty) := fun v hv => by
        have := hput v
        rwa [hnext v hv, Nat.zero_add] at this
      replace hfin := hide hfin
      clear hput hnext hs hg ha
      by_cases z1 : inS alive k = true
      · rw [z1] at a0 hfin
        by_cases z2 : o = player
        · have e2 : (o == player) = true := by simpa using z2
          by_cases z3 : nh = 0
          · have e3 : ((nh : Int) == 0) = true := by simpa using z3
            have hf := hide (hfin.out true (by simp [z2, z3]))
            clear z1 z2 z3 hfin
            go_wp2
            go_roundw
            case rel => exact ⟨k + 1, by omega, by go_num, hf.out, hb.setCell (Nat.le_refl _) _, by rw [World.size_setCell]; exact hz⟩
            case measure => simp [intOf]; omega
          · have e3 : ((nh : Int) == 0) = false := by rw [beq_eq_false_iff_ne]; omega
            have hf := hide (hfin.out false (by simp [z3]))
            clear z1 z2 z3 hfin
            go_wp2
            go_roundw
            case rel => exact ⟨k + 1, by omega, by go_num, hf.out, hb.setCell (Nat.le_refl _) _, by rw [World.size_setCell]; exact hz⟩
            case measure => simp [intOf]; omega
        · have e2 : (o == player) = false := by simpa using z2
          have hf := hide (hfin.out false (by simp [z2]))
          clear z1 z2 hfin
          go_wp2
          go_roundw
          case rel => exact ⟨k + 1, by omega, by go_num, hf.out, hb.setCell (Nat.le_refl _) _, by rw [World.size_setCell]; exact hz⟩
          case measure => simp [intOf]; omega
      · replace z1 := Bool.eq_false_iff.2 z1
        rw [z1] at a0 hfin
        have hf := hide (hfin.out false (by simp))
        clear z1 hfin
        go_wp2
        go_roundw
        case rel => exact ⟨k + 1, by omega, by go_num, hf.out, hb.setCell (Nat.le_refl _) _, by rw [World.size_setCell]; exact hz⟩
        case measure => simp [intOf]; omega
    · have hkn : k = n := by omega
      subst hkn
      rw [setK_all] at hs
      replace hs := hide hs
      go_wp2
      go_ret
      exact ⟨_, _, rfl, hs.out.more (Nat.le_refl _) hz, hb⟩

end Go.Proofs.Ythmhlbkkhaplkaa

namespace Go.Proofs.Ythmhlbkkhaplkaa
open Go.ChangeShapes Go.WideShapes Go.ChangeAt Go.RowKit
set_option linter.unusedVariables false

theorem hit_own {s a y : Bool} : hitB true s a y = s := by simp [hitB]
theorem hit_other {s a y : Bool} : hitB false s a y = (y && a) := by simp [hitB]

set_option maxHeartbeats 3200000 in
set_option maxRecDepth 100000 in
theorem l23Attract_calls (A B C : Option Addr) (n c d e : Nat) (g : DV) (alive set : List Bool) (player : Int) (w : World) (hg : GameAt w A n g) (ok : GameOk g) (ha : SetAt w B n alive) (hset : SetAt w C n set) :
    Calls Try.prog 77 #[.slice A n c, .slice B n d, .int .i64 player, .slice C n e] w fun e w' => ∃ A' c', e = .returned (.slice A' n c') ∧ SlB w' w.heap.size w'.heap.size A' n (attrF g alive player set) ∧ Below w.heap.size w w' := by
  have hgl := hg.len
  have hn : 0 < n ∧ n ≤ 120 := by have := ok.1; omega
  obtain ⟨hn0, hn1⟩ := hn
  have hE := hide elem_bool
  obtain ⟨b1, o1, rfl, hb1⟩ := hg.addr hn0
  obtain ⟨b2, o2, rfl, hb2⟩ := ha.addr hn0
  have hal := hide ha.len
  have hsl := hide hset.len
  have hs0 := hide (hset.below ((Below.refl w.heap.size w).alloc (Nat.le_refl _) (.cells #[] 4)) (Nat.le_refl _)).sl
  have hz : w.heap.size ≤ (w.alloc (.cells #[] 4)).heap.size := by simp
  clear hset
  replace hg := hide hg
  replace ha := hide ha
  replace hgl := hide hgl
  replace ok := hide ok
  go_enter Try.func77, Try.ntmps77
  go_wp2_with (first | (at_builtin; (with_reducible refine wpList_app rfl (.tmp 17) (.tmp 18) rfl hE.out flat_bv rfl (Own.made w 4 (Nat.le_refl _)) rfl hs0.out ?c1 hz ?_); rotate_right; intro A2 c2 w2 hown2 hgr2 hbw2 _))
  case c1 => omega
  rw [Nat.zero_add, List.nil_append] at hown2
  have hsl2 := hown2.sl flat_bv
  obtain ⟨b3, o3, eA, h31, h32, -, -⟩ := hsl2.at_ hn0
  subst eA
  have hbel : Below w.heap.size w w2 := ((Below.refl _ _).alloc (Nat.le_refl _) _).trans hbw2
  have hrng : SlB w2 b3 (b3 + 1) (some ⟨b3, o3, none⟩) n set := hsl2.tight' hn0
  have ez : (0 + n : Nat) = n := Nat.zero_add n
  try simp only [ez]
  clear hown2 hgr2 hbw2 hs0 hsl2 ez
  replace hrng := hide hrng
  replace hbel := hide hbel
  go_wp2
  go_loopg [10] (2 * n + 2) (fun N m wr => ∃ (out : List Bool) (b : Bool), m = .bool b ∧ SlB wr b3 (b3 + 1) (some ⟨b3, o3, none⟩) n out ∧ Hid (Between g alive player set out) ∧ Hid (b = false → ∀ v, v < n → Closed g alive player out v) ∧ Below w.heap.size w wr ∧ b3 < wr.heap.size ∧ Hid (2 * (n - cntT out) + (if b then 1 else 0) ≤ N))
  case atStart => exact ⟨set, true, rfl, hrng.out, Between.start (by rw [hsl.out, hgl.out]), (fun h => by cases h), hbel.out, h32, by show _ ≤ _; simp; omega⟩
  case round =>
    obtain ⟨out0, b, rfl, hs, hB, hC, hb, hbz, hN⟩ := hrel
    clear hrng
    cases b with
    | false =>
      have hfin := hide (hB.out.done (by rw [← hgl.out]; exact hC.out rfl) (by rw [hal.out, hgl.out]))
      go_wp2
      go_ret
      have hs9 := hs.more h31 hbz
      rw [hfin.out] at hs9
      first | exact ⟨_, _, rfl, hs9, hb⟩ | exact ⟨_, ⟨_, rfl⟩, hs9, hb⟩ | exact ⟨_, rfl, hs9, hb⟩
    | true =>
      obtain ⟨wo, rfl⟩ : ∃ wo : World, wo = wr := ⟨_, rfl⟩
      have hN1 := hN.out
      simp only [if_true] at hN1
      replace hN1 := hide hN1
      clear hC
      go_wp2
      go_loopw [10, 11] (fun m i wr => ∃ (k : Nat) (out : List Bool) (b : Bool), k ≤ n ∧ i = .int .i64 k ∧ m = .bool b ∧ SlB wr b3 (b3 + 1) (some ⟨b3, o3, none⟩) n out ∧ Hid (Pass g alive player set out0 out k b) ∧ Below w.heap.size w wr ∧ b3 < wr.heap.size) (fun _ i _ => n - (intOf i).toNat)
      case atStart => exact ⟨0, out0, false, Nat.zero_le _, rfl, rfl, hs, Pass.start hB.out, hb, hbz⟩
      case round =>
        clear hs hb hbz
        obtain ⟨k, out, more, hk, rfl, rfl, hs, hP, hb, hbz⟩ := hrel
        by_cases hlt : k < n
        · obtain ⟨s0, z0, -, -, -⟩ := SlB.cell hs hlt
          obtain ⟨o, p, l, Ah, nh, ch, hx, c0, c1, c2, hl, hnh, -, -, hinc⟩ := (hg.out.below hb (Nat.le_refl _)).cell ok.out hlt
          have a0 := (ha.out.below hb (Nat.le_refl _)).cell hlt
          have hkg : k < g.length := by rw [← hgl.out]; exact hlt
          by_cases z1 : inS alive k = true
          · by_cases z2 : inS out k = true
            · have hnext := hide (hP.out.skip (closed_in z2))
              rw [z1] at a0
              rw [z2] at s0
              replace hs := hide hs
              clear hl hx hinc z1 z2 hg ha
              go_wp2
              go_roundw
              case rel => exact ⟨k + 1, out, more, by omega, by go_num, rfl, hs.out, hnext, hb, hbz⟩
              case measure => simp [intOf]; omega
            · replace z2 := Bool.eq_false_iff.2 z2
              have hown := gOwn_at hx
              have hnx := gNxt_at hx
              have hhit := fun (h : hitB (decide (o = player)) (someL alive out (l.map Int.toNat)) (allL alive out (l.map Int.toNat)) (anyL alive (l.map Int.toNat)) = true) => hP.out.add hkg z2 (hit_attr (v := k) hP.out.bet z1 (by rw [hown, hnx]; exact h))
              have hmiss := fun (h : hitB (decide (o = player)) (someL alive out (l.map Int.toNat)) (allL alive out (l.map Int.toNat)) (anyL alive (l.map Int.toNat)) = false) => hP.out.skip (miss_closed (alive := alive) (player := player) (v := k) (by rw [hown, hnx]; exact h))
              have hput := hide (hs.put hlt true)
              rw [z1] at a0
              rw [z2] at s0
              replace hhit := hide hhit
              replace hmiss := hide hmiss
              have hlen := hide hl.len
              replace hl := hide hl
              replace hs := hide hs
              replace hinc := hide hinc
              clear hx z1 z2 hown hnx
              go_wp2
              go_loop [12, 13, 14, 15] (fun s a y i => ∃ (j : Nat) (sv av yv : Bool), j ≤ nh ∧ i = .int .i64 j ∧ s = .bool sv ∧ a = .bool av ∧ y = .bool yv ∧ Hid (sv = someL alive out ((l.take j).map Int.toNat)) ∧ Hid (av = allL alive out ((l.take j).map Int.toNat)) ∧ Hid (yv = anyL alive ((l.take j).map Int.toNat))) (fun _ _ _ i => nh - (intOf i).toNat)
              case atStart => exact ⟨0, false, true, false, Nat.zero_le _, rfl, rfl, rfl, rfl, rfl, rfl, rfl⟩
              case round =>
                obtain ⟨j, sv, av, yv, hj, rfl, rfl, rfl, rfl, hsv, hav, hyv⟩ := hrel
                by_cases hjl : j < nh
                · obtain ⟨bh, oh, eAh, -, -, -, -⟩ := hl.out.at_ (show 0 < nh by omega)
                  have hl2 := hl.out
                  rw [eAh] at hl2
                  obtain ⟨x, hx, d0, -⟩ := hl2.cell hjl
                  subst eAh
                  have hxb := hinc.out.at_ hx
                  have hx0 := hxb.1
                  have hx1 := hxb.2
                  have hxn : x.toNat < n := by omega
                  have al0 := (ha.out.below hb (Nat.le_refl _)).cell hxn
                  obtain ⟨ou0, -, -, -, -⟩ := SlB.cell hs.out hxn
                  have e1 := someL_step (alive := alive) (out := out) hx
                  have e2 := allL_step (alive := alive) (out := out) hx
                  have e3 := anyL_step (alive := alive) hx
                  rw [← hsv.out] at e1
                  rw [← hav.out] at e2
                  rw [← hyv.out] at e3
                  clear hl2 hl hx hxb hg ha
                  by_cases y1 : inS alive x.toNat = true
                  · rw [y1] at e1 e2 e3 al0
                    simp only [Bool.true_and, Bool.not_true, Bool.false_or, Bool.or_true] at e1 e2 e3
                    generalize hou : inS out x.toNat = ov at e1 e2 ou0
                    clear y1 hou
                    replace e1 := hide e1
                    replace e2 := hide e2
                    replace e3 := hide e3
                    cases sv <;> cases av <;> cases ov
                    all_goals
                      go_wp2
                      go_round
                      case rel => exact ⟨j + 1, _, _, _, by omega, by go_num, rfl, rfl, rfl, e1.out.symm, e2.out.symm, e3.out.symm⟩
                      case measure => simp [intOf]; omega
                  · replace y1 := Bool.eq_false_iff.2 y1
                    rw [y1] at e1 e2 e3 al0
                    simp only [Bool.false_and, Bool.or_false, Bool.not_false, Bool.true_or, Bool.and_true] at e1 e2 e3
                    replace e1 := hide e1
                    replace e2 := hide e2
                    replace e3 := hide e3
                    clear y1 ou0
                    go_wp2
                    go_round
                    case rel => exact ⟨j + 1, sv, av, yv, by omega, by go_num, rfl, rfl, rfl, e1.out.symm, e2.out.symm, e3.out.symm⟩
                    case measure => simp [intOf]; omega
                · have hjn : j = nh := by omega
                  subst hjn
                  have et : l.take j = l := List.take_of_length_le (by rw [hlen.out]; exact Nat.le_refl _)
                  have h1 := hhit.out
                  have h2 := hmiss.out
                  have k1 := hsv.out
                  have k2 := hav.out
                  have k3 := hyv.out
                  rw [et] at k1 k2 k3
                  rw [← k1, ← k2, ← k3] at h1 h2
                  clear k1 k2 k3 hhit hmiss et hl
                  by_cases z3 : o = player
                  · have q1 : (o == player) = true := by simpa using z3
                    rw [decide_eq_true z3, hit_own] at h1 h2
                    clear z3
                    cases sv with
                    | true =>
                      have hnext := hide (h1 rfl)
                      clear h1 h2
                      go_wp2
                      go_roundw
                      case rel => exact ⟨k + 1, _, true, by omega, by go_num, rfl, hput.out, hnext, hb.setCell h31 _, by rw [World.size_setCell]; exact hbz⟩
                      case measure => simp [intOf]; omega
                    | false =>
                      have hnext := hide (h2 rfl)
                      have q2 : (o != player) = false := by simpa using q1
                      clear h1 h2
                      go_wp2
                      go_roundw
                      case rel => exact ⟨k + 1, out, more, by omega, by go_num, rfl, hs.out, hnext, hb, hbz⟩
                      case measure => simp [intOf]; omega
                  · have q1 : (o == player) = false := by simpa using z3
                    have q2 : (o != player) = true := by simpa using z3
                    rw [decide_eq_false z3, hit_other] at h1 h2
                    clear z3
                    cases yv <;> cases av
                    case true.true =>
                      have hnext := hide (h1 rfl)
                      clear h1 h2
                      go_wp2
                      go_roundw
                      case rel => exact ⟨k + 1, _, true, by omega, by go_num, rfl, hput.out, hnext, hb.setCell h31 _, by rw [World.size_setCell]; exact hbz⟩
                      case measure => simp [intOf]; omega
                    all_goals
                      have hnext := hide (h2 rfl)
                      clear h1 h2
                      go_wp2
                      go_roundw
                      case rel => exact ⟨k + 1, out, more, by omega, by go_num, rfl, hs.out, hnext, hb, hbz⟩
                      case measure => simp [intOf]; omega
          · replace z1 := Bool.eq_false_iff.2 z1
            have hnext := hide (hP.out.skip (closed_dead z1))
            rw [z1] at a0
            replace hs := hide hs
            clear hl hx hinc z1 hg ha s0
            go_wp2
            go_roundw
            case rel => exact ⟨k + 1, out, more, by omega, by go_num, rfl, hs.out, hnext, hb, hbz⟩
            case measure => simp [intOf]; omega
        · have hkn : k = n := by omega
          subst hkn
          have hle := cntT_le out
          rw [hs.len] at hle
          have hpno := hide hP.out.no
          have hpy := hide hP.out.yes
          have hpb := hide hP.out.bet
          have hgr := hP.out.grows
          replace hs := hide hs
          clear hP
          go_wp2
          cases more with
          | true =>
            have hlt2 := hpy.out rfl
            obtain ⟨N2, rfl⟩ : ∃ N2, gk = N2 + 1 := ⟨gk - 1, by have := hN1.out; omega⟩
            have hN3 : Hid (2 * (k - cntT out) + (if true = true then 1 else 0) ≤ N2) := by show _ ≤ _; have := hN1.out; simp; omega
            clear hlt2
            go_roundg N2
            case measure => omega
            case rel => exact ⟨out, true, rfl, hs.out, hpb, (fun h => by cases h), hb, hbz, hN3⟩
          | false =>
            obtain ⟨e1, e2⟩ := hpno.out rfl
            obtain ⟨N2, rfl⟩ : ∃ N2, gk = N2 + 1 := ⟨gk - 1, by have := hN1.out; omega⟩
            have hN3 : Hid (2 * (k - cntT out) + (if false = true then 1 else 0) ≤ N2) := by show _ ≤ _; have := hN1.out; simp; omega
            replace e1 := hide e1
            replace e2 := hide e2
            go_roundg N2
            case measure => omega
            case rel => exact ⟨out, false, rfl, hs.out, hpb, (fun _ v hv => by rw [e1.out]; exact e2.out v hv), hb, hbz, hN3⟩

end Go.Proofs.Ythmhlbkkhaplkaa

namespace Go.Proofs.Ythmhlbkkhaplkaa
open Go.ChangeShapes Go.WideShapes Go.ChangeAt Go.RowKit
set_option linter.unusedVariables false

/-- A set of the call's own is handed back. -/
def GotB (w : World) (n : Nat) (s : List Bool) (e : Ending) (w' : World) : Prop := ∃ A c, e = .returned (.slice A n c) ∧ SlB w' w.heap.size w'.heap.size A n s ∧ Below w.heap.size w w'

theorem idx_test {l : List Bool} : (((idxOf l).length : Int) == 0) = !anyS l := by
  rw [← anyS_idx, Bool.eq_iff_iff]
  simp

set_option maxHeartbeats 3200000 in
set_option maxRecDepth 100000 in
theorem l23Region_calls (f : Nat) : ∀ (A B : Option Addr) (n c d : Nat) (g : DV) (alive : List Bool) (w : World), GameAt w A n g → GameOk g → SetAt w B n alive → cntT alive ≤ f →
    Calls Try.prog 80 #[.slice A n c, .slice B n d] w (GotB w n (winF g f alive)) := by
  induction f using Nat.strongRecOn with
  | ind f ih =>
  intro A B n c d g alive w hg ok ha hf
  have hgl := hg.len
  have hn : 0 < n ∧ n ≤ 120 := by have := ok.1; omega
  obtain ⟨hn0, hn1⟩ := hn
  have hE := hide elem_bool
  obtain ⟨b1, o1, rfl, hb1⟩ := hg.addr hn0
  obtain ⟨b2, o2, rfl, hb2⟩ := ha.addr hn0
  have hal := hide (ha.len.trans hgl)
  have hmk := run_make_bool n (by omega)
  replace hg := hide hg
  replace ha := hide ha
  replace hgl := hide hgl
  replace ok := hide ok
  replace hmk := hide hmk
  replace ih := hide ih
  go_enter Try.func80, Try.ntmps80
  go_wp2
  go_loop [5, 6] (fun m i => ∃ (k : Nat) (x : Int), k ≤ n ∧ i = .int .i64 k ∧ m = .int .i64 x ∧ Hid (x = leastI (minK g alive k)) ∧ -1 ≤ x ∧ x ≤ 9) (fun _ i => n - (intOf i).toNat)
  case atStart => exact ⟨0, -1, Nat.zero_le _, rfl, rfl, rfl, by omega, by omega⟩
  case round =>
    obtain ⟨k, x, hk, rfl, rfl, hx, hx1, hx9⟩ := hrel
    by_cases hlt : k < n
    · obtain ⟨o, p, l, Ah, nh, ch, hxk, c0, c1, c2, hl, hnh, -, hp, -⟩ := hg.out.cell ok.out hlt
      have a0 := ha.out.cell hlt
      have hpk := gPri_at hxk
      have hpp : ∀ v, v ≤ k → 0 ≤ gPri g v := fun v hv => (ok.out.pri (by rw [← hgl.out]; omega)).1
      clear hl hxk
      by_cases z1 : inS alive k = true
      · rw [z1] at a0
        by_cases y1 : x < 0
        · have hnext : Hid (p = leastI (minK g alive (k + 1))) := by
            have := least_put z1 hpp (.inl (by rw [← hx.out]; exact y1))
            rw [hpk] at this
            exact this.symm
          clear z1 hpp hpk hx ha
          go_wp2
          go_round
          case rel => exact ⟨k + 1, p, by omega, by go_num, rfl, hnext, by omega, by omega⟩
          case measure => simp [intOf]; omega
        · by_cases y2 : p < x
          · have hnext : Hid (p = leastI (minK g alive (k + 1))) := by
              have := least_put z1 hpp (.inr (by rw [← hx.out, hpk]; exact y2))
              rw [hpk] at this
              exact this.symm
            clear z1 hpp hpk hx ha
            go_wp2
            go_round
            case rel => exact ⟨k + 1, p, by omega, by go_num, rfl, hnext, by omega, by omega⟩
            case measure => simp [intOf]; omega
          · have hnext : Hid (x = leastI (minK g alive (k + 1))) := by
              have := least_old z1 (by rw [← hx.out]; exact y1) (by rw [← hx.out, hpk]; exact y2)
              rw [← hx.out] at this
              exact this.symm
            clear z1 hpp hpk hx ha
            go_wp2
            go_round
            case rel => exact ⟨k + 1, x, by omega, by go_num, rfl, hnext, by omega, by omega⟩
            case measure => simp [intOf]; omega
      · replace z1 := Bool.eq_false_iff.2 z1
        have hnext : Hid (x = leastI (minK g alive (k + 1))) := by
          show _ = _
          rw [least_keep z1]; exact hx.out
        rw [z1] at a0
        clear z1 hpp hpk hx ha
        go_wp2
        go_round
        case rel => exact ⟨k + 1, x, by omega, by go_num, rfl, hnext, by omega, by omega⟩
        case measure => simp [intOf]; omega
    · have hkn : k = n := by omega
      subst hkn
      have hx' := hx.out
      have eg : minK g alive k = leastP g alive := by rw [leastP_min, ← hgl.out]
      rw [eg] at hx'
      clear eg hx
      cases hle : leastP g alive with
      | none =>
        rw [hle] at hx'
        have : x = -1 := hx'
        subst this
        have hw := hide (winF_none (f := f) hle)
        have hm := hide (SlB.made w k)
        have hgl2 := hide hgl.out.symm
        replace hmk := hmk.out
        clear hx' hle
        go_wp2
        go_ret
        exact ⟨_, _, rfl, by rw [hw.out, hgl2.out]; exact hm.out.more (Nat.le_refl _) (by simp), (Below.refl _ _).alloc (Nat.le_refl _) _⟩
      | some least =>
        rw [hle] at hx'
        have : x = least := hx'
        subst this
        have hpos : 0 ≤ x := by
          obtain ⟨v, hv, _, hp⟩ := leastP_at hle
          have := (ok.out.pri hv).1
          omega
        have hrest := rest_lt hal.out hle
        obtain ⟨f', rfl⟩ : ∃ f', f = f' + 1 := ⟨f - 1, by omega⟩
        have hstart := SlB.made w k
        rw [← setK_zero k (fun v => inS alive v && decide (gPri g v = x))] at hstart
        replace hstart := hide hstart
        replace hle := hide hle
        replace hrest := hide hrest
        replace hf := hide hf
        replace hmk := hmk.out
        clear hx'
        go_wp2
        replace hmk := hide hmk
        go_loopw [9] (fun i wr => ∃ j : Nat, j ≤ k ∧ i = .int .i64 j ∧ SlB wr w.heap.size (w.heap.size + 1) (some ⟨w.heap.size, 0, none⟩) k (setK k j fun v => inS alive v && decide (gPri g v = x)) ∧ Below w.heap.size w wr ∧ w.heap.size < wr.heap.size) (fun i _ => k - (intOf i).toNat)
        case atStart => exact ⟨0, Nat.zero_le _, rfl, hstart.out, (Below.refl _ _).alloc (Nat.le_refl _) _, by simp⟩
        case round =>
          obtain ⟨j, hj, rfl, hs, hb, hz⟩ := hrel
          clear hstart
          by_cases hjl : j < k
          · obtain ⟨s0, z0, -, -, -⟩ := SlB.cell hs hjl
            rw [Nat.zero_add] at s0 z0
            obtain ⟨o, p, l, Ah, nh, ch, hxk, c0, c1, c2, hl, hnh, -, hp, -⟩ := (hg.out.below hb (Nat.le_refl _)).cell ok.out hjl
            have a0 := (ha.out.below hb (Nat.le_refl _)).cell hjl
            have hpk := gPri_at hxk
            have hfin : ∀ v, v = (inS alive j && decide (p = x)) → SlB (wr.setCell ⟨w.heap.size, j, none⟩ (.bool v)) w.heap.size (w.heap.size + 1) (some ⟨w.heap.size, 0, none⟩) k (setK k (j + 1) fun v => inS alive v && decide (gPri g v = x)) := fun v hv => by
              have := hs.put hjl v
              rwa [setK_step hjl (by rw [hpk]; exact hv), Nat.zero_add] at this
            replace hfin := hide hfin
            clear hl hxk hpk hs ha
            by_cases z1 : inS alive j = true
            · rw [z1] at a0 hfin
              by_cases z2 : p = x
              · have e2 : (p == x) = true := by simpa using z2
                have hnext := hide (hfin.out true (by simp [z2]))
                clear z1 z2 hfin
                go_wp2
                go_roundw
                case rel => exact ⟨j + 1, by omega, by go_num, hnext.out, hb.setCell (Nat.le_refl _) _, by rw [World.size_setCell]; exact hz⟩
                case measure => simp [intOf]; omega
              · have e2 : (p == x) = false := by simpa using z2
                have hnext := hide (hfin.out false (by simp [z2]))
                clear z1 z2 hfin
                go_wp2
                go_roundw
                case rel => exact ⟨j + 1, by omega, by go_num, hnext.out, hb.setCell (Nat.le_refl _) _, by rw [World.size_setCell]; exact hz⟩
                case measure => simp [intOf]; omega
            · replace z1 := Bool.eq_false_iff.2 z1
              rw [z1] at a0 hfin
              have hnext := hide (hfin.out false (by simp))
              clear z1 hfin
              go_wp2
              go_roundw
              case rel => exact ⟨j + 1, by omega, by go_num, hnext.out, hb.setCell (Nat.le_refl _) _, by rw [World.size_setCell]; exact hz⟩
              case measure => simp [intOf]; omega
          · have hjn : j = k := by omega
            subst hjn
            rw [setK_all, hgl.out] at hs
            rw [← hgl.out] at hs
            have hfirst : SetAt wr (some ⟨w.heap.size, 0, none⟩) j (firstF g alive x) := by
              have := SlB.at_set hs
              unfold firstF
              rw [← hgl.out]
              exact this
            replace hfirst := hide hfirst
            clear hs
            go_wp2_with fail
            refine (l23Attract_calls _ _ _ j _ _ _ g alive (firstF g alive x) (x % 2) wr (hg.out.below hb (Nat.le_refl _)) ok.out (ha.out.below hb (Nat.le_refl _)) hfirst.out).mono ?_
            rintro e w1 ⟨A1, k1, rfl, hs1, hb1⟩
            have bel1 := hb.trans (hb1.mono hb.size)
            replace hs1 := hide hs1
            replace hb1 := hide hb1
            clear hfirst
            go_wp2_with fail
            refine (l23Less_calls _ _ j _ _ alive (aimF g alive x) w1 (ha.out.below bel1 (Nat.le_refl _)) (SlB.at_set hs1.out) (by omega)).mono ?_
            rintro e w2 ⟨A2, k2, rfl, hs2, hb2⟩
            have bel2 := bel1.trans (hb2.mono bel1.size)
            rw [hgl.out] at hs2
            rw [← hgl.out] at hs2
            have hrs : SetAt w2 A2 j (lessF g alive (aimF g alive x)) := by
              have := SlB.at_set hs2
              unfold lessF
              rw [← hgl.out]
              exact this
            replace hrs := hide hrs
            replace hb2 := hide hb2
            clear hs2 hs1 hb1
            go_wp2_with fail
            refine (ih.out f' (Nat.lt_succ_self _) _ _ j _ _ g (lessF g alive (aimF g alive x)) w2 (hg.out.below bel2 (Nat.le_refl _)) ok.out hrs.out (by have := hrest.out; have := hf.out; omega)).mono ?_
            rintro e w3 ⟨A3, k3, rfl, hs3, hb3⟩
            have bel3 := bel2.trans (hb3.mono bel2.size)
            have hrs3 := hide (hrs.out.below hb3 (Nat.le_refl _))
            have hin3 := hide (SlB.at_set hs3)
            clear hs3 hb3 hrs hb2
            have hm2 : x % 2 = 0 ∨ x % 2 = 1 := by omega
            rcases hm2 with hm2 | hm2
            · have e1 : (x % 2 == 1) = false := by rw [hm2]; rfl
              have e0 : (x % 2 == 0) = true := by rw [hm2]; rfl
              have hoth : Hid (otherF g (lessF g alive (aimF g alive x)) (winF g f' (lessF g alive (aimF g alive x))) (x % 2) = winF g f' (lessF g alive (aimF g alive x))) := by show _ = _; rw [hm2]; exact other_zero (setOf_len _ _)
              have hstop := hide (fun h => winF_stop (f := f') hle.out h)
              have hgo := hide (fun h => winF_go (f := f') hle.out h)
              have hll := hide (fun h => lost_lt (won := winF g f' (lessF g alive (aimF g alive x))) (player := x % 2) (p2 := 1 - x % 2) (least := x) hal.out h)
              have hgo0 := hide (fun lost (h : ∀ v, inS lost v = true → inS alive v = true) => go_zero (g := g) (f := f') h)
              replace hm2 := hide hm2
              go_wp2_with fail
              refine (l15True_calls A3 j k3 _ w3 _ _ hin3.out (by omega)).mono ?_
              rintro e w4 ⟨A4, k4, rfl, -, hb4⟩
              have bel4 := bel3.trans (hb4.mono bel3.size)
              have hin4 := hide (hin3.out.below hb4 (Nat.le_refl _))
              clear hin3 hrs3 hb4
              have et := idx_test (l := winF g f' (lessF g alive (aimF g alive x)))
              by_cases hany : anyS (winF g f' (lessF g alive (aimF g alive x))) = true
              · rw [hany] at et
                have hany2 : anyS (otherF g (lessF g alive (aimF g alive x)) (winF g f' (lessF g alive (aimF g alive x))) (x % 2)) = true := by rw [hoth.out]; exact hany
                have hgo := hide (hgo.out hany2)
                have hll := hide (hll.out hany2)
                replace hany2 := hide hany2
                clear hstop hany
                go_wp2_with fail
                refine (l23Attract_calls _ _ _ j _ _ _ g alive (winF g f' (lessF g alive (aimF g alive x))) (1 - x % 2) w4 (hg.out.below bel4 (Nat.le_refl _)) ok.out (ha.out.below bel4 (Nat.le_refl _)) hin4.out).mono ?_
                rintro e w5 ⟨A5, k5, rfl, hs5, hb5⟩
                have bel5 := bel4.trans (hb5.mono bel4.size)
                have hl5 := hide (SlB.at_set hs5)
                clear hs5 hb5 hin4
                go_wp2_with fail
                refine (l23Less_calls _ _ j _ _ alive _ w5 (ha.out.below bel5 (Nat.le_refl _)) hl5.out (by omega)).mono ?_
                rintro e w6 ⟨A6, k6, rfl, hs6, hb6⟩
                have bel6 := bel5.trans (hb6.mono bel5.size)
                have hl6 := hide (hl5.out.below hb6 (Nat.le_refl _))
                have hr6 : Hid (SetAt w6 A6 j (lessF g alive (attrF g alive (1 - x % 2) (winF g f' (lessF g alive (aimF g alive x)))))) := by
                  have := SlB.at_set hs6
                  show SetAt _ _ _ _
                  unfold lessF
                  rw [← hgl.out]
                  rw [hgl.out] at this ⊢
                  exact this
                clear hs6 hb6 hl5
                go_wp2_with fail
                refine (ih.out f' (Nat.lt_succ_self _) _ _ j _ _ g _ w6 (hg.out.below bel6 (Nat.le_refl _)) ok.out hr6.out (by have := hll.out; rw [hoth.out] at this; have := hf.out; omega)).mono ?_
                rintro e w7 ⟨A7, k7, rfl, hs7, hb7⟩
                have bel7 := bel6.trans (hb7.mono bel6.size)
                have hl7 := hide (Sl.below hl6.out hb7 (.inr (Nat.le_refl _)))
                obtain ⟨b7, o7, eA7, h71, h72, -, -⟩ := hs7.at_ hn0
                subst eA7
                have hs7' := hs7.tight' hn0
                obtain ⟨b5, o5, rfl, -⟩ := SetAt.addr hl6.out hn0
                have hwl := hide (winF_len g f' (lessF g alive (attrF g alive (1 - x % 2) (winF g f' (lessF g alive (aimF g alive x))))))
                have hres : Hid (winF g (f' + 1) alive = setOf j fun v => inS (winF g f' (lessF g alive (attrF g alive (1 - x % 2) (winF g f' (lessF g alive (aimF g alive x)))))) v || inS (attrF g alive (1 - x % 2) (winF g f' (lessF g alive (aimF g alive x)))) v) := by
                  show _ = _
                  rw [hgo.out, hoth.out, hm2.out, hgl.out]
                  exact hgo0.out _ fun v hv => Attr.sub (fun u hu => by
                    have := winF_sub _ _ _ hu
                    rw [inS_lessF] at this
                    simp at this
                    exact this.2.1) ((inS_attrF hal.out fun u hu => by
                    have := winF_sub _ _ _ hu
                    rw [inS_lessF] at this
                    simp at this
                    exact this.2.1).1 hv)
                have hz67 : w.heap.size ≤ w6.heap.size := bel6.size
                clear hs7 hb7 hl6 hr6 hgo hgo0 hoth hll hany2 hle hrest ih hm2
                generalize attrF g alive (1 - x % 2) (winF g f' (lessF g alive (aimF g alive x))) = lost at *
                generalize winF g f' (lessF g alive lost) = won2 at *
                replace hs7' := hide hs7'
                obtain ⟨wo, rfl⟩ : ∃ wo : World, wo = w7 := ⟨_, rfl⟩
                go_wp2_with fail
                go_loopw [15] (fun i wr => ∃ q : Nat, q ≤ j ∧ i = .int .i64 q ∧ SlB wr b7 (b7 + 1) (some ⟨b7, o7, none⟩) j (setM won2 q fun v => inS won2 v || inS lost v) ∧ Only b7 (b7 + 1) wo wr) (fun i _ => j - (intOf i).toNat)
                case atStart => exact ⟨0, Nat.zero_le _, rfl, by rw [setM_zero]; exact hs7'.out, Only.refl _ _ _⟩
                case round =>
                  obtain ⟨q, hq, rfl, hs, ho⟩ := hrel
                  clear hs7'
                  have hoz := ho.size
                  by_cases hql : q < j
                  · obtain ⟨s0, z0, -, -, -⟩ := SlB.cell hs hql
                    rw [inS_setM (by rw [hwl.out, ← hgl.out]; exact hql)] at s0
                    have l0 := (SlB.cell (Sl.only hl7.out ho (.inl h71)) hql).1
                    have hput : ∀ v, v = (inS won2 q || inS lost q) → SlB (wr.setCell ⟨b7, o7 + q, none⟩ (.bool v)) b7 (b7 + 1) (some ⟨b7, o7, none⟩) j (setM won2 (q + 1) fun v => inS won2 v || inS lost v) := fun v hv => by
                      have := hs.put hql v
                      rwa [setM_step (by rw [hwl.out, ← hgl.out]; exact hql) hv] at this
                    replace hput := hide hput
                    clear hs
                    by_cases z1 : inS won2 q = true
                    · rw [z1] at s0
                      have hnext := hide (hput.out true (by rw [z1]; rfl))
                      clear z1 hput
                      go_wp2
                      go_roundw
                      case rel => exact ⟨q + 1, by omega, by go_num, hnext.out, ho.setCell (Nat.le_refl _) (Nat.lt_succ_self _) _⟩
                      case measure => simp [intOf]; omega
                    · replace z1 := Bool.eq_false_iff.2 z1
                      rw [z1] at s0
                      have hnext := hide (hput.out (inS lost q) (by rw [z1]; rfl))
                      clear z1 hput
                      generalize inS lost q = lq at *
                      go_wp2
                      go_roundw
                      case rel => exact ⟨q + 1, by omega, by go_num, hnext.out, ho.setCell (Nat.le_refl _) (Nat.lt_succ_self _) _⟩
                      case measure => simp [intOf]; omega
                  · have hqj : q = j := by omega
                    subst hqj
                    rw [setM_all _ (by rw [hwl.out, hgl.out]), ← hres.out] at hs
                    replace hs := hide hs
                    go_wp2
                    go_ret
                    exact ⟨_, _, rfl, hs.out.more (by omega) (by omega), Only.below bel7 ho (by omega) bel7.size⟩
              · replace hany := Bool.eq_false_iff.2 hany
                rw [hany] at et
                have hres : Hid (winF g (f' + 1) alive = setOf j fun _ => false) := by
                  show _ = _
                  rw [hstop.out (by rw [hoth.out]; exact hany), hm2.out, hgl.out]
                  exact stop_zero
                have hm := hide (SlB.made w4 j)
                have hz4 := bel4.size
                replace hmk := hmk.out
                clear hstop hgo hll hgo0 hoth hany
                go_wp2
                go_ret
                exact ⟨_, _, rfl, by rw [hres.out]; exact hm.out.more (by omega) (by simp), bel4.alloc (by omega) _⟩
            · have e1 : (x % 2 == 1) = true := by rw [hm2]; rfl
              have e0 : (x % 2 == 0) = false := by rw [hm2]; rfl
              have hoth : Hid (otherF g (lessF g alive (aimF g alive x)) (winF g f' (lessF g alive (aimF g alive x))) (x % 2) = lessF g (lessF g alive (aimF g alive x)) (winF g f' (lessF g alive (aimF g alive x)))) := by show _ = _; rw [hm2]; exact other_one
              have hstop := hide (fun h => winF_stop (f := f') hle.out h)
              have hgo := hide (fun h => winF_go (f := f') hle.out h)
              have hll := hide (fun h => lost_lt (won := winF g f' (lessF g alive (aimF g alive x))) (player := x % 2) (p2 := 1 - x % 2) (least := x) hal.out h)
              replace hm2 := hide hm2
              go_wp2_with fail
              refine (l23Less_calls _ _ j _ _ (lessF g alive (aimF g alive x)) (winF g f' (lessF g alive (aimF g alive x))) w3 hrs3.out hin3.out (by omega)).mono ?_
              rintro e w4' ⟨A3', k3', rfl, hs4', hb4'⟩
              have bel4' := bel3.trans (hb4'.mono bel3.size)
              have hlst : SlB w4' w3.heap.size w4'.heap.size A3' j (lessF g (lessF g alive (aimF g alive x)) (winF g f' (lessF g alive (aimF g alive x)))) := by
                unfold lessF at hs4' ⊢
                rw [← hgl.out] at hs4' ⊢
                exact hs4'
              replace hlst := hide hlst
              clear hs4' hb4'
              go_wp2_with fail
              refine (l15True_calls A3' j k3' _ w4' _ _ hlst.out (by omega)).mono ?_
              rintro e w4 ⟨A4, k4, rfl, -, hb4⟩
              have bel4 := bel4'.trans (hb4.mono bel4'.size)
              have hin4 := hide ((SlB.at_set hlst.out).below hb4 (Nat.le_refl _))
              clear hin3 hrs3 hb4 hlst
              have et := idx_test (l := lessF g (lessF g alive (aimF g alive x)) (winF g f' (lessF g alive (aimF g alive x))))
              by_cases hany : anyS (lessF g (lessF g alive (aimF g alive x)) (winF g f' (lessF g alive (aimF g alive x)))) = true
              · rw [hany] at et
                have hany2 : anyS (otherF g (lessF g alive (aimF g alive x)) (winF g f' (lessF g alive (aimF g alive x))) (x % 2)) = true := by rw [hoth.out]; exact hany
                have hgo := hide (hgo.out hany2)
                have hll := hide (hll.out hany2)
                replace hany2 := hide hany2
                clear hstop hany
                go_wp2_with fail
                refine (l23Attract_calls _ _ _ j _ _ _ g alive (lessF g (lessF g alive (aimF g alive x)) (winF g f' (lessF g alive (aimF g alive x)))) (1 - x % 2) w4 (hg.out.below bel4 (Nat.le_refl _)) ok.out (ha.out.below bel4 (Nat.le_refl _)) hin4.out).mono ?_
                rintro e w5 ⟨A5, k5, rfl, hs5, hb5⟩
                have bel5 := bel4.trans (hb5.mono bel4.size)
                have hl5 := hide (SlB.at_set hs5)
                clear hs5 hb5 hin4
                go_wp2_with fail
                refine (l23Less_calls _ _ j _ _ alive _ w5 (ha.out.below bel5 (Nat.le_refl _)) hl5.out (by omega)).mono ?_
                rintro e w6 ⟨A6, k6, rfl, hs6, hb6⟩
                have bel6 := bel5.trans (hb6.mono bel5.size)
                have hr6 : Hid (SetAt w6 A6 j (lessF g alive (attrF g alive (1 - x % 2) (lessF g (lessF g alive (aimF g alive x)) (winF g f' (lessF g alive (aimF g alive x))))))) := by
                  have := SlB.at_set hs6
                  show SetAt _ _ _ _
                  unfold lessF at this ⊢
                  rw [← hgl.out] at this ⊢
                  exact this
                clear hs6 hb6 hl5
                go_wp2_with fail
                refine (ih.out f' (Nat.lt_succ_self _) _ _ j _ _ g _ w6 (hg.out.below bel6 (Nat.le_refl _)) ok.out hr6.out (by have := hll.out; rw [hoth.out] at this; have := hf.out; omega)).mono ?_
                rintro e w7 ⟨A7, k7, rfl, hs7, hb7⟩
                have bel7 := bel6.trans (hb7.mono bel6.size)
                have hres : Hid (winF g (f' + 1) alive = winF g f' (lessF g alive (attrF g alive (1 - x % 2) (lessF g (lessF g alive (aimF g alive x)) (winF g f' (lessF g alive (aimF g alive x))))))) := by
                  show _ = _
                  rw [hgo.out, hoth.out, hm2.out]
                  exact go_one
                have hz67 : w.heap.size ≤ w6.heap.size := bel6.size
                replace hs7 := hide hs7
                clear hr6 hgo hoth hll hany2 hle hrest ih
                go_wp2
                go_ret
                exact ⟨_, _, rfl, by rw [hres.out]; exact hs7.out.more hz67 (Nat.le_refl _), bel7⟩
              · replace hany := Bool.eq_false_iff.2 hany
                rw [hany] at et
                have hres : Hid (winF g (f' + 1) alive = alive) := by
                  show _ = _
                  rw [hstop.out (by rw [hoth.out]; exact hany), hm2.out]
                  exact stop_one hal.out
                have hz4 := bel4.size
                have ha4 := hide ((ha.out.below (bel4.alloc (by omega) (.cells #[] 4)) (Nat.le_refl _)).sl)
                have hz : w.heap.size ≤ (w4.alloc (.cells #[] 4)).heap.size := by simp; omega
                clear hstop hgo hll hoth hany
                go_wp2_with (first | (at_builtin; (with_reducible refine wpList_app rfl (.tmp 98) (.tmp 99) rfl hE.out flat_bv rfl (Own.made w4 4 hz4) rfl ha4.out ?c1 hz ?_); rotate_right; intro A8 c8 w8 hown8 hgr8 hb8 _))
                case c1 => omega
                go_ret
                rw [Nat.zero_add, List.nil_append] at hown8
                exact ⟨_, _, rfl, by rw [hres.out]; exact hown8.sl flat_bv, (bel4.alloc hz4 _).trans hb8⟩

end Go.Proofs.Ythmhlbkkhaplkaa

namespace Go.Proofs.Ythmhlbkkhaplkaa
open Go.ChangeShapes Go.WideShapes Go.ChangeAt Go.RowKit
set_option linter.unusedVariables false

set_option maxHeartbeats 800000 in
theorem mul64_one (n : Nat) (hn : n ≤ 1048576) (w : World) : Calls Try.prog 100 #[.int .u64 1, .int .u64 n] w fun e w' => e = .returned (.tuple #[.int .u64 0, .int .u64 n]) ∧ w = w' := by
  have m1 : bits .and .u64 (1 : Int) 4294967295 = 1 := bits_and_u64_nat 1 4294967295 (by omega) (by omega)
  have m2 : bits .and .u64 (n : Int) 4294967295 = n := by
    have h := bits_and_u64_nat n 4294967295 (by omega) (by omega)
    have e : n &&& 4294967295 = n := by
      rw [Nat.and_two_pow_sub_one_eq_mod n 32]
      omega
    rw [e] at h
    exact h
  have d1 : (n : Int) / 4294967296 = 0 := by omega
  have m0 : bits .and .u64 (0 : Int) 4294967295 = 0 := bits_and_u64_nat 0 4294967295 (by omega) (by omega)
  go_enter Try.func100, Try.ntmps100
  go_wp2
  go_ret2
  exact ⟨by simp [m1, m2, d1, m0], rfl⟩

theorem mul_one' (n : Nat) (hn : n ≤ 1048576) (w : World) : Calls Try.prog 92 #[.int .u64 1, .int .u64 n] w fun e w' => e = .returned (.tuple #[.int .u64 0, .int .u64 n]) ∧ w = w' := by
  have q := hide (mul64_one n hn w)
  go_enter Try.func92, Try.ntmps92
  go_wp2_with (go_at_call 100; refine q.out.mono ?_; rintro e w' ⟨rfl, rfl⟩)
  go_ret2
  exact ⟨rfl, rfl⟩

/-- A row of which the first m cells hold v, the others z. -/
def rowR (v z : Value) (m n : Nat) : List Value := List.replicate m v ++ List.replicate (n - m) z
theorem rowR_len (v z : Value) {m n : Nat} (h : m ≤ n) : (rowR v z m n).length = n := by unfold rowR; simp; omega
theorem rowR_get (v z : Value) {m n j : Nat} (h : j < m) : (rowR v z m n)[j]? = some v := by
  unfold rowR
  rw [List.getElem?_append_left (by simpa using h)]
  simp [h]
theorem rowR_splice (v z : Value) {m k n : Nat} (h : m + k ≤ n) : splice (rowR v z m n) m (List.replicate k v) = rowR v z (m + k) n := by
  unfold splice rowR
  rw [List.take_left' (by simp), List.drop_append, List.length_replicate, List.drop_replicate, List.drop_replicate, List.length_replicate]
  have e1 : m - (m + k) = 0 := by omega
  have e2 : n - m - (m + k - m) = n - (m + k) := by omega
  rw [e1, e2, List.replicate_zero, List.nil_append, ← List.append_assoc, List.replicate_append_replicate]

set_option maxHeartbeats 1600000 in
set_option maxRecDepth 100000 in
theorem repeatB_calls (A : Option Addr) (c : Nat) (b : Bool) (n : Nat) (w : World) (lo hi : Nat) (h : SlB w lo hi A 1 [b]) (hn0 : 0 < n) (hn : n ≤ 1048576) :
    Calls Try.prog 83 #[.slice A 1 c, .int .i64 n] w fun e w' => ∃ A', e = .returned (.slice A' n n) ∧ SlB w' w.heap.size w'.heap.size A' n (List.replicate n b) ∧ Below w.heap.size w w' := by
  have hmk := run_make_bool n hn
  obtain ⟨b1, o1, rfl, g1, g2, g3, hc⟩ := h.at_ (by omega)
  have c0 := (hc 0 b rfl 0 _ rfl).1
  simp only [Nat.zero_mul, Nat.add_zero] at c0
  have hsz : (Try.prog.info? 4).map (·.size) = some 1 := by kernel_rfl
  have hb0 : Below w.heap.size w (w.alloc (.cells (madeCells #[.bool false] n) 4)) := (Below.refl _ _).alloc (Nat.le_refl _) _
  have c1 := (hb0.cell (p := ⟨b1, o1, none⟩) g3).trans c0
  have hrow : (w.alloc (.cells (madeCells #[.bool false] n) 4)).heap[w.heap.size]? = some (.cells (rowR (.bool b) (.bool false) 0 n).toArray 4 (0, 0)) := by
    rw [heap_alloc_new]
    congr 2
    apply Array.ext'
    rw [toList_madeCells_one]
    simp [rowR]
  replace hrow := hide hrow
  replace hb0 := hide hb0
  replace c1 := hide c1
  replace hsz := hide hsz
  have hE := hide elem_bool
  clear hc h
  go_enter Try.func83, Try.ntmps83
  go_wp2_with (first | (go_at_call 92; (with_reducible refine (mul_one' n hn _).mono ?_); rintro e w' ⟨rfl, rfl⟩) | (with_reducible refine wpList_copy_splice rfl (.tmp 31) (.tmp 32) 79 79 rfl 4 Try.underlying79 hsz.out (some ⟨w.heap.size, 0, none⟩) (some ⟨b1, o1, none⟩) n n 1 c rfl rfl w.heap.size 0 (rowR (.bool b) (.bool false) 0 n) 4 hrow.out [.bool b] ?k1 (fun _ => ⟨rfl, ⟨b1, o1, none⟩, rfl, ?k2⟩) ?k3 ?k4 w.heap.size w hb0.out (Nat.le_refl _) ?_))
  case k1 => show 1 = min 1 n; omega
  case k2 =>
    intro j v hj
    match j, hj with
    | 0, hj => simp at hj; subst hj; simpa [Addr.add] using c1.out
  case k3 => rw [rowR_len _ _ (Nat.zero_le _)]; simp; omega
  case k4 => intro v hv; simp at hv; subst hv; rfl
  rintro w1 hr1 hb1
  have hr1' : Hid (w1.heap[w.heap.size]? = some (.cells (rowR (.bool b) (.bool false) 1 n).toArray 4 (0, 0))) := by
    have := rowR_splice (.bool b) (.bool false) (m := 0) (k := 1) (n := n) (by omega)
    rw [List.replicate_one, Nat.zero_add] at this
    show _ = _
    rw [← this]
    exact hr1.out
  clear hr1 hrow hb0 c1 hmk
  go_wp2
  go_loopg [8] n (fun N m wr => ∃ k : Nat, 1 ≤ k ∧ k ≤ n ∧ m = .int .i64 k ∧ Hid (wr.heap[w.heap.size]? = some (.cells (rowR (.bool b) (.bool false) k n).toArray 4 (0, 0))) ∧ Below w.heap.size w wr ∧ Hid (n - k ≤ N))
  case atStart => exact ⟨1, Nat.le_refl _, hn0, rfl, hr1', hb1, by show _ ≤ _; omega⟩
  case round =>
    obtain ⟨k, hk1, hk, rfl, hr, hb, hN⟩ := hrel
    clear hr1' hb1
    by_cases hlt : k < n
    · have hcut : ∀ W : World, (Instr.slice 79 (.slice (some ⟨w.heap.size, 0, none⟩) n n) (some (.int .i64 (k : Int))) none none).run Try.prog W = .ok (.slice (some ⟨w.heap.size, k, none⟩) (n - k) (n - k)) W := fun W => by
        rw [run_cut elem_bool (some ⟨w.heap.size, 0, none⟩) n n k hk W]
        unfold cutA
        rw [if_neg (by omega), Option.map_some, addr_add, Nat.zero_add, Nat.mul_one]
      have hhead : ∀ W : World, (Instr.slice 79 (.slice (some ⟨w.heap.size, 0, none⟩) n n) none (some (.int .i64 (k : Int))) none).run Try.prog W = .ok (.slice (some ⟨w.heap.size, 0, none⟩) k n) W := fun W => run_head elem_bool (some ⟨w.heap.size, 0, none⟩) n n k hk W
      have hzw := hide ((Array.getElem?_eq_some_iff.1 hr.out).1)
      have i1 : (0 : Int) ≤ (k : Int) := by omega
      have i2 : (k : Int) ≤ (n : Int) := by omega
      obtain ⟨N2, rfl⟩ : ∃ N2, gk = N2 + 1 := ⟨gk - 1, by have := hN.out; omega⟩
      have k2 : Hid (∀ j v, (List.replicate (Nat.min k (n - k)) (Value.bool b))[j]? = some v → wr.drew.cell? ((⟨w.heap.size, 0, none⟩ : Addr).add j) = some v) := by
        intro j v hj
        have hjk : j < Nat.min k (n - k) := by
          have := (List.getElem?_eq_some_iff.1 hj).1
          simpa using this
        have hjk2 : j < k := Nat.lt_of_lt_of_le hjk (Nat.min_le_left _ _)
        have hv : v = .bool b := List.eq_of_mem_replicate (List.mem_of_getElem? hj)
        subst hv
        rw [addr_add, Nat.zero_add]
        refine (cell_of_row _ _ _ _ _ (0, 0) (show wr.drew.heap[w.heap.size]? = _ from hr.out)).trans ?_
        simpa using rowR_get _ _ hjk2
      have k3 : Hid (k + (List.replicate (Nat.min k (n - k)) (Value.bool b)).length ≤ (rowR (.bool b) (.bool false) k n).length) := by
        show _ ≤ _
        rw [rowR_len _ _ hk, List.length_replicate]; have : Nat.min k (n - k) ≤ n - k := Nat.min_le_right k (n - k); omega
      have k4 : Hid (∀ v, v ∈ List.replicate (Nat.min k (n - k)) (Value.bool b) → v.oneCell' = true) := fun v hv => by rw [List.eq_of_mem_replicate hv]; rfl
      have k5 : Hid (wr.drew.heap[w.heap.size]? = some (.cells (rowR (.bool b) (.bool false) k n).toArray 4 (0, 0))) := hr.out
      have k6 := hide hb.drew
      go_wp2
      go_region_law (refine step_copy_splice (by rfl) (.tmp 41) (.tmp 44) 79 79 (by rfl) 4 Try.underlying79 hsz.out (some ⟨w.heap.size, k, none⟩) (some ⟨w.heap.size, 0, none⟩) (n - k) (n - k) k n (by go_simp) (by go_simp) w.heap.size k (rowR (.bool b) (.bool false) k n) 4 k5.out (List.replicate (Nat.min k (n - k)) (.bool b)) (List.length_replicate ..) (fun _ => ⟨rfl, ⟨w.heap.size, 0, none⟩, rfl, k2.out⟩) k3.out k4.out w.heap.size w k6.out (Nat.le_refl _) ?_; intro w2 hr2 hb2)
      have hmn : k + Nat.min k (n - k) ≤ n := by have : Nat.min k (n - k) ≤ n - k := Nat.min_le_right k (n - k); omega
      have hmp : 1 ≤ Nat.min k (n - k) := by show 1 ≤ min k (n - k); omega
      have hr2' : Hid (w2.heap[w.heap.size]? = some (.cells (rowR (.bool b) (.bool false) (k + Nat.min k (n - k)) n).toArray 4 (0, 0))) := by
        show _ = _
        rw [← rowR_splice (.bool b) (.bool false) hmn]
        exact hr2.out
      clear hr2 hcut hhead
      try simp only [List.length_replicate, goInt]
      generalize Nat.min k (n - k) = q at *
      go_wp2
      go_roundg N2
      case measure => omega
      case rel => exact ⟨k + q, by omega, hmn, by rw [IntWalk.i64_in _ (by omega)]; go_num, hr2', hb2, by show _ ≤ _; have := hN.out; omega⟩
    · have hkn : k = n := by omega
      subst hkn
      have hzw := (Array.getElem?_eq_some_iff.1 hr.out).1
      go_wp2
      go_ret
      refine ⟨_, rfl, ⟨by simp, fun _ => ⟨w.heap.size, 0, rfl, Nat.le_refl _, hzw, hzw, fun i x hx j u hu => ?_⟩⟩, hb⟩
      have hik : i < k := by
        have := (List.getElem?_eq_some_iff.1 hx).1
        simpa using this
      have hxb : x = b := List.eq_of_mem_replicate (List.mem_of_getElem? hx)
      subst hxb
      have hj : j = 0 := by
        have := (List.getElem?_eq_some_iff.1 hu).1
        simp [bv] at this
        exact this
      subst hj
      simp [bv] at hu
      subst hu
      refine ⟨(cell_of_row _ _ _ _ _ (0, 0) hr.out).trans ?_, frozen_of_row _ _ _ _ _ hr.out⟩
      have := rowR_get (.bool x) (.bool false) (m := k) (n := k) hik
      simpa using this

theorem replicate_set (n : Nat) (b : Bool) : List.replicate n b = setOf n fun _ => b := by
  refine inS_ext (by rw [setOf_len, List.length_replicate]) fun v hv => ?_
  rw [List.length_replicate] at hv
  rw [inS_setOf, inS_some (b := b) (by simp [hv])]
  simp [hv]

end Go.Proofs.Ythmhlbkkhaplkaa

namespace Go.Proofs.Ythmhlbkkhaplkaa
open Go.ChangeShapes Go.WideShapes Go.ChangeAt Go.RowKit
set_option linter.unusedVariables false

theorem Only.drewN {lo hi : Nat} {a w : World} (h : Only lo hi a w) (k : Nat) : Only lo hi a (w.drewN k) := ⟨h.os, h.tape, h.output, h.size, h.block⟩

/-- Which vertices may move to a vertex. -/
def BackOk (g : DV) (L : List (List Int)) : Prop := L.length = g.length ∧ ∀ (k : Nat) (row : List Int), L[k]? = some row → row.Nodup ∧ ∀ b : Int, b ∈ row ↔ ∃ v : Nat, b = v ∧ k ∈ gNxt g v
abbrev RowsI (most : Nat) := RowsG (id : Hd → Hd) 1 sv 1 iv most

/-- An arena. -/
def ArenaAt (w : World) (b : Nat) (g : DV) (alive : List Bool) : Prop :=
  ∃ Ag cg Ab cb Ai ci Q, w.heap[b]? = some (.cells #[.slice Ag g.length cg, .slice Ab g.length cb, .slice Ai g.length ci] 105 (0, 0)) ∧ GameAt w Ag g.length g ∧ RowsI 1048576 w 0 w.heap.size Ab g.length Q ∧ BackOk g (Q.map (·.2)) ∧ SetAt w Ai g.length alive

section
variable {w w' : World} {b B : Nat} {g : DV} {alive : List Bool}
theorem ArenaAt.below (h : ArenaAt w b g alive) (hb : Below B w w') (hB : w.heap.size ≤ B) : ArenaAt w' b g alive := by
  obtain ⟨Ag, cg, Ab, cb, Ai, ci, Q, h1, h2, h3, h4, h5⟩ := h
  have hlt := (Array.getElem?_eq_some_iff.1 h1).1
  exact ⟨Ag, cg, Ab, cb, Ai, ci, Q, (hb.block b (by omega)).trans h1, h2.below hb hB, (h3.below hb (.inl hB)).more (Nat.le_refl _) hb.size, h4, h5.below hb hB⟩
theorem ArenaAt.lt (h : ArenaAt w b g alive) : b < w.heap.size := by
  obtain ⟨Ag, cg, Ab, cb, Ai, ci, Q, h1, _⟩ := h
  exact (Array.getElem?_eq_some_iff.1 h1).1
/-- The fields, at addresses that are known. -/
theorem ArenaAt.open_ (h : ArenaAt w b g alive) (ok : GameOk g) : ∃ b1 o1 cg b2 o2 cb b3 o3 ci Q, w.cell? ⟨b, 0, none⟩ = some (.slice (some ⟨b1, o1, none⟩) g.length cg) ∧ w.cell? ⟨b, 1, none⟩ = some (.slice (some ⟨b2, o2, none⟩) g.length cb) ∧ w.cell? ⟨b, 2, none⟩ = some (.slice (some ⟨b3, o3, none⟩) g.length ci) ∧
    GameAt w (some ⟨b1, o1, none⟩) g.length g ∧ RowsI 1048576 w 0 w.heap.size (some ⟨b2, o2, none⟩) g.length Q ∧ BackOk g (Q.map (·.2)) ∧ SetAt w (some ⟨b3, o3, none⟩) g.length alive ∧ b < w.heap.size ∧ 0 < g.length ∧ g.length ≤ 120 := by
  obtain ⟨Ag, cg, Ab, cb, Ai, ci, Q, h1, h2, h3, h4, h5⟩ := h
  have hn : 0 < g.length := ok.1.1
  obtain ⟨b1, o1, rfl, _⟩ := h2.addr hn
  obtain ⟨b2, o2, rfl, _⟩ := h3.outer.at_ hn
  obtain ⟨b3, o3, rfl, _⟩ := h5.addr hn
  exact ⟨b1, o1, cg, b2, o2, cb, b3, o3, ci, Q, (cell_of_row _ _ 0 _ _ (0, 0) h1).trans rfl, (cell_of_row _ _ 1 _ _ (0, 0) h1).trans rfl, (cell_of_row _ _ 2 _ _ (0, 0) h1).trans rfl, h2, h3, h4, h5, (Array.getElem?_eq_some_iff.1 h1).1, hn, ok.1.2⟩
end

set_option maxHeartbeats 800000 in
set_option maxRecDepth 100000 in
theorem marked_calls (F : FuncId) (caps : Array Value) (G : Nat → Bool) (b : Nat) (g : DV) (alive : List Bool) (w : World) (h : ArenaAt w b g alive) (ok : GameOk g)
    (hF : ∀ (v : Value) (W : World), Sem.run Try.prog (callFunc F (#[v] ++ caps)) W = .ok (.enter F (#[v] ++ caps)) W)
    (hcl : ∀ (k : Nat) (W : World), k < g.length → inS alive k = true → Below w.heap.size w W → Calls Try.prog F (#[.int .i64 (k : Int)] ++ caps) W fun e W' => e = .returned (.bool (G k)) ∧ ∃ N, W' = W.drewN N) :
    Calls Try.prog 56 #[.pointer (some ⟨b, 0, none⟩), .func (.func F) #[] caps] w (GotB w g.length (setOf g.length fun v => inS alive v && G v)) := by
  obtain ⟨b1, o1, cg, b2, o2, cb, b3, o3, ci, Q, c0, c1, c2, -, -, -, ha, hbl, hn0, hn1⟩ := h.open_ ok
  have hmk := run_make_bool g.length (by omega)
  have hstart := SlB.made w g.length
  rw [← setK_zero g.length (fun v => inS alive v && G v)] at hstart
  replace hstart := hide hstart
  replace ha := hide ha
  replace hcl := hide hcl
  clear h ok
  generalize hgl : g.length = n at *
  clear hgl
  go_enter Try.func56, Try.ntmps56
  go_wp2
  go_loopw [19] (fun i wr => ∃ k : Nat, k ≤ n ∧ i = .int .i64 k ∧ SlB wr w.heap.size (w.heap.size + 1) (some ⟨w.heap.size, 0, none⟩) n (setK n k fun v => inS alive v && G v) ∧ Below w.heap.size w wr ∧ w.heap.size < wr.heap.size) (fun i _ => n - (intOf i).toNat)
  case atStart => exact ⟨0, Nat.zero_le _, rfl, hstart.out, (Below.refl _ _).alloc (Nat.le_refl _) _, by simp⟩
  case round =>
    obtain ⟨k, hk, rfl, hs, hb, hz⟩ := hrel
    clear hmk hstart
    by_cases hlt : k < n
    · have a0 := (ha.out.below hb (Nat.le_refl _)).cell hlt
      have hfin : ∀ v W, SlB W w.heap.size (w.heap.size + 1) (some ⟨w.heap.size, 0, none⟩) n (setK n k fun v => inS alive v && G v) → v = (inS alive k && G k) → SlB (W.setCell ⟨w.heap.size, k, none⟩ (.bool v)) w.heap.size (w.heap.size + 1) (some ⟨w.heap.size, 0, none⟩) n (setK n (k + 1) fun v => inS alive v && G v) := fun v W hsW hv => by
        have := SlB.put hsW hlt v
        rwa [setK_step hlt hv, Nat.zero_add] at this
      by_cases z1 : inS alive k = true
      · have hc := hide (hcl.out k wr hlt z1 hb)
        have hnext := hide (fun N => hfin (G k) (wr.drewN N) (hs.drewN N) (by rw [z1]; rfl))
        have hcell := hide (fun N => (SlB.cell (hs.drewN N) hlt))
        have hbN := hide (fun N => hb.trans ((below_drewN wr N).mono hb.size))
        rw [z1] at a0
        clear z1 hfin hs ha hcl c0 c1
        generalize G k = gk' at *
        go_wp2_with fail
        refine hc.out.mono ?_
        rintro e w1 ⟨rfl, N, rfl⟩
        obtain ⟨s0, z0, -, -, -⟩ := hcell.out N
        rw [Nat.zero_add] at s0 z0
        go_wp2_with fail
        go_roundw
        case rel => exact ⟨k + 1, by omega, by go_num, hnext.out N, (hbN.out N).setCell (Nat.le_refl _) _, by rw [World.size_setCell]; exact hz⟩
        case measure => simp [intOf]; omega
      · replace z1 := Bool.eq_false_iff.2 z1
        have hnext := hide (hfin false wr hs (by rw [z1]; rfl))
        obtain ⟨s0, z0, -, -, -⟩ := SlB.cell hs hlt
        rw [Nat.zero_add] at s0 z0
        rw [z1] at a0
        clear z1 hfin hs ha hcl c0 c1
        go_wp2_with fail
        go_roundw
        case rel => exact ⟨k + 1, by omega, by go_num, hnext.out, hb.setCell (Nat.le_refl _) _, by rw [World.size_setCell]; exact hz⟩
        case measure => simp [intOf]; omega
    · have hkn : k = n := by omega
      subst hkn
      rw [setK_all] at hs
      replace hs := hide hs
      go_wp2
      go_ret
      exact ⟨_, _, rfl, hs.out.more (Nat.le_refl _) hz, hb⟩

/-- The ways left, as the walk counts them. -/
theorem exits_step {g : DV} {alive : List Bool} {l : List Int} {k : Nat} {x : Int} (hx : l[k]? = some x) :
    (((l.take (k + 1)).map Int.toNat).filter (inS alive)).length = (((l.take k).map Int.toNat).filter (inS alive)).length + if inS alive x.toNat then 1 else 0 := by
  rw [List.take_add_one, hx, List.map_append, List.filter_append, List.length_append]
  by_cases h : inS alive x.toNat = true <;> simp [List.filter_cons, h]

set_option maxHeartbeats 800000 in
theorem exits_calls (b : Nat) (g : DV) (alive : List Bool) (v : Nat) (w : World) (h : ArenaAt w b g alive) (ok : GameOk g) (hv : v < g.length) :
    Calls Try.prog 86 #[.pointer (some ⟨b, 0, none⟩), .int .i64 (v : Int)] w fun e w' => e = .returned (.int .i64 (exitsF g alive v)) ∧ w = w' := by
  obtain ⟨b1, o1, cg, b2, o2, cb, b3, o3, ci, Q, c0, c1, c2, hg, -, -, ha, hbl, hn0, hn1⟩ := h.open_ ok
  obtain ⟨o, p, l, Ah, nh, ch, hx, d0, d1, d2, hl, hnh, -, -, hinc⟩ := hg.cell ok hv
  have hnx := hide (gNxt_at hx)
  have hlen := hide hl.len
  replace hl := hide hl
  replace ha := hide ha
  replace hinc := hide hinc
  clear h ok hg hx
  generalize g.length = n at *
  go_enter Try.func86, Try.ntmps86
  go_wp2
  go_loop [5, 17] (fun s i => ∃ (k m : Nat), k ≤ nh ∧ i = .int .i64 k ∧ s = .int .i64 m ∧ Hid (m = (((l.take k).map Int.toNat).filter (inS alive)).length) ∧ m ≤ k) (fun _ i => nh - (intOf i).toNat)
  case atStart => exact ⟨0, 0, Nat.zero_le _, rfl, rfl, rfl, Nat.le_refl _⟩
  case round =>
    obtain ⟨k, m, hk, rfl, rfl, hm, hmk⟩ := hrel
    by_cases hlt : k < nh
    · obtain ⟨bh, oh, eAh, -⟩ := hl.out.at_ (show 0 < nh by omega)
      have hl2 := hl.out
      rw [eAh] at hl2
      obtain ⟨x, hx, e0, -⟩ := hl2.cell hlt
      have hxb := hinc.out.at_ hx
      have hx0 := hxb.1
      have hx1 := hxb.2
      have al0 := ha.out.cell (show x.toNat < n by omega)
      have hst := exits_step (g := g) (alive := alive) hx
      rw [← hm.out] at hst
      subst eAh
      clear hl2 hl hx hxb ha
      by_cases z1 : inS alive x.toNat = true
      · rw [if_pos z1] at hst
        rw [z1] at al0
        replace hst := hide hst
        clear z1
        go_wp2
        go_round
        case rel => exact ⟨k + 1, m + 1, by omega, by go_num, by go_num, hst.out.symm, by omega⟩
        case measure => simp [intOf]; omega
      · rw [if_neg z1] at hst
        rw [Bool.eq_false_iff.2 z1] at al0
        replace hst := hide hst
        clear z1
        go_wp2
        go_round
        case rel => exact ⟨k + 1, m, by omega, by go_num, rfl, hst.out.symm, by omega⟩
        case measure => simp [intOf]; omega
    · have hkn : k = nh := by omega
      subst hkn
      have hm' := hm.out
      rw [List.take_of_length_le (by rw [hlen.out]; exact Nat.le_refl _), ← hnx.out] at hm'
      replace hm' := hide hm'
      clear hl ha
      go_wp2
      go_ret
      exact ⟨by unfold exitsF; rw [← hm'.out]; rfl, rfl⟩

end Go.Proofs.Ythmhlbkkhaplkaa
