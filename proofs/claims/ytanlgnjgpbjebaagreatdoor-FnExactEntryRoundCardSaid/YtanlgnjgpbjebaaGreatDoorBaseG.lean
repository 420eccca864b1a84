/-
  Several texts in one:
  The law's own marks on lists of texts and of edges: writing them, and seeing whether they are held. Conditions: sizes.
  Formulas (lists of nodes: two numbers, a text, a bool) as arguments of a law: words, sizes, copying, comparing, marking, opening. Conditions: sizes.
  Edges by a label in deterministic systems: at most one. Conditions: none.
  The edges from a state, by the program. Conditions: sizes.
  The shelf's contracts of Contains, Compact and Sort at []int64, in plain words (printed by wip/shelf2.py with the kit's lay-plain). Conditions: sizes.
  slices.Sort and slices.Compact at []int64, on a slice of the call's own. Conditions: sizes.
  A label's name, by both; whether a label is controlled. Conditions: sizes; the program's name of a label that is one.
  Formulas as lists of nodes: which are valid, what their nodes select, their systems and their games: plain. Conditions: none.
  The game of a valid formula and a valid system is one in the sense of XMuC; its winners tell the meaning of the parts: plain. Conditions: the formula is valid, the system's numbers are in range.
  Lists of bool in memory: reading, writing, copies, and the functions that turn sets into lists of indices. Conditions: at most 1048576 elements.
  A world but for some blocks; tables of rows that are replaced. Conditions: none.
  Games (lists of vertices) as arguments of a law: words, and the helpers' contracts in one shape. Conditions: none.
-/
import Derived.Test.YtanlgnjgpbjebaaGreatDoorBaseA
import Derived.Test.YtanlgnjgpbjebaaGreatDoorBaseB
import Derived.Test.YtanlgnjgpbjebaaGreatDoorBaseC
import Derived.Test.YtanlgnjgpbjebaaGreatDoorBaseF
import Derived.StillTailTactics
import Derived.Deep.LoopGhost
import Derived.Laws.BytesArg
import Derived.Outline
import Derived.Ground.SlgnProg
import Derived.Ground.SlgmProg
import Derived.Shelf.SlicesG.Turned
import Derived.Shelf.SlicesG.SearchI
import Derived.Shelf.SlicesG.CompactI
import Derived.Shelf.SlicesG.Cells
import Derived.Shelf.SortM.Plain
import Derived.Shelf.SortM.SortNone
import Derived.Shelf.SlGeneric
import Derived.Test.YtanlgnjgpbjebaaGreatDoorProg
import Derived.Deep.DeepCutAuto
import Derived.Deep.RegionLaw
import Derived.WalkSpells
import Derived.OneCell
set_option linter.unusedSimpArgs false
set_option linter.unusedVariables false
namespace Go.Proofs.YtanlgnjgpbjebaaGreatDoor
open Go.ChangeShapes Go.WideShapes Go.ChangeAt Go.RowKit
set_option linter.unusedVariables false
set_option linter.unusedSimpArgs false

/-! ## The text of a number -/
def mtG : Nat → Nat → ByteArray → ByteArray
  | 0, _, out => out
  | f + 1, k, out => if k = 0 then out else mtG f (k / 10) (strOfNums [48 + (k : Int) % 10] ++ out)
/-- "m" ahead of the digits. -/
def mText (k : Nat) : ByteArray := (⟨#[109]⟩ : ByteArray) ++ mtG 41 k ⟨#[]⟩
theorem strOne (n : Int) : (strOfNums [n]).size = 1 := rfl
theorem mtG_step {f k : Nat} (h : 0 < k) (out : ByteArray) : mtG (f + 1) k out = mtG f (k / 10) (strOfNums [48 + (k : Int) % 10] ++ out) := by
  conv => lhs; unfold mtG
  rw [if_neg (by omega)]
theorem mtG_zero (f : Nat) (out : ByteArray) : mtG f 0 out = out := by
  cases f with
  | zero => rfl
  | succ f => unfold mtG; rw [if_pos rfl]
theorem conv_one (W : World) (n : Int) : (convert 127 9 (.slice (some ⟨W.heap.size, 0, none⟩) 1 1)).run Tryz.prog (W.alloc (.cells #[.int .u8 n] 5)) = .ok (.string (strOfNums [n])) (W.alloc (.cells #[.int .u8 n] 5)) :=
  run_convert_bytes_arg _ 127 5 Tryz.underlying127 Tryz.underlying5 W.heap.size 0 1 1 [n] rfl (fun i hi => by
    have : i = 0 := by omega
    subst this
    exact (cell_of_row _ _ 0 _ _ (0, 0) (heap_alloc_new W _)).trans rfl) 9 Tryz.underlying9

set_option maxRecDepth 100000 in
set_option maxHeartbeats 800000 in
theorem markText_calls (k : Nat) (hk0 : 0 < k) (hk : k ≤ 1099511627776) (w : World) : Calls Tryz.prog 76 #[.int .i64 (k : Int)] w fun e w' => e = .returned (.string (mText k)) ∧ Below w.heap.size w w' := by
  have hcv := conv_one
  have hkI : (0 : Int) < (k : Int) := by omega
  have hle : ¬ ((k : Int) ≤ 0) := by omega
  go_enter Tryz.func76, Tryz.ntmps76
  go_wp2
  go_loopg [0, 3] 41 (fun N a s wr => ∃ (j : Nat) (out : ByteArray), a = .int .i64 (j : Nat) ∧ s = .string out ∧ j ≤ 1099511627776 ∧ Hid (j < 10 ^ N) ∧ out.size + N ≤ 41 ∧ Hid (mtG N j out = mtG 41 k ⟨#[]⟩) ∧ Below w.heap.size w wr)
  case atStart => exact ⟨k, ⟨#[]⟩, rfl, rfl, hk, by show _ < _; omega, by show 0 + 41 ≤ 41; omega, rfl, Below.refl _ _⟩
  case round =>
    obtain ⟨j, out, rfl, rfl, hj, hp, hs, hm, hb⟩ := hrel
    by_cases hj0 : 0 < j
    · obtain ⟨G, rfl⟩ : ∃ G, gk = G + 1 := ⟨gk - 1, by
        rcases Nat.eq_zero_or_pos gk with h | h
        · have := hp.out
          rw [h] at this
          simp at this
          omega
        · omega⟩
      have hm2 := hide ((mtG_step hj0 out).symm.trans hm.out)
      have hp2 : Hid (j / 10 < 10 ^ G) := by
        have := hp.out
        rw [Nat.pow_succ] at this
        show _ < _
        omega
      have hjI : (0 : Int) < (j : Int) := by omega
      have hz := hb.size
      clear hm hp
      have hadd : ∀ W, (Op.stringOp .add (strOfNums [48 + (j : Int) % 10]) out).run Tryz.prog W = .ok (.string (strOfNums [48 + (j : Int) % 10] ++ out)) W := fun W => run_string_add_sum W _ _ (by rw [strOne]; omega)
      go_wp2
      go_roundg G
      case measure => omega
      case rel => exact ⟨j / 10, _, by go_num, rfl, by omega, hp2, by rw [ByteArray.size_append, strOne]; omega, hm2, hb.alloc hz _⟩
    · have h0 : j = 0 := by omega
      subst h0
      have hmz := hm.out
      rw [mtG_zero] at hmz
      have hv : Hid (mText k = (⟨#[109]⟩ : ByteArray) ++ out) := by show _ = _; unfold mText; rw [← hmz]
      have hs1 : (⟨#[109]⟩ : ByteArray).size = 1 := rfl
      have hadd : ∀ W, (Op.stringOp .add (⟨#[109]⟩ : ByteArray) out).run Tryz.prog W = .ok (.string ((⟨#[109]⟩ : ByteArray) ++ out)) W := fun W => run_string_add_sum W _ _ (by rw [hs1]; omega)
      clear hm hp hmz
      go_wp2
      go_ret
      exact ⟨by rw [hv.out]; rfl, hb⟩

/-! ## What may be written stays so -/
def Kept (w w' : World) : Prop := ∀ b o, (w.cell? ⟨b, o, none⟩).isSome = true → (w'.cell? ⟨b, o, none⟩).isSome = true ∧ w'.frozen? ⟨b, o, none⟩ = w.frozen? ⟨b, o, none⟩
structure OnlyK (lo hi : Nat) (w w' : World) : Prop where
  only : Only lo hi w w'
  kept : Kept w w'
/-- A slice value whose cells are there and may be written. -/
def WrS (size : Nat) (w : World) (lo hi : Nat) (A : Option Addr) (n : Nat) : Prop := 0 < n → ∃ b off, A = some ⟨b, off, none⟩ ∧ lo ≤ b ∧ b < hi ∧ b < w.heap.size ∧ ∀ i, i < n * size → (w.cell? ⟨b, off + i, none⟩).isSome = true ∧ w.frozen? ⟨b, off + i, none⟩ = false
theorem Only.wide {lo hi lo' hi' : Nat} {w w' : World} (h : Only lo hi w w') (h1 : lo' ≤ lo) (h2 : hi ≤ hi') : Only lo' hi' w w' :=
  ⟨h.os, h.tape, h.output, h.size, fun b hb ho => h.block b hb (by omega)⟩
section
variable {lo hi : Nat} {a w w' : World}
theorem OnlyK.refl (lo hi : Nat) (w : World) : OnlyK lo hi w w := ⟨Only.refl _ _ _, fun _ _ h => ⟨h, rfl⟩⟩
theorem OnlyK.trans (h : OnlyK lo hi a w) (g : OnlyK lo hi w w') : OnlyK lo hi a w' :=
  ⟨h.only.trans g.only, fun b o hs => by
    obtain ⟨h1, h2⟩ := h.kept b o hs
    obtain ⟨g1, g2⟩ := g.kept b o h1
    exact ⟨g1, g2.trans h2⟩⟩
theorem OnlyK.below (h : Below w.heap.size w w') : OnlyK lo hi w w' := by
  refine ⟨⟨h.os, h.tape, h.output, h.size, fun b hb _ => h.block b hb⟩, fun b o hs => ?_⟩
  have hlt : b < w.heap.size := by
    unfold World.cell? at hs
    cases hb : w.heap[b]? with
    | none => rw [hb] at hs; cases hs
    | some x => exact (Array.getElem?_eq_some_iff.1 hb).1
  have hb := h.block b hlt
  have e1 : w'.cell? ⟨b, o, none⟩ = w.cell? ⟨b, o, none⟩ := World.cell?_of_block (w := w) (by simpa using hb)
  have e2 : w'.frozen? ⟨b, o, none⟩ = w.frozen? ⟨b, o, none⟩ := World.frozen?_of_block (w := w) (by simpa using hb)
  exact ⟨by rw [e1]; exact hs, e2⟩
theorem OnlyK.set {b o : Nat} (h1 : lo ≤ b) (h2 : b < hi) (v : Value) : OnlyK lo hi w (w.setCell ⟨b, o, none⟩ v) := by
  refine ⟨(Only.refl lo hi w).setCell (p := ⟨b, o, none⟩) h1 h2 v, fun b' o' hs => ⟨?_, World.frozen?_setCell ..⟩⟩
  obtain ⟨u, hu⟩ := Option.isSome_iff_exists.1 hs
  by_cases e : (⟨b, o, none⟩ : Addr) = ⟨b', o', none⟩
  · rw [← e] at hu ⊢
    rw [World.cell?_setCell_same w _ v hu]
    rfl
  · rw [World.cell?_setCell_other w _ _ v e, hu]
    rfl
theorem OnlyK.setCell {b o : Nat} (h : OnlyK lo hi a w) (h1 : lo ≤ b) (h2 : b < hi) (v : Value) : OnlyK lo hi a (w.setCell ⟨b, o, none⟩ v) := h.trans (OnlyK.set h1 h2 v)
theorem WrS.kept {size n : Nat} {A : Option Addr} (h : WrS size w lo hi A n) (g : Kept w w') (hs : w.heap.size ≤ w'.heap.size) : WrS size w' lo hi A n := fun hn => by
  obtain ⟨b, off, e, g1, g2, g3, hc⟩ := h hn
  refine ⟨b, off, e, g1, g2, by omega, fun i hi => ?_⟩
  obtain ⟨c1, c2⟩ := hc i hi
  obtain ⟨k1, k2⟩ := g b _ c1
  exact ⟨k1, k2.trans c2⟩
theorem WrS.of {α : Type} {size n : Nat} {f : α → List Value} {A : Option Addr} {l : List α} (h : Sl size f w lo hi A n l) (hf : Flat f size) : WrS size w lo hi A n := fun hn => by
  obtain ⟨b, off, e, g1, g2, g3, hc⟩ := h.at_ hn
  refine ⟨b, off, e, g1, g2, g3, fun i hi => ?_⟩
  have hs : 0 < size := by rcases Nat.eq_zero_or_pos size with h0 | h0; (subst h0; simp at hi); exact h0
  have hk : i / size < l.length := by rw [h.len]; exact (Nat.div_lt_iff_lt_mul hs).2 hi
  have hj : i % size < (f (l[i / size]'hk)).length := by rw [hf.1]; exact Nat.mod_lt _ hs
  obtain ⟨c1, c2⟩ := hc (i / size) _ (List.getElem?_eq_getElem hk) (i % size) _ (List.getElem?_eq_getElem hj)
  rw [Nat.mul_comm (i / size) size, Nat.div_add_mod] at c1 c2
  exact ⟨by rw [c1]; rfl, c2⟩
end

set_option maxRecDepth 100000 in
theorem markStringS_wr (A : Option Addr) (n c : Nat) (m : Nat) (w : World) (lo hi : Nat) (h : WrS 1 w lo hi A n) (hn : n ≤ 1048576) (h0 : 0 < m) (h1 : m ≤ 549755813888) :
    Calls Tryz.prog 77 #[.slice A n c, .int .i64 (m : Int)] w fun e w' => e = .returned (.int .i64 ((m + n : Nat) : Int)) ∧ OnlyK lo hi w w' := by
  replace h := hide h
  go_enter Tryz.func77, Tryz.ntmps77
  go_wp2
  go_loopw [1, 5] (fun s i wr => ∃ k : Nat, k ≤ n ∧ i = .int .i64 k ∧ s = .int .i64 ((m + k : Nat) : Int) ∧ OnlyK lo hi w wr) (fun _ i _ => n - (intOf i).toNat)
  case atStart => exact ⟨0, Nat.zero_le _, rfl, rfl, OnlyK.refl _ _ _⟩
  case round =>
    obtain ⟨k, hk, rfl, rfl, ho⟩ := hrel
    by_cases hlt : k < n
    · have q := hide (markText_calls (m + k) (by omega) (by omega) wr)
      have hW := h.out.kept ho.kept ho.only.size
      obtain ⟨b, off, rfl, g1, g2, -, hc⟩ := hW (by omega)
      obtain ⟨h8, h9⟩ := hc k (by omega)
      replace ho := hide ho
      clear h hW hc
      go_wp2_with fail
      refine q.out.mono ?_
      rintro e w1 ⟨rfl, hb1⟩
      have hk1 := OnlyK.below (lo := lo) (hi := hi) hb1
      obtain ⟨k1, k2⟩ := hk1.kept b (off + k) h8
      rw [h9] at k2
      obtain ⟨v, hv⟩ := Option.isSome_iff_exists.1 k1
      have ho2 := hide (ho.out.trans hk1)
      clear h8 h9 k1 hk1 hb1
      go_wp2_with fail
      go_roundw
      case rel => exact ⟨k + 1, by omega, by go_num, by go_num, ho2.out.setCell g1 g2 _⟩
      case measure => simp [intOf]; omega
    · have hkn : k = n := by omega
      subst hkn
      clear h
      replace ho := hide ho
      go_wp2
      go_ret
      exact ⟨rfl, ho.out⟩

set_option maxRecDepth 100000 in
set_option maxHeartbeats 800000 in
theorem markEdgeS_wr (A : Option Addr) (n c : Nat) (m : Nat) (w : World) (lo hi : Nat) (h : WrS 3 w lo hi A n) (hn : n ≤ 1048576) (h0 : 0 < m) (h1 : m ≤ 549764202496) :
    Calls Tryz.prog 78 #[.slice A n c, .int .i64 (m : Int)] w fun e w' => e = .returned (.int .i64 ((m + 3 * n : Nat) : Int)) ∧ OnlyK lo hi w w' := by
  replace h := hide h
  go_enter Tryz.func78, Tryz.ntmps78
  go_wp2
  go_loopw [1, 5] (fun s i wr => ∃ k : Nat, k ≤ n ∧ i = .int .i64 k ∧ s = .int .i64 ((m + 3 * k : Nat) : Int) ∧ OnlyK lo hi w wr) (fun _ i _ => n - (intOf i).toNat)
  case atStart => exact ⟨0, Nat.zero_le _, rfl, rfl, OnlyK.refl _ _ _⟩
  case round =>
    obtain ⟨k, hk, rfl, rfl, ho⟩ := hrel
    by_cases hlt : k < n
    · have hW := h.out.kept ho.kept ho.only.size
      obtain ⟨b, off, rfl, g1, g2, -, hc⟩ := hW (by omega)
      obtain ⟨h8, h9⟩ := hc (k * 3) (by omega)
      obtain ⟨i8, i9⟩ := hc (k * 3 + 1) (by omega)
      obtain ⟨j8, j9⟩ := hc (k * 3 + 2) (by omega)
      rw [← Nat.add_assoc] at i8 i9 j8 j9
      obtain ⟨v, hv⟩ := Option.isSome_iff_exists.1 h8
      obtain ⟨u, hu⟩ := Option.isSome_iff_exists.1 i8
      obtain ⟨t, ht⟩ := Option.isSome_iff_exists.1 j8
      replace ho := hide ho
      clear h hW hc h8 i8 j8
      go_wp2
      go_roundw
      case rel => exact ⟨k + 1, by omega, by go_num, by go_num, ((ho.out.setCell g1 g2 _).setCell g1 g2 _).setCell g1 g2 _⟩
      case measure => simp [intOf]; omega
    · have hkn : k = n := by omega
      subst hkn
      clear h
      replace ho := hide ho
      go_wp2
      go_ret
      exact ⟨rfl, ho.out⟩

/-- A system that may be written. -/
structure WrL (w : World) (lo hi : Nat) (v2 v3 : Value) (n2 n3 : Nat) : Prop where
  lab : ∃ A c, v2 = .slice A n2 c ∧ WrS 1 w lo hi A n2
  edg : ∃ A c, v3 = .slice A n3 c ∧ WrS 3 w lo hi A n3
theorem WrL.kept {w w' : World} {lo hi n2 n3 : Nat} {v2 v3 : Value} (h : WrL w lo hi v2 v3 n2 n3) (g : Kept w w') (hs : w.heap.size ≤ w'.heap.size) : WrL w' lo hi v2 v3 n2 n3 := by
  obtain ⟨A, c, e, h1⟩ := h.lab
  obtain ⟨B, d, e', h2⟩ := h.edg
  exact ⟨⟨A, c, e, h1.kept g hs⟩, ⟨B, d, e', h2.kept g hs⟩⟩
theorem WrL.of {w : World} {lo hi : Nat} {x : CL} {d : DL} (h : ReadL w lo hi x d) : WrL w lo hi x.2.2.1 x.2.2.2 d.2.2.1.length d.2.2.2.length := by
  obtain ⟨-, -, ⟨A2, n2, k2, e2, hn2, hs2, t2⟩, ⟨A3, n3, k3, e3, hn3, t3⟩⟩ := h
  rw [t2.len, t3.len]
  exact ⟨⟨A2, k2, e2, WrS.of t2 flat_strv⟩, ⟨A3, k3, e3, WrS.of t3 flat_ev⟩⟩

set_option maxRecDepth 100000 in
theorem markLts_wr (s0 s1 : Int) (v2 v3 : Value) (n2 n3 : Nat) (m : Nat) (w : World) (lo hi : Nat) (h : WrL w lo hi v2 v3 n2 n3) (hn2 : n2 ≤ 1048576) (hn3 : n3 ≤ 1048576) (hh : hi ≤ w.heap.size) (h0 : 0 < m) (h1 : m ≤ 549755813888) :
    Calls Tryz.prog 33 #[.agg #[.int .i64 s0, .int .i64 s1, v2, v3], .int .i64 (m : Int)] w fun e w' => e = .returned (.int .i64 ((m + n2 + 3 * n3 : Nat) : Int)) ∧ OnlyK lo hi w w' := by
  obtain ⟨A2, k2, rfl, -⟩ := h.lab
  obtain ⟨A3, k3, rfl, -⟩ := h.edg
  have hb0 : Below w.heap.size w (w.alloc (.cells #[.int .i64 s0, .int .i64 s1, .slice A2 n2 k2, .slice A3 n3 k3] 35)) := (Below.refl _ _).alloc (Nat.le_refl _) _
  have kE := heap_alloc_new w (.cells #[.int .i64 s0, .int .i64 s1, .slice A2 n2 k2, .slice A3 n3 k3] 35)
  have hz : w.heap.size < (w.alloc (.cells #[.int .i64 s0, .int .i64 s1, .slice A2 n2 k2, .slice A3 n3 k3] 35)).heap.size := by rw [World.size_alloc]; omega
  have hk0 := OnlyK.below (lo := lo) (hi := hi) hb0
  have hL := h.kept hk0.kept hk0.only.size
  obtain ⟨B2, d2, e2, w2⟩ := hL.lab
  cases e2
  have q := hide (markStringS_wr A2 n2 k2 m _ lo hi w2 hn2 h0 h1)
  have c2 : (w.alloc (.cells #[.int .i64 s0, .int .i64 s1, .slice A2 n2 k2, .slice A3 n3 k3] 35)).cell? ⟨w.heap.size, 2, none⟩ = some (.slice A2 n2 k2) := (cell_of_row _ _ 2 _ _ (0, 0) kE).trans rfl
  replace hk0 := hide hk0
  replace hL := hide hL
  replace kE := hide kE
  clear h w2 hb0
  go_enter Tryz.func33, Tryz.ntmps33
  go_wp2_with fail
  refine q.out.mono ?_
  rintro e w1 ⟨rfl, hk1⟩
  have kF := (hk1.only.block _ hz (.inr hh)).trans kE.out
  have c3 : w1.cell? ⟨w.heap.size, 3, none⟩ = some (.slice A3 n3 k3) := (cell_of_row _ _ 3 _ _ (0, 0) kF).trans rfl
  have hL1 := hL.out.kept hk1.kept hk1.only.size
  obtain ⟨B3, d3, e3, w3⟩ := hL1.edg
  cases e3
  have q2 := hide (markEdgeS_wr A3 n3 k3 (m + n2) w1 lo hi w3 hn3 (by omega) (by omega))
  have hk01 := hide (hk0.out.trans hk1)
  clear hL hL1 w3 hk1 hk0 kF kE q c2
  go_wp2_with fail
  refine q2.out.mono ?_
  rintro e w2 ⟨rfl, hk2⟩
  have hk02 := hide (hk01.out.trans hk2)
  clear hk2 c3
  go_wp2_with fail
  go_ret
  exact ⟨rfl, hk02.out⟩

theorem wr_total {d : DL} (h : totL d ≤ 1048576) : d.2.2.1.length ≤ 1048576 ∧ d.2.2.2.length ≤ 1048576 := ⟨Nat.le_trans (totL_lab d) h, Nat.le_trans (totL_edg d) h⟩

theorem ArgM.only {w w' : World} {lo hi lo' hi' : Nat} {v : Value} {d : DM} (h : ArgM w lo hi v d) (g : Only lo' hi' w w') (hd : hi ≤ lo' ∨ hi' ≤ lo) : ArgM w' lo hi v d := by
  obtain ⟨x, v4, e, h1, a0⟩ := h
  exact ⟨x, v4, e, h1.only g hd, a0.only g hd⟩
theorem FreshM.only {w w' : World} {lo hi lo' hi' : Nat} {v : Value} {d : DM} (h : FreshM w lo hi v d) (g : Only lo' hi' w w') (hd : hi ≤ lo' ∨ hi' ≤ lo) : FreshM w' lo hi v d := ⟨h.1.only g hd, h.2⟩
end Go.Proofs.YtanlgnjgpbjebaaGreatDoor

namespace Go.Proofs.YtanlgnjgpbjebaaGreatDoor
open Go.ChangeShapes Go.WideShapes Go.ChangeAt Go.RowKit Go.Deep
set_option linter.unusedVariables false
set_option linter.unusedSimpArgs false

/-- A node: kind, variable, label, whether the label is turned round. -/
abbrev Nd := Int × Int × ByteArray × Bool
def nv (e : Nd) : List Value := [.int .i64 e.1, .int .i64 e.2.1, .string e.2.2.1, .bool e.2.2.2]
abbrev SlN := Sl 4 nv
theorem flat_nv : Flat nv 4 := ⟨fun _ => rfl, fun x u h => by
  simp only [nv, List.mem_cons, List.not_mem_nil, or_false] at h
  rcases h with rfl | rfl | rfl | rfl <;> rfl⟩
theorem SlN.get {w : World} {lo hi n : Nat} {A : Option Addr} {l : List Nd} (h : SlN w lo hi A n l) {k : Nat} (hk : k < n) :
    ∃ b off x y s z, A = some ⟨b, off, none⟩ ∧ lo ≤ b ∧ b < hi ∧ b < w.heap.size ∧ l[k]? = some (x, y, s, z) ∧ w.cell? ⟨b, off + k * 4, none⟩ = some (.int .i64 x) ∧ w.cell? ⟨b, off + k * 4 + 1, none⟩ = some (.int .i64 y) ∧ w.cell? ⟨b, off + k * 4 + 2, none⟩ = some (.string s) ∧ w.cell? ⟨b, off + k * 4 + 3, none⟩ = some (.bool z) := by
  obtain ⟨b, off, e, g1, g2, g3, hc⟩ := h.at_ (by omega)
  have hl : k < l.length := by rw [h.len]; exact hk
  have h0 := hc k l[k] (List.getElem?_eq_getElem hl) 0 _ rfl
  have h1 := hc k l[k] (List.getElem?_eq_getElem hl) 1 _ rfl
  have h2 := hc k l[k] (List.getElem?_eq_getElem hl) 2 _ rfl
  have h3 := hc k l[k] (List.getElem?_eq_getElem hl) 3 _ rfl
  rw [← Nat.add_assoc] at h1 h2 h3
  exact ⟨b, off, l[k].1, l[k].2.1, l[k].2.2.1, l[k].2.2.2, e, g1, g2, g3, List.getElem?_eq_getElem hl, h0.1, h1.1, h2.1, h3.1⟩
theorem Fill.set4 {α : Type} {f : α → List Value} {w : World} {B n k : Nat} {t : TypeId} {l : List α} (h : Fill 4 f w B t n k l) (hk : k < n) (hlen : ∀ x, (f x).length = 4) {x : α} (hx : l[k]? = some x) {u v z y : Value} (hf : f x = [u, v, z, y]) :
    Fill 4 f ((((w.setCell ⟨B, k * 4, none⟩ u).setCell ⟨B, k * 4 + 1, none⟩ v).setCell ⟨B, k * 4 + 2, none⟩ z).setCell ⟨B, k * 4 + 3, none⟩ y) B t n (k + 1) l :=
  h.step hlen hx fun cur hc hs => ⟨(((cur.setIfInBounds (k * 4) u).setIfInBounds (k * 4 + 1) v).setIfInBounds (k * 4 + 2) z).setIfInBounds (k * 4 + 3) y, heap_setCell_same _ B _ _ t y (heap_setCell_same _ B _ _ t z (heap_setCell_same _ B _ _ t v (heap_setCell_same w B _ cur t u hc))), by simp,
    fun i hi => by rw [Array.getElem?_setIfInBounds_ne (by omega), Array.getElem?_setIfInBounds_ne (by omega), Array.getElem?_setIfInBounds_ne (by omega), Array.getElem?_setIfInBounds_ne (by omega)], fun j q hq => by
    rw [hf] at hq
    match j, hq with
    | 0, hq =>
      simp at hq
      subst hq
      rw [Array.getElem?_setIfInBounds_ne (by omega), Array.getElem?_setIfInBounds_ne (by omega), Array.getElem?_setIfInBounds_ne (by omega)]
      simp [Array.getElem?_setIfInBounds]
      omega
    | 1, hq =>
      simp at hq
      subst hq
      rw [Array.getElem?_setIfInBounds_ne (by omega), Array.getElem?_setIfInBounds_ne (by omega)]
      simp [Array.getElem?_setIfInBounds]
      omega
    | 2, hq =>
      simp at hq
      subst hq
      rw [Array.getElem?_setIfInBounds_ne (by omega)]
      simp [Array.getElem?_setIfInBounds]
      omega
    | 3, hq =>
      simp at hq
      subst hq
      simp [Array.getElem?_setIfInBounds]
      omega⟩
/-- What all labels need. -/
def labSum (l : List Nd) : Nat := (l.map fun x => x.2.2.1.size).sum
abbrev DN := List Nd
def totN (d : DN) : Nat := d.length + labSum d
def preN (l : List Nd) (k : Nat) : Nat := labSum (l.take k)
theorem preN_succ {l : List Nd} {k : Nat} {x : Nd} (h : l[k]? = some x) : preN l (k + 1) = preN l k + x.2.2.1.size := by
  unfold preN labSum
  rw [List.take_add_one, h, List.map_append, List.sum_append]
  simp
theorem preN_all {l : List Nd} {n : Nat} (h : l.length = n) : totN l = n + preN l n := by
  unfold totN preN
  rw [h, List.take_of_length_le (by omega)]
theorem preN_mono (l : List Nd) {k n : Nat} (h : k ≤ n) : preN l k ≤ preN l n := by
  unfold preN labSum
  induction l generalizing k n with
  | nil => simp
  | cons a l ih =>
    cases k with
    | zero => simp
    | succ k =>
      cases n with
      | zero => omega
      | succ n =>
        have := ih (k := k) (n := n) (by omega)
        simp only [List.take_succ_cons, List.map_cons, List.sum_cons]
        omega
theorem lab_le {l : List Nd} {x : Nd} (h : x ∈ l) : x.2.2.1.size ≤ labSum l := by
  unfold labSum
  induction l with
  | nil => cases h
  | cons a l ih =>
    simp only [List.map_cons, List.sum_cons]
    rcases List.mem_cons.1 h with rfl | h
    · omega
    · have := ih h; omega
def ArgN (w : World) (lo hi : Nat) (v : Value) (d : DN) : Prop := ∃ A n c, v = .slice A n c ∧ n ≤ maxLen ∧ (∀ x, x ∈ d → x.2.2.1.size ≤ maxLen) ∧ SlN w lo hi A n d
def FreshN (w : World) (lo hi : Nat) (v : Value) (d : DN) : Prop := ∃ A n, v = .slice A n n ∧ SlN w lo hi A n d ∧ totN d ≤ 1048576
section
variable {w w' : World} {lo hi lo' hi' B : Nat} {v u : Value} {d e : DN}
theorem ArgN.below (h : ArgN w lo hi v d) (hb : Below B w w') (hB : hi ≤ B ∨ w.heap.size ≤ B) : ArgN w' lo hi v d := by
  obtain ⟨A, n, c, h1, h2, h3, h4⟩ := h
  exact ⟨A, n, c, h1, h2, h3, h4.below hb hB⟩
theorem ArgN.only (h : ArgN w lo hi v d) (g : Only lo' hi' w w') (hd : hi ≤ lo' ∨ hi' ≤ lo) : ArgN w' lo hi v d := by
  obtain ⟨A, n, c, h1, h2, h3, h4⟩ := h
  exact ⟨A, n, c, h1, h2, h3, h4.only g hd⟩
theorem FreshN.below (h : FreshN w lo hi v d) (hb : Below B w w') (hB : hi ≤ B ∨ w.heap.size ≤ B) : FreshN w' lo hi v d := by
  obtain ⟨A, n, h1, h2, h3⟩ := h
  exact ⟨A, n, h1, h2.below hb hB, h3⟩
theorem FreshN.only (h : FreshN w lo hi v d) (g : Only lo' hi' w w') (hd : hi ≤ lo' ∨ hi' ≤ lo) : FreshN w' lo hi v d := by
  obtain ⟨A, n, h1, h2, h3⟩ := h
  exact ⟨A, n, h1, h2.only g hd, h3⟩
end
theorem info_implNode : (Tryz.prog.info? 67).map (fun i => (i.zero, i.size, i.bytes)) = some (some (.agg #[.int .i64 0, .int .i64 0, .string ByteArray.empty, .bool false]), 4, 40) := by kernel_rfl

theorem toNode_calls (a b : Int) (s : ByteArray) (c : Bool) (w : World) :
    Calls Tryz.prog 47 #[.agg #[.int .i64 a, .int .i64 b, .string s, .bool c]] w fun e w' => e = .returned (.agg #[.int .i64 a, .int .i64 b, .string s, .bool c]) ∧ Below w.heap.size w w' := by
  go_enter Tryz.func47, Tryz.ntmps47
  go_wp2
  go_returns
  refine ⟨rfl, ?_⟩
  go_grown
theorem szNode_calls (a b : Int) (s : ByteArray) (c : Bool) (left : Int) (w : World) (h0 : 0 ≤ left) (h1 : left ≤ 1048576) (hs : s.size ≤ maxLen) :
    Calls Tryz.prog 42 #[.agg #[.int .i64 a, .int .i64 b, .string s, .bool c], .int .i64 left] w fun e w' => e = .returned (.int .i64 (szLeft left s.size)) ∧ Below w.heap.size w w' := by
  unfold maxLen at hs
  by_cases h : left < s.size
  · go_enter Tryz.func42, Tryz.ntmps42
    go_wp2
    go_returns
    refine ⟨by rw [szLeft_big h]; rfl, ?_⟩
    go_grown
  · go_enter Tryz.func42, Tryz.ntmps42
    go_wp2
    go_returns
    refine ⟨by rw [szLeft_fits (by omega)]; rfl, ?_⟩
    go_grown
theorem szNodeS_calls (A : Option Addr) (n c : Nat) (l : List Nd) (left : Int) (w : World) (lo hi : Nat) (h : SlN w lo hi A n l) (hn : n ≤ maxLen) (hs : ∀ x ∈ l, x.2.2.1.size ≤ maxLen) (h0 : 0 ≤ left) (h1 : left ≤ 1048576) :
    Calls Tryz.prog 12 #[.slice A n c, .int .i64 left] w fun e w' => e = .returned (.int .i64 (szLeft left (totN l))) ∧ Below w.heap.size w w' := by
  unfold maxLen at hn
  have hall := hide (preN_all h.len)
  by_cases hb : left < n
  · have hv : Hid (szLeft left (totN l) = -1) := by show _ = _; rw [hall.out]; exact szLeft_big (by omega)
    clear h
    go_enter Tryz.func12, Tryz.ntmps12
    go_wp2
    go_ret
    exact ⟨ret_i hv.out, Below.refl _ _⟩
  · replace hs := hide hs
    go_enter Tryz.func12, Tryz.ntmps12
    go_wp2
    go_loopw [1, 5] (fun s i wr => ∃ k : Nat, ∃ pre : Nat, k ≤ n ∧ i = .int .i64 k ∧ s = .int .i64 (left - (n : Int) - (pre : Int)) ∧ Hid (pre = preN l k) ∧ (n : Int) + (pre : Int) ≤ left ∧ Below w.heap.size w wr) (fun _ i _ => n - (intOf i).toNat)
    case atStart => exact ⟨0, 0, Nat.zero_le _, rfl, by go_num, rfl, by omega, Below.refl _ _⟩
    case round =>
      obtain ⟨k, pre, hk, rfl, rfl, hp, hle, hbw⟩ := hrel
      by_cases hlt : k < n
      · obtain ⟨b, off, x1, x2, x3, x4, rfl, g1, g2, g3, hx, c0, c1, c2, c3⟩ := h.get hlt
        replace c0 := (hbw.cell (p := ⟨b, off + k * 4, none⟩) g3).trans c0
        replace c1 := (hbw.cell (p := ⟨b, off + k * 4 + 1, none⟩) g3).trans c1
        replace c2 := (hbw.cell (p := ⟨b, off + k * 4 + 2, none⟩) g3).trans c2
        replace c3 := (hbw.cell (p := ⟨b, off + k * 4 + 3, none⟩) g3).trans c3
        have hxs := hs.out _ (List.mem_of_getElem? hx)
        have hnext : Hid (preN l (k + 1) = preN l k + x3.size) := hide (preN_succ hx)
        have hmono := hide (preN_mono l (show k + 1 ≤ n by omega))
        have q := szNode_calls x1 x2 x3 x4 (left - (n : Int) - (pre : Int)) wr (by omega) (by omega) hxs
        clear h hx
        by_cases hbig : left - (n : Int) - (pre : Int) < (x3.size : Int)
        · have hv : Hid (szLeft left (totN l) = -1) := by
            show _ = _
            rw [hall.out]
            refine szLeft_big ?_
            have e1 := hnext.out; have e2 := hmono.out; have e3 := hp.out
            omega
          rw [szLeft_big hbig] at q
          replace q := hide q
          go_wp2_with (first | (go_at_call 42; (with_reducible refine q.out.mono ?_); rintro e w1 ⟨rfl, hb1⟩))
          go_ret
          exact ⟨ret_i hv.out, hbw.trans (hb1.mono hbw.size)⟩
        · rw [szLeft_fits (by omega)] at q
          replace q := hide q
          go_wp2_with (first | (go_at_call 42; (with_reducible refine q.out.mono ?_); rintro e w1 ⟨rfl, hb1⟩))
          go_roundw
          case rel => exact ⟨k + 1, pre + x3.size, by omega, by go_num, by go_num, (by show _ = _; rw [hnext.out, hp.out]), by omega, hbw.trans (hb1.mono hbw.size)⟩
          case measure => simp [intOf]; omega
      · have hkn : k = n := by omega
        subst hkn
        go_wp2
        go_ret
        refine ⟨ret_i ?_, hbw⟩
        rw [hall.out, ← hp.out, szLeft_fits (by omega)]
        omega

theorem toNodeS_calls (A : Option Addr) (n c : Nat) (l : List Nd) (w : World) (lo hi : Nat) (h : SlN w lo hi A n l) (hn : n ≤ 1048576) :
    Calls Tryz.prog 15 #[.slice A n c] w fun e w' => ∃ A', e = .returned (.slice A' n n) ∧ Below w.heap.size w w' ∧ SlN w' w.heap.size w'.heap.size A' n l := by
  obtain ⟨i0, hi0, hz0, hz1, hz2⟩ := info_parts info_implNode
  have hmk := fun W => make_row (P := Tryz.prog) 31 67 i0 _ _ n Tryz.underlying31 hi0 hz0 hz1 (by rw [hz2]; omega) (by omega) W
  clear hi0 hz0 hz1 hz2
  have hlen := hide h.len
  go_enter Tryz.func15, Tryz.ntmps15
  go_wp2
  go_loopw [4] (fun i wr => ∃ k : Nat, k ≤ n ∧ i = .int .i64 k ∧ Below w.heap.size w wr ∧ Fill 4 nv wr w.heap.size 67 n k l) (fun i _ => n - (intOf i).toNat)
  case atStart => exact ⟨0, Nat.zero_le _, rfl, (Below.refl _ _).alloc (Nat.le_refl _) _, Fill.start _ _ _ _ (by simp [madeCells])⟩
  case round =>
    obtain ⟨k, hk, rfl, hb, hf⟩ := hrel
    clear hmk
    by_cases hlt : k < n
    · obtain ⟨b, off, x1, x2, x3, x4, rfl, g1, g2, g3, hx, c0, c1, c2, c3⟩ := h.get hlt
      replace c0 := (hb.cell g3).trans c0
      replace c1 := (hb.cell (p := ⟨b, off + k * 4 + 1, none⟩) g3).trans c1
      replace c2 := (hb.cell (p := ⟨b, off + k * 4 + 2, none⟩) g3).trans c2
      replace c3 := (hb.cell (p := ⟨b, off + k * 4 + 3, none⟩) g3).trans c3
      replace hx := hide hx
      clear h
      go_wp2_with (first | (go_at_call 47; refine (toNode_calls _ _ _ _ _).mono ?_; rintro e w1 ⟨rfl, hb1⟩; have hf1 := hf.keep (hb1.block _ hf.lt); obtain ⟨v0, d0⟩ := hf1.cell (i := k * 4) (by omega); obtain ⟨v1, d1⟩ := hf1.cell (i := k * 4 + 1) (by omega); obtain ⟨v2, d2⟩ := hf1.cell (i := k * 4 + 2) (by omega); obtain ⟨v3, d3⟩ := hf1.cell (i := k * 4 + 3) (by omega); have z0 := hf1.frozen (k * 4); have z1 := hf1.frozen (k * 4 + 1); have z2 := hf1.frozen (k * 4 + 2); have z3 := hf1.frozen (k * 4 + 3)))
      go_roundw
      case rel => exact ⟨k + 1, by omega, by go_num, ((((hb.trans (hb1.mono hb.size)).setCell (Nat.le_refl _) _).setCell (Nat.le_refl _) _).setCell (Nat.le_refl _) _).setCell (Nat.le_refl _) _, hf1.set4 hlt (fun _ => rfl) hx.out rfl⟩
      case measure => simp [intOf]; omega
    · have : k = n := by omega
      subst this
      go_wp2
      go_ret
      exact ⟨_, rfl, hb, hf.done hlen.out (Nat.le_refl _) hf.lt⟩

theorem eqNode_calls (a1 a2 b1 b2 : Int) (s t : ByteArray) (a4 b4 : Bool) (w : World) :
    Calls Tryz.prog 52 #[.agg #[.int .i64 a1, .int .i64 a2, .string s, .bool a4], .agg #[.int .i64 b1, .int .i64 b2, .string t, .bool b4]] w fun e w' => e = .returned (.bool (decide (((a1, a2, s, a4) : Nd) = (b1, b2, t, b4)))) ∧ Below w.heap.size w w' := by
  by_cases h1 : a1 = b1 <;> by_cases h2 : a2 = b2 <;> by_cases h3 : s = t <;> by_cases h4 : a4 = b4
  all_goals try (have h3' := str_neq h3)
  all_goals try (have h4' : (a4 == b4) = false := beq_eq_false_iff_ne.2 h4)
  all_goals try subst h3
  all_goals try subst h4
  all_goals
    go_enter Tryz.func52, Tryz.ntmps52
    go_wp2
    all_goals first | (exfalso; simp_all; done) | skip
    all_goals go_returns
    all_goals refine ⟨by simp [*], ?_⟩
    all_goals go_grown

set_option maxRecDepth 100000 in
theorem eqNodeS_calls (A B : Option Addr) (n m c d : Nat) (l r : List Nd) (w : World) (lo hi lo' hi' : Nat) (h : SlN w lo hi A n l) (g : SlN w lo' hi' B m r) (hn : n ≤ maxLen) (hm : m ≤ maxLen) :
    Calls Tryz.prog 18 #[.slice A n c, .slice B m d] w fun e w' => e = .returned (.bool (decide (l = r))) ∧ Below w.heap.size w w' := by
  unfold maxLen at hn hm
  have hl := hide h.len
  have hr := hide g.len
  by_cases hnm : n = m
  · subst hnm
    go_enter Tryz.func18, Tryz.ntmps18
    go_wp2
    go_loopw [5] (fun i wr => ∃ k : Nat, k ≤ n ∧ i = .int .i64 k ∧ Below w.heap.size w wr ∧ Hid (l.take k = r.take k)) (fun i _ => n - (intOf i).toNat)
    case atStart => exact ⟨0, Nat.zero_le _, rfl, (Below.refl _ _), rfl⟩
    case round =>
      obtain ⟨k, hk, rfl, hb, he⟩ := hrel
      by_cases hlt : k < n
      · obtain ⟨b, off, x1, x2, x3, x4, rfl, g1, g2, g3, hx, c0, c1, c2, c3⟩ := h.get hlt
        obtain ⟨b', off', y1, y2, y3, y4, rfl, g1', g2', g3', hy, d0, d1, d2, d3⟩ := g.get hlt
        replace c0 := (hb.cell g3).trans c0
        replace c1 := (hb.cell (p := ⟨b, off + k * 4 + 1, none⟩) g3).trans c1
        replace c2 := (hb.cell (p := ⟨b, off + k * 4 + 2, none⟩) g3).trans c2
        replace c3 := (hb.cell (p := ⟨b, off + k * 4 + 3, none⟩) g3).trans c3
        replace d0 := (hb.cell g3').trans d0
        replace d1 := (hb.cell (p := ⟨b', off' + k * 4 + 1, none⟩) g3').trans d1
        replace d2 := (hb.cell (p := ⟨b', off' + k * 4 + 2, none⟩) g3').trans d2
        replace d3 := (hb.cell (p := ⟨b', off' + k * 4 + 3, none⟩) g3').trans d3
        replace hx := hide hx
        replace hy := hide hy
        clear h g
        have hq := eqNode_calls x1 x2 y1 y2 x3 y3 x4 y4 wr.drew
        by_cases hxy : ((x1, x2, x3, x4) : Nd) = (y1, y2, y3, y4)
        · rw [decide_eq_true hxy] at hq
          replace hq := hide hq
          replace hxy := hide hxy
          go_wp2
          go_still_tail 8, (by kernel_rfl)
          change wpList _ _ _ _ _ wr.drew
          go_wp2_with (go_at_call 52; refine hq.out.mono ?_; rintro e w1 ⟨rfl, hb1⟩)
          go_roundw
          case rel => exact ⟨k + 1, by omega, by go_num, hb.drew.trans (hb1.mono hb.size), take_step he.out hx.out hy.out hxy.out⟩
          case measure => simp [intOf]; omega
        · rw [decide_eq_false hxy] at hq
          replace hq := hide hq
          have hne := hide (take_stop hx.out hy.out hxy)
          clear hxy
          go_wp2
          go_still_tail 8, (by kernel_rfl)
          change wpList _ _ _ _ _ wr.drew
          go_wp2_with (go_at_call 52; refine hq.out.mono ?_; rintro e w1 ⟨rfl, hb1⟩)
          go_ret
          exact ⟨by simp [hne.out], hb.drew.trans (hb1.mono hb.size)⟩
      · have hkn : k = n := by omega
        subst hkn
        go_wp2
        go_ret
        exact ⟨by rw [take_all he.out hl.out hr.out]; simp, hb⟩
  · have hne : Hid (l ≠ r) := fun e => hnm (by rw [← hl.out, ← hr.out, e])
    have hb0 : ((n : Int) != (m : Int)) = true := by rw [bne_iff_ne]; omega
    go_enter Tryz.func18, Tryz.ntmps18
    go_wp2
    go_ret
    exact ⟨by simp [hne.out], Below.refl _ _⟩

set_option maxRecDepth 100000 in
set_option maxHeartbeats 1600000 in
theorem markNodeS_wr (A : Option Addr) (n c : Nat) (m : Nat) (w : World) (lo hi : Nat) (h : WrS 4 w lo hi A n) (hn : n ≤ 1048576) (h0 : 0 < m) (h1 : m ≤ 549747425280) :
    Calls Tryz.prog 32 #[.slice A n c, .int .i64 (m : Int)] w fun e w' => e = .returned (.int .i64 ((m + 4 * n : Nat) : Int)) ∧ OnlyK lo hi w w' := by
  replace h := hide h
  go_enter Tryz.func32, Tryz.ntmps32
  go_wp2
  go_loopw [1, 5] (fun s i wr => ∃ k : Nat, k ≤ n ∧ i = .int .i64 k ∧ s = .int .i64 ((m + 4 * k : Nat) : Int) ∧ OnlyK lo hi w wr) (fun _ i _ => n - (intOf i).toNat)
  case atStart => exact ⟨0, Nat.zero_le _, rfl, rfl, OnlyK.refl _ _ _⟩
  case round =>
    obtain ⟨k, hk, rfl, rfl, ho⟩ := hrel
    by_cases hlt : k < n
    · have hW := h.out.kept ho.kept ho.only.size
      obtain ⟨b, off, rfl, g1, g2, -, hc⟩ := hW (by omega)
      obtain ⟨h8, h9⟩ := hc (k * 4) (by omega)
      obtain ⟨i8, i9⟩ := hc (k * 4 + 1) (by omega)
      obtain ⟨j8, j9⟩ := hc (k * 4 + 2) (by omega)
      obtain ⟨l8, l9⟩ := hc (k * 4 + 3) (by omega)
      rw [← Nat.add_assoc] at i8 i9 j8 j9 l8 l9
      obtain ⟨v, hv⟩ := Option.isSome_iff_exists.1 h8
      obtain ⟨u, hu⟩ := Option.isSome_iff_exists.1 i8
      have q := hide (markText_calls (m + 4 * k + 2) (by omega) (by omega))
      replace ho := hide ho
      replace j8 := hide j8
      replace l8 := hide l8
      clear h hW hc h8 i8
      go_wp2_with fail
      refine (q.out _).mono ?_
      rintro e w1 ⟨rfl, hb1⟩
      have hkB := ((OnlyK.set (w := wr) g1 g2 _).setCell g1 g2 _).trans (OnlyK.below (lo := lo) (hi := hi) hb1)
      have ho2 := hide (ho.out.trans hkB)
      obtain ⟨k1, k2⟩ := hkB.kept b _ j8.out
      obtain ⟨k3, k4⟩ := hkB.kept b _ l8.out
      rw [j9] at k2
      rw [l9] at k4
      obtain ⟨v2, hv2⟩ := Option.isSome_iff_exists.1 k1
      obtain ⟨v3, hv3⟩ := Option.isSome_iff_exists.1 k3
      clear k1 k3 hkB hb1 hv hu h9 i9 j9 l9
      go_wp2_with fail
      go_roundw
      case rel => exact ⟨k + 1, by omega, by go_num, by go_num, (ho2.out.setCell g1 g2 _).setCell g1 g2 _⟩
      case measure => simp [intOf]; omega
    · have hkn : k = n := by omega
      subst hkn
      clear h
      replace ho := hide ho
      go_wp2
      go_ret
      exact ⟨rfl, ho.out⟩

section
variable {w w' : World} {lo hi lo' hi' B : Nat} {v u : Value} {d e : DN}
theorem szNodeS_u {left : Int} (h : ArgN w lo hi v d) (h0 : 0 ≤ left) (h1 : left ≤ 1048576) :
    Calls Tryz.prog 12 #[v, .int .i64 left] w fun e w' => e = .returned (.int .i64 (szLeft left (totN d))) ∧ Below w.heap.size w w' := by
  obtain ⟨A, n, c, rfl, hn, hs, h⟩ := h
  exact szNodeS_calls A n c d left w lo hi h hn hs h0 h1
theorem toNodeS_u (h : ArgN w lo hi v d) (ht : totN d ≤ 1048576) :
    Calls Tryz.prog 15 #[v] w fun e w' => ∃ v', e = .returned v' ∧ FreshN w' w.heap.size w'.heap.size v' d ∧ Below w.heap.size w w' := by
  obtain ⟨A, n, c, rfl, hn, hs, h⟩ := h
  have hl := h.len
  have hn2 : n ≤ 1048576 := by unfold totN at ht; omega
  refine (toNodeS_calls A n c d w lo hi h hn2).mono ?_
  rintro r w' ⟨A', rfl, hb, g⟩
  exact ⟨_, rfl, ⟨A', n, rfl, g, ht⟩, hb⟩
theorem eqNodeS_u (h : FreshN w lo hi v d) (g : FreshN w lo' hi' u e) :
    Calls Tryz.prog 18 #[v, u] w fun r w' => r = .returned (.bool (decide (d = e))) ∧ Below w.heap.size w w' := by
  obtain ⟨A, n, rfl, h, ht⟩ := h
  obtain ⟨A', n', rfl, g, gt⟩ := g
  have hl := h.len
  have gl := g.len
  unfold totN at ht gt
  exact eqNodeS_calls A A' n n' n n' d e w lo hi lo' hi' h g (by unfold maxLen; omega) (by unfold maxLen; omega)
theorem markNodeS_u {m : Int} (h : FreshN w lo hi v d) (hh : hi ≤ w.heap.size) (h0 : 0 < m) (h1 : m ≤ 549747425280) :
    Calls Tryz.prog 32 #[v, .int .i64 m] w fun e w' => ∃ m', e = .returned (.int .i64 m') ∧ m ≤ m' ∧ m' ≤ m + 8388608 ∧ Only lo hi w w' := by
  obtain ⟨A, n, rfl, h, ht⟩ := h
  have hl := h.len
  have hn : n ≤ 1048576 := by unfold totN at ht; omega
  obtain ⟨m, rfl⟩ : ∃ k : Nat, m = (k : Int) := ⟨m.toNat, by omega⟩
  refine (markNodeS_wr A n n m w lo hi (WrS.of h flat_nv) hn (by omega) (by omega)).mono ?_
  rintro e w' ⟨rfl, ho⟩
  exact ⟨_, rfl, by omega, by omega, ho.only⟩
end
theorem read_N {H : Type} {enc : TypeId × Value → H} {P : Program} {w : World} {base : Nat} {spare : Nat → Bool} {held : Bool} {t e t0 t2 t3 : TypeId} {f0 f1 f2 f3 : Field} (ht : P.underlying t = some (.slice e)) (he : P.underlying e = some (.struct #[f0, f1, f2, f3])) (hone : oneCellFields P #[f0, f1, f2, f3] = true) (hC : P.cellsOf e = 4)
    (h0 : f0.type = t0) (h1 : f1.type = t0) (h2 : f2.type = t2) (h3 : f3.type = t3) (hi : P.underlying t0 = some (.int .i64)) (hs : P.underlying t2 = some .string) (hbo : P.underlying t3 = some .bool)
    {fuel : Nat} {c : Value} {r : DataW H × List MemPlace} (h : DataW.trod enc P w base spare held fuel t [c] = some r) (hz : ∀ b off, MemPlace.cell b off ∈ r.2 → w.frozen? ⟨b, off, none⟩ = false) : ∃ d, ArgN w base w.heap.size c d := by
  obtain ⟨A, n, k, l, e1, e2, e3, e4⟩ := open_flatQ (w := w) (base := base) (spare := spare) (held := held) nv (fun x => x.2.2.1.size ≤ maxLen) ht hC (by omega) (fun fuel cs y hy hl _ => by
    obtain ⟨m0, c0, y0, g0, t0', _⟩ := field1 he hone hC hy 0 _ rfl
    obtain ⟨m1, c1, y1, g1, t1', _⟩ := field1 he hone hC hy 1 _ rfl
    obtain ⟨m2, c2, y2, g2, t2', _⟩ := field1 he hone hC hy 2 _ rfl
    obtain ⟨m3, c3, y3, g3, t3', _⟩ := field1 he hone hC hy 3 _ rfl
    change DataW.trod enc P w base spare held _ f0.type _ = _ at t0'
    change DataW.trod enc P w base spare held _ f1.type _ = _ at t1'
    change DataW.trod enc P w base spare held _ f2.type _ = _ at t2'
    change DataW.trod enc P w base spare held _ f3.type _ = _ at t3'
    rw [h0] at t0'
    rw [h1] at t1'
    rw [h2] at t2'
    rw [h3] at t3'
    obtain ⟨a0, ea0, _, _⟩ := DataW.trod_int hi t0'
    obtain ⟨a1, ea1, _, _⟩ := DataW.trod_int hi t1'
    obtain ⟨a2, ea2, _, na2⟩ := DataW.trod_string hs t2'
    obtain ⟨a3, ea3, _⟩ := DataW.trod_bool hbo t3'
    match cs, hl with
    | [k0, k1, k2, k3], _ =>
      simp at g0 g1 g2 g3 ea0 ea1 ea2 ea3
      subst g0 g1 g2 g3 ea0 ea1 ea2 ea3
      exact ⟨(a0, a1, a2, a3), rfl, na2⟩) h hz
  simp at e1
  exact ⟨l, A, n, k, e1, e2, e4, e3⟩
set_option maxRecDepth 100000 in
theorem open_N {H : Type} {enc : TypeId × Value → H} {w : World} {base wbase : Nat} {spare : Nat → Bool} {held : Bool} {v : Value} {d : DataW H} {p : List MemPlace} {w0 : World} {r0 : Reach} (hw : Value.okWide Tryz.prog w0 r0 wbase 22 v)
    (h : DataW.Trod enc Tryz.prog w base spare held 22 v d p) (hz : ∀ b off, MemPlace.cell b off ∈ p → w.frozen? ⟨b, off, none⟩ = false) : ∃ x, ArgN w base w.heap.size v x := by
  obtain ⟨A, n, c, rfl⟩ := okWide_slice Tryz.underlying22 hw
  obtain ⟨fuel, hf⟩ := h
  have hf' : DataW.trod enc Tryz.prog w base spare held fuel 22 [.slice A n c] = some (d, p) := hf
  exact read_N Tryz.underlying22 Tryz.underlying60 (by kernel_rfl) (by kernel_rfl) rfl rfl rfl rfl Tryz.underlying2 Tryz.underlying9 Tryz.underlying4 hf' hz

end Go.Proofs.YtanlgnjgpbjebaaGreatDoor

namespace Go.Proofs.YtanlgnjgpbjebaaGreatDoor
open Go.ChangeShapes Go.WideShapes Go.ChangeAt Go.RowKit Go.Sort
set_option linter.unusedVariables false

/-- What the edges of a valid system are. -/
theorem edge_of {st ini : Int} {ls : List ByteArray} {es : List Ed} (h : ltsV (st, ini, ls, es) = true) {k : Nat} {f lb tg : Int} (hx : es[k]? = some (f, lb, tg)) :
    (0 ≤ f ∧ f ≤ st - 1) ∧ (0 ≤ tg ∧ tg ≤ st - 1) ∧ 0 ≤ lb ∧ lb ≤ (ls.length : Int) - 1 := by
  unfold ltsV ltsB at h
  simp only [Bool.and_eq_true] at h
  have hk := allK_get h.2.2 (List.getElem?_eq_some_iff.1 hx).1
  unfold okEd at hk
  simp only [hx, Bool.and_eq_true] at hk
  exact ⟨inB_true.1 hk.1.1.1, inB_true.1 hk.1.1.2, inB_true.1 hk.1.2⟩
theorem lts_boundsB {st ini : Int} {ls : List ByteArray} {es : List Ed} (h : ltsV (st, ini, ls, es) = true) : (1 ≤ st ∧ st ≤ 40) ∧ (0 ≤ ini ∧ ini ≤ st - 1) := by
  unfold ltsV ltsB at h
  simp only [Bool.and_eq_true] at h
  exact ⟨inB_true.1 h.1.1.1.1, inB_true.1 h.1.1.1.2⟩

end Go.Proofs.YtanlgnjgpbjebaaGreatDoor

namespace Go.Proofs.YtanlgnjgpbjebaaGreatDoor
open Go.ChangeShapes Go.WideShapes Go.ChangeAt Go.RowKit Go.Sort
set_option linter.unusedVariables false
set_option linter.unusedSimpArgs false

def labE (ls : List ByteArray) (e : Ed) : ByteArray := (ls[e.2.1.toNat]?).getD ⟨#[]⟩
/-! ## Edges from a state, by the program -/
set_option maxRecDepth 100000 in
set_option maxHeartbeats 1600000 in
theorem out_calls (s0 s1 : Int) (v2 : Value) (A3 : Option Addr) (n3 k3 : Nat) (s : Int) (es : List Ed) (w : World) (lo hi : Nat) (t3 : SlE w lo hi A3 n3 es) (hes : n3 ≤ 1048576) (hv2 : ∃ A n k, v2 = .slice A n k) :
    Calls Tryz.prog 126 #[.agg #[.int .i64 s0, .int .i64 s1, v2, .slice A3 n3 k3], .int .i64 s] w fun e w' => ∃ A n c, e = .returned (.slice A n c) ∧ SlE w' w.heap.size w'.heap.size A n (outE es s) ∧ n ≤ 1048576 ∧ Below w.heap.size w w' := by
  obtain ⟨A2, n2, k2, rfl⟩ := hv2
  have l3 := hide t3.len
  have hE := hide elem_edge
  have hb0 : Below w.heap.size w (w.alloc (.cells #[.int .i64 s0, .int .i64 s1, .slice A2 n2 k2, .slice A3 n3 k3] 35)) := (Below.refl _ _).alloc (Nat.le_refl _) _
  have kE := heap_alloc_new w (.cells #[.int .i64 s0, .int .i64 s1, .slice A2 n2 k2, .slice A3 n3 k3] 35)
  have c3 : (w.alloc (.cells #[.int .i64 s0, .int .i64 s1, .slice A2 n2 k2, .slice A3 n3 k3] 35)).cell? ⟨w.heap.size, 3, none⟩ = some (.slice A3 n3 k3) := (cell_of_row _ _ 3 _ _ (0, 0) kE).trans rfl
  have hz' := hb0.size
  replace t3 := hide (t3.below hb0 (.inr (Nat.le_refl _)))
  replace hb0 := hide hb0
  clear kE
  go_enter Tryz.func126, Tryz.ntmps126
  go_upto_region 3 with fail
  clear c3
  generalize (w.alloc (.cells #[.int .i64 s0, .int .i64 s1, .slice A2 n2 k2, .slice A3 n3 k3] 35)) = W0 at *
  go_loopw [5, 11] (fun o i wr => ∃ k m c A, k ≤ n3 ∧ m ≤ k ∧ o = .slice A m c ∧ i = .int .i64 (k : Nat) ∧ Hid (Own 3 ev wr W0.heap.size 108 A m c (outE (es.take k) s)) ∧ Below W0.heap.size W0 wr) (fun _ i _ => n3 - (intOf i).toNat)
  case atStart => exact ⟨0, 0, 0, none, Nat.zero_le _, Nat.le_refl _, rfl, rfl, Own.nil_ _ _ _, Below.refl _ _⟩
  case round =>
    obtain ⟨k, m, c, A, hk, hmk, rfl, rfl, hown, hb⟩ := hrel
    have hz := hb.size
    by_cases hlt : k < n3
    · obtain ⟨b, off, f, lb, tg, rfl, g1, g2, g3, hx, a0, a1, a2, -, -, -⟩ := SlE.get t3.out hlt
      replace a0 := (hb.cell g3).trans a0
      replace a1 := (hb.cell (p := ⟨b, off + k * 3 + 1, none⟩) g3).trans a1
      replace a2 := (hb.cell (p := ⟨b, off + k * 3 + 2, none⟩) g3).trans a2
      have hsu := outE_succ (s := s) hx
      have hbE : Below wr.heap.size wr (wr.alloc (.cells #[.int .i64 f, .int .i64 lb, .int .i64 tg] 108)) := (Below.refl _ _).alloc (Nat.le_refl _) _
      have kE := heap_alloc_new wr (.cells #[.int .i64 f, .int .i64 lb, .int .i64 tg] 108)
      have z0 : (wr.alloc (.cells #[.int .i64 f, .int .i64 lb, .int .i64 tg] 108)).cell? ⟨wr.heap.size, 0, none⟩ = some (.int .i64 f) := (cell_of_row _ _ 0 _ _ (0, 0) kE).trans rfl
      have z1 : (wr.alloc (.cells #[.int .i64 f, .int .i64 lb, .int .i64 tg] 108)).cell? ⟨wr.heap.size, 1, none⟩ = some (.int .i64 lb) := (cell_of_row _ _ 1 _ _ (0, 0) kE).trans rfl
      have z2 : (wr.alloc (.cells #[.int .i64 f, .int .i64 lb, .int .i64 tg] 108)).cell? ⟨wr.heap.size, 2, none⟩ = some (.int .i64 tg) := (cell_of_row _ _ 2 _ _ (0, 0) kE).trans rfl
      have hbB := hb.trans (hbE.mono hz)
      have hzB := hbB.size
      replace hown := hide (hown.out.alloc (.cells #[.int .i64 f, .int .i64 lb, .int .i64 tg] 108))
      replace hbB := hide hbB
      clear hx g1 g2 kE hbE hb
      go_upto_region 5 with fail
      clear a0 a1 a2
      generalize (wr.alloc (.cells #[.int .i64 f, .int .i64 lb, .int .i64 tg] 108)) = WE at *
      generalize wr.heap.size = bE at *
      have hza : ∀ o, W0.heap.size ≤ (WE.alloc o).heap.size := fun o => by rw [World.size_alloc]; omega
      by_cases hf : f = s
      · subst hf
        rw [if_pos rfl] at hsu
        replace hsu := hide hsu
        go_wp2_with (first | (at_builtin; (with_reducible refine wpList_app rfl (.tmp 19) (.tmp 21) rfl hE.out flat_ev rfl (hown.out.alloc _) rfl (Sl.lit1' WE 108 (f, lb, tg) _ rfl 3 _ ?c0) ?c1 (hza _) ?_); rotate_right; intro A5 c5 w5 hown5 hgr5 hb5 _))
        case c0 => rfl
        case c1 => omega
        have hb6 := hide ((hbB.out.alloc hzB (.cells #[.int .i64 f, .int .i64 lb, .int .i64 tg] 108)).trans hb5)
        replace hown5 : Hid (Own 3 ev w5 W0.heap.size 108 A5 (m + 1) c5 (outE (es.take (k + 1)) f)) := by show Own _ _ _ _ _ _ _ _ _; rw [hsu.out]; exact hown5
        go_roundw
        case rel => exact ⟨k + 1, m + 1, c5, A5, by omega, by omega, rfl, by go_num, hown5, hb6.out⟩
        case measure => simp [intOf]; omega
      · rw [if_neg hf, List.append_nil] at hsu
        have hfb : (f == s) = false := by rw [beq_eq_false_iff_ne]; exact hf
        replace hown : Hid (Own 3 ev WE W0.heap.size 108 A m c (outE (es.take (k + 1)) s)) := by show Own _ _ _ _ _ _ _ _ _; rw [hsu]; exact hown.out
        clear hsu hf
        go_wp2_with fail
        go_roundw
        case rel => exact ⟨k + 1, m, c, A, by omega, by omega, rfl, by go_num, hown, hbB.out⟩
        case measure => simp [intOf]; omega
    · have hkn : k = n3 := by omega
      have hall : es.take k = es := List.take_of_length_le (by rw [l3.out, hkn]; exact Nat.le_refl _)
      have hsl := hide (hown.out.sl flat_ev)
      replace hall := hide hall
      replace hb := hide hb
      subst hkn
      go_wp2_with fail
      go_ret
      have h1 := hsl.out.more hz' (Nat.le_refl _)
      rw [hall.out] at h1
      exact ⟨A, m, c, rfl, h1, by omega, hb0.out.trans (hb.out.mono hz')⟩

end Go.Proofs.YtanlgnjgpbjebaaGreatDoor

namespace Go.Proofs
open Go.Shelf
def Tryz.laysCompactI_ren : Go.Shelf.Ren := ⟨fun | 43 => 153 | n => n, fun | 22 => 46 | 23 => 2 | 3 => 3 | 4 => 4 | 0 => 0 | n => n, fun | n => n⟩
theorem Tryz.laysCompactI : Go.Proofs.SlLaysN.n43 Tryz.prog Tryz.laysCompactI_ren := {
  mixed := by kernel_rfl
  f43 := ⟨Tryz.f153.name, by decide, Tryz.func153.trans (congrArg some (by kernel_rfl))⟩
  t0 := Tryz.underlying0
  a0 := Tryz.isAgg0
  z0 := Tryz.sizeOf0
  v0 := Tryz.zeroValue0
  t3 := Tryz.underlying3
  a3 := Tryz.isAgg3
  z3 := Tryz.sizeOf3
  v3 := Tryz.zeroValue3
  t4 := Tryz.underlying4
  a4 := Tryz.isAgg4
  z4 := Tryz.sizeOf4
  v4 := Tryz.zeroValue4
  t22 := Tryz.underlying46
  a22 := Tryz.isAgg46
  z22 := Tryz.sizeOf46
  v22 := Tryz.zeroValue46
  t23 := Tryz.underlying2
  a23 := Tryz.isAgg2
  z23 := Tryz.sizeOf2
  v23 := Tryz.zeroValue2
  i23 := by kernel_rfl }
open Go.RowKit Go.Lib Go.Sort in
theorem Tryz.slices_Compact_int (blk off cap : Nat) (zs : List Int) (w : World) (hH : Holds (Value.int .i64) w blk off zs.toArray) (hsz : zs.length ≤ 9223372036854775807) (hcap : zs.length ≤ cap) :
    Calls Tryz.prog 153 #[.slice (some ⟨blk, off, none⟩) zs.length cap] w fun e w' => e = .returned (.slice (some ⟨blk, off, none⟩) (Lib.compact zs).length cap) ∧ ∃ q, w' = putRow (Value.int .i64) (Sort.ahead w q) blk off (Lib.compact zs ++ List.replicate (zs.length - (Lib.compact zs).length) 0).toArray := AnyG.slices_Compact_int Tryz.laysCompactI blk off cap zs w hH hsz hcap
open Go.RowKit Go.Lib Go.Sort in
theorem Tryz.slices_Compact_int_empty (a : Option Addr) (cap : Nat) (w : World) :
    Calls Tryz.prog 153 #[.slice a 0 cap] w fun e w' => e = .returned (.slice a 0 cap) ∧ w' = w := AnyG.slices_Compact_int_empty Tryz.laysCompactI a cap w
def Tryz.laysSortI_ren : Go.Shelf.Ren := ⟨fun | 5 => 152 | 8 => 169 | 7 => 168 | 19 => 191 | 20 => 192 | 10 => 182 | 11 => 183 | 12 => 184 | 13 => 185 | 14 => 186 | 15 => 187 | 16 => 188 | 17 => 189 | 18 => 190 | 30 => 206 | 31 => 207 | 32 => 208 | 33 => 209 | 34 => 210 | 35 => 164 | 40 => 225 | n => n, fun | 23 => 46 | 25 => 2 | 3 => 3 | 32 => 146 | 22 => 46 | 0 => 0 | 44 => 170 | 46 => 173 | 4 => 4 | 36 => 194 | 35 => 193 | 41 => 161 | 5 => 5 | 9 => 9 | 53 => 211 | 57 => 215 | 63 => 230 | 64 => 231 | n => n, fun | n => n⟩
theorem Tryz.laysSortI : Go.Proofs.SlLaysM.n5 Tryz.prog Tryz.laysSortI_ren := {
  mixed := by kernel_rfl
  f5 := ⟨Tryz.f152.name, by decide, Tryz.func152.trans (congrArg some (by kernel_rfl))⟩
  f7 := ⟨Tryz.f168.name, by decide, Tryz.func168.trans (congrArg some (by kernel_rfl))⟩
  f8 := Tryz.func169.trans (congrArg some (by kernel_rfl))
  f10 := ⟨Tryz.f182.name, by decide, Tryz.func182.trans (congrArg some (by kernel_rfl))⟩
  f11 := ⟨Tryz.f183.name, by decide, Tryz.func183.trans (congrArg some (by kernel_rfl))⟩
  f12 := ⟨Tryz.f184.name, by decide, Tryz.func184.trans (congrArg some (by kernel_rfl))⟩
  f13 := ⟨Tryz.f185.name, by decide, Tryz.func185.trans (congrArg some (by kernel_rfl))⟩
  f14 := ⟨Tryz.f186.name, by decide, Tryz.func186.trans (congrArg some (by kernel_rfl))⟩
  f15 := ⟨Tryz.f187.name, by decide, Tryz.func187.trans (congrArg some (by kernel_rfl))⟩
  f16 := ⟨Tryz.f188.name, by decide, Tryz.func188.trans (congrArg some (by kernel_rfl))⟩
  f17 := ⟨Tryz.f189.name, by decide, Tryz.func189.trans (congrArg some (by kernel_rfl))⟩
  f18 := ⟨Tryz.f190.name, by decide, Tryz.func190.trans (congrArg some (by kernel_rfl))⟩
  f19 := Tryz.func191.trans (congrArg some (by kernel_rfl))
  f20 := Tryz.func192.trans (congrArg some (by kernel_rfl))
  f30 := ⟨Tryz.f206.name, by decide, Tryz.func206.trans (congrArg some (by kernel_rfl))⟩
  f31 := Tryz.func207.trans (congrArg some (by kernel_rfl))
  f32 := Tryz.func208.trans (congrArg some (by kernel_rfl))
  f33 := ⟨Tryz.f209.name, by decide, Tryz.func209.trans (congrArg some (by kernel_rfl))⟩
  f34 := ⟨Tryz.f210.name, by decide, Tryz.func210.trans (congrArg some (by kernel_rfl))⟩
  f35 := ⟨Tryz.f164.name, by decide, Tryz.func164.trans (congrArg some (by kernel_rfl))⟩
  f40 := ⟨Tryz.f225.name, by decide, Tryz.func225.trans (congrArg some (by kernel_rfl))⟩
  t0 := Tryz.underlying0
  a0 := Tryz.isAgg0
  z0 := Tryz.sizeOf0
  v0 := Tryz.zeroValue0
  t3 := Tryz.underlying3
  a3 := Tryz.isAgg3
  z3 := Tryz.sizeOf3
  v3 := Tryz.zeroValue3
  t4 := Tryz.underlying4
  a4 := Tryz.isAgg4
  z4 := Tryz.sizeOf4
  v4 := Tryz.zeroValue4
  t5 := Tryz.underlying5
  a5 := Tryz.isAgg5
  z5 := Tryz.sizeOf5
  v5 := Tryz.zeroValue5
  t9 := Tryz.underlying9
  a9 := Tryz.isAgg9
  z9 := Tryz.sizeOf9
  v9 := Tryz.zeroValue9
  t22 := Tryz.underlying46
  a22 := Tryz.isAgg46
  z22 := Tryz.sizeOf46
  v22 := Tryz.zeroValue46
  t23 := Tryz.underlying46
  a23 := Tryz.isAgg46
  z23 := Tryz.sizeOf46
  v23 := Tryz.zeroValue46
  t25 := Tryz.underlying2
  a25 := Tryz.isAgg2
  z25 := Tryz.sizeOf2
  v25 := Tryz.zeroValue2
  t32 := Tryz.underlying146
  a32 := Tryz.isAgg146
  z32 := Tryz.sizeOf146
  v32 := Tryz.zeroValue146
  t35 := Tryz.underlying193
  a35 := Tryz.isAgg193
  z35 := Tryz.sizeOf193
  v35 := Tryz.zeroValue193
  t36 := Tryz.underlying194
  a36 := Tryz.isAgg194
  z36 := Tryz.sizeOf194
  v36 := Tryz.zeroValue194
  t41 := Tryz.underlying161
  a41 := Tryz.isAgg161
  z41 := Tryz.sizeOf161
  v41 := Tryz.zeroValue161
  t44 := Tryz.underlying170
  a44 := Tryz.isAgg170
  z44 := Tryz.sizeOf170
  v44 := Tryz.zeroValue170
  t46 := Tryz.underlying173
  a46 := Tryz.isAgg173
  z46 := Tryz.sizeOf173
  v46 := Tryz.zeroValue173
  t53 := Tryz.underlying211
  a53 := Tryz.isAgg211
  z53 := Tryz.sizeOf211
  v53 := Tryz.zeroValue211
  t57 := Tryz.underlying215
  a57 := Tryz.isAgg215
  z57 := Tryz.sizeOf215
  v57 := Tryz.zeroValue215
  t63 := Tryz.underlying230
  a63 := Tryz.isAgg230
  z63 := Tryz.sizeOf230
  v63 := Tryz.zeroValue230
  t64 := Tryz.underlying231
  a64 := Tryz.isAgg231
  z64 := Tryz.sizeOf231
  v64 := Tryz.zeroValue231 }
open Go.RowKit Go.Lib Go.Sort in
theorem Tryz.slices_Sort_int (blk off cap : Nat) (zs : List Int) (w : World) (hH : Holds (Value.int .i64) w blk off zs.toArray) (hblk : blk < w.heap.size) (hsz : zs.length < 4611686018427387904) :
    Calls Tryz.prog 152 #[.slice (some ⟨blk, off, none⟩) zs.length cap] w fun e w' =>
      e = .returned (.tuple #[]) ∧ ∃ n os, w' = grow (putRow (Value.int .i64) (Sort.ahead w n) blk off (zs.mergeSort fun x y => decide (x ≤ y)).toArray) os := AnyM.slices_Sort_int Tryz.laysSortI blk off cap zs w hH hblk hsz
open Go.RowKit Go.Lib Go.Sort in
theorem Tryz.slices_Sort_int_none (p : Option Addr) (cap : Nat) (w : World) :
    Calls Tryz.prog 152 #[.slice p 0 cap] w fun e w' => e = .returned (.tuple #[]) ∧ w' = w := AnyM.slices_Sort_int_none Tryz.laysSortI p cap w
end Go.Proofs

namespace Go.Proofs.YtanlgnjgpbjebaaGreatDoor
open Go.RowKit Go.Sort Go.Lib
set_option linter.unusedVariables false
set_option linter.unusedSimpArgs false

def sortI (l : List Int) : List Int := l.mergeSort fun x y => decide (x ≤ y)
theorem sortI_nil : sortI [] = [] := by simp [sortI]
theorem sortI_len (l : List Int) : (sortI l).length = l.length := List.length_mergeSort _
theorem sortI_mem {l : List Int} {x : Int} : x ∈ sortI l ↔ x ∈ l := List.mem_mergeSort
theorem iv_map (l : List Int) : l.flatMap iv = l.map (Value.int .i64) := by
  induction l with
  | nil => rfl
  | cons x l ih => rw [List.flatMap_cons, ih]; rfl

theorem compact_mem {l : List Int} {x : Int} : x ∈ Lib.compact l ↔ x ∈ l := by
  unfold Lib.compact Lib.compactUpTo
  rw [List.mem_map]
  constructor
  · rintro ⟨k, hk, rfl⟩
    have hk' := List.mem_range.1 (List.mem_filter.1 hk).1
    rw [getElem!_pos _ k (by simpa using hk')]
    simp
  · intro hx
    obtain ⟨k, hk, rfl⟩ := List.mem_iff_getElem.1 hx
    have key : ∀ k, (hk : k < l.length) → ∃ a, a ∈ (List.range l.length).filter (Lib.keeps l.toArray) ∧ l.toArray[a]! = l[k] := by
      intro k
      induction k with
      | zero => exact fun hk => ⟨0, List.mem_filter.2 ⟨List.mem_range.2 hk, by simp [Lib.keeps]⟩, by rw [getElem!_pos _ 0 (by simpa using hk)]; simp⟩
      | succ k ih =>
        intro hk
        by_cases h : l.toArray[k + 1]! = l.toArray[k]!
        · obtain ⟨a, ha, e⟩ := ih (by omega)
          refine ⟨a, ha, ?_⟩
          rw [e]
          rw [getElem!_pos _ (k + 1) (by simpa using hk), getElem!_pos _ k (by simp; omega)] at h
          simpa using h.symm
        · exact ⟨k + 1, List.mem_filter.2 ⟨List.mem_range.2 hk, Lib.keeps_pos (by simpa using h)⟩, by rw [getElem!_pos _ (k + 1) (by simpa using hk)]; simp⟩
    exact key k hk
theorem compact_len (l : List Int) : (Lib.compact l).length ≤ l.length := by
  unfold Lib.compact Lib.compactUpTo
  rw [List.length_map]
  exact Nat.le_trans (List.length_filter_le _ _) (by simp)

section
variable {w : World} {base g n c q : Nat} {e : TypeId} {l d : List Int} {os : Array Obj}

theorem put_block (w : World) (g q : Nat) (d : List Int) (os : Array Obj) (hg : g < w.heap.size) :
    (grow (putRow (Value.int .i64) (Sort.ahead w q) g 0 d.toArray) os).heap[g]? = (w.heap[g]?).map (onCells (Go.Sort.putCells (Value.int .i64) 0 d.toArray)) := by
  rw [heap_grow_old _ _ (by simpa [putRow, mapBlock, Sort.ahead] using hg)]
  simp [putRow, mapBlock, Sort.ahead, Array.getElem?_modify]

theorem put_grown (w : World) (g q : Nat) (d : List Int) (os : Array Obj) : w.grownBy (grow (putRow (Value.int .i64) (Sort.ahead w q) g 0 d.toArray) os) (some g) := by
  refine ⟨rfl, rfl, rfl, by simp [putRow, mapBlock, Sort.ahead], fun k hk hne => ?_⟩
  rw [heap_grow_old _ _ (by simpa [putRow, mapBlock, Sort.ahead] using hk)]
  have hne' : g ≠ k := fun h => hne (by rw [h])
  simp [putRow, mapBlock, Sort.ahead, Array.getElem?_modify, hne']

theorem Own.put (h : Own 1 iv w base e (some ⟨g, 0, none⟩) n c l) (hd : d.length = n) {m : Nat} (hm : m ≤ n) :
    Own 1 iv (grow (putRow (Value.int .i64) (Sort.ahead w q) g 0 d.toArray) os) base e (some ⟨g, 0, none⟩) m c (d.take m) := by
  rcases h.2.2 with ⟨hv, -⟩ | ⟨g', cap, cur, hv, hb, hg, hnc, hcm, hcs, htake⟩
  · cases hv
  · cases hv
    have hlt : g < w.heap.size := (Array.getElem?_eq_some_iff.1 hg).1
    have hl : (d.take m).length = m := by rw [List.length_take]; omega
    refine ⟨hl, by rw [flat_length flat_iv, hl], .inr ⟨g, c, Go.Sort.putCells (Value.int .i64) 0 d.toArray cur, rfl, hb, ?_, by omega, hcm, by simp [Go.Sort.putCells, hcs], ?_⟩⟩
    · rw [put_block _ _ _ _ _ hlt, hg]
      rfl
    · rw [iv_map]
      apply List.ext_getElem?
      intro k
      by_cases hk : k < m
      · have hkc : k < cur.size := by omega
        have hkd : k < d.length := by omega
        rw [List.getElem?_take, if_pos (by omega), List.getElem?_map, List.getElem?_take, if_pos hk, Array.getElem?_toList, List.getElem?_eq_getElem hkd]
        simp only [Go.Sort.putCells, Array.getElem?_mapIdx, Array.getElem?_eq_getElem hkc, Option.map_some]
        rw [if_pos ⟨Nat.zero_le _, by simp; omega⟩, Nat.sub_zero, getElem!_pos _ k (by simpa using hkd)]
        simp
      · rw [List.getElem?_eq_none (by simp; omega), List.getElem?_eq_none (by simp; omega)]

theorem Own.holds (h : Own 1 iv w base e (some ⟨g, 0, none⟩) n c l) : Holds (Value.int .i64) w g 0 l.toArray := by
  intro j hj
  have hj' : j < l.length := by simpa using hj
  have hs := h.sl flat_iv
  have hn := h.len
  obtain ⟨b', off', e', -, -, -, hc⟩ := hs.at_ (by omega)
  cases e'
  have := hc j l[j] (List.getElem?_eq_getElem hj') 0 (.int .i64 l[j]) rfl
  rw [getElem!_pos _ j hj]
  simpa using this
end

section
variable {w : World} {base n c : Nat} {A : Option Addr} {l : List Int}

theorem sortI_calls (h : Own 1 iv w base 2 A n c l) (hn : n ≤ 1000000000) :
    Calls Tryz.prog 152 #[.slice A n c] w fun e w' => e = .returned (.tuple #[]) ∧ Own 1 iv w' base 2 A n c (sortI l) ∧ w.grownBy w' (Value.slice A n c).ownBlock := by
  rcases h.2.2 with ⟨hv, hn0⟩ | ⟨g, cap, cur, hv, hb, hg, hnc, hcm, hcs, htake⟩
  · cases hv
    have hl := List.eq_nil_of_length_eq_zero h.len
    subst hl
    refine (Tryz.slices_Sort_int_none none 0 w).mono ?_
    rintro e w' ⟨rfl, rfl⟩
    rw [sortI_nil]
    exact ⟨rfl, h, ⟨rfl, rfl, rfl, Nat.le_refl _, fun _ _ _ => rfl⟩⟩
  · cases hv
    have hlt : g < w.heap.size := (Array.getElem?_eq_some_iff.1 hg).1
    have hq := Tryz.slices_Sort_int g 0 c l w h.holds hlt (by have := h.len; omega)
    rw [h.len] at hq
    refine hq.mono ?_
    rintro e w' ⟨rfl, q, os, rfl⟩
    refine ⟨rfl, ?_, put_grown _ _ _ _ _⟩
    have := h.put (d := sortI l) (q := q) (os := os) ((sortI_len l).trans h.len) (Nat.le_refl n)
    rwa [List.take_of_length_le (by rw [sortI_len, h.len]; exact Nat.le_refl _)] at this

theorem compactI_calls (h : Own 1 iv w base 2 A n c l) (hn : n ≤ 1000000000) :
    Calls Tryz.prog 153 #[.slice A n c] w fun e w' => e = .returned (.slice A (Lib.compact l).length c) ∧ Own 1 iv w' base 2 A (Lib.compact l).length c (Lib.compact l) ∧ w.grownBy w' (Value.slice A n c).ownBlock := by
  rcases h.2.2 with ⟨hv, hn0⟩ | ⟨g, cap, cur, hv, hb, hg, hnc, hcm, hcs, htake⟩
  · cases hv
    have hl := List.eq_nil_of_length_eq_zero h.len
    subst hl
    refine (Tryz.slices_Compact_int_empty none 0 w).mono ?_
    rintro e w' ⟨rfl, rfl⟩
    exact ⟨rfl, h, ⟨rfl, rfl, rfl, Nat.le_refl _, fun _ _ _ => rfl⟩⟩
  · cases hv
    have hlt : g < w.heap.size := (Array.getElem?_eq_some_iff.1 hg).1
    have hlen := compact_len l
    have hq := Tryz.slices_Compact_int g 0 c l w h.holds (by have := h.len; omega) (by have := h.len; omega)
    rw [h.len] at hq hlen
    refine hq.mono ?_
    rintro e w' ⟨rfl, q, rfl⟩
    have hd : (Lib.compact l ++ List.replicate (n - (Lib.compact l).length) 0).length = n := by simp; omega
    have h1 := h.put (d := Lib.compact l ++ List.replicate (n - (Lib.compact l).length) 0) (q := q) (os := #[]) hd hlen
    have h2 := put_grown w g q (Lib.compact l ++ List.replicate (n - (Lib.compact l).length) 0) #[]
    rw [grow_empty] at h1 h2
    rw [List.take_left'  rfl] at h1
    exact ⟨rfl, h1, h2⟩
end

end Go.Proofs.YtanlgnjgpbjebaaGreatDoor

namespace Go.Proofs.YtanlgnjgpbjebaaGreatDoor
open Go.ChangeShapes Go.WideShapes Go.ChangeAt Go.RowKit Go.Sort
set_option linter.unusedVariables false
set_option linter.unusedSimpArgs false

def namS (s : ByteArray) : ByteArray := s.extract 0 (openN s)
theorem namS_cut (s : ByteArray) : mkB (Lib.cut s.data.toList [40]).1 = namS s := by
  unfold namS
  by_cases hm : (40 : UInt8) ∈ s.data.toList
  · obtain ⟨a, b, hl, hn⟩ := split_at 40 _ hm
    rw [open_hit hl hn, extract_mk, hl, cut_hit hn, List.drop_zero, Nat.sub_zero, List.take_left]
  · have h1 : openN s = s.data.toList.length := by
      unfold openN
      exact takeWhile_all fun j x hx e => hm (by rw [← e]; exact List.mem_of_getElem? hx)
    rw [cut_miss hm, h1, extract_mk, List.drop_zero, Nat.sub_zero, List.take_length]
set_option maxRecDepth 100000 in
theorem l01LabelName_calls (s : ByteArray) (w : World) (hs : s.size ≤ 1048576) : Calls Tryz.prog 158 #[.string s] w fun e w' => e = .returned (.string (namS s)) ∧ w = w' := by
  have q := hide (l01Open_calls s w hs)
  have h1 : openN s ≤ s.size := by
    unfold openN
    rw [← bsize]
    exact (List.takeWhile_sublist _).length_le
  have h2 : ((openN s : Nat) : Int).toNat = openN s := by omega
  have h3 : Hid (namS s = s.extract 0 (openN s)) := rfl
  go_enter Tryz.func158, Tryz.ntmps158
  go_wp2_with fail
  refine q.out.mono ?_
  rintro e w1 ⟨rfl, rfl⟩
  go_wp2_with fail
  go_ret
  exact ⟨by rw [h3.out]; rfl, rfl⟩
set_option maxRecDepth 100000 in
theorem labelName_calls (s : ByteArray) (w : World) (hs : s.size ≤ 1048576) (he : Env w) (hv : labS s = true) : Calls Tryz.prog 150 #[.string s] w fun e w' => e = .returned (.string (namS s)) ∧ Below w.heap.size w w' := by
  have q := hide (readLabel_calls s w hs he)
  go_enter Tryz.func150, Tryz.ntmps150
  go_wp2_with fail
  refine q.out.mono ?_
  rintro e w1 ⟨nm, A, n, c, rfl, hnm, hb⟩
  rw [if_pos hv, namS_cut] at hnm
  subst hnm
  replace hb := hide hb
  go_wp2_with fail
  go_ret
  exact ⟨rfl, hb.out⟩

end Go.Proofs.YtanlgnjgpbjebaaGreatDoor

namespace Go.Proofs.YtanlgnjgpbjebaaGreatDoor
set_option linter.unusedVariables false
set_option linter.unusedSimpArgs false

def qF (f : DN) (k : Nat) : Int := (f[k]?.map fun x => x.1).getD 0
def vF (f : DN) (k : Nat) : Int := (f[k]?.map fun x => x.2.1).getD 0
theorem qF_at {f : DN} {k : Nat} {x : Nd} (h : f[k]? = some x) : qF f k = x.1 := by unfold qF; rw [h]; rfl
theorem vF_at {f : DN} {k : Nat} {x : Nd} (h : f[k]? = some x) : vF f k = x.2.1 := by unfold vF; rw [h]; rfl
def ShapeF (f : DN) : Prop := ndI (qF f) f.length = 0 ∧ ∀ i, i < f.length → ndI (qF f) i ≠ 0
open Classical in
noncomputable def treeF (f : DN) : Tr := if h : ∃ T, AtT (qF f) T 0 ∧ T.size = f.length then Classical.choose h else .leaf
theorem treeF_is {f : DN} (h : ShapeF f) : AtT (qF f) (treeF f) 0 ∧ (treeF f).size = f.length := by
  have hex := tree_of h.1 h.2
  unfold treeF
  rw [dif_pos hex]
  exact Classical.choose_spec hex
theorem ndI_bounds (q : Nat → Int) (k : Nat) : 1 - (k : Int) ≤ ndI q k ∧ ndI q k ≤ 1 + (k : Int) := by
  induction k with
  | zero => have : ndI q 0 = 1 := rfl; omega
  | succ k ih =>
    have h : ndI q (k + 1) = ndI q k + (arityQ (q k) : Int) - 1 := rfl
    have h2 : arityQ (q k) ≤ 2 := by
      unfold arityQ
      split
      · omega
      · split <;> omega
    omega
noncomputable def endF (f : DN) (k : Nat) : Nat := endP (treeF f) 0 k
theorem end_need {f : DN} (h : ShapeF f) {k : Nat} (hk : k < f.length) : k < endF f k ∧ endF f k ≤ f.length ∧ ndI (qF f) (endF f k) = ndI (qF f) k - 1 ∧ ∀ i, k ≤ i → i < endF f k → ndI (qF f) k ≤ ndI (qF f) i := by
  obtain ⟨hA, hs⟩ := treeF_is h
  have h1 := sub_range (T := treeF f) (k := 0) (j := k) (Nat.zero_le _) (by omega)
  have h2 := (hA.sub (Nat.zero_le k) (by omega)).need
  have h3 := (subT (treeF f) 0 k).size_pos
  exact ⟨by unfold endF endP; omega, by unfold endF endP; omega, h2.1, h2.2⟩
noncomputable def bindP (f : DN) (k : Nat) (i : Nat) : Bool := inP (treeF f) 0 (fun i => isFx (qF f i) && decide (vF f i = vF f k)) k i
noncomputable def bindF (f : DN) (k : Nat) : Option Nat := lastP (bindP f k) 0 k
noncomputable def fixP (f : DN) (k : Nat) (i : Nat) : Bool := inP (treeF f) 0 (fun i => isFx (qF f i)) k i
noncomputable def nestF (f : DN) (k : Nat) : Nat := cntP (fixP f k) 0 k
noncomputable def arouF (f : DN) (k : Nat) : Option Nat := lastP (fixP f k) 0 k
theorem bindP_eq (f : DN) (k i : Nat) : bindP f k i = ((isFx (qF f i) && decide (vF f i = vF f k)) && decide (k < endF f i)) := rfl
theorem fixP_eq (f : DN) (k i : Nat) : fixP f k i = (isFx (qF f i) && decide (k < endF f i)) := rfl

/-! Valid formulas -/
def starB (s : ByteArray) : Bool := decide (s.size ≠ 0 ∧ s.extract (s.size - 1) s.size = ⟨#[42]⟩)
def cutB (s : ByteArray) : ByteArray := s.extract 0 (s.size - 1)
def patB (s : ByteArray) : Bool := decide (s.size = 0) || labS s || (starB s && actB (cutB s))
def isMod (q : Int) : Bool := decide (q = 4) || decide (q = 5)
def fldB (x : Nd) : Bool := if isMod x.1 then patB x.2.2.1 else decide (x.2.2.1.size = 0) && !x.2.2.2
def bouB (x : Nd) : Bool := if isFx x.1 || decide (x.1 = 6) then inB x.2.1 0 2 else decide (x.2.1 = 0)
def nodB (x : Nd) : Bool := inB x.1 0 8 && fldB x && bouB x
structure ValF (f : DN) : Prop where
  len : 1 ≤ f.length ∧ f.length ≤ 30
  shape : ShapeF f
  node : ∀ x, x ∈ f → nodB x = true
  bound : ∀ k, k < f.length → qF f k = 6 → bindF f k ≠ none
theorem ValF.kind {f : DN} (h : ValF f) (k : Nat) (hk : k < f.length) : 0 ≤ qF f k ∧ qF f k ≤ 8 := by
  have h1 := h.node _ (List.getElem_mem hk)
  rw [qF_at (List.getElem?_eq_getElem hk)]
  unfold nodB at h1
  simp only [Bool.and_eq_true] at h1
  have := h1.1.1
  unfold inB at this
  simpa using this

/-! What a node selects, and the system of a formula -/
def selB (p : ByteArray) (no : Bool) (l : ByteArray) : Bool := (decide (p.size = 0) || decide (p = l) || (starB p && decide (namS l = cutB p))) != no
def selN (x : Nd) (l : ByteArray) : Bool := selB x.2.2.1 x.2.2.2 l
def ndA (f : DN) (k : Nat) : Nd := (f[k]?).getD (0, 0, ⟨#[]⟩, false)
theorem ndA_at {f : DN} {k : Nat} {x : Nd} (h : f[k]? = some x) : ndA f k = x := by unfold ndA; rw [h]; rfl
def hitN (x : Nd) (ls : List ByteArray) (s : Int) (e : Ed) : Bool := decide (e.1 = s) && selN x (labE ls e)
/-- Where a modality leads. -/
def tgtN (x : Nd) (ls : List ByteArray) (es : List Ed) (s : Int) : List Int := (es.filter (hitN x ls s)).map (·.2.2)
def sysF (f : DN) (d : DL) : Sy := ⟨d.1.toNat, qF f, vF f, fun j x => (tgtN (ndA f j) d.2.2.1 d.2.2.2 (x : Int)).map Int.toNat⟩
theorem bnd_bind {f : DN} (h : ShapeF f) (M : Sy) (hq : M.q = qF f) (hv : M.v = vF f) {k : Nat} (hk : k < f.length) : bndT M (treeF f) 0 k = bindF f k := by
  obtain ⟨hA, hs⟩ := treeF_is h
  rw [bnd_last (by rw [hq]; exact hA) (Nat.zero_le _) (by omega), hq, hv]
  rfl
theorem dep_nest {f : DN} (h : ShapeF f) (M : Sy) (hq : M.q = qF f) {k : Nat} (hk : k < f.length) : depT M (treeF f) 0 k = nestF f k + (if isFx (qF f k) then 1 else 0) := by
  obtain ⟨hA, hs⟩ := treeF_is h
  rw [dep_cnt (by rw [hq]; exact hA) (Nat.zero_le _) (by omega), hq]
  rfl

/-! The game of a formula -/
noncomputable def opsF (f : DN) (k : Nat) : List Nat := if qF f k = 2 ∨ qF f k = 3 then [k + 1, endF f (k + 1)] else if arityQ (qF f k) = 1 then [k + 1] else []
noncomputable def ownF (f : DN) (set : Option (List Bool)) (k x : Nat) : Int :=
  match set with
  | some s => if qF f k = 6 ∧ bindF f k = some 0 then (if inS s x then 1 else 0) else (if qF f k = 0 ∨ qF f k = 2 ∨ qF f k = 5 then 1 else 0)
  | none => if qF f k = 0 ∨ qF f k = 2 ∨ qF f k = 5 then 1 else 0
noncomputable def rawF (f : DN) (d : DL) (set : Option (List Bool)) (k x : Nat) : List Int :=
  if isMod (qF f k) then (tgtN (ndA f k) d.2.2.1 d.2.2.2 (x : Int)).map fun y => ((k : Int) + 1) * d.1 + y
  else if qF f k = 6 then (if set.isSome = true ∧ bindF f k = some 0 then [] else match bindF f k with | some i => [(i : Int) * d.1 + x] | none => [(-1) * d.1 + x])
  else (opsF f k).map fun (a : Nat) => (a : Int) * d.1 + x
noncomputable def priF (f : DN) (k : Nat) : Int := if isFx (qF f k) then 2 * (nestF f k : Int) + (if qF f k = 7 then 1 else 0) else 1000
noncomputable def vxF (f : DN) (d : DL) (set : Option (List Bool)) (k x : Nat) : Vx := (ownF f set k x, priF f k, Lib.compact (sortI (rawF f d set k x)))
noncomputable def gameF (f : DN) (d : DL) (set : Option (List Bool)) : DV := (List.range (f.length * d.1.toNat)).map fun v => vxF f d set (v / d.1.toNat) (v % d.1.toNat)
section
variable {f : DN} {d : DL} {set : Option (List Bool)}
theorem gameF_len : (gameF f d set).length = f.length * d.1.toNat := by simp [gameF]
theorem gameF_at {j x : Nat} (hj : j < f.length) (hx : x < d.1.toNat) : (gameF f d set)[j * d.1.toNat + x]? = some (vxF f d set j x) := by
  have hlt : j * d.1.toNat + x < f.length * d.1.toNat := by
    have := Nat.mul_le_mul_right d.1.toNat (show j + 1 ≤ f.length by omega)
    rw [Nat.add_mul] at this
    omega
  have hc := code_div (N := d.1.toNat) (j := j) hx
  unfold gameF
  rw [List.getElem?_map, List.getElem?_range hlt, Option.map_some, hc.1, hc.2]
end
end Go.Proofs.YtanlgnjgpbjebaaGreatDoor

namespace Go.Proofs.YtanlgnjgpbjebaaGreatDoor
set_option linter.unusedVariables false
set_option linter.unusedSimpArgs false

/-- What is needed of a system. -/
structure SysOk (d : DL) : Prop where
  st : 1 ≤ d.1 ∧ d.1 ≤ 40
  ed : ∀ e, e ∈ d.2.2.2 → 0 ≤ e.2.2 ∧ e.2.2 < d.1
theorem cmp_pair {l : List Int} (h : l.Pairwise (· ≤ ·)) : (Lib.compact l).Pairwise (· < ·) := by
  unfold Lib.compact Lib.compactUpTo
  rw [List.pairwise_map]
  refine List.Pairwise.imp_of_mem (fun {p q} hp hq hpq => ?_) (List.Pairwise.filter _ (List.pairwise_lt_range (n := l.length)))
  obtain ⟨hp1, -⟩ := List.mem_filter.1 hp
  obtain ⟨hq1, hq2⟩ := List.mem_filter.1 hq
  have hp1 := List.mem_range.1 hp1
  have hq1 := List.mem_range.1 hq1
  unfold Lib.keeps at hq2
  rw [decide_eq_true_eq] at hq2
  have hne : l.toArray[q]! ≠ l.toArray[q - 1]! := hq2.resolve_left (by omega)
  rw [getElem!_pos _ q (by simpa using hq1), getElem!_pos _ (q - 1) (by simp; omega)] at hne
  rw [getElem!_pos _ p (by simpa using hp1), getElem!_pos _ q (by simpa using hq1)]
  simp only [List.getElem_toArray] at hne ⊢
  have h1 := List.pairwise_iff_getElem.1 h (q - 1) q (by omega) hq1 (by omega)
  by_cases e : p = q - 1
  · subst e; omega
  · have h3 := List.pairwise_iff_getElem.1 h p (q - 1) hp1 (by omega) (by omega)
    omega
section
variable {f : DN} {d : DL}
theorem tgt_in (hd : SysOk d) {x : Nd} {s y : Int} (h : y ∈ tgtN x d.2.2.1 d.2.2.2 s) : 0 ≤ y ∧ y < d.1 := by
  unfold tgtN at h
  obtain ⟨e, he, rfl⟩ := List.mem_map.1 h
  exact hd.ed e (List.mem_filter.1 he).1
theorem sysF_sc (hd : SysOk d) (j x y : Nat) (h : y ∈ (sysF f d).sc j x) : y < (sysF f d).N := by
  obtain ⟨z, hz, rfl⟩ := List.mem_map.1 h
  have := tgt_in hd hz
  show z.toNat < d.1.toNat
  omega
theorem arity_facts {q : Int} (h0 : 0 ≤ q) (h8 : q ≤ 8) : (arityQ q = 1 ↔ q = 4 ∨ q = 5 ∨ q = 7 ∨ q = 8) ∧ (arityQ q = 0 ↔ q = 0 ∨ q = 1 ∨ q = 6) := by
  constructor
  · exact ⟨arity_one, fun h => by unfold arityQ; rw [if_neg (by omega), if_pos h]⟩
  · exact ⟨fun h => arity_zero h h0 h8, fun h => by unfold arityQ; rw [if_neg (by omega), if_neg (by omega)]⟩
/-- The second operand begins where the first one ends. -/
theorem sec_end (h : ShapeF f) {j : Nat} (hj : j < f.length) (hq : qF f j = 2 ∨ qF f j = 3) : secT (treeF f) 0 j = endF f (j + 1) := by
  obtain ⟨hA, hs⟩ := treeF_is h
  have hAj := hA.sub (Nat.zero_le j) (by omega)
  have hss := sub_sub (T := treeF f) (k := 0) (j := j) (i := j + 1) (Nat.zero_le _) (by omega) (by omega)
  unfold secT endF endP
  generalize subT (treeF f) 0 j = Tj at *
  have ha : arityQ (qF f j) = 2 := by unfold arityQ; rw [if_pos hq]
  cases Tj with
  | leaf => rw [show arityQ (qF f j) = 0 from hAj] at ha; cases ha
  | one a => rw [show arityQ (qF f j) = 1 from hAj.1] at ha; cases ha
  | two a b =>
    rw [← hss (by simp only [Tr.size]; have := a.size_pos; omega)]
    have e : subT (.two a b) j (j + 1) = a := by
      conv => lhs; unfold subT
      rw [if_neg (by omega), if_pos (by have := a.size_pos; omega), subT_self]
    rw [e]
theorem own_range (set : Option (List Bool)) (j x : Nat) : 0 ≤ ownF f set j x ∧ ownF f set j x ≤ 1 := by
  unfold ownF
  repeat' split
  all_goals decide
theorem nest_le (hv : ValF f) {j : Nat} (hj : j < f.length) : nestF f j + (if isFx (qF f j) then 1 else 0) ≤ 30 := by
  obtain ⟨hA, hs⟩ := treeF_is hv.shape
  have h1 := dep_nest hv.shape (sysF f (0, 0, [], [])) rfl hj
  have h2 := depT_le (M := sysF f (0, 0, [], [])) (treeF f) 0 j
  have := hv.len.2
  omega
theorem pri_range (hv : ValF f) {j : Nat} (hj : j < f.length) : 0 ≤ priF f j ∧ priF f j ≤ 1000 := by
  have := nest_le hv hj
  unfold priF
  repeat' split
  all_goals omega
/-- Where a vertex leads, before sorting. -/
theorem raw_range (hv : ValF f) (hd : SysOk d) (set : Option (List Bool)) {j x : Nat} (hj : j < f.length) (hx : x < d.1.toNat) {u : Int} (hu : u ∈ rawF f d set j x) : 0 ≤ u ∧ u < (f.length * d.1.toNat : Nat) := by
  have hst := hd.st
  have hk := hv.kind j hj
  have mk : ∀ i y : Nat, i < f.length → y < d.1.toNat → 0 ≤ (i : Int) * d.1 + y ∧ (i : Int) * d.1 + y < (f.length * d.1.toNat : Nat) := fun i y hi hy => by
    have e : (i : Int) * d.1 = ((i * d.1.toNat : Nat) : Int) := by
      rw [Int.natCast_mul, Int.toNat_of_nonneg (by omega)]
    rw [e]
    have := Nat.mul_le_mul_right d.1.toNat (show i + 1 ≤ f.length by omega)
    rw [Nat.add_mul] at this
    omega
  obtain ⟨hA, hs⟩ := treeF_is hv.shape
  have hnext : 1 ≤ arityQ (qF f j) → j + 1 < f.length := fun h => by
    have h1 := hA.sub (Nat.zero_le j) (by omega)
    have h2 := sub_range (T := treeF f) (k := 0) (j := j) (Nat.zero_le _) (by omega)
    generalize subT (treeF f) 0 j = Tj at *
    cases Tj with
    | leaf => rw [show arityQ (qF f j) = 0 from h1] at h; omega
    | one a => have := a.size_pos; simp only [Tr.size] at h2; omega
    | two a b => have := a.size_pos; simp only [Tr.size] at h2; omega
  unfold rawF at hu
  split at hu
  · rename_i hm
    unfold isMod at hm
    simp only [Bool.or_eq_true, decide_eq_true_eq] at hm
    obtain ⟨y, hy, rfl⟩ := List.mem_map.1 hu
    have hy2 := tgt_in hd hy
    have := mk (j + 1) y.toNat (hnext (by rw [(arity_facts hk.1 hk.2).1.2 (by omega)]; omega)) (by omega)
    rw [Int.toNat_of_nonneg hy2.1] at this
    exact this
  · split at hu
    · split at hu
      · cases hu
      · split at hu
        · rename_i i hi
          rw [List.mem_singleton.1 hu]
          have h1 := lastP_some hi
          exact mk i x (by omega) hx
        · rename_i hi
          exact absurd hi (hv.bound j hj (by assumption))
    · obtain ⟨a, ha, rfl⟩ := List.mem_map.1 hu
      unfold opsF at ha
      split at ha
      · rename_i hq
        have h2 : arityQ (qF f j) = 2 := by unfold arityQ; rw [if_pos hq]
        rcases List.mem_cons.1 ha with rfl | ha
        · exact mk _ x (hnext (by omega)) hx
        · rw [List.mem_singleton.1 ha]
          have h3 := sec_end hv.shape hj hq
          rw [← h3]
          have h4 := hA.sub (Nat.zero_le j) (by omega)
          have h5 := sub_range (T := treeF f) (k := 0) (j := j) (Nat.zero_le _) (by omega)
          refine mk _ x ?_ hx
          unfold secT
          generalize subT (treeF f) 0 j = Tj at *
          cases Tj with
          | leaf => rw [show arityQ (qF f j) = 0 from h4] at h2; cases h2
          | one a => rw [show arityQ (qF f j) = 1 from h4.1] at h2; cases h2
          | two a b => have := b.size_pos; simp only [Tr.size] at h5; dsimp only; omega
      · split at ha
        · rename_i h2
          rw [List.mem_singleton.1 ha]
          exact mk _ x (hnext (by omega)) hx
        · cases ha
theorem sorted_inc {m : Int} {l : List Int} (h : ∀ u, u ∈ l → 0 ≤ u ∧ u < m) : Inc m (Lib.compact (sortI l)) := by
  refine ⟨fun u hu => h u (sortI_mem.1 (compact_mem.1 hu)), cmp_pair ?_⟩
  have := List.pairwise_mergeSort (le := fun x y : Int => decide (x ≤ y)) (fun a b c h1 h2 => by simp only [decide_eq_true_eq] at *; omega) (fun a b => by simp only [Bool.or_eq_true, decide_eq_true_eq]; omega) l
  exact this.imp fun h => by simpa using h
theorem game_big (hv : ValF f) (hd : SysOk d) (set : Option (List Bool)) : GameBig (gameF f d set) := by
  have hst := hd.st
  have hl := hv.len
  have hN : 1 ≤ d.1.toNat ∧ d.1.toNat ≤ 40 := by omega
  refine ⟨?_, fun x hx => ?_⟩
  · rw [gameF_len]
    have h1 := Nat.mul_le_mul hl.2 hN.2
    have h2 := Nat.mul_le_mul hl.1 hN.1
    omega
  · rw [gameF_len]
    obtain ⟨v, hv1, rfl⟩ := List.mem_map.1 hx
    have hlt := List.mem_range.1 hv1
    have hj : v / d.1.toNat < f.length := (Nat.div_lt_iff_lt_mul (by omega)).2 hlt
    have hx2 : v % d.1.toNat < d.1.toNat := Nat.mod_lt _ (by omega)
    exact ⟨own_range _ _ _, pri_range hv hj, sorted_inc fun u hu => raw_range hv hd set hj hx2 hu⟩
theorem gameF_own {set : Option (List Bool)} {j x : Nat} (hj : j < f.length) (hx : x < d.1.toNat) : gOwn (gameF f d set) (j * d.1.toNat + x) = ownF f set j x ∧ gPri (gameF f d set) (j * d.1.toNat + x) = priF f j := by
  have h := gameF_at (d := d) (set := set) hj hx
  unfold gOwn gPri
  rw [h]
  exact ⟨rfl, rfl⟩
theorem gameF_nxt {set : Option (List Bool)} {j x u : Nat} (hv : ValF f) (hd : SysOk d) (hj : j < f.length) (hx : x < d.1.toNat) : u ∈ gNxt (gameF f d set) (j * d.1.toNat + x) ↔ (u : Int) ∈ rawF f d set j x := by
  have h := gameF_at (d := d) (set := set) hj hx
  unfold gNxt
  rw [h]
  show u ∈ (Lib.compact (sortI (rawF f d set j x))).map Int.toNat ↔ _
  rw [List.mem_map]
  constructor
  · rintro ⟨y, hy, rfl⟩
    have h1 := sortI_mem.1 (compact_mem.1 hy)
    rw [Int.toNat_of_nonneg (raw_range hv hd set hj hx h1).1]
    exact h1
  · intro h1
    exact ⟨_, compact_mem.2 (sortI_mem.2 h1), rfl⟩
theorem cast_code (hd : SysOk d) {i y u : Nat} : (u : Int) = (i : Int) * d.1 + y ↔ u = i * d.1.toNat + y := by
  have hst := hd.st
  have e : (i : Int) * d.1 = ((i * d.1.toNat : Nat) : Int) := by
    rw [Int.natCast_mul, Int.toNat_of_nonneg (by omega)]
  rw [e]
  omega
/-- Moves of the game are moves of the tree, a variable aside. -/
theorem raw_mov (hv : ValF f) (hd : SysOk d) (set : Option (List Bool)) {j x u : Nat} (hj : j < f.length) (hq : qF f j ≠ 6) (T : Tr) (k : Nat) (hsec : (qF f j = 2 ∨ qF f j = 3) → secT T k j = endF f (j + 1)) :
    (u : Int) ∈ rawF f d set j x ↔ ∃ m, m ∈ movT (sysF f d) T k j x ∧ u = m.1 * d.1.toNat + m.2 := by
  have hk := hv.kind j hj
  have hq' : (sysF f d).q j = qF f j := rfl
  unfold rawF movT
  rw [hq']
  by_cases hm : qF f j = 4 ∨ qF f j = 5
  · rw [if_pos (by unfold isMod; simpa using hm), if_neg (by omega), if_pos hm]
    constructor
    · intro h
      obtain ⟨y, hy, e⟩ := List.mem_map.1 h
      have hy2 := tgt_in hd hy
      refine ⟨(j + 1, y.toNat), List.mem_map.2 ⟨y.toNat, List.mem_map.2 ⟨y, hy, rfl⟩, rfl⟩, ?_⟩
      rw [← cast_code hd, ← e, Int.toNat_of_nonneg hy2.1]
      rfl
    · rintro ⟨m, hm', e⟩
      obtain ⟨y, hy, rfl⟩ := List.mem_map.1 hm'
      obtain ⟨z, hz, rfl⟩ := List.mem_map.1 hy
      have hz2 := tgt_in hd hz
      refine List.mem_map.2 ⟨z, hz, ?_⟩
      have := (cast_code hd).2 e
      rw [Int.toNat_of_nonneg hz2.1] at this
      rw [this]
      rfl
  · rw [if_neg (by unfold isMod; simpa using hm), if_neg hq]
    unfold opsF
    by_cases h2 : qF f j = 2 ∨ qF f j = 3
    · rw [if_pos h2, if_pos h2, hsec h2]
      simp only [List.map_cons, List.map_nil, List.mem_cons, List.not_mem_nil, or_false]
      constructor
      · rintro (h | h)
        · exact ⟨_, .inl rfl, (cast_code hd).1 h⟩
        · exact ⟨_, .inr rfl, (cast_code hd).1 h⟩
      · rintro ⟨m, rfl | rfl, e⟩
        · exact .inl ((cast_code hd).2 e)
        · exact .inr ((cast_code hd).2 e)
    · rw [if_neg h2, if_neg h2, if_neg hm]
      by_cases h7 : qF f j = 7 ∨ qF f j = 8
      · rw [if_pos ((arity_facts hk.1 hk.2).1.2 (by omega)), if_pos h7]
        simp only [List.map_cons, List.map_nil, List.mem_singleton]
        constructor
        · intro h
          exact ⟨_, rfl, (cast_code hd).1 h⟩
        · rintro ⟨m, rfl, e⟩
          exact (cast_code hd).2 e
      · rw [if_neg (by rw [(arity_facts hk.1 hk.2).1]; omega), if_neg h7, if_neg hq]
        simp
/-- The whole formula's game. -/
theorem gameOf_none (hv : ValF f) (hd : SysOk d) (ρ : EnvS) : GameOf (sysF f d) (treeF f) 0 ρ 0 (gameF f d none) := by
  obtain ⟨hA, hs⟩ := treeF_is hv.shape
  refine ⟨fun j _ hj => hv.kind j (by omega), hA, fun j x y _ h => sysF_sc hd j x y h, by have := hv.len; omega, by rw [gameF_len, hs, Nat.zero_add]; exact Nat.le_refl _, ?_, ?_, ?_⟩
  · intro j x _ hj hx
    change x < d.1.toNat at hx
    show gOwn (gameF f d none) (j * d.1.toNat + x) = _
    rw [(gameF_own (d := d) (set := none) (by omega) hx).1]
    have hb := bnd_bind hv.shape (sysF f d) rfl rfl (k := j) (by omega)
    unfold ownF ownT
    dsimp only
    show (if qF f j = 0 ∨ qF f j = 2 ∨ qF f j = 5 then (1 : Int) else 0) = if qF f j = 0 ∨ qF f j = 2 ∨ qF f j = 5 then 1 else if qF f j = 6 ∧ _ then _ else 0
    have hne : ¬ ((sysF f d).q j = 6 ∧ bndT (sysF f d) (treeF f) 0 j = none) := fun c => hv.bound j (by omega) c.1 (hb ▸ c.2)
    split
    · rfl
    · exact (if_neg hne).symm
  · intro j x _ hj hx
    change x < d.1.toNat at hx
    show gPri (gameF f d none) (j * d.1.toNat + x) = _
    rw [(gameF_own (d := d) (set := none) (by omega) hx).2, Nat.zero_add, dep_nest hv.shape (sysF f d) rfl (by omega)]
    unfold priF
    show _ = if isFx (qF f j) = true then _ else _
    split
    · show _ = 2 * _ - 2 + if qF f j = 7 then 1 else 0
      omega
    · rfl
  · intro j x u _ hj hx
    change x < d.1.toNat at hx
    show u ∈ gNxt (gameF f d none) (j * d.1.toNat + x) ↔ ∃ m, m ∈ movT (sysF f d) (treeF f) 0 j x ∧ u = m.1 * d.1.toNat + m.2
    rw [gameF_nxt hv hd (by omega) hx]
    by_cases hq : qF f j = 6
    · have hb := bnd_bind hv.shape (sysF f d) rfl rfl (k := j) (by omega)
      have hq' : (sysF f d).q j = 6 := hq
      unfold rawF movT
      rw [if_neg (by unfold isMod; rw [hq]; decide), if_pos hq, if_neg (by rintro ⟨c, -⟩; cases c), if_neg (by omega), if_neg (by omega), if_neg (by omega), if_pos hq', hb]
      cases hc : bindF f j with
      | none => exact absurd hc (hv.bound j (by omega) hq)
      | some i =>
        simp only [List.mem_singleton]
        constructor
        · intro h
          exact ⟨_, rfl, (cast_code hd).1 h⟩
        · rintro ⟨m, rfl, e⟩
          exact (cast_code hd).2 e
    · exact raw_mov hv hd none (by omega) hq _ _ (fun h => sec_end hv.shape (by omega) h)
/-- The set of states at which the part at a place holds. -/
noncomputable def semP (f : DN) (d : DL) (k : Nat) : List Bool := sem (sysF f d) (subT (treeF f) 0 k) k (envT (sysF f d) (treeF f) 0 (fun _ => []) k)
theorem wonI_of {g : DV} {v : Nat} {b : Bool} (h : wonB g v = !b) : wonI g v = if b then 0 else 1 := by unfold wonI; rw [h]; cases b <;> rfl
theorem won_none (hv : ValF f) (hd : SysOk d) {k x : Nat} (hk : k < f.length) (hx : x < d.1.toNat) : wonI (gameF f d none) (k * d.1.toNat + x) = if inS (semP f d k) x then 0 else 1 := by
  obtain ⟨hA, hs⟩ := treeF_is hv.shape
  have hb := game_big hv hd none
  exact wonI_of ((gameOf_none hv hd (fun _ => [])).won hb.owned (fun v u h => (hb.nxt v).2 u h) (Nat.zero_le k) (by omega) hx)
theorem semP_len (k : Nat) : (semP f d k).length = d.1.toNat := sem_len _ _ _ _
end
end Go.Proofs.YtanlgnjgpbjebaaGreatDoor

namespace Go.Proofs.YtanlgnjgpbjebaaGreatDoor
open Go.ChangeShapes Go.WideShapes Go.ChangeAt Go.RowKit
set_option linter.unusedVariables false

/-- A bool. -/
def bv (b : Bool) : List Value := [.bool b]
abbrev SlB := Sl 1 bv
theorem flat_bv : Flat bv 1 := ⟨fun _ => rfl, fun x u h => by simp [bv] at h; subst h; rfl⟩
theorem info_bool : (Tryz.prog.info? 4).map (fun i => (i.zero, i.size, i.bytes)) = some (some (.bool false), 1, 1) := by kernel_rfl
theorem elem_bool : Elem Tryz.prog 65 4 1 1 := Elem.of Tryz.underlying65 info_bool rfl (by omega) (by omega)
theorem elem_int64 : Elem Tryz.prog 46 2 1 8 := Elem.of Tryz.underlying46 info_int64 rfl (by omega) (by omega)

section
variable {w w' : World} {lo hi n : Nat} {A : Option Addr}
theorem SlB.get {l : List Bool} (h : SlB w lo hi A n l) {k : Nat} (hk : k < n) :
    ∃ b off, A = some ⟨b, off, none⟩ ∧ lo ≤ b ∧ b < hi ∧ b < w.heap.size ∧ l[k]? = some (inS l k) ∧ w.cell? ⟨b, off + k, none⟩ = some (.bool (inS l k)) ∧ w.frozen? ⟨b, off + k, none⟩ = false := by
  obtain ⟨b, off, e, g1, g2, g3, hc⟩ := h.at_ (by omega)
  have hl : k < l.length := by rw [h.len]; exact hk
  have h0 := hc k (inS l k) (inS_get hl) 0 _ rfl
  simp only [Nat.mul_one, Nat.add_zero] at h0
  exact ⟨b, off, e, g1, g2, g3, inS_get hl, h0.1, h0.2⟩
theorem SlB.put {b off : Nat} {l : List Bool} (h : SlB w lo hi (some ⟨b, off, none⟩) n l) {k : Nat} (hk : k < n) (x : Bool) : SlB (w.setCell ⟨b, off + k, none⟩ (.bool x)) lo hi (some ⟨b, off, none⟩) n (l.set k x) := by
  have := h.putN hk (fun _ => rfl) x
  simpa [putCells, bv] using this
theorem SlI.put' {b off : Nat} {l : List Int} (h : SlI w lo hi (some ⟨b, off, none⟩) n l) {k : Nat} (hk : k < n) (x : Int) : SlI (w.setCell ⟨b, off + k, none⟩ (.int .i64 x)) lo hi (some ⟨b, off, none⟩) n (l.set k x) := h.put hk x
end

/-- Made by make([]bool, n). -/
theorem SlB.made (w : World) (n : Nat) : SlB (w.alloc (.cells (madeCells #[.bool false] n) 4)) w.heap.size (w.heap.size + 1) (some ⟨w.heap.size, 0, none⟩) n (setOf n fun _ => false) := by
  refine ⟨setOf_len _ _, fun hn => ⟨w.heap.size, 0, rfl, Nat.le_refl _, by omega, by simp, fun k x hx j u hu => ?_⟩⟩
  have hk : k < n := by
    have := (List.getElem?_eq_some_iff.1 hx).1
    rwa [setOf_len] at this
  rw [setOf_get hk] at hx
  cases hx
  have hj : j = 0 := by
    have := (List.getElem?_eq_some_iff.1 hu).1
    simp [bv] at this
    exact this
  subst hj
  simp [bv] at hu
  subst hu
  have hg := heap_alloc_new w (.cells (madeCells #[.bool false] n) 4)
  refine ⟨(cell_of_row _ _ _ _ _ (0, 0) hg).trans ?_, frozen_of_row _ _ _ _ _ hg⟩
  simp [madeCells, Value.cells, hk, Nat.mod_one]

theorem run_make_bool (n : Nat) (hn : n ≤ 1048576) (W : World) : (Instr.makeSlice 65 (.int .i64 (n : Int)) (.int .i64 (n : Int))).run Tryz.prog W = .ok (.slice (some ⟨W.heap.size, 0, none⟩) n n) (W.alloc (.cells (madeCells #[.bool false] n) 4)) := by
  obtain ⟨i0, hi0, hz0, hz1, hz2⟩ := info_parts info_bool
  have h := make_row (P := Tryz.prog) 65 4 i0 _ _ n Tryz.underlying65 hi0 hz0 hz1 (by rw [hz2]; omega) (by omega) W
  rw [Nat.mul_one] at h
  exact h

theorem cloneB_calls (A : Option Addr) (n c : Nat) (l : List Bool) (w : World) (lo hi : Nat) (h : SlB w lo hi A n l) (hn : n ≤ 1048576) :
    Calls Tryz.prog 142 #[.slice A n c] w fun e w' => ∃ A' c', e = .returned (.slice A' n c') ∧ SlB w' w.heap.size w'.heap.size A' n l ∧ Below w.heap.size w w' := by
  have hnil : ∀ (W : World) (a : Option Addr) (m d : Nat), (binOp .eql 65 (.slice a m d) (.slice none 0 0)).run Tryz.prog W = .ok (.bool a.isNone) W := fun W a m d => Lib.run_eql_slice_nil W 65 _ a m d 0 0 Tryz.underlying65
  have hE := hide elem_bool
  cases A with
  | none =>
    have hn0 : n = 0 := by
      rcases Nat.eq_zero_or_pos n with h0 | h0
      · exact h0
      · obtain ⟨b, off, e, _⟩ := h.at_ h0
        cases e
    subst hn0
    have hl := List.eq_nil_of_length_eq_zero h.len
    subst hl
    go_enter Tryz.func142, Tryz.ntmps142
    go_wp2_with fail
    go_ret
    exact ⟨none, 0, rfl, Sl.nil_, Below.refl _ _⟩
  | some a =>
    have hs := hide (h.below ((Below.refl w.heap.size w).alloc (Nat.le_refl _) (.cells #[] 4)) (.inr (Nat.le_refl _)))
    have hz : w.heap.size ≤ (w.alloc (.cells #[] 4)).heap.size := by simp
    clear h
    go_enter Tryz.func142, Tryz.ntmps142
    go_wp2_with (first | (at_builtin; (with_reducible refine wpList_app rfl (.tmp 5) (.tmp 6) rfl hE.out flat_bv rfl (Own.made w 4 (Nat.le_refl _)) rfl hs.out ?c1 hz ?_); rotate_right; intro A2 c2 w2 hown2 hgr2 hb2 _))
    case c1 => omega
    go_ret
    rw [Nat.zero_add, List.nil_append] at hown2
    exact ⟨_, _, rfl, hown2.sl flat_bv, ((Below.refl _ _).alloc (Nat.le_refl _) _).trans hb2⟩

theorem idxK_step {l : List Bool} {k : Nat} (hk : k < l.length) : ((List.range (k + 1)).filter (inS l)).map Int.ofNat = ((List.range k).filter (inS l)).map Int.ofNat ++ (if inS l k = true then [(k : Int)] else []) := by
  rw [List.range_succ, List.filter_append, List.map_append]
  congr 1
  by_cases h : inS l k = true <;> simp [List.filter_cons, h]
theorem idxK_len (l : List Bool) (k : Nat) : (((List.range k).filter (inS l)).map Int.ofNat).length ≤ k := by
  rw [List.length_map]
  exact Nat.le_trans (List.length_filter_le _ _) (by simp)

set_option maxHeartbeats 800000 in
theorem trueAt_calls (A : Option Addr) (n c : Nat) (l : List Bool) (w : World) (lo hi : Nat) (h : SlB w lo hi A n l) (hn : n ≤ 1048576) :
    Calls Tryz.prog 75 #[.slice A n c] w fun e w' => ∃ A' c', e = .returned (.slice A' (idxOf l).length c') ∧ Own 1 iv w' w.heap.size 2 A' (idxOf l).length c' (idxOf l) ∧ Below w.heap.size w w' := by
  have hE := hide elem_int64
  have hlen := hide h.len
  replace h := hide h
  go_enter Tryz.func75, Tryz.ntmps75
  go_wp2
  go_loopw [3, 8] (fun v i wr => ∃ (k : Nat) (A2 : Option Addr) (m c2 : Nat), k ≤ n ∧ i = .int .i64 k ∧ v = .slice A2 m c2 ∧ Own 1 iv wr w.heap.size 2 A2 m c2 (((List.range k).filter (inS l)).map Int.ofNat) ∧ Below w.heap.size w wr) (fun _ i _ => n - (intOf i).toNat)
  case atStart => exact ⟨0, none, 0, 0, Nat.zero_le _, rfl, rfl, Own.nil_ _ _ _, Below.refl _ _⟩
  case round =>
    obtain ⟨k, A2, m, c2, hk, rfl, rfl, hown, hb⟩ := hrel
    have hm : m ≤ k := by have := idxK_len l k; rw [hown.len] at this; exact this
    replace hown := hide hown
    by_cases hlt : k < n
    · obtain ⟨b, off, rfl, g1, g2, g3, hx, c0, -⟩ := SlB.get (h.out.below hb (.inr (Nat.le_refl _))) hlt
      have hst := idxK_step (l := l) (k := k) (by rw [hlen.out]; exact hlt)
      have hz := hb.size
      clear h hx
      by_cases hq : inS l k = true
      · rw [if_pos hq] at hst
        replace hst := hide hst
        rw [hq] at c0
        clear hq
        have hza : w.heap.size ≤ (wr.alloc (.cells #[.int .i64 (k : Int)] 2)).heap.size := by simp; omega
        go_wp2_with (first | (at_builtin; (with_reducible refine wpList_app rfl (.tmp 14) (.tmp 16) rfl hE.out flat_iv rfl (hown.out.alloc _) rfl (Sl.lit1' wr 2 (k : Int) _ rfl 1 _ ?c0) ?c1 hza ?_); rotate_right; intro A5 c5 w5 hown5 hgr5 hb5 _))
        case c0 => rfl
        case c1 => omega
        go_roundw
        case rel => exact ⟨k + 1, A5, _, c5, by omega, by go_num, rfl, by rw [hst.out]; exact hown5, (hb.alloc hz _).trans hb5⟩
        case measure => simp [intOf]; omega
      · rw [if_neg hq, List.append_nil] at hst
        replace hst := hide hst
        rw [Bool.eq_false_iff.2 hq] at c0
        clear hq
        go_wp2
        go_roundw
        case rel => exact ⟨k + 1, A2, m, c2, by omega, by go_num, rfl, by rw [hst.out]; exact hown.out, hb⟩
        case measure => simp [intOf]; omega
    · have hkn : k = n := by omega
      subst hkn
      clear h
      have hl2 := hlen.out
      go_wp2
      go_ret
      subst hl2
      have hown' := hown.out
      have hml : m = (idxOf l).length := hown'.len.symm
      subst hml
      exact ⟨A2, c2, rfl, hown', hb⟩

set_option maxHeartbeats 800000 in
theorem l15True_calls (A : Option Addr) (n c : Nat) (l : List Bool) (w : World) (lo hi : Nat) (h : SlB w lo hi A n l) (hn : n ≤ 1048576) :
    Calls Tryz.prog 74 #[.slice A n c] w fun e w' => ∃ A' c', e = .returned (.slice A' (idxOf l).length c') ∧ Own 1 iv w' w.heap.size 2 A' (idxOf l).length c' (idxOf l) ∧ Below w.heap.size w w' := by
  have hE := hide elem_int64
  have hlen := hide h.len
  replace h := hide h
  go_enter Tryz.func74, Tryz.ntmps74
  go_wp2
  go_loopw [3, 4] (fun v i wr => ∃ (k : Nat) (A2 : Option Addr) (m c2 : Nat), k ≤ n ∧ i = .int .i64 k ∧ v = .slice A2 m c2 ∧ Own 1 iv wr w.heap.size 2 A2 m c2 (((List.range k).filter (inS l)).map Int.ofNat) ∧ Below w.heap.size w wr) (fun _ i _ => n - (intOf i).toNat)
  case atStart => exact ⟨0, _, 0, 0, Nat.zero_le _, rfl, rfl, Own.made w _ (Nat.le_refl _), (Below.refl _ _).alloc (Nat.le_refl _) _⟩
  case round =>
    obtain ⟨k, A2, m, c2, hk, rfl, rfl, hown, hb⟩ := hrel
    have hm : m ≤ k := by have := idxK_len l k; rw [hown.len] at this; exact this
    replace hown := hide hown
    by_cases hlt : k < n
    · obtain ⟨b, off, rfl, g1, g2, g3, hx, c0, -⟩ := SlB.get (h.out.below hb (.inr (Nat.le_refl _))) hlt
      have hst := idxK_step (l := l) (k := k) (by rw [hlen.out]; exact hlt)
      have hz := hb.size
      clear h hx
      by_cases hq : inS l k = true
      · rw [if_pos hq] at hst
        replace hst := hide hst
        rw [hq] at c0
        clear hq
        have hza : w.heap.size ≤ (wr.alloc (.cells #[.int .i64 (k : Int)] 2)).heap.size := by simp; omega
        go_wp2_with (first | (at_builtin; (with_reducible refine wpList_app rfl (.tmp 16) (.tmp 18) rfl hE.out flat_iv rfl (hown.out.alloc _) rfl (Sl.lit1' wr 2 (k : Int) _ rfl 1 _ ?c0) ?c1 hza ?_); rotate_right; intro A5 c5 w5 hown5 hgr5 hb5 _))
        case c0 => rfl
        case c1 => omega
        go_roundw
        case rel => exact ⟨k + 1, A5, _, c5, by omega, by go_num, rfl, by rw [hst.out]; exact hown5, (hb.alloc hz _).trans hb5⟩
        case measure => simp [intOf]; omega
      · rw [if_neg hq, List.append_nil] at hst
        replace hst := hide hst
        rw [Bool.eq_false_iff.2 hq] at c0
        clear hq
        go_wp2
        go_roundw
        case rel => exact ⟨k + 1, A2, m, c2, by omega, by go_num, rfl, by rw [hst.out]; exact hown.out, hb⟩
        case measure => simp [intOf]; omega
    · have hkn : k = n := by omega
      subst hkn
      clear h
      have hl2 := hlen.out
      go_wp2
      go_ret
      subst hl2
      have hown' := hown.out
      have hml : m = (idxOf l).length := hown'.len.symm
      subst hml
      exact ⟨A2, c2, rfl, hown', hb⟩

theorem indexTrue_calls (A : Option Addr) (n c : Nat) (l : List Bool) (w : World) (lo hi : Nat) (h : SlB w lo hi A n l) (hn : n ≤ 1048576) :
    Calls Tryz.prog 166 #[.slice A n c, .bool true] w fun e w' => ∃ i : Int, e = .returned (.int .i64 i) ∧ decide (0 ≤ i) = anyS l ∧ w = w' := by
  have hlen := hide h.len
  go_enter Tryz.func166, Tryz.ntmps166
  go_wp2
  go_loop [8] (fun i => ∃ k : Nat, k ≤ n ∧ i = .int .i64 k ∧ Hid (∀ j, j < k → inS l j = false)) (fun i => n - (intOf i).toNat)
  case atStart => exact ⟨0, Nat.zero_le _, rfl, fun j hj => absurd hj (by omega)⟩
  case round =>
    obtain ⟨k, hk, rfl, ha⟩ := hrel
    by_cases hlt : k < n
    · obtain ⟨b, off, rfl, g1, g2, g3, hx, c0, -⟩ := h.get hlt
      clear h hx
      by_cases hq : inS l k = true
      · have hy := hide (anyS_of (by rw [hlen.out]; exact hlt) hq)
        rw [hq] at c0
        clear hq
        go_wp2
        go_ret
        exact ⟨_, rfl, by rw [hy.out]; simp, rfl⟩
      · have hy : Hid (∀ j, j < k + 1 → inS l j = false) := fun j hj => by
          rcases Nat.lt_or_ge j k with h1 | h1
          · exact ha.out j h1
          · have : j = k := by omega
            subst this
            exact Bool.eq_false_iff.2 hq
        rw [Bool.eq_false_iff.2 hq] at c0
        clear hq
        go_wp2
        go_round
        case rel => exact ⟨k + 1, by omega, by go_num, hy⟩
        case measure => simp [intOf]; omega
    · have hkn : k = n := by omega
      subst hkn
      clear h
      go_wp2
      go_ret
      exact ⟨_, rfl, by rw [anyS_false (by rw [hlen.out]; exact ha.out)]; decide, rfl⟩

theorem containsTrue_calls (A : Option Addr) (n c : Nat) (l : List Bool) (w : World) (lo hi : Nat) (h : SlB w lo hi A n l) (hn : n ≤ 1048576) :
    Calls Tryz.prog 146 #[.slice A n c, .bool true] w fun e w' => e = .returned (.bool (anyS l)) ∧ w = w' := by
  have q := hide (indexTrue_calls A n c l w lo hi h hn)
  clear h
  go_enter Tryz.func146, Tryz.ntmps146
  go_wp2_with fail
  refine q.out.mono ?_
  rintro e w1 ⟨i, rfl, hi, rfl⟩
  replace hi := hide hi
  go_wp2_with fail
  go_ret
  exact ⟨ret_b hi.out.symm, rfl⟩

theorem truth_calls (b : Bool) (w : World) : Calls Tryz.prog 122 #[.bool b] w fun e w' => e = .returned (.int .i64 (if b then 1 else 0)) ∧ w = w' := by
  cases b
  all_goals
    go_enter Tryz.func122, Tryz.ntmps122
    go_wp2
    go_ret
    exact ⟨rfl, rfl⟩
end Go.Proofs.YtanlgnjgpbjebaaGreatDoor

namespace Go.Proofs.YtanlgnjgpbjebaaGreatDoor
open Go.ChangeShapes Go.WideShapes Go.ChangeAt Go.RowKit
set_option linter.unusedVariables false
set_option linter.unusedSimpArgs false

/-- w' is w but for the blocks of T, and new blocks. -/
structure But (T : Nat → Prop) (w w' : World) : Prop where
  os : w'.os = w.os
  tape : w'.tape = w.tape
  output : w'.output = w.output
  size : w.heap.size ≤ w'.heap.size
  block : ∀ b, b < w.heap.size → ¬ T b → w'.heap[b]? = w.heap[b]?
theorem But.refl (T : Nat → Prop) (w : World) : But T w w := ⟨rfl, rfl, rfl, Nat.le_refl _, fun _ _ _ => rfl⟩
theorem But.trans {T : Nat → Prop} {a b c : World} (h : But T a b) (g : But T b c) : But T a c :=
  ⟨g.os.trans h.os, g.tape.trans h.tape, g.output.trans h.output, Nat.le_trans h.size g.size, fun x hx hn => (g.block x (Nat.lt_of_lt_of_le hx h.size) hn).trans (h.block x hx hn)⟩
theorem But.of_below {T : Nat → Prop} {w w' : World} (h : Below w.heap.size w w') : But T w w' := ⟨h.os, h.tape, h.output, h.size, fun b hb _ => h.block b hb⟩
theorem But.below {T : Nat → Prop} {w w' : World} {B : Nat} (h : But T w w') (hT : ∀ x, T x → B ≤ x) (hB : B ≤ w.heap.size) : Below B w w' :=
  ⟨h.os, h.tape, h.output, h.size, fun b hb => h.block b (by omega) fun ht => by have := hT b ht; omega⟩
theorem But.set {T : Nat → Prop} (w : World) (p : Addr) (u : Value) (hT : T p.block) : But T w (w.setCell p u) := ⟨rfl, rfl, rfl, by rw [World.size_setCell]; exact Nat.le_refl _, fun b hb hn => Below.heap_setCell _ _ _ _ fun e => hn (e ▸ hT)⟩
theorem But.drew {T : Nat → Prop} {w w' : World} (h : But T w w') : But T w w'.drew := ⟨h.os, h.tape, h.output, h.size, h.block⟩
theorem But.kept {T : Nat → Prop} {w w' : World} (h : But T w w') {b : Nat} {o : Obj} (hb : w.heap[b]? = some o) (hn : ¬ T b) : w'.heap[b]? = some o := (h.block b (Array.getElem?_eq_some_iff.1 hb).1 hn).trans hb
theorem But.cell {T : Nat → Prop} {w w' : World} (h : But T w w') {p : Addr} {v : Value} (hp : w.cell? p = some v) (hl : p.block < w.heap.size) (hn : ¬ T p.block) : w'.cell? p = some v := (World.cell?_of_block (w := w) (by simpa using h.block p.block hl hn)).trans hp
/-- What lies in none of the blocks stays. -/
theorem Sl.but {α : Type} {size : Nat} {f : α → List Value} {T : Nat → Prop} {w w' : World} {lo hi n : Nat} {A : Option Addr} {l : List α} (h : Sl size f w lo hi A n l) (hb : But T w w') (hT : ∀ x, T x → x < lo ∨ hi ≤ x) : Sl size f w' lo hi A n l :=
  h.keep hb.size fun b h1 h2 h3 => hb.block b h3 fun ht => by have := hT b ht; omega

/-- A value is a list of bools that lies in none of the blocks of T. -/
def HasB (T : Nat → Prop) (w : World) (v : Value) (l : List Bool) : Prop := ∃ A m c, v = .slice A m c ∧ m ≤ 1048576 ∧ SlB w 0 w.heap.size A m l ∧ ∀ a, A = some a → 0 < m → ¬ T a.block
theorem HasB.nil_ (T : Nat → Prop) (w : World) : HasB T w (.slice none 0 0) [] := ⟨none, 0, 0, rfl, Nat.zero_le _, Sl.nil_, fun a h _ => by cases h⟩
theorem HasB.but {T : Nat → Prop} {w w' : World} {v : Value} {l : List Bool} (h : HasB T w v l) (hb : But T w w') : HasB T w' v l := by
  obtain ⟨A, m, c, rfl, hm, hs, hA⟩ := h
  refine ⟨A, m, c, rfl, hm, ?_, hA⟩
  refine ⟨hs.1, fun hn => ?_⟩
  obtain ⟨b, off, rfl, g1, g2, g3, hc⟩ := hs.2 hn
  have hk := hb.block b g3 (hA _ rfl (by omega))
  refine ⟨b, off, rfl, g1, Nat.lt_of_lt_of_le g2 hb.size, Nat.lt_of_lt_of_le g3 hb.size, fun k x hx j u hu => ?_⟩
  obtain ⟨c1, c2⟩ := hc k x hx j u hu
  exact ⟨(World.cell?_of_block (w := w) (by simpa using hk)).trans c1, (World.frozen?_of_block (w := w) (by simpa using hk)).trans c2⟩
theorem HasB.of {T : Nat → Prop} {w : World} {lo hi n c : Nat} {A : Option Addr} {l : List Bool} (h : SlB w lo hi A n l) (hn : n ≤ 1048576) (h0 : 0 < n) (hT : ∀ x, T x → x < lo) : HasB T w (.slice A n c) l :=
  ⟨A, n, c, rfl, hn, h.top.more (Nat.zero_le _) (Nat.le_refl _), fun a ha _ ht => by
    obtain ⟨b, off, e, g1, -⟩ := h.at_ h0
    rw [ha] at e
    cases e
    have := hT _ ht
    dsimp only at this
    omega⟩
/-- Rows that are lists of bools: row j reads as r j. -/
def TabB (T : Nat → Prop) (w : World) (b n : Nat) (t : TypeId) (r : Nat → List Bool) : Prop := ∃ cur : Array Value, w.heap[b]? = some (.cells cur t (0, 0)) ∧ n ≤ cur.size ∧ ∀ j, j < n → ∃ v, cur[j]? = some v ∧ HasB T w v (r j)
theorem TabB.lt {T : Nat → Prop} {w : World} {b n : Nat} {t : TypeId} {r : Nat → List Bool} (h : TabB T w b n t r) : b < w.heap.size := by
  obtain ⟨cur, h1, -⟩ := h
  exact (Array.getElem?_eq_some_iff.1 h1).1
theorem TabB.but {T T' : Nat → Prop} {w w' : World} {b n : Nat} {t : TypeId} {r : Nat → List Bool} (h : TabB T w b n t r) (hb : But T' w w') (hT : ∀ x, T' x → T x) (hn : ¬ T' b) : TabB T w' b n t r := by
  obtain ⟨cur, h1, h2, h3⟩ := h
  refine ⟨cur, hb.kept h1 hn, h2, fun j hj => ?_⟩
  obtain ⟨v, e, hv⟩ := h3 j hj
  refine ⟨v, e, hv.but ⟨hb.os, hb.tape, hb.output, hb.size, fun x hx hnx => hb.block x hx fun ht => hnx (hT x ht)⟩⟩
theorem TabB.below {T : Nat → Prop} {w w' : World} {b n : Nat} {t : TypeId} {r : Nat → List Bool} (h : TabB T w b n t r) (hb : Below w.heap.size w w') : TabB T w' b n t r := by
  obtain ⟨cur, h1, h2, h3⟩ := h
  refine ⟨cur, (hb.block b (Array.getElem?_eq_some_iff.1 h1).1).trans h1, h2, fun j hj => ?_⟩
  obtain ⟨v, e, hv⟩ := h3 j hj
  exact ⟨v, e, hv.but (But.of_below hb)⟩
theorem TabB.get {T : Nat → Prop} {w : World} {b n : Nat} {t : TypeId} {r : Nat → List Bool} (h : TabB T w b n t r) {j : Nat} (hj : j < n) : ∃ A m c, w.cell? ⟨b, j, none⟩ = some (.slice A m c) ∧ w.frozen? ⟨b, j, none⟩ = false ∧ m ≤ 1048576 ∧ SlB w 0 w.heap.size A m (r j) ∧ HasB T w (.slice A m c) (r j) := by
  obtain ⟨cur, h1, h2, h3⟩ := h
  obtain ⟨v, e, hv⟩ := h3 j hj
  obtain ⟨A, m, c, rfl, hm, hs, hA⟩ := hv
  exact ⟨A, m, c, (cell_of_row _ _ j _ _ (0, 0) h1).trans e, frozen_of_row _ _ _ _ _ h1, hm, hs, A, m, c, rfl, hm, hs, hA⟩
/-- A row is replaced. -/
theorem TabB.set {T : Nat → Prop} {w : World} {b n : Nat} {t : TypeId} {r : Nat → List Bool} (h : TabB T w b n t r) (hT : T b) (j : Nat) {v : Value} {l : List Bool} (hv : HasB T w v l) : TabB T (w.setCell ⟨b, j, none⟩ v) b n t (fun i => if i = j then l else r i) := by
  obtain ⟨cur, h1, h2, h3⟩ := h
  have hbut : But T w (w.setCell ⟨b, j, none⟩ v) := But.set w ⟨b, j, none⟩ v hT
  refine ⟨cur.setIfInBounds j v, heap_setCell_same _ b _ _ t v h1, by simpa using h2, fun i hi => ?_⟩
  by_cases hij : i = j
  · subst hij
    refine ⟨v, ?_, ?_⟩
    · rw [Array.getElem?_setIfInBounds_self_of_lt (by omega)]
    · dsimp only
      rw [if_pos rfl]
      exact hv.but hbut
  · obtain ⟨u, e, hu⟩ := h3 i hi
    refine ⟨u, ?_, ?_⟩
    · rw [Array.getElem?_setIfInBounds_ne (by omega)]
      exact e
    · dsimp only
      rw [if_neg hij]
      exact hu.but hbut
theorem But.more {T T' : Nat → Prop} {w w' : World} (h : But T w w') (hT : ∀ x, T x → T' x) : But T' w w' := ⟨h.os, h.tape, h.output, h.size, fun b hb hn => h.block b hb fun ht => hn (hT b ht)⟩
/-- Other blocks to lie outside of. -/
theorem HasB.re {T T' : Nat → Prop} {w : World} {v : Value} {l : List Bool} (h : HasB T w v l) (hT : ∀ b, T' b → T b ∨ w.heap.size ≤ b) : HasB T' w v l := by
  obtain ⟨A, m, c, rfl, hm, hs, hA⟩ := h
  refine ⟨A, m, c, rfl, hm, hs, fun a ha h0 ht => ?_⟩
  rcases hT _ ht with e | e
  · exact hA a ha h0 e
  · obtain ⟨b, off, e2, -, g2, -⟩ := hs.2 (by omega)
    rw [ha] at e2
    cases e2
    dsimp only at e
    omega
theorem TabB.re {T T' : Nat → Prop} {w : World} {b n : Nat} {t : TypeId} {r : Nat → List Bool} (h : TabB T w b n t r) (hT : ∀ b, T' b → T b ∨ w.heap.size ≤ b) : TabB T' w b n t r := by
  obtain ⟨cur, h1, h2, h3⟩ := h
  refine ⟨cur, h1, h2, fun j hj => ?_⟩
  obtain ⟨v, e, hv⟩ := h3 j hj
  exact ⟨v, e, hv.re hT⟩

end Go.Proofs.YtanlgnjgpbjebaaGreatDoor

namespace Go.Proofs.YtanlgnjgpbjebaaGreatDoor
open Go.ChangeShapes Go.WideShapes Go.ChangeAt Go.RowKit Go.Deep
set_option linter.unusedVariables false

abbrev CV := Int × Int × Hd
def hdV (x : CV) : Hd := x.2.2
def gV (x : CV) : List Value := [.int .i64 x.1, .int .i64 x.2.1, .slice x.2.2.1 x.2.2.2.1 x.2.2.2.2]
def dV (r : CV × List Int) : Vx := (r.1.1, r.1.2.1, r.2)
abbrev RowsV (most : Nat) := RowsG hdV 3 gV 1 iv most
/-- Element k. -/
theorem RowsG.atV {most : Nat} {w : World} {lo hi n k : Nat} {A : Option Addr} {R : List (CV × List Int)} (h : RowsV most w lo hi A n R) (hk : k < n) :
    ∃ b off x y Ah nh ch s, A = some ⟨b, off, none⟩ ∧ lo ≤ b ∧ b < hi ∧ b < w.heap.size ∧ R[k]? = some ((x, y, Ah, nh, ch), s) ∧ w.cell? ⟨b, off + k * 3, none⟩ = some (.int .i64 x) ∧ w.cell? ⟨b, off + k * 3 + 1, none⟩ = some (.int .i64 y) ∧ w.cell? ⟨b, off + k * 3 + 2, none⟩ = some (.slice Ah nh ch) ∧
      w.frozen? ⟨b, off + k * 3, none⟩ = false ∧ w.frozen? ⟨b, off + k * 3 + 1, none⟩ = false ∧ SlI w lo hi Ah nh s ∧ nh ≤ most := by
  obtain ⟨b, off, ⟨x, y, Ah, nh, ch⟩, s, e, g1, g2, g3, hr, hc, hs, hn⟩ := h.get hk
  exact ⟨b, off, x, y, Ah, nh, ch, s, e, g1, g2, g3, hr, (hc 0 _ rfl).1, (hc 1 _ rfl).1, (hc 2 _ rfl).1, (hc 0 _ rfl).2, (hc 1 _ rfl).2, hs, hn⟩

end Go.Proofs.YtanlgnjgpbjebaaGreatDoor
