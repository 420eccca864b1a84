/-
  Several texts in one:
  Lists of texts as arguments of a law: sizes, copying, comparing, opening. Conditions: sizes.
  The law's own marks on lists of texts and of edges: writing them, and seeing whether they are held. Conditions: sizes.
  The law's own marks on a list of texts that is a result. Conditions: sizes.
  SameVerdicts, by the reference and by the program. Conditions: sizes.
  Closed facts of the whole program, and the rows' condition in one form. Conditions: none.
-/
import Derived.Test.YtnhomkmfbngmgaaGreatDoorBaseD
import Derived.Test.YtnhomkmfbngmgaaGreatDoorBaseE
import Derived.Test.YtnhomkmfbngmgaaGreatDoorBaseF
import Derived.Test.YtnhomkmfbngmgaaGreatDoorBaseI
import Derived.Test.YtnhomkmfbngmgaaGreatDoorBaseJ
import Derived.StillTailTactics
import Derived.Deep.LoopGhost
import Derived.Laws.BytesArg
import Derived.Deep.RegionLaw
import Derived.Test.YtnhomkmfbngmgaaGreatDoorTie
import Derived.Test.YtnhomkmfbngmgaaGreatDoorCards
set_option linter.unusedSimpArgs false
set_option linter.unusedVariables false
namespace Go.Proofs.YtnhomkmfbngmgaaGreatDoor
open Go.ChangeShapes Go.WideShapes Go.ChangeAt Go.RowKit Go.Deep
set_option linter.unusedVariables false

abbrev DSS := List ByteArray
def ArgSS (w : World) (lo hi : Nat) (v : Value) (d : DSS) : Prop := ArgS w lo hi v d
def FreshSS (w : World) (lo hi : Nat) (v : Value) (d : DSS) : Prop := ArgS w lo hi v d ∧ totS d ≤ 1048576
def ResS (w : World) (lo hi : Nat) (v : Value) (d : DSS) : Prop := ArgS w lo hi v d ∧ d.length ≤ 1048576
section
variable {w w' : World} {lo hi lo' hi' B : Nat} {v u : Value} {d e : DSS}
theorem ArgSS.below (h : ArgSS w lo hi v d) (hb : Below B w w') (hB : hi ≤ B ∨ w.heap.size ≤ B) : ArgSS w' lo hi v d := ArgS.below h hb hB
theorem ArgSS.only (h : ArgSS w lo hi v d) (g : Only lo' hi' w w') (hd : hi ≤ lo' ∨ hi' ≤ lo) : ArgSS w' lo hi v d := ArgS.only h g hd
theorem FreshSS.below (h : FreshSS w lo hi v d) (hb : Below B w w') (hB : hi ≤ B ∨ w.heap.size ≤ B) : FreshSS w' lo hi v d := ⟨h.1.below hb hB, h.2⟩
theorem FreshSS.only (h : FreshSS w lo hi v d) (g : Only lo' hi' w w') (hd : hi ≤ lo' ∨ hi' ≤ lo) : FreshSS w' lo hi v d := ⟨h.1.only g hd, h.2⟩
theorem ResS.below (h : ResS w lo hi v d) (hb : Below B w w') (hB : hi ≤ B ∨ w.heap.size ≤ B) : ResS w' lo hi v d := ⟨h.1.below hb hB, h.2⟩
theorem ResS.only (h : ResS w lo hi v d) (g : Only lo' hi' w w') (hd : hi ≤ lo' ∨ hi' ≤ lo) : ResS w' lo hi v d := ⟨h.1.only g hd, h.2⟩
theorem eqStringS_u (h : ResS w lo hi v d) (g : ResS w lo' hi' u e) :
    Calls Tryz.prog 24 #[v, u] w fun r w' => r = .returned (.bool (decide (d = e))) ∧ Below w.heap.size w w' := eqStringS_a h.1 g.1 h.2 g.2
end
end Go.Proofs.YtnhomkmfbngmgaaGreatDoor

namespace Go.Proofs.YtnhomkmfbngmgaaGreatDoor
open Go.ChangeShapes Go.WideShapes Go.ChangeAt Go.RowKit
set_option linter.unusedVariables false
set_option linter.unusedSimpArgs false

/-! ## The text of a number -/
def mtG : Nat → Nat → ByteArray → ByteArray
  | 0, _, out => out
  | f + 1, k, out => if k = 0 then out else mtG f (k / 10) (strOfNums [48 + (k : Int) % 10] ++ out)
/-- "m" ahead of the digits. -/
def mText (k : Nat) : ByteArray := (⟨#[109]⟩ : ByteArray) ++ mtG 41 k ⟨#[]⟩
theorem strOne (n : Int) : (strOfNums [n]).size = 1 := rfl
theorem mtG_step {f k : Nat} (h : 0 < k) (out : ByteArray) : mtG (f + 1) k out = mtG f (k / 10) (strOfNums [48 + (k : Int) % 10] ++ out) := by
  conv => lhs; unfold mtG
  rw [if_neg (by omega)]
theorem mtG_zero (f : Nat) (out : ByteArray) : mtG f 0 out = out := by
  cases f with
  | zero => rfl
  | succ f => unfold mtG; rw [if_pos rfl]
theorem mtG_size : ∀ (f k : Nat) (out : ByteArray), (mtG f k out).size ≤ f + out.size
  | 0, _, out => by unfold mtG; omega
  | f + 1, k, out => by
    unfold mtG
    split
    · omega
    · refine Nat.le_trans (mtG_size f _ _) ?_
      rw [ByteArray.size_append, strOne]
      omega
theorem mText_size (k : Nat) : (mText k).size ≤ 42 := by
  unfold mText
  rw [ByteArray.size_append]
  have h1 := mtG_size 41 k ⟨#[]⟩
  have h2 : (⟨#[]⟩ : ByteArray).size = 0 := rfl
  have h3 : (⟨#[109]⟩ : ByteArray).size = 1 := rfl
  omega
theorem conv_one (W : World) (n : Int) : (convert 22 9 (.slice (some ⟨W.heap.size, 0, none⟩) 1 1)).run Tryz.prog (W.alloc (.cells #[.int .u8 n] 5)) = .ok (.string (strOfNums [n])) (W.alloc (.cells #[.int .u8 n] 5)) :=
  run_convert_bytes_arg _ 22 5 Tryz.underlying22 Tryz.underlying5 W.heap.size 0 1 1 [n] rfl (fun i hi => by
    have : i = 0 := by omega
    subst this
    exact (cell_of_row _ _ 0 _ _ (0, 0) (heap_alloc_new W _)).trans rfl) 9 Tryz.underlying9

set_option maxRecDepth 100000 in
set_option maxHeartbeats 800000 in
theorem markText_calls (k : Nat) (hk0 : 0 < k) (hk : k ≤ 1099511627776) (w : World) : Calls Tryz.prog 78 #[.int .i64 (k : Int)] w fun e w' => e = .returned (.string (mText k)) ∧ Below w.heap.size w w' := by
  have hcv := conv_one
  have hkI : (0 : Int) < (k : Int) := by omega
  have hle : ¬ ((k : Int) ≤ 0) := by omega
  go_enter Tryz.func78, Tryz.ntmps78
  go_wp2
  go_loopg [0, 3] 41 (fun N a s wr => ∃ (j : Nat) (out : ByteArray), a = .int .i64 (j : Nat) ∧ s = .string out ∧ j ≤ 1099511627776 ∧ Hid (j < 10 ^ N) ∧ out.size + N ≤ 41 ∧ Hid (mtG N j out = mtG 41 k ⟨#[]⟩) ∧ Below w.heap.size w wr)
  case atStart => exact ⟨k, ⟨#[]⟩, rfl, rfl, hk, by show _ < _; omega, by show 0 + 41 ≤ 41; omega, rfl, Below.refl _ _⟩
  case round =>
    obtain ⟨j, out, rfl, rfl, hj, hp, hs, hm, hb⟩ := hrel
    by_cases hj0 : 0 < j
    · obtain ⟨G, rfl⟩ : ∃ G, gk = G + 1 := ⟨gk - 1, by
        rcases Nat.eq_zero_or_pos gk with h | h
        · have := hp.out
          rw [h] at this
          simp at this
          omega
        · omega⟩
      have hm2 := hide ((mtG_step hj0 out).symm.trans hm.out)
      have hp2 : Hid (j / 10 < 10 ^ G) := by
        have := hp.out
        rw [Nat.pow_succ] at this
        show _ < _
        omega
      have hjI : (0 : Int) < (j : Int) := by omega
      have hz := hb.size
      clear hm hp
      have hadd : ∀ W, (Op.stringOp .add (strOfNums [48 + (j : Int) % 10]) out).run Tryz.prog W = .ok (.string (strOfNums [48 + (j : Int) % 10] ++ out)) W := fun W => run_string_add_sum W _ _ (by rw [strOne]; omega)
      go_wp2
      go_roundg G
      case measure => omega
      case rel => exact ⟨j / 10, _, by go_num, rfl, by omega, hp2, by rw [ByteArray.size_append, strOne]; omega, hm2, hb.alloc hz _⟩
    · have h0 : j = 0 := by omega
      subst h0
      have hmz := hm.out
      rw [mtG_zero] at hmz
      have hv : Hid (mText k = (⟨#[109]⟩ : ByteArray) ++ out) := by show _ = _; unfold mText; rw [← hmz]
      have hs1 : (⟨#[109]⟩ : ByteArray).size = 1 := rfl
      have hadd : ∀ W, (Op.stringOp .add (⟨#[109]⟩ : ByteArray) out).run Tryz.prog W = .ok (.string ((⟨#[109]⟩ : ByteArray) ++ out)) W := fun W => run_string_add_sum W _ _ (by rw [hs1]; omega)
      clear hm hp hmz
      go_wp2
      go_ret
      exact ⟨by rw [hv.out]; rfl, hb⟩

/-! ## What may be written stays so -/
def Kept (w w' : World) : Prop := ∀ b o, (w.cell? ⟨b, o, none⟩).isSome = true → (w'.cell? ⟨b, o, none⟩).isSome = true ∧ w'.frozen? ⟨b, o, none⟩ = w.frozen? ⟨b, o, none⟩
structure OnlyK (lo hi : Nat) (w w' : World) : Prop where
  only : Only lo hi w w'
  kept : Kept w w'
/-- A slice value whose cells are there and may be written. -/
def WrS (size : Nat) (w : World) (lo hi : Nat) (A : Option Addr) (n : Nat) : Prop := 0 < n → ∃ b off, A = some ⟨b, off, none⟩ ∧ lo ≤ b ∧ b < hi ∧ b < w.heap.size ∧ ∀ i, i < n * size → (w.cell? ⟨b, off + i, none⟩).isSome = true ∧ w.frozen? ⟨b, off + i, none⟩ = false
section
variable {lo hi : Nat} {a w w' : World}
theorem OnlyK.refl (lo hi : Nat) (w : World) : OnlyK lo hi w w := ⟨Only.refl _ _ _, fun _ _ h => ⟨h, rfl⟩⟩
theorem OnlyK.trans (h : OnlyK lo hi a w) (g : OnlyK lo hi w w') : OnlyK lo hi a w' :=
  ⟨h.only.trans g.only, fun b o hs => by
    obtain ⟨h1, h2⟩ := h.kept b o hs
    obtain ⟨g1, g2⟩ := g.kept b o h1
    exact ⟨g1, g2.trans h2⟩⟩
theorem OnlyK.below (h : Below w.heap.size w w') : OnlyK lo hi w w' := by
  refine ⟨⟨h.os, h.tape, h.output, h.size, fun b hb _ => h.block b hb⟩, fun b o hs => ?_⟩
  have hlt : b < w.heap.size := by
    unfold World.cell? at hs
    cases hb : w.heap[b]? with
    | none => rw [hb] at hs; cases hs
    | some x => exact (Array.getElem?_eq_some_iff.1 hb).1
  have hb := h.block b hlt
  have e1 : w'.cell? ⟨b, o, none⟩ = w.cell? ⟨b, o, none⟩ := World.cell?_of_block (w := w) (by simpa using hb)
  have e2 : w'.frozen? ⟨b, o, none⟩ = w.frozen? ⟨b, o, none⟩ := World.frozen?_of_block (w := w) (by simpa using hb)
  exact ⟨by rw [e1]; exact hs, e2⟩
theorem OnlyK.set {b o : Nat} (h1 : lo ≤ b) (h2 : b < hi) (v : Value) : OnlyK lo hi w (w.setCell ⟨b, o, none⟩ v) := by
  refine ⟨(Only.refl lo hi w).setCell (p := ⟨b, o, none⟩) h1 h2 v, fun b' o' hs => ⟨?_, World.frozen?_setCell ..⟩⟩
  obtain ⟨u, hu⟩ := Option.isSome_iff_exists.1 hs
  by_cases e : (⟨b, o, none⟩ : Addr) = ⟨b', o', none⟩
  · rw [← e] at hu ⊢
    rw [World.cell?_setCell_same w _ v hu]
    rfl
  · rw [World.cell?_setCell_other w _ _ v e, hu]
    rfl
theorem OnlyK.setCell {b o : Nat} (h : OnlyK lo hi a w) (h1 : lo ≤ b) (h2 : b < hi) (v : Value) : OnlyK lo hi a (w.setCell ⟨b, o, none⟩ v) := h.trans (OnlyK.set h1 h2 v)
theorem WrS.kept {size n : Nat} {A : Option Addr} (h : WrS size w lo hi A n) (g : Kept w w') (hs : w.heap.size ≤ w'.heap.size) : WrS size w' lo hi A n := fun hn => by
  obtain ⟨b, off, e, g1, g2, g3, hc⟩ := h hn
  refine ⟨b, off, e, g1, g2, by omega, fun i hi => ?_⟩
  obtain ⟨c1, c2⟩ := hc i hi
  obtain ⟨k1, k2⟩ := g b _ c1
  exact ⟨k1, k2.trans c2⟩
theorem WrS.of {α : Type} {size n : Nat} {f : α → List Value} {A : Option Addr} {l : List α} (h : Sl size f w lo hi A n l) (hf : Flat f size) : WrS size w lo hi A n := fun hn => by
  obtain ⟨b, off, e, g1, g2, g3, hc⟩ := h.at_ hn
  refine ⟨b, off, e, g1, g2, g3, fun i hi => ?_⟩
  have hs : 0 < size := by rcases Nat.eq_zero_or_pos size with h0 | h0; (subst h0; simp at hi); exact h0
  have hk : i / size < l.length := by rw [h.len]; exact (Nat.div_lt_iff_lt_mul hs).2 hi
  have hj : i % size < (f (l[i / size]'hk)).length := by rw [hf.1]; exact Nat.mod_lt _ hs
  obtain ⟨c1, c2⟩ := hc (i / size) _ (List.getElem?_eq_getElem hk) (i % size) _ (List.getElem?_eq_getElem hj)
  rw [Nat.mul_comm (i / size) size, Nat.div_add_mod] at c1 c2
  exact ⟨by rw [c1]; rfl, c2⟩
end

set_option maxRecDepth 100000 in
theorem markStringS_wr (A : Option Addr) (n c : Nat) (m : Nat) (w : World) (lo hi : Nat) (h : WrS 1 w lo hi A n) (hn : n ≤ 1048576) (h0 : 0 < m) (h1 : m ≤ 549755813888) :
    Calls Tryz.prog 27 #[.slice A n c, .int .i64 (m : Int)] w fun e w' => e = .returned (.int .i64 ((m + n : Nat) : Int)) ∧ OnlyK lo hi w w' := by
  replace h := hide h
  go_enter Tryz.func27, Tryz.ntmps27
  go_wp2
  go_loopw [1, 5] (fun s i wr => ∃ k : Nat, k ≤ n ∧ i = .int .i64 k ∧ s = .int .i64 ((m + k : Nat) : Int) ∧ OnlyK lo hi w wr) (fun _ i _ => n - (intOf i).toNat)
  case atStart => exact ⟨0, Nat.zero_le _, rfl, rfl, OnlyK.refl _ _ _⟩
  case round =>
    obtain ⟨k, hk, rfl, rfl, ho⟩ := hrel
    by_cases hlt : k < n
    · have q := hide (markText_calls (m + k) (by omega) (by omega) wr)
      have hW := h.out.kept ho.kept ho.only.size
      obtain ⟨b, off, rfl, g1, g2, -, hc⟩ := hW (by omega)
      obtain ⟨h8, h9⟩ := hc k (by omega)
      replace ho := hide ho
      clear h hW hc
      go_wp2_with fail
      refine q.out.mono ?_
      rintro e w1 ⟨rfl, hb1⟩
      have hk1 := OnlyK.below (lo := lo) (hi := hi) hb1
      obtain ⟨k1, k2⟩ := hk1.kept b (off + k) h8
      rw [h9] at k2
      obtain ⟨v, hv⟩ := Option.isSome_iff_exists.1 k1
      have ho2 := hide (ho.out.trans hk1)
      clear h8 h9 k1 hk1 hb1
      go_wp2_with fail
      go_roundw
      case rel => exact ⟨k + 1, by omega, by go_num, by go_num, ho2.out.setCell g1 g2 _⟩
      case measure => simp [intOf]; omega
    · have hkn : k = n := by omega
      subst hkn
      clear h
      replace ho := hide ho
      go_wp2
      go_ret
      exact ⟨rfl, ho.out⟩

set_option maxRecDepth 100000 in
theorem markInt64S_wr (A : Option Addr) (n c : Nat) (m : Nat) (w : World) (lo hi : Nat) (h : WrS 1 w lo hi A n) (hn : n ≤ 1048576) (h0 : 0 < m) (h1 : m ≤ 549764202496) :
    Calls Tryz.prog 77 #[.slice A n c, .int .i64 (m : Int)] w fun e w' => e = .returned (.int .i64 ((m + n : Nat) : Int)) ∧ OnlyK lo hi w w' := by
  replace h := hide h
  go_enter Tryz.func77, Tryz.ntmps77
  go_wp2
  go_loopw [1, 5] (fun s i wr => ∃ k : Nat, k ≤ n ∧ i = .int .i64 k ∧ s = .int .i64 ((m + k : Nat) : Int) ∧ OnlyK lo hi w wr) (fun _ i _ => n - (intOf i).toNat)
  case atStart => exact ⟨0, Nat.zero_le _, rfl, rfl, OnlyK.refl _ _ _⟩
  case round =>
    obtain ⟨k, hk, rfl, rfl, ho⟩ := hrel
    by_cases hlt : k < n
    · have hW := h.out.kept ho.kept ho.only.size
      obtain ⟨b, off, rfl, g1, g2, -, hc⟩ := hW (by omega)
      obtain ⟨h8, h9⟩ := hc k (by omega)
      obtain ⟨v, hv⟩ := Option.isSome_iff_exists.1 h8
      replace ho := hide ho
      clear h hW hc h8
      go_wp2
      go_roundw
      case rel => exact ⟨k + 1, by omega, by go_num, by go_num, ho.out.setCell g1 g2 _⟩
      case measure => simp [intOf]; omega
    · have hkn : k = n := by omega
      subst hkn
      clear h
      replace ho := hide ho
      go_wp2
      go_ret
      exact ⟨rfl, ho.out⟩

set_option maxRecDepth 100000 in
set_option maxHeartbeats 800000 in
theorem markEdgeS_wr (A : Option Addr) (n c : Nat) (m : Nat) (w : World) (lo hi : Nat) (h : WrS 3 w lo hi A n) (hn : n ≤ 1048576) (h0 : 0 < m) (h1 : m ≤ 549764202496) :
    Calls Tryz.prog 158 #[.slice A n c, .int .i64 (m : Int)] w fun e w' => e = .returned (.int .i64 ((m + 3 * n : Nat) : Int)) ∧ OnlyK lo hi w w' := by
  replace h := hide h
  go_enter Tryz.func158, Tryz.ntmps158
  go_wp2
  go_loopw [1, 5] (fun s i wr => ∃ k : Nat, k ≤ n ∧ i = .int .i64 k ∧ s = .int .i64 ((m + 3 * k : Nat) : Int) ∧ OnlyK lo hi w wr) (fun _ i _ => n - (intOf i).toNat)
  case atStart => exact ⟨0, Nat.zero_le _, rfl, rfl, OnlyK.refl _ _ _⟩
  case round =>
    obtain ⟨k, hk, rfl, rfl, ho⟩ := hrel
    by_cases hlt : k < n
    · have hW := h.out.kept ho.kept ho.only.size
      obtain ⟨b, off, rfl, g1, g2, -, hc⟩ := hW (by omega)
      obtain ⟨h8, h9⟩ := hc (k * 3) (by omega)
      obtain ⟨i8, i9⟩ := hc (k * 3 + 1) (by omega)
      obtain ⟨j8, j9⟩ := hc (k * 3 + 2) (by omega)
      rw [← Nat.add_assoc] at i8 i9 j8 j9
      obtain ⟨v, hv⟩ := Option.isSome_iff_exists.1 h8
      obtain ⟨u, hu⟩ := Option.isSome_iff_exists.1 i8
      obtain ⟨t, ht⟩ := Option.isSome_iff_exists.1 j8
      replace ho := hide ho
      clear h hW hc h8 i8 j8
      go_wp2
      go_roundw
      case rel => exact ⟨k + 1, by omega, by go_num, by go_num, ((ho.out.setCell g1 g2 _).setCell g1 g2 _).setCell g1 g2 _⟩
      case measure => simp [intOf]; omega
    · have hkn : k = n := by omega
      subst hkn
      clear h
      replace ho := hide ho
      go_wp2
      go_ret
      exact ⟨rfl, ho.out⟩

/-- A system that may be written. -/
structure WrL (w : World) (lo hi : Nat) (v2 v3 : Value) (n2 n3 : Nat) : Prop where
  lab : ∃ A c, v2 = .slice A n2 c ∧ WrS 1 w lo hi A n2
  edg : ∃ A c, v3 = .slice A n3 c ∧ WrS 3 w lo hi A n3
theorem WrL.kept {w w' : World} {lo hi n2 n3 : Nat} {v2 v3 : Value} (h : WrL w lo hi v2 v3 n2 n3) (g : Kept w w') (hs : w.heap.size ≤ w'.heap.size) : WrL w' lo hi v2 v3 n2 n3 := by
  obtain ⟨A, c, e, h1⟩ := h.lab
  obtain ⟨B, d, e', h2⟩ := h.edg
  exact ⟨⟨A, c, e, h1.kept g hs⟩, ⟨B, d, e', h2.kept g hs⟩⟩
theorem WrL.of {w : World} {lo hi : Nat} {x : CL} {d : DL} (h : ReadL w lo hi x d) : WrL w lo hi x.2.2.1 x.2.2.2 d.2.2.1.length d.2.2.2.length := by
  obtain ⟨-, -, ⟨A2, n2, k2, e2, hn2, hs2, t2⟩, ⟨A3, n3, k3, e3, hn3, t3⟩⟩ := h
  rw [t2.len, t3.len]
  exact ⟨⟨A2, k2, e2, WrS.of t2 flat_strv⟩, ⟨A3, k3, e3, WrS.of t3 flat_ev⟩⟩

set_option maxRecDepth 100000 in
theorem markLts_wr (s0 s1 : Int) (v2 v3 : Value) (n2 n3 : Nat) (m : Nat) (w : World) (lo hi : Nat) (h : WrL w lo hi v2 v3 n2 n3) (hn2 : n2 ≤ 1048576) (hn3 : n3 ≤ 1048576) (hh : hi ≤ w.heap.size) (h0 : 0 < m) (h1 : m ≤ 549755813888) :
    Calls Tryz.prog 76 #[.agg #[.int .i64 s0, .int .i64 s1, v2, v3], .int .i64 (m : Int)] w fun e w' => e = .returned (.int .i64 ((m + n2 + 3 * n3 : Nat) : Int)) ∧ OnlyK lo hi w w' := by
  obtain ⟨A2, k2, rfl, -⟩ := h.lab
  obtain ⟨A3, k3, rfl, -⟩ := h.edg
  have hb0 : Below w.heap.size w (w.alloc (.cells #[.int .i64 s0, .int .i64 s1, .slice A2 n2 k2, .slice A3 n3 k3] 27)) := (Below.refl _ _).alloc (Nat.le_refl _) _
  have kE := heap_alloc_new w (.cells #[.int .i64 s0, .int .i64 s1, .slice A2 n2 k2, .slice A3 n3 k3] 27)
  have hz : w.heap.size < (w.alloc (.cells #[.int .i64 s0, .int .i64 s1, .slice A2 n2 k2, .slice A3 n3 k3] 27)).heap.size := by rw [World.size_alloc]; omega
  have hk0 := OnlyK.below (lo := lo) (hi := hi) hb0
  have hL := h.kept hk0.kept hk0.only.size
  obtain ⟨B2, d2, e2, w2⟩ := hL.lab
  cases e2
  have q := hide (markStringS_wr A2 n2 k2 m _ lo hi w2 hn2 h0 h1)
  have c2 : (w.alloc (.cells #[.int .i64 s0, .int .i64 s1, .slice A2 n2 k2, .slice A3 n3 k3] 27)).cell? ⟨w.heap.size, 2, none⟩ = some (.slice A2 n2 k2) := (cell_of_row _ _ 2 _ _ (0, 0) kE).trans rfl
  replace hk0 := hide hk0
  replace hL := hide hL
  replace kE := hide kE
  clear h w2 hb0
  go_enter Tryz.func76, Tryz.ntmps76
  go_wp2_with fail
  refine q.out.mono ?_
  rintro e w1 ⟨rfl, hk1⟩
  have kF := (hk1.only.block _ hz (.inr hh)).trans kE.out
  have c3 : w1.cell? ⟨w.heap.size, 3, none⟩ = some (.slice A3 n3 k3) := (cell_of_row _ _ 3 _ _ (0, 0) kF).trans rfl
  have hL1 := hL.out.kept hk1.kept hk1.only.size
  obtain ⟨B3, d3, e3, w3⟩ := hL1.edg
  cases e3
  have q2 := hide (markEdgeS_wr A3 n3 k3 (m + n2) w1 lo hi w3 hn3 (by omega) (by omega))
  have hk01 := hide (hk0.out.trans hk1)
  clear hL hL1 w3 hk1 hk0 kF kE q c2
  go_wp2_with fail
  refine q2.out.mono ?_
  rintro e w2 ⟨rfl, hk2⟩
  have hk02 := hide (hk01.out.trans hk2)
  clear hk2 c3
  go_wp2_with fail
  go_ret
  exact ⟨rfl, hk02.out⟩

theorem wr_total {d : DL} (h : totL d ≤ 1048576) : d.2.2.1.length ≤ 1048576 ∧ d.2.2.2.length ≤ 1048576 := ⟨Nat.le_trans (totL_lab d) h, Nat.le_trans (totL_edg d) h⟩

set_option maxRecDepth 100000 in
theorem markMonitor_u {v : Value} {d : DM} {m : Int} {w : World} {lo hi : Nat} (h : FreshM w lo hi v d) (hh : hi ≤ w.heap.size) (h0 : 0 < m) (h1 : m ≤ 549747425280) :
    Calls Tryz.prog 26 #[v, .int .i64 m] w fun e w' => ∃ m', e = .returned (.int .i64 m') ∧ m ≤ m' ∧ m' ≤ m + 8388608 ∧ Only lo hi w w' := by
  obtain ⟨⟨⟨s0, s1, v2, v3⟩, v4, rfl, hL, a0⟩, ht⟩ := h
  obtain ⟨A4, n4, k4, rfl, t4⟩ := a0.long
  obtain ⟨dl, vs⟩ := d
  simp only [totM] at ht
  have l4 := t4.len
  dsimp only at l4
  obtain ⟨hn2, hn3⟩ := wr_total (show totL dl ≤ 1048576 by omega)
  have hn4 : n4 ≤ 1048576 := by omega
  have hW := WrL.of hL
  have hW4 := WrS.of t4 flat_iv
  dsimp only at *
  generalize dl.2.2.1.length = n2 at *
  generalize dl.2.2.2.length = n3 at *
  obtain ⟨m, rfl⟩ : ∃ k : Nat, m = (k : Int) := ⟨m.toNat, by omega⟩
  have hb0 : Below w.heap.size w (w.alloc (.cells #[.int .i64 s0, .int .i64 s1, v2, v3, .slice A4 n4 k4] 52)) := (Below.refl _ _).alloc (Nat.le_refl _) _
  have kE := heap_alloc_new w (.cells #[.int .i64 s0, .int .i64 s1, v2, v3, .slice A4 n4 k4] 52)
  have hz : w.heap.size < (w.alloc (.cells #[.int .i64 s0, .int .i64 s1, v2, v3, .slice A4 n4 k4] 52)).heap.size := by rw [World.size_alloc]; omega
  have hk0 := OnlyK.below (lo := lo) (hi := hi) hb0
  have q := hide (markLts_wr s0 s1 v2 v3 n2 n3 m _ lo hi (hW.kept hk0.kept hk0.only.size) hn2 hn3 (by omega) (by omega) (by omega))
  replace hW4 := hide (hW4.kept hk0.kept hk0.only.size)
  obtain ⟨A2, k2, rfl, -⟩ := hW.lab
  obtain ⟨A3, k3, rfl, -⟩ := hW.edg
  replace hk0 := hide hk0
  replace kE := hide kE
  have c0 : (w.alloc (.cells #[.int .i64 s0, .int .i64 s1, .slice A2 n2 k2, .slice A3 n3 k3, .slice A4 n4 k4] 52)).cell? ⟨w.heap.size, 0, none⟩ = some (.int .i64 s0) := (cell_of_row _ _ 0 _ _ (0, 0) kE.out).trans rfl
  have c1 : (w.alloc (.cells #[.int .i64 s0, .int .i64 s1, .slice A2 n2 k2, .slice A3 n3 k3, .slice A4 n4 k4] 52)).cell? ⟨w.heap.size, 1, none⟩ = some (.int .i64 s1) := (cell_of_row _ _ 1 _ _ (0, 0) kE.out).trans rfl
  have c2 : (w.alloc (.cells #[.int .i64 s0, .int .i64 s1, .slice A2 n2 k2, .slice A3 n3 k3, .slice A4 n4 k4] 52)).cell? ⟨w.heap.size, 2, none⟩ = some (.slice A2 n2 k2) := (cell_of_row _ _ 2 _ _ (0, 0) kE.out).trans rfl
  have c3 : (w.alloc (.cells #[.int .i64 s0, .int .i64 s1, .slice A2 n2 k2, .slice A3 n3 k3, .slice A4 n4 k4] 52)).cell? ⟨w.heap.size, 3, none⟩ = some (.slice A3 n3 k3) := (cell_of_row _ _ 3 _ _ (0, 0) kE.out).trans rfl
  clear hL a0 t4 hW hb0 ht l4
  go_enter Tryz.func26, Tryz.ntmps26
  go_wp2_with fail
  refine q.out.mono ?_
  rintro e w1 ⟨rfl, hk1⟩
  have kF := (hk1.only.block _ hz (.inr hh)).trans kE.out
  clear c0 c1 c2 c3
  have c4 : w1.cell? ⟨w.heap.size, 4, none⟩ = some (.slice A4 n4 k4) := (cell_of_row _ _ 4 _ _ (0, 0) kF).trans rfl
  have q2 := hide (markInt64S_wr A4 n4 k4 (m + n2 + 3 * n3) w1 lo hi (hW4.out.kept hk1.kept hk1.only.size) hn4 (by omega) (by omega))
  have hk01 := hide (hk0.out.trans hk1)
  clear hk1 hk0 kF kE q hW4
  go_wp2_with fail
  refine q2.out.mono ?_
  rintro e w2 ⟨rfl, hk2⟩
  have hk02 := hide (hk01.out.trans hk2)
  clear hk2 c4
  go_wp2_with fail
  go_ret
  exact ⟨_, rfl, by omega, by omega, hk02.out.only⟩

theorem ArgM.only {w w' : World} {lo hi lo' hi' : Nat} {v : Value} {d : DM} (h : ArgM w lo hi v d) (g : Only lo' hi' w w') (hd : hi ≤ lo' ∨ hi' ≤ lo) : ArgM w' lo hi v d := by
  obtain ⟨x, v4, e, h1, a0⟩ := h
  exact ⟨x, v4, e, h1.only g hd, a0.only g hd⟩
theorem FreshM.only {w w' : World} {lo hi lo' hi' : Nat} {v : Value} {d : DM} (h : FreshM w lo hi v d) (g : Only lo' hi' w w') (hd : hi ≤ lo' ∨ hi' ≤ lo) : FreshM w' lo hi v d := ⟨h.1.only g hd, h.2⟩
end Go.Proofs.YtnhomkmfbngmgaaGreatDoor

namespace Go.Proofs.YtnhomkmfbngmgaaGreatDoor
open Go.ChangeShapes Go.WideShapes Go.ChangeAt Go.RowKit
set_option linter.unusedVariables false
set_option linter.unusedSimpArgs false

/-- The first k texts are marks. -/
def markU (m : Nat) : Nat → List ByteArray → List ByteArray
  | 0, l => l
  | k + 1, l => (markU m k l).set k (mText (m + k))
theorem markU_len (m : Nat) (l : List ByteArray) : ∀ k, (markU m k l).length = l.length
  | 0 => rfl
  | k + 1 => by unfold markU; rw [List.length_set, markU_len m l k]
theorem markU_get (m : Nat) (l : List ByteArray) : ∀ k i, i < k → i < l.length → (markU m k l)[i]? = some (mText (m + i))
  | 0, i, h, _ => absurd h (by omega)
  | k + 1, i, h, hl => by
    unfold markU
    by_cases e : k = i
    · subst e
      exact List.getElem?_set_self (by rw [markU_len]; exact hl)
    · rw [List.getElem?_set_ne e]
      exact markU_get m l k i (by omega) hl
theorem SlS.put {w : World} {lo hi n b off : Nat} {l : List ByteArray} (h : SlS w lo hi (some ⟨b, off, none⟩) n l) {k : Nat} (hk : k < n) (x : ByteArray) : SlS (w.setCell ⟨b, off + k, none⟩ (.string x)) lo hi (some ⟨b, off, none⟩) n (l.set k x) := by
  have := h.putN hk (fun _ => rfl) x
  simpa [putCells, strv] using this

set_option maxRecDepth 100000 in
theorem markStringS_calls (A : Option Addr) (n c : Nat) (l : List ByteArray) (m : Nat) (w : World) (lo hi : Nat) (h : SlS w lo hi A n l) (hn : n ≤ 1048576) (h0 : 0 < m) (h1 : m ≤ 549755813888) :
    Calls Tryz.prog 27 #[.slice A n c, .int .i64 (m : Int)] w fun e w' => e = .returned (.int .i64 ((m + n : Nat) : Int)) ∧ SlS w' lo hi A n (markU m n l) ∧ Only lo hi w w' := by
  go_enter Tryz.func27, Tryz.ntmps27
  go_wp2
  go_loopw [1, 5] (fun s i wr => ∃ k : Nat, k ≤ n ∧ i = .int .i64 k ∧ s = .int .i64 ((m + k : Nat) : Int) ∧ SlS wr lo hi A n (markU m k l) ∧ Only lo hi w wr) (fun _ i _ => n - (intOf i).toNat)
  case atStart => exact ⟨0, Nat.zero_le _, rfl, rfl, h, Only.refl _ _ _⟩
  case round =>
    clear h
    obtain ⟨k, hk, rfl, rfl, hs, ho⟩ := hrel
    by_cases hlt : k < n
    · have q := hide (markText_calls (m + k) (by omega) (by omega) wr)
      obtain ⟨b, off, x, rfl, g1, g2, g3, hx, c0, z0⟩ := SlS.get hs hlt
      replace hs := hide hs
      replace ho := hide ho
      clear hx
      go_wp2_with fail
      refine q.out.mono ?_
      rintro e w1 ⟨rfl, hb1⟩
      have hk1 := OnlyK.below (lo := lo) (hi := hi) hb1
      have c1 := (hb1.cell (p := ⟨b, off + k, none⟩) g3).trans c0
      have hs1 := hs.out.below hb1 (.inr (Nat.le_refl _))
      obtain ⟨_, _, _, e9, _, _, _, _, _, z1⟩ := SlS.get hs1 hlt
      injection e9 with e9
      injection e9 with e9 e8
      subst e9 e8
      have hput := hide (SlS.put hs1 hlt (mText (m + k)))
      have ho2 := hide (Only.trans ho.out hk1.only)
      clear hs1 hk1 hb1 c0 z0
      go_wp2_with fail
      go_roundw
      case rel => exact ⟨k + 1, by omega, by go_num, by go_num, hput.out, ho2.out.setCell g1 g2 _⟩
      case measure => simp [intOf]; omega
    · have hkn : k = n := by omega
      subst hkn
      replace ho := hide ho
      replace hs := hide hs
      go_wp2
      go_ret
      exact ⟨rfl, hs.out, ho.out⟩

set_option maxRecDepth 100000 in
theorem heldStringS_calls (A : Option Addr) (n c : Nat) (l : List ByteArray) (m : Nat) (w : World) (lo hi : Nat) (h : SlS w lo hi A n l) (hn : n ≤ 1048576) (h0 : 0 < m) (h1 : m ≤ 549755813888)
    (hl : ∀ i, i < n → l[i]? = some (mText (m + i))) :
    Calls Tryz.prog 28 #[.slice A n c, .int .i64 (m : Int)] w fun e w' => e = .returned (.int .i64 ((m + n : Nat) : Int)) ∧ Below w.heap.size w w' := by
  replace hl := hide hl
  go_enter Tryz.func28, Tryz.ntmps28
  go_wp2
  go_loopw [1, 5] (fun s i wr => ∃ k : Nat, k ≤ n ∧ i = .int .i64 k ∧ s = .int .i64 ((m + k : Nat) : Int) ∧ Below w.heap.size w wr) (fun _ i _ => n - (intOf i).toNat)
  case atStart => exact ⟨0, Nat.zero_le _, rfl, rfl, Below.refl _ _⟩
  case round =>
    obtain ⟨k, hk, rfl, rfl, hb⟩ := hrel
    by_cases hlt : k < n
    · obtain ⟨b, off, x, rfl, g1, g2, g3, hx, c0, z0⟩ := SlS.get h hlt
      rw [hl.out k hlt] at hx
      obtain rfl := Option.some.inj hx
      replace c0 := (hb.cell (p := ⟨b, off + k, none⟩) g3).trans c0
      have g3r : b < wr.heap.size := Nat.lt_of_lt_of_le g3 hb.size
      have q := markText_calls (m + k) (by omega) (by omega) wr.drew
      rw [Int.natCast_add] at q
      have hself : ((mText (m + k)).toList != (mText (m + k)).toList) = false := by simp
      replace q := hide q
      replace hb := hide hb
      clear h hx
      have hk0 : (0 : Int) ≤ (k : Int) := by omega
      have hk9 : (k : Int) < (n : Int) := by omega
      go_wp2
      go_region_law (first | (go_simp; go_at_call 78; (with_reducible refine q.out.mono ?_); rintro e w1 ⟨rfl, hb1⟩; have d0 := (hb1.cell (p := ⟨b, off + k, none⟩) g3r).trans c0))
      all_goals (have hbw := hide (hb.out.trans (((Below.refl wr.heap.size wr).drew.trans hb1).mono hb.out.size)))
      all_goals go_wp2_with fail
      all_goals go_roundw
      all_goals first | exact ⟨k + 1, by omega, by go_num, by go_num, hbw.out⟩ | (simp [intOf]; omega)
    · have hkn : k = n := by omega
      subst hkn
      replace hb := hide hb
      clear h
      go_wp2
      go_ret
      exact ⟨rfl, hb.out⟩

def HeldS (m : Int) (d : List ByteArray) (m' : Int) : Prop := 0 < m ∧ m ≤ 549755813888 ∧ m' = m + (d.length : Int) ∧ ∀ i, i < d.length → d[i]? = some (mText (m.toNat + i))
theorem markStringS_u {v : Value} {d : DSS} {m : Int} {w : World} {lo hi : Nat} (h : ResS w lo hi v d) (h0 : 0 < m) (h1 : m ≤ 549755813888) :
    Calls Tryz.prog 27 #[v, .int .i64 m] w fun e w' => ∃ m' d', e = .returned (.int .i64 m') ∧ m ≤ m' ∧ m' ≤ m + 8388608 ∧ Only lo hi w w' ∧ ResS w' lo hi v d' ∧ HeldS m d' m' := by
  obtain ⟨⟨A, n, c, rfl, h2, h5, h3⟩, ht⟩ := h
  have hl := h3.len
  obtain ⟨m, rfl⟩ : ∃ k : Nat, m = (k : Int) := ⟨m.toNat, by omega⟩
  refine (markStringS_calls A n c d m w lo hi h3 (by omega) (by omega) (by omega)).mono ?_
  rintro e w' ⟨rfl, hs, ho⟩
  have hg : ∀ i, i < (markU m n d).length → (markU m n d)[i]? = some (mText (m + i)) := fun i hi => by
    rw [markU_len] at hi
    exact markU_get m d n i (by omega) hi
  refine ⟨_, _, rfl, by omega, by omega, ho, ⟨⟨A, n, c, rfl, h2, fun s hs' => ?_, hs⟩, by rw [markU_len]; exact ht⟩, by omega, h1, by rw [markU_len, hl]; omega, fun i hi => by rw [Int.toNat_natCast]; exact hg i hi⟩
  obtain ⟨i, hi⟩ := List.getElem?_of_mem hs'
  have hil := (List.getElem?_eq_some_iff.1 hi).1
  rw [hg i hil] at hi
  obtain rfl := Option.some.inj hi
  have := mText_size (m + i)
  unfold maxLen
  omega
theorem heldStringS_u {v : Value} {d : DSS} {m m' : Int} {w : World} {lo hi : Nat} (h : ResS w lo hi v d) (hh : HeldS m d m') :
    Calls Tryz.prog 28 #[v, .int .i64 m] w fun e w' => e = .returned (.int .i64 m') ∧ Below w.heap.size w w' := by
  obtain ⟨⟨A, n, c, rfl, h2, h5, h3⟩, ht⟩ := h
  obtain ⟨k0, k1, rfl, k2⟩ := hh
  have hl := h3.len
  obtain ⟨m, rfl⟩ : ∃ k : Nat, m = (k : Int) := ⟨m.toNat, by omega⟩
  rw [Int.toNat_natCast] at k2
  refine (heldStringS_calls A n c d m w lo hi h3 (by omega) (by omega) (by omega) (fun i hi => k2 i (by omega))).mono ?_
  rintro e w' ⟨rfl, hb⟩
  exact ⟨by rw [hl]; simp, hb⟩

end Go.Proofs.YtnhomkmfbngmgaaGreatDoor

namespace Go.Proofs.YtnhomkmfbngmgaaGreatDoor
open Go.ChangeShapes Go.WideShapes Go.ChangeAt Go.RowKit Go.Sort
set_option linter.unusedVariables false
set_option linter.unusedSimpArgs false

set_option maxRecDepth 100000 in
set_option maxHeartbeats 3200000 in
theorem same1_calls {W : World} {sA iA sB iB : Int} {la lb : List ByteArray} {ea eb : List Ed} {vsA vsB : List Int} {ba bb : Nat} {VA : Option Addr} {nva kva : Nat} {VB : Option Addr} {nvb kvb : Nat} (ca : W.cell? ⟨ba, 4, none⟩ = some (.slice VA nva kva)) (cb : W.cell? ⟨bb, 4, none⟩ = some (.slice VB nvb kvb))
    (lo hi lo' hi' : Nat) (ta : SlI W lo hi VA nva vsA) (tb : SlI W lo' hi' VB nvb vsB) (hna : (nva : Int) = sA) (hnb : (nvb : Int) = sB) (x y : Int) (hx : x ≤ sA - 1) (hy : y ≤ sB - 1) :
    Calls Tryz.prog 73 (#[.int .i64 x, .int .i64 y] ++ #[.pointer (some ⟨ba, 0, none⟩), .pointer (some ⟨bb, 0, none⟩)]) W fun e w' => e = .returned (.bool (badI ((sA, iA, la, ea), vsA) ((sB, iB, lb, eb), vsB) (x, y))) ∧ Below W.heap.size W w' := by
  by_cases c1 : x < 0
  · have d1 : decide (x < 0) = true := decide_eq_true c1
    have e9 : badI ((sA, iA, la, ea), vsA) ((sB, iB, lb, eb), vsB) (x, y) = true := by unfold badI; simp [c1]
    rw [e9]
    clear e9
    go_enter Tryz.func73, Tryz.ntmps73
    go_upto_region 1 with fail
    go_quiet (fail)
    go_wp2_with fail
    go_ret
    exact ⟨rfl, below_drewN _ _⟩
  · have d1 : decide (x < 0) = false := decide_eq_false c1
    by_cases c2 : y < 0
    · have d2 : decide (y < 0) = true := decide_eq_true c2
      have e9 : badI ((sA, iA, la, ea), vsA) ((sB, iB, lb, eb), vsB) (x, y) = true := by unfold badI; simp [c2]
      rw [e9]
      clear e9
      go_enter Tryz.func73, Tryz.ntmps73
      go_upto_region 1 with fail
      go_quiet (fail)
      go_wp2_with fail
      go_ret
      exact ⟨rfl, below_drewN _ _⟩
    · have d2 : decide (y < 0) = false := decide_eq_false c2
      obtain ⟨xk, rfl⟩ : ∃ k : Nat, x = (k : Int) := ⟨x.toNat, by omega⟩
      obtain ⟨yk, rfl⟩ : ∃ k : Nat, y = (k : Int) := ⟨y.toNat, by omega⟩
      obtain ⟨gv, ov, vx, rfl, -, -, -, gx2, pvx, -⟩ := SlI.get ta (show xk < nva by omega)
      obtain ⟨gu, ou, vy, rfl, -, -, -, gy2, pvy, -⟩ := SlI.get tb (show yk < nvb by omega)
      have e8 : badI ((sA, iA, la, ea), vsA) ((sB, iB, lb, eb), vsB) ((xk : Int), (yk : Int)) = decide (vx ≠ vy) := by
        unfold badI
        rw [verM_at (x := (xk : Int)) (by rw [Int.toNat_natCast]; exact gx2), verM_at (x := (yk : Int)) (by rw [Int.toNat_natCast]; exact gy2)]
        simp only [c1, c2, decide_false, Bool.false_or]
      have i0 : (0 : Int) ≤ (xk : Int) := by omega
      have i1 : (xk : Int) < (nva : Int) := by omega
      have i2 : (0 : Int) ≤ (yk : Int) := by omega
      have i3 : (yk : Int) < (nvb : Int) := by omega
      rw [e8]
      clear e8 hna hnb gx2 gy2 ta tb
      by_cases c3 : vx = vy
      · subst c3
        have d4 : decide (vx = vx) = true := decide_eq_true rfl
        go_enter Tryz.func73, Tryz.ntmps73
        go_upto_region 1 with fail
        go_quiet (fail)
        go_wp2_with fail
        go_ret
        exact ⟨by simp, below_drewN _ _⟩
      · have d4 : decide (vx = vy) = false := decide_eq_false c3
        go_enter Tryz.func73, Tryz.ntmps73
        go_upto_region 1 with fail
        go_quiet (fail)
        go_wp2_with fail
        go_ret
        exact ⟨by simp [c3], below_drewN _ _⟩

theorem resS_nilU (w : World) (lo hi : Nat) : ResS w lo hi (.slice none 0 0) [] := ⟨⟨none, 0, 0, rfl, Nat.zero_le _, fun s h => (by cases h), Sl.nil_⟩, Nat.zero_le _⟩
theorem resS_ofU {w : World} {lo hi : Nat} {A : Option Addr} {n c : Nat} {t : List ByteArray} (h : SlS w lo hi A n t) (hn : t.length ≤ 1681) (hs : ∀ s ∈ t, s.size ≤ 1048576) : ResS w lo hi (.slice A n c) t :=
  ⟨⟨A, n, c, rfl, by have := h.len; unfold maxLen; omega, fun s hm => by have := hs s hm; unfold maxLen; omega, h⟩, by omega⟩
/-- What the labels of a trace are bounded by. -/
theorem sam_sizes {la lb t : List ByteArray} (h1 : totS la ≤ 1048576) (h2 : totS lb ≤ 1048576) (h : ∀ s ∈ t, s = tauB ∨ s ∈ la ∨ s ∈ lb) (s : ByteArray) (hs : s ∈ t) : s.size ≤ 1048576 := by
  rcases h s hs with rfl | h | h
  · decide
  · have h5 : s.size ≤ (la.map (·.size)).sum := mem_sum (List.mem_map.2 ⟨s, h, rfl⟩)
    unfold totS at h1
    omega
  · have h5 : s.size ≤ (lb.map (·.size)).sum := mem_sum (List.mem_map.2 ⟨s, h, rfl⟩)
    unfold totS at h2
    omega

/-- Two monitors in boxes. -/
structure TwoM (w W0 : World) (ba bb : Nat) (sA iA : Int) (A2 : Option Addr) (n2 k2 : Nat) (A3 : Option Addr) (n3 k3 : Nat) (VA : Option Addr) (nva kva : Nat) (sB iB : Int) (B2 : Option Addr) (m2 j2 : Nat) (B3 : Option Addr) (m3 j3 : Nat) (VB : Option Addr) (nvb kvb : Nat) : Prop where
  ka : W0.heap[ba]? = some (.cells #[.int .i64 sA, .int .i64 iA, .slice A2 n2 k2, .slice A3 n3 k3, .slice VA nva kva] 52 (0, 0))
  kb : W0.heap[bb]? = some (.cells #[.int .i64 sB, .int .i64 iB, .slice B2 m2 j2, .slice B3 m3 j3, .slice VB nvb kvb] 52 (0, 0))
  bel : Below w.heap.size w W0
section
variable {w W0 W : World} {ba bb : Nat} {sA iA : Int} {A2 : Option Addr} {n2 k2 : Nat} {A3 : Option Addr} {n3 k3 : Nat} {VA : Option Addr} {nva kva : Nat} {sB iB : Int} {B2 : Option Addr} {m2 j2 : Nat} {B3 : Option Addr} {m3 j3 : Nat} {VB : Option Addr} {nvb kvb : Nat}
theorem TwoM.made (w : World) (sA iA : Int) (A2 : Option Addr) (n2 k2 : Nat) (A3 : Option Addr) (n3 k3 : Nat) (VA : Option Addr) (nva kva : Nat) (sB iB : Int) (B2 : Option Addr) (m2 j2 : Nat) (B3 : Option Addr) (m3 j3 : Nat) (VB : Option Addr) (nvb kvb : Nat) :
    TwoM w ((w.alloc (.cells #[.int .i64 sA, .int .i64 iA, .slice A2 n2 k2, .slice A3 n3 k3, .slice VA nva kva] 52)).alloc (.cells #[.int .i64 sB, .int .i64 iB, .slice B2 m2 j2, .slice B3 m3 j3, .slice VB nvb kvb] 52)) w.heap.size (w.heap.size + 1) sA iA A2 n2 k2 A3 n3 k3 VA nva kva sB iB B2 m2 j2 B3 m3 j3 VB nvb kvb := by
  have z1 : (w.alloc (.cells #[.int .i64 sA, .int .i64 iA, .slice A2 n2 k2, .slice A3 n3 k3, .slice VA nva kva] 52)).heap.size = w.heap.size + 1 := World.size_alloc _ _
  refine ⟨(Below.heap_alloc _ _ _ (by omega)).trans (heap_alloc_new w _), ?_, ((Below.refl _ _).alloc (Nat.le_refl _) _).alloc (by omega) _⟩
  rw [← z1]
  exact heap_alloc_new _ _
theorem TwoM.below (h : TwoM w W0 ba bb sA iA A2 n2 k2 A3 n3 k3 VA nva kva sB iB B2 m2 j2 B3 m3 j3 VB nvb kvb) (hb : Below W0.heap.size W0 W) : TwoM w W ba bb sA iA A2 n2 k2 A3 n3 k3 VA nva kva sB iB B2 m2 j2 B3 m3 j3 VB nvb kvb :=
  ⟨(hb.block ba (Array.getElem?_eq_some_iff.1 h.ka).1).trans h.ka, (hb.block bb (Array.getElem?_eq_some_iff.1 h.kb).1).trans h.kb, h.bel.trans (hb.mono h.bel.size)⟩
theorem TwoM.cells (h : TwoM w W0 ba bb sA iA A2 n2 k2 A3 n3 k3 VA nva kva sB iB B2 m2 j2 B3 m3 j3 VB nvb kvb) : (W0.cell? ⟨ba, 0, none⟩ = some (.int .i64 sA) ∧ W0.cell? ⟨ba, 1, none⟩ = some (.int .i64 iA) ∧ W0.cell? ⟨ba, 2, none⟩ = some (.slice A2 n2 k2) ∧ W0.cell? ⟨ba, 3, none⟩ = some (.slice A3 n3 k3) ∧ W0.cell? ⟨ba, 4, none⟩ = some (.slice VA nva kva)) ∧
    W0.cell? ⟨bb, 0, none⟩ = some (.int .i64 sB) ∧ W0.cell? ⟨bb, 1, none⟩ = some (.int .i64 iB) ∧ W0.cell? ⟨bb, 2, none⟩ = some (.slice B2 m2 j2) ∧ W0.cell? ⟨bb, 3, none⟩ = some (.slice B3 m3 j3) ∧ W0.cell? ⟨bb, 4, none⟩ = some (.slice VB nvb kvb) :=
  ⟨⟨(cell_of_row _ _ 0 _ _ (0, 0) h.ka).trans rfl, (cell_of_row _ _ 1 _ _ (0, 0) h.ka).trans rfl, (cell_of_row _ _ 2 _ _ (0, 0) h.ka).trans rfl, (cell_of_row _ _ 3 _ _ (0, 0) h.ka).trans rfl, (cell_of_row _ _ 4 _ _ (0, 0) h.ka).trans rfl⟩,
    (cell_of_row _ _ 0 _ _ (0, 0) h.kb).trans rfl, (cell_of_row _ _ 1 _ _ (0, 0) h.kb).trans rfl, (cell_of_row _ _ 2 _ _ (0, 0) h.kb).trans rfl, (cell_of_row _ _ 3 _ _ (0, 0) h.kb).trans rfl, (cell_of_row _ _ 4 _ _ (0, 0) h.kb).trans rfl⟩
end

set_option maxRecDepth 100000 in
set_option maxHeartbeats 6400000 in
theorem implSameVerdicts_v {v u : Value} {d0 d1 : DM} {w : World} {lo hi lo' hi' : Nat} (he : Env w) (h : FreshM w lo hi v d0) (hh : hi ≤ w.heap.size) (g : FreshM w lo' hi' u d1) (gh : hi' ≤ w.heap.size) :
    Calls Tryz.prog 23 #[v, u] w fun e w' => ∃ u0, e = .returned (.tuple #[.bool (samB d0 d1), u0, .int .i64 (samC d0 d1)]) ∧ ResS w' w.heap.size w'.heap.size u0 (samS d0 d1) ∧ Below w.heap.size w w' := by
  obtain ⟨⟨⟨s0, s1, v2, v3⟩, v4, rfl, hL, a0⟩, ht⟩ := h
  obtain ⟨⟨⟨r0, r1, u2, u3⟩, u4, rfl, gL, b0⟩, gt⟩ := g
  obtain ⟨VA, nva, kva, rfl, ta⟩ := a0.long
  obtain ⟨VB, nvb, kvb, rfl, tb⟩ := b0.long
  obtain ⟨⟨sA, iA, la, ea⟩, vsA⟩ := d0
  obtain ⟨⟨sB, iB, lb, eb⟩, vsB⟩ := d1
  have hL' := hL
  have gL' := gL
  obtain ⟨e0, e1, ⟨A2, n2, k2, e2, hn2, hs2, t2⟩, ⟨A3, n3, k3, e3, hn3, t3⟩⟩ := hL
  obtain ⟨f0, f1, ⟨B2, m2, j2, f2, hm2, hs2', t2'⟩, ⟨B3, m3, j3, f3, hm3, t3'⟩⟩ := gL
  dsimp only at *
  subst e0 e1 e2 e3 f0 f1 f2 f3
  have hla := ta.len
  have hlb := tb.len
  simp only [totM] at ht gt
  have hT := TwoM.made w s0 s1 A2 n2 k2 A3 n3 k3 VA nva kva r0 r1 B2 m2 j2 B3 m3 j3 VB nvb kvb
  obtain ⟨W0, hW0⟩ : ∃ W0, W0 = ((w.alloc (.cells #[.int .i64 s0, .int .i64 s1, .slice A2 n2 k2, .slice A3 n3 k3, .slice VA nva kva] 52)).alloc (.cells #[.int .i64 r0, .int .i64 r1, .slice B2 m2 j2, .slice B3 m3 j3, .slice VB nvb kvb] 52)) := ⟨_, rfl⟩
  rw [← hW0] at hT
  obtain ⟨ba, hba⟩ : ∃ ba, ba = w.heap.size := ⟨_, rfl⟩
  obtain ⟨bb, hbb⟩ : ∃ bb, bb = w.heap.size + 1 := ⟨_, rfl⟩
  rw [← hbb, ← hba] at hT
  have qa := mon_calls (s0, s1, .slice A2 n2 k2, .slice A3 n3 k3) VA nva kva (s0, s1, la, ea) vsA W0 lo hi (hL'.below hT.bel (.inr (Nat.le_refl _))) (ta.below hT.bel (.inr (Nat.le_refl _))) (by omega) (by omega) (he.below hT.bel (Nat.le_refl _))
  have qb := fun W (hW : Below w.heap.size w W) => mon_calls (r0, r1, .slice B2 m2 j2, .slice B3 m3 j3) VB nvb kvb (r0, r1, lb, eb) vsB W lo' hi' (gL'.below hW (.inr (Nat.le_refl _))) (tb.below hW (.inr (Nat.le_refl _))) (by omega) (by omega) (he.below hW (Nat.le_refl _))
  obtain ⟨⟨x0, x1, x2, x3, x4⟩, y0, y1, y2, y3, y4⟩ := hT.cells
  have hbel := hT.bel
  have t2h := hide t2
  have t3h := hide t3
  have t2h' := hide t2'
  have t3h' := hide t3'
  have tah := hide ta
  have tbh := hide tb
  have hlah : Hid (totS la ≤ 1048576) := by show _ ≤ _; unfold totL at ht; dsimp only at ht; omega
  have hlbh : Hid (totS lb ≤ 1048576) := by show _ ≤ _; unfold totL at gt; dsimp only at gt; omega
  have hzw := hT.bel.size
  replace hT := hide hT
  replace hbel := hide hbel
  clear hL' gL' t2 t3 t2' t3' ta tb a0 b0 ht gt hn2 hs2 hn3 hm2 hs2' hm3 he
  cases hm0 : monV ((s0, s1, la, ea), vsA) with
  | false =>
    rw [hm0] at qa
    replace qa := hide qa
    have hvB : Hid (samB ((s0, s1, la, ea), vsA) ((r0, r1, lb, eb), vsB) = false) := by show _ = _; unfold samB; rw [hm0]; rfl
    have hvS : Hid (samS ((s0, s1, la, ea), vsA) ((r0, r1, lb, eb), vsB) = []) := by show _ = _; unfold samS; rw [hm0]; rfl
    have hvC : Hid (samC ((s0, s1, la, ea), vsA) ((r0, r1, lb, eb), vsB) = 1) := by show _ = _; unfold samC; rw [hm0]; rfl
    rw [hvB.out, hvS.out, hvC.out]
    clear qb hm0 hvB hvS hvC hla hlb
    go_enter Tryz.func23, Tryz.ntmps23
    go_upto_region 1 with fail
    rw [← hbb, ← hba, ← hW0]
    replace hW0 := hide hW0
    replace hba := hide hba
    replace hbb := hide hbb
    go_wp2_with fail
    refine qa.out.mono ?_
    rintro e w1 ⟨rfl, hb⟩
    replace hb := hide hb
    go_wp2_with fail
    go_ret3
    exact ⟨_, rfl, resS_nilU _ _ _, hbel.out.trans (hb.out.mono hzw)⟩
  | true =>
  rw [hm0] at qa
  replace qa := hide qa
  cases hm1 : monV ((r0, r1, lb, eb), vsB) with
  | false =>
    simp only [hm1] at qb
    replace qb := hide qb
    have hvB : Hid (samB ((s0, s1, la, ea), vsA) ((r0, r1, lb, eb), vsB) = false) := by show _ = _; unfold samB; rw [hm0, hm1]; rfl
    have hvS : Hid (samS ((s0, s1, la, ea), vsA) ((r0, r1, lb, eb), vsB) = []) := by show _ = _; unfold samS; rw [hm0, hm1]; rfl
    have hvC : Hid (samC ((s0, s1, la, ea), vsA) ((r0, r1, lb, eb), vsB) = 1) := by show _ = _; unfold samC; rw [hm0, hm1]; rfl
    rw [hvB.out, hvS.out, hvC.out]
    clear hm0 hm1 hvB hvS hvC hla hlb
    go_enter Tryz.func23, Tryz.ntmps23
    go_upto_region 1 with fail
    rw [← hbb, ← hba, ← hW0]
    replace hW0 := hide hW0
    replace hba := hide hba
    replace hbb := hide hbb
    go_wp2_with fail
    refine qa.out.mono ?_
    rintro e w1 ⟨rfl, hb⟩
    have hT1 := hT.out.below hb
    have hb1 := hT1.bel
    obtain ⟨⟨x0, x1, x2, x3, x4⟩, y0, y1, y2, y3, y4⟩ := hT1.cells
    have qb1 := hide (qb.out w1 hb1)
    replace hT1 := hide hT1
    replace hb1 := hide hb1
    clear hb
    go_wp2_with fail
    refine qb1.out.mono ?_
    rintro e w2 ⟨rfl, hb2⟩
    have hbF := hide ((hT1.out.below hb2).bel)
    clear hb2
    go_wp2_with fail
    go_ret3
    exact ⟨_, rfl, resS_nilU _ _ _, hbF.out⟩
  | true =>
  simp only [hm1] at qb
  replace qb := hide qb
  have vla := monV_lts hm0
  have vlb := monV_lts hm1
  have vda := monV_det hm0
  have vdb := monV_det hm1
  have hna := monV_len hm0
  have hnb := monV_len hm1
  dsimp only at hna hnb vla vlb vda vdb
  rw [hla] at hna
  rw [hlb] at hnb
  obtain ⟨r', hr', hgood⟩ := sam_good (vsA := vsA) (vsB := vsB) vla vlb
  have hR := sam_ref (a := ((s0, s1, la, ea), vsA)) (b := ((r0, r1, lb, eb), vsB)) hr'
  have hvB : Hid (samB ((s0, s1, la, ea), vsA) ((r0, r1, lb, eb), vsB) = (samR ((s0, s1, la, ea), vsA) ((r0, r1, lb, eb), vsB)).isNone) := by show _ = _; unfold samB; rw [hm0, hm1]; rfl
  have hvS : Hid (samS ((s0, s1, la, ea), vsA) ((r0, r1, lb, eb), vsB) = (samR ((s0, s1, la, ea), vsA) ((r0, r1, lb, eb), vsB)).getD []) := by show _ = _; unfold samS; rw [hm0, hm1]; rfl
  have hvC : Hid (samC ((s0, s1, la, ea), vsA) ((r0, r1, lb, eb), vsB) = 0) := by show _ = _; unfold samC; rw [hm0, hm1]; rfl
  have himp := hide (fun r hr => sam_imp (a := ((s0, s1, la, ea), vsA)) (b := ((r0, r1, lb, eb), vsB)) (r := r) hm0 hm1 hr hr')
  rw [hR] at hgood
  obtain ⟨RR, hRR⟩ : ∃ RR, RR = samR ((s0, s1, la, ea), vsA) ((r0, r1, lb, eb), vsB) := ⟨_, rfl⟩
  rw [← hRR] at hvB hvS himp hgood
  rw [hvB.out, hvS.out, hvC.out]
  replace hgood := hide hgood
  replace hRR := hide hRR
  replace vda := hide vda
  replace vdb := hide vdb
  replace hna := hide hna
  replace hnb := hide hnb
  clear hm0 hm1 vla vlb hr' hR hvB hvS hvC hla hlb
  go_enter Tryz.func23, Tryz.ntmps23
  go_upto_region 1 with fail
  rw [← hbb, ← hba, ← hW0]
  replace hW0 := hide hW0
  replace hba := hide hba
  replace hbb := hide hbb
  go_wp2_with fail
  refine qa.out.mono ?_
  rintro e w1 ⟨rfl, hb⟩
  have hT1 := hT.out.below hb
  have hb1 := hT1.bel
  obtain ⟨⟨x0, x1, x2, x3, x4⟩, y0, y1, y2, y3, y4⟩ := hT1.cells
  have qb1 := hide (qb.out w1 hb1)
  replace hT1 := hide hT1
  replace hb1 := hide hb1
  clear hb
  go_upto_region 3 with (first | (go_at_call 71; (with_reducible refine qb1.out.mono ?_); rintro e w2 ⟨rfl, hb2⟩; have hT2 := hide (hT1.out.below hb2); clear hb2))
  have hb22 := hT2.out.bel
  obtain ⟨⟨z0, z1, z2, z3, z4⟩, p0, p1, p2, p3, p4⟩ := hT2.out.cells
  have hmore := hb22.size
  have qF := hide (firstTrace_calls (w := w2) (sA := s0) (iA := s1) (sB := r0) (iB := r1) (A2 := A2) (n2 := n2) (k2 := k2) (A3 := A3) (n3 := n3) (k3 := k3) (B2 := B2) (m2 := m2) (j2 := j2) (B3 := B3) (m3 := m3) (j3 := j3)
    ((t2h.out.below hb22 (.inr (Nat.le_refl _))).more (Nat.zero_le _) (Nat.le_trans hh hmore)) ((t3h.out.below hb22 (.inr (Nat.le_refl _))).more (Nat.zero_le _) (Nat.le_trans hh hmore)) vda.out ((t2h'.out.below hb22 (.inr (Nat.le_refl _))).more (Nat.zero_le _) (Nat.le_trans gh hmore)) ((t3h'.out.below hb22 (.inr (Nat.le_refl _))).more (Nat.zero_le _) (Nat.le_trans gh hmore)) vdb.out
    73 #[.pointer (some ⟨ba, 0, none⟩), .pointer (some ⟨bb, 0, none⟩)] (badI ((s0, s1, la, ea), vsA) ((r0, r1, lb, eb), vsB)) (fun v u W => by kernel_rfl) (fun x y W hW hx hy => by
      have hTW := hT2.out.below hW
      obtain ⟨⟨_, _, _, _, q4⟩, _, _, _, _, o4⟩ := hTW.cells
      exact same1_calls q4 o4 _ _ _ _ (tah.out.below hTW.bel (.inr (Nat.le_refl _))) (tbh.out.below hTW.bel (.inr (Nat.le_refl _))) hna.out hnb.out x y hx hy))
  replace hb22 := hide hb22
  clear x0 x1 x2 x3 x4 y0 y1 y2 y3 y4 hmore
  go_upto_region 3 with fail
  go_wp2_with fail
  refine qF.out.mono ?_
  rintro e w3 ⟨r, hrun, hans, hb3⟩
  have hRr := himp.out r hrun
  have hbF := hide (hb22.out.trans (hb3.mono hb22.out.size))
  have hz22 := hb22.out.size
  subst hRr
  clear z0 z1 z2 z3 z4 p0 p1 p2 p3 p4 hrun himp hRR qF hb3
  cases r with
  | none =>
    obtain rfl : e = .returned (.tuple #[.slice none 0 0, .bool false]) := hans
    clear hgood
    go_wp2_with fail
    go_ret3
    exact ⟨_, rfl, resS_nilU _ _ _, hbF.out⟩
  | some t =>
    obtain ⟨A, n, c, rfl, hsl⟩ := hans
    have hg := hgood.out t rfl
    have hRS := hide (resS_ofU (hsl.more (lo' := w.heap.size) hz22 (Nat.le_refl _)) (c := c) hg.1 (sam_sizes hlah.out hlbh.out hg.2))
    clear hgood hg hsl
    go_wp2_with fail
    go_ret3
    exact ⟨_, rfl, hRS.out, hbF.out⟩
set_option maxRecDepth 100000 in
set_option maxHeartbeats 6400000 in
theorem specSameVerdicts_v {v u : Value} {d0 d1 : DM} {w : World} {lo hi lo' hi' : Nat} (he : Env w) (h : FreshM w lo hi v d0) (hh : hi ≤ w.heap.size) (g : FreshM w lo' hi' u d1) (gh : hi' ≤ w.heap.size) :
    Calls Tryz.prog 21 #[v, u] w fun e w' => ∃ u0, e = .returned (.tuple #[.bool (samB d0 d1), u0, .int .i64 (samC d0 d1)]) ∧ ResS w' w.heap.size w'.heap.size u0 (samS d0 d1) ∧ Below w.heap.size w w' := by
  obtain ⟨⟨⟨s0, s1, v2, v3⟩, v4, rfl, hL, a0⟩, ht⟩ := h
  obtain ⟨⟨⟨r0, r1, u2, u3⟩, u4, rfl, gL, b0⟩, gt⟩ := g
  obtain ⟨VA, nva, kva, rfl, ta⟩ := a0.long
  obtain ⟨VB, nvb, kvb, rfl, tb⟩ := b0.long
  obtain ⟨⟨sA, iA, la, ea⟩, vsA⟩ := d0
  obtain ⟨⟨sB, iB, lb, eb⟩, vsB⟩ := d1
  have hL' := hL
  have gL' := gL
  obtain ⟨e0, e1, ⟨A2, n2, k2, e2, hn2, hs2, t2⟩, ⟨A3, n3, k3, e3, hn3, t3⟩⟩ := hL
  obtain ⟨f0, f1, ⟨B2, m2, j2, f2, hm2, hs2', t2'⟩, ⟨B3, m3, j3, f3, hm3, t3'⟩⟩ := gL
  dsimp only at *
  subst e0 e1 e2 e3 f0 f1 f2 f3
  have hla := ta.len
  have hlb := tb.len
  simp only [totM] at ht gt
  have hT := TwoM.made w s0 s1 A2 n2 k2 A3 n3 k3 VA nva kva r0 r1 B2 m2 j2 B3 m3 j3 VB nvb kvb
  obtain ⟨W0, hW0⟩ : ∃ W0, W0 = ((w.alloc (.cells #[.int .i64 s0, .int .i64 s1, .slice A2 n2 k2, .slice A3 n3 k3, .slice VA nva kva] 52)).alloc (.cells #[.int .i64 r0, .int .i64 r1, .slice B2 m2 j2, .slice B3 m3 j3, .slice VB nvb kvb] 52)) := ⟨_, rfl⟩
  rw [← hW0] at hT
  obtain ⟨ba, hba⟩ : ∃ ba, ba = w.heap.size := ⟨_, rfl⟩
  obtain ⟨bb, hbb⟩ : ∃ bb, bb = w.heap.size + 1 := ⟨_, rfl⟩
  rw [← hbb, ← hba] at hT
  have hlta : ba < W0.heap.size := (Array.getElem?_eq_some_iff.1 hT.ka).1
  have hltb : bb < W0.heap.size := (Array.getElem?_eq_some_iff.1 hT.kb).1
  have hzw := hT.bel.size
  have hatA : ∀ W, Below W0.heap.size W0 W → LtsAt W ba (s0, s1, .slice A2 n2 k2, .slice A3 n3 k3) (s0, s1, la, ea) := fun W hW => by
    have hTW := hT.below hW
    obtain ⟨⟨q0, q1, q2, q3, q4⟩, -⟩ := hTW.cells
    exact ⟨(hL'.below hTW.bel (.inr (Nat.le_refl _))).more (Nat.zero_le _) (Nat.le_trans hh hTW.bel.size), by omega, Nat.lt_of_lt_of_le hlta hW.size, q0, q1, q2, q3⟩
  have hatB : ∀ W, Below W0.heap.size W0 W → LtsAt W bb (r0, r1, .slice B2 m2 j2, .slice B3 m3 j3) (r0, r1, lb, eb) := fun W hW => by
    have hTW := hT.below hW
    obtain ⟨-, q0, q1, q2, q3, q4⟩ := hTW.cells
    exact ⟨(gL'.below hTW.bel (.inr (Nat.le_refl _))).more (Nat.zero_le _) (Nat.le_trans gh hTW.bel.size), by omega, Nat.lt_of_lt_of_le hltb hW.size, q0, q1, q2, q3⟩
  have htaW := fun W (hW : Below w.heap.size w W) => (ta.below hW (.inr (Nat.le_refl _))).more (Nat.zero_le _) (Nat.le_trans hh hW.size)
  have htbW := fun W (hW : Below w.heap.size w W) => (tb.below hW (.inr (Nat.le_refl _))).more (Nat.zero_le _) (Nat.le_trans gh hW.size)
  have hcA : ∀ W, Below W0.heap.size W0 W → W.cell? ⟨ba, 4, none⟩ = some (.slice VA nva kva) := fun W hW => (hT.below hW).cells.1.2.2.2.2
  have hcB : ∀ W, Below W0.heap.size W0 W → W.cell? ⟨bb, 4, none⟩ = some (.slice VB nvb kvb) := fun W hW => (hT.below hW).cells.2.2.2.2.2
  have qa := l30Is_calls ba (s0, s1, .slice A2 n2 k2, .slice A3 n3 k3) VA nva kva (s0, s1, la, ea) vsA W0 (hatA W0 (Below.refl _ _)) (hcA W0 (Below.refl _ _)) (by omega) (htaW W0 hT.bel)
  have qb := fun W (hW : Below W0.heap.size W0 W) => l30Is_calls bb (r0, r1, .slice B2 m2 j2, .slice B3 m3 j3) VB nvb kvb (r0, r1, lb, eb) vsB W (hatB W hW) (hcB W hW) (by omega) (htbW W (hT.bel.trans (hW.mono hzw)))
  have hslA := hide (fun W (hW : Below w.heap.size w W) => (t2.below hW (.inr (Nat.le_refl _))).more (Nat.zero_le _) (Nat.le_trans hh hW.size))
  have hslB := hide (fun W (hW : Below w.heap.size w W) => (t2'.below hW (.inr (Nat.le_refl _))).more (Nat.zero_le _) (Nat.le_trans gh hW.size))
  have hbel := hT.bel
  have hlah : Hid (totS la ≤ 1048576) := by show _ ≤ _; unfold totL at ht; dsimp only at ht; omega
  have hlbh : Hid (totS lb ≤ 1048576) := by show _ ≤ _; unfold totL at gt; dsimp only at gt; omega
  replace hT := hide hT
  replace hbel := hide hbel
  replace hatA := hide hatA
  replace hatB := hide hatB
  replace htaW := hide htaW
  replace htbW := hide htbW
  replace hcA := hide hcA
  replace hcB := hide hcB
  clear hL' gL' t2 t3 t2' t3' ta tb a0 b0 ht gt hn2 hs2 hn3 hm2 hs2' hm3 he
  cases hm0 : monV ((s0, s1, la, ea), vsA) with
  | false =>
    rw [hm0] at qa
    replace qa := hide qa
    have hvB : Hid (samB ((s0, s1, la, ea), vsA) ((r0, r1, lb, eb), vsB) = false) := by show _ = _; unfold samB; rw [hm0]; rfl
    have hvS : Hid (samS ((s0, s1, la, ea), vsA) ((r0, r1, lb, eb), vsB) = []) := by show _ = _; unfold samS; rw [hm0]; rfl
    have hvC : Hid (samC ((s0, s1, la, ea), vsA) ((r0, r1, lb, eb), vsB) = 1) := by show _ = _; unfold samC; rw [hm0]; rfl
    rw [hvB.out, hvS.out, hvC.out]
    clear qb hm0 hvB hvS hvC hla hlb
    go_enter Tryz.func21, Tryz.ntmps21
    go_upto_region 1 with fail
    rw [← hbb, ← hba, ← hW0]
    replace hW0 := hide hW0
    replace hba := hide hba
    replace hbb := hide hbb
    go_wp2_with fail
    refine qa.out.mono ?_
    rintro e w1 ⟨rfl, hb⟩
    replace hb := hide hb
    go_wp2_with fail
    go_ret3
    exact ⟨_, rfl, resS_nilU _ _ _, hbel.out.trans (hb.out.mono hzw)⟩
  | true =>
  rw [hm0] at qa
  replace qa := hide qa
  cases hm1 : monV ((r0, r1, lb, eb), vsB) with
  | false =>
    simp only [hm1] at qb
    replace qb := hide qb
    have hvB : Hid (samB ((s0, s1, la, ea), vsA) ((r0, r1, lb, eb), vsB) = false) := by show _ = _; unfold samB; rw [hm0, hm1]; rfl
    have hvS : Hid (samS ((s0, s1, la, ea), vsA) ((r0, r1, lb, eb), vsB) = []) := by show _ = _; unfold samS; rw [hm0, hm1]; rfl
    have hvC : Hid (samC ((s0, s1, la, ea), vsA) ((r0, r1, lb, eb), vsB) = 1) := by show _ = _; unfold samC; rw [hm0, hm1]; rfl
    rw [hvB.out, hvS.out, hvC.out]
    clear hm0 hm1 hvB hvS hvC hla hlb
    go_enter Tryz.func21, Tryz.ntmps21
    go_upto_region 1 with fail
    rw [← hbb, ← hba, ← hW0]
    replace hW0 := hide hW0
    replace hba := hide hba
    replace hbb := hide hbb
    go_wp2_with fail
    refine qa.out.mono ?_
    rintro e w1 ⟨rfl, hb⟩
    have qb1 := hide (qb.out w1 hb)
    have hb1 := hide (hT.out.below hb).bel
    clear hb
    go_wp2_with fail
    refine qb1.out.mono ?_
    rintro e w2 ⟨rfl, hb2⟩
    have hbF := hide (hb1.out.trans (hb2.mono hb1.out.size))
    clear hb2
    go_wp2_with fail
    go_ret3
    exact ⟨_, rfl, resS_nilU _ _ _, hbF.out⟩
  | true =>
  simp only [hm1] at qb
  replace qb := hide qb
  have vla := monV_lts hm0
  have vlb := monV_lts hm1
  dsimp only at vla vlb
  obtain ⟨r', hr', hgood⟩ := sam_good (vsA := vsA) (vsB := vsB) vla vlb
  have hR := sam_ref (a := ((s0, s1, la, ea), vsA)) (b := ((r0, r1, lb, eb), vsB)) hr'
  have hvB : Hid (samB ((s0, s1, la, ea), vsA) ((r0, r1, lb, eb), vsB) = (samR ((s0, s1, la, ea), vsA) ((r0, r1, lb, eb), vsB)).isNone) := by show _ = _; unfold samB; rw [hm0, hm1]; rfl
  have hvS : Hid (samS ((s0, s1, la, ea), vsA) ((r0, r1, lb, eb), vsB) = (samR ((s0, s1, la, ea), vsA) ((r0, r1, lb, eb), vsB)).getD []) := by show _ = _; unfold samS; rw [hm0, hm1]; rfl
  have hvC : Hid (samC ((s0, s1, la, ea), vsA) ((r0, r1, lb, eb), vsB) = 0) := by show _ = _; unfold samC; rw [hm0, hm1]; rfl
  have himp := hide (fun r hr => sam_ref (a := ((s0, s1, la, ea), vsA)) (b := ((r0, r1, lb, eb), vsB)) (r := r) hr)
  rw [hR] at hgood
  have qD := fun W (hW : Below W0.heap.size W0 W) => l30Differ_calls (hatA.out W hW) (hatB.out W hW) (hcA.out W hW) (hcB.out W hW) (htaW.out W (hbel.out.trans (hW.mono hzw))) (htbW.out W (hbel.out.trans (hW.mono hzw))) (hslA.out W (hbel.out.trans (hW.mono hzw))) (hslB.out W (hbel.out.trans (hW.mono hzw))) hm0 hm1
  obtain ⟨RR, hRR⟩ : ∃ RR, RR = samR ((s0, s1, la, ea), vsA) ((r0, r1, lb, eb), vsB) := ⟨_, rfl⟩
  rw [← hRR] at hvB hvS himp hgood
  rw [hvB.out, hvS.out, hvC.out]
  replace hgood := hide hgood
  replace hRR := hide hRR
  replace qD := hide qD
  clear hm0 hm1 vla vlb hr' hR hvB hvS hvC hla hlb
  go_enter Tryz.func21, Tryz.ntmps21
  go_upto_region 1 with fail
  rw [← hbb, ← hba, ← hW0]
  replace hW0 := hide hW0
  replace hba := hide hba
  replace hbb := hide hbb
  go_wp2_with fail
  refine qa.out.mono ?_
  rintro e w1 ⟨rfl, hb⟩
  have qb1 := hide (qb.out w1 hb)
  have hb1 := hide hb
  clear hb
  go_upto_region 3 with (first | (go_at_call 67; (with_reducible refine qb1.out.mono ?_); rintro e w2 ⟨rfl, hb2⟩; have hb22 := hide (hb1.out.trans (hb2.mono hb1.out.size)); clear hb2))
  have qD2 := hide (qD.out w2 hb22.out)
  go_wp2_with fail
  refine qD2.out.mono ?_
  rintro e w3 ⟨r, hrun, hans, hb3⟩
  have hRr := himp.out r hrun
  have hb2w := hbel.out.trans (hb22.out.mono hzw)
  have hbF := hide (hb2w.trans (hb3.mono hb2w.size))
  have hz22 := hb2w.size
  subst hRr
  clear hrun himp hRR qD qD2 hb3 hb2w
  cases r with
  | none =>
    obtain rfl : e = .returned (.tuple #[.slice none 0 0, .bool false]) := hans
    clear hgood
    go_wp2_with fail
    go_ret3
    exact ⟨_, rfl, resS_nilU _ _ _, hbF.out⟩
  | some t =>
    obtain ⟨A, n, c, rfl, hsl⟩ := hans
    have hg := hgood.out t rfl
    have hRS := hide (resS_ofU (hsl.more (lo' := w.heap.size) hz22 (Nat.le_refl _)) (c := c) hg.1 (sam_sizes hlah.out hlbh.out hg.2))
    clear hgood hg hsl
    go_wp2_with fail
    go_ret3
    exact ⟨_, rfl, hRS.out, hbF.out⟩
/-- What SameVerdicts answers. -/
noncomputable def samV (d0 d1 : DM) : Bool × List ByteArray × Int := (samB d0 d1, samS d0 d1, samC d0 d1)
theorem implSameVerdicts_u {v u : Value} {d0 d1 : DM} {w : World} {lo hi lo' hi' : Nat} (he : Env w) (h : FreshM w lo hi v d0) (hh : hi ≤ w.heap.size) (g : FreshM w lo' hi' u d1) (gh : hi' ≤ w.heap.size) :
    Calls Tryz.prog 23 #[v, u] w fun e w' => ∃ u0, e = .returned (.tuple #[.bool (samV d0 d1).1, u0, .int .i64 (samV d0 d1).2.2]) ∧ ResS w' w.heap.size w'.heap.size u0 (samV d0 d1).2.1 ∧ Below w.heap.size w w' := implSameVerdicts_v he h hh g gh
theorem specSameVerdicts_u {v u : Value} {d0 d1 : DM} {w : World} {lo hi lo' hi' : Nat} (he : Env w) (h : FreshM w lo hi v d0) (hh : hi ≤ w.heap.size) (g : FreshM w lo' hi' u d1) (gh : hi' ≤ w.heap.size) :
    Calls Tryz.prog 21 #[v, u] w fun e w' => ∃ u0, e = .returned (.tuple #[.bool (samV d0 d1).1, u0, .int .i64 (samV d0 d1).2.2]) ∧ ResS w' w.heap.size w'.heap.size u0 (samV d0 d1).2.1 ∧ Below w.heap.size w w' := specSameVerdicts_v he h hh g gh
end Go.Proofs.YtnhomkmfbngmgaaGreatDoor

namespace Go.Proofs.YtnhomkmfbngmgaaGreatDoor
open Go.ChangeShapes Go.WideShapes Go.ChangeAt Go.RowKit
set_option linter.unusedVariables false

theorem fact_laid : laidOutB Tryz.pinned.checked.prog = true := by kernel_rfl
theorem fact_maps : mapsRowed Tryz.pinned.checked.prog = true := by kernel_rfl
theorem fact_heard : Tryz.pinned.checked.prog.stopsHeard = true := by kernel_rfl
theorem fact_enter : Tryz.pinned.checked.prog.mayEnter = true := by kernel_rfl
theorem fact_lifts : Tryz.pinned.checked.prog.liftsFinal = Rows.fnLtsRow.lifted := by kernel_rfl
theorem fact_make : Tryz.pinned.checked.prog.make = some Rows.fnLtsRow.make := by kernel_rfl
theorem fact_main : Tryz.pinned.checked.prog.mainIs = some (true, "908aadf79a3911da7d4960582ae04b5fb7cbc5fbb004ba15854af102615e9df1".toList) := by kernel_rfl
theorem fact_looks : true = Tryz.pinned.checked.prog.looks [] := by kernel_rfl
theorem plain_laid : (laidL.filter fun x => x.2.handleName?.isSome) = [] := by kernel_rfl
theorem pre_laid {H : Type} {enc : TypeId × Value → H} {P : Program} {f : Func} {s : OpenSpec} {c : OpenClaim} (hl : c.laid = laidL) :
    c.pre enc P f s = fun w args => (s.pre enc P f c.domain c.apart w args ∧ laidMet P laidL w) ∧ sizedMet enc P f s c.apart w args := by
  obtain ⟨x, r, e⟩ : ∃ x r, laidL = x :: r := ⟨_, _, rfl⟩
  have hp := plain_laid
  funext w args
  unfold OpenClaim.pre OpenClaim.preLaid
  rw [hl]
  rw [e] at hp ⊢
  show ((_ ∧ laidMetH P (x :: r) w) ∧ _) = _
  unfold laidMetH
  rw [hp]

end Go.Proofs.YtnhomkmfbngmgaaGreatDoor
