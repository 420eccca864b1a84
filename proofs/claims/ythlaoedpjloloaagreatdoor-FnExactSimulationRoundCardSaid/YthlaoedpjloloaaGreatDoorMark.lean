/-
  The law's own marks on lists of texts and of edges: writing them, and seeing whether they are held. Conditions: sizes.
-/
import Derived.Test.YthlaoedpjloloaaGreatDoorBaseD
import Derived.Test.YthlaoedpjloloaaGreatDoorMonW
import Derived.Test.YthlaoedpjloloaaGreatDoorBaseC
import Derived.StillTailTactics
import Derived.Deep.LoopGhost
import Derived.Laws.BytesArg
namespace Go.Proofs.YthlaoedpjloloaaGreatDoor
open Go.ChangeShapes Go.WideShapes Go.ChangeAt Go.RowKit
set_option linter.unusedVariables false
set_option linter.unusedSimpArgs false

/-! ## The text of a number -/
def mtG : Nat → Nat → ByteArray → ByteArray
  | 0, _, out => out
  | f + 1, k, out => if k = 0 then out else mtG f (k / 10) (strOfNums [48 + (k : Int) % 10] ++ out)
/-- "m" ahead of the digits. -/
def mText (k : Nat) : ByteArray := (⟨#[109]⟩ : ByteArray) ++ mtG 41 k ⟨#[]⟩
theorem strOne (n : Int) : (strOfNums [n]).size = 1 := rfl
theorem mtG_step {f k : Nat} (h : 0 < k) (out : ByteArray) : mtG (f + 1) k out = mtG f (k / 10) (strOfNums [48 + (k : Int) % 10] ++ out) := by
  conv => lhs; unfold mtG
  rw [if_neg (by omega)]
theorem mtG_zero (f : Nat) (out : ByteArray) : mtG f 0 out = out := by
  cases f with
  | zero => rfl
  | succ f => unfold mtG; rw [if_pos rfl]
theorem mtG_size : ∀ (f k : Nat) (out : ByteArray), (mtG f k out).size ≤ f + out.size
  | 0, _, out => by unfold mtG; omega
  | f + 1, k, out => by
    unfold mtG
    split
    · omega
    · refine Nat.le_trans (mtG_size f _ _) ?_
      rw [ByteArray.size_append, strOne]
      omega
theorem mText_size (k : Nat) : (mText k).size ≤ 42 := by
  unfold mText
  rw [ByteArray.size_append]
  have h1 := mtG_size 41 k ⟨#[]⟩
  have h2 : (⟨#[]⟩ : ByteArray).size = 0 := rfl
  have h3 : (⟨#[109]⟩ : ByteArray).size = 1 := rfl
  omega
theorem conv_one (W : World) (n : Int) : (convert 122 9 (.slice (some ⟨W.heap.size, 0, none⟩) 1 1)).run Tryz.prog (W.alloc (.cells #[.int .u8 n] 5)) = .ok (.string (strOfNums [n])) (W.alloc (.cells #[.int .u8 n] 5)) :=
  run_convert_bytes_arg _ 122 5 Tryz.underlying122 Tryz.underlying5 W.heap.size 0 1 1 [n] rfl (fun i hi => by
    have : i = 0 := by omega
    subst this
    exact (cell_of_row _ _ 0 _ _ (0, 0) (heap_alloc_new W _)).trans rfl) 9 Tryz.underlying9

set_option maxRecDepth 100000 in
set_option maxHeartbeats 800000 in
theorem markText_calls (k : Nat) (hk0 : 0 < k) (hk : k ≤ 1099511627776) (w : World) : Calls Tryz.prog 56 #[.int .i64 (k : Int)] w fun e w' => e = .returned (.string (mText k)) ∧ Below w.heap.size w w' := by
  have hcv := conv_one
  have hkI : (0 : Int) < (k : Int) := by omega
  have hle : ¬ ((k : Int) ≤ 0) := by omega
  go_enter Tryz.func56, Tryz.ntmps56
  go_wp2
  go_loopg [0, 3] 41 (fun N a s wr => ∃ (j : Nat) (out : ByteArray), a = .int .i64 (j : Nat) ∧ s = .string out ∧ j ≤ 1099511627776 ∧ Hid (j < 10 ^ N) ∧ out.size + N ≤ 41 ∧ Hid (mtG N j out = mtG 41 k ⟨#[]⟩) ∧ Below w.heap.size w wr)
  case atStart => exact ⟨k, ⟨#[]⟩, rfl, rfl, hk, by show _ < _; omega, by show 0 + 41 ≤ 41; omega, rfl, Below.refl _ _⟩
  case round =>
    obtain ⟨j, out, rfl, rfl, hj, hp, hs, hm, hb⟩ := hrel
    by_cases hj0 : 0 < j
    · obtain ⟨G, rfl⟩ : ∃ G, gk = G + 1 := ⟨gk - 1, by
        rcases Nat.eq_zero_or_pos gk with h | h
        · have := hp.out
          rw [h] at this
          simp at this
          omega
        · omega⟩
      have hm2 := hide ((mtG_step hj0 out).symm.trans hm.out)
      have hp2 : Hid (j / 10 < 10 ^ G) := by
        have := hp.out
        rw [Nat.pow_succ] at this
        show _ < _
        omega
      have hjI : (0 : Int) < (j : Int) := by omega
      have hz := hb.size
      clear hm hp
      have hadd : ∀ W, (Op.stringOp .add (strOfNums [48 + (j : Int) % 10]) out).run Tryz.prog W = .ok (.string (strOfNums [48 + (j : Int) % 10] ++ out)) W := fun W => run_string_add_sum W _ _ (by rw [strOne]; omega)
      go_wp2
      go_roundg G
      case measure => omega
      case rel => exact ⟨j / 10, _, by go_num, rfl, by omega, hp2, by rw [ByteArray.size_append, strOne]; omega, hm2, hb.alloc hz _⟩
    · have h0 : j = 0 := by omega
      subst h0
      have hmz := hm.out
      rw [mtG_zero] at hmz
      have hv : Hid (mText k = (⟨#[109]⟩ : ByteArray) ++ out) := by show _ = _; unfold mText; rw [← hmz]
      have hs1 : (⟨#[109]⟩ : ByteArray).size = 1 := rfl
      have hadd : ∀ W, (Op.stringOp .add (⟨#[109]⟩ : ByteArray) out).run Tryz.prog W = .ok (.string ((⟨#[109]⟩ : ByteArray) ++ out)) W := fun W => run_string_add_sum W _ _ (by rw [hs1]; omega)
      clear hm hp hmz
      go_wp2
      go_ret
      exact ⟨by rw [hv.out]; rfl, hb⟩

/-! ## What may be written stays so -/
def Kept (w w' : World) : Prop := ∀ b o, (w.cell? ⟨b, o, none⟩).isSome = true → (w'.cell? ⟨b, o, none⟩).isSome = true ∧ w'.frozen? ⟨b, o, none⟩ = w.frozen? ⟨b, o, none⟩
structure OnlyK (lo hi : Nat) (w w' : World) : Prop where
  only : Only lo hi w w'
  kept : Kept w w'
/-- A slice value whose cells are there and may be written. -/
def WrS (size : Nat) (w : World) (lo hi : Nat) (A : Option Addr) (n : Nat) : Prop := 0 < n → ∃ b off, A = some ⟨b, off, none⟩ ∧ lo ≤ b ∧ b < hi ∧ b < w.heap.size ∧ ∀ i, i < n * size → (w.cell? ⟨b, off + i, none⟩).isSome = true ∧ w.frozen? ⟨b, off + i, none⟩ = false
theorem Only.wide {lo hi lo' hi' : Nat} {w w' : World} (h : Only lo hi w w') (h1 : lo' ≤ lo) (h2 : hi ≤ hi') : Only lo' hi' w w' :=
  ⟨h.os, h.tape, h.output, h.size, fun b hb ho => h.block b hb (by omega)⟩
section
variable {lo hi : Nat} {a w w' : World}
theorem OnlyK.refl (lo hi : Nat) (w : World) : OnlyK lo hi w w := ⟨Only.refl _ _ _, fun _ _ h => ⟨h, rfl⟩⟩
theorem OnlyK.trans (h : OnlyK lo hi a w) (g : OnlyK lo hi w w') : OnlyK lo hi a w' :=
  ⟨h.only.trans g.only, fun b o hs => by
    obtain ⟨h1, h2⟩ := h.kept b o hs
    obtain ⟨g1, g2⟩ := g.kept b o h1
    exact ⟨g1, g2.trans h2⟩⟩
theorem OnlyK.below (h : Below w.heap.size w w') : OnlyK lo hi w w' := by
  refine ⟨⟨h.os, h.tape, h.output, h.size, fun b hb _ => h.block b hb⟩, fun b o hs => ?_⟩
  have hlt : b < w.heap.size := by
    unfold World.cell? at hs
    cases hb : w.heap[b]? with
    | none => rw [hb] at hs; cases hs
    | some x => exact (Array.getElem?_eq_some_iff.1 hb).1
  have hb := h.block b hlt
  have e1 : w'.cell? ⟨b, o, none⟩ = w.cell? ⟨b, o, none⟩ := World.cell?_of_block (w := w) (by simpa using hb)
  have e2 : w'.frozen? ⟨b, o, none⟩ = w.frozen? ⟨b, o, none⟩ := World.frozen?_of_block (w := w) (by simpa using hb)
  exact ⟨by rw [e1]; exact hs, e2⟩
theorem OnlyK.set {b o : Nat} (h1 : lo ≤ b) (h2 : b < hi) (v : Value) : OnlyK lo hi w (w.setCell ⟨b, o, none⟩ v) := by
  refine ⟨(Only.refl lo hi w).setCell (p := ⟨b, o, none⟩) h1 h2 v, fun b' o' hs => ⟨?_, World.frozen?_setCell ..⟩⟩
  obtain ⟨u, hu⟩ := Option.isSome_iff_exists.1 hs
  by_cases e : (⟨b, o, none⟩ : Addr) = ⟨b', o', none⟩
  · rw [← e] at hu ⊢
    rw [World.cell?_setCell_same w _ v hu]
    rfl
  · rw [World.cell?_setCell_other w _ _ v e, hu]
    rfl
theorem OnlyK.setCell {b o : Nat} (h : OnlyK lo hi a w) (h1 : lo ≤ b) (h2 : b < hi) (v : Value) : OnlyK lo hi a (w.setCell ⟨b, o, none⟩ v) := h.trans (OnlyK.set h1 h2 v)
theorem WrS.kept {size n : Nat} {A : Option Addr} (h : WrS size w lo hi A n) (g : Kept w w') (hs : w.heap.size ≤ w'.heap.size) : WrS size w' lo hi A n := fun hn => by
  obtain ⟨b, off, e, g1, g2, g3, hc⟩ := h hn
  refine ⟨b, off, e, g1, g2, by omega, fun i hi => ?_⟩
  obtain ⟨c1, c2⟩ := hc i hi
  obtain ⟨k1, k2⟩ := g b _ c1
  exact ⟨k1, k2.trans c2⟩
theorem WrS.of {α : Type} {size n : Nat} {f : α → List Value} {A : Option Addr} {l : List α} (h : Sl size f w lo hi A n l) (hf : Flat f size) : WrS size w lo hi A n := fun hn => by
  obtain ⟨b, off, e, g1, g2, g3, hc⟩ := h.at_ hn
  refine ⟨b, off, e, g1, g2, g3, fun i hi => ?_⟩
  have hs : 0 < size := by rcases Nat.eq_zero_or_pos size with h0 | h0; (subst h0; simp at hi); exact h0
  have hk : i / size < l.length := by rw [h.len]; exact (Nat.div_lt_iff_lt_mul hs).2 hi
  have hj : i % size < (f (l[i / size]'hk)).length := by rw [hf.1]; exact Nat.mod_lt _ hs
  obtain ⟨c1, c2⟩ := hc (i / size) _ (List.getElem?_eq_getElem hk) (i % size) _ (List.getElem?_eq_getElem hj)
  rw [Nat.mul_comm (i / size) size, Nat.div_add_mod] at c1 c2
  exact ⟨by rw [c1]; rfl, c2⟩
end

set_option maxRecDepth 100000 in
theorem markStringS_wr (A : Option Addr) (n c : Nat) (m : Nat) (w : World) (lo hi : Nat) (h : WrS 1 w lo hi A n) (hn : n ≤ 1048576) (h0 : 0 < m) (h1 : m ≤ 549755813888) :
    Calls Tryz.prog 25 #[.slice A n c, .int .i64 (m : Int)] w fun e w' => e = .returned (.int .i64 ((m + n : Nat) : Int)) ∧ OnlyK lo hi w w' := by
  replace h := hide h
  go_enter Tryz.func25, Tryz.ntmps25
  go_wp2
  go_loopw [1, 5] (fun s i wr => ∃ k : Nat, k ≤ n ∧ i = .int .i64 k ∧ s = .int .i64 ((m + k : Nat) : Int) ∧ OnlyK lo hi w wr) (fun _ i _ => n - (intOf i).toNat)
  case atStart => exact ⟨0, Nat.zero_le _, rfl, rfl, OnlyK.refl _ _ _⟩
  case round =>
    obtain ⟨k, hk, rfl, rfl, ho⟩ := hrel
    by_cases hlt : k < n
    · have q := hide (markText_calls (m + k) (by omega) (by omega) wr)
      have hW := h.out.kept ho.kept ho.only.size
      obtain ⟨b, off, rfl, g1, g2, -, hc⟩ := hW (by omega)
      obtain ⟨h8, h9⟩ := hc k (by omega)
      replace ho := hide ho
      clear h hW hc
      go_wp2_with fail
      refine q.out.mono ?_
      rintro e w1 ⟨rfl, hb1⟩
      have hk1 := OnlyK.below (lo := lo) (hi := hi) hb1
      obtain ⟨k1, k2⟩ := hk1.kept b (off + k) h8
      rw [h9] at k2
      obtain ⟨v, hv⟩ := Option.isSome_iff_exists.1 k1
      have ho2 := hide (ho.out.trans hk1)
      clear h8 h9 k1 hk1 hb1
      go_wp2_with fail
      go_roundw
      case rel => exact ⟨k + 1, by omega, by go_num, by go_num, ho2.out.setCell g1 g2 _⟩
      case measure => simp [intOf]; omega
    · have hkn : k = n := by omega
      subst hkn
      clear h
      replace ho := hide ho
      go_wp2
      go_ret
      exact ⟨rfl, ho.out⟩

set_option maxRecDepth 100000 in
theorem markInt64S_wr (A : Option Addr) (n c : Nat) (m : Nat) (w : World) (lo hi : Nat) (h : WrS 1 w lo hi A n) (hn : n ≤ 1048576) (h0 : 0 < m) (h1 : m ≤ 549764202496) :
    Calls Tryz.prog 36 #[.slice A n c, .int .i64 (m : Int)] w fun e w' => e = .returned (.int .i64 ((m + n : Nat) : Int)) ∧ OnlyK lo hi w w' := by
  replace h := hide h
  go_enter Tryz.func36, Tryz.ntmps36
  go_wp2
  go_loopw [1, 5] (fun s i wr => ∃ k : Nat, k ≤ n ∧ i = .int .i64 k ∧ s = .int .i64 ((m + k : Nat) : Int) ∧ OnlyK lo hi w wr) (fun _ i _ => n - (intOf i).toNat)
  case atStart => exact ⟨0, Nat.zero_le _, rfl, rfl, OnlyK.refl _ _ _⟩
  case round =>
    obtain ⟨k, hk, rfl, rfl, ho⟩ := hrel
    by_cases hlt : k < n
    · have hW := h.out.kept ho.kept ho.only.size
      obtain ⟨b, off, rfl, g1, g2, -, hc⟩ := hW (by omega)
      obtain ⟨h8, h9⟩ := hc k (by omega)
      obtain ⟨v, hv⟩ := Option.isSome_iff_exists.1 h8
      replace ho := hide ho
      clear h hW hc h8
      go_wp2
      go_roundw
      case rel => exact ⟨k + 1, by omega, by go_num, by go_num, ho.out.setCell g1 g2 _⟩
      case measure => simp [intOf]; omega
    · have hkn : k = n := by omega
      subst hkn
      clear h
      replace ho := hide ho
      go_wp2
      go_ret
      exact ⟨rfl, ho.out⟩

set_option maxRecDepth 100000 in
set_option maxHeartbeats 800000 in
theorem markEdgeS_wr (A : Option Addr) (n c : Nat) (m : Nat) (w : World) (lo hi : Nat) (h : WrS 3 w lo hi A n) (hn : n ≤ 1048576) (h0 : 0 < m) (h1 : m ≤ 549764202496) :
    Calls Tryz.prog 31 #[.slice A n c, .int .i64 (m : Int)] w fun e w' => e = .returned (.int .i64 ((m + 3 * n : Nat) : Int)) ∧ OnlyK lo hi w w' := by
  replace h := hide h
  go_enter Tryz.func31, Tryz.ntmps31
  go_wp2
  go_loopw [1, 5] (fun s i wr => ∃ k : Nat, k ≤ n ∧ i = .int .i64 k ∧ s = .int .i64 ((m + 3 * k : Nat) : Int) ∧ OnlyK lo hi w wr) (fun _ i _ => n - (intOf i).toNat)
  case atStart => exact ⟨0, Nat.zero_le _, rfl, rfl, OnlyK.refl _ _ _⟩
  case round =>
    obtain ⟨k, hk, rfl, rfl, ho⟩ := hrel
    by_cases hlt : k < n
    · have hW := h.out.kept ho.kept ho.only.size
      obtain ⟨b, off, rfl, g1, g2, -, hc⟩ := hW (by omega)
      obtain ⟨h8, h9⟩ := hc (k * 3) (by omega)
      obtain ⟨i8, i9⟩ := hc (k * 3 + 1) (by omega)
      obtain ⟨j8, j9⟩ := hc (k * 3 + 2) (by omega)
      rw [← Nat.add_assoc] at i8 i9 j8 j9
      obtain ⟨v, hv⟩ := Option.isSome_iff_exists.1 h8
      obtain ⟨u, hu⟩ := Option.isSome_iff_exists.1 i8
      obtain ⟨t, ht⟩ := Option.isSome_iff_exists.1 j8
      replace ho := hide ho
      clear h hW hc h8 i8 j8
      go_wp2
      go_roundw
      case rel => exact ⟨k + 1, by omega, by go_num, by go_num, ((ho.out.setCell g1 g2 _).setCell g1 g2 _).setCell g1 g2 _⟩
      case measure => simp [intOf]; omega
    · have hkn : k = n := by omega
      subst hkn
      clear h
      replace ho := hide ho
      go_wp2
      go_ret
      exact ⟨rfl, ho.out⟩

/-- A system that may be written. -/
structure WrL (w : World) (lo hi : Nat) (v2 v3 : Value) (n2 n3 : Nat) : Prop where
  lab : ∃ A c, v2 = .slice A n2 c ∧ WrS 1 w lo hi A n2
  edg : ∃ A c, v3 = .slice A n3 c ∧ WrS 3 w lo hi A n3
theorem WrL.kept {w w' : World} {lo hi n2 n3 : Nat} {v2 v3 : Value} (h : WrL w lo hi v2 v3 n2 n3) (g : Kept w w') (hs : w.heap.size ≤ w'.heap.size) : WrL w' lo hi v2 v3 n2 n3 := by
  obtain ⟨A, c, e, h1⟩ := h.lab
  obtain ⟨B, d, e', h2⟩ := h.edg
  exact ⟨⟨A, c, e, h1.kept g hs⟩, ⟨B, d, e', h2.kept g hs⟩⟩
theorem WrL.of {w : World} {lo hi : Nat} {x : CL} {d : DL} (h : ReadL w lo hi x d) : WrL w lo hi x.2.2.1 x.2.2.2 d.2.2.1.length d.2.2.2.length := by
  obtain ⟨-, -, ⟨A2, n2, k2, e2, hn2, hs2, t2⟩, ⟨A3, n3, k3, e3, hn3, t3⟩⟩ := h
  rw [t2.len, t3.len]
  exact ⟨⟨A2, k2, e2, WrS.of t2 flat_strv⟩, ⟨A3, k3, e3, WrS.of t3 flat_ev⟩⟩

set_option maxRecDepth 100000 in
theorem markLts_wr (s0 s1 : Int) (v2 v3 : Value) (n2 n3 : Nat) (m : Nat) (w : World) (lo hi : Nat) (h : WrL w lo hi v2 v3 n2 n3) (hn2 : n2 ≤ 1048576) (hn3 : n3 ≤ 1048576) (hh : hi ≤ w.heap.size) (h0 : 0 < m) (h1 : m ≤ 549755813888) :
    Calls Tryz.prog 30 #[.agg #[.int .i64 s0, .int .i64 s1, v2, v3], .int .i64 (m : Int)] w fun e w' => e = .returned (.int .i64 ((m + n2 + 3 * n3 : Nat) : Int)) ∧ OnlyK lo hi w w' := by
  obtain ⟨A2, k2, rfl, -⟩ := h.lab
  obtain ⟨A3, k3, rfl, -⟩ := h.edg
  have hb0 : Below w.heap.size w (w.alloc (.cells #[.int .i64 s0, .int .i64 s1, .slice A2 n2 k2, .slice A3 n3 k3] 31)) := (Below.refl _ _).alloc (Nat.le_refl _) _
  have kE := heap_alloc_new w (.cells #[.int .i64 s0, .int .i64 s1, .slice A2 n2 k2, .slice A3 n3 k3] 31)
  have hz : w.heap.size < (w.alloc (.cells #[.int .i64 s0, .int .i64 s1, .slice A2 n2 k2, .slice A3 n3 k3] 31)).heap.size := by rw [World.size_alloc]; omega
  have hk0 := OnlyK.below (lo := lo) (hi := hi) hb0
  have hL := h.kept hk0.kept hk0.only.size
  obtain ⟨B2, d2, e2, w2⟩ := hL.lab
  cases e2
  have q := hide (markStringS_wr A2 n2 k2 m _ lo hi w2 hn2 h0 h1)
  have c2 : (w.alloc (.cells #[.int .i64 s0, .int .i64 s1, .slice A2 n2 k2, .slice A3 n3 k3] 31)).cell? ⟨w.heap.size, 2, none⟩ = some (.slice A2 n2 k2) := (cell_of_row _ _ 2 _ _ (0, 0) kE).trans rfl
  replace hk0 := hide hk0
  replace hL := hide hL
  replace kE := hide kE
  clear h w2 hb0
  go_enter Tryz.func30, Tryz.ntmps30
  go_wp2_with fail
  refine q.out.mono ?_
  rintro e w1 ⟨rfl, hk1⟩
  have kF := (hk1.only.block _ hz (.inr hh)).trans kE.out
  have c3 : w1.cell? ⟨w.heap.size, 3, none⟩ = some (.slice A3 n3 k3) := (cell_of_row _ _ 3 _ _ (0, 0) kF).trans rfl
  have hL1 := hL.out.kept hk1.kept hk1.only.size
  obtain ⟨B3, d3, e3, w3⟩ := hL1.edg
  cases e3
  have q2 := hide (markEdgeS_wr A3 n3 k3 (m + n2) w1 lo hi w3 hn3 (by omega) (by omega))
  have hk01 := hide (hk0.out.trans hk1)
  clear hL hL1 w3 hk1 hk0 kF kE q c2
  go_wp2_with fail
  refine q2.out.mono ?_
  rintro e w2 ⟨rfl, hk2⟩
  have hk02 := hide (hk01.out.trans hk2)
  clear hk2 c3
  go_wp2_with fail
  go_ret
  exact ⟨rfl, hk02.out⟩

theorem wr_total {d : DL} (h : totL d ≤ 1048576) : d.2.2.1.length ≤ 1048576 ∧ d.2.2.2.length ≤ 1048576 := ⟨Nat.le_trans (totL_lab d) h, Nat.le_trans (totL_edg d) h⟩

set_option maxRecDepth 100000 in
theorem markMonitor_u {v : Value} {d : DM} {m : Int} {w : World} {lo hi : Nat} (h : FreshM w lo hi v d) (hh : hi ≤ w.heap.size) (h0 : 0 < m) (h1 : m ≤ 549747425280) :
    Calls Tryz.prog 24 #[v, .int .i64 m] w fun e w' => ∃ m', e = .returned (.int .i64 m') ∧ m ≤ m' ∧ m' ≤ m + 8388608 ∧ Only lo hi w w' := by
  obtain ⟨⟨⟨s0, s1, v2, v3⟩, v4, rfl, hL, a0⟩, ht⟩ := h
  obtain ⟨A4, n4, k4, rfl, t4⟩ := a0.long
  obtain ⟨dl, vs⟩ := d
  simp only [totM] at ht
  have l4 := t4.len
  dsimp only at l4
  obtain ⟨hn2, hn3⟩ := wr_total (show totL dl ≤ 1048576 by omega)
  have hn4 : n4 ≤ 1048576 := by omega
  have hW := WrL.of hL
  have hW4 := WrS.of t4 flat_iv
  dsimp only at *
  generalize dl.2.2.1.length = n2 at *
  generalize dl.2.2.2.length = n3 at *
  obtain ⟨m, rfl⟩ : ∃ k : Nat, m = (k : Int) := ⟨m.toNat, by omega⟩
  have hb0 : Below w.heap.size w (w.alloc (.cells #[.int .i64 s0, .int .i64 s1, v2, v3, .slice A4 n4 k4] 44)) := (Below.refl _ _).alloc (Nat.le_refl _) _
  have kE := heap_alloc_new w (.cells #[.int .i64 s0, .int .i64 s1, v2, v3, .slice A4 n4 k4] 44)
  have hz : w.heap.size < (w.alloc (.cells #[.int .i64 s0, .int .i64 s1, v2, v3, .slice A4 n4 k4] 44)).heap.size := by rw [World.size_alloc]; omega
  have hk0 := OnlyK.below (lo := lo) (hi := hi) hb0
  have q := hide (markLts_wr s0 s1 v2 v3 n2 n3 m _ lo hi (hW.kept hk0.kept hk0.only.size) hn2 hn3 (by omega) (by omega) (by omega))
  replace hW4 := hide (hW4.kept hk0.kept hk0.only.size)
  obtain ⟨A2, k2, rfl, -⟩ := hW.lab
  obtain ⟨A3, k3, rfl, -⟩ := hW.edg
  replace hk0 := hide hk0
  replace kE := hide kE
  have c0 : (w.alloc (.cells #[.int .i64 s0, .int .i64 s1, .slice A2 n2 k2, .slice A3 n3 k3, .slice A4 n4 k4] 44)).cell? ⟨w.heap.size, 0, none⟩ = some (.int .i64 s0) := (cell_of_row _ _ 0 _ _ (0, 0) kE.out).trans rfl
  have c1 : (w.alloc (.cells #[.int .i64 s0, .int .i64 s1, .slice A2 n2 k2, .slice A3 n3 k3, .slice A4 n4 k4] 44)).cell? ⟨w.heap.size, 1, none⟩ = some (.int .i64 s1) := (cell_of_row _ _ 1 _ _ (0, 0) kE.out).trans rfl
  have c2 : (w.alloc (.cells #[.int .i64 s0, .int .i64 s1, .slice A2 n2 k2, .slice A3 n3 k3, .slice A4 n4 k4] 44)).cell? ⟨w.heap.size, 2, none⟩ = some (.slice A2 n2 k2) := (cell_of_row _ _ 2 _ _ (0, 0) kE.out).trans rfl
  have c3 : (w.alloc (.cells #[.int .i64 s0, .int .i64 s1, .slice A2 n2 k2, .slice A3 n3 k3, .slice A4 n4 k4] 44)).cell? ⟨w.heap.size, 3, none⟩ = some (.slice A3 n3 k3) := (cell_of_row _ _ 3 _ _ (0, 0) kE.out).trans rfl
  clear hL a0 t4 hW hb0 ht l4
  go_enter Tryz.func24, Tryz.ntmps24
  go_wp2_with fail
  refine q.out.mono ?_
  rintro e w1 ⟨rfl, hk1⟩
  have kF := (hk1.only.block _ hz (.inr hh)).trans kE.out
  clear c0 c1 c2 c3
  have c4 : w1.cell? ⟨w.heap.size, 4, none⟩ = some (.slice A4 n4 k4) := (cell_of_row _ _ 4 _ _ (0, 0) kF).trans rfl
  have q2 := hide (markInt64S_wr A4 n4 k4 (m + n2 + 3 * n3) w1 lo hi (hW4.out.kept hk1.kept hk1.only.size) hn4 (by omega) (by omega))
  have hk01 := hide (hk0.out.trans hk1)
  clear hk1 hk0 kF kE q hW4
  go_wp2_with fail
  refine q2.out.mono ?_
  rintro e w2 ⟨rfl, hk2⟩
  have hk02 := hide (hk01.out.trans hk2)
  clear hk2 c4
  go_wp2_with fail
  go_ret
  exact ⟨_, rfl, by omega, by omega, hk02.out.only⟩

theorem ArgM.only {w w' : World} {lo hi lo' hi' : Nat} {v : Value} {d : DM} (h : ArgM w lo hi v d) (g : Only lo' hi' w w') (hd : hi ≤ lo' ∨ hi' ≤ lo) : ArgM w' lo hi v d := by
  obtain ⟨x, v4, e, h1, a0⟩ := h
  exact ⟨x, v4, e, h1.only g hd, a0.only g hd⟩
theorem FreshM.only {w w' : World} {lo hi lo' hi' : Nat} {v : Value} {d : DM} (h : FreshM w lo hi v d) (g : Only lo' hi' w w') (hd : hi ≤ lo' ∨ hi' ≤ lo) : FreshM w' lo hi v d := ⟨h.1.only g hd, h.2⟩
theorem markStringSA_u {v : Value} {d : DSS} {m : Int} {w : World} {lo hi : Nat} (h : FreshSS w lo hi v d) (hh : hi ≤ w.heap.size) (h0 : 0 < m) (h1 : m ≤ 549747425280) :
    Calls Tryz.prog 25 #[v, .int .i64 m] w fun e w' => ∃ m', e = .returned (.int .i64 m') ∧ m ≤ m' ∧ m' ≤ m + 8388608 ∧ Only lo hi w w' := by
  obtain ⟨⟨A, n, c, rfl, h2, -, h3⟩, ht⟩ := h
  have hl := h3.len
  have hn : n ≤ 1048576 := by rw [← hl]; exact Nat.le_trans totS_length ht
  obtain ⟨m, rfl⟩ : ∃ k : Nat, m = (k : Int) := ⟨m.toNat, by omega⟩
  refine (markStringS_wr A n c m w lo hi (WrS.of h3 flat_strv) hn (by omega) (by omega)).mono ?_
  rintro e w' ⟨rfl, ho⟩
  exact ⟨_, rfl, by omega, by omega, ho.only⟩

end Go.Proofs.YthlaoedpjloloaaGreatDoor
