/-
  The law FnExactEntryRound returns true for every input. Conditions: none.
-/
import Derived.Test.YtanlgnjgpbjebaaGreatDoorBaseA
import Derived.Test.YtanlgnjgpbjebaaGreatDoorBaseB
import Derived.Test.YtanlgnjgpbjebaaGreatDoorBaseC
import Derived.Test.YtanlgnjgpbjebaaGreatDoorBaseD
import Derived.Test.YtanlgnjgpbjebaaGreatDoorBaseE
import Derived.Test.YtanlgnjgpbjebaaGreatDoorBaseF
import Derived.Test.YtanlgnjgpbjebaaGreatDoorBaseG
import Derived.Test.YtanlgnjgpbjebaaGreatDoorBaseH
import Derived.Test.YtanlgnjgpbjebaaGreatDoorBaseI
import Derived.Test.YtanlgnjgpbjebaaGreatDoorBaseJ
import Derived.Test.YtanlgnjgpbjebaaGreatDoorBaseK
import Derived.Test.YtanlgnjgpbjebaaGreatDoorBaseL
import Derived.Test.YtanlgnjgpbjebaaGreatDoorBaseM
import Derived.Test.YtanlgnjgpbjebaaGreatDoorBaseVE
import Derived.Deep.DeepCutAuto
import Derived.Deep.RegionLaw
import Derived.Outline
import Derived.StillTailTactics
import Derived.Test.YtanlgnjgpbjebaaGreatDoorRows
import Derived.LoopTactic
import Derived.LaidMore
import Derived.LaidLaws
import Derived.HandedShaped
import Derived.Stop.LaidErr
import Derived.Lib.LaidTab
import Derived.Deep.RegionHeld3
import Derived.IntWalk
import Derived.Deep.QuietTactic
import Derived.BigQuiet
import Derived.Lib.ItoaLen
import Derived.Lib.QuietBelow
import Derived.Laws.Cover1
import Derived.Lib.AppendIntMem
import Derived.WalkSmall
import Derived.Lib.Split
import Derived.Lib.Join
import Derived.Deep.Slices
import Derived.Deep.Fields
import Derived.ChangeSame
import Derived.ChangeOld
import Derived.ProofKit
import Derived.Maps.AppendAt
import Derived.Laws.OwnMore
import Derived.OwnWalk
import Derived.Lib.ParseIntB
import Derived.Lib.ItoaNum
import Derived.Lib.Strings
import Derived.Shelf.Strings.Builder1
import Derived.Shelf.Strings.Builder2
import Derived.Shelf.Strings.OnBuilder
import Derived.Shelf.Small.Bits
import Derived.Shelf.Strings.BuilderF
import Derived.Shelf.Strings.BuilderK
import Derived.Shelf.Utf8.RuneCount
import Derived.Shelf.Strings.Builder2Cap
import Derived.Shelf.Strconv.Itoa0
import Derived.Shelf.Strconv.Itoa1
import Derived.Shelf.LaysM
import Derived.Shelf.Strconv.Itoa2
import Derived.Shelf.Strconv.Itoa3
import Derived.Shelf.Strconv.Itoa4
import Derived.Shelf.Strconv.ParseIntEmpty
import Derived.Shelf.Strconv.Clone
import Derived.Shelf.Strconv.SyntaxError
import Derived.Shelf.LaysC
import Derived.Shelf.Strconv.ToError
import Derived.Shelf.Strconv.Lower
import Derived.Shelf.Strconv.ParseUint10
import Derived.Shelf.Strconv.ParseUint10Empty
import Derived.Shelf.Strconv.ParseUint10Any
import Derived.Shelf.Strconv.ParseInt10
import Derived.Shelf.Strconv.RangeError
import Derived.Shelf.Strconv.ToErrorRange
import Derived.Shelf.Strconv.ParseUintEmpty
import Derived.Shelf.Strconv.ParseUint10b64
import Derived.Shelf.Strconv.ParseUint10b32
import Derived.Shelf.Strconv.ParseUint10b16
import Derived.Shelf.Strconv.ParseUint10b8
import Derived.Shelf.Strconv.ParseUint10At
import Derived.Shelf.Strconv.ParseInt10At64
import Derived.Shelf.Strconv.ParseInt10At32
import Derived.Shelf.Strconv.ParseInt10At16
import Derived.Shelf.Strconv.ParseInt10At8
import Derived.Shelf.Strconv.ParseInt10All
import Derived.Shelf.Strconv.ParseIntPublic10
import Derived.Shelf.Strconv.ErrVarParseInt
import Derived.Shelf.Strings.Search1
import Derived.Shelf.Strings.Search2
import Derived.Shelf.Strings.Search3
import Derived.Shelf.Strings.Cut
import Derived.Shelf.Strings.Count
import Derived.Shelf.Strings.Shaped
import Derived.Shelf.Strings.Prefix
import Derived.Shelf.Strings.Split
import Derived.Shelf.Strings.SplitShaped
import Derived.Shelf.Unicode.Decode
import Derived.Shelf.Strings.RuneCount
import Derived.Shelf.Strings.Explode
import Derived.Shelf.Bits.Mul64
import Derived.Shelf.Unicode.DecodeSlow
import Derived.Shelf.Unicode.DecodeAny
import Derived.Ground.SlgnProg
import Derived.Shelf.SlicesG.Clone
import Derived.Shelf.SlicesG.CompactI
import Derived.Shelf.SlicesG.SearchI
import Derived.Shelf.SlicesG.Cells
import Derived.Shelf.SlicesE.Clone
import Derived.Ground.SlgcProg
import Derived.Shelf.SlicesG.Cmp
import Derived.Ground.SlgmProg
import Derived.Shelf.SortM.Plain
import Derived.Shelf.SortM.SortNone
import Derived.Test.YtanlgnjgpbjebaaGreatDoorProg
import Derived.WalkKit
import Derived.OpenShut
import Derived.Handy
import Derived.Below
import Derived.Deep.Draws
import Derived.Laws.MakeOwn
import Derived.Test.YtanlgnjgpbjebaaGreatDoorTie
import Derived.Test.YtanlgnjgpbjebaaGreatDoorCards
set_option linter.unusedVariables false
set_option linter.unusedSimpArgs false
namespace Go.Proofs.YtanlgnjgpbjebaaGreatDoor.lawEntryRound
open Go.ChangeShapes Go.WideShapes Go.ChangeAt Go.RowKit
set_option linter.unusedVariables false

theorem own : ownKnob Tryz.prog.godebug = none := by kernel_rfl
theorem laidOut : laidOutB Tryz.prog = true := fact_laid

theorem shape_L {v : Value} {d : DL} {w : World} {lo hi : Nat} (h : ArgL w lo hi v d) : ∃ (p0 : Int) (p1 : Int) (pA2 : Option Addr) (pn2 pc2 : Nat) (pA3 : Option Addr) (pn3 pc3 : Nat), v = .agg #[.int .i64 p0, .int .i64 p1, .slice pA2 pn2 pc2, .slice pA3 pn3 pc3] := by
  obtain ⟨x, rfl, h⟩ := h
  obtain ⟨A2, n2, c2, e2⟩ := h.2.2.1.shape
  obtain ⟨A3, n3, c3, e3⟩ := h.2.2.2.shape
  rw [e2, e3]
  exact ⟨_, _, _, _, _, _, _, _, rfl⟩

set_option maxHeartbeats 3200000 in
set_option maxRecDepth 100000 in
theorem walk (v0 : Value) (d0 : DN) (v1 : Value) (d1 : DL) (k2 : Int) (w : World) (he : Env w) (h0 : ArgN w 0 w.heap.size v0 d0) (h1 : ArgL w 0 w.heap.size v1 d1) :
    Calls Tryz.prog 6 #[v0, v1, .int .i64 k2] w fun e w' => e = .returned (.bool true) ∧ Below w.heap.size w w' := by
  obtain ⟨p1_0, p1_1, p1_A2, p1_n2, p1_c2, p1_A3, p1_n3, p1_c3, rfl⟩ := shape_L h1
  have bel : Below w.heap.size w (w.alloc (.cells #[.int .i64 p1_0, .int .i64 p1_1, .slice p1_A2 p1_n2 p1_c2, .slice p1_A3 p1_n3 p1_c3] 26)) := ((Below.refl w.heap.size w).alloc (Nat.le_refl _) _)
  have k1_ : (w.alloc (.cells #[.int .i64 p1_0, .int .i64 p1_1, .slice p1_A2 p1_n2 p1_c2, .slice p1_A3 p1_n3 p1_c3] 26)).heap[w.heap.size]? = some (.cells #[.int .i64 p1_0, .int .i64 p1_1, .slice p1_A2 p1_n2 p1_c2, .slice p1_A3 p1_n3 p1_c3] 26 (0, 0)) := by
    have h := heap_alloc_new w (.cells #[.int .i64 p1_0, .int .i64 p1_1, .slice p1_A2 p1_n2 p1_c2, .slice p1_A3 p1_n3 p1_c3] 26)
    exact h
  have hz1 : w.heap.size < (w.alloc (.cells #[.int .i64 p1_0, .int .i64 p1_1, .slice p1_A2 p1_n2 p1_c2, .slice p1_A3 p1_n3 p1_c3] 26)).heap.size := by simp only [World.size_alloc]; omega
  replace h0 := h0.below bel (.inr (Nat.le_refl _))
  replace h1 := h1.below bel (.inr (Nat.le_refl _))
  have he0 := he
  replace he := he.below bel (Nat.le_refl _)
  have sz0 := fun (W : World) (B : Nat) (hW : Below B (w.alloc (.cells #[.int .i64 p1_0, .int .i64 p1_1, .slice p1_A2 p1_n2 p1_c2, .slice p1_A3 p1_n3 p1_c3] 26)) W) (hB : (w.alloc (.cells #[.int .i64 p1_0, .int .i64 p1_1, .slice p1_A2 p1_n2 p1_c2, .slice p1_A3 p1_n3 p1_c3] 26)).heap.size ≤ B) => szNodeS_u (left := 1048576) (h0.below hW (.inr hB)) (by omega) (by omega)
  by_cases big0 : 1048576 < (totN d0 : Int)
  · simp only [szLeft_big big0] at sz0
    replace sz0 := hide sz0
    clear h0 h1
    go_enter Tryz.func6, Tryz.ntmps6
    go_wp2_with fail
    generalize (w.alloc (.cells #[.int .i64 p1_0, .int .i64 p1_1, .slice p1_A2 p1_n2 p1_c2, .slice p1_A3 p1_n3 p1_c3] 26)) = w0 at *
    have sb := Below.refl w0.heap.size w0
    have ck1_0 : w0.cell? ⟨w.heap.size, 0, none⟩ = some (.int .i64 p1_0) := (cell_of_row _ _ 0 _ _ (0, 0) k1_).trans rfl
    have ck1_1 : w0.cell? ⟨w.heap.size, 1, none⟩ = some (.int .i64 p1_1) := (cell_of_row _ _ 1 _ _ (0, 0) k1_).trans rfl
    have ck1_2 : w0.cell? ⟨w.heap.size, 2, none⟩ = some (.slice p1_A2 p1_n2 p1_c2) := (cell_of_row _ _ 2 _ _ (0, 0) k1_).trans rfl
    have ck1_3 : w0.cell? ⟨w.heap.size, 3, none⟩ = some (.slice p1_A3 p1_n3 p1_c3) := (cell_of_row _ _ 3 _ _ (0, 0) k1_).trans rfl
    refine (sz0.out _ _ sb (Nat.le_refl _)).mono ?_
    rintro e s0 ⟨rfl, hb⟩
    replace sb := sb.trans (hb.mono sb.size)
    clear ck1_0 ck1_1 ck1_2 ck1_3
    replace k1_ := (hb.block _ hz1).trans k1_
    replace hz1 := Nat.lt_of_lt_of_le hz1 hb.size
    replace bel := bel.trans (hb.mono bel.size)
    have zzs0 := hb.size
    clear hb
    have ck1_0 : s0.cell? ⟨w.heap.size, 0, none⟩ = some (.int .i64 p1_0) := (cell_of_row _ _ 0 _ _ (0, 0) k1_).trans rfl
    have ck1_1 : s0.cell? ⟨w.heap.size, 1, none⟩ = some (.int .i64 p1_1) := (cell_of_row _ _ 1 _ _ (0, 0) k1_).trans rfl
    have ck1_2 : s0.cell? ⟨w.heap.size, 2, none⟩ = some (.slice p1_A2 p1_n2 p1_c2) := (cell_of_row _ _ 2 _ _ (0, 0) k1_).trans rfl
    have ck1_3 : s0.cell? ⟨w.heap.size, 3, none⟩ = some (.slice p1_A3 p1_n3 p1_c3) := (cell_of_row _ _ 3 _ _ (0, 0) k1_).trans rfl
    go_wp2_with fail
    go_ret
    exact ⟨rfl, bel⟩
  simp only [szLeft_fits big0] at sz0
  replace sz0 := hide sz0
  have ns0 : totN d0 ≤ 1048576 := by omega
  have nl0 : ¬ 1048576 - (totN d0 : Int) < 0 := by omega
  have sz1 := fun (W : World) (B : Nat) (hW : Below B (w.alloc (.cells #[.int .i64 p1_0, .int .i64 p1_1, .slice p1_A2 p1_n2 p1_c2, .slice p1_A3 p1_n3 p1_c3] 26)) W) (hB : (w.alloc (.cells #[.int .i64 p1_0, .int .i64 p1_1, .slice p1_A2 p1_n2 p1_c2, .slice p1_A3 p1_n3 p1_c3] 26)).heap.size ≤ B) => szLts_u (left := 1048576 - (totN d0 : Int)) (h1.below hW (.inr hB)) (by omega) (by omega)
  by_cases big1 : 1048576 - (totN d0 : Int) < (totL d1 : Int)
  · simp only [szLeft_big big1] at sz1
    replace sz1 := hide sz1
    clear h0 h1
    go_enter Tryz.func6, Tryz.ntmps6
    go_wp2_with fail
    generalize (w.alloc (.cells #[.int .i64 p1_0, .int .i64 p1_1, .slice p1_A2 p1_n2 p1_c2, .slice p1_A3 p1_n3 p1_c3] 26)) = w0 at *
    have sb := Below.refl w0.heap.size w0
    have ck1_0 : w0.cell? ⟨w.heap.size, 0, none⟩ = some (.int .i64 p1_0) := (cell_of_row _ _ 0 _ _ (0, 0) k1_).trans rfl
    have ck1_1 : w0.cell? ⟨w.heap.size, 1, none⟩ = some (.int .i64 p1_1) := (cell_of_row _ _ 1 _ _ (0, 0) k1_).trans rfl
    have ck1_2 : w0.cell? ⟨w.heap.size, 2, none⟩ = some (.slice p1_A2 p1_n2 p1_c2) := (cell_of_row _ _ 2 _ _ (0, 0) k1_).trans rfl
    have ck1_3 : w0.cell? ⟨w.heap.size, 3, none⟩ = some (.slice p1_A3 p1_n3 p1_c3) := (cell_of_row _ _ 3 _ _ (0, 0) k1_).trans rfl
    refine (sz0.out _ _ sb (Nat.le_refl _)).mono ?_
    rintro e s0 ⟨rfl, hb⟩
    replace sb := sb.trans (hb.mono sb.size)
    clear ck1_0 ck1_1 ck1_2 ck1_3
    replace k1_ := (hb.block _ hz1).trans k1_
    replace hz1 := Nat.lt_of_lt_of_le hz1 hb.size
    replace bel := bel.trans (hb.mono bel.size)
    have zzs0 := hb.size
    clear hb
    have ck1_0 : s0.cell? ⟨w.heap.size, 0, none⟩ = some (.int .i64 p1_0) := (cell_of_row _ _ 0 _ _ (0, 0) k1_).trans rfl
    have ck1_1 : s0.cell? ⟨w.heap.size, 1, none⟩ = some (.int .i64 p1_1) := (cell_of_row _ _ 1 _ _ (0, 0) k1_).trans rfl
    have ck1_2 : s0.cell? ⟨w.heap.size, 2, none⟩ = some (.slice p1_A2 p1_n2 p1_c2) := (cell_of_row _ _ 2 _ _ (0, 0) k1_).trans rfl
    have ck1_3 : s0.cell? ⟨w.heap.size, 3, none⟩ = some (.slice p1_A3 p1_n3 p1_c3) := (cell_of_row _ _ 3 _ _ (0, 0) k1_).trans rfl
    go_wp2_with fail
    refine (sz1.out _ _ sb (Nat.le_refl _)).mono ?_
    rintro e s1 ⟨rfl, hb⟩
    replace sb := sb.trans (hb.mono sb.size)
    clear ck1_0 ck1_1 ck1_2 ck1_3
    replace k1_ := (hb.block _ hz1).trans k1_
    replace hz1 := Nat.lt_of_lt_of_le hz1 hb.size
    replace bel := bel.trans (hb.mono bel.size)
    have zzs1 := hb.size
    clear hb
    have ck1_0 : s1.cell? ⟨w.heap.size, 0, none⟩ = some (.int .i64 p1_0) := (cell_of_row _ _ 0 _ _ (0, 0) k1_).trans rfl
    have ck1_1 : s1.cell? ⟨w.heap.size, 1, none⟩ = some (.int .i64 p1_1) := (cell_of_row _ _ 1 _ _ (0, 0) k1_).trans rfl
    have ck1_2 : s1.cell? ⟨w.heap.size, 2, none⟩ = some (.slice p1_A2 p1_n2 p1_c2) := (cell_of_row _ _ 2 _ _ (0, 0) k1_).trans rfl
    have ck1_3 : s1.cell? ⟨w.heap.size, 3, none⟩ = some (.slice p1_A3 p1_n3 p1_c3) := (cell_of_row _ _ 3 _ _ (0, 0) k1_).trans rfl
    go_wp2_with fail
    go_ret
    exact ⟨rfl, bel⟩
  simp only [szLeft_fits big1] at sz1
  replace sz1 := hide sz1
  have ns1 : totL d1 ≤ 1048576 := by omega
  have nl1 : ¬ 1048576 - (totN d0 : Int) - (totL d1 : Int) < 0 := by omega
  go_enter Tryz.func6, Tryz.ntmps6
  go_wp2_with fail
  generalize (w.alloc (.cells #[.int .i64 p1_0, .int .i64 p1_1, .slice p1_A2 p1_n2 p1_c2, .slice p1_A3 p1_n3 p1_c3] 26)) = w0 at *
  have zzb1 := hz1
  have zzbel := bel.size
  have sb := Below.refl w0.heap.size w0
  have ck1_0 : w0.cell? ⟨w.heap.size, 0, none⟩ = some (.int .i64 p1_0) := (cell_of_row _ _ 0 _ _ (0, 0) k1_).trans rfl
  have ck1_1 : w0.cell? ⟨w.heap.size, 1, none⟩ = some (.int .i64 p1_1) := (cell_of_row _ _ 1 _ _ (0, 0) k1_).trans rfl
  have ck1_2 : w0.cell? ⟨w.heap.size, 2, none⟩ = some (.slice p1_A2 p1_n2 p1_c2) := (cell_of_row _ _ 2 _ _ (0, 0) k1_).trans rfl
  have ck1_3 : w0.cell? ⟨w.heap.size, 3, none⟩ = some (.slice p1_A3 p1_n3 p1_c3) := (cell_of_row _ _ 3 _ _ (0, 0) k1_).trans rfl
  refine (sz0.out _ _ sb (Nat.le_refl _)).mono ?_
  rintro e w1 ⟨rfl, hb⟩
  replace sb := sb.trans (hb.mono sb.size)
  clear ck1_0 ck1_1 ck1_2 ck1_3
  replace k1_ := (hb.block _ hz1).trans k1_
  replace hz1 := Nat.lt_of_lt_of_le hz1 hb.size
  replace h0 := h0.below hb (.inr (Nat.le_refl _))
  replace h1 := h1.below hb (.inr (Nat.le_refl _))
  replace he := he.below hb (Nat.le_refl _)
  replace bel := bel.trans (hb.mono bel.size)
  have zzw1 := hb.size
  clear hb
  have ck1_0 : w1.cell? ⟨w.heap.size, 0, none⟩ = some (.int .i64 p1_0) := (cell_of_row _ _ 0 _ _ (0, 0) k1_).trans rfl
  have ck1_1 : w1.cell? ⟨w.heap.size, 1, none⟩ = some (.int .i64 p1_1) := (cell_of_row _ _ 1 _ _ (0, 0) k1_).trans rfl
  have ck1_2 : w1.cell? ⟨w.heap.size, 2, none⟩ = some (.slice p1_A2 p1_n2 p1_c2) := (cell_of_row _ _ 2 _ _ (0, 0) k1_).trans rfl
  have ck1_3 : w1.cell? ⟨w.heap.size, 3, none⟩ = some (.slice p1_A3 p1_n3 p1_c3) := (cell_of_row _ _ 3 _ _ (0, 0) k1_).trans rfl
  go_wp2_with fail
  refine (sz1.out _ _ sb (Nat.le_refl _)).mono ?_
  rintro e w2 ⟨rfl, hb⟩
  replace sb := sb.trans (hb.mono sb.size)
  clear ck1_0 ck1_1 ck1_2 ck1_3
  replace k1_ := (hb.block _ hz1).trans k1_
  replace hz1 := Nat.lt_of_lt_of_le hz1 hb.size
  replace h0 := h0.below hb (.inr (Nat.le_refl _))
  replace h1 := h1.below hb (.inr (Nat.le_refl _))
  replace he := he.below hb (Nat.le_refl _)
  replace bel := bel.trans (hb.mono bel.size)
  have zzw2 := hb.size
  clear hb
  have ck1_0 : w2.cell? ⟨w.heap.size, 0, none⟩ = some (.int .i64 p1_0) := (cell_of_row _ _ 0 _ _ (0, 0) k1_).trans rfl
  have ck1_1 : w2.cell? ⟨w.heap.size, 1, none⟩ = some (.int .i64 p1_1) := (cell_of_row _ _ 1 _ _ (0, 0) k1_).trans rfl
  have ck1_2 : w2.cell? ⟨w.heap.size, 2, none⟩ = some (.slice p1_A2 p1_n2 p1_c2) := (cell_of_row _ _ 2 _ _ (0, 0) k1_).trans rfl
  have ck1_3 : w2.cell? ⟨w.heap.size, 3, none⟩ = some (.slice p1_A3 p1_n3 p1_c3) := (cell_of_row _ _ 3 _ _ (0, 0) k1_).trans rfl
  clear sb sz0 sz1
  go_wp2_with fail
  have hD : Below w2.heap.size w2 w2.drew := (Below.refl _ _).drew
  replace k1_ := hide k1_
  go_cut [8, 9] (fun a0 a1 wx => a0 = .int .i64 (entF d0 d1 k2).1 ∧ a1 = .int .i64 (entF d0 d1 k2).2 ∧ Below w2.heap.size w2 wx)
  case first =>
    go_region_law (first
      | (go_simp; go_at_call 15; (with_reducible refine (toNodeS_u (h0.below hD (.inr (Nat.le_refl _))) ns0).mono ?_); rintro e ys0 ⟨us0, rfl, s0, hbs0⟩; have hxs0 := hD.trans (hbs0); have zys0 := hbs0.size; have ek1_0 : ys0.cell? ⟨w.heap.size, 0, none⟩ = some (.int .i64 p1_0) := (cell_of_row _ _ 0 _ _ (0, 0) ((hxs0.block _ hz1).trans k1_.out)).trans rfl; have ek1_1 : ys0.cell? ⟨w.heap.size, 1, none⟩ = some (.int .i64 p1_1) := (cell_of_row _ _ 1 _ _ (0, 0) ((hxs0.block _ hz1).trans k1_.out)).trans rfl; have ek1_2 : ys0.cell? ⟨w.heap.size, 2, none⟩ = some (.slice p1_A2 p1_n2 p1_c2) := (cell_of_row _ _ 2 _ _ (0, 0) ((hxs0.block _ hz1).trans k1_.out)).trans rfl; have ek1_3 : ys0.cell? ⟨w.heap.size, 3, none⟩ = some (.slice p1_A3 p1_n3 p1_c3) := (cell_of_row _ _ 3 _ _ (0, 0) ((hxs0.block _ hz1).trans k1_.out)).trans rfl; have qs1 := hide (toLts_u (h1.below hxs0 (.inr (Nat.le_refl _))) ns1))
      | (go_simp; go_at_call 16; (with_reducible refine qs1.out.mono ?_); rintro e ys1 ⟨us1, rfl, s1, hbs1⟩; have hxs1 := hxs0.trans (hbs1.mono hxs0.size); have zys1 := hbs1.size; replace s0 := s0.below hbs1 (.inr (Nat.le_refl _)); have qsF := hide (specEntryRound_u (w := ys1) (he.below hxs1 (Nat.le_refl _)) s0 (by omega) s1 (by omega) k2))
      | (go_simp; go_at_call 24; (with_reducible refine qsF.out.mono ?_); rintro e yF ⟨rfl, hbF⟩; have hxF := hxs1.trans (hbF.mono hxs1.size)))
    all_goals (go_wp2_with fail; go_meet)
    all_goals exact ⟨rfl, rfl, hxF⟩
  case rest =>
  obtain ⟨rfl, rfl, hb⟩ := hcut
  generalize wc = w3 at *
  clear hD
  replace k1_ := k1_.out
  clear ck1_0 ck1_1 ck1_2 ck1_3
  replace k1_ := (hb.block _ hz1).trans k1_
  replace hz1 := Nat.lt_of_lt_of_le hz1 hb.size
  replace h0 := h0.below hb (.inr (Nat.le_refl _))
  replace h1 := h1.below hb (.inr (Nat.le_refl _))
  replace he := he.below hb (Nat.le_refl _)
  replace bel := bel.trans (hb.mono bel.size)
  have zzw3 := hb.size
  clear hb
  have ck1_0 : w3.cell? ⟨w.heap.size, 0, none⟩ = some (.int .i64 p1_0) := (cell_of_row _ _ 0 _ _ (0, 0) k1_).trans rfl
  have ck1_1 : w3.cell? ⟨w.heap.size, 1, none⟩ = some (.int .i64 p1_1) := (cell_of_row _ _ 1 _ _ (0, 0) k1_).trans rfl
  have ck1_2 : w3.cell? ⟨w.heap.size, 2, none⟩ = some (.slice p1_A2 p1_n2 p1_c2) := (cell_of_row _ _ 2 _ _ (0, 0) k1_).trans rfl
  have ck1_3 : w3.cell? ⟨w.heap.size, 3, none⟩ = some (.slice p1_A3 p1_n3 p1_c3) := (cell_of_row _ _ 3 _ _ (0, 0) k1_).trans rfl
  go_wp2_with fail
  refine (toNodeS_u h0 ns0).mono ?_
  rintro e w4 ⟨ux0, rfl, x0, hb⟩
  clear ck1_0 ck1_1 ck1_2 ck1_3
  replace k1_ := (hb.block _ hz1).trans k1_
  replace hz1 := Nat.lt_of_lt_of_le hz1 hb.size
  replace h0 := h0.below hb (.inr (Nat.le_refl _))
  replace h1 := h1.below hb (.inr (Nat.le_refl _))
  replace he := he.below hb (Nat.le_refl _)
  replace bel := bel.trans (hb.mono bel.size)
  have zzw4 := hb.size
  clear hb
  have ck1_0 : w4.cell? ⟨w.heap.size, 0, none⟩ = some (.int .i64 p1_0) := (cell_of_row _ _ 0 _ _ (0, 0) k1_).trans rfl
  have ck1_1 : w4.cell? ⟨w.heap.size, 1, none⟩ = some (.int .i64 p1_1) := (cell_of_row _ _ 1 _ _ (0, 0) k1_).trans rfl
  have ck1_2 : w4.cell? ⟨w.heap.size, 2, none⟩ = some (.slice p1_A2 p1_n2 p1_c2) := (cell_of_row _ _ 2 _ _ (0, 0) k1_).trans rfl
  have ck1_3 : w4.cell? ⟨w.heap.size, 3, none⟩ = some (.slice p1_A3 p1_n3 p1_c3) := (cell_of_row _ _ 3 _ _ (0, 0) k1_).trans rfl
  go_wp2_with fail
  refine (toLts_u h1 ns1).mono ?_
  rintro e w5 ⟨ux1, rfl, x1, hb⟩
  clear ck1_0 ck1_1 ck1_2 ck1_3
  replace k1_ := (hb.block _ hz1).trans k1_
  replace hz1 := Nat.lt_of_lt_of_le hz1 hb.size
  replace h0 := h0.below hb (.inr (Nat.le_refl _))
  replace h1 := h1.below hb (.inr (Nat.le_refl _))
  replace he := he.below hb (Nat.le_refl _)
  replace x0 := x0.below hb (.inr (Nat.le_refl _))
  replace bel := bel.trans (hb.mono bel.size)
  have zzw5 := hb.size
  clear hb
  have ck1_0 : w5.cell? ⟨w.heap.size, 0, none⟩ = some (.int .i64 p1_0) := (cell_of_row _ _ 0 _ _ (0, 0) k1_).trans rfl
  have ck1_1 : w5.cell? ⟨w.heap.size, 1, none⟩ = some (.int .i64 p1_1) := (cell_of_row _ _ 1 _ _ (0, 0) k1_).trans rfl
  have ck1_2 : w5.cell? ⟨w.heap.size, 2, none⟩ = some (.slice p1_A2 p1_n2 p1_c2) := (cell_of_row _ _ 2 _ _ (0, 0) k1_).trans rfl
  have ck1_3 : w5.cell? ⟨w.heap.size, 3, none⟩ = some (.slice p1_A3 p1_n3 p1_c3) := (cell_of_row _ _ 3 _ _ (0, 0) k1_).trans rfl
  obtain ⟨q1_0, q1_1, q1_A2, q1_n2, q1_c2, q1_A3, q1_n3, q1_c3, rfl⟩ := shape_L x1.1
  have hb : Below w5.heap.size w5 (w5.alloc (.cells #[.int .i64 q1_0, .int .i64 q1_1, .slice q1_A2 q1_n2 q1_c2, .slice q1_A3 q1_n3 q1_c3] 35)) := (Below.refl _ _).alloc (Nat.le_refl _) _
  have kx1 := heap_alloc_new w5 (.cells #[.int .i64 q1_0, .int .i64 q1_1, .slice q1_A2 q1_n2 q1_c2, .slice q1_A3 q1_n3 q1_c3] 35)
  have hzx1 : w5.heap.size < (w5.alloc (.cells #[.int .i64 q1_0, .int .i64 q1_1, .slice q1_A2 q1_n2 q1_c2, .slice q1_A3 q1_n3 q1_c3] 35)).heap.size := by rw [World.size_alloc]; omega
  clear ck1_0 ck1_1 ck1_2 ck1_3
  replace k1_ := (hb.block _ hz1).trans k1_
  replace hz1 := Nat.lt_of_lt_of_le hz1 hb.size
  replace h0 := h0.below hb (.inr (Nat.le_refl _))
  replace h1 := h1.below hb (.inr (Nat.le_refl _))
  replace he := he.below hb (Nat.le_refl _)
  replace x0 := x0.below hb (.inr (Nat.le_refl _))
  replace x1 := x1.below hb (.inr (Nat.le_refl _))
  replace bel := bel.trans (hb.mono bel.size)
  have zzw6 := hb.size
  clear hb
  go_wp2_with fail
  generalize (w5.alloc (.cells #[.int .i64 q1_0, .int .i64 q1_1, .slice q1_A2 q1_n2 q1_c2, .slice q1_A3 q1_n3 q1_c3] 35)) = w6 at *
  generalize w5.heap.size = bx1 at *
  have ck1_0 : w6.cell? ⟨w.heap.size, 0, none⟩ = some (.int .i64 p1_0) := (cell_of_row _ _ 0 _ _ (0, 0) k1_).trans rfl
  have ck1_1 : w6.cell? ⟨w.heap.size, 1, none⟩ = some (.int .i64 p1_1) := (cell_of_row _ _ 1 _ _ (0, 0) k1_).trans rfl
  have ck1_2 : w6.cell? ⟨w.heap.size, 2, none⟩ = some (.slice p1_A2 p1_n2 p1_c2) := (cell_of_row _ _ 2 _ _ (0, 0) k1_).trans rfl
  have ck1_3 : w6.cell? ⟨w.heap.size, 3, none⟩ = some (.slice p1_A3 p1_n3 p1_c3) := (cell_of_row _ _ 3 _ _ (0, 0) k1_).trans rfl
  have ckx10 : w6.cell? ⟨bx1, 0, none⟩ = some (.int .i64 q1_0) := (cell_of_row _ _ 0 _ _ (0, 0) kx1).trans rfl
  have ckx11 : w6.cell? ⟨bx1, 1, none⟩ = some (.int .i64 q1_1) := (cell_of_row _ _ 1 _ _ (0, 0) kx1).trans rfl
  have ckx12 : w6.cell? ⟨bx1, 2, none⟩ = some (.slice q1_A2 q1_n2 q1_c2) := (cell_of_row _ _ 2 _ _ (0, 0) kx1).trans rfl
  have ckx13 : w6.cell? ⟨bx1, 3, none⟩ = some (.slice q1_A3 q1_n3 q1_c3) := (cell_of_row _ _ 3 _ _ (0, 0) kx1).trans rfl
  go_wp2_with fail
  refine (implEntryRound_u (w := w6) he x0 (by omega) x1 (by omega) k2).mono ?_
  rintro e w7 ⟨rfl, hb⟩
  clear ck1_0 ck1_1 ck1_2 ck1_3 ckx10 ckx11 ckx12 ckx13
  replace k1_ := (hb.block _ hz1).trans k1_
  replace hz1 := Nat.lt_of_lt_of_le hz1 hb.size
  replace kx1 := (hb.block _ hzx1).trans kx1
  replace hzx1 := Nat.lt_of_lt_of_le hzx1 hb.size
  replace h0 := h0.below hb (.inr (Nat.le_refl _))
  replace h1 := h1.below hb (.inr (Nat.le_refl _))
  replace he := he.below hb (Nat.le_refl _)
  replace x0 := x0.below hb (.inr (Nat.le_refl _))
  replace x1 := x1.below hb (.inr (Nat.le_refl _))
  replace bel := bel.trans (hb.mono bel.size)
  have zzw7 := hb.size
  clear hb
  have ck1_0 : w7.cell? ⟨w.heap.size, 0, none⟩ = some (.int .i64 p1_0) := (cell_of_row _ _ 0 _ _ (0, 0) k1_).trans rfl
  have ck1_1 : w7.cell? ⟨w.heap.size, 1, none⟩ = some (.int .i64 p1_1) := (cell_of_row _ _ 1 _ _ (0, 0) k1_).trans rfl
  have ck1_2 : w7.cell? ⟨w.heap.size, 2, none⟩ = some (.slice p1_A2 p1_n2 p1_c2) := (cell_of_row _ _ 2 _ _ (0, 0) k1_).trans rfl
  have ck1_3 : w7.cell? ⟨w.heap.size, 3, none⟩ = some (.slice p1_A3 p1_n3 p1_c3) := (cell_of_row _ _ 3 _ _ (0, 0) k1_).trans rfl
  have ckx10 : w7.cell? ⟨bx1, 0, none⟩ = some (.int .i64 q1_0) := (cell_of_row _ _ 0 _ _ (0, 0) kx1).trans rfl
  have ckx11 : w7.cell? ⟨bx1, 1, none⟩ = some (.int .i64 q1_1) := (cell_of_row _ _ 1 _ _ (0, 0) kx1).trans rfl
  have ckx12 : w7.cell? ⟨bx1, 2, none⟩ = some (.slice q1_A2 q1_n2 q1_c2) := (cell_of_row _ _ 2 _ _ (0, 0) kx1).trans rfl
  have ckx13 : w7.cell? ⟨bx1, 3, none⟩ = some (.slice q1_A3 q1_n3 q1_c3) := (cell_of_row _ _ 3 _ _ (0, 0) kx1).trans rfl
  go_wp2_with fail
  refine (toNodeS_u h0 ns0).mono ?_
  rintro e w8 ⟨ut0, rfl, t0, hb⟩
  clear ck1_0 ck1_1 ck1_2 ck1_3 ckx10 ckx11 ckx12 ckx13
  replace k1_ := (hb.block _ hz1).trans k1_
  replace hz1 := Nat.lt_of_lt_of_le hz1 hb.size
  replace kx1 := (hb.block _ hzx1).trans kx1
  replace hzx1 := Nat.lt_of_lt_of_le hzx1 hb.size
  replace h0 := h0.below hb (.inr (Nat.le_refl _))
  replace h1 := h1.below hb (.inr (Nat.le_refl _))
  replace he := he.below hb (Nat.le_refl _)
  replace x0 := x0.below hb (.inr (Nat.le_refl _))
  replace x1 := x1.below hb (.inr (Nat.le_refl _))
  replace bel := bel.trans (hb.mono bel.size)
  have zzw8 := hb.size
  clear hb
  have ck1_0 : w8.cell? ⟨w.heap.size, 0, none⟩ = some (.int .i64 p1_0) := (cell_of_row _ _ 0 _ _ (0, 0) k1_).trans rfl
  have ck1_1 : w8.cell? ⟨w.heap.size, 1, none⟩ = some (.int .i64 p1_1) := (cell_of_row _ _ 1 _ _ (0, 0) k1_).trans rfl
  have ck1_2 : w8.cell? ⟨w.heap.size, 2, none⟩ = some (.slice p1_A2 p1_n2 p1_c2) := (cell_of_row _ _ 2 _ _ (0, 0) k1_).trans rfl
  have ck1_3 : w8.cell? ⟨w.heap.size, 3, none⟩ = some (.slice p1_A3 p1_n3 p1_c3) := (cell_of_row _ _ 3 _ _ (0, 0) k1_).trans rfl
  have ckx10 : w8.cell? ⟨bx1, 0, none⟩ = some (.int .i64 q1_0) := (cell_of_row _ _ 0 _ _ (0, 0) kx1).trans rfl
  have ckx11 : w8.cell? ⟨bx1, 1, none⟩ = some (.int .i64 q1_1) := (cell_of_row _ _ 1 _ _ (0, 0) kx1).trans rfl
  have ckx12 : w8.cell? ⟨bx1, 2, none⟩ = some (.slice q1_A2 q1_n2 q1_c2) := (cell_of_row _ _ 2 _ _ (0, 0) kx1).trans rfl
  have ckx13 : w8.cell? ⟨bx1, 3, none⟩ = some (.slice q1_A3 q1_n3 q1_c3) := (cell_of_row _ _ 3 _ _ (0, 0) kx1).trans rfl
  go_wp2_with fail
  refine (eqNodeS_u x0 t0).mono ?_
  rintro e w9 ⟨rfl, hb⟩
  clear ck1_0 ck1_1 ck1_2 ck1_3 ckx10 ckx11 ckx12 ckx13
  replace k1_ := (hb.block _ hz1).trans k1_
  replace hz1 := Nat.lt_of_lt_of_le hz1 hb.size
  replace kx1 := (hb.block _ hzx1).trans kx1
  replace hzx1 := Nat.lt_of_lt_of_le hzx1 hb.size
  replace h0 := h0.below hb (.inr (Nat.le_refl _))
  replace h1 := h1.below hb (.inr (Nat.le_refl _))
  replace he := he.below hb (Nat.le_refl _)
  replace x0 := x0.below hb (.inr (Nat.le_refl _))
  replace x1 := x1.below hb (.inr (Nat.le_refl _))
  replace t0 := t0.below hb (.inr (Nat.le_refl _))
  replace bel := bel.trans (hb.mono bel.size)
  have zzw9 := hb.size
  clear hb
  have ck1_0 : w9.cell? ⟨w.heap.size, 0, none⟩ = some (.int .i64 p1_0) := (cell_of_row _ _ 0 _ _ (0, 0) k1_).trans rfl
  have ck1_1 : w9.cell? ⟨w.heap.size, 1, none⟩ = some (.int .i64 p1_1) := (cell_of_row _ _ 1 _ _ (0, 0) k1_).trans rfl
  have ck1_2 : w9.cell? ⟨w.heap.size, 2, none⟩ = some (.slice p1_A2 p1_n2 p1_c2) := (cell_of_row _ _ 2 _ _ (0, 0) k1_).trans rfl
  have ck1_3 : w9.cell? ⟨w.heap.size, 3, none⟩ = some (.slice p1_A3 p1_n3 p1_c3) := (cell_of_row _ _ 3 _ _ (0, 0) k1_).trans rfl
  have ckx10 : w9.cell? ⟨bx1, 0, none⟩ = some (.int .i64 q1_0) := (cell_of_row _ _ 0 _ _ (0, 0) kx1).trans rfl
  have ckx11 : w9.cell? ⟨bx1, 1, none⟩ = some (.int .i64 q1_1) := (cell_of_row _ _ 1 _ _ (0, 0) kx1).trans rfl
  have ckx12 : w9.cell? ⟨bx1, 2, none⟩ = some (.slice q1_A2 q1_n2 q1_c2) := (cell_of_row _ _ 2 _ _ (0, 0) kx1).trans rfl
  have ckx13 : w9.cell? ⟨bx1, 3, none⟩ = some (.slice q1_A3 q1_n3 q1_c3) := (cell_of_row _ _ 3 _ _ (0, 0) kx1).trans rfl
  go_wp2_with fail
  have hD : Below w9.heap.size w9 w9.drew := (Below.refl _ _).drew
  replace k1_ := hide k1_
  replace kx1 := hide kx1
  go_region_law (first
    | (go_simp; go_at_call 16; (with_reducible refine (toLts_u (h1.below hD (.inr (Nat.le_refl _))) ns1).mono ?_); rintro e w10 ⟨ut1, rfl, t1, hb7⟩; have ek1_0 : w10.cell? ⟨w.heap.size, 0, none⟩ = some (.int .i64 p1_0) := (cell_of_row _ _ 0 _ _ (0, 0) ((hb7.block _ hz1).trans k1_.out)).trans rfl; have ek1_1 : w10.cell? ⟨w.heap.size, 1, none⟩ = some (.int .i64 p1_1) := (cell_of_row _ _ 1 _ _ (0, 0) ((hb7.block _ hz1).trans k1_.out)).trans rfl; have ek1_2 : w10.cell? ⟨w.heap.size, 2, none⟩ = some (.slice p1_A2 p1_n2 p1_c2) := (cell_of_row _ _ 2 _ _ (0, 0) ((hb7.block _ hz1).trans k1_.out)).trans rfl; have ek1_3 : w10.cell? ⟨w.heap.size, 3, none⟩ = some (.slice p1_A3 p1_n3 p1_c3) := (cell_of_row _ _ 3 _ _ (0, 0) ((hb7.block _ hz1).trans k1_.out)).trans rfl; have ekx10 : w10.cell? ⟨bx1, 0, none⟩ = some (.int .i64 q1_0) := (cell_of_row _ _ 0 _ _ (0, 0) ((hb7.block _ hzx1).trans kx1.out)).trans rfl; have ekx11 : w10.cell? ⟨bx1, 1, none⟩ = some (.int .i64 q1_1) := (cell_of_row _ _ 1 _ _ (0, 0) ((hb7.block _ hzx1).trans kx1.out)).trans rfl; have ekx12 : w10.cell? ⟨bx1, 2, none⟩ = some (.slice q1_A2 q1_n2 q1_c2) := (cell_of_row _ _ 2 _ _ (0, 0) ((hb7.block _ hzx1).trans kx1.out)).trans rfl; have ekx13 : w10.cell? ⟨bx1, 3, none⟩ = some (.slice q1_A3 q1_n3 q1_c3) := (cell_of_row _ _ 3 _ _ (0, 0) ((hb7.block _ hzx1).trans kx1.out)).trans rfl; have qeq := eqLts_u (x1.below (hD.trans hb7) (.inr (Nat.le_refl _))) t1; rw [decide_eq_true rfl] at qeq; replace qeq := hide qeq)
    | (go_simp; go_at_call 19; (with_reducible refine qeq.out.mono ?_); rintro e w11 ⟨rfl, hb8⟩))
  all_goals go_wp2_with fail
  all_goals go_ret
  all_goals exact ⟨rfl, bel.trans ((hD.trans (hb7.trans (hb8.mono hb7.size))).mono bel.size)⟩

set_option maxRecDepth 100000 in
theorem lifted (os : Os) (started : os.Started) (H : Type) (enc : TypeId × Value → H) :
    ReturnsInHanded {} Tryz.checked os 6 .any (fun w args => (Rows.fnExactEntryRoundSpec.pre enc Tryz.prog Tryz.f6 Rows.fnExactEntryRoundRow.domain false w args ∧ laidMet Tryz.prog laidL w) ∧ sizedMet enc Tryz.prog Tryz.f6 (OpenSpec.ofChange Rows.fnExactEntryRoundSpec) false w args) (Rows.fnExactEntryRoundSpec.post enc Tryz.prog Tryz.f6 false true false false) := by
  refine returnsInHanded_of_calls (C := Tryz.checked) own started (by kernel_rfl)
    (ChangeSpec.witness_at (enc := enc) (C := Tryz.checked) (os := os) (s := Rows.fnExactEntryRoundSpec) (conds := Rows.fnExactEntryRoundRow.domain) (X := fun w _ => laidMet Tryz.prog laidL w) false (laidWorld os) #[.slice none 0 0, .agg #[.int .i64 0, .int .i64 0, .slice none 0 0, .slice none 0 0], .int .i64 0] 8 rfl (by kernel_rfl) (by kernel_rfl) (by kernel_rfl) (by kernel_rfl) (by kernel_rfl) (laid_met os _)) ?_
  intro w tape i _ hsh _ hok hpre hholds
  obtain ⟨_, _, _, fn', hfn', _, _, _, _, hval0⟩ := hok
  have efn : fn' = Tryz.f6 := Option.some.inj (hfn'.symm.trans Tryz.func6)
  subst efn
  obtain ⟨⟨⟨ds, gs, before, hw0, hc⟩, hlaid⟩, hz⟩ := hpre
  have hW := DataW.Whole.of_heap (w' := w.forCall tape i) (by rfl) hw0
  have he : Env (w.forCall tape i) := Env.of (good_of (laidMet.of_heap (by rfl) hlaid) hsh)
  generalize hWg : w.forCall tape i = W at *
  generalize hag : i.args = args at *
  suffices hcalls : Calls Tryz.prog 6 args W fun e W' => ∃ v, e = .returned v ∧ Rows.fnExactEntryRoundSpec.post enc Tryz.prog Tryz.f6 false true false false W args v W' by
    refine hcalls.mono fun e W' ⟨v, he, hp⟩ => ?_
    subst he
    exact ChangeSpec.post_blind hp
  have hval : ∀ (j : Nat) t v, Tryz.f6.params[j]? = some t → args[j]? = some v → Value.okWide Tryz.prog W .any w.heap.size t v := hval0
  have hW' := hW
  obtain ⟨p, q, hA0, hV, rfl, hfz, hnd⟩ := hW
  have hA : DataW.TrodAll enc Tryz.prog W 0 (fun _ => true) true Tryz.f6.params.toList args.toList ds p := hA0
  rw [Tryz.params6] at hA hval
  obtain ⟨v0, vs0, d0, ds0, p0, q0, hargs, rfl, rfl, h0, r0⟩ := trodAll_cons hA
  obtain ⟨v1, vs1, d1, ds1, p1, q1, rfl, rfl, rfl, h1, r1⟩ := trodAll_cons r0
  obtain ⟨v2, vs2, d2, ds2, p2, q2, rfl, rfl, rfl, h2, r2⟩ := trodAll_cons r1
  obtain ⟨rfl, rfl, rfl⟩ := trodAll_nil r2
  obtain rfl : args = #[v0, v1, v2] := by cases args; simp_all
  obtain ⟨rfl, rfl⟩ := trodVars_none hV
  have lt0 : ∀ x ∈ p0, x.block < W.heap.size := by obtain ⟨m, hm⟩ := h0; exact DataW.trod_lt m _ _ _ hm
  obtain ⟨x0, a0⟩ := open_N (hval 0 22 v0 rfl rfl) h0 (fun b off hp => hfz b off (by simp [hp]))
  have lt1 : ∀ x ∈ p1, x.block < W.heap.size := by obtain ⟨m, hm⟩ := h1; exact DataW.trod_lt m _ _ _ hm
  obtain ⟨x1, a1⟩ := open_L (hval 1 26 v1 rfl rfl) h1 (fun b off hp => hfz b off (by simp [hp]))
  obtain ⟨a2, rfl, rfl, rfl, w2⟩ := open_int Tryz.underlying2 (hval 2 2 v2 rfl rfl) h2
  clear hA0 hval0 hval
  refine (walk v0 x0 v1 x1 a2 W he a0 a1).mono fun e W' ⟨he, bel⟩ => ?_
  subst he
  exact ⟨_, rfl, _, _, _, [], _, [], hW', trodAll_mk1 (shut_bool Tryz.underlying4 _), (trodAll_cons_mk (Below.trod laidOut (by kernel_rfl) (of_decide_eq_true (by kernel_rfl)) h0 bel lt0) (trodAll_cons_mk (Below.trod laidOut (by kernel_rfl) (of_decide_eq_true (by kernel_rfl)) h1 bel lt1) (trodAll_cons_mk (shut_int Tryz.underlying2 w2) trodAll_mk0))), rfl, bel.frame _, fun h => by cases h⟩

theorem c0 : Tryz.pinned.checked.prog.funcNamed "loop.example/g01075/laws.FnExactEntryRound" = some 6 := by kernel_rfl
theorem c5 : false = Rows.fnExactEntryRoundRow.goesBy Tryz.pinned.checked.prog := by kernel_rfl
theorem c1 : Tryz.pinned.checked.prog.inPlace 6 = Rows.fnExactEntryRoundRow.inPlace := by kernel_rfl
theorem c2 : Tryz.pinned.checked.prog.unfollowed 6 = Rows.fnExactEntryRoundRow.unfollowed := by kernel_rfl
theorem c3 : Tryz.pinned.checked.prog.recurses 6 = Rows.fnExactEntryRoundRow.recurses := by kernel_rfl
theorem c4 : Tryz.pinned.checked.prog.varsNamed 6 = Rows.fnExactEntryRoundRow.named := by kernel_rfl
theorem joined : joinedFacts Tryz.pinned.checked.prog 6 Tryz.f6 Rows.fnExactEntryRoundSpec Rows.fnExactEntryRoundRow = true := by
  unfold joinedFacts
  rw [fact_laid, fact_maps, fact_heard, fact_enter, fact_lifts, fact_make, c1, c2, c3, c4]
  kernel_rfl
theorem over : Rows.fnExactEntryRoundRow.holds Tryz.pinned (OpenSpec.ofChange Rows.fnExactEntryRoundSpec) :=
  OpenClaim.holds_of_wide 6 Tryz.f6 rfl rfl rfl rfl rfl rfl rfl ⟨rfl, rfl, rfl, rfl, rfl⟩ rfl rfl rfl rfl rfl c0 Tryz.func6 joined
    (of_decide_eq_true (by kernel_rfl)) (by unfold Func.isWrapper; first | (rw [if_pos (by decide +kernel)]; kernel_rfl) | (rw [if_neg (by decide +kernel)]; exact ⟨rfl, rfl⟩))
    (fun os started H enc _ => by
      rw [pre_laid (c := Rows.fnExactEntryRoundRow) rfl]
      exact lifted os started H enc)

theorem tied : Rows.FnExactEntryRoundCardSaid :=
  Claim7.holds_tied_plain_at .later [] [.data, .data, .data, .data, .sentinel, .sentinel, .pinned] true (true, "bfc252992bf6c1113b275f27b620619f35e36127a813af0a44b0b9f500c36f45") true
    over (fun _ h => by cases h) (by kernel_rfl) (fun _ h => by cases h) fnExactEntryRound_row_tie rfl ⟨rfl, rfl⟩ fact_main rfl
    (fun f fn hf hfn => by
      obtain rfl : f = 6 := (Option.some.inj (c0.symm.trans hf)).symm
      obtain rfl : fn = Tryz.f6 := (Option.some.inj (Tryz.func6.symm.trans hfn)).symm
      exact ⟨fact_looks, fun j t ht => by
        rw [Tryz.params6] at ht
        rcases j with _ | j
        · obtain rfl : t = 22 := by simpa using ht.symm
          exact (show Tryz.prog.wantsStandIn 22 = false by kernel_rfl)
        rcases j with _ | j
        · obtain rfl : t = 26 := by simpa using ht.symm
          exact (show Tryz.prog.wantsStandIn 26 = false by kernel_rfl)
        rcases j with _ | j
        · obtain rfl : t = 2 := by simpa using ht.symm
          exact (show Tryz.prog.wantsStandIn 2 = false by kernel_rfl)
        simp at ht⟩)
    c5

end Go.Proofs.YtanlgnjgpbjebaaGreatDoor.lawEntryRound

namespace Go.Proofs.YtanlgnjgpbjebaaGreatDoor
theorem fnExactEntryRound_holds : Rows.FnExactEntryRoundCardSaid := lawEntryRound.tied
end Go.Proofs.YtanlgnjgpbjebaaGreatDoor
