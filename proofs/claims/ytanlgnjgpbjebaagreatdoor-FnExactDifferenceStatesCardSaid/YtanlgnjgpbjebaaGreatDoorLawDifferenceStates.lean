/-
  The law FnExactDifferenceStates returns true for every input. Conditions: none.
-/
import Derived.Test.YtanlgnjgpbjebaaGreatDoorBaseA
import Derived.Test.YtanlgnjgpbjebaaGreatDoorBaseB
import Derived.Test.YtanlgnjgpbjebaaGreatDoorBaseC
import Derived.Test.YtanlgnjgpbjebaaGreatDoorBaseD
import Derived.Test.YtanlgnjgpbjebaaGreatDoorBaseE
import Derived.Test.YtanlgnjgpbjebaaGreatDoorBaseF
import Derived.Test.YtanlgnjgpbjebaaGreatDoorBaseG
import Derived.Test.YtanlgnjgpbjebaaGreatDoorBaseH
import Derived.Test.YtanlgnjgpbjebaaGreatDoorBaseI
import Derived.Test.YtanlgnjgpbjebaaGreatDoorBaseJ
import Derived.Test.YtanlgnjgpbjebaaGreatDoorBaseK
import Derived.Test.YtanlgnjgpbjebaaGreatDoorBaseL
import Derived.Test.YtanlgnjgpbjebaaGreatDoorBaseM
import Derived.Test.YtanlgnjgpbjebaaGreatDoorBaseVD
import Derived.Deep.DeepCutAuto
import Derived.WalkKit
import Derived.ProofKit
import Derived.OpenShut
import Derived.Handy
import Derived.Below
import Derived.Deep.Draws
import Derived.Laws.MakeOwn
import Derived.Lib.Split
import Derived.Lib.Join
import Derived.Test.YtanlgnjgpbjebaaGreatDoorRows
import Derived.LoopTactic
import Derived.Shelf.Strings.Builder1
import Derived.Shelf.Strings.Builder2
import Derived.Shelf.Strings.OnBuilder
import Derived.Shelf.Small.Bits
import Derived.Shelf.Strings.BuilderF
import Derived.Shelf.Strings.BuilderK
import Derived.Shelf.Utf8.RuneCount
import Derived.Shelf.Strings.Builder2Cap
import Derived.Shelf.Strconv.Itoa0
import Derived.Shelf.Strconv.Itoa1
import Derived.Shelf.LaysM
import Derived.Shelf.Strconv.Itoa2
import Derived.Shelf.Strconv.Itoa3
import Derived.Shelf.Strconv.Itoa4
import Derived.Shelf.Strconv.ParseIntEmpty
import Derived.Shelf.Strconv.Clone
import Derived.Shelf.Strconv.SyntaxError
import Derived.Shelf.LaysC
import Derived.Shelf.Strconv.ToError
import Derived.Shelf.Strconv.Lower
import Derived.Shelf.Strconv.ParseUint10
import Derived.Shelf.Strconv.ParseUint10Empty
import Derived.Shelf.Strconv.ParseUint10Any
import Derived.Shelf.Strconv.ParseInt10
import Derived.Shelf.Strconv.RangeError
import Derived.Shelf.Strconv.ToErrorRange
import Derived.Shelf.Strconv.ParseUintEmpty
import Derived.Shelf.Strconv.ParseUint10b64
import Derived.Shelf.Strconv.ParseUint10b32
import Derived.Shelf.Strconv.ParseUint10b16
import Derived.Shelf.Strconv.ParseUint10b8
import Derived.Shelf.Strconv.ParseUint10At
import Derived.Shelf.Strconv.ParseInt10At64
import Derived.Shelf.Strconv.ParseInt10At32
import Derived.Shelf.Strconv.ParseInt10At16
import Derived.Shelf.Strconv.ParseInt10At8
import Derived.Shelf.Strconv.ParseInt10All
import Derived.Shelf.Strconv.ParseIntPublic10
import Derived.Shelf.Strconv.ErrVarParseInt
import Derived.Shelf.Strings.Search1
import Derived.Shelf.Strings.Search2
import Derived.Shelf.Strings.Search3
import Derived.Shelf.Strings.Cut
import Derived.Shelf.Strings.Count
import Derived.Shelf.Strings.Shaped
import Derived.Shelf.Strings.Prefix
import Derived.Shelf.Strings.Split
import Derived.Shelf.Strings.SplitShaped
import Derived.Shelf.Unicode.Decode
import Derived.Shelf.Strings.RuneCount
import Derived.Shelf.Strings.Explode
import Derived.Shelf.Bits.Mul64
import Derived.Shelf.Unicode.DecodeSlow
import Derived.Shelf.Unicode.DecodeAny
import Derived.Ground.SlgnProg
import Derived.Shelf.SlicesG.Clone
import Derived.Shelf.SlicesG.CompactI
import Derived.Shelf.SlicesG.SearchI
import Derived.Shelf.SlicesG.Cells
import Derived.Shelf.SlicesE.Clone
import Derived.Ground.SlgcProg
import Derived.Shelf.SlicesG.Cmp
import Derived.Ground.SlgmProg
import Derived.Shelf.SortM.Plain
import Derived.Shelf.SortM.SortNone
import Derived.Test.YtanlgnjgpbjebaaGreatDoorProg
import Derived.Lib.AppendIntMem
import Derived.WalkSmall
import Derived.StillTailTactics
import Derived.Lib.QuietBelow
import Derived.BigQuiet
import Derived.Laws.Cover1
import Derived.Deep.QuietTactic
import Derived.IntWalk
import Derived.LaidMore
import Derived.LaidLaws
import Derived.HandedShaped
import Derived.Stop.LaidErr
import Derived.Lib.LaidTab
import Derived.Test.YtanlgnjgpbjebaaGreatDoorTie
import Derived.Test.YtanlgnjgpbjebaaGreatDoorCards
import Derived.Outline
import Derived.Deep.RegionLaw
import Derived.Deep.Slices
import Derived.Deep.Fields
import Derived.ChangeSame
import Derived.ChangeOld
import Derived.Lib.ParseIntB
import Derived.Lib.ItoaNum
import Derived.Lib.Strings
import Derived.Deep.RegionHeld3
import Derived.Lib.ItoaLen
set_option linter.unusedVariables false
set_option linter.unusedSimpArgs false
namespace Go.Proofs.YtanlgnjgpbjebaaGreatDoor.lawDifferenceStates
open Go.ChangeShapes Go.WideShapes Go.ChangeAt Go.RowKit
set_option linter.unusedVariables false

theorem own : ownKnob Tryz.prog.godebug = none := by kernel_rfl
theorem laidOut : laidOutB Tryz.prog = true := fact_laid

theorem shape_L {v : Value} {d : DL} {w : World} {lo hi : Nat} (h : ArgL w lo hi v d) : ∃ (p0 : Int) (p1 : Int) (pA2 : Option Addr) (pn2 pc2 : Nat) (pA3 : Option Addr) (pn3 pc3 : Nat), v = .agg #[.int .i64 p0, .int .i64 p1, .slice pA2 pn2 pc2, .slice pA3 pn3 pc3] := by
  obtain ⟨x, rfl, h⟩ := h
  obtain ⟨A2, n2, c2, e2⟩ := h.2.2.1.shape
  obtain ⟨A3, n3, c3, e3⟩ := h.2.2.2.shape
  rw [e2, e3]
  exact ⟨_, _, _, _, _, _, _, _, rfl⟩

set_option maxHeartbeats 3200000 in
set_option maxRecDepth 100000 in
theorem walk (v0 : Value) (d0 : DN) (v1 : Value) (d1 : DN) (v2 : Value) (d2 : DL) (w : World) (he : Env w) (h0 : ArgN w 0 w.heap.size v0 d0) (h1 : ArgN w 0 w.heap.size v1 d1) (h2 : ArgL w 0 w.heap.size v2 d2) :
    Calls Tryz.prog 10 #[v0, v1, v2] w fun e w' => e = .returned (.bool true) ∧ Below w.heap.size w w' := by
  obtain ⟨p2_0, p2_1, p2_A2, p2_n2, p2_c2, p2_A3, p2_n3, p2_c3, rfl⟩ := shape_L h2
  have bel : Below w.heap.size w (w.alloc (.cells #[.int .i64 p2_0, .int .i64 p2_1, .slice p2_A2 p2_n2 p2_c2, .slice p2_A3 p2_n3 p2_c3] 26)) := ((Below.refl w.heap.size w).alloc (Nat.le_refl _) _)
  have k2_ : (w.alloc (.cells #[.int .i64 p2_0, .int .i64 p2_1, .slice p2_A2 p2_n2 p2_c2, .slice p2_A3 p2_n3 p2_c3] 26)).heap[w.heap.size]? = some (.cells #[.int .i64 p2_0, .int .i64 p2_1, .slice p2_A2 p2_n2 p2_c2, .slice p2_A3 p2_n3 p2_c3] 26 (0, 0)) := by
    have h := heap_alloc_new w (.cells #[.int .i64 p2_0, .int .i64 p2_1, .slice p2_A2 p2_n2 p2_c2, .slice p2_A3 p2_n3 p2_c3] 26)
    exact h
  have hz2 : w.heap.size < (w.alloc (.cells #[.int .i64 p2_0, .int .i64 p2_1, .slice p2_A2 p2_n2 p2_c2, .slice p2_A3 p2_n3 p2_c3] 26)).heap.size := by simp only [World.size_alloc]; omega
  replace h0 := h0.below bel (.inr (Nat.le_refl _))
  replace h1 := h1.below bel (.inr (Nat.le_refl _))
  replace h2 := h2.below bel (.inr (Nat.le_refl _))
  have he0 := he
  replace he := he.below bel (Nat.le_refl _)
  have sz0 := fun (W : World) (B : Nat) (hW : Below B (w.alloc (.cells #[.int .i64 p2_0, .int .i64 p2_1, .slice p2_A2 p2_n2 p2_c2, .slice p2_A3 p2_n3 p2_c3] 26)) W) (hB : (w.alloc (.cells #[.int .i64 p2_0, .int .i64 p2_1, .slice p2_A2 p2_n2 p2_c2, .slice p2_A3 p2_n3 p2_c3] 26)).heap.size ≤ B) => szNodeS_u (left := 1048576) (h0.below hW (.inr hB)) (by omega) (by omega)
  by_cases big0 : 1048576 < (totN d0 : Int)
  · simp only [szLeft_big big0] at sz0
    replace sz0 := hide sz0
    clear h0 h1 h2
    go_enter Tryz.func10, Tryz.ntmps10
    go_wp2_with fail
    generalize (w.alloc (.cells #[.int .i64 p2_0, .int .i64 p2_1, .slice p2_A2 p2_n2 p2_c2, .slice p2_A3 p2_n3 p2_c3] 26)) = w0 at *
    have sb := Below.refl w0.heap.size w0
    have ck2_0 : w0.cell? ⟨w.heap.size, 0, none⟩ = some (.int .i64 p2_0) := (cell_of_row _ _ 0 _ _ (0, 0) k2_).trans rfl
    have ck2_1 : w0.cell? ⟨w.heap.size, 1, none⟩ = some (.int .i64 p2_1) := (cell_of_row _ _ 1 _ _ (0, 0) k2_).trans rfl
    have ck2_2 : w0.cell? ⟨w.heap.size, 2, none⟩ = some (.slice p2_A2 p2_n2 p2_c2) := (cell_of_row _ _ 2 _ _ (0, 0) k2_).trans rfl
    have ck2_3 : w0.cell? ⟨w.heap.size, 3, none⟩ = some (.slice p2_A3 p2_n3 p2_c3) := (cell_of_row _ _ 3 _ _ (0, 0) k2_).trans rfl
    refine (sz0.out _ _ sb (Nat.le_refl _)).mono ?_
    rintro e s0 ⟨rfl, hb⟩
    replace sb := sb.trans (hb.mono sb.size)
    clear ck2_0 ck2_1 ck2_2 ck2_3
    replace k2_ := (hb.block _ hz2).trans k2_
    replace hz2 := Nat.lt_of_lt_of_le hz2 hb.size
    replace bel := bel.trans (hb.mono bel.size)
    have zzs0 := hb.size
    clear hb
    have ck2_0 : s0.cell? ⟨w.heap.size, 0, none⟩ = some (.int .i64 p2_0) := (cell_of_row _ _ 0 _ _ (0, 0) k2_).trans rfl
    have ck2_1 : s0.cell? ⟨w.heap.size, 1, none⟩ = some (.int .i64 p2_1) := (cell_of_row _ _ 1 _ _ (0, 0) k2_).trans rfl
    have ck2_2 : s0.cell? ⟨w.heap.size, 2, none⟩ = some (.slice p2_A2 p2_n2 p2_c2) := (cell_of_row _ _ 2 _ _ (0, 0) k2_).trans rfl
    have ck2_3 : s0.cell? ⟨w.heap.size, 3, none⟩ = some (.slice p2_A3 p2_n3 p2_c3) := (cell_of_row _ _ 3 _ _ (0, 0) k2_).trans rfl
    go_wp2_with fail
    go_ret
    exact ⟨rfl, bel⟩
  simp only [szLeft_fits big0] at sz0
  replace sz0 := hide sz0
  have ns0 : totN d0 ≤ 1048576 := by omega
  have nl0 : ¬ 1048576 - (totN d0 : Int) < 0 := by omega
  have sz1 := fun (W : World) (B : Nat) (hW : Below B (w.alloc (.cells #[.int .i64 p2_0, .int .i64 p2_1, .slice p2_A2 p2_n2 p2_c2, .slice p2_A3 p2_n3 p2_c3] 26)) W) (hB : (w.alloc (.cells #[.int .i64 p2_0, .int .i64 p2_1, .slice p2_A2 p2_n2 p2_c2, .slice p2_A3 p2_n3 p2_c3] 26)).heap.size ≤ B) => szNodeS_u (left := 1048576 - (totN d0 : Int)) (h1.below hW (.inr hB)) (by omega) (by omega)
  by_cases big1 : 1048576 - (totN d0 : Int) < (totN d1 : Int)
  · simp only [szLeft_big big1] at sz1
    replace sz1 := hide sz1
    clear h0 h1 h2
    go_enter Tryz.func10, Tryz.ntmps10
    go_wp2_with fail
    generalize (w.alloc (.cells #[.int .i64 p2_0, .int .i64 p2_1, .slice p2_A2 p2_n2 p2_c2, .slice p2_A3 p2_n3 p2_c3] 26)) = w0 at *
    have sb := Below.refl w0.heap.size w0
    have ck2_0 : w0.cell? ⟨w.heap.size, 0, none⟩ = some (.int .i64 p2_0) := (cell_of_row _ _ 0 _ _ (0, 0) k2_).trans rfl
    have ck2_1 : w0.cell? ⟨w.heap.size, 1, none⟩ = some (.int .i64 p2_1) := (cell_of_row _ _ 1 _ _ (0, 0) k2_).trans rfl
    have ck2_2 : w0.cell? ⟨w.heap.size, 2, none⟩ = some (.slice p2_A2 p2_n2 p2_c2) := (cell_of_row _ _ 2 _ _ (0, 0) k2_).trans rfl
    have ck2_3 : w0.cell? ⟨w.heap.size, 3, none⟩ = some (.slice p2_A3 p2_n3 p2_c3) := (cell_of_row _ _ 3 _ _ (0, 0) k2_).trans rfl
    refine (sz0.out _ _ sb (Nat.le_refl _)).mono ?_
    rintro e s0 ⟨rfl, hb⟩
    replace sb := sb.trans (hb.mono sb.size)
    clear ck2_0 ck2_1 ck2_2 ck2_3
    replace k2_ := (hb.block _ hz2).trans k2_
    replace hz2 := Nat.lt_of_lt_of_le hz2 hb.size
    replace bel := bel.trans (hb.mono bel.size)
    have zzs0 := hb.size
    clear hb
    have ck2_0 : s0.cell? ⟨w.heap.size, 0, none⟩ = some (.int .i64 p2_0) := (cell_of_row _ _ 0 _ _ (0, 0) k2_).trans rfl
    have ck2_1 : s0.cell? ⟨w.heap.size, 1, none⟩ = some (.int .i64 p2_1) := (cell_of_row _ _ 1 _ _ (0, 0) k2_).trans rfl
    have ck2_2 : s0.cell? ⟨w.heap.size, 2, none⟩ = some (.slice p2_A2 p2_n2 p2_c2) := (cell_of_row _ _ 2 _ _ (0, 0) k2_).trans rfl
    have ck2_3 : s0.cell? ⟨w.heap.size, 3, none⟩ = some (.slice p2_A3 p2_n3 p2_c3) := (cell_of_row _ _ 3 _ _ (0, 0) k2_).trans rfl
    go_wp2_with fail
    refine (sz1.out _ _ sb (Nat.le_refl _)).mono ?_
    rintro e s1 ⟨rfl, hb⟩
    replace sb := sb.trans (hb.mono sb.size)
    clear ck2_0 ck2_1 ck2_2 ck2_3
    replace k2_ := (hb.block _ hz2).trans k2_
    replace hz2 := Nat.lt_of_lt_of_le hz2 hb.size
    replace bel := bel.trans (hb.mono bel.size)
    have zzs1 := hb.size
    clear hb
    have ck2_0 : s1.cell? ⟨w.heap.size, 0, none⟩ = some (.int .i64 p2_0) := (cell_of_row _ _ 0 _ _ (0, 0) k2_).trans rfl
    have ck2_1 : s1.cell? ⟨w.heap.size, 1, none⟩ = some (.int .i64 p2_1) := (cell_of_row _ _ 1 _ _ (0, 0) k2_).trans rfl
    have ck2_2 : s1.cell? ⟨w.heap.size, 2, none⟩ = some (.slice p2_A2 p2_n2 p2_c2) := (cell_of_row _ _ 2 _ _ (0, 0) k2_).trans rfl
    have ck2_3 : s1.cell? ⟨w.heap.size, 3, none⟩ = some (.slice p2_A3 p2_n3 p2_c3) := (cell_of_row _ _ 3 _ _ (0, 0) k2_).trans rfl
    go_wp2_with fail
    go_ret
    exact ⟨rfl, bel⟩
  simp only [szLeft_fits big1] at sz1
  replace sz1 := hide sz1
  have ns1 : totN d1 ≤ 1048576 := by omega
  have nl1 : ¬ 1048576 - (totN d0 : Int) - (totN d1 : Int) < 0 := by omega
  have sz2 := fun (W : World) (B : Nat) (hW : Below B (w.alloc (.cells #[.int .i64 p2_0, .int .i64 p2_1, .slice p2_A2 p2_n2 p2_c2, .slice p2_A3 p2_n3 p2_c3] 26)) W) (hB : (w.alloc (.cells #[.int .i64 p2_0, .int .i64 p2_1, .slice p2_A2 p2_n2 p2_c2, .slice p2_A3 p2_n3 p2_c3] 26)).heap.size ≤ B) => szLts_u (left := 1048576 - (totN d0 : Int) - (totN d1 : Int)) (h2.below hW (.inr hB)) (by omega) (by omega)
  by_cases big2 : 1048576 - (totN d0 : Int) - (totN d1 : Int) < (totL d2 : Int)
  · simp only [szLeft_big big2] at sz2
    replace sz2 := hide sz2
    clear h0 h1 h2
    go_enter Tryz.func10, Tryz.ntmps10
    go_wp2_with fail
    generalize (w.alloc (.cells #[.int .i64 p2_0, .int .i64 p2_1, .slice p2_A2 p2_n2 p2_c2, .slice p2_A3 p2_n3 p2_c3] 26)) = w0 at *
    have sb := Below.refl w0.heap.size w0
    have ck2_0 : w0.cell? ⟨w.heap.size, 0, none⟩ = some (.int .i64 p2_0) := (cell_of_row _ _ 0 _ _ (0, 0) k2_).trans rfl
    have ck2_1 : w0.cell? ⟨w.heap.size, 1, none⟩ = some (.int .i64 p2_1) := (cell_of_row _ _ 1 _ _ (0, 0) k2_).trans rfl
    have ck2_2 : w0.cell? ⟨w.heap.size, 2, none⟩ = some (.slice p2_A2 p2_n2 p2_c2) := (cell_of_row _ _ 2 _ _ (0, 0) k2_).trans rfl
    have ck2_3 : w0.cell? ⟨w.heap.size, 3, none⟩ = some (.slice p2_A3 p2_n3 p2_c3) := (cell_of_row _ _ 3 _ _ (0, 0) k2_).trans rfl
    refine (sz0.out _ _ sb (Nat.le_refl _)).mono ?_
    rintro e s0 ⟨rfl, hb⟩
    replace sb := sb.trans (hb.mono sb.size)
    clear ck2_0 ck2_1 ck2_2 ck2_3
    replace k2_ := (hb.block _ hz2).trans k2_
    replace hz2 := Nat.lt_of_lt_of_le hz2 hb.size
    replace bel := bel.trans (hb.mono bel.size)
    have zzs0 := hb.size
    clear hb
    have ck2_0 : s0.cell? ⟨w.heap.size, 0, none⟩ = some (.int .i64 p2_0) := (cell_of_row _ _ 0 _ _ (0, 0) k2_).trans rfl
    have ck2_1 : s0.cell? ⟨w.heap.size, 1, none⟩ = some (.int .i64 p2_1) := (cell_of_row _ _ 1 _ _ (0, 0) k2_).trans rfl
    have ck2_2 : s0.cell? ⟨w.heap.size, 2, none⟩ = some (.slice p2_A2 p2_n2 p2_c2) := (cell_of_row _ _ 2 _ _ (0, 0) k2_).trans rfl
    have ck2_3 : s0.cell? ⟨w.heap.size, 3, none⟩ = some (.slice p2_A3 p2_n3 p2_c3) := (cell_of_row _ _ 3 _ _ (0, 0) k2_).trans rfl
    go_wp2_with fail
    refine (sz1.out _ _ sb (Nat.le_refl _)).mono ?_
    rintro e s1 ⟨rfl, hb⟩
    replace sb := sb.trans (hb.mono sb.size)
    clear ck2_0 ck2_1 ck2_2 ck2_3
    replace k2_ := (hb.block _ hz2).trans k2_
    replace hz2 := Nat.lt_of_lt_of_le hz2 hb.size
    replace bel := bel.trans (hb.mono bel.size)
    have zzs1 := hb.size
    clear hb
    have ck2_0 : s1.cell? ⟨w.heap.size, 0, none⟩ = some (.int .i64 p2_0) := (cell_of_row _ _ 0 _ _ (0, 0) k2_).trans rfl
    have ck2_1 : s1.cell? ⟨w.heap.size, 1, none⟩ = some (.int .i64 p2_1) := (cell_of_row _ _ 1 _ _ (0, 0) k2_).trans rfl
    have ck2_2 : s1.cell? ⟨w.heap.size, 2, none⟩ = some (.slice p2_A2 p2_n2 p2_c2) := (cell_of_row _ _ 2 _ _ (0, 0) k2_).trans rfl
    have ck2_3 : s1.cell? ⟨w.heap.size, 3, none⟩ = some (.slice p2_A3 p2_n3 p2_c3) := (cell_of_row _ _ 3 _ _ (0, 0) k2_).trans rfl
    go_wp2_with fail
    refine (sz2.out _ _ sb (Nat.le_refl _)).mono ?_
    rintro e s2 ⟨rfl, hb⟩
    replace sb := sb.trans (hb.mono sb.size)
    clear ck2_0 ck2_1 ck2_2 ck2_3
    replace k2_ := (hb.block _ hz2).trans k2_
    replace hz2 := Nat.lt_of_lt_of_le hz2 hb.size
    replace bel := bel.trans (hb.mono bel.size)
    have zzs2 := hb.size
    clear hb
    have ck2_0 : s2.cell? ⟨w.heap.size, 0, none⟩ = some (.int .i64 p2_0) := (cell_of_row _ _ 0 _ _ (0, 0) k2_).trans rfl
    have ck2_1 : s2.cell? ⟨w.heap.size, 1, none⟩ = some (.int .i64 p2_1) := (cell_of_row _ _ 1 _ _ (0, 0) k2_).trans rfl
    have ck2_2 : s2.cell? ⟨w.heap.size, 2, none⟩ = some (.slice p2_A2 p2_n2 p2_c2) := (cell_of_row _ _ 2 _ _ (0, 0) k2_).trans rfl
    have ck2_3 : s2.cell? ⟨w.heap.size, 3, none⟩ = some (.slice p2_A3 p2_n3 p2_c3) := (cell_of_row _ _ 3 _ _ (0, 0) k2_).trans rfl
    go_wp2_with fail
    go_ret
    exact ⟨rfl, bel⟩
  simp only [szLeft_fits big2] at sz2
  replace sz2 := hide sz2
  have ns2 : totL d2 ≤ 1048576 := by omega
  have nl2 : ¬ 1048576 - (totN d0 : Int) - (totN d1 : Int) - (totL d2 : Int) < 0 := by omega
  go_enter Tryz.func10, Tryz.ntmps10
  go_wp2_with fail
  generalize (w.alloc (.cells #[.int .i64 p2_0, .int .i64 p2_1, .slice p2_A2 p2_n2 p2_c2, .slice p2_A3 p2_n3 p2_c3] 26)) = w0 at *
  have zzb2 := hz2
  have zzbel := bel.size
  have sb := Below.refl w0.heap.size w0
  have ck2_0 : w0.cell? ⟨w.heap.size, 0, none⟩ = some (.int .i64 p2_0) := (cell_of_row _ _ 0 _ _ (0, 0) k2_).trans rfl
  have ck2_1 : w0.cell? ⟨w.heap.size, 1, none⟩ = some (.int .i64 p2_1) := (cell_of_row _ _ 1 _ _ (0, 0) k2_).trans rfl
  have ck2_2 : w0.cell? ⟨w.heap.size, 2, none⟩ = some (.slice p2_A2 p2_n2 p2_c2) := (cell_of_row _ _ 2 _ _ (0, 0) k2_).trans rfl
  have ck2_3 : w0.cell? ⟨w.heap.size, 3, none⟩ = some (.slice p2_A3 p2_n3 p2_c3) := (cell_of_row _ _ 3 _ _ (0, 0) k2_).trans rfl
  refine (sz0.out _ _ sb (Nat.le_refl _)).mono ?_
  rintro e w1 ⟨rfl, hb⟩
  replace sb := sb.trans (hb.mono sb.size)
  clear ck2_0 ck2_1 ck2_2 ck2_3
  replace k2_ := (hb.block _ hz2).trans k2_
  replace hz2 := Nat.lt_of_lt_of_le hz2 hb.size
  replace h0 := h0.below hb (.inr (Nat.le_refl _))
  replace h1 := h1.below hb (.inr (Nat.le_refl _))
  replace h2 := h2.below hb (.inr (Nat.le_refl _))
  replace he := he.below hb (Nat.le_refl _)
  replace bel := bel.trans (hb.mono bel.size)
  have zzw1 := hb.size
  clear hb
  have ck2_0 : w1.cell? ⟨w.heap.size, 0, none⟩ = some (.int .i64 p2_0) := (cell_of_row _ _ 0 _ _ (0, 0) k2_).trans rfl
  have ck2_1 : w1.cell? ⟨w.heap.size, 1, none⟩ = some (.int .i64 p2_1) := (cell_of_row _ _ 1 _ _ (0, 0) k2_).trans rfl
  have ck2_2 : w1.cell? ⟨w.heap.size, 2, none⟩ = some (.slice p2_A2 p2_n2 p2_c2) := (cell_of_row _ _ 2 _ _ (0, 0) k2_).trans rfl
  have ck2_3 : w1.cell? ⟨w.heap.size, 3, none⟩ = some (.slice p2_A3 p2_n3 p2_c3) := (cell_of_row _ _ 3 _ _ (0, 0) k2_).trans rfl
  go_wp2_with fail
  refine (sz1.out _ _ sb (Nat.le_refl _)).mono ?_
  rintro e w2 ⟨rfl, hb⟩
  replace sb := sb.trans (hb.mono sb.size)
  clear ck2_0 ck2_1 ck2_2 ck2_3
  replace k2_ := (hb.block _ hz2).trans k2_
  replace hz2 := Nat.lt_of_lt_of_le hz2 hb.size
  replace h0 := h0.below hb (.inr (Nat.le_refl _))
  replace h1 := h1.below hb (.inr (Nat.le_refl _))
  replace h2 := h2.below hb (.inr (Nat.le_refl _))
  replace he := he.below hb (Nat.le_refl _)
  replace bel := bel.trans (hb.mono bel.size)
  have zzw2 := hb.size
  clear hb
  have ck2_0 : w2.cell? ⟨w.heap.size, 0, none⟩ = some (.int .i64 p2_0) := (cell_of_row _ _ 0 _ _ (0, 0) k2_).trans rfl
  have ck2_1 : w2.cell? ⟨w.heap.size, 1, none⟩ = some (.int .i64 p2_1) := (cell_of_row _ _ 1 _ _ (0, 0) k2_).trans rfl
  have ck2_2 : w2.cell? ⟨w.heap.size, 2, none⟩ = some (.slice p2_A2 p2_n2 p2_c2) := (cell_of_row _ _ 2 _ _ (0, 0) k2_).trans rfl
  have ck2_3 : w2.cell? ⟨w.heap.size, 3, none⟩ = some (.slice p2_A3 p2_n3 p2_c3) := (cell_of_row _ _ 3 _ _ (0, 0) k2_).trans rfl
  go_wp2_with fail
  refine (sz2.out _ _ sb (Nat.le_refl _)).mono ?_
  rintro e w3 ⟨rfl, hb⟩
  replace sb := sb.trans (hb.mono sb.size)
  clear ck2_0 ck2_1 ck2_2 ck2_3
  replace k2_ := (hb.block _ hz2).trans k2_
  replace hz2 := Nat.lt_of_lt_of_le hz2 hb.size
  replace h0 := h0.below hb (.inr (Nat.le_refl _))
  replace h1 := h1.below hb (.inr (Nat.le_refl _))
  replace h2 := h2.below hb (.inr (Nat.le_refl _))
  replace he := he.below hb (Nat.le_refl _)
  replace bel := bel.trans (hb.mono bel.size)
  have zzw3 := hb.size
  clear hb
  have ck2_0 : w3.cell? ⟨w.heap.size, 0, none⟩ = some (.int .i64 p2_0) := (cell_of_row _ _ 0 _ _ (0, 0) k2_).trans rfl
  have ck2_1 : w3.cell? ⟨w.heap.size, 1, none⟩ = some (.int .i64 p2_1) := (cell_of_row _ _ 1 _ _ (0, 0) k2_).trans rfl
  have ck2_2 : w3.cell? ⟨w.heap.size, 2, none⟩ = some (.slice p2_A2 p2_n2 p2_c2) := (cell_of_row _ _ 2 _ _ (0, 0) k2_).trans rfl
  have ck2_3 : w3.cell? ⟨w.heap.size, 3, none⟩ = some (.slice p2_A3 p2_n3 p2_c3) := (cell_of_row _ _ 3 _ _ (0, 0) k2_).trans rfl
  clear sb sz0 sz1 sz2
  go_wp2_with fail
  have hD : Below w3.heap.size w3 w3.drew := (Below.refl _ _).drew
  replace k2_ := hide k2_
  go_cut [8, 9] (fun a0 a1 wx => ∃ (u0 : Value) (z0 : Nat), a0 = u0 ∧ a1 = .int .i64 (difF d0 d1 d2).2 ∧ w3.heap.size ≤ z0 ∧ ResI wx z0 wx.heap.size u0 (difF d0 d1 d2).1 ∧ Below w3.heap.size w3 wx)
  case first =>
    go_region_law (first
      | (go_simp; go_at_call 15; (with_reducible refine (toNodeS_u (h0.below hD (.inr (Nat.le_refl _))) ns0).mono ?_); rintro e ys0 ⟨us0, rfl, s0, hbs0⟩; have hxs0 := hD.trans (hbs0); have zys0 := hbs0.size; have ek2_0 : ys0.cell? ⟨w.heap.size, 0, none⟩ = some (.int .i64 p2_0) := (cell_of_row _ _ 0 _ _ (0, 0) ((hxs0.block _ hz2).trans k2_.out)).trans rfl; have ek2_1 : ys0.cell? ⟨w.heap.size, 1, none⟩ = some (.int .i64 p2_1) := (cell_of_row _ _ 1 _ _ (0, 0) ((hxs0.block _ hz2).trans k2_.out)).trans rfl; have ek2_2 : ys0.cell? ⟨w.heap.size, 2, none⟩ = some (.slice p2_A2 p2_n2 p2_c2) := (cell_of_row _ _ 2 _ _ (0, 0) ((hxs0.block _ hz2).trans k2_.out)).trans rfl; have ek2_3 : ys0.cell? ⟨w.heap.size, 3, none⟩ = some (.slice p2_A3 p2_n3 p2_c3) := (cell_of_row _ _ 3 _ _ (0, 0) ((hxs0.block _ hz2).trans k2_.out)).trans rfl; have qs1 := hide (toNodeS_u (h1.below hxs0 (.inr (Nat.le_refl _))) ns1))
      | (go_simp; go_at_call 15; (with_reducible refine qs1.out.mono ?_); rintro e ys1 ⟨us1, rfl, s1, hbs1⟩; have hxs1 := hxs0.trans (hbs1.mono hxs0.size); have zys1 := hbs1.size; have ek2_0 : ys1.cell? ⟨w.heap.size, 0, none⟩ = some (.int .i64 p2_0) := (cell_of_row _ _ 0 _ _ (0, 0) ((hxs1.block _ hz2).trans k2_.out)).trans rfl; have ek2_1 : ys1.cell? ⟨w.heap.size, 1, none⟩ = some (.int .i64 p2_1) := (cell_of_row _ _ 1 _ _ (0, 0) ((hxs1.block _ hz2).trans k2_.out)).trans rfl; have ek2_2 : ys1.cell? ⟨w.heap.size, 2, none⟩ = some (.slice p2_A2 p2_n2 p2_c2) := (cell_of_row _ _ 2 _ _ (0, 0) ((hxs1.block _ hz2).trans k2_.out)).trans rfl; have ek2_3 : ys1.cell? ⟨w.heap.size, 3, none⟩ = some (.slice p2_A3 p2_n3 p2_c3) := (cell_of_row _ _ 3 _ _ (0, 0) ((hxs1.block _ hz2).trans k2_.out)).trans rfl; replace s0 := s0.below hbs1 (.inr (Nat.le_refl _)); have qs2 := hide (toLts_u (h2.below hxs1 (.inr (Nat.le_refl _))) ns2))
      | (go_simp; go_at_call 16; (with_reducible refine qs2.out.mono ?_); rintro e ys2 ⟨us2, rfl, s2, hbs2⟩; have hxs2 := hxs1.trans (hbs2.mono hxs1.size); have zys2 := hbs2.size; replace s0 := s0.below hbs2 (.inr (Nat.le_refl _)); replace s1 := s1.below hbs2 (.inr (Nat.le_refl _)); have qsF := hide (specDifferenceStates_u (w := ys2) (he.below hxs2 (Nat.le_refl _)) s0 (by omega) s1 (by omega) s2 (by omega)))
      | (go_simp; go_at_call 38; (with_reducible refine qsF.out.mono ?_); rintro e yF ⟨uw0, rfl, rw0, hbF⟩; have hxF := hxs2.trans (hbF.mono hxs2.size)))
    all_goals (go_wp2_with fail; go_meet)
    all_goals exact ⟨_, ys2.heap.size, rfl, rfl, hxs2.size, rw0, hxF⟩
  case rest =>
  obtain ⟨uw0, zzw0, rfl, rfl, hzzw0, rw0, hb⟩ := hcut
  generalize wc = w4 at *
  clear hD
  replace k2_ := k2_.out
  clear ck2_0 ck2_1 ck2_2 ck2_3
  replace k2_ := (hb.block _ hz2).trans k2_
  replace hz2 := Nat.lt_of_lt_of_le hz2 hb.size
  replace h0 := h0.below hb (.inr (Nat.le_refl _))
  replace h1 := h1.below hb (.inr (Nat.le_refl _))
  replace h2 := h2.below hb (.inr (Nat.le_refl _))
  replace he := he.below hb (Nat.le_refl _)
  replace bel := bel.trans (hb.mono bel.size)
  have zzw4 := hb.size
  clear hb
  have ck2_0 : w4.cell? ⟨w.heap.size, 0, none⟩ = some (.int .i64 p2_0) := (cell_of_row _ _ 0 _ _ (0, 0) k2_).trans rfl
  have ck2_1 : w4.cell? ⟨w.heap.size, 1, none⟩ = some (.int .i64 p2_1) := (cell_of_row _ _ 1 _ _ (0, 0) k2_).trans rfl
  have ck2_2 : w4.cell? ⟨w.heap.size, 2, none⟩ = some (.slice p2_A2 p2_n2 p2_c2) := (cell_of_row _ _ 2 _ _ (0, 0) k2_).trans rfl
  have ck2_3 : w4.cell? ⟨w.heap.size, 3, none⟩ = some (.slice p2_A3 p2_n3 p2_c3) := (cell_of_row _ _ 3 _ _ (0, 0) k2_).trans rfl
  go_wp2_with fail
  refine (toNodeS_u h0 ns0).mono ?_
  rintro e w5 ⟨ux0, rfl, x0, hb⟩
  clear ck2_0 ck2_1 ck2_2 ck2_3
  replace k2_ := (hb.block _ hz2).trans k2_
  replace hz2 := Nat.lt_of_lt_of_le hz2 hb.size
  replace h0 := h0.below hb (.inr (Nat.le_refl _))
  replace h1 := h1.below hb (.inr (Nat.le_refl _))
  replace h2 := h2.below hb (.inr (Nat.le_refl _))
  replace he := he.below hb (Nat.le_refl _)
  replace rw0 := rw0.below hb (.inr (Nat.le_refl _))
  replace bel := bel.trans (hb.mono bel.size)
  have zzw5 := hb.size
  clear hb
  have ck2_0 : w5.cell? ⟨w.heap.size, 0, none⟩ = some (.int .i64 p2_0) := (cell_of_row _ _ 0 _ _ (0, 0) k2_).trans rfl
  have ck2_1 : w5.cell? ⟨w.heap.size, 1, none⟩ = some (.int .i64 p2_1) := (cell_of_row _ _ 1 _ _ (0, 0) k2_).trans rfl
  have ck2_2 : w5.cell? ⟨w.heap.size, 2, none⟩ = some (.slice p2_A2 p2_n2 p2_c2) := (cell_of_row _ _ 2 _ _ (0, 0) k2_).trans rfl
  have ck2_3 : w5.cell? ⟨w.heap.size, 3, none⟩ = some (.slice p2_A3 p2_n3 p2_c3) := (cell_of_row _ _ 3 _ _ (0, 0) k2_).trans rfl
  go_wp2_with fail
  refine (toNodeS_u h1 ns1).mono ?_
  rintro e w6 ⟨ux1, rfl, x1, hb⟩
  clear ck2_0 ck2_1 ck2_2 ck2_3
  replace k2_ := (hb.block _ hz2).trans k2_
  replace hz2 := Nat.lt_of_lt_of_le hz2 hb.size
  replace h0 := h0.below hb (.inr (Nat.le_refl _))
  replace h1 := h1.below hb (.inr (Nat.le_refl _))
  replace h2 := h2.below hb (.inr (Nat.le_refl _))
  replace he := he.below hb (Nat.le_refl _)
  replace rw0 := rw0.below hb (.inr (Nat.le_refl _))
  replace x0 := x0.below hb (.inr (Nat.le_refl _))
  replace bel := bel.trans (hb.mono bel.size)
  have zzw6 := hb.size
  clear hb
  have ck2_0 : w6.cell? ⟨w.heap.size, 0, none⟩ = some (.int .i64 p2_0) := (cell_of_row _ _ 0 _ _ (0, 0) k2_).trans rfl
  have ck2_1 : w6.cell? ⟨w.heap.size, 1, none⟩ = some (.int .i64 p2_1) := (cell_of_row _ _ 1 _ _ (0, 0) k2_).trans rfl
  have ck2_2 : w6.cell? ⟨w.heap.size, 2, none⟩ = some (.slice p2_A2 p2_n2 p2_c2) := (cell_of_row _ _ 2 _ _ (0, 0) k2_).trans rfl
  have ck2_3 : w6.cell? ⟨w.heap.size, 3, none⟩ = some (.slice p2_A3 p2_n3 p2_c3) := (cell_of_row _ _ 3 _ _ (0, 0) k2_).trans rfl
  go_wp2_with fail
  refine (toLts_u h2 ns2).mono ?_
  rintro e w7 ⟨ux2, rfl, x2, hb⟩
  clear ck2_0 ck2_1 ck2_2 ck2_3
  replace k2_ := (hb.block _ hz2).trans k2_
  replace hz2 := Nat.lt_of_lt_of_le hz2 hb.size
  replace h0 := h0.below hb (.inr (Nat.le_refl _))
  replace h1 := h1.below hb (.inr (Nat.le_refl _))
  replace h2 := h2.below hb (.inr (Nat.le_refl _))
  replace he := he.below hb (Nat.le_refl _)
  replace rw0 := rw0.below hb (.inr (Nat.le_refl _))
  replace x0 := x0.below hb (.inr (Nat.le_refl _))
  replace x1 := x1.below hb (.inr (Nat.le_refl _))
  replace bel := bel.trans (hb.mono bel.size)
  have zzw7 := hb.size
  clear hb
  have ck2_0 : w7.cell? ⟨w.heap.size, 0, none⟩ = some (.int .i64 p2_0) := (cell_of_row _ _ 0 _ _ (0, 0) k2_).trans rfl
  have ck2_1 : w7.cell? ⟨w.heap.size, 1, none⟩ = some (.int .i64 p2_1) := (cell_of_row _ _ 1 _ _ (0, 0) k2_).trans rfl
  have ck2_2 : w7.cell? ⟨w.heap.size, 2, none⟩ = some (.slice p2_A2 p2_n2 p2_c2) := (cell_of_row _ _ 2 _ _ (0, 0) k2_).trans rfl
  have ck2_3 : w7.cell? ⟨w.heap.size, 3, none⟩ = some (.slice p2_A3 p2_n3 p2_c3) := (cell_of_row _ _ 3 _ _ (0, 0) k2_).trans rfl
  obtain ⟨q2_0, q2_1, q2_A2, q2_n2, q2_c2, q2_A3, q2_n3, q2_c3, rfl⟩ := shape_L x2.1
  have hb : Below w7.heap.size w7 (w7.alloc (.cells #[.int .i64 q2_0, .int .i64 q2_1, .slice q2_A2 q2_n2 q2_c2, .slice q2_A3 q2_n3 q2_c3] 35)) := (Below.refl _ _).alloc (Nat.le_refl _) _
  have kx2 := heap_alloc_new w7 (.cells #[.int .i64 q2_0, .int .i64 q2_1, .slice q2_A2 q2_n2 q2_c2, .slice q2_A3 q2_n3 q2_c3] 35)
  have hzx2 : w7.heap.size < (w7.alloc (.cells #[.int .i64 q2_0, .int .i64 q2_1, .slice q2_A2 q2_n2 q2_c2, .slice q2_A3 q2_n3 q2_c3] 35)).heap.size := by rw [World.size_alloc]; omega
  clear ck2_0 ck2_1 ck2_2 ck2_3
  replace k2_ := (hb.block _ hz2).trans k2_
  replace hz2 := Nat.lt_of_lt_of_le hz2 hb.size
  replace h0 := h0.below hb (.inr (Nat.le_refl _))
  replace h1 := h1.below hb (.inr (Nat.le_refl _))
  replace h2 := h2.below hb (.inr (Nat.le_refl _))
  replace he := he.below hb (Nat.le_refl _)
  replace rw0 := rw0.below hb (.inr (Nat.le_refl _))
  replace x0 := x0.below hb (.inr (Nat.le_refl _))
  replace x1 := x1.below hb (.inr (Nat.le_refl _))
  replace x2 := x2.below hb (.inr (Nat.le_refl _))
  replace bel := bel.trans (hb.mono bel.size)
  have zzw8 := hb.size
  clear hb
  go_wp2_with fail
  generalize (w7.alloc (.cells #[.int .i64 q2_0, .int .i64 q2_1, .slice q2_A2 q2_n2 q2_c2, .slice q2_A3 q2_n3 q2_c3] 35)) = w8 at *
  generalize w7.heap.size = bx2 at *
  have ck2_0 : w8.cell? ⟨w.heap.size, 0, none⟩ = some (.int .i64 p2_0) := (cell_of_row _ _ 0 _ _ (0, 0) k2_).trans rfl
  have ck2_1 : w8.cell? ⟨w.heap.size, 1, none⟩ = some (.int .i64 p2_1) := (cell_of_row _ _ 1 _ _ (0, 0) k2_).trans rfl
  have ck2_2 : w8.cell? ⟨w.heap.size, 2, none⟩ = some (.slice p2_A2 p2_n2 p2_c2) := (cell_of_row _ _ 2 _ _ (0, 0) k2_).trans rfl
  have ck2_3 : w8.cell? ⟨w.heap.size, 3, none⟩ = some (.slice p2_A3 p2_n3 p2_c3) := (cell_of_row _ _ 3 _ _ (0, 0) k2_).trans rfl
  have ckx20 : w8.cell? ⟨bx2, 0, none⟩ = some (.int .i64 q2_0) := (cell_of_row _ _ 0 _ _ (0, 0) kx2).trans rfl
  have ckx21 : w8.cell? ⟨bx2, 1, none⟩ = some (.int .i64 q2_1) := (cell_of_row _ _ 1 _ _ (0, 0) kx2).trans rfl
  have ckx22 : w8.cell? ⟨bx2, 2, none⟩ = some (.slice q2_A2 q2_n2 q2_c2) := (cell_of_row _ _ 2 _ _ (0, 0) kx2).trans rfl
  have ckx23 : w8.cell? ⟨bx2, 3, none⟩ = some (.slice q2_A3 q2_n3 q2_c3) := (cell_of_row _ _ 3 _ _ (0, 0) kx2).trans rfl
  go_wp2_with fail
  refine (implDifferenceStates_u (w := w8) he x0 (by omega) x1 (by omega) x2 (by omega)).mono ?_
  rintro e w9 ⟨ug0, rfl, rg0, hb⟩
  clear ck2_0 ck2_1 ck2_2 ck2_3 ckx20 ckx21 ckx22 ckx23
  replace k2_ := (hb.block _ hz2).trans k2_
  replace hz2 := Nat.lt_of_lt_of_le hz2 hb.size
  replace kx2 := (hb.block _ hzx2).trans kx2
  replace hzx2 := Nat.lt_of_lt_of_le hzx2 hb.size
  replace h0 := h0.below hb (.inr (Nat.le_refl _))
  replace h1 := h1.below hb (.inr (Nat.le_refl _))
  replace h2 := h2.below hb (.inr (Nat.le_refl _))
  replace he := he.below hb (Nat.le_refl _)
  replace rw0 := rw0.below hb (.inr (Nat.le_refl _))
  replace x0 := x0.below hb (.inr (Nat.le_refl _))
  replace x1 := x1.below hb (.inr (Nat.le_refl _))
  replace x2 := x2.below hb (.inr (Nat.le_refl _))
  replace bel := bel.trans (hb.mono bel.size)
  have zzw9 := hb.size
  clear hb
  have ck2_0 : w9.cell? ⟨w.heap.size, 0, none⟩ = some (.int .i64 p2_0) := (cell_of_row _ _ 0 _ _ (0, 0) k2_).trans rfl
  have ck2_1 : w9.cell? ⟨w.heap.size, 1, none⟩ = some (.int .i64 p2_1) := (cell_of_row _ _ 1 _ _ (0, 0) k2_).trans rfl
  have ck2_2 : w9.cell? ⟨w.heap.size, 2, none⟩ = some (.slice p2_A2 p2_n2 p2_c2) := (cell_of_row _ _ 2 _ _ (0, 0) k2_).trans rfl
  have ck2_3 : w9.cell? ⟨w.heap.size, 3, none⟩ = some (.slice p2_A3 p2_n3 p2_c3) := (cell_of_row _ _ 3 _ _ (0, 0) k2_).trans rfl
  have ckx20 : w9.cell? ⟨bx2, 0, none⟩ = some (.int .i64 q2_0) := (cell_of_row _ _ 0 _ _ (0, 0) kx2).trans rfl
  have ckx21 : w9.cell? ⟨bx2, 1, none⟩ = some (.int .i64 q2_1) := (cell_of_row _ _ 1 _ _ (0, 0) kx2).trans rfl
  have ckx22 : w9.cell? ⟨bx2, 2, none⟩ = some (.slice q2_A2 q2_n2 q2_c2) := (cell_of_row _ _ 2 _ _ (0, 0) kx2).trans rfl
  have ckx23 : w9.cell? ⟨bx2, 3, none⟩ = some (.slice q2_A3 q2_n3 q2_c3) := (cell_of_row _ _ 3 _ _ (0, 0) kx2).trans rfl
  go_wp2_with fail
  refine (eqInt64S_u rg0 rw0).mono ?_
  rintro e w10 ⟨rfl, hb⟩
  clear ck2_0 ck2_1 ck2_2 ck2_3 ckx20 ckx21 ckx22 ckx23
  replace k2_ := (hb.block _ hz2).trans k2_
  replace hz2 := Nat.lt_of_lt_of_le hz2 hb.size
  replace kx2 := (hb.block _ hzx2).trans kx2
  replace hzx2 := Nat.lt_of_lt_of_le hzx2 hb.size
  replace h0 := h0.below hb (.inr (Nat.le_refl _))
  replace h1 := h1.below hb (.inr (Nat.le_refl _))
  replace h2 := h2.below hb (.inr (Nat.le_refl _))
  replace he := he.below hb (Nat.le_refl _)
  replace rw0 := rw0.below hb (.inr (Nat.le_refl _))
  replace x0 := x0.below hb (.inr (Nat.le_refl _))
  replace x1 := x1.below hb (.inr (Nat.le_refl _))
  replace x2 := x2.below hb (.inr (Nat.le_refl _))
  replace rg0 := rg0.below hb (.inr (Nat.le_refl _))
  replace bel := bel.trans (hb.mono bel.size)
  have zzw10 := hb.size
  clear hb
  have ck2_0 : w10.cell? ⟨w.heap.size, 0, none⟩ = some (.int .i64 p2_0) := (cell_of_row _ _ 0 _ _ (0, 0) k2_).trans rfl
  have ck2_1 : w10.cell? ⟨w.heap.size, 1, none⟩ = some (.int .i64 p2_1) := (cell_of_row _ _ 1 _ _ (0, 0) k2_).trans rfl
  have ck2_2 : w10.cell? ⟨w.heap.size, 2, none⟩ = some (.slice p2_A2 p2_n2 p2_c2) := (cell_of_row _ _ 2 _ _ (0, 0) k2_).trans rfl
  have ck2_3 : w10.cell? ⟨w.heap.size, 3, none⟩ = some (.slice p2_A3 p2_n3 p2_c3) := (cell_of_row _ _ 3 _ _ (0, 0) k2_).trans rfl
  have ckx20 : w10.cell? ⟨bx2, 0, none⟩ = some (.int .i64 q2_0) := (cell_of_row _ _ 0 _ _ (0, 0) kx2).trans rfl
  have ckx21 : w10.cell? ⟨bx2, 1, none⟩ = some (.int .i64 q2_1) := (cell_of_row _ _ 1 _ _ (0, 0) kx2).trans rfl
  have ckx22 : w10.cell? ⟨bx2, 2, none⟩ = some (.slice q2_A2 q2_n2 q2_c2) := (cell_of_row _ _ 2 _ _ (0, 0) kx2).trans rfl
  have ckx23 : w10.cell? ⟨bx2, 3, none⟩ = some (.slice q2_A3 q2_n3 q2_c3) := (cell_of_row _ _ 3 _ _ (0, 0) kx2).trans rfl
  go_wp2_with fail
  refine (toNodeS_u h0 ns0).mono ?_
  rintro e w11 ⟨ut0, rfl, t0, hb⟩
  clear ck2_0 ck2_1 ck2_2 ck2_3 ckx20 ckx21 ckx22 ckx23
  replace k2_ := (hb.block _ hz2).trans k2_
  replace hz2 := Nat.lt_of_lt_of_le hz2 hb.size
  replace kx2 := (hb.block _ hzx2).trans kx2
  replace hzx2 := Nat.lt_of_lt_of_le hzx2 hb.size
  replace h0 := h0.below hb (.inr (Nat.le_refl _))
  replace h1 := h1.below hb (.inr (Nat.le_refl _))
  replace h2 := h2.below hb (.inr (Nat.le_refl _))
  replace he := he.below hb (Nat.le_refl _)
  replace rw0 := rw0.below hb (.inr (Nat.le_refl _))
  replace x0 := x0.below hb (.inr (Nat.le_refl _))
  replace x1 := x1.below hb (.inr (Nat.le_refl _))
  replace x2 := x2.below hb (.inr (Nat.le_refl _))
  replace rg0 := rg0.below hb (.inr (Nat.le_refl _))
  replace bel := bel.trans (hb.mono bel.size)
  have zzw11 := hb.size
  clear hb
  have ck2_0 : w11.cell? ⟨w.heap.size, 0, none⟩ = some (.int .i64 p2_0) := (cell_of_row _ _ 0 _ _ (0, 0) k2_).trans rfl
  have ck2_1 : w11.cell? ⟨w.heap.size, 1, none⟩ = some (.int .i64 p2_1) := (cell_of_row _ _ 1 _ _ (0, 0) k2_).trans rfl
  have ck2_2 : w11.cell? ⟨w.heap.size, 2, none⟩ = some (.slice p2_A2 p2_n2 p2_c2) := (cell_of_row _ _ 2 _ _ (0, 0) k2_).trans rfl
  have ck2_3 : w11.cell? ⟨w.heap.size, 3, none⟩ = some (.slice p2_A3 p2_n3 p2_c3) := (cell_of_row _ _ 3 _ _ (0, 0) k2_).trans rfl
  have ckx20 : w11.cell? ⟨bx2, 0, none⟩ = some (.int .i64 q2_0) := (cell_of_row _ _ 0 _ _ (0, 0) kx2).trans rfl
  have ckx21 : w11.cell? ⟨bx2, 1, none⟩ = some (.int .i64 q2_1) := (cell_of_row _ _ 1 _ _ (0, 0) kx2).trans rfl
  have ckx22 : w11.cell? ⟨bx2, 2, none⟩ = some (.slice q2_A2 q2_n2 q2_c2) := (cell_of_row _ _ 2 _ _ (0, 0) kx2).trans rfl
  have ckx23 : w11.cell? ⟨bx2, 3, none⟩ = some (.slice q2_A3 q2_n3 q2_c3) := (cell_of_row _ _ 3 _ _ (0, 0) kx2).trans rfl
  go_wp2_with fail
  refine (eqNodeS_u x0 t0).mono ?_
  rintro e w12 ⟨rfl, hb⟩
  clear ck2_0 ck2_1 ck2_2 ck2_3 ckx20 ckx21 ckx22 ckx23
  replace k2_ := (hb.block _ hz2).trans k2_
  replace hz2 := Nat.lt_of_lt_of_le hz2 hb.size
  replace kx2 := (hb.block _ hzx2).trans kx2
  replace hzx2 := Nat.lt_of_lt_of_le hzx2 hb.size
  replace h0 := h0.below hb (.inr (Nat.le_refl _))
  replace h1 := h1.below hb (.inr (Nat.le_refl _))
  replace h2 := h2.below hb (.inr (Nat.le_refl _))
  replace he := he.below hb (Nat.le_refl _)
  replace rw0 := rw0.below hb (.inr (Nat.le_refl _))
  replace x0 := x0.below hb (.inr (Nat.le_refl _))
  replace x1 := x1.below hb (.inr (Nat.le_refl _))
  replace x2 := x2.below hb (.inr (Nat.le_refl _))
  replace rg0 := rg0.below hb (.inr (Nat.le_refl _))
  replace t0 := t0.below hb (.inr (Nat.le_refl _))
  replace bel := bel.trans (hb.mono bel.size)
  have zzw12 := hb.size
  clear hb
  have ck2_0 : w12.cell? ⟨w.heap.size, 0, none⟩ = some (.int .i64 p2_0) := (cell_of_row _ _ 0 _ _ (0, 0) k2_).trans rfl
  have ck2_1 : w12.cell? ⟨w.heap.size, 1, none⟩ = some (.int .i64 p2_1) := (cell_of_row _ _ 1 _ _ (0, 0) k2_).trans rfl
  have ck2_2 : w12.cell? ⟨w.heap.size, 2, none⟩ = some (.slice p2_A2 p2_n2 p2_c2) := (cell_of_row _ _ 2 _ _ (0, 0) k2_).trans rfl
  have ck2_3 : w12.cell? ⟨w.heap.size, 3, none⟩ = some (.slice p2_A3 p2_n3 p2_c3) := (cell_of_row _ _ 3 _ _ (0, 0) k2_).trans rfl
  have ckx20 : w12.cell? ⟨bx2, 0, none⟩ = some (.int .i64 q2_0) := (cell_of_row _ _ 0 _ _ (0, 0) kx2).trans rfl
  have ckx21 : w12.cell? ⟨bx2, 1, none⟩ = some (.int .i64 q2_1) := (cell_of_row _ _ 1 _ _ (0, 0) kx2).trans rfl
  have ckx22 : w12.cell? ⟨bx2, 2, none⟩ = some (.slice q2_A2 q2_n2 q2_c2) := (cell_of_row _ _ 2 _ _ (0, 0) kx2).trans rfl
  have ckx23 : w12.cell? ⟨bx2, 3, none⟩ = some (.slice q2_A3 q2_n3 q2_c3) := (cell_of_row _ _ 3 _ _ (0, 0) kx2).trans rfl
  go_wp2_with fail
  refine (toNodeS_u h1 ns1).mono ?_
  rintro e w13 ⟨ut1, rfl, t1, hb⟩
  clear ck2_0 ck2_1 ck2_2 ck2_3 ckx20 ckx21 ckx22 ckx23
  replace k2_ := (hb.block _ hz2).trans k2_
  replace hz2 := Nat.lt_of_lt_of_le hz2 hb.size
  replace kx2 := (hb.block _ hzx2).trans kx2
  replace hzx2 := Nat.lt_of_lt_of_le hzx2 hb.size
  replace h0 := h0.below hb (.inr (Nat.le_refl _))
  replace h1 := h1.below hb (.inr (Nat.le_refl _))
  replace h2 := h2.below hb (.inr (Nat.le_refl _))
  replace he := he.below hb (Nat.le_refl _)
  replace rw0 := rw0.below hb (.inr (Nat.le_refl _))
  replace x0 := x0.below hb (.inr (Nat.le_refl _))
  replace x1 := x1.below hb (.inr (Nat.le_refl _))
  replace x2 := x2.below hb (.inr (Nat.le_refl _))
  replace rg0 := rg0.below hb (.inr (Nat.le_refl _))
  replace bel := bel.trans (hb.mono bel.size)
  have zzw13 := hb.size
  clear hb
  have ck2_0 : w13.cell? ⟨w.heap.size, 0, none⟩ = some (.int .i64 p2_0) := (cell_of_row _ _ 0 _ _ (0, 0) k2_).trans rfl
  have ck2_1 : w13.cell? ⟨w.heap.size, 1, none⟩ = some (.int .i64 p2_1) := (cell_of_row _ _ 1 _ _ (0, 0) k2_).trans rfl
  have ck2_2 : w13.cell? ⟨w.heap.size, 2, none⟩ = some (.slice p2_A2 p2_n2 p2_c2) := (cell_of_row _ _ 2 _ _ (0, 0) k2_).trans rfl
  have ck2_3 : w13.cell? ⟨w.heap.size, 3, none⟩ = some (.slice p2_A3 p2_n3 p2_c3) := (cell_of_row _ _ 3 _ _ (0, 0) k2_).trans rfl
  have ckx20 : w13.cell? ⟨bx2, 0, none⟩ = some (.int .i64 q2_0) := (cell_of_row _ _ 0 _ _ (0, 0) kx2).trans rfl
  have ckx21 : w13.cell? ⟨bx2, 1, none⟩ = some (.int .i64 q2_1) := (cell_of_row _ _ 1 _ _ (0, 0) kx2).trans rfl
  have ckx22 : w13.cell? ⟨bx2, 2, none⟩ = some (.slice q2_A2 q2_n2 q2_c2) := (cell_of_row _ _ 2 _ _ (0, 0) kx2).trans rfl
  have ckx23 : w13.cell? ⟨bx2, 3, none⟩ = some (.slice q2_A3 q2_n3 q2_c3) := (cell_of_row _ _ 3 _ _ (0, 0) kx2).trans rfl
  go_wp2_with fail
  refine (eqNodeS_u x1 t1).mono ?_
  rintro e w14 ⟨rfl, hb⟩
  clear ck2_0 ck2_1 ck2_2 ck2_3 ckx20 ckx21 ckx22 ckx23
  replace k2_ := (hb.block _ hz2).trans k2_
  replace hz2 := Nat.lt_of_lt_of_le hz2 hb.size
  replace kx2 := (hb.block _ hzx2).trans kx2
  replace hzx2 := Nat.lt_of_lt_of_le hzx2 hb.size
  replace h0 := h0.below hb (.inr (Nat.le_refl _))
  replace h1 := h1.below hb (.inr (Nat.le_refl _))
  replace h2 := h2.below hb (.inr (Nat.le_refl _))
  replace he := he.below hb (Nat.le_refl _)
  replace rw0 := rw0.below hb (.inr (Nat.le_refl _))
  replace x0 := x0.below hb (.inr (Nat.le_refl _))
  replace x1 := x1.below hb (.inr (Nat.le_refl _))
  replace x2 := x2.below hb (.inr (Nat.le_refl _))
  replace rg0 := rg0.below hb (.inr (Nat.le_refl _))
  replace t1 := t1.below hb (.inr (Nat.le_refl _))
  replace bel := bel.trans (hb.mono bel.size)
  have zzw14 := hb.size
  clear hb
  have ck2_0 : w14.cell? ⟨w.heap.size, 0, none⟩ = some (.int .i64 p2_0) := (cell_of_row _ _ 0 _ _ (0, 0) k2_).trans rfl
  have ck2_1 : w14.cell? ⟨w.heap.size, 1, none⟩ = some (.int .i64 p2_1) := (cell_of_row _ _ 1 _ _ (0, 0) k2_).trans rfl
  have ck2_2 : w14.cell? ⟨w.heap.size, 2, none⟩ = some (.slice p2_A2 p2_n2 p2_c2) := (cell_of_row _ _ 2 _ _ (0, 0) k2_).trans rfl
  have ck2_3 : w14.cell? ⟨w.heap.size, 3, none⟩ = some (.slice p2_A3 p2_n3 p2_c3) := (cell_of_row _ _ 3 _ _ (0, 0) k2_).trans rfl
  have ckx20 : w14.cell? ⟨bx2, 0, none⟩ = some (.int .i64 q2_0) := (cell_of_row _ _ 0 _ _ (0, 0) kx2).trans rfl
  have ckx21 : w14.cell? ⟨bx2, 1, none⟩ = some (.int .i64 q2_1) := (cell_of_row _ _ 1 _ _ (0, 0) kx2).trans rfl
  have ckx22 : w14.cell? ⟨bx2, 2, none⟩ = some (.slice q2_A2 q2_n2 q2_c2) := (cell_of_row _ _ 2 _ _ (0, 0) kx2).trans rfl
  have ckx23 : w14.cell? ⟨bx2, 3, none⟩ = some (.slice q2_A3 q2_n3 q2_c3) := (cell_of_row _ _ 3 _ _ (0, 0) kx2).trans rfl
  go_wp2_with fail
  have hD : Below w14.heap.size w14 w14.drew := (Below.refl _ _).drew
  replace k2_ := hide k2_
  replace kx2 := hide kx2
  go_cut [81] (fun v wx => v = .bool false ∧ Below w14.heap.size w14 wx)
  case first =>
    go_region_law (first
      | (go_simp; go_at_call 16; (with_reducible refine (toLts_u (h2.below hD (.inr (Nat.le_refl _))) ns2).mono ?_); rintro e w15 ⟨ut2, rfl, t2, hb7⟩; have ek2_0 : w15.cell? ⟨w.heap.size, 0, none⟩ = some (.int .i64 p2_0) := (cell_of_row _ _ 0 _ _ (0, 0) ((hb7.block _ hz2).trans k2_.out)).trans rfl; have ek2_1 : w15.cell? ⟨w.heap.size, 1, none⟩ = some (.int .i64 p2_1) := (cell_of_row _ _ 1 _ _ (0, 0) ((hb7.block _ hz2).trans k2_.out)).trans rfl; have ek2_2 : w15.cell? ⟨w.heap.size, 2, none⟩ = some (.slice p2_A2 p2_n2 p2_c2) := (cell_of_row _ _ 2 _ _ (0, 0) ((hb7.block _ hz2).trans k2_.out)).trans rfl; have ek2_3 : w15.cell? ⟨w.heap.size, 3, none⟩ = some (.slice p2_A3 p2_n3 p2_c3) := (cell_of_row _ _ 3 _ _ (0, 0) ((hb7.block _ hz2).trans k2_.out)).trans rfl; have ekx20 : w15.cell? ⟨bx2, 0, none⟩ = some (.int .i64 q2_0) := (cell_of_row _ _ 0 _ _ (0, 0) ((hb7.block _ hzx2).trans kx2.out)).trans rfl; have ekx21 : w15.cell? ⟨bx2, 1, none⟩ = some (.int .i64 q2_1) := (cell_of_row _ _ 1 _ _ (0, 0) ((hb7.block _ hzx2).trans kx2.out)).trans rfl; have ekx22 : w15.cell? ⟨bx2, 2, none⟩ = some (.slice q2_A2 q2_n2 q2_c2) := (cell_of_row _ _ 2 _ _ (0, 0) ((hb7.block _ hzx2).trans kx2.out)).trans rfl; have ekx23 : w15.cell? ⟨bx2, 3, none⟩ = some (.slice q2_A3 q2_n3 q2_c3) := (cell_of_row _ _ 3 _ _ (0, 0) ((hb7.block _ hzx2).trans kx2.out)).trans rfl; have qeq := eqLts_u (x2.below (hD.trans hb7) (.inr (Nat.le_refl _))) t2; rw [decide_eq_true rfl] at qeq; replace qeq := hide qeq)
      | (go_simp; go_at_call 19; (with_reducible refine qeq.out.mono ?_); rintro e w16 ⟨rfl, hb8⟩))
    all_goals (go_wp2_with fail; go_meet)
    all_goals exact ⟨rfl, hD.trans (hb7.trans (hb8.mono hb7.size))⟩
  case rest =>
  obtain ⟨rfl, hb⟩ := hcut
  generalize wc = w16 at *
  clear hD
  replace k2_ := k2_.out
  replace kx2 := kx2.out
  clear ck2_0 ck2_1 ck2_2 ck2_3 ckx20 ckx21 ckx22 ckx23
  replace k2_ := (hb.block _ hz2).trans k2_
  replace hz2 := Nat.lt_of_lt_of_le hz2 hb.size
  replace kx2 := (hb.block _ hzx2).trans kx2
  replace hzx2 := Nat.lt_of_lt_of_le hzx2 hb.size
  replace h0 := h0.below hb (.inr (Nat.le_refl _))
  replace h1 := h1.below hb (.inr (Nat.le_refl _))
  replace h2 := h2.below hb (.inr (Nat.le_refl _))
  replace he := he.below hb (Nat.le_refl _)
  replace rw0 := rw0.below hb (.inr (Nat.le_refl _))
  replace x0 := x0.below hb (.inr (Nat.le_refl _))
  replace x1 := x1.below hb (.inr (Nat.le_refl _))
  replace x2 := x2.below hb (.inr (Nat.le_refl _))
  replace rg0 := rg0.below hb (.inr (Nat.le_refl _))
  replace bel := bel.trans (hb.mono bel.size)
  have zzw16 := hb.size
  clear hb
  have ck2_0 : w16.cell? ⟨w.heap.size, 0, none⟩ = some (.int .i64 p2_0) := (cell_of_row _ _ 0 _ _ (0, 0) k2_).trans rfl
  have ck2_1 : w16.cell? ⟨w.heap.size, 1, none⟩ = some (.int .i64 p2_1) := (cell_of_row _ _ 1 _ _ (0, 0) k2_).trans rfl
  have ck2_2 : w16.cell? ⟨w.heap.size, 2, none⟩ = some (.slice p2_A2 p2_n2 p2_c2) := (cell_of_row _ _ 2 _ _ (0, 0) k2_).trans rfl
  have ck2_3 : w16.cell? ⟨w.heap.size, 3, none⟩ = some (.slice p2_A3 p2_n3 p2_c3) := (cell_of_row _ _ 3 _ _ (0, 0) k2_).trans rfl
  have ckx20 : w16.cell? ⟨bx2, 0, none⟩ = some (.int .i64 q2_0) := (cell_of_row _ _ 0 _ _ (0, 0) kx2).trans rfl
  have ckx21 : w16.cell? ⟨bx2, 1, none⟩ = some (.int .i64 q2_1) := (cell_of_row _ _ 1 _ _ (0, 0) kx2).trans rfl
  have ckx22 : w16.cell? ⟨bx2, 2, none⟩ = some (.slice q2_A2 q2_n2 q2_c2) := (cell_of_row _ _ 2 _ _ (0, 0) kx2).trans rfl
  have ckx23 : w16.cell? ⟨bx2, 3, none⟩ = some (.slice q2_A3 q2_n3 q2_c3) := (cell_of_row _ _ 3 _ _ (0, 0) kx2).trans rfl
  go_wp2_with fail
  refine (markNodeS_u (m := 1) x0 (by omega) (by omega) (by omega)).mono ?_
  rintro e w17 ⟨k50, rfl, ka0, kb0, ho⟩
  clear ck2_0 ck2_1 ck2_2 ck2_3 ckx20 ckx21 ckx22 ckx23
  have zzw17 := ho.size
  replace k2_ := (ho.block _ hz2 (by omega)).trans k2_
  replace hz2 := Nat.lt_of_lt_of_le hz2 (ho.size)
  replace kx2 := (ho.block _ hzx2 (by omega)).trans kx2
  replace hzx2 := Nat.lt_of_lt_of_le hzx2 (ho.size)
  replace bel := Only.below bel ho (by omega) bel.size
  replace h0 := h0.only ho (by omega)
  replace h1 := h1.only ho (by omega)
  replace h2 := h2.only ho (by omega)
  replace he := he0.below bel (Nat.le_refl _)
  replace rw0 := rw0.only ho (by omega)
  replace x1 := x1.only ho (by omega)
  replace x2 := x2.only ho (by omega)
  replace rg0 := rg0.only ho (by omega)
  clear ho
  have ck2_0 : w17.cell? ⟨w.heap.size, 0, none⟩ = some (.int .i64 p2_0) := (cell_of_row _ _ 0 _ _ (0, 0) k2_).trans rfl
  have ck2_1 : w17.cell? ⟨w.heap.size, 1, none⟩ = some (.int .i64 p2_1) := (cell_of_row _ _ 1 _ _ (0, 0) k2_).trans rfl
  have ck2_2 : w17.cell? ⟨w.heap.size, 2, none⟩ = some (.slice p2_A2 p2_n2 p2_c2) := (cell_of_row _ _ 2 _ _ (0, 0) k2_).trans rfl
  have ck2_3 : w17.cell? ⟨w.heap.size, 3, none⟩ = some (.slice p2_A3 p2_n3 p2_c3) := (cell_of_row _ _ 3 _ _ (0, 0) k2_).trans rfl
  have ckx20 : w17.cell? ⟨bx2, 0, none⟩ = some (.int .i64 q2_0) := (cell_of_row _ _ 0 _ _ (0, 0) kx2).trans rfl
  have ckx21 : w17.cell? ⟨bx2, 1, none⟩ = some (.int .i64 q2_1) := (cell_of_row _ _ 1 _ _ (0, 0) kx2).trans rfl
  have ckx22 : w17.cell? ⟨bx2, 2, none⟩ = some (.slice q2_A2 q2_n2 q2_c2) := (cell_of_row _ _ 2 _ _ (0, 0) kx2).trans rfl
  have ckx23 : w17.cell? ⟨bx2, 3, none⟩ = some (.slice q2_A3 q2_n3 q2_c3) := (cell_of_row _ _ 3 _ _ (0, 0) kx2).trans rfl
  go_wp2_with fail
  refine (markNodeS_u (m := k50) x1 (by omega) (by omega) (by omega)).mono ?_
  rintro e w18 ⟨k51, rfl, ka1, kb1, ho⟩
  clear ck2_0 ck2_1 ck2_2 ck2_3 ckx20 ckx21 ckx22 ckx23
  have zzw18 := ho.size
  replace k2_ := (ho.block _ hz2 (by omega)).trans k2_
  replace hz2 := Nat.lt_of_lt_of_le hz2 (ho.size)
  replace kx2 := (ho.block _ hzx2 (by omega)).trans kx2
  replace hzx2 := Nat.lt_of_lt_of_le hzx2 (ho.size)
  replace bel := Only.below bel ho (by omega) bel.size
  replace h0 := h0.only ho (by omega)
  replace h1 := h1.only ho (by omega)
  replace h2 := h2.only ho (by omega)
  replace he := he0.below bel (Nat.le_refl _)
  replace rw0 := rw0.only ho (by omega)
  replace x2 := x2.only ho (by omega)
  replace rg0 := rg0.only ho (by omega)
  clear ho
  have ck2_0 : w18.cell? ⟨w.heap.size, 0, none⟩ = some (.int .i64 p2_0) := (cell_of_row _ _ 0 _ _ (0, 0) k2_).trans rfl
  have ck2_1 : w18.cell? ⟨w.heap.size, 1, none⟩ = some (.int .i64 p2_1) := (cell_of_row _ _ 1 _ _ (0, 0) k2_).trans rfl
  have ck2_2 : w18.cell? ⟨w.heap.size, 2, none⟩ = some (.slice p2_A2 p2_n2 p2_c2) := (cell_of_row _ _ 2 _ _ (0, 0) k2_).trans rfl
  have ck2_3 : w18.cell? ⟨w.heap.size, 3, none⟩ = some (.slice p2_A3 p2_n3 p2_c3) := (cell_of_row _ _ 3 _ _ (0, 0) k2_).trans rfl
  have ckx20 : w18.cell? ⟨bx2, 0, none⟩ = some (.int .i64 q2_0) := (cell_of_row _ _ 0 _ _ (0, 0) kx2).trans rfl
  have ckx21 : w18.cell? ⟨bx2, 1, none⟩ = some (.int .i64 q2_1) := (cell_of_row _ _ 1 _ _ (0, 0) kx2).trans rfl
  have ckx22 : w18.cell? ⟨bx2, 2, none⟩ = some (.slice q2_A2 q2_n2 q2_c2) := (cell_of_row _ _ 2 _ _ (0, 0) kx2).trans rfl
  have ckx23 : w18.cell? ⟨bx2, 3, none⟩ = some (.slice q2_A3 q2_n3 q2_c3) := (cell_of_row _ _ 3 _ _ (0, 0) kx2).trans rfl
  go_wp2_with fail
  refine (markLts_u (m := k51) x2 (by omega) (by omega) (by omega)).mono ?_
  rintro e w19 ⟨k52, rfl, ka2, kb2, ho⟩
  clear ck2_0 ck2_1 ck2_2 ck2_3 ckx20 ckx21 ckx22 ckx23
  have zzw19 := ho.size
  replace k2_ := (ho.block _ hz2 (by omega)).trans k2_
  replace hz2 := Nat.lt_of_lt_of_le hz2 (ho.size)
  replace bel := Only.below bel ho (by omega) bel.size
  replace h0 := h0.only ho (by omega)
  replace h1 := h1.only ho (by omega)
  replace h2 := h2.only ho (by omega)
  replace he := he0.below bel (Nat.le_refl _)
  replace rw0 := rw0.only ho (by omega)
  replace rg0 := rg0.only ho (by omega)
  clear ho
  have ck2_0 : w19.cell? ⟨w.heap.size, 0, none⟩ = some (.int .i64 p2_0) := (cell_of_row _ _ 0 _ _ (0, 0) k2_).trans rfl
  have ck2_1 : w19.cell? ⟨w.heap.size, 1, none⟩ = some (.int .i64 p2_1) := (cell_of_row _ _ 1 _ _ (0, 0) k2_).trans rfl
  have ck2_2 : w19.cell? ⟨w.heap.size, 2, none⟩ = some (.slice p2_A2 p2_n2 p2_c2) := (cell_of_row _ _ 2 _ _ (0, 0) k2_).trans rfl
  have ck2_3 : w19.cell? ⟨w.heap.size, 3, none⟩ = some (.slice p2_A3 p2_n3 p2_c3) := (cell_of_row _ _ 3 _ _ (0, 0) k2_).trans rfl
  go_wp2_with fail
  refine (eqInt64S_u rg0 rw0).mono ?_
  rintro e w20 ⟨rfl, hb⟩
  clear ck2_0 ck2_1 ck2_2 ck2_3
  replace k2_ := (hb.block _ hz2).trans k2_
  replace hz2 := Nat.lt_of_lt_of_le hz2 hb.size
  replace h0 := h0.below hb (.inr (Nat.le_refl _))
  replace h1 := h1.below hb (.inr (Nat.le_refl _))
  replace h2 := h2.below hb (.inr (Nat.le_refl _))
  replace he := he.below hb (Nat.le_refl _)
  replace rw0 := rw0.below hb (.inr (Nat.le_refl _))
  replace rg0 := rg0.below hb (.inr (Nat.le_refl _))
  replace bel := bel.trans (hb.mono bel.size)
  have zzw20 := hb.size
  clear hb
  have ck2_0 : w20.cell? ⟨w.heap.size, 0, none⟩ = some (.int .i64 p2_0) := (cell_of_row _ _ 0 _ _ (0, 0) k2_).trans rfl
  have ck2_1 : w20.cell? ⟨w.heap.size, 1, none⟩ = some (.int .i64 p2_1) := (cell_of_row _ _ 1 _ _ (0, 0) k2_).trans rfl
  have ck2_2 : w20.cell? ⟨w.heap.size, 2, none⟩ = some (.slice p2_A2 p2_n2 p2_c2) := (cell_of_row _ _ 2 _ _ (0, 0) k2_).trans rfl
  have ck2_3 : w20.cell? ⟨w.heap.size, 3, none⟩ = some (.slice p2_A3 p2_n3 p2_c3) := (cell_of_row _ _ 3 _ _ (0, 0) k2_).trans rfl
  go_wp2_with fail
  refine (markInt64S_u (m := 1) rg0 (by omega) (by omega)).mono ?_
  rintro e w21 ⟨m0, dm0, rfl, ma0, mb0, ho, rgm0, hm0⟩
  clear ck2_0 ck2_1 ck2_2 ck2_3
  have zzw21 := ho.size
  replace k2_ := (ho.block _ hz2 (by omega)).trans k2_
  replace hz2 := Nat.lt_of_lt_of_le hz2 (ho.size)
  replace bel := Only.below bel ho (by omega) bel.size
  replace h0 := h0.only ho (by omega)
  replace h1 := h1.only ho (by omega)
  replace h2 := h2.only ho (by omega)
  replace he := he0.below bel (Nat.le_refl _)
  replace rw0 := rw0.only ho (by omega)
  clear ho
  have ck2_0 : w21.cell? ⟨w.heap.size, 0, none⟩ = some (.int .i64 p2_0) := (cell_of_row _ _ 0 _ _ (0, 0) k2_).trans rfl
  have ck2_1 : w21.cell? ⟨w.heap.size, 1, none⟩ = some (.int .i64 p2_1) := (cell_of_row _ _ 1 _ _ (0, 0) k2_).trans rfl
  have ck2_2 : w21.cell? ⟨w.heap.size, 2, none⟩ = some (.slice p2_A2 p2_n2 p2_c2) := (cell_of_row _ _ 2 _ _ (0, 0) k2_).trans rfl
  have ck2_3 : w21.cell? ⟨w.heap.size, 3, none⟩ = some (.slice p2_A3 p2_n3 p2_c3) := (cell_of_row _ _ 3 _ _ (0, 0) k2_).trans rfl
  go_wp2_with fail
  refine (heldInt64S_u rgm0 hm0).mono ?_
  rintro e w' ⟨rfl, rfl⟩
  go_wp2_with fail
  have hD : Below w21.heap.size w21 w21.drew := (Below.refl _ _).drew
  replace k2_ := hide k2_
  go_cut [18, 19] (fun a0 a1 wx => ∃ (u0 : Value) (z0 : Nat), a0 = u0 ∧ a1 = .int .i64 (difF d0 d1 d2).2 ∧ w21.heap.size ≤ z0 ∧ ResI wx z0 wx.heap.size u0 (difF d0 d1 d2).1 ∧ Below w21.heap.size w21 wx)
  case first =>
    go_region_law (first
      | (go_simp; go_at_call 15; (with_reducible refine (toNodeS_u (h0.below hD (.inr (Nat.le_refl _))) ns0).mono ?_); rintro e yi0 ⟨uy0, rfl, y0, hbi0⟩; have hxi0 := hD.trans (hbi0); have zyi0 := hbi0.size; have ek2_0 : yi0.cell? ⟨w.heap.size, 0, none⟩ = some (.int .i64 p2_0) := (cell_of_row _ _ 0 _ _ (0, 0) ((hxi0.block _ hz2).trans k2_.out)).trans rfl; have ek2_1 : yi0.cell? ⟨w.heap.size, 1, none⟩ = some (.int .i64 p2_1) := (cell_of_row _ _ 1 _ _ (0, 0) ((hxi0.block _ hz2).trans k2_.out)).trans rfl; have ek2_2 : yi0.cell? ⟨w.heap.size, 2, none⟩ = some (.slice p2_A2 p2_n2 p2_c2) := (cell_of_row _ _ 2 _ _ (0, 0) ((hxi0.block _ hz2).trans k2_.out)).trans rfl; have ek2_3 : yi0.cell? ⟨w.heap.size, 3, none⟩ = some (.slice p2_A3 p2_n3 p2_c3) := (cell_of_row _ _ 3 _ _ (0, 0) ((hxi0.block _ hz2).trans k2_.out)).trans rfl; have qi1 := hide (toNodeS_u (h1.below hxi0 (.inr (Nat.le_refl _))) ns1))
      | (go_simp; go_at_call 15; (with_reducible refine qi1.out.mono ?_); rintro e yi1 ⟨uy1, rfl, y1, hbi1⟩; have hxi1 := hxi0.trans (hbi1.mono hxi0.size); have zyi1 := hbi1.size; have ek2_0 : yi1.cell? ⟨w.heap.size, 0, none⟩ = some (.int .i64 p2_0) := (cell_of_row _ _ 0 _ _ (0, 0) ((hxi1.block _ hz2).trans k2_.out)).trans rfl; have ek2_1 : yi1.cell? ⟨w.heap.size, 1, none⟩ = some (.int .i64 p2_1) := (cell_of_row _ _ 1 _ _ (0, 0) ((hxi1.block _ hz2).trans k2_.out)).trans rfl; have ek2_2 : yi1.cell? ⟨w.heap.size, 2, none⟩ = some (.slice p2_A2 p2_n2 p2_c2) := (cell_of_row _ _ 2 _ _ (0, 0) ((hxi1.block _ hz2).trans k2_.out)).trans rfl; have ek2_3 : yi1.cell? ⟨w.heap.size, 3, none⟩ = some (.slice p2_A3 p2_n3 p2_c3) := (cell_of_row _ _ 3 _ _ (0, 0) ((hxi1.block _ hz2).trans k2_.out)).trans rfl; replace y0 := y0.below hbi1 (.inr (Nat.le_refl _)); have qi2 := hide (toLts_u (h2.below hxi1 (.inr (Nat.le_refl _))) ns2))
      | (go_simp; go_at_call 16; (with_reducible refine qi2.out.mono ?_); rintro e yi2 ⟨uy2, rfl, y2, hbi2⟩; have hxi2 := hxi1.trans (hbi2.mono hxi1.size); have zyi2 := hbi2.size; replace y0 := y0.below hbi2 (.inr (Nat.le_refl _)); replace y1 := y1.below hbi2 (.inr (Nat.le_refl _)); have qiF := hide (implDifferenceStates_u (w := yi2) (he.below hxi2 (Nat.le_refl _)) y0 (by omega) y1 (by omega) y2 (by omega)))
      | (go_simp; go_at_call 39; (with_reducible refine qiF.out.mono ?_); rintro e yF ⟨uh0, rfl, rh0, hbF⟩; have hxF := hxi2.trans (hbF.mono hxi2.size)))
    all_goals (go_wp2_with fail; go_meet)
    all_goals exact ⟨_, yi2.heap.size, rfl, rfl, hxi2.size, rh0, hxF⟩
  case rest =>
  obtain ⟨uh0, zzh0, rfl, rfl, hzzh0, rh0, hb⟩ := hcut
  generalize wc = w22 at *
  clear hD
  replace k2_ := k2_.out
  clear ck2_0 ck2_1 ck2_2 ck2_3
  replace k2_ := (hb.block _ hz2).trans k2_
  replace hz2 := Nat.lt_of_lt_of_le hz2 hb.size
  replace h0 := h0.below hb (.inr (Nat.le_refl _))
  replace h1 := h1.below hb (.inr (Nat.le_refl _))
  replace h2 := h2.below hb (.inr (Nat.le_refl _))
  replace he := he.below hb (Nat.le_refl _)
  replace rw0 := rw0.below hb (.inr (Nat.le_refl _))
  replace rgm0 := rgm0.below hb (.inr (Nat.le_refl _))
  replace bel := bel.trans (hb.mono bel.size)
  have zzw22 := hb.size
  clear hb
  have ck2_0 : w22.cell? ⟨w.heap.size, 0, none⟩ = some (.int .i64 p2_0) := (cell_of_row _ _ 0 _ _ (0, 0) k2_).trans rfl
  have ck2_1 : w22.cell? ⟨w.heap.size, 1, none⟩ = some (.int .i64 p2_1) := (cell_of_row _ _ 1 _ _ (0, 0) k2_).trans rfl
  have ck2_2 : w22.cell? ⟨w.heap.size, 2, none⟩ = some (.slice p2_A2 p2_n2 p2_c2) := (cell_of_row _ _ 2 _ _ (0, 0) k2_).trans rfl
  have ck2_3 : w22.cell? ⟨w.heap.size, 3, none⟩ = some (.slice p2_A3 p2_n3 p2_c3) := (cell_of_row _ _ 3 _ _ (0, 0) k2_).trans rfl
  go_wp2_with fail
  refine (eqInt64S_u rh0 rw0).mono ?_
  rintro e w23 ⟨rfl, hb⟩
  clear ck2_0 ck2_1 ck2_2 ck2_3
  replace k2_ := (hb.block _ hz2).trans k2_
  replace hz2 := Nat.lt_of_lt_of_le hz2 hb.size
  replace h0 := h0.below hb (.inr (Nat.le_refl _))
  replace h1 := h1.below hb (.inr (Nat.le_refl _))
  replace h2 := h2.below hb (.inr (Nat.le_refl _))
  replace he := he.below hb (Nat.le_refl _)
  replace rw0 := rw0.below hb (.inr (Nat.le_refl _))
  replace rgm0 := rgm0.below hb (.inr (Nat.le_refl _))
  replace rh0 := rh0.below hb (.inr (Nat.le_refl _))
  replace bel := bel.trans (hb.mono bel.size)
  have zzw23 := hb.size
  clear hb
  have ck2_0 : w23.cell? ⟨w.heap.size, 0, none⟩ = some (.int .i64 p2_0) := (cell_of_row _ _ 0 _ _ (0, 0) k2_).trans rfl
  have ck2_1 : w23.cell? ⟨w.heap.size, 1, none⟩ = some (.int .i64 p2_1) := (cell_of_row _ _ 1 _ _ (0, 0) k2_).trans rfl
  have ck2_2 : w23.cell? ⟨w.heap.size, 2, none⟩ = some (.slice p2_A2 p2_n2 p2_c2) := (cell_of_row _ _ 2 _ _ (0, 0) k2_).trans rfl
  have ck2_3 : w23.cell? ⟨w.heap.size, 3, none⟩ = some (.slice p2_A3 p2_n3 p2_c3) := (cell_of_row _ _ 3 _ _ (0, 0) k2_).trans rfl
  go_wp2_with fail
  refine (heldInt64S_u rgm0 hm0).mono ?_
  rintro e w' ⟨rfl, rfl⟩
  go_wp2_with fail
  go_ret
  exact ⟨rfl, bel⟩

set_option maxRecDepth 100000 in
theorem lifted (os : Os) (started : os.Started) (H : Type) (enc : TypeId × Value → H) :
    ReturnsInHanded {} Tryz.checked os 10 .any (fun w args => (Rows.fnExactDifferenceStatesSpec.pre enc Tryz.prog Tryz.f10 Rows.fnExactDifferenceStatesRow.domain false w args ∧ laidMet Tryz.prog laidL w) ∧ sizedMet enc Tryz.prog Tryz.f10 (OpenSpec.ofChange Rows.fnExactDifferenceStatesSpec) false w args) (Rows.fnExactDifferenceStatesSpec.post enc Tryz.prog Tryz.f10 false true false false) := by
  refine returnsInHanded_of_calls (C := Tryz.checked) own started (by kernel_rfl)
    (ChangeSpec.witness_at (enc := enc) (C := Tryz.checked) (os := os) (s := Rows.fnExactDifferenceStatesSpec) (conds := Rows.fnExactDifferenceStatesRow.domain) (X := fun w _ => laidMet Tryz.prog laidL w) false (laidWorld os) #[.slice none 0 0, .slice none 0 0, .agg #[.int .i64 0, .int .i64 0, .slice none 0 0, .slice none 0 0]] 8 rfl (by kernel_rfl) (by kernel_rfl) (by kernel_rfl) (by kernel_rfl) (by kernel_rfl) (laid_met os _)) ?_
  intro w tape i _ hsh _ hok hpre hholds
  obtain ⟨_, _, _, fn', hfn', _, _, _, _, hval0⟩ := hok
  have efn : fn' = Tryz.f10 := Option.some.inj (hfn'.symm.trans Tryz.func10)
  subst efn
  obtain ⟨⟨⟨ds, gs, before, hw0, hc⟩, hlaid⟩, hz⟩ := hpre
  have hW := DataW.Whole.of_heap (w' := w.forCall tape i) (by rfl) hw0
  have he : Env (w.forCall tape i) := Env.of (good_of (laidMet.of_heap (by rfl) hlaid) hsh)
  generalize hWg : w.forCall tape i = W at *
  generalize hag : i.args = args at *
  suffices hcalls : Calls Tryz.prog 10 args W fun e W' => ∃ v, e = .returned v ∧ Rows.fnExactDifferenceStatesSpec.post enc Tryz.prog Tryz.f10 false true false false W args v W' by
    refine hcalls.mono fun e W' ⟨v, he, hp⟩ => ?_
    subst he
    exact ChangeSpec.post_blind hp
  have hval : ∀ (j : Nat) t v, Tryz.f10.params[j]? = some t → args[j]? = some v → Value.okWide Tryz.prog W .any w.heap.size t v := hval0
  have hW' := hW
  obtain ⟨p, q, hA0, hV, rfl, hfz, hnd⟩ := hW
  have hA : DataW.TrodAll enc Tryz.prog W 0 (fun _ => true) true Tryz.f10.params.toList args.toList ds p := hA0
  rw [Tryz.params10] at hA hval
  obtain ⟨v0, vs0, d0, ds0, p0, q0, hargs, rfl, rfl, h0, r0⟩ := trodAll_cons hA
  obtain ⟨v1, vs1, d1, ds1, p1, q1, rfl, rfl, rfl, h1, r1⟩ := trodAll_cons r0
  obtain ⟨v2, vs2, d2, ds2, p2, q2, rfl, rfl, rfl, h2, r2⟩ := trodAll_cons r1
  obtain ⟨rfl, rfl, rfl⟩ := trodAll_nil r2
  obtain rfl : args = #[v0, v1, v2] := by cases args; simp_all
  obtain ⟨rfl, rfl⟩ := trodVars_none hV
  have lt0 : ∀ x ∈ p0, x.block < W.heap.size := by obtain ⟨m, hm⟩ := h0; exact DataW.trod_lt m _ _ _ hm
  obtain ⟨x0, a0⟩ := open_N (hval 0 22 v0 rfl rfl) h0 (fun b off hp => hfz b off (by simp [hp]))
  have lt1 : ∀ x ∈ p1, x.block < W.heap.size := by obtain ⟨m, hm⟩ := h1; exact DataW.trod_lt m _ _ _ hm
  obtain ⟨x1, a1⟩ := open_N (hval 1 22 v1 rfl rfl) h1 (fun b off hp => hfz b off (by simp [hp]))
  have lt2 : ∀ x ∈ p2, x.block < W.heap.size := by obtain ⟨m, hm⟩ := h2; exact DataW.trod_lt m _ _ _ hm
  obtain ⟨x2, a2⟩ := open_L (hval 2 26 v2 rfl rfl) h2 (fun b off hp => hfz b off (by simp [hp]))
  clear hA0 hval0 hval
  refine (walk v0 x0 v1 x1 v2 x2 W he a0 a1 a2).mono fun e W' ⟨he, bel⟩ => ?_
  subst he
  exact ⟨_, rfl, _, _, _, [], _, [], hW', trodAll_mk1 (shut_bool Tryz.underlying4 _), (trodAll_cons_mk (Below.trod laidOut (by kernel_rfl) (of_decide_eq_true (by kernel_rfl)) h0 bel lt0) (trodAll_cons_mk (Below.trod laidOut (by kernel_rfl) (of_decide_eq_true (by kernel_rfl)) h1 bel lt1) (trodAll_cons_mk (Below.trod laidOut (by kernel_rfl) (of_decide_eq_true (by kernel_rfl)) h2 bel lt2) trodAll_mk0))), rfl, bel.frame _, fun h => by cases h⟩

theorem c0 : Tryz.pinned.checked.prog.funcNamed "loop.example/g01075/laws.FnExactDifferenceStates" = some 10 := by kernel_rfl
theorem c5 : false = Rows.fnExactDifferenceStatesRow.goesBy Tryz.pinned.checked.prog := by kernel_rfl
theorem c1 : Tryz.pinned.checked.prog.inPlace 10 = Rows.fnExactDifferenceStatesRow.inPlace := by kernel_rfl
theorem c2 : Tryz.pinned.checked.prog.unfollowed 10 = Rows.fnExactDifferenceStatesRow.unfollowed := by kernel_rfl
theorem c3 : Tryz.pinned.checked.prog.recurses 10 = Rows.fnExactDifferenceStatesRow.recurses := by kernel_rfl
theorem c4 : Tryz.pinned.checked.prog.varsNamed 10 = Rows.fnExactDifferenceStatesRow.named := by kernel_rfl
theorem joined : joinedFacts Tryz.pinned.checked.prog 10 Tryz.f10 Rows.fnExactDifferenceStatesSpec Rows.fnExactDifferenceStatesRow = true := by
  unfold joinedFacts
  rw [fact_laid, fact_maps, fact_heard, fact_enter, fact_lifts, fact_make, c1, c2, c3, c4]
  kernel_rfl
theorem over : Rows.fnExactDifferenceStatesRow.holds Tryz.pinned (OpenSpec.ofChange Rows.fnExactDifferenceStatesSpec) :=
  OpenClaim.holds_of_wide 10 Tryz.f10 rfl rfl rfl rfl rfl rfl rfl ⟨rfl, rfl, rfl, rfl, rfl⟩ rfl rfl rfl rfl rfl c0 Tryz.func10 joined
    (of_decide_eq_true (by kernel_rfl)) (by unfold Func.isWrapper; first | (rw [if_pos (by decide +kernel)]; kernel_rfl) | (rw [if_neg (by decide +kernel)]; exact ⟨rfl, rfl⟩))
    (fun os started H enc _ => by
      rw [pre_laid (c := Rows.fnExactDifferenceStatesRow) rfl]
      exact lifted os started H enc)

theorem tied : Rows.FnExactDifferenceStatesCardSaid :=
  Claim7.holds_tied_plain_at .later [] [.data, .data, .data, .data, .sentinel, .sentinel, .pinned] true (true, "bfc252992bf6c1113b275f27b620619f35e36127a813af0a44b0b9f500c36f45") true
    over (fun _ h => by cases h) (by kernel_rfl) (fun _ h => by cases h) fnExactDifferenceStates_row_tie rfl ⟨rfl, rfl⟩ fact_main rfl
    (fun f fn hf hfn => by
      obtain rfl : f = 10 := (Option.some.inj (c0.symm.trans hf)).symm
      obtain rfl : fn = Tryz.f10 := (Option.some.inj (Tryz.func10.symm.trans hfn)).symm
      exact ⟨fact_looks, fun j t ht => by
        rw [Tryz.params10] at ht
        rcases j with _ | j
        · obtain rfl : t = 22 := by simpa using ht.symm
          exact (show Tryz.prog.wantsStandIn 22 = false by kernel_rfl)
        rcases j with _ | j
        · obtain rfl : t = 22 := by simpa using ht.symm
          exact (show Tryz.prog.wantsStandIn 22 = false by kernel_rfl)
        rcases j with _ | j
        · obtain rfl : t = 26 := by simpa using ht.symm
          exact (show Tryz.prog.wantsStandIn 26 = false by kernel_rfl)
        simp at ht⟩)
    c5

end Go.Proofs.YtanlgnjgpbjebaaGreatDoor.lawDifferenceStates

namespace Go.Proofs.YtanlgnjgpbjebaaGreatDoor
theorem fnExactDifferenceStates_holds : Rows.FnExactDifferenceStatesCardSaid := lawDifferenceStates.tied
end Go.Proofs.YtanlgnjgpbjebaaGreatDoor
