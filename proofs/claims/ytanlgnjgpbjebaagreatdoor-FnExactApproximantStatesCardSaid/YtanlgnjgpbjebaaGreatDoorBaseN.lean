/-
  Several texts in one:
  Whether a formula holds: by the reference. Conditions: none.
  Whether a formula holds: by the program. Conditions: none.
-/
import Derived.Test.YtanlgnjgpbjebaaGreatDoorBaseA
import Derived.Test.YtanlgnjgpbjebaaGreatDoorBaseB
import Derived.Test.YtanlgnjgpbjebaaGreatDoorBaseC
import Derived.Test.YtanlgnjgpbjebaaGreatDoorBaseD
import Derived.Test.YtanlgnjgpbjebaaGreatDoorBaseE
import Derived.Test.YtanlgnjgpbjebaaGreatDoorBaseF
import Derived.Test.YtanlgnjgpbjebaaGreatDoorBaseG
import Derived.Test.YtanlgnjgpbjebaaGreatDoorBaseH
import Derived.Test.YtanlgnjgpbjebaaGreatDoorBaseI
import Derived.Test.YtanlgnjgpbjebaaGreatDoorBaseJ
import Derived.Test.YtanlgnjgpbjebaaGreatDoorBaseK
import Derived.Test.YtanlgnjgpbjebaaGreatDoorBaseL
import Derived.Test.YtanlgnjgpbjebaaGreatDoorBaseM
import Derived.StillTailTactics
import Derived.Outline
import Derived.Ground.SlgnProg
import Derived.Ground.SlgmProg
import Derived.Shelf.SlicesG.Turned
import Derived.Shelf.SlicesG.SearchI
import Derived.Shelf.SlicesG.CompactI
import Derived.Shelf.SlicesG.Cells
import Derived.Shelf.SortM.Plain
import Derived.Shelf.SortM.SortNone
import Derived.Shelf.SlGeneric
import Derived.Test.YtanlgnjgpbjebaaGreatDoorProg
import Derived.Test.YtanlgnjgpbjebaaGreatDoorRows
import Derived.LoopTactic
import Derived.Deep.RegionLaw
import Derived.RegionTactic
import Derived.ChangeAlike
import Derived.Deep.DeepCutAuto
import Derived.Deep.RegionHeld3
import Derived.Lib.QuietBelow
import Derived.BigQuiet
import Derived.Laws.Cover1
import Derived.IntWalk
import Derived.Lib.AppendIntMem
import Derived.WalkSmall
import Derived.WalkSpells
import Derived.OneCell
import Derived.Deep.LoopGhost
import Derived.Laws.BytesArg
import Derived.Lib.Split
import Derived.Lib.Join
import Derived.Deep.Slices
import Derived.Deep.Fields
import Derived.ChangeSame
import Derived.ChangeOld
import Derived.ProofKit
import Derived.StillTail
import Derived.OrdersHeld
import Derived.Maps.AppendAt
import Derived.Laws.OwnMore
import Derived.OwnWalk
import Derived.LaidMore
import Derived.LaidLaws
import Derived.HandedShaped
import Derived.Stop.LaidErr
import Derived.Lib.LaidTab
import Derived.Shelf.Strings.Builder1
import Derived.Shelf.Strings.Builder2
import Derived.Shelf.Strings.OnBuilder
import Derived.Shelf.Small.Bits
import Derived.Shelf.Strings.BuilderF
import Derived.Shelf.Strings.BuilderK
import Derived.Shelf.Utf8.RuneCount
import Derived.Shelf.Strings.Builder2Cap
import Derived.Shelf.Strconv.Itoa0
import Derived.Shelf.Strconv.Itoa1
import Derived.Shelf.LaysM
import Derived.Shelf.Strconv.Itoa2
import Derived.Shelf.Strconv.Itoa3
import Derived.Shelf.Strconv.Itoa4
import Derived.Shelf.Strconv.ParseIntEmpty
import Derived.Shelf.Strconv.Clone
import Derived.Shelf.Strconv.SyntaxError
import Derived.Shelf.LaysC
import Derived.Shelf.Strconv.ToError
import Derived.Shelf.Strconv.Lower
import Derived.Shelf.Strconv.ParseUint10
import Derived.Shelf.Strconv.ParseUint10Empty
import Derived.Shelf.Strconv.ParseUint10Any
import Derived.Shelf.Strconv.ParseInt10
import Derived.Shelf.Strconv.RangeError
import Derived.Shelf.Strconv.ToErrorRange
import Derived.Shelf.Strconv.ParseUintEmpty
import Derived.Shelf.Strconv.ParseUint10b64
import Derived.Shelf.Strconv.ParseUint10b32
import Derived.Shelf.Strconv.ParseUint10b16
import Derived.Shelf.Strconv.ParseUint10b8
import Derived.Shelf.Strconv.ParseUint10At
import Derived.Shelf.Strconv.ParseInt10At64
import Derived.Shelf.Strconv.ParseInt10At32
import Derived.Shelf.Strconv.ParseInt10At16
import Derived.Shelf.Strconv.ParseInt10At8
import Derived.Shelf.Strconv.ParseInt10All
import Derived.Shelf.Strconv.ParseIntPublic10
import Derived.Shelf.Strconv.ErrVarParseInt
import Derived.Shelf.Strings.Search1
import Derived.Shelf.Strings.Search2
import Derived.Shelf.Strings.Search3
import Derived.Shelf.Strings.Cut
import Derived.Shelf.Strings.Count
import Derived.Shelf.Strings.Shaped
import Derived.Shelf.Strings.Prefix
import Derived.Shelf.Strings.Split
import Derived.Shelf.Strings.SplitShaped
import Derived.Shelf.Unicode.Decode
import Derived.Shelf.Strings.RuneCount
import Derived.Shelf.Strings.Explode
import Derived.Shelf.Bits.Mul64
import Derived.Shelf.Unicode.DecodeSlow
import Derived.Shelf.Unicode.DecodeAny
import Derived.Shelf.SlicesG.Clone
import Derived.Shelf.SlicesE.Clone
import Derived.Ground.SlgcProg
import Derived.Shelf.SlicesG.Cmp
import Derived.Lib.ParseIntB
import Derived.Lib.ItoaNum
import Derived.Lib.Strings
import Derived.WalkKit
import Derived.OpenShut
import Derived.Handy
import Derived.Below
import Derived.Deep.Draws
import Derived.Laws.MakeOwn
import Derived.Deep.QuietTactic
import Derived.Lib.ItoaLen
import Derived.Laws.Cover3
import Derived.Deep.CutBlock
import Derived.Laws.CopyOwn
import Derived.Laws.Bits64b
import Derived.Maps.OwnSet
import Derived.Maps.Views
import Derived.ArgAppend
import Derived.Deep.CutRange
namespace Go.Proofs.YtanlgnjgpbjebaaGreatDoor
open Go.ChangeShapes Go.WideShapes Go.ChangeAt Go.RowKit
set_option linter.unusedVariables false
set_option linter.unusedSimpArgs false

noncomputable def frmH (f : DN) (d : DL) : Bool × Int := if frmC f d = 0 then (inS (semF f d) d.2.1.toNat, 0) else (false, frmC f d)
set_option maxRecDepth 100000 in
set_option maxHeartbeats 3200000 in
theorem specFormulaHolds_u {v u : Value} {f : DN} {d : DL} {w : World} {lo hi lo' hi' : Nat} (he : Env w) (g : FreshN w lo' hi' u f) (gh : hi' ≤ w.heap.size) (h : FreshL w lo hi v d) (hh : hi ≤ w.heap.size) :
    Calls Tryz.prog 14 #[u, v] w fun e w' => e = .returned (.tuple #[.bool (frmH f d).1, .int .i64 (frmH f d).2]) ∧ Below w.heap.size w w' := by
  obtain ⟨⟨⟨s0, s1, v2, v3⟩, rfl, hL⟩, ht⟩ := h
  obtain ⟨A, n, rfl, gs, gt⟩ := g
  obtain ⟨st, ini, ls, es⟩ := d
  have hAt := LtsAt.box hL hh ht
  have hb0 : Below w.heap.size w (w.alloc (.cells #[.int .i64 s0, .int .i64 s1, v2, v3] 35)) := (Below.refl _ _).alloc (Nat.le_refl _) _
  have gs0 : SlN (w.alloc (.cells #[.int .i64 s0, .int .i64 s1, v2, v3] 35)) 0 w.heap.size A n f := (gs.below hb0 (.inr (Nat.le_refl _))).more (Nat.zero_le _) gh
  have hzs := hb0.size
  replace hb0 := hide hb0
  clear hL he gs
  go_enter Tryz.func14, Tryz.ntmps14
  go_upto_region 1 with fail
  generalize (w.alloc (.cells #[.int .i64 s0, .int .i64 s1, v2, v3] 35)) = W0 at *
  have gs1 : SlN W0 0 W0.heap.size A n f := gs0.more (Nat.le_refl _) hzs
  have q1 := l21Ask_calls A n n w.heap.size f _ (st, ini, ls, es) W0 gs1 gt hAt
  by_cases hc : frmC f (st, ini, ls, es) = 0
  case neg =>
    have hval : Hid (frmH f (st, ini, ls, es) = (false, frmC f (st, ini, ls, es))) := by show _ = _; unfold frmH; rw [if_neg hc]
    generalize frmC f (st, ini, ls, es) = oc at *
    replace q1 := hide q1
    have hcb : (oc != 0) = true := by simpa using hc
    clear hAt gs0 gs1
    go_wp2_with (first | (go_at_call 45; (with_reducible refine q1.out.mono ?_); rintro e w5 ⟨rfl, hb5⟩; replace hb5 := hide hb5))
    go_ret2
    exact ⟨by rw [hval.out]; rfl, hb0.out.trans (hb5.out.mono hzs)⟩
  obtain ⟨hV, hlv⟩ := frmC_ok hc
  have hval : Hid (frmH f (st, ini, ls, es) = (inS (semF f (st, ini, ls, es)) ini.toNat, 0)) := by show _ = _; unfold frmH; rw [if_pos hc]
  rw [hc] at q1
  replace q1 := hide q1
  have hb40 := (lts_boundsB hlv).1
  obtain ⟨N, rfl⟩ : ∃ N : Nat, st = (N : Int) := ⟨st.toNat, by omega⟩
  have hN40 : N ≤ 40 := by omega
  have q2 := hide fun (W : World) (hW : Below W0.heap.size W0 W) => l21Holds_calls A n n w.heap.size N f _ ini ls es W ((gs1.below hW (.inr (Nat.le_refl _))).more (Nat.le_refl _) hW.size) gt hV (hAt.below hW (Nat.le_refl _)) hlv
  have hini := (lts_boundsB hlv).2
  obtain ⟨I, rfl⟩ : ∃ I : Nat, ini = (I : Int) := ⟨ini.toNat, by omega⟩
  have hIN : I < N := by omega
  have hbt : w.heap.size < W0.heap.size := hAt.2.2.1
  have e1 := hAt.1.2.1
  have l1 := hAt.2.2.2.2.1
  dsimp only at e1
  subst e1
  have hI0 : (0 : Int) ≤ (I : Int) := by omega
  have hI1 : (I : Int) < (N : Int) := by omega
  clear hc hAt gs0 gs1 hV hlv
  go_upto_region 4 with (first | (go_at_call 45; (with_reducible refine q1.out.mono ?_); rintro e w5 ⟨rfl, hb5⟩; have q3 := hide (q2.out w5.drew (hb5.drew)); have k1 := (hb5.cell (p := ⟨w.heap.size, 1, none⟩) hbt).trans l1; have hz5 := hb5.size; replace hb5 := hide hb5; clear q1))
  have k1d : w5.drew.cell? ⟨w.heap.size, 1, none⟩ = some (.int .i64 (I : Nat)) := k1
  refine lateT_begin (S := fun w' => w'.cell? ⟨w.heap.size, 1, none⟩ = some (.int .i64 (I : Nat))) (st := 7) (by kernel_rfl) ?_
  have hS0 := k1
  refine lateT_take (i := 0) (oi := _) (v := ?_) [7] rfl (by kernel_rfl) (by kernel_rfl) (by kernel_rfl) (by kernel_rfl) (fun _ _ _ h => h) (Or.inl ⟨by kernel_rfl, ?hy⟩) hS0 ?_
  case hy => (intro w' hSw; (try dsimp only at hSw); go_simp <;> with_reducible rfl)
  (try simp only [Act.put, List.setIfInBounds_toArray, List.set_cons_zero, List.set_cons_succ])
  refine lateT_take (i := 2) (oi := _) (v := ?_) [7] rfl (by kernel_rfl) (by kernel_rfl) (by kernel_rfl) (by kernel_rfl) (fun _ _ _ h => h) (Or.inl ⟨by kernel_rfl, ?hy⟩) hS0 ?_
  case hy => (intro w' hSw; (try dsimp only at hSw); go_simp <;> with_reducible rfl)
  (try simp only [Act.put, List.setIfInBounds_toArray, List.set_cons_zero, List.set_cons_succ])
  refine lateT_take (i := 3) (oi := _) (v := ?_) [7] rfl (by kernel_rfl) (by kernel_rfl) (by kernel_rfl) (by kernel_rfl) (fun _ _ _ h => h) (Or.inl ⟨by kernel_rfl, ?hy⟩) hS0 ?_
  case hy => (intro w' hSw; (try dsimp only at hSw); have hq1 := hSw; go_simp <;> with_reducible rfl)
  (try simp only [Act.put, List.setIfInBounds_toArray, List.set_cons_zero, List.set_cons_succ])
  refine lateT_step (i := 1) (by kernel_rfl) rfl (fun K hK => ?_)
  go_simp
  go_at_call 46; (with_reducible refine q3.out.mono ?_); rintro e w6 ⟨A6, c6, rfl, hs6, hb6⟩; have k2 : w6.cell? ⟨w.heap.size, 1, none⟩ = some (.int .i64 (I : Nat)) := (hb6.cell (p := ⟨w.heap.size, 1, none⟩) (by show w.heap.size < w5.heap.size; omega)).trans k1; obtain ⟨b6, o6, rfl, -⟩ := hs6.at_ (show 0 < N by omega); obtain ⟨m6, -⟩ := SlB.cell hs6 hIN; replace hb6 := hide hb6; clear hs6
  have hS1 := k2
  refine hK.out _ _ (fun _ => hS1) ?_
  clear hK K
  (try simp only [Act.put, List.setIfInBounds_toArray, List.set_cons_zero, List.set_cons_succ])
  refine lateT_take (i := 4) (oi := _) (v := ?_) [7] rfl (by kernel_rfl) (by kernel_rfl) (by kernel_rfl) (by kernel_rfl) (fun _ _ _ h => h) (Or.inl ⟨by kernel_rfl, ?hy⟩) hS1 ?_
  case hy => (intro w' hSw; (try dsimp only at hSw); go_simp <;> with_reducible rfl)
  (try simp only [Act.put, List.setIfInBounds_toArray, List.set_cons_zero, List.set_cons_succ])
  refine lateT_step (i := 5) (by kernel_rfl) rfl (fun K hK => ?_)
  go_simp
  have hS2 := k2
  refine hK.out _ _ (fun _ => hS2) ?_
  clear hK K
  (try simp only [Act.put, List.setIfInBounds_toArray, List.set_cons_zero, List.set_cons_succ])
  refine lateT_take (i := 6) (oi := _) (v := ?_) [7] rfl (by kernel_rfl) (by kernel_rfl) (by kernel_rfl) (by kernel_rfl) (fun _ _ _ h => h) (Or.inl ⟨by kernel_rfl, ?hy⟩) hS2 ?_
  case hy => (intro w' hSw; (try dsimp only at hSw); go_simp <;> with_reducible rfl)
  (try simp only [Act.put, List.setIfInBounds_toArray, List.set_cons_zero, List.set_cons_succ])
  refine lateT_step (i := 7) (by kernel_rfl) rfl (fun K hK => ?_)
  go_simp
  refine hK.out _ _ (fun h => absurd rfl h) ?_
  clear hK K
  (try simp only [Act.put, List.setIfInBounds_toArray, List.set_cons_zero, List.set_cons_succ])
  refine lateT_done (by kernel_rfl) ?_ _
  go_wp2_with fail
  go_ret2
  exact ⟨by rw [hval.out]; rfl, hb0.out.trans ((hb5.out.drew.trans (hb6.out.mono hz5)).mono hzs)⟩

end Go.Proofs.YtanlgnjgpbjebaaGreatDoor

namespace Go.Proofs.YtanlgnjgpbjebaaGreatDoor
open Go.ChangeShapes Go.WideShapes Go.ChangeAt Go.RowKit
set_option linter.unusedVariables false
set_option linter.unusedSimpArgs false

set_option maxRecDepth 100000 in
set_option maxHeartbeats 3200000 in
theorem implFormulaHolds_u {v u : Value} {f : DN} {d : DL} {w : World} {lo hi lo' hi' : Nat} (he : Env w) (g : FreshN w lo' hi' u f) (gh : hi' ≤ w.heap.size) (h : FreshL w lo hi v d) (hh : hi ≤ w.heap.size) :
    Calls Tryz.prog 17 #[u, v] w fun e w' => e = .returned (.tuple #[.bool (frmH f d).1, .int .i64 (frmH f d).2]) ∧ Below w.heap.size w w' := by
  obtain ⟨A2, n2, k2, A3, n3, k3, rfl, hS⟩ := SysAt.box he h hh
  obtain ⟨A, n, rfl, hF⟩ := FrmAt.of g gh
  obtain ⟨st, ini, ls, es⟩ := d
  dsimp only at hS ⊢
  obtain ⟨W0, hW0⟩ : ∃ W', W' = w.alloc (.cells #[.int .i64 st, .int .i64 ini, .slice A2 n2 k2, .slice A3 n3 k3] 35) := ⟨_, rfl⟩
  have hb0 : Below w.heap.size w W0 := by rw [hW0]; exact (Below.refl _ _).alloc (Nat.le_refl _) _
  rw [← hW0] at hS
  replace hF := hF.below hb0
  have hz0 := hb0.size
  have q1 := code1_calls hS hF (c := n)
  obtain ⟨b0, b1, b2, b3⟩ := hS.facts
  replace hb0 := hide hb0
  clear he g h
  go_enter Tryz.func17, Tryz.ntmps17
  go_upto_region 1 with fail
  rw [← hW0]
  clear hW0
  by_cases hc : frmC f (st, ini, ls, es) = 0
  case neg =>
    have hval : Hid (frmH f (st, ini, ls, es) = (false, frmC f (st, ini, ls, es))) := by show _ = _; unfold frmH; rw [if_neg hc]
    generalize frmC f (st, ini, ls, es) = oc at *
    replace q1 := hide q1
    have hcb : (oc != 0) = true := by simpa using hc
    clear hS hF
    go_wp2_with (first | (go_at_call 50; (with_reducible refine q1.out.mono ?_); rintro e w5 ⟨rfl, hb5⟩; replace hb5 := hide hb5))
    go_ret2
    exact ⟨by rw [hval.out]; rfl, hb0.out.trans (hb5.out.mono hz0)⟩
  obtain ⟨hV, hlv⟩ := frmC_ok hc
  have hval : Hid (frmH f (st, ini, ls, es) = (inS (semF f (st, ini, ls, es)) ini.toNat, 0)) := by show _ = _; unfold frmH; rw [if_pos hc]
  rw [hc] at q1
  replace q1 := hide q1
  have hb40 := (lts_boundsB hlv).1
  obtain ⟨N, rfl⟩ : ∃ N : Nat, st = (N : Int) := ⟨st.toNat, by omega⟩
  have hN40 : N ≤ 40 := by omega
  have hn0 : 0 < n := by have := hV.len; have := hF.1.len; omega
  have hwon : wonS f ((N : Int), ini, ls, es) none 0 = semF f ((N : Int), ini, ls, es) := by rw [wonS_none hV hlv (by have := hV.len; omega), semP_zero]
  have q2 := fun (W : World) (hW : Below W0.heap.size W0 W) => (hS.below hW).sem (hF.below hW) hV hlv (vs := .slice none 0 0) (set := none) rfl hn0 (c := n)
  rw [hwon, show ((0 : Nat) : Int) = 0 from rfl] at q2
  replace q2 := hide q2
  have hS' := hide hS
  have hlv0 := hide hlv
  clear hc hS hF hV hlv hwon
  have hini := (lts_boundsB hlv0.out).2
  obtain ⟨I, rfl⟩ : ∃ I : Nat, ini = (I : Int) := ⟨ini.toNat, by omega⟩
  have hIN : I < N := by omega
  have hI0 : (0 : Int) ≤ (I : Int) := by omega
  have hI1 : (I : Int) < (N : Int) := by omega
  have hSS := hide (fun (W : World) (hW : Below W0.heap.size W0 W) => (hS'.out.below hW).facts)
  go_upto_region 4 with (first | (go_at_call 50; (with_reducible refine q1.out.mono ?_); rintro e w5 ⟨rfl, hb5⟩; have q3 := hide (q2.out w5.drew hb5.drew); have hS5 := hSS.out w5 hb5; have hz5 := hb5.size; clear q1))
  refine lateT_begin (S := fun w' => w'.cell? ⟨w.heap.size, 0, none⟩ = some (.int .i64 (N : Nat)) ∧ w'.cell? ⟨w.heap.size, 1, none⟩ = some (.int .i64 (I : Nat)) ∧ w'.cell? ⟨w.heap.size, 2, none⟩ = some (.slice A2 n2 k2) ∧ w'.cell? ⟨w.heap.size, 3, none⟩ = some (.slice A3 n3 k3)) (st := 8) (by kernel_rfl) ?_
  have hS0 := hS5
  refine lateT_take (i := 0) (oi := _) (v := ?_) [8] rfl (by kernel_rfl) (by kernel_rfl) (by kernel_rfl) (by kernel_rfl) (fun _ _ _ h => h) (Or.inl ⟨by kernel_rfl, ?hy⟩) hS0 ?_
  case hy => (intro w' hSw; (try dsimp only at hSw); (obtain ⟨hq0, hq1, hq2, hq3⟩ := hSw); go_simp <;> with_reducible rfl)
  (try simp only [Act.put, List.setIfInBounds_toArray, List.set_cons_zero, List.set_cons_succ])
  refine lateT_take (i := 1) (oi := _) (v := ?_) [8] rfl (by kernel_rfl) (by kernel_rfl) (by kernel_rfl) (by kernel_rfl) (fun _ _ _ h => h) (Or.inl ⟨by kernel_rfl, ?hy⟩) hS0 ?_
  case hy => (intro w' hSw; (try dsimp only at hSw); (obtain ⟨hq0, hq1, hq2, hq3⟩ := hSw); go_simp <;> with_reducible rfl)
  (try simp only [Act.put, List.setIfInBounds_toArray, List.set_cons_zero, List.set_cons_succ])
  refine lateT_take (i := 3) (oi := _) (v := ?_) [8] rfl (by kernel_rfl) (by kernel_rfl) (by kernel_rfl) (by kernel_rfl) (fun _ _ _ h => h) (Or.inl ⟨by kernel_rfl, ?hy⟩) hS0 ?_
  case hy => (intro w' hSw; (try dsimp only at hSw); (obtain ⟨hq0, hq1, hq2, hq3⟩ := hSw); go_simp <;> with_reducible rfl)
  (try simp only [Act.put, List.setIfInBounds_toArray, List.set_cons_zero, List.set_cons_succ])
  refine lateT_take (i := 4) (oi := _) (v := ?_) [8] rfl (by kernel_rfl) (by kernel_rfl) (by kernel_rfl) (by kernel_rfl) (fun _ _ _ h => h) (Or.inl ⟨by kernel_rfl, ?hy⟩) hS0 ?_
  case hy => (intro w' hSw; (try dsimp only at hSw); (obtain ⟨hq0, hq1, hq2, hq3⟩ := hSw); go_simp <;> with_reducible rfl)
  (try simp only [Act.put, List.setIfInBounds_toArray, List.set_cons_zero, List.set_cons_succ])
  refine lateT_step (i := 2) (by kernel_rfl) rfl (fun K hK => ?_)
  go_simp
  go_at_call 51; (with_reducible refine q3.out.mono ?_); rintro e w6 ⟨A6, c6, rfl, hs6, hb6'⟩
  have hb6 : Below w5.heap.size w5 w6 := ((Below.refl _ _).drew).trans hb6'
  have hS1 := hSS.out w6 (hb5.trans (hb6.mono hz5))
  obtain ⟨b6, o6, rfl, -⟩ := hs6.at_ (show 0 < N by omega)
  obtain ⟨m6, -⟩ := SlB.cell hs6 hIN
  clear hs6 hb6'
  refine hK.out _ _ (fun _ => hS1) ?_
  clear hK K
  (try simp only [Act.put, List.setIfInBounds_toArray, List.set_cons_zero, List.set_cons_succ])
  refine lateT_step (i := 5) (by kernel_rfl) rfl (fun K hK => ?_)
  go_simp
  refine hK.out _ _ (fun _ => hS1) ?_
  clear hK K
  (try simp only [Act.put, List.setIfInBounds_toArray, List.set_cons_zero, List.set_cons_succ])
  refine lateT_step (i := 6) (by kernel_rfl) rfl (fun K hK => ?_)
  go_simp
  refine hK.out _ _ (fun _ => hS1) ?_
  clear hK K
  (try simp only [Act.put, List.setIfInBounds_toArray, List.set_cons_zero, List.set_cons_succ])
  refine lateT_step (i := 7) (by kernel_rfl) rfl (fun K hK => ?_)
  go_simp
  refine hK.out _ _ (fun _ => hS1) ?_
  clear hK K
  (try simp only [Act.put, List.setIfInBounds_toArray, List.set_cons_zero, List.set_cons_succ])
  refine lateT_step (i := 8) (by kernel_rfl) rfl (fun K hK => ?_)
  go_simp
  refine hK.out _ _ (fun h => absurd rfl h) ?_
  clear hK K
  (try simp only [Act.put, List.setIfInBounds_toArray, List.set_cons_zero, List.set_cons_succ])
  refine lateT_done (by kernel_rfl) ?_ _
  go_wp2_with fail
  go_ret2
  exact ⟨by rw [hval.out]; rfl, hb0.out.trans ((hb5.trans (hb6.mono hz5)).mono hz0)⟩

end Go.Proofs.YtanlgnjgpbjebaaGreatDoor
