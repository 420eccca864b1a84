/-
  Several texts in one:
  The states at which an approximant holds: by both programs. Conditions: none.
-/
import Derived.Test.YtanlgnjgpbjebaaGreatDoorBaseA
import Derived.Test.YtanlgnjgpbjebaaGreatDoorBaseB
import Derived.Test.YtanlgnjgpbjebaaGreatDoorBaseC
import Derived.Test.YtanlgnjgpbjebaaGreatDoorBaseD
import Derived.Test.YtanlgnjgpbjebaaGreatDoorBaseE
import Derived.Test.YtanlgnjgpbjebaaGreatDoorBaseF
import Derived.Test.YtanlgnjgpbjebaaGreatDoorBaseG
import Derived.Test.YtanlgnjgpbjebaaGreatDoorBaseH
import Derived.Test.YtanlgnjgpbjebaaGreatDoorBaseI
import Derived.Test.YtanlgnjgpbjebaaGreatDoorBaseJ
import Derived.Test.YtanlgnjgpbjebaaGreatDoorBaseK
import Derived.Test.YtanlgnjgpbjebaaGreatDoorBaseL
import Derived.Test.YtanlgnjgpbjebaaGreatDoorBaseM
import Derived.Test.YtanlgnjgpbjebaaGreatDoorBaseN
import Derived.Test.YtanlgnjgpbjebaaGreatDoorBaseO
import Derived.Lib.AppendIntMem
import Derived.WalkSmall
import Derived.StillTailTactics
import Derived.Test.YtanlgnjgpbjebaaGreatDoorRows
import Derived.LoopTactic
import Derived.Deep.QuietTactic
import Derived.BigQuiet
import Derived.Deep.RegionHeld3
import Derived.StillTail
import Derived.OrdersHeld
import Derived.Deep.RegionLaw
import Derived.Laws.CopyOwn
import Derived.Laws.Bits64b
import Derived.Deep.LoopGhost
import Derived.Deep.DeepCutAuto
import Derived.Lib.Split
import Derived.Lib.Join
import Derived.Lib.ItoaLen
import Derived.Outline
import Derived.Shelf.Strings.Builder1
import Derived.Shelf.Strings.Builder2
import Derived.Shelf.Strings.OnBuilder
import Derived.Shelf.Small.Bits
import Derived.Shelf.Strings.BuilderF
import Derived.Shelf.Strings.BuilderK
import Derived.Shelf.Utf8.RuneCount
import Derived.Shelf.Strings.Builder2Cap
import Derived.Shelf.Strconv.Itoa0
import Derived.Shelf.Strconv.Itoa1
import Derived.Shelf.LaysM
import Derived.Shelf.Strconv.Itoa2
import Derived.Shelf.Strconv.Itoa3
import Derived.Shelf.Strconv.Itoa4
import Derived.Shelf.Strconv.ParseIntEmpty
import Derived.Shelf.Strconv.Clone
import Derived.Shelf.Strconv.SyntaxError
import Derived.Shelf.LaysC
import Derived.Shelf.Strconv.ToError
import Derived.Shelf.Strconv.Lower
import Derived.Shelf.Strconv.ParseUint10
import Derived.Shelf.Strconv.ParseUint10Empty
import Derived.Shelf.Strconv.ParseUint10Any
import Derived.Shelf.Strconv.ParseInt10
import Derived.Shelf.Strconv.RangeError
import Derived.Shelf.Strconv.ToErrorRange
import Derived.Shelf.Strconv.ParseUintEmpty
import Derived.Shelf.Strconv.ParseUint10b64
import Derived.Shelf.Strconv.ParseUint10b32
import Derived.Shelf.Strconv.ParseUint10b16
import Derived.Shelf.Strconv.ParseUint10b8
import Derived.Shelf.Strconv.ParseUint10At
import Derived.Shelf.Strconv.ParseInt10At64
import Derived.Shelf.Strconv.ParseInt10At32
import Derived.Shelf.Strconv.ParseInt10At16
import Derived.Shelf.Strconv.ParseInt10At8
import Derived.Shelf.Strconv.ParseInt10All
import Derived.Shelf.Strconv.ParseIntPublic10
import Derived.Shelf.Strconv.ErrVarParseInt
import Derived.Shelf.Strings.Search1
import Derived.Shelf.Strings.Search2
import Derived.Shelf.Strings.Search3
import Derived.Shelf.Strings.Cut
import Derived.Shelf.Strings.Count
import Derived.Shelf.Strings.Shaped
import Derived.Shelf.Strings.Prefix
import Derived.Shelf.Strings.Split
import Derived.Shelf.Strings.SplitShaped
import Derived.Shelf.Unicode.Decode
import Derived.Shelf.Strings.RuneCount
import Derived.Shelf.Strings.Explode
import Derived.Shelf.Bits.Mul64
import Derived.Shelf.Unicode.DecodeSlow
import Derived.Shelf.Unicode.DecodeAny
import Derived.Ground.SlgnProg
import Derived.Shelf.SlicesG.Clone
import Derived.Shelf.SlicesG.CompactI
import Derived.Shelf.SlicesG.SearchI
import Derived.Shelf.SlicesG.Cells
import Derived.Shelf.SlicesE.Clone
import Derived.Ground.SlgcProg
import Derived.Shelf.SlicesG.Cmp
import Derived.Ground.SlgmProg
import Derived.Shelf.SortM.Plain
import Derived.Shelf.SortM.SortNone
import Derived.Test.YtanlgnjgpbjebaaGreatDoorProg
import Derived.Deep.CutRange
import Derived.RegionTactic
import Derived.ChangeAlike
import Derived.WalkKit
import Derived.ProofKit
import Derived.OpenShut
import Derived.Handy
import Derived.Below
import Derived.Deep.Draws
import Derived.Laws.MakeOwn
import Derived.Laws.BytesArg
import Derived.IntWalk
import Derived.Shelf.SlicesG.Turned
import Derived.Shelf.SlGeneric
import Derived.OneCell
import Derived.WalkSpells
import Derived.Lib.QuietBelow
import Derived.Laws.Cover1
import Derived.Lib.ParseIntB
import Derived.Lib.ItoaNum
import Derived.Lib.Strings
import Derived.Deep.Slices
import Derived.Deep.Fields
import Derived.ChangeSame
import Derived.ChangeOld
import Derived.LaidMore
import Derived.LaidLaws
import Derived.HandedShaped
import Derived.Stop.LaidErr
import Derived.Lib.LaidTab
import Derived.Maps.OwnSet
import Derived.Maps.Views
import Derived.ArgAppend
import Derived.Laws.Cover3
import Derived.Deep.CutBlock
import Derived.Maps.AppendAt
import Derived.Laws.OwnMore
import Derived.OwnWalk
set_option linter.unusedVariables false
set_option linter.unusedSimpArgs false
set_option linter.unusedSimpArgs false
set_option linter.unusedVariables false
namespace Go.Proofs.YtanlgnjgpbjebaaGreatDoor
open Go.ChangeShapes Go.WideShapes Go.ChangeAt Go.RowKit
set_option linter.unusedVariables false
set_option linter.unusedSimpArgs false

noncomputable def apxF (f : DN) (d : DL) (k : Int) : List Int × Int := if fstC f d = 0 then (if inB k 0 40 = true then (idxOf (apN f d (min k.toNat (clsN f d))), 0) else ([], 2)) else ([], fstC f d)
theorem idx_le (l : List Bool) : (idxOf l).length ≤ l.length := by
  have h1 := List.length_filter_le (inS l) (List.range l.length)
  rw [List.length_range] at h1
  unfold idxOf
  rw [List.length_map]
  exact h1
theorem l00MinR_calls (a b : Int) (w : World) : Calls Tryz.prog 86 #[.int .i64 a, .int .i64 b] w fun e w' => e = .returned (.int .i64 (if a < b then a else b)) ∧ w = w' := by
  by_cases h : a < b
  · have hr := hide (show (if a < b then a else b) = a from if_pos h)
    go_enter Tryz.func86, Tryz.ntmps86
    go_wp2
    go_ret
    exact ⟨by first | rfl | exact ret_i hr.out, rfl⟩
  · have hr := hide (show (if a < b then a else b) = b from if_neg h)
    have h' : b ≤ a := by omega
    clear h
    go_enter Tryz.func86, Tryz.ntmps86
    go_wp2
    go_ret
    exact ⟨by first | rfl | exact ret_i hr.out, rfl⟩
set_option maxRecDepth 100000 in
set_option maxHeartbeats 3200000 in
theorem specApproximantStates_u {v u : Value} {f : DN} {d : DL} {w : World} {lo hi lo' hi' : Nat} (he : Env w) (g : FreshN w lo' hi' u f) (gh : hi' ≤ w.heap.size) (h : FreshL w lo hi v d) (hh : hi ≤ w.heap.size) (k : Int) :
    Calls Tryz.prog 40 #[u, v, .int .i64 k] w fun e w' => ∃ o, e = .returned (.tuple #[o, .int .i64 (apxF f d k).2]) ∧ ResI w' w.heap.size w'.heap.size o (apxF f d k).1 ∧ Below w.heap.size w w' := by
  obtain ⟨⟨⟨s0, s1, v2, v3⟩, rfl, hL⟩, ht⟩ := h
  obtain ⟨A, n, rfl, hF⟩ := FrmAt.of g gh
  obtain ⟨st, ini, ls, es⟩ := d
  have hAt := LtsAt.box hL hh ht
  obtain ⟨W0, hW0⟩ : ∃ W', W' = w.alloc (.cells #[.int .i64 s0, .int .i64 s1, v2, v3] 35) := ⟨_, rfl⟩
  have hb0 : Below w.heap.size w W0 := by rw [hW0]; exact (Below.refl _ _).alloc (Nat.le_refl _) _
  rw [← hW0] at hAt
  replace hF := hF.below hb0
  have hz0 := hb0.size
  have q1 := l21First_calls A n n w.heap.size f _ (st, ini, ls, es) W0 hF.1 hF.2 hAt
  replace hb0 := hide hb0
  clear he g hL
  go_enter Tryz.func40, Tryz.ntmps40
  go_upto_region 1 with fail
  rw [← hW0]
  clear hW0
  by_cases hc : fstC f (st, ini, ls, es) = 0
  case neg =>
    have hval : Hid (apxF f (st, ini, ls, es) k = ([], fstC f (st, ini, ls, es))) := by show _ = _; unfold apxF; rw [if_neg hc]
    generalize fstC f (st, ini, ls, es) = oc at *
    replace q1 := hide q1
    have hcb : (oc != 0) = true := by simpa using hc
    clear hAt hF
    go_wp2_with (first | (go_at_call 60; (with_reducible refine q1.out.mono ?_); rintro e w5 ⟨rfl, hb5⟩; replace hb5 := hide hb5))
    go_ret2
    exact ⟨.slice none 0 0, by rw [hval.out]; rfl, by rw [hval.out]; exact ⟨none, 0, 0, rfl, by omega, Sl.nil_⟩, hb0.out.trans (hb5.out.mono hz0)⟩
  obtain ⟨hV, hlv, h0⟩ := fstC_ok hc
  rw [hc] at q1
  replace q1 := hide q1
  have qI := fun W => l00In_calls k 0 40 W
  cases hk : inB k 0 40 with
  | false =>
    have hval : Hid (apxF f (st, ini, ls, es) k = ([], 2)) := by show _ = _; unfold apxF; rw [if_pos hc, hk]; rfl
    simp only [hk] at qI
    replace qI := hide qI
    clear hAt hF hk hc hV hlv h0
    go_wp2_with (first | (go_at_call 60; (with_reducible refine q1.out.mono ?_); rintro e w5 ⟨rfl, hb5⟩; replace hb5 := hide hb5; clear q1) | (go_at_call 79; (with_reducible refine (qI.out _).mono ?_); rintro e w' ⟨rfl, rfl⟩))
    go_ret2
    exact ⟨.slice none 0 0, by rw [hval.out]; rfl, by rw [hval.out]; exact ⟨none, 0, 0, rfl, by omega, Sl.nil_⟩, hb0.out.trans (hb5.out.mono hz0)⟩
  | true =>
  simp only [hk] at qI
  replace qI := hide qI
  obtain ⟨hk0, hk40⟩ := inB_true.1 hk
  obtain ⟨K, rfl⟩ : ∃ K : Nat, k = (K : Int) := ⟨k.toNat, by omega⟩
  have hb40 := (lts_boundsB hlv).1
  obtain ⟨N, rfl⟩ : ∃ N : Nat, st = (N : Int) := ⟨st.toNat, by omega⟩
  have hN40 : N ≤ 40 := by omega
  obtain ⟨M, hM⟩ : ∃ M : Nat, min K (clsN f ((N : Int), ini, ls, es)) = M := ⟨_, rfl⟩
  have hval : Hid (apxF f ((N : Int), ini, ls, es) (K : Int) = (idxOf (apN f ((N : Int), ini, ls, es) M), 0)) := by show _ = _; unfold apxF; rw [if_pos hc, if_pos hk, show ((K : Int)).toNat = K from rfl, hM]
  have hrow := apN_len (f := f) (d := ((N : Int), ini, ls, es)) M
  rw [show ((N : Int), ini, ls, es).1.toNat = N from rfl] at hrow
  have q2 := hide fun (W : World) (hW : Below W0.heap.size W0 W) => l21Rounds_calls A n n w.heap.size N f _ ini ls es W (hF.below hW).1 hF.2 hV h0 (hAt.below hW (Nat.le_refl _)) hlv
  clear hc hAt hF hV hlv h0 hb40 hk
  generalize clsN f ((N : Int), ini, ls, es) = C at *
  by_cases hC : C ≤ N
  case neg =>
    have hC2 : ¬ C ≤ N := hC
    clear hM
    go_wp2_with (first | (go_at_call 60; (with_reducible refine q1.out.mono ?_); rintro e w5 ⟨rfl, hb5⟩; have q3 := hide (q2.out w5 hb5); replace hb5 := hide hb5; clear q1) | (go_at_call 79; (with_reducible refine (qI.out _).mono ?_); rintro e w' ⟨rfl, rfl⟩) | (go_at_call 61; (with_reducible refine q3.out.mono ?_); rintro e w6 ⟨A6, c6, R6, rfl, -, -, hCN, hb6⟩; exact absurd hCN hC2))
  have hMC : M ≤ C := by omega
  have hi1 : IntKind.i64.wrap (((C + 1 : Nat) : Int) - 1) = (C : Int) := by rw [IntWalk.i64_in _ (by omega)]; omega
  have hi2 : ((C + 1 : Nat) : Int) - 1 = (C : Int) := by omega
  have hM0 : (0 : Int) ≤ (M : Int) := by omega
  have hM1 : (M : Int) < ((C + 1 : Nat) : Int) := by omega
  have hmn : (if (K : Int) < (C : Int) then (K : Int) else (C : Int)) = (M : Int) := by split <;> omega
  have qM := fun W => l00MinR_calls (K : Int) (C : Int) W
  rw [hmn] at qM
  replace qM := hide qM
  clear hM hmn
  go_wp2_with (first | (go_at_call 60; (with_reducible refine q1.out.mono ?_); rintro e w5 ⟨rfl, hb5⟩; have q3 := hide (q2.out w5 hb5); replace hb5 := hide hb5; clear q1) | (go_at_call 79; (with_reducible refine (qI.out _).mono ?_); rintro e w' ⟨rfl, rfl⟩) | (go_at_call 61; (with_reducible refine q3.out.mono ?_); rintro e w6 ⟨A6, c6, R6, rfl, hG6, hR6, -, hb6⟩; obtain ⟨bo, oo, Ah, ch, s, rfl, go1, go2, hrj, co, hsj, hoff⟩ := hG6.get (show M < C + 1 by omega); have hs : s = apN f ((N : Int), ini, ls, es) M := (by have h1 : (R6.map (·.2))[M]? = some s := (by rw [List.getElem?_map, hrj]; rfl); rw [hR6, List.getElem?_map, List.getElem?_range (by omega)] at h1; exact (Option.some.inj h1).symm); subst hs; have qT := hide (l15True_calls Ah N ch _ w6 _ _ hsj (by omega)); replace hb6 := hide hb6; clear hG6 hR6 hrj hsj hoff) | (go_at_call 86; (with_reducible refine (qM.out _).mono ?_); rintro e w' ⟨rfl, rfl⟩) | (go_at_call 74; (with_reducible refine qT.out.mono ?_); rintro e w7 ⟨A7, c7, rfl, ho7, hb7⟩; replace ho7 := hide ho7; replace hb7 := hide hb7))
  go_ret2
  have hb6w := hb0.out.trans ((hb5.out.trans (hb6.out.mono hb5.out.size)).mono hz0)
  have hbw := hb6w.trans (hb7.out.mono hb6w.size)
  have hle := idx_le (apN f ((N : Int), ini, ls, es) M)
  exact ⟨.slice A7 _ c7, by rw [hval.out]; rfl, by rw [hval.out]; exact ⟨A7, _, c7, rfl, by omega, (ho7.out.sl flat_iv).more hb6w.size (Nat.le_refl _)⟩, hbw⟩
set_option maxRecDepth 100000 in
set_option maxHeartbeats 3200000 in
theorem implApproximantStates_u {v u : Value} {f : DN} {d : DL} {w : World} {lo hi lo' hi' : Nat} (he : Env w) (g : FreshN w lo' hi' u f) (gh : hi' ≤ w.heap.size) (h : FreshL w lo hi v d) (hh : hi ≤ w.heap.size) (k : Int) :
    Calls Tryz.prog 41 #[u, v, .int .i64 k] w fun e w' => ∃ o, e = .returned (.tuple #[o, .int .i64 (apxF f d k).2]) ∧ ResI w' w.heap.size w'.heap.size o (apxF f d k).1 ∧ Below w.heap.size w w' := by
  obtain ⟨A2, n2, k2, A3, n3, k3, rfl, hS⟩ := SysAt.box he h hh
  obtain ⟨A, n, rfl, hF⟩ := FrmAt.of g gh
  obtain ⟨st, ini, ls, es⟩ := d
  dsimp only at hS ⊢
  obtain ⟨W0, hW0⟩ : ∃ W', W' = w.alloc (.cells #[.int .i64 st, .int .i64 ini, .slice A2 n2 k2, .slice A3 n3 k3] 35) := ⟨_, rfl⟩
  have hb0 : Below w.heap.size w W0 := by rw [hW0]; exact (Below.refl _ _).alloc (Nat.le_refl _) _
  rw [← hW0] at hS
  replace hF := hF.below hb0
  have hz0 := hb0.size
  have q1 := fixedCode_calls hS hF (c := n)
  obtain ⟨b0, b1, b2, b3⟩ := hS.facts
  replace hb0 := hide hb0
  clear he g h
  go_enter Tryz.func41, Tryz.ntmps41
  go_upto_region 1 with fail
  rw [← hW0]
  clear hW0
  by_cases hc : fstC f (st, ini, ls, es) = 0
  case neg =>
    have hval : Hid (apxF f (st, ini, ls, es) k = ([], fstC f (st, ini, ls, es))) := by show _ = _; unfold apxF; rw [if_neg hc]
    generalize fstC f (st, ini, ls, es) = oc at *
    replace q1 := hide q1
    have hcb : (oc != 0) = true := by simpa using hc
    clear hS hF
    go_wp2_with (first | (go_at_call 62; (with_reducible refine q1.out.mono ?_); rintro e w5 ⟨rfl, hb5⟩; replace hb5 := hide hb5))
    go_ret2
    exact ⟨.slice none 0 0, by rw [hval.out]; rfl, by rw [hval.out]; exact ⟨none, 0, 0, rfl, by omega, Sl.nil_⟩, hb0.out.trans (hb5.out.mono hz0)⟩
  obtain ⟨hV, hlv, h0⟩ := fstC_ok hc
  rw [hc] at q1
  replace q1 := hide q1
  have hS' := hide hS
  have qI := fun W => within_calls k 0 40 W
  cases hk : inB k 0 40 with
  | false =>
    have hval : Hid (apxF f (st, ini, ls, es) k = ([], 2)) := by show _ = _; unfold apxF; rw [if_pos hc, hk]; rfl
    simp only [hk] at qI
    replace qI := hide qI
    clear hS hF hk hc hV hlv h0
    go_wp2_with (first | (go_at_call 62; (with_reducible refine q1.out.mono ?_); rintro e w5 ⟨rfl, hb5⟩; obtain ⟨d0, d1, d2, d3⟩ := (hS'.out.below hb5).facts; replace hb5 := hide hb5; clear q1) | (go_at_call 87; (with_reducible refine (qI.out _).mono ?_); rintro e w' ⟨rfl, rfl⟩))
    go_ret2
    exact ⟨.slice none 0 0, by rw [hval.out]; rfl, by rw [hval.out]; exact ⟨none, 0, 0, rfl, by omega, Sl.nil_⟩, hb0.out.trans (hb5.out.mono hz0)⟩
  | true =>
  simp only [hk] at qI
  replace qI := hide qI
  obtain ⟨hk0, hk40⟩ := inB_true.1 hk
  obtain ⟨K, rfl⟩ : ∃ K : Nat, k = (K : Int) := ⟨k.toNat, by omega⟩
  have hb40 := (lts_boundsB hlv).1
  obtain ⟨N, rfl⟩ : ∃ N : Nat, st = (N : Int) := ⟨st.toNat, by omega⟩
  have hN40 : N ≤ 40 := by omega
  obtain ⟨M, hM⟩ : ∃ M : Nat, min K (clsN f ((N : Int), ini, ls, es)) = M := ⟨_, rfl⟩
  have hval : Hid (apxF f ((N : Int), ini, ls, es) (K : Int) = (idxOf (apN f ((N : Int), ini, ls, es) M), 0)) := by show _ = _; unfold apxF; rw [if_pos hc, if_pos hk, show ((K : Int)).toNat = K from rfl, hM]
  have hrow := apN_len (f := f) (d := ((N : Int), ini, ls, es)) M
  rw [show ((N : Int), ini, ls, es).1.toNat = N from rfl] at hrow
  have q2 := hide fun (W : World) (hW : Below W0.heap.size W0 W) => approximants_calls (hS.below hW) (hF.below hW) hV h0 hlv (c := n)
  clear hc hS hF hV hlv h0 hb40 hk
  generalize clsN f ((N : Int), ini, ls, es) = C at *
  by_cases hC : C ≤ N
  case neg =>
    have hC2 : ¬ C ≤ N := hC
    clear hM
    go_wp2_with (first | (go_at_call 62; (with_reducible refine q1.out.mono ?_); rintro e w5 ⟨rfl, hb5⟩; have q3 := hide (q2.out w5 hb5); obtain ⟨d0, d1, d2, d3⟩ := (hS'.out.below hb5).facts; replace hb5 := hide hb5; clear q1) | (go_at_call 87; (with_reducible refine (qI.out _).mono ?_); rintro e w' ⟨rfl, rfl⟩) | (go_at_call 63; (with_reducible refine q3.out.mono ?_); rintro e w6 ⟨A6, c6, R6, rfl, -, -, hCN, hb6⟩; exact absurd hCN hC2))
  have hMC : M ≤ C := by omega
  have hi1 : IntKind.i64.wrap (((C + 1 : Nat) : Int) - 1) = (C : Int) := by rw [IntWalk.i64_in _ (by omega)]; omega
  have hi2 : ((C + 1 : Nat) : Int) - 1 = (C : Int) := by omega
  have hM0 : (0 : Int) ≤ (M : Int) := by omega
  have hM1 : (M : Int) < ((C + 1 : Nat) : Int) := by omega
  have hmn : min (K : Int) (C : Int) = (M : Int) := by omega
  clear hM
  go_wp2_with (first | (go_at_call 62; (with_reducible refine q1.out.mono ?_); rintro e w5 ⟨rfl, hb5⟩; have q3 := hide (q2.out w5 hb5); obtain ⟨d0, d1, d2, d3⟩ := (hS'.out.below hb5).facts; replace hb5 := hide hb5; clear q1) | (go_at_call 87; (with_reducible refine (qI.out _).mono ?_); rintro e w' ⟨rfl, rfl⟩) | (go_at_call 63; (with_reducible refine q3.out.mono ?_); rintro e w6 ⟨A6, c6, R6, rfl, hG6, hR6, -, hb6⟩; obtain ⟨bo, oo, Ah, ch, s, rfl, go1, go2, hrj, co, hsj, hoff⟩ := hG6.get (show M < C + 1 by omega); have hs : s = apN f ((N : Int), ini, ls, es) M := (by have h1 : (R6.map (·.2))[M]? = some s := (by rw [List.getElem?_map, hrj]; rfl); rw [hR6, List.getElem?_map, List.getElem?_range (by omega)] at h1; exact (Option.some.inj h1).symm); subst hs; have qT := hide (trueAt_calls Ah N ch _ w6 _ _ hsj (by omega)); replace hb6 := hide hb6; clear hG6 hR6 hrj hsj hoff) | (go_at_call 75; (with_reducible refine qT.out.mono ?_); rintro e w7 ⟨A7, c7, rfl, ho7, hb7⟩; replace ho7 := hide ho7; replace hb7 := hide hb7))
  go_ret2
  have hb6w := hb0.out.trans ((hb5.out.trans (hb6.out.mono hb5.out.size)).mono hz0)
  have hbw := hb6w.trans (hb7.out.mono hb6w.size)
  have hle := idx_le (apN f ((N : Int), ini, ls, es) M)
  exact ⟨.slice A7 _ c7, by rw [hval.out]; rfl, by rw [hval.out]; exact ⟨A7, _, c7, rfl, by omega, (ho7.out.sl flat_iv).more hb6w.size (Nat.le_refl _)⟩, hbw⟩

end Go.Proofs.YtanlgnjgpbjebaaGreatDoor
