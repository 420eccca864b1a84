/-
  Several texts in one:
  The laws' helpers on lists of int64: copying, comparing, marking, asking for the marks. Conditions: at most 1048576 numbers.
  Lists of int64 as fields of a law's arguments, and readings of fields. Conditions: none.
  Games on graphs: validity, and the program's search for an attractor (a worklist with counts of ways left), as plain mathematics. Conditions: none.
  Validity of games: what the program's and the reference's tests compute. Conditions: at most 1048576 vertices.
  The game of a valid formula and a valid system is one in the sense of XMuC; its winners tell the meaning of the parts: plain. Conditions: the formula is valid, the system's numbers are in range.
  The sets of the variables at a place within a formula, one fixed point after the other; the approximants of a formula that begins with a fixed point: plain. Conditions: a valid formula, a valid system.
  A growing row of lists of bools, each in a block of its own. Conditions: none.
  What the reference asks of a formula that must be a fixed point. Conditions: none.
  Where a part of a formula holds, by the program. Conditions: the formula and the system are valid.
  Two lists of bools and two boxes for them, made in any order. Conditions: none.
  The approximants of a formula that begins with a fixed point, by the reference. Conditions: a valid formula, a valid system.
  slices.Equal on lists of bools of one length, slices.IndexFunc on rows of them. Conditions: at most 1048576 elements.
  The approximants of a formula that begins with a fixed point, by the program. Conditions: a valid formula, a valid system.
  How many approximants there are until nothing changes: by both programs. Conditions: none.
  The round at which a state enters or leaves: by the program. Conditions: none.
  Whether a set is a fixed one: small facts, and the tests of the set by both programs. Conditions: sizes.
  Whether a set is a fixed one: by both programs. Conditions: none.
  Lists of numbers as arguments of a law: copying, comparing, opening. Conditions: sizes.
-/
import Derived.Test.YtanlgnjgpbjebaaGreatDoorBaseA
import Derived.Test.YtanlgnjgpbjebaaGreatDoorBaseB
import Derived.Test.YtanlgnjgpbjebaaGreatDoorBaseC
import Derived.Test.YtanlgnjgpbjebaaGreatDoorBaseD
import Derived.Test.YtanlgnjgpbjebaaGreatDoorBaseE
import Derived.Test.YtanlgnjgpbjebaaGreatDoorBaseF
import Derived.Test.YtanlgnjgpbjebaaGreatDoorBaseG
import Derived.Test.YtanlgnjgpbjebaaGreatDoorBaseH
import Derived.Test.YtanlgnjgpbjebaaGreatDoorBaseI
import Derived.Test.YtanlgnjgpbjebaaGreatDoorBaseJ
import Derived.Test.YtanlgnjgpbjebaaGreatDoorBaseK
import Derived.Test.YtanlgnjgpbjebaaGreatDoorBaseL
import Derived.Test.YtanlgnjgpbjebaaGreatDoorBaseM
import Derived.Test.YtanlgnjgpbjebaaGreatDoorRows
import Derived.LoopTactic
import Derived.Deep.QuietTactic
import Derived.BigQuiet
import Derived.IntWalk
import Derived.Deep.RegionHeld3
import Derived.WalkKit
import Derived.ProofKit
import Derived.OpenShut
import Derived.Handy
import Derived.Below
import Derived.Deep.Draws
import Derived.Laws.MakeOwn
import Derived.Maps.AppendAt
import Derived.Laws.OwnMore
import Derived.OwnWalk
import Derived.Deep.Slices
import Derived.Deep.Fields
import Derived.ChangeSame
import Derived.ChangeOld
import Derived.StillTailTactics
import Derived.Outline
import Derived.WalkSpells
import Derived.Lib.ParseIntB
import Derived.Lib.ItoaNum
import Derived.Lib.Strings
import Derived.Shelf.Strings.Builder1
import Derived.Shelf.Strings.Builder2
import Derived.Shelf.Strings.OnBuilder
import Derived.Shelf.Small.Bits
import Derived.Shelf.Strings.BuilderF
import Derived.Shelf.Strings.BuilderK
import Derived.Shelf.Utf8.RuneCount
import Derived.Shelf.Strings.Builder2Cap
import Derived.Shelf.Strconv.Itoa0
import Derived.Shelf.Strconv.Itoa1
import Derived.Shelf.LaysM
import Derived.Shelf.Strconv.Itoa2
import Derived.Shelf.Strconv.Itoa3
import Derived.Shelf.Strconv.Itoa4
import Derived.Shelf.Strconv.ParseIntEmpty
import Derived.Shelf.Strconv.Clone
import Derived.Shelf.Strconv.SyntaxError
import Derived.Shelf.LaysC
import Derived.Shelf.Strconv.ToError
import Derived.Shelf.Strconv.Lower
import Derived.Shelf.Strconv.ParseUint10
import Derived.Shelf.Strconv.ParseUint10Empty
import Derived.Shelf.Strconv.ParseUint10Any
import Derived.Shelf.Strconv.ParseInt10
import Derived.Shelf.Strconv.RangeError
import Derived.Shelf.Strconv.ToErrorRange
import Derived.Shelf.Strconv.ParseUintEmpty
import Derived.Shelf.Strconv.ParseUint10b64
import Derived.Shelf.Strconv.ParseUint10b32
import Derived.Shelf.Strconv.ParseUint10b16
import Derived.Shelf.Strconv.ParseUint10b8
import Derived.Shelf.Strconv.ParseUint10At
import Derived.Shelf.Strconv.ParseInt10At64
import Derived.Shelf.Strconv.ParseInt10At32
import Derived.Shelf.Strconv.ParseInt10At16
import Derived.Shelf.Strconv.ParseInt10At8
import Derived.Shelf.Strconv.ParseInt10All
import Derived.Shelf.Strconv.ParseIntPublic10
import Derived.Shelf.Strconv.ErrVarParseInt
import Derived.Shelf.Strings.Search1
import Derived.Shelf.Strings.Search2
import Derived.Shelf.Strings.Search3
import Derived.Shelf.Strings.Cut
import Derived.Shelf.Strings.Count
import Derived.Shelf.Strings.Shaped
import Derived.Shelf.Strings.Prefix
import Derived.Shelf.Strings.Split
import Derived.Shelf.Strings.SplitShaped
import Derived.Shelf.Unicode.Decode
import Derived.Shelf.Strings.RuneCount
import Derived.Shelf.Strings.Explode
import Derived.Shelf.Bits.Mul64
import Derived.Shelf.Unicode.DecodeSlow
import Derived.Shelf.Unicode.DecodeAny
import Derived.Ground.SlgnProg
import Derived.Shelf.SlicesG.Clone
import Derived.Shelf.SlicesG.CompactI
import Derived.Shelf.SlicesG.SearchI
import Derived.Shelf.SlicesG.Cells
import Derived.Shelf.SlicesE.Clone
import Derived.Ground.SlgcProg
import Derived.Shelf.SlicesG.Cmp
import Derived.Ground.SlgmProg
import Derived.Shelf.SortM.Plain
import Derived.Shelf.SortM.SortNone
import Derived.Test.YtanlgnjgpbjebaaGreatDoorProg
import Derived.LaidMore
import Derived.LaidLaws
import Derived.HandedShaped
import Derived.Stop.LaidErr
import Derived.Lib.LaidTab
import Derived.Lib.AppendIntMem
import Derived.WalkSmall
import Derived.Lib.Split
import Derived.Lib.Join
import Derived.Lib.ItoaLen
import Derived.Deep.LoopGhost
import Derived.Laws.BytesArg
import Derived.Shelf.SlicesG.Turned
import Derived.Shelf.SlGeneric
import Derived.Lib.QuietBelow
import Derived.Laws.Cover1
import Derived.Deep.RegionLaw
import Derived.Deep.DeepCutAuto
import Derived.OneCell
import Derived.RegionTactic
import Derived.ChangeAlike
import Derived.StillTail
import Derived.OrdersHeld
import Derived.Laws.CopyOwn
import Derived.Laws.Bits64b
import Derived.Laws.Cover3
import Derived.Deep.CutBlock
import Derived.Deep.CutRange
import Derived.Maps.OwnSet
import Derived.Maps.Views
import Derived.ArgAppend
set_option linter.unusedVariables false
set_option linter.unusedSimpArgs false
set_option linter.unusedSimpArgs false
set_option linter.unusedVariables false
namespace Go.Proofs.YtanlgnjgpbjebaaGreatDoor
open Go.ChangeShapes Go.WideShapes Go.ChangeAt Go.RowKit
set_option linter.unusedVariables false

theorem toInt64S_calls (A : Option Addr) (n c : Nat) (l : List Int) (w : World) (lo hi : Nat) (h : SlI w lo hi A n l) (hn : n ≤ 1048576) :
    Calls Tryz.prog 27 #[.slice A n c] w fun e w' => ∃ A', e = .returned (.slice A' n n) ∧ Below w.heap.size w w' ∧ SlI w' w.heap.size w'.heap.size A' n l := by
  obtain ⟨i0, hi0, hz0, hz1, hz2⟩ := info_parts info_int64
  have hmk := fun W => make_row (P := Tryz.prog) 46 2 i0 _ _ n Tryz.underlying46 hi0 hz0 hz1 (by rw [hz2]; omega) (by omega) W
  clear hi0 hz0 hz1 hz2
  have hlen := hide h.len
  go_enter Tryz.func27, Tryz.ntmps27
  go_wp2
  go_loopw [4] (fun i wr => ∃ k : Nat, k ≤ n ∧ i = .int .i64 k ∧ Below w.heap.size w wr ∧ Fill 1 iv wr w.heap.size 2 n k l) (fun i _ => n - (intOf i).toNat)
  case atStart => exact ⟨0, Nat.zero_le _, rfl, (Below.refl _ _).alloc (Nat.le_refl _) _, Fill.start _ _ _ _ (by simp [madeCells])⟩
  case round =>
    obtain ⟨k, hk, rfl, hb, hf⟩ := hrel
    clear hmk
    by_cases hlt : k < n
    · obtain ⟨b, off, x, rfl, g1, g2, g3, hx, c0, -⟩ := h.get hlt
      replace c0 := (hb.cell (p := ⟨b, off + k, none⟩) g3).trans c0
      obtain ⟨v0, d0⟩ := hf.cell (i := k) (by omega)
      have z0 := hf.frozen k
      replace hx := hide hx
      clear h
      go_wp2
      go_roundw
      case rel => exact ⟨k + 1, by omega, by go_num, hb.setCell (Nat.le_refl _) _, hf.set1 hlt (fun _ => rfl) hx.out rfl⟩
      case measure => simp [intOf]; omega
    · have : k = n := by omega
      subst this
      go_wp2
      go_ret
      exact ⟨_, rfl, hb, hf.done hlen.out (Nat.le_refl _) hf.lt⟩

end Go.Proofs.YtanlgnjgpbjebaaGreatDoor

namespace Go.Proofs.YtanlgnjgpbjebaaGreatDoor
open Go.ChangeShapes Go.WideShapes Go.ChangeAt Go.RowKit Go.Deep
set_option linter.unusedVariables false

section
variable {w w' : World} {lo hi lo' hi' B : Nat} {v : Value} {d : List Int}
end

section
variable {H : Type} {enc : TypeId × Value → H} {P : Program} {w : World} {base : Nat} {spare : Nat → Bool} {held : Bool}
theorem read_I {t e : TypeId} (ht : P.underlying t = some (.slice e)) (hC : P.cellsOf e = 1) (hi : P.underlying e = some (.int .i64)) {fuel : Nat} {c : Value} {r : DataW H × List MemPlace} (h : DataW.trod enc P w base spare held fuel t [c] = some r)
    (hz : ∀ b off, MemPlace.cell b off ∈ r.2 → w.frozen? ⟨b, off, none⟩ = false) : ∃ d, ArgI w base w.heap.size c d := by
  obtain ⟨A, n, k, l, e1, e2, e3, _⟩ := open_flatQ (w := w) (base := base) (spare := spare) (held := held) iv (fun _ => True) ht hC (by omega) (fun fuel cs y hy hl _ => by
    obtain ⟨a, ea, _, _⟩ := DataW.trod_int hi hy
    exact ⟨a, ea, trivial⟩) h hz
  simp at e1
  exact ⟨l, A, n, k, e1, e2, e3⟩
end

end Go.Proofs.YtanlgnjgpbjebaaGreatDoor

namespace Go.Proofs.YtanlgnjgpbjebaaGreatDoor
set_option linter.unusedVariables false

instance (m : Int) (l : List Int) : Decidable (Inc m l) := by unfold Inc; infer_instance
theorem Inc.bad {m : Int} {l : List Int} {k : Nat} {x : Int} (hx : l[k]? = some x) (hb : ¬ (0 ≤ x ∧ x < m)) : ¬ Inc m l := fun h => hb (h.1 x (List.mem_of_getElem? hx))
theorem Inc.fall {m : Int} {l : List Int} {k : Nat} {x y : Int} (hx : l[k]? = some x) (hy : l[k + 1]? = some y) (hb : y ≤ x) : ¬ Inc m l := fun h => by
  obtain ⟨i1, e1⟩ := List.getElem?_eq_some_iff.1 hx
  obtain ⟨i2, e2⟩ := List.getElem?_eq_some_iff.1 hy
  have := List.pairwise_iff_getElem.1 h.2 k (k + 1) i1 i2 (by omega)
  omega
instance (m : Int) (x : Vx) : Decidable (VxOk m x) := by unfold VxOk; infer_instance
instance (g : DV) : Decidable (GameOk g) := by unfold GameOk; infer_instance

section
variable {g : DV}
end

section
variable {g : DV} {alive set out P : List Bool} {player : Int} {todo rest : List Int} {f : Int → Option Int} {k : Nat}

end

end Go.Proofs.YtanlgnjgpbjebaaGreatDoor

namespace Go.Proofs.YtanlgnjgpbjebaaGreatDoor
open Go.ChangeShapes Go.WideShapes Go.ChangeAt Go.RowKit
set_option linter.unusedVariables false

set_option maxHeartbeats 800000 in
theorem rises_calls (A : Option Addr) (n c : Nat) (l : List Int) (m : Nat) (hm : m ≤ 1048576) (w : World) (lo hi : Nat) (h : SlI w lo hi A n l) (hn : n ≤ maxLen) :
    Calls Tryz.prog 68 #[.slice A n c, .int .i64 0, .int .i64 ((m : Int) - 1)] w fun e w' => e = .returned (.bool (decide (Inc m l))) ∧ ∃ N, w' = w.drewN N := by
  have hn' : n ≤ 9223372036854775807 := by unfold maxLen at hn; omega
  have hlen := hide h.len
  replace h := hide h
  clear hn
  have q := hide (fun x N => l00In_calls x 0 ((m : Int) - 1) (w.drewN N))
  go_enter Tryz.func68, Tryz.ntmps68
  go_wp2
  go_loopw [7] (fun i wr => ∃ k : Nat, k ≤ n ∧ i = .int .i64 k ∧ (∃ N, wr = w.drewN N) ∧ Hid (Inc m (l.take k))) (fun i _ => n - (intOf i).toNat)
  case atStart => exact ⟨0, Nat.zero_le _, rfl, ⟨0, rfl⟩, by show Inc m (l.take 0); rw [List.take_zero]; exact Inc.nil_ _⟩
  case round =>
    obtain ⟨k, hk, rfl, ⟨N, rfl⟩, ha⟩ := hrel
    by_cases hlt : k < n
    · obtain ⟨b, off, x, eA, g1, g2, g3, hx, c0, -⟩ := h.out.get hlt
      have hk1 : (0 : Int) ≤ (k : Int) := by omega
      have hk2 : (k : Int) < (n : Int) := by omega
      by_cases hr : 0 ≤ x ∧ x < m
      · have hin : inB x 0 ((m : Int) - 1) = true := inB_true.2 (by omega)
        by_cases hk0 : 0 < k
        · obtain ⟨b', off', y, eA', -, -, -, hy, d0, -⟩ := h.out.get (show k - 1 < n by omega)
          rw [eA] at eA'
          cases eA'
          subst eA
          clear h
          have e1 : decide ((0 : Int) < (k : Int)) = true := decide_eq_true (by omega)
          have e2 : IntKind.i64.wrap ((k : Int) - 1) = (k : Int) - 1 := IntWalk.i64_in _ (by omega)
          have e3 : 0 ≤ (k : Int) - 1 := by omega
          have e4 : ((k : Int) - 1).toNat = k - 1 := by omega
          have e5 : (k : Int) - 1 < n := by omega
          by_cases hyx : x ≤ y
          · have hv : Hid (decide (Inc m l) = false) := decide_eq_false (Inc.fall (k := k - 1) hy (by rw [show k - 1 + 1 = k by omega]; exact hx) hyx)
            clear hx hy hr
            go_wp2
            go_quiet ((go_at_call 79; with_reducible exact same_quiet2 (q.out _ _)))
            clear e2 e4
            go_wp2
            go_ret
            exact ⟨ret_b (by rw [hv.out]), _, World.drewN_drewN _ _ _⟩
          · have hnext : Hid (Inc m (l.take (k + 1))) := by
              have h1 := ha.out
              rw [show k = k - 1 + 1 by omega] at h1 ⊢
              exact h1.step hy (by rw [show k - 1 + 1 = k by omega]; exact hx) hr (by omega)
            clear hx hy hr
            go_wp2
            go_quiet ((go_at_call 79; with_reducible exact same_quiet2 (q.out _ _)))
            clear e2 e4
            go_wp2
            go_roundw
            case rel => exact ⟨k + 1, by omega, by go_num, ⟨_, rfl⟩, hnext⟩
            case measure => simp [intOf]; omega
        · have hnext : Hid (Inc m (l.take (k + 1))) := by
            have : k = 0 := by omega
            subst this
            exact Inc.one hx hr
          have e1 : decide ((0 : Int) < (k : Int)) = false := decide_eq_false (by omega)
          subst eA
          clear h hx hr
          go_wp2
          go_quiet ((go_at_call 79; with_reducible exact same_quiet2 (q.out _ _)))
          go_wp2
          go_roundw
          case rel => exact ⟨k + 1, by omega, by go_num, ⟨_, rfl⟩, hnext⟩
          case measure => simp [intOf]; omega
      · have hin : inB x 0 ((m : Int) - 1) = false := inB_false.2 (by omega)
        have hv : Hid (decide (Inc m l) = false) := decide_eq_false (Inc.bad hx hr)
        subst eA
        clear h hx hr
        go_wp2
        go_quiet ((go_at_call 79; with_reducible exact same_quiet2 (q.out _ _)))
        go_wp2
        go_ret
        exact ⟨ret_b (by rw [hv.out]), _, World.drewN_drewN _ _ _⟩
    · have hkn : k = n := by omega
      subst hkn
      have ha' := ha.out
      rw [List.take_of_length_le (by rw [hlen.out]; exact Nat.le_refl _)] at ha'
      have hv : Hid (decide (Inc m l) = true) := decide_eq_true ha'
      clear h ha ha'
      go_wp2
      go_ret
      exact ⟨ret_b (by rw [hv.out]), _, rfl⟩

end Go.Proofs.YtanlgnjgpbjebaaGreatDoor

namespace Go.Proofs.YtanlgnjgpbjebaaGreatDoor
set_option linter.unusedVariables false
set_option linter.unusedSimpArgs false

section
variable {f : DN} {d : DL}
/-- The game of a fixed point's body, where its variable stands for a set. -/
theorem gameOf_some (hv : ValF f) (hd : SysOk d) (ρ : EnvS) (s : List Bool) {a : Tr} (hT : treeF f = .one a) (h0 : isFx (qF f 0) = true) : GameOf (sysF f d) a 1 (upE ρ (vF f 0) s) 1 (gameF f d (some s)) := by
  obtain ⟨hA, hs⟩ := treeF_is hv.shape
  rw [hT] at hA hs
  simp only [Tr.size] at hs
  have hbnd : ∀ j, 1 ≤ j → j < 1 + a.size → bindF f j = match bndT (sysF f d) a 1 j with | some i => some i | none => if vF f 0 = vF f j then some 0 else none := fun j h1 h2 => by
    have hb := bnd_bind hv.shape (sysF f d) rfl rfl (k := j) (by omega)
    rw [hT] at hb
    rw [← hb]
    conv => lhs; unfold bndT
    rw [if_neg (by omega), Nat.zero_add]
    cases bndT (sysF f d) a 1 j with
    | some i => rfl
    | none =>
      show (if isFx (qF f 0) = true ∧ vF f 0 = vF f j then some 0 else none) = _
      rw [h0]
      simp
  have hzero : ∀ j, 1 ≤ j → j < 1 + a.size → qF f j = 6 → (bindF f j = some 0 ↔ bndT (sysF f d) a 1 j = none) ∧ (bndT (sysF f d) a 1 j = none → vF f j = vF f 0) := fun j h1 h2 h6 => by
    have hn := hv.bound j (by omega) h6
    have hb := hbnd j h1 h2
    cases hc : bndT (sysF f d) a 1 j with
    | some i =>
      rw [hc] at hb
      have := (bnd_fx hc).2
      refine ⟨⟨fun c => ?_, fun c => by cases c⟩, fun c => by cases c⟩
      rw [hb] at c
      cases c
      omega
    | none =>
      rw [hc] at hb
      dsimp only at hb
      by_cases hvv : vF f 0 = vF f j
      · rw [if_pos hvv] at hb
        exact ⟨⟨fun _ => rfl, fun _ => hb⟩, fun _ => hvv.symm⟩
      · rw [if_neg hvv] at hb
        exact absurd hb hn
  have hdep : ∀ j, 1 ≤ j → j < 1 + a.size → nestF f j + (if isFx (qF f j) then 1 else 0) = 1 + depT (sysF f d) a 1 j := fun j h1 h2 => by
    have := dep_nest hv.shape (sysF f d) rfl (k := j) (by omega)
    rw [hT] at this
    rw [← this]
    conv => lhs; unfold depT
    rw [if_pos (show isFx ((sysF f d).q 0) = true from h0), if_neg (show ¬ j = 0 by omega)]
  refine ⟨fun j _ hj => hv.kind j (by omega), by have := hA.2; rwa [Nat.zero_add] at this, fun j x y _ h => sysF_sc hd j x y h, by have := hv.len; omega, by rw [gameF_len, ← hs, Nat.add_comm 1]; exact Nat.le_refl _, ?_, ?_, ?_⟩
  · intro j x h1 hj hx
    change x < d.1.toNat at hx
    show gOwn (gameF f d (some s)) (j * d.1.toNat + x) = _
    rw [(gameF_own (d := d) (set := (some s)) (by omega) hx).1]
    unfold ownF ownT
    dsimp only
    show _ = if qF f j = 0 ∨ qF f j = 2 ∨ qF f j = 5 then 1 else if qF f j = 6 ∧ _ then _ else 0
    by_cases h6 : qF f j = 6
    · obtain ⟨z1, z2⟩ := hzero j h1 hj h6
      by_cases hb : bindF f j = some 0
      · have hb2 := z1.1 hb
        have hu : upE ρ (vF f 0) s ((sysF f d).v j) = s := by unfold upE; rw [if_pos (show (sysF f d).v j = vF f 0 from z2 hb2)]
        simp [h6, hb, hb2, hu]
      · have hb2 : ¬ bndT (sysF f d) a 1 j = none := fun c => hb (z1.2 c)
        simp [h6, hb, hb2]
    · simp [h6]
  · intro j x h1 hj hx
    change x < d.1.toNat at hx
    show gPri (gameF f d (some s)) (j * d.1.toNat + x) = _
    rw [(gameF_own (d := d) (set := (some s)) (by omega) hx).2, ← hdep j h1 hj]
    unfold priF
    show _ = if isFx (qF f j) = true then _ else _
    split
    · show _ = 2 * _ - 2 + if qF f j = 7 then 1 else 0
      omega
    · rfl
  · intro j x u h1 hj hx
    change x < d.1.toNat at hx
    show u ∈ gNxt (gameF f d (some s)) (j * d.1.toNat + x) ↔ ∃ m, m ∈ movT (sysF f d) a 1 j x ∧ u = m.1 * d.1.toNat + m.2
    rw [gameF_nxt hv hd (by omega) hx]
    by_cases hq : qF f j = 6
    · obtain ⟨z1, z2⟩ := hzero j h1 hj hq
      have hb := hbnd j h1 hj
      have hq' : (sysF f d).q j = 6 := hq
      unfold rawF movT
      rw [if_neg (by unfold isMod; rw [hq]; decide), if_pos hq, if_neg (c := (sysF f d).q j = 2 ∨ _) (by omega), if_neg (c := (sysF f d).q j = 4 ∨ _) (by omega), if_neg (c := (sysF f d).q j = 7 ∨ _) (by omega), if_pos hq']
      cases hc : bndT (sysF f d) a 1 j with
      | none =>
        rw [if_pos ⟨rfl, z1.2 hc⟩]
        simp
      | some i =>
        rw [hc] at hb
        rw [if_neg (by rintro ⟨-, c⟩; rw [hb] at c; cases c; have := (bnd_fx hc).2; omega), hb]
        simp only [List.mem_singleton]
        constructor
        · intro h
          exact ⟨_, rfl, (cast_code hd).1 h⟩
        · rintro ⟨m, rfl, e⟩
          exact (cast_code hd).2 e
    · refine raw_mov hv hd (some s) (by omega) hq _ _ (fun h => ?_)
      rw [← sec_end hv.shape (by omega) h, hT]
      have e : subT (.one a) 0 j = subT a 1 j := by
        conv => lhs; unfold subT
        rw [if_neg (by omega), Nat.zero_add]
      unfold secT
      rw [e]
/-- What the body of the first node makes of a set. -/
noncomputable def semB (f : DN) (d : DL) (s : List Bool) : List Bool := sem (sysF f d) (subT (treeF f) 0 1) 1 (upE (fun _ => []) (vF f 0) s)
theorem fx_tree (hv : ValF f) (h0 : isFx (qF f 0) = true) : ∃ a, treeF f = .one a ∧ subT (treeF f) 0 1 = a := by
  obtain ⟨hA, hs⟩ := treeF_is hv.shape
  have ha := arity_fx h0
  cases hT : treeF f with
  | leaf => rw [hT] at hA; rw [show arityQ (qF f 0) = 0 from hA] at ha; cases ha
  | two a b => rw [hT] at hA; rw [show arityQ (qF f 0) = 2 from hA.1] at ha; cases ha
  | one a =>
    refine ⟨a, rfl, ?_⟩
    unfold subT
    rw [if_neg (by omega), Nat.zero_add, subT_self]
theorem won_some (hv : ValF f) (hd : SysOk d) (h0 : isFx (qF f 0) = true) (s : List Bool) {x : Nat} (hx : x < d.1.toNat) : wonI (gameF f d (some s)) (1 * d.1.toNat + x) = if inS (semB f d s) x then 0 else 1 := by
  obtain ⟨a, hT, hsub⟩ := fx_tree hv h0
  have hb := game_big hv hd (some s)
  have h := (gameOf_some hv hd (fun _ => []) s hT h0).won hb.owned (fun v u h => (hb.nxt v).2 u h) (j := 1) (x := x) (Nat.le_refl 1) (by have := a.size_pos; omega) hx
  rw [subT_self, envT_self] at h
  refine wonI_of ?_
  unfold semB
  rw [hsub]
  exact h
theorem semB_len (s : List Bool) : (semB f d s).length = d.1.toNat := sem_len _ _ _ _
end
end Go.Proofs.YtanlgnjgpbjebaaGreatDoor

namespace Go.Proofs.YtanlgnjgpbjebaaGreatDoor
set_option linter.unusedVariables false
set_option linter.unusedSimpArgs false

section
variable {M : Sy}
/-- Sets with the same members do for each other. -/
theorem sem_same {T : Tr} {k : Nat} {ρ ρ' : EnvS} (h : ∀ u x, inS (ρ u) x = inS (ρ' u) x) : sem M T k ρ = sem M T k ρ' :=
  leS_anti (b := true) (by rw [sem_len, sem_len]) (sem_mono M T k fun u x hx => by simp only [if_true] at hx ⊢; rwa [h] at hx) (sem_mono M T k fun u x hx => by simp only [if_true] at hx ⊢; rwa [h])
theorem inS_none (n x : Nat) : inS (setOf n fun _ => false) x = inS [] x := by rw [inS_setOf, Bool.and_false]; simp [inS]
end

/-! The approximants of a formula that begins with a fixed point -/
section
variable {f : DN} {d : DL}
/-- The approximants. -/
noncomputable def apN (f : DN) (d : DL) (j : Nat) : List Bool := apF d.1.toNat (decide (qF f 0 = 7)) (semB f d) j
/-- The approximants are new up to here. -/
def NewTo (f : DN) (d : DL) (m : Nat) : Prop := ∀ i, i < m → apN f d (i + 1) ≠ apN f d i
theorem NewTo.next {m : Nat} (h : NewTo f d m) (hn : apN f d (m + 1) ≠ apN f d m) : NewTo f d (m + 1) := fun i hi => by
  by_cases e : i = m
  · subst e; exact hn
  · exact h i (by omega)
end

end Go.Proofs.YtanlgnjgpbjebaaGreatDoor

namespace Go.Proofs.YtanlgnjgpbjebaaGreatDoor
open Go.ChangeShapes Go.WideShapes Go.ChangeAt Go.RowKit
set_option linter.unusedVariables false
set_option linter.unusedSimpArgs false

abbrev HB := Option Addr × Nat
def hbV (N : Nat) (x : HB) : List Value := [.slice x.1 N x.2]
theorem flat_hbV (N : Nat) : Flat (hbV N) 1 := ⟨fun _ => rfl, fun x u h => by simp [hbV] at h; subst h; rfl⟩
/-- Rows of N bools; the row of their handles is the call's own. -/
structure GrowB (w : World) (base N : Nat) (A : Option Addr) (n c : Nat) (R : List (HB × List Bool)) : Prop where
  own : Own 1 (hbV N) w base 65 A n c (R.map (·.1))
  rows : ∀ r ∈ R, SlB w base w.heap.size r.1.1 N r.2
  off : ∀ r ∈ R, 0 < N → ∀ b off, r.1.1 = some ⟨b, off, none⟩ → (Value.slice A n c).ownBlock ≠ some b
section
variable {w w4 w5 w' : World} {base N n c : Nat} {A : Option Addr} {R : List (HB × List Bool)}
theorem GrowB.len (h : GrowB w base N A n c R) : R.length = n := by have := h.own.len; rwa [List.length_map] at this
theorem GrowB.nil_ (w : World) (base N : Nat) : GrowB w base N none 0 0 [] := ⟨Own.nil_ _ _ _, fun _ h => (List.not_mem_nil h).elim, fun _ h => (List.not_mem_nil h).elim⟩
/-- The blocks from base on stay. -/
theorem GrowB.keep (h : GrowB w base N A n c R) (hs : w.heap.size ≤ w'.heap.size) (hk : ∀ b, base ≤ b → b < w.heap.size → w'.heap[b]? = w.heap[b]?) : GrowB w' base N A n c R :=
  ⟨h.own.keep fun g hg => hk g (h.own.lt g hg).1 (h.own.lt g hg).2, fun r hr => ((h.rows r hr).keep hs fun b h1 _ h3 => hk b h1 h3).more (Nat.le_refl _) hs, h.off⟩
theorem GrowB.below (h : GrowB w base N A n c R) (hb : Below w.heap.size w w') : GrowB w' base N A n c R := h.keep hb.size fun b _ h2 => hb.block b h2
theorem GrowB.but {T : Nat → Prop} (h : GrowB w base N A n c R) (hb : But T w w') (hT : ∀ x, T x → x < base) : GrowB w' base N A n c R :=
  h.keep hb.size fun b h1 h2 => hb.block b h2 fun ht => by have := hT b ht; omega
/-- A first row. -/
theorem GrowB.one {Ah : Option Addr} {ch : Nat} {s : List Bool} (hs : SlB w base w.heap.size Ah N s) (hb : base ≤ w.heap.size) : GrowB (w.alloc (.cells #[.slice Ah N ch] 65)) base N (some ⟨w.heap.size, 0, none⟩) 1 1 [((Ah, ch), s)] := by
  have hbel : Below w.heap.size w (w.alloc (.cells #[.slice Ah N ch] 65)) := (Below.refl _ _).alloc (Nat.le_refl _) _
  refine ⟨⟨rfl, by simp [hbV], .inr ⟨w.heap.size, 1, #[.slice Ah N ch], rfl, hb, heap_alloc_new w _, Nat.le_refl _, by decide, rfl, rfl⟩⟩, fun r hr => ?_, fun r hr hN b off e => ?_⟩
  · obtain rfl := List.mem_singleton.1 hr
    exact (hs.below hbel (.inr (Nat.le_refl _))).more (Nat.le_refl _) hbel.size
  · obtain rfl := List.mem_singleton.1 hr
    obtain ⟨b', off', e', -, -, g3, -⟩ := hs.at_ hN
    have e : Ah = _ := e
    rw [e] at e'
    cases e'
    intro e2
    have e2 : some w.heap.size = some b := e2
    injection e2 with e2
    omega
/-- A further row. -/
theorem GrowB.push (h : GrowB w4 base N A n c R) {Ah : Option Addr} {ch : Nat} {s : List Bool} (hs : SlB w4 base w4.heap.size Ah N s) (ho : ∀ b off, 0 < N → Ah = some ⟨b, off, none⟩ → (Value.slice A n c).ownBlock ≠ some b)
    {A5 : Option Addr} {c5 : Nat} (hown : Own 1 (hbV N) w5 base 65 A5 (n + 1) c5 (R.map (·.1) ++ [(Ah, ch)])) (hgr : w4.grownBy w5 (Value.slice A n c).ownBlock)
    (hat : (Value.slice A5 (n + 1) c5).ownBlock = (Value.slice A n c).ownBlock ∨ (Value.slice A5 (n + 1) c5).ownBlock = some w4.heap.size) :
    GrowB w5 base N A5 (n + 1) c5 (R ++ [((Ah, ch), s)]) := by
  have hz5 := hgr.size
  have keepS : ∀ (B : Option Addr) (l : List Bool), SlB w4 base w4.heap.size B N l → (∀ b off, 0 < N → B = some ⟨b, off, none⟩ → (Value.slice A n c).ownBlock ≠ some b) → SlB w5 base w5.heap.size B N l := by
    intro B l hl hne
    refine ⟨hl.1, fun hm => ?_⟩
    obtain ⟨b, off, rfl, g1, g2, g3, hc⟩ := hl.2 hm
    have hk := hgr.block b g3 (fun e => hne b off hm rfl e.symm)
    refine ⟨b, off, rfl, g1, by omega, by omega, fun k x hx j u hu => ?_⟩
    obtain ⟨h1, h2⟩ := hc k x hx j u hu
    exact ⟨(World.cell?_of_block (w := w4) (by simpa using hk)).trans h1, (World.frozen?_of_block (w := w4) (by simpa using hk)).trans h2⟩
  have hoff : ∀ (B : Option Addr) (l : List Bool), SlB w4 base w4.heap.size B N l → (∀ b off, 0 < N → B = some ⟨b, off, none⟩ → (Value.slice A n c).ownBlock ≠ some b) → ∀ b off, 0 < N → B = some ⟨b, off, none⟩ → (Value.slice A5 (n + 1) c5).ownBlock ≠ some b := by
    intro B l hl hne b off hN e
    rcases hat with h1 | h1
    · rw [h1]; exact hne b off hN e
    · rw [h1]
      obtain ⟨b', off', e', -, -, g3, -⟩ := hl.at_ hN
      rw [e] at e'
      cases e'
      intro e2
      injection e2 with e2
      omega
  refine ⟨by rw [List.map_append]; exact hown, fun r hr => ?_, fun r hr hm b off e => ?_⟩
  · rcases List.mem_append.1 hr with hr | hr
    · exact keepS _ _ (h.rows r hr) fun b off hm e => h.off r hr hm b off e
    · obtain rfl := List.mem_singleton.1 hr
      exact keepS _ _ hs ho
  · rcases List.mem_append.1 hr with hr | hr
    · exact hoff _ _ (h.rows r hr) (fun b off hm e => h.off r hr hm b off e) b off hm e
    · obtain rfl := List.mem_singleton.1 hr
      exact hoff _ _ hs ho b off hm e
/-- Row k. -/
theorem GrowB.get (h : GrowB w base N A n c R) {k : Nat} (hk : k < n) : ∃ b off Ah ch s, A = some ⟨b, off, none⟩ ∧ base ≤ b ∧ b < w.heap.size ∧ R[k]? = some ((Ah, ch), s) ∧ w.cell? ⟨b, off + k, none⟩ = some (.slice Ah N ch) ∧ SlB w base w.heap.size Ah N s ∧
    ∀ b off, 0 < N → Ah = some ⟨b, off, none⟩ → (Value.slice A n c).ownBlock ≠ some b := by
  have hl := h.len
  obtain ⟨b, off, e, g1, g2, g3, hc⟩ := (h.own.sl (flat_hbV N)).at_ (by omega)
  have hr : R[k]? = some R[k] := List.getElem?_eq_getElem (by omega)
  have hm : R[k] ∈ R := List.getElem_mem _
  have h0 := (hc k R[k].1 (by rw [List.getElem?_map, hr]; rfl) 0 _ rfl).1
  rw [Nat.mul_one, Nat.add_zero] at h0
  exact ⟨b, off, R[k].1.1, R[k].1.2, R[k].2, e, g1, g3, hr, h0, h.rows _ hm, fun b off hN e => h.off _ hm hN b off e⟩
/-- The blocks of the row of handles. -/
def ownP (A : Option Addr) (n c : Nat) (b : Nat) : Prop := (Value.slice A n c).ownBlock = some b
theorem GrowB.has (h : GrowB w base N A n c R) {k : Nat} {Ah : Option Addr} {ch : Nat} {s : List Bool} (hk : R[k]? = some ((Ah, ch), s)) (hN : N ≤ 1048576) {T : Nat → Prop} (hT : ∀ x, T x → ownP A n c x ∨ x < base) : HasB T w (.slice Ah N ch) s := by
  have hm : ((Ah, ch), s) ∈ R := List.mem_of_getElem? hk
  refine ⟨Ah, N, ch, rfl, hN, (h.rows _ hm).more (Nat.zero_le _) (Nat.le_refl _), fun a ha h0 ht => ?_⟩
  obtain ⟨b, off, e, g1, -⟩ := (h.rows _ hm).at_ h0
  have e : Ah = _ := e
  rw [ha] at e
  cases e
  rcases hT _ ht with e1 | e1
  · exact h.off _ hm h0 b off ha e1
  · have e1 : b < base := e1
    omega
end

end Go.Proofs.YtanlgnjgpbjebaaGreatDoor

namespace Go.Proofs.YtanlgnjgpbjebaaGreatDoor
open Go.ChangeShapes Go.WideShapes Go.ChangeAt Go.RowKit
set_option linter.unusedVariables false
set_option linter.unusedSimpArgs false

noncomputable def fstC (f : DN) (d : DL) : Int := if frmC f d = 0 then (if isFx (qF f 0) = true then 0 else 6) else frmC f d
theorem l21First_calls (Af : Option Addr) (n cf bt : Nat) (f : DN) (x : CL) (d : DL) (w : World) (h : SlN w 0 w.heap.size Af n f) (ht : totN f ≤ 1048576) (hl : LtsAt w bt x d) :
    Calls Tryz.prog 60 #[.slice Af n cf, .pointer (some ⟨bt, 0, none⟩)] w fun e w' => e = .returned (.int .i64 (fstC f d)) ∧ Below w.heap.size w w' := by
  have q1 := l21Ask_calls Af n cf bt f x d w h ht hl
  by_cases hc : frmC f d = 0
  · have hlen := h.len
    have hn := (frmC_ok hc).1.len
    obtain ⟨b, off, q, y, s, z, rfl, -, -, g3, hx, c0, -, -, -⟩ := SlN.get h (k := 0) (by omega)
    have c0' : w.cell? ⟨b, off, none⟩ = some (.int .i64 q) := by simpa using c0
    have hq : qF f 0 = q := qF_at hx
    have qF1 := hide (fun W (hW : Below w.heap.size w W) => l19Fixed_calls b off q W ((hW.cell (p := ⟨b, off, none⟩) g3).trans c0'))
    rw [hc] at q1
    replace q1 := hide q1
    have hn0 : (0 : Int) < (n : Int) := by omega
    cases hf : isFx q with
    | true =>
      have hv : Hid (fstC f d = 0) := by show _ = _; unfold fstC; rw [if_pos hc, if_pos (by rw [hq]; exact hf)]
      rw [hf] at qF1
      rw [hv.out]
      clear h hl hc hx hq hf hv c0
      go_enter Tryz.func60, Tryz.ntmps60
      go_wp2_with (first | (go_at_call 45; (with_reducible refine q1.out.mono ?_); rintro e w1 ⟨rfl, hb1⟩; have q3 := hide (qF1.out w1 hb1)) | (go_at_call 80; (with_reducible refine q3.out.mono ?_); rintro e w2 ⟨rfl, rfl⟩))
      go_ret
      exact ⟨rfl, hb1⟩
    | false =>
      have hv : Hid (fstC f d = 6) := by show _ = _; unfold fstC; rw [if_pos hc, if_neg (by rw [hq, hf]; decide)]
      rw [hf] at qF1
      rw [hv.out]
      clear h hl hc hx hq hf hv c0
      go_enter Tryz.func60, Tryz.ntmps60
      go_wp2_with (first | (go_at_call 45; (with_reducible refine q1.out.mono ?_); rintro e w1 ⟨rfl, hb1⟩; have q3 := hide (qF1.out w1 hb1)) | (go_at_call 80; (with_reducible refine q3.out.mono ?_); rintro e w2 ⟨rfl, rfl⟩))
      go_ret
      exact ⟨rfl, hb1⟩
  · have hv : Hid (fstC f d = frmC f d) := by show _ = _; unfold fstC; rw [if_neg hc]
    rw [hv.out]
    generalize frmC f d = oc at *
    have hcb : (oc == 0) = false := by rw [beq_eq_false_iff_ne]; exact hc
    replace q1 := hide q1
    clear h hl hv
    go_enter Tryz.func60, Tryz.ntmps60
    go_wp2_with (first | (go_at_call 45; (with_reducible refine q1.out.mono ?_); rintro e w1 ⟨rfl, hb1⟩))
    go_ret
    exact ⟨rfl, hb1⟩

end Go.Proofs.YtanlgnjgpbjebaaGreatDoor

namespace Go.Proofs.YtanlgnjgpbjebaaGreatDoor
open Go.ChangeShapes Go.WideShapes Go.ChangeAt Go.RowKit
set_option linter.unusedVariables false
set_option linter.unusedSimpArgs false

theorem wonS_some {f : DN} {N : Nat} {ini : Int} {ls : List ByteArray} {es : List Ed} (hv : ValF f) (h : ltsV ((N : Int), ini, ls, es) = true) (h0 : isFx (qF f 0) = true) (s : List Bool) : wonS f ((N : Int), ini, ls, es) (some s) 1 = semB f ((N : Int), ini, ls, es) s := by
  refine setOf_self (semB_len s) fun x hx => ?_
  rw [won_some hv (sysOk_of h) h0 s hx]
  cases inS (semB f ((N : Int), ini, ls, es) s) x <;> rfl
end Go.Proofs.YtanlgnjgpbjebaaGreatDoor

namespace Go.Proofs.YtanlgnjgpbjebaaGreatDoor
open Go.ChangeShapes Go.WideShapes Go.ChangeAt Go.RowKit
set_option linter.unusedVariables false
set_option linter.unusedSimpArgs false

/-- Since the world wb: boxes p and q with what lies in them, lists r and s of N bools. -/
structure DifW (wb w : World) (N : Nat) (p q : Option (Nat × Value)) (r s : Option (HB × List Bool)) : Prop where
  below : Below wb.heap.size wb w
  hp : ∀ b v, p = some (b, v) → wb.heap.size ≤ b ∧ w.heap[b]? = some (.cells #[v] 65 (0, 0))
  hq : ∀ b v, q = some (b, v) → wb.heap.size ≤ b ∧ w.heap[b]? = some (.cells #[v] 65 (0, 0))
  ne : ∀ b v b' v', p = some (b, v) → q = some (b', v') → b ≠ b'
  hr : ∀ A c l, r = some ((A, c), l) → SlB w wb.heap.size w.heap.size A N l ∧ ∀ b off, 0 < N → A = some ⟨b, off, none⟩ → (∀ v, p ≠ some (b, v)) ∧ ∀ v, q ≠ some (b, v)
  hs : ∀ A c l, s = some ((A, c), l) → SlB w wb.heap.size w.heap.size A N l ∧ ∀ b off, 0 < N → A = some ⟨b, off, none⟩ → (∀ v, p ≠ some (b, v)) ∧ ∀ v, q ≠ some (b, v)
section
variable {wb w w' : World} {N : Nat} {p q : Option (Nat × Value)} {r s : Option (HB × List Bool)}
theorem DifW.start (wb : World) (N : Nat) : DifW wb wb N none none none none :=
  ⟨Below.refl _ _, fun _ _ h => (by cases h), fun _ _ h => (by cases h), fun _ _ _ _ h => (by cases h), fun _ _ _ h => (by cases h), fun _ _ _ h => (by cases h)⟩
theorem DifW.drew (h : DifW wb w N p q r s) : DifW wb w.drew N p q r s := ⟨h.below.drew, h.hp, h.hq, h.ne, h.hr, h.hs⟩
theorem DifW.keep (h : DifW wb w N p q r s) (hb : Below w.heap.size w w') : DifW wb w' N p q r s := by
  have hz := h.below.size
  refine ⟨h.below.trans (hb.mono hz), fun b v e => ?_, fun b v e => ?_, h.ne, fun A c l e => ?_, fun A c l e => ?_⟩
  · have := h.hp b v e; exact ⟨this.1, (hb.block b (Array.getElem?_eq_some_iff.1 this.2).1).trans this.2⟩
  · have := h.hq b v e; exact ⟨this.1, (hb.block b (Array.getElem?_eq_some_iff.1 this.2).1).trans this.2⟩
  · have := h.hr A c l e; exact ⟨(this.1.below hb (.inr (Nat.le_refl _))).more (Nat.le_refl _) hb.size, this.2⟩
  · have := h.hs A c l e; exact ⟨(this.1.below hb (.inr (Nat.le_refl _))).more (Nat.le_refl _) hb.size, this.2⟩
end
end Go.Proofs.YtanlgnjgpbjebaaGreatDoor

namespace Go.Proofs.YtanlgnjgpbjebaaGreatDoor
open Go.ChangeShapes Go.WideShapes Go.ChangeAt Go.RowKit
set_option linter.unusedVariables false
set_option linter.unusedSimpArgs false

theorem RunAt.grow {w w' : World} {P P' : Nat → Prop} {br bE bS bC cE cf bt N : Nat} {Af : Option Addr} {f : DN} {ρ : EnvS} {sv cl : Tab} (h : RunAt w P br bE bS bC cE Af cf f bt N ρ sv cl) (hb : But P w w') (hP : ∀ b, P' b → P b ∨ w.heap.size ≤ b) (hv : ∀ b, P' b → b < w'.heap.size) :
    RunAt w' P' br bE bS bC cE Af cf f bt N ρ sv cl := by
  have hR : ∀ b, RunP (fun b => P b ∨ P' b) bE bS bC b → RunP P bE bS bC b ∨ w.heap.size ≤ b := fun b hb => by
    rcases hb with (e | e) | e
    · exact .inl (.inl e)
    · rcases hP b e with e | e
      · exact .inl (.inl e)
      · exact .inr e
    · exact .inl (.inr e)
  have hW : ∀ b, RunP P' bE bS bC b → RunP (fun b => P b ∨ P' b) bE bS bC b ∨ w'.heap.size ≤ b := fun b hb => by
    rcases hb with e | e
    · exact .inl (.inl (.inr e))
    · exact .inl (.inr e)
  obtain ⟨p0, p1, p2, p3⟩ := h.pn
  have z0 := (Array.getElem?_eq_some_iff.1 h.cells).1
  have hn : ∀ b, ¬ P b → b < w.heap.size → ¬ P' b := fun b h1 h2 h3 => by
    rcases hP b h3 with e | e
    · exact h1 e
    · omega
  have hT : ∀ x, P x → RunP (fun b => P b ∨ P' b) bE bS bC x := fun x e => .inl (.inl e)
  exact ⟨hb.kept h.cells p0, ((h.env.re hR).but hb hT p1).re hW, ((h.sav.re hR).but hb hT p2).re hW, ((h.clo.re hR).but hb hT p3).re hW, h.el, h.sl, h.kl, hv, ⟨hn _ p0 z0, hn _ p1 h.env.lt, hn _ p2 h.sav.lt, hn _ p3 h.clo.lt⟩, h.ne⟩
/-- The sets of the variables at the start. -/
def rho0 (N : Nat) : EnvS := fun _ => setOf N fun _ => false
theorem body_rho0 {f : DN} {d : DL} {a : Tr} (ha : subT (treeF f) 0 1 = a) (X : List Bool) : bodyF (sysF f d) a 0 (rho0 d.1.toNat) X = semB f d X := by
  unfold bodyF semB
  rw [ha]
  refine sem_same fun u x => ?_
  show inS (upE (rho0 d.1.toNat) (vF f 0) X u) x = inS (upE (fun _ => []) (vF f 0) X u) x
  unfold upE
  by_cases e : u = vF f 0
  · rw [if_pos e, if_pos e]
  · rw [if_neg e, if_neg e]
    exact inS_none _ _
theorem PreR.step {M : Sy} {sv cl sv' cl' : Tab} {a : Tr} {k : Nat} {ρ : EnvS} {v : Int} {X Y : List Bool} {q : Int} (h : PostR M sv cl sv' cl' a k (upE ρ v X) q) (hl : leS (decide (q = 7)) X Y) : PreR M sv' cl' a k (upE ρ v Y) q :=
  ⟨h.all.ok.mono fun u => upE_sub (fun u => leS_refl _ _) v hl u, h.clo⟩
theorem GrowB.lower {w : World} {base base' N n c : Nat} {A : Option Addr} {R : List (HB × List Bool)} (h : GrowB w base N A n c R) (hb : base' ≤ base) : GrowB w base' N A n c R :=
  ⟨h.own.lower hb, fun r hr => (h.rows r hr).more hb (Nat.le_refl _), h.off⟩
end Go.Proofs.YtanlgnjgpbjebaaGreatDoor

namespace Go.Proofs.YtanlgnjgpbjebaaGreatDoor
open Go.ChangeShapes Go.WideShapes Go.ChangeAt Go.RowKit
set_option linter.unusedVariables false
set_option linter.unusedSimpArgs false

set_option maxRecDepth 100000 in
theorem equalB_calls (A B : Option Addr) (n c d : Nat) (l r : List Bool) (w : World) (lo hi lo' hi' : Nat) (h : SlB w lo hi A n l) (g : SlB w lo' hi' B n r) (hn : n ≤ 1048576) :
    Calls Tryz.prog 73 #[.slice A n c, .slice B n d] w fun e w' => e = .returned (.bool (decide (l = r))) ∧ ∃ N, w' = w.drewN N := by
  have hl := hide h.len
  have hr := hide g.len
  go_enter Tryz.func73, Tryz.ntmps73
  go_wp2
  go_loopw [13] (fun i wr => ∃ k N : Nat, k ≤ n ∧ i = .int .i64 k ∧ wr = w.drewN N ∧ Hid (l.take k = r.take k)) (fun i _ => n - (intOf i).toNat)
  case atStart => exact ⟨0, 0, Nat.zero_le _, rfl, rfl, rfl⟩
  case round =>
    obtain ⟨k, N, hk, rfl, rfl, he⟩ := hrel
    by_cases hlt : k < n
    · obtain ⟨b, off, rfl, -, -, -, hx, c0, -⟩ := SlB.get h hlt
      obtain ⟨b', off', rfl, -, -, -, hy, d0, -⟩ := SlB.get g hlt
      replace hx := hide hx
      replace hy := hide hy
      have hk0 : (0 : Int) ≤ (k : Int) := by omega
      have hk1 : (k : Int) < (n : Int) := by omega
      clear h g
      generalize inS l k = u at *
      generalize inS r k = v at *
      by_cases hxy : u = v
      · subst hxy
        have hb : (u != u) = false := by simp
        go_wp2
        go_quiet (fail)
        go_wp2
        go_roundw
        case rel => exact ⟨k + 1, _, by omega, by go_num, rfl, take_step he.out hx.out hy.out rfl⟩
        case measure => simp [intOf]; omega
      · have hne := hide (take_stop hx.out hy.out hxy)
        have hb : (u == v) = false := beq_eq_false_iff_ne.2 hxy
        clear hxy
        go_wp2
        go_quiet (fail)
        go_wp2
        go_ret
        exact ⟨ret_b (decide_eq_false hne.out), _, World.drewN_drewN _ _ _⟩
    · have hkn : k = n := by omega
      subst hkn
      have hq : Hid (decide (l = r) = true) := decide_eq_true (take_all he.out hl.out hr.out)
      go_wp2
      go_ret
      exact ⟨ret_b hq.out, _, rfl⟩
end Go.Proofs.YtanlgnjgpbjebaaGreatDoor

namespace Go.Proofs.YtanlgnjgpbjebaaGreatDoor
open Go.ChangeShapes Go.WideShapes Go.ChangeAt Go.RowKit
set_option linter.unusedVariables false
set_option linter.unusedSimpArgs false

theorem SysAt.rebox {w : World} {bt : Nat} {s0 ini : Int} {A2 A3 : Option Addr} {n2 k2 n3 k3 : Nat} {ls : List ByteArray} {es : List Ed} (h : SysAt w bt s0 ini A2 n2 k2 A3 n3 k3 ls es) :
    SysAt (w.alloc (.cells #[.int .i64 s0, .int .i64 ini, .slice A2 n2 k2, .slice A3 n3 k3] 35)) w.heap.size s0 ini A2 n2 k2 A3 n3 k3 ls es := by
  have h1 := h.below ((Below.refl w.heap.size w).alloc (Nat.le_refl _) (.cells #[.int .i64 s0, .int .i64 ini, .slice A2 n2 k2, .slice A3 n3 k3] 35))
  exact ⟨heap_alloc_new w _, h1.env, h1.ar, h1.tot⟩
set_option maxRecDepth 100000 in
set_option maxHeartbeats 3200000 in
theorem fixedCode_calls {w : World} {bt : Nat} {s0 ini : Int} {A A2 A3 : Option Addr} {n n2 k2 n3 k3 c : Nat} {ls : List ByteArray} {es : List Ed} {f : DN} (h : SysAt w bt s0 ini A2 n2 k2 A3 n3 k3 ls es) (g : FrmAt w A n f) :
    Calls Tryz.prog 62 #[.slice A n c, .agg #[.int .i64 s0, .int .i64 ini, .slice A2 n2 k2, .slice A3 n3 k3]] w fun e w' => e = .returned (.int .i64 (fstC f (s0, ini, ls, es))) ∧ Below w.heap.size w w' := by
  have hS := h.rebox
  obtain ⟨W0, hW0⟩ : ∃ W', W' = w.alloc (.cells #[.int .i64 s0, .int .i64 ini, .slice A2 n2 k2, .slice A3 n3 k3] 35) := ⟨_, rfl⟩
  have hb0 : Below w.heap.size w W0 := by rw [hW0]; exact (Below.refl _ _).alloc (Nat.le_refl _) _
  rw [← hW0] at hS
  have hF := g.below hb0
  have hz0 := hb0.size
  have q1 := code1_calls hS hF (c := c)
  obtain ⟨b0, b1, b2, b3⟩ := hS.facts
  replace hb0 := hide hb0
  have hv : fstC f (s0, ini, ls, es) = if frmC f (s0, ini, ls, es) = 0 then (if isFx (qF f 0) = true then 0 else 6) else 1 := by
    unfold fstC
    split
    · rfl
    · rename_i hc
      unfold frmC at hc ⊢
      split
      · rename_i e; rw [if_pos e] at hc; exact absurd rfl hc
      · rfl
  clear h g hS
  by_cases hc : frmC f (s0, ini, ls, es) = 0
  · have hn := (frmC_ok hc).1.len
    have hlen := hF.1.len
    obtain ⟨b, off, q, y, s, z, rfl, -, -, g3, hx, c0, c1, c2, c3⟩ := SlN.get hF.1 (k := 0) (by omega)
    simp only [Nat.zero_mul, Nat.add_zero] at c0 c1 c2 c3
    have hq : qF f 0 = q := qF_at hx
    have qX := fun W => isFixed_calls q y s z W
    have hcs := hide (fun (W : World) (hW : Below W0.heap.size W0 W) => (⟨(hW.cell (p := ⟨b, off, none⟩) g3).trans c0, (hW.cell (p := ⟨b, off + 1, none⟩) g3).trans c1, (hW.cell (p := ⟨b, off + 2, none⟩) g3).trans c2, (hW.cell (p := ⟨b, off + 3, none⟩) g3).trans c3⟩ : W.cell? ⟨b, off, none⟩ = some (.int .i64 q) ∧ W.cell? ⟨b, off + 1, none⟩ = some (.int .i64 y) ∧ W.cell? ⟨b, off + 2, none⟩ = some (.string s) ∧ W.cell? ⟨b, off + 3, none⟩ = some (.bool z)))
    rw [hc] at q1
    rw [if_pos hc, hq] at hv
    replace q1 := hide q1
    have hn0 : (0 : Int) < (n : Int) := by omega
    have hn0' : 0 < n := by omega
    clear hF hx hq hc c0 c1 c2 c3 hn hlen g3
    cases hf : isFx q
    all_goals
      rw [hf] at hv
      simp only [hf] at qX
      have hv' := hide hv
      replace qX := hide qX
      clear hf hv
      go_enter Tryz.func62, Tryz.ntmps62
      go_upto_region 1 with fail
      rw [← hW0]
      clear hW0
      go_wp2_with (first | (go_at_call 50; (with_reducible refine q1.out.mono ?_); rintro e w5 ⟨rfl, hb5⟩; obtain ⟨d0, d1, d2, d3⟩ := hcs.out w5 hb5; replace hb5 := hide hb5) | (go_at_call 102; (with_reducible refine (qX.out _).mono ?_); rintro e w6 ⟨rfl, hb6⟩))
      go_ret
      exact ⟨by rw [hv'.out]; rfl, hb0.out.trans ((hb5.out.trans (hb6.mono hb5.out.size)).mono hz0)⟩
  · rw [if_neg hc] at hv
    generalize frmC f (s0, ini, ls, es) = oc at *
    replace q1 := hide q1
    have hcb : (oc != 0) = true := by simpa using hc
    have hv' := hide hv
    clear hF hv
    go_enter Tryz.func62, Tryz.ntmps62
    go_upto_region 1 with fail
    rw [← hW0]
    clear hW0
    go_wp2_with (first | (go_at_call 50; (with_reducible refine q1.out.mono ?_); rintro e w5 ⟨rfl, hb5⟩; replace hb5 := hide hb5))
    go_ret
    exact ⟨by rw [hv'.out]; rfl, hb0.out.trans (hb5.out.mono hz0)⟩
end Go.Proofs.YtanlgnjgpbjebaaGreatDoor

namespace Go.Proofs.YtanlgnjgpbjebaaGreatDoor
open Go.ChangeShapes Go.WideShapes Go.ChangeAt Go.RowKit
set_option linter.unusedVariables false
set_option linter.unusedSimpArgs false

theorem fstC_ok {f : DN} {d : DL} (h : fstC f d = 0) : ValF f ∧ ltsV d = true ∧ isFx (qF f 0) = true := by
  unfold fstC at h
  split at h
  · rename_i e
    obtain ⟨h1, h2⟩ := frmC_ok e
    refine ⟨h1, h2, ?_⟩
    by_cases h3 : isFx (qF f 0) = true
    · exact h3
    · rw [if_neg h3] at h; cases h
  · rename_i e; exact absurd h e
end Go.Proofs.YtanlgnjgpbjebaaGreatDoor

namespace Go.Proofs.YtanlgnjgpbjebaaGreatDoor
open Go.ChangeShapes Go.WideShapes Go.ChangeAt Go.RowKit
set_option linter.unusedVariables false
set_option linter.unusedSimpArgs false

theorem isStateN_calls (N : Nat) (s1 : Int) (v2 v3 : Value) (k : Int) (w : World) (hN : 1 ≤ N ∧ N ≤ 40) (hv2 : ∃ A n c, v2 = .slice A n c) (hv3 : ∃ A n c, v3 = .slice A n c) :
    Calls Tryz.prog 65 #[.agg #[.int .i64 (N : Nat), .int .i64 s1, v2, v3], .int .i64 k] w fun e w' => e = .returned (.bool (inB k 0 ((N : Int) - 1))) ∧ Below w.heap.size w w' := by
  obtain ⟨A2, n2, k2, rfl⟩ := hv2
  obtain ⟨A3, n3, k3, rfl⟩ := hv3
  have q := hide (fun W => within_calls k 0 ((N : Int) - 1) W)
  have hb : Below w.heap.size w (w.alloc (.cells #[.int .i64 (N : Nat), .int .i64 s1, .slice A2 n2 k2, .slice A3 n3 k3] 35)) := (Below.refl _ _).alloc (Nat.le_refl _) _
  have hw : IntKind.i64.wrap ((N : Int) - 1) = (N : Int) - 1 := IntWalk.i64_in _ (by omega)
  replace hb := hide hb
  go_enter Tryz.func65, Tryz.ntmps65
  go_wp2_with (first | (go_at_call 87; (with_reducible refine (q.out _).mono ?_); rintro e w' ⟨rfl, rfl⟩))
  go_ret
  exact ⟨rfl, hb.out⟩
end Go.Proofs.YtanlgnjgpbjebaaGreatDoor

namespace Go.Proofs.YtanlgnjgpbjebaaGreatDoor
open Go.ChangeShapes Go.WideShapes Go.ChangeAt Go.RowKit
set_option linter.unusedVariables false
set_option linter.unusedSimpArgs false

/-- The set of the numbers of a list. -/
def setL (N : Nat) (l : List Int) : List Bool := setOf N fun x => decide ((x : Int) ∈ l)
noncomputable def ifsF (f : DN) (d : DL) (l : List Int) : Bool × Int := if fstC f d = 0 then (if Inc d.1 l then (decide (semB f d (setL d.1.toNat l) = setL d.1.toNat l), 0) else (false, 2)) else (false, fstC f d)
theorem setL_next {N j : Nat} {l : List Int} {v : Nat} (hv : v < N) (hx : l[j]? = some (v : Int)) : (setL N (l.take j)).set v true = setL N (l.take (j + 1)) := by
  refine setOf_put hv fun x hx2 => ?_
  rw [List.take_add_one, hx]
  by_cases e : x = v
  · subst e; rw [if_pos rfl]; simp
  · rw [if_neg e]
    have : ¬ (x : Int) = (v : Int) := by omega
    simp [this]
set_option maxRecDepth 100000 in
theorem statesOk_calls (N : Nat) (s1 : Int) (A2 : Option Addr) (n2 k2 : Nat) (A3 : Option Addr) (n3 k3 : Nat) (A : Option Addr) (n c : Nat) (l : List Int) (w : World) (lo hi : Nat) (hN : 1 ≤ N ∧ N ≤ 40) (h : SlI w lo hi A n l) (hn : n ≤ 1048576) :
    Calls Tryz.prog 72 #[.agg #[.int .i64 (N : Nat), .int .i64 s1, .slice A2 n2 k2, .slice A3 n3 k3], .slice A n c] w fun e w' => e = .returned (.bool (decide (Inc (N : Int) l))) ∧ Below w.heap.size w w' := by
  have hlen := hide h.len
  obtain ⟨W0, hW0⟩ : ∃ W', W' = w.alloc (.cells #[.int .i64 (N : Nat), .int .i64 s1, .slice A2 n2 k2, .slice A3 n3 k3] 35) := ⟨_, rfl⟩
  have hb0 : Below w.heap.size w W0 := by rw [hW0]; exact (Below.refl _ _).alloc (Nat.le_refl _) _
  have kT : W0.heap[w.heap.size]? = some (.cells #[.int .i64 (N : Nat), .int .i64 s1, .slice A2 n2 k2, .slice A3 n3 k3] 35 (0, 0)) := by rw [hW0]; exact heap_alloc_new w _
  have hlt0 : w.heap.size < W0.heap.size := (Array.getElem?_eq_some_iff.1 kT).1
  have hS := hide (fun (W : World) (hW : Below W0.heap.size W0 W) => (⟨(cell_of_row _ _ 0 _ _ (0, 0) ((hW.block _ hlt0).trans kT)).trans rfl, (cell_of_row _ _ 1 _ _ (0, 0) ((hW.block _ hlt0).trans kT)).trans rfl, (cell_of_row _ _ 2 _ _ (0, 0) ((hW.block _ hlt0).trans kT)).trans rfl, (cell_of_row _ _ 3 _ _ (0, 0) ((hW.block _ hlt0).trans kT)).trans rfl⟩ : W.cell? ⟨w.heap.size, 0, none⟩ = some (.int .i64 (N : Nat)) ∧ W.cell? ⟨w.heap.size, 1, none⟩ = some (.int .i64 s1) ∧ W.cell? ⟨w.heap.size, 2, none⟩ = some (.slice A2 n2 k2) ∧ W.cell? ⟨w.heap.size, 3, none⟩ = some (.slice A3 n3 k3)))
  replace h := hide (h.below hb0 (.inr (Nat.le_refl _)))
  have q := hide (fun x W => isStateN_calls N s1 (.slice A2 n2 k2) (.slice A3 n3 k3) x W hN ⟨_, _, _, rfl⟩ ⟨_, _, _, rfl⟩)
  have hz0 := hb0.size
  replace hb0 := hide hb0
  clear kT
  go_enter Tryz.func72, Tryz.ntmps72
  go_upto_region 1 with fail
  rw [← hW0]
  clear hW0
  go_wp2_with fail
  go_loopw [9] (fun i wr => ∃ k : Nat, k ≤ n ∧ i = .int .i64 k ∧ Hid (Below W0.heap.size W0 wr) ∧ Hid (Inc (N : Int) (l.take k))) (fun i _ => n - (intOf i).toNat)
  case atStart => exact ⟨0, Nat.zero_le _, rfl, Below.refl _ _, by show Inc _ (l.take 0); rw [List.take_zero]; exact Inc.nil_ _⟩
  case round =>
    obtain ⟨k, hk, rfl, hb, ha⟩ := hrel
    obtain ⟨d0, d1, d2, d3⟩ := hS.out wr hb.out
    by_cases hlt : k < n
    · obtain ⟨b, off, x, eA, g1, g2, g3, hx, c0, -⟩ := SlI.get h.out hlt
      replace c0 := (hb.out.cell (p := ⟨b, off + k, none⟩) g3).trans c0
      have hk1 : (0 : Int) ≤ (k : Int) := by omega
      have hk2 : (k : Int) < (n : Int) := by omega
      have qx := q.out x wr
      by_cases hr : 0 ≤ x ∧ x < (N : Int)
      · rw [show inB x 0 ((N : Int) - 1) = true from inB_true.2 (by omega)] at qx
        replace qx := hide qx
        by_cases hk0 : 0 < k
        · obtain ⟨b', off', y, eA', -, -, g3', hy, e0, -⟩ := SlI.get h.out (show k - 1 < n by omega)
          rw [eA] at eA'
          cases eA'
          subst eA
          have hcy := hide (fun (W : World) (hW : Below wr.heap.size wr W) => (hW.cell (p := ⟨b, off + (k - 1), none⟩) (by have := hb.out.size; show b < _; omega)).trans ((hb.out.cell (p := ⟨b, off + (k - 1), none⟩) g3').trans e0))
          have e1 : decide ((0 : Int) < (k : Int)) = true := decide_eq_true (by omega)
          have e11 : (0 : Int) < (k : Int) := by omega
          have e2 : IntKind.i64.wrap ((k : Int) - 1) = ((k - 1 : Nat) : Int) := by rw [IntWalk.i64_in _ (by omega)]; omega
          have e22 : (k : Int) - 1 = ((k - 1 : Nat) : Int) := by omega
          have e5 : ((k - 1 : Nat) : Int) < n := by omega
          by_cases hyx : x ≤ y
          · have hv : Hid (decide (Inc (N : Int) l) = false) := decide_eq_false (Inc.fall (k := k - 1) hy (by rw [show k - 1 + 1 = k by omega]; exact hx) hyx)
            clear hx hy hr e0
            generalize k - 1 = k' at *
            go_wp2_with (first | (go_at_call 65; (with_reducible refine qx.out.mono ?_); rintro e w5 ⟨rfl, hb5⟩; have cy := hcy.out w5 hb5))
            go_ret
            exact ⟨ret_b (by rw [hv.out]), hb0.out.trans ((hb.out.trans (hb5.mono hb.out.size)).mono hz0)⟩
          · have hnext : Hid (Inc (N : Int) (l.take (k + 1))) := by
              have h1 := ha.out
              rw [show k = k - 1 + 1 by omega] at h1 ⊢
              exact h1.step hy (by rw [show k - 1 + 1 = k by omega]; exact hx) hr (by omega)
            clear hx hy hr e0
            generalize k - 1 = k' at *
            go_wp2_with (first | (go_at_call 65; (with_reducible refine qx.out.mono ?_); rintro e w5 ⟨rfl, hb5⟩; have cy := hcy.out w5 hb5))
            go_roundw
            case rel => exact ⟨k + 1, by omega, by go_num, hb.out.trans (hb5.mono hb.out.size), hnext⟩
            case measure => simp [intOf]; omega
        · have hnext : Hid (Inc (N : Int) (l.take (k + 1))) := by
            have : k = 0 := by omega
            subst this
            exact Inc.one hx hr
          have e1 : decide ((0 : Int) < (k : Int)) = false := decide_eq_false (by omega)
          have e11 : ¬ (0 : Int) < (k : Int) := by omega
          subst eA
          clear hx hr
          go_wp2_with (first | (go_at_call 65; (with_reducible refine qx.out.mono ?_); rintro e w5 ⟨rfl, hb5⟩))
          go_roundw
          case rel => exact ⟨k + 1, by omega, by go_num, hb.out.trans (hb5.mono hb.out.size), hnext⟩
          case measure => simp [intOf]; omega
      · rw [show inB x 0 ((N : Int) - 1) = false from inB_false.2 (by omega)] at qx
        replace qx := hide qx
        have hv : Hid (decide (Inc (N : Int) l) = false) := decide_eq_false (Inc.bad hx hr)
        subst eA
        clear hx hr
        go_wp2_with (first | (go_at_call 65; (with_reducible refine qx.out.mono ?_); rintro e w5 ⟨rfl, hb5⟩))
        go_ret
        exact ⟨ret_b (by rw [hv.out]), hb0.out.trans ((hb.out.trans (hb5.mono hb.out.size)).mono hz0)⟩
    · have hkn : k = n := by omega
      subst hkn
      have ha' := ha.out
      rw [List.take_of_length_le (by rw [hlen.out]; exact Nat.le_refl _)] at ha'
      have hv : Hid (decide (Inc (N : Int) l) = true) := decide_eq_true ha'
      clear ha ha'
      go_wp2_with fail
      go_ret
      exact ⟨ret_b (by rw [hv.out]), hb0.out.trans (hb.out.mono hz0)⟩

end Go.Proofs.YtanlgnjgpbjebaaGreatDoor

namespace Go.Proofs.YtanlgnjgpbjebaaGreatDoor
open Go.ChangeShapes Go.WideShapes Go.ChangeAt Go.RowKit
set_option linter.unusedVariables false
set_option linter.unusedSimpArgs false

def FreshI (w : World) (lo hi : Nat) (v : Value) (d : List Int) : Prop := ∃ A n, v = .slice A n n ∧ SlI w lo hi A n d ∧ n ≤ 1048576
set_option maxRecDepth 100000 in
set_option maxHeartbeats 6400000 in
theorem specIsFixedSet_u {v u : Value} {f : DN} {d : DL} {w : World} {lo hi lo' hi' : Nat} (he : Env w) (g : FreshN w lo' hi' u f) (gh : hi' ≤ w.heap.size) (h : FreshL w lo hi v d) (hh : hi ≤ w.heap.size) {u2 : Value} {l : List Int} {lo2 hi2 : Nat} (r : FreshI w lo2 hi2 u2 l) (rh : hi2 ≤ w.heap.size) :
    Calls Tryz.prog 26 #[u, v, u2] w fun e w' => e = .returned (.tuple #[.bool (ifsF f d l).1, .int .i64 (ifsF f d l).2]) ∧ Below w.heap.size w w' := by
  obtain ⟨⟨⟨s0, s1, v2, v3⟩, rfl, hL⟩, ht⟩ := h
  obtain ⟨A, n, rfl, hF⟩ := FrmAt.of g gh
  obtain ⟨A9, n9, rfl, hL9, hn9⟩ := r
  obtain ⟨st, ini, ls, es⟩ := d
  have hAt := LtsAt.box hL hh ht
  obtain ⟨W0, hW0⟩ : ∃ W', W' = w.alloc (.cells #[.int .i64 s0, .int .i64 s1, v2, v3] 35) := ⟨_, rfl⟩
  have hb0 : Below w.heap.size w W0 := by rw [hW0]; exact (Below.refl _ _).alloc (Nat.le_refl _) _
  rw [← hW0] at hAt
  replace hF := hF.below hb0
  replace hL9 := (hL9.below hb0 (.inr (Nat.le_refl _))).more (Nat.zero_le _) (Nat.le_trans rh hb0.size)
  have hz0 := hb0.size
  have q1 := l21First_calls A n n w.heap.size f _ (st, ini, ls, es) W0 hF.1 hF.2 hAt
  replace hb0 := hide hb0
  clear he g hL
  go_enter Tryz.func26, Tryz.ntmps26
  go_upto_region 1 with fail
  rw [← hW0]
  clear hW0
  by_cases hc : fstC f (st, ini, ls, es) = 0
  case neg =>
    have hval : Hid (ifsF f (st, ini, ls, es) l = (false, fstC f (st, ini, ls, es))) := by show _ = _; unfold ifsF; rw [if_neg hc]
    generalize fstC f (st, ini, ls, es) = oc at *
    replace q1 := hide q1
    have hcb : (oc != 0) = true := by simpa using hc
    clear hAt hF hL9
    go_wp2_with (first | (go_at_call 60; (with_reducible refine q1.out.mono ?_); rintro e w5 ⟨rfl, hb5⟩; replace hb5 := hide hb5))
    go_ret2
    exact ⟨by rw [hval.out]; rfl, hb0.out.trans (hb5.out.mono hz0)⟩
  obtain ⟨hV, hlv, h0⟩ := fstC_ok hc
  rw [hc] at q1
  replace q1 := hide q1
  have hb40 := (lts_boundsB hlv).1
  obtain ⟨N, rfl⟩ : ∃ N : Nat, st = (N : Int) := ⟨st.toNat, by omega⟩
  have hN40 : 1 ≤ N ∧ N ≤ 40 := by omega
  obtain ⟨e0, e1, ⟨A2, n2, k2, e2, -⟩, ⟨A3, n3, k3, e3, -⟩⟩ := hAt.1
  dsimp only at e0 e1 e2 e3
  subst e0 e1 e2 e3
  have hSS := hide (fun (W : World) (hW : Below W0.heap.size W0 W) => (⟨(hAt.below hW (Nat.le_refl _)).2.2.2.1, (hAt.below hW (Nat.le_refl _)).2.2.2.2.1, (hAt.below hW (Nat.le_refl _)).2.2.2.2.2.1, (hAt.below hW (Nat.le_refl _)).2.2.2.2.2.2⟩ : W.cell? ⟨w.heap.size, 0, none⟩ = some (.int .i64 (N : Nat)) ∧ W.cell? ⟨w.heap.size, 1, none⟩ = some (.int .i64 s1) ∧ W.cell? ⟨w.heap.size, 2, none⟩ = some (.slice A2 n2 k2) ∧ W.cell? ⟨w.heap.size, 3, none⟩ = some (.slice A3 n3 k3)))
  have qR := fun (W : World) (hW : Below W0.heap.size W0 W) => rises_calls A9 n9 n9 l N (by omega) W 0 W0.heap.size (hL9.below hW (.inr (Nat.le_refl _))) (by unfold maxLen; omega)
  have hi1 : IntKind.i64.wrap ((N : Int) - 1) = (N : Int) - 1 := IntWalk.i64_in _ (by omega)
  by_cases hI : Inc (N : Int) l
  case neg =>
    have hval : Hid (ifsF f ((N : Int), s1, ls, es) l = (false, 2)) := by show _ = _; unfold ifsF; rw [if_pos hc, if_neg hI]
    simp only [decide_eq_false hI] at qR
    replace qR := hide qR
    clear hAt hF hL9 hI hc hV hlv h0
    go_wp2_with (first | (go_at_call 60; (with_reducible refine q1.out.mono ?_); rintro e w5 ⟨rfl, hb5⟩; obtain ⟨d0, d1, d2, d3⟩ := hSS.out w5 hb5; have qR2 := hide (qR.out w5 hb5); clear q1) | (go_at_call 68; (with_reducible refine qR2.out.mono ?_); rintro e w6 ⟨rfl, N6, rfl⟩))
    go_ret2
    exact ⟨by rw [hval.out]; rfl, hb0.out.trans ((hb5.trans ((below_drewN w5 N6).mono hb5.size)).mono hz0)⟩
  have hval : Hid (ifsF f ((N : Int), s1, ls, es) l = (decide (semB f ((N : Int), s1, ls, es) (setL N l) = setL N l), 0)) := by show _ = _; unfold ifsF; rw [if_pos hc, if_pos hI]; rfl
  simp only [decide_eq_true hI] at qR
  replace qR := hide qR
  have hLL := hide (fun (W : World) (hW : Below W0.heap.size W0 W) => hL9.below hW (.inr (Nat.le_refl _)))
  have hmk := run_make_bool N (by omega)
  have hl9 := hL9.len
  have hlen := hF.1.len
  subst hlen
  have hDD := hide (fun (W : World) (hW : Below W0.heap.size W0 W) => (⟨(hF.below hW).1, hF.2, hV, hAt.below hW (Nat.le_refl _), hlv⟩ : RunD W A f w.heap.size _ N s1 ls es))
  have q2 := hide fun (W : World) (hW : Below W0.heap.size W0 W) => l21Begin_calls A f.length f.length w.heap.size N f _ s1 ls es W rfl hV.len (by omega) (hAt.below hW (Nat.le_refl _))
  obtain ⟨a, hTr, hsub⟩ := fx_tree hV h0
  have hP : PartF f (.one a) 0 := ⟨by have := hV.len; omega, by rw [subT_self]; exact hTr⟩
  have hP1 : PartF f a 1 := (hP.one hV.shape).1
  have hbd := hide (fun (X : List Bool) => body_rho0 (d := ((N : Int), s1, ls, es)) hsub X)
  have h0' := hide h0
  clear hc hAt hF hL9 hV hlv h0 hb40
  go_upto_region 6 with (first | (go_at_call 60; (with_reducible refine q1.out.mono ?_); rintro e w5 ⟨rfl, hb5⟩; obtain ⟨d0, d1, d2, d3⟩ := hSS.out w5 hb5; have qR2 := hide (qR.out w5 hb5); clear q1) | (go_at_call 68; (with_reducible refine qR2.out.mono ?_); rintro e w6 ⟨rfl, N6, rfl⟩))
  have hb56 : Below W0.heap.size W0 (w5.drewN N6) := hb5.trans ((below_drewN w5 N6).mono hb5.size)
  obtain ⟨f0, f1, f2, f3⟩ := hSS.out _ hb56
  have hz56 := hb56.size
  have hm9 := SlB.made (w5.drewN N6) N
  have hbm : Below (w5.drewN N6).heap.size (w5.drewN N6) ((w5.drewN N6).alloc (.cells (madeCells #[.bool false] N) 4)) := (Below.refl _ _).alloc (Nat.le_refl _) _
  have hzm : ((w5.drewN N6).alloc (.cells (madeCells #[.bool false] N) 4)).heap.size = (w5.drewN N6).heap.size + 1 := by simp
  generalize hW6 : w5.drewN N6 = W6 at *
  clear hW6
  clear hb5 d0 d1 d2 d3
  generalize hW7 : W6.alloc (.cells (madeCells #[.bool false] N) 4) = W7 at *
  have hz67 : W6.heap.size < W7.heap.size := by omega
  have hz67' : W6.heap.size + 1 ≤ W7.heap.size := by omega
  have hb57 := hide (hb56.trans (hbm.mono hz56))
  clear hzm
  replace hm9 := hide hm9
  have hstart : Hid (SlB W7 W6.heap.size (W6.heap.size + 1) (some ⟨W6.heap.size, 0, none⟩) N (setL N (l.take 0))) := by
    show SlB _ _ _ _ _ _
    rw [show setL N (l.take 0) = setOf N fun _ => false by unfold setL; rw [List.take_zero]; simp]
    exact hm9.out
  go_upto_region 7 with fail
  (try rw [hW7])
  clear hW7 hm9 f0 f1 f2 f3 hbm
  go_wp2_with fail
  go_loopw [10] (fun i wr => ∃ j : Nat, j ≤ n9 ∧ i = .int .i64 (j : Nat) ∧ Hid (SlB wr W6.heap.size (W6.heap.size + 1) (some ⟨W6.heap.size, 0, none⟩) N (setL N (l.take j))) ∧ Hid (But (fun b => b = W6.heap.size) W7 wr)) (fun i _ => n9 - (intOf i).toNat)
  case atStart => exact ⟨0, Nat.zero_le _, rfl, hstart, But.refl _ _⟩
  case round =>
    clear hstart
    obtain ⟨j, hj, rfl, hs, hbu⟩ := hrel
    have hzr := hbu.out.size
    by_cases hlt : j < n9
    · obtain ⟨b9, o9, v9, hA9, -, g92, g93, hx9, c9, -⟩ := SlI.get (hLL.out W7 hb57.out) hlt
      subst hA9
      have c9' := hbu.out.cell c9 g93 (by show ¬ b9 = _; omega)
      have hv9 := hI.1 v9 (List.mem_of_getElem? hx9)
      obtain ⟨V, rfl⟩ : ∃ V : Nat, v9 = (V : Int) := ⟨v9.toNat, by omega⟩
      have hVN : V < N := by omega
      obtain ⟨bb, oo, e1, -, -, -, -, ca, fa⟩ := SlB.get hs.out hVN
      cases e1
      have hnx := hide (setL_next hVN hx9)
      have hs2 : Hid (SlB (wr.setCell ⟨W6.heap.size, 0 + V, none⟩ (.bool true)) W6.heap.size (W6.heap.size + 1) (some ⟨W6.heap.size, 0, none⟩) N (setL N (l.take (j + 1)))) := by
        show SlB _ _ _ _ _ _
        rw [← hnx.out]
        exact SlB.put hs.out hVN true
      have hbu2 := hide (hbu.out.trans (But.set wr ⟨W6.heap.size, 0 + V, none⟩ (.bool true) rfl))
      rw [Nat.zero_add] at hs2 hbu2 ca fa
      have hj0 : (0 : Int) ≤ (j : Int) := by omega
      have hj1 : (j : Int) < (n9 : Int) := by omega
      have hV0 : (0 : Int) ≤ (V : Int) := by omega
      have hV1 : (V : Int) < (N : Int) := by omega
      clear hx9 c9
      go_wp2_with fail
      go_roundw
      case rel => exact ⟨j + 1, by omega, by go_num, hs2, hbu2⟩
      case measure => simp [intOf]; omega
    · have hjn : j = n9 := by omega
      subst hjn
      have hs8 := hs.out
      rw [List.take_of_length_le (by rw [hl9]; exact Nat.le_refl _)] at hs8
      have hB7 : Below W0.heap.size W0 wr := hb57.out.trans (hbu.out.below (fun x hx => by rw [hx]; exact hz56) (by omega))
      have hD := hide (hDD.out wr hB7)
      have q3 := hide (q2.out wr hB7)
      have hbdj := hbd.out (setL N l)
      rw [show ((N : Int), s1, ls, es).1.toNat = N from rfl] at hbdj
      have hsl := setOf_len N (fun x => decide ((x : Int) ∈ l))
      replace hB7 := hide hB7
      replace hbdj := hide hbdj
      replace hs8 := hide hs8
      go_wp2_with (first
        | (go_at_call 70; (with_reducible refine q3.out.mono ?_); rintro e w8 ⟨br, bE, bS, bC, cE, rfl, hr8, hb8, hba8⟩; have hz8 := hb8.size; have hs88 := hs8.out.below hb8 (.inr (Nat.le_refl _)); have hbase : (∀ b, RunT bE bS bC b → wr.heap.size ≤ b) := hba8; have hIH := at_calls (br := br) (cE := cE) (cf := f.length) hD.out hbase a 1 hP1; have qY := body_calls hD.out hP h0'.out hIH hbase (rho0 N) (fun _ => []) (fun _ => []) (some ⟨W6.heap.size, 0, none⟩) N (setL N l) w8 hb8 hr8 ⟨_, _, _, rfl, by omega, hs88.more (Nat.zero_le _) (by omega), fun a' ha' _ hT => (by cases ha'; rcases hT with hT | hT; exact hT.elim; have := hbase _ hT; dsimp only at this; omega)⟩ hsl (PreR.start fun j => ⟨rfl, rfl⟩); rw [show ((0 : Nat) : Int) = 0 from rfl, hbdj.out] at qY; replace qY := hide qY; replace hbase := hide hbase; replace hs88 := hide hs88; replace hb8 := hide hb8; clear q3 hIH hr8) | (go_at_call 71; (with_reducible refine qY.out.mono ?_); rintro e w9 ⟨A9', c9', sv9, cl9, rfl, hs9, -, -, hb9⟩; have qE := hide (l21Equal_calls A9' (some ⟨W6.heap.size, 0, none⟩) N c9' N _ _ w9 _ _ _ _ hs9 (hs88.out.but hb9 (fun x hx => .inr (by have := hbase.out x hx; omega))) (by omega)); have hb9' := hide (hb9.below hbase.out hz8); clear qY hs9) | (go_at_call 69; (with_reducible refine qE.out.mono ?_); rintro e w10 ⟨rfl, N10, rfl⟩))
      go_ret2
      have hBw : Below w.heap.size w (w9.drewN N10) := hb0.out.trans (((hB7.out.trans ((hb8.out.trans hb9'.out).mono (by have := hB7.out.size; omega))).trans (show Below W0.heap.size w9 (w9.drewN N10) from ⟨rfl, rfl, rfl, Nat.le_refl _, fun _ _ => rfl⟩)).mono hz0)
      exact ⟨by rw [hval.out]; rfl, hBw⟩
set_option maxRecDepth 100000 in
set_option maxHeartbeats 6400000 in
theorem implIsFixedSet_u {v u : Value} {f : DN} {d : DL} {w : World} {lo hi lo' hi' : Nat} (he : Env w) (g : FreshN w lo' hi' u f) (gh : hi' ≤ w.heap.size) (h : FreshL w lo hi v d) (hh : hi ≤ w.heap.size) {u2 : Value} {l : List Int} {lo2 hi2 : Nat} (r : FreshI w lo2 hi2 u2 l) (rh : hi2 ≤ w.heap.size) :
    Calls Tryz.prog 28 #[u, v, u2] w fun e w' => e = .returned (.tuple #[.bool (ifsF f d l).1, .int .i64 (ifsF f d l).2]) ∧ Below w.heap.size w w' := by
  obtain ⟨A2, n2, k2, A3, n3, k3, rfl, hS⟩ := SysAt.box he h hh
  obtain ⟨A, n, rfl, hF⟩ := FrmAt.of g gh
  obtain ⟨A9, n9, rfl, hL9, hn9⟩ := r
  obtain ⟨st, ini, ls, es⟩ := d
  dsimp only at hS ⊢
  obtain ⟨W0, hW0⟩ : ∃ W', W' = w.alloc (.cells #[.int .i64 st, .int .i64 ini, .slice A2 n2 k2, .slice A3 n3 k3] 35) := ⟨_, rfl⟩
  have hb0 : Below w.heap.size w W0 := by rw [hW0]; exact (Below.refl _ _).alloc (Nat.le_refl _) _
  rw [← hW0] at hS
  replace hF := hF.below hb0
  replace hL9 := (hL9.below hb0 (.inr (Nat.le_refl _))).more (Nat.zero_le _) (Nat.le_trans rh hb0.size)
  have hz0 := hb0.size
  have q1 := fixedCode_calls hS hF (c := n)
  obtain ⟨b0, b1, b2, b3⟩ := hS.facts
  replace hb0 := hide hb0
  clear he g h
  go_enter Tryz.func28, Tryz.ntmps28
  go_upto_region 1 with fail
  rw [← hW0]
  clear hW0
  by_cases hc : fstC f (st, ini, ls, es) = 0
  case neg =>
    have hval : Hid (ifsF f (st, ini, ls, es) l = (false, fstC f (st, ini, ls, es))) := by show _ = _; unfold ifsF; rw [if_neg hc]
    generalize fstC f (st, ini, ls, es) = oc at *
    replace q1 := hide q1
    have hcb : (oc != 0) = true := by simpa using hc
    clear hS hF hL9
    go_wp2_with (first | (go_at_call 62; (with_reducible refine q1.out.mono ?_); rintro e w5 ⟨rfl, hb5⟩; replace hb5 := hide hb5))
    go_ret2
    exact ⟨by rw [hval.out]; rfl, hb0.out.trans (hb5.out.mono hz0)⟩
  obtain ⟨hV, hlv, h0⟩ := fstC_ok hc
  rw [hc] at q1
  replace q1 := hide q1
  have hb40 := (lts_boundsB hlv).1
  obtain ⟨N, rfl⟩ : ∃ N : Nat, st = (N : Int) := ⟨st.toNat, by omega⟩
  have hN40 : 1 ≤ N ∧ N ≤ 40 := by omega
  have hSS := hide (fun (W : World) (hW : Below W0.heap.size W0 W) => (hS.below hW).facts)
  have qR := fun (W : World) (hW : Below W0.heap.size W0 W) => statesOk_calls N ini A2 n2 k2 A3 n3 k3 A9 n9 n9 l W 0 W0.heap.size hN40 (hL9.below hW (.inr (Nat.le_refl _))) hn9
  have hi1 : IntKind.i64.wrap ((N : Int) - 1) = (N : Int) - 1 := IntWalk.i64_in _ (by omega)
  by_cases hI : Inc (N : Int) l
  case neg =>
    have hval : Hid (ifsF f ((N : Int), ini, ls, es) l = (false, 2)) := by show _ = _; unfold ifsF; rw [if_pos hc, if_neg hI]
    simp only [decide_eq_false hI] at qR
    replace qR := hide qR
    clear hS hF hL9 hI hc hV hlv h0
    go_wp2_with (first | (go_at_call 62; (with_reducible refine q1.out.mono ?_); rintro e w5 ⟨rfl, hb5⟩; obtain ⟨d0, d1, d2, d3⟩ := hSS.out w5 hb5; have qR2 := hide (qR.out w5 hb5); clear q1) | (go_at_call 72; (with_reducible refine qR2.out.mono ?_); rintro e w6 ⟨rfl, hb6⟩))
    go_ret2
    exact ⟨by rw [hval.out]; rfl, hb0.out.trans ((hb5.trans (hb6.mono hb5.size)).mono hz0)⟩
  have hval : Hid (ifsF f ((N : Int), ini, ls, es) l = (decide (semB f ((N : Int), ini, ls, es) (setL N l) = setL N l), 0)) := by show _ = _; unfold ifsF; rw [if_pos hc, if_pos hI]; rfl
  simp only [decide_eq_true hI] at qR
  replace qR := hide qR
  have hLL := hide (fun (W : World) (hW : Below W0.heap.size W0 W) => hL9.below hW (.inr (Nat.le_refl _)))
  have hmk := run_make_bool N (by omega)
  have hl9 := hL9.len
  have hn1 : 1 < n := by
    obtain ⟨a, hT, -⟩ := fx_tree hV h0
    obtain ⟨-, hsz⟩ := treeF_is hV.shape
    rw [hT] at hsz
    have := a.size_pos
    have := hF.1.len
    simp only [Tr.size] at hsz
    omega
  have qSem := hide (fun (W : World) (hW : Below W0.heap.size W0 W) (vs : Value) (X : List Bool) (hX : SetV W vs (some X) N) => (hS.below hW).sem (hF.below hW) hV hlv hX hn1 (c := n))
  have hwon := hide (fun (X : List Bool) => wonS_some hV hlv h0 X)
  clear hc hS hF hL9 hV hlv h0 hb40
  go_upto_region 6 with (first | (go_at_call 62; (with_reducible refine q1.out.mono ?_); rintro e w5 ⟨rfl, hb5⟩; obtain ⟨d0, d1, d2, d3⟩ := hSS.out w5 hb5; have qR2 := hide (qR.out w5 hb5); clear q1) | (go_at_call 72; (with_reducible refine qR2.out.mono ?_); rintro e w6 ⟨rfl, hb6⟩))
  have hb56 : Below W0.heap.size W0 (w6) := hb5.trans (hb6.mono hb5.size)
  obtain ⟨f0, f1, f2, f3⟩ := hSS.out _ hb56
  have hz56 := hb56.size
  have hm9 := SlB.made (w6) N
  have hbm : Below (w6).heap.size (w6) ((w6).alloc (.cells (madeCells #[.bool false] N) 4)) := (Below.refl _ _).alloc (Nat.le_refl _) _
  have hzm : ((w6).alloc (.cells (madeCells #[.bool false] N) 4)).heap.size = (w6).heap.size + 1 := by simp
  generalize hW6 : w6 = W6 at *
  clear hW6
  clear hb5 d0 d1 d2 d3
  generalize hW7 : W6.alloc (.cells (madeCells #[.bool false] N) 4) = W7 at *
  have hz67 : W6.heap.size < W7.heap.size := by omega
  have hz67' : W6.heap.size + 1 ≤ W7.heap.size := by omega
  have hb57 := hide (hb56.trans (hbm.mono hz56))
  clear hzm
  replace hm9 := hide hm9
  have hstart : Hid (SlB W7 W6.heap.size (W6.heap.size + 1) (some ⟨W6.heap.size, 0, none⟩) N (setL N (l.take 0))) := by
    show SlB _ _ _ _ _ _
    rw [show setL N (l.take 0) = setOf N fun _ => false by unfold setL; rw [List.take_zero]; simp]
    exact hm9.out
  go_upto_region 7 with fail
  (try rw [hW7])
  clear hW7 hm9 f0 f1 f2 f3 hbm
  go_wp2_with fail
  go_loopw [27] (fun i wr => ∃ j : Nat, j ≤ n9 ∧ i = .int .i64 (j : Nat) ∧ Hid (SlB wr W6.heap.size (W6.heap.size + 1) (some ⟨W6.heap.size, 0, none⟩) N (setL N (l.take j))) ∧ Hid (But (fun b => b = W6.heap.size) W7 wr)) (fun i _ => n9 - (intOf i).toNat)
  case atStart => exact ⟨0, Nat.zero_le _, rfl, hstart, But.refl _ _⟩
  case round =>
    clear hstart
    obtain ⟨j, hj, rfl, hs, hbu⟩ := hrel
    have hzr := hbu.out.size
    by_cases hlt : j < n9
    · obtain ⟨b9, o9, v9, hA9, -, g92, g93, hx9, c9, -⟩ := SlI.get (hLL.out W7 hb57.out) hlt
      subst hA9
      have c9' := hbu.out.cell c9 g93 (by show ¬ b9 = _; omega)
      have hv9 := hI.1 v9 (List.mem_of_getElem? hx9)
      obtain ⟨V, rfl⟩ : ∃ V : Nat, v9 = (V : Int) := ⟨v9.toNat, by omega⟩
      have hVN : V < N := by omega
      obtain ⟨bb, oo, e1, -, -, -, -, ca, fa⟩ := SlB.get hs.out hVN
      cases e1
      have hnx := hide (setL_next hVN hx9)
      have hs2 : Hid (SlB (wr.setCell ⟨W6.heap.size, 0 + V, none⟩ (.bool true)) W6.heap.size (W6.heap.size + 1) (some ⟨W6.heap.size, 0, none⟩) N (setL N (l.take (j + 1)))) := by
        show SlB _ _ _ _ _ _
        rw [← hnx.out]
        exact SlB.put hs.out hVN true
      have hbu2 := hide (hbu.out.trans (But.set wr ⟨W6.heap.size, 0 + V, none⟩ (.bool true) rfl))
      rw [Nat.zero_add] at hs2 hbu2 ca fa
      have hj0 : (0 : Int) ≤ (j : Int) := by omega
      have hj1 : (j : Int) < (n9 : Int) := by omega
      have hV0 : (0 : Int) ≤ (V : Int) := by omega
      have hV1 : (V : Int) < (N : Int) := by omega
      clear hx9 c9
      go_wp2_with fail
      go_roundw
      case rel => exact ⟨j + 1, by omega, by go_num, hs2, hbu2⟩
      case measure => simp [intOf]; omega
    · have hjn : j = n9 := by omega
      subst hjn
      have hs8 := hs.out
      rw [List.take_of_length_le (by rw [hl9]; exact Nat.le_refl _)] at hs8
      have hB7 : Below W0.heap.size W0 wr := hb57.out.trans (hbu.out.below (fun x hx => by rw [hx]; exact hz56) (by omega))
      have hsv : SetV wr (.slice (some ⟨W6.heap.size, 0, none⟩) N N) (some (setL N l)) N := ⟨_, _, rfl, hs8.more (Nat.zero_le _) (by omega)⟩
      have qY := qSem.out wr hB7 _ _ hsv
      rw [hwon.out, show ((1 : Nat) : Int) = 1 from rfl] at qY
      replace qY := hide qY
      obtain ⟨f0, f1, f2, f3⟩ := hSS.out wr hB7
      replace hB7 := hide hB7
      replace hs8 := hide hs8
      clear hsv
      go_wp2_with (first
        | (go_at_call 51; (with_reducible refine qY.out.mono ?_); rintro e w9 ⟨A9', c9', rfl, hs9, hb9⟩; have qE := hide (equalB_calls A9' (some ⟨W6.heap.size, 0, none⟩) N c9' N _ _ w9 _ _ _ _ hs9 (hs8.out.below hb9 (.inr (Nat.le_refl _))) (by omega)); replace hb9 := hide hb9; clear qY hs9) | (go_at_call 73; (with_reducible refine qE.out.mono ?_); rintro e w10 ⟨rfl, N10, rfl⟩))
      go_ret2
      have hBw : Below w.heap.size w (w9.drewN N10) := hb0.out.trans (((hB7.out.trans (hb9.out.mono hB7.out.size)).trans (show Below W0.heap.size w9 (w9.drewN N10) from ⟨rfl, rfl, rfl, Nat.le_refl _, fun _ _ => rfl⟩)).mono hz0)
      exact ⟨by rw [hval.out]; rfl, hBw⟩

end Go.Proofs.YtanlgnjgpbjebaaGreatDoor

namespace Go.Proofs.YtanlgnjgpbjebaaGreatDoor
open Go.ChangeShapes Go.WideShapes Go.ChangeAt Go.RowKit Go.Deep
set_option linter.unusedVariables false
set_option linter.unusedSimpArgs false

abbrev DI := List Int
def totI (d : DI) : Nat := d.length
section
variable {w w' : World} {lo hi lo' hi' B : Nat} {v u : Value} {d e : DI}
theorem FreshI.below (h : FreshI w lo hi v d) (hb : Below B w w') (hB : hi ≤ B ∨ w.heap.size ≤ B) : FreshI w' lo hi v d := by
  obtain ⟨A, n, e, h1, h2⟩ := h
  exact ⟨A, n, e, h1.below hb hB, h2⟩
theorem FreshI.only (h : FreshI w lo hi v d) (g : Only lo' hi' w w') (hd : hi ≤ lo' ∨ hi' ≤ lo) : FreshI w' lo hi v d := by
  obtain ⟨A, n, e, h1, h2⟩ := h
  exact ⟨A, n, e, h1.only g hd, h2⟩
theorem toInt64S_u (h : ArgI w lo hi v d) (ht : totI d ≤ 1048576) :
    Calls Tryz.prog 27 #[v] w fun e w' => ∃ v', e = .returned v' ∧ FreshI w' w.heap.size w'.heap.size v' d ∧ Below w.heap.size w w' := by
  obtain ⟨A, n, c, rfl, h2, h3⟩ := h
  have hl := h3.len
  have hn : n ≤ 1048576 := by unfold totI at ht; omega
  refine (toInt64S_calls A n c d w lo hi h3 hn).mono ?_
  rintro e w' ⟨A', rfl, hb, hs⟩
  exact ⟨_, rfl, ⟨A', n, rfl, hs, hn⟩, hb⟩
theorem eqInt64SA_u (h : FreshI w lo hi v d) (g : FreshI w lo' hi' u e) :
    Calls Tryz.prog 29 #[v, u] w fun r w' => r = .returned (.bool (decide (d = e))) ∧ Below w.heap.size w w' := by
  obtain ⟨A, n, rfl, h2, h1⟩ := h
  obtain ⟨B, m, rfl, g2, g1⟩ := g
  exact eqInt64S_calls A B n m n m d e w lo hi lo' hi' h2 g2 (by unfold maxLen; omega) (by unfold maxLen; omega)
end
set_option maxRecDepth 100000 in
theorem open_I {H : Type} {enc : TypeId × Value → H} {w : World} {base wbase : Nat} {spare : Nat → Bool} {held : Bool} {v : Value} {d : DataW H} {p : List MemPlace} {w0 : World} {r0 : Reach} (hw : Value.okWide Tryz.prog w0 r0 wbase 46 v)
    (h : DataW.Trod enc Tryz.prog w base spare held 46 v d p) (hz : ∀ b off, MemPlace.cell b off ∈ p → w.frozen? ⟨b, off, none⟩ = false) : ∃ x, ArgI w base w.heap.size v x := by
  obtain ⟨A, n, c, rfl⟩ := okWide_slice Tryz.underlying46 hw
  obtain ⟨fuel, hf⟩ := h
  have hf' : DataW.trod enc Tryz.prog w base spare held fuel 46 [.slice A n c] = some (d, p) := hf
  exact read_I Tryz.underlying46 (by kernel_rfl) Tryz.underlying2 hf' hz

end Go.Proofs.YtanlgnjgpbjebaaGreatDoor
