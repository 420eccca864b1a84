/-
  Several texts in one:
  The game of a valid formula and a valid system is one in the sense of XMuC; its winners tell the meaning of the parts: plain. Conditions: the formula is valid, the system's numbers are in range.
  The sets of the variables at a place within a formula, one fixed point after the other; the approximants of a formula that begins with a fixed point: plain. Conditions: a valid formula, a valid system.
  A growing row of lists of bools, each in a block of its own. Conditions: none.
  What the reference asks of a formula that must be a fixed point. Conditions: none.
  Where a part of a formula holds, by the program. Conditions: the formula and the system are valid.
  Two lists of bools and two boxes for them, made in any order. Conditions: none.
  The approximants of a formula that begins with a fixed point, by the reference. Conditions: a valid formula, a valid system.
  slices.Equal on lists of bools of one length, slices.IndexFunc on rows of them. Conditions: at most 1048576 elements.
  The approximants of a formula that begins with a fixed point, by the program. Conditions: a valid formula, a valid system.
  How many approximants there are until nothing changes: by both programs. Conditions: none.
  The round at which a state enters or leaves: by the reference. Conditions: none.
  The round at which a state enters or leaves: by the program. Conditions: none.
-/
import Derived.Test.YtanlgnjgpbjebaaGreatDoorBaseA
import Derived.Test.YtanlgnjgpbjebaaGreatDoorBaseB
import Derived.Test.YtanlgnjgpbjebaaGreatDoorBaseC
import Derived.Test.YtanlgnjgpbjebaaGreatDoorBaseD
import Derived.Test.YtanlgnjgpbjebaaGreatDoorBaseE
import Derived.Test.YtanlgnjgpbjebaaGreatDoorBaseF
import Derived.Test.YtanlgnjgpbjebaaGreatDoorBaseG
import Derived.Test.YtanlgnjgpbjebaaGreatDoorBaseH
import Derived.Test.YtanlgnjgpbjebaaGreatDoorBaseI
import Derived.Test.YtanlgnjgpbjebaaGreatDoorBaseJ
import Derived.Test.YtanlgnjgpbjebaaGreatDoorBaseK
import Derived.Test.YtanlgnjgpbjebaaGreatDoorBaseL
import Derived.Test.YtanlgnjgpbjebaaGreatDoorBaseM
import Derived.Deep.RegionHeld3
import Derived.Deep.RegionLaw
import Derived.Outline
import Derived.Deep.DeepCutAuto
import Derived.StillTailTactics
import Derived.Test.YtanlgnjgpbjebaaGreatDoorRows
import Derived.LoopTactic
import Derived.LaidMore
import Derived.LaidLaws
import Derived.HandedShaped
import Derived.Stop.LaidErr
import Derived.Lib.LaidTab
import Derived.IntWalk
import Derived.Deep.LoopGhost
import Derived.Laws.BytesArg
import Derived.Deep.QuietTactic
import Derived.BigQuiet
import Derived.Lib.ItoaLen
import Derived.Lib.QuietBelow
import Derived.Laws.Cover1
import Derived.Ground.SlgnProg
import Derived.Ground.SlgmProg
import Derived.Shelf.SlicesG.Turned
import Derived.Shelf.SlicesG.SearchI
import Derived.Shelf.SlicesG.CompactI
import Derived.Shelf.SlicesG.Cells
import Derived.Shelf.SortM.Plain
import Derived.Shelf.SortM.SortNone
import Derived.Shelf.SlGeneric
import Derived.Test.YtanlgnjgpbjebaaGreatDoorProg
import Derived.Lib.AppendIntMem
import Derived.WalkSmall
import Derived.Deep.Slices
import Derived.Deep.Fields
import Derived.ChangeSame
import Derived.ChangeOld
import Derived.ProofKit
import Derived.Lib.Split
import Derived.Lib.Join
import Derived.Maps.AppendAt
import Derived.Laws.OwnMore
import Derived.OwnWalk
import Derived.Lib.ParseIntB
import Derived.Lib.ItoaNum
import Derived.Lib.Strings
import Derived.Shelf.Strings.Builder1
import Derived.Shelf.Strings.Builder2
import Derived.Shelf.Strings.OnBuilder
import Derived.Shelf.Small.Bits
import Derived.Shelf.Strings.BuilderF
import Derived.Shelf.Strings.BuilderK
import Derived.Shelf.Utf8.RuneCount
import Derived.Shelf.Strings.Builder2Cap
import Derived.Shelf.Strconv.Itoa0
import Derived.Shelf.Strconv.Itoa1
import Derived.Shelf.LaysM
import Derived.Shelf.Strconv.Itoa2
import Derived.Shelf.Strconv.Itoa3
import Derived.Shelf.Strconv.Itoa4
import Derived.Shelf.Strconv.ParseIntEmpty
import Derived.Shelf.Strconv.Clone
import Derived.Shelf.Strconv.SyntaxError
import Derived.Shelf.LaysC
import Derived.Shelf.Strconv.ToError
import Derived.Shelf.Strconv.Lower
import Derived.Shelf.Strconv.ParseUint10
import Derived.Shelf.Strconv.ParseUint10Empty
import Derived.Shelf.Strconv.ParseUint10Any
import Derived.Shelf.Strconv.ParseInt10
import Derived.Shelf.Strconv.RangeError
import Derived.Shelf.Strconv.ToErrorRange
import Derived.Shelf.Strconv.ParseUintEmpty
import Derived.Shelf.Strconv.ParseUint10b64
import Derived.Shelf.Strconv.ParseUint10b32
import Derived.Shelf.Strconv.ParseUint10b16
import Derived.Shelf.Strconv.ParseUint10b8
import Derived.Shelf.Strconv.ParseUint10At
import Derived.Shelf.Strconv.ParseInt10At64
import Derived.Shelf.Strconv.ParseInt10At32
import Derived.Shelf.Strconv.ParseInt10At16
import Derived.Shelf.Strconv.ParseInt10At8
import Derived.Shelf.Strconv.ParseInt10All
import Derived.Shelf.Strconv.ParseIntPublic10
import Derived.Shelf.Strconv.ErrVarParseInt
import Derived.Shelf.Strings.Search1
import Derived.Shelf.Strings.Search2
import Derived.Shelf.Strings.Search3
import Derived.Shelf.Strings.Cut
import Derived.Shelf.Strings.Count
import Derived.Shelf.Strings.Shaped
import Derived.Shelf.Strings.Prefix
import Derived.Shelf.Strings.Split
import Derived.Shelf.Strings.SplitShaped
import Derived.Shelf.Unicode.Decode
import Derived.Shelf.Strings.RuneCount
import Derived.Shelf.Strings.Explode
import Derived.Shelf.Bits.Mul64
import Derived.Shelf.Unicode.DecodeSlow
import Derived.Shelf.Unicode.DecodeAny
import Derived.Shelf.SlicesG.Clone
import Derived.Shelf.SlicesE.Clone
import Derived.Ground.SlgcProg
import Derived.Shelf.SlicesG.Cmp
import Derived.WalkKit
import Derived.OpenShut
import Derived.Handy
import Derived.Below
import Derived.Deep.Draws
import Derived.Laws.MakeOwn
import Derived.WalkSpells
import Derived.OneCell
import Derived.RegionTactic
import Derived.ChangeAlike
import Derived.StillTail
import Derived.OrdersHeld
import Derived.Maps.OwnSet
import Derived.Maps.Views
import Derived.ArgAppend
import Derived.Laws.Cover3
import Derived.Deep.CutBlock
import Derived.Deep.CutRange
import Derived.Laws.CopyOwn
import Derived.Laws.Bits64b
set_option linter.unusedVariables false
set_option linter.unusedSimpArgs false
set_option linter.unusedSimpArgs false
set_option linter.unusedVariables false
namespace Go.Proofs.YtanlgnjgpbjebaaGreatDoor
set_option linter.unusedVariables false
set_option linter.unusedSimpArgs false

section
variable {f : DN} {d : DL}
/-- The game of a fixed point's body, where its variable stands for a set. -/
theorem gameOf_some (hv : ValF f) (hd : SysOk d) (ρ : EnvS) (s : List Bool) {a : Tr} (hT : treeF f = .one a) (h0 : isFx (qF f 0) = true) : GameOf (sysF f d) a 1 (upE ρ (vF f 0) s) 1 (gameF f d (some s)) := by
  obtain ⟨hA, hs⟩ := treeF_is hv.shape
  rw [hT] at hA hs
  simp only [Tr.size] at hs
  have hbnd : ∀ j, 1 ≤ j → j < 1 + a.size → bindF f j = match bndT (sysF f d) a 1 j with | some i => some i | none => if vF f 0 = vF f j then some 0 else none := fun j h1 h2 => by
    have hb := bnd_bind hv.shape (sysF f d) rfl rfl (k := j) (by omega)
    rw [hT] at hb
    rw [← hb]
    conv => lhs; unfold bndT
    rw [if_neg (by omega), Nat.zero_add]
    cases bndT (sysF f d) a 1 j with
    | some i => rfl
    | none =>
      show (if isFx (qF f 0) = true ∧ vF f 0 = vF f j then some 0 else none) = _
      rw [h0]
      simp
  have hzero : ∀ j, 1 ≤ j → j < 1 + a.size → qF f j = 6 → (bindF f j = some 0 ↔ bndT (sysF f d) a 1 j = none) ∧ (bndT (sysF f d) a 1 j = none → vF f j = vF f 0) := fun j h1 h2 h6 => by
    have hn := hv.bound j (by omega) h6
    have hb := hbnd j h1 h2
    cases hc : bndT (sysF f d) a 1 j with
    | some i =>
      rw [hc] at hb
      have := (bnd_fx hc).2
      refine ⟨⟨fun c => ?_, fun c => by cases c⟩, fun c => by cases c⟩
      rw [hb] at c
      cases c
      omega
    | none =>
      rw [hc] at hb
      dsimp only at hb
      by_cases hvv : vF f 0 = vF f j
      · rw [if_pos hvv] at hb
        exact ⟨⟨fun _ => rfl, fun _ => hb⟩, fun _ => hvv.symm⟩
      · rw [if_neg hvv] at hb
        exact absurd hb hn
  have hdep : ∀ j, 1 ≤ j → j < 1 + a.size → nestF f j + (if isFx (qF f j) then 1 else 0) = 1 + depT (sysF f d) a 1 j := fun j h1 h2 => by
    have := dep_nest hv.shape (sysF f d) rfl (k := j) (by omega)
    rw [hT] at this
    rw [← this]
    conv => lhs; unfold depT
    rw [if_pos (show isFx ((sysF f d).q 0) = true from h0), if_neg (show ¬ j = 0 by omega)]
  refine ⟨fun j _ hj => hv.kind j (by omega), by have := hA.2; rwa [Nat.zero_add] at this, fun j x y _ h => sysF_sc hd j x y h, by have := hv.len; omega, by rw [gameF_len, ← hs, Nat.add_comm 1]; exact Nat.le_refl _, ?_, ?_, ?_⟩
  · intro j x h1 hj hx
    change x < d.1.toNat at hx
    show gOwn (gameF f d (some s)) (j * d.1.toNat + x) = _
    rw [(gameF_own (d := d) (set := (some s)) (by omega) hx).1]
    unfold ownF ownT
    dsimp only
    show _ = if qF f j = 0 ∨ qF f j = 2 ∨ qF f j = 5 then 1 else if qF f j = 6 ∧ _ then _ else 0
    by_cases h6 : qF f j = 6
    · obtain ⟨z1, z2⟩ := hzero j h1 hj h6
      by_cases hb : bindF f j = some 0
      · have hb2 := z1.1 hb
        have hu : upE ρ (vF f 0) s ((sysF f d).v j) = s := by unfold upE; rw [if_pos (show (sysF f d).v j = vF f 0 from z2 hb2)]
        simp [h6, hb, hb2, hu]
      · have hb2 : ¬ bndT (sysF f d) a 1 j = none := fun c => hb (z1.2 c)
        simp [h6, hb, hb2]
    · simp [h6]
  · intro j x h1 hj hx
    change x < d.1.toNat at hx
    show gPri (gameF f d (some s)) (j * d.1.toNat + x) = _
    rw [(gameF_own (d := d) (set := (some s)) (by omega) hx).2, ← hdep j h1 hj]
    unfold priF
    show _ = if isFx (qF f j) = true then _ else _
    split
    · show _ = 2 * _ - 2 + if qF f j = 7 then 1 else 0
      omega
    · rfl
  · intro j x u h1 hj hx
    change x < d.1.toNat at hx
    show u ∈ gNxt (gameF f d (some s)) (j * d.1.toNat + x) ↔ ∃ m, m ∈ movT (sysF f d) a 1 j x ∧ u = m.1 * d.1.toNat + m.2
    rw [gameF_nxt hv hd (by omega) hx]
    by_cases hq : qF f j = 6
    · obtain ⟨z1, z2⟩ := hzero j h1 hj hq
      have hb := hbnd j h1 hj
      have hq' : (sysF f d).q j = 6 := hq
      unfold rawF movT
      rw [if_neg (by unfold isMod; rw [hq]; decide), if_pos hq, if_neg (c := (sysF f d).q j = 2 ∨ _) (by omega), if_neg (c := (sysF f d).q j = 4 ∨ _) (by omega), if_neg (c := (sysF f d).q j = 7 ∨ _) (by omega), if_pos hq']
      cases hc : bndT (sysF f d) a 1 j with
      | none =>
        rw [if_pos ⟨rfl, z1.2 hc⟩]
        simp
      | some i =>
        rw [hc] at hb
        rw [if_neg (by rintro ⟨-, c⟩; rw [hb] at c; cases c; have := (bnd_fx hc).2; omega), hb]
        simp only [List.mem_singleton]
        constructor
        · intro h
          exact ⟨_, rfl, (cast_code hd).1 h⟩
        · rintro ⟨m, rfl, e⟩
          exact (cast_code hd).2 e
    · refine raw_mov hv hd (some s) (by omega) hq _ _ (fun h => ?_)
      rw [← sec_end hv.shape (by omega) h, hT]
      have e : subT (.one a) 0 j = subT a 1 j := by
        conv => lhs; unfold subT
        rw [if_neg (by omega), Nat.zero_add]
      unfold secT
      rw [e]
/-- What the body of the first node makes of a set. -/
noncomputable def semB (f : DN) (d : DL) (s : List Bool) : List Bool := sem (sysF f d) (subT (treeF f) 0 1) 1 (upE (fun _ => []) (vF f 0) s)
theorem fx_tree (hv : ValF f) (h0 : isFx (qF f 0) = true) : ∃ a, treeF f = .one a ∧ subT (treeF f) 0 1 = a := by
  obtain ⟨hA, hs⟩ := treeF_is hv.shape
  have ha := arity_fx h0
  cases hT : treeF f with
  | leaf => rw [hT] at hA; rw [show arityQ (qF f 0) = 0 from hA] at ha; cases ha
  | two a b => rw [hT] at hA; rw [show arityQ (qF f 0) = 2 from hA.1] at ha; cases ha
  | one a =>
    refine ⟨a, rfl, ?_⟩
    unfold subT
    rw [if_neg (by omega), Nat.zero_add, subT_self]
theorem won_some (hv : ValF f) (hd : SysOk d) (h0 : isFx (qF f 0) = true) (s : List Bool) {x : Nat} (hx : x < d.1.toNat) : wonI (gameF f d (some s)) (1 * d.1.toNat + x) = if inS (semB f d s) x then 0 else 1 := by
  obtain ⟨a, hT, hsub⟩ := fx_tree hv h0
  have hb := game_big hv hd (some s)
  have h := (gameOf_some hv hd (fun _ => []) s hT h0).won hb.owned (fun v u h => (hb.nxt v).2 u h) (j := 1) (x := x) (Nat.le_refl 1) (by have := a.size_pos; omega) hx
  rw [subT_self, envT_self] at h
  refine wonI_of ?_
  unfold semB
  rw [hsub]
  exact h
theorem semB_len (s : List Bool) : (semB f d s).length = d.1.toNat := sem_len _ _ _ _
end
end Go.Proofs.YtanlgnjgpbjebaaGreatDoor

namespace Go.Proofs.YtanlgnjgpbjebaaGreatDoor
set_option linter.unusedVariables false
set_option linter.unusedSimpArgs false

section
variable {M : Sy}
/-- Sets with the same members do for each other. -/
theorem sem_same {T : Tr} {k : Nat} {ρ ρ' : EnvS} (h : ∀ u x, inS (ρ u) x = inS (ρ' u) x) : sem M T k ρ = sem M T k ρ' :=
  leS_anti (b := true) (by rw [sem_len, sem_len]) (sem_mono M T k fun u x hx => by simp only [if_true] at hx ⊢; rwa [h] at hx) (sem_mono M T k fun u x hx => by simp only [if_true] at hx ⊢; rwa [h])
theorem inS_none (n x : Nat) : inS (setOf n fun _ => false) x = inS [] x := by rw [inS_setOf, Bool.and_false]; simp [inS]
end

/-! The approximants of a formula that begins with a fixed point -/
section
variable {f : DN} {d : DL}
/-- The approximants. -/
noncomputable def apN (f : DN) (d : DL) (j : Nat) : List Bool := apF d.1.toNat (decide (qF f 0 = 7)) (semB f d) j
theorem apN_succ (j : Nat) : apN f d (j + 1) = semB f d (apN f d j) := rfl
theorem apN_len (j : Nat) : (apN f d j).length = d.1.toNat := apF_len (fun s => semB_len s) j
theorem semB_mono : ∀ s t, leS true s t → leS true (semB f d s) (semB f d t) := bodyF_mono (sysF f d) (subT (treeF f) 0 1) 0 (fun _ => [])
theorem apN_up (j : Nat) : leS (decide (qF f 0 = 7)) (apN f d j) (apN f d (j + 1)) := apF_up (fun s => semB_len s) semB_mono j
/-- The approximants are new up to here. -/
def NewTo (f : DN) (d : DL) (m : Nat) : Prop := ∀ i, i < m → apN f d (i + 1) ≠ apN f d i
theorem NewTo.le {m : Nat} (h : NewTo f d m) : m ≤ d.1.toNat := by
  obtain ⟨n, hn, he⟩ := apF_stop (b := decide (qF f 0 = 7)) (F := semB f d) (fun s => semB_len s) semB_mono
  rcases Nat.lt_or_ge n m with h1 | h1
  · exact absurd he (h n h1)
  · omega
theorem NewTo.next {m : Nat} (h : NewTo f d m) (hn : apN f d (m + 1) ≠ apN f d m) : NewTo f d (m + 1) := fun i hi => by
  by_cases e : i = m
  · subst e; exact hn
  · exact h i (by omega)
def IsCls (f : DN) (d : DL) (m : Nat) : Prop := NewTo f d m ∧ apN f d (m + 1) = apN f d m
open Classical in
/-- The first approximant that is equal to the next one. -/
noncomputable def clsN (f : DN) (d : DL) : Nat := if h : ∃ m, IsCls f d m then Classical.choose h else 0
theorem clsN_of {m : Nat} (h1 : NewTo f d m) (h2 : apN f d (m + 1) = apN f d m) : clsN f d = m := by
  have hex : ∃ m, IsCls f d m := ⟨m, h1, h2⟩
  have hs := Classical.choose_spec hex
  unfold clsN
  rw [dif_pos hex]
  generalize Classical.choose hex = q at *
  rcases Nat.lt_trichotomy q m with e | e | e
  · exact absurd hs.2 (h1 q e)
  · exact e
  · exact absurd h2 (hs.1 m e)
end

end Go.Proofs.YtanlgnjgpbjebaaGreatDoor

namespace Go.Proofs.YtanlgnjgpbjebaaGreatDoor
open Go.ChangeShapes Go.WideShapes Go.ChangeAt Go.RowKit
set_option linter.unusedVariables false
set_option linter.unusedSimpArgs false

abbrev HB := Option Addr × Nat
def hbV (N : Nat) (x : HB) : List Value := [.slice x.1 N x.2]
theorem flat_hbV (N : Nat) : Flat (hbV N) 1 := ⟨fun _ => rfl, fun x u h => by simp [hbV] at h; subst h; rfl⟩
/-- Rows of N bools; the row of their handles is the call's own. -/
structure GrowB (w : World) (base N : Nat) (A : Option Addr) (n c : Nat) (R : List (HB × List Bool)) : Prop where
  own : Own 1 (hbV N) w base 65 A n c (R.map (·.1))
  rows : ∀ r ∈ R, SlB w base w.heap.size r.1.1 N r.2
  off : ∀ r ∈ R, 0 < N → ∀ b off, r.1.1 = some ⟨b, off, none⟩ → (Value.slice A n c).ownBlock ≠ some b
section
variable {w w4 w5 w' : World} {base N n c : Nat} {A : Option Addr} {R : List (HB × List Bool)}
theorem GrowB.len (h : GrowB w base N A n c R) : R.length = n := by have := h.own.len; rwa [List.length_map] at this
theorem GrowB.nil_ (w : World) (base N : Nat) : GrowB w base N none 0 0 [] := ⟨Own.nil_ _ _ _, fun _ h => (List.not_mem_nil h).elim, fun _ h => (List.not_mem_nil h).elim⟩
/-- The blocks from base on stay. -/
theorem GrowB.keep (h : GrowB w base N A n c R) (hs : w.heap.size ≤ w'.heap.size) (hk : ∀ b, base ≤ b → b < w.heap.size → w'.heap[b]? = w.heap[b]?) : GrowB w' base N A n c R :=
  ⟨h.own.keep fun g hg => hk g (h.own.lt g hg).1 (h.own.lt g hg).2, fun r hr => ((h.rows r hr).keep hs fun b h1 _ h3 => hk b h1 h3).more (Nat.le_refl _) hs, h.off⟩
theorem GrowB.below (h : GrowB w base N A n c R) (hb : Below w.heap.size w w') : GrowB w' base N A n c R := h.keep hb.size fun b _ h2 => hb.block b h2
theorem GrowB.but {T : Nat → Prop} (h : GrowB w base N A n c R) (hb : But T w w') (hT : ∀ x, T x → x < base) : GrowB w' base N A n c R :=
  h.keep hb.size fun b h1 h2 => hb.block b h2 fun ht => by have := hT b ht; omega
/-- A first row. -/
theorem GrowB.one {Ah : Option Addr} {ch : Nat} {s : List Bool} (hs : SlB w base w.heap.size Ah N s) (hb : base ≤ w.heap.size) : GrowB (w.alloc (.cells #[.slice Ah N ch] 65)) base N (some ⟨w.heap.size, 0, none⟩) 1 1 [((Ah, ch), s)] := by
  have hbel : Below w.heap.size w (w.alloc (.cells #[.slice Ah N ch] 65)) := (Below.refl _ _).alloc (Nat.le_refl _) _
  refine ⟨⟨rfl, by simp [hbV], .inr ⟨w.heap.size, 1, #[.slice Ah N ch], rfl, hb, heap_alloc_new w _, Nat.le_refl _, by decide, rfl, rfl⟩⟩, fun r hr => ?_, fun r hr hN b off e => ?_⟩
  · obtain rfl := List.mem_singleton.1 hr
    exact (hs.below hbel (.inr (Nat.le_refl _))).more (Nat.le_refl _) hbel.size
  · obtain rfl := List.mem_singleton.1 hr
    obtain ⟨b', off', e', -, -, g3, -⟩ := hs.at_ hN
    have e : Ah = _ := e
    rw [e] at e'
    cases e'
    intro e2
    have e2 : some w.heap.size = some b := e2
    injection e2 with e2
    omega
/-- A further row. -/
theorem GrowB.push (h : GrowB w4 base N A n c R) {Ah : Option Addr} {ch : Nat} {s : List Bool} (hs : SlB w4 base w4.heap.size Ah N s) (ho : ∀ b off, 0 < N → Ah = some ⟨b, off, none⟩ → (Value.slice A n c).ownBlock ≠ some b)
    {A5 : Option Addr} {c5 : Nat} (hown : Own 1 (hbV N) w5 base 65 A5 (n + 1) c5 (R.map (·.1) ++ [(Ah, ch)])) (hgr : w4.grownBy w5 (Value.slice A n c).ownBlock)
    (hat : (Value.slice A5 (n + 1) c5).ownBlock = (Value.slice A n c).ownBlock ∨ (Value.slice A5 (n + 1) c5).ownBlock = some w4.heap.size) :
    GrowB w5 base N A5 (n + 1) c5 (R ++ [((Ah, ch), s)]) := by
  have hz5 := hgr.size
  have keepS : ∀ (B : Option Addr) (l : List Bool), SlB w4 base w4.heap.size B N l → (∀ b off, 0 < N → B = some ⟨b, off, none⟩ → (Value.slice A n c).ownBlock ≠ some b) → SlB w5 base w5.heap.size B N l := by
    intro B l hl hne
    refine ⟨hl.1, fun hm => ?_⟩
    obtain ⟨b, off, rfl, g1, g2, g3, hc⟩ := hl.2 hm
    have hk := hgr.block b g3 (fun e => hne b off hm rfl e.symm)
    refine ⟨b, off, rfl, g1, by omega, by omega, fun k x hx j u hu => ?_⟩
    obtain ⟨h1, h2⟩ := hc k x hx j u hu
    exact ⟨(World.cell?_of_block (w := w4) (by simpa using hk)).trans h1, (World.frozen?_of_block (w := w4) (by simpa using hk)).trans h2⟩
  have hoff : ∀ (B : Option Addr) (l : List Bool), SlB w4 base w4.heap.size B N l → (∀ b off, 0 < N → B = some ⟨b, off, none⟩ → (Value.slice A n c).ownBlock ≠ some b) → ∀ b off, 0 < N → B = some ⟨b, off, none⟩ → (Value.slice A5 (n + 1) c5).ownBlock ≠ some b := by
    intro B l hl hne b off hN e
    rcases hat with h1 | h1
    · rw [h1]; exact hne b off hN e
    · rw [h1]
      obtain ⟨b', off', e', -, -, g3, -⟩ := hl.at_ hN
      rw [e] at e'
      cases e'
      intro e2
      injection e2 with e2
      omega
  refine ⟨by rw [List.map_append]; exact hown, fun r hr => ?_, fun r hr hm b off e => ?_⟩
  · rcases List.mem_append.1 hr with hr | hr
    · exact keepS _ _ (h.rows r hr) fun b off hm e => h.off r hr hm b off e
    · obtain rfl := List.mem_singleton.1 hr
      exact keepS _ _ hs ho
  · rcases List.mem_append.1 hr with hr | hr
    · exact hoff _ _ (h.rows r hr) (fun b off hm e => h.off r hr hm b off e) b off hm e
    · obtain rfl := List.mem_singleton.1 hr
      exact hoff _ _ hs ho b off hm e
/-- Row k. -/
theorem GrowB.get (h : GrowB w base N A n c R) {k : Nat} (hk : k < n) : ∃ b off Ah ch s, A = some ⟨b, off, none⟩ ∧ base ≤ b ∧ b < w.heap.size ∧ R[k]? = some ((Ah, ch), s) ∧ w.cell? ⟨b, off + k, none⟩ = some (.slice Ah N ch) ∧ SlB w base w.heap.size Ah N s ∧
    ∀ b off, 0 < N → Ah = some ⟨b, off, none⟩ → (Value.slice A n c).ownBlock ≠ some b := by
  have hl := h.len
  obtain ⟨b, off, e, g1, g2, g3, hc⟩ := (h.own.sl (flat_hbV N)).at_ (by omega)
  have hr : R[k]? = some R[k] := List.getElem?_eq_getElem (by omega)
  have hm : R[k] ∈ R := List.getElem_mem _
  have h0 := (hc k R[k].1 (by rw [List.getElem?_map, hr]; rfl) 0 _ rfl).1
  rw [Nat.mul_one, Nat.add_zero] at h0
  exact ⟨b, off, R[k].1.1, R[k].1.2, R[k].2, e, g1, g3, hr, h0, h.rows _ hm, fun b off hN e => h.off _ hm hN b off e⟩
/-- The blocks of the row of handles. -/
def ownP (A : Option Addr) (n c : Nat) (b : Nat) : Prop := (Value.slice A n c).ownBlock = some b
theorem GrowB.has (h : GrowB w base N A n c R) {k : Nat} {Ah : Option Addr} {ch : Nat} {s : List Bool} (hk : R[k]? = some ((Ah, ch), s)) (hN : N ≤ 1048576) {T : Nat → Prop} (hT : ∀ x, T x → ownP A n c x ∨ x < base) : HasB T w (.slice Ah N ch) s := by
  have hm : ((Ah, ch), s) ∈ R := List.mem_of_getElem? hk
  refine ⟨Ah, N, ch, rfl, hN, (h.rows _ hm).more (Nat.zero_le _) (Nat.le_refl _), fun a ha h0 ht => ?_⟩
  obtain ⟨b, off, e, g1, -⟩ := (h.rows _ hm).at_ h0
  have e : Ah = _ := e
  rw [ha] at e
  cases e
  rcases hT _ ht with e1 | e1
  · exact h.off _ hm h0 b off ha e1
  · have e1 : b < base := e1
    omega
end

end Go.Proofs.YtanlgnjgpbjebaaGreatDoor

namespace Go.Proofs.YtanlgnjgpbjebaaGreatDoor
open Go.ChangeShapes Go.WideShapes Go.ChangeAt Go.RowKit
set_option linter.unusedVariables false
set_option linter.unusedSimpArgs false

noncomputable def fstC (f : DN) (d : DL) : Int := if frmC f d = 0 then (if isFx (qF f 0) = true then 0 else 6) else frmC f d
theorem l21First_calls (Af : Option Addr) (n cf bt : Nat) (f : DN) (x : CL) (d : DL) (w : World) (h : SlN w 0 w.heap.size Af n f) (ht : totN f ≤ 1048576) (hl : LtsAt w bt x d) :
    Calls Tryz.prog 60 #[.slice Af n cf, .pointer (some ⟨bt, 0, none⟩)] w fun e w' => e = .returned (.int .i64 (fstC f d)) ∧ Below w.heap.size w w' := by
  have q1 := l21Ask_calls Af n cf bt f x d w h ht hl
  by_cases hc : frmC f d = 0
  · have hlen := h.len
    have hn := (frmC_ok hc).1.len
    obtain ⟨b, off, q, y, s, z, rfl, -, -, g3, hx, c0, -, -, -⟩ := SlN.get h (k := 0) (by omega)
    have c0' : w.cell? ⟨b, off, none⟩ = some (.int .i64 q) := by simpa using c0
    have hq : qF f 0 = q := qF_at hx
    have qF1 := hide (fun W (hW : Below w.heap.size w W) => l19Fixed_calls b off q W ((hW.cell (p := ⟨b, off, none⟩) g3).trans c0'))
    rw [hc] at q1
    replace q1 := hide q1
    have hn0 : (0 : Int) < (n : Int) := by omega
    cases hf : isFx q with
    | true =>
      have hv : Hid (fstC f d = 0) := by show _ = _; unfold fstC; rw [if_pos hc, if_pos (by rw [hq]; exact hf)]
      rw [hf] at qF1
      rw [hv.out]
      clear h hl hc hx hq hf hv c0
      go_enter Tryz.func60, Tryz.ntmps60
      go_wp2_with (first | (go_at_call 45; (with_reducible refine q1.out.mono ?_); rintro e w1 ⟨rfl, hb1⟩; have q3 := hide (qF1.out w1 hb1)) | (go_at_call 80; (with_reducible refine q3.out.mono ?_); rintro e w2 ⟨rfl, rfl⟩))
      go_ret
      exact ⟨rfl, hb1⟩
    | false =>
      have hv : Hid (fstC f d = 6) := by show _ = _; unfold fstC; rw [if_pos hc, if_neg (by rw [hq, hf]; decide)]
      rw [hf] at qF1
      rw [hv.out]
      clear h hl hc hx hq hf hv c0
      go_enter Tryz.func60, Tryz.ntmps60
      go_wp2_with (first | (go_at_call 45; (with_reducible refine q1.out.mono ?_); rintro e w1 ⟨rfl, hb1⟩; have q3 := hide (qF1.out w1 hb1)) | (go_at_call 80; (with_reducible refine q3.out.mono ?_); rintro e w2 ⟨rfl, rfl⟩))
      go_ret
      exact ⟨rfl, hb1⟩
  · have hv : Hid (fstC f d = frmC f d) := by show _ = _; unfold fstC; rw [if_neg hc]
    rw [hv.out]
    generalize frmC f d = oc at *
    have hcb : (oc == 0) = false := by rw [beq_eq_false_iff_ne]; exact hc
    replace q1 := hide q1
    clear h hl hv
    go_enter Tryz.func60, Tryz.ntmps60
    go_wp2_with (first | (go_at_call 45; (with_reducible refine q1.out.mono ?_); rintro e w1 ⟨rfl, hb1⟩))
    go_ret
    exact ⟨rfl, hb1⟩

end Go.Proofs.YtanlgnjgpbjebaaGreatDoor

namespace Go.Proofs.YtanlgnjgpbjebaaGreatDoor
open Go.ChangeShapes Go.WideShapes Go.ChangeAt Go.RowKit
set_option linter.unusedVariables false
set_option linter.unusedSimpArgs false

theorem wonS_some {f : DN} {N : Nat} {ini : Int} {ls : List ByteArray} {es : List Ed} (hv : ValF f) (h : ltsV ((N : Int), ini, ls, es) = true) (h0 : isFx (qF f 0) = true) (s : List Bool) : wonS f ((N : Int), ini, ls, es) (some s) 1 = semB f ((N : Int), ini, ls, es) s := by
  refine setOf_self (semB_len s) fun x hx => ?_
  rw [won_some hv (sysOk_of h) h0 s hx]
  cases inS (semB f ((N : Int), ini, ls, es) s) x <;> rfl
end Go.Proofs.YtanlgnjgpbjebaaGreatDoor

namespace Go.Proofs.YtanlgnjgpbjebaaGreatDoor
open Go.ChangeShapes Go.WideShapes Go.ChangeAt Go.RowKit
set_option linter.unusedVariables false
set_option linter.unusedSimpArgs false

/-- Since the world wb: boxes p and q with what lies in them, lists r and s of N bools. -/
structure DifW (wb w : World) (N : Nat) (p q : Option (Nat × Value)) (r s : Option (HB × List Bool)) : Prop where
  below : Below wb.heap.size wb w
  hp : ∀ b v, p = some (b, v) → wb.heap.size ≤ b ∧ w.heap[b]? = some (.cells #[v] 65 (0, 0))
  hq : ∀ b v, q = some (b, v) → wb.heap.size ≤ b ∧ w.heap[b]? = some (.cells #[v] 65 (0, 0))
  ne : ∀ b v b' v', p = some (b, v) → q = some (b', v') → b ≠ b'
  hr : ∀ A c l, r = some ((A, c), l) → SlB w wb.heap.size w.heap.size A N l ∧ ∀ b off, 0 < N → A = some ⟨b, off, none⟩ → (∀ v, p ≠ some (b, v)) ∧ ∀ v, q ≠ some (b, v)
  hs : ∀ A c l, s = some ((A, c), l) → SlB w wb.heap.size w.heap.size A N l ∧ ∀ b off, 0 < N → A = some ⟨b, off, none⟩ → (∀ v, p ≠ some (b, v)) ∧ ∀ v, q ≠ some (b, v)
section
variable {wb w w' : World} {N : Nat} {p q : Option (Nat × Value)} {r s : Option (HB × List Bool)}
theorem DifW.start (wb : World) (N : Nat) : DifW wb wb N none none none none :=
  ⟨Below.refl _ _, fun _ _ h => (by cases h), fun _ _ h => (by cases h), fun _ _ _ _ h => (by cases h), fun _ _ _ h => (by cases h), fun _ _ _ h => (by cases h)⟩
theorem DifW.drew (h : DifW wb w N p q r s) : DifW wb w.drew N p q r s := ⟨h.below.drew, h.hp, h.hq, h.ne, h.hr, h.hs⟩
theorem DifW.keep (h : DifW wb w N p q r s) (hb : Below w.heap.size w w') : DifW wb w' N p q r s := by
  have hz := h.below.size
  refine ⟨h.below.trans (hb.mono hz), fun b v e => ?_, fun b v e => ?_, h.ne, fun A c l e => ?_, fun A c l e => ?_⟩
  · have := h.hp b v e; exact ⟨this.1, (hb.block b (Array.getElem?_eq_some_iff.1 this.2).1).trans this.2⟩
  · have := h.hq b v e; exact ⟨this.1, (hb.block b (Array.getElem?_eq_some_iff.1 this.2).1).trans this.2⟩
  · have := h.hr A c l e; exact ⟨(this.1.below hb (.inr (Nat.le_refl _))).more (Nat.le_refl _) hb.size, this.2⟩
  · have := h.hs A c l e; exact ⟨(this.1.below hb (.inr (Nat.le_refl _))).more (Nat.le_refl _) hb.size, this.2⟩
end
end Go.Proofs.YtanlgnjgpbjebaaGreatDoor

namespace Go.Proofs.YtanlgnjgpbjebaaGreatDoor
open Go.ChangeShapes Go.WideShapes Go.ChangeAt Go.RowKit
set_option linter.unusedVariables false
set_option linter.unusedSimpArgs false

theorem RunAt.grow {w w' : World} {P P' : Nat → Prop} {br bE bS bC cE cf bt N : Nat} {Af : Option Addr} {f : DN} {ρ : EnvS} {sv cl : Tab} (h : RunAt w P br bE bS bC cE Af cf f bt N ρ sv cl) (hb : But P w w') (hP : ∀ b, P' b → P b ∨ w.heap.size ≤ b) (hv : ∀ b, P' b → b < w'.heap.size) :
    RunAt w' P' br bE bS bC cE Af cf f bt N ρ sv cl := by
  have hR : ∀ b, RunP (fun b => P b ∨ P' b) bE bS bC b → RunP P bE bS bC b ∨ w.heap.size ≤ b := fun b hb => by
    rcases hb with (e | e) | e
    · exact .inl (.inl e)
    · rcases hP b e with e | e
      · exact .inl (.inl e)
      · exact .inr e
    · exact .inl (.inr e)
  have hW : ∀ b, RunP P' bE bS bC b → RunP (fun b => P b ∨ P' b) bE bS bC b ∨ w'.heap.size ≤ b := fun b hb => by
    rcases hb with e | e
    · exact .inl (.inl (.inr e))
    · exact .inl (.inr e)
  obtain ⟨p0, p1, p2, p3⟩ := h.pn
  have z0 := (Array.getElem?_eq_some_iff.1 h.cells).1
  have hn : ∀ b, ¬ P b → b < w.heap.size → ¬ P' b := fun b h1 h2 h3 => by
    rcases hP b h3 with e | e
    · exact h1 e
    · omega
  have hT : ∀ x, P x → RunP (fun b => P b ∨ P' b) bE bS bC x := fun x e => .inl (.inl e)
  exact ⟨hb.kept h.cells p0, ((h.env.re hR).but hb hT p1).re hW, ((h.sav.re hR).but hb hT p2).re hW, ((h.clo.re hR).but hb hT p3).re hW, h.el, h.sl, h.kl, hv, ⟨hn _ p0 z0, hn _ p1 h.env.lt, hn _ p2 h.sav.lt, hn _ p3 h.clo.lt⟩, h.ne⟩
/-- The sets of the variables at the start. -/
def rho0 (N : Nat) : EnvS := fun _ => setOf N fun _ => false
theorem body_rho0 {f : DN} {d : DL} {a : Tr} (ha : subT (treeF f) 0 1 = a) (X : List Bool) : bodyF (sysF f d) a 0 (rho0 d.1.toNat) X = semB f d X := by
  unfold bodyF semB
  rw [ha]
  refine sem_same fun u x => ?_
  show inS (upE (rho0 d.1.toNat) (vF f 0) X u) x = inS (upE (fun _ => []) (vF f 0) X u) x
  unfold upE
  by_cases e : u = vF f 0
  · rw [if_pos e, if_pos e]
  · rw [if_neg e, if_neg e]
    exact inS_none _ _
theorem ap_zero {f : DN} {d : DL} (h0 : isFx (qF f 0) = true) : apN f d 0 = whlS d.1.toNat (qF f 0 == 8) := by
  show whlS _ (!decide (qF f 0 = 7)) = _
  congr 1
  unfold isFx at h0
  simp only [Bool.or_eq_true, decide_eq_true_eq] at h0
  rcases h0 with e | e <;> rw [e] <;> rfl
/-- What the rounds keep. -/
structure RndW (w wr : World) (B : Nat) (br bE bS bC cE : Nat) (Af : Option Addr) (cf : Nat) (f : DN) (bt N : Nat) (d : DL) (a : Tr) (j : Nat) (A : Option Addr) (c : Nat) (R : List (HB × List Bool)) (sv cl : Tab) : Prop where
  grow : GrowB wr B N A (j + 1) c R
  vals : R.map (·.2) = (List.range (j + 1)).map (apN f d)
  new : NewTo f d j
  run : RunAt wr (ownP A (j + 1) c) br bE bS bC cE Af cf f bt N (rho0 N) sv cl
  pre : PreR (sysF f d) sv cl a 1 (upE (rho0 N) (vF f 0) (apN f d j)) (qF f 0)
  below : Below w.heap.size w wr
theorem PreR.step {M : Sy} {sv cl sv' cl' : Tab} {a : Tr} {k : Nat} {ρ : EnvS} {v : Int} {X Y : List Bool} {q : Int} (h : PostR M sv cl sv' cl' a k (upE ρ v X) q) (hl : leS (decide (q = 7)) X Y) : PreR M sv' cl' a k (upE ρ v Y) q :=
  ⟨h.all.ok.mono fun u => upE_sub (fun u => leS_refl _ _) v hl u, h.clo⟩
theorem GrowB.lower {w : World} {base base' N n c : Nat} {A : Option Addr} {R : List (HB × List Bool)} (h : GrowB w base N A n c R) (hb : base' ≤ base) : GrowB w base' N A n c R :=
  ⟨h.own.lower hb, fun r hr => (h.rows r hr).more hb (Nat.le_refl _), h.off⟩
def lenV (v : Value) : Nat := match v with | .slice _ n _ => n | _ => 0
set_option maxRecDepth 100000 in
set_option maxHeartbeats 6400000 in
theorem l21Rounds_calls (Af : Option Addr) (n cf bt N : Nat) (f : DN) (x : CL) (ini : Int) (ls : List ByteArray) (es : List Ed) (w : World) (h : SlN w 0 w.heap.size Af n f) (ht : totN f ≤ 1048576) (hv : ValF f) (h0 : isFx (qF f 0) = true) (hl : LtsAt w bt x ((N : Int), ini, ls, es)) (hlv : ltsV ((N : Int), ini, ls, es) = true) :
    Calls Tryz.prog 61 #[.slice Af n cf, .pointer (some ⟨bt, 0, none⟩)] w fun e w' => ∃ A' c' R, e = .returned (.slice A' (clsN f ((N : Int), ini, ls, es) + 1) c') ∧ GrowB w' w.heap.size N A' (clsN f ((N : Int), ini, ls, es) + 1) c' R ∧ R.map (·.2) = (List.range (clsN f ((N : Int), ini, ls, es) + 1)).map (apN f ((N : Int), ini, ls, es)) ∧ clsN f ((N : Int), ini, ls, es) ≤ N ∧ Below w.heap.size w w' := by
  have hlen := h.len
  subst hlen
  have hD : RunD w Af f bt x N ini ls es := ⟨h, ht, hv, hl, hlv⟩
  have hN := hD.N40
  obtain ⟨a, hTr, hsub⟩ := fx_tree hv h0
  have hP : PartF f (.one a) 0 := ⟨by have := hv.len; omega, by rw [subT_self]; exact hTr⟩
  have hP1 : PartF f a 1 := (hP.one hv.shape).1
  have qB := hide (l21Begin_calls Af f.length cf bt N f x ini ls es w rfl hv.len (by omega) hl)
  obtain ⟨b, off, q, y, s, z, rfl, -, -, g3, hx, c0, -, -, -⟩ := SlN.get h (k := 0) (by have := hv.len; omega)
  have c0' : w.cell? ⟨b, off, none⟩ = some (.int .i64 q) := by simpa using c0
  have hq : qF f 0 = q := qF_at hx
  have hn0 : (0 : Int) < (f.length : Int) := by have := hv.len; omega
  have hn0' : 0 < f.length := by have := hv.len; omega
  have hap0 := ap_zero (d := ((N : Int), ini, ls, es)) h0
  rw [hq] at hap0
  have hbd := hide (fun (X : List Bool) => body_rho0 (d := ((N : Int), ini, ls, es)) hsub X)
  replace hap0 := hide hap0
  have hl' := hide hl
  replace hD := hide hD
  replace hq := hide hq
  clear h ht hl hlv c0 hx
  go_enter Tryz.func61, Tryz.ntmps61
  go_wp2_with (first
    | (go_at_call 70; (with_reducible refine qB.out.mono ?_); rintro e w1 ⟨br, bE, bS, bC, cE, rfl, hr, hb1, hba⟩; have c01 := (hb1.cell (p := ⟨b, off, none⟩) g3).trans c0'; have qW := hide (l21Whole_calls bt x N ini ls es (q == 8) w1 (hl'.out.below hb1 (Nat.le_refl _)) (by omega)); replace hr := hide hr; replace hb1 := hide hb1; replace hba := hide hba; clear qB) | (go_at_call 101; (with_reducible refine qW.out.mono ?_); rintro e w2 ⟨A2, rfl, hs2, hb2⟩; replace hs2 := hide hs2; replace hb2 := hide hb2; clear qW))
  have hz1 := hb1.out.size
  have hz2 := hb2.out.size
  have hb3 : Below w2.heap.size w2 (w2.alloc (.cells #[.slice A2 N N] 65)) := (Below.refl _ _).alloc (Nat.le_refl _) _
  have hstart : Hid (RndW w (w2.alloc (.cells #[.slice A2 N N] 65)) w1.heap.size br bE bS bC cE (some ⟨b, off, none⟩) cf f bt N ((N : Int), ini, ls, es) a 0 (some ⟨w2.heap.size, 0, none⟩) 1 [((A2, N), apN f ((N : Int), ini, ls, es) 0)] (fun _ => []) (fun _ => [])) := by
    refine ⟨?_, rfl, fun i hi => absurd hi (by omega), ?_, PreR.start fun j => ⟨rfl, rfl⟩, hb1.out.trans ((hb2.out.trans (hb3.mono hz2)).mono hz1)⟩
    · rw [hap0.out]
      exact GrowB.one hs2.out hz2
    · refine hr.out.re (hb2.out.trans (hb3.mono hz2)) (fun b hb => ?_) fun b hb => ?_
      · have hb : some w2.heap.size = some b := hb
        injection hb with hb
        exact .inr (by omega)
      · have hb : some w2.heap.size = some b := hb
        injection hb with hb
        rw [World.size_alloc]; omega
  clear hs2 hb3
  go_loopw [6] (fun o wr => ∃ (j : Nat) (A : Option Addr) (c : Nat) (R : List (HB × List Bool)) (sv cl : Tab), j ≤ N ∧ o = .slice A (j + 1) c ∧ Hid (RndW w wr w1.heap.size br bE bS bC cE (some ⟨b, off, none⟩) cf f bt N ((N : Int), ini, ls, es) a j A c R sv cl)) (fun o _ => N + 2 - lenV o)
  case atStart => exact ⟨0, _, _, _, _, _, Nat.zero_le _, rfl, hstart⟩
  case round =>
    clear hstart
    obtain ⟨j, A, c, R, sv, cl, hj, rfl, hR⟩ := hrel
    obtain ⟨bo, oo, Ah, ch, s, rfl, go1, go2, hrj, co, hsj, hoff⟩ := hR.out.grow.get (show j < j + 1 by omega)
    have hs : s = apN f ((N : Int), ini, ls, es) j := by
      have h1 : (R.map (·.2))[j]? = some s := by rw [List.getElem?_map, hrj]; rfl
      rw [hR.out.vals, List.getElem?_map, List.getElem?_range (by omega)] at h1
      exact (Option.some.inj h1).symm
    subst hs
    have hwr := hR.out.below
    have hRT : Hid (∀ x, RunT bE bS bC x → x < w1.heap.size) := fun x hx => hr.out.high x hx
    have hHas := hR.out.grow.has hrj (by omega) (T := RunP (ownP (some ⟨bo, oo, none⟩) (j + 1) c) bE bS bC) (fun x hx => by
      rcases hx with e | e
      · exact .inl e
      · exact .inr (hRT.out x e))
    have hIH := at_calls (br := br) (cE := cE) (cf := cf) hD.out hba.out a 1 hP1
    have qY := body_calls hD.out hP h0 hIH hba.out (rho0 N) sv cl Ah ch _ wr hwr hR.out.run hHas (apN_len j) hR.out.pre
    rw [show ((0 : Nat) : Int) = 0 from rfl] at qY
    have hbdj := hbd.out (apN f ((N : Int), ini, ls, es) j)
    rw [show ((N : Int), ini, ls, es).1.toNat = N from rfl] at hbdj
    rw [hbdj, ← apN_succ j] at qY
    replace qY := hide qY
    have hi1 : IntKind.i64.wrap (((j + 1 : Nat) : Int) - 1) = (j : Int) := by rw [IntWalk.i64_in _ (by omega)]; omega
    have hi2 : ((j + 1 : Nat) : Int) - 1 = (j : Int) := by omega
    have hj0 : (0 : Int) ≤ (j : Int) := by omega
    have hj1 : (j : Int) < ((j + 1 : Nat) : Int) := by omega
    have hup := hide (apN_up (f := f) (d := ((N : Int), ini, ls, es)) j)
    have hlN := hide (apN_len (f := f) (d := ((N : Int), ini, ls, es)) j)
    have hlN1 := hide (apN_len (f := f) (d := ((N : Int), ini, ls, es)) (j + 1))
    replace hsj := hide hsj
    replace hoff := hide hoff
    clear hHas hIH hbdj hwr
    by_cases heq : apN f ((N : Int), ini, ls, es) (j + 1) = apN f ((N : Int), ini, ls, es) j
    · have hcls := hide (clsN_of hR.out.new heq)
      have hdec : Hid (decide (apN f ((N : Int), ini, ls, es) (j + 1) = apN f ((N : Int), ini, ls, es) j) = true) := decide_eq_true heq
      clear heq
      go_wp2_with (first
        | (go_at_call 71; (with_reducible refine qY.out.mono ?_); rintro e w4 ⟨A4, c4, sv4, cl4, rfl, hs4, hr4, hp4, hb4⟩; have qE := l21Equal_calls A4 Ah N c4 ch _ _ w4 _ _ _ _ hs4 (hsj.out.but hb4 (fun x hx => .inl (hRT.out x hx))) (by omega); rw [hdec.out] at qE; replace qE := hide qE; replace hs4 := hide hs4; replace hr4 := hide hr4; replace hp4 := hide hp4; replace hb4 := hide hb4; clear qY) | (go_at_call 69; (with_reducible refine qE.out.mono ?_); rintro e w5 ⟨rfl, N5, rfl⟩))
      go_ret
      have hG4 := (hR.out.grow.but hb4.out hRT.out).below (below_drewN w4 N5)
      have hB : Below w.heap.size w (w4.drewN N5) := hR.out.below.trans ((hb4.out.below hba.out hR.out.below.size).trans ((below_drewN w4 N5).mono (by have := hR.out.below.size; have := hb4.out.size; omega)))
      rw [hcls.out]
      exact ⟨_, _, R, rfl, hG4.lower hz1, hR.out.vals, hj, hB⟩
    · have hnew := hide (hR.out.new.next heq)
      have hdec : Hid (decide (apN f ((N : Int), ini, ls, es) (j + 1) = apN f ((N : Int), ini, ls, es) j) = false) := decide_eq_false heq
      have hjN := hnew.out.le
      rw [show ((N : Int), ini, ls, es).1.toNat = N from rfl] at hjN
      clear heq
      have hEB := hide elem_rowB
      go_wp2_with (first
        | (go_at_call 71; (with_reducible refine qY.out.mono ?_); rintro e w4 ⟨A4, c4, sv4, cl4, rfl, hs4, hr4, hp4, hb4⟩; have qE := l21Equal_calls A4 Ah N c4 ch _ _ w4 _ _ _ _ hs4 (hsj.out.but hb4 (fun x hx => .inl (hRT.out x hx))) (by omega); rw [hdec.out] at qE; replace qE := hide qE; have hG4 := hide (hR.out.grow.but hb4 hRT.out); have hz4 := hb4.size; replace hs4 := hide hs4; replace hr4 := hide hr4; replace hp4 := hide hp4; replace hb4 := hide hb4; clear qY) | (go_at_call 69; (with_reducible refine qE.out.mono ?_); rintro e w5 ⟨rfl, N5, rfl⟩; have hG5 := hide (hG4.out.below (below_drewN w4 N5)); have hza : ∀ o, w1.heap.size ≤ ((w4.drewN N5).alloc o).heap.size := (fun o => by rw [World.size_alloc]; show _ ≤ w4.heap.size + 1; omega)) | (at_builtin; (with_reducible refine wpList_app rfl (.tmp 33) (.tmp 35) rfl hEB.out (flat_hbV N) rfl (hG5.out.own.alloc _) rfl (Sl.lit1' (w4.drewN N5) 65 ((A4, c4) : HB) _ rfl 1 _ ?c0) ?c1 (hza _) ?_); rotate_right; intro A6 c6 w6 hown6 hgr6 hb6 hat6))
      case c0 => rfl
      case c1 => omega
      have hbA : Below (w4.drewN N5).heap.size (w4.drewN N5) ((w4.drewN N5).alloc (.cells #[.slice A4 N c4] 65)) := (Below.refl _ _).alloc (Nat.le_refl _) _
      have hb45 : Below w4.heap.size w4 ((w4.drewN N5).alloc (.cells #[.slice A4 N c4] 65)) := (below_drewN w4 N5).trans hbA
      have hG6 := (hG5.out.below hbA).push ((hs4.out.below hb45 (.inr (Nat.le_refl _))).more (by omega) hb45.size) (fun b' off' hN0 e e2 => by
        obtain ⟨b2, o2, e3, g1, -⟩ := hs4.out.at_ hN0
        rw [e] at e3
        cases e3
        have := (hR.out.grow.own.lt _ e2).2
        omega) hown6 hgr6 hat6
      have hz45 := hb45.size
      have hrun : RunAt w6 (ownP A6 (j + 1 + 1) c6) br bE bS bC cE (some ⟨b, off, none⟩) cf f bt N (rho0 N) sv4 cl4 := by
        refine ((hr4.out.weak).below hb45).grow ⟨hgr6.os, hgr6.tape, hgr6.output, hgr6.size, fun b' hb' hn => hgr6.block b' hb' fun e => hn e.symm⟩ (fun b' hb' => ?_) fun b' hb' => (hown6.lt b' hb').2
        have hb' : _ = some b' := hb'
        rcases hat6 with e | e
        · exact .inl (e.symm.trans hb')
        · rw [e] at hb'
          injection hb' with hb'
          exact .inr (by omega)
      have hBel : Below w.heap.size w w6 := hR.out.below.trans ((hb4.out.below hba.out hR.out.below.size).trans ((hb45.mono (by have := hR.out.below.size; omega)).trans (hb6.mono hz1)))
      have hR6 : Hid (RndW w w6 w1.heap.size br bE bS bC cE (some ⟨b, off, none⟩) cf f bt N ((N : Int), ini, ls, es) a (j + 1) A6 c6 (R ++ [((A4, c4), apN f ((N : Int), ini, ls, es) (j + 1))]) sv4 cl4) :=
        ⟨hG6, by rw [List.map_append, hR.out.vals, List.range_succ (n := j + 1), List.map_append]; rfl, hnew.out, hrun, PreR.step (by rw [Nat.zero_add] at hp4; exact hp4.out) (by rw [hq.out] at hup ⊢; exact hup.out), hBel⟩
      go_roundw
      case rel => exact ⟨j + 1, A6, c6, _, sv4, cl4, hjN, rfl, hR6⟩
      case measure => simp [lenV]; omega

end Go.Proofs.YtanlgnjgpbjebaaGreatDoor

namespace Go.Proofs.YtanlgnjgpbjebaaGreatDoor
open Go.ChangeShapes Go.WideShapes Go.ChangeAt Go.RowKit
set_option linter.unusedVariables false
set_option linter.unusedSimpArgs false

set_option maxRecDepth 100000 in
theorem equalB_calls (A B : Option Addr) (n c d : Nat) (l r : List Bool) (w : World) (lo hi lo' hi' : Nat) (h : SlB w lo hi A n l) (g : SlB w lo' hi' B n r) (hn : n ≤ 1048576) :
    Calls Tryz.prog 73 #[.slice A n c, .slice B n d] w fun e w' => e = .returned (.bool (decide (l = r))) ∧ ∃ N, w' = w.drewN N := by
  have hl := hide h.len
  have hr := hide g.len
  go_enter Tryz.func73, Tryz.ntmps73
  go_wp2
  go_loopw [13] (fun i wr => ∃ k N : Nat, k ≤ n ∧ i = .int .i64 k ∧ wr = w.drewN N ∧ Hid (l.take k = r.take k)) (fun i _ => n - (intOf i).toNat)
  case atStart => exact ⟨0, 0, Nat.zero_le _, rfl, rfl, rfl⟩
  case round =>
    obtain ⟨k, N, hk, rfl, rfl, he⟩ := hrel
    by_cases hlt : k < n
    · obtain ⟨b, off, rfl, -, -, -, hx, c0, -⟩ := SlB.get h hlt
      obtain ⟨b', off', rfl, -, -, -, hy, d0, -⟩ := SlB.get g hlt
      replace hx := hide hx
      replace hy := hide hy
      have hk0 : (0 : Int) ≤ (k : Int) := by omega
      have hk1 : (k : Int) < (n : Int) := by omega
      clear h g
      generalize inS l k = u at *
      generalize inS r k = v at *
      by_cases hxy : u = v
      · subst hxy
        have hb : (u != u) = false := by simp
        go_wp2
        go_quiet (fail)
        go_wp2
        go_roundw
        case rel => exact ⟨k + 1, _, by omega, by go_num, rfl, take_step he.out hx.out hy.out rfl⟩
        case measure => simp [intOf]; omega
      · have hne := hide (take_stop hx.out hy.out hxy)
        have hb : (u == v) = false := beq_eq_false_iff_ne.2 hxy
        clear hxy
        go_wp2
        go_quiet (fail)
        go_wp2
        go_ret
        exact ⟨ret_b (decide_eq_false hne.out), _, World.drewN_drewN _ _ _⟩
    · have hkn : k = n := by omega
      subst hkn
      have hq : Hid (decide (l = r) = true) := decide_eq_true (take_all he.out hl.out hr.out)
      go_wp2
      go_ret
      exact ⟨ret_b hq.out, _, rfl⟩
/-- The first row at which the test holds, or -1. -/
def fstB (G : List Bool → Bool) (l : List (List Bool)) (i : Int) : Prop := (i = -1 ∧ l.any G = false) ∨ ∃ k : Nat, i = k ∧ k < l.length ∧ (l.take k).any G = false ∧ ∃ x, l[k]? = some x ∧ G x = true
set_option maxRecDepth 100000 in
theorem indexFuncB_calls (F : FuncId) (caps : Array Value) (G : List Bool → Bool) (A : Option Addr) (base N n c : Nat) (R : List (HB × List Bool)) (w : World) (h : GrowB w base N A n c R) (hn : n ≤ 1048576)
    (hF : ∀ (v : Value) (W : World), Sem.run Tryz.prog (callFunc F (#[v] ++ caps)) W = .ok (.enter F (#[v] ++ caps)) W)
    (hcl : ∀ (A : Option Addr) (d : Nat) (l : List Bool) (W : World), Below w.heap.size w W → SlB W base w.heap.size A N l → Calls Tryz.prog F (#[.slice A N d] ++ caps) W (Says (G l) W)) :
    Calls Tryz.prog 66 #[.slice A n c, .func (.func F) #[] caps] w fun e w' => ∃ i : Int, e = .returned (.int .i64 i) ∧ fstB G (R.map (·.2)) i ∧ Below w.heap.size w w' := by
  have hlen := hide h.len
  replace hcl := hide hcl
  replace h := hide h
  go_enter Tryz.func66, Tryz.ntmps66
  go_wp2
  go_loopw [8] (fun i wr => ∃ k : Nat, k ≤ n ∧ i = .int .i64 k ∧ Below w.heap.size w wr ∧ Hid (((R.map (·.2)).take k).any G = false)) (fun i _ => n - (intOf i).toNat)
  case atStart => exact ⟨0, Nat.zero_le _, rfl, Below.refl _ _, rfl⟩
  case round =>
    obtain ⟨k, hk, rfl, hb, ha⟩ := hrel
    by_cases hlt : k < n
    · obtain ⟨b, off, Ah, ch, s, hA, g1, g3, hx, c0, hs, -⟩ := h.out.get hlt
      replace c0 := (hb.cell (p := ⟨b, off + k, none⟩) g3).trans c0
      subst hA
      have hc := hcl.out Ah ch s wr hb (hs.below hb (.inr (Nat.le_refl _)))
      have hx2 : (R.map (·.2))[k]? = some s := by rw [List.getElem?_map, hx]; rfl
      replace hx2 := hide hx2
      clear h hcl hx hs
      by_cases hg : G s = true
      · rw [hg] at hc
        replace hc := hide hc
        have hy : Hid (fstB G (R.map (·.2)) k) := .inr ⟨k, rfl, by rw [List.length_map, hlen.out]; exact hlt, ha.out, s, hx2.out, hg⟩
        clear hg
        go_wp2_with fail
        refine hc.out.mono ?_
        rintro e w1 ⟨rfl, hb1⟩
        go_wp2_with fail
        go_ret
        exact ⟨_, rfl, hy.out, hb.trans (hb1.mono hb.size)⟩
      · replace hg := Bool.eq_false_iff.2 hg
        rw [hg] at hc
        replace hc := hide hc
        have hy := hide (any_take_succ ha.out hx2.out hg)
        clear hg
        go_wp2_with fail
        refine hc.out.mono ?_
        rintro e w1 ⟨rfl, hb1⟩
        go_wp2_with fail
        go_roundw
        case rel => exact ⟨k + 1, by omega, by go_num, hb.trans (hb1.mono hb.size), hy⟩
        case measure => simp [intOf]; omega
    · have hkn : k = n := by omega
      subst hkn
      clear hcl h
      go_wp2
      go_ret
      have hy := ha.out
      rw [List.take_of_length_le (by rw [List.length_map, hlen.out]; exact Nat.le_refl _)] at hy
      exact ⟨_, rfl, .inl ⟨rfl, hy⟩, hb⟩

end Go.Proofs.YtanlgnjgpbjebaaGreatDoor

namespace Go.Proofs.YtanlgnjgpbjebaaGreatDoor
open Go.ChangeShapes Go.WideShapes Go.ChangeAt Go.RowKit
set_option linter.unusedVariables false
set_option linter.unusedSimpArgs false

theorem SysAt.rebox {w : World} {bt : Nat} {s0 ini : Int} {A2 A3 : Option Addr} {n2 k2 n3 k3 : Nat} {ls : List ByteArray} {es : List Ed} (h : SysAt w bt s0 ini A2 n2 k2 A3 n3 k3 ls es) :
    SysAt (w.alloc (.cells #[.int .i64 s0, .int .i64 ini, .slice A2 n2 k2, .slice A3 n3 k3] 35)) w.heap.size s0 ini A2 n2 k2 A3 n3 k3 ls es := by
  have h1 := h.below ((Below.refl w.heap.size w).alloc (Nat.le_refl _) (.cells #[.int .i64 s0, .int .i64 ini, .slice A2 n2 k2, .slice A3 n3 k3] 35))
  exact ⟨heap_alloc_new w _, h1.env, h1.ar, h1.tot⟩
theorem last_calls (A : Option Addr) (base N n c : Nat) (R : List (HB × List Bool)) (w : World) (h : GrowB w base N A (n + 1) c R) (hn : n ≤ 1048576) {Ah : Option Addr} {ch : Nat} {s : List Bool} (hr : R[n]? = some ((Ah, ch), s)) :
    Calls Tryz.prog 104 #[.slice A (n + 1) c] w fun e w' => e = .returned (.slice Ah N ch) ∧ w = w' := by
  obtain ⟨bo, oo, Ah', ch', s', rfl, -, -, hrj, co, -, -⟩ := h.get (show n < n + 1 by omega)
  rw [hr] at hrj
  cases hrj
  have hi1 : IntKind.i64.wrap (((n + 1 : Nat) : Int) - 1) = (n : Int) := by rw [IntWalk.i64_in _ (by omega)]; omega
  have hi2 : ((n + 1 : Nat) : Int) - 1 = (n : Int) := by omega
  have hj0 : (0 : Int) ≤ (n : Int) := by omega
  have hj1 : (n : Int) < ((n + 1 : Nat) : Int) := by omega
  clear h hr
  go_enter Tryz.func104, Tryz.ntmps104
  go_wp2_with fail
  go_ret
  exact ⟨rfl, rfl⟩
set_option maxRecDepth 100000 in
set_option maxHeartbeats 3200000 in
theorem fixedCode_calls {w : World} {bt : Nat} {s0 ini : Int} {A A2 A3 : Option Addr} {n n2 k2 n3 k3 c : Nat} {ls : List ByteArray} {es : List Ed} {f : DN} (h : SysAt w bt s0 ini A2 n2 k2 A3 n3 k3 ls es) (g : FrmAt w A n f) :
    Calls Tryz.prog 62 #[.slice A n c, .agg #[.int .i64 s0, .int .i64 ini, .slice A2 n2 k2, .slice A3 n3 k3]] w fun e w' => e = .returned (.int .i64 (fstC f (s0, ini, ls, es))) ∧ Below w.heap.size w w' := by
  have hS := h.rebox
  obtain ⟨W0, hW0⟩ : ∃ W', W' = w.alloc (.cells #[.int .i64 s0, .int .i64 ini, .slice A2 n2 k2, .slice A3 n3 k3] 35) := ⟨_, rfl⟩
  have hb0 : Below w.heap.size w W0 := by rw [hW0]; exact (Below.refl _ _).alloc (Nat.le_refl _) _
  rw [← hW0] at hS
  have hF := g.below hb0
  have hz0 := hb0.size
  have q1 := code1_calls hS hF (c := c)
  obtain ⟨b0, b1, b2, b3⟩ := hS.facts
  replace hb0 := hide hb0
  have hv : fstC f (s0, ini, ls, es) = if frmC f (s0, ini, ls, es) = 0 then (if isFx (qF f 0) = true then 0 else 6) else 1 := by
    unfold fstC
    split
    · rfl
    · rename_i hc
      unfold frmC at hc ⊢
      split
      · rename_i e; rw [if_pos e] at hc; exact absurd rfl hc
      · rfl
  clear h g hS
  by_cases hc : frmC f (s0, ini, ls, es) = 0
  · have hn := (frmC_ok hc).1.len
    have hlen := hF.1.len
    obtain ⟨b, off, q, y, s, z, rfl, -, -, g3, hx, c0, c1, c2, c3⟩ := SlN.get hF.1 (k := 0) (by omega)
    simp only [Nat.zero_mul, Nat.add_zero] at c0 c1 c2 c3
    have hq : qF f 0 = q := qF_at hx
    have qX := fun W => isFixed_calls q y s z W
    have hcs := hide (fun (W : World) (hW : Below W0.heap.size W0 W) => (⟨(hW.cell (p := ⟨b, off, none⟩) g3).trans c0, (hW.cell (p := ⟨b, off + 1, none⟩) g3).trans c1, (hW.cell (p := ⟨b, off + 2, none⟩) g3).trans c2, (hW.cell (p := ⟨b, off + 3, none⟩) g3).trans c3⟩ : W.cell? ⟨b, off, none⟩ = some (.int .i64 q) ∧ W.cell? ⟨b, off + 1, none⟩ = some (.int .i64 y) ∧ W.cell? ⟨b, off + 2, none⟩ = some (.string s) ∧ W.cell? ⟨b, off + 3, none⟩ = some (.bool z)))
    rw [hc] at q1
    rw [if_pos hc, hq] at hv
    replace q1 := hide q1
    have hn0 : (0 : Int) < (n : Int) := by omega
    have hn0' : 0 < n := by omega
    clear hF hx hq hc c0 c1 c2 c3 hn hlen g3
    cases hf : isFx q
    all_goals
      rw [hf] at hv
      simp only [hf] at qX
      have hv' := hide hv
      replace qX := hide qX
      clear hf hv
      go_enter Tryz.func62, Tryz.ntmps62
      go_upto_region 1 with fail
      rw [← hW0]
      clear hW0
      go_wp2_with (first | (go_at_call 50; (with_reducible refine q1.out.mono ?_); rintro e w5 ⟨rfl, hb5⟩; obtain ⟨d0, d1, d2, d3⟩ := hcs.out w5 hb5; replace hb5 := hide hb5) | (go_at_call 102; (with_reducible refine (qX.out _).mono ?_); rintro e w6 ⟨rfl, hb6⟩))
      go_ret
      exact ⟨by rw [hv'.out]; rfl, hb0.out.trans ((hb5.out.trans (hb6.mono hb5.out.size)).mono hz0)⟩
  · rw [if_neg hc] at hv
    generalize frmC f (s0, ini, ls, es) = oc at *
    replace q1 := hide q1
    have hcb : (oc != 0) = true := by simpa using hc
    have hv' := hide hv
    clear hF hv
    go_enter Tryz.func62, Tryz.ntmps62
    go_upto_region 1 with fail
    rw [← hW0]
    clear hW0
    go_wp2_with (first | (go_at_call 50; (with_reducible refine q1.out.mono ?_); rintro e w5 ⟨rfl, hb5⟩; replace hb5 := hide hb5))
    go_ret
    exact ⟨by rw [hv'.out]; rfl, hb0.out.trans (hb5.out.mono hz0)⟩
theorem rep_whl (N : Nat) (b : Bool) : List.replicate N b = whlS N b := by
  refine inS_ext (by rw [List.length_replicate, whlS_len]) fun x hx => ?_
  rw [List.length_replicate] at hx
  unfold whlS
  rw [inS_setOf, decide_eq_true hx, Bool.true_and]
  unfold inS
  simp [hx]
/-- What the rounds keep. -/
structure RniW (w wr : World) (f : DN) (N : Nat) (d : DL) (j : Nat) (A : Option Addr) (c : Nat) (R : List (HB × List Bool)) : Prop where
  grow : GrowB wr w.heap.size N A (j + 1) c R
  vals : R.map (·.2) = (List.range (j + 1)).map (apN f d)
  new : NewTo f d j
  below : Below w.heap.size w wr
set_option maxRecDepth 100000 in
set_option maxHeartbeats 6400000 in
theorem approximants_calls {w : World} {bt : Nat} {ini : Int} {A A2 A3 : Option Addr} {n n2 k2 n3 k3 c N : Nat} {ls : List ByteArray} {es : List Ed} {f : DN} (h : SysAt w bt (N : Int) ini A2 n2 k2 A3 n3 k3 ls es) (g : FrmAt w A n f) (hv : ValF f) (h0 : isFx (qF f 0) = true) (hlv : ltsV ((N : Int), ini, ls, es) = true) :
    Calls Tryz.prog 63 #[.slice A n c, .agg #[.int .i64 (N : Nat), .int .i64 ini, .slice A2 n2 k2, .slice A3 n3 k3]] w fun e w' => ∃ A' c' R, e = .returned (.slice A' (clsN f ((N : Int), ini, ls, es) + 1) c') ∧ GrowB w' w.heap.size N A' (clsN f ((N : Int), ini, ls, es) + 1) c' R ∧ R.map (·.2) = (List.range (clsN f ((N : Int), ini, ls, es) + 1)).map (apN f ((N : Int), ini, ls, es)) ∧ clsN f ((N : Int), ini, ls, es) ≤ N ∧ Below w.heap.size w w' := by
  have hb40 := (lts_boundsB hlv).1
  have hN40 : 1 ≤ N ∧ N ≤ 40 := by omega
  have hS := h.rebox
  obtain ⟨W0, hW0⟩ : ∃ W', W' = w.alloc (.cells #[.int .i64 (N : Nat), .int .i64 ini, .slice A2 n2 k2, .slice A3 n3 k3] 35) := ⟨_, rfl⟩
  have hb0 : Below w.heap.size w W0 := by rw [hW0]; exact (Below.refl _ _).alloc (Nat.le_refl _) _
  rw [← hW0] at hS
  have hF := g.below hb0
  have hz0 := hb0.size
  obtain ⟨b0, b1, b2, b3⟩ := hS.facts
  have hlen := hF.1.len
  have hn := hv.len
  obtain ⟨b, off, q, y, s, z, rfl, -, -, g3, hx, c0, -, -, -⟩ := SlN.get hF.1 (k := 0) (by omega)
  simp only [Nat.zero_mul, Nat.add_zero] at c0
  have hq : qF f 0 = q := qF_at hx
  have hap0 := ap_zero (d := ((N : Int), ini, ls, es)) h0
  rw [hq] at hap0
  have hn0 : (0 : Int) < (n : Int) := by omega
  have hn0' : 0 < n := by omega
  have hn1 : 1 < n := by
    obtain ⟨a, hT, -⟩ := fx_tree hv h0
    obtain ⟨-, hsz⟩ := treeF_is hv.shape
    rw [hT] at hsz
    have := a.size_pos
    simp only [Tr.size] at hsz
    omega
  have qSem := hide (fun (W : World) (hW : Below W0.heap.size W0 W) (vs : Value) (X : List Bool) (hX : SetV W vs (some X) N) => (hS.below hW).sem (hF.below hW) hv hlv hX hn1 (c := c))
  have hwon := hide (fun (X : List Bool) => wonS_some hv hlv h0 X)
  have hSS := hide (fun (W : World) (hW : Below W0.heap.size W0 W) => (hS.below hW).facts)
  have qRep := hide (repeatB_calls (some ⟨W0.heap.size, 0, none⟩) 1 (q == 8) N (W0.alloc (.cells #[.bool (q == 8)] 4)).drew 0 (W0.heap.size + 1) (Sl.lit1' W0 4 (q == 8) _ rfl 1 W0.heap.size rfl).drew (by omega) (by omega))
  have hbL : Below W0.heap.size W0 (W0.alloc (.cells #[.bool (q == 8)] 4)).drew := ((Below.refl _ _).alloc (Nat.le_refl _) _).drew
  have hapv := hide hap0
  replace hb0 := hide hb0
  replace hbL := hide hbL
  have hN0 : (0 : Int) ≤ (N : Int) := by omega
  clear h g hS hF hx hq hap0 h0 hlv hv b1 b2 b3 hb40
  go_enter Tryz.func63, Tryz.ntmps63
  go_upto_region 1 with fail
  rw [← hW0]
  clear hW0
  go_region_held3 (fun w' => w'.cell? ⟨b, off, none⟩ = some (.int .i64 q) ∧ w'.cell? ⟨w.heap.size, 0, none⟩ = some (.int .i64 (N : Nat))) (first | exact ⟨c0, b0⟩ | exact ⟨c3, b3⟩ | go_keep)
    (first | (go_at_call 103; (with_reducible refine qRep.out.mono ?_); rintro e w3 ⟨A3', rfl, hs3, hb3⟩; have hb13 := hbL.out.trans (hb3.mono hbL.out.size); have c3 := (hb13.cell (p := ⟨b, off, none⟩) g3).trans c0; have b3 := (hSS.out w3 hb13).1; replace hs3 := hide hs3; replace hb3 := hide hb3; replace hb13 := hide hb13))
  have hz13 := hb13.out.size
  have hbl : Below w3.heap.size w3 (w3.alloc (.cells #[.slice A3' N N] 65)) := (Below.refl _ _).alloc (Nat.le_refl _) _
  have hstart : Hid (RniW W0 (w3.alloc (.cells #[.slice A3' N N] 65)) f N ((N : Int), ini, ls, es) 0 (some ⟨w3.heap.size, 0, none⟩) 1 [((A3', N), apN f ((N : Int), ini, ls, es) 0)]) := by
    refine ⟨?_, rfl, fun i hi => absurd hi (by omega), hb13.out.trans (hbl.mono hz13)⟩
    rw [hapv.out, show ((N : Int), ini, ls, es).1.toNat = N from rfl, ← rep_whl]
    have hz12 := hbL.out.size
    exact GrowB.one (hs3.out.more hz12 (Nat.le_refl _)) hz13
  clear c0 b0 c3 b3 qRep hs3 hb3 hbl hapv hbL
  go_wp2_with fail
  go_loopw [5] (fun o wr => ∃ (j : Nat) (A : Option Addr) (c : Nat) (R : List (HB × List Bool)), j ≤ N ∧ o = .slice A (j + 1) c ∧ Hid (RniW W0 wr f N ((N : Int), ini, ls, es) j A c R)) (fun o _ => N + 2 - lenV o)
  case atStart => exact ⟨0, _, _, _, Nat.zero_le _, rfl, hstart⟩
  case round =>
    clear hstart
    obtain ⟨j, A, c, R, hj, rfl, hR⟩ := hrel
    obtain ⟨bo, oo, Ah, ch, s, rfl, go1, go2, hrj, co, hsj, hoff⟩ := hR.out.grow.get (show j < j + 1 by omega)
    have hs : s = apN f ((N : Int), ini, ls, es) j := by
      have h1 : (R.map (·.2))[j]? = some s := by rw [List.getElem?_map, hrj]; rfl
      rw [hR.out.vals, List.getElem?_map, List.getElem?_range (by omega)] at h1
      exact (Option.some.inj h1).symm
    subst hs
    have hwr := hR.out.below
    have hlast := hide (fun (W : World) (hW : Below wr.heap.size wr W) => last_calls _ _ _ j c R W (hR.out.grow.below hW) (by omega) hrj)
    have hsv : SetV wr.drew (.slice Ah N ch) (some (apN f ((N : Int), ini, ls, es) j)) N := by
      obtain ⟨b', o', e, -⟩ := hsj.at_ (by omega)
      subst e
      exact ⟨_, _, rfl, (hsj.drew.more (Nat.zero_le _) (Nat.le_refl _))⟩
    have qY := qSem.out wr.drew hwr.drew _ _ hsv
    rw [hwon.out, ← apN_succ j, show ((1 : Nat) : Int) = 1 from rfl] at qY
    replace qY := hide qY
    have hSr := hSS.out wr hwr
    have hSn := hide (fun (W : World) (hW : Below wr.heap.size wr W) => hSS.out W (hwr.trans (hW.mono hwr.size)))
    have hzr := hwr.size
    have hlN := hide (apN_len (f := f) (d := ((N : Int), ini, ls, es)) j)
    replace hsj := hide hsj
    clear hoff hsv co hwr
    go_wp2_with fail
    go_region_held3 (fun w' => w'.cell? ⟨w.heap.size, 0, none⟩ = some (.int .i64 (N : Nat)) ∧ w'.cell? ⟨w.heap.size, 1, none⟩ = some (.int .i64 ini) ∧ w'.cell? ⟨w.heap.size, 2, none⟩ = some (.slice A2 n2 k2) ∧ w'.cell? ⟨w.heap.size, 3, none⟩ = some (.slice A3 n3 k3)) (first | exact hSr | exact hS4 | go_keep)
      (first
        | (go_at_call 104; (with_reducible refine (hlast.out _ ((Below.refl _ _).drew)).mono ?_); rintro e w' ⟨rfl, rfl⟩)
        | (go_at_call 51; (with_reducible refine qY.out.mono ?_); rintro e w4 ⟨A4, c4, rfl, hs4, hb4'⟩; have hb4 := ((Below.refl wr.heap.size wr).drew).trans hb4'; have hS4 := hSn.out w4 hb4; replace hs4 := hide hs4; replace hb4 := hide hb4; clear hb4'))
    have hG4 := hide (hR.out.grow.below hb4.out)
    have hz4 := hb4.out.size
    have hsj4 := hide (hsj.out.below hb4.out (.inr (Nat.le_refl _)))
    have qE := equalB_calls A4 Ah N c4 ch _ _ w4 _ _ _ _ hs4.out hsj4.out (by omega)
    have qL := hide (hlast.out w4 hb4.out)
    by_cases heq : apN f ((N : Int), ini, ls, es) (j + 1) = apN f ((N : Int), ini, ls, es) j
    · have hcls := hide (clsN_of hR.out.new heq)
      rw [decide_eq_true heq] at qE
      replace qE := hide qE
      clear heq hSr hS4
      go_wp2_with (first
        | (go_at_call 104; (with_reducible refine qL.out.mono ?_); rintro e w' ⟨rfl, rfl⟩)
        | (go_at_call 73; (with_reducible refine qE.out.mono ?_); rintro e w5 ⟨rfl, N5, rfl⟩))
      go_ret
      have hB : Below W0.heap.size W0 (w4.drewN N5) := hR.out.below.trans ((hb4.out.trans ((below_drewN w4 N5).mono hz4)).mono hzr)
      rw [hcls.out]
      exact ⟨_, _, R, rfl, (hG4.out.below (below_drewN w4 N5)).lower hz0, hR.out.vals, hj, hb0.out.trans (hB.mono hz0)⟩
    · have hnew := hide (hR.out.new.next heq)
      have hjN := hnew.out.le
      rw [show ((N : Int), ini, ls, es).1.toNat = N from rfl] at hjN
      rw [decide_eq_false heq] at qE
      replace qE := hide qE
      clear heq hSr hS4
      have hEB := hide elem_rowB
      go_wp2_with (first
        | (go_at_call 104; (with_reducible refine qL.out.mono ?_); rintro e w' ⟨rfl, rfl⟩)
        | (go_at_call 73; (with_reducible refine qE.out.mono ?_); rintro e w5 ⟨rfl, N5, rfl⟩; have hG5 := hide (hG4.out.below (below_drewN w4 N5)); have hza : ∀ o, W0.heap.size ≤ ((w4.drewN N5).alloc o).heap.size := (fun o => by rw [World.size_alloc]; show _ ≤ w4.heap.size + 1; omega)) | (at_builtin; (with_reducible refine wpList_app rfl (.tmp 27) (.tmp 29) rfl hEB.out (flat_hbV N) rfl (hG5.out.own.alloc _) rfl (Sl.lit1' (w4.drewN N5) 65 ((A4, c4) : HB) _ rfl 1 _ ?c0) ?c1 (hza _) ?_); rotate_right; intro A6 c6 w6 hown6 hgr6 hb6 hat6))
      case c0 => rfl
      case c1 => omega
      have hbA : Below (w4.drewN N5).heap.size (w4.drewN N5) ((w4.drewN N5).alloc (.cells #[.slice A4 N c4] 65)) := (Below.refl _ _).alloc (Nat.le_refl _) _
      have hb45 : Below w4.heap.size w4 ((w4.drewN N5).alloc (.cells #[.slice A4 N c4] 65)) := (below_drewN w4 N5).trans hbA
      have hs4' : SlB w4 wr.heap.size w4.heap.size A4 N (apN f ((N : Int), ini, ls, es) (j + 1)) := hs4.out
      have hG6 := (hG5.out.below hbA).push ((hs4'.below hb45 (.inr (Nat.le_refl _))).more hzr hb45.size) (fun b' off' hN0 e e2 => by
        obtain ⟨b2, o2, e3, g1, -⟩ := hs4'.at_ hN0
        rw [e] at e3
        cases e3
        have := (hR.out.grow.own.lt _ e2).2
        omega) hown6 hgr6 hat6
      have hBel : Below W0.heap.size W0 w6 := hR.out.below.trans ((hb4.out.mono hzr).trans ((hb45.mono (by omega)).trans hb6))
      have hR6 : Hid (RniW W0 w6 f N ((N : Int), ini, ls, es) (j + 1) A6 c6 (R ++ [((A4, c4), apN f ((N : Int), ini, ls, es) (j + 1))])) :=
        ⟨hG6, by rw [List.map_append, hR.out.vals, List.range_succ (n := j + 1), List.map_append]; rfl, hnew.out, hBel⟩
      go_roundw
      case rel => exact ⟨j + 1, A6, c6, _, hjN, rfl, hR6⟩
      case measure => simp [lenV]; omega

end Go.Proofs.YtanlgnjgpbjebaaGreatDoor

namespace Go.Proofs.YtanlgnjgpbjebaaGreatDoor
open Go.ChangeShapes Go.WideShapes Go.ChangeAt Go.RowKit
set_option linter.unusedVariables false
set_option linter.unusedSimpArgs false

theorem fstC_ok {f : DN} {d : DL} (h : fstC f d = 0) : ValF f ∧ ltsV d = true ∧ isFx (qF f 0) = true := by
  unfold fstC at h
  split at h
  · rename_i e
    obtain ⟨h1, h2⟩ := frmC_ok e
    refine ⟨h1, h2, ?_⟩
    by_cases h3 : isFx (qF f 0) = true
    · exact h3
    · rw [if_neg h3] at h; cases h
  · rename_i e; exact absurd h e
end Go.Proofs.YtanlgnjgpbjebaaGreatDoor

namespace Go.Proofs.YtanlgnjgpbjebaaGreatDoor
open Go.ChangeShapes Go.WideShapes Go.ChangeAt Go.RowKit
set_option linter.unusedVariables false
set_option linter.unusedSimpArgs false

noncomputable def entP (f : DN) (d : DL) (k : Nat) (n : Nat) : Bool := inS (apN f d n) k == (qF f 0 == 7)
noncomputable def entV (f : DN) (d : DL) (k : Nat) : Int × Int := match (List.range (clsN f d + 1)).find? (entP f d k) with | some n => ((n : Int), 0) | none => (0, 3)
noncomputable def entF (f : DN) (d : DL) (k : Int) : Int × Int := if fstC f d = 0 then (if inB k 0 (d.1 - 1) = true then entV f d k.toNat else (0, 2)) else (0, fstC f d)
theorem find_hitE {m n : Nat} {p : Nat → Bool} (h1 : n < m) (h2 : p n = true) (h3 : ∀ i, i < n → p i = false) : (List.range m).find? p = some n := by
  rw [List.find?_range_eq_some]
  exact ⟨h2, List.mem_range.2 h1, fun j hj => by rw [h3 j hj]; rfl⟩
theorem find_missE {m : Nat} {p : Nat → Bool} (h3 : ∀ i, i < m → p i = false) : (List.range m).find? p = none := by
  rw [List.find?_range_eq_none]
  exact fun j hj => by rw [h3 j hj]; rfl
theorem l11StateR_calls (bt : Nat) (x : CL) (d : DL) (s : Int) (w : World) (h : LtsAt w bt x d) (hval : ltsV d = true) :
    Calls Tryz.prog 64 #[.pointer (some ⟨bt, 0, none⟩), .int .i64 s] w fun e w' => e = .returned (.bool (inB s 0 (d.1 - 1))) ∧ w = w' := by
  obtain ⟨s0, s1, v2, v3⟩ := x
  obtain ⟨st, ini, ls, es⟩ := d
  have hst := (lts_boundsB hval).1
  obtain ⟨⟨e0, -, -, -⟩, -, -, c0, -, -, -⟩ := h
  dsimp only at *
  subst e0
  have h1 := hst.1
  have h2 := hst.2
  have q := hide (l00In_calls s 0 (s0 - 1) w)
  clear hst hval
  go_enter Tryz.func64, Tryz.ntmps64
  go_wp2_with fail
  refine q.out.mono ?_
  rintro e w' ⟨rfl, rfl⟩
  go_wp2_with fail
  go_ret
  exact ⟨rfl, rfl⟩
set_option maxRecDepth 100000 in
set_option maxHeartbeats 3200000 in
theorem specEntryRound_u {v u : Value} {f : DN} {d : DL} {w : World} {lo hi lo' hi' : Nat} (he : Env w) (g : FreshN w lo' hi' u f) (gh : hi' ≤ w.heap.size) (h : FreshL w lo hi v d) (hh : hi ≤ w.heap.size) (k : Int) :
    Calls Tryz.prog 24 #[u, v, .int .i64 k] w fun e w' => e = .returned (.tuple #[.int .i64 (entF f d k).1, .int .i64 (entF f d k).2]) ∧ Below w.heap.size w w' := by
  obtain ⟨⟨⟨s0, s1, v2, v3⟩, rfl, hL⟩, ht⟩ := h
  obtain ⟨A, n, rfl, hF⟩ := FrmAt.of g gh
  obtain ⟨st, ini, ls, es⟩ := d
  have hAt := LtsAt.box hL hh ht
  obtain ⟨W0, hW0⟩ : ∃ W', W' = w.alloc (.cells #[.int .i64 s0, .int .i64 s1, v2, v3] 35) := ⟨_, rfl⟩
  have hb0 : Below w.heap.size w W0 := by rw [hW0]; exact (Below.refl _ _).alloc (Nat.le_refl _) _
  rw [← hW0] at hAt
  replace hF := hF.below hb0
  have hz0 := hb0.size
  have q1 := l21First_calls A n n w.heap.size f _ (st, ini, ls, es) W0 hF.1 hF.2 hAt
  replace hb0 := hide hb0
  clear he g hL
  go_enter Tryz.func24, Tryz.ntmps24
  go_upto_region 1 with fail
  rw [← hW0]
  clear hW0
  by_cases hc : fstC f (st, ini, ls, es) = 0
  case neg =>
    have hval : Hid (entF f (st, ini, ls, es) k = (0, fstC f (st, ini, ls, es))) := by show _ = _; unfold entF; rw [if_neg hc]
    generalize fstC f (st, ini, ls, es) = oc at *
    replace q1 := hide q1
    have hcb : (oc != 0) = true := by simpa using hc
    clear hAt hF
    go_wp2_with (first | (go_at_call 60; (with_reducible refine q1.out.mono ?_); rintro e w5 ⟨rfl, hb5⟩; replace hb5 := hide hb5))
    go_ret2
    exact ⟨by rw [hval.out]; rfl, hb0.out.trans (hb5.out.mono hz0)⟩
  obtain ⟨hV, hlv, h0⟩ := fstC_ok hc
  rw [hc] at q1
  replace q1 := hide q1
  have hb40 := (lts_boundsB hlv).1
  obtain ⟨N, rfl⟩ : ∃ N : Nat, st = (N : Int) := ⟨st.toNat, by omega⟩
  have hN40 : N ≤ 40 := by omega
  have qI := fun (W : World) (hW : Below W0.heap.size W0 W) => l11StateR_calls w.heap.size _ ((N : Int), ini, ls, es) k W (hAt.below hW (Nat.le_refl _)) hlv
  cases hk : inB k 0 ((N : Int) - 1) with
  | false =>
    have hval : Hid (entF f ((N : Int), ini, ls, es) k = (0, 2)) := by show _ = _; unfold entF; rw [if_pos hc, if_neg (by rw [show ((N : Int), ini, ls, es).1 = (N : Int) from rfl, hk]; decide)]
    simp only [show ((N : Int), ini, ls, es).1 = (N : Int) from rfl, hk] at qI
    replace qI := hide qI
    clear hAt hF hk hc hV hlv h0
    go_wp2_with (first | (go_at_call 60; (with_reducible refine q1.out.mono ?_); rintro e w5 ⟨rfl, hb5⟩; have qI2 := hide (qI.out w5 hb5); replace hb5 := hide hb5; clear q1) | (go_at_call 64; (with_reducible refine qI2.out.mono ?_); rintro e w' ⟨rfl, rfl⟩))
    go_ret2
    exact ⟨by rw [hval.out]; rfl, hb0.out.trans (hb5.out.mono hz0)⟩
  | true =>
  simp only [show ((N : Int), ini, ls, es).1 = (N : Int) from rfl, hk] at qI
  replace qI := hide qI
  obtain ⟨hk0, hk1⟩ := inB_true.1 hk
  obtain ⟨K, rfl⟩ : ∃ K : Nat, k = (K : Int) := ⟨k.toNat, by omega⟩
  have hKN : K < N := by omega
  have hval : Hid (entF f ((N : Int), ini, ls, es) (K : Int) = entV f ((N : Int), ini, ls, es) K) := by show _ = _; unfold entF; rw [if_pos hc, show ((N : Int), ini, ls, es).1 = (N : Int) from rfl, if_pos hk]; rfl
  have q2 := hide fun (W : World) (hW : Below W0.heap.size W0 W) => l21Rounds_calls A n n w.heap.size N f _ ini ls es W (hF.below hW).1 hF.2 hV h0 (hAt.below hW (Nat.le_refl _)) hlv
  have hlen := hF.1.len
  have hnl := hV.len
  obtain ⟨b, off, q, y, s, z, rfl, -, -, g3, hx, c0, -, -, -⟩ := SlN.get hF.1 (k := 0) (by omega)
  simp only [Nat.zero_mul, Nat.add_zero] at c0
  have hq : qF f 0 = q := qF_at hx
  have hn0 : (0 : Int) < (n : Int) := by omega
  have hn0' : 0 < n := by omega
  have hpd := hide (fun (m : Nat) => (show entP f ((N : Int), ini, ls, es) K m = (inS (apN f ((N : Int), ini, ls, es) m) K == (q == 7)) by unfold entP; rw [hq]))
  have hcs := hide (fun (W : World) (hW : Below W0.heap.size W0 W) => (hW.cell (p := ⟨b, off, none⟩) g3).trans c0)
  have hvd : Hid (entV f ((N : Int), ini, ls, es) K = match (List.range (clsN f ((N : Int), ini, ls, es) + 1)).find? (entP f ((N : Int), ini, ls, es) K) with | some n => ((n : Int), 0) | none => (0, 3)) := rfl
  clear hc hAt hF hV hlv h0 hb40 hk hlen hnl hx c0
  generalize clsN f ((N : Int), ini, ls, es) = C at *
  have hK0 : (0 : Int) ≤ (K : Int) := by omega
  have hK1 : (K : Int) < (N : Int) := by omega
  go_wp2_with (first | (go_at_call 60; (with_reducible refine q1.out.mono ?_); rintro e w5 ⟨rfl, hb5⟩; have qI2 := hide (qI.out w5 hb5); have q3 := hide (q2.out w5 hb5); clear q1) | (go_at_call 64; (with_reducible refine qI2.out.mono ?_); rintro e w' ⟨rfl, rfl⟩) | (go_at_call 61; (with_reducible refine q3.out.mono ?_); rintro e w6 ⟨A6, c6, R6, rfl, hG6, hR6, hCN, hb6⟩; have hb06 := hb5.trans (hb6.mono hb5.size); have c06 := hcs.out w6 hb06; replace hG6 := hide hG6; replace hR6 := hide hR6; replace hb06 := hide hb06; clear q3 qI2))
  clear hcs hb5 hb6 q2 qI
  cases hq7 : (q == 7)
  all_goals
    simp only [hq7] at hpd
    go_loopw [10] (fun i wr => ∃ j nq : Nat, j ≤ C + 1 ∧ i = .int .i64 (j : Nat) ∧ wr = w6.drewN nq ∧ Hid (∀ i, i < j → entP f ((N : Int), ini, ls, es) K i = false)) (fun i _ => C + 1 - (intOf i).toNat)
    case atStart => exact ⟨0, 0, Nat.zero_le _, rfl, rfl, fun i hi => absurd hi (by omega)⟩
    case round =>
      obtain ⟨j, nq, hj, rfl, rfl, ha⟩ := hrel
      by_cases hlt : j < C + 1
      · obtain ⟨bo, oo, Ah, ch, s', hA, go1, go2, hrj, co, hsj, -⟩ := hG6.out.get hlt
        subst hA
        have hs : s' = apN f ((N : Int), ini, ls, es) j := by
          have h1 : (R6.map (·.2))[j]? = some s' := by rw [List.getElem?_map, hrj]; rfl
          rw [hR6.out, List.getElem?_map, List.getElem?_range (by omega)] at h1
          exact (Option.some.inj h1).symm
        subst hs
        obtain ⟨bs, os, rfl, -, -, -, -, m1, -⟩ := SlB.get hsj hKN
        have hpj := hpd.out j
        have hj0 : (0 : Int) ≤ (j : Int) := by omega
        have hj1 : (j : Int) < ((C + 1 : Nat) : Int) := by omega
        have hnext := hide (fun (hb : entP f ((N : Int), ini, ls, es) K j = false) (i : Nat) (hi : i < j + 1) => (by
          by_cases e : i = j
          · subst e; exact hb
          · exact ha.out i (by omega) : entP f ((N : Int), ini, ls, es) K i = false))
        have hhit := hide (fun (hb : entP f ((N : Int), ini, ls, es) K j = true) => find_hitE hlt hb ha.out)
        clear hsj hrj
        generalize inS (apN f ((N : Int), ini, ls, es) j) K = u at *
        generalize hpe : entP f ((N : Int), ini, ls, es) K j = pe at *
        cases u
        all_goals
          simp at hpj
          subst hpj
          first
          | (have hnx := hide (hnext.out rfl)
             clear hnext hhit hpe ha
             go_wp2_with fail
             go_quiet (fail)
             go_wp2_with fail
             go_roundw
             case rel => exact ⟨j + 1, _, by omega, by go_num, by first | rfl | exact World.drewN_drewN _ _ _, hnx⟩
             case measure => simp [intOf]; omega)
          | (have hh := hide (hhit.out rfl)
             clear hnext hhit hpe ha
             go_wp2_with fail
             go_quiet (fail)
             go_wp2_with fail
             go_ret2
             refine ⟨by rw [hval.out, hvd.out, hh.out]; rfl, ?_⟩
             exact (hb0.out.trans (hb06.out.mono hz0)).trans ⟨rfl, rfl, rfl, Nat.le_refl _, fun _ _ => rfl⟩)
      · have hjC : j = C + 1 := by omega
        subst hjC
        have hm := hide (find_missE ha.out)
        clear ha
        go_wp2_with fail
        go_ret2
        refine ⟨by rw [hval.out, hvd.out, hm.out]; rfl, ?_⟩
        exact (hb0.out.trans (hb06.out.mono hz0)).trans ⟨rfl, rfl, rfl, Nat.le_refl _, fun _ _ => rfl⟩

end Go.Proofs.YtanlgnjgpbjebaaGreatDoor

namespace Go.Proofs.YtanlgnjgpbjebaaGreatDoor
open Go.ChangeShapes Go.WideShapes Go.ChangeAt Go.RowKit
set_option linter.unusedVariables false
set_option linter.unusedSimpArgs false

theorem isStateN_calls (N : Nat) (s1 : Int) (v2 v3 : Value) (k : Int) (w : World) (hN : 1 ≤ N ∧ N ≤ 40) (hv2 : ∃ A n c, v2 = .slice A n c) (hv3 : ∃ A n c, v3 = .slice A n c) :
    Calls Tryz.prog 65 #[.agg #[.int .i64 (N : Nat), .int .i64 s1, v2, v3], .int .i64 k] w fun e w' => e = .returned (.bool (inB k 0 ((N : Int) - 1))) ∧ Below w.heap.size w w' := by
  obtain ⟨A2, n2, k2, rfl⟩ := hv2
  obtain ⟨A3, n3, k3, rfl⟩ := hv3
  have q := hide (fun W => within_calls k 0 ((N : Int) - 1) W)
  have hb : Below w.heap.size w (w.alloc (.cells #[.int .i64 (N : Nat), .int .i64 s1, .slice A2 n2 k2, .slice A3 n3 k3] 35)) := (Below.refl _ _).alloc (Nat.le_refl _) _
  have hw : IntKind.i64.wrap ((N : Int) - 1) = (N : Int) - 1 := IntWalk.i64_in _ (by omega)
  replace hb := hide hb
  go_enter Tryz.func65, Tryz.ntmps65
  go_wp2_with (first | (go_at_call 87; (with_reducible refine (q.out _).mono ?_); rintro e w' ⟨rfl, rfl⟩))
  go_ret
  exact ⟨rfl, hb.out⟩
theorem ent1_calls (bk bf b off : Nat) (n N K : Nat) (q : Int) (l : List Bool) (Ah : Option Addr) (ch : Nat) (W : World) (lo hi : Nat) (yk : W.cell? ⟨bk, 0, none⟩ = some (.int .i64 (K : Nat))) (yf : W.cell? ⟨bf, 0, none⟩ = some (.slice (some ⟨b, off, none⟩) n n)) (c0 : W.cell? ⟨b, off, none⟩ = some (.int .i64 q)) (hn : 0 < n) (h : SlB W lo hi Ah N l) (hK : K < N) :
    Calls Tryz.prog 67 #[.slice Ah N ch, .pointer (some ⟨bk, 0, none⟩), .pointer (some ⟨bf, 0, none⟩)] W (Says (inS l K == (q == 7)) W) := by
  obtain ⟨b1, o1, rfl, -, -, -, -, m1, -⟩ := SlB.get h hK
  have hk0 : (0 : Int) ≤ (K : Int) := by omega
  have hk1 : (K : Int) < (N : Int) := by omega
  have hn0 : (0 : Int) < (n : Int) := by omega
  clear h
  generalize inS l K = u at *
  cases hq : (q == 7) <;> cases u
  all_goals
    go_enter Tryz.func67, Tryz.ntmps67
    go_wp2_with fail
    go_quiet (fail)
    go_wp2_with fail
    go_ret
    exact ⟨rfl, ⟨rfl, rfl, rfl, Nat.le_refl _, fun _ _ => rfl⟩⟩
theorem find_fst {m : Nat} {F : Nat → List Bool} {G : List Bool → Bool} {i : Int} (h : fstB G ((List.range m).map F) i) : (i = -1 ∧ (List.range m).find? (fun n => G (F n)) = none) ∨ ∃ n : Nat, i = (n : Int) ∧ n < m ∧ (List.range m).find? (fun n => G (F n)) = some n := by
  rcases h with ⟨rfl, h⟩ | ⟨n, rfl, hn, h1, x, hx, hg⟩
  · refine .inl ⟨rfl, find_missE fun i hi => ?_⟩
    rw [List.any_map, List.any_eq_false] at h
    have := h i (List.mem_range.2 hi)
    simpa using this
  · rw [List.length_map, List.length_range] at hn
    rw [List.getElem?_map, List.getElem?_range hn] at hx
    obtain rfl := Option.some.inj hx
    refine .inr ⟨n, rfl, hn, find_hitE hn hg fun i hi => ?_⟩
    rw [← List.map_take, List.any_map, List.any_eq_false] at h1
    have := h1 i (by rw [List.take_range, Nat.min_eq_left (by omega)]; exact List.mem_range.2 hi)
    simpa using this
set_option maxRecDepth 100000 in
set_option maxHeartbeats 3200000 in
theorem implEntryRound_u {v u : Value} {f : DN} {d : DL} {w : World} {lo hi lo' hi' : Nat} (he : Env w) (g : FreshN w lo' hi' u f) (gh : hi' ≤ w.heap.size) (h : FreshL w lo hi v d) (hh : hi ≤ w.heap.size) (k : Int) :
    Calls Tryz.prog 25 #[u, v, .int .i64 k] w fun e w' => e = .returned (.tuple #[.int .i64 (entF f d k).1, .int .i64 (entF f d k).2]) ∧ Below w.heap.size w w' := by
  obtain ⟨A, n, rfl, hF⟩ := FrmAt.of g gh
  have hb1 : Below w.heap.size w (w.alloc (.cells #[.slice A n n] 31)) := (Below.refl _ _).alloc (Nat.le_refl _) _
  have hz1 : (w.alloc (.cells #[.slice A n n] 31)).heap.size = w.heap.size + 1 := by simp
  have kf := heap_alloc_new w (.cells #[.slice A n n] 31)
  obtain ⟨A2, n2, k2, A3, n3, k3, rfl, hS⟩ := SysAt.box (he.below hb1 (Nat.le_refl _)) (h.below hb1 (.inr (Nat.le_refl _))) (Nat.le_trans hh hb1.size)
  obtain ⟨st, ini, ls, es⟩ := d
  dsimp only at hS ⊢
  rw [hz1] at hS
  generalize hW1 : w.alloc (.cells #[.slice A n n] 31) = W1 at *
  have hb2 : Below W1.heap.size W1 (W1.alloc (.cells #[.int .i64 st, .int .i64 ini, .slice A2 n2 k2, .slice A3 n3 k3] 35)) := (Below.refl _ _).alloc (Nat.le_refl _) _
  have hz2 : (W1.alloc (.cells #[.int .i64 st, .int .i64 ini, .slice A2 n2 k2, .slice A3 n3 k3] 35)).heap.size = W1.heap.size + 1 := by simp
  generalize hW2 : W1.alloc (.cells #[.int .i64 st, .int .i64 ini, .slice A2 n2 k2, .slice A3 n3 k3] 35) = W2 at *
  obtain ⟨W0, hW0⟩ : ∃ W', W' = W2.alloc (.cells #[.int .i64 k] 2) := ⟨_, rfl⟩
  have hb3 : Below W2.heap.size W2 W0 := by rw [hW0]; exact (Below.refl _ _).alloc (Nat.le_refl _) _
  have kk : W0.heap[w.heap.size + 1 + 1]? = some (.cells #[.int .i64 k] 2 (0, 0)) := by
    have := heap_alloc_new W2 (.cells #[.int .i64 k] 2)
    rw [hz2, hz1] at this
    rw [hW0]; exact this
  replace hS := hS.below hb3
  have kf0 := (hb3.block w.heap.size (by omega)).trans ((hb2.block w.heap.size (by omega)).trans kf)
  have hb0 : Below w.heap.size w W0 := hb1.trans ((hb2.trans (hb3.mono (by omega))).mono (by omega))
  have hz0 : w.heap.size + 1 + 1 < W0.heap.size := (Array.getElem?_eq_some_iff.1 kk).1
  replace hF := hF.below hb0
  rw [← hW2, ← hW1] at hW0
  have q1 := fixedCode_calls hS hF (c := n)
  obtain ⟨b0, b1, b2, b3⟩ := hS.facts
  have bf : W0.cell? ⟨w.heap.size, 0, none⟩ = some (.slice A n n) := (cell_of_row _ _ 0 _ _ (0, 0) kf0).trans rfl
  have bk : W0.cell? ⟨w.heap.size + 1 + 1, 0, none⟩ = some (.int .i64 k) := (cell_of_row _ _ 0 _ _ (0, 0) kk).trans rfl
  have hcell := hide (fun (W : World) (hW : Below W0.heap.size W0 W) => (⟨(cell_of_row _ _ 0 _ _ (0, 0) ((hW.block _ (by omega)).trans kf0)).trans rfl, (cell_of_row _ _ 0 _ _ (0, 0) ((hW.block _ (by omega)).trans kk)).trans rfl, (hS.below hW).facts⟩ : W.cell? ⟨w.heap.size, 0, none⟩ = some (.slice A n n) ∧ W.cell? ⟨w.heap.size + 1 + 1, 0, none⟩ = some (.int .i64 k) ∧ W.cell? ⟨w.heap.size + 1, 0, none⟩ = some (.int .i64 st) ∧ W.cell? ⟨w.heap.size + 1, 1, none⟩ = some (.int .i64 ini) ∧ W.cell? ⟨w.heap.size + 1, 2, none⟩ = some (.slice A2 n2 k2) ∧ W.cell? ⟨w.heap.size + 1, 3, none⟩ = some (.slice A3 n3 k3)))
  replace hb0 := hide hb0
  clear he g h hW1 hW2 hb1 hb2 hb3 kf kf0 kk hz1 hz2
  clear W1 W2
  go_enter Tryz.func25, Tryz.ntmps25
  go_upto_region 1 with fail
  rw [← hW0]
  clear hW0
  have hzz : w.heap.size ≤ W0.heap.size := by omega
  by_cases hc : fstC f (st, ini, ls, es) = 0
  case neg =>
    have hval : Hid (entF f (st, ini, ls, es) k = (0, fstC f (st, ini, ls, es))) := by show _ = _; unfold entF; rw [if_neg hc]
    generalize fstC f (st, ini, ls, es) = oc at *
    replace q1 := hide q1
    have hcb : (oc != 0) = true := by simpa using hc
    clear hS hF
    go_wp2_with (first | (go_at_call 62; (with_reducible refine q1.out.mono ?_); rintro e w5 ⟨rfl, hb5⟩; replace hb5 := hide hb5))
    go_ret2
    exact ⟨by rw [hval.out]; rfl, hb0.out.trans (hb5.out.mono hzz)⟩
  obtain ⟨hV, hlv, h0⟩ := fstC_ok hc
  rw [hc] at q1
  replace q1 := hide q1
  have hb40 := (lts_boundsB hlv).1
  obtain ⟨N, rfl⟩ : ∃ N : Nat, st = (N : Int) := ⟨st.toNat, by omega⟩
  have hN40 : 1 ≤ N ∧ N ≤ 40 := by omega
  have qI := fun (W : World) => isStateN_calls N ini (.slice A2 n2 k2) (.slice A3 n3 k3) k W hN40 ⟨_, _, _, rfl⟩ ⟨_, _, _, rfl⟩
  cases hk : inB k 0 ((N : Int) - 1) with
  | false =>
    have hval : Hid (entF f ((N : Int), ini, ls, es) k = (0, 2)) := by show _ = _; unfold entF; rw [if_pos hc, if_neg (by rw [show ((N : Int), ini, ls, es).1 = (N : Int) from rfl, hk]; decide)]
    simp only [hk] at qI
    replace qI := hide qI
    clear hS hF hk hc hV hlv h0
    go_wp2_with (first | (go_at_call 62; (with_reducible refine q1.out.mono ?_); rintro e w5 ⟨rfl, hb5⟩; obtain ⟨ef, ek, e0, e1, e2, e3⟩ := hcell.out w5 hb5; replace hb5 := hide hb5; clear q1) | (go_at_call 65; (with_reducible refine (qI.out _).mono ?_); rintro e w6 ⟨rfl, hb6⟩))
    go_ret2
    exact ⟨by rw [hval.out]; rfl, hb0.out.trans ((hb5.out.trans (hb6.mono hb5.out.size)).mono hzz)⟩
  | true =>
  simp only [hk] at qI
  replace qI := hide qI
  obtain ⟨hk0, hk1⟩ := inB_true.1 hk
  obtain ⟨K, rfl⟩ : ∃ K : Nat, k = (K : Int) := ⟨k.toNat, by omega⟩
  have hKN : K < N := by omega
  have hval : Hid (entF f ((N : Int), ini, ls, es) (K : Int) = entV f ((N : Int), ini, ls, es) K) := by show _ = _; unfold entF; rw [if_pos hc, show ((N : Int), ini, ls, es).1 = (N : Int) from rfl, if_pos hk]; rfl
  have q2 := hide fun (W : World) (hW : Below W0.heap.size W0 W) => approximants_calls (hS.below hW) (hF.below hW) hV h0 hlv (c := n)
  have hlen := hF.1.len
  have hnl := hV.len
  obtain ⟨b, off, q, y, s, z, rfl, -, -, g3, hx, c0, -, -, -⟩ := SlN.get hF.1 (k := 0) (by omega)
  simp only [Nat.zero_mul, Nat.add_zero] at c0
  have hq : qF f 0 = q := qF_at hx
  have hn0' : 0 < n := by omega
  have hcs := hide (fun (W : World) (hW : Below W0.heap.size W0 W) => (hW.cell (p := ⟨b, off, none⟩) g3).trans c0)
  have hvd : Hid (entV f ((N : Int), ini, ls, es) K = match (List.range (clsN f ((N : Int), ini, ls, es) + 1)).find? (fun m => inS (apN f ((N : Int), ini, ls, es) m) K == (q == 7)) with | some n => ((n : Int), 0) | none => (0, 3)) := by
    show _ = _
    rw [← hq]
    rfl
  clear hc hS hF hV hlv h0 hb40 hk hlen hnl hx c0
  generalize clsN f ((N : Int), ini, ls, es) = C at *
  by_cases hCN : C ≤ N
  case neg =>
    have hC2 : ¬ C ≤ N := hCN
    go_wp2_with (first | (go_at_call 62; (with_reducible refine q1.out.mono ?_); rintro e w5 ⟨rfl, hb5⟩; obtain ⟨ef, ek, e0, e1, e2, e3⟩ := hcell.out w5 hb5; clear q1) | (go_at_call 65; (with_reducible refine (qI.out _).mono ?_); rintro e w6 ⟨rfl, hb6⟩; have hb56 := hb5.trans (hb6.mono hb5.size); obtain ⟨ef', ek', e0', e1', e2', e3'⟩ := hcell.out w6 hb56; have q3 := hide (q2.out w6 hb56)) | (go_at_call 63; (with_reducible refine q3.out.mono ?_); rintro e w7 ⟨A7, c7, R7, rfl, -, -, hCN', -⟩; exact absurd hCN' hC2))
  go_wp2_with (first | (go_at_call 62; (with_reducible refine q1.out.mono ?_); rintro e w5 ⟨rfl, hb5⟩; obtain ⟨ef, ek, e0, e1, e2, e3⟩ := hcell.out w5 hb5; clear q1) | (go_at_call 65; (with_reducible refine (qI.out _).mono ?_); rintro e w6 ⟨rfl, hb6⟩; have hb56 := hb5.trans (hb6.mono hb5.size); obtain ⟨ef', ek', e0', e1', e2', e3'⟩ := hcell.out w6 hb56; have q3 := hide (q2.out w6 hb56)) | (go_at_call 63; (with_reducible refine q3.out.mono ?_); rintro e w7 ⟨A7, c7, R7, rfl, hG7, hR7, -, hb7⟩; have hb57 := hb56.trans (hb7.mono hb56.size); have qF := indexFuncB_calls 67 #[.pointer (some ⟨w.heap.size + 1 + 1, 0, none⟩), .pointer (some ⟨w.heap.size, 0, none⟩)] (fun l => inS l K == (q == 7)) A7 w6.heap.size N (C + 1) c7 R7 w7 hG7 (by omega) (fun _ _ => by kernel_rfl) (fun Ah ch l W hW hl => (by have hbW := hb57.trans (hW.mono hb57.size); obtain ⟨g0, g1, -⟩ := hcell.out W hbW; exact ent1_calls _ _ b off n N K q l Ah ch W _ _ g1 g0 (hcs.out W hbW) hn0' hl hKN)); rw [hR7] at qF; replace qF := hide qF; replace hb57 := hide hb57; clear q3 hG7 hR7) | (go_at_call 66; (with_reducible refine qF.out.mono ?_); rintro e w8 ⟨i, rfl, hfi, hb8⟩; replace hfi := hide hfi; replace hb8 := hide hb8))
  all_goals
    have hB : Below w.heap.size w w8 := hb0.out.trans ((hb57.out.trans (hb8.out.mono hb57.out.size)).mono hzz)
    rcases find_fst hfi.out with ⟨him, hfd⟩ | ⟨m, him, hm, hfd⟩
    · first
      | (exfalso; omega)
      | (have hres := hide (hvd.out.trans (by rw [hfd]))
         clear hfi hfd
         go_ret2
         exact ⟨by rw [hval.out, hres.out]; rfl, hB⟩)
    · first
      | (exfalso; omega)
      | (have hres := hide (hvd.out.trans (by rw [hfd]))
         clear hfi hfd
         go_ret2
         exact ⟨by rw [hval.out, hres.out]; dsimp only; rw [← him]; rfl, hB⟩)

end Go.Proofs.YtanlgnjgpbjebaaGreatDoor
