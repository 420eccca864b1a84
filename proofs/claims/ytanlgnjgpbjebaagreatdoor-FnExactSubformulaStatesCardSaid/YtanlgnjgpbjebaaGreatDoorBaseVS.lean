/-
  Several texts in one:
  The game of a valid formula and a valid system is one in the sense of XMuC; its winners tell the meaning of the parts: plain. Conditions: the formula is valid, the system's numbers are in range.
  The sets of the variables at a place within a formula, one fixed point after the other; the approximants of a formula that begins with a fixed point: plain. Conditions: a valid formula, a valid system.
  A growing row of lists of bools, each in a block of its own. Conditions: none.
  Two lists of bools and two boxes for them, made in any order. Conditions: none.
  The approximants of a formula that begins with a fixed point, by the reference. Conditions: a valid formula, a valid system.
  The states at which a part of a formula holds, by the reference. Conditions: none.
  The states at which a part of a formula holds, by the program. Conditions: none.
-/
import Derived.Test.YtanlgnjgpbjebaaGreatDoorBaseA
import Derived.Test.YtanlgnjgpbjebaaGreatDoorBaseB
import Derived.Test.YtanlgnjgpbjebaaGreatDoorBaseC
import Derived.Test.YtanlgnjgpbjebaaGreatDoorBaseD
import Derived.Test.YtanlgnjgpbjebaaGreatDoorBaseE
import Derived.Test.YtanlgnjgpbjebaaGreatDoorBaseF
import Derived.Test.YtanlgnjgpbjebaaGreatDoorBaseG
import Derived.Test.YtanlgnjgpbjebaaGreatDoorBaseH
import Derived.Test.YtanlgnjgpbjebaaGreatDoorBaseI
import Derived.Test.YtanlgnjgpbjebaaGreatDoorBaseJ
import Derived.Test.YtanlgnjgpbjebaaGreatDoorBaseK
import Derived.Test.YtanlgnjgpbjebaaGreatDoorBaseL
import Derived.Test.YtanlgnjgpbjebaaGreatDoorBaseM
import Derived.Deep.Slices
import Derived.Deep.Fields
import Derived.ChangeSame
import Derived.ChangeOld
import Derived.ProofKit
import Derived.Outline
import Derived.Lib.Split
import Derived.Lib.Join
import Derived.Deep.RegionLaw
import Derived.StillTailTactics
import Derived.Deep.LoopGhost
import Derived.Laws.BytesArg
import Derived.Test.YtanlgnjgpbjebaaGreatDoorRows
import Derived.LoopTactic
import Derived.IntWalk
import Derived.Lib.ParseIntB
import Derived.Lib.ItoaNum
import Derived.Lib.Strings
import Derived.Lib.AppendIntMem
import Derived.WalkSmall
import Derived.Lib.QuietBelow
import Derived.BigQuiet
import Derived.Laws.Cover1
import Derived.Ground.SlgnProg
import Derived.Ground.SlgmProg
import Derived.Shelf.SlicesG.Turned
import Derived.Shelf.SlicesG.SearchI
import Derived.Shelf.SlicesG.CompactI
import Derived.Shelf.SlicesG.Cells
import Derived.Shelf.SortM.Plain
import Derived.Shelf.SortM.SortNone
import Derived.Shelf.SlGeneric
import Derived.Test.YtanlgnjgpbjebaaGreatDoorProg
import Derived.Lib.ItoaLen
import Derived.Shelf.Strings.Builder1
import Derived.Shelf.Strings.Builder2
import Derived.Shelf.Strings.OnBuilder
import Derived.Shelf.Small.Bits
import Derived.Shelf.Strings.BuilderF
import Derived.Shelf.Strings.BuilderK
import Derived.Shelf.Utf8.RuneCount
import Derived.Shelf.Strings.Builder2Cap
import Derived.Shelf.Strconv.Itoa0
import Derived.Shelf.Strconv.Itoa1
import Derived.Shelf.LaysM
import Derived.Shelf.Strconv.Itoa2
import Derived.Shelf.Strconv.Itoa3
import Derived.Shelf.Strconv.Itoa4
import Derived.Shelf.Strconv.ParseIntEmpty
import Derived.Shelf.Strconv.Clone
import Derived.Shelf.Strconv.SyntaxError
import Derived.Shelf.LaysC
import Derived.Shelf.Strconv.ToError
import Derived.Shelf.Strconv.Lower
import Derived.Shelf.Strconv.ParseUint10
import Derived.Shelf.Strconv.ParseUint10Empty
import Derived.Shelf.Strconv.ParseUint10Any
import Derived.Shelf.Strconv.ParseInt10
import Derived.Shelf.Strconv.RangeError
import Derived.Shelf.Strconv.ToErrorRange
import Derived.Shelf.Strconv.ParseUintEmpty
import Derived.Shelf.Strconv.ParseUint10b64
import Derived.Shelf.Strconv.ParseUint10b32
import Derived.Shelf.Strconv.ParseUint10b16
import Derived.Shelf.Strconv.ParseUint10b8
import Derived.Shelf.Strconv.ParseUint10At
import Derived.Shelf.Strconv.ParseInt10At64
import Derived.Shelf.Strconv.ParseInt10At32
import Derived.Shelf.Strconv.ParseInt10At16
import Derived.Shelf.Strconv.ParseInt10At8
import Derived.Shelf.Strconv.ParseInt10All
import Derived.Shelf.Strconv.ParseIntPublic10
import Derived.Shelf.Strconv.ErrVarParseInt
import Derived.Shelf.Strings.Search1
import Derived.Shelf.Strings.Search2
import Derived.Shelf.Strings.Search3
import Derived.Shelf.Strings.Cut
import Derived.Shelf.Strings.Count
import Derived.Shelf.Strings.Shaped
import Derived.Shelf.Strings.Prefix
import Derived.Shelf.Strings.Split
import Derived.Shelf.Strings.SplitShaped
import Derived.Shelf.Unicode.Decode
import Derived.Shelf.Strings.RuneCount
import Derived.Shelf.Strings.Explode
import Derived.Shelf.Bits.Mul64
import Derived.Shelf.Unicode.DecodeSlow
import Derived.Shelf.Unicode.DecodeAny
import Derived.Shelf.SlicesG.Clone
import Derived.Shelf.SlicesE.Clone
import Derived.Ground.SlgcProg
import Derived.Shelf.SlicesG.Cmp
import Derived.Deep.DeepCutAuto
import Derived.Deep.QuietTactic
import Derived.Deep.RegionHeld3
import Derived.LaidMore
import Derived.LaidLaws
import Derived.HandedShaped
import Derived.Stop.LaidErr
import Derived.Lib.LaidTab
import Derived.Maps.AppendAt
import Derived.Laws.OwnMore
import Derived.OwnWalk
import Derived.WalkKit
import Derived.OpenShut
import Derived.Handy
import Derived.Below
import Derived.Deep.Draws
import Derived.Laws.MakeOwn
import Derived.OneCell
import Derived.WalkSpells
import Derived.RegionTactic
import Derived.ChangeAlike
import Derived.Deep.CutRange
import Derived.Laws.CopyOwn
import Derived.Laws.Bits64b
import Derived.Laws.Cover3
import Derived.Deep.CutBlock
import Derived.Maps.OwnSet
import Derived.Maps.Views
import Derived.ArgAppend
import Derived.StillTail
import Derived.OrdersHeld
set_option linter.unusedVariables false
set_option linter.unusedSimpArgs false
set_option linter.unusedSimpArgs false
set_option linter.unusedVariables false
namespace Go.Proofs.YtanlgnjgpbjebaaGreatDoor
set_option linter.unusedVariables false
set_option linter.unusedSimpArgs false

section
variable {f : DN} {d : DL}
/-- What the body of the first node makes of a set. -/
noncomputable def semB (f : DN) (d : DL) (s : List Bool) : List Bool := sem (sysF f d) (subT (treeF f) 0 1) 1 (upE (fun _ => []) (vF f 0) s)
end
end Go.Proofs.YtanlgnjgpbjebaaGreatDoor

namespace Go.Proofs.YtanlgnjgpbjebaaGreatDoor
set_option linter.unusedVariables false
set_option linter.unusedSimpArgs false

section
variable {M : Sy}
/-- The sets of the variables where the fixed points ahead of a place count. -/
def envN (M : Sy) : Tr → Nat → EnvS → Nat → Nat → EnvS
  | .leaf, _, ρ, _, _ => ρ
  | .one a, k, ρ, t, n => if t = k ∨ n ≤ k then ρ else envN M a (k + 1) (if isFx (M.q k) then upE ρ (M.v k) (fixF M.N (decide (M.q k = 7)) (bodyF M a k ρ)) else ρ) t n
  | .two a b, k, ρ, t, n => if t = k ∨ n ≤ k then ρ else if t < k + 1 + a.size then envN M a (k + 1) ρ t n else envN M b (k + 1 + a.size) ρ t n
theorem envN_zero {T : Tr} {k t n : Nat} {ρ : EnvS} (h : n ≤ k) : envN M T k ρ t n = ρ := by
  cases T with
  | leaf => rfl
  | one a => unfold envN; rw [if_pos (.inr h)]
  | two a b => unfold envN; rw [if_pos (.inr h)]
theorem endP_one {a : Tr} {k j : Nat} (h : j ≠ k) : endP (.one a) k j = endP a (k + 1) j := by
  unfold endP; conv => lhs; unfold subT
  rw [if_neg h]
theorem endP_left {a b : Tr} {k j : Nat} (h : j ≠ k) (hl : j < k + 1 + a.size) : endP (.two a b) k j = endP a (k + 1) j := by
  unfold endP; conv => lhs; unfold subT
  rw [if_neg h, if_pos hl]
theorem endP_right {a b : Tr} {k j : Nat} (h : j ≠ k) (hl : ¬ j < k + 1 + a.size) : endP (.two a b) k j = endP b (k + 1 + a.size) j := by
  unfold endP; conv => lhs; unfold subT
  rw [if_neg h, if_neg hl]
theorem endP_le {T : Tr} {k j : Nat} (h1 : k ≤ j) (h2 : j < k + T.size) : endP T k j ≤ k + T.size := sub_range h1 h2
theorem envN_at {T : Tr} {k t j : Nat} {ρ : EnvS} (h1 : k ≤ j) (h2 : j ≤ t) (h3 : t < k + T.size) (h4 : t < endP T k j) : envN M T k ρ t j = envT M T k ρ j := by
  induction T generalizing k ρ with
  | leaf => rfl
  | one a ih =>
    simp only [Tr.size] at h3
    unfold envN envT
    by_cases hj : j = k
    · rw [if_pos (.inr (by omega)), if_pos hj]
    · rw [if_neg (by omega), if_neg hj]
      rw [endP_one hj] at h4
      exact ih (by omega) (by omega) h4
  | two a b iha ihb =>
    simp only [Tr.size] at h3
    unfold envN envT
    by_cases hj : j = k
    · rw [if_pos (.inr (by omega)), if_pos hj]
    · rw [if_neg (by omega), if_neg hj]
      by_cases hl : j < k + 1 + a.size
      · rw [endP_left hj hl] at h4
        have := endP_le (T := a) (k := k + 1) (j := j) (by omega) (by omega)
        rw [if_pos (by omega), if_pos hl]
        exact iha (by omega) (by omega) h4
      · rw [endP_right hj hl] at h4
        rw [if_neg (by omega), if_neg hl]
        exact ihb (by omega) (by omega) h4
theorem envN_step {T : Tr} {k t n : Nat} {ρ : EnvS} (hA : AtT M.q T k) (h1 : k ≤ n) (h2 : n < t) (h3 : t < k + T.size) :
    envN M T k ρ t (n + 1) = if (isFx (M.q n) && decide (t < endP T k n)) = true then upE (envN M T k ρ t n) (M.v n) (sem M (subT T k n) n (envT M T k ρ n)) else envN M T k ρ t n := by
  induction T generalizing k ρ with
  | leaf => simp only [Tr.size] at h3; omega
  | one a ih =>
    simp only [Tr.size] at h3
    by_cases hn : n = k
    · subst hn
      have e1 : envN M (.one a) n ρ t (n + 1) = (if isFx (M.q n) then upE ρ (M.v n) (fixF M.N (decide (M.q n = 7)) (bodyF M a n ρ)) else ρ) := by
        unfold envN
        rw [if_neg (by omega), envN_zero (Nat.le_refl _)]
      have e2 : decide (t < endP (.one a) n n) = true := by
        rw [decide_eq_true_eq]; unfold endP; rw [subT_self]; simp only [Tr.size]; omega
      rw [e1, e2, Bool.and_true, envN_zero (Nat.le_refl _), subT_self, envT_self]
      split
      · rename_i hf
        rw [sem_fix hf]
      · rfl
    · have e3 : ∀ m, k < m → envN M (.one a) k ρ t m = envN M a (k + 1) (if isFx (M.q k) then upE ρ (M.v k) (fixF M.N (decide (M.q k = 7)) (bodyF M a k ρ)) else ρ) t m := fun m hm => by
        conv => lhs; unfold envN
        rw [if_neg (by omega)]
      rw [e3 _ (by omega), e3 _ (by omega), endP_one hn, ih hA.2 (by omega) (by omega)]
      have e4 : subT (.one a) k n = subT a (k + 1) n := by conv => lhs; unfold subT; rw [if_neg hn]
      have e5 : envT M (.one a) k ρ n = envT M a (k + 1) (if isFx (M.q k) then upE ρ (M.v k) (fixF M.N (decide (M.q k = 7)) (bodyF M a k ρ)) else ρ) n := by conv => lhs; unfold envT; rw [if_neg hn]
      rw [e4, e5]
  | two a b iha ihb =>
    simp only [Tr.size] at h3
    have e3 : ∀ m, k < m → envN M (.two a b) k ρ t m = if t < k + 1 + a.size then envN M a (k + 1) ρ t m else envN M b (k + 1 + a.size) ρ t m := fun m hm => by
      conv => lhs; unfold envN
      rw [if_neg (by omega)]
    by_cases hn : n = k
    · subst hn
      have hf := fx_two hA.1
      rw [hf, Bool.false_and, if_neg (by decide), e3 _ (by omega), envN_zero (M := M) (T := .two a b) (Nat.le_refl _)]
      split
      · exact envN_zero (Nat.le_refl _)
      · exact envN_zero (by omega)
    · rw [e3 _ (by omega), e3 _ (by omega)]
      by_cases hl : n < k + 1 + a.size
      · have e4 : subT (.two a b) k n = subT a (k + 1) n := by conv => lhs; unfold subT; rw [if_neg hn, if_pos hl]
        have e5 : envT M (.two a b) k ρ n = envT M a (k + 1) ρ n := by conv => lhs; unfold envT; rw [if_neg hn, if_pos hl]
        rw [endP_left hn hl, e4, e5]
        by_cases ht : t < k + 1 + a.size
        · rw [if_pos ht, if_pos ht]
          exact iha hA.2.1 (by omega) (by omega)
        · have := endP_le (T := a) (k := k + 1) (j := n) (by omega) (by omega)
          rw [if_neg ht, if_neg ht, decide_eq_false (by omega), Bool.and_false, if_neg (by decide), envN_zero (by omega), envN_zero (by omega)]
      · have e4 : subT (.two a b) k n = subT b (k + 1 + a.size) n := by conv => lhs; unfold subT; rw [if_neg hn, if_neg hl]
        have e5 : envT M (.two a b) k ρ n = envT M b (k + 1 + a.size) ρ n := by conv => lhs; unfold envT; rw [if_neg hn, if_neg hl]
        have ht : ¬ t < k + 1 + a.size := by omega
        rw [if_neg ht, if_neg ht, endP_right hn hl, e4, e5]
        exact ihb hA.2.2 (by omega) (by omega)
theorem envT_sub {T : Tr} {k j i : Nat} {ρ : EnvS} (h1 : k ≤ j) (h2 : j < k + T.size) (g1 : j ≤ i) (g2 : i < j + (subT T k j).size) : envT M T k ρ i = envT M (subT T k j) j (envT M T k ρ j) i := by
  induction T generalizing k ρ with
  | leaf => rfl
  | one a ih =>
    by_cases hj : j = k
    · subst hj; rw [subT_self, envT_self]
    · simp only [Tr.size] at h2
      have e1 : subT (.one a) k j = subT a (k + 1) j := by conv => lhs; unfold subT; rw [if_neg hj]
      rw [e1] at g2 ⊢
      have e2 : ∀ x, x ≠ k → envT M (.one a) k ρ x = envT M a (k + 1) (if isFx (M.q k) then upE ρ (M.v k) (fixF M.N (decide (M.q k = 7)) (bodyF M a k ρ)) else ρ) x := fun x hx => by conv => lhs; unfold envT; rw [if_neg hx]
      rw [e2 i (by omega), e2 j hj]
      exact ih (by omega) (by omega) g2
  | two a b iha ihb =>
    by_cases hj : j = k
    · subst hj; rw [subT_self, envT_self]
    · simp only [Tr.size] at h2
      by_cases hl : j < k + 1 + a.size
      · have e1 : subT (.two a b) k j = subT a (k + 1) j := by conv => lhs; unfold subT; rw [if_neg hj, if_pos hl]
        rw [e1] at g2 ⊢
        have hr := sub_range (T := a) (k := k + 1) (j := j) (by omega) hl
        have e2 : ∀ x, x ≠ k → x < k + 1 + a.size → envT M (.two a b) k ρ x = envT M a (k + 1) ρ x := fun x hx hx2 => by conv => lhs; unfold envT; rw [if_neg hx, if_pos hx2]
        rw [e2 i (by omega) (by omega), e2 j hj hl]
        exact iha (by omega) (by omega) g2
      · have e1 : subT (.two a b) k j = subT b (k + 1 + a.size) j := by conv => lhs; unfold subT; rw [if_neg hj, if_neg hl]
        rw [e1] at g2 ⊢
        have e2 : ∀ x, k + 1 + a.size ≤ x → envT M (.two a b) k ρ x = envT M b (k + 1 + a.size) ρ x := fun x hx => by conv => lhs; unfold envT; rw [if_neg (by omega), if_neg (by omega)]
        rw [e2 i (by omega), e2 j (by omega)]
        exact ihb (by omega) (by omega) g2
/-- Sets with the same members do for each other. -/
theorem sem_same {T : Tr} {k : Nat} {ρ ρ' : EnvS} (h : ∀ u x, inS (ρ u) x = inS (ρ' u) x) : sem M T k ρ = sem M T k ρ' :=
  leS_anti (b := true) (by rw [sem_len, sem_len]) (sem_mono M T k fun u x hx => by simp only [if_true] at hx ⊢; rwa [h] at hx) (sem_mono M T k fun u x hx => by simp only [if_true] at hx ⊢; rwa [h])
theorem inS_none (n x : Nat) : inS (setOf n fun _ => false) x = inS [] x := by rw [inS_setOf, Bool.and_false]; simp [inS]
theorem envT_same {T : Tr} {k j : Nat} {ρ ρ' : EnvS} (h : ∀ u x, inS (ρ u) x = inS (ρ' u) x) (u : Int) (x : Nat) : inS (envT M T k ρ j u) x = inS (envT M T k ρ' j u) x := by
  induction T generalizing k ρ ρ' with
  | leaf => exact h u x
  | one a ih =>
    unfold envT
    split
    · exact h u x
    · refine ih fun u' x' => ?_
      split
      · have e : ∀ X, bodyF M a k ρ X = bodyF M a k ρ' X := fun X => sem_same fun u2 x2 => by unfold upE; split; rfl; exact h u2 x2
        have e2 : bodyF M a k ρ = bodyF M a k ρ' := funext e
        unfold upE
        split
        · rw [e2]
        · exact h u' x'
      · exact h u' x'
  | two a b iha ihb =>
    unfold envT
    split
    · exact h u x
    · split
      · exact iha h
      · exact ihb h
end

/-! The approximants of a formula that begins with a fixed point -/
section
variable {f : DN} {d : DL}
/-- The approximants. -/
noncomputable def apN (f : DN) (d : DL) (j : Nat) : List Bool := apF d.1.toNat (decide (qF f 0 = 7)) (semB f d) j
/-- The approximants are new up to here. -/
def NewTo (f : DN) (d : DL) (m : Nat) : Prop := ∀ i, i < m → apN f d (i + 1) ≠ apN f d i
theorem NewTo.next {m : Nat} (h : NewTo f d m) (hn : apN f d (m + 1) ≠ apN f d m) : NewTo f d (m + 1) := fun i hi => by
  by_cases e : i = m
  · subst e; exact hn
  · exact h i (by omega)
end

end Go.Proofs.YtanlgnjgpbjebaaGreatDoor

namespace Go.Proofs.YtanlgnjgpbjebaaGreatDoor
open Go.ChangeShapes Go.WideShapes Go.ChangeAt Go.RowKit
set_option linter.unusedVariables false
set_option linter.unusedSimpArgs false

abbrev HB := Option Addr × Nat
def hbV (N : Nat) (x : HB) : List Value := [.slice x.1 N x.2]
theorem flat_hbV (N : Nat) : Flat (hbV N) 1 := ⟨fun _ => rfl, fun x u h => by simp [hbV] at h; subst h; rfl⟩
/-- Rows of N bools; the row of their handles is the call's own. -/
structure GrowB (w : World) (base N : Nat) (A : Option Addr) (n c : Nat) (R : List (HB × List Bool)) : Prop where
  own : Own 1 (hbV N) w base 65 A n c (R.map (·.1))
  rows : ∀ r ∈ R, SlB w base w.heap.size r.1.1 N r.2
  off : ∀ r ∈ R, 0 < N → ∀ b off, r.1.1 = some ⟨b, off, none⟩ → (Value.slice A n c).ownBlock ≠ some b
section
variable {w w4 w5 w' : World} {base N n c : Nat} {A : Option Addr} {R : List (HB × List Bool)}
theorem GrowB.len (h : GrowB w base N A n c R) : R.length = n := by have := h.own.len; rwa [List.length_map] at this
theorem GrowB.nil_ (w : World) (base N : Nat) : GrowB w base N none 0 0 [] := ⟨Own.nil_ _ _ _, fun _ h => (List.not_mem_nil h).elim, fun _ h => (List.not_mem_nil h).elim⟩
/-- The blocks from base on stay. -/
theorem GrowB.keep (h : GrowB w base N A n c R) (hs : w.heap.size ≤ w'.heap.size) (hk : ∀ b, base ≤ b → b < w.heap.size → w'.heap[b]? = w.heap[b]?) : GrowB w' base N A n c R :=
  ⟨h.own.keep fun g hg => hk g (h.own.lt g hg).1 (h.own.lt g hg).2, fun r hr => ((h.rows r hr).keep hs fun b h1 _ h3 => hk b h1 h3).more (Nat.le_refl _) hs, h.off⟩
theorem GrowB.below (h : GrowB w base N A n c R) (hb : Below w.heap.size w w') : GrowB w' base N A n c R := h.keep hb.size fun b _ h2 => hb.block b h2
theorem GrowB.but {T : Nat → Prop} (h : GrowB w base N A n c R) (hb : But T w w') (hT : ∀ x, T x → x < base) : GrowB w' base N A n c R :=
  h.keep hb.size fun b h1 h2 => hb.block b h2 fun ht => by have := hT b ht; omega
/-- A first row. -/
theorem GrowB.one {Ah : Option Addr} {ch : Nat} {s : List Bool} (hs : SlB w base w.heap.size Ah N s) (hb : base ≤ w.heap.size) : GrowB (w.alloc (.cells #[.slice Ah N ch] 65)) base N (some ⟨w.heap.size, 0, none⟩) 1 1 [((Ah, ch), s)] := by
  have hbel : Below w.heap.size w (w.alloc (.cells #[.slice Ah N ch] 65)) := (Below.refl _ _).alloc (Nat.le_refl _) _
  refine ⟨⟨rfl, by simp [hbV], .inr ⟨w.heap.size, 1, #[.slice Ah N ch], rfl, hb, heap_alloc_new w _, Nat.le_refl _, by decide, rfl, rfl⟩⟩, fun r hr => ?_, fun r hr hN b off e => ?_⟩
  · obtain rfl := List.mem_singleton.1 hr
    exact (hs.below hbel (.inr (Nat.le_refl _))).more (Nat.le_refl _) hbel.size
  · obtain rfl := List.mem_singleton.1 hr
    obtain ⟨b', off', e', -, -, g3, -⟩ := hs.at_ hN
    have e : Ah = _ := e
    rw [e] at e'
    cases e'
    intro e2
    have e2 : some w.heap.size = some b := e2
    injection e2 with e2
    omega
/-- A further row. -/
theorem GrowB.push (h : GrowB w4 base N A n c R) {Ah : Option Addr} {ch : Nat} {s : List Bool} (hs : SlB w4 base w4.heap.size Ah N s) (ho : ∀ b off, 0 < N → Ah = some ⟨b, off, none⟩ → (Value.slice A n c).ownBlock ≠ some b)
    {A5 : Option Addr} {c5 : Nat} (hown : Own 1 (hbV N) w5 base 65 A5 (n + 1) c5 (R.map (·.1) ++ [(Ah, ch)])) (hgr : w4.grownBy w5 (Value.slice A n c).ownBlock)
    (hat : (Value.slice A5 (n + 1) c5).ownBlock = (Value.slice A n c).ownBlock ∨ (Value.slice A5 (n + 1) c5).ownBlock = some w4.heap.size) :
    GrowB w5 base N A5 (n + 1) c5 (R ++ [((Ah, ch), s)]) := by
  have hz5 := hgr.size
  have keepS : ∀ (B : Option Addr) (l : List Bool), SlB w4 base w4.heap.size B N l → (∀ b off, 0 < N → B = some ⟨b, off, none⟩ → (Value.slice A n c).ownBlock ≠ some b) → SlB w5 base w5.heap.size B N l := by
    intro B l hl hne
    refine ⟨hl.1, fun hm => ?_⟩
    obtain ⟨b, off, rfl, g1, g2, g3, hc⟩ := hl.2 hm
    have hk := hgr.block b g3 (fun e => hne b off hm rfl e.symm)
    refine ⟨b, off, rfl, g1, by omega, by omega, fun k x hx j u hu => ?_⟩
    obtain ⟨h1, h2⟩ := hc k x hx j u hu
    exact ⟨(World.cell?_of_block (w := w4) (by simpa using hk)).trans h1, (World.frozen?_of_block (w := w4) (by simpa using hk)).trans h2⟩
  have hoff : ∀ (B : Option Addr) (l : List Bool), SlB w4 base w4.heap.size B N l → (∀ b off, 0 < N → B = some ⟨b, off, none⟩ → (Value.slice A n c).ownBlock ≠ some b) → ∀ b off, 0 < N → B = some ⟨b, off, none⟩ → (Value.slice A5 (n + 1) c5).ownBlock ≠ some b := by
    intro B l hl hne b off hN e
    rcases hat with h1 | h1
    · rw [h1]; exact hne b off hN e
    · rw [h1]
      obtain ⟨b', off', e', -, -, g3, -⟩ := hl.at_ hN
      rw [e] at e'
      cases e'
      intro e2
      injection e2 with e2
      omega
  refine ⟨by rw [List.map_append]; exact hown, fun r hr => ?_, fun r hr hm b off e => ?_⟩
  · rcases List.mem_append.1 hr with hr | hr
    · exact keepS _ _ (h.rows r hr) fun b off hm e => h.off r hr hm b off e
    · obtain rfl := List.mem_singleton.1 hr
      exact keepS _ _ hs ho
  · rcases List.mem_append.1 hr with hr | hr
    · exact hoff _ _ (h.rows r hr) (fun b off hm e => h.off r hr hm b off e) b off hm e
    · obtain rfl := List.mem_singleton.1 hr
      exact hoff _ _ hs ho b off hm e
/-- Row k. -/
theorem GrowB.get (h : GrowB w base N A n c R) {k : Nat} (hk : k < n) : ∃ b off Ah ch s, A = some ⟨b, off, none⟩ ∧ base ≤ b ∧ b < w.heap.size ∧ R[k]? = some ((Ah, ch), s) ∧ w.cell? ⟨b, off + k, none⟩ = some (.slice Ah N ch) ∧ SlB w base w.heap.size Ah N s ∧
    ∀ b off, 0 < N → Ah = some ⟨b, off, none⟩ → (Value.slice A n c).ownBlock ≠ some b := by
  have hl := h.len
  obtain ⟨b, off, e, g1, g2, g3, hc⟩ := (h.own.sl (flat_hbV N)).at_ (by omega)
  have hr : R[k]? = some R[k] := List.getElem?_eq_getElem (by omega)
  have hm : R[k] ∈ R := List.getElem_mem _
  have h0 := (hc k R[k].1 (by rw [List.getElem?_map, hr]; rfl) 0 _ rfl).1
  rw [Nat.mul_one, Nat.add_zero] at h0
  exact ⟨b, off, R[k].1.1, R[k].1.2, R[k].2, e, g1, g3, hr, h0, h.rows _ hm, fun b off hN e => h.off _ hm hN b off e⟩
/-- The blocks of the row of handles. -/
def ownP (A : Option Addr) (n c : Nat) (b : Nat) : Prop := (Value.slice A n c).ownBlock = some b
theorem GrowB.has (h : GrowB w base N A n c R) {k : Nat} {Ah : Option Addr} {ch : Nat} {s : List Bool} (hk : R[k]? = some ((Ah, ch), s)) (hN : N ≤ 1048576) {T : Nat → Prop} (hT : ∀ x, T x → ownP A n c x ∨ x < base) : HasB T w (.slice Ah N ch) s := by
  have hm : ((Ah, ch), s) ∈ R := List.mem_of_getElem? hk
  refine ⟨Ah, N, ch, rfl, hN, (h.rows _ hm).more (Nat.zero_le _) (Nat.le_refl _), fun a ha h0 ht => ?_⟩
  obtain ⟨b, off, e, g1, -⟩ := (h.rows _ hm).at_ h0
  have e : Ah = _ := e
  rw [ha] at e
  cases e
  rcases hT _ ht with e1 | e1
  · exact h.off _ hm h0 b off ha e1
  · have e1 : b < base := e1
    omega
end

end Go.Proofs.YtanlgnjgpbjebaaGreatDoor

namespace Go.Proofs.YtanlgnjgpbjebaaGreatDoor
open Go.ChangeShapes Go.WideShapes Go.ChangeAt Go.RowKit
set_option linter.unusedVariables false
set_option linter.unusedSimpArgs false

/-- Since the world wb: boxes p and q with what lies in them, lists r and s of N bools. -/
structure DifW (wb w : World) (N : Nat) (p q : Option (Nat × Value)) (r s : Option (HB × List Bool)) : Prop where
  below : Below wb.heap.size wb w
  hp : ∀ b v, p = some (b, v) → wb.heap.size ≤ b ∧ w.heap[b]? = some (.cells #[v] 65 (0, 0))
  hq : ∀ b v, q = some (b, v) → wb.heap.size ≤ b ∧ w.heap[b]? = some (.cells #[v] 65 (0, 0))
  ne : ∀ b v b' v', p = some (b, v) → q = some (b', v') → b ≠ b'
  hr : ∀ A c l, r = some ((A, c), l) → SlB w wb.heap.size w.heap.size A N l ∧ ∀ b off, 0 < N → A = some ⟨b, off, none⟩ → (∀ v, p ≠ some (b, v)) ∧ ∀ v, q ≠ some (b, v)
  hs : ∀ A c l, s = some ((A, c), l) → SlB w wb.heap.size w.heap.size A N l ∧ ∀ b off, 0 < N → A = some ⟨b, off, none⟩ → (∀ v, p ≠ some (b, v)) ∧ ∀ v, q ≠ some (b, v)
section
variable {wb w w' : World} {N : Nat} {p q : Option (Nat × Value)} {r s : Option (HB × List Bool)}
theorem DifW.start (wb : World) (N : Nat) : DifW wb wb N none none none none :=
  ⟨Below.refl _ _, fun _ _ h => (by cases h), fun _ _ h => (by cases h), fun _ _ _ _ h => (by cases h), fun _ _ _ h => (by cases h), fun _ _ _ h => (by cases h)⟩
theorem DifW.drew (h : DifW wb w N p q r s) : DifW wb w.drew N p q r s := ⟨h.below.drew, h.hp, h.hq, h.ne, h.hr, h.hs⟩
theorem DifW.keep (h : DifW wb w N p q r s) (hb : Below w.heap.size w w') : DifW wb w' N p q r s := by
  have hz := h.below.size
  refine ⟨h.below.trans (hb.mono hz), fun b v e => ?_, fun b v e => ?_, h.ne, fun A c l e => ?_, fun A c l e => ?_⟩
  · have := h.hp b v e; exact ⟨this.1, (hb.block b (Array.getElem?_eq_some_iff.1 this.2).1).trans this.2⟩
  · have := h.hq b v e; exact ⟨this.1, (hb.block b (Array.getElem?_eq_some_iff.1 this.2).1).trans this.2⟩
  · have := h.hr A c l e; exact ⟨(this.1.below hb (.inr (Nat.le_refl _))).more (Nat.le_refl _) hb.size, this.2⟩
  · have := h.hs A c l e; exact ⟨(this.1.below hb (.inr (Nat.le_refl _))).more (Nat.le_refl _) hb.size, this.2⟩
end
end Go.Proofs.YtanlgnjgpbjebaaGreatDoor

namespace Go.Proofs.YtanlgnjgpbjebaaGreatDoor
open Go.ChangeShapes Go.WideShapes Go.ChangeAt Go.RowKit
set_option linter.unusedVariables false
set_option linter.unusedSimpArgs false

theorem RunAt.grow {w w' : World} {P P' : Nat → Prop} {br bE bS bC cE cf bt N : Nat} {Af : Option Addr} {f : DN} {ρ : EnvS} {sv cl : Tab} (h : RunAt w P br bE bS bC cE Af cf f bt N ρ sv cl) (hb : But P w w') (hP : ∀ b, P' b → P b ∨ w.heap.size ≤ b) (hv : ∀ b, P' b → b < w'.heap.size) :
    RunAt w' P' br bE bS bC cE Af cf f bt N ρ sv cl := by
  have hR : ∀ b, RunP (fun b => P b ∨ P' b) bE bS bC b → RunP P bE bS bC b ∨ w.heap.size ≤ b := fun b hb => by
    rcases hb with (e | e) | e
    · exact .inl (.inl e)
    · rcases hP b e with e | e
      · exact .inl (.inl e)
      · exact .inr e
    · exact .inl (.inr e)
  have hW : ∀ b, RunP P' bE bS bC b → RunP (fun b => P b ∨ P' b) bE bS bC b ∨ w'.heap.size ≤ b := fun b hb => by
    rcases hb with e | e
    · exact .inl (.inl (.inr e))
    · exact .inl (.inr e)
  obtain ⟨p0, p1, p2, p3⟩ := h.pn
  have z0 := (Array.getElem?_eq_some_iff.1 h.cells).1
  have hn : ∀ b, ¬ P b → b < w.heap.size → ¬ P' b := fun b h1 h2 h3 => by
    rcases hP b h3 with e | e
    · exact h1 e
    · omega
  have hT : ∀ x, P x → RunP (fun b => P b ∨ P' b) bE bS bC x := fun x e => .inl (.inl e)
  exact ⟨hb.kept h.cells p0, ((h.env.re hR).but hb hT p1).re hW, ((h.sav.re hR).but hb hT p2).re hW, ((h.clo.re hR).but hb hT p3).re hW, h.el, h.sl, h.kl, hv, ⟨hn _ p0 z0, hn _ p1 h.env.lt, hn _ p2 h.sav.lt, hn _ p3 h.clo.lt⟩, h.ne⟩
/-- The sets of the variables at the start. -/
def rho0 (N : Nat) : EnvS := fun _ => setOf N fun _ => false
theorem PreR.step {M : Sy} {sv cl sv' cl' : Tab} {a : Tr} {k : Nat} {ρ : EnvS} {v : Int} {X Y : List Bool} {q : Int} (h : PostR M sv cl sv' cl' a k (upE ρ v X) q) (hl : leS (decide (q = 7)) X Y) : PreR M sv' cl' a k (upE ρ v Y) q :=
  ⟨h.all.ok.mono fun u => upE_sub (fun u => leS_refl _ _) v hl u, h.clo⟩
theorem GrowB.lower {w : World} {base base' N n c : Nat} {A : Option Addr} {R : List (HB × List Bool)} (h : GrowB w base N A n c R) (hb : base' ≤ base) : GrowB w base' N A n c R :=
  ⟨h.own.lower hb, fun r hr => (h.rows r hr).more hb (Nat.le_refl _), h.off⟩
end Go.Proofs.YtanlgnjgpbjebaaGreatDoor

namespace Go.Proofs.YtanlgnjgpbjebaaGreatDoor
open Go.ChangeShapes Go.WideShapes Go.ChangeAt Go.RowKit
set_option linter.unusedVariables false
set_option linter.unusedSimpArgs false

noncomputable def subF (f : DN) (d : DL) (k : Int) : List Int × Int := if frmC f d = 0 then (if inB k 0 ((f.length : Int) - 1) = true then (idxOf (semP f d k.toNat), 0) else ([], 2)) else ([], frmC f d)
/-- What the walk to a part keeps. -/
structure SubW (w wr : World) (br bE bS bC cE : Nat) (Af : Option Addr) (cf : Nat) (f : DN) (bt N : Nat) (d : DL) (k i p : Nat) (sv cl : Tab) : Prop where
  run : RunAt wr (fun _ => False) br bE bS bC cE Af cf f bt N (envN (sysF f d) (treeF f) 0 (rho0 N) k i) sv cl
  pi : p ≤ i
  pk : p ≤ k ∧ k < endF f p
  all : AllR (sysF f d) sv (subT (treeF f) 0 p) p (envT (sysF f d) (treeF f) 0 (rho0 N) p) (arT (sysF f d) (treeF f) 0 0 p)
  clo : CloR (sysF f d) sv cl (subT (treeF f) 0 p) p
  below : Below w.heap.size w wr
theorem SubW.pre {w wr : World} {br bE bS bC cE cf bt N k i p : Nat} {Af : Option Addr} {f : DN} {d : DL} {sv cl : Tab} (h : SubW w wr br bE bS bC cE Af cf f bt N d k i p sv cl) (hs : ShapeF f) {j : Nat} (h1 : p ≤ j) (h2 : j < endF f p) (hj : j < f.length) :
    PreR (sysF f d) sv cl (subT (treeF f) 0 j) j (envT (sysF f d) (treeF f) 0 (rho0 N) j) (arK f j) := by
  obtain ⟨hA, hz⟩ := treeF_is hs
  have hp : p < 0 + (treeF f).size := by omega
  have hjs : j < p + (subT (treeF f) 0 p).size := h2
  obtain ⟨q1, q2⟩ := PostR.sub h.all h.clo h1 hjs
  rw [sub_sub (Nat.zero_le _) hp h1 hjs] at q1 q2
  rw [← envT_sub (Nat.zero_le _) hp h1 hjs, ← arT_sub (Nat.zero_le _) hp h1 hjs, ← arK_eq hs (sysF f d) rfl hj] at q1
  exact ⟨q1.ok, q2⟩
theorem SubW.again {w wr w' : World} {br bE bS bC cE cf bt N k i p : Nat} {Af : Option Addr} {f : DN} {d : DL} {sv cl : Tab} (h : SubW w wr br bE bS bC cE Af cf f bt N d k i p sv cl) (he : envN (sysF f d) (treeF f) 0 (rho0 N) k (i + 1) = envN (sysF f d) (treeF f) 0 (rho0 N) k i) (hb : Below wr.heap.size wr w') :
    SubW w w' br bE bS bC cE Af cf f bt N d k (i + 1) p sv cl :=
  ⟨by rw [he]; exact h.run.below hb, by have := h.pi; omega, h.pk, h.all, h.clo, h.below.trans (hb.mono h.below.size)⟩
theorem envN_stepF {f : DN} (hs : ShapeF f) (d : DL) {ρ : EnvS} {k i : Nat} (h1 : i < k) (h2 : k < f.length) :
    envN (sysF f d) (treeF f) 0 ρ k (i + 1) = if fixP f k i = true then upE (envN (sysF f d) (treeF f) 0 ρ k i) (vF f i) (sem (sysF f d) (subT (treeF f) 0 i) i (envT (sysF f d) (treeF f) 0 ρ i)) else envN (sysF f d) (treeF f) 0 ρ k i := by
  obtain ⟨hA, hz⟩ := treeF_is hs
  exact envN_step (M := sysF f d) hA (Nat.zero_le _) h1 (by omega)
theorem envN_atF {f : DN} (hs : ShapeF f) (d : DL) {ρ : EnvS} {k j : Nat} (h1 : j ≤ k) (h2 : k < f.length) (h3 : k < endF f j) : envN (sysF f d) (treeF f) 0 ρ k j = envT (sysF f d) (treeF f) 0 ρ j := by
  obtain ⟨hA, hz⟩ := treeF_is hs
  exact envN_at (Nat.zero_le _) h1 (by omega) h3
theorem semP_rho {f : DN} {d : DL} {k : Nat} : sem (sysF f d) (subT (treeF f) 0 k) k (envT (sysF f d) (treeF f) 0 (rho0 d.1.toNat) k) = semP f d k :=
  sem_same fun u x => envT_same (fun u x => inS_none _ _) u x
set_option maxRecDepth 100000 in
set_option maxHeartbeats 6400000 in
theorem specSubformulaStates_u {v u : Value} {f : DN} {d : DL} {w : World} {lo hi lo' hi' : Nat} (he : Env w) (g : FreshN w lo' hi' u f) (gh : hi' ≤ w.heap.size) (h : FreshL w lo hi v d) (hh : hi ≤ w.heap.size) (k : Int) :
    Calls Tryz.prog 36 #[u, v, .int .i64 k] w fun e w' => ∃ o, e = .returned (.tuple #[o, .int .i64 (subF f d k).2]) ∧ ResI w' w.heap.size w'.heap.size o (subF f d k).1 ∧ Below w.heap.size w w' := by
  obtain ⟨⟨⟨s0, s1, v2, v3⟩, rfl, hL⟩, ht⟩ := h
  obtain ⟨A, n, rfl, hF⟩ := FrmAt.of g gh
  obtain ⟨st, ini, ls, es⟩ := d
  have hAt := LtsAt.box hL hh ht
  obtain ⟨W0, hW0⟩ : ∃ W', W' = w.alloc (.cells #[.int .i64 s0, .int .i64 s1, v2, v3] 35) := ⟨_, rfl⟩
  have hb0 : Below w.heap.size w W0 := by rw [hW0]; exact (Below.refl _ _).alloc (Nat.le_refl _) _
  rw [← hW0] at hAt
  replace hF := hF.below hb0
  have hz0 := hb0.size
  have q1 := l21Ask_calls A n n w.heap.size f _ (st, ini, ls, es) W0 hF.1 hF.2 hAt
  replace hb0 := hide hb0
  clear he g hL
  go_enter Tryz.func36, Tryz.ntmps36
  go_upto_region 1 with fail
  rw [← hW0]
  clear hW0
  by_cases hc : frmC f (st, ini, ls, es) = 0
  case neg =>
    have hval : Hid (subF f (st, ini, ls, es) k = ([], frmC f (st, ini, ls, es))) := by show _ = _; unfold subF; rw [if_neg hc]
    generalize frmC f (st, ini, ls, es) = oc at *
    replace q1 := hide q1
    have hcb : (oc != 0) = true := by simpa using hc
    clear hAt hF
    go_wp2_with (first | (go_at_call 45; (with_reducible refine q1.out.mono ?_); rintro e w5 ⟨rfl, hb5⟩; replace hb5 := hide hb5))
    go_ret2
    exact ⟨.slice none 0 0, by rw [hval.out]; rfl, by rw [hval.out]; exact ⟨none, 0, 0, rfl, by omega, Sl.nil_⟩, hb0.out.trans (hb5.out.mono hz0)⟩
  obtain ⟨hV, hlv⟩ := frmC_ok hc
  rw [hc] at q1
  replace q1 := hide q1
  have hlen := hF.1.len
  have hnl := hV.len
  have hi1 : IntKind.i64.wrap ((n : Int) - 1) = (n : Int) - 1 := IntWalk.i64_in _ (by omega)
  have qI := fun W => l00In_calls k 0 ((n : Int) - 1) W
  cases hk : inB k 0 ((n : Int) - 1) with
  | false =>
    have hval : Hid (subF f (st, ini, ls, es) k = ([], 2)) := by show _ = _; unfold subF; rw [if_pos hc, hlen, hk]; rfl
    simp only [hk] at qI
    replace qI := hide qI
    clear hAt hF hk hc hV hlv hlen hnl
    go_wp2_with (first | (go_at_call 45; (with_reducible refine q1.out.mono ?_); rintro e w5 ⟨rfl, hb5⟩; replace hb5 := hide hb5; clear q1) | (go_at_call 79; (with_reducible refine (qI.out _).mono ?_); rintro e w' ⟨rfl, rfl⟩))
    go_ret2
    exact ⟨.slice none 0 0, by rw [hval.out]; rfl, by rw [hval.out]; exact ⟨none, 0, 0, rfl, by omega, Sl.nil_⟩, hb0.out.trans (hb5.out.mono hz0)⟩
  | true =>
  simp only [hk] at qI
  replace qI := hide qI
  obtain ⟨hk0, hk1⟩ := inB_true.1 hk
  obtain ⟨K, rfl⟩ : ∃ K : Nat, k = (K : Int) := ⟨k.toNat, by omega⟩
  have hKn : K < n := by omega
  have hb40 := (lts_boundsB hlv).1
  obtain ⟨N, rfl⟩ : ∃ N : Nat, st = (N : Int) := ⟨st.toNat, by omega⟩
  have hN40 : 0 < N ∧ N ≤ 40 := by omega
  have hval : Hid (subF f ((N : Int), ini, ls, es) (K : Int) = (idxOf (semP f ((N : Int), ini, ls, es) K), 0)) := by show _ = _; unfold subF; rw [if_pos hc, hlen, if_pos hk]; rfl
  have hlen' := hlen
  subst hlen'
  have hD : RunD W0 A f w.heap.size _ N ini ls es := ⟨hF.1, hF.2, hV, hAt, hlv⟩
  have q2 := hide fun (W : World) (hW : Below W0.heap.size W0 W) => l21Begin_calls A f.length f.length w.heap.size N f _ ini ls es W rfl hV.len (by omega) (hAt.below hW (Nat.le_refl _))
  have hsh := hV.shape
  have hshp := hide hV.shp
  have hFl := hide (fun (W : World) (hW : Below W0.heap.size W0 W) => (hF.below hW).1)
  replace hD := hide hD
  replace hsh := hide hsh
  clear hc hAt hF hV hlv hb40 hk
  go_wp2_with (first | (go_at_call 45; (with_reducible refine q1.out.mono ?_); rintro e w5 ⟨rfl, hb5⟩; have q3 := hide (q2.out w5 hb5); clear q1) | (go_at_call 79; (with_reducible refine (qI.out _).mono ?_); rintro e w' ⟨rfl, rfl⟩) | (go_at_call 70; (with_reducible refine q3.out.mono ?_); rintro e w6 ⟨br, bE, bS, bC, cE, rfl, hr6, hb6, hba6⟩; clear q2))
  have hb06 := hide (hb5.trans (hb6.mono hb5.size))
  have hz5 := hb5.size
  have hz6 := hb6.size
  have hbase : Hid (∀ b, RunT bE bS bC b → W0.heap.size ≤ b) := fun b hb => Nat.le_trans hz5 (hba6 b hb)
  have hstart : Hid (SubW W0 w6 br bE bS bC cE A f.length f w.heap.size N ((N : Int), ini, ls, es) K 0 0 (fun _ => []) (fun _ => [])) := by
    obtain ⟨hA, hz⟩ := treeF_is hsh.out
    refine ⟨by rw [envN_zero (Nat.le_refl _)]; exact hr6, Nat.le_refl _, ⟨Nat.zero_le _, ?_⟩, AllR.none fun j _ _ => rfl, CloR.none fun j _ _ => rfl, hb06.out⟩
    show K < endP (treeF f) 0 0
    unfold endP
    rw [subT_self]
    omega
  clear hb5 hb6 hba6 hr6
  go_loopw [10] (fun i wr => ∃ (j p : Nat) (sv cl : Tab), j ≤ K ∧ i = .int .i64 (j : Nat) ∧ Hid (SubW W0 wr br bE bS bC cE A f.length f w.heap.size N ((N : Int), ini, ls, es) K j p sv cl)) (fun i _ => K - (intOf i).toNat)
  case atStart => exact ⟨0, 0, _, _, Nat.zero_le _, rfl, hstart⟩
  case round =>
    clear hstart
    obtain ⟨j, p, sv, cl, hj, rfl, hS⟩ := hrel
    by_cases hlt : j < K
    · obtain ⟨b, off, y, s, z, hA, g3, hx, hy, -, c0, c1, -, -⟩ := hD.out.node hS.out.below (show j < f.length by omega)
      subst hA
      have qFx := l19Fixed_calls b (off + j * 4) (qF f j) wr c0
      have qEn := hide (l19End_calls (some ⟨b, off, none⟩) f.length f.length f j wr 0 wr.heap.size (hFl.out wr hS.out.below) hshp.out (by omega))
      have hj0 : (0 : Int) ≤ (j : Int) := by omega
      have hj1 : (j : Int) < (f.length : Int) := by omega
      have hjK : (j : Int) < (K : Int) := by omega
      have hst := envN_stepF hsh.out ((N : Int), ini, ls, es) (ρ := rho0 N) hlt hKn
      have hfp := fixP_eq f K j
      cases hf : isFx (qF f j) with
      | false =>
        rw [hf] at qFx hfp
        replace qFx := hide qFx
        rw [hfp] at hst
        have hnx := hide (hS.out.again hst (Below.refl _ _))
        clear hst hfp hf hx hy c0 c1
        go_wp2_with (first | (go_at_call 80; (with_reducible refine qFx.out.mono ?_); rintro e w' ⟨rfl, rfl⟩) | (go_at_call 81; (with_reducible refine qEn.out.mono ?_); rintro e w' ⟨rfl, rfl⟩))
        go_roundw
        case rel => exact ⟨j + 1, p, sv, cl, by omega, by go_num, hnx⟩
        case measure => simp [intOf]; omega
      | true =>
        rw [hf] at qFx hfp
        replace qFx := hide qFx
        by_cases hE : K < endF f j
        · rw [hfp, decide_eq_true hE] at hst
          have hEq : Hid (envN (sysF f ((N : Int), ini, ls, es)) (treeF f) 0 (rho0 N) K (j + 1) = upE (envT (sysF f ((N : Int), ini, ls, es)) (treeF f) 0 (rho0 N) j) (vF f j) (sem (sysF f ((N : Int), ini, ls, es)) (subT (treeF f) 0 j) j (envT (sysF f ((N : Int), ini, ls, es)) (treeF f) 0 (rho0 N) j))) := by
            show _ = _
            rw [hst, if_pos (by rfl), envN_atF hsh.out _ (by omega) hKn hE]
          obtain ⟨vv, hv3, hvv⟩ := hD.out.var (show j < f.length by omega) (.inl hf)
          obtain rfl : y = (vv : Int) := hy.symm.trans hvv
          have hrun := hS.out.run
          rw [envN_atF hsh.out _ (by omega) hKn hE] at hrun
          have hpre := hS.out.pre hsh.out hS.out.pi (by have := hS.out.pk.2; omega) (show j < f.length by omega)
          have qA := at_calls (br := br) (cE := cE) (cf := f.length) hD.out hbase.out (subT (treeF f) 0 j) j ⟨by omega, rfl⟩ (fun _ => False) _ sv cl wr.drew hS.out.below.drew (hrun.below (Below.refl _ _).drew) hpre
          replace qA := hide qA
          obtain ⟨-, -, r2, -, -⟩ := hrun.facts
          have hhigh := hide hrun.high
          have hark := hide (arK_eq hsh.out (sysF f ((N : Int), ini, ls, es)) rfl (show j < f.length by omega))
          have hE2 : (K : Int) < ((endF f j : Nat) : Int) := by omega
          have hv0 : (0 : Int) ≤ (vv : Int) := by omega
          have hv1 : (vv : Int) < 3 := by omega
          have hbW : Hid (b < W0.heap.size) := g3
          have hvv' := hide hvv
          have hE' := hide hE
          generalize endF f j = E at hE2 qEn
          clear hst hfp hf hx hy c0 hpre hrun hvv hE
          go_upto_region 11 with (first | (go_at_call 80; (with_reducible refine qFx.out.mono ?_); rintro e w' ⟨rfl, rfl⟩) | (go_at_call 81; (with_reducible refine qEn.out.mono ?_); rintro e w' ⟨rfl, rfl⟩))
          refine lateT_begin (S := fun w' => w'.cell? ⟨br, 2, none⟩ = some (.slice (some ⟨bE, 0, none⟩) 3 cE) ∧ w'.cell? ⟨b, off + j * 4 + 1, none⟩ = some (.int .i64 (vv : Int))) (st := 13) (by kernel_rfl) ?_
          have hS0 := (⟨r2, c1⟩ : (fun w' : World => w'.cell? ⟨br, 2, none⟩ = some (.slice (some ⟨bE, 0, none⟩) 3 cE) ∧ w'.cell? ⟨b, off + j * 4 + 1, none⟩ = some (.int .i64 (vv : Int))) wr)
          refine lateT_take (i := 0) (oi := _) (v := ?_) [13] rfl (by kernel_rfl) (by kernel_rfl) (by kernel_rfl) (by kernel_rfl) (fun _ _ _ h => h) (Or.inl ⟨by kernel_rfl, ?hy⟩) hS0 ?_
          case hy => (intro w' hSw; (try dsimp only at hSw); (obtain ⟨hq0, hq1⟩ := hSw); go_simp <;> with_reducible rfl)
          (try simp only [Act.put, List.setIfInBounds_toArray, List.set_cons_zero, List.set_cons_succ])
          refine lateT_take (i := 1) (oi := _) (v := ?_) [13] rfl (by kernel_rfl) (by kernel_rfl) (by kernel_rfl) (by kernel_rfl) (fun _ _ _ h => h) (Or.inl ⟨by kernel_rfl, ?hy⟩) hS0 ?_
          case hy => (intro w' hSw; (try dsimp only at hSw); (obtain ⟨hq0, hq1⟩ := hSw); go_simp <;> with_reducible rfl)
          (try simp only [Act.put, List.setIfInBounds_toArray, List.set_cons_zero, List.set_cons_succ])
          refine lateT_take (i := 2) (oi := _) (v := ?_) [13] rfl (by kernel_rfl) (by kernel_rfl) (by kernel_rfl) (by kernel_rfl) (fun _ _ _ h => h) (Or.inl ⟨by kernel_rfl, ?hy⟩) hS0 ?_
          case hy => (intro w' hSw; (try dsimp only at hSw); (obtain ⟨hq0, hq1⟩ := hSw); go_simp <;> with_reducible rfl)
          (try simp only [Act.put, List.setIfInBounds_toArray, List.set_cons_zero, List.set_cons_succ])
          refine lateT_take (i := 3) (oi := _) (v := ?_) [13] rfl (by kernel_rfl) (by kernel_rfl) (by kernel_rfl) (by kernel_rfl) (fun _ _ _ h => h) (Or.inl ⟨by kernel_rfl, ?hy⟩) hS0 ?_
          case hy => (intro w' hSw; (try dsimp only at hSw); (obtain ⟨hq0, hq1⟩ := hSw); go_simp <;> with_reducible rfl)
          (try simp only [Act.put, List.setIfInBounds_toArray, List.set_cons_zero, List.set_cons_succ])
          refine lateT_take (i := 4) (oi := _) (v := ?_) [13] rfl (by kernel_rfl) (by kernel_rfl) (by kernel_rfl) (by kernel_rfl) (fun _ _ _ h => h) (Or.inl ⟨by kernel_rfl, ?hy⟩) hS0 ?_
          case hy => (intro w' hSw; (try dsimp only at hSw); (obtain ⟨hq0, hq1⟩ := hSw); go_simp <;> with_reducible rfl)
          (try simp only [Act.put, List.setIfInBounds_toArray, List.set_cons_zero, List.set_cons_succ])
          refine lateT_take (i := 5) (oi := _) (v := ?_) [13] rfl (by kernel_rfl) (by kernel_rfl) (by kernel_rfl) (by kernel_rfl) (fun _ _ _ h => h) (Or.inl ⟨by kernel_rfl, ?hy⟩) hS0 ?_
          case hy => (intro w' hSw; (try dsimp only at hSw); (obtain ⟨hq0, hq1⟩ := hSw); go_simp <;> with_reducible rfl)
          (try simp only [Act.put, List.setIfInBounds_toArray, List.set_cons_zero, List.set_cons_succ])
          refine lateT_take (i := 6) (oi := _) (v := ?_) [13] rfl (by kernel_rfl) (by kernel_rfl) (by kernel_rfl) (by kernel_rfl) (fun _ _ _ h => h) (Or.inl ⟨by kernel_rfl, ?hy⟩) hS0 ?_
          case hy => (intro w' hSw; (try dsimp only at hSw); (obtain ⟨hq0, hq1⟩ := hSw); go_simp <;> with_reducible rfl)
          (try simp only [Act.put, List.setIfInBounds_toArray, List.set_cons_zero, List.set_cons_succ])
          refine lateT_take (i := 7) (oi := _) (v := ?_) [13] rfl (by kernel_rfl) (by kernel_rfl) (by kernel_rfl) (by kernel_rfl) (fun _ _ _ h => h) (Or.inl ⟨by kernel_rfl, ?hy⟩) hS0 ?_
          case hy => (intro w' hSw; (try dsimp only at hSw); (obtain ⟨hq0, hq1⟩ := hSw); go_simp <;> with_reducible rfl)
          (try simp only [Act.put, List.setIfInBounds_toArray, List.set_cons_zero, List.set_cons_succ])
          refine lateT_take (i := 8) (oi := _) (v := ?_) [13] rfl (by kernel_rfl) (by kernel_rfl) (by kernel_rfl) (by kernel_rfl) (fun _ _ _ h => h) (Or.inl ⟨by kernel_rfl, ?hy⟩) hS0 ?_
          case hy => (intro w' hSw; (try dsimp only at hSw); (obtain ⟨hq0, hq1⟩ := hSw); go_simp <;> with_reducible rfl)
          (try simp only [Act.put, List.setIfInBounds_toArray, List.set_cons_zero, List.set_cons_succ])
          refine lateT_take (i := 9) (oi := _) (v := ?_) [13] rfl (by kernel_rfl) (by kernel_rfl) (by kernel_rfl) (by kernel_rfl) (fun _ _ _ h => h) (Or.inl ⟨by kernel_rfl, ?hy⟩) hS0 ?_
          case hy => (intro w' hSw; (try dsimp only at hSw); (obtain ⟨hq0, hq1⟩ := hSw); go_simp <;> with_reducible rfl)
          (try simp only [Act.put, List.setIfInBounds_toArray, List.set_cons_zero, List.set_cons_succ])
          refine lateT_take (i := 10) (oi := _) (v := ?_) [13] rfl (by kernel_rfl) (by kernel_rfl) (by kernel_rfl) (by kernel_rfl) (fun _ _ _ h => h) (Or.inl ⟨by kernel_rfl, ?hy⟩) hS0 ?_
          case hy => (intro w' hSw; (try dsimp only at hSw); (obtain ⟨hq0, hq1⟩ := hSw); go_simp <;> with_reducible rfl)
          (try simp only [Act.put, List.setIfInBounds_toArray, List.set_cons_zero, List.set_cons_succ])
          refine lateT_step (i := 11) (by kernel_rfl) rfl (fun K' hK => ?_)
          go_simp
          go_at_call 82; (with_reducible refine qA.out.mono ?_); rintro e w4 ⟨A4, c4, sv4, cl4, rfl, hs4, hr4, hp4, hb4⟩
          obtain ⟨-, -, r2', -, -⟩ := hr4.facts
          obtain ⟨Ao2, mo2, co2, eo2, fo2, -, -, -⟩ := hr4.env.get hv3
          have c1' : w4.cell? ⟨b, off + j * 4 + 1, none⟩ = some (.int .i64 (vv : Int)) := hb4.cell (p := ⟨b, off + j * 4 + 1, none⟩) c1 (by show b < wr.heap.size; have := hbW.out; have := hS.out.below.size; omega) (fun hx => by have := hbase.out _ hx; have := hbW.out; dsimp only at *; omega)
          have hS1 := (⟨r2', c1'⟩ : (fun w' : World => w'.cell? ⟨br, 2, none⟩ = some (.slice (some ⟨bE, 0, none⟩) 3 cE) ∧ w'.cell? ⟨b, off + j * 4 + 1, none⟩ = some (.int .i64 (vv : Int))) w4)
          have hzw := hS.out.below.size
          have hnext : Hid (SubW W0 (w4.setCell ⟨bE, vv, none⟩ (.slice A4 N c4)) br bE bS bC cE (some ⟨b, off, none⟩) f.length f w.heap.size N ((N : Int), ini, ls, es) K (j + 1) j sv4 cl4) := by
            refine ⟨?_, by omega, ⟨by omega, hE'.out⟩, ?_, hp4.clo, ?_⟩
            · rw [hEq.out, hvv'.out]
              exact hr4.weak.setE (v := vv) (HasB.of hs4 (by omega) (by omega) fun x hx => by
                rcases hx with hx | hx
                · exact hx.elim
                · exact hhigh.out x hx) (by rw [sem_len]; rfl)
            · have h1 := hp4.all
              rw [hark.out] at h1
              exact h1
            · have hbb : Below W0.heap.size wr.drew w4 := hb4.below hbase.out hzw
              exact (hS.out.below.drew.trans hbb).setCell (p := ⟨bE, vv, none⟩) (hbase.out bE (.inl rfl)) _
          clear hs4 hr4 hp4 hb4
          refine hK.out _ _ (fun _ => hS1) ?_
          clear hK K'
          (try simp only [Act.put, List.setIfInBounds_toArray, List.set_cons_zero, List.set_cons_succ])
          refine lateT_step (i := 12) (by kernel_rfl) rfl (fun K' hK => ?_)
          go_simp
          refine hK.out _ _ (fun _ => hS1) ?_
          clear hK K'
          (try simp only [Act.put, List.setIfInBounds_toArray, List.set_cons_zero, List.set_cons_succ])
          refine lateT_step (i := 13) (by kernel_rfl) rfl (fun K' hK => ?_)
          go_simp
          refine hK.out _ _ (fun h => absurd rfl h) ?_
          clear hK K'
          (try simp only [Act.put, List.setIfInBounds_toArray, List.set_cons_zero, List.set_cons_succ])
          refine lateT_done (by kernel_rfl) ?_ _
          go_wp2_with fail
          go_roundw
          case rel => exact ⟨j + 1, j, sv4, cl4, by omega, by go_num, hnext⟩
          case measure => simp [intOf]; omega
        · rw [hfp, decide_eq_false hE] at hst
          have hnx := hide (hS.out.again hst (Below.refl _ _))
          have hE2 : ¬ (K : Int) < ((endF f j : Nat) : Int) := by omega
          generalize endF f j = E at hE2 qEn
          clear hst hfp hf hx hy c0 c1 hE
          go_wp2_with (first | (go_at_call 80; (with_reducible refine qFx.out.mono ?_); rintro e w' ⟨rfl, rfl⟩) | (go_at_call 81; (with_reducible refine qEn.out.mono ?_); rintro e w' ⟨rfl, rfl⟩))
          go_roundw
          case rel => exact ⟨j + 1, p, sv, cl, by omega, by go_num, hnx⟩
          case measure => simp [intOf]; omega
    · have hjK : j = K := by omega
      subst hjK
      have hEs : j < endF f j := (end_need hsh.out hKn).1
      have hrun := hS.out.run
      rw [envN_atF hsh.out _ (Nat.le_refl _) hKn hEs] at hrun
      have hpre := hS.out.pre hsh.out hS.out.pi hS.out.pk.2 hKn
      have qA := at_calls (br := br) (cE := cE) (cf := f.length) hD.out hbase.out (subT (treeF f) 0 j) j ⟨hKn, rfl⟩ (fun _ => False) _ sv cl wr hS.out.below hrun hpre
      have hsr := semP_rho (f := f) (d := ((N : Int), ini, ls, es)) (k := j)
      rw [show ((N : Int), ini, ls, es).1.toNat = N from rfl] at hsr
      rw [hsr] at qA
      replace qA := hide qA
      have hzw := hS.out.below.size
      clear hrun hpre hsr hEs
      go_wp2_with (first | (go_at_call 82; (with_reducible refine qA.out.mono ?_); rintro e w4 ⟨A4, c4, sv4, cl4, rfl, hs4, -, -, hb4⟩; have qT := hide (l15True_calls A4 N c4 _ w4 _ _ hs4 (by omega)); replace hb4 := hide hb4; clear hs4) | (go_at_call 74; (with_reducible refine qT.out.mono ?_); rintro e w7 ⟨A7, c7, rfl, ho7, hb7⟩; replace ho7 := hide ho7; replace hb7 := hide hb7))
      go_ret2
      have hB4 : Below w.heap.size w w4 := hb0.out.trans ((hS.out.below.trans (hb4.out.below hbase.out hzw)).mono hz0)
      have hle : (idxOf (semP f ((N : Int), ini, ls, es) j)).length ≤ 40 := by
        have h1 := List.length_filter_le (inS (semP f ((N : Int), ini, ls, es) j)) (List.range (semP f ((N : Int), ini, ls, es) j).length)
        rw [List.length_range, semP_len] at h1
        unfold idxOf
        rw [List.length_map, semP_len]
        exact Nat.le_trans h1 hN40.2
      exact ⟨.slice A7 _ c7, by rw [hval.out]; rfl, by rw [hval.out]; exact ⟨A7, _, c7, rfl, by omega, (ho7.out.sl flat_iv).more hB4.size (Nat.le_refl _)⟩, hB4.trans (hb7.out.mono hB4.size)⟩

end Go.Proofs.YtanlgnjgpbjebaaGreatDoor

namespace Go.Proofs.YtanlgnjgpbjebaaGreatDoor
open Go.ChangeShapes Go.WideShapes Go.ChangeAt Go.RowKit
set_option linter.unusedVariables false
set_option linter.unusedSimpArgs false

theorem frmC_one {f : DN} {d : DL} (h : ¬ frmC f d = 0) : frmC f d = 1 := by
  unfold frmC at h ⊢
  split
  · rename_i e; rw [if_pos e] at h; exact absurd rfl h
  · rfl
set_option maxRecDepth 100000 in
set_option maxHeartbeats 3200000 in
theorem implSubformulaStates_u {v u : Value} {f : DN} {d : DL} {w : World} {lo hi lo' hi' : Nat} (he : Env w) (g : FreshN w lo' hi' u f) (gh : hi' ≤ w.heap.size) (h : FreshL w lo hi v d) (hh : hi ≤ w.heap.size) (k : Int) :
    Calls Tryz.prog 37 #[u, v, .int .i64 k] w fun e w' => ∃ o, e = .returned (.tuple #[o, .int .i64 (subF f d k).2]) ∧ ResI w' w.heap.size w'.heap.size o (subF f d k).1 ∧ Below w.heap.size w w' := by
  obtain ⟨A2, n2, k2, A3, n3, k3, rfl, hS⟩ := SysAt.box he h hh
  obtain ⟨A, n, rfl, hF⟩ := FrmAt.of g gh
  obtain ⟨st, ini, ls, es⟩ := d
  dsimp only at hS ⊢
  obtain ⟨W0, hW0⟩ : ∃ W', W' = w.alloc (.cells #[.int .i64 st, .int .i64 ini, .slice A2 n2 k2, .slice A3 n3 k3] 35) := ⟨_, rfl⟩
  have hb0 : Below w.heap.size w W0 := by rw [hW0]; exact (Below.refl _ _).alloc (Nat.le_refl _) _
  rw [← hW0] at hS
  replace hF := hF.below hb0
  have hz0 := hb0.size
  have q1 := code1_calls hS hF (c := n)
  obtain ⟨b0, b1, b2, b3⟩ := hS.facts
  replace hb0 := hide hb0
  clear he g h
  go_enter Tryz.func37, Tryz.ntmps37
  go_upto_region 1 with fail
  rw [← hW0]
  clear hW0
  by_cases hc : frmC f (st, ini, ls, es) = 0
  case neg =>
    have hval : Hid (subF f (st, ini, ls, es) k = ([], 1)) := by show _ = _; unfold subF; rw [if_neg hc, frmC_one hc]
    generalize frmC f (st, ini, ls, es) = oc at *
    replace q1 := hide q1
    have hcb : (oc != 0) = true := by simpa using hc
    clear hS hF
    go_wp2_with (first | (go_at_call 50; (with_reducible refine q1.out.mono ?_); rintro e w5 ⟨rfl, hb5⟩; replace hb5 := hide hb5))
    go_ret2
    exact ⟨.slice none 0 0, by rw [hval.out]; rfl, by rw [hval.out]; exact ⟨none, 0, 0, rfl, by omega, Sl.nil_⟩, hb0.out.trans (hb5.out.mono hz0)⟩
  obtain ⟨hV, hlv⟩ := frmC_ok hc
  rw [hc] at q1
  replace q1 := hide q1
  have hlen := hF.1.len
  have hnl := hV.len
  have qI := fun W => index_calls k n (by omega) W
  have hS' := hide hS
  cases hk : inB k 0 ((n : Int) - 1) with
  | false =>
    have hval : Hid (subF f (st, ini, ls, es) k = ([], 2)) := by show _ = _; unfold subF; rw [if_pos hc, hlen, hk]; rfl
    simp only [hk] at qI
    replace qI := hide qI
    clear hS hF hk hc hV hlv hlen hnl
    go_wp2_with (first | (go_at_call 50; (with_reducible refine q1.out.mono ?_); rintro e w5 ⟨rfl, hb5⟩; replace hb5 := hide hb5; clear q1) | (go_at_call 83; (with_reducible refine (qI.out _).mono ?_); rintro e w' ⟨rfl, rfl⟩))
    go_ret2
    exact ⟨.slice none 0 0, by rw [hval.out]; rfl, by rw [hval.out]; exact ⟨none, 0, 0, rfl, by omega, Sl.nil_⟩, hb0.out.trans (hb5.out.mono hz0)⟩
  | true =>
  simp only [hk] at qI
  replace qI := hide qI
  obtain ⟨hk0, hk1⟩ := inB_true.1 hk
  obtain ⟨K, rfl⟩ : ∃ K : Nat, k = (K : Int) := ⟨k.toNat, by omega⟩
  have hKn : K < n := by omega
  have hb40 := (lts_boundsB hlv).1
  obtain ⟨N, rfl⟩ : ∃ N : Nat, st = (N : Int) := ⟨st.toNat, by omega⟩
  have hN40 : N ≤ 40 := by omega
  have hval : Hid (subF f ((N : Int), ini, ls, es) (K : Int) = (idxOf (semP f ((N : Int), ini, ls, es) K), 0)) := by show _ = _; unfold subF; rw [if_pos hc, hlen, if_pos hk]; rfl
  have hwon : wonS f ((N : Int), ini, ls, es) none K = semP f ((N : Int), ini, ls, es) K := wonS_none hV hlv (by omega)
  have q2 := fun (W : World) (hW : Below W0.heap.size W0 W) => (hS.below hW).sem (hF.below hW) hV hlv (vs := .slice none 0 0) (set := none) rfl hKn (c := n)
  rw [hwon] at q2
  replace q2 := hide q2
  clear hc hS hF hV hlv hwon hk hlen hnl
  go_wp2_with (first | (go_at_call 50; (with_reducible refine q1.out.mono ?_); rintro e w5 ⟨rfl, hb5⟩; have q3 := hide (q2.out w5 hb5); obtain ⟨d0, d1, d2, d3⟩ := (hS'.out.below hb5).facts; replace hb5 := hide hb5; clear q1) | (go_at_call 83; (with_reducible refine (qI.out _).mono ?_); rintro e w' ⟨rfl, rfl⟩) | (go_at_call 51; (with_reducible refine q3.out.mono ?_); rintro e w6 ⟨A6, c6, rfl, hs6, hb6⟩; have q4 := hide (trueAt_calls A6 N c6 _ w6 _ _ hs6 (by omega)); replace hb6 := hide hb6; clear hs6) | (go_at_call 75; (with_reducible refine q4.out.mono ?_); rintro e w7 ⟨A7, c7, rfl, ho7, hb7⟩; replace ho7 := hide ho7; replace hb7 := hide hb7))
  go_ret2
  have hb6w := hb0.out.trans ((hb5.out.trans (hb6.out.mono hb5.out.size)).mono hz0)
  have hbw := hb6w.trans (hb7.out.mono hb6w.size)
  have hle : (idxOf (semP f ((N : Int), ini, ls, es) K)).length ≤ 40 := by
    have h1 := List.length_filter_le (inS (semP f ((N : Int), ini, ls, es) K)) (List.range (semP f ((N : Int), ini, ls, es) K).length)
    rw [List.length_range, semP_len] at h1
    unfold idxOf
    rw [List.length_map, semP_len]
    exact Nat.le_trans h1 hN40
  exact ⟨.slice A7 _ c7, by rw [hval.out]; rfl, by rw [hval.out]; exact ⟨A7, _, c7, rfl, by omega, (ho7.out.sl flat_iv).more hb6w.size (Nat.le_refl _)⟩, hbw⟩

end Go.Proofs.YtanlgnjgpbjebaaGreatDoor
