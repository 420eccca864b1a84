/-
  Several texts in one:
  Slices of the call's own that grow: what they hold, and append from any slice that reads as a list. Conditions: the new length times the element's bytes is at most 2^47.
  A region that draws its order and ends in a store to a cell that it loads: reads are taken first, what is known of the world need not hold behind the last store. Conditions: none.
  A growing row of lists of bools, each in a block of its own. Conditions: none.
  Two lists of bools and two boxes for them, made in any order. Conditions: none.
  slices.DeleteFunc on a list of numbers, at a test that answers a bool. Conditions: at most 1048576 elements.
  Reachable states, by the program; BlockingStates, by both. Conditions: sizes.
  Two formulas compared on a system, by the program. Conditions: none.
  Two formulas compared on a system, by the reference. Conditions: none.
-/
import Derived.Test.YtanlgnjgpbjebaaGreatDoorBaseA
import Derived.Test.YtanlgnjgpbjebaaGreatDoorBaseB
import Derived.Test.YtanlgnjgpbjebaaGreatDoorBaseC
import Derived.Test.YtanlgnjgpbjebaaGreatDoorBaseD
import Derived.Test.YtanlgnjgpbjebaaGreatDoorBaseE
import Derived.Test.YtanlgnjgpbjebaaGreatDoorBaseF
import Derived.Test.YtanlgnjgpbjebaaGreatDoorBaseG
import Derived.Test.YtanlgnjgpbjebaaGreatDoorBaseH
import Derived.Test.YtanlgnjgpbjebaaGreatDoorBaseI
import Derived.Test.YtanlgnjgpbjebaaGreatDoorBaseJ
import Derived.Test.YtanlgnjgpbjebaaGreatDoorBaseK
import Derived.Test.YtanlgnjgpbjebaaGreatDoorBaseL
import Derived.Test.YtanlgnjgpbjebaaGreatDoorBaseM
import Derived.Maps.AppendAt
import Derived.Laws.OwnMore
import Derived.OwnWalk
import Derived.StillTail
import Derived.OrdersHeld
import Derived.Deep.RegionHeld3
import Derived.Lib.SliceRun
import Derived.Deep.DeepCutAuto
import Derived.WalkKit
import Derived.ProofKit
import Derived.OpenShut
import Derived.Handy
import Derived.Below
import Derived.Deep.Draws
import Derived.Laws.MakeOwn
import Derived.Deep.RegionLaw
import Derived.Test.YtanlgnjgpbjebaaGreatDoorRows
import Derived.LoopTactic
import Derived.Shelf.Strings.Builder1
import Derived.Shelf.Strings.Builder2
import Derived.Shelf.Strings.OnBuilder
import Derived.Shelf.Small.Bits
import Derived.Shelf.Strings.BuilderF
import Derived.Shelf.Strings.BuilderK
import Derived.Shelf.Utf8.RuneCount
import Derived.Shelf.Strings.Builder2Cap
import Derived.Shelf.Strconv.Itoa0
import Derived.Shelf.Strconv.Itoa1
import Derived.Shelf.LaysM
import Derived.Shelf.Strconv.Itoa2
import Derived.Shelf.Strconv.Itoa3
import Derived.Shelf.Strconv.Itoa4
import Derived.Shelf.Strconv.ParseIntEmpty
import Derived.Shelf.Strconv.Clone
import Derived.Shelf.Strconv.SyntaxError
import Derived.Shelf.LaysC
import Derived.Shelf.Strconv.ToError
import Derived.Shelf.Strconv.Lower
import Derived.Shelf.Strconv.ParseUint10
import Derived.Shelf.Strconv.ParseUint10Empty
import Derived.Shelf.Strconv.ParseUint10Any
import Derived.Shelf.Strconv.ParseInt10
import Derived.Shelf.Strconv.RangeError
import Derived.Shelf.Strconv.ToErrorRange
import Derived.Shelf.Strconv.ParseUintEmpty
import Derived.Shelf.Strconv.ParseUint10b64
import Derived.Shelf.Strconv.ParseUint10b32
import Derived.Shelf.Strconv.ParseUint10b16
import Derived.Shelf.Strconv.ParseUint10b8
import Derived.Shelf.Strconv.ParseUint10At
import Derived.Shelf.Strconv.ParseInt10At64
import Derived.Shelf.Strconv.ParseInt10At32
import Derived.Shelf.Strconv.ParseInt10At16
import Derived.Shelf.Strconv.ParseInt10At8
import Derived.Shelf.Strconv.ParseInt10All
import Derived.Shelf.Strconv.ParseIntPublic10
import Derived.Shelf.Strconv.ErrVarParseInt
import Derived.Shelf.Strings.Search1
import Derived.Shelf.Strings.Search2
import Derived.Shelf.Strings.Search3
import Derived.Shelf.Strings.Cut
import Derived.Shelf.Strings.Count
import Derived.Shelf.Strings.Shaped
import Derived.Shelf.Strings.Prefix
import Derived.Shelf.Strings.Split
import Derived.Shelf.Strings.SplitShaped
import Derived.Shelf.Unicode.Decode
import Derived.Shelf.Strings.RuneCount
import Derived.Shelf.Strings.Explode
import Derived.Shelf.Bits.Mul64
import Derived.Shelf.Unicode.DecodeSlow
import Derived.Shelf.Unicode.DecodeAny
import Derived.Ground.SlgnProg
import Derived.Shelf.SlicesG.Clone
import Derived.Shelf.SlicesG.CompactI
import Derived.Shelf.SlicesG.SearchI
import Derived.Shelf.SlicesG.Cells
import Derived.Shelf.SlicesE.Clone
import Derived.Ground.SlgcProg
import Derived.Shelf.SlicesG.Cmp
import Derived.Ground.SlgmProg
import Derived.Shelf.SortM.Plain
import Derived.Shelf.SortM.SortNone
import Derived.Test.YtanlgnjgpbjebaaGreatDoorProg
import Derived.LaidMore
import Derived.LaidLaws
import Derived.HandedShaped
import Derived.Stop.LaidErr
import Derived.Lib.LaidTab
import Derived.RegionTactic
import Derived.ChangeAlike
import Derived.StillTailTactics
import Derived.Outline
import Derived.Lib.ParseIntB
import Derived.Lib.ItoaNum
import Derived.Lib.Strings
import Derived.Lib.Split
import Derived.Lib.Join
import Derived.Lib.AppendIntMem
import Derived.WalkSmall
import Derived.Lib.QuietBelow
import Derived.BigQuiet
import Derived.Laws.Cover1
import Derived.IntWalk
import Derived.Deep.LoopGhost
import Derived.Laws.BytesArg
import Derived.Deep.Slices
import Derived.Deep.Fields
import Derived.ChangeSame
import Derived.ChangeOld
import Derived.Shelf.SlicesG.Turned
import Derived.Shelf.SlGeneric
import Derived.OneCell
import Derived.Deep.QuietTactic
import Derived.WalkSpells
import Derived.Lib.ItoaLen
import Derived.Maps.OwnSet
import Derived.Maps.Views
import Derived.ArgAppend
import Derived.Laws.Cover3
import Derived.Deep.CutBlock
import Derived.Laws.CopyOwn
import Derived.Laws.Bits64b
import Derived.Deep.CutRange
set_option linter.unusedVariables false
set_option linter.unusedSimpArgs false
set_option linter.unusedSimpArgs false
set_option linter.unusedVariables false
namespace Go.Proofs.YtanlgnjgpbjebaaGreatDoor
open Go.RowKit

section
variable {α : Type} {size : Nat} {f : α → List Value} {w w' : World} {base n c : Nat} {e : TypeId} {A : Option Addr} {l : List α}

end

section
variable {P : Program} {α : Type} {size bytes : Nat} {f : α → List Value} {t e : TypeId}

end

theorem Own.cap {α : Type} {size : Nat} {f : α → List Value} {w : World} {base n c : Nat} {e : TypeId} {A : Option Addr} {l : List α} (h : Own size f w base e A n c l) : n ≤ c := by
  rcases h.2.2 with ⟨hv, h0⟩ | ⟨g, cap, cur, hv, _, _, hnc, _⟩
  · omega
  · injection hv with _ _ h3
    omega

end Go.Proofs.YtanlgnjgpbjebaaGreatDoor

namespace Go.Proofs.YtanlgnjgpbjebaaGreatDoor
open Go
set_option linter.unusedVariables false

section
variable {P : Program} {ops : Array Oper} {Q : Exit → Act → World → Prop} {md : Region.Mode} {S : World → Prop} {st : Nat}

/-- One of two operations comes next. -/
theorem lateT_two {i j : Nat} {o o' : Oper} {m : Nat} {got : Array Bool} {a : Act} {w : World} (hr : Region.ready md ops got = [i, j]) (ho : ops[i]? = some o) (ho' : ops[j]? = some o')
    (h : ∀ K : Act → World → Prop, Shut (∀ a w, (i ≠ st → S w) → lateT P md ops Q S st m (got.setIfInBounds i true) a w → K a w) → if Region.wanted o (yielded ops a.tmps) = true then Oper.wp P o a w K Q else K (a.put o.dst undef) w)
    (h' : ∀ K : Act → World → Prop, Shut (∀ a w, (j ≠ st → S w) → lateT P md ops Q S st m (got.setIfInBounds j true) a w → K a w) → if Region.wanted o' (yielded ops a.tmps) = true then Oper.wp P o' a w K Q else K (a.put o'.dst undef) w) : lateT P md ops Q S st (m + 1) got a w := by
  refine ⟨fun h0 => (by rw [hr] at h0; cases h0), fun k hk => ?_⟩
  rw [hr] at hk
  rcases List.mem_cons.1 hk with rfl | hk
  · exact wpOp_step ho fun K hK => h K fun a w hS hl => hK a w ⟨hS, hl⟩
  · obtain rfl := List.mem_singleton.1 hk
    exact wpOp_step ho' fun K hK => h' K fun a w hS hl => hK a w ⟨hS, hl⟩
end

end Go.Proofs.YtanlgnjgpbjebaaGreatDoor

namespace Go.Proofs.YtanlgnjgpbjebaaGreatDoor
open Go.ChangeShapes Go.WideShapes Go.ChangeAt Go.RowKit
set_option linter.unusedVariables false
set_option linter.unusedSimpArgs false

abbrev HB := Option Addr × Nat
def hbV (N : Nat) (x : HB) : List Value := [.slice x.1 N x.2]
theorem flat_hbV (N : Nat) : Flat (hbV N) 1 := ⟨fun _ => rfl, fun x u h => by simp [hbV] at h; subst h; rfl⟩
/-- Rows of N bools; the row of their handles is the call's own. -/
structure GrowB (w : World) (base N : Nat) (A : Option Addr) (n c : Nat) (R : List (HB × List Bool)) : Prop where
  own : Own 1 (hbV N) w base 65 A n c (R.map (·.1))
  rows : ∀ r ∈ R, SlB w base w.heap.size r.1.1 N r.2
  off : ∀ r ∈ R, 0 < N → ∀ b off, r.1.1 = some ⟨b, off, none⟩ → (Value.slice A n c).ownBlock ≠ some b
section
variable {w w4 w5 w' : World} {base N n c : Nat} {A : Option Addr} {R : List (HB × List Bool)}
theorem GrowB.len (h : GrowB w base N A n c R) : R.length = n := by have := h.own.len; rwa [List.length_map] at this
theorem GrowB.nil_ (w : World) (base N : Nat) : GrowB w base N none 0 0 [] := ⟨Own.nil_ _ _ _, fun _ h => (List.not_mem_nil h).elim, fun _ h => (List.not_mem_nil h).elim⟩
/-- The blocks from base on stay. -/
theorem GrowB.keep (h : GrowB w base N A n c R) (hs : w.heap.size ≤ w'.heap.size) (hk : ∀ b, base ≤ b → b < w.heap.size → w'.heap[b]? = w.heap[b]?) : GrowB w' base N A n c R :=
  ⟨h.own.keep fun g hg => hk g (h.own.lt g hg).1 (h.own.lt g hg).2, fun r hr => ((h.rows r hr).keep hs fun b h1 _ h3 => hk b h1 h3).more (Nat.le_refl _) hs, h.off⟩
theorem GrowB.below (h : GrowB w base N A n c R) (hb : Below w.heap.size w w') : GrowB w' base N A n c R := h.keep hb.size fun b _ h2 => hb.block b h2
theorem GrowB.but {T : Nat → Prop} (h : GrowB w base N A n c R) (hb : But T w w') (hT : ∀ x, T x → x < base) : GrowB w' base N A n c R :=
  h.keep hb.size fun b h1 h2 => hb.block b h2 fun ht => by have := hT b ht; omega
/-- A first row. -/
theorem GrowB.one {Ah : Option Addr} {ch : Nat} {s : List Bool} (hs : SlB w base w.heap.size Ah N s) (hb : base ≤ w.heap.size) : GrowB (w.alloc (.cells #[.slice Ah N ch] 65)) base N (some ⟨w.heap.size, 0, none⟩) 1 1 [((Ah, ch), s)] := by
  have hbel : Below w.heap.size w (w.alloc (.cells #[.slice Ah N ch] 65)) := (Below.refl _ _).alloc (Nat.le_refl _) _
  refine ⟨⟨rfl, by simp [hbV], .inr ⟨w.heap.size, 1, #[.slice Ah N ch], rfl, hb, heap_alloc_new w _, Nat.le_refl _, by decide, rfl, rfl⟩⟩, fun r hr => ?_, fun r hr hN b off e => ?_⟩
  · obtain rfl := List.mem_singleton.1 hr
    exact (hs.below hbel (.inr (Nat.le_refl _))).more (Nat.le_refl _) hbel.size
  · obtain rfl := List.mem_singleton.1 hr
    obtain ⟨b', off', e', -, -, g3, -⟩ := hs.at_ hN
    have e : Ah = _ := e
    rw [e] at e'
    cases e'
    intro e2
    have e2 : some w.heap.size = some b := e2
    injection e2 with e2
    omega
/-- A further row. -/
theorem GrowB.push (h : GrowB w4 base N A n c R) {Ah : Option Addr} {ch : Nat} {s : List Bool} (hs : SlB w4 base w4.heap.size Ah N s) (ho : ∀ b off, 0 < N → Ah = some ⟨b, off, none⟩ → (Value.slice A n c).ownBlock ≠ some b)
    {A5 : Option Addr} {c5 : Nat} (hown : Own 1 (hbV N) w5 base 65 A5 (n + 1) c5 (R.map (·.1) ++ [(Ah, ch)])) (hgr : w4.grownBy w5 (Value.slice A n c).ownBlock)
    (hat : (Value.slice A5 (n + 1) c5).ownBlock = (Value.slice A n c).ownBlock ∨ (Value.slice A5 (n + 1) c5).ownBlock = some w4.heap.size) :
    GrowB w5 base N A5 (n + 1) c5 (R ++ [((Ah, ch), s)]) := by
  have hz5 := hgr.size
  have keepS : ∀ (B : Option Addr) (l : List Bool), SlB w4 base w4.heap.size B N l → (∀ b off, 0 < N → B = some ⟨b, off, none⟩ → (Value.slice A n c).ownBlock ≠ some b) → SlB w5 base w5.heap.size B N l := by
    intro B l hl hne
    refine ⟨hl.1, fun hm => ?_⟩
    obtain ⟨b, off, rfl, g1, g2, g3, hc⟩ := hl.2 hm
    have hk := hgr.block b g3 (fun e => hne b off hm rfl e.symm)
    refine ⟨b, off, rfl, g1, by omega, by omega, fun k x hx j u hu => ?_⟩
    obtain ⟨h1, h2⟩ := hc k x hx j u hu
    exact ⟨(World.cell?_of_block (w := w4) (by simpa using hk)).trans h1, (World.frozen?_of_block (w := w4) (by simpa using hk)).trans h2⟩
  have hoff : ∀ (B : Option Addr) (l : List Bool), SlB w4 base w4.heap.size B N l → (∀ b off, 0 < N → B = some ⟨b, off, none⟩ → (Value.slice A n c).ownBlock ≠ some b) → ∀ b off, 0 < N → B = some ⟨b, off, none⟩ → (Value.slice A5 (n + 1) c5).ownBlock ≠ some b := by
    intro B l hl hne b off hN e
    rcases hat with h1 | h1
    · rw [h1]; exact hne b off hN e
    · rw [h1]
      obtain ⟨b', off', e', -, -, g3, -⟩ := hl.at_ hN
      rw [e] at e'
      cases e'
      intro e2
      injection e2 with e2
      omega
  refine ⟨by rw [List.map_append]; exact hown, fun r hr => ?_, fun r hr hm b off e => ?_⟩
  · rcases List.mem_append.1 hr with hr | hr
    · exact keepS _ _ (h.rows r hr) fun b off hm e => h.off r hr hm b off e
    · obtain rfl := List.mem_singleton.1 hr
      exact keepS _ _ hs ho
  · rcases List.mem_append.1 hr with hr | hr
    · exact hoff _ _ (h.rows r hr) (fun b off hm e => h.off r hr hm b off e) b off hm e
    · obtain rfl := List.mem_singleton.1 hr
      exact hoff _ _ hs ho b off hm e
/-- Row k. -/
theorem GrowB.get (h : GrowB w base N A n c R) {k : Nat} (hk : k < n) : ∃ b off Ah ch s, A = some ⟨b, off, none⟩ ∧ base ≤ b ∧ b < w.heap.size ∧ R[k]? = some ((Ah, ch), s) ∧ w.cell? ⟨b, off + k, none⟩ = some (.slice Ah N ch) ∧ SlB w base w.heap.size Ah N s ∧
    ∀ b off, 0 < N → Ah = some ⟨b, off, none⟩ → (Value.slice A n c).ownBlock ≠ some b := by
  have hl := h.len
  obtain ⟨b, off, e, g1, g2, g3, hc⟩ := (h.own.sl (flat_hbV N)).at_ (by omega)
  have hr : R[k]? = some R[k] := List.getElem?_eq_getElem (by omega)
  have hm : R[k] ∈ R := List.getElem_mem _
  have h0 := (hc k R[k].1 (by rw [List.getElem?_map, hr]; rfl) 0 _ rfl).1
  rw [Nat.mul_one, Nat.add_zero] at h0
  exact ⟨b, off, R[k].1.1, R[k].1.2, R[k].2, e, g1, g3, hr, h0, h.rows _ hm, fun b off hN e => h.off _ hm hN b off e⟩
/-- The blocks of the row of handles. -/
def ownP (A : Option Addr) (n c : Nat) (b : Nat) : Prop := (Value.slice A n c).ownBlock = some b
theorem GrowB.has (h : GrowB w base N A n c R) {k : Nat} {Ah : Option Addr} {ch : Nat} {s : List Bool} (hk : R[k]? = some ((Ah, ch), s)) (hN : N ≤ 1048576) {T : Nat → Prop} (hT : ∀ x, T x → ownP A n c x ∨ x < base) : HasB T w (.slice Ah N ch) s := by
  have hm : ((Ah, ch), s) ∈ R := List.mem_of_getElem? hk
  refine ⟨Ah, N, ch, rfl, hN, (h.rows _ hm).more (Nat.zero_le _) (Nat.le_refl _), fun a ha h0 ht => ?_⟩
  obtain ⟨b, off, e, g1, -⟩ := (h.rows _ hm).at_ h0
  have e : Ah = _ := e
  rw [ha] at e
  cases e
  rcases hT _ ht with e1 | e1
  · exact h.off _ hm h0 b off ha e1
  · have e1 : b < base := e1
    omega
end

end Go.Proofs.YtanlgnjgpbjebaaGreatDoor

namespace Go.Proofs.YtanlgnjgpbjebaaGreatDoor
open Go.ChangeShapes Go.WideShapes Go.ChangeAt Go.RowKit
set_option linter.unusedVariables false
set_option linter.unusedSimpArgs false

/-- Since the world wb: boxes p and q with what lies in them, lists r and s of N bools. -/
structure DifW (wb w : World) (N : Nat) (p q : Option (Nat × Value)) (r s : Option (HB × List Bool)) : Prop where
  below : Below wb.heap.size wb w
  hp : ∀ b v, p = some (b, v) → wb.heap.size ≤ b ∧ w.heap[b]? = some (.cells #[v] 65 (0, 0))
  hq : ∀ b v, q = some (b, v) → wb.heap.size ≤ b ∧ w.heap[b]? = some (.cells #[v] 65 (0, 0))
  ne : ∀ b v b' v', p = some (b, v) → q = some (b', v') → b ≠ b'
  hr : ∀ A c l, r = some ((A, c), l) → SlB w wb.heap.size w.heap.size A N l ∧ ∀ b off, 0 < N → A = some ⟨b, off, none⟩ → (∀ v, p ≠ some (b, v)) ∧ ∀ v, q ≠ some (b, v)
  hs : ∀ A c l, s = some ((A, c), l) → SlB w wb.heap.size w.heap.size A N l ∧ ∀ b off, 0 < N → A = some ⟨b, off, none⟩ → (∀ v, p ≠ some (b, v)) ∧ ∀ v, q ≠ some (b, v)
section
variable {wb w w' : World} {N : Nat} {p q : Option (Nat × Value)} {r s : Option (HB × List Bool)}
theorem DifW.start (wb : World) (N : Nat) : DifW wb wb N none none none none :=
  ⟨Below.refl _ _, fun _ _ h => (by cases h), fun _ _ h => (by cases h), fun _ _ _ _ h => (by cases h), fun _ _ _ h => (by cases h), fun _ _ _ h => (by cases h)⟩
theorem DifW.drew (h : DifW wb w N p q r s) : DifW wb w.drew N p q r s := ⟨h.below.drew, h.hp, h.hq, h.ne, h.hr, h.hs⟩
theorem DifW.keep (h : DifW wb w N p q r s) (hb : Below w.heap.size w w') : DifW wb w' N p q r s := by
  have hz := h.below.size
  refine ⟨h.below.trans (hb.mono hz), fun b v e => ?_, fun b v e => ?_, h.ne, fun A c l e => ?_, fun A c l e => ?_⟩
  · have := h.hp b v e; exact ⟨this.1, (hb.block b (Array.getElem?_eq_some_iff.1 this.2).1).trans this.2⟩
  · have := h.hq b v e; exact ⟨this.1, (hb.block b (Array.getElem?_eq_some_iff.1 this.2).1).trans this.2⟩
  · have := h.hr A c l e; exact ⟨(this.1.below hb (.inr (Nat.le_refl _))).more (Nat.le_refl _) hb.size, this.2⟩
  · have := h.hs A c l e; exact ⟨(this.1.below hb (.inr (Nat.le_refl _))).more (Nat.le_refl _) hb.size, this.2⟩
theorem DifW.allocP (h : DifW wb w N none q r s) (v : Value) : DifW wb (w.alloc (.cells #[v] 65)) N (some (w.heap.size, v)) q r s := by
  have hb : Below w.heap.size w (w.alloc (.cells #[v] 65)) := (Below.refl _ _).alloc (Nat.le_refl _) _
  have h1 := h.keep hb
  have hz := h.below.size
  refine ⟨h1.below, fun b u e => ?_, h1.hq, fun b u b' u' e e' => ?_, fun A c l e => ?_, fun A c l e => ?_⟩
  · cases e; exact ⟨hz, heap_alloc_new w _⟩
  · cases e
    have := (Array.getElem?_eq_some_iff.1 (h.hq b' u' e').2).1
    omega
  · refine ⟨(h1.hr A c l e).1, fun b off hN hA => ⟨fun u e2 => ?_, ((h.hr A c l e).2 b off hN hA).2⟩⟩
    cases e2
    obtain ⟨b', off', e3, -, -, g3, -⟩ := (h.hr A c l e).1.at_ hN
    rw [hA] at e3; cases e3; omega
  · refine ⟨(h1.hs A c l e).1, fun b off hN hA => ⟨fun u e2 => ?_, ((h.hs A c l e).2 b off hN hA).2⟩⟩
    cases e2
    obtain ⟨b', off', e3, -, -, g3, -⟩ := (h.hs A c l e).1.at_ hN
    rw [hA] at e3; cases e3; omega
theorem DifW.allocQ (h : DifW wb w N p none r s) (v : Value) : DifW wb (w.alloc (.cells #[v] 65)) N p (some (w.heap.size, v)) r s := by
  have hb : Below w.heap.size w (w.alloc (.cells #[v] 65)) := (Below.refl _ _).alloc (Nat.le_refl _) _
  have h1 := h.keep hb
  have hz := h.below.size
  refine ⟨h1.below, h1.hp, fun b u e => ?_, fun b u b' u' e e' => ?_, fun A c l e => ?_, fun A c l e => ?_⟩
  · cases e; exact ⟨hz, heap_alloc_new w _⟩
  · cases e'
    have := (Array.getElem?_eq_some_iff.1 (h.hp b u e).2).1
    omega
  · refine ⟨(h1.hr A c l e).1, fun b off hN hA => ⟨((h.hr A c l e).2 b off hN hA).1, fun u e2 => ?_⟩⟩
    cases e2
    obtain ⟨b', off', e3, -, -, g3, -⟩ := (h.hr A c l e).1.at_ hN
    rw [hA] at e3; cases e3; omega
  · refine ⟨(h1.hs A c l e).1, fun b off hN hA => ⟨((h.hs A c l e).2 b off hN hA).1, fun u e2 => ?_⟩⟩
    cases e2
    obtain ⟨b', off', e3, -, -, g3, -⟩ := (h.hs A c l e).1.at_ hN
    rw [hA] at e3; cases e3; omega
theorem DifW.callR {A : Option Addr} {c : Nat} {l : List Bool} (h : DifW wb w N p q none s) (hb : Below w.heap.size w w') (hl : SlB w' w.heap.size w'.heap.size A N l) : DifW wb w' N p q (some ((A, c), l)) s := by
  have h1 := h.keep hb
  refine ⟨h1.below, h1.hp, h1.hq, h1.ne, fun A' c' l' e => ?_, h1.hs⟩
  cases e
  refine ⟨hl.more h.below.size (Nat.le_refl _), fun b off hN hA => ?_⟩
  obtain ⟨b', off', e3, g1, -⟩ := hl.at_ hN
  rw [hA] at e3; cases e3
  exact ⟨fun v e => by have := (Array.getElem?_eq_some_iff.1 (h.hp b v e).2).1; omega, fun v e => by have := (Array.getElem?_eq_some_iff.1 (h.hq b v e).2).1; omega⟩
theorem DifW.callS {A : Option Addr} {c : Nat} {l : List Bool} (h : DifW wb w N p q r none) (hb : Below w.heap.size w w') (hl : SlB w' w.heap.size w'.heap.size A N l) : DifW wb w' N p q r (some ((A, c), l)) := by
  have h1 := h.keep hb
  refine ⟨h1.below, h1.hp, h1.hq, h1.ne, h1.hr, fun A' c' l' e => ?_⟩
  cases e
  refine ⟨hl.more h.below.size (Nat.le_refl _), fun b off hN hA => ?_⟩
  obtain ⟨b', off', e3, g1, -⟩ := hl.at_ hN
  rw [hA] at e3; cases e3
  exact ⟨fun v e => by have := (Array.getElem?_eq_some_iff.1 (h.hp b v e).2).1; omega, fun v e => by have := (Array.getElem?_eq_some_iff.1 (h.hq b v e).2).1; omega⟩
theorem SlB.setOther {lo hi b : Nat} {A : Option Addr} {l : List Bool} {o : Nat} {v : Value} (h : SlB w lo hi A N l) (hne : ∀ b' off, 0 < N → A = some ⟨b', off, none⟩ → b' ≠ b) : SlB (w.setCell ⟨b, o, none⟩ v) lo hi A N l := by
  refine ⟨h.1, fun hN => ?_⟩
  obtain ⟨b', off, e, g1, g2, g3, hc⟩ := h.2 hN
  have hk := Below.heap_setCell w ⟨b, o, none⟩ v b' (hne b' off hN e)
  refine ⟨b', off, e, g1, g2, by rw [World.size_setCell]; exact g3, fun k x hx j u hu => ?_⟩
  obtain ⟨h1, h2⟩ := hc k x hx j u hu
  exact ⟨(World.cell?_of_block (w := w) (by simpa using hk)).trans h1, (World.frozen?_of_block (w := w) (by simpa using hk)).trans h2⟩
theorem DifW.storeP {b : Nat} {v : Value} (h : DifW wb w N (some (b, v)) q r s) (u : Value) : DifW wb (w.setCell ⟨b, 0, none⟩ u) N (some (b, u)) q r s := by
  have hb := h.hp b v rfl
  refine ⟨h.below.setCell hb.1 _, fun b' u' e => ?_, fun b' u' e => ?_, fun b1 u1 b2 u2 e1 e2 => ?_, fun A c l e => ?_, fun A c l e => ?_⟩
  · cases e; exact ⟨hb.1, heap_setCell_same _ _ _ _ _ _ hb.2⟩
  · have h1 := h.hq b' u' e
    have := h.ne b v b' u' rfl e
    exact ⟨h1.1, (Below.heap_setCell _ _ _ _ (by intro e; (try dsimp only at e); omega)).trans h1.2⟩
  · cases e1; exact h.ne _ v _ _ rfl e2
  · have h1 := h.hr A c l e
    refine ⟨by rw [World.size_setCell]; exact h1.1.setOther fun b' off hN hA e2 => (h1.2 b' off hN hA).1 v (by rw [e2]), fun b' off hN hA => ⟨fun u' e2 => ?_, (h1.2 b' off hN hA).2⟩⟩
    cases e2; exact (h1.2 _ off hN hA).1 v rfl
  · have h1 := h.hs A c l e
    refine ⟨by rw [World.size_setCell]; exact h1.1.setOther fun b' off hN hA e2 => (h1.2 b' off hN hA).1 v (by rw [e2]), fun b' off hN hA => ⟨fun u' e2 => ?_, (h1.2 b' off hN hA).2⟩⟩
    cases e2; exact (h1.2 _ off hN hA).1 v rfl
theorem DifW.storeQ {b : Nat} {v : Value} (h : DifW wb w N p (some (b, v)) r s) (u : Value) : DifW wb (w.setCell ⟨b, 0, none⟩ u) N p (some (b, u)) r s := by
  have hb := h.hq b v rfl
  refine ⟨h.below.setCell hb.1 _, fun b' u' e => ?_, fun b' u' e => ?_, fun b1 u1 b2 u2 e1 e2 => ?_, fun A c l e => ?_, fun A c l e => ?_⟩
  · have h1 := h.hp b' u' e
    have := h.ne b' u' b v e rfl
    exact ⟨h1.1, (Below.heap_setCell _ _ _ _ (by intro e; (try dsimp only at e); omega)).trans h1.2⟩
  · cases e; exact ⟨hb.1, heap_setCell_same _ _ _ _ _ _ hb.2⟩
  · cases e2; exact h.ne _ _ _ v e1 rfl
  · have h1 := h.hr A c l e
    refine ⟨by rw [World.size_setCell]; exact h1.1.setOther fun b' off hN hA e2 => (h1.2 b' off hN hA).2 v (by rw [e2]), fun b' off hN hA => ⟨(h1.2 b' off hN hA).1, fun u' e2 => ?_⟩⟩
    cases e2; exact (h1.2 _ off hN hA).2 v rfl
  · have h1 := h.hs A c l e
    refine ⟨by rw [World.size_setCell]; exact h1.1.setOther fun b' off hN hA e2 => (h1.2 b' off hN hA).2 v (by rw [e2]), fun b' off hN hA => ⟨(h1.2 b' off hN hA).1, fun u' e2 => ?_⟩⟩
    cases e2; exact (h1.2 _ off hN hA).2 v rfl
theorem DifW.atP {b : Nat} {v : Value} (h : DifW wb w N (some (b, v)) q r s) : w.cell? ⟨b, 0, none⟩ = some v ∧ w.frozen? ⟨b, 0, none⟩ = false := ⟨(cell_of_row _ _ 0 _ _ (0, 0) (h.hp b v rfl).2).trans rfl, frozen_of_row _ _ _ _ _ (h.hp b v rfl).2⟩
theorem DifW.atQ {b : Nat} {v : Value} (h : DifW wb w N p (some (b, v)) r s) : w.cell? ⟨b, 0, none⟩ = some v ∧ w.frozen? ⟨b, 0, none⟩ = false := ⟨(cell_of_row _ _ 0 _ _ (0, 0) (h.hq b v rfl).2).trans rfl, frozen_of_row _ _ _ _ _ (h.hq b v rfl).2⟩
end
/-- What is said of two formulas and a system. -/
noncomputable def twoC (f g : DN) (d : DL) : Int := codC [f, g] d
theorem twoC_ok {f g : DN} {d : DL} (h : twoC f g d = 0) : ValF f ∧ ValF g ∧ ltsV d = true := by
  unfold twoC codC at h
  split at h
  · rename_i e
    simp only [List.all_cons, List.all_nil, Bool.and_true, Bool.and_eq_true] at e
    exact ⟨isB_val e.2.1, isB_val e.2.2, e.1⟩
  · cases h
theorem twoC_bad {f g : DN} {d : DL} (h : (isB f && isB g && ltsV d) = false) : twoC f g d = 1 := by
  unfold twoC codC
  simp only [List.all_cons, List.all_nil, Bool.and_true]
  rw [Bool.and_comm, h]; rfl
theorem twoC_good {f g : DN} {d : DL} (h : (isB f && isB g && ltsV d) = true) : twoC f g d = 0 := by
  unfold twoC codC
  simp only [List.all_cons, List.all_nil, Bool.and_true]
  rw [Bool.and_comm, h]; rfl
/-- What is asked of two formulas. -/
theorem code2_calls {w : World} {bt : Nat} {s0 ini : Int} {A A' A2 A3 : Option Addr} {n n' n2 k2 n3 k3 : Nat} {ls : List ByteArray} {es : List Ed} {f f' : DN} (h : SysAt w bt s0 ini A2 n2 k2 A3 n3 k3 ls es) (g : FrmAt w A n f) (g' : FrmAt w A' n' f') {c c' : Nat} :
    Calls Tryz.prog 50 #[.agg #[.int .i64 s0, .int .i64 ini, .slice A2 n2 k2, .slice A3 n3 k3], .slice (some ⟨w.heap.size, 0, none⟩) 2 2] (w.alloc (.cells #[.slice A n c, .slice A' n' c'] 31)) fun e w' => e = .returned (.int .i64 (twoC f f' (s0, ini, ls, es))) ∧ Below w.heap.size w w' := by
  have hb : Below w.heap.size w (w.alloc (.cells #[.slice A n c, .slice A' n' c'] 31)) := (Below.refl _ _).alloc (Nat.le_refl _) _
  have h1 := h.below hb
  have g1 := g.below hb
  have g2 := g'.below hb
  have hN : SlNN (w.alloc (.cells #[.slice A n c, .slice A' n' c'] 31)) 0 (w.alloc (.cells #[.slice A n c, .slice A' n' c'] 31)).heap.size (some ⟨w.heap.size, 0, none⟩) 2 [((A, n, c), f), ((A', n', c'), f')] := by
    have k := heap_alloc_new w (.cells #[.slice A n c, .slice A' n' c'] 31)
    refine ⟨⟨rfl, fun _ => ⟨w.heap.size, 0, rfl, Nat.zero_le _, by simp, by simp, fun j x hx i u hu => ?_⟩⟩, fun r hr => ?_⟩
    · match j, hx with
      | 0, hx =>
        simp at hx
        subst hx
        match i, hu with
        | 0, hu => simp [sv] at hu; subst hu; exact ⟨(cell_of_row _ _ 0 _ _ (0, 0) k).trans rfl, frozen_of_row _ _ _ _ _ k⟩
        | i + 1, hu => simp [sv] at hu
      | 1, hx =>
        simp at hx
        subst hx
        match i, hu with
        | 0, hu => simp [sv] at hu; subst hu; exact ⟨(cell_of_row _ _ 1 _ _ (0, 0) k).trans rfl, frozen_of_row _ _ _ _ _ k⟩
        | i + 1, hu => simp [sv] at hu
      | j + 2, hx => simp at hx
    · rcases List.mem_cons.1 hr with rfl | hr
      · exact ⟨g1.1, g1.2⟩
      · obtain rfl := List.mem_singleton.1 hr
        exact ⟨g2.1, g2.2⟩
  have q := formulaCode_calls (s0, ini, .slice A2 n2 k2, .slice A3 n3 k3) (s0, ini, ls, es) (some ⟨w.heap.size, 0, none⟩) 2 2 _ _ 0 _ 0 _ h1.env h1.ar h1.tot hN (by omega)
  refine q.mono ?_
  rintro e w' ⟨rfl, hb2⟩
  exact ⟨rfl, hb.trans (hb2.mono hb.size)⟩

end Go.Proofs.YtanlgnjgpbjebaaGreatDoor

namespace Go.Proofs.YtanlgnjgpbjebaaGreatDoor
open Go.ChangeShapes Go.WideShapes Go.ChangeAt Go.RowKit
set_option linter.unusedVariables false

theorem below_cells {B b : Nat} {a : World} (hb : B ≤ b) : ∀ (vs : List Value) (o : Nat) (w : World), Below B a w → Below B a (w.setCells b o vs)
  | [], _, _, h => h
  | v :: r, o, w, h => below_cells hb r (o + 1) _ (h.setCell hb v)
theorem size_cells (b : Nat) : ∀ (vs : List Value) (o : Nat) (w : World), (w.setCells b o vs).heap.size = w.heap.size
  | [], _, _ => rfl
  | v :: r, o, w => (size_cells b r (o + 1) _).trans (World.size_setCell _ _ _)

theorem filter_step {q : Int → Bool} {l : List Int} {k : Nat} {x : Int} (hx : l[k]? = some x) : (l.take (k + 1)).filter q = (l.take k).filter q ++ if q x then [x] else [] := by
  rw [List.take_add_one, hx, List.filter_append]
  cases h : q x <;> simp [h]

/-- The first index that the test holds at, or -1. -/
def firstI (G : Int → Bool) (l : List Int) (i : Int) : Prop := (i = -1 ∧ l.any G = false) ∨ ∃ k : Nat, i = k ∧ k < l.length ∧ (l.take k).any G = false ∧ ∃ x, l[k]? = some x ∧ G x = true

set_option maxRecDepth 100000 in
theorem indexFuncI2_calls (F : FuncId) (caps : Array Value) (G : Int → Bool) (A : Option Addr) (n c : Nat) (l : List Int) (w : World) (lo hi : Nat) (h : SlI w lo hi A n l) (hn : n ≤ 1048576)
    (hF : ∀ (v : Value) (W : World), Sem.run Tryz.prog (callFunc F (#[v] ++ caps)) W = .ok (.enter F (#[v] ++ caps)) W)
    (hcl : ∀ (v : Int) (W : World), v ∈ l → Below w.heap.size w W → Calls Tryz.prog F (#[.int .i64 v] ++ caps) W (Says (G v) W)) :
    Calls Tryz.prog 100 #[.slice A n c, .func (.func F) #[] caps] w fun e w' => ∃ i : Int, e = .returned (.int .i64 i) ∧ firstI G l i ∧ Below w.heap.size w w' := by
  have hlen := hide h.len
  replace hcl := hide hcl
  go_enter Tryz.func100, Tryz.ntmps100
  go_wp2
  go_loopw [8] (fun i wr => ∃ k : Nat, k ≤ n ∧ i = .int .i64 k ∧ Below w.heap.size w wr ∧ Hid ((l.take k).any G = false)) (fun i _ => n - (intOf i).toNat)
  case atStart => exact ⟨0, Nat.zero_le _, rfl, Below.refl _ _, rfl⟩
  case round =>
    obtain ⟨k, hk, rfl, hb, ha⟩ := hrel
    by_cases hlt : k < n
    · obtain ⟨b, off, x, rfl, g1, g2, g3, hx, c0, -⟩ := h.get hlt
      replace c0 := (hb.cell (p := ⟨b, off + k, none⟩) g3).trans c0
      have hc := hcl.out x wr (List.mem_of_getElem? hx) hb
      replace hx := hide hx
      clear h hcl
      by_cases hg : G x = true
      · rw [hg] at hc
        replace hc := hide hc
        have hy : Hid (firstI G l k) := .inr ⟨k, rfl, by rw [hlen.out]; exact hlt, ha.out, x, hx.out, hg⟩
        clear hg
        go_wp2_with fail
        refine hc.out.mono ?_
        rintro e w1 ⟨rfl, hb1⟩
        go_wp2_with fail
        go_ret
        exact ⟨_, rfl, hy.out, hb.trans (hb1.mono hb.size)⟩
      · replace hg := Bool.eq_false_iff.2 hg
        rw [hg] at hc
        replace hc := hide hc
        have hy := hide (any_take_succ ha.out hx.out hg)
        clear hg
        go_wp2_with fail
        refine hc.out.mono ?_
        rintro e w1 ⟨rfl, hb1⟩
        go_wp2_with fail
        go_roundw
        case rel => exact ⟨k + 1, by omega, by go_num, hb.trans (hb1.mono hb.size), hy⟩
        case measure => simp [intOf]; omega
    · have hkn : k = n := by omega
      subst hkn
      clear hcl h
      go_wp2
      go_ret
      have hy := ha.out
      rw [List.take_of_length_le (by rw [hlen.out]; exact Nat.le_refl _)] at hy
      exact ⟨_, rfl, .inl ⟨rfl, hy⟩, hb⟩

/-- Where the loop of DeleteFunc stands: what was kept lies at the front, the rest is as it was. -/
structure DelI (G : Int → Bool) (l M : List Int) (k i : Nat) : Prop where
  len : M.length = l.length
  cnt : i = ((l.take k).filter fun x => !G x).length
  lt : i < k
  kept : M.take i = (l.take k).filter fun x => !G x
  later : ∀ q, k ≤ q → M[q]? = l[q]?
theorem DelI.start {G : Int → Bool} {l : List Int} {k : Nat} {x : Int} (hk : k < l.length) (ha : (l.take k).any G = false) (hx : l[k]? = some x) (hg : G x = true) : DelI G l l (k + 1) k := by
  have h1 : (l.take (k + 1)).filter (fun x => !G x) = l.take k := by
    rw [filter_step hx, hg]
    simp only [Bool.not_true, Bool.false_eq_true, if_false, List.append_nil]
    exact List.filter_eq_self.2 fun y hy => by rw [Bool.not_eq_true']; exact Bool.eq_false_iff.2 fun c => by rw [List.any_eq_false] at ha; exact ha y hy c
  exact ⟨rfl, by rw [h1, List.length_take]; omega, Nat.lt_succ_self _, by rw [h1], fun _ _ => rfl⟩
theorem DelI.skip {G : Int → Bool} {l M : List Int} {k i : Nat} {x : Int} (h : DelI G l M k i) (hx : l[k]? = some x) (hg : G x = true) : DelI G l M (k + 1) i := by
  have h1 : (l.take (k + 1)).filter (fun x => !G x) = (l.take k).filter (fun x => !G x) := by rw [filter_step hx, hg]; simp
  exact ⟨h.len, by rw [h1]; exact h.cnt, by have := h.lt; omega, by rw [h1]; exact h.kept, fun q hq => h.later q (by omega)⟩
theorem DelI.put {G : Int → Bool} {l M : List Int} {k i : Nat} {x : Int} (h : DelI G l M k i) (hx : l[k]? = some x) (hg : G x = false) : DelI G l (M.set i x) (k + 1) (i + 1) := by
  have h1 : (l.take (k + 1)).filter (fun x => !G x) = (l.take k).filter (fun x => !G x) ++ [x] := by rw [filter_step hx, hg]; simp
  have hk : k < l.length := (List.getElem?_eq_some_iff.1 hx).1
  have hil : i < M.length := by rw [h.len]; have := h.lt; omega
  refine ⟨by rw [List.length_set]; exact h.len, by rw [h1, List.length_append, ← h.cnt]; rfl, by have := h.lt; omega, ?_, fun q hq => ?_⟩
  · rw [List.take_add_one, List.getElem?_set_self hil, h1, ← h.kept, List.take_set_of_le (Nat.le_refl _)]
    rfl
  · rw [List.getElem?_set_ne (by have := h.lt; omega)]
    exact h.later q (by omega)

theorem zero_int (w : World) : (zeroValue 2).run Tryz.prog w = .ok (.int .i64 0) w := by
  obtain ⟨i0, hi0, hz0, _⟩ := info_parts info_int64
  simp [zeroValue, typeInfo, hi0, hz0]


set_option maxHeartbeats 1600000 in
set_option maxRecDepth 100000 in
theorem deleteFuncI_calls (F : FuncId) (caps : Array Value) (G : Int → Bool) (A : Option Addr) (n c : Nat) (l : List Int) (w : World) (lo : Nat) (h : SlI w lo w.heap.size A n l) (hc : n ≤ c) (hn : n ≤ 1048576) (hlo : lo ≤ w.heap.size)
    (hF : ∀ (v : Value) (W : World), Sem.run Tryz.prog (callFunc F (#[v] ++ caps)) W = .ok (.enter F (#[v] ++ caps)) W)
    (hcl : ∀ (v : Int) (W : World), v ∈ l → Below lo w W → Calls Tryz.prog F (#[.int .i64 v] ++ caps) W (Says (G v) W)) :
    Calls Tryz.prog 84 #[.slice A n c, .func (.func F) #[] caps] w fun e w' => ∃ m c', e = .returned (.slice A m c') ∧ m ≤ n ∧ m ≤ c' ∧ SlI w' lo w'.heap.size A m (l.filter fun x => !G x) ∧ Below lo w w' := by
  have hlen := hide h.len
  have q := hide (indexFuncI2_calls F caps G A n c l w lo _ h hn hF (fun v W hv hW => hcl v W hv (hW.mono hlo)))
  replace h := hide h
  replace hcl := hide hcl
  go_enter Tryz.func84, Tryz.ntmps84
  go_wp2_with fail
  refine q.out.mono ?_
  rintro e w1 ⟨i, rfl, hfi, hb1⟩
  have hbl := hb1.mono hlo
  have h1 := hide ((h.out.below hb1 (.inr (Nat.le_refl _))).top)
  clear q
  rcases hfi with ⟨rfl, hno⟩ | ⟨k0, rfl, hk0, hno, x0, hx0, hg0⟩
  · have hfl : Hid (l.filter (fun x => !G x) = l) := List.filter_eq_self.2 fun y hy => by rw [Bool.not_eq_true']; exact Bool.eq_false_iff.2 fun c => by rw [List.any_eq_false] at hno; exact hno y hy c
    clear hcl h hno
    go_wp2_with fail
    go_ret
    exact ⟨n, _, rfl, Nat.le_refl _, hc, by rw [hfl.out]; exact h1.out, hbl⟩
  · rw [hlen.out] at hk0
    obtain ⟨b, off, y0, rfl, g1, g2, g3, -⟩ := h.out.get hk0
    have hst := hide (DelI.start (by rw [hlen.out]; exact hk0) hno hx0 hg0)
    have hne : ((k0 : Int) == -1) = false := by rw [beq_eq_false_iff_ne]; omega
    clear hno hx0 hg0 h
    go_wp2_with fail
    go_loopw [5, 6] (fun iv' jv wr => ∃ (k i : Nat) (M : List Int), k ≤ n ∧ jv = .int .i64 k ∧ iv' = .int .i64 i ∧ Hid (DelI G l M k i) ∧ Hid (SlI wr lo wr.heap.size (some ⟨b, off, none⟩) n M) ∧ Hid (Below lo w wr)) (fun _ jv _ => n - (intOf jv).toNat)
    case atStart => exact ⟨k0 + 1, k0, l, by omega, by go_num, rfl, hst, h1, hbl⟩
    case round =>
      obtain ⟨k, i, M, hk, rfl, rfl, hD, hM, hb⟩ := hrel
      clear h1 hst
      have hik := hD.out.lt
      by_cases hlt : k < n
      · obtain ⟨b', o', x, e', -, -, g3', hx, c0, -⟩ := hM.out.get hlt
        cases e'
        rw [hD.out.later k (Nat.le_refl _)] at hx
        have hcx := hcl.out x wr (List.mem_of_getElem? hx) hb.out
        have hzw := hb.out.size
        by_cases hg : G x = true
        · rw [hg] at hcx
          replace hcx := hide hcx
          have hD2 := hide (hD.out.skip hx hg)
          clear hcl hx hg
          go_wp2_with fail
          refine hcx.out.mono ?_
          rintro e w2 ⟨rfl, hb2⟩
          have hM2 := hide ((hM.out.below hb2 (.inr (Nat.le_refl _))).top)
          have hb3 := hide (hb.out.trans (hb2.mono (Nat.le_trans hlo hzw)))
          clear hb2 c0
          go_wp2_with fail
          go_roundw
          case rel => exact ⟨k + 1, i, M, by omega, by go_num, rfl, hD2, hM2, hb3⟩
          case measure => simp [intOf]; omega
        · replace hg := Bool.eq_false_iff.2 hg
          rw [hg] at hcx
          replace hcx := hide hcx
          have hD2 := hide (hD.out.put hx hg)
          clear hcl hx hg
          go_wp2_with fail
          refine hcx.out.mono ?_
          rintro e w2 ⟨rfl, hb2⟩
          have hM2 := (hM.out.below hb2 (.inr (Nat.le_refl _))).top
          have hM3 := hide (SlI.put' hM2 (show i < n by omega) x)
          obtain ⟨b', o', xx, e', -, -, -, -, d0, z0⟩ := SlI.get hM2 (show i < n by omega)
          cases e'
          have hb3 := hide ((hb.out.trans (hb2.mono (Nat.le_trans hlo hzw))).setCell (p := ⟨b, off + i, none⟩) g1 (.int .i64 x))
          clear hb2 c0 hM2
          have i1 : (0 : Int) ≤ (i : Int) := by omega
          have i2 : (i : Int) < (n : Int) := by omega
          go_wp2_with fail
          go_roundw
          case rel => exact ⟨k + 1, i + 1, _, by omega, by go_num, by go_num, hD2, by show SlI _ _ _ _ _ _; rw [World.size_setCell]; exact hM3.out, hb3⟩
          case measure => simp [intOf]; omega
      · have hkn : k = n := by omega
        subst hkn
        clear hcl
        have hkept := hD.out.kept
        have hcnt := hD.out.cnt
        have htk : l.take k = l := List.take_of_length_le (by rw [hlen.out]; exact Nat.le_refl _)
        rw [htk] at hkept hcnt
        have hcut : ∀ W : World, (Instr.slice 46 (.slice (some ⟨b, off, none⟩) k c) (some (.int .i64 (i : Int))) none none).run Tryz.prog W = .ok (.slice (some ⟨b, off + i, none⟩) (k - i) (c - i)) W := fun W => by
          rw [run_cut elem_int64 (some ⟨b, off, none⟩) k c i (by omega) W]
          unfold cutA
          rw [if_neg (by omega), Option.map_some, addr_add, Nat.mul_one]
        have hhead : ∀ W : World, (Instr.slice 46 (.slice (some ⟨b, off, none⟩) k c) none (some (.int .i64 (i : Int))) none).run Tryz.prog W = .ok (.slice (some ⟨b, off, none⟩) i c) W := fun W => run_head elem_int64 (some ⟨b, off, none⟩) k c i (by omega) W
        have hcl : ∀ ty : TypeId, (Builtin.clear_ #[46] ty #[.slice (some ⟨b, off + i, none⟩) (k - i) (c - i)]).run Tryz.prog wr = .ok (.tuple #[]) (wr.setCells b (off + i) (List.replicate (k - i) (.int .i64 0))) := fun ty =>
          Lib.run_clear_slice wr 46 2 ty (.int .i64 0) Tryz.underlying46 zero_int rfl rfl b (off + i) (k - i) (c - i) (by omega) (fun j hj => by
            obtain ⟨b', o', xx, e', -, -, -, -, d0, -⟩ := hM.out.get (show i + j < k by omega)
            cases e'
            rw [show off + i + j = off + (i + j) by omega, d0]; rfl) (fun j hj => by
            obtain ⟨b', o', xx, e', -, -, -, -, -, z0⟩ := hM.out.get (show i + j < k by omega)
            cases e'
            rw [show off + i + j = off + (i + j) by omega]; exact z0)
        have hres : Hid (SlI (wr.setCells b (off + i) (List.replicate (k - i) (.int .i64 0))) lo (wr.setCells b (off + i) (List.replicate (k - i) (.int .i64 0))).heap.size (some ⟨b, off, none⟩) i (l.filter fun x => !G x)) := by
          refine ⟨hcnt.symm, fun hi0 => ?_⟩
          obtain ⟨b', o', e', q1, q2, q3, q4⟩ := hM.out.at_ (show 0 < k by omega)
          cases e'
          refine ⟨b, off, rfl, q1, by rw [size_cells]; exact q3, by rw [size_cells]; exact q3, fun j x hx u v hv => ?_⟩
          rw [← hkept, List.getElem?_take] at hx
          split at hx
          · obtain ⟨r1, r2⟩ := q4 j x hx u v hv
            have hu : u = 0 := by
              have := (List.getElem?_eq_some_iff.1 hv).1
              simp [iv] at this
              exact this
            subst hu
            exact ⟨(World.cell?_setCells_out b _ _ _ _ (fun _ _ => by left; show off + (j * 1 + 0) < off + i; omega)).trans r1, (World.frozen?_setCells b _ _ _ _).trans r2⟩
          · cases hx
        have hbF : Hid (Below lo w (wr.setCells b (off + i) (List.replicate (k - i) (.int .i64 0)))) := below_cells g1 _ _ _ hb.out
        clear hkept hcnt
        go_wp2_with fail
        go_ret
        exact ⟨i, _, rfl, by omega, by omega, hres.out, hbF.out⟩

end Go.Proofs.YtanlgnjgpbjebaaGreatDoor

namespace Go.Proofs.YtanlgnjgpbjebaaGreatDoor
open Go.ChangeShapes Go.WideShapes Go.ChangeAt Go.RowKit Go.Sort
set_option linter.unusedVariables false
set_option linter.unusedSimpArgs false

theorem range_succ_int (k : Nat) : (List.range (k + 1)).map Int.ofNat = (List.range k).map Int.ofNat ++ [(k : Int)] := by
  rw [List.range_succ, List.map_append]
  rfl
set_option maxRecDepth 100000 in
theorem upTo_calls (N : Nat) (hN : N ≤ 1048000) (w : World) :
    Calls Tryz.prog 58 #[.int .i64 (N : Int)] w fun e w' => ∃ A c, e = .returned (.slice A N c) ∧ Own 1 iv w' w.heap.size 2 A N c ((List.range N).map Int.ofNat) ∧ Below w.heap.size w w' := by
  have hE := hide elem_int64
  go_enter Tryz.func58, Tryz.ntmps58
  go_wp2
  go_loopw [3, 6] (fun v i wr => ∃ (k : Nat) (A : Option Addr) (c : Nat), k ≤ N ∧ i = .int .i64 (k : Nat) ∧ v = .slice A k c ∧ Hid (Own 1 iv wr w.heap.size 2 A k c ((List.range k).map Int.ofNat)) ∧ Below w.heap.size w wr) (fun _ i _ => N - (intOf i).toNat)
  case atStart => exact ⟨0, none, 0, Nat.zero_le _, rfl, rfl, Own.nil_ _ _ _, Below.refl _ _⟩
  case round =>
    obtain ⟨k, A, c, hk, rfl, rfl, hown, hb⟩ := hrel
    by_cases hlt : k < N
    · have hz := hb.size
      have hza : ∀ o, w.heap.size ≤ (wr.alloc o).heap.size := fun o => by rw [World.size_alloc]; omega
      have hst := hide (range_succ_int k)
      replace hb := hide hb
      go_wp2_with (first | (at_builtin; (with_reducible refine wpList_app rfl (.tmp 9) (.tmp 11) rfl hE.out flat_iv rfl (hown.out.alloc _) rfl (Sl.lit1' wr 2 (k : Int) _ rfl 1 _ ?c0) ?c1 (hza _) ?_); rotate_right; intro A5 c5 w5 hown5 hgr5 hb5 _))
      case c0 => rfl
      case c1 => omega
      have hb6 := hide ((hb.out.alloc hz (.cells #[.int .i64 (k : Int)] 2)).trans hb5)
      go_roundw
      case rel => exact ⟨k + 1, A5, c5, by omega, by go_num, rfl, by rw [hst.out]; exact hown5, hb6.out⟩
      case measure => simp [intOf]; omega
    · have hkn : k = N := by omega
      subst hkn
      replace hb := hide hb
      go_wp2
      go_ret
      exact ⟨A, c, rfl, hown.out, hb.out⟩

end Go.Proofs.YtanlgnjgpbjebaaGreatDoor

namespace Go.Proofs.YtanlgnjgpbjebaaGreatDoor
open Go.ChangeShapes Go.WideShapes Go.ChangeAt Go.RowKit
set_option linter.unusedVariables false
set_option linter.unusedSimpArgs false

/-- One of three operations comes next. -/
theorem lateT_three {P : Program} {ops : Array Oper} {Q : Exit → Act → World → Prop} {md : Region.Mode} {S : World → Prop} {st : Nat} {i j k : Nat} {o o' o2 : Oper} {m : Nat} {got : Array Bool} {a : Act} {w : World} (hr : Region.ready md ops got = [i, j, k]) (ho : ops[i]? = some o) (ho' : ops[j]? = some o') (ho2 : ops[k]? = some o2)
    (h : ∀ K : Act → World → Prop, Shut (∀ a w, (i ≠ st → S w) → lateT P md ops Q S st m (got.setIfInBounds i true) a w → K a w) → if Region.wanted o (yielded ops a.tmps) = true then Oper.wp P o a w K Q else K (a.put o.dst undef) w)
    (h' : ∀ K : Act → World → Prop, Shut (∀ a w, (j ≠ st → S w) → lateT P md ops Q S st m (got.setIfInBounds j true) a w → K a w) → if Region.wanted o' (yielded ops a.tmps) = true then Oper.wp P o' a w K Q else K (a.put o'.dst undef) w)
    (h2 : ∀ K : Act → World → Prop, Shut (∀ a w, (k ≠ st → S w) → lateT P md ops Q S st m (got.setIfInBounds k true) a w → K a w) → if Region.wanted o2 (yielded ops a.tmps) = true then Oper.wp P o2 a w K Q else K (a.put o2.dst undef) w) : lateT P md ops Q S st (m + 1) got a w := by
  refine ⟨fun h0 => (by rw [hr] at h0; cases h0), fun x hx => ?_⟩
  rw [hr] at hx
  rcases List.mem_cons.1 hx with rfl | hx
  · exact wpOp_step ho fun K hK => h K fun a w hS hl => hK a w ⟨hS, hl⟩
  · rcases List.mem_cons.1 hx with rfl | hx
    · exact wpOp_step ho' fun K hK => h' K fun a w hS hl => hK a w ⟨hS, hl⟩
    · obtain rfl := List.mem_singleton.1 hx
      exact wpOp_step ho2 fun K hK => h2 K fun a w hS hl => hK a w ⟨hS, hl⟩
theorem zero_boolS (w : World) : (zeroValue 65).run Tryz.prog w = .ok (.slice none 0 0) w := by
  obtain ⟨i0, hi0, hz0, _⟩ := info_parts info_rowB
  simp [zeroValue, typeInfo, hi0, hz0]
noncomputable def difV (f g : DN) (d : DL) : List Bool := setOf d.1.toNat fun k => inS (semF f d) k != inS (semF g d) k
noncomputable def difF (f g : DN) (d : DL) : List Int × Int := if twoC f g d = 0 then (idxOf (difV f g d), 0) else ([], twoC f g d)
theorem dif1_calls (b b' : Nat) (A6 A7 : Option Addr) (N c6 c7 k : Nat) (F G : List Bool) (W : World) (lo hi lo' hi' : Nat) (y : W.cell? ⟨b, 0, none⟩ = some (.slice A6 N c6)) (y' : W.cell? ⟨b', 0, none⟩ = some (.slice A7 N c7)) (h6 : SlB W lo hi A6 N F) (h7 : SlB W lo' hi' A7 N G) (hk : k < N) :
    Calls Tryz.prog 85 #[.int .i64 (k : Nat), .pointer (some ⟨b, 0, none⟩), .pointer (some ⟨b', 0, none⟩)] W (Says (inS F k == inS G k) W) := by
  obtain ⟨b1, o1, rfl, -, -, -, -, m1, -⟩ := SlB.get h6 hk
  obtain ⟨b2, o2, rfl, -, -, -, -, m2, -⟩ := SlB.get h7 hk
  have hk0 : (0 : Int) ≤ (k : Int) := by omega
  have hk1 : (k : Int) < (N : Int) := by omega
  clear h6 h7
  generalize inS F k = u at *
  generalize inS G k = v at *
  cases u <;> cases v
  all_goals
    go_enter Tryz.func85, Tryz.ntmps85
    go_wp2_with fail
    go_quiet (fail)
    go_wp2_with fail
    go_ret
    exact ⟨rfl, ⟨rfl, rfl, rfl, Nat.le_refl _, fun _ _ => rfl⟩⟩
theorem mem_upTo {N : Nat} {v : Int} (h : v ∈ (List.range N).map Int.ofNat) : ∃ k : Nat, v = (k : Int) ∧ k < N := by
  obtain ⟨k, hk, rfl⟩ := List.mem_map.1 h
  exact ⟨k, rfl, List.mem_range.1 hk⟩

theorem idx_setOf {N : Nat} {p : Nat → Bool} : idxOf (setOf N p) = ((List.range N).map Int.ofNat).filter (fun v => p v.toNat) := by
  unfold idxOf
  rw [setOf_len, List.filter_map]
  congr 1
  refine List.filter_congr fun k hk => ?_
  rw [inS_setOf, decide_eq_true (List.mem_range.1 hk), Bool.true_and]
  rfl
set_option maxRecDepth 100000 in
set_option maxHeartbeats 6400000 in
theorem implDifferenceStates_u {v u u2 : Value} {f g : DN} {d : DL} {w : World} {lo hi lo' hi' lo2 hi2 : Nat} (he : Env w) (hf : FreshN w lo' hi' u f) (hfh : hi' ≤ w.heap.size) (hg : FreshN w lo2 hi2 u2 g) (hgh : hi2 ≤ w.heap.size) (h : FreshL w lo hi v d) (hh : hi ≤ w.heap.size) :
    Calls Tryz.prog 39 #[u, u2, v] w fun e w' => ∃ o, e = .returned (.tuple #[o, .int .i64 (difF f g d).2]) ∧ ResI w' w.heap.size w'.heap.size o (difF f g d).1 ∧ Below w.heap.size w w' := by
  obtain ⟨A2, n2, k2, A3, n3, k3, rfl, hS⟩ := SysAt.box he h hh
  obtain ⟨A, n, rfl, hF⟩ := FrmAt.of hf hfh
  obtain ⟨B, m, rfl, hG⟩ := FrmAt.of hg hgh
  obtain ⟨st, ini, ls, es⟩ := d
  dsimp only at hS ⊢
  obtain ⟨W0, hW0⟩ : ∃ W', W' = w.alloc (.cells #[.int .i64 st, .int .i64 ini, .slice A2 n2 k2, .slice A3 n3 k3] 35) := ⟨_, rfl⟩
  have hb0 : Below w.heap.size w W0 := by rw [hW0]; exact (Below.refl _ _).alloc (Nat.le_refl _) _
  rw [← hW0] at hS
  replace hF := hF.below hb0
  replace hG := hG.below hb0
  have hz0 := hb0.size
  have q1 := code2_calls hS hF hG (c := n) (c' := m)
  obtain ⟨b0, b1, b2, b3⟩ := hS.facts
  replace hb0 := hide hb0
  clear he hf hg h
  generalize hbt : w.heap.size = bt at *
  go_enter Tryz.func39, Tryz.ntmps39
  go_upto_region 1 with fail
  rw [← hW0]
  clear hW0
  by_cases hc : twoC f g (st, ini, ls, es) = 0
  case neg =>
    have hval : Hid (difF f g (st, ini, ls, es) = ([], twoC f g (st, ini, ls, es))) := by show _ = _; unfold difF; rw [if_neg hc]
    generalize twoC f g (st, ini, ls, es) = oc at *
    replace q1 := hide q1
    have hcb : (oc != 0) = true := by simpa using hc
    clear hS hF hG
    go_wp2_with (first | (go_at_call 50; (with_reducible refine q1.out.mono ?_); rintro e w5 ⟨rfl, hb5⟩; replace hb5 := hide hb5))
    go_ret2
    first | exact ⟨.slice none 0 0, by rw [hval.out]; rfl, by rw [hval.out]; exact ⟨none, 0, 0, rfl, by omega, Sl.nil_⟩, hb0.out.trans (hb5.out.mono hz0)⟩ | (rw [hbt]; exact ⟨.slice none 0 0, by rw [hval.out]; rfl, by rw [hval.out]; exact ⟨none, 0, 0, rfl, by omega, Sl.nil_⟩, hb0.out.trans (hb5.out.mono hz0)⟩)
  obtain ⟨hV, hV2, hlv⟩ := twoC_ok hc
  have hval : Hid (difF f g (st, ini, ls, es) = (idxOf (difV f g (st, ini, ls, es)), 0)) := by show _ = _; unfold difF; rw [if_pos hc]
  rw [hc] at q1
  replace q1 := hide q1
  have hb40 := (lts_boundsB hlv).1
  obtain ⟨N, rfl⟩ : ∃ N : Nat, st = (N : Int) := ⟨st.toNat, by omega⟩
  have hN40 : N ≤ 40 := by omega
  have hn0 : 0 < n := by have := hV.len; have := hF.1.len; omega
  have hm0 : 0 < m := by have := hV2.len; have := hG.1.len; omega
  have hwf : wonS f ((N : Int), ini, ls, es) none 0 = semF f ((N : Int), ini, ls, es) := by rw [wonS_none hV hlv (by have := hV.len; omega), semP_zero]
  have hwg : wonS g ((N : Int), ini, ls, es) none 0 = semF g ((N : Int), ini, ls, es) := by rw [wonS_none hV2 hlv (by have := hV2.len; omega), semP_zero]
  have qf := fun (W : World) (hW : Below W0.heap.size W0 W) => (hS.below hW).sem (hF.below hW) hV hlv (vs := .slice none 0 0) (set := none) rfl hn0 (c := n)
  have qg := fun (W : World) (hW : Below W0.heap.size W0 W) => (hS.below hW).sem (hG.below hW) hV2 hlv (vs := .slice none 0 0) (set := none) rfl hm0 (c := m)
  rw [hwf, show ((0 : Nat) : Int) = 0 from rfl] at qf
  rw [hwg, show ((0 : Nat) : Int) = 0 from rfl] at qg
  have hSS := hide (fun (W : World) (hW : Below W0.heap.size W0 W) => (hS.below hW).facts)
  have hIF : Hid (difV f g ((N : Int), ini, ls, es) = setOf N fun k => inS (semF f ((N : Int), ini, ls, es)) k != inS (semF g ((N : Int), ini, ls, es)) k) := rfl
  clear hc hS hF hG hV hV2 hlv hwf hwg hb40
  generalize semF f ((N : Int), ini, ls, es) = FF at *
  generalize semF g ((N : Int), ini, ls, es) = GG at *
  replace qf := hide qf
  replace qg := hide qg
  go_upto_region 4 with (first | (go_at_call 50; (with_reducible refine q1.out.mono ?_); rintro e w5 ⟨rfl, hb5⟩; clear q1))
  have hz5 := hb5.size
  replace qf := hide (fun (W : World) (hW : Below w5.heap.size w5 W) => qf.out W (hb5.trans (hW.mono hz5)))
  replace qg := hide (fun (W : World) (hW : Below w5.heap.size w5 W) => qg.out W (hb5.trans (hW.mono hz5)))
  replace hSS := hide (fun (W : World) (hW : Below w5.heap.size w5 W) => hSS.out W (hb5.trans (hW.mono hz5)))
  replace hb5 := hide hb5
  have hzb := zero_boolS
  go_cut [9, 10] (fun t u wx => ∃ b b' A6 c6 A7 c7, t = .pointer (some ⟨b, 0, none⟩) ∧ u = .pointer (some ⟨b', 0, none⟩) ∧ Hid (DifW w5 wx N (some (b, .slice A6 N c6)) (some (b', .slice A7 N c7)) (some ((A6, c6), FF)) (some ((A7, c7), GG))))
  case first =>
    refine lateT_begin (S := fun w' => w'.cell? ⟨bt, 0, none⟩ = some (.int .i64 (N : Nat)) ∧ w'.cell? ⟨bt, 1, none⟩ = some (.int .i64 ini) ∧ w'.cell? ⟨bt, 2, none⟩ = some (.slice A2 n2 k2) ∧ w'.cell? ⟨bt, 3, none⟩ = some (.slice A3 n3 k3)) (st := 9) (by kernel_rfl) ?_
    have hD := (DifW.start w5 N).drew
    generalize w5.drew = wA at *
    have hS0 := hSS.out _ hD.below
    refine lateT_take (i := 0) (oi := _) (v := ?_) [9] rfl (by kernel_rfl) (by kernel_rfl) (by kernel_rfl) (by kernel_rfl) (fun _ _ _ h => h) (Or.inl ⟨by kernel_rfl, ?hy⟩) hS0 ?_
    case hy => (intro w' hSw; (try dsimp only at hSw); (obtain ⟨hq0, hq1, hq2, hq3⟩ := hSw); go_simp <;> with_reducible rfl)
    (try simp only [Act.put, List.setIfInBounds_toArray, List.set_cons_zero, List.set_cons_succ])
    refine lateT_take (i := 1) (oi := _) (v := ?_) [9] rfl (by kernel_rfl) (by kernel_rfl) (by kernel_rfl) (by kernel_rfl) (fun _ _ _ h => h) (Or.inl ⟨by kernel_rfl, ?hy⟩) hS0 ?_
    case hy => (intro w' hSw; (try dsimp only at hSw); (obtain ⟨hq0, hq1, hq2, hq3⟩ := hSw); go_simp <;> with_reducible rfl)
    (try simp only [Act.put, List.setIfInBounds_toArray, List.set_cons_zero, List.set_cons_succ])
    refine lateT_take (i := 3) (oi := _) (v := ?_) [9] rfl (by kernel_rfl) (by kernel_rfl) (by kernel_rfl) (by kernel_rfl) (fun _ _ _ h => h) (Or.inl ⟨by kernel_rfl, ?hy⟩) hS0 ?_
    case hy => (intro w' hSw; (try dsimp only at hSw); (obtain ⟨hq0, hq1, hq2, hq3⟩ := hSw); go_simp <;> with_reducible rfl)
    (try simp only [Act.put, List.setIfInBounds_toArray, List.set_cons_zero, List.set_cons_succ])
    refine lateT_take (i := 4) (oi := _) (v := ?_) [9] rfl (by kernel_rfl) (by kernel_rfl) (by kernel_rfl) (by kernel_rfl) (fun _ _ _ h => h) (Or.inl ⟨by kernel_rfl, ?hy⟩) hS0 ?_
    case hy => (intro w' hSw; (try dsimp only at hSw); (obtain ⟨hq0, hq1, hq2, hq3⟩ := hSw); go_simp <;> with_reducible rfl)
    (try simp only [Act.put, List.setIfInBounds_toArray, List.set_cons_zero, List.set_cons_succ])
    refine lateT_three (i := 2) (j := 6) (k := 7) (by kernel_rfl) rfl rfl rfl (fun K hK => ?_) (fun K hK => ?_) (fun K hK => ?_)
    · go_simp
      go_at_call 51; (with_reducible refine (qf.out _ hD.below).mono ?_); rintro e w6 ⟨A6, c6, rfl, hs6, hb6⟩
      replace hD := hD.callR (c := c6) hb6 hs6
      clear hs6 hb6
      refine hK.out _ _ (fun _ => hSS.out _ hD.below) ?_
      clear hK K
      (try simp only [Act.put, List.setIfInBounds_toArray, List.set_cons_zero, List.set_cons_succ])
      refine lateT_three (i := 5) (j := 6) (k := 7) (by kernel_rfl) rfl rfl rfl (fun K hK => ?_) (fun K hK => ?_) (fun K hK => ?_)
      · go_simp
        go_at_call 51; (with_reducible refine (qg.out _ hD.below).mono ?_); rintro e w7 ⟨A7, c7, rfl, hs7, hb7⟩
        replace hD := hD.callS (c := c7) hb7 hs7
        clear hs7 hb7
        refine hK.out _ _ (fun _ => hSS.out _ hD.below) ?_
        clear hK K
        (try simp only [Act.put, List.setIfInBounds_toArray, List.set_cons_zero, List.set_cons_succ])
        refine lateT_two (i := 6) (j := 7) (by kernel_rfl) rfl rfl (fun K hK => ?_) (fun K hK => ?_)
        · go_simp
          replace hD := hD.allocP (.slice none 0 0)
          refine hK.out _ _ (fun _ => hSS.out _ hD.below) ?_
          clear hK K
          (try simp only [Act.put, List.setIfInBounds_toArray, List.set_cons_zero, List.set_cons_succ])
          generalize World.alloc _ _ = wA at *
          refine lateT_step (i := 7) (by kernel_rfl) rfl (fun K hK => ?_)
          go_simp
          replace hD := hD.allocQ (.slice none 0 0)
          refine hK.out _ _ (fun _ => hSS.out _ hD.below) ?_
          clear hK K
          (try simp only [Act.put, List.setIfInBounds_toArray, List.set_cons_zero, List.set_cons_succ])
          generalize World.alloc _ _ = wA at *
          refine lateT_step (i := 8) (by kernel_rfl) rfl (fun K hK => ?_)
          obtain ⟨yp, zp⟩ := hD.atP
          go_simp
          replace hD := hD.storeP (.slice A6 N c6)
          clear yp zp
          refine hK.out _ _ (fun _ => hSS.out _ hD.below) ?_
          clear hK K
          (try simp only [Act.put, List.setIfInBounds_toArray, List.set_cons_zero, List.set_cons_succ])
          generalize World.setCell _ _ _ = wA at *
          refine lateT_step (i := 9) (by kernel_rfl) rfl (fun K hK => ?_)
          obtain ⟨yq, zq⟩ := hD.atQ
          go_simp
          replace hD := hD.storeQ (.slice A7 N c7)
          clear yq zq
          refine hK.out _ _ (fun h => absurd rfl h) ?_
          clear hK K
          (try simp only [Act.put, List.setIfInBounds_toArray, List.set_cons_zero, List.set_cons_succ])
          generalize World.setCell _ _ _ = wA at *
          refine lateT_done (by kernel_rfl) ?_ _
          go_wp2_with fail
          go_meet
          exact ⟨_, _, _, _, _, _, rfl, rfl, hide hD⟩
        · go_simp
          replace hD := hD.allocQ (.slice none 0 0)
          refine hK.out _ _ (fun _ => hSS.out _ hD.below) ?_
          clear hK K
          (try simp only [Act.put, List.setIfInBounds_toArray, List.set_cons_zero, List.set_cons_succ])
          generalize World.alloc _ _ = wA at *
          refine lateT_step (i := 6) (by kernel_rfl) rfl (fun K hK => ?_)
          go_simp
          replace hD := hD.allocP (.slice none 0 0)
          refine hK.out _ _ (fun _ => hSS.out _ hD.below) ?_
          clear hK K
          (try simp only [Act.put, List.setIfInBounds_toArray, List.set_cons_zero, List.set_cons_succ])
          generalize World.alloc _ _ = wA at *
          refine lateT_step (i := 8) (by kernel_rfl) rfl (fun K hK => ?_)
          obtain ⟨yp, zp⟩ := hD.atP
          go_simp
          replace hD := hD.storeP (.slice A6 N c6)
          clear yp zp
          refine hK.out _ _ (fun _ => hSS.out _ hD.below) ?_
          clear hK K
          (try simp only [Act.put, List.setIfInBounds_toArray, List.set_cons_zero, List.set_cons_succ])
          generalize World.setCell _ _ _ = wA at *
          refine lateT_step (i := 9) (by kernel_rfl) rfl (fun K hK => ?_)
          obtain ⟨yq, zq⟩ := hD.atQ
          go_simp
          replace hD := hD.storeQ (.slice A7 N c7)
          clear yq zq
          refine hK.out _ _ (fun h => absurd rfl h) ?_
          clear hK K
          (try simp only [Act.put, List.setIfInBounds_toArray, List.set_cons_zero, List.set_cons_succ])
          generalize World.setCell _ _ _ = wA at *
          refine lateT_done (by kernel_rfl) ?_ _
          go_wp2_with fail
          go_meet
          exact ⟨_, _, _, _, _, _, rfl, rfl, hide hD⟩
      · go_simp
        replace hD := hD.allocP (.slice none 0 0)
        refine hK.out _ _ (fun _ => hSS.out _ hD.below) ?_
        clear hK K
        (try simp only [Act.put, List.setIfInBounds_toArray, List.set_cons_zero, List.set_cons_succ])
        generalize World.alloc _ _ = wA at *
        refine lateT_two (i := 5) (j := 7) (by kernel_rfl) rfl rfl (fun K hK => ?_) (fun K hK => ?_)
        · go_simp
          go_at_call 51; (with_reducible refine (qg.out _ hD.below).mono ?_); rintro e w7 ⟨A7, c7, rfl, hs7, hb7⟩
          replace hD := hD.callS (c := c7) hb7 hs7
          clear hs7 hb7
          refine hK.out _ _ (fun _ => hSS.out _ hD.below) ?_
          clear hK K
          (try simp only [Act.put, List.setIfInBounds_toArray, List.set_cons_zero, List.set_cons_succ])
          refine lateT_step (i := 7) (by kernel_rfl) rfl (fun K hK => ?_)
          go_simp
          replace hD := hD.allocQ (.slice none 0 0)
          refine hK.out _ _ (fun _ => hSS.out _ hD.below) ?_
          clear hK K
          (try simp only [Act.put, List.setIfInBounds_toArray, List.set_cons_zero, List.set_cons_succ])
          generalize World.alloc _ _ = wA at *
          refine lateT_step (i := 8) (by kernel_rfl) rfl (fun K hK => ?_)
          obtain ⟨yp, zp⟩ := hD.atP
          go_simp
          replace hD := hD.storeP (.slice A6 N c6)
          clear yp zp
          refine hK.out _ _ (fun _ => hSS.out _ hD.below) ?_
          clear hK K
          (try simp only [Act.put, List.setIfInBounds_toArray, List.set_cons_zero, List.set_cons_succ])
          generalize World.setCell _ _ _ = wA at *
          refine lateT_step (i := 9) (by kernel_rfl) rfl (fun K hK => ?_)
          obtain ⟨yq, zq⟩ := hD.atQ
          go_simp
          replace hD := hD.storeQ (.slice A7 N c7)
          clear yq zq
          refine hK.out _ _ (fun h => absurd rfl h) ?_
          clear hK K
          (try simp only [Act.put, List.setIfInBounds_toArray, List.set_cons_zero, List.set_cons_succ])
          generalize World.setCell _ _ _ = wA at *
          refine lateT_done (by kernel_rfl) ?_ _
          go_wp2_with fail
          go_meet
          exact ⟨_, _, _, _, _, _, rfl, rfl, hide hD⟩
        · go_simp
          replace hD := hD.allocQ (.slice none 0 0)
          refine hK.out _ _ (fun _ => hSS.out _ hD.below) ?_
          clear hK K
          (try simp only [Act.put, List.setIfInBounds_toArray, List.set_cons_zero, List.set_cons_succ])
          generalize World.alloc _ _ = wA at *
          refine lateT_step (i := 5) (by kernel_rfl) rfl (fun K hK => ?_)
          go_simp
          go_at_call 51; (with_reducible refine (qg.out _ hD.below).mono ?_); rintro e w7 ⟨A7, c7, rfl, hs7, hb7⟩
          replace hD := hD.callS (c := c7) hb7 hs7
          clear hs7 hb7
          refine hK.out _ _ (fun _ => hSS.out _ hD.below) ?_
          clear hK K
          (try simp only [Act.put, List.setIfInBounds_toArray, List.set_cons_zero, List.set_cons_succ])
          refine lateT_step (i := 8) (by kernel_rfl) rfl (fun K hK => ?_)
          obtain ⟨yp, zp⟩ := hD.atP
          go_simp
          replace hD := hD.storeP (.slice A6 N c6)
          clear yp zp
          refine hK.out _ _ (fun _ => hSS.out _ hD.below) ?_
          clear hK K
          (try simp only [Act.put, List.setIfInBounds_toArray, List.set_cons_zero, List.set_cons_succ])
          generalize World.setCell _ _ _ = wA at *
          refine lateT_step (i := 9) (by kernel_rfl) rfl (fun K hK => ?_)
          obtain ⟨yq, zq⟩ := hD.atQ
          go_simp
          replace hD := hD.storeQ (.slice A7 N c7)
          clear yq zq
          refine hK.out _ _ (fun h => absurd rfl h) ?_
          clear hK K
          (try simp only [Act.put, List.setIfInBounds_toArray, List.set_cons_zero, List.set_cons_succ])
          generalize World.setCell _ _ _ = wA at *
          refine lateT_done (by kernel_rfl) ?_ _
          go_wp2_with fail
          go_meet
          exact ⟨_, _, _, _, _, _, rfl, rfl, hide hD⟩
      · go_simp
        replace hD := hD.allocQ (.slice none 0 0)
        refine hK.out _ _ (fun _ => hSS.out _ hD.below) ?_
        clear hK K
        (try simp only [Act.put, List.setIfInBounds_toArray, List.set_cons_zero, List.set_cons_succ])
        generalize World.alloc _ _ = wA at *
        refine lateT_two (i := 5) (j := 6) (by kernel_rfl) rfl rfl (fun K hK => ?_) (fun K hK => ?_)
        · go_simp
          go_at_call 51; (with_reducible refine (qg.out _ hD.below).mono ?_); rintro e w7 ⟨A7, c7, rfl, hs7, hb7⟩
          replace hD := hD.callS (c := c7) hb7 hs7
          clear hs7 hb7
          refine hK.out _ _ (fun _ => hSS.out _ hD.below) ?_
          clear hK K
          (try simp only [Act.put, List.setIfInBounds_toArray, List.set_cons_zero, List.set_cons_succ])
          refine lateT_step (i := 6) (by kernel_rfl) rfl (fun K hK => ?_)
          go_simp
          replace hD := hD.allocP (.slice none 0 0)
          refine hK.out _ _ (fun _ => hSS.out _ hD.below) ?_
          clear hK K
          (try simp only [Act.put, List.setIfInBounds_toArray, List.set_cons_zero, List.set_cons_succ])
          generalize World.alloc _ _ = wA at *
          refine lateT_step (i := 8) (by kernel_rfl) rfl (fun K hK => ?_)
          obtain ⟨yp, zp⟩ := hD.atP
          go_simp
          replace hD := hD.storeP (.slice A6 N c6)
          clear yp zp
          refine hK.out _ _ (fun _ => hSS.out _ hD.below) ?_
          clear hK K
          (try simp only [Act.put, List.setIfInBounds_toArray, List.set_cons_zero, List.set_cons_succ])
          generalize World.setCell _ _ _ = wA at *
          refine lateT_step (i := 9) (by kernel_rfl) rfl (fun K hK => ?_)
          obtain ⟨yq, zq⟩ := hD.atQ
          go_simp
          replace hD := hD.storeQ (.slice A7 N c7)
          clear yq zq
          refine hK.out _ _ (fun h => absurd rfl h) ?_
          clear hK K
          (try simp only [Act.put, List.setIfInBounds_toArray, List.set_cons_zero, List.set_cons_succ])
          generalize World.setCell _ _ _ = wA at *
          refine lateT_done (by kernel_rfl) ?_ _
          go_wp2_with fail
          go_meet
          exact ⟨_, _, _, _, _, _, rfl, rfl, hide hD⟩
        · go_simp
          replace hD := hD.allocP (.slice none 0 0)
          refine hK.out _ _ (fun _ => hSS.out _ hD.below) ?_
          clear hK K
          (try simp only [Act.put, List.setIfInBounds_toArray, List.set_cons_zero, List.set_cons_succ])
          generalize World.alloc _ _ = wA at *
          refine lateT_step (i := 5) (by kernel_rfl) rfl (fun K hK => ?_)
          go_simp
          go_at_call 51; (with_reducible refine (qg.out _ hD.below).mono ?_); rintro e w7 ⟨A7, c7, rfl, hs7, hb7⟩
          replace hD := hD.callS (c := c7) hb7 hs7
          clear hs7 hb7
          refine hK.out _ _ (fun _ => hSS.out _ hD.below) ?_
          clear hK K
          (try simp only [Act.put, List.setIfInBounds_toArray, List.set_cons_zero, List.set_cons_succ])
          refine lateT_step (i := 8) (by kernel_rfl) rfl (fun K hK => ?_)
          obtain ⟨yp, zp⟩ := hD.atP
          go_simp
          replace hD := hD.storeP (.slice A6 N c6)
          clear yp zp
          refine hK.out _ _ (fun _ => hSS.out _ hD.below) ?_
          clear hK K
          (try simp only [Act.put, List.setIfInBounds_toArray, List.set_cons_zero, List.set_cons_succ])
          generalize World.setCell _ _ _ = wA at *
          refine lateT_step (i := 9) (by kernel_rfl) rfl (fun K hK => ?_)
          obtain ⟨yq, zq⟩ := hD.atQ
          go_simp
          replace hD := hD.storeQ (.slice A7 N c7)
          clear yq zq
          refine hK.out _ _ (fun h => absurd rfl h) ?_
          clear hK K
          (try simp only [Act.put, List.setIfInBounds_toArray, List.set_cons_zero, List.set_cons_succ])
          generalize World.setCell _ _ _ = wA at *
          refine lateT_done (by kernel_rfl) ?_ _
          go_wp2_with fail
          go_meet
          exact ⟨_, _, _, _, _, _, rfl, rfl, hide hD⟩
    · go_simp
      replace hD := hD.allocP (.slice none 0 0)
      refine hK.out _ _ (fun _ => hSS.out _ hD.below) ?_
      clear hK K
      (try simp only [Act.put, List.setIfInBounds_toArray, List.set_cons_zero, List.set_cons_succ])
      generalize World.alloc _ _ = wA at *
      refine lateT_two (i := 2) (j := 7) (by kernel_rfl) rfl rfl (fun K hK => ?_) (fun K hK => ?_)
      · go_simp
        go_at_call 51; (with_reducible refine (qf.out _ hD.below).mono ?_); rintro e w6 ⟨A6, c6, rfl, hs6, hb6⟩
        replace hD := hD.callR (c := c6) hb6 hs6
        clear hs6 hb6
        refine hK.out _ _ (fun _ => hSS.out _ hD.below) ?_
        clear hK K
        (try simp only [Act.put, List.setIfInBounds_toArray, List.set_cons_zero, List.set_cons_succ])
        refine lateT_two (i := 5) (j := 7) (by kernel_rfl) rfl rfl (fun K hK => ?_) (fun K hK => ?_)
        · go_simp
          go_at_call 51; (with_reducible refine (qg.out _ hD.below).mono ?_); rintro e w7 ⟨A7, c7, rfl, hs7, hb7⟩
          replace hD := hD.callS (c := c7) hb7 hs7
          clear hs7 hb7
          refine hK.out _ _ (fun _ => hSS.out _ hD.below) ?_
          clear hK K
          (try simp only [Act.put, List.setIfInBounds_toArray, List.set_cons_zero, List.set_cons_succ])
          refine lateT_step (i := 7) (by kernel_rfl) rfl (fun K hK => ?_)
          go_simp
          replace hD := hD.allocQ (.slice none 0 0)
          refine hK.out _ _ (fun _ => hSS.out _ hD.below) ?_
          clear hK K
          (try simp only [Act.put, List.setIfInBounds_toArray, List.set_cons_zero, List.set_cons_succ])
          generalize World.alloc _ _ = wA at *
          refine lateT_step (i := 8) (by kernel_rfl) rfl (fun K hK => ?_)
          obtain ⟨yp, zp⟩ := hD.atP
          go_simp
          replace hD := hD.storeP (.slice A6 N c6)
          clear yp zp
          refine hK.out _ _ (fun _ => hSS.out _ hD.below) ?_
          clear hK K
          (try simp only [Act.put, List.setIfInBounds_toArray, List.set_cons_zero, List.set_cons_succ])
          generalize World.setCell _ _ _ = wA at *
          refine lateT_step (i := 9) (by kernel_rfl) rfl (fun K hK => ?_)
          obtain ⟨yq, zq⟩ := hD.atQ
          go_simp
          replace hD := hD.storeQ (.slice A7 N c7)
          clear yq zq
          refine hK.out _ _ (fun h => absurd rfl h) ?_
          clear hK K
          (try simp only [Act.put, List.setIfInBounds_toArray, List.set_cons_zero, List.set_cons_succ])
          generalize World.setCell _ _ _ = wA at *
          refine lateT_done (by kernel_rfl) ?_ _
          go_wp2_with fail
          go_meet
          exact ⟨_, _, _, _, _, _, rfl, rfl, hide hD⟩
        · go_simp
          replace hD := hD.allocQ (.slice none 0 0)
          refine hK.out _ _ (fun _ => hSS.out _ hD.below) ?_
          clear hK K
          (try simp only [Act.put, List.setIfInBounds_toArray, List.set_cons_zero, List.set_cons_succ])
          generalize World.alloc _ _ = wA at *
          refine lateT_step (i := 5) (by kernel_rfl) rfl (fun K hK => ?_)
          go_simp
          go_at_call 51; (with_reducible refine (qg.out _ hD.below).mono ?_); rintro e w7 ⟨A7, c7, rfl, hs7, hb7⟩
          replace hD := hD.callS (c := c7) hb7 hs7
          clear hs7 hb7
          refine hK.out _ _ (fun _ => hSS.out _ hD.below) ?_
          clear hK K
          (try simp only [Act.put, List.setIfInBounds_toArray, List.set_cons_zero, List.set_cons_succ])
          refine lateT_step (i := 8) (by kernel_rfl) rfl (fun K hK => ?_)
          obtain ⟨yp, zp⟩ := hD.atP
          go_simp
          replace hD := hD.storeP (.slice A6 N c6)
          clear yp zp
          refine hK.out _ _ (fun _ => hSS.out _ hD.below) ?_
          clear hK K
          (try simp only [Act.put, List.setIfInBounds_toArray, List.set_cons_zero, List.set_cons_succ])
          generalize World.setCell _ _ _ = wA at *
          refine lateT_step (i := 9) (by kernel_rfl) rfl (fun K hK => ?_)
          obtain ⟨yq, zq⟩ := hD.atQ
          go_simp
          replace hD := hD.storeQ (.slice A7 N c7)
          clear yq zq
          refine hK.out _ _ (fun h => absurd rfl h) ?_
          clear hK K
          (try simp only [Act.put, List.setIfInBounds_toArray, List.set_cons_zero, List.set_cons_succ])
          generalize World.setCell _ _ _ = wA at *
          refine lateT_done (by kernel_rfl) ?_ _
          go_wp2_with fail
          go_meet
          exact ⟨_, _, _, _, _, _, rfl, rfl, hide hD⟩
      · go_simp
        replace hD := hD.allocQ (.slice none 0 0)
        refine hK.out _ _ (fun _ => hSS.out _ hD.below) ?_
        clear hK K
        (try simp only [Act.put, List.setIfInBounds_toArray, List.set_cons_zero, List.set_cons_succ])
        generalize World.alloc _ _ = wA at *
        refine lateT_step (i := 2) (by kernel_rfl) rfl (fun K hK => ?_)
        go_simp
        go_at_call 51; (with_reducible refine (qf.out _ hD.below).mono ?_); rintro e w6 ⟨A6, c6, rfl, hs6, hb6⟩
        replace hD := hD.callR (c := c6) hb6 hs6
        clear hs6 hb6
        refine hK.out _ _ (fun _ => hSS.out _ hD.below) ?_
        clear hK K
        (try simp only [Act.put, List.setIfInBounds_toArray, List.set_cons_zero, List.set_cons_succ])
        refine lateT_step (i := 5) (by kernel_rfl) rfl (fun K hK => ?_)
        go_simp
        go_at_call 51; (with_reducible refine (qg.out _ hD.below).mono ?_); rintro e w7 ⟨A7, c7, rfl, hs7, hb7⟩
        replace hD := hD.callS (c := c7) hb7 hs7
        clear hs7 hb7
        refine hK.out _ _ (fun _ => hSS.out _ hD.below) ?_
        clear hK K
        (try simp only [Act.put, List.setIfInBounds_toArray, List.set_cons_zero, List.set_cons_succ])
        refine lateT_step (i := 8) (by kernel_rfl) rfl (fun K hK => ?_)
        obtain ⟨yp, zp⟩ := hD.atP
        go_simp
        replace hD := hD.storeP (.slice A6 N c6)
        clear yp zp
        refine hK.out _ _ (fun _ => hSS.out _ hD.below) ?_
        clear hK K
        (try simp only [Act.put, List.setIfInBounds_toArray, List.set_cons_zero, List.set_cons_succ])
        generalize World.setCell _ _ _ = wA at *
        refine lateT_step (i := 9) (by kernel_rfl) rfl (fun K hK => ?_)
        obtain ⟨yq, zq⟩ := hD.atQ
        go_simp
        replace hD := hD.storeQ (.slice A7 N c7)
        clear yq zq
        refine hK.out _ _ (fun h => absurd rfl h) ?_
        clear hK K
        (try simp only [Act.put, List.setIfInBounds_toArray, List.set_cons_zero, List.set_cons_succ])
        generalize World.setCell _ _ _ = wA at *
        refine lateT_done (by kernel_rfl) ?_ _
        go_wp2_with fail
        go_meet
        exact ⟨_, _, _, _, _, _, rfl, rfl, hide hD⟩
    · go_simp
      replace hD := hD.allocQ (.slice none 0 0)
      refine hK.out _ _ (fun _ => hSS.out _ hD.below) ?_
      clear hK K
      (try simp only [Act.put, List.setIfInBounds_toArray, List.set_cons_zero, List.set_cons_succ])
      generalize World.alloc _ _ = wA at *
      refine lateT_two (i := 2) (j := 6) (by kernel_rfl) rfl rfl (fun K hK => ?_) (fun K hK => ?_)
      · go_simp
        go_at_call 51; (with_reducible refine (qf.out _ hD.below).mono ?_); rintro e w6 ⟨A6, c6, rfl, hs6, hb6⟩
        replace hD := hD.callR (c := c6) hb6 hs6
        clear hs6 hb6
        refine hK.out _ _ (fun _ => hSS.out _ hD.below) ?_
        clear hK K
        (try simp only [Act.put, List.setIfInBounds_toArray, List.set_cons_zero, List.set_cons_succ])
        refine lateT_two (i := 5) (j := 6) (by kernel_rfl) rfl rfl (fun K hK => ?_) (fun K hK => ?_)
        · go_simp
          go_at_call 51; (with_reducible refine (qg.out _ hD.below).mono ?_); rintro e w7 ⟨A7, c7, rfl, hs7, hb7⟩
          replace hD := hD.callS (c := c7) hb7 hs7
          clear hs7 hb7
          refine hK.out _ _ (fun _ => hSS.out _ hD.below) ?_
          clear hK K
          (try simp only [Act.put, List.setIfInBounds_toArray, List.set_cons_zero, List.set_cons_succ])
          refine lateT_step (i := 6) (by kernel_rfl) rfl (fun K hK => ?_)
          go_simp
          replace hD := hD.allocP (.slice none 0 0)
          refine hK.out _ _ (fun _ => hSS.out _ hD.below) ?_
          clear hK K
          (try simp only [Act.put, List.setIfInBounds_toArray, List.set_cons_zero, List.set_cons_succ])
          generalize World.alloc _ _ = wA at *
          refine lateT_step (i := 8) (by kernel_rfl) rfl (fun K hK => ?_)
          obtain ⟨yp, zp⟩ := hD.atP
          go_simp
          replace hD := hD.storeP (.slice A6 N c6)
          clear yp zp
          refine hK.out _ _ (fun _ => hSS.out _ hD.below) ?_
          clear hK K
          (try simp only [Act.put, List.setIfInBounds_toArray, List.set_cons_zero, List.set_cons_succ])
          generalize World.setCell _ _ _ = wA at *
          refine lateT_step (i := 9) (by kernel_rfl) rfl (fun K hK => ?_)
          obtain ⟨yq, zq⟩ := hD.atQ
          go_simp
          replace hD := hD.storeQ (.slice A7 N c7)
          clear yq zq
          refine hK.out _ _ (fun h => absurd rfl h) ?_
          clear hK K
          (try simp only [Act.put, List.setIfInBounds_toArray, List.set_cons_zero, List.set_cons_succ])
          generalize World.setCell _ _ _ = wA at *
          refine lateT_done (by kernel_rfl) ?_ _
          go_wp2_with fail
          go_meet
          exact ⟨_, _, _, _, _, _, rfl, rfl, hide hD⟩
        · go_simp
          replace hD := hD.allocP (.slice none 0 0)
          refine hK.out _ _ (fun _ => hSS.out _ hD.below) ?_
          clear hK K
          (try simp only [Act.put, List.setIfInBounds_toArray, List.set_cons_zero, List.set_cons_succ])
          generalize World.alloc _ _ = wA at *
          refine lateT_step (i := 5) (by kernel_rfl) rfl (fun K hK => ?_)
          go_simp
          go_at_call 51; (with_reducible refine (qg.out _ hD.below).mono ?_); rintro e w7 ⟨A7, c7, rfl, hs7, hb7⟩
          replace hD := hD.callS (c := c7) hb7 hs7
          clear hs7 hb7
          refine hK.out _ _ (fun _ => hSS.out _ hD.below) ?_
          clear hK K
          (try simp only [Act.put, List.setIfInBounds_toArray, List.set_cons_zero, List.set_cons_succ])
          refine lateT_step (i := 8) (by kernel_rfl) rfl (fun K hK => ?_)
          obtain ⟨yp, zp⟩ := hD.atP
          go_simp
          replace hD := hD.storeP (.slice A6 N c6)
          clear yp zp
          refine hK.out _ _ (fun _ => hSS.out _ hD.below) ?_
          clear hK K
          (try simp only [Act.put, List.setIfInBounds_toArray, List.set_cons_zero, List.set_cons_succ])
          generalize World.setCell _ _ _ = wA at *
          refine lateT_step (i := 9) (by kernel_rfl) rfl (fun K hK => ?_)
          obtain ⟨yq, zq⟩ := hD.atQ
          go_simp
          replace hD := hD.storeQ (.slice A7 N c7)
          clear yq zq
          refine hK.out _ _ (fun h => absurd rfl h) ?_
          clear hK K
          (try simp only [Act.put, List.setIfInBounds_toArray, List.set_cons_zero, List.set_cons_succ])
          generalize World.setCell _ _ _ = wA at *
          refine lateT_done (by kernel_rfl) ?_ _
          go_wp2_with fail
          go_meet
          exact ⟨_, _, _, _, _, _, rfl, rfl, hide hD⟩
      · go_simp
        replace hD := hD.allocP (.slice none 0 0)
        refine hK.out _ _ (fun _ => hSS.out _ hD.below) ?_
        clear hK K
        (try simp only [Act.put, List.setIfInBounds_toArray, List.set_cons_zero, List.set_cons_succ])
        generalize World.alloc _ _ = wA at *
        refine lateT_step (i := 2) (by kernel_rfl) rfl (fun K hK => ?_)
        go_simp
        go_at_call 51; (with_reducible refine (qf.out _ hD.below).mono ?_); rintro e w6 ⟨A6, c6, rfl, hs6, hb6⟩
        replace hD := hD.callR (c := c6) hb6 hs6
        clear hs6 hb6
        refine hK.out _ _ (fun _ => hSS.out _ hD.below) ?_
        clear hK K
        (try simp only [Act.put, List.setIfInBounds_toArray, List.set_cons_zero, List.set_cons_succ])
        refine lateT_step (i := 5) (by kernel_rfl) rfl (fun K hK => ?_)
        go_simp
        go_at_call 51; (with_reducible refine (qg.out _ hD.below).mono ?_); rintro e w7 ⟨A7, c7, rfl, hs7, hb7⟩
        replace hD := hD.callS (c := c7) hb7 hs7
        clear hs7 hb7
        refine hK.out _ _ (fun _ => hSS.out _ hD.below) ?_
        clear hK K
        (try simp only [Act.put, List.setIfInBounds_toArray, List.set_cons_zero, List.set_cons_succ])
        refine lateT_step (i := 8) (by kernel_rfl) rfl (fun K hK => ?_)
        obtain ⟨yp, zp⟩ := hD.atP
        go_simp
        replace hD := hD.storeP (.slice A6 N c6)
        clear yp zp
        refine hK.out _ _ (fun _ => hSS.out _ hD.below) ?_
        clear hK K
        (try simp only [Act.put, List.setIfInBounds_toArray, List.set_cons_zero, List.set_cons_succ])
        generalize World.setCell _ _ _ = wA at *
        refine lateT_step (i := 9) (by kernel_rfl) rfl (fun K hK => ?_)
        obtain ⟨yq, zq⟩ := hD.atQ
        go_simp
        replace hD := hD.storeQ (.slice A7 N c7)
        clear yq zq
        refine hK.out _ _ (fun h => absurd rfl h) ?_
        clear hK K
        (try simp only [Act.put, List.setIfInBounds_toArray, List.set_cons_zero, List.set_cons_succ])
        generalize World.setCell _ _ _ = wA at *
        refine lateT_done (by kernel_rfl) ?_ _
        go_wp2_with fail
        go_meet
        exact ⟨_, _, _, _, _, _, rfl, rfl, hide hD⟩
  case rest =>
    obtain ⟨b, b', A6, c6, A7, c7, rfl, rfl, hD⟩ := hcut
    obtain ⟨s0, -, -, -⟩ := hSS.out wc hD.out.below
    have qU := hide (upTo_calls N (by omega) wc)
    have hzc := hD.out.below.size
    have hzw := hb5.out.size
    have hres : idxOf (difV f g ((N : Int), ini, ls, es)) = ((List.range N).map Int.ofNat).filter (fun v => !(inS FF v.toNat == inS GG v.toNat)) := by
      rw [hIF.out]
      exact idx_setOf (p := fun k => inS FF k != inS GG k)
    replace hres := hide hres
    clear hSS qf qg
    go_wp2_with (first
      | (go_at_call 58; (with_reducible refine qU.out.mono ?_); rintro e w8 ⟨A8, c8, rfl, ho8, hb8⟩; have qC := hide (deleteFuncI_calls 85 #[.pointer (some ⟨b, 0, none⟩), .pointer (some ⟨b', 0, none⟩)] (fun v => inS FF v.toNat == inS GG v.toNat) A8 N c8 _ w8 wc.heap.size (ho8.sl flat_iv) ho8.cap (by omega) hb8.size (fun _ _ => by kernel_rfl) (fun v W hv hW => (by obtain ⟨k, rfl, hk⟩ := mem_upTo hv; have hDW := hD.out.keep (hb8.trans hW); exact dif1_calls b b' A6 A7 N c6 c7 k FF GG W _ _ _ _ hDW.atP.1 hDW.atQ.1 (hDW.hr _ _ _ rfl).1 (hDW.hs _ _ _ rfl).1 hk))); replace hb8 := hide hb8; clear ho8) | (go_at_call 84; (with_reducible refine qC.out.mono ?_); rintro e w9 ⟨m9, c9, rfl, hm9, hmc9, hs9, hb9⟩; replace hb9 := hide hb9; replace hs9 := hide hs9))
    go_ret2
    have hB := hb0.out.trans ((hb5.out.trans ((hD.out.below.trans ((hb8.out.trans hb9.out).mono hzc)).mono hzw)).mono hz0)
    have hs9' := hs9.out
    rw [← hres.out] at hs9'
    have hfin : ResI w9 bt w9.heap.size (.slice A8 m9 c9) (idxOf (difV f g ((N : Int), ini, ls, es))) := ⟨A8, m9, c9, rfl, by omega, hs9'.more (by omega) (Nat.le_refl _)⟩
    first | exact ⟨.slice A8 m9 c9, by rw [hval.out]; rfl, by rw [hval.out]; exact hfin, hB⟩ | (rw [hbt]; exact ⟨.slice A8 m9 c9, by rw [hval.out]; rfl, by rw [hval.out]; exact hfin, hB⟩)

end Go.Proofs.YtanlgnjgpbjebaaGreatDoor

namespace Go.Proofs.YtanlgnjgpbjebaaGreatDoor
open Go.ChangeShapes Go.WideShapes Go.ChangeAt Go.RowKit
set_option linter.unusedVariables false
set_option linter.unusedSimpArgs false

/-- The reference's test of two formulas and a system in memory. -/
structure TwoAt (w : World) (bt : Nat) (A : Option Addr) (n : Nat) (f : DN) (B : Option Addr) (m : Nat) (g : DN) (x : CL) (d : DL) : Prop where
  f : FrmAt w A n f
  g : FrmAt w B m g
  l : LtsAt w bt x d
theorem TwoAt.below {w w' : World} {bt n m : Nat} {A B : Option Addr} {f g : DN} {x : CL} {d : DL} (h : TwoAt w bt A n f B m g x d) (hb : Below w.heap.size w w') : TwoAt w' bt A n f B m g x d := ⟨h.f.below hb, h.g.below hb, h.l.below hb (Nat.le_refl _)⟩

set_option maxRecDepth 100000 in
set_option maxHeartbeats 6400000 in
theorem specDifferenceStates_u {v u u2 : Value} {f g : DN} {d : DL} {w : World} {lo hi lo' hi' lo2 hi2 : Nat} (he : Env w) (hf : FreshN w lo' hi' u f) (hfh : hi' ≤ w.heap.size) (hg : FreshN w lo2 hi2 u2 g) (hgh : hi2 ≤ w.heap.size) (h : FreshL w lo hi v d) (hh : hi ≤ w.heap.size) :
    Calls Tryz.prog 38 #[u, u2, v] w fun e w' => ∃ o, e = .returned (.tuple #[o, .int .i64 (difF f g d).2]) ∧ ResI w' w.heap.size w'.heap.size o (difF f g d).1 ∧ Below w.heap.size w w' := by
  obtain ⟨⟨⟨s0, s1, v2, v3⟩, rfl, hL⟩, ht⟩ := h
  obtain ⟨A, n, rfl, hF⟩ := FrmAt.of hf hfh
  obtain ⟨B, m, rfl, hG⟩ := FrmAt.of hg hgh
  obtain ⟨st, ini, ls, es⟩ := d
  have hAt := LtsAt.box hL hh ht
  obtain ⟨W0, hW0⟩ : ∃ W', W' = w.alloc (.cells #[.int .i64 s0, .int .i64 s1, v2, v3] 35) := ⟨_, rfl⟩
  have hb0 : Below w.heap.size w W0 := by rw [hW0]; exact (Below.refl _ _).alloc (Nat.le_refl _) _
  rw [← hW0] at hAt
  have hT : TwoAt W0 w.heap.size A n f B m g (s0, s1, v2, v3) (st, ini, ls, es) := ⟨hF.below hb0, hG.below hb0, hAt⟩
  have hz0 := hb0.size
  replace hb0 := hide hb0
  clear he hf hg hF hG hL hAt
  have q1 := fun W (hW : Below W0.heap.size W0 W) => l19Is_calls A n n f W 0 W.heap.size (hT.below hW).f.1 (hT.below hW).f.2
  have q2 := fun W (hW : Below W0.heap.size W0 W) => l19Is_calls B m m g W 0 W.heap.size (hT.below hW).g.1 (hT.below hW).g.2
  have q3 := fun W (hW : Below W0.heap.size W0 W) => l11Is_calls w.heap.size (s0, s1, v2, v3) (st, ini, ls, es) W (hT.below hW).l
  go_enter Tryz.func38, Tryz.ntmps38
  go_upto_region 1 with fail
  rw [← hW0]
  clear hW0
  cases c1 : isB f with
  | false =>
    have hval : Hid (difF f g (st, ini, ls, es) = ([], 1)) := by show _ = _; have h0 := twoC_bad (f := f) (g := g) (d := (st, ini, ls, es)) (by rw [c1]; rfl); unfold difF; rw [h0]; rfl
    simp only [c1] at q1
    replace q1 := hide q1
    clear c1 q2 q3 hT
    go_wp2_with (first | (go_at_call 55; (with_reducible refine (q1.out _ (Below.refl _ _)).mono ?_); rintro e w1 ⟨rfl, hb1⟩))
    go_ret2
    exact ⟨.slice none 0 0, by rw [hval.out]; rfl, by rw [hval.out]; exact ⟨none, 0, 0, rfl, by omega, Sl.nil_⟩, hb0.out.trans (hb1.mono hz0)⟩
  | true =>
  cases c2 : isB g with
  | false =>
    have hval : Hid (difF f g (st, ini, ls, es) = ([], 1)) := by show _ = _; have h0 := twoC_bad (f := f) (g := g) (d := (st, ini, ls, es)) (by rw [c1, c2]; rfl); unfold difF; rw [h0]; rfl
    simp only [c1] at q1
    simp only [c2] at q2
    replace q1 := hide q1
    replace q2 := hide q2
    clear c1 c2 q3 hT
    go_wp2_with (first | (go_at_call 55; (with_reducible refine (q1.out _ (Below.refl _ _)).mono ?_); rintro e w1 ⟨rfl, hb1⟩) | (go_at_call 55; (with_reducible refine (q2.out _ hb1).mono ?_); rintro e w2 ⟨rfl, hb2⟩))
    go_ret2
    exact ⟨.slice none 0 0, by rw [hval.out]; rfl, by rw [hval.out]; exact ⟨none, 0, 0, rfl, by omega, Sl.nil_⟩, hb0.out.trans ((hb1.trans (hb2.mono hb1.size)).mono hz0)⟩
  | true =>
  cases c3 : ltsV (st, ini, ls, es) with
  | false =>
    have hval : Hid (difF f g (st, ini, ls, es) = ([], 1)) := by show _ = _; have h0 := twoC_bad (f := f) (g := g) (d := (st, ini, ls, es)) (by rw [c1, c2, c3]; rfl); unfold difF; rw [h0]; rfl
    simp only [c1] at q1
    simp only [c2] at q2
    simp only [c3] at q3
    replace q1 := hide q1
    replace q2 := hide q2
    replace q3 := hide q3
    clear c1 c2 c3 hT
    go_wp2_with (first | (go_at_call 55; (with_reducible refine (q1.out _ (Below.refl _ _)).mono ?_); rintro e w1 ⟨rfl, hb1⟩) | (go_at_call 55; (with_reducible refine (q2.out _ hb1).mono ?_); rintro e w2 ⟨rfl, hb2⟩; have hb12 := hb1.trans (hb2.mono hb1.size)) | (go_at_call 56; (with_reducible refine (q3.out _ hb12).mono ?_); rintro e w3 ⟨rfl, hb3⟩))
    go_ret2
    exact ⟨.slice none 0 0, by rw [hval.out]; rfl, by rw [hval.out]; exact ⟨none, 0, 0, rfl, by omega, Sl.nil_⟩, hb0.out.trans ((hb12.trans (hb3.mono hb12.size)).mono hz0)⟩
  | true =>
  have hval : Hid (difF f g (st, ini, ls, es) = (idxOf (difV f g (st, ini, ls, es)), 0)) := by show _ = _; have h0 := twoC_good (f := f) (g := g) (d := (st, ini, ls, es)) (by rw [c1, c2, c3]; rfl); unfold difF; rw [if_pos h0]
  simp only [c1] at q1
  simp only [c2] at q2
  simp only [c3] at q3
  replace q1 := hide q1
  replace q2 := hide q2
  replace q3 := hide q3
  have hV := isB_val c1
  have hV2 := isB_val c2
  have hb40 := (lts_boundsB c3).1
  obtain ⟨N, rfl⟩ : ∃ N : Nat, st = (N : Int) := ⟨st.toNat, by omega⟩
  have hN40 : N ≤ 40 := by omega
  have hN0 : 0 < N := by omega
  have q4 := fun W (hW : Below W0.heap.size W0 W) => l21Holds_calls A n n w.heap.size N f (s0, s1, v2, v3) ini ls es W (hT.below hW).f.1 (hT.below hW).f.2 hV (hT.below hW).l c3
  have q5 := fun W (hW : Below W0.heap.size W0 W) => l21Holds_calls B m m w.heap.size N g (s0, s1, v2, v3) ini ls es W (hT.below hW).g.1 (hT.below hW).g.2 hV2 (hT.below hW).l c3
  have hIF : Hid (difV f g ((N : Int), ini, ls, es) = setOf N fun k => inS (semF f ((N : Int), ini, ls, es)) k != inS (semF g ((N : Int), ini, ls, es)) k) := rfl
  clear c1 c2 c3 hT hV hV2 hb40
  generalize semF f ((N : Int), ini, ls, es) = FF at *
  generalize semF g ((N : Int), ini, ls, es) = GG at *
  replace q4 := hide q4
  replace q5 := hide q5
  go_wp2_with (first | (go_at_call 55; (with_reducible refine (q1.out _ (Below.refl _ _)).mono ?_); rintro e w1 ⟨rfl, hb1⟩) | (go_at_call 55; (with_reducible refine (q2.out _ hb1).mono ?_); rintro e w2 ⟨rfl, hb2⟩; have hb12 := hb1.trans (hb2.mono hb1.size)) | (go_at_call 56; (with_reducible refine (q3.out _ hb12).mono ?_); rintro e w3 ⟨rfl, hb3⟩; have hb13 := hb12.trans (hb3.mono hb12.size); have q6 := hide (q4.out _ hb13); clear q1 q2 q3) | (go_at_call 46; (with_reducible refine q6.out.mono ?_); rintro e w4 ⟨A6, c6, rfl, hs6, hb4⟩; have hb14 := hb13.trans (hb4.mono hb13.size); have q7 := hide (q5.out _ hb14); replace hs6 := hide hs6; clear q6) | (go_at_call 46; (with_reducible refine q7.out.mono ?_); rintro e w5 ⟨A7, c7, rfl, hs7, hb5⟩; have hb15 := hide (hb14.trans (hb5.mono hb14.size)); have hs6' := hide (hs6.out.below hb5 (.inr (Nat.le_refl _))); replace hs7 := hide hs7; clear q7))
  have hzz := hb4.size
  have hz5 := hb5.size
  have hzA := hb13.size
  clear hb1 hb2 hb12 hb3 hb13 hb4 hb14 hb5 hs6
  obtain ⟨b1, o1, rfl, g61, g62, g63, -⟩ := hs6'.out.at_ hN0
  have hFl := hs6'.out.len
  go_loopw [10] (fun i wr => ∃ j : Nat, j ≤ N ∧ i = .int .i64 (j : Nat) ∧ Hid (SlB wr w3.heap.size w4.heap.size (some ⟨b1, o1, none⟩) N (setOf N fun k => if k < j then inS FF k != inS GG k else inS FF k)) ∧ Hid (But (fun b => b = b1) w5 wr)) (fun i _ => N - (intOf i).toNat)
  case atStart =>
    refine ⟨0, Nat.zero_le _, rfl, ?_, But.refl _ _⟩
    show SlB _ _ _ _ _ _
    rw [setOf_self hFl (p := fun k => if k < 0 then inS FF k != inS GG k else inS FF k) (fun x hx => by simp)]
    exact hs6'.out
  case round =>
    obtain ⟨j, hj, rfl, hs, hbu⟩ := hrel
    by_cases hlt : j < N
    · obtain ⟨b1', o1', e1, -, -, ga, -, ca, fa⟩ := SlB.get hs.out hlt
      cases e1
      obtain ⟨b2, o2, rfl, -, -, -, -, cb, -⟩ := SlB.get (hs7.out.but hbu.out (fun x hx => .inl (by rw [hx]; omega))) hlt
      rw [inS_setOf, decide_eq_true hlt, Bool.true_and, if_neg (Nat.lt_irrefl j)] at ca
      have hj0 : (0 : Int) ≤ (j : Int) := by omega
      have hj1 : (j : Int) < (N : Int) := by omega
      have hput := hide (fun (b : Bool) (hb : (inS FF j != inS GG j) = b) => setOf_put (n := N) (k := j) (p := fun k => if k < j then inS FF k != inS GG k else inS FF k) (p' := fun k => if k < j + 1 then inS FF k != inS GG k else inS FF k) (b := b) hlt (fun x hx => by
        by_cases e : x = j
        · subst e; rw [if_pos rfl, if_pos (by omega), hb]
        · rw [if_neg e]
          by_cases e2 : x < j
          · rw [if_pos e2, if_pos (by omega)]
          · rw [if_neg e2, if_neg (by omega)]))
      have hs9 := hide (fun (b : Bool) => (SlB.put (w := wr.drew) hs.out.drew hlt b : SlB (wr.drew.setCell ⟨b1, o1 + j, none⟩ (.bool b)) _ _ _ _ _))
      have hbu9 := hide (fun (b : Bool) => hbu.out.drew.trans (But.set wr.drew ⟨b1, o1 + j, none⟩ (.bool b) rfl))
      generalize inS FF j = u at *
      generalize inS GG j = v at *
      clear hs
      have hst : Hid (∀ b : Bool, (u != v) = b → SlB (wr.drew.setCell ⟨b1, o1 + j, none⟩ (.bool b)) w3.heap.size w4.heap.size (some ⟨b1, o1, none⟩) N (setOf N fun k => if k < j + 1 then inS FF k != inS GG k else inS FF k)) := fun b hb => by
        rw [← hput.out b hb]; exact hs9.out b
      have hfr : wr.drew.frozen? ⟨b1, o1 + j, none⟩ = false := fa
      have hcr : wr.drew.cell? ⟨b1, o1 + j, none⟩ = some (.bool u) := ca
      have hnb : (u != v) = !(u == v) := by cases u <;> cases v <;> rfl
      have hres := hst.out (!(u == v)) hnb
      have hbr := hbu9.out (!(u == v))
      replace hres := hide hres
      replace hbr := hide hbr
      clear hst hput hs9 hnb
      go_upto_region 8 with fail
      refine lateT_begin (S := fun w' => w'.cell? ⟨b1, o1 + j, none⟩ = some (.bool u) ∧ w'.cell? ⟨b2, o2 + j, none⟩ = some (.bool v)) (st := 12) (by kernel_rfl) ?_
      have hS0 := (⟨ca, cb⟩ : (fun w' : World => w'.cell? ⟨b1, o1 + j, none⟩ = some (.bool u) ∧ w'.cell? ⟨b2, o2 + j, none⟩ = some (.bool v)) wr)
      refine lateT_take (i := 0) (oi := _) (v := ?_) [12] rfl (by kernel_rfl) (by kernel_rfl) (by kernel_rfl) (by kernel_rfl) (fun _ _ _ h => h) (Or.inl ⟨by kernel_rfl, ?hy⟩) hS0 ?_
      case hy => (intro w' hSw; (try dsimp only at hSw); (obtain ⟨hq0, hq1⟩ := hSw); go_simp <;> with_reducible rfl)
      (try simp only [Act.put, List.setIfInBounds_toArray, List.set_cons_zero, List.set_cons_succ])
      refine lateT_take (i := 1) (oi := _) (v := ?_) [12] rfl (by kernel_rfl) (by kernel_rfl) (by kernel_rfl) (by kernel_rfl) (fun _ _ _ h => h) (Or.inl ⟨by kernel_rfl, ?hy⟩) hS0 ?_
      case hy => (intro w' hSw; (try dsimp only at hSw); (obtain ⟨hq0, hq1⟩ := hSw); go_simp <;> with_reducible rfl)
      (try simp only [Act.put, List.setIfInBounds_toArray, List.set_cons_zero, List.set_cons_succ])
      refine lateT_take (i := 2) (oi := _) (v := ?_) [12] rfl (by kernel_rfl) (by kernel_rfl) (by kernel_rfl) (by kernel_rfl) (fun _ _ _ h => h) (Or.inl ⟨by kernel_rfl, ?hy⟩) hS0 ?_
      case hy => (intro w' hSw; (try dsimp only at hSw); (obtain ⟨hq0, hq1⟩ := hSw); go_simp <;> with_reducible rfl)
      (try simp only [Act.put, List.setIfInBounds_toArray, List.set_cons_zero, List.set_cons_succ])
      refine lateT_take (i := 3) (oi := _) (v := ?_) [12] rfl (by kernel_rfl) (by kernel_rfl) (by kernel_rfl) (by kernel_rfl) (fun _ _ _ h => h) (Or.inl ⟨by kernel_rfl, ?hy⟩) hS0 ?_
      case hy => (intro w' hSw; (try dsimp only at hSw); (obtain ⟨hq0, hq1⟩ := hSw); go_simp <;> with_reducible rfl)
      (try simp only [Act.put, List.setIfInBounds_toArray, List.set_cons_zero, List.set_cons_succ])
      refine lateT_take (i := 4) (oi := _) (v := ?_) [12] rfl (by kernel_rfl) (by kernel_rfl) (by kernel_rfl) (by kernel_rfl) (fun _ _ _ h => h) (Or.inl ⟨by kernel_rfl, ?hy⟩) hS0 ?_
      case hy => (intro w' hSw; (try dsimp only at hSw); (obtain ⟨hq0, hq1⟩ := hSw); go_simp <;> with_reducible rfl)
      (try simp only [Act.put, List.setIfInBounds_toArray, List.set_cons_zero, List.set_cons_succ])
      refine lateT_take (i := 5) (oi := _) (v := ?_) [12] rfl (by kernel_rfl) (by kernel_rfl) (by kernel_rfl) (by kernel_rfl) (fun _ _ _ h => h) (Or.inl ⟨by kernel_rfl, ?hy⟩) hS0 ?_
      case hy => (intro w' hSw; (try dsimp only at hSw); (obtain ⟨hq0, hq1⟩ := hSw); go_simp <;> with_reducible rfl)
      (try simp only [Act.put, List.setIfInBounds_toArray, List.set_cons_zero, List.set_cons_succ])
      refine lateT_take (i := 6) (oi := _) (v := ?_) [12] rfl (by kernel_rfl) (by kernel_rfl) (by kernel_rfl) (by kernel_rfl) (fun _ _ _ h => h) (Or.inl ⟨by kernel_rfl, ?hy⟩) hS0 ?_
      case hy => (intro w' hSw; (try dsimp only at hSw); (obtain ⟨hq0, hq1⟩ := hSw); go_simp <;> with_reducible rfl)
      (try simp only [Act.put, List.setIfInBounds_toArray, List.set_cons_zero, List.set_cons_succ])
      refine lateT_take (i := 7) (oi := _) (v := ?_) [12] rfl (by kernel_rfl) (by kernel_rfl) (by kernel_rfl) (by kernel_rfl) (fun _ _ _ h => h) (Or.inl ⟨by kernel_rfl, ?hy⟩) hS0 ?_
      case hy => (intro w' hSw; (try dsimp only at hSw); (obtain ⟨hq0, hq1⟩ := hSw); go_simp <;> with_reducible rfl)
      (try simp only [Act.put, List.setIfInBounds_toArray, List.set_cons_zero, List.set_cons_succ])
      refine lateT_take (i := 8) (oi := _) (v := ?_) [12] rfl (by kernel_rfl) (by kernel_rfl) (by kernel_rfl) (by kernel_rfl) (fun _ _ _ h => h) (Or.inl ⟨by kernel_rfl, ?hy⟩) hS0 ?_
      case hy => (intro w' hSw; (try dsimp only at hSw); (obtain ⟨hq0, hq1⟩ := hSw); go_simp <;> with_reducible rfl)
      (try simp only [Act.put, List.setIfInBounds_toArray, List.set_cons_zero, List.set_cons_succ])
      refine lateT_take (i := 9) (oi := _) (v := ?_) [12] rfl (by kernel_rfl) (by kernel_rfl) (by kernel_rfl) (by kernel_rfl) (fun _ _ _ h => h) (Or.inl ⟨by kernel_rfl, ?hy⟩) hS0 ?_
      case hy => (intro w' hSw; (try dsimp only at hSw); (obtain ⟨hq0, hq1⟩ := hSw); go_simp <;> with_reducible rfl)
      (try simp only [Act.put, List.setIfInBounds_toArray, List.set_cons_zero, List.set_cons_succ])
      refine lateT_take (i := 10) (oi := _) (v := ?_) [12] rfl (by kernel_rfl) (by kernel_rfl) (by kernel_rfl) (by kernel_rfl) (fun _ _ _ h => h) (Or.inl ⟨by kernel_rfl, ?hy⟩) hS0 ?_
      case hy => (intro w' hSw; (try dsimp only at hSw); (obtain ⟨hq0, hq1⟩ := hSw); go_simp <;> with_reducible rfl)
      (try simp only [Act.put, List.setIfInBounds_toArray, List.set_cons_zero, List.set_cons_succ])
      refine lateT_take (i := 11) (oi := _) (v := ?_) [12] rfl (by kernel_rfl) (by kernel_rfl) (by kernel_rfl) (by kernel_rfl) (fun _ _ _ h => h) (Or.inl ⟨by kernel_rfl, ?hy⟩) hS0 ?_
      case hy => (intro w' hSw; (try dsimp only at hSw); (obtain ⟨hq0, hq1⟩ := hSw); go_simp <;> with_reducible rfl)
      (try simp only [Act.put, List.setIfInBounds_toArray, List.set_cons_zero, List.set_cons_succ])
      refine lateT_step (i := 12) (by kernel_rfl) rfl (fun K hK => ?_)
      go_simp
      refine hK.out _ _ (fun h => absurd rfl h) ?_
      clear hK K
      (try simp only [Act.put, List.setIfInBounds_toArray, List.set_cons_zero, List.set_cons_succ])
      refine lateT_done (by kernel_rfl) ?_ _
      go_wp2_with fail
      go_roundw
      case rel => exact ⟨j + 1, by omega, by go_num, hres, hbr⟩
      case measure => simp [intOf]; omega
    · have hjN : j = N := by omega
      subst hjN
      have hfin : setOf j (fun k => if k < j then inS FF k != inS GG k else inS FF k) = difV f g ((j : Int), ini, ls, es) := by
        rw [hIF.out]
        refine inS_ext (by rw [setOf_len, setOf_len]) fun x hx => ?_
        rw [setOf_len] at hx
        rw [inS_setOf, inS_setOf, if_pos hx]
      have hs8 := hs.out
      rw [hfin] at hs8
      have qT := hide (l15True_calls (some ⟨b1, o1, none⟩) j c6 _ wr _ _ hs8 (by omega))
      have hzr := hbu.out.size
      clear hfin
      go_wp2_with (first | (go_at_call 74; (with_reducible refine qT.out.mono ?_); rintro e w7 ⟨A7', c7', rfl, ho7, hb7⟩; replace ho7 := hide ho7; replace hb7 := hide hb7))
      go_ret2
      have hBr : Below w.heap.size w wr := hb0.out.trans ((hb15.out.mono hz0).trans (hbu.out.below (fun x hx => by rw [hx]; omega) (by have := hb15.out.size; omega)))
      have hle : (idxOf (difV f g ((j : Int), ini, ls, es))).length ≤ 40 := by
        have h1 := List.length_filter_le (inS (difV f g ((j : Int), ini, ls, es))) (List.range (difV f g ((j : Int), ini, ls, es)).length)
        have h2 : (difV f g ((j : Int), ini, ls, es)).length = j := setOf_len _ _
        rw [List.length_range, h2] at h1
        unfold idxOf
        rw [List.length_map, h2]
        exact Nat.le_trans h1 hN40
      exact ⟨.slice A7' _ c7', by rw [hval.out]; rfl, by rw [hval.out]; exact ⟨A7', _, c7', rfl, by omega, (ho7.out.sl flat_iv).more hBr.size (Nat.le_refl _)⟩, hBr.trans (hb7.out.mono hBr.size)⟩

end Go.Proofs.YtanlgnjgpbjebaaGreatDoor
