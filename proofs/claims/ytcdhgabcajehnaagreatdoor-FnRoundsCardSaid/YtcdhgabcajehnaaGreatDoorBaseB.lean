/-
  Several texts in one:
  Numbers in decimal: the program's reading and the reference's are the same function. Conditions: sizes.
  Labels: the program's reading and the reference's are the same function of a text. Conditions: none.
  The laws' helpers on lists of strings: sizes, copying, comparing. Conditions: sizes.
  The laws' helpers on lists of edges (three numbers each): sizes, copying, comparing. Conditions: sizes.
  Transition systems as data, and what makes one valid, deterministic. Conditions: none.
  Partitions of states refined by what the states can do, round after round: plain. Conditions: none.
  The shelf's contracts on strings and numbers at this seat's program, in plain words (printed by wip/shelf.py with the kit's lay-shelf and lay-plain). Conditions: sizes.
  Transition systems as arguments of a law: words, sizes, copying, comparing. Conditions: sizes.
  Names: the program's test and the reference's. Conditions: none.
  What a world brings of the library's settled variables, and the program's readings of numbers. Conditions: sizes.
  The reference's cutting of texts. Conditions: sizes.
  Literals as lists of the call's own, cells set in them, and append at a step of a region that draws its order. Conditions: sizes.
  A growing row of lists of numbers, each in a block of its own. Conditions: none.
-/
import Derived.Test.YtcdhgabcajehnaaGreatDoorBaseA
import Derived.Lib.ParseIntB
import Derived.Lib.ItoaNum
import Derived.Lib.Strings
import Derived.Lib.Split
import Derived.Lib.Join
import Derived.StillTailTactics
import Derived.Outline
import Derived.Shelf.Strings.Builder1
import Derived.Shelf.Strings.Builder2
import Derived.Shelf.Strings.OnBuilder
import Derived.Shelf.Small.Bits
import Derived.Shelf.Small.Strs
import Derived.Shelf.Strings.BuilderF
import Derived.Shelf.Strings.BuilderK
import Derived.Shelf.Utf8.RuneCount
import Derived.Shelf.Strings.Builder2Cap
import Derived.Shelf.Strconv.Itoa0
import Derived.Shelf.Strconv.Itoa1
import Derived.Shelf.LaysM
import Derived.Shelf.Strconv.Itoa2
import Derived.Shelf.Strconv.Itoa3
import Derived.Shelf.Strconv.Itoa4
import Derived.Shelf.Strconv.ParseIntEmpty
import Derived.Shelf.Strconv.Clone
import Derived.Shelf.Strconv.SyntaxError
import Derived.Shelf.LaysC
import Derived.Shelf.Strconv.ToError
import Derived.Shelf.Strconv.Lower
import Derived.Shelf.Strconv.ParseUint10
import Derived.Shelf.Strconv.ParseUint10Empty
import Derived.Shelf.Strconv.ParseUint10Any
import Derived.Shelf.Strconv.ParseInt10
import Derived.Shelf.Strconv.RangeError
import Derived.Shelf.Strconv.ToErrorRange
import Derived.Shelf.Strconv.ParseUintEmpty
import Derived.Shelf.Strconv.ParseUint10b64
import Derived.Shelf.Strconv.ParseUint10b32
import Derived.Shelf.Strconv.ParseUint10b16
import Derived.Shelf.Strconv.ParseUint10b8
import Derived.Shelf.Strconv.ParseUint10At
import Derived.Shelf.Strconv.ParseInt10At64
import Derived.Shelf.Strconv.ParseInt10At32
import Derived.Shelf.Strconv.ParseInt10At16
import Derived.Shelf.Strconv.ParseInt10At8
import Derived.Shelf.Strconv.ParseInt10All
import Derived.Shelf.Strconv.ParseIntPublic10
import Derived.Shelf.Strconv.ErrVarParseInt
import Derived.Shelf.Strings.Search1
import Derived.Shelf.Strings.Search2
import Derived.Shelf.Strings.Search3
import Derived.Shelf.Strings.Cut
import Derived.Shelf.Strings.Count
import Derived.Shelf.Strings.Shaped
import Derived.Shelf.Strings.Prefix
import Derived.Shelf.Strings.Split
import Derived.Shelf.Strings.SplitShaped
import Derived.Shelf.Unicode.Decode
import Derived.Shelf.Strings.RuneCount
import Derived.Shelf.Strings.Explode
import Derived.Shelf.Bits.Mul64
import Derived.Shelf.Unicode.DecodeSlow
import Derived.Shelf.Unicode.DecodeAny
import Derived.Shelf.Strings.BuilderCap
import Derived.Shelf.Slices.Turned
import Derived.Ground.Names2Prog
import Derived.Shelf.Slices.Clone
import Derived.Shelf.Slices.CompactS
import Derived.Shelf.Slices.Cells
import Derived.Ground.SlgnProg
import Derived.Shelf.SlicesG.Turned
import Derived.Shelf.SlicesG.Equal
import Derived.Shelf.SlicesG.Clone
import Derived.Shelf.SlicesG.CompactI
import Derived.Shelf.SlicesG.SearchI
import Derived.Shelf.SlicesG.Cells
import Derived.Shelf.SlicesE.Clone
import Derived.Ground.SlgcProg
import Derived.Shelf.SlicesG.Cmp
import Derived.Ground.SlsfProg
import Derived.Shelf.SlSortCmp.Insertion
import Derived.Ground.SlgmProg
import Derived.Shelf.SortM.Plain
import Derived.Shelf.SortM.SortNone
import Derived.Shelf.SlSortCmp.SiftDown1
import Derived.Shelf.SlSortCmp.HeapSort1
import Derived.Shelf.SlSortCmp.Insertion1
import Derived.Shelf.SlSortCmp.Median1
import Derived.Shelf.SlSortCmp.Pivot1
import Derived.Shelf.SlSortCmp.ReverseRange1
import Derived.Shelf.SlSortCmp.PartialInsertion1
import Derived.Shelf.SlSortCmp.PartitionEqual1
import Derived.Shelf.SlSortCmp.Partition1
import Derived.Shelf.SlSortCmp.Pdq1
import Derived.Shelf.SlSortCmp.Whole1
import Derived.Shelf.SlSortCmp.NoneTotal
import Derived.Test.YtcdhgabcajehnaaGreatDoorProg
import Derived.Lib.AppendIntMem
import Derived.WalkSmall
import Derived.Deep.RegionLaw
set_option linter.unusedSimpArgs false
set_option linter.unusedVariables false
namespace Go.Proofs.YtcdhgabcajehnaaGreatDoor
set_option linter.unusedVariables false

def isDig (c : UInt8) : Bool := decide (48 ≤ c.toNat) && decide (c.toNat ≤ 57)
/-- What digits spell. -/
def valN (acc : Nat) (l : List UInt8) : Nat := l.foldl (fun n c => n * 10 + (c.toNat - 48)) acc
theorem valN_nil (acc : Nat) : valN acc [] = acc := rfl
theorem valN_cons (acc : Nat) (c : UInt8) (l : List UInt8) : valN acc (c :: l) = valN (acc * 10 + (c.toNat - 48)) l := by
  unfold valN
  rw [List.foldl_cons]
theorem valN_snoc (acc : Nat) (c : UInt8) (l : List UInt8) : valN acc (l ++ [c]) = valN acc l * 10 + (c.toNat - 48) := by
  unfold valN
  rw [List.foldl_append]
  rfl
theorem valN_lt : ∀ (l : List UInt8) (acc k : Nat), l.all isDig = true → acc < 10 ^ k → valN acc l < 10 ^ (k + l.length) := by
  intro l
  induction l with
  | nil => intro acc k _ h; rw [valN_nil, List.length_nil, Nat.add_zero]; exact h
  | cons c l ih =>
    intro acc k hd h
    rw [List.all_cons, Bool.and_eq_true] at hd
    have hc : 48 ≤ c.toNat ∧ c.toNat ≤ 57 := by simpa [isDig] using hd.1
    have hp : (10 : Nat) ^ (k + 1) = 10 ^ k * 10 := Nat.pow_succ ..
    have := ih (acc * 10 + (c.toNat - 48)) (k + 1) hd.2 (by rw [hp]; omega)
    rw [valN_cons, List.length_cons, show k + (l.length + 1) = (k + 1) + l.length by omega]
    exact this

theorem parseUintM_short : ∀ (l : List UInt8) (acc k : Nat), k + l.length ≤ 18 → acc < 10 ^ k →
    Lib.parseUintM (2 ^ 64 - 1) acc l = if l.all isDig then .ok (valN acc l) else Lib.NumEnd.syntax := by
  intro l
  induction l with
  | nil => exact fun acc k _ _ => rfl
  | cons c l ih =>
    intro acc k hk h
    rw [List.length_cons] at hk
    have hq : (10 : Nat) ^ (k + 1) = 10 ^ k * 10 := Nat.pow_succ ..
    have hp : acc * 10 + 9 < 10 ^ (k + 1) := by rw [hq]; omega
    have hp2 : (10 : Nat) ^ (k + 1) ≤ 10 ^ 18 := Nat.pow_le_pow_right (by decide) (by omega)
    have h18 : (10 : Nat) ^ 18 = 1000000000000000000 := by decide
    have h64 : (2 : Nat) ^ 64 - 1 = 18446744073709551615 := by decide
    rw [h18] at hp2
    rw [h64] at ih ⊢
    unfold Lib.parseUintM
    by_cases hc : 48 ≤ c.toNat ∧ c.toNat ≤ 57
    · have hd : isDig c = true := by simpa [isDig] using hc
      have hn := ih (acc * 10 + (c.toNat - 48)) (k + 1) (by omega) (by have := hc.1; have := hc.2; omega)
      rw [if_pos hc, if_neg (by omega), if_neg (by omega), hn, List.all_cons, hd, Bool.true_and, valN_cons]
    · have hd : isDig c = false := by
        rw [Bool.eq_false_iff]
        intro h1
        exact hc (by simpa [isDig] using h1)
      rw [if_neg hc, List.all_cons, hd]
      rfl

/-- Digits without a needless zero ahead. -/
def canon (l : List UInt8) : Bool := !l.isEmpty && l.all isDig && (decide (l.length = 1) || !(l.head? == some 48))

theorem ofNat_dig {c : UInt8} (h : isDig c = true) : UInt8.ofNat (48 + (c.toNat - 48)) = c := by
  have hc : 48 ≤ c.toNat ∧ c.toNat ≤ 57 := by simpa [isDig] using h
  rw [show 48 + (c.toNat - 48) = c.toNat by omega]
  simp
theorem decDigits_small {u : Nat} (h : u < 10) : Lib.decDigits u = [UInt8.ofNat (48 + u)] := by rw [Lib.decDigits, dif_pos h]
theorem decDigits_big {u : Nat} (h : ¬ u < 10) : Lib.decDigits u = Lib.decDigits (u / 10) ++ [UInt8.ofNat (48 + u % 10)] := by rw [Lib.decDigits, dif_neg h]
theorem decDigits_ne (u : Nat) : Lib.decDigits u ≠ [] := by
  by_cases h : u < 10
  · rw [decDigits_small h]; simp
  · rw [decDigits_big h]; simp
theorem toNat_dig (k : Nat) (h : k < 10) : (UInt8.ofNat (48 + k)).toNat = 48 + k := by
  simp
  omega
theorem decDigits_dig (u : Nat) : (Lib.decDigits u).all isDig = true := by
  induction u using Nat.strongRecOn with
  | _ u ih =>
    by_cases h : u < 10
    · rw [decDigits_small h]
      simp only [List.all_cons, List.all_nil, Bool.and_true, isDig, toNat_dig u h]
      simp
      omega
    · rw [decDigits_big h, List.all_append, ih (u / 10) (by omega)]
      simp only [List.all_cons, List.all_nil, Bool.and_true, isDig, toNat_dig (u % 10) (by omega)]
      simp
      omega
theorem decDigits_head {u : Nat} (h0 : 0 < u) : (Lib.decDigits u).head? ≠ some 48 := by
  induction u using Nat.strongRecOn with
  | _ u ih =>
    by_cases h : u < 10
    · rw [decDigits_small h]
      intro hc
      have := congrArg UInt8.toNat (Option.some.inj hc)
      rw [toNat_dig u h] at this
      have h48 : (48 : UInt8).toNat = 48 := rfl
      omega
    · rw [decDigits_big h, List.head?_append]
      intro hc
      have hi := ih (u / 10) (by omega) (by omega)
      cases hh : (Lib.decDigits (u / 10)).head? with
      | none => exact decDigits_ne _ (List.head?_eq_none_iff.1 hh)
      | some x =>
        rw [hh] at hc hi
        exact hi hc
theorem decDigits_canon (u : Nat) : canon (Lib.decDigits u) = true := by
  unfold canon
  rw [decDigits_dig u]
  by_cases h : 0 < u
  · have h1 := decDigits_head h
    have h2 := decDigits_ne u
    simp [h1, h2]
  · have : u = 0 := by omega
    subst this
    rw [decDigits_small (by omega)]
    simp
theorem valN_pos {l : List UInt8} : ∀ {acc : Nat}, 0 < acc → 0 < valN acc l := by
  induction l with
  | nil => intro acc h; exact h
  | cons c l ih => intro acc h; rw [valN_cons]; exact ih (by omega)

theorem decDigits_valN (l : List UInt8) (h : canon l = true) : Lib.decDigits (valN 0 l) = l := by
  have key : ∀ (n : Nat) (l : List UInt8), l.length = n → canon l = true → Lib.decDigits (valN 0 l) = l := by
    intro n
    induction n with
    | zero =>
      intro l hl hc
      have : l = [] := List.eq_nil_of_length_eq_zero hl
      subst this
      simp [canon] at hc
    | succ n ih =>
      intro l hl hc
      have hne : l ≠ [] := by intro hh; subst hh; simp at hl
      obtain ⟨l', c, rfl⟩ : ∃ l' c, l = l' ++ [c] := ⟨l.dropLast, l.getLast hne, (List.dropLast_concat_getLast hne).symm⟩
      simp only [canon, Bool.and_eq_true, List.all_append] at hc
      obtain ⟨⟨_, hd1, hd2⟩, hz⟩ := hc
      have hdc : isDig c = true := by simpa using hd2
      have hcb : 48 ≤ c.toNat ∧ c.toNat ≤ 57 := by simpa [isDig] using hdc
      rw [valN_snoc]
      by_cases hl' : l' = []
      · subst hl'
        rw [valN_nil, decDigits_small (by omega), show 48 + (0 * 10 + (c.toNat - 48)) = 48 + (c.toNat - 48) by omega, ofNat_dig hdc]
        rfl
      · have hlen : l'.length = n := by simpa using hl
        obtain ⟨x, r, rfl⟩ := List.exists_cons_of_ne_nil hl'
        have hx : x ≠ 48 := by
          intro hx
          subst hx
          simp at hz
        have hc' : canon (x :: r) = true := by
          unfold canon
          rw [hd1]
          simp [hx]
        have hi := ih (x :: r) hlen hc'
        have hdx : isDig x = true := by rw [List.all_cons, Bool.and_eq_true] at hd1; exact hd1.1
        have hxb : 48 ≤ x.toNat ∧ x.toNat ≤ 57 := by simpa [isDig] using hdx
        have hx0 : x.toNat ≠ 48 := fun h => hx (UInt8.toNat_inj.1 h)
        have hpos : 0 < valN 0 (x :: r) := by rw [valN_cons]; exact valN_pos (by omega)
        rw [decDigits_big (by omega), show (valN 0 (x :: r) * 10 + (c.toNat - 48)) / 10 = valN 0 (x :: r) by omega, hi, show (valN 0 (x :: r) * 10 + (c.toNat - 48)) % 10 = c.toNat - 48 by omega, ofNat_dig hdc]
  exact key l.length l rfl h
theorem decDigits_iff (l : List UInt8) (h : l.all isDig = true) : (Lib.decDigits (valN 0 l) = l) ↔ canon l = true :=
  ⟨fun e => e ▸ decDigits_canon _, decDigits_valN l⟩

/-- The reference's reading. -/
def numNeg (r : List UInt8) : Option Int := if canon r && decide (r.length ≤ 18) && !(r.head? == some 48) then some (-(valN 0 r : Int)) else none
def numPos (l : List UInt8) : Option Int := if canon l && decide (l.length ≤ 18) then some (valN 0 l : Int) else none
def numS (l : List UInt8) : Option Int := if l.head? = some 45 then numNeg l.tail else numPos l
/-- The program's reading. -/
def numP (l : List UInt8) : Option Int :=
  if 18 < (Lib.trimPrefix l [45]).length then none
  else match Lib.parseIntB 64 l with
    | .ok n => if Lib.itoa n = l then some n else none
    | _ => none

theorem parseUintB_short (l : List UInt8) (h : l.length ≤ 18) : Lib.parseUintB 64 l = if l ≠ [] ∧ l.all isDig = true then .ok (valN 0 l) else Lib.NumEnd.syntax := by
  unfold Lib.parseUintB
  by_cases hl : l = []
  · subst hl; rfl
  · rw [if_neg hl, parseUintM_short l 0 0 (by omega) (by decide)]
    by_cases hd : l.all isDig = true
    · rw [if_pos hd, if_pos ⟨hl, hd⟩]
    · rw [if_neg hd, if_neg (fun h => hd h.2)]

theorem valN_18 {l : List UInt8} (h : l.length ≤ 18) (hd : l.all isDig = true) : valN 0 l < 10 ^ 18 :=
  Nat.lt_of_lt_of_le (valN_lt l 0 0 hd (by decide)) (Nat.pow_le_pow_right (by decide) (by omega))

theorem numP_eq (l : List UInt8) : numP l = numS l := by
  unfold numP numS
  cases l with
  | nil => rfl
  | cons c r =>
    have hpre : Lib.trimPrefix (c :: r) [45] = if c = 45 then r else c :: r := by
      unfold Lib.trimPrefix Lib.hasPrefix
      by_cases hc : c = 45
      · subst hc; simp
      · rw [if_neg hc, if_neg]
        simp
        exact fun h => hc h.symm
    rw [hpre]
    by_cases hc : c = 45
    · subst hc
      rw [if_pos rfl, if_pos (show (45 :: r).head? = some 45 from rfl), show (45 :: r).tail = r from rfl]
      unfold numNeg
      by_cases hl : 18 < r.length
      · rw [if_pos hl, if_neg (by simp; intro _ h; omega)]
      · rw [if_neg hl]
        unfold Lib.parseIntB
        simp only [show ((45 : UInt8).toNat = 43 ∨ (45 : UInt8).toNat = 45) from Or.inr rfl, if_true, parseUintB_short r (by omega)]
        by_cases hd : r ≠ [] ∧ r.all isDig = true
        · simp only [if_pos hd, show (45 : UInt8).toNat = 45 from rfl, not_true, false_and, if_false, true_and, if_true]
          have hv := valN_18 (show r.length ≤ 18 by omega) hd.2
          rw [if_neg (by omega)]
          simp only
          by_cases h0 : valN 0 r = 0
          · rw [h0, if_neg (by rw [show Lib.itoa (-((0 : Nat) : Int)) = [48] from by unfold Lib.itoa; simp [decDigits_small]]; simp)]
            rw [if_neg]
            intro hh
            simp only [Bool.and_eq_true, decide_eq_true_eq] at hh
            have := decDigits_valN r hh.1.1
            rw [h0, decDigits_small (by omega)] at this
            rw [← this] at hh
            simp at hh
          · have hneg : -((valN 0 r : Nat) : Int) < 0 := by omega
            have e1 : Lib.itoa (-((valN 0 r : Nat) : Int)) = 45 :: Lib.decDigits (valN 0 r) := by
              unfold Lib.itoa
              rw [if_pos hneg]
              simp
            rw [e1]
            have e2 : (45 :: Lib.decDigits (valN 0 r) = 45 :: r) ↔ canon r = true := by
              rw [List.cons.injEq]
              simp only [true_and]
              exact decDigits_iff r hd.2
            by_cases hcan : canon r = true
            · rw [if_pos (e2.2 hcan), if_pos]
              rw [hcan]
              simp only [Bool.true_and, Bool.and_eq_true, decide_eq_true_eq]
              refine ⟨by omega, ?_⟩
              have h4 := decDigits_head (show 0 < valN 0 r by omega)
              rw [decDigits_valN r hcan] at h4
              simpa using h4
            · rw [if_neg (fun h => hcan (e2.1 h)), if_neg (fun h => hcan (by simp only [Bool.and_eq_true] at h; exact h.1.1))]
        · simp only [if_neg hd]
          rw [if_neg]
          intro h
          simp only [Bool.and_eq_true, canon] at h
          refine hd ⟨?_, h.1.1.1.2⟩
          rintro rfl
          simp at h
    · have hh : ¬ (c :: r).head? = some 45 := by simpa using hc
      have hcn : ¬ c.toNat = 45 := fun h => hc (UInt8.toNat_inj.1 h)
      rw [if_neg hc, if_neg hh]
      unfold numPos
      by_cases hl : 18 < (c :: r).length
      · rw [if_pos hl, if_neg (by simp only [Bool.and_eq_true, decide_eq_true_eq]; omega)]
      · rw [if_neg hl]
        unfold Lib.parseIntB
        by_cases hp : c.toNat = 43
        · -- a plus sign: never its own numeral
          have hnd : canon (c :: r) = false := by
            rw [Bool.eq_false_iff]
            intro h
            simp only [canon, Bool.and_eq_true, List.all_cons] at h
            have : 48 ≤ c.toNat ∧ c.toNat ≤ 57 := by simpa [isDig] using h.1.2.1
            omega
          rw [hnd]
          simp only [Bool.false_and, Bool.false_eq_true, if_false]
          simp only [hp, true_or, if_true]
          have hl2 : r.length ≤ 18 := by simp at hl; omega
          rw [parseUintB_short r hl2]
          by_cases hd : r ≠ [] ∧ r.all isDig = true
          · simp only [if_pos hd]
            have hv := valN_18 hl2 hd.2
            rw [if_neg (by omega), if_neg (by omega)]
            simp only [show ¬ (43 : Nat) = 45 by omega, if_false]
            rw [if_neg]
            intro h
            have h2 := decDigits_dig (valN 0 r)
            have e1 : Lib.itoa ((valN 0 r : Nat) : Int) = Lib.decDigits (valN 0 r) := by
              unfold Lib.itoa
              rw [if_neg (by omega)]
              simp
            rw [← e1, h, List.all_cons, Bool.and_eq_true] at h2
            have : 48 ≤ c.toNat ∧ c.toNat ≤ 57 := by simpa [isDig] using h2.1
            omega
          · simp only [if_neg hd]
        · have hs : ¬ (c.toNat = 43 ∨ c.toNat = 45) := by omega
          simp only [if_neg hs, parseUintB_short (c :: r) (by omega)]
          by_cases hd : (c :: r) ≠ [] ∧ (c :: r).all isDig = true
          · simp only [if_pos hd]
            have hv := valN_18 (show (c :: r).length ≤ 18 by omega) hd.2
            rw [if_neg (by omega), if_neg (by omega)]
            simp only [if_neg hcn]
            have e1 : Lib.itoa ((valN 0 (c :: r) : Nat) : Int) = Lib.decDigits (valN 0 (c :: r)) := by
              unfold Lib.itoa
              rw [if_neg (by omega)]
              simp
            rw [e1]
            by_cases hcan : canon (c :: r) = true
            · rw [if_pos ((decDigits_iff _ hd.2).2 hcan), if_pos (by rw [hcan]; simp at hl ⊢; omega)]
            · rw [if_neg (fun h => hcan ((decDigits_iff _ hd.2).1 h)), if_neg (fun h => hcan (by simp only [Bool.and_eq_true] at h; exact h.1))]
          · simp only [if_neg hd]
            rw [if_neg]
            intro h
            simp only [Bool.and_eq_true, canon] at h
            exact hd ⟨by simp, h.1.1.2⟩

end Go.Proofs.YtcdhgabcajehnaaGreatDoor

namespace Go.Proofs.YtcdhgabcajehnaaGreatDoor
set_option linter.unusedVariables false

/-! ## Cutting at a byte -/
def splitC (c : UInt8) : List UInt8 → List (List UInt8)
  | [] => [[]]
  | x :: l => if x = c then [] :: splitC c l else (x :: (splitC c l).headD []) :: (splitC c l).tail
theorem splitC_ne (c : UInt8) (l : List UInt8) : splitC c l ≠ [] := by
  cases l with
  | nil => simp [splitC]
  | cons x l => unfold splitC; split <;> simp
theorem splitC_ceq (c : UInt8) (l : List UInt8) : splitC c (c :: l) = [] :: splitC c l := by rw [splitC, if_pos rfl]
theorem splitC_cne {c x : UInt8} (h : x ≠ c) (l : List UInt8) : splitC c (x :: l) = (x :: (splitC c l).headD []) :: (splitC c l).tail := by rw [splitC, if_neg h]
theorem splitC_miss {c : UInt8} : ∀ {l : List UInt8}, c ∉ l → splitC c l = [l]
  | [], _ => rfl
  | x :: l, h => by
    rw [List.mem_cons, not_or] at h
    rw [splitC_cne (fun e => h.1 e.symm), splitC_miss h.2]
    rfl
theorem splitC_hit {c : UInt8} : ∀ {a b : List UInt8}, c ∉ a → splitC c (a ++ c :: b) = a :: splitC c b
  | [], b, _ => by rw [List.nil_append, splitC_ceq]
  | x :: a, b, h => by
    rw [List.mem_cons, not_or] at h
    rw [List.cons_append, splitC_cne (fun e => h.1 e.symm), splitC_hit h.2]
    rfl
theorem index_one (c : UInt8) (l : List UInt8) (h : c ∉ l) : Lib.index l [c] = -1 := by
  induction l with
  | nil => rfl
  | cons x l ih =>
    rw [List.mem_cons, not_or] at h
    unfold Lib.index
    rw [if_neg (by simp [List.isPrefixOf]; exact h.1), ih h.2]
    rfl
theorem index_one_hit (c : UInt8) (a b : List UInt8) (h : c ∉ a) : Lib.index (a ++ c :: b) [c] = a.length := by
  induction a with
  | nil => unfold Lib.index; simp [List.isPrefixOf]
  | cons x a ih =>
    rw [List.mem_cons, not_or] at h
    rw [List.cons_append]
    unfold Lib.index
    rw [if_neg (by simp [List.isPrefixOf]; exact h.1), ih h.2, if_neg (by simp <;> omega)]
    simp
theorem split_at (c : UInt8) (l : List UInt8) (h : c ∈ l) : ∃ a b, l = a ++ c :: b ∧ c ∉ a := by
  induction l with
  | nil => cases h
  | cons x l ih =>
    by_cases hx : x = c
    · subst hx
      exact ⟨[], l, rfl, by simp⟩
    · obtain ⟨a, b, rfl, h2⟩ := ih (by
        rcases List.mem_cons.1 h with h | h
        · exact absurd h.symm hx
        · exact h)
      exact ⟨x :: a, b, rfl, by simp; exact ⟨fun e => hx e.symm, h2⟩⟩
theorem count_at (c : UInt8) {a b : List UInt8} (h : c ∉ a) : (a ++ c :: b).count c = b.count c + 1 := by
  rw [List.count_append, List.count_cons_self, List.count_eq_zero_of_not_mem h]
  omega
theorem countFrom_one (c : UInt8) : ∀ (fuel : Nat) (l : List UInt8), l.length < fuel → Lib.countFrom [c] fuel l = l.count c
  | 0, _, h => by omega
  | fuel + 1, l, h => by
    unfold Lib.countFrom
    by_cases hm : c ∈ l
    · obtain ⟨a, b, rfl, ha⟩ := split_at c l hm
      rw [index_one_hit c a b ha, if_neg (by simp <;> omega), count_at c ha]
      have e1 : ((a.length : Int)).toNat + [c].length = (a ++ [c]).length := by simp
      have e2 : (a ++ c :: b).drop (((a.length : Int)).toNat + [c].length) = b := by
        rw [e1, show a ++ c :: b = (a ++ [c]) ++ b by simp, List.drop_left]
      rw [e2, countFrom_one c fuel b (by simp at h; omega)]
      omega
    · rw [index_one c l hm, if_pos (by decide), List.count_eq_zero_of_not_mem hm]
theorem splitK_one (c : UInt8) : ∀ (k : Nat) (l : List UInt8), l.count c ≤ k → Lib.splitK [c] 0 k l = splitC c l
  | 0, l, h => by
    rw [splitC_miss (List.count_eq_zero.1 (by omega))]
    rfl
  | k + 1, l, h => by
    unfold Lib.splitK
    by_cases hm : c ∈ l
    · obtain ⟨a, b, rfl, ha⟩ := split_at c l hm
      rw [index_one_hit c a b ha, if_neg (by simp <;> omega), splitC_hit ha]
      rw [count_at c ha] at h
      have e1 : ((a.length : Int)).toNat + [c].length = (a ++ [c]).length := by simp
      have e2 : (a ++ c :: b).drop (((a.length : Int)).toNat + [c].length) = b := by
        rw [e1, show a ++ c :: b = (a ++ [c]) ++ b by simp, List.drop_left]
      rw [e2, splitK_one c k b (by omega)]
      congr 1
      simp
    · rw [index_one c l hm, if_pos (by decide), splitC_miss hm]
theorem split_one (c : UInt8) (l : List UInt8) : Lib.split l [c] = splitC c l := by
  unfold Lib.split Lib.count
  rw [countFrom_one c _ l (by omega)]
  exact splitK_one c _ l (Nat.le_refl _)
theorem join_cons2 (x y : List UInt8) (r : List (List UInt8)) (sep : List UInt8) : Lib.join (x :: y :: r) sep = x ++ sep ++ Lib.join (y :: r) sep := by
  rw [Lib.join_cons, Lib.join_cons]
  simp [Lib.joinTail]
theorem join_splitC (c : UInt8) : ∀ (l : List UInt8), Lib.join (splitC c l) [c] = l
  | [] => rfl
  | x :: l => by
    have ih := join_splitC c l
    unfold splitC
    obtain ⟨p, ps, hp⟩ := List.exists_cons_of_ne_nil (splitC_ne c l)
    rw [hp] at ih ⊢
    by_cases hx : x = c
    · subst hx
      rw [if_pos rfl, join_cons2, ih]
      simp
    · rw [if_neg hx]
      simp only [List.headD_cons, List.tail_cons]
      rw [Lib.join_cons] at ih ⊢
      rw [List.cons_append, ih]

/-! ## Numbers of a list of texts -/
def numsOf (f : List UInt8 → Option Int) : List (List UInt8) → Option (List Int)
  | [] => some []
  | x :: l => match f x, numsOf f l with
    | some n, some ns => some (n :: ns)
    | _, _ => none
def isVal (n : Int) : Bool := decide (0 ≤ n) && decide (n ≤ 63)
def numV (l : List UInt8) : Option Int := (numS l).filter isVal
theorem numsOf_len {f : List UInt8 → Option Int} : ∀ {l : List (List UInt8)} {ns : List Int}, numsOf f l = some ns → ns.length = l.length
  | [], ns, h => by cases h; rfl
  | x :: l, ns, h => by
    unfold numsOf at h
    split at h
    · rename_i n ms hn hm
      cases h
      simp [numsOf_len hm]
    · cases h
theorem numsOf_val : ∀ (l : List (List UInt8)), numsOf numV l = (numsOf numS l).filter (fun ns => ns.all isVal)
  | [] => rfl
  | x :: l => by
    unfold numsOf
    rw [numsOf_val l]
    unfold numV
    cases hx : numS x with
    | none => simp
    | some n =>
      cases hl : numsOf numS l with
      | none => cases hv : isVal n <;> simp [Option.filter, hv]
      | some ns => cases hv : isVal n <;> cases hw : ns.all isVal <;> simp [Option.filter, hv, hw]
theorem numS_itoa {l : List UInt8} {n : Int} (h : numS l = some n) : Lib.itoa n = l := by
  rw [← numP_eq] at h
  unfold numP at h
  split at h
  · cases h
  · split at h
    · split at h
      · rename_i hh
        cases h
        exact hh
      · cases h
    · cases h
theorem numsOf_itoa : ∀ {l : List (List UInt8)} {ns : List Int}, numsOf numS l = some ns → ns.map Lib.itoa = l
  | [], ns, h => by cases h; rfl
  | x :: l, ns, h => by
    unfold numsOf at h
    split at h
    · rename_i n ms hn hm
      cases h
      rw [List.map_cons, numS_itoa hn, numsOf_itoa hm]
    · cases h

/-! ## Labels -/
section
variable (nameL : List UInt8 → Bool)
def tauL : List UInt8 := [116, 97, 117]
def labName (l : List UInt8) : List UInt8 := (Lib.cut l [40]).1
/-- The reference's values of a label. -/
def valsS (l : List UInt8) : Option (List Int) :=
  if 40 ∉ l then (if nameL l then some [] else none)
  else if (nameL (labName l) && !(labName l == tauL)) && (l.getLast? == some 41) then
    (numsOf numV (splitC 44 (Lib.cut l [40]).2.1.dropLast)).filter (fun ns => decide (ns.length ≤ 2))
  else none
/-- The program's label with a name and values. -/
def labOf (name : List UInt8) (ns : List Int) : Option (List UInt8) :=
  if name = tauL then (if ns = [] then some tauL else none)
  else if !(nameL name) || decide (2 < ns.length) || !(ns.all isVal) then none
  else if ns = [] then some name
  else some (name ++ [40] ++ Lib.join (ns.map Lib.itoa) [44] ++ [41])
/-- The program's values of a label. -/
def valsP (l : List UInt8) : Option (List Int) :=
  match (if (Lib.cut l [40]).2.2 then numsOf numP (splitC 44 (Lib.trimSuffix (Lib.cut l [40]).2.1 [41])) else some []) with
  | none => none
  | some ns => if labOf nameL (Lib.cut l [40]).1 ns = some l then some ns else none
end
theorem cut_miss {l : List UInt8} (h : (40 : UInt8) ∉ l) : Lib.cut l [40] = (l, [], false) := by
  unfold Lib.cut
  rw [index_one 40 l h, if_neg (by decide)]
theorem cut_hit {a b : List UInt8} (h : (40 : UInt8) ∉ a) : Lib.cut (a ++ 40 :: b) [40] = (a, b, true) := by
  unfold Lib.cut
  rw [index_one_hit 40 a b h, if_pos (by omega)]
  congr 1
  · simp
  · congr 1
    have e1 : ((a.length : Int)).toNat + [(40 : UInt8)].length = (a ++ [40]).length := by simp
    rw [e1, show a ++ 40 :: b = (a ++ [40]) ++ b by simp, List.drop_left]
theorem numP_fun : numP = numS := funext numP_eq
theorem trimSuffix_hit (r : List UInt8) (c : UInt8) : Lib.trimSuffix (r ++ [c]) [c] = r := by
  unfold Lib.trimSuffix Lib.hasSuffix
  rw [if_pos (by simp)]
  simp
theorem trimSuffix_miss {r : List UInt8} {c : UInt8} (h : r.getLast? ≠ some c) : Lib.trimSuffix r [c] = r := by
  unfold Lib.trimSuffix Lib.hasSuffix
  rw [if_neg]
  intro hs
  have hs2 : [c] <:+ r := List.isSuffixOf_iff_suffix.1 hs
  obtain ⟨t, rfl⟩ := hs2
  simp at h

theorem valsP_eq (nameL : List UInt8 → Bool) (ht : nameL tauL = true) (l : List UInt8) : valsP nameL l = valsS nameL l := by
  by_cases hm : (40 : UInt8) ∈ l
  · obtain ⟨name, rest, rfl, hn⟩ := split_at 40 l hm
    have hlast : (name ++ 40 :: rest).getLast? = (40 :: rest).getLast? := by
      rw [List.getLast?_append]
      cases h : (40 :: rest).getLast? with
      | none => exact absurd (List.getLast?_eq_none_iff.1 h) (by simp)
      | some x => rfl
    have hP : valsP nameL (name ++ 40 :: rest) = (match numsOf numS (splitC 44 (Lib.trimSuffix rest [41])) with
        | none => none
        | some ns => if labOf nameL name ns = some (name ++ 40 :: rest) then some ns else none) := by
      unfold valsP
      rw [cut_hit hn]
      simp only [if_true, numP_fun]
    have hS : valsS nameL (name ++ 40 :: rest) = (if (nameL name && !(name == tauL)) && ((40 :: rest).getLast? == some 41) then
        (numsOf numV (splitC 44 rest.dropLast)).filter (fun ns => decide (ns.length ≤ 2)) else none) := by
      unfold valsS labName
      rw [if_neg (fun h => h hm), cut_hit hn, hlast]
    rw [hP, hS]
    by_cases hr : rest.getLast? = some 41
    · obtain ⟨r, rfl⟩ : ∃ r, rest = r ++ [41] := by
        have hne : rest ≠ [] := by rintro rfl; cases hr
        refine ⟨rest.dropLast, ?_⟩
        have h1 := List.dropLast_concat_getLast hne
        rw [List.getLast?_eq_some_getLast hne] at hr
        have h2 := Option.some.inj hr
        rw [h2] at h1
        exact h1.symm
      have hd : (r ++ [(41 : UInt8)]).dropLast = r := by simp
      rw [trimSuffix_hit, hd]
      have hl41 : ((40 :: (r ++ [41])).getLast? == some 41) = true := by
        rw [← List.cons_append, List.getLast?_append]
        rfl
      rw [hl41, Bool.and_true, numsOf_val]
      cases hx : numsOf numS (splitC 44 r) with
      | none => simp [Option.filter]
      | some ns =>
        have hlen := numsOf_len hx
        have hne : ns ≠ [] := by
          rintro rfl
          exact splitC_ne 44 r (List.eq_nil_of_length_eq_zero hlen.symm)
        have hj : Lib.join (ns.map Lib.itoa) [44] = r := by rw [numsOf_itoa hx, join_splitC]
        simp only
        unfold labOf
        by_cases htau : name = tauL
        · rw [if_pos htau, if_neg hne, if_neg (by simp), if_neg (by simp [htau])]
        · rw [if_neg htau, if_neg hne, hj]
          have htb : (name == tauL) = false := by rw [beq_eq_false_iff_ne]; exact htau
          rw [htb]
          by_cases h2 : ns.length ≤ 2
          · have h3 : ¬ 2 < ns.length := by omega
            cases hnm : nameL name <;> cases ha : ns.all isVal <;> simp [Option.filter, ha, h2, h3]
          · have h3 : 2 < ns.length := by omega
            cases hnm : nameL name <;> cases ha : ns.all isVal <;> simp [Option.filter, ha, h2, h3]
    · have hno : ¬ (((nameL name && !(name == tauL)) && ((40 :: rest).getLast? == some 41)) = true) := by
        intro hc
        rw [Bool.and_eq_true] at hc
        have hc2 := hc.2
        cases rest with
        | nil => simp at hc2
        | cons x r =>
          rw [List.getLast?_cons_cons] at hc2
          exact hr (by simpa using hc2)
      rw [trimSuffix_miss hr, if_neg hno]
      cases hx : numsOf numS (splitC 44 rest) with
      | none => rfl
      | some ns =>
        have hlen := numsOf_len hx
        have hne : ns ≠ [] := by
          rintro rfl
          exact splitC_ne 44 rest (List.eq_nil_of_length_eq_zero hlen.symm)
        have hj : Lib.join (ns.map Lib.itoa) [44] = rest := by rw [numsOf_itoa hx, join_splitC]
        simp only
        rw [if_neg]
        intro hc
        unfold labOf at hc
        rw [hj] at hc
        simp only [if_neg hne] at hc
        split at hc
        · cases hc
        · split at hc
          · cases hc
          · have h1 := Option.some.inj hc
            have h2 := congrArg List.length h1
            simp at h2
  · have hP : valsP nameL l = (if labOf nameL l [] = some l then some [] else none) := by
      unfold valsP
      rw [cut_miss hm]
      simp only [Bool.false_eq_true, if_false]
    have hS : valsS nameL l = (if nameL l then some [] else none) := by
      unfold valsS
      rw [if_pos hm]
    rw [hP, hS]
    unfold labOf
    by_cases htau : l = tauL
    · subst htau
      simp [ht]
    · rw [if_neg htau]
      cases hnm : nameL l <;> simp

end Go.Proofs.YtcdhgabcajehnaaGreatDoor

namespace Go.Proofs.YtcdhgabcajehnaaGreatDoor
open Go.ChangeShapes Go.WideShapes Go.ChangeAt Go.RowKit
set_option linter.unusedVariables false

def strv (s : ByteArray) : List Value := [.string s]
abbrev SlS := Sl 1 strv
theorem SlS.get {w : World} {lo hi n : Nat} {A : Option Addr} {l : List ByteArray} (h : SlS w lo hi A n l) {k : Nat} (hk : k < n) :
    ∃ b off x, A = some ⟨b, off, none⟩ ∧ lo ≤ b ∧ b < hi ∧ b < w.heap.size ∧ l[k]? = some x ∧ w.cell? ⟨b, off + k, none⟩ = some (.string x) ∧ w.frozen? ⟨b, off + k, none⟩ = false := by
  obtain ⟨b, off, e, g1, g2, g3, hc⟩ := h.at_ (by omega)
  have hl : k < l.length := by rw [h.len]; exact hk
  have h0 := hc k l[k] (List.getElem?_eq_getElem hl) 0 _ rfl
  simp only [Nat.mul_one, Nat.add_zero] at h0
  exact ⟨b, off, l[k], e, g1, g2, g3, List.getElem?_eq_getElem hl, h0.1, h0.2⟩
theorem str_neq {a b : ByteArray} (h : a ≠ b) : (a.toList == b.toList) = false := by
  obtain ⟨⟨x⟩⟩ := a
  obtain ⟨⟨y⟩⟩ := b
  have e1 : (ByteArray.mk ⟨x⟩).toList = x := ByteArray.toList_mk x
  have e2 : (ByteArray.mk ⟨y⟩).toList = y := ByteArray.toList_mk y
  rw [e1, e2, beq_eq_false_iff_ne]
  rintro rfl
  exact h rfl
/-- How much of `left` is there behind n. -/
def totS (l : List ByteArray) : Nat := l.length + (l.map (·.size)).sum
theorem info_string : (Tryz.prog.info? 9).map (fun i => (i.zero, i.size, i.bytes)) = some (some (.string ByteArray.empty), 1, 16) := by kernel_rfl

end Go.Proofs.YtcdhgabcajehnaaGreatDoor

namespace Go.Proofs.YtcdhgabcajehnaaGreatDoor
open Go.ChangeShapes Go.WideShapes Go.ChangeAt Go.RowKit
set_option linter.unusedVariables false

abbrev Ed := Int × Int × Int
def ev (e : Ed) : List Value := [.int .i64 e.1, .int .i64 e.2.1, .int .i64 e.2.2]
abbrev SlE := Sl 3 ev
theorem SlE.get {w : World} {lo hi n : Nat} {A : Option Addr} {l : List Ed} (h : SlE w lo hi A n l) {k : Nat} (hk : k < n) :
    ∃ b off x y z, A = some ⟨b, off, none⟩ ∧ lo ≤ b ∧ b < hi ∧ b < w.heap.size ∧ l[k]? = some (x, y, z) ∧ w.cell? ⟨b, off + k * 3, none⟩ = some (.int .i64 x) ∧ w.cell? ⟨b, off + k * 3 + 1, none⟩ = some (.int .i64 y) ∧ w.cell? ⟨b, off + k * 3 + 2, none⟩ = some (.int .i64 z) ∧
      w.frozen? ⟨b, off + k * 3, none⟩ = false ∧ w.frozen? ⟨b, off + k * 3 + 1, none⟩ = false ∧ w.frozen? ⟨b, off + k * 3 + 2, none⟩ = false := by
  obtain ⟨b, off, e, g1, g2, g3, hc⟩ := h.at_ (by omega)
  have hl : k < l.length := by rw [h.len]; exact hk
  have h0 := hc k l[k] (List.getElem?_eq_getElem hl) 0 _ rfl
  have h1 := hc k l[k] (List.getElem?_eq_getElem hl) 1 _ rfl
  have h2 := hc k l[k] (List.getElem?_eq_getElem hl) 2 _ rfl
  rw [← Nat.add_assoc] at h1 h2
  exact ⟨b, off, l[k].1, l[k].2.1, l[k].2.2, e, g1, g2, g3, List.getElem?_eq_getElem hl, h0.1, h1.1, h2.1, h0.2, h1.2, h2.2⟩

theorem info_implEdge : (Tryz.prog.info? 70).map (fun i => (i.zero, i.size, i.bytes)) = some (some (.agg #[.int .i64 0, .int .i64 0, .int .i64 0]), 3, 24) := by kernel_rfl

end Go.Proofs.YtcdhgabcajehnaaGreatDoor

namespace Go.Proofs.YtcdhgabcajehnaaGreatDoor
set_option linter.unusedVariables false

/-! ## All of the first n numbers -/
def allK (p : Nat → Bool) (n : Nat) : Bool := (List.range n).all p
theorem allK_bad {p : Nat → Bool} {n k : Nat} (hk : k < n) (h : p k = false) : allK p n = false := by
  unfold allK
  rw [← Bool.not_eq_true, List.all_eq_true]
  intro hc
  have := hc k (List.mem_range.2 hk)
  rw [h] at this
  cases this
theorem allK_good {p : Nat → Bool} {n : Nat} (h : ∀ j, j < n → p j = true) : allK p n = true :=
  List.all_eq_true.2 fun k hk => h k (List.mem_range.1 hk)
theorem allK_get {p : Nat → Bool} {n : Nat} (h : allK p n = true) {k : Nat} (hk : k < n) : p k = true :=
  (List.all_eq_true.1 h) k (List.mem_range.2 hk)
theorem lt_succ_cases {p : Nat → Prop} {k : Nat} (h : ∀ j, j < k → p j) (hk : p k) : ∀ j, j < k + 1 → p j := fun j hj => by
  rcases Nat.lt_or_ge j k with h1 | h1
  · exact h j h1
  · have : j = k := by omega
    subst this
    exact hk

/-! ## Data -/
/-- States, initial state, labels, edges. -/
abbrev DL := Int × Int × List ByteArray × List Ed

def tauB : ByteArray := ⟨#[116, 97, 117]⟩
/-- Order of edges. -/
def edLess (a b : Ed) : Bool := if a.1 ≠ b.1 then decide (a.1 < b.1) else if a.2.1 ≠ b.2.1 then decide (a.2.1 < b.2.1) else decide (a.2.2 < b.2.2)

section
variable (labB : ByteArray → Bool) (sLess : ByteArray → ByteArray → Bool)
/-- Label k is in order. -/
def okLab (ls : List ByteArray) (k : Nat) : Bool := match ls[k]? with
  | some s => labB s && (decide (s = tauB) == decide (k = 0)) && (decide (k ≤ 1) || match ls[k - 1]? with | some r => sLess r s | none => true)
  | none => true
def okEd (st m : Int) (es : List Ed) (k : Nat) : Bool := match es[k]? with
  | some e => inB e.1 0 (st - 1) && inB e.2.2 0 (st - 1) && inB e.2.1 0 (m - 1) && (decide (k = 0) || match es[k - 1]? with | some r => edLess r e | none => true)
  | none => true
def ltsB (d : DL) : Bool :=
  (inB d.1 1 40 && inB d.2.1 0 (d.1 - 1) && inB (d.2.2.1.length : Int) 1 12 && decide (d.2.2.2.length ≤ 300)) &&
  (allK (okLab labB sLess d.2.2.1) d.2.2.1.length && allK (okEd d.1 d.2.2.1.length d.2.2.2) d.2.2.2.length)
end
end Go.Proofs.YtcdhgabcajehnaaGreatDoor

namespace Go.Proofs.YtcdhgabcajehnaaGreatDoor
open Go.Sort
set_option linter.unusedVariables false
set_option linter.unusedSimpArgs false

/-! ## Equal keys, one block -/
section
variable {α : Type} [BEq α]
def nkL (keys : List α) : List Int := keys.map fun k => (keys.idxOf k : Int)
def nkF (keys : List α) : List Int := normF (nkL keys)
theorem nkF_len (keys : List α) : (nkF keys).length = keys.length := by unfold nkF nkL; rw [normF_len, List.length_map]
theorem nkF_norm (keys : List α) : normF (nkF keys) = nkF keys := normF_norm _
theorem nk_same [LawfulBEq α] {keys : List α} {i j : Nat} (hi : i < keys.length) (hj : j < keys.length) : sameB (nkF keys) i j ↔ keys[i]? = keys[j]? := by
  have hl : (nkL keys).length = keys.length := by simp [nkL]
  rw [nkF, normF_same (by omega) (by omega)]
  unfold sameB nkL
  rw [List.getElem?_map, List.getElem?_map, List.getElem?_eq_getElem hi, List.getElem?_eq_getElem hj]
  simp only [Option.map_some, Option.some.injEq]
  constructor
  · intro h
    have h : keys.idxOf keys[i] = keys.idxOf keys[j] := by omega
    have g1 := List.idxOf_lt_length_of_mem (List.getElem_mem hi)
    have g2 := List.idxOf_lt_length_of_mem (List.getElem_mem hj)
    have e1 := List.getElem_idxOf g1
    have e2 := List.getElem_idxOf g2
    rw [← e1, ← e2]
    simp only [h]
  · intro h; rw [h]
end

theorem asc_ext : ∀ {l m : List Int}, l.Pairwise (· < ·) → m.Pairwise (· < ·) → (∀ x, x ∈ l ↔ x ∈ m) → l = m
  | [], [], _, _, _ => rfl
  | [], y :: m, _, _, h => absurd ((h y).2 (List.mem_cons_self ..)) List.not_mem_nil
  | x :: l, [], _, _, h => absurd ((h x).1 (List.mem_cons_self ..)) List.not_mem_nil
  | x :: l, y :: m, hl, hm, h => by
    have h1 := List.pairwise_cons.1 hl
    have h2 := List.pairwise_cons.1 hm
    have e : x = y := by
      rcases List.mem_cons.1 ((h x).1 (List.mem_cons_self ..)) with e | e
      · exact e
      · rcases List.mem_cons.1 ((h y).2 (List.mem_cons_self ..)) with g | g
        · exact g.symm
        · have := h1.1 y g; have := h2.1 x e; omega
    subst e
    rw [asc_ext h1.2 h2.2 fun z => ?_]
    constructor
    · intro hz
      rcases List.mem_cons.1 ((h z).1 (List.mem_cons_of_mem _ hz)) with e | e
      · subst e; exact absurd (h1.1 z hz) (by omega)
      · exact e
    · intro hz
      rcases List.mem_cons.1 ((h z).2 (List.mem_cons_of_mem _ hz)) with e | e
      · subst e; exact absurd (h2.1 z hz) (by omega)
      · exact e
theorem set_ext {l m : List Int} : Lib.compact (sortI l) = Lib.compact (sortI m) ↔ ∀ x, x ∈ l ↔ x ∈ m := by
  constructor
  · intro h x; rw [← set_mem (l := l), h, set_mem]
  · intro h; exact asc_ext (set_asc l) (set_asc m) fun x => by rw [set_mem, set_mem]; exact h x

/-! ## One round -/
/-- The number of an edge's label and of the block that it leads to. -/
def cdE (N : Nat) (p : List Int) (e : Ed) : Int := e.2.1 * (N : Int) + (p[e.2.2.toNat]?).getD 0
def cdL (es : List Ed) (N : Nat) (p : List Int) (k : Nat) : List Int := (es.filter fun e => decide (e.1 = (k : Int))).map (cdE N p)
def keyR (es : List Ed) (N : Nat) (p : List Int) (k : Nat) : List Int := (p[k]?).getD 0 :: Lib.compact (sortI (cdL es N p k))
def keysR (es : List Ed) (N : Nat) (p : List Int) : List (List Int) := (List.range N).map (keyR es N p)
def refF (es : List Ed) (N : Nat) (p : List Int) : List Int := nkF (keysR es N p)
/-- The state k can go to block b by label l. -/
def canS (es : List Ed) (p : List Int) (k : Nat) (l b : Int) : Prop := ∃ e, e ∈ es ∧ e.1 = (k : Int) ∧ e.2.1 = l ∧ p[e.2.2.toNat]? = some b
/-- Edges of a system with N states. -/
def EdIn (N : Nat) (es : List Ed) : Prop := ∀ e, e ∈ es → (0 ≤ e.1 ∧ e.1 < (N : Int)) ∧ 0 ≤ e.2.1 ∧ 0 ≤ e.2.2 ∧ e.2.2 < (N : Int)
/-- The numbers of blocks of N items. -/
structure PartN (N : Nat) (p : List Int) : Prop where
  len : p.length = N
  norm : normF p = p
section
variable {es : List Ed} {N : Nat} {p q : List Int}
theorem firsts_len_le (L l : List Int) : (firsts L l).length ≤ L.length + l.length := by
  induction l generalizing L with
  | nil => exact Nat.le_refl _
  | cons x l ih =>
    unfold firsts
    refine Nat.le_trans (ih _) ?_
    rw [List.length_cons]
    split
    · omega
    · rw [List.length_append, List.length_singleton]; omega
theorem PartN.range (h : PartN N p) : ∀ x, x ∈ p → 0 ≤ x ∧ x < (N : Int) := fun x hx => by
  rw [← h.norm] at hx
  unfold normF at hx
  obtain ⟨y, hy, rfl⟩ := List.mem_map.1 hx
  have h1 := List.idxOf_lt_length_of_mem (firsts_mem.2 (.inr hy) : y ∈ firsts [] p)
  have h2 := firsts_len_le [] p
  rw [h.len] at h2
  simp only [List.length_nil] at h2
  omega
theorem refF_part (es : List Ed) (N : Nat) (p : List Int) : PartN N (refF es N p) := ⟨by unfold refF; rw [nkF_len]; simp [keysR], nkF_norm _⟩
theorem cd_inj {a b c d : Int} (hN : 0 ≤ b ∧ b < (N : Int)) (hM : 0 ≤ d ∧ d < (N : Int)) (h : a * (N : Int) + b = c * (N : Int) + d) : a = c ∧ b = d := by
  have h1 : (a * (N : Int) + b) / (N : Int) = a := by rw [Int.add_comm, Int.add_mul_ediv_right _ _ (by omega), Int.ediv_eq_zero_of_lt hN.1 hN.2]; omega
  have h2 : (c * (N : Int) + d) / (N : Int) = c := by rw [Int.add_comm, Int.add_mul_ediv_right _ _ (by omega), Int.ediv_eq_zero_of_lt hM.1 hM.2]; omega
  have e : a = c := by rw [← h1, ← h2, h]
  subst e
  exact ⟨rfl, by omega⟩
theorem to_get (he : EdIn N es) (hp : p.length = N) {e : Ed} (h : e ∈ es) : ∃ b, p[e.2.2.toNat]? = some b := by
  have := he e h
  exact ⟨_, List.getElem?_eq_getElem (by omega)⟩
theorem cdL_mem (he : EdIn N es) (hp : p.length = N) {k : Nat} {c : Int} : c ∈ cdL es N p k ↔ ∃ l b, canS es p k l b ∧ c = l * (N : Int) + b := by
  unfold cdL
  rw [List.mem_map]
  constructor
  · rintro ⟨e, h1, rfl⟩
    obtain ⟨h1, h2⟩ := List.mem_filter.1 h1
    obtain ⟨b, hb⟩ := to_get he hp h1
    exact ⟨e.2.1, b, ⟨e, h1, of_decide_eq_true h2, rfl, hb⟩, by unfold cdE; rw [hb]; rfl⟩
  · rintro ⟨l, b, ⟨e, h1, h2, rfl, hb⟩, rfl⟩
    exact ⟨e, List.mem_filter.2 ⟨h1, decide_eq_true h2⟩, by unfold cdE; rw [hb]; rfl⟩
theorem ref_same (he : EdIn N es) (hp : p.length = N) (hr : ∀ x, x ∈ p → 0 ≤ x ∧ x < (N : Int)) {i j : Nat} (hi : i < N) (hj : j < N) : sameB (refF es N p) i j ↔ sameB p i j ∧ ∀ l b, canS es p i l b ↔ canS es p j l b := by
  have hk : (keysR es N p).length = N := by simp [keysR]
  unfold refF
  rw [nk_same (by omega) (by omega)]
  unfold keysR
  rw [List.getElem?_map, List.getElem?_map, List.getElem?_range hi, List.getElem?_range hj]
  simp only [Option.map_some, Option.some.injEq]
  unfold keyR
  rw [List.cons.injEq, set_ext]
  have e1 : (p[i]?).getD 0 = (p[j]?).getD 0 ↔ sameB p i j := by
    unfold sameB
    rw [List.getElem?_eq_getElem (by omega), List.getElem?_eq_getElem (by omega)]
    simp
  have hin : ∀ {k : Nat} {l b : Int}, canS es p k l b → 0 ≤ b ∧ b < (N : Int) := fun ⟨e, _, _, _, hb⟩ => hr _ (List.mem_of_getElem? hb)
  rw [e1]
  refine and_congr_right fun _ => ?_
  constructor
  · intro h l b
    have := h (l * (N : Int) + b)
    rw [cdL_mem he hp, cdL_mem he hp] at this
    constructor
    · intro g
      obtain ⟨l2, b2, g2, e⟩ := this.1 ⟨l, b, g, rfl⟩
      obtain ⟨rfl, rfl⟩ := cd_inj (hin g) (hin g2) e
      exact g2
    · intro g
      obtain ⟨l2, b2, g2, e⟩ := this.2 ⟨l, b, g, rfl⟩
      obtain ⟨rfl, rfl⟩ := cd_inj (hin g) (hin g2) e
      exact g2
  · intro h c
    rw [cdL_mem he hp, cdL_mem he hp]
    constructor
    · rintro ⟨l, b, g, e⟩; exact ⟨l, b, (h l b).1 g, e⟩
    · rintro ⟨l, b, g, e⟩; exact ⟨l, b, (h l b).2 g, e⟩
theorem part_ext (h : PartN N p) (g : PartN N q) (hs : ∀ i j, i < N → j < N → (sameB p i j ↔ sameB q i j)) : p = q := by
  rw [← h.norm, ← g.norm]
  exact normF_ext (by rw [h.len, g.len]) fun i j hi hj => hs i j (by rw [h.len] at hi; exact hi) (by rw [h.len] at hj; exact hj)
end

/-! ## Rounds -/
def zeroP (N : Nat) : List Int := List.replicate N 0
def rndP (es : List Ed) (N : Nat) : Nat → List Int
  | 0 => zeroP N
  | n + 1 => refF es N (rndP es N n)
theorem zeroP_part (N : Nat) : PartN N (zeroP N) := by
  refine ⟨by simp [zeroP], ?_⟩
  unfold normF zeroP
  rw [List.map_replicate]
  congr 1
  cases N with
  | zero => rfl
  | succ n =>
    have : (0 : Int) ∈ firsts [] (List.replicate (n + 1) (0 : Int)) := firsts_mem.2 (.inr (by simp))
    have h0 : firsts [] (List.replicate (n + 1) (0 : Int)) = [0] := by
      show firsts (if (0 : Int) ∈ ([] : List Int) then [] else [] ++ [0]) (List.replicate n 0) = [0]
      rw [if_neg (by simp)]
      show firsts [0] (List.replicate n 0) = [0]
      induction n with
      | zero => rfl
      | succ n ih =>
        show firsts (if (0 : Int) ∈ ([0] : List Int) then [0] else [0] ++ [0]) (List.replicate n 0) = [0]
        rw [if_pos (by simp)]
        exact ih (firsts_mem.2 (.inr (by simp)))
    rw [h0]; rfl
section
variable {es : List Ed} {N : Nat}
theorem rnd_part (n : Nat) : PartN N (rndP es N n) := by
  cases n with
  | zero => exact zeroP_part N
  | succ n => exact refF_part _ _ _
theorem rnd_same (he : EdIn N es) {n i j : Nat} (hi : i < N) (hj : j < N) : sameB (rndP es N (n + 1)) i j ↔ sameB (rndP es N n) i j ∧ ∀ l b, canS es (rndP es N n) i l b ↔ canS es (rndP es N n) j l b :=
  ref_same he (rnd_part n).len (rnd_part n).range hi hj
theorem rnd_zero {i j : Nat} (hi : i < N) (hj : j < N) : sameB (rndP es N 0) i j := by
  unfold sameB rndP zeroP
  rw [List.getElem?_replicate, List.getElem?_replicate, if_pos hi, if_pos hj]
/-- A later round is finer. -/
theorem rnd_mono (he : EdIn N es) {n m i j : Nat} (hi : i < N) (hj : j < N) (hnm : n ≤ m) (h : sameB (rndP es N m) i j) : sameB (rndP es N n) i j := by
  induction m with
  | zero => rw [show n = 0 by omega]; exact h
  | succ m ih =>
    by_cases e : n = m + 1
    · rw [e]; exact h
    · exact ih (by omega) ((rnd_same he hi hj).1 h).1
/-- How many blocks there are. -/
def numB (p : List Int) : Nat := (firsts [] p).length
theorem numB_le (p : List Int) : numB p ≤ p.length := by have := firsts_len_le [] p; simp only [List.length_nil] at this; unfold numB; omega
theorem firsts_nd (p : List Int) : (firsts [] p).Nodup := firsts_nodup List.nodup_nil
theorem sub_erase {L M : List Int} {x : Int} (hn : (x :: L).Nodup) (h : ∀ y, y ∈ x :: L → y ∈ M) : ∀ y, y ∈ L → y ∈ M.erase x := fun y hy => by
  have hne : y ≠ x := fun e => (List.nodup_cons.1 hn).1 (e ▸ hy)
  exact (List.mem_erase_of_ne hne).2 (h y (List.mem_cons_of_mem _ hy))
theorem sub_len : ∀ {L M : List Int}, L.Nodup → (∀ y, y ∈ L → y ∈ M) → L.length ≤ M.length
  | [], M, _, _ => Nat.zero_le _
  | x :: L, M, hn, h => by
    have h1 := sub_len (List.nodup_cons.1 hn).2 (sub_erase hn h)
    have hx := h x (List.mem_cons_self ..)
    rw [List.length_erase_of_mem hx] at h1
    have := List.length_pos_of_mem hx
    rw [List.length_cons]; omega
theorem sub_perm : ∀ {L M : List Int}, L.Nodup → (∀ y, y ∈ L → y ∈ M) → M.length ≤ L.length → L.Perm M
  | [], M, _, _, hl => by rw [List.length_eq_zero_iff.1 (Nat.le_zero.1 hl)]
  | x :: L, M, hn, h, hl => by
    have hx := h x (List.mem_cons_self ..)
    have := sub_perm (List.nodup_cons.1 hn).2 (sub_erase hn h) (by rw [List.length_erase_of_mem hx]; rw [List.length_cons] at hl; omega)
    exact (this.cons x).trans (List.perm_cons_erase hx).symm
/-- A partition that is finer has as many blocks at least, and more if it is another. -/
theorem numB_fine {p q : List Int} (hl : p.length = q.length) (hf : ∀ i j, i < p.length → j < p.length → sameB q i j → sameB p i j) : numB p ≤ numB q ∧ (numB p = numB q → ∀ i j, i < p.length → j < p.length → sameB p i j → sameB q i j) := by
  -- each block of q lies in one of p: the map from q's numbers to p's is onto
  let f : Int → Int := fun x => (p[q.idxOf x]?).getD 0
  have hfx : ∀ i, i < p.length → ∀ x, q[i]? = some x → p[i]? = some (f x) := by
    intro i hi x hx
    have hxi := List.getElem?_eq_some_iff.1 hx
    have hm : x ∈ q := List.mem_of_getElem? hx
    have hlt := List.idxOf_lt_length_of_mem hm
    have hs : sameB q (q.idxOf x) i := by
      unfold sameB
      rw [hx, List.getElem?_eq_getElem hlt]
      exact congrArg some (List.getElem_idxOf hlt)
    have := hf _ _ (by omega) hi hs
    unfold sameB at this
    show p[i]? = some ((p[q.idxOf x]?).getD 0)
    rw [← this, List.getElem?_eq_getElem (show q.idxOf x < p.length by omega)]
    rfl
  have hsub : ∀ y, y ∈ firsts [] p → y ∈ (firsts [] q).map f := by
    intro y hy
    have hy := (firsts_mem.1 hy).resolve_left List.not_mem_nil
    obtain ⟨i, hi, rfl⟩ := List.getElem_of_mem hy
    have hq : q[i]? = some (q[i]'(by omega)) := List.getElem?_eq_getElem (by omega)
    have := hfx i hi _ hq
    rw [List.getElem?_eq_getElem hi] at this
    injection this with this
    rw [this]
    exact List.mem_map_of_mem (firsts_mem.2 (.inr (List.mem_of_getElem? hq)))
  have hle : (firsts [] p).length ≤ ((firsts [] q).map f).length := sub_len (firsts_nd p) hsub
  rw [List.length_map] at hle
  refine ⟨hle, fun he i j hi hj hs => ?_⟩
  have hperm : (firsts [] p).Perm ((firsts [] q).map f) := sub_perm (firsts_nd p) hsub (by rw [List.length_map]; exact Nat.le_of_eq he.symm)
  have hnd : ((firsts [] q).map f).Nodup := hperm.nodup_iff.1 (firsts_nd p)
  have h1 : q[i]? = some (q[i]'(by omega)) := List.getElem?_eq_getElem (by omega)
  have h2 : q[j]? = some (q[j]'(by omega)) := List.getElem?_eq_getElem (by omega)
  have e1 := hfx i hi _ h1
  have e2 := hfx j hj _ h2
  unfold sameB at hs
  rw [e1, e2] at hs
  injection hs with hs
  have m1 : (q[i]'(by omega)) ∈ firsts [] q := firsts_mem.2 (.inr (List.mem_of_getElem? h1))
  have m2 : (q[j]'(by omega)) ∈ firsts [] q := firsts_mem.2 (.inr (List.mem_of_getElem? h2))
  unfold sameB
  rw [h1, h2]
  congr 1
  obtain ⟨a, ha, ea⟩ := List.getElem_of_mem m1
  obtain ⟨b, hb, eb⟩ := List.getElem_of_mem m2
  have hab := (List.getElem_inj (h₀ := show a < ((firsts [] q).map f).length by rw [List.length_map]; exact ha) (h₁ := show b < ((firsts [] q).map f).length by rw [List.length_map]; exact hb) hnd).1 (by rw [List.getElem_map, List.getElem_map, ea, eb]; exact hs)
  subst hab
  rw [← ea, ← eb]
theorem numB_ref (he : EdIn N es) {n : Nat} (hne : rndP es N (n + 1) ≠ rndP es N n) : numB (rndP es N n) < numB (rndP es N (n + 1)) := by
  have hl : (rndP es N n).length = (rndP es N (n + 1)).length := by rw [(rnd_part n).len, (rnd_part (n + 1)).len]
  obtain ⟨h1, h2⟩ := numB_fine hl fun i j hi hj h => ((rnd_same he (by rw [(rnd_part n).len] at hi; exact hi) (by rw [(rnd_part n).len] at hj; exact hj)).1 h).1
  by_cases e : numB (rndP es N n) = numB (rndP es N (n + 1))
  · refine absurd (part_ext (rnd_part (n + 1)) (rnd_part n) fun i j hi hj => ⟨fun h => ((rnd_same he hi hj).1 h).1, fun h => h2 e i j (by rw [(rnd_part n).len]; exact hi) (by rw [(rnd_part n).len]; exact hj) h⟩) hne
  · omega
/-- As long as rounds change something there are more blocks than rounds. -/
theorem rnd_many (he : EdIn N es) (hN : 1 ≤ N) {n : Nat} (h : ∀ m, m < n → rndP es N (m + 1) ≠ rndP es N m) : n + 1 ≤ numB (rndP es N n) := by
  induction n with
  | zero =>
    have hm : (0 : Int) ∈ firsts [] (rndP es N 0) := firsts_mem.2 (.inr (by unfold rndP zeroP; exact List.mem_replicate.2 ⟨by omega, rfl⟩))
    have := List.length_pos_of_mem hm
    unfold numB; omega
  | succ n ih =>
    have h1 := ih fun m hm => h m (by omega)
    have h2 := numB_ref he (h n (by omega))
    omega
theorem rnd_bound (he : EdIn N es) (hN : 1 ≤ N) {n : Nat} (h : ∀ m, m < n → rndP es N (m + 1) ≠ rndP es N m) : n + 1 ≤ N := by
  have h1 := rnd_many he hN h
  have h2 := numB_le (rndP es N n)
  rw [(rnd_part n).len] at h2
  omega
/-- The last round: the first one from which nothing changes. -/
def LastR (es : List Ed) (N r : Nat) : Prop := rndP es N (r + 1) = rndP es N r ∧ ∀ m, m < r → rndP es N (m + 1) ≠ rndP es N m
theorem last_uniq {r s : Nat} (h : LastR es N r) (g : LastR es N s) : r = s := by
  rcases Nat.lt_trichotomy r s with e | e | e
  · exact absurd h.1 (g.2 r e)
  · exact e
  · exact absurd g.1 (h.2 s e)
end
end Go.Proofs.YtcdhgabcajehnaaGreatDoor

namespace Go.Proofs
open Go.Shelf
def Tryz.lays156_ren : Go.Shelf.Ren := ⟨fun | 156 => 185 | 165 => 202 | 166 => 203 | 169 => 204 | 240 => 224 | 241 => 225 | 276 => 239 | 277 => 240 | n => n, fun | 31 => 24 | 9 => 9 | 3 => 3 | 4 => 4 | 0 => 0 | 20 => 20 | 72 => 211 | 76 => 213 | 70 => 209 | 37 => 22 | 75 => 189 | 127 => 228 | 164 => 245 | 5 => 5 | 80 => 215 | n => n, fun | n => n⟩
theorem Tryz.lays156 : Go.Proofs.Lays.n156 Tryz.prog Tryz.lays156_ren := {
  mixed := by kernel_rfl
  f156 := Tryz.func185.trans (congrArg some (by kernel_rfl))
  f165 := Tryz.func202.trans (congrArg some (by kernel_rfl))
  f166 := Tryz.func203.trans (congrArg some (by kernel_rfl))
  f169 := Tryz.func204.trans (congrArg some (by kernel_rfl))
  f240 := Tryz.func224.trans (congrArg some (by kernel_rfl))
  f241 := Tryz.func225.trans (congrArg some (by kernel_rfl))
  f276 := Tryz.func239.trans (congrArg some (by kernel_rfl))
  f277 := Tryz.func240.trans (congrArg some (by kernel_rfl))
  t0 := Tryz.underlying0
  a0 := Tryz.isAgg0
  z0 := Tryz.sizeOf0
  v0 := Tryz.zeroValue0
  t3 := Tryz.underlying3
  a3 := Tryz.isAgg3
  z3 := Tryz.sizeOf3
  v3 := Tryz.zeroValue3
  t4 := Tryz.underlying4
  a4 := Tryz.isAgg4
  z4 := Tryz.sizeOf4
  v4 := Tryz.zeroValue4
  t9 := Tryz.underlying9
  a9 := Tryz.isAgg9
  z9 := Tryz.sizeOf9
  v9 := Tryz.zeroValue9
  t20 := Tryz.underlying20
  a20 := Tryz.isAgg20
  z20 := Tryz.sizeOf20
  v20 := Tryz.zeroValue20
  t31 := Tryz.underlying24
  a31 := Tryz.isAgg24
  z31 := Tryz.sizeOf24
  v31 := Tryz.zeroValue24
  t37 := Tryz.underlying22
  a37 := Tryz.isAgg22
  z37 := Tryz.sizeOf22
  v37 := Tryz.zeroValue22
  t70 := Tryz.underlying209
  a70 := Tryz.isAgg209
  z70 := Tryz.sizeOf209
  v70 := Tryz.zeroValue209
  t72 := Tryz.underlying211
  a72 := Tryz.isAgg211
  z72 := Tryz.sizeOf211
  v72 := Tryz.zeroValue211
  t75 := Tryz.underlying189
  a75 := Tryz.isAgg189
  z75 := Tryz.sizeOf189
  v75 := Tryz.zeroValue189
  t76 := Tryz.underlying213
  a76 := Tryz.isAgg213
  z76 := Tryz.sizeOf213
  v76 := Tryz.zeroValue213
  t127 := Tryz.underlying228
  a127 := Tryz.isAgg228
  z127 := Tryz.sizeOf228
  v127 := Tryz.zeroValue228
  t164 := Tryz.underlying245
  a164 := Tryz.isAgg245
  z164 := Tryz.sizeOf245
  v164 := Tryz.zeroValue245 }
theorem Tryz.Builder_Extra_156 : Builder.Extra Tryz.prog Tryz.lays156_ren := {
  sizeBuilder := by kernel_rfl
  liesBuilder := by kernel_rfl
  t5 := Tryz.underlying5
  a5 := Tryz.isAgg5
  z5 := Tryz.sizeOf5
  v5 := Tryz.zeroValue5
  infoByte := by kernel_rfl
  cellsByte := by kernel_rfl
  sizeByte := by kernel_rfl
  neB5 := by decide }
open Go.RowKit in
/-- strings.Join: "Join concatenates the elements of its first argument to create a single string. The separator string sep is placed between elements in the resulting string.": HOWEVER MANY ELEMENTS. Below the heap's end the world is as it was. (LAID: no walk: one application.) -/
theorem Tryz.strings_Join (bk o c : Nat) (xs : List ByteArray) (sep : ByteArray) (w : World) (hcells : ∀ (j : Nat) x, xs[j]? = some x → w.cell? ⟨bk, o + j, none⟩ = some (.string x)) (hbk : bk < w.heap.size) (hN : xs.length ≤ 140737488355328) (hcap : xs.length ≤ c) (hlen : (Lib.join (xs.map (·.data.toList)) sep.data.toList).length ≤ 140737488355328) :
    Calls Tryz.prog 185 #[.slice (some ⟨bk, o, none⟩) xs.length c, .string sep] w fun e w' => e = .returned (.string ⟨(Lib.join (xs.map (·.data.toList)) sep.data.toList).toArray⟩) ∧ Below w.heap.size w w' := Any.strings_Join Tryz.lays156 Tryz.Builder_Extra_156 bk o c xs sep w hcells hbk hN hcap hlen
def Tryz.laysM173_ren : Go.Shelf.Ren := ⟨fun | 173 => 197 | 246 => 222 | 283 => 235 | 284 => 236 | 285 => 237 | 286 => 238 | 129 => 136 | 317 => 243 | 318 => 244 | 319 => 245 | 320 => 246 | 337 => 247 | 338 => 248 | n => n, fun | 2 => 2 | 3 => 3 | 9 => 9 | 4 => 4 | 171 => 237 | 0 => 0 | 53 => 86 | 37 => 22 | 5 => 5 | 173 => 239 | 212 => 253 | 51 => 150 | 20 => 20 | 213 => 254 | 46 => 120 | 232 => 256 | 233 => 257 | n => n, fun | 17 => 5 | 18 => 6 | 19 => 7 | n => n⟩
theorem Tryz.laysM173 : Go.Proofs.LaysM.n173 Tryz.prog Tryz.laysM173_ren := {
  mixed := by kernel_rfl
  f129 := Tryz.func136.trans (congrArg some (by kernel_rfl))
  f173 := Tryz.func197.trans (congrArg some (by kernel_rfl))
  f246 := Tryz.func222.trans (congrArg some (by kernel_rfl))
  f283 := Tryz.func235.trans (congrArg some (by kernel_rfl))
  f284 := Tryz.func236.trans (congrArg some (by kernel_rfl))
  f285 := Tryz.func237.trans (congrArg some (by kernel_rfl))
  f286 := Tryz.func238.trans (congrArg some (by kernel_rfl))
  f317 := Tryz.func243.trans (congrArg some (by kernel_rfl))
  f318 := Tryz.func244.trans (congrArg some (by kernel_rfl))
  f319 := Tryz.func245.trans (congrArg some (by kernel_rfl))
  f320 := Tryz.func246.trans (congrArg some (by kernel_rfl))
  f337 := Tryz.func247.trans (congrArg some (by kernel_rfl))
  f338 := Tryz.func248.trans (congrArg some (by kernel_rfl))
  t0 := Tryz.underlying0
  a0 := Tryz.isAgg0
  z0 := Tryz.sizeOf0
  v0 := Tryz.zeroValue0
  t2 := Tryz.underlying2
  a2 := Tryz.isAgg2
  z2 := Tryz.sizeOf2
  v2 := Tryz.zeroValue2
  t3 := Tryz.underlying3
  a3 := Tryz.isAgg3
  z3 := Tryz.sizeOf3
  v3 := Tryz.zeroValue3
  t4 := Tryz.underlying4
  a4 := Tryz.isAgg4
  z4 := Tryz.sizeOf4
  v4 := Tryz.zeroValue4
  t5 := Tryz.underlying5
  a5 := Tryz.isAgg5
  z5 := Tryz.sizeOf5
  v5 := Tryz.zeroValue5
  t9 := Tryz.underlying9
  a9 := Tryz.isAgg9
  z9 := Tryz.sizeOf9
  v9 := Tryz.zeroValue9
  t20 := Tryz.underlying20
  a20 := Tryz.isAgg20
  z20 := Tryz.sizeOf20
  v20 := Tryz.zeroValue20
  t37 := Tryz.underlying22
  a37 := Tryz.isAgg22
  z37 := Tryz.sizeOf22
  v37 := Tryz.zeroValue22
  t46 := Tryz.underlying120
  a46 := Tryz.isAgg120
  z46 := Tryz.sizeOf120
  v46 := Tryz.zeroValue120
  t51 := Tryz.underlying150
  a51 := Tryz.isAgg150
  z51 := Tryz.sizeOf150
  v51 := Tryz.zeroValue150
  t53 := Tryz.underlying86
  a53 := Tryz.isAgg86
  z53 := Tryz.sizeOf86
  v53 := Tryz.zeroValue86
  t171 := Tryz.underlying237
  a171 := Tryz.isAgg237
  z171 := Tryz.sizeOf237
  v171 := Tryz.zeroValue237
  t173 := Tryz.underlying239
  a173 := Tryz.isAgg239
  z173 := Tryz.sizeOf239
  v173 := Tryz.zeroValue239
  t212 := Tryz.underlying253
  a212 := Tryz.isAgg253
  z212 := Tryz.sizeOf253
  v212 := Tryz.zeroValue253
  t213 := Tryz.underlying254
  a213 := Tryz.isAgg254
  z213 := Tryz.sizeOf254
  t232 := Tryz.underlying256
  a232 := Tryz.isAgg256
  z232 := Tryz.sizeOf256
  v232 := Tryz.zeroValue256
  t233 := Tryz.underlying257
  a233 := Tryz.isAgg257
  z233 := Tryz.sizeOf257
  v233 := Tryz.zeroValue257
  g17 := by kernel_rfl
  g18 := by kernel_rfl
  g19 := by kernel_rfl
  i0 := by kernel_rfl
  i2 := by kernel_rfl
  i3 := by kernel_rfl
  i4 := by kernel_rfl
  i5 := by kernel_rfl
  i9 := by kernel_rfl
  i20 := by kernel_rfl
  i37 := by kernel_rfl
  i46 := by kernel_rfl
  i51 := by kernel_rfl
  i53 := by kernel_rfl
  i171 := by kernel_rfl
  i173 := by kernel_rfl
  i212 := by kernel_rfl
  i232 := by kernel_rfl
  i233 := by kernel_rfl
  m17 := by kernel_rfl
  m18 := by kernel_rfl
  m19 := by kernel_rfl }
open Go.RowKit Go.Sort Go.Lib in
/-- strconv.FormatInt: "FormatInt returns the string representation of i in the given base": AT BASE 10: i's decimal numeral, for every int64. (LAID: no walk: one application.) -/
theorem Tryz.strconv_FormatInt_10 (n : Int) (h0 : -9223372036854775808 ≤ n) (h1 : n ≤ 9223372036854775807) (w : World) (htab : Lib.TabIs Tryz.prog w "internal/strconv.uint64pow10" .u64 Lib.pow10Tab) :
    Calls Tryz.prog 197 #[.int .i64 n, .int .i64 10] w fun e w' => e = .returned (.string ⟨(Lib.itoa n).toArray⟩) ∧ ∃ k os, w' = grow (w.drewN k) os := Any.strconv_FormatInt_10 Tryz.laysM173 n h0 h1 w htab
def Tryz.laysC174_ren : Go.Shelf.Ren := ⟨fun | 174 => 176 | 247 => 195 | 245 => 196 | 287 => 217 | 279 => 218 | 280 => 219 | 281 => 220 | 282 => 221 | 321 => 230 | 322 => 231 | 316 => 232 | 171 => 234 | 205 => 233 | 243 => 242 | 246 => 222 | 283 => 235 | 284 => 236 | 285 => 237 | 286 => 238 | 129 => 136 | 317 => 243 | 318 => 244 | 319 => 245 | 320 => 246 | 337 => 247 | 338 => 248 | n => n, fun | 9 => 9 | 3 => 3 | 2 => 2 | 75 => 189 | 85 => 190 | 4 => 4 | 167 => 222 | 5 => 5 | 53 => 86 | 175 => 223 | 46 => 120 | 168 => 225 | 37 => 22 | 0 => 0 | 210 => 234 | 21 => 21 | 127 => 228 | 145 => 251 | 143 => 249 | 171 => 237 | 173 => 239 | 212 => 253 | 51 => 150 | 20 => 20 | 213 => 254 | 232 => 256 | 233 => 257 | 80 => 215 | n => n, fun | 15 => 1 | 16 => 2 | 17 => 5 | 18 => 6 | 19 => 7 | n => n⟩
theorem Tryz.laysC174 : Go.Proofs.LaysC.n174 Tryz.prog Tryz.laysC174_ren := {
  mixed := by kernel_rfl
  f129 := Tryz.func136.trans (congrArg some (by kernel_rfl))
  f171 := Tryz.func234.trans (congrArg some (by kernel_rfl))
  f174 := Tryz.func176.trans (congrArg some (by kernel_rfl))
  f205 := Tryz.func233.trans (congrArg some (by kernel_rfl))
  f243 := Tryz.func242.trans (congrArg some (by kernel_rfl))
  f245 := Tryz.func196.trans (congrArg some (by kernel_rfl))
  f246 := Tryz.func222.trans (congrArg some (by kernel_rfl))
  f247 := Tryz.func195.trans (congrArg some (by kernel_rfl))
  f279 := Tryz.func218.trans (congrArg some (by kernel_rfl))
  f280 := Tryz.func219.trans (congrArg some (by kernel_rfl))
  f281 := Tryz.func220.trans (congrArg some (by kernel_rfl))
  f282 := Tryz.func221.trans (congrArg some (by kernel_rfl))
  f283 := Tryz.func235.trans (congrArg some (by kernel_rfl))
  f284 := Tryz.func236.trans (congrArg some (by kernel_rfl))
  f285 := Tryz.func237.trans (congrArg some (by kernel_rfl))
  f286 := Tryz.func238.trans (congrArg some (by kernel_rfl))
  f287 := Tryz.func217.trans (congrArg some (by kernel_rfl))
  f316 := Tryz.func232.trans (congrArg some (by kernel_rfl))
  f317 := Tryz.func243.trans (congrArg some (by kernel_rfl))
  f318 := Tryz.func244.trans (congrArg some (by kernel_rfl))
  f319 := Tryz.func245.trans (congrArg some (by kernel_rfl))
  f320 := Tryz.func246.trans (congrArg some (by kernel_rfl))
  f321 := Tryz.func230.trans (congrArg some (by kernel_rfl))
  f322 := Tryz.func231.trans (congrArg some (by kernel_rfl))
  f337 := Tryz.func247.trans (congrArg some (by kernel_rfl))
  f338 := Tryz.func248.trans (congrArg some (by kernel_rfl))
  t0 := Tryz.underlying0
  a0 := Tryz.isAgg0
  z0 := Tryz.sizeOf0
  v0 := Tryz.zeroValue0
  t2 := Tryz.underlying2
  a2 := Tryz.isAgg2
  z2 := Tryz.sizeOf2
  v2 := Tryz.zeroValue2
  t3 := Tryz.underlying3
  a3 := Tryz.isAgg3
  z3 := Tryz.sizeOf3
  v3 := Tryz.zeroValue3
  t4 := Tryz.underlying4
  a4 := Tryz.isAgg4
  z4 := Tryz.sizeOf4
  v4 := Tryz.zeroValue4
  t5 := Tryz.underlying5
  a5 := Tryz.isAgg5
  z5 := Tryz.sizeOf5
  v5 := Tryz.zeroValue5
  t9 := Tryz.underlying9
  a9 := Tryz.isAgg9
  z9 := Tryz.sizeOf9
  v9 := Tryz.zeroValue9
  t20 := Tryz.underlying20
  a20 := Tryz.isAgg20
  z20 := Tryz.sizeOf20
  v20 := Tryz.zeroValue20
  t21 := Tryz.underlying21
  a21 := Tryz.isAgg21
  z21 := Tryz.sizeOf21
  v21 := Tryz.zeroValue21
  t37 := Tryz.underlying22
  a37 := Tryz.isAgg22
  z37 := Tryz.sizeOf22
  v37 := Tryz.zeroValue22
  t46 := Tryz.underlying120
  a46 := Tryz.isAgg120
  z46 := Tryz.sizeOf120
  v46 := Tryz.zeroValue120
  t51 := Tryz.underlying150
  a51 := Tryz.isAgg150
  z51 := Tryz.sizeOf150
  v51 := Tryz.zeroValue150
  t53 := Tryz.underlying86
  a53 := Tryz.isAgg86
  z53 := Tryz.sizeOf86
  v53 := Tryz.zeroValue86
  t75 := Tryz.underlying189
  a75 := Tryz.isAgg189
  z75 := Tryz.sizeOf189
  v75 := Tryz.zeroValue189
  t85 := Tryz.underlying190
  a85 := Tryz.isAgg190
  z85 := Tryz.sizeOf190
  v85 := Tryz.zeroValue190
  t127 := Tryz.underlying228
  a127 := Tryz.isAgg228
  z127 := Tryz.sizeOf228
  v127 := Tryz.zeroValue228
  t143 := Tryz.underlying249
  a143 := Tryz.isAgg249
  z143 := Tryz.sizeOf249
  v143 := Tryz.zeroValue249
  t145 := Tryz.underlying251
  a145 := Tryz.isAgg251
  z145 := Tryz.sizeOf251
  v145 := Tryz.zeroValue251
  t167 := Tryz.underlying222
  a167 := Tryz.isAgg222
  z167 := Tryz.sizeOf222
  v167 := Tryz.zeroValue222
  t168 := Tryz.underlying225
  a168 := Tryz.isAgg225
  z168 := Tryz.sizeOf225
  v168 := Tryz.zeroValue225
  t171 := Tryz.underlying237
  a171 := Tryz.isAgg237
  z171 := Tryz.sizeOf237
  v171 := Tryz.zeroValue237
  t173 := Tryz.underlying239
  a173 := Tryz.isAgg239
  z173 := Tryz.sizeOf239
  v173 := Tryz.zeroValue239
  t175 := Tryz.underlying223
  a175 := Tryz.isAgg223
  z175 := Tryz.sizeOf223
  v175 := Tryz.zeroValue223
  t210 := Tryz.underlying234
  a210 := Tryz.isAgg234
  z210 := Tryz.sizeOf234
  v210 := Tryz.zeroValue234
  t212 := Tryz.underlying253
  a212 := Tryz.isAgg253
  z212 := Tryz.sizeOf253
  v212 := Tryz.zeroValue253
  t213 := Tryz.underlying254
  a213 := Tryz.isAgg254
  z213 := Tryz.sizeOf254
  t232 := Tryz.underlying256
  a232 := Tryz.isAgg256
  z232 := Tryz.sizeOf256
  v232 := Tryz.zeroValue256
  t233 := Tryz.underlying257
  a233 := Tryz.isAgg257
  z233 := Tryz.sizeOf257
  v233 := Tryz.zeroValue257
  g15 := by kernel_rfl
  g16 := by kernel_rfl
  g17 := by kernel_rfl
  g18 := by kernel_rfl
  g19 := by kernel_rfl
  t80 := Tryz.underlying215
  a80 := Tryz.isAgg215
  z80 := Tryz.sizeOf215
  v80 := Tryz.zeroValue215
  i0 := by kernel_rfl
  i2 := by kernel_rfl
  i3 := by kernel_rfl
  i4 := by kernel_rfl
  i5 := by kernel_rfl
  i9 := by kernel_rfl
  i20 := by kernel_rfl
  i21 := by kernel_rfl
  i37 := by kernel_rfl
  i46 := by kernel_rfl
  i51 := by kernel_rfl
  i53 := by kernel_rfl
  i75 := by kernel_rfl
  i80 := by kernel_rfl
  i85 := by kernel_rfl
  i127 := by kernel_rfl
  i143 := by kernel_rfl
  i145 := by kernel_rfl
  i167 := by kernel_rfl
  i168 := by kernel_rfl
  i171 := by kernel_rfl
  i173 := by kernel_rfl
  i175 := by kernel_rfl
  i210 := by kernel_rfl
  i212 := by kernel_rfl
  i232 := by kernel_rfl
  i233 := by kernel_rfl
  m15 := by kernel_rfl
  m16 := by kernel_rfl
  m17 := by kernel_rfl
  m18 := by kernel_rfl
  m19 := by kernel_rfl
  c0 := by kernel_rfl
  c2 := by kernel_rfl
  c3 := by kernel_rfl
  c4 := by kernel_rfl
  c5 := by kernel_rfl
  c9 := by kernel_rfl
  c20 := by kernel_rfl
  c21 := by kernel_rfl
  c37 := by kernel_rfl
  c46 := by kernel_rfl
  c51 := by kernel_rfl
  c53 := by kernel_rfl
  c75 := by kernel_rfl
  c80 := by kernel_rfl
  c85 := by kernel_rfl
  c127 := by kernel_rfl
  c143 := by kernel_rfl
  c145 := by kernel_rfl
  c167 := by kernel_rfl
  c168 := by kernel_rfl
  c171 := by kernel_rfl
  c173 := by kernel_rfl
  c175 := by kernel_rfl
  c210 := by kernel_rfl
  c212 := by kernel_rfl
  c213 := by kernel_rfl
  c232 := by kernel_rfl
  c233 := by kernel_rfl }
open Go.RowKit in
/-- strconv.ParseInt(s, 10, 64), AT EVERY STRING THAT SPELLS AN int64 ('Lib.parseIntB 64 s.data.toList = .ok v'): v, AND NO ERROR. (LAID: no walk: one application.) -/
theorem Tryz.strconv_ParseInt_10_at64_ok (s : ByteArray) (hmax : s.size ≤ 9223372036854775806) (v : Int) (h : Lib.parseIntB 64 s.data.toList = .ok v) (w : World) :
    Calls Tryz.prog 176 #[.string s, .int .i64 10, .int .i64 64] w fun e w' => e = .returned (.tuple #[.int .i64 v, .nilIface]) ∧ (w' = w ∨ ∃ t, w' = Lib.bytesWorld w 5 t) := Any.strconv_ParseInt_10_at64_ok Tryz.laysC174 s hmax v h w
open Go.RowKit in
theorem Tryz.strconv_ParseInt_10_at64_syntax_var (s : ByteArray) (hlim : s.size ≤ 281474976710656) (h : Lib.parseIntB 64 s.data.toList = Lib.NumEnd.syntax) (tp : TypeId) (p : Value) (w : World) (hvar : w.var? Tryz.prog "strconv.ErrSyntax" = some #[.iface tp p]) :
    Calls Tryz.prog 176 #[.string s, .int .i64 10, .int .i64 64] w fun e w' => ∃ N, e = .returned (.tuple #[.int .i64 (0), .iface 225 (.pointer (some ⟨N, 0, none⟩))]) ∧ w.heap.size ≤ N ∧ w'.heap[N]? = some (.cells #[.string ⟨#[80, 97, 114, 115, 101, 73, 110, 116]⟩, .string s, .iface tp p] 234 (0, 0)) ∧ Below w.heap.size w w' := Any.strconv_ParseInt_10_at64_syntax_var Tryz.laysC174 s hlim h tp p w hvar
def Tryz.laysM145_ren : Go.Shelf.Ren := ⟨fun | 145 => 120 | 220 => 154 | 219 => 174 | 217 => 190 | 225 => 191 | 224 => 192 | 267 => 193 | 266 => 214 | 314 => 215 | n => n, fun | 9 => 9 | 4 => 4 | 59 => 132 | 3 => 3 | 5 => 5 | 46 => 120 | 146 => 154 | 51 => 150 | n => n, fun | 1 => 0 | n => n⟩
theorem Tryz.laysM145 : Go.Proofs.LaysM.n145 Tryz.prog Tryz.laysM145_ren := {
  mixed := by kernel_rfl
  f145 := Tryz.func120.trans (congrArg some (by kernel_rfl))
  f217 := Tryz.func190.trans (congrArg some (by kernel_rfl))
  f219 := Tryz.func174.trans (congrArg some (by kernel_rfl))
  f220 := Tryz.func154.trans (congrArg some (by kernel_rfl))
  f224 := Tryz.func192.trans (congrArg some (by kernel_rfl))
  f225 := Tryz.func191.trans (congrArg some (by kernel_rfl))
  f266 := Tryz.func214.trans (congrArg some (by kernel_rfl))
  f267 := Tryz.func193.trans (congrArg some (by kernel_rfl))
  f314 := Tryz.func215.trans (congrArg some (by kernel_rfl))
  t3 := Tryz.underlying3
  a3 := Tryz.isAgg3
  z3 := Tryz.sizeOf3
  v3 := Tryz.zeroValue3
  t4 := Tryz.underlying4
  a4 := Tryz.isAgg4
  z4 := Tryz.sizeOf4
  v4 := Tryz.zeroValue4
  t5 := Tryz.underlying5
  a5 := Tryz.isAgg5
  z5 := Tryz.sizeOf5
  v5 := Tryz.zeroValue5
  t9 := Tryz.underlying9
  a9 := Tryz.isAgg9
  z9 := Tryz.sizeOf9
  v9 := Tryz.zeroValue9
  t46 := Tryz.underlying120
  a46 := Tryz.isAgg120
  z46 := Tryz.sizeOf120
  v46 := Tryz.zeroValue120
  t51 := Tryz.underlying150
  a51 := Tryz.isAgg150
  z51 := Tryz.sizeOf150
  v51 := Tryz.zeroValue150
  t59 := Tryz.underlying132
  a59 := Tryz.isAgg132
  z59 := Tryz.sizeOf132
  v59 := Tryz.zeroValue132
  t146 := Tryz.underlying154
  a146 := Tryz.isAgg154
  z146 := Tryz.sizeOf154
  v146 := Tryz.zeroValue154
  g1 := by kernel_rfl
  i3 := by kernel_rfl
  i4 := by kernel_rfl
  i5 := by kernel_rfl
  i9 := by kernel_rfl
  i46 := by kernel_rfl
  i51 := by kernel_rfl
  i59 := by kernel_rfl
  i146 := by kernel_rfl
  m1 := by kernel_rfl
  s1_3 := fun w h => Go.Proofs.cell_of_shapedOpen_int (zero := #[.int .i64 0]) (t := 3) h (of_decide_eq_true (by kernel_rfl)) (by kernel_rfl) rfl (by kernel_rfl) (by kernel_rfl) Tryz.underlying3 }
open Go.RowKit Go.Lib in
theorem Tryz.strings_Cut_shaped (s sep : ByteArray) (w : World) (h : w.ShapedOpen Tryz.prog) (hs : s.size < 4294967281) :
    Calls Tryz.prog 120 #[.string s, .string sep] w fun e w' => e = .returned (.tuple #[.string ⟨(Lib.cut s.data.toList sep.data.toList).1.toArray⟩, .string ⟨(Lib.cut s.data.toList sep.data.toList).2.1.toArray⟩, .bool (Lib.cut s.data.toList sep.data.toList).2.2]) ∧ ∃ n, w' = w.drewN n := Any.strings_Cut_shaped Tryz.laysM145 s sep w h hs
def Tryz.lays101_ren : Go.Shelf.Ren := ⟨fun | 101 => 175 | 208 => 194 | 206 => 216 | n => n, fun | 9 => 9 | 4 => 4 | 3 => 3 | n => n, fun | n => n⟩
theorem Tryz.lays101 : Go.Proofs.Lays.n101 Tryz.prog Tryz.lays101_ren := {
  mixed := by kernel_rfl
  f101 := Tryz.func175.trans (congrArg some (by kernel_rfl))
  f206 := Tryz.func216.trans (congrArg some (by kernel_rfl))
  f208 := Tryz.func194.trans (congrArg some (by kernel_rfl))
  t3 := Tryz.underlying3
  a3 := Tryz.isAgg3
  z3 := Tryz.sizeOf3
  v3 := Tryz.zeroValue3
  t4 := Tryz.underlying4
  a4 := Tryz.isAgg4
  z4 := Tryz.sizeOf4
  v4 := Tryz.zeroValue4
  t9 := Tryz.underlying9
  a9 := Tryz.isAgg9
  z9 := Tryz.sizeOf9
  v9 := Tryz.zeroValue9 }
open Go.RowKit Go.Lib in
/-- strings.TrimPrefix: "TrimPrefix returns s without the provided leading prefix string. If s doesn't start with prefix, s is returned unchanged.": IT RETURNS 'Lib.trimPrefix s prefix'; the world is as it was. (LAID: no walk: one application.) -/
theorem Tryz.strings_TrimPrefix (s p : ByteArray) (w : World) :
    Calls Tryz.prog 175 #[.string s, .string p] w fun e w' => e = .returned (.string ⟨(Lib.trimPrefix s.data.toList p.data.toList).toArray⟩) ∧ w' = w := Any.strings_TrimPrefix Tryz.lays101 s p w
def Tryz.lays102_ren : Go.Shelf.Ren := ⟨fun | 102 => 123 | 209 => 157 | 207 => 181 | n => n, fun | 9 => 9 | 4 => 4 | 3 => 3 | n => n, fun | n => n⟩
theorem Tryz.lays102 : Go.Proofs.Lays.n102 Tryz.prog Tryz.lays102_ren := {
  mixed := by kernel_rfl
  f102 := Tryz.func123.trans (congrArg some (by kernel_rfl))
  f207 := Tryz.func181.trans (congrArg some (by kernel_rfl))
  f209 := Tryz.func157.trans (congrArg some (by kernel_rfl))
  t3 := Tryz.underlying3
  a3 := Tryz.isAgg3
  z3 := Tryz.sizeOf3
  v3 := Tryz.zeroValue3
  t4 := Tryz.underlying4
  a4 := Tryz.isAgg4
  z4 := Tryz.sizeOf4
  v4 := Tryz.zeroValue4
  t9 := Tryz.underlying9
  a9 := Tryz.isAgg9
  z9 := Tryz.sizeOf9
  v9 := Tryz.zeroValue9 }
open Go.RowKit Go.Lib in
/-- strings.TrimSuffix: "TrimSuffix returns s without the provided trailing suffix string. If s doesn't end with suffix, s is returned unchanged.": IT RETURNS 'Lib.trimSuffix s suffix'; the world is as it was. (LAID: no walk: one application.) -/
theorem Tryz.strings_TrimSuffix (s p : ByteArray) (w : World) (hs : s.size ≤ 9223372036854775807) :
    Calls Tryz.prog 123 #[.string s, .string p] w fun e w' => e = .returned (.string ⟨(Lib.trimSuffix s.data.toList p.data.toList).toArray⟩) ∧ w' = w := Any.strings_TrimSuffix Tryz.lays102 s p w hs
def Tryz.laysM146_ren : Go.Shelf.Ren := ⟨fun | 146 => 122 | 221 => 156 | 268 => 178 | 138 => 179 | 143 => 180 | 195 => 198 | 197 => 199 | 218 => 200 | 219 => 174 | 260 => 223 | 217 => 190 | 225 => 191 | 224 => 192 | 267 => 193 | 266 => 214 | 314 => 215 | n => n, fun | 9 => 9 | 31 => 24 | 3 => 3 | 4 => 4 | 0 => 0 | 105 => 206 | 21 => 21 | 5 => 5 | 46 => 120 | 119 => 241 | 139 => 244 | 138 => 243 | 146 => 154 | 51 => 150 | n => n, fun | 1 => 0 | 3 => 3 | 4 => 4 | n => n⟩
theorem Tryz.laysM146 : Go.Proofs.LaysM.n146 Tryz.prog Tryz.laysM146_ren := {
  mixed := by kernel_rfl
  f138 := Tryz.func179.trans (congrArg some (by kernel_rfl))
  f143 := Tryz.func180.trans (congrArg some (by kernel_rfl))
  f146 := Tryz.func122.trans (congrArg some (by kernel_rfl))
  f195 := Tryz.func198.trans (congrArg some (by kernel_rfl))
  f197 := Tryz.func199.trans (congrArg some (by kernel_rfl))
  f217 := Tryz.func190.trans (congrArg some (by kernel_rfl))
  f218 := Tryz.func200.trans (congrArg some (by kernel_rfl))
  f219 := Tryz.func174.trans (congrArg some (by kernel_rfl))
  f221 := Tryz.func156.trans (congrArg some (by kernel_rfl))
  f224 := Tryz.func192.trans (congrArg some (by kernel_rfl))
  f225 := Tryz.func191.trans (congrArg some (by kernel_rfl))
  f260 := Tryz.func223.trans (congrArg some (by kernel_rfl))
  f266 := Tryz.func214.trans (congrArg some (by kernel_rfl))
  f267 := Tryz.func193.trans (congrArg some (by kernel_rfl))
  f268 := Tryz.func178.trans (congrArg some (by kernel_rfl))
  f314 := Tryz.func215.trans (congrArg some (by kernel_rfl))
  t0 := Tryz.underlying0
  a0 := Tryz.isAgg0
  z0 := Tryz.sizeOf0
  v0 := Tryz.zeroValue0
  t3 := Tryz.underlying3
  a3 := Tryz.isAgg3
  z3 := Tryz.sizeOf3
  v3 := Tryz.zeroValue3
  t4 := Tryz.underlying4
  a4 := Tryz.isAgg4
  z4 := Tryz.sizeOf4
  v4 := Tryz.zeroValue4
  t5 := Tryz.underlying5
  a5 := Tryz.isAgg5
  z5 := Tryz.sizeOf5
  v5 := Tryz.zeroValue5
  t9 := Tryz.underlying9
  a9 := Tryz.isAgg9
  z9 := Tryz.sizeOf9
  v9 := Tryz.zeroValue9
  t21 := Tryz.underlying21
  a21 := Tryz.isAgg21
  z21 := Tryz.sizeOf21
  v21 := Tryz.zeroValue21
  t31 := Tryz.underlying24
  a31 := Tryz.isAgg24
  z31 := Tryz.sizeOf24
  v31 := Tryz.zeroValue24
  t46 := Tryz.underlying120
  a46 := Tryz.isAgg120
  z46 := Tryz.sizeOf120
  v46 := Tryz.zeroValue120
  t51 := Tryz.underlying150
  a51 := Tryz.isAgg150
  z51 := Tryz.sizeOf150
  v51 := Tryz.zeroValue150
  t105 := Tryz.underlying206
  a105 := Tryz.isAgg206
  z105 := Tryz.sizeOf206
  v105 := Tryz.zeroValue206
  t119 := Tryz.underlying241
  a119 := Tryz.isAgg241
  z119 := Tryz.sizeOf241
  t138 := Tryz.underlying243
  a138 := Tryz.isAgg243
  z138 := Tryz.sizeOf243
  v138 := Tryz.zeroValue243
  t139 := Tryz.underlying244
  a139 := Tryz.isAgg244
  z139 := Tryz.sizeOf244
  v139 := Tryz.zeroValue244
  t146 := Tryz.underlying154
  a146 := Tryz.isAgg154
  z146 := Tryz.sizeOf154
  v146 := Tryz.zeroValue154
  g1 := by kernel_rfl
  g3 := by kernel_rfl
  g4 := by kernel_rfl
  i0 := by kernel_rfl
  i3 := by kernel_rfl
  i4 := by kernel_rfl
  i5 := by kernel_rfl
  i9 := by kernel_rfl
  i21 := by kernel_rfl
  i31 := by kernel_rfl
  i46 := by kernel_rfl
  i51 := by kernel_rfl
  i105 := by kernel_rfl
  i138 := by kernel_rfl
  i139 := by kernel_rfl
  i146 := by kernel_rfl
  m1 := by kernel_rfl
  s1_3 := fun w h => Go.Proofs.cell_of_shapedOpen_int (zero := #[.int .i64 0]) (t := 3) h (of_decide_eq_true (by kernel_rfl)) (by kernel_rfl) rfl (by kernel_rfl) (by kernel_rfl) Tryz.underlying3
  m3 := by kernel_rfl
  m4 := by kernel_rfl }
open Go.RowKit Go.Lib in
/-- strings.Split, sep not empty. (LAID: no walk: one application.) -/
theorem Tryz.strings_Split_shaped (s sep : ByteArray) (w : World) (h : w.ShapedOpen Tryz.prog) (hs : s.size < 4294967281) (h1 : 1 ≤ sep.size) :
    Calls Tryz.prog 122 #[.string s, .string sep] w fun e w' =>
      e = .returned (.slice (some ⟨w.heap.size, 0, none⟩) (Lib.countB s sep + 1) (Lib.countB s sep + 1)) ∧ w' = w.alloc (.cells ((Lib.splitB sep 0 (Lib.countB s sep) s).map Value.string).toArray 9) := Any.strings_Split_shaped Tryz.laysM146 s sep w h hs h1
end Go.Proofs

namespace Go.Proofs.YtcdhgabcajehnaaGreatDoor
open Go.ChangeShapes Go.WideShapes Go.ChangeAt Go.RowKit Go.Deep
set_option linter.unusedVariables false

def ArgS (w : World) (lo hi : Nat) (v : Value) (d : List ByteArray) : Prop := ∃ A n c, v = .slice A n c ∧ n ≤ maxLen ∧ (∀ s ∈ d, s.size ≤ maxLen) ∧ SlS w lo hi A n d
def ArgE (w : World) (lo hi : Nat) (v : Value) (d : List Ed) : Prop := ∃ A n c, v = .slice A n c ∧ n ≤ maxLen ∧ SlE w lo hi A n d
section
variable {w w' : World} {lo hi lo' hi' B : Nat} {v : Value}
theorem ArgS.shape {d : List ByteArray} (h : ArgS w lo hi v d) : ∃ A n c, v = .slice A n c := by obtain ⟨A, n, c, h1, _⟩ := h; exact ⟨A, n, c, h1⟩
theorem ArgS.below {d : List ByteArray} (h : ArgS w lo hi v d) (hb : Below B w w') (hB : hi ≤ B ∨ w.heap.size ≤ B) : ArgS w' lo hi v d := by
  obtain ⟨A, n, c, h1, h2, h4, h3⟩ := h
  exact ⟨A, n, c, h1, h2, h4, h3.below hb hB⟩
theorem ArgS.more {d : List ByteArray} (h : ArgS w lo hi v d) (h1 : lo' ≤ lo) (h2 : hi ≤ hi') : ArgS w lo' hi' v d := by
  obtain ⟨A, n, c, q1, q2, q4, q3⟩ := h
  exact ⟨A, n, c, q1, q2, q4, q3.more h1 h2⟩
theorem ArgS.only {d : List ByteArray} (h : ArgS w lo hi v d) (g : Only lo' hi' w w') (hd : hi ≤ lo' ∨ hi' ≤ lo) : ArgS w' lo hi v d := by
  obtain ⟨A, n, c, h1, h2, h4, h3⟩ := h
  exact ⟨A, n, c, h1, h2, h4, h3.only g hd⟩
theorem ArgE.shape {d : List Ed} (h : ArgE w lo hi v d) : ∃ A n c, v = .slice A n c := by obtain ⟨A, n, c, h1, _⟩ := h; exact ⟨A, n, c, h1⟩
theorem ArgE.below {d : List Ed} (h : ArgE w lo hi v d) (hb : Below B w w') (hB : hi ≤ B ∨ w.heap.size ≤ B) : ArgE w' lo hi v d := by
  obtain ⟨A, n, c, h1, h2, h3⟩ := h
  exact ⟨A, n, c, h1, h2, h3.below hb hB⟩
theorem ArgE.more {d : List Ed} (h : ArgE w lo hi v d) (h1 : lo' ≤ lo) (h2 : hi ≤ hi') : ArgE w lo' hi' v d := by
  obtain ⟨A, n, c, q1, q2, q3⟩ := h
  exact ⟨A, n, c, q1, q2, q3.more h1 h2⟩
theorem ArgE.only {d : List Ed} (h : ArgE w lo hi v d) (g : Only lo' hi' w w') (hd : hi ≤ lo' ∨ hi' ≤ lo) : ArgE w' lo hi v d := by
  obtain ⟨A, n, c, h1, h2, h3⟩ := h
  exact ⟨A, n, c, h1, h2, h3.only g hd⟩
end
/-- A system's cells, and what they read as. -/
abbrev CL := Int × Int × Value × Value
def ReadL (w : World) (lo hi : Nat) (x : CL) (d : DL) : Prop := x.1 = d.1 ∧ x.2.1 = d.2.1 ∧ ArgS w lo hi x.2.2.1 d.2.2.1 ∧ ArgE w lo hi x.2.2.2 d.2.2.2
def totL (d : DL) : Nat := totS d.2.2.1 + d.2.2.2.length
theorem totL_lab (d : DL) : d.2.2.1.length ≤ totL d := by unfold totL totS; omega
theorem totL_edg (d : DL) : d.2.2.2.length ≤ totL d := by unfold totL; omega
section
variable {w w' : World} {lo hi lo' hi' B : Nat} {x : CL} {d : DL}
theorem ReadL.below (h : ReadL w lo hi x d) (hb : Below B w w') (hB : hi ≤ B ∨ w.heap.size ≤ B) : ReadL w' lo hi x d := ⟨h.1, h.2.1, h.2.2.1.below hb hB, h.2.2.2.below hb hB⟩
theorem ReadL.more (h : ReadL w lo hi x d) (h1 : lo' ≤ lo) (h2 : hi ≤ hi') : ReadL w lo' hi' x d := ⟨h.1, h.2.1, h.2.2.1.more h1 h2, h.2.2.2.more h1 h2⟩
theorem ReadL.only (h : ReadL w lo hi x d) (g : Only lo' hi' w w') (hd : hi ≤ lo' ∨ hi' ≤ lo) : ReadL w' lo hi x d := ⟨h.1, h.2.1, h.2.2.1.only g hd, h.2.2.2.only g hd⟩
end
instance decEdL : DecidableEq (List Ed) := inferInstance
instance decBaL : DecidableEq (List ByteArray) := inferInstance
instance decDL : DecidableEq DL := inferInstance

end Go.Proofs.YtcdhgabcajehnaaGreatDoor

namespace Go.Proofs.YtcdhgabcajehnaaGreatDoor
open Go.ChangeShapes Go.WideShapes Go.ChangeAt Go.RowKit
set_option linter.unusedVariables false

def smallB (c : Int) : Bool := decide (97 ≤ c) && decide (c ≤ 122)
def digitB (c : Int) : Bool := decide (48 ≤ c) && decide (c ≤ 57)

theorem isDigit_calls (c : Int) (w : World) : Calls Tryz.prog 201 #[.int .u8 c] w fun e w' => e = .returned (.bool (digitB c)) ∧ w = w' := by
  by_cases h1 : 48 ≤ c <;> by_cases h2 : c ≤ 57
  all_goals
    go_enter Tryz.func201, Tryz.ntmps201
    go_wp2
    go_ret
    exact ⟨by simp [digitB, h1, h2], rfl⟩
/-- Byte k spoils a name. -/
def badX (k : Nat) (x : Int) : Bool := !(smallB x) && (decide (k = 0) || !(digitB x))
def badAt (s : ByteArray) (k : Nat) : Bool := match s.data.toList[k]? with | some c => badX k (c.toNat : Int) | none => false
def nameB (s : ByteArray) : Bool := (List.range s.size).all (fun k => !(badAt s k)) && decide (1 ≤ s.size ∧ s.size ≤ 10)
theorem badAt_get (s : ByteArray) (k : Nat) (h : k < s.size) : badAt s k = badX k (s[k].toNat : Int) := by
  unfold badAt
  have : s.data.toList[k]? = some s[k] := by
    rw [List.getElem?_eq_getElem (by simpa using h)]
    rfl
  rw [this]
theorem nameB_bad {s : ByteArray} {k : Nat} (h : k < s.size) (hb : badX k (s[k].toNat : Int) = true) : nameB s = false := by
  unfold nameB
  rw [Bool.and_eq_false_iff]
  left
  rw [← Bool.not_eq_true, List.all_eq_true]
  intro hc
  have := hc k (List.mem_range.2 h)
  rw [badAt_get s k h, hb] at this
  cases this
theorem nameB_good {s : ByteArray} (h : ∀ j (hj : j < s.size), badX j (s[j].toNat : Int) = false) : nameB s = decide (1 ≤ s.size ∧ s.size ≤ 10) := by
  unfold nameB
  rw [(List.all_eq_true.2 fun k hk => by rw [badAt_get s k (List.mem_range.1 hk), h k (List.mem_range.1 hk)]; rfl), Bool.true_and]

set_option maxHeartbeats 800000 in
set_option maxRecDepth 100000 in
theorem isName_calls (s : ByteArray) (w : World) (hs : s.size ≤ maxLen) : Calls Tryz.prog 182 #[.string s] w fun e w' => e = .returned (.bool (nameB s)) ∧ w = w' := by
  unfold maxLen at hs
  have hs63 : s.size ≤ 9223372036854775807 := by omega
  go_enter Tryz.func182, Tryz.ntmps182
  go_wp2
  go_loop [7] (fun i => ∃ k : Nat, k ≤ s.size ∧ i = .int .i64 k ∧ Hid (∀ j (hj : j < s.size), j < k → badX j (s[j].toNat : Int) = false)) (fun i => s.size - (intOf i).toNat)
  case atStart => exact ⟨0, Nat.zero_le _, rfl, fun j _ h => absurd h (by omega)⟩
  case round =>
    obtain ⟨k, hk, rfl, ha⟩ := hrel
    by_cases hlt : k < s.size
    · have hbad := hide (fun hb => nameB_bad (s := s) hlt hb)
      have hnext : Hid (badX k (s[k].toNat : Int) = false → ∀ j (hj : j < s.size), j < k + 1 → badX j (s[j].toNat : Int) = false) := fun hg j hj hjk => by
        rcases Nat.lt_or_ge j k with h1 | h1
        · exact ha.out j hj h1
        · have : j = k := by omega
          subst this
          exact hg
      have hq := hide (isDigit_calls (s[k].toNat : Int) w)
      generalize hc : (s[k].toNat : Int) = c at *
      have hgetk : ∀ h : k < s.size, (s[k].toNat : Int) = c := fun _ => hc
      by_cases h1 : 97 ≤ c ∧ c ≤ 122
      · have h1a := h1.1
        have h1b := h1.2
        have hg : Hid (badX k c = false) := by show _ = _; simp [badX, smallB, h1a, h1b]
        clear h1
        go_wp2_with fail
        go_round
        case rel => exact ⟨k + 1, by omega, by go_num, hnext.out hg.out⟩
        case measure => simp [intOf]; omega
      · by_cases h1a : 97 ≤ c
        · have h1b : ¬ c ≤ 122 := fun h => h1 ⟨h1a, h⟩
          clear h1
          have hsm : Hid (smallB c = false) := by show _ = _; simp [smallB]; omega
          by_cases hk0 : k = 0
          · have hv := hide (hbad.out (by rw [hk0]; simp [badX, hsm.out]))
            subst hk0
            clear hnext hq
            go_wp2_with fail
            go_ret
            exact ⟨ret_b (by rw [hv.out]), rfl⟩
          · have hki : ((k : Int) == 0) = false := by rw [beq_eq_false_iff_ne]; omega
            by_cases hd : digitB c = true
            · have hqq := hq.out
              rw [hd] at hqq
              replace hqq := hide hqq
              have hg : Hid (badX k c = false) := by show _ = _; simp [badX, hsm.out, hk0, hd]
              clear hd hq hk0
              go_wp2_with (go_at_call 201; (with_reducible refine hqq.out.mono ?_); rintro e w1 ⟨rfl, rfl⟩)
              go_round
              case rel => exact ⟨k + 1, by omega, by go_num, hnext.out hg.out⟩
              case measure => simp [intOf]; omega
            · have hqq := hq.out
              replace hd := Bool.eq_false_iff.2 hd
              rw [hd] at hqq
              replace hqq := hide hqq
              have hv := hide (hbad.out (by simp [badX, hsm.out, hd]))
              clear hd hq hk0 hnext
              go_wp2_with (go_at_call 201; (with_reducible refine hqq.out.mono ?_); rintro e w1 ⟨rfl, rfl⟩)
              go_ret
              exact ⟨ret_b (by rw [hv.out]), rfl⟩
        · clear h1
          have hsm : Hid (smallB c = false) := by show _ = _; simp [smallB]; omega
          by_cases hk0 : k = 0
          · have hv := hide (hbad.out (by rw [hk0]; simp [badX, hsm.out]))
            subst hk0
            clear hnext hq
            go_wp2_with fail
            go_ret
            exact ⟨ret_b (by rw [hv.out]), rfl⟩
          · have hki : ((k : Int) == 0) = false := by rw [beq_eq_false_iff_ne]; omega
            by_cases hd : digitB c = true
            · have hqq := hq.out
              rw [hd] at hqq
              replace hqq := hide hqq
              have hg : Hid (badX k c = false) := by show _ = _; simp [badX, hsm.out, hk0, hd]
              clear hd hq hk0
              go_wp2_with (go_at_call 201; (with_reducible refine hqq.out.mono ?_); rintro e w1 ⟨rfl, rfl⟩)
              go_round
              case rel => exact ⟨k + 1, by omega, by go_num, hnext.out hg.out⟩
              case measure => simp [intOf]; omega
            · have hqq := hq.out
              replace hd := Bool.eq_false_iff.2 hd
              rw [hd] at hqq
              replace hqq := hide hqq
              have hv := hide (hbad.out (by simp [badX, hsm.out, hd]))
              clear hd hq hk0 hnext
              go_wp2_with (go_at_call 201; (with_reducible refine hqq.out.mono ?_); rintro e w1 ⟨rfl, rfl⟩)
              go_ret
              exact ⟨ret_b (by rw [hv.out]), rfl⟩
    · have hkn : k = s.size := by omega
      have hv := hide (nameB_good (s := s) (fun j hj => ha.out j hj (by omega)))
      by_cases z1 : 1 ≤ s.size
      · by_cases z2 : s.size ≤ 10
        · have hvv : Hid (nameB s = true) := by show _ = _; rw [hv.out]; simp [z1, z2]
          have z1i : (1 : Int) ≤ (s.size : Int) := by omega
          have z2i : (s.size : Int) ≤ 10 := by omega
          clear hv ha
          go_wp2_with fail
          go_ret
          exact ⟨ret_b (by rw [hvv.out]), rfl⟩
        · have hvv : Hid (nameB s = false) := by show _ = _; rw [hv.out]; simp [z2]
          have z1i : (1 : Int) ≤ (s.size : Int) := by omega
          have z2i : ¬ (s.size : Int) ≤ 10 := by omega
          clear hv ha
          go_wp2_with fail
          go_ret
          exact ⟨ret_b (by rw [hvv.out]), rfl⟩
      · have hvv : Hid (nameB s = false) := by show _ = _; rw [hv.out]; simp; omega
        have z1i : ¬ (1 : Int) ≤ (s.size : Int) := by omega
        clear hv ha
        go_wp2_with fail
        go_ret
        exact ⟨ret_b (by rw [hvv.out]), rfl⟩

end Go.Proofs.YtcdhgabcajehnaaGreatDoor

namespace Go.Proofs.YtcdhgabcajehnaaGreatDoor
open Go.ChangeShapes Go.WideShapes Go.ChangeAt Go.RowKit
set_option linter.unusedVariables false

structure Good (w : World) : Prop where
  shape : w.ShapedOpen Tryz.prog
  tab : Lib.TabIs Tryz.prog w "internal/strconv.uint64pow10" .u64 Lib.pow10Tab
  syn : ∃ tp p, w.var? Tryz.prog "strconv.ErrSyntax" = some #[.iface tp p]
def Env (w : World) : Prop := ∃ W0, Good W0 ∧ Below W0.heap.size W0 w
theorem Env.of {w : World} (h : Good w) : Env w := ⟨w, h, Below.refl _ _⟩
theorem Env.below {w w' : World} {B : Nat} (h : Env w) (hb : Below B w w') (hB : w.heap.size ≤ B) : Env w' := by
  obtain ⟨W0, h0, h1⟩ := h
  have hs := h1.size
  exact ⟨W0, h0, h1.trans (hb.mono (by omega))⟩
theorem var_lt {W : World} {n : String} {cs : Array Value} {g : Nat} (hg : Tryz.prog.globalNamed n = some g) (hv : W.var? Tryz.prog n = some cs) : g < W.heap.size := by
  unfold World.var? at hv
  rw [hg] at hv
  rcases Nat.lt_or_ge g W.heap.size with h | h
  · exact h
  · simp [Array.getElem?_eq_none h] at hv
set_option maxRecDepth 100000 in
theorem Env.good {w : World} (h : Env w) : Good w := by
  obtain ⟨W0, h0, h1⟩ := h
  have hblk : ∀ {k : Nat} {o : Obj}, W0.heap[k]? = some o → w.heap[k]? = some o := fun {k o} hk => (h1.block k (Array.getElem?_eq_some_iff.1 hk).1).trans hk
  obtain ⟨g1, e1⟩ : ∃ g, Tryz.prog.globalNamed "internal/strconv.uint64pow10" = some g := Option.isSome_iff_exists.1 (by kernel_rfl)
  obtain ⟨g2, e2⟩ : ∃ g, Tryz.prog.globalNamed "strconv.ErrSyntax" = some g := Option.isSome_iff_exists.1 (by kernel_rfl)
  refine ⟨⟨fun g zero t hg hr => ?_, fun k hk1 hk2 => ?_⟩, ?_, ?_⟩
  · obtain ⟨cs, a, b, c⟩ := h0.shape.1 g zero t hg hr
    exact ⟨cs, hblk a, b, fun hb => Row.ok_of_shape (fun bb x hx => by
      unfold World.shape? at hx ⊢
      rcases Nat.lt_or_ge bb W0.heap.size with h | h
      · rw [h1.block bb h]; exact hx
      · simp [Array.getElem?_eq_none h] at hx) (c hb)⟩
  · obtain ⟨o, o2, a, b⟩ := h0.shape.2 k hk1 hk2
    exact ⟨o, o2, hblk a, b⟩
  · exact var?_below h1 e1 (var_lt e1 h0.tab) h0.tab
  · obtain ⟨tp, p, hv⟩ := h0.syn
    exact ⟨tp, p, var?_below h1 e2 (var_lt e2 hv) hv⟩

set_option maxRecDepth 100000 in
theorem decimal_calls (n : Int) (h0 : -9223372036854775808 ≤ n) (h1 : n ≤ 9223372036854775807) (w : World) (he : Env w) :
    Calls Tryz.prog 177 #[.int .i64 n] w fun e w' => e = .returned (.string ⟨(Lib.itoa n).toArray⟩) ∧ Below w.heap.size w w' := by
  have q := hide (Tryz.strconv_FormatInt_10 n h0 h1 w he.good.tab)
  clear he
  go_enter Tryz.func177, Tryz.ntmps177
  go_wp2_with fail
  refine q.out.mono ?_
  rintro e w1 ⟨rfl, k, os, rfl⟩
  go_wp2_with fail
  go_ret
  exact ⟨rfl, Lib.below_grow _ _ (Nat.le_refl _) _ _⟩

theorem parse_short (l : List UInt8) (h : ¬ 18 < (Lib.trimPrefix l [45]).length) :
    (∃ v : Int, Lib.parseIntB 64 l = .ok v ∧ -9223372036854775808 ≤ v ∧ v ≤ 9223372036854775807) ∨ Lib.parseIntB 64 l = Lib.NumEnd.syntax := by
  cases l with
  | nil => exact .inr rfl
  | cons c r =>
    have key : ∀ t : List UInt8, t.length ≤ 18 → Lib.parseUintB 64 t = Lib.NumEnd.syntax ∨ ∃ u, Lib.parseUintB 64 t = .ok u ∧ u < 10 ^ 18 := by
      intro t ht
      rw [parseUintB_short t ht]
      by_cases hd : t ≠ [] ∧ t.all isDig = true
      · rw [if_pos hd]
        exact .inr ⟨_, rfl, valN_18 ht hd.2⟩
      · rw [if_neg hd]
        exact .inl rfl
    have h18 : (10 : Nat) ^ 18 = 1000000000000000000 := by decide
    have h63 : (2 : Nat) ^ (64 - 1) = 9223372036854775808 := by decide
    rw [h18] at key
    unfold Lib.parseIntB
    by_cases hs : c.toNat = 43 ∨ c.toNat = 45
    · have hlen : r.length ≤ 18 := by
        by_cases hc : c = 45
        · subst hc
          have : Lib.trimPrefix (45 :: r) [45] = r := by unfold Lib.trimPrefix Lib.hasPrefix; simp
          rw [this] at h
          omega
        · have : Lib.trimPrefix (c :: r) [45] = c :: r := by
            unfold Lib.trimPrefix Lib.hasPrefix
            rw [if_neg]
            simp
            exact fun h => hc h.symm
          rw [this] at h
          simp only [List.length_cons] at h
          omega
      simp only [if_pos hs]
      rcases key _ hlen with h1 | ⟨u, h1, h2⟩
      · right
        rw [h1]
      · left
        rw [h1]
        simp only [h63]
        rw [if_neg (by omega), if_neg (by omega)]
        by_cases hn : c.toNat = 45
        · simp only [hn, if_true]
          exact ⟨_, rfl, by omega, by omega⟩
        · simp only [hn, if_false]
          exact ⟨_, rfl, by omega, by omega⟩
    · have hlen : (c :: r).length ≤ 18 := by
        have : Lib.trimPrefix (c :: r) [45] = c :: r := by
          unfold Lib.trimPrefix Lib.hasPrefix
          rw [if_neg]
          simp
          rintro rfl
          exact hs (Or.inr rfl)
        rw [this] at h
        omega
      simp only [if_neg hs]
      rcases key _ hlen with h1 | ⟨u, h1, h2⟩
      · right
        rw [h1]
      · left
        rw [h1]
        simp only [h63]
        rw [if_neg (by omega), if_neg (by omega)]
        have hn : ¬ c.toNat = 45 := fun e => hs (Or.inr e)
        simp only [hn, if_false]
        exact ⟨_, rfl, by omega, by omega⟩

/-- A number's reading as the two results. -/
def numR (o : Option Int) : Value := .tuple #[.int .i64 (o.getD 0), .bool o.isSome]
theorem numP_long {l : List UInt8} (h : 18 < (Lib.trimPrefix l [45]).length) : numP l = none := by unfold numP; rw [if_pos h]
theorem numP_syn {l : List UInt8} (h : Lib.parseIntB 64 l = Lib.NumEnd.syntax) : numP l = none := by unfold numP; rw [h]; split <;> rfl
theorem numP_ok {l : List UInt8} {v : Int} (hl : ¬ 18 < (Lib.trimPrefix l [45]).length) (h : Lib.parseIntB 64 l = .ok v) : numP l = if Lib.itoa v = l then some v else none := by unfold numP; rw [if_neg hl, h]
theorem bytes_eta (s : ByteArray) : (⟨s.data.toList.toArray⟩ : ByteArray) = s := by cases s; simp
theorem bytes_size (l : List UInt8) : (⟨l.toArray⟩ : ByteArray).size = l.length := by simp [ByteArray.size]

end Go.Proofs.YtcdhgabcajehnaaGreatDoor

namespace Go.Proofs.YtcdhgabcajehnaaGreatDoor
open Go.ChangeShapes Go.WideShapes Go.ChangeAt Go.RowKit
set_option linter.unusedVariables false

theorem bsize (s : ByteArray) : s.data.toList.length = s.size := by rw [Array.length_toList]; rfl
def mkB (l : List UInt8) : ByteArray := ⟨l.toArray⟩
theorem mkB_data (l : List UInt8) : (mkB l).data.toList = l := rfl
theorem mkB_size (l : List UInt8) : (mkB l).size = l.length := bytes_size l
theorem flat_strv : Flat strv 1 := ⟨fun _ => rfl, fun x u h => by simp [strv] at h; subst h; rfl⟩
theorem elem_str : Elem Tryz.prog 24 9 1 16 := Elem.of Tryz.underlying24 info_string rfl (by decide) (by decide)

theorem splitC_len (c : UInt8) : ∀ l : List UInt8, (splitC c l).length ≤ l.length + 1
  | [] => by simp [splitC]
  | x :: l => by
    have ih := splitC_len c l
    by_cases hx : x = c
    · subst hx
      rw [splitC_ceq]
      simp only [List.length_cons]
      omega
    · rw [splitC_cne hx]
      simp only [List.length_cons, List.length_tail]
      omega

end Go.Proofs.YtcdhgabcajehnaaGreatDoor

namespace Go.Proofs.YtcdhgabcajehnaaGreatDoor
open Go.ChangeShapes Go.WideShapes Go.ChangeAt Go.RowKit
set_option linter.unusedVariables false
set_option linter.unusedSimpArgs false

theorem Own.litL {α : Type} {f : α → List Value} {w : World} {g base : Nat} {e : TypeId} {x : α} {u : Value} (h : w.heap[g]? = some (.cells #[u] e (0, 0))) (hf : f x = [u]) (hb : base ≤ g) : Own 1 f w base e (some ⟨g, 0, none⟩) 1 1 [x] :=
  ⟨rfl, by simp [hf], .inr ⟨g, 1, #[u], rfl, hb, h, Nat.le_refl _, by unfold maxLen; omega, rfl, by simp [hf]⟩⟩
theorem strv_mapL (l : List ByteArray) : l.flatMap strv = l.map Value.string := by
  induction l with
  | nil => rfl
  | cons x l ih => rw [List.flatMap_cons, ih]; rfl
theorem Own.setS {w : World} {base g n c : Nat} {e : TypeId} {l : List ByteArray} (h : Own 1 strv w base e (some ⟨g, 0, none⟩) n c l) (k : Nat) (x : ByteArray) : Own 1 strv (w.setCell ⟨g, k, none⟩ (.string x)) base e (some ⟨g, 0, none⟩) n c (l.set k x) := by
  rcases h.2.2 with ⟨hv, -⟩ | ⟨g', cap, cur, hv, hb, hg, hnc, hcm, hcs, htake⟩
  · cases hv
  · cases hv
    refine ⟨by rw [List.length_set]; exact h.1, by rw [flat_length flat_strv, List.length_set]; have := h.1; omega, .inr ⟨g, c, cur.setIfInBounds k (.string x), rfl, hb, heap_setCell_same _ _ k _ _ _ hg, hnc, hcm, by simpa using hcs, ?_⟩⟩
    rw [Array.toList_setIfInBounds, List.take_set, htake, strv_mapL, strv_mapL, List.map_set]

theorem step_appL {P : Program} {α : Type} {size bytes : Nat} {f : α → List Value} {t e : TypeId} {w : World} {ops : Array Oper} {o : Oper} {a : Act} {K : Act → World → Prop} {Q : Exit → Act → World → Prop} {E : Prop} (hgd : o.guard = none) (s x : Operand)
    (ho : o.op = .call { callee := .builtin .append, args := #[s, x], argTypes := #[t, t] }) (hE : Elem P t e size bytes) (hf : Flat f size)
    {base n c : Nat} {A : Option Addr} {l : List α} (hs : a.eval s = .slice A n c) (hown : Own size f w base e A n c l)
    {B : Option Addr} {m d lo hi : Nat} {r : List α} (hx : a.eval x = .slice B m d) (hr : Sl size f w lo hi B m r) (hsz : (n + m) * bytes ≤ 140737488355328) (hbase : base ≤ w.heap.size)
    (h : ∀ A' c' w', Own size f w' base e A' (n + m) c' (l ++ r) → w.grownBy w' (Value.slice A n c).ownBlock → Below base w w' →
      ((Value.slice A' (n + m) c').ownBlock = (Value.slice A n c).ownBlock ∨ (Value.slice A' (n + m) c').ownBlock = some w.heap.size) → K (a.put o.dst (.slice A' (n + m) c')) w') :
    if Region.wanted o (yielded ops a.tmps) = true then Oper.wp P o a w K Q else E := by
  have hw : Region.wanted o (yielded ops a.tmps) = true := by simp [Region.wanted, hgd]
  rw [if_pos hw]
  obtain ⟨A', c', w', h1, h2, h3, h4⟩ := run_app w hE hf o.type hown (d := d) hr hsz hbase
  unfold Oper.wp execOp
  simp only [ho, resolve, invoke, builtin, Sem.run_bind, Sem.run_pure, Result.andThen_ok, List.map_toArray, List.map_cons, List.map_nil, hs, hx, h1]
  exact h _ _ _ h2 h3 ((Below.refl _ _).grown h3 hbase fun k hk => (hown.lt k hk).1) h4

end Go.Proofs.YtcdhgabcajehnaaGreatDoor

namespace Go.Proofs.YtcdhgabcajehnaaGreatDoor
open Go.ChangeShapes Go.WideShapes Go.ChangeAt Go.RowKit
set_option linter.unusedVariables false
set_option linter.unusedSimpArgs false

abbrev RowsI (most : Nat) := RowsG (id : Hd → Hd) 1 sv 1 iv most
abbrev HI := Option Addr × Nat
def hiV (N : Nat) (x : HI) : List Value := [.slice x.1 N x.2]
theorem flat_hiV (N : Nat) : Flat (hiV N) 1 := ⟨fun _ => rfl, fun x u h => by simp [hiV] at h; subst h; rfl⟩
theorem elem_rowI : Elem Tryz.prog 55 31 1 24 := Elem.of (z := .slice none 0 0) Tryz.underlying55 (by kernel_rfl) rfl (by omega) (by omega)
/-- Rows of N numbers; the row of their handles is the call's own. -/
structure GrowI (w : World) (base N : Nat) (A : Option Addr) (n c : Nat) (R : List (HI × List Int)) : Prop where
  own : Own 1 (hiV N) w base 31 A n c (R.map (·.1))
  rows : ∀ r ∈ R, SlI w base w.heap.size r.1.1 N r.2
  off : ∀ r ∈ R, 0 < N → ∀ b off, r.1.1 = some ⟨b, off, none⟩ → (Value.slice A n c).ownBlock ≠ some b
section
variable {w w4 w5 w' : World} {base N n c : Nat} {A : Option Addr} {R : List (HI × List Int)}
theorem GrowI.len (h : GrowI w base N A n c R) : R.length = n := by have := h.own.len; rwa [List.length_map] at this
theorem GrowI.nil_ (w : World) (base N : Nat) : GrowI w base N none 0 0 [] := ⟨Own.nil_ _ _ _, fun _ h => (List.not_mem_nil h).elim, fun _ h => (List.not_mem_nil h).elim⟩
/-- The blocks from base on stay. -/
theorem GrowI.keep (h : GrowI w base N A n c R) (hs : w.heap.size ≤ w'.heap.size) (hk : ∀ b, base ≤ b → b < w.heap.size → w'.heap[b]? = w.heap[b]?) : GrowI w' base N A n c R :=
  ⟨h.own.keep fun g hg => hk g (h.own.lt g hg).1 (h.own.lt g hg).2, fun r hr => ((h.rows r hr).keep hs fun b h1 _ h3 => hk b h1 h3).more (Nat.le_refl _) hs, h.off⟩
theorem GrowI.below (h : GrowI w base N A n c R) (hb : Below w.heap.size w w') : GrowI w' base N A n c R := h.keep hb.size fun b _ h2 => hb.block b h2
/-- A first row. -/
theorem GrowI.one {Ah : Option Addr} {ch : Nat} {s : List Int} (hs : SlI w base w.heap.size Ah N s) (hb : base ≤ w.heap.size) : GrowI (w.alloc (.cells #[.slice Ah N ch] 31)) base N (some ⟨w.heap.size, 0, none⟩) 1 1 [((Ah, ch), s)] := by
  have hbel : Below w.heap.size w (w.alloc (.cells #[.slice Ah N ch] 31)) := (Below.refl _ _).alloc (Nat.le_refl _) _
  refine ⟨⟨rfl, by simp [hiV], .inr ⟨w.heap.size, 1, #[.slice Ah N ch], rfl, hb, heap_alloc_new w _, Nat.le_refl _, by decide, rfl, rfl⟩⟩, fun r hr => ?_, fun r hr hN b off e => ?_⟩
  · obtain rfl := List.mem_singleton.1 hr
    exact (hs.below hbel (.inr (Nat.le_refl _))).more (Nat.le_refl _) hbel.size
  · obtain rfl := List.mem_singleton.1 hr
    obtain ⟨b', off', e', -, -, g3, -⟩ := hs.at_ hN
    have e : Ah = _ := e
    rw [e] at e'
    cases e'
    intro e2
    have e2 : some w.heap.size = some b := e2
    injection e2 with e2
    omega
/-- A further row. -/
theorem GrowI.push (h : GrowI w4 base N A n c R) {Ah : Option Addr} {ch : Nat} {s : List Int} (hs : SlI w4 base w4.heap.size Ah N s) (ho : ∀ b off, 0 < N → Ah = some ⟨b, off, none⟩ → (Value.slice A n c).ownBlock ≠ some b)
    {A5 : Option Addr} {c5 : Nat} (hown : Own 1 (hiV N) w5 base 31 A5 (n + 1) c5 (R.map (·.1) ++ [(Ah, ch)])) (hgr : w4.grownBy w5 (Value.slice A n c).ownBlock)
    (hat : (Value.slice A5 (n + 1) c5).ownBlock = (Value.slice A n c).ownBlock ∨ (Value.slice A5 (n + 1) c5).ownBlock = some w4.heap.size) :
    GrowI w5 base N A5 (n + 1) c5 (R ++ [((Ah, ch), s)]) := by
  have hz5 := hgr.size
  have keepS : ∀ (B : Option Addr) (l : List Int), SlI w4 base w4.heap.size B N l → (∀ b off, 0 < N → B = some ⟨b, off, none⟩ → (Value.slice A n c).ownBlock ≠ some b) → SlI w5 base w5.heap.size B N l := by
    intro B l hl hne
    refine ⟨hl.1, fun hm => ?_⟩
    obtain ⟨b, off, rfl, g1, g2, g3, hc⟩ := hl.2 hm
    have hk := hgr.block b g3 (fun e => hne b off hm rfl e.symm)
    refine ⟨b, off, rfl, g1, by omega, by omega, fun k x hx j u hu => ?_⟩
    obtain ⟨h1, h2⟩ := hc k x hx j u hu
    exact ⟨(World.cell?_of_block (w := w4) (by simpa using hk)).trans h1, (World.frozen?_of_block (w := w4) (by simpa using hk)).trans h2⟩
  have hoff : ∀ (B : Option Addr) (l : List Int), SlI w4 base w4.heap.size B N l → (∀ b off, 0 < N → B = some ⟨b, off, none⟩ → (Value.slice A n c).ownBlock ≠ some b) → ∀ b off, 0 < N → B = some ⟨b, off, none⟩ → (Value.slice A5 (n + 1) c5).ownBlock ≠ some b := by
    intro B l hl hne b off hN e
    rcases hat with h1 | h1
    · rw [h1]; exact hne b off hN e
    · rw [h1]
      obtain ⟨b', off', e', -, -, g3, -⟩ := hl.at_ hN
      rw [e] at e'
      cases e'
      intro e2
      injection e2 with e2
      omega
  refine ⟨by rw [List.map_append]; exact hown, fun r hr => ?_, fun r hr hm b off e => ?_⟩
  · rcases List.mem_append.1 hr with hr | hr
    · exact keepS _ _ (h.rows r hr) fun b off hm e => h.off r hr hm b off e
    · obtain rfl := List.mem_singleton.1 hr
      exact keepS _ _ hs ho
  · rcases List.mem_append.1 hr with hr | hr
    · exact hoff _ _ (h.rows r hr) (fun b off hm e => h.off r hr hm b off e) b off hm e
    · obtain rfl := List.mem_singleton.1 hr
      exact hoff _ _ hs ho b off hm e
/-- Row k. -/
theorem GrowI.get (h : GrowI w base N A n c R) {k : Nat} (hk : k < n) : ∃ b off Ah ch s, A = some ⟨b, off, none⟩ ∧ base ≤ b ∧ b < w.heap.size ∧ R[k]? = some ((Ah, ch), s) ∧ w.cell? ⟨b, off + k, none⟩ = some (.slice Ah N ch) ∧ SlI w base w.heap.size Ah N s ∧
    ∀ b off, 0 < N → Ah = some ⟨b, off, none⟩ → (Value.slice A n c).ownBlock ≠ some b := by
  have hl := h.len
  obtain ⟨b, off, e, g1, g2, g3, hc⟩ := (h.own.sl (flat_hiV N)).at_ (by omega)
  have hr : R[k]? = some R[k] := List.getElem?_eq_getElem (by omega)
  have hm : R[k] ∈ R := List.getElem_mem _
  have h0 := (hc k R[k].1 (by rw [List.getElem?_map, hr]; rfl) 0 _ rfl).1
  rw [Nat.mul_one, Nat.add_zero] at h0
  exact ⟨b, off, R[k].1.1, R[k].1.2, R[k].2, e, g1, g3, hr, h0, h.rows _ hm, fun b off hN e => h.off _ hm hN b off e⟩
/-- The rows as a slice that is read. -/
theorem GrowI.rowsI (h : GrowI w base N A n c R) (hN : N ≤ 1048576) : RowsI 1048576 w base w.heap.size A n (R.map fun r => ((r.1.1, N, r.1.2), r.2)) := by
  refine ⟨?_, fun r hr => ?_⟩
  · have := h.own.sl (flat_hiV N)
    refine ⟨by have := h.len; simp [this], fun hn => ?_⟩
    obtain ⟨b, off, e, g1, g2, g3, hc⟩ := this.at_ hn
    refine ⟨b, off, e, g1, g2, g3, fun k x hx j u hu => ?_⟩
    rw [List.getElem?_map, List.getElem?_map] at hx
    obtain ⟨r, hr, rfl⟩ := Option.map_eq_some_iff.1 hx
    obtain ⟨r2, hr2, rfl⟩ := Option.map_eq_some_iff.1 hr
    exact hc k r2.1 (by rw [List.getElem?_map, hr2]; rfl) j u hu
  · obtain ⟨r2, hr2, rfl⟩ := List.mem_map.1 hr
    exact ⟨h.rows r2 hr2, hN⟩
end

end Go.Proofs.YtcdhgabcajehnaaGreatDoor
