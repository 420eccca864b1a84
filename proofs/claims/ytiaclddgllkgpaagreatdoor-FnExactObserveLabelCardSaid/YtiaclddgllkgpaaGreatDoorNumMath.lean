/-
  Numbers in decimal: the program's reading and the reference's are the same function. Conditions: sizes.
-/
import Derived.Lib.ParseIntB
import Derived.Lib.ItoaNum
import Derived.Lib.Strings
namespace Go.Proofs.YtiaclddgllkgpaaGreatDoor
set_option linter.unusedVariables false

def isDig (c : UInt8) : Bool := decide (48 ≤ c.toNat) && decide (c.toNat ≤ 57)
/-- What digits spell. -/
def valN (acc : Nat) (l : List UInt8) : Nat := l.foldl (fun n c => n * 10 + (c.toNat - 48)) acc
theorem valN_nil (acc : Nat) : valN acc [] = acc := rfl
theorem valN_cons (acc : Nat) (c : UInt8) (l : List UInt8) : valN acc (c :: l) = valN (acc * 10 + (c.toNat - 48)) l := by
  unfold valN
  rw [List.foldl_cons]
theorem valN_snoc (acc : Nat) (c : UInt8) (l : List UInt8) : valN acc (l ++ [c]) = valN acc l * 10 + (c.toNat - 48) := by
  unfold valN
  rw [List.foldl_append]
  rfl
theorem valN_lt : ∀ (l : List UInt8) (acc k : Nat), l.all isDig = true → acc < 10 ^ k → valN acc l < 10 ^ (k + l.length) := by
  intro l
  induction l with
  | nil => intro acc k _ h; rw [valN_nil, List.length_nil, Nat.add_zero]; exact h
  | cons c l ih =>
    intro acc k hd h
    rw [List.all_cons, Bool.and_eq_true] at hd
    have hc : 48 ≤ c.toNat ∧ c.toNat ≤ 57 := by simpa [isDig] using hd.1
    have hp : (10 : Nat) ^ (k + 1) = 10 ^ k * 10 := Nat.pow_succ ..
    have := ih (acc * 10 + (c.toNat - 48)) (k + 1) hd.2 (by rw [hp]; omega)
    rw [valN_cons, List.length_cons, show k + (l.length + 1) = (k + 1) + l.length by omega]
    exact this

theorem parseUintM_short : ∀ (l : List UInt8) (acc k : Nat), k + l.length ≤ 18 → acc < 10 ^ k →
    Lib.parseUintM (2 ^ 64 - 1) acc l = if l.all isDig then .ok (valN acc l) else .«syntax» := by
  intro l
  induction l with
  | nil => exact fun acc k _ _ => rfl
  | cons c l ih =>
    intro acc k hk h
    rw [List.length_cons] at hk
    have hq : (10 : Nat) ^ (k + 1) = 10 ^ k * 10 := Nat.pow_succ ..
    have hp : acc * 10 + 9 < 10 ^ (k + 1) := by rw [hq]; omega
    have hp2 : (10 : Nat) ^ (k + 1) ≤ 10 ^ 18 := Nat.pow_le_pow_right (by decide) (by omega)
    have h18 : (10 : Nat) ^ 18 = 1000000000000000000 := by decide
    have h64 : (2 : Nat) ^ 64 - 1 = 18446744073709551615 := by decide
    rw [h18] at hp2
    rw [h64] at ih ⊢
    unfold Lib.parseUintM
    by_cases hc : 48 ≤ c.toNat ∧ c.toNat ≤ 57
    · have hd : isDig c = true := by simpa [isDig] using hc
      have hn := ih (acc * 10 + (c.toNat - 48)) (k + 1) (by omega) (by have := hc.1; have := hc.2; omega)
      rw [if_pos hc, if_neg (by omega), if_neg (by omega), hn, List.all_cons, hd, Bool.true_and, valN_cons]
    · have hd : isDig c = false := by
        rw [Bool.eq_false_iff]
        intro h1
        exact hc (by simpa [isDig] using h1)
      rw [if_neg hc, List.all_cons, hd]
      rfl

/-- Digits without a needless zero ahead. -/
def canon (l : List UInt8) : Bool := !l.isEmpty && l.all isDig && (decide (l.length = 1) || !(l.head? == some 48))

theorem ofNat_dig {c : UInt8} (h : isDig c = true) : UInt8.ofNat (48 + (c.toNat - 48)) = c := by
  have hc : 48 ≤ c.toNat ∧ c.toNat ≤ 57 := by simpa [isDig] using h
  rw [show 48 + (c.toNat - 48) = c.toNat by omega]
  simp
theorem decDigits_small {u : Nat} (h : u < 10) : Lib.decDigits u = [UInt8.ofNat (48 + u)] := by rw [Lib.decDigits, dif_pos h]
theorem decDigits_big {u : Nat} (h : ¬ u < 10) : Lib.decDigits u = Lib.decDigits (u / 10) ++ [UInt8.ofNat (48 + u % 10)] := by rw [Lib.decDigits, dif_neg h]
theorem decDigits_ne (u : Nat) : Lib.decDigits u ≠ [] := by
  by_cases h : u < 10
  · rw [decDigits_small h]; simp
  · rw [decDigits_big h]; simp
theorem toNat_dig (k : Nat) (h : k < 10) : (UInt8.ofNat (48 + k)).toNat = 48 + k := by
  simp
  omega
theorem decDigits_dig (u : Nat) : (Lib.decDigits u).all isDig = true := by
  induction u using Nat.strongRecOn with
  | _ u ih =>
    by_cases h : u < 10
    · rw [decDigits_small h]
      simp only [List.all_cons, List.all_nil, Bool.and_true, isDig, toNat_dig u h]
      simp
      omega
    · rw [decDigits_big h, List.all_append, ih (u / 10) (by omega)]
      simp only [List.all_cons, List.all_nil, Bool.and_true, isDig, toNat_dig (u % 10) (by omega)]
      simp
      omega
theorem decDigits_head {u : Nat} (h0 : 0 < u) : (Lib.decDigits u).head? ≠ some 48 := by
  induction u using Nat.strongRecOn with
  | _ u ih =>
    by_cases h : u < 10
    · rw [decDigits_small h]
      intro hc
      have := congrArg UInt8.toNat (Option.some.inj hc)
      rw [toNat_dig u h] at this
      have h48 : (48 : UInt8).toNat = 48 := rfl
      omega
    · rw [decDigits_big h, List.head?_append]
      intro hc
      have hi := ih (u / 10) (by omega) (by omega)
      cases hh : (Lib.decDigits (u / 10)).head? with
      | none => exact decDigits_ne _ (List.head?_eq_none_iff.1 hh)
      | some x =>
        rw [hh] at hc hi
        exact hi hc
theorem decDigits_canon (u : Nat) : canon (Lib.decDigits u) = true := by
  unfold canon
  rw [decDigits_dig u]
  by_cases h : 0 < u
  · have h1 := decDigits_head h
    have h2 := decDigits_ne u
    simp [h1, h2]
  · have : u = 0 := by omega
    subst this
    rw [decDigits_small (by omega)]
    simp
theorem valN_decDigits (u : Nat) : valN 0 (Lib.decDigits u) = u := by
  induction u using Nat.strongRecOn with
  | _ u ih =>
    by_cases h : u < 10
    · rw [decDigits_small h, valN_cons, valN_nil, toNat_dig u h]
      omega
    · rw [decDigits_big h, valN_snoc, ih (u / 10) (by omega), toNat_dig (u % 10) (by omega)]
      omega
theorem valN_pos {l : List UInt8} : ∀ {acc : Nat}, 0 < acc → 0 < valN acc l := by
  induction l with
  | nil => intro acc h; exact h
  | cons c l ih => intro acc h; rw [valN_cons]; exact ih (by omega)

theorem decDigits_valN (l : List UInt8) (h : canon l = true) : Lib.decDigits (valN 0 l) = l := by
  have key : ∀ (n : Nat) (l : List UInt8), l.length = n → canon l = true → Lib.decDigits (valN 0 l) = l := by
    intro n
    induction n with
    | zero =>
      intro l hl hc
      have : l = [] := List.eq_nil_of_length_eq_zero hl
      subst this
      simp [canon] at hc
    | succ n ih =>
      intro l hl hc
      have hne : l ≠ [] := by intro hh; subst hh; simp at hl
      obtain ⟨l', c, rfl⟩ : ∃ l' c, l = l' ++ [c] := ⟨l.dropLast, l.getLast hne, (List.dropLast_concat_getLast hne).symm⟩
      simp only [canon, Bool.and_eq_true, List.all_append] at hc
      obtain ⟨⟨_, hd1, hd2⟩, hz⟩ := hc
      have hdc : isDig c = true := by simpa using hd2
      have hcb : 48 ≤ c.toNat ∧ c.toNat ≤ 57 := by simpa [isDig] using hdc
      rw [valN_snoc]
      by_cases hl' : l' = []
      · subst hl'
        rw [valN_nil, decDigits_small (by omega), show 48 + (0 * 10 + (c.toNat - 48)) = 48 + (c.toNat - 48) by omega, ofNat_dig hdc]
        rfl
      · have hlen : l'.length = n := by simpa using hl
        obtain ⟨x, r, rfl⟩ := List.exists_cons_of_ne_nil hl'
        have hx : x ≠ 48 := by
          intro hx
          subst hx
          simp at hz
        have hc' : canon (x :: r) = true := by
          unfold canon
          rw [hd1]
          simp [hx]
        have hi := ih (x :: r) hlen hc'
        have hdx : isDig x = true := by rw [List.all_cons, Bool.and_eq_true] at hd1; exact hd1.1
        have hxb : 48 ≤ x.toNat ∧ x.toNat ≤ 57 := by simpa [isDig] using hdx
        have hx0 : x.toNat ≠ 48 := fun h => hx (UInt8.toNat_inj.1 h)
        have hpos : 0 < valN 0 (x :: r) := by rw [valN_cons]; exact valN_pos (by omega)
        rw [decDigits_big (by omega), show (valN 0 (x :: r) * 10 + (c.toNat - 48)) / 10 = valN 0 (x :: r) by omega, hi, show (valN 0 (x :: r) * 10 + (c.toNat - 48)) % 10 = c.toNat - 48 by omega, ofNat_dig hdc]
  exact key l.length l rfl h
theorem decDigits_iff (l : List UInt8) (h : l.all isDig = true) : (Lib.decDigits (valN 0 l) = l) ↔ canon l = true :=
  ⟨fun e => e ▸ decDigits_canon _, decDigits_valN l⟩

/-- The reference's reading. -/
def numNeg (r : List UInt8) : Option Int := if canon r && decide (r.length ≤ 18) && !(r.head? == some 48) then some (-(valN 0 r : Int)) else none
def numPos (l : List UInt8) : Option Int := if canon l && decide (l.length ≤ 18) then some (valN 0 l : Int) else none
def numS (l : List UInt8) : Option Int := if l.head? = some 45 then numNeg l.tail else numPos l
/-- The program's reading. -/
def numP (l : List UInt8) : Option Int :=
  if 18 < (Lib.trimPrefix l [45]).length then none
  else match Lib.parseIntB 64 l with
    | .ok n => if Lib.itoa n = l then some n else none
    | _ => none

theorem parseUintB_short (l : List UInt8) (h : l.length ≤ 18) : Lib.parseUintB 64 l = if l ≠ [] ∧ l.all isDig = true then .ok (valN 0 l) else .«syntax» := by
  unfold Lib.parseUintB
  by_cases hl : l = []
  · subst hl; rfl
  · rw [if_neg hl, parseUintM_short l 0 0 (by omega) (by decide)]
    by_cases hd : l.all isDig = true
    · rw [if_pos hd, if_pos ⟨hl, hd⟩]
    · rw [if_neg hd, if_neg (fun h => hd h.2)]

theorem valN_18 {l : List UInt8} (h : l.length ≤ 18) (hd : l.all isDig = true) : valN 0 l < 10 ^ 18 :=
  Nat.lt_of_lt_of_le (valN_lt l 0 0 hd (by decide)) (Nat.pow_le_pow_right (by decide) (by omega))

theorem numP_eq (l : List UInt8) : numP l = numS l := by
  unfold numP numS
  cases l with
  | nil => rfl
  | cons c r =>
    have hpre : Lib.trimPrefix (c :: r) [45] = if c = 45 then r else c :: r := by
      unfold Lib.trimPrefix Lib.hasPrefix
      by_cases hc : c = 45
      · subst hc; simp
      · rw [if_neg hc, if_neg]
        simp
        exact fun h => hc h.symm
    rw [hpre]
    by_cases hc : c = 45
    · subst hc
      rw [if_pos rfl, if_pos (show (45 :: r).head? = some 45 from rfl), show (45 :: r).tail = r from rfl]
      unfold numNeg
      by_cases hl : 18 < r.length
      · rw [if_pos hl, if_neg (by simp; intro _ h; omega)]
      · rw [if_neg hl]
        unfold Lib.parseIntB
        simp only [show ((45 : UInt8).toNat = 43 ∨ (45 : UInt8).toNat = 45) from Or.inr rfl, if_true, parseUintB_short r (by omega)]
        by_cases hd : r ≠ [] ∧ r.all isDig = true
        · simp only [if_pos hd, show (45 : UInt8).toNat = 45 from rfl, not_true, false_and, if_false, true_and, if_true]
          have hv := valN_18 (show r.length ≤ 18 by omega) hd.2
          rw [if_neg (by omega)]
          simp only
          by_cases h0 : valN 0 r = 0
          · rw [h0, if_neg (by rw [show Lib.itoa (-((0 : Nat) : Int)) = [48] from by unfold Lib.itoa; simp [decDigits_small]]; simp)]
            rw [if_neg]
            intro hh
            simp only [Bool.and_eq_true, decide_eq_true_eq] at hh
            have := decDigits_valN r hh.1.1
            rw [h0, decDigits_small (by omega)] at this
            rw [← this] at hh
            simp at hh
          · have hneg : -((valN 0 r : Nat) : Int) < 0 := by omega
            have e1 : Lib.itoa (-((valN 0 r : Nat) : Int)) = 45 :: Lib.decDigits (valN 0 r) := by
              unfold Lib.itoa
              rw [if_pos hneg]
              simp
            rw [e1]
            have e2 : (45 :: Lib.decDigits (valN 0 r) = 45 :: r) ↔ canon r = true := by
              rw [List.cons.injEq]
              simp only [true_and]
              exact decDigits_iff r hd.2
            by_cases hcan : canon r = true
            · rw [if_pos (e2.2 hcan), if_pos]
              rw [hcan]
              simp only [Bool.true_and, Bool.and_eq_true, decide_eq_true_eq]
              refine ⟨by omega, ?_⟩
              have h4 := decDigits_head (show 0 < valN 0 r by omega)
              rw [decDigits_valN r hcan] at h4
              simpa using h4
            · rw [if_neg (fun h => hcan (e2.1 h)), if_neg (fun h => hcan (by simp only [Bool.and_eq_true] at h; exact h.1.1))]
        · simp only [if_neg hd]
          rw [if_neg]
          intro h
          simp only [Bool.and_eq_true, canon] at h
          refine hd ⟨?_, h.1.1.1.2⟩
          rintro rfl
          simp at h
    · have hh : ¬ (c :: r).head? = some 45 := by simpa using hc
      have hcn : ¬ c.toNat = 45 := fun h => hc (UInt8.toNat_inj.1 h)
      rw [if_neg hc, if_neg hh]
      unfold numPos
      by_cases hl : 18 < (c :: r).length
      · rw [if_pos hl, if_neg (by simp only [Bool.and_eq_true, decide_eq_true_eq]; omega)]
      · rw [if_neg hl]
        unfold Lib.parseIntB
        by_cases hp : c.toNat = 43
        · -- a plus sign: never its own numeral
          have hnd : canon (c :: r) = false := by
            rw [Bool.eq_false_iff]
            intro h
            simp only [canon, Bool.and_eq_true, List.all_cons] at h
            have : 48 ≤ c.toNat ∧ c.toNat ≤ 57 := by simpa [isDig] using h.1.2.1
            omega
          rw [hnd]
          simp only [Bool.false_and, Bool.false_eq_true, if_false]
          simp only [hp, true_or, if_true]
          have hl2 : r.length ≤ 18 := by simp at hl; omega
          rw [parseUintB_short r hl2]
          by_cases hd : r ≠ [] ∧ r.all isDig = true
          · simp only [if_pos hd]
            have hv := valN_18 hl2 hd.2
            rw [if_neg (by omega), if_neg (by omega)]
            simp only [show ¬ (43 : Nat) = 45 by omega, if_false]
            rw [if_neg]
            intro h
            have h2 := decDigits_dig (valN 0 r)
            have e1 : Lib.itoa ((valN 0 r : Nat) : Int) = Lib.decDigits (valN 0 r) := by
              unfold Lib.itoa
              rw [if_neg (by omega)]
              simp
            rw [← e1, h, List.all_cons, Bool.and_eq_true] at h2
            have : 48 ≤ c.toNat ∧ c.toNat ≤ 57 := by simpa [isDig] using h2.1
            omega
          · simp only [if_neg hd]
        · have hs : ¬ (c.toNat = 43 ∨ c.toNat = 45) := by omega
          simp only [if_neg hs, parseUintB_short (c :: r) (by omega)]
          by_cases hd : (c :: r) ≠ [] ∧ (c :: r).all isDig = true
          · simp only [if_pos hd]
            have hv := valN_18 (show (c :: r).length ≤ 18 by omega) hd.2
            rw [if_neg (by omega), if_neg (by omega)]
            simp only [if_neg hcn]
            have e1 : Lib.itoa ((valN 0 (c :: r) : Nat) : Int) = Lib.decDigits (valN 0 (c :: r)) := by
              unfold Lib.itoa
              rw [if_neg (by omega)]
              simp
            rw [e1]
            by_cases hcan : canon (c :: r) = true
            · rw [if_pos ((decDigits_iff _ hd.2).2 hcan), if_pos (by rw [hcan]; simp at hl ⊢; omega)]
            · rw [if_neg (fun h => hcan ((decDigits_iff _ hd.2).1 h)), if_neg (fun h => hcan (by simp only [Bool.and_eq_true] at h; exact h.1))]
          · simp only [if_neg hd]
            rw [if_neg]
            intro h
            simp only [Bool.and_eq_true, canon] at h
            exact hd ⟨by simp, h.1.1.2⟩

end Go.Proofs.YtiaclddgllkgpaaGreatDoor
