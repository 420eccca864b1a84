/-
  Labels: the program's reading and the reference's are the same function of a text. Conditions: none.
-/
import Derived.Test.YtiaclddgllkgpaaGreatDoorNumMath
import Derived.Lib.Split
import Derived.Lib.Join
namespace Go.Proofs.YtiaclddgllkgpaaGreatDoor
set_option linter.unusedVariables false

/-! ## Cutting at a byte -/
def splitC (c : UInt8) : List UInt8 → List (List UInt8)
  | [] => [[]]
  | x :: l => if x = c then [] :: splitC c l else (x :: (splitC c l).headD []) :: (splitC c l).tail
theorem splitC_ne (c : UInt8) (l : List UInt8) : splitC c l ≠ [] := by
  cases l with
  | nil => simp [splitC]
  | cons x l => unfold splitC; split <;> simp
theorem splitC_ceq (c : UInt8) (l : List UInt8) : splitC c (c :: l) = [] :: splitC c l := by rw [splitC, if_pos rfl]
theorem splitC_cne {c x : UInt8} (h : x ≠ c) (l : List UInt8) : splitC c (x :: l) = (x :: (splitC c l).headD []) :: (splitC c l).tail := by rw [splitC, if_neg h]
theorem splitC_miss {c : UInt8} : ∀ {l : List UInt8}, c ∉ l → splitC c l = [l]
  | [], _ => rfl
  | x :: l, h => by
    rw [List.mem_cons, not_or] at h
    rw [splitC_cne (fun e => h.1 e.symm), splitC_miss h.2]
    rfl
theorem splitC_hit {c : UInt8} : ∀ {a b : List UInt8}, c ∉ a → splitC c (a ++ c :: b) = a :: splitC c b
  | [], b, _ => by rw [List.nil_append, splitC_ceq]
  | x :: a, b, h => by
    rw [List.mem_cons, not_or] at h
    rw [List.cons_append, splitC_cne (fun e => h.1 e.symm), splitC_hit h.2]
    rfl
theorem index_one (c : UInt8) (l : List UInt8) (h : c ∉ l) : Lib.index l [c] = -1 := by
  induction l with
  | nil => rfl
  | cons x l ih =>
    rw [List.mem_cons, not_or] at h
    unfold Lib.index
    rw [if_neg (by simp [List.isPrefixOf]; exact h.1), ih h.2]
    rfl
theorem index_one_hit (c : UInt8) (a b : List UInt8) (h : c ∉ a) : Lib.index (a ++ c :: b) [c] = a.length := by
  induction a with
  | nil => unfold Lib.index; simp [List.isPrefixOf]
  | cons x a ih =>
    rw [List.mem_cons, not_or] at h
    rw [List.cons_append]
    unfold Lib.index
    rw [if_neg (by simp [List.isPrefixOf]; exact h.1), ih h.2, if_neg (by simp <;> omega)]
    simp
theorem split_at (c : UInt8) (l : List UInt8) (h : c ∈ l) : ∃ a b, l = a ++ c :: b ∧ c ∉ a := by
  induction l with
  | nil => cases h
  | cons x l ih =>
    by_cases hx : x = c
    · subst hx
      exact ⟨[], l, rfl, by simp⟩
    · obtain ⟨a, b, rfl, h2⟩ := ih (by
        rcases List.mem_cons.1 h with h | h
        · exact absurd h.symm hx
        · exact h)
      exact ⟨x :: a, b, rfl, by simp; exact ⟨fun e => hx e.symm, h2⟩⟩
theorem count_at (c : UInt8) {a b : List UInt8} (h : c ∉ a) : (a ++ c :: b).count c = b.count c + 1 := by
  rw [List.count_append, List.count_cons_self, List.count_eq_zero_of_not_mem h]
  omega
theorem countFrom_one (c : UInt8) : ∀ (fuel : Nat) (l : List UInt8), l.length < fuel → Lib.countFrom [c] fuel l = l.count c
  | 0, _, h => by omega
  | fuel + 1, l, h => by
    unfold Lib.countFrom
    by_cases hm : c ∈ l
    · obtain ⟨a, b, rfl, ha⟩ := split_at c l hm
      rw [index_one_hit c a b ha, if_neg (by simp <;> omega), count_at c ha]
      have e1 : ((a.length : Int)).toNat + [c].length = (a ++ [c]).length := by simp
      have e2 : (a ++ c :: b).drop (((a.length : Int)).toNat + [c].length) = b := by
        rw [e1, show a ++ c :: b = (a ++ [c]) ++ b by simp, List.drop_left]
      rw [e2, countFrom_one c fuel b (by simp at h; omega)]
      omega
    · rw [index_one c l hm, if_pos (by decide), List.count_eq_zero_of_not_mem hm]
theorem splitK_one (c : UInt8) : ∀ (k : Nat) (l : List UInt8), l.count c ≤ k → Lib.splitK [c] 0 k l = splitC c l
  | 0, l, h => by
    rw [splitC_miss (List.count_eq_zero.1 (by omega))]
    rfl
  | k + 1, l, h => by
    unfold Lib.splitK
    by_cases hm : c ∈ l
    · obtain ⟨a, b, rfl, ha⟩ := split_at c l hm
      rw [index_one_hit c a b ha, if_neg (by simp <;> omega), splitC_hit ha]
      rw [count_at c ha] at h
      have e1 : ((a.length : Int)).toNat + [c].length = (a ++ [c]).length := by simp
      have e2 : (a ++ c :: b).drop (((a.length : Int)).toNat + [c].length) = b := by
        rw [e1, show a ++ c :: b = (a ++ [c]) ++ b by simp, List.drop_left]
      rw [e2, splitK_one c k b (by omega)]
      congr 1
      simp
    · rw [index_one c l hm, if_pos (by decide), splitC_miss hm]
theorem split_one (c : UInt8) (l : List UInt8) : Lib.split l [c] = splitC c l := by
  unfold Lib.split Lib.count
  rw [countFrom_one c _ l (by omega)]
  exact splitK_one c _ l (Nat.le_refl _)
theorem join_cons2 (x y : List UInt8) (r : List (List UInt8)) (sep : List UInt8) : Lib.join (x :: y :: r) sep = x ++ sep ++ Lib.join (y :: r) sep := by
  rw [Lib.join_cons, Lib.join_cons]
  simp [Lib.joinTail]
theorem join_splitC (c : UInt8) : ∀ (l : List UInt8), Lib.join (splitC c l) [c] = l
  | [] => rfl
  | x :: l => by
    have ih := join_splitC c l
    unfold splitC
    obtain ⟨p, ps, hp⟩ := List.exists_cons_of_ne_nil (splitC_ne c l)
    rw [hp] at ih ⊢
    by_cases hx : x = c
    · subst hx
      rw [if_pos rfl, join_cons2, ih]
      simp
    · rw [if_neg hx]
      simp only [List.headD_cons, List.tail_cons]
      rw [Lib.join_cons] at ih ⊢
      rw [List.cons_append, ih]

/-! ## Numbers of a list of texts -/
def numsOf (f : List UInt8 → Option Int) : List (List UInt8) → Option (List Int)
  | [] => some []
  | x :: l => match f x, numsOf f l with
    | some n, some ns => some (n :: ns)
    | _, _ => none
def isVal (n : Int) : Bool := decide (0 ≤ n) && decide (n ≤ 63)
def numV (l : List UInt8) : Option Int := (numS l).filter isVal
theorem numsOf_len {f : List UInt8 → Option Int} : ∀ {l : List (List UInt8)} {ns : List Int}, numsOf f l = some ns → ns.length = l.length
  | [], ns, h => by cases h; rfl
  | x :: l, ns, h => by
    unfold numsOf at h
    split at h
    · rename_i n ms hn hm
      cases h
      simp [numsOf_len hm]
    · cases h
theorem numsOf_val : ∀ (l : List (List UInt8)), numsOf numV l = (numsOf numS l).filter (fun ns => ns.all isVal)
  | [] => rfl
  | x :: l => by
    unfold numsOf
    rw [numsOf_val l]
    unfold numV
    cases hx : numS x with
    | none => simp
    | some n =>
      cases hl : numsOf numS l with
      | none => cases hv : isVal n <;> simp [Option.filter, hv]
      | some ns => cases hv : isVal n <;> cases hw : ns.all isVal <;> simp [Option.filter, hv, hw]
theorem numS_itoa {l : List UInt8} {n : Int} (h : numS l = some n) : Lib.itoa n = l := by
  rw [← numP_eq] at h
  unfold numP at h
  split at h
  · cases h
  · split at h
    · split at h
      · rename_i hh
        cases h
        exact hh
      · cases h
    · cases h
theorem numsOf_itoa : ∀ {l : List (List UInt8)} {ns : List Int}, numsOf numS l = some ns → ns.map Lib.itoa = l
  | [], ns, h => by cases h; rfl
  | x :: l, ns, h => by
    unfold numsOf at h
    split at h
    · rename_i n ms hn hm
      cases h
      rw [List.map_cons, numS_itoa hn, numsOf_itoa hm]
    · cases h

/-! ## Labels -/
section
variable (nameL : List UInt8 → Bool)
def tauL : List UInt8 := [116, 97, 117]
def labName (l : List UInt8) : List UInt8 := (Lib.cut l [40]).1
/-- The reference's values of a label. -/
def valsS (l : List UInt8) : Option (List Int) :=
  if 40 ∉ l then (if nameL l then some [] else none)
  else if (nameL (labName l) && !(labName l == tauL)) && (l.getLast? == some 41) then
    (numsOf numV (splitC 44 (Lib.cut l [40]).2.1.dropLast)).filter (fun ns => decide (ns.length ≤ 2))
  else none
/-- The program's label with a name and values. -/
def labOf (name : List UInt8) (ns : List Int) : Option (List UInt8) :=
  if name = tauL then (if ns = [] then some tauL else none)
  else if !(nameL name) || decide (2 < ns.length) || !(ns.all isVal) then none
  else if ns = [] then some name
  else some (name ++ [40] ++ Lib.join (ns.map Lib.itoa) [44] ++ [41])
/-- The program's values of a label. -/
def valsP (l : List UInt8) : Option (List Int) :=
  match (if (Lib.cut l [40]).2.2 then numsOf numP (splitC 44 (Lib.trimSuffix (Lib.cut l [40]).2.1 [41])) else some []) with
  | none => none
  | some ns => if labOf nameL (Lib.cut l [40]).1 ns = some l then some ns else none
end
theorem cut_miss {l : List UInt8} (h : (40 : UInt8) ∉ l) : Lib.cut l [40] = (l, [], false) := by
  unfold Lib.cut
  rw [index_one 40 l h, if_neg (by decide)]
theorem cut_hit {a b : List UInt8} (h : (40 : UInt8) ∉ a) : Lib.cut (a ++ 40 :: b) [40] = (a, b, true) := by
  unfold Lib.cut
  rw [index_one_hit 40 a b h, if_pos (by omega)]
  congr 1
  · simp
  · congr 1
    have e1 : ((a.length : Int)).toNat + [(40 : UInt8)].length = (a ++ [40]).length := by simp
    rw [e1, show a ++ 40 :: b = (a ++ [40]) ++ b by simp, List.drop_left]
theorem numP_fun : numP = numS := funext numP_eq
theorem trimSuffix_hit (r : List UInt8) (c : UInt8) : Lib.trimSuffix (r ++ [c]) [c] = r := by
  unfold Lib.trimSuffix Lib.hasSuffix
  rw [if_pos (by simp)]
  simp
theorem trimSuffix_miss {r : List UInt8} {c : UInt8} (h : r.getLast? ≠ some c) : Lib.trimSuffix r [c] = r := by
  unfold Lib.trimSuffix Lib.hasSuffix
  rw [if_neg]
  intro hs
  have hs2 : [c] <:+ r := List.isSuffixOf_iff_suffix.1 hs
  obtain ⟨t, rfl⟩ := hs2
  simp at h

theorem valsP_eq (nameL : List UInt8 → Bool) (ht : nameL tauL = true) (l : List UInt8) : valsP nameL l = valsS nameL l := by
  by_cases hm : (40 : UInt8) ∈ l
  · obtain ⟨name, rest, rfl, hn⟩ := split_at 40 l hm
    have hlast : (name ++ 40 :: rest).getLast? = (40 :: rest).getLast? := by
      rw [List.getLast?_append]
      cases h : (40 :: rest).getLast? with
      | none => exact absurd (List.getLast?_eq_none_iff.1 h) (by simp)
      | some x => rfl
    have hP : valsP nameL (name ++ 40 :: rest) = (match numsOf numS (splitC 44 (Lib.trimSuffix rest [41])) with
        | none => none
        | some ns => if labOf nameL name ns = some (name ++ 40 :: rest) then some ns else none) := by
      unfold valsP
      rw [cut_hit hn]
      simp only [if_true, numP_fun]
    have hS : valsS nameL (name ++ 40 :: rest) = (if (nameL name && !(name == tauL)) && ((40 :: rest).getLast? == some 41) then
        (numsOf numV (splitC 44 rest.dropLast)).filter (fun ns => decide (ns.length ≤ 2)) else none) := by
      unfold valsS labName
      rw [if_neg (fun h => h hm), cut_hit hn, hlast]
    rw [hP, hS]
    by_cases hr : rest.getLast? = some 41
    · obtain ⟨r, rfl⟩ : ∃ r, rest = r ++ [41] := by
        have hne : rest ≠ [] := by rintro rfl; cases hr
        refine ⟨rest.dropLast, ?_⟩
        have h1 := List.dropLast_concat_getLast hne
        rw [List.getLast?_eq_some_getLast hne] at hr
        have h2 := Option.some.inj hr
        rw [h2] at h1
        exact h1.symm
      have hd : (r ++ [(41 : UInt8)]).dropLast = r := by simp
      rw [trimSuffix_hit, hd]
      have hl41 : ((40 :: (r ++ [41])).getLast? == some 41) = true := by
        rw [← List.cons_append, List.getLast?_append]
        rfl
      rw [hl41, Bool.and_true, numsOf_val]
      cases hx : numsOf numS (splitC 44 r) with
      | none => simp [Option.filter]
      | some ns =>
        have hlen := numsOf_len hx
        have hne : ns ≠ [] := by
          rintro rfl
          exact splitC_ne 44 r (List.eq_nil_of_length_eq_zero hlen.symm)
        have hj : Lib.join (ns.map Lib.itoa) [44] = r := by rw [numsOf_itoa hx, join_splitC]
        simp only
        unfold labOf
        by_cases htau : name = tauL
        · rw [if_pos htau, if_neg hne, if_neg (by simp), if_neg (by simp [htau])]
        · rw [if_neg htau, if_neg hne, hj]
          have htb : (name == tauL) = false := by rw [beq_eq_false_iff_ne]; exact htau
          rw [htb]
          by_cases h2 : ns.length ≤ 2
          · have h3 : ¬ 2 < ns.length := by omega
            cases hnm : nameL name <;> cases ha : ns.all isVal <;> simp [Option.filter, ha, h2, h3]
          · have h3 : 2 < ns.length := by omega
            cases hnm : nameL name <;> cases ha : ns.all isVal <;> simp [Option.filter, ha, h2, h3]
    · have hno : ¬ (((nameL name && !(name == tauL)) && ((40 :: rest).getLast? == some 41)) = true) := by
        intro hc
        rw [Bool.and_eq_true] at hc
        have hc2 := hc.2
        cases rest with
        | nil => simp at hc2
        | cons x r =>
          rw [List.getLast?_cons_cons] at hc2
          exact hr (by simpa using hc2)
      rw [trimSuffix_miss hr, if_neg hno]
      cases hx : numsOf numS (splitC 44 rest) with
      | none => rfl
      | some ns =>
        have hlen := numsOf_len hx
        have hne : ns ≠ [] := by
          rintro rfl
          exact splitC_ne 44 rest (List.eq_nil_of_length_eq_zero hlen.symm)
        have hj : Lib.join (ns.map Lib.itoa) [44] = rest := by rw [numsOf_itoa hx, join_splitC]
        simp only
        rw [if_neg]
        intro hc
        unfold labOf at hc
        rw [hj] at hc
        simp only [if_neg hne] at hc
        split at hc
        · cases hc
        · split at hc
          · cases hc
          · have h1 := Option.some.inj hc
            have h2 := congrArg List.length h1
            simp at h2
  · have hP : valsP nameL l = (if labOf nameL l [] = some l then some [] else none) := by
      unfold valsP
      rw [cut_miss hm]
      simp only [Bool.false_eq_true, if_false]
    have hS : valsS nameL l = (if nameL l then some [] else none) := by
      unfold valsS
      rw [if_pos hm]
    rw [hP, hS]
    unfold labOf
    by_cases htau : l = tauL
    · subst htau
      simp [ht]
    · rw [if_neg htau]
      cases hnm : nameL l <;> simp

end Go.Proofs.YtiaclddgllkgpaaGreatDoor
