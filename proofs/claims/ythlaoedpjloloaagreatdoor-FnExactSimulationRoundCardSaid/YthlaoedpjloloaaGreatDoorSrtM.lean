/-
  The order of labels, and what sorting and compacting them gives: plain. Conditions: none.
-/
import Derived.Test.YthlaoedpjloloaaGreatDoorShelf4
import Derived.Test.YthlaoedpjloloaaGreatDoorShelf5
import Derived.Test.YthlaoedpjloloaaGreatDoorBaseE
import Derived.Test.YthlaoedpjloloaaGreatDoorBaseF
namespace Go.Proofs.YthlaoedpjloloaaGreatDoor
open Go.Lib Go.Sort
set_option linter.unusedVariables false
set_option linter.unusedSimpArgs false

theorem cb_less : ∀ a b : List UInt8, Lib.compareBytes a b < 0 ↔ Op.bytesLess a b = true
  | [], [] => by simp [Lib.compareBytes, Op.bytesLess]
  | [], _ :: _ => by simp [Lib.compareBytes, Op.bytesLess]
  | _ :: _, [] => by simp [Lib.compareBytes, Op.bytesLess]
  | x :: a, y :: b => by
    have ih := cb_less a b
    unfold Lib.compareBytes Op.bytesLess
    by_cases h1 : x < y
    · simp [h1]
    · by_cases h2 : y < x
      · have h3 : ¬ x = y := fun e => by subst e; exact h1 h2
        simp [h1, h2, h3]
      · have h3 : x = y := by
          rw [UInt8.lt_iff_toNat_lt] at h1 h2
          exact UInt8.toNat_inj.1 (by omega)
        subst h3
        simp [h1, ih]
theorem bl_cases (a b : List UInt8) : Op.bytesLess a b = true ∨ a = b ∨ Op.bytesLess b a = true := by
  have := bytesLess_total a b
  by_cases h1 : Op.bytesLess a b = true
  · exact .inl h1
  · by_cases h2 : a = b
    · exact .inr (.inl h2)
    · have h3 : (a == b) = false := by simpa using h2
      rw [Bool.eq_false_iff.2 h1, h3] at this
      exact .inr (.inr this.symm)
def tauBL : List UInt8 := [116, 97, 117]
/-- The program's order of labels. -/
def cmpB (x y : List UInt8) : Int := if x = y then 0 else if x = tauBL then -1 else if y = tauBL then 1 else Lib.compareBytes x y
abbrev ltL := ltOf cmpB
theorem ltL_iff (x y : List UInt8) : ltL x y = true ↔ x ≠ y ∧ (x = tauBL ∨ (y ≠ tauBL ∧ Op.bytesLess x y = true)) := by
  unfold ltL ltOf cmpB
  rw [decide_eq_true_eq]
  by_cases h1 : x = y
  · simp [h1]
  · by_cases h2 : x = tauBL
    · rw [if_neg h1, if_pos h2]
      exact ⟨fun _ => ⟨h1, .inl h2⟩, fun _ => by omega⟩
    · by_cases h3 : y = tauBL
      · rw [if_neg h1, if_neg h2, if_pos h3]
        exact ⟨fun h => by omega, fun ⟨_, h⟩ => by rcases h with h | h; exact absurd h h2; exact absurd h3 h.1⟩
      · rw [if_neg h1, if_neg h2, if_neg h3, cb_less]
        exact ⟨fun h => ⟨h1, .inr ⟨h3, h⟩⟩, fun ⟨_, h⟩ => by rcases h with h | h; exact absurd h h2; exact h.2⟩
theorem ltL_total (x y : List UInt8) : ltL x y = true ∨ x = y ∨ ltL y x = true := by
  rw [ltL_iff, ltL_iff]
  by_cases h1 : x = y
  · exact .inr (.inl h1)
  · by_cases h2 : x = tauBL
    · exact .inl ⟨h1, .inl h2⟩
    · by_cases h3 : y = tauBL
      · exact .inr (.inr ⟨fun e => h1 e.symm, .inl h3⟩)
      · rcases bl_cases x y with h | h | h
        · exact .inl ⟨h1, .inr ⟨h3, h⟩⟩
        · exact absurd h h1
        · exact .inr (.inr ⟨fun e => h1 e.symm, .inr ⟨h2, h⟩⟩)
theorem ltL_irr (x : List UInt8) : ltL x x = false := Bool.eq_false_iff.2 fun h => ((ltL_iff x x).1 h).1 rfl
theorem ltL_trans {x y z : List UInt8} (h : ltL x y = true) (g : ltL y z = true) : ltL x z = true := by
  rw [ltL_iff] at h g ⊢
  obtain ⟨h1, h2⟩ := h
  obtain ⟨g1, g2⟩ := g
  rcases h2 with h2 | ⟨h2, h3⟩
  · refine ⟨fun e => ?_, .inl h2⟩
    rcases g2 with g2 | ⟨g2, g3⟩
    · exact h1 (h2.trans g2.symm)
    · exact g2 (e.symm.trans h2)
  · rcases g2 with g2 | ⟨g2, g3⟩
    · exact absurd g2 h2
    · refine ⟨fun e => ?_, .inr ⟨g2, bytesLess_trans h3 g3⟩⟩
      subst e
      have := bytesLess_trans h3 g3
      rw [bytesLess_irrefl] at this
      cases this
theorem ltL_asym {x y : List UInt8} (h : ltL x y = true) (g : ltL y x = true) : False := by
  have := ltL_trans h g
  rw [ltL_irr] at this
  cases this
theorem swoL : SWO ltL where
  irrefl := ltL_irr
  trans x y z h g := ltL_trans h g
  ntrans x y z h g := Bool.eq_false_iff.2 fun k => by
    rcases ltL_total y x with h1 | h1 | h1
    · have := ltL_trans h1 k
      rw [g] at this
      cases this
    · subst h1
      rw [g] at k
      cases k
    · rw [h] at h1
      cases h1
theorem apartL (x y : List UInt8) (h : ltL x y = false) (g : ltL y x = false) : x = y := by
  rcases ltL_total x y with h1 | h1 | h1
  · rw [h] at h1; cases h1
  · exact h1
  · rw [g] at h1; cases h1

/-- Two rising lists with the same members are the same. -/
theorem rise_ext {α : Type} {r : α → α → Prop} (irr : ∀ a, ¬ r a a) (asy : ∀ a b, r a b → r b a → False) : ∀ {l m : List α}, l.Pairwise r → m.Pairwise r → (∀ x, x ∈ l ↔ x ∈ m) → l = m
  | [], [], _, _, _ => rfl
  | [], b :: m, _, _, h => by have := (h b).2 (List.mem_cons_self ..); cases this
  | a :: l, [], _, _, h => by have := (h a).1 (List.mem_cons_self ..); cases this
  | a :: l, b :: m, hl, hm, h => by
    obtain ⟨l1, l2⟩ := List.pairwise_cons.1 hl
    obtain ⟨m1, m2⟩ := List.pairwise_cons.1 hm
    have hab : a = b := by
      rcases List.mem_cons.1 ((h a).1 (List.mem_cons_self ..)) with e | e
      · exact e
      · rcases List.mem_cons.1 ((h b).2 (List.mem_cons_self ..)) with e2 | e2
        · exact e2.symm
        · exact (asy _ _ (l1 b e2) (m1 a e)).elim
    subst hab
    congr 1
    refine rise_ext irr asy l2 m2 fun x => ⟨fun hx => ?_, fun hx => ?_⟩
    · rcases List.mem_cons.1 ((h x).1 (List.mem_cons_of_mem _ hx)) with e | e
      · subst e; exact (irr _ (l1 _ hx)).elim
      · exact e
    · rcases List.mem_cons.1 ((h x).2 (List.mem_cons_of_mem _ hx)) with e | e
      · subst e; exact (irr _ (m1 _ hx)).elim
      · exact e
theorem compactL_mem {l : List (List UInt8)} {x : List UInt8} : x ∈ Lib.compact l ↔ x ∈ l := by
  unfold Lib.compact Lib.compactUpTo
  rw [List.mem_map]
  constructor
  · rintro ⟨k, hk, rfl⟩
    have hk' := List.mem_range.1 (List.mem_filter.1 hk).1
    rw [getElem!_pos _ k (by simpa using hk')]
    simp
  · intro hx
    obtain ⟨k, hk, rfl⟩ := List.mem_iff_getElem.1 hx
    have key : ∀ k, (hk : k < l.length) → ∃ a, a ∈ (List.range l.length).filter (Lib.keeps l.toArray) ∧ l.toArray[a]! = l[k] := by
      intro k
      induction k with
      | zero => exact fun hk => ⟨0, List.mem_filter.2 ⟨List.mem_range.2 hk, by simp [Lib.keeps]⟩, by rw [getElem!_pos _ 0 (by simpa using hk)]; simp⟩
      | succ k ih =>
        intro hk
        by_cases h : l.toArray[k + 1]! = l.toArray[k]!
        · obtain ⟨a, ha, e⟩ := ih (by omega)
          refine ⟨a, ha, ?_⟩
          rw [e]
          rw [getElem!_pos _ (k + 1) (by simpa using hk), getElem!_pos _ k (by simp; omega)] at h
          simpa using h.symm
        · exact ⟨k + 1, List.mem_filter.2 ⟨List.mem_range.2 hk, Lib.keeps_pos (by simpa using h)⟩, by rw [getElem!_pos _ (k + 1) (by simpa using hk)]; simp⟩
    exact key k hk
/-- A list that does not fall becomes a rising one. -/
theorem compact_rise {l : List (List UInt8)} (h : l.Pairwise fun x y => ltL y x = false) : (Lib.compact l).Pairwise fun x y => ltL x y = true := by
  unfold Lib.compact Lib.compactUpTo
  rw [List.pairwise_map]
  refine List.Pairwise.imp_of_mem (fun {p q} hp hq hpq => ?_) (List.Pairwise.filter _ (List.pairwise_lt_range (n := l.length)))
  obtain ⟨hp1, -⟩ := List.mem_filter.1 hp
  obtain ⟨hq1, hq2⟩ := List.mem_filter.1 hq
  have hp1 := List.mem_range.1 hp1
  have hq1 := List.mem_range.1 hq1
  unfold Lib.keeps at hq2
  rw [decide_eq_true_eq] at hq2
  have hne : l.toArray[q]! ≠ l.toArray[q - 1]! := hq2.resolve_left (by omega)
  rw [getElem!_pos _ q (by simpa using hq1), getElem!_pos _ (q - 1) (by simp; omega)] at hne
  rw [getElem!_pos _ p (by simpa using hp1), getElem!_pos _ q (by simpa using hq1)]
  simp only [List.getElem_toArray] at hne ⊢
  have h1 := List.pairwise_iff_getElem.1 h (q - 1) q (by omega) hq1 (by omega)
  have h2 : ltL l[q - 1] l[q] = true := by
    rcases ltL_total l[q - 1] l[q] with g | g | g
    · exact g
    · exact absurd g.symm hne
    · rw [h1] at g; cases g
  by_cases e : p = q - 1
  · subst e; exact h2
  · have h3 := List.pairwise_iff_getElem.1 h p (q - 1) hp1 (by omega) (by omega)
    rcases ltL_total l[p] l[q - 1] with g | g | g
    · exact ltL_trans g h2
    · rw [g]; exact h2
    · rw [h3] at g; cases g
theorem sortL_rise (l : List (List UInt8)) : (l.mergeSort fun x y => !(ltL y x)).Pairwise fun x y => ltL y x = false := by
  refine (List.pairwise_mergeSort (le := fun x y => !(ltL y x)) (fun a b c h g => ?_) (fun a b => ?_) l).imp fun {a b} h => ?_
  · simp only [Bool.not_eq_true'] at h g ⊢
    exact swoL.ntrans c b a g h
  · cases h : ltL b a with
    | false => simp [h]
    | true =>
      have : ltL a b = false := Bool.eq_false_iff.2 fun g => ltL_asym h g
      simp [this]
  · simpa using h
def toL (s : ByteArray) : List UInt8 := s.data.toList
def ofL (l : List UInt8) : ByteArray := ⟨l.toArray⟩
theorem ofL_toL (s : ByteArray) : ofL (toL s) = s := by unfold ofL toL; rfl
theorem toL_ofL (l : List UInt8) : toL (ofL l) = l := by unfold ofL toL; simp
theorem toL_eq (s : ByteArray) : s.toList = toL s := by
  obtain ⟨⟨x⟩⟩ := s
  exact ByteArray.toList_mk x
theorem toL_inj {a b : ByteArray} (h : toL a = toL b) : a = b := by rw [← ofL_toL a, h, ofL_toL]
theorem toL_tau : toL tauB = tauBL := by rw [← toL_eq, tau_list]; rfl
/-- Labels rise. -/
theorem labs_rise {ls : List ByteArray} (h : namesB ls = true) {i j : Nat} {x y : ByteArray} (hi : ls[i]? = some x) (hj : ls[j]? = some y) (hij : i < j) : ltL (toL x) (toL y) = true := by
  unfold namesB at h
  rw [Bool.and_eq_true] at h
  have hall : ∀ k, k < ls.length → okL ls k = true := fun k hk => allK_get h.2 hk
  have hlt : ∀ {k : Nat} {y : ByteArray}, ls[k]? = some y → k < ls.length := fun hk => (List.getElem?_eq_some_iff.1 hk).1
  have nt : ∀ {k : Nat} {y : ByteArray}, ls[k]? = some y → 0 < k → y ≠ tauB ∧ ∀ r, ls[k - 1]? = some r → 1 < k → Op.bytesLess r.toList y.toList = true := by
    intro k y hy h0
    have hk := hall k (hlt hy)
    have hr : ls[k - 1]? = some (ls[k - 1]'(by have := hlt hy; omega)) := List.getElem?_eq_getElem _
    rw [okL_at hy h0 hr] at hk
    simp only [Bool.and_eq_true, Bool.not_eq_true', decide_eq_false_iff_not, Bool.or_eq_true, decide_eq_true_eq] at hk
    refine ⟨hk.1.2, fun r hr2 h1 => ?_⟩
    rw [hr] at hr2
    have := Option.some.inj hr2
    subst this
    rcases hk.2 with h2 | h2
    · omega
    · exact h2
  have hy := nt hj (by omega)
  have hyt : toL y ≠ tauBL := fun e => hy.1 (toL_inj (e.trans toL_tau.symm))
  rw [ltL_iff]
  by_cases h0 : i = 0
  · subst h0
    have hx := hall 0 (hlt hi)
    rw [okL_zero hi] at hx
    have : x = tauB := by simpa using hx
    subst this
    exact ⟨fun e => hyt (by rw [← e, toL_tau]), .inl toL_tau⟩
  · have up : ∀ d : Nat, ∀ z, ls[i + (d + 1)]? = some z → Op.bytesLess (toL x) (toL z) = true := by
      intro d
      induction d with
      | zero =>
        intro z hz
        have := (nt hz (by omega)).2 x (by rw [show i + (0 + 1) - 1 = i by omega]; exact hi) (by omega)
        rwa [toL_eq, toL_eq] at this
      | succ d ih =>
        intro z hz
        have hr : ls[i + (d + 1)]? = some (ls[i + (d + 1)]'(by have := hlt hz; omega)) := List.getElem?_eq_getElem _
        have h1 := ih _ hr
        have h2 := (nt hz (by omega)).2 _ (by rw [show i + (d + 1 + 1) - 1 = i + (d + 1) by omega]; exact hr) (by omega)
        rw [toL_eq, toL_eq] at h2
        exact bytesLess_trans h1 h2
    have h1 := up (j - i - 1) y (by rw [show i + (j - i - 1 + 1) = j by omega]; exact hj)
    refine ⟨fun e => ?_, .inr ⟨hyt, h1⟩⟩
    rw [e, bytesLess_irrefl] at h1
    cases h1
/-- What the program's ready labels come to. -/
theorem rdy_eq {st ini : Int} {ls : List ByteArray} {es : List Ed} (hval : ltsV (st, ini, ls, es) = true) (x : Int) :
    (Lib.compact (((outE es x).map fun e => toL (labE ls e)).mergeSort fun x y => !(ltL y x))).map ofL = rdyL es ls x := by
  have hn := names_of hval
  have hT : ((rdyL es ls x).map toL).Pairwise fun x y => ltL x y = true := by
    unfold rdyL
    rw [List.pairwise_map, List.pairwise_map]
    refine List.Pairwise.imp_of_mem (fun {p q} hp hq hpq => ?_) (List.Pairwise.filter _ (List.pairwise_lt_range (n := ls.length)))
    have hp1 := List.mem_range.1 (List.mem_filter.1 hp).1
    have hq1 := List.mem_range.1 (List.mem_filter.1 hq).1
    have h1 : ls[p]? = some ls[p] := List.getElem?_eq_getElem _
    have h2 : ls[q]? = some ls[q] := List.getElem?_eq_getElem _
    rw [h1, h2]
    exact labs_rise hn h1 h2 hpq
  have hC := compact_rise (sortL_rise ((outE es x).map fun e => toL (labE ls e)))
  have hmem : ∀ y, y ∈ Lib.compact (((outE es x).map fun e => toL (labE ls e)).mergeSort fun x y => !(ltL y x)) ↔ y ∈ (rdyL es ls x).map toL := by
    intro y
    rw [compactL_mem, List.mem_mergeSort, List.mem_map, List.mem_map]
    unfold rdyL
    have hlab : ∀ e ∈ es, ∃ k : Nat, e.2.1 = (k : Int) ∧ k < ls.length := fun e he => by
      obtain ⟨j, hj⟩ := List.getElem?_of_mem he
      obtain ⟨f, lb, tg⟩ := e
      have := (edge_of hval hj).2.2
      exact ⟨lb.toNat, by dsimp only; omega, by omega⟩
    constructor
    · rintro ⟨e, he, rfl⟩
      obtain ⟨he1, he2⟩ := List.mem_filter.1 he
      obtain ⟨k, hk1, hk2⟩ := hlab e he1
      refine ⟨labE ls e, List.mem_map.2 ⟨k, List.mem_filter.2 ⟨List.mem_range.2 hk2, List.any_eq_true.2 ⟨e, he1, ?_⟩⟩, ?_⟩, rfl⟩
      · rw [he2, decide_eq_true hk1]; rfl
      · unfold labE
        rw [hk1, Int.toNat_natCast]
        rfl
    · rintro ⟨s, hs, rfl⟩
      obtain ⟨k, hk, rfl⟩ := List.mem_map.1 hs
      obtain ⟨e, he, h1⟩ := List.any_eq_true.1 (List.mem_filter.1 hk).2
      rw [Bool.and_eq_true, decide_eq_true_eq, decide_eq_true_eq] at h1
      refine ⟨e, List.mem_filter.2 ⟨he, decide_eq_true h1.1⟩, ?_⟩
      unfold labE
      rw [h1.2, Int.toNat_natCast]
      rfl
  have := rise_ext (r := fun x y => ltL x y = true) (fun a h => by rw [ltL_irr] at h; cases h) (fun a b h g => ltL_asym h g) hC hT hmem
  rw [this, List.map_map]
  refine (List.map_congr_left fun s _ => ofL_toL s).trans (List.map_id _)

end Go.Proofs.YthlaoedpjloloaaGreatDoor
