/-
  Lemmas that the law of this claim leans on. Conditions: sizes.
-/
import Derived.Test.YtnhomkmfbngmgaaGreatDoorBaseA
import Derived.Test.YtnhomkmfbngmgaaGreatDoorBaseB
import Derived.Test.YtnhomkmfbngmgaaGreatDoorBaseC
import Derived.Deep.DeepCutAuto
import Derived.Deep.QuietTactic
import Derived.StillTailTactics
import Derived.Ground.SlsfProg
import Derived.Shelf.SlSortCmp.NoneTotal
import Derived.Sort.EncStr
import Derived.Shelf.SlGeneric
import Derived.Test.YtnhomkmfbngmgaaGreatDoorProg
set_option maxHeartbeats 3200000
set_option maxRecDepth 100000
set_option linter.unusedSimpArgs false
set_option linter.unusedVariables false
namespace Go.Proofs.YtnhomkmfbngmgaaGreatDoor
open Go.ChangeShapes Go.WideShapes Go.ChangeAt Go.RowKit Go.Sort
theorem bytesLess_irrefl : ∀ a : List UInt8, Op.bytesLess a a = false
 | [] => rfl
 | x :: a => by
  have : ¬ x < x := by rw [UInt8.lt_iff_toNat_lt]; omega
  simp [Op.bytesLess, this, bytesLess_irrefl a]
theorem bytesLess_trans : ∀ {a b c : List UInt8}, Op.bytesLess a b = true → Op.bytesLess b c = true → Op.bytesLess a c = true
 | [], [], _, h, _ => by simp [Op.bytesLess] at h
 | [], _ :: _, [], _, h => by simp [Op.bytesLess] at h
 | [], _ :: _, _ :: _, _, _ => by simp [Op.bytesLess]
 | _ :: _, [], _, h, _ => by simp [Op.bytesLess] at h
 | _ :: _, _ :: _, [], _, h => by simp [Op.bytesLess] at h
 | x :: a, y :: b, z :: c, h, g => by
  simp only [Op.bytesLess, Bool.or_eq_true, decide_eq_true_eq, Bool.and_eq_true, beq_iff_eq] at h g ⊢;rw [UInt8.lt_iff_toNat_lt] at h g ⊢
  rcases h with h | ⟨rfl, h⟩
  ·rcases g with g | ⟨rfl, g⟩
   ·exact .inl (by omega)
   ·exact .inl h
  ·rcases g with g | ⟨rfl, g⟩
   ·exact .inl g
   ·exact .inr ⟨rfl, bytesLess_trans h g⟩
end Go.Proofs.YtnhomkmfbngmgaaGreatDoor
namespace Go.Proofs.YtnhomkmfbngmgaaGreatDoor
abbrev Rel2 := Int → Int → Prop
def Lf (R : Rel2) (F : Rel2 → Rel2) (x y : Int) : Prop := ∀ D : Rel2, (∀ x y, R x y → F D x y → D x y) → D x y
def MonoF (F : Rel2 → Rel2) : Prop := ∀ D E : Rel2, (∀ x y, D x y → E x y) → ∀ x y, F D x y → F E x y
theorem Lf.add {R : Rel2} {F : Rel2 → Rel2} (hm : MonoF F) {x y : Int} (hR : R x y) (h : F (Lf R F) x y) : Lf R F x y := fun D hD => hD x y hR (hm _ _ (fun u v h => h D hD) x y h)
theorem Lf.done {R : Rel2} {F : Rel2 → Rel2} {D : Rel2} (hs : ∀ x y, D x y → Lf R F x y) (hc : ∀ x y, R x y → F D x y → D x y) (x y : Int) : D x y ↔ Lf R F x y := ⟨hs x y, fun h => h D hc⟩
def getM (M : List (List Bool)) (x y : Nat) : Option Bool := M[x]?.bind fun r => r[y]?
def setM (M : List (List Bool)) (x y : Nat) (b : Bool) : List (List Bool) := M.set x ((M[x]?.getD []).set y b)
theorem getM_row {M : List (List Bool)} {x y : Nat} {b : Bool} (h : getM M x y = some b) : ∃ r, M[x]? = some r ∧ r[y]? = some b := by
 unfold getM at h
 cases hr : M[x]? with
 | none => rw [hr] at h; cases h
 | some r => rw [hr] at h; exact ⟨r, rfl, h⟩
def ShM (n p : Nat) (M : List (List Bool)) : Prop := M.length = n ∧ ∀ r, r ∈ M → r.length = p
theorem ShM.get {n p : Nat} {M : List (List Bool)} (h : ShM n p M) {x y : Nat} (hx : x < n) (hy : y < p) : ∃ r b, M[x]? = some r ∧ r.length = p ∧ r[y]? = some b ∧ getM M x y = some b := by
 have h1 : M[x]? = some (M[x]'(by rw [h.1]; exact hx)) := List.getElem?_eq_getElem _;have h2 := h.2 _ (List.mem_of_getElem? h1);have h3 : (M[x]'(by rw [h.1]; exact hx))[y]? = some ((M[x]'(by rw [h.1]; exact hx))[y]'(by rw [h2]; exact hy)) := List.getElem?_eq_getElem _;exact ⟨_, _, h1, h2, h3, by unfold getM; rw [h1]; exact h3⟩
theorem ShM.set {n p : Nat} {M : List (List Bool)} (h : ShM n p M) {x y : Nat} (c : Bool) (hx : x < n) : ShM n p (setM M x y c) := by
 refine ⟨by unfold setM; rw [List.length_set]; exact h.1, fun r hr => ?_⟩;unfold setM at hr
 rcases List.mem_or_eq_of_mem_set hr with h1 | h1
 ·exact h.2 r h1
 ·subst h1
  have h2 : M[x]? = some (M[x]'(by rw [h.1]; exact hx)) := List.getElem?_eq_getElem _;rw [h2, List.length_set];exact h.2 _ (List.mem_of_getElem? h2)
theorem ShM.lt {n p : Nat} {M : List (List Bool)} (h : ShM n p M) {x y : Nat} {b : Bool} (hb : getM M x y = some b) : x < n ∧ y < p := by
 obtain ⟨r, h1, h2⟩ := getM_row hb;have hx := (List.getElem?_eq_some_iff.1 h1).1;have hy := (List.getElem?_eq_some_iff.1 h2).1;rw [h.1] at hx;rw [h.2 r (List.mem_of_getElem? h1)] at hy;exact ⟨hx, hy⟩
def fillM (n p : Nat) (b : Bool) : List (List Bool) := List.replicate n (List.replicate p b)
theorem fillM_sh (n p : Nat) (b : Bool) : ShM n p (fillM n p b) := ⟨by simp [fillM], fun r hr => by rw [List.eq_of_mem_replicate hr, List.length_replicate]⟩
theorem fillM_get {n p : Nat} {b c : Bool} {x y : Nat} (h : getM (fillM n p b) x y = some c) : c = b := by
 obtain ⟨r, h1, h2⟩ := getM_row h;have h3 := List.eq_of_mem_replicate (List.mem_of_getElem? h1);subst h3;exact List.eq_of_mem_replicate (List.mem_of_getElem? h2)
def ChM (b : Bool) (M : List (List Bool)) (x y : Int) : Prop := 0 ≤ x ∧ 0 ≤ y ∧ getM M x.toNat y.toNat = some (!b)
def RgN (n p : Nat) (x y : Int) : Prop := (0 ≤ x ∧ x < (n : Int)) ∧ 0 ≤ y ∧ y < (p : Int)
structure SetI (b : Bool) (n p : Nat) (F : Rel2 → Rel2) (M : List (List Bool)) : Prop where
 sh : ShM n p M
 sound : ∀ x y, ChM b M x y → Lf (RgN n p) F x y
theorem SetI.start (b : Bool) (n p : Nat) (F : Rel2 → Rel2) : SetI b n p F (fillM n p b) :=
 ⟨fillM_sh _ _ _, fun x y h => by have := fillM_get h.2.2; cases b <;> cases this⟩
def ClosedTo (b : Bool) (p : Nat) (F : Rel2 → Rel2) (M : List (List Bool)) (x y : Nat) : Prop := ∀ u v : Nat, v < p → (u < x ∨ u = x ∧ v < y) → F (ChM b M) (u : Int) (v : Int) → ChM b M (u : Int) (v : Int)
theorem ClosedTo.start (b : Bool) (p : Nat) (F : Rel2 → Rel2) (M : List (List Bool)) : ClosedTo b p F M 0 0 := fun u v hv h => by omega
theorem ClosedTo.next {b : Bool} {p : Nat} {F : Rel2 → Rel2} {M : List (List Bool)} {x y : Nat} (h : ClosedTo b p F M x y) (hn : F (ChM b M) (x : Int) (y : Int) → ChM b M (x : Int) (y : Int)) : ClosedTo b p F M x (y + 1) := fun u v hv hl => by
 by_cases e : u = x ∧ v = y
 ·obtain ⟨rfl, rfl⟩ := e
  exact hn
 ·exact h u v hv (by omega)
theorem ClosedTo.row {b : Bool} {p : Nat} {F : Rel2 → Rel2} {M : List (List Bool)} {x : Nat} (h : ClosedTo b p F M x p) : ClosedTo b p F M (x + 1) 0 := fun u v hv hl => h u v hv (by omega)
theorem SetI.done {b : Bool} {n p : Nat} {F : Rel2 → Rel2} {M : List (List Bool)} (h : SetI b n p F M) (hc : ClosedTo b p F M n 0) (x y : Int) : ChM b M x y ↔ Lf (RgN n p) F x y := by
 refine Lf.done h.sound (fun u v hR hF => ?_) x y;obtain ⟨⟨h1, h2⟩, h3, h4⟩ := hR;have := hc u.toNat v.toNat (by omega) (.inl (by omega));rw [Int.toNat_of_nonneg h1, Int.toNat_of_nonneg h3] at this;exact this hF
inductive TauC (es : List Ed) (ls : List ByteArray) (P : Int → Prop) : Int → Prop where
 | base {v : Int} (h : P v) : TauC es ls P v
 | step {e : Ed} (h : TauC es ls P e.1) (he : e ∈ es) (hl : ls[e.2.1.toNat]? = some tauB) : TauC es ls P e.2.2
theorem TauC.imp {es : List Ed} {ls : List ByteArray} {P Q : Int → Prop} (h : ∀ v, P v → Q v) {v : Int} (hv : TauC es ls P v) : TauC es ls Q v := by
 induction hv with
 | base h1 => exact .base (h _ h1)
 | step _ he hl ih => exact .step ih he hl
section
variable {K na nb : Int} {ea : List Ed} {la : List ByteArray} {eb : List Ed} {lb : List ByteArray}
end
def MisV (S : Nat → Rel2) (i j : Int) (m : Int) : Prop := (m = -1 ∧ ∀ r, S r i j) ∨ ∃ r : Nat, m = (r : Int) ∧ ¬ S r i j ∧ ∀ k, k < r → S k i j
theorem MisV.uniq {S : Nat → Rel2} {i j m m' : Int} (h : MisV S i j m) (g : MisV S i j m') : m = m' := by
 rcases h with ⟨rfl, h⟩ | ⟨r, rfl, h1, h2⟩
 ·rcases g with ⟨rfl, -⟩ | ⟨r, rfl, g1, -⟩
  ·rfl
  ·exact absurd (h r) g1
 ·rcases g with ⟨rfl, g⟩ | ⟨r', rfl, g1, g2⟩
  ·exact absurd (g r) h1
  ·rcases Nat.lt_trichotomy r r' with h3 | h3 | h3
   ·exact absurd (g2 r h3) h1
   ·rw [h3]
   ·exact absurd (h2 r' h3) g1
open Go.Lib Go.Sort
theorem cb_less : ∀ a b : List UInt8, Lib.compareBytes a b < 0 ↔ Op.bytesLess a b = true
 | [], [] => by simp [Lib.compareBytes, Op.bytesLess]
 | [], _ :: _ => by simp [Lib.compareBytes, Op.bytesLess]
 | _ :: _, [] => by simp [Lib.compareBytes, Op.bytesLess]
 | x :: a, y :: b => by
  have ih := cb_less a b;unfold Lib.compareBytes Op.bytesLess
  by_cases h1 : x < y
  ·simp [h1]
  ·by_cases h2 : y < x
   ·have h3 : ¬ x = y := fun e => by subst e; exact h1 h2
    simp [h1, h2, h3]
   ·have h3 : x = y := by
     rw [UInt8.lt_iff_toNat_lt] at h1 h2;exact UInt8.toNat_inj.1 (by omega)
    subst h3
    simp [h1, ih]
theorem bl_cases (a b : List UInt8) : Op.bytesLess a b = true ∨ a = b ∨ Op.bytesLess b a = true := by
 have := bytesLess_total a b
 by_cases h1 : Op.bytesLess a b = true
 ·exact .inl h1
 ·by_cases h2 : a = b
  ·exact .inr (.inl h2)
  ·have h3 : (a == b) = false := by simpa using h2
   rw [Bool.eq_false_iff.2 h1, h3] at this;exact .inr (.inr this.symm)
def tauBL : List UInt8 := [116, 97, 117]
def cmpB (x y : List UInt8) : Int := if x = y then 0 else if x = tauBL then -1 else if y = tauBL then 1 else Lib.compareBytes x y
abbrev ltL := ltOf cmpB
theorem ltL_iff (x y : List UInt8) : ltL x y = true ↔ x ≠ y ∧ (x = tauBL ∨ (y ≠ tauBL ∧ Op.bytesLess x y = true)) := by
 unfold ltL ltOf cmpB;rw [decide_eq_true_eq]
 by_cases h1 : x = y
 ·simp [h1]
 ·by_cases h2 : x = tauBL
  ·rw [if_neg h1, if_pos h2]
   exact ⟨fun _ => ⟨h1, .inl h2⟩, fun _ => by omega⟩
  ·by_cases h3 : y = tauBL
   ·rw [if_neg h1, if_neg h2, if_pos h3]
    exact ⟨fun h => by omega, fun ⟨_, h⟩ => by rcases h with h | h; exact absurd h h2; exact absurd h3 h.1⟩
   ·rw [if_neg h1, if_neg h2, if_neg h3, cb_less]
    exact ⟨fun h => ⟨h1, .inr ⟨h3, h⟩⟩, fun ⟨_, h⟩ => by rcases h with h | h; exact absurd h h2; exact h.2⟩
theorem ltL_total (x y : List UInt8) : ltL x y = true ∨ x = y ∨ ltL y x = true := by
 rw [ltL_iff, ltL_iff]
 by_cases h1 : x = y
 ·exact .inr (.inl h1)
 ·by_cases h2 : x = tauBL
  ·exact .inl ⟨h1, .inl h2⟩
  ·by_cases h3 : y = tauBL
   ·exact .inr (.inr ⟨fun e => h1 e.symm, .inl h3⟩)
   ·rcases bl_cases x y with h | h | h
    ·exact .inl ⟨h1, .inr ⟨h3, h⟩⟩
    ·exact absurd h h1
    ·exact .inr (.inr ⟨fun e => h1 e.symm, .inr ⟨h2, h⟩⟩)
theorem ltL_irr (x : List UInt8) : ltL x x = false := Bool.eq_false_iff.2 fun h => ((ltL_iff x x).1 h).1 rfl
theorem ltL_trans {x y z : List UInt8} (h : ltL x y = true) (g : ltL y z = true) : ltL x z = true := by
 rw [ltL_iff] at h g ⊢;obtain ⟨h1, h2⟩ := h;obtain ⟨g1, g2⟩ := g
 rcases h2 with h2 | ⟨h2, h3⟩
 ·refine ⟨fun e => ?_, .inl h2⟩
  rcases g2 with g2 | ⟨g2, g3⟩
  ·exact h1 (h2.trans g2.symm)
  ·exact g2 (e.symm.trans h2)
 ·rcases g2 with g2 | ⟨g2, g3⟩
  ·exact absurd g2 h2
  ·refine ⟨fun e => ?_, .inr ⟨g2, bytesLess_trans h3 g3⟩⟩
   subst e;have := bytesLess_trans h3 g3;rw [bytesLess_irrefl] at this
   cases this
theorem ltL_asym {x y : List UInt8} (h : ltL x y = true) (g : ltL y x = true) : False := by
 have := ltL_trans h g;rw [ltL_irr] at this
 cases this
theorem swoL : SWO ltL where
 irrefl := ltL_irr
 trans x y z h g := ltL_trans h g
 ntrans x y z h g := Bool.eq_false_iff.2 fun k => by
  rcases ltL_total y x with h1 | h1 | h1
  ·have := ltL_trans h1 k
   rw [g] at this
   cases this
  ·subst h1
   rw [g] at k
   cases k
  ·rw [h] at h1
   cases h1
theorem apartL (x y : List UInt8) (h : ltL x y = false) (g : ltL y x = false) : x = y := by
 rcases ltL_total x y with h1 | h1 | h1
 ·rw [h] at h1; cases h1
 ·exact h1
 ·rw [g] at h1; cases h1
theorem rise_ext {α : Type} {r : α → α → Prop} (irr : ∀ a, ¬ r a a) (asy : ∀ a b, r a b → r b a → False) : ∀ {l m : List α}, l.Pairwise r → m.Pairwise r → (∀ x, x ∈ l ↔ x ∈ m) → l = m
 | [], [], _, _, _ => rfl
 | [], b :: m, _, _, h => by have := (h b).2 (List.mem_cons_self ..); cases this
 | a :: l, [], _, _, h => by have := (h a).1 (List.mem_cons_self ..); cases this
 | a :: l, b :: m, hl, hm, h => by
  obtain ⟨l1, l2⟩ := List.pairwise_cons.1 hl;obtain ⟨m1, m2⟩ := List.pairwise_cons.1 hm;have hab : a = b := by
   rcases List.mem_cons.1 ((h a).1 (List.mem_cons_self ..)) with e | e
   ·exact e
   ·rcases List.mem_cons.1 ((h b).2 (List.mem_cons_self ..)) with e2 | e2
    ·exact e2.symm
    ·exact (asy _ _ (l1 b e2) (m1 a e)).elim
  subst hab
  congr 1
  refine rise_ext irr asy l2 m2 fun x => ⟨fun hx => ?_, fun hx => ?_⟩
  ·rcases List.mem_cons.1 ((h x).1 (List.mem_cons_of_mem _ hx)) with e | e
   ·subst e; exact (irr _ (l1 _ hx)).elim
   ·exact e
  ·rcases List.mem_cons.1 ((h x).2 (List.mem_cons_of_mem _ hx)) with e | e
   ·subst e; exact (irr _ (m1 _ hx)).elim
   ·exact e
theorem compactL_mem {l : List (List UInt8)} {x : List UInt8} : x ∈ Lib.compact l ↔ x ∈ l := by
 unfold Lib.compact Lib.compactUpTo;rw [List.mem_map]
 constructor
 ·rintro ⟨k, hk, rfl⟩
  have hk' := List.mem_range.1 (List.mem_filter.1 hk).1;rw [getElem!_pos _ k (by simpa using hk')]
  simp
 ·intro hx
  obtain ⟨k, hk, rfl⟩ := List.mem_iff_getElem.1 hx;have key : ∀ k, (hk : k < l.length) → ∃ a, a ∈ (List.range l.length).filter (Lib.keeps l.toArray) ∧ l.toArray[a]! = l[k] := by
   intro k
   induction k with
   | zero => exact fun hk => ⟨0, List.mem_filter.2 ⟨List.mem_range.2 hk, by simp [Lib.keeps]⟩, by rw [getElem!_pos _ 0 (by simpa using hk)]; simp⟩
   | succ k ih =>
    intro hk
    by_cases h : l.toArray[k + 1]! = l.toArray[k]!
    ·obtain ⟨a, ha, e⟩ := ih (by omega)
     refine ⟨a, ha, ?_⟩;rw [e];rw [getElem!_pos _ (k + 1) (by simpa using hk), getElem!_pos _ k (by simp; omega)] at h
     simpa using h.symm
    ·exact ⟨k + 1, List.mem_filter.2 ⟨List.mem_range.2 hk, Lib.keeps_pos (by simpa using h)⟩, by rw [getElem!_pos _ (k + 1) (by simpa using hk)]; simp⟩
  exact key k hk
theorem compact_rise {l : List (List UInt8)} (h : l.Pairwise fun x y => ltL y x = false) : (Lib.compact l).Pairwise fun x y => ltL x y = true := by
 unfold Lib.compact Lib.compactUpTo;rw [List.pairwise_map];refine List.Pairwise.imp_of_mem (fun {p q} hp hq hpq => ?_) (List.Pairwise.filter _ (List.pairwise_lt_range (n := l.length)));obtain ⟨hp1, -⟩ := List.mem_filter.1 hp;obtain ⟨hq1, hq2⟩ := List.mem_filter.1 hq;have hp1 := List.mem_range.1 hp1;have hq1 := List.mem_range.1 hq1;unfold Lib.keeps at hq2;rw [decide_eq_true_eq] at hq2;have hne : l.toArray[q]! ≠ l.toArray[q - 1]! := hq2.resolve_left (by omega);rw [getElem!_pos _ q (by simpa using hq1), getElem!_pos _ (q - 1) (by simp; omega)] at hne;rw [getElem!_pos _ p (by simpa using hp1), getElem!_pos _ q (by simpa using hq1)];simp only [List.getElem_toArray] at hne ⊢;have h1 := List.pairwise_iff_getElem.1 h (q - 1) q (by omega) hq1 (by omega);have h2 : ltL l[q - 1] l[q] = true := by
  rcases ltL_total l[q - 1] l[q] with g | g | g
  ·exact g
  ·exact absurd g.symm hne
  ·rw [h1] at g; cases g
 by_cases e : p = q - 1
 ·subst e; exact h2
 ·have h3 := List.pairwise_iff_getElem.1 h p (q - 1) hp1 (by omega) (by omega)
  rcases ltL_total l[p] l[q - 1] with g | g | g
  ·exact ltL_trans g h2
  ·rw [g]; exact h2
  ·rw [h3] at g; cases g
theorem sortL_rise (l : List (List UInt8)) : (l.mergeSort fun x y => !(ltL y x)).Pairwise fun x y => ltL y x = false := by
 refine (List.pairwise_mergeSort (le := fun x y => !(ltL y x)) (fun a b c h g => ?_) (fun a b => ?_) l).imp fun {a b} h => ?_
 ·simp only [Bool.not_eq_true'] at h g ⊢
  exact swoL.ntrans c b a g h
 ·cases h : ltL b a with
  | false => simp [h]
  | true =>
   have : ltL a b = false := Bool.eq_false_iff.2 fun g => ltL_asym h g
   simp [this]
 ·simpa using h
def toL (s : ByteArray) : List UInt8 := s.data.toList
def ofL (l : List UInt8) : ByteArray := ⟨l.toArray⟩
theorem ofL_toL (s : ByteArray) : ofL (toL s) = s := by unfold ofL toL; rfl
theorem toL_ofL (l : List UInt8) : toL (ofL l) = l := by unfold ofL toL; simp
theorem toL_eq (s : ByteArray) : s.toList = toL s := by
 obtain ⟨⟨x⟩⟩ := s;exact ByteArray.toList_mk x
theorem toL_inj {a b : ByteArray} (h : toL a = toL b) : a = b := by rw [← ofL_toL a, h, ofL_toL]
theorem toL_tau : toL tauB = tauBL := by rw [← toL_eq, tau_list]; rfl
theorem labs_rise {ls : List ByteArray} (h : namesB ls = true) {i j : Nat} {x y : ByteArray} (hi : ls[i]? = some x) (hj : ls[j]? = some y) (hij : i < j) : ltL (toL x) (toL y) = true := by
 unfold namesB at h;rw [Bool.and_eq_true] at h;have hall : ∀ k, k < ls.length → okL ls k = true := fun k hk => allK_get h.2 hk
 have hlt : ∀ {k : Nat} {y : ByteArray}, ls[k]? = some y → k < ls.length := fun hk => (List.getElem?_eq_some_iff.1 hk).1
 have nt : ∀ {k : Nat} {y : ByteArray}, ls[k]? = some y → 0 < k → y ≠ tauB ∧ ∀ r, ls[k - 1]? = some r → 1 < k → Op.bytesLess r.toList y.toList = true := by
  intro k y hy h0;have hk := hall k (hlt hy);have hr : ls[k - 1]? = some (ls[k - 1]'(by have := hlt hy; omega)) := List.getElem?_eq_getElem _;rw [okL_at hy h0 hr] at hk;simp only [Bool.and_eq_true, Bool.not_eq_true', decide_eq_false_iff_not, Bool.or_eq_true, decide_eq_true_eq] at hk;refine ⟨hk.1.2, fun r hr2 h1 => ?_⟩;rw [hr] at hr2;have := Option.some.inj hr2;subst this
  rcases hk.2 with h2 | h2
  ·omega
  ·exact h2
 have hy := nt hj (by omega);have hyt : toL y ≠ tauBL := fun e => hy.1 (toL_inj (e.trans toL_tau.symm))
 rw [ltL_iff]
 by_cases h0 : i = 0
 ·subst h0
  have hx := hall 0 (hlt hi);rw [okL_zero hi] at hx;have : x = tauB := by simpa using hx
  subst this;exact ⟨fun e => hyt (by rw [← e, toL_tau]), .inl toL_tau⟩
 ·have up : ∀ d : Nat, ∀ z, ls[i + (d + 1)]? = some z → Op.bytesLess (toL x) (toL z) = true := by
   intro d
   induction d with
   | zero =>
    intro z hz;have := (nt hz (by omega)).2 x (by rw [show i + (0 + 1) - 1 = i by omega]; exact hi) (by omega)
    rwa [toL_eq, toL_eq] at this
   | succ d ih =>
    intro z hz;have hr : ls[i + (d + 1)]? = some (ls[i + (d + 1)]'(by have := hlt hz; omega)) := List.getElem?_eq_getElem _;have h1 := ih _ hr;have h2 := (nt hz (by omega)).2 _ (by rw [show i + (d + 1 + 1) - 1 = i + (d + 1) by omega]; exact hr) (by omega);rw [toL_eq, toL_eq] at h2;exact bytesLess_trans h1 h2
  have h1 := up (j - i - 1) y (by rw [show i + (j - i - 1 + 1) = j by omega]; exact hj);refine ⟨fun e => ?_, .inr ⟨hyt, h1⟩⟩;rw [e, bytesLess_irrefl] at h1
  cases h1
end Go.Proofs.YtnhomkmfbngmgaaGreatDoor
namespace Go.Proofs.YtnhomkmfbngmgaaGreatDoor
open Go.ChangeShapes Go.WideShapes Go.ChangeAt Go.RowKit Go.Sort
structure JoiI (out : List ByteArray) (l : List ByteArray) : Prop where
 head : out[0]? = some tauB
 rise : (out.map toL).Pairwise fun x y => ltL x y = true
 mem : ∀ x, x ∈ out ↔ x = tauB ∨ x ∈ l
theorem JoiI.start : JoiI [tauB] [] := ⟨rfl, by simp, fun x => by simp⟩
theorem JoiI.old {out l : List ByteArray} (h : JoiI out l) {s : ByteArray} (hs : s ∈ out) : JoiI out (l ++ [s]) :=
 ⟨h.head, h.rise, fun x => by
  rw [h.mem, List.mem_append, List.mem_singleton]
  constructor
  ·rintro (g | g)
   ·exact .inl g
   ·exact .inr (.inl g)
  ·rintro (g | g | rfl)
   ·exact .inl g
   ·exact .inr g
   ·exact (h.mem _).1 hs⟩
theorem JoiI.put {out l : List ByteArray} (h : JoiI out l) {s : ByteArray} (hs : ¬ s ∈ out) {k : Nat} (hk0 : 1 ≤ k) (hk : k ≤ out.length) (hlo : ∀ j, 1 ≤ j → j < k → ∀ x, out[j]? = some x → Op.bytesLess x.toList s.toList = true) (hhi : ∀ x, out[k]? = some x → Op.bytesLess x.toList s.toList = false) :
  JoiI (out.take k ++ s :: out.drop k) (l ++ [s]) := by
 have hst : s ≠ tauB := fun e => hs (e ▸ (h.mem tauB).2 (.inl rfl))
 have hsL : toL s ≠ tauBL := fun e => hst (toL_inj (e.trans toL_tau.symm))
 have hne : ∀ x ∈ out, toL x ≠ toL s := fun x hx e => hs (toL_inj e ▸ hx)
 have hlow : ∀ x ∈ out.take k, ltL (toL x) (toL s) = true := fun x hx => by
  obtain ⟨j, hj⟩ := List.getElem?_of_mem hx;rw [List.getElem?_take] at hj
  split at hj
  ·rename_i hjk
   have hxo := List.mem_of_getElem? hj;rw [ltL_iff];refine ⟨hne x hxo, ?_⟩
   by_cases h0 : j = 0
   ·subst h0
    rw [h.head] at hj;have := Option.some.inj hj;subst this;exact .inl toL_tau
   ·have := hlo j (by omega) hjk x hj
    rw [toL_eq, toL_eq] at this;exact .inr ⟨hsL, this⟩
  ·cases hj
 have hhigh : ∀ x ∈ out.drop k, ltL (toL s) (toL x) = true := fun x hx => by
  have hkl : k < out.length := by
   rcases Nat.lt_or_ge k out.length with h1 | h1
   ·exact h1
   ·rw [List.drop_eq_nil_of_le h1] at hx; cases hx
  have hy : out[k]? = some out[k] := List.getElem?_eq_getElem _;have h1 : ltL (toL s) (toL out[k]) = true := by
   rcases ltL_total (toL s) (toL out[k]) with g | g | g
   ·exact g
   ·exact absurd g.symm (hne _ (List.mem_of_getElem? hy))
   ·rw [ltL_iff] at g
    have h2 := hhi _ hy;rw [toL_eq, toL_eq] at h2
    rcases g.2 with g2 | g2
    ·have h3 : out[k] = tauB := toL_inj (g2.trans toL_tau.symm)
     have h4 := List.pairwise_iff_getElem.1 h.rise 0 k (by rw [List.length_map]; omega) (by rw [List.length_map]; omega) (by omega);rw [List.getElem_map, List.getElem_map, h3] at h4;have h5 := h.head;rw [List.getElem?_eq_getElem (by omega)] at h5;rw [Option.some.inj h5, ltL_irr] at h4
     cases h4
    ·rw [h2] at g2
     cases g2.2
  rw [List.drop_eq_getElem_cons hkl] at hx
  rcases List.mem_cons.1 hx with rfl | hx
  ·exact h1
  ·obtain ⟨j, hj⟩ := List.getElem?_of_mem hx
   rw [List.getElem?_drop] at hj;have hjl := (List.getElem?_eq_some_iff.1 hj).1;have h4 := List.pairwise_iff_getElem.1 h.rise k (k + 1 + j) (by rw [List.length_map]; omega) (by rw [List.length_map]; omega) (by omega);rw [List.getElem_map, List.getElem_map, (List.getElem?_eq_some_iff.1 hj).2] at h4;exact ltL_trans h1 h4
 refine ⟨?_, ?_, fun x => ?_⟩
 ·rw [List.getElem?_append_left (by rw [List.length_take]; omega), List.getElem?_take, if_pos (by omega)]
  exact h.head
 ·rw [List.map_append, List.map_cons, List.pairwise_append]
  have hr := h.rise;rw [← List.take_append_drop k out, List.map_append, List.pairwise_append] at hr;refine ⟨hr.1, List.pairwise_cons.2 ⟨fun y hy => ?_, hr.2.1⟩, fun a ha b hb => ?_⟩
  ·obtain ⟨x, hx, rfl⟩ := List.mem_map.1 hy
   exact hhigh x hx
  ·obtain ⟨x, hx, rfl⟩ := List.mem_map.1 ha
   rcases List.mem_cons.1 hb with rfl | hb
   ·exact hlow x hx
   ·exact hr.2.2 _ ha _ hb
 ·have hm := h.mem x
  rw [← List.take_append_drop k out, List.mem_append] at hm;rw [List.mem_append, List.mem_cons, List.mem_append, List.mem_singleton]
  constructor
  ·rintro (g | g | g)
   ·rcases hm.1 (.inl g) with g | g
    ·exact .inl g
    ·exact .inr (.inl g)
   ·exact .inr (.inr g)
   ·rcases hm.1 (.inr g) with g | g
    ·exact .inl g
    ·exact .inr (.inl g)
  ·rintro (g | g | g)
   ·rcases hm.2 (.inl g) with g | g
    ·exact .inl g
    ·exact .inr (.inr g)
   ·rcases hm.2 (.inr g) with g | g
    ·exact .inl g
    ·exact .inr (.inr g)
   ·exact .inr (.inl g)
def joiF (l : List ByteArray) : List ByteArray := (Lib.compact (((tauB :: l).map toL).mergeSort fun x y => !(ltL y x))).map ofL
theorem map_toL_ofL2 (d : List (List UInt8)) : (d.map ofL).map toL = d := by
 rw [List.map_map];exact (List.map_congr_left fun x _ => toL_ofL x).trans (List.map_id _)
theorem JoiI.done {out l : List ByteArray} (h : JoiI out l) : out = joiF l := by
 have h1 : out.map toL = Lib.compact (((tauB :: l).map toL).mergeSort fun x y => !(ltL y x)) := by
  refine rise_ext (r := fun x y => ltL x y = true) (fun a g => by rw [ltL_irr] at g; cases g) (fun a b g k => ltL_asym g k) h.rise (compact_rise (sortL_rise _)) fun y => ?_
  rw [compactL_mem, List.mem_mergeSort, List.mem_map, List.mem_map]
  constructor
  ·rintro ⟨x, hx, rfl⟩
   exact ⟨x, by rw [List.mem_cons]; exact (h.mem x).1 hx, rfl⟩
  ·rintro ⟨x, hx, rfl⟩
   exact ⟨x, by rw [List.mem_cons] at hx; exact (h.mem x).2 hx, rfl⟩
 unfold joiF;rw [← h1, List.map_map];exact ((List.map_congr_left fun x _ => ofL_toL x).trans (List.map_id _)).symm
theorem JoiI.len {out l : List ByteArray} (h : JoiI out l) : out.length ≤ l.length + 1 := by
 rw [h.done];unfold joiF;rw [List.length_map];refine Nat.le_trans (Go.Lib.compact_length_le _) ?_;rw [List.length_mergeSort, List.length_map, List.length_cons];exact zR
theorem any_of_mem {l : List ByteArray} {s : ByteArray} : anyL l s = true ↔ s ∈ l := by
 unfold anyL;rw [List.any_eq_true];exact ⟨fun ⟨x, h, e⟩ => of_decide_eq_true e ▸ h, fun h => ⟨s, h, decide_eq_true rfl⟩⟩
theorem Own.ne {w : World} {base e n c : Nat} {A : Option Addr} {l : List ByteArray} (h : Own 1 strv w base e A n c l) (hn : 0 < n) : ∃ g, A = some ⟨g, 0, none⟩ ∧ base ≤ g := by
 rcases h.2.2 with ⟨-, hv⟩ | ⟨g, cap, cur, hv, hb, -⟩
 ·omega
 ·cases hv
  exact ⟨g, rfl, hb⟩
theorem shift_set {out : List ByteArray} {i : Nat} {z x : ByteArray} (hi : i < out.length) (hx : out[i]? = some x) : (out.take (i + 1) ++ z :: out.drop (i + 1)).set (i + 1) x = out.take i ++ x :: out.drop i := by
 have h1 : out.drop i = x :: out.drop (i + 1) := by rw [List.drop_eq_getElem_cons hi]; congr 1; exact Option.some.inj ((List.getElem?_eq_getElem hi).symm.trans hx)
 rw [List.set_append_right _ _ (by rw [List.length_take]; omega), List.length_take, Nat.min_eq_left (by omega), Nat.sub_self, List.set_cons_zero, List.take_add_one, hx, h1]
 simp
theorem shift_end {out : List ByteArray} {i : Nat} {z x : ByteArray} (hi : i ≤ out.length) : (out.take i ++ z :: out.drop i).set i x = out.take i ++ x :: out.drop i := by
 rw [List.set_append_right _ _ (by rw [List.length_take]; omega), List.length_take, Nat.min_eq_left (by omega), Nat.sub_self, List.set_cons_zero]
theorem shift_get {out : List ByteArray} {i : Nat} {z x : ByteArray} (hi : i < out.length) (hx : out[i]? = some x) : (out.take (i + 1) ++ z :: out.drop (i + 1))[i]? = some x := by
 rw [List.getElem?_append_left (by rw [List.length_take]; omega), List.getElem?_take, if_pos (by omega), hx]
theorem l11Join_calls (A : Option Addr) (n c : Nat) (l : List ByteArray) (w : World) (lo hi : Nat) (h : SlS w lo hi A n l) (hh : hi ≤ w.heap.size) (hn : n ≤ 100000) :
  Calls Tryz.prog 146 #[.slice A n c] w fun e w' => ∃ A' n' c', e = .returned (.slice A' n' c') ∧ Own 1 strv w' w.heap.size 9 A' n' c' (joiF l) ∧ Below w.heap.size w w' := by
 have hE := hide elem_str;have hlen := hide h.len;have k1 := heap_alloc_new w (.cells #[.string tauB] 9);have hst : Hid (Own 1 strv (w.alloc (.cells #[.string tauB] 9)) w.heap.size 9 (some ⟨w.heap.size, 0, none⟩) 1 1 [tauB]) := Own.litL k1 rfl zR;have hb0 := hide ((Below.refl w.heap.size w).alloc zR (.cells #[.string tauB] 9));replace h := hide h;clear k1;go_enter Tryz.func146, Tryz.ntmps146;go_upto_region 2 with fail;go_upto_region 3 with fail
 go_loopg [3, 4] n (fun J o i wr => ∃ (k m c : Nat) (A : Option Addr) (out : List ByteArray), k ≤ n ∧ o = .slice A m c ∧ i = .int .i64 (k : Nat) ∧ Hid (Own 1 strv wr w.heap.size 9 A m c out) ∧ Hid (JoiI out (l.take k)) ∧ Hid (Below w.heap.size w wr) ∧ Hid (n - k ≤ J))
 case atStart => exact ⟨0, 1, 1, _, [tauB], Nat.zero_le _, rfl, rfl, hst.out, JoiI.start, hb0.out, by show _ ≤ _; omega⟩
 case round =>
  clear hst hb0;obtain ⟨k, m, c2, A2, out, hk, rfl, rfl, hown, hj, hb, hG⟩ := hrel
  by_cases hlt : k < n
  ·obtain ⟨J2, rfl⟩ : ∃ G2, gk = G2 + 1 := ⟨gk - 1, by have := hG.out; omega⟩
   have hJ2 : Hid (n - (k + 1) ≤ J2) := by have := hG.out; show _ ≤ _; omega
   obtain ⟨b, off, s, rfl, g1, g2, g3, hx, c0, -⟩ := SlS.get h.out hlt;have hbb := hb.out;have c00 := hide c0;have z0 := (hbb.cell (p := ⟨b, off + k, none⟩) g3).trans c0;have hml := hown.out.len;have hm1 : 1 ≤ m ∧ m ≤ k + 1 := by
    have h1 := hj.out.len;have h2 := hj.out.head;rw [List.length_take] at h1;have h3 := (List.getElem?_eq_some_iff.1 h2).1;omega
   obtain ⟨hm0, hm1⟩ := hm1;have q := l11Find_calls s A2 m c2 out wr _ _ (hown.out.sl flat_strv) (by omega);have htk : l.take (k + 1) = l.take k ++ [s] := by rw [List.take_add_one, hx]; rfl
   have hI0 : (0 : Int) ≤ (k : Int) := by omega
   have hI1 : (k : Int) < (n : Int) := by omega
   clear c0 hbb hG
   by_cases hin : s ∈ out
   ·have hj2 : Hid (JoiI out (l.take (k + 1))) := by show JoiI _ _; rw [htk]; exact hj.out.old hin
    replace q := hide (q.mono (R' := fun e w' => ∃ i : Nat, e = .returned (.int .i64 (i : Int)) ∧ wr = w') (by
     rintro e w' ⟨i, rfl, hf, rfl⟩
     rcases hf with ⟨-, h2⟩ | ⟨k, rfl, -, -⟩
     ·rw [any_of_mem.2 hin] at h2; cases h2
     ·exact ⟨k, rfl, rfl⟩))
    clear hj hx htk hin hml;go_wp2_with (first | (go_at_call 174; (with_reducible refine q.out.mono ?_); rintro e w5 ⟨i, rfl, rfl⟩; have hge : (0 : Int) ≤ (i : Int) := Int.natCast_nonneg _))
    go_roundg J2
    case measure => omega
    case rel => exact ⟨k + 1, m, c2, A2, out, by omega, rfl, by go_num, hown, hj2, hb, hJ2⟩
   ·replace q := hide (q.mono (R' := fun e w' => e = .returned (.int .i64 (-1)) ∧ wr = w') (by
     rintro e w' ⟨i, rfl, hf, rfl⟩
     rcases hf with ⟨rfl, h2⟩ | ⟨k, rfl, -, h2⟩
     ·exact ⟨rfl, rfl⟩
     ·exact absurd (any_of_mem.1 h2) hin))
    have hna : Hid (∀ out', JoiI out' (l.take k ++ [s]) → JoiI out' (l.take (k + 1))) := fun out' h => by rw [htk]; exact h
    have hzw := hb.out.size;clear hx htk;go_upto_region 6 with (first | (go_at_call 174; (with_reducible refine q.out.mono ?_); rintro e w5 ⟨rfl, rfl⟩));go_upto_region 7 with fail;obtain ⟨wO, rfl⟩ : ∃ wO : World, wO = wr := ⟨_, rfl⟩
    go_loopw [5] (fun i wr => ∃ t : Nat, 1 ≤ t ∧ t ≤ m ∧ i = .int .i64 (t : Nat) ∧ Hid (∀ j, 1 ≤ j → j < t → ∀ x, out[j]? = some x → Op.bytesLess x.toList s.toList = true) ∧ Hid (Own 1 strv wr w.heap.size 9 A2 m c2 out) ∧ Hid (Below w.heap.size w wr)) (fun i _ => m - (intOf i).toNat)
    case atStart => exact ⟨1, zR, by omega, rfl, fun j h1 h2 => by omega, hown.out, hb.out⟩
    case round =>
     clear hown hb q z0;obtain ⟨t, ht1, htm, rfl, hlo, hown, hb⟩ := hrel;have z0 := (hb.out.cell (p := ⟨b, off + k, none⟩) g3).trans c00.out;have t0 : (0 : Int) ≤ (t : Int) := by omega
     by_cases hgo : t < m ∧ ∃ x, out[t]? = some x ∧ Op.bytesLess x.toList s.toList = true
     ·obtain ⟨htl, x, hx, hxs⟩ := hgo
      have t1 : (t : Int) < (m : Int) := by omega
      have f1 : decide ((t : Int) < (m : Int)) = true := decide_eq_true t1;obtain ⟨ga, oa, x', rfl, -, -, -, hx', cx, -⟩ := SlS.get (hown.out.sl flat_strv) htl;rw [hx] at hx';injection hx' with hx';subst hx';have hlo2 : Hid (∀ j, 1 ≤ j → j < t + 1 → ∀ x, out[j]? = some x → Op.bytesLess x.toList s.toList = true) := fun j h1 h2 y hy => by
       by_cases e : j = t
       ·subst e; rw [hx] at hy; injection hy with hy; rw [← hy]; exact hxs
       ·exact hlo.out j h1 (by omega) y hy
      clear hx hlo;go_wp2_with fail;go_quiet (fail);go_wp2_with fail;go_roundw
      case rel => exact ⟨t + 1, by omega, by omega, by go_num, hlo2.out, hown.out.keep fun _ _ => rfl, hb.out.trans ((below_drewN _ nq).mono hb.out.size)⟩
      case measure => simp [intOf]; omega
     ·have hput := hide (hj.out.put (s := s) hin ht1 (by omega) hlo.out (fun x hx => by
       have h3 := (List.getElem?_eq_some_iff.1 hx).1;rw [Bool.eq_false_iff];exact fun h4 => hgo ⟨by omega, x, hx, h4⟩))
      have hstop : t = m ∨ ∃ x, t < m ∧ out[t]? = some x ∧ Op.bytesLess x.toList s.toList = false := by
       by_cases e : t = m
       ·exact .inl e
       ·obtain ⟨x, hx⟩ : ∃ x, out[t]? = some x := ⟨_, List.getElem?_eq_getElem (by omega)⟩
        exact .inr ⟨x, by omega, hx, Bool.eq_false_iff.2 fun h4 => hgo ⟨by omega, x, hx, h4⟩⟩
      clear hgo hlo;have hAB : Hid (t < m → ∀ ga oa, A2 = some ⟨ga, oa, none⟩ → ∀ x, out[t]? = some x → wr.cell? ⟨ga, oa + t, none⟩ = some (.string x)) := fun h1 ga oa eA x hx => by
       obtain ⟨ga', oa', x', e', -, -, -, hx', cx, -⟩ := SlS.get (hown.out.sl flat_strv) h1;rw [eA] at e'
       cases e'
       rw [hx] at hx';injection hx' with hx';rw [hx']; exact cx
      obtain ⟨gA, rfl, -⟩ := hown.out.ne (by omega)
      rcases hstop with hst | ⟨x, htl, hx, hxs⟩
      focus
       have t1 : ¬ (t : Int) < (m : Int) := by omega
       have f1 : decide ((t : Int) < (m : Int)) = false := decide_eq_false t1;have f2 : decide (t < m) = false := decide_eq_false (by omega);have f3 : ¬ t < m := by omega
       clear hAB hst;go_wp2_with fail;go_quiet (fail);go_upto_region 9 with fail;clear t1 f1 f2 f3
      rotate_left
      focus
       have t1 : (t : Int) < (m : Int) := by omega
       have f1 : decide ((t : Int) < (m : Int)) = true := decide_eq_true t1;have f2 : decide (t < m) = true := decide_eq_true htl;have cx := hAB.out htl gA 0 rfl x hx;rw [Nat.zero_add] at cx;clear hAB hx;go_wp2_with fail;go_quiet (fail);go_upto_region 9 with fail;clear hxs cx htl t1 f1 f2
      all_goals
       obtain ⟨wq, hwq⟩ : ∃ wq, wq = wr.drewN nq := ⟨_, rfl⟩;have hownq : Hid (Own 1 strv wq w.heap.size 9 (some ⟨gA, 0, none⟩) m c2 out) := by rw [hwq]; exact hown.out.keep fun _ _ => rfl
       have hbq : Hid (Below w.heap.size w wq) := by rw [hwq]; exact hb.out.trans ((below_drewN _ nq).mono hb.out.size)
       rw [← hwq];replace hwq := hide hwq;have hzq := hbq.out.size;have hza : w.heap.size ≤ (wq.alloc (.cells #[.string ⟨#[]⟩] 9)).heap.size := by rw [World.size_alloc]; omega
       have hba := hide (hbq.out.alloc hzq (.cells #[.string ⟨#[]⟩] 9));clear hown hb;go_upto_region 10 with (first | (at_builtin; (with_reducible refine wpList_app rfl (.tmp 38) (.tmp 39) rfl hE.out flat_strv rfl (hownq.out.alloc _) rfl (Sl.lit1' wq 9 (⟨#[]⟩ : ByteArray) _ rfl 1 _ ?d0) ?d1 hza ?_); rotate_right; intro A6 c6 w6 hown6 hgr6 hb6 hat6))
       case d0 => rfl
       case d1 => omega
       obtain ⟨g6, rfl, hg6⟩ := hown6.ne (by omega);have hb7 := hide (hba.out.trans hb6);have hS0 : Hid (Own 1 strv w6 w.heap.size 9 (some ⟨g6, 0, none⟩) (m + 1) c6 (out.take m ++ (⟨#[]⟩ : ByteArray) :: out.drop m)) := by
        show Own _ _ _ _ _ _ _ _ _
        rw [List.take_of_length_le (by omega), List.drop_eq_nil_of_le (by omega)];exact hown6
       clear hown6 hgr6 hb6 hat6 hownq hbq hba hza;go_wp2_with fail;obtain ⟨wP, rfl⟩ : ∃ wP : World, wP = wr := ⟨_, rfl⟩
       go_loopw [6] (fun i wr => ∃ (q : Nat) (y : ByteArray), t ≤ q ∧ q ≤ m ∧ i = .int .i64 (q : Nat) ∧ Hid (Own 1 strv wr w.heap.size 9 (some ⟨g6, 0, none⟩) (m + 1) c6 (out.take q ++ y :: out.drop q)) ∧ Hid (Below w.heap.size w wr)) (fun i _ => (intOf i).toNat)
       case atStart => exact ⟨m, _, htm, zR, by go_num, hS0.out, hb7.out⟩
       case round =>
        clear hS0 hb7;obtain ⟨q, y, hq1, hq2, rfl, hS, hb⟩ := hrel
        by_cases hqt : t < q
        ·have q0 : (t : Int) < (q : Int) := by omega
         obtain ⟨q', rfl⟩ : ∃ q', q = q' + 1 := ⟨q - 1, by omega⟩;have q1 : (0 : Int) ≤ (q' : Int) := by omega
         have q2 : (q' : Int) < (m : Int) + 1 := by omega
         have q3 : (q' : Int) + 1 < (m : Int) + 1 := by omega
         have q4 : (0 : Int) ≤ (q' : Int) + 1 := by omega
         obtain ⟨x1, hx1⟩ : ∃ x, out[q']? = some x := ⟨_, List.getElem?_eq_getElem (by omega)⟩;obtain ⟨ga, oa, xa, ea, -, -, -, hxa, ca, -⟩ := SlS.get (hS.out.sl flat_strv) (show q' < m + 1 by omega)
         cases ea
         rw [Nat.zero_add] at ca;rw [shift_get (by omega) hx1] at hxa;injection hxa with hxa;subst hxa;obtain ⟨gb, ob, xb, eb, -, -, -, -, cb, fb⟩ := SlS.get (hS.out.sl flat_strv) (show q' + 1 < m + 1 by omega)
         cases eb
         rw [Nat.zero_add] at cb fb;have hset := hS.out.setS (q' + 1) x1;rw [shift_set (by omega) hx1] at hset;replace hset := hide hset;have hbs := hide (hb.out.setCell (p := ⟨g6, q' + 1, none⟩) hg6 (.string x1));clear hx1;go_wp2_with fail;go_roundw
         case rel => exact ⟨q', x1, by omega, by omega, by go_num, hset.out, hbs.out⟩
         case measure => simp [intOf]
        ·obtain rfl : q = t := by omega
         have q0 : ¬ (q : Int) < (q : Int) := by omega
         have q1 : (0 : Int) ≤ (q : Int) := by omega
         have q2 : (q : Int) < ((m + 1 : Nat) : Int) := by omega
         have z1 := (hb.out.cell (p := ⟨b, off + k, none⟩) g3).trans c00.out;obtain ⟨g6', o6, x6, e6, -, -, -, -, c6', f6⟩ := SlS.get (hS.out.sl flat_strv) (show q < m + 1 by omega);cases e6;rw [Nat.zero_add] at c6' f6;have hset := hide (hS.out.setS q s);have hfin := shift_end (z := y) (x := s) (show q ≤ out.length by omega);rw [hfin] at hset;have hbs := hide (hb.out.setCell (p := ⟨g6, q, none⟩) hg6 (.string s));have hJ := hide (hna.out _ hput.out);clear hfin;go_wp2_with fail
         go_roundg J2
         case measure => omega
         case rel => exact ⟨k + 1, m + 1, c6, _, _, by omega, rfl, by go_num, hset.out, hJ.out, hbs.out, hJ2.out⟩
  ·obtain rfl : k = n := by omega
   have hkk : ¬ (k : Int) < (k : Int) := by omega
   have hdone : Hid (out = joiF l) := by
    have := hj.out.done;rw [List.take_of_length_le (by rw [hlen.out]; exact zR)] at this;exact this
   clear hj;go_wp2_with fail;go_ret;exact ⟨A2, m, c2, rfl, by rw [← hdone.out]; exact hown.out, hb.out⟩
end Go.Proofs.YtnhomkmfbngmgaaGreatDoor
namespace Go.Proofs.YtnhomkmfbngmgaaGreatDoor
open Go.ChangeShapes Go.WideShapes Go.ChangeAt Go.RowKit
theorem edLess_iff (a b : Ed) : edLess a b = true ↔ a.1 < b.1 ∨ (a.1 = b.1 ∧ (a.2.1 < b.2.1 ∨ (a.2.1 = b.2.1 ∧ a.2.2 < b.2.2))) := by
 unfold edLess
 by_cases h1 : a.1 = b.1
 ·by_cases h2 : a.2.1 = b.2.1
  ·simp [h1, h2]
  ·simp [h1, h2]
 ·simp [h1]
theorem edLess_irr (a : Ed) : edLess a a = false := Bool.eq_false_iff.2 fun h => by rw [edLess_iff] at h; omega
theorem edLess_trans {a b c : Ed} (h : edLess a b = true) (g : edLess b c = true) : edLess a c = true := by
 rw [edLess_iff] at h g ⊢; omega
theorem edLess_total {a b : Ed} (h : a ≠ b) : edLess a b = true ∨ edLess b a = true := by
 rw [edLess_iff, edLess_iff]
 by_cases h1 : a.1 = b.1
 ·by_cases h2 : a.2.1 = b.2.1
  ·by_cases h3 : a.2.2 = b.2.2
   ·exact absurd (Prod.ext h1 (Prod.ext h2 h3)) h
   ·omega
  ·omega
 ·omega
def RisE (l : List Ed) : Prop := l.Pairwise fun x y => edLess x y = true
def PutO (l : List Ed) (e : Ed) (l' : List Ed) : Prop := RisE l' ∧ (∀ x, x ∈ l' ↔ x = e ∨ x ∈ l) ∧ l'.length ≤ l.length + 1
theorem PutO.old {l : List Ed} {e : Ed} (h : RisE l) (he : e ∈ l) : PutO l e l := ⟨h, fun x => ⟨.inr, fun g => by rcases g with rfl | g; exact he; exact g⟩, by omega⟩
theorem PutO.new {l : List Ed} {e : Ed} (h : RisE l) {k : Nat} (hlo : k = 0 ∨ ∃ y, l[k - 1]? = some y ∧ edLess y e = true) (hhi : ∀ j x, k ≤ j → l[j]? = some x → edLess e x = true) : PutO l e (l.take k ++ e :: l.drop k) := by
 have hlow : ∀ x ∈ l.take k, edLess x e = true := fun x hx => by
  obtain ⟨j, hj⟩ := List.getElem?_of_mem hx;rw [List.getElem?_take] at hj
  split at hj
  ·rename_i hjk
   rcases hlo with rfl | ⟨y, hy, hye⟩
   ·omega
   ·by_cases e1 : j = k - 1
    ·subst e1
     rw [hy] at hj;injection hj with hj;rw [← hj]; exact hye
    ·have hj2 := (List.getElem?_eq_some_iff.1 hj)
     have hy2 := (List.getElem?_eq_some_iff.1 hy);have := List.pairwise_iff_getElem.1 h j (k - 1) hj2.1 hy2.1 (by omega);rw [hj2.2, hy2.2] at this;exact edLess_trans this hye
  ·cases hj
 have hhigh : ∀ x ∈ l.drop k, edLess e x = true := fun x hx => by
  obtain ⟨j, hj⟩ := List.getElem?_of_mem hx;rw [List.getElem?_drop] at hj;exact hhi (k + j) x (by omega) hj
 have hsplit : ∀ x, x ∈ l ↔ x ∈ l.take k ∨ x ∈ l.drop k := fun x => by rw [← List.mem_append, List.take_append_drop]
 refine ⟨?_, fun x => ?_, by simp only [List.length_append, List.length_cons, List.length_take, List.length_drop]; omega⟩
 ·have hl : (l.take k ++ l.drop k).Pairwise fun x y => edLess x y = true := by rw [List.take_append_drop]; exact h
  obtain ⟨p1, p2, p3⟩ := List.pairwise_append.1 hl;refine List.pairwise_append.2 ⟨p1, List.pairwise_cons.2 ⟨hhigh, p2⟩, fun a ha b hb => ?_⟩
  rcases List.mem_cons.1 hb with rfl | hb
  ·exact hlow a ha
  ·exact p3 a ha b hb
 ·rw [List.mem_append, List.mem_cons, hsplit]
  constructor
  ·rintro (g | g | g)
   ·exact .inr (.inl g)
   ·exact .inl g
   ·exact .inr (.inr g)
  ·rintro (g | g | g)
   ·exact .inr (.inl g)
   ·exact .inl g
   ·exact .inr (.inr g)
section
variable {α : Type} {out : List α} {i : Nat} {z x : α}
theorem shiftG_set (hx : out[i]? = some x) : (out.take (i + 1) ++ z :: out.drop (i + 1)).set (i + 1) x = out.take i ++ x :: out.drop i := by
 obtain ⟨hi, hxe⟩ := List.getElem?_eq_some_iff.1 hx;have h1 : out.drop i = x :: out.drop (i + 1) := by rw [List.drop_eq_getElem_cons hi, hxe]
 rw [List.set_append_right _ _ (by rw [List.length_take]; omega), List.length_take, Nat.min_eq_left (by omega), Nat.sub_self, List.set_cons_zero, List.take_add_one, hx, h1]
 simp
theorem shiftG_end (hi : i ≤ out.length) : (out.take i ++ z :: out.drop i).set i x = out.take i ++ x :: out.drop i := by
 rw [List.set_append_right _ _ (by rw [List.length_take]; omega), List.length_take, Nat.min_eq_left (by omega), Nat.sub_self, List.set_cons_zero]
theorem shiftG_get (hx : out[i]? = some x) : (out.take (i + 1) ++ z :: out.drop (i + 1))[i]? = some x := by
 obtain ⟨hi, hxe⟩ := List.getElem?_eq_some_iff.1 hx;rw [List.getElem?_append_left (by rw [List.length_take]; omega), List.getElem?_take, if_pos (by omega), hx]
end
theorem ev_set : ∀ (l : List Ed) (k : Nat) (x y z : Int), (((l.flatMap ev).set (k * 3) (.int .i64 x)).set (k * 3 + 1) (.int .i64 y)).set (k * 3 + 2) (.int .i64 z) = (l.set k (x, y, z)).flatMap ev
 | [], _, _, _, _ => rfl
 | a :: l, 0, x, y, z => by simp [ev]
 | a :: l, k + 1, x, y, z => by
  have e0 : (k + 1) * 3 = k * 3 + 1 + 1 + 1 := by omega
  have e1 : (k + 1) * 3 + 1 = k * 3 + 1 + 1 + 1 + 1 := by omega
  have e2 : (k + 1) * 3 + 2 = k * 3 + 2 + 1 + 1 + 1 := by omega
  have ih := ev_set l k x y z;rw [List.set_cons_succ, List.flatMap_cons, List.flatMap_cons, ← ih];unfold ev;rw [e2, e1, e0]
  rfl
theorem Own.setE {w : World} {base g n c : Nat} {e : TypeId} {l : List Ed} (h : Own 3 ev w base e (some ⟨g, 0, none⟩) n c l) (k : Nat) (x y z : Int) :
  Own 3 ev (((w.setCell ⟨g, k * 3, none⟩ (.int .i64 x)).setCell ⟨g, k * 3 + 1, none⟩ (.int .i64 y)).setCell ⟨g, k * 3 + 2, none⟩ (.int .i64 z)) base e (some ⟨g, 0, none⟩) n c (l.set k (x, y, z)) := by
 rcases h.2.2 with ⟨hv, -⟩ | ⟨g', cap, cur, hv, hb, hg, hnc, hcm, hcs, htake⟩
 ·cases hv
 ·cases hv
  have h1 := heap_setCell_same w g (k * 3) cur _ (.int .i64 x) hg;have h2 := heap_setCell_same _ g (k * 3 + 1) _ _ (.int .i64 y) h1;have h3 := heap_setCell_same _ g (k * 3 + 2) _ _ (.int .i64 z) h2;refine ⟨by rw [List.length_set]; exact h.1, by rw [flat_length flat_ev, List.length_set]; have := h.1; omega, .inr ⟨g, c, _, rfl, hb, h3, hnc, hcm, by simpa using hcs, ?_⟩⟩;rw [Array.toList_setIfInBounds, Array.toList_setIfInBounds, Array.toList_setIfInBounds, List.take_set, List.take_set, List.take_set, htake];exact ev_set l k x y z
theorem Own.neE {w : World} {base e n c : Nat} {A : Option Addr} {l : List Ed} (h : Own 3 ev w base e A n c l) (hn : 0 < n) : ∃ g, A = some ⟨g, 0, none⟩ ∧ base ≤ g := by
 rcases h.2.2 with ⟨-, hv⟩ | ⟨g, cap, cur, hv, hb, -⟩
 ·omega
 ·cases hv
  exact ⟨g, rfl, hb⟩
theorem drewN_grow {w w' : World} {row : Option Nat} (h : w.grownBy w' row) (k : Nat) : w.grownBy (w'.drewN k) row := ⟨h.os, h.tape, h.output, h.size, h.block⟩
theorem setCell_grow {w w' : World} {row : Option Nat} (h : w.grownBy w' row) {g i : Nat} (hg : some g = row ∨ w.heap.size ≤ g) (v : Value) : w.grownBy (w'.setCell ⟨g, i, none⟩ v) row :=
 ⟨h.os, h.tape, h.output, by rw [World.size_setCell]; exact h.size, fun k hk hne => (Below.heap_setCell _ _ _ _ (by
  show k ≠ g
  rintro rfl
  rcases hg with e | e
  ·exact hne e
  ·omega)).trans (h.block k hk hne)⟩
theorem drewN_below (w : World) (k : Nat) {B : Nat} : Below B w (w.drewN k) := ⟨rfl, rfl, rfl, zR, fun _ _ => rfl⟩
theorem l11Put_calls (A : Option Addr) (n c : Nat) (es : List Ed) (f lb t : Int) (w : World) (base : Nat) (h : Own 3 ev w base 84 A n c es) (hs : RisE es) (hn : n ≤ 100000) (hbase : base ≤ w.heap.size) :
  Calls Tryz.prog 175 #[.slice A n c, .agg #[.int .i64 f, .int .i64 lb, .int .i64 t]] w fun e w' => ∃ A' n' c' es', e = .returned (.slice A' n' c') ∧ Own 3 ev w' base 84 A' n' c' es' ∧ PutO es (f, lb, t) es' ∧ Below base w w' ∧ w.grownBy w' (Value.slice A n c).ownBlock ∧ ((Value.slice A' n' c').ownBlock = (Value.slice A n c).ownBlock ∨ ∃ g, (Value.slice A' n' c').ownBlock = some g ∧ w.heap.size ≤ g) := by
 have hE := hide elem_edge;have hlen := h.len;have hb0 := hide ((Below.refl base w).alloc hbase (.cells #[.int .i64 f, .int .i64 lb, .int .i64 t] 84));have k0 := heap_alloc_new w (.cells #[.int .i64 f, .int .i64 lb, .int .i64 t] 84);have hO0 := hide (h.alloc (.cells #[.int .i64 f, .int .i64 lb, .int .i64 t] 84));have hz0 : w.heap.size < (w.alloc (.cells #[.int .i64 f, .int .i64 lb, .int .i64 t] 84)).heap.size := by simp
 obtain ⟨wA, hwA⟩ : ∃ wA, wA = w.alloc (.cells #[.int .i64 f, .int .i64 lb, .int .i64 t] 84) := ⟨_, rfl⟩;have hG0 := hide (World.grownBy_alloc w (.cells #[.int .i64 f, .int .i64 lb, .int .i64 t] 84) (Value.slice A n c).ownBlock);rw [← hwA] at hb0 k0 hO0 hz0 hG0;have hlt := hide h.lt;replace hs := hide hs;clear h;obtain ⟨be, hbe⟩ : ∃ be, be = w.heap.size := ⟨_, rfl⟩;have hne : Hid (∀ g, (Value.slice A n c).ownBlock = some g → base ≤ g ∧ g < be) := fun g e => by rw [hbe]; exact hlt.out g e
 rw [← hbe] at k0;have hkeep : Hid (∀ W : World, W.heap[be]? = wA.heap[be]? → W.cell? ⟨be, 0, none⟩ = some (.int .i64 f) ∧ W.cell? ⟨be, 1, none⟩ = some (.int .i64 lb) ∧ W.cell? ⟨be, 2, none⟩ = some (.int .i64 t)) := fun W hW =>
  ⟨cR 0 (hW.trans k0), cR 1 (hW.trans k0), cR 2 (hW.trans k0)⟩
 clear k0 hlt;go_enter Tryz.func175, Tryz.ntmps175;go_upto_region 2 with fail;rw [← hwA, ← hbe];replace hwA := hide hwA;have hbe2 : base ≤ be := by rw [hbe]; exact hbase
 have hbe3 : be < wA.heap.size := by rw [hbe]; exact hz0
 replace hbe := hide hbe
 go_loopw [5] (fun i wr => ∃ (k : Nat) (N : Nat), k ≤ n ∧ i = .int .i64 (k : Nat) ∧ wr = wA.drewN N ∧ Hid (∀ j x, k ≤ j → es[j]? = some x → edLess (f, lb, t) x = true)) (fun i _ => (intOf i).toNat)
 case atStart => exact ⟨n, 0, zR, by go_num, rfl, fun j x h1 h2 => by have := (List.getElem?_eq_some_iff.1 h2).1; omega⟩
 case round =>
  obtain ⟨k, N, hk, rfl, rfl, hhi⟩ := hrel;obtain ⟨e0, e1, e2⟩ := hkeep.out (wA.drewN N) rfl
  by_cases hgo : ∃ k' x, k = k' + 1 ∧ es[k']? = some x ∧ edLess (f, lb, t) x = true
  ·obtain ⟨k', ⟨x, y, z⟩, rfl, hx, hl⟩ := hgo
   have q0 : (0 : Int) < (k' : Int) + 1 := by omega
   have q1 : (0 : Int) ≤ (k' : Int) := by omega
   have q2 : (k' : Int) < (n : Int) := by omega
   obtain ⟨g, off, x', y', z', rfl, -, -, -, hx', d0, d1, d2, -⟩ := SlE.get ((hO0.out.keep (w' := wA.drewN N) fun _ _ => rfl).sl flat_ev) (show k' < n by omega);rw [hx] at hx';injection hx' with hx';injection hx' with r1 r2;injection r2 with r2 r3;subst r1 r2 r3;have ql := l11Less_calls be 0 g (off + k' * 3) f lb t x y z (wA.drewN N) e0 e1 e2 d0 d1 d2;rw [hl] at ql;replace ql := hide ql;have hhi2 : Hid (∀ j x, k' ≤ j → es[j]? = some x → edLess (f, lb, t) x = true) := fun j u h1 h2 => by
    by_cases e : j = k'
    ·subst e; rw [hx] at h2; injection h2 with h2; rw [← h2]; exact hl
    ·exact hhi.out j u (by omega) h2
   clear hx hl hhi;go_wp2_with (first | (go_at_call 232; (with_reducible refine ql.out.mono ?_); rintro e w' ⟨rfl, N2, rfl⟩));go_roundw
   case rel => exact ⟨k', N + N2, by omega, by go_num, rfl, hhi2.out⟩
   case measure => simp [intOf]
  ·have hsplit : k = 0 ∨ ∃ k' x y z, k = k' + 1 ∧ es[k']? = some (x, y, z) ∧ edLess (f, lb, t) (x, y, z) = false := by
    cases k with
    | zero => exact .inl rfl
    | succ k' =>
     obtain ⟨x, hx⟩ : ∃ x, es[k']? = some x := ⟨_, List.getElem?_eq_getElem (by omega)⟩;exact .inr ⟨k', x.1, x.2.1, x.2.2, rfl, hx, Bool.eq_false_iff.2 fun h => hgo ⟨k', x, rfl, hx, h⟩⟩
   clear hgo
   by_cases hold : ∃ k' , k = k' + 1 ∧ es[k']? = some (f, lb, t)
   ·obtain ⟨k', rfl, hx⟩ := hold
    have q0 : (0 : Int) < (k' : Int) + 1 := by omega
    have q1 : (0 : Int) ≤ (k' : Int) := by omega
    have q2 : (k' : Int) < (n : Int) := by omega
    obtain ⟨g, off, x', y', z', rfl, -, -, -, hx', d0, d1, d2, -⟩ := SlE.get ((hO0.out.keep (w' := wA.drewN N) fun _ _ => rfl).sl flat_ev) (show k' < n by omega);rw [hx] at hx';injection hx' with hx';injection hx' with r1 r2;injection r2 with r2 r3;subst r1 r2 r3;have ql := l11Less_calls be 0 g (off + k' * 3) f lb t f lb t (wA.drewN N) e0 e1 e2 d0 d1 d2;rw [edLess_irr] at ql;replace ql := hide ql;have hput := hide (PutO.old hs.out (List.mem_of_getElem? hx));have q3 : IntKind.i64.wrap (k' : Int) = (k' : Int) := IntWalk.i64_in _ (by omega);clear hx hhi hsplit;go_upto_region 4 with (first | (go_at_call 232; (with_reducible refine ql.out.mono ?_); rintro e w' ⟨rfl, N2, rfl⟩));obtain ⟨wq, hwq⟩ : ∃ wq, wq = wA.drewN (N + N2) := ⟨_, rfl⟩;have u0 : wq.cell? ⟨be, 0, none⟩ = some (.int .i64 f) := by rw [hwq]; exact e0
    have u1 : wq.cell? ⟨be, 1, none⟩ = some (.int .i64 lb) := by rw [hwq]; exact e1
    have u2 : wq.cell? ⟨be, 2, none⟩ = some (.int .i64 t) := by rw [hwq]; exact e2
    have v0 : wq.cell? ⟨g, off + k' * 3, none⟩ = some (.int .i64 f) := by rw [hwq]; exact d0
    have v1 : wq.cell? ⟨g, off + k' * 3 + 1, none⟩ = some (.int .i64 lb) := by rw [hwq]; exact d1
    have v2 : wq.cell? ⟨g, off + k' * 3 + 2, none⟩ = some (.int .i64 t) := by rw [hwq]; exact d2
    have hOq : Hid (Own 3 ev wq base 84 (some ⟨g, off, none⟩) n c es) := by rw [hwq]; exact hO0.out.keep fun _ _ => rfl
    have hbq : Hid (Below base w wq) := by rw [hwq]; exact hb0.out.trans (drewN_below _ _)
    have hGq : Hid (w.grownBy wq (Value.slice (some ⟨g, off, none⟩) n c).ownBlock) := by rw [hwq]; exact drewN_grow hG0.out _
    rw [← hwq];replace hwq := hide hwq;clear d0 d1 d2 e0 e1 e2;go_quiet (fail);go_wp2_with fail;go_ret;exact ⟨_, _, _, es, rfl, hOq.out.keep fun _ _ => rfl, hput.out, hbq.out.trans (drewN_below _ _), drewN_grow hGq.out _, .inl rfl⟩
   ·have hput : Hid (PutO es (f, lb, t) (es.take k ++ (f, lb, t) :: es.drop k)) := PutO.new hs.out (by
     rcases hsplit with h | ⟨k', x, y, z, rfl, hx, hl⟩
     ·exact .inl h
     ·refine .inr ⟨_, hx, ?_⟩
      rcases edLess_total (a := (f, lb, t)) (b := (x, y, z)) (fun e => hold ⟨k', rfl, by rw [hx, e]⟩) with h | h
      ·rw [hl] at h; cases h
      ·exact h) hhi.out
    rcases hsplit with hk0 | ⟨k', x, y, z, hk1, hx, hl⟩
    focus
     have z1 : ¬ (0 : Int) < (k : Int) := by omega
     have z2 : decide ((0 : Int) < (k : Int)) = false := decide_eq_false z1;have z3 : decide (0 < k) = false := decide_eq_false (by omega);have z4 : ¬ 0 < k := by omega
     clear hold hhi hk0;go_upto_region 4 with fail;go_quiet (fail);go_upto_region 6 with fail;obtain ⟨wv, hwv⟩ : ∃ wv, wv = (wA.drewN N).drewN nq := ⟨_, rfl⟩;have hOv : Hid (Own 3 ev wv base 84 A n c es) := by rw [hwv]; exact hO0.out.keep fun _ _ => rfl
     have hbv : Hid (Below base w wv) := by rw [hwv]; exact (hb0.out.trans (drewN_below _ _)).trans (drewN_below _ _)
     have hev : Hid (wv.heap[be]? = wA.heap[be]?) := by rw [hwv]; rfl
     have hGv : Hid (w.grownBy wv (Value.slice A n c).ownBlock) := by rw [hwv]; exact drewN_grow (drewN_grow hG0.out _) _
     have hzv : be < wv.heap.size := by rw [hwv]; exact hbe3
     rw [← hwv];replace hwv := hide hwv;clear z1 z2 z3 z4 e0 e1 e2
    rotate_left
    focus
     have hne3 : ¬ (x = f ∧ y = lb ∧ z = t) := fun ⟨a, b, c⟩ => hold ⟨k', hk1, by rw [hx, a, b, c]⟩
     have q0 : (0 : Int) < (k' : Int) + 1 := by omega
     have q1 : (0 : Int) ≤ (k' : Int) := by omega
     have q2 : (k' : Int) < (n : Int) := by omega
     have q3 : IntKind.i64.wrap (k' : Int) = (k' : Int) := IntWalk.i64_in _ (by omega);clear hold hhi;subst hk1;obtain ⟨g, off, x', y', z', eA, -, -, -, hx', d0, d1, d2, -⟩ := SlE.get ((hO0.out.keep (w' := wA.drewN N) fun _ _ => rfl).sl flat_ev) (show k' < n by omega);rw [hx] at hx';injection hx' with hx';injection hx' with r1 r2;injection r2 with r2 r3;subst r1 r2 r3 eA;have ql := l11Less_calls be 0 g (off + k' * 3) f lb t x y z (wA.drewN N) e0 e1 e2 d0 d1 d2;rw [hl] at ql;replace ql := hide ql;clear hx hl;go_upto_region 4 with (first | (go_at_call 232; (with_reducible refine ql.out.mono ?_); rintro e w' ⟨rfl, N2, rfl⟩));obtain ⟨wq, hwq⟩ : ∃ wq, wq = wA.drewN (N + N2) := ⟨_, rfl⟩;have u0 : wq.cell? ⟨be, 0, none⟩ = some (.int .i64 f) := by rw [hwq]; exact e0
     have u1 : wq.cell? ⟨be, 1, none⟩ = some (.int .i64 lb) := by rw [hwq]; exact e1
     have u2 : wq.cell? ⟨be, 2, none⟩ = some (.int .i64 t) := by rw [hwq]; exact e2
     have v0 : wq.cell? ⟨g, off + k' * 3, none⟩ = some (.int .i64 x) := by rw [hwq]; exact d0
     have v1 : wq.cell? ⟨g, off + k' * 3 + 1, none⟩ = some (.int .i64 y) := by rw [hwq]; exact d1
     have v2 : wq.cell? ⟨g, off + k' * 3 + 2, none⟩ = some (.int .i64 z) := by rw [hwq]; exact d2
     have hOq : Hid (Own 3 ev wq base 84 (some ⟨g, off, none⟩) n c es) := by rw [hwq]; exact hO0.out.keep fun _ _ => rfl
     have hbq : Hid (Below base w wq) := by rw [hwq]; exact hb0.out.trans (drewN_below _ _)
     have heq : Hid (wq.heap[be]? = wA.heap[be]?) := by rw [hwq]; rfl
     have hGq : Hid (w.grownBy wq (Value.slice (some ⟨g, off, none⟩) n c).ownBlock) := by rw [hwq]; exact drewN_grow hG0.out _
     have hzq : be < wq.heap.size := by rw [hwq]; exact hbe3
     rw [← hwq];clear d0 d1 d2 e0 e1 e2 ql;replace hwq := hide hwq;have hcase : (x == f) = false ∨ (f = x ∧ (y == lb) = false) ∨ (f = x ∧ lb = y ∧ (z == t) = false) := by
      by_cases a : x = f
      ·by_cases b : y = lb
       ·exact .inr (.inr ⟨a.symm, b.symm, beq_eq_false_iff_ne.2 fun c => hne3 ⟨a, b, c⟩⟩)
       ·exact .inr (.inl ⟨a.symm, beq_eq_false_iff_ne.2 b⟩)
      ·exact .inl (beq_eq_false_iff_ne.2 a)
     clear hne3
     rcases hcase with e3 | ⟨e4, e3⟩ | ⟨e4, e5, e3⟩
     rotate_left
     subst e4
     rotate_left
     subst e4 e5
     rotate_left
     all_goals
      go_quiet (fail);go_upto_region 6 with fail;obtain ⟨wv, hwv⟩ : ∃ wv, wv = wq.drewN nq := ⟨_, rfl⟩;have hOv : Hid (Own 3 ev wv base 84 (some ⟨g, off, none⟩) n c es) := by rw [hwv]; exact hOq.out.keep fun _ _ => rfl
      have hbv : Hid (Below base w wv) := by rw [hwv]; exact hbq.out.trans (drewN_below _ _)
      have hev : Hid (wv.heap[be]? = wA.heap[be]?) := by rw [hwv]; exact heq.out
      have hGv : Hid (w.grownBy wv (Value.slice (some ⟨g, off, none⟩) n c).ownBlock) := by rw [hwv]; exact drewN_grow hGq.out _
      have hzv : be < wv.heap.size := by rw [hwv]; exact hzq
      rw [← hwv];replace hwv := hide hwv;clear u0 u1 u2 v0 v1 v2 e3 hzq hbq heq hOq hGq q0 q1 q2 q3;obtain ⟨k, hk9⟩ : ∃ k, k = k' + 1 := ⟨_, rfl⟩;have hk8 : (k' : Int) + 1 = (k : Int) := by omega
      rw [hk8];rw [← hk9] at hk hput;clear hk8 hk9
    all_goals
     have hza : base ≤ (wv.alloc (.cells #[.int .i64 0, .int .i64 0, .int .i64 0] 84)).heap.size := by rw [World.size_alloc]; omega
     have hba := hide (hbv.out.alloc (show base ≤ wv.heap.size by omega) (.cells #[.int .i64 0, .int .i64 0, .int .i64 0] 84));go_upto_region 7 with (first | (at_builtin; (with_reducible refine wpList_app rfl (.tmp 32) (.tmp 34) rfl hE.out flat_ev rfl (hOv.out.alloc _) rfl (Sl.lit1' wv 84 ((0, 0, 0) : Ed) _ rfl 3 _ ?d0) ?d1 hza ?_); rotate_right; intro A6 c6 w6 hown6 hgr6 hb6 hat6))
     case d0 => rfl
     case d1 => omega
     obtain ⟨g6, rfl, hg6⟩ := hown6.neE (by omega);have hgb : g6 ≠ be := by
      rcases hat6 with e | e
      ·have := hne.out g6 (e.symm.trans rfl)
       omega
      ·have e2 : some g6 = some (wv.alloc (.cells #[.int .i64 0, .int .i64 0, .int .i64 0] 84)).heap.size := e
       injection e2 with e2;rw [World.size_alloc] at e2;omega
     have hg6r : (Value.slice (some ⟨g6, 0, none⟩) (n + 1) c6).ownBlock = _ ∨ w.heap.size ≤ g6 := hat6.imp id fun e => by
      have e2 : some g6 = some (wv.alloc (.cells #[.int .i64 0, .int .i64 0, .int .i64 0] 84)).heap.size := e;injection e2 with e2;rw [World.size_alloc] at e2;have := hGv.out.size;omega
     have hG6 := hide ((hGv.out.trans (World.grownBy_alloc wv _ _)).trans hgr6);replace hg6r := hide hg6r;have hb7 := hide (hba.out.trans hb6);have he6 : Hid (w6.heap[be]? = wA.heap[be]?) := by
      show _ = _
      rw [hgr6.block be (by rw [World.size_alloc]; omega) (fun e => by have := hne.out be e.symm; omega)];rw [Below.heap_alloc _ _ _ hzv];exact hev.out
     have hS0 : Hid (Own 3 ev w6 base 84 (some ⟨g6, 0, none⟩) (n + 1) c6 (es.take n ++ ((0, 0, 0) : Ed) :: es.drop n)) := by
      show Own _ _ _ _ _ _ _ _ _
      rw [List.take_of_length_le (by omega), List.drop_eq_nil_of_le (by omega)];exact hown6
     clear hown6 hgr6 hb6 hat6 hOv hbv hba hza hev hGv;go_wp2_with fail;obtain ⟨wP, hwP⟩ : ∃ wP : World, wP = w6 := ⟨_, rfl⟩
     go_loopw [6] (fun i wr => ∃ (q : Nat) (y : Ed), k ≤ q ∧ q ≤ n ∧ i = .int .i64 (q : Nat) ∧ Hid (Own 3 ev wr base 84 (some ⟨g6, 0, none⟩) (n + 1) c6 (es.take q ++ y :: es.drop q)) ∧ Hid (Below base w wr) ∧ Hid (wr.heap[be]? = wA.heap[be]?) ∧ Hid (w.grownBy wr _)) (fun i _ => (intOf i).toNat)
     case atStart => exact ⟨n, _, hk, zR, by go_num, hS0.out, hb7.out, he6.out, hG6.out⟩
     case round =>
      clear hS0 hb7 he6 hG6;obtain ⟨q, y, hq1, hq2, rfl, hS, hb, hev, hG⟩ := hrel
      by_cases hqt : k < q
      ·obtain ⟨q', rfl⟩ : ∃ q', q = q' + 1 := ⟨q - 1, by omega⟩
       have p0 : (k : Int) < (q' : Int) + 1 := by omega
       have p1 : (0 : Int) ≤ (q' : Int) := by omega
       have p2 : (q' : Int) < (n : Int) + 1 := by omega
       have p3 : (q' : Int) + 1 < (n : Int) + 1 := by omega
       have p4 : (0 : Int) ≤ (q' : Int) + 1 := by omega
       obtain ⟨⟨x1, x2, x3⟩, hx1⟩ : ∃ x, es[q']? = some x := ⟨_, List.getElem?_eq_getElem (by omega)⟩;obtain ⟨ga, oa, xa, ya, za, ea, -, -, -, hxa, ca0, ca1, ca2, -⟩ := SlE.get (hS.out.sl flat_ev) (show q' < n + 1 by omega)
       cases ea
       rw [Nat.zero_add] at ca0 ca1 ca2;rw [shiftG_get hx1] at hxa;injection hxa with hxa;injection hxa with r1 r2;injection r2 with r2 r3;subst r1 r2 r3;obtain ⟨gb, ob, xb, yb, zb, eb, -, -, -, -, cb0, cb1, cb2, fb0, fb1, fb2⟩ := SlE.get (hS.out.sl flat_ev) (show q' + 1 < n + 1 by omega)
       cases eb
       rw [Nat.zero_add] at cb0 cb1 cb2 fb0 fb1 fb2;have hset := hS.out.setE (q' + 1) x1 x2 x3;rw [shiftG_set hx1] at hset;replace hset := hide hset;have hbs := hide (((hb.out.setCell (p := ⟨g6, (q' + 1) * 3, none⟩) hg6 (.int .i64 x1)).setCell (p := ⟨g6, (q' + 1) * 3 + 1, none⟩) hg6 (.int .i64 x2)).setCell (p := ⟨g6, (q' + 1) * 3 + 2, none⟩) hg6 (.int .i64 x3));have hes : Hid ((((wr.setCell ⟨g6, (q' + 1) * 3, none⟩ (.int .i64 x1)).setCell ⟨g6, (q' + 1) * 3 + 1, none⟩ (.int .i64 x2)).setCell ⟨g6, (q' + 1) * 3 + 2, none⟩ (.int .i64 x3)).heap[be]? = wA.heap[be]?) := by
        show _ = _
        rw [Below.heap_setCell _ _ _ _ (by show be ≠ g6; omega), Below.heap_setCell _ _ _ _ (by show be ≠ g6; omega), Below.heap_setCell _ _ _ _ (by show be ≠ g6; omega)];exact hev.out
       have hGs := hide (setCell_grow (setCell_grow (setCell_grow hG.out (i := (q' + 1) * 3) hg6r.out (.int .i64 x1)) (i := (q' + 1) * 3 + 1) hg6r.out (.int .i64 x2)) (i := (q' + 1) * 3 + 2) hg6r.out (.int .i64 x3));clear hx1;go_wp2_with fail;go_roundw
       case rel => exact ⟨q', (x1, x2, x3), by omega, by omega, by go_num, hset.out, hbs.out, hes.out, hGs.out⟩
       case measure => simp [intOf]
      ·obtain rfl : q = k := by omega
       have p0 : ¬ (q : Int) < (q : Int) := by omega
       have p1 : (0 : Int) ≤ (q : Int) := by omega
       have p2 : (q : Int) < (n : Int) + 1 := by omega
       obtain ⟨e0, e1, e2⟩ := hkeep.out wr hev.out;obtain ⟨gb, ob, xb, yb, zb, eb, -, -, -, -, cb0, cb1, cb2, fb0, fb1, fb2⟩ := SlE.get (hS.out.sl flat_ev) (show q < n + 1 by omega)
       cases eb
       rw [Nat.zero_add] at cb0 cb1 cb2 fb0 fb1 fb2;have hset := hS.out.setE q f lb t;rw [shiftG_end (by omega)] at hset;replace hset := hide hset;have hbs := hide (((hb.out.setCell (p := ⟨g6, q * 3, none⟩) hg6 (.int .i64 f)).setCell (p := ⟨g6, q * 3 + 1, none⟩) hg6 (.int .i64 lb)).setCell (p := ⟨g6, q * 3 + 2, none⟩) hg6 (.int .i64 t));have hGs := hide (setCell_grow (setCell_grow (setCell_grow hG.out (i := q * 3) hg6r.out (.int .i64 f)) (i := q * 3 + 1) hg6r.out (.int .i64 lb)) (i := q * 3 + 2) hg6r.out (.int .i64 t));go_wp2_with fail;go_ret;exact ⟨_, _, _, rfl, _, hset.out, hput.out, hbs.out, hGs.out, hg6r.out.imp id fun h => ⟨_, rfl, h⟩⟩
def MadeE (ts : List ByteArray) (es es2 : List Ed) : Prop := RisE es2 ∧ es2.length ≤ es.length ∧ ∀ x, x ∈ es2 → ∃ e, e ∈ es ∧ x.1 = e.1 ∧ x.2.2 = e.2.2 ∧ 0 ≤ x.2.1 ∧ x.2.1 < ((joiF ts).length : Int)
theorem MadeE.start (ts : List ByteArray) : MadeE ts [] [] := ⟨List.Pairwise.nil, zR, fun x hx => absurd hx List.not_mem_nil⟩
theorem MadeE.put {ts : List ByteArray} {es es2 es3 : List Ed} {k : Nat} {f lb t i : Int} (h : MadeE ts (es.take k) es2) (hk : es[k]? = some (f, lb, t)) (hi : 0 ≤ i ∧ i < ((joiF ts).length : Int)) (hp : PutO es2 (f, i, t) es3) : MadeE ts (es.take (k + 1)) es3 := by
 have hkl := (List.getElem?_eq_some_iff.1 hk).1;have e : es.take (k + 1) = es.take k ++ [(f, lb, t)] := by rw [List.take_add_one, hk]; rfl
 refine ⟨hp.1, ?_, fun x hx => ?_⟩
 ·have h1 := hp.2.2
  have h2 := h.2.1;rw [e, List.length_append];simp only [List.length_singleton];omega
 ·rcases (hp.2.1 x).1 hx with rfl | hx
  ·exact ⟨(f, lb, t), by rw [e]; exact List.mem_append_right _ (List.mem_singleton.2 rfl), rfl, rfl, hi⟩
  ·obtain ⟨y, hy, r⟩ := h.2.2 x hx
   exact ⟨y, by rw [e]; exact List.mem_append_left _ hy, r⟩
theorem joi_mem {ts : List ByteArray} {s : ByteArray} (h : s ∈ ts) : s ∈ joiF ts := by
 unfold joiF;refine List.mem_map.2 ⟨toL s, ?_, ofL_toL s⟩;rw [compactL_mem, List.mem_mergeSort];exact List.mem_map_of_mem (List.mem_cons_of_mem _ h)
theorem joi_find {ts : List ByteArray} {s : ByteArray} {i : Int} (h : s ∈ ts) (hf : FindI (joiF ts) s i) : 0 ≤ i ∧ i < ((joiF ts).length : Int) := by
 rcases hf with ⟨-, h2⟩ | ⟨k, rfl, h2, -⟩
 ·rw [any_of_mem.2 (joi_mem h)] at h2; cases h2
 ·have := (List.getElem?_eq_some_iff.1 h2).1
  omega
theorem results_cell1 {fn : Func} {p : Tmp} {ty : TypeId} (h : fn.results = #[.cell p ty]) (tmps : Array Value) (P : Program) (w : World) :
  (results fn tmps).run P w = ((asAddr (tmps.getD p undef)).run P w).andThen fun a w₁ => (loadVar ty a).run P w₁ := by
 simp only [results, h]
 simp [Sem.run_bind, Result.andThen]
theorem l11Make_calls (st ini : Int) (A : Option Addr) (n c : Nat) (ts : List ByteArray) (B : Option Addr) (m d : Nat) (es : List Ed) (w : World) (hs : SlS w 0 w.heap.size A n ts) (he : SlE w 0 w.heap.size B m es) (hl : ∀ e, e ∈ es → 0 ≤ e.2.1 ∧ e.2.1 < (n : Int)) (hn : n ≤ 99999) (hm : m ≤ 99999) :
  Calls Tryz.prog 94 #[.int .i64 st, .int .i64 ini, .slice A n c, .slice B m d] w fun e w' => ∃ A2 n2 c2 B2 m2 d2 es2, e = .returned (.agg #[.int .i64 st, .int .i64 ini, .slice A2 n2 c2, .slice B2 m2 d2]) ∧ SlS w' w.heap.size w'.heap.size A2 n2 (joiF ts) ∧ SlE w' w.heap.size w'.heap.size B2 m2 es2 ∧ MadeE ts es es2 ∧ Below w.heap.size w w' := by
 have hB0 := hide ((Below.refl w.heap.size w).alloc zR (.cells #[.int .i64 0, .int .i64 0, .slice none 0 0, .slice none 0 0] 27));have k8 := heap_alloc_new w (.cells #[.int .i64 0, .int .i64 0, .slice none 0 0, .slice none 0 0] 27);have hz1 : w.heap.size < (w.alloc (.cells #[.int .i64 0, .int .i64 0, .slice none 0 0, .slice none 0 0] 27)).heap.size := by simp
 obtain ⟨w1, hw1⟩ : ∃ w1, w1 = w.alloc (.cells #[.int .i64 0, .int .i64 0, .slice none 0 0, .slice none 0 0] 27) := ⟨_, rfl⟩;rw [← hw1] at hB0 k8 hz1;have qj := hide (l11Join_calls A n c ts w1 0 w.heap.size (hs.below hB0.out (.inl zR)) (by omega) (by omega));have hlen := hide he.len;have hlenS := hide hs.len;replace hs := hide hs;replace he := hide he;replace hl := hide hl;replace k8 := hide k8;go_enter Tryz.func94, Tryz.ntmps94;go_upto_region 1 with fail;rw [← hw1];replace hw1 := hide hw1;go_wp2_with fail;refine qj.out.mono ?_;rintro e w2 ⟨A2, n2, c2, rfl, hJ, hb2⟩;have hz2 := hb2.size;have hO0 := (Own.made (α := Ed) (size := 3) (f := ev) w2 84 zR).alloc (.cells #[.int .i64 st, .int .i64 ini, .slice A2 n2 c2, .slice (some ⟨w2.heap.size, 0, none⟩) 0 0] 27);have hbo := heap_alloc_new (w2.alloc (.cells #[] 84)) (.cells #[.int .i64 st, .int .i64 ini, .slice A2 n2 c2, .slice (some ⟨w2.heap.size, 0, none⟩) 0 0] 27);rw [World.size_alloc] at hbo;have hbL := ((Below.refl w2.heap.size w2).alloc zR (.cells #[] 84)).alloc (by rw [World.size_alloc]; omega) (.cells #[.int .i64 st, .int .i64 ini, .slice A2 n2 c2, .slice (some ⟨w2.heap.size, 0, none⟩) 0 0] 27);obtain ⟨wL, hwL⟩ : ∃ wL, wL = (w2.alloc (.cells #[] 84)).alloc (.cells #[.int .i64 st, .int .i64 ini, .slice A2 n2 c2, .slice (some ⟨w2.heap.size, 0, none⟩) 0 0] 27) := ⟨_, rfl⟩;rw [← hwL] at hO0 hbo hbL;replace hO0 := hide hO0;replace hbo := hide hbo;replace hbL := hide hbL;replace hJ := hide hJ;replace hb2 := hide hb2;obtain ⟨bo, hboe⟩ : ∃ bo, bo = w2.heap.size + 1 := ⟨_, rfl⟩;rw [← hboe] at hbo;have hJs := hide (hJ.out.sl flat_strv);have hjn := hide hJ.out.len;have hJlen : Hid ((joiF ts).length ≤ ts.length + 1) := by
  show _ ≤ _
  unfold joiF;rw [List.length_map];refine Nat.le_trans (Go.Lib.compact_length_le _) ?_;rw [List.length_mergeSort, List.length_map, List.length_cons];exact zR
 clear qj;go_upto_region 3 with fail;rw [← hwL, ← hboe];replace hwL := hide hwL;have hbow : w2.heap.size < bo := by omega
 replace hboe := hide hboe
 go_loopw [10] (fun i wr => ∃ (k : Nat) (E : Option Addr) (mm cc : Nat) (es1 : List Ed), k ≤ m ∧ i = .int .i64 (k : Nat) ∧ Hid (wr.heap[bo]? = some (.cells #[.int .i64 st, .int .i64 ini, .slice A2 n2 c2, .slice E mm cc] 27 (0, 0))) ∧ Hid (Own 3 ev wr w2.heap.size 84 E mm cc es1) ∧ Hid (MadeE ts (es.take k) es1) ∧ Hid (∀ g, (Value.slice E mm cc).ownBlock = some g → g ≠ bo) ∧ Hid (Below w2.heap.size w2 wr)) (fun i _ => m - (intOf i).toNat)
 case atStart => exact ⟨0, _, 0, 0, [], Nat.zero_le _, rfl, hbo.out, hO0.out, MadeE.start ts, (fun g e => by cases e; exact Nat.ne_of_lt hbow), hbL.out⟩
 case round =>
  clear hO0 hbo hbL;obtain ⟨k, E, mm, cc, es1, hk, rfl, hbo, hO, hM, hne, hb⟩ := hrel;have hb1 := hide (hb2.out.trans (hb.out.mono hz2));have hbw := hide (hB0.out.trans (hb1.out.mono (by omega)))
  by_cases hlt : k < m
  ·have k0 : (0 : Int) ≤ (k : Int) := by omega
   have k1 : (k : Int) < (m : Int) := by omega
   obtain ⟨gb, ob, f, lb, t, rfl, -, -, hgb, hx, x0, x1, x2, -⟩ := SlE.get (he.out.below hbw.out (.inl zR)) hlt;obtain ⟨hl0, hl1⟩ := hl.out _ (List.mem_of_getElem? hx)
   (try dsimp only at hl0 hl1)
   obtain ⟨l, rfl⟩ : ∃ l : Nat, lb = (l : Int) := ⟨lb.toNat, by omega⟩;have hbx := heap_alloc_new wr (.cells #[.int .i64 f, .int .i64 (l : Int), .int .i64 t] 84);obtain ⟨wE, hwE⟩ : ∃ wE, wE = wr.alloc (.cells #[.int .i64 f, .int .i64 (l : Int), .int .i64 t] 84) := ⟨_, rfl⟩;rw [← hwE] at hbx;obtain ⟨be, hbe⟩ : ∃ be, be = wr.heap.size := ⟨_, rfl⟩;rw [← hbe] at hbx;have hBE := hide ((hb.out.alloc hb.out.size (.cells #[.int .i64 f, .int .i64 (l : Int), .int .i64 t] 84)));rw [← hwE] at hBE;have hbwE := hB0.out.trans ((hb2.out.trans (hBE.out.mono hz2)).mono (by omega));obtain ⟨bA, oA, s, rfl, -, -, -, hts, cs, -⟩ := SlS.get (hs.out.below hbwE (.inl zR)) (show l < n by omega);have hbol : bo < wr.heap.size := (Array.getElem?_eq_some_iff.1 hbo.out).1;have hboE : wE.heap[bo]? = _ := ((show wE.heap[bo]? = wr.heap[bo]? by rw [hwE]; exact Below.heap_alloc _ _ _ hbol)).trans hbo.out;have c2' : wE.cell? ⟨bo, 2, none⟩ = some (.slice A2 n2 c2) := cR 2 hboE;have y1 : wE.cell? ⟨be, 1, none⟩ = some (.int .i64 (l : Int)) := cR 1 hbx;have z1 : wE.frozen? ⟨be, 1, none⟩ = false := frozen_of_row _ _ 1 _ _ hbx;have hbel : be < wE.heap.size := (Array.getElem?_eq_some_iff.1 hbx).1;have l0 : (0 : Int) ≤ (l : Int) := by omega
   have l1 : (l : Int) < (n : Int) := by omega
   have qf := hide (l11Find_calls s A2 n2 c2 (joiF ts) wE.drew _ _ ((hJs.out.below hBE.out (.inl zR)).drewN 1) (by
    have h1 := hjn.out;have h2 := hJlen.out;have h3 := hlenS.out
    omega))
   have hsm := hide (List.mem_of_getElem? hts);replace hx := hide hx;clear hts;go_upto_region 6 with fail;rw [← hwE, ← hbe];replace hwE := hide hwE;replace hbe := hide hbe;replace hbx := hide hbx;replace hboE := hide hboE;clear x0 x1 x2
   go_still_tail 7, (by kernel_rfl)
   change wpList _ _ _ _ _ wE.drew
   go_upto_region 7 with (first | (go_at_call 174; (with_reducible refine qf.out.mono ?_); rintro e w5 ⟨i, rfl, hfi, rfl⟩));obtain ⟨wF, hwG⟩ : ∃ wF, wF = (wE.setCell ⟨be, 1, none⟩ (.int .i64 i)).drew := ⟨_, rfl⟩;have hwF : wF = wE.drew.setCell ⟨be, 1, none⟩ (.int .i64 i) := by
    rw [hwG]
    first | rfl | simp
   have hbxF : Hid (wF.heap[be]? = some (.cells #[.int .i64 f, .int .i64 i, .int .i64 t] 84 (0, 0))) := by
    show _ = _
    rw [hwF];exact heap_setCell_same wE.drew be 1 _ _ (.int .i64 i) hbx.out
   have hsame : ∀ q, q ≠ be → wF.heap[q]? = wE.heap[q]? := fun q hq => by rw [hwF]; exact Below.heap_setCell _ _ _ _ hq
   have hbF : Hid (Below w2.heap.size w2 wF) := by
    show Below _ _ _
    rw [hwF];have h0 : Below w2.heap.size w2 wE.drew := hBE.out.trans ⟨rfl, rfl, rfl, zR, fun _ _ => rfl⟩;exact h0.setCell (p := ⟨be, 1, none⟩) (by show w2.heap.size ≤ be; rw [hbe.out]; exact hb.out.size) (.int .i64 i)
   have hEbe : ∀ q, (Value.slice E mm cc).ownBlock = some q → q < be := fun q e => by rw [hbe.out]; exact (hO.out.lt q e).2
   have hOF := hO.out.keep (w' := wF) fun q e => (hsame q (by have := hEbe q e; omega)).trans (by rw [hwE.out]; exact Below.heap_alloc _ _ _ (hO.out.lt q e).2)
   have hbne : bo ≠ be := by rw [hbe.out]; omega
   have hboF : wF.heap[bo]? = _ := (hsame bo hbne).trans hboE.out;have hboFl : bo < wF.heap.size := (Array.getElem?_eq_some_iff.1 hboF).1;have hM1 := hM.out.2.1;rw [List.length_take] at hM1;have hmm := hO.out.len;have qp := hide (l11Put_calls E mm cc es1 f i t wF w2.heap.size hOF hM.out.1 (by omega) hbF.out.size);have c3' : wF.cell? ⟨bo, 3, none⟩ = some (.slice E mm cc) := cR 3 hboF;have b0 : wF.cell? ⟨be, 0, none⟩ = some (.int .i64 f) := cR 0 hbxF.out;have b1 : wF.cell? ⟨be, 1, none⟩ = some (.int .i64 i) := cR 1 hbxF.out;have b2 : wF.cell? ⟨be, 2, none⟩ = some (.int .i64 t) := cR 2 hbxF.out;have hi := joi_find hsm.out hfi;have hne2 := hide hne.out;replace hboF := hide hboF;rw [← hwG];replace hwF := hide hwF;replace hwG := hide hwG;clear c2' y1 z1 cs qf hOF hsame;go_wp2_with fail;refine qp.out.mono ?_;rintro e w8 ⟨A8, n8, c8, es8, rfl, hO8, hP8, hb8, hG8, hr8⟩;have hbo8 : w8.heap[bo]? = _ := (hG8.block bo hboFl (fun e => hne2.out bo e.symm rfl)).trans hboF.out;have d3 : w8.cell? ⟨bo, 3, none⟩ = some (.slice E mm cc) := cR 3 hbo8;have f3 : w8.frozen? ⟨bo, 3, none⟩ = false := frozen_of_row _ _ 3 _ _ hbo8;have hbo9 : Hid ((w8.setCell ⟨bo, 3, none⟩ (.slice A8 n8 c8)).heap[bo]? = some (.cells #[.int .i64 st, .int .i64 ini, .slice A2 n2 c2, .slice A8 n8 c8] 27 (0, 0))) := heap_setCell_same w8 bo 3 _ _ (.slice A8 n8 c8) hbo8;have hne8 : ∀ q, (Value.slice A8 n8 c8).ownBlock = some q → q ≠ bo := fun q e => by
    rcases hr8 with h | ⟨q2, h, hq2⟩
    ·exact hne2.out q (h.symm.trans e)
    ·rw [h] at e
     injection e with e;omega
   have hO9 := hide (hO8.keep (w' := w8.setCell ⟨bo, 3, none⟩ (.slice A8 n8 c8)) fun q e => Below.heap_setCell _ _ _ _ (hne8 q e));have hM9 := hide (hM.out.put hx.out hi hP8);have hb9 := hide ((hbF.out.trans hb8).setCell (p := ⟨bo, 3, none⟩) (Nat.le_of_lt hbow) (.slice A8 n8 c8));replace hne8 := hide hne8;replace hbo8 := hide hbo8;clear qp hO8 hP8 hb8 hG8 hr8 hx;go_wp2_with fail;go_roundw
   case rel => exact ⟨k + 1, A8, n8, c8, es8, by omega, by go_num, hbo9.out, hO9.out, hM9.out, hne8.out, hb9.out⟩
   case measure => simp [intOf]; omega
  ·obtain rfl : k = m := by omega
   have k1 : ¬ (k : Int) < (k : Int) := by omega
   have hMf : Hid (MadeE ts es es1) := by
    have := hM.out;rw [List.take_of_length_le (by rw [hlen.out]; exact zR)] at this;exact this
   have h8 : wr.heap[w.heap.size]? = _ := (hb1.out.block w.heap.size hz1).trans k8.out;have a0 : wr.cell? ⟨w.heap.size, 0, none⟩ = some (.int .i64 0) := cR 0 h8;have a1 : wr.cell? ⟨w.heap.size, 1, none⟩ = some (.int .i64 0) := cR 1 h8;have a2 : wr.cell? ⟨w.heap.size, 2, none⟩ = some (.slice none 0 0) := cR 2 h8;have a3 : wr.cell? ⟨w.heap.size, 3, none⟩ = some (.slice none 0 0) := cR 3 h8;have z0 : wr.frozen? ⟨w.heap.size, 0, none⟩ = false := frozen_of_row _ _ 0 _ _ h8;have z1 : wr.frozen? ⟨w.heap.size, 1, none⟩ = false := frozen_of_row _ _ 1 _ _ h8;have z2 : wr.frozen? ⟨w.heap.size, 2, none⟩ = false := frozen_of_row _ _ 2 _ _ h8;have z3 : wr.frozen? ⟨w.heap.size, 3, none⟩ = false := frozen_of_row _ _ 3 _ _ h8;have b0 : wr.cell? ⟨bo, 0, none⟩ = some (.int .i64 st) := cR 0 hbo.out;have b1 : wr.cell? ⟨bo, 1, none⟩ = some (.int .i64 ini) := cR 1 hbo.out;have b2 : wr.cell? ⟨bo, 2, none⟩ = some (.slice A2 n2 c2) := cR 2 hbo.out;have b3 : wr.cell? ⟨bo, 3, none⟩ = some (.slice E mm cc) := cR 3 hbo.out;have hJr := hide (hJs.out.below hb.out (.inl zR));have hOr := hide (hO.out.sl flat_ev);replace h8 := hide h8;clear hM;go_wp2_with fail
   (try simp only [Exit.inBlock, Exit.then])
   refine bodyPost_ret_by (v := .agg #[.int .i64 st, .int .i64 ini, .slice A2 n2 c2, .slice E mm cc]) ?_ rfl ?_
   focus
    rw [results_cell1 rfl];go_simp
   obtain ⟨wZ, hwZ⟩ : ∃ wZ, wZ = ((((wr.setCell ⟨w.heap.size, 0, none⟩ (.int .i64 st)).setCell ⟨w.heap.size, 1, none⟩ (.int .i64 ini)).setCell ⟨w.heap.size, 2, none⟩ (.slice A2 n2 c2)).setCell ⟨w.heap.size, 3, none⟩ (.slice E mm cc)) := ⟨_, rfl⟩;have hZ : ∀ q, q ≠ w.heap.size → wZ.heap[q]? = wr.heap[q]? := fun q hq => by
    rw [hwZ, Below.heap_setCell _ _ _ _ hq, Below.heap_setCell _ _ _ _ hq, Below.heap_setCell _ _ _ _ hq, Below.heap_setCell _ _ _ _ hq]
   have hZs : wZ.heap.size = wr.heap.size := by rw [hwZ]; simp
   have hZb : Below w.heap.size w wZ := by
    rw [hwZ];exact (((hbw.out.setCell (p := ⟨w.heap.size, 0, none⟩) zR _).setCell (p := ⟨w.heap.size, 1, none⟩) zR _).setCell (p := ⟨w.heap.size, 2, none⟩) zR _).setCell (p := ⟨w.heap.size, 3, none⟩) zR _
   rw [← hwZ];have hbs := hb.out.size;have h1 : SlS wZ w.heap.size wZ.heap.size A2 n2 (joiF ts) := (Sl.keep hJr.out (by omega) fun q h1 h2 h3 => hZ q (by omega)).more (by omega) (by omega);have h2 : SlE wZ w.heap.size wZ.heap.size E mm es1 := (Sl.keep hOr.out (by omega) fun q h1 h2 h3 => hZ q (by omega)).more (by omega) (by omega);exact ⟨_, _, _, _, _, ⟨_, rfl⟩, h1, _, h2, hMf.out, hZb⟩
def nm5 : List ByteArray := [⟨#[97]⟩, ⟨#[98]⟩, ⟨#[99]⟩, ⟨#[103, 101, 116, 40, 48, 41]⟩, ⟨#[103, 101, 116, 40, 49, 41]⟩]
def NamD (ts : List ByteArray) : Prop := ∀ x, x ∈ ts → x = tauB ∨ x ∈ nm5
theorem NamD.app {ts : List ByteArray} (h : NamD ts) {x : ByteArray} (hx : x ∈ nm5) : NamD (ts ++ [x]) := fun y hy => by
 rcases List.mem_append.1 hy with h1 | h1
 ·exact h y h1
 ·rw [List.mem_singleton.1 h1]; exact .inr hx
theorem l11DrawNames_calls (b N : Nat) (w : World) (h : SrcW w b N) (hN : N ≤ 800000000) :
  Calls Tryz.prog 209 #[.pointer (some ⟨b, 0, none⟩)] w fun e w' => ∃ A n c ts, e = .returned (.slice A n c) ∧ SlS w' w.heap.size w'.heap.size A n ts ∧ 2 ≤ n ∧ n ≤ 5 ∧ NamD ts ∧ SrcW w' b (N + 10) ∧ Only b (b + 1) w w' := by
 have hE := hide elem_str;have hbl := h.lt;have k1 := heap_alloc_new w (.cells #[.string tauB] 9);have hO1 : Own 1 strv (w.alloc (.cells #[.string tauB] 9)) w.heap.size 9 (some ⟨w.heap.size, 0, none⟩) 1 1 [tauB] := Own.litL k1 rfl zR;have hO0 := hO1.alloc (.cells #[.string ⟨#[97]⟩, .string ⟨#[98]⟩, .string ⟨#[99]⟩, .string ⟨#[103, 101, 116, 40, 48, 41]⟩, .string ⟨#[103, 101, 116, 40, 49, 41]⟩] 9);have hS0 := (h.alloc (.cells #[.string tauB] 9)).alloc (.cells #[.string ⟨#[97]⟩, .string ⟨#[98]⟩, .string ⟨#[99]⟩, .string ⟨#[103, 101, 116, 40, 48, 41]⟩, .string ⟨#[103, 101, 116, 40, 49, 41]⟩] 9);have hon := ((Only.refl b (b + 1) w).alloc' (.cells #[.string tauB] 9)).alloc' (.cells #[.string ⟨#[97]⟩, .string ⟨#[98]⟩, .string ⟨#[99]⟩, .string ⟨#[103, 101, 116, 40, 48, 41]⟩, .string ⟨#[103, 101, 116, 40, 49, 41]⟩] 9);have hbx := heap_alloc_new (w.alloc (.cells #[.string tauB] 9)) (.cells #[.string ⟨#[97]⟩, .string ⟨#[98]⟩, .string ⟨#[99]⟩, .string ⟨#[103, 101, 116, 40, 48, 41]⟩, .string ⟨#[103, 101, 116, 40, 49, 41]⟩] 9);rw [World.size_alloc] at hbx;have hz0 : w.heap.size + 2 ≤ ((w.alloc (.cells #[.string tauB] 9)).alloc (.cells #[.string ⟨#[97]⟩, .string ⟨#[98]⟩, .string ⟨#[99]⟩, .string ⟨#[103, 101, 116, 40, 48, 41]⟩, .string ⟨#[103, 101, 116, 40, 49, 41]⟩] 9)).heap.size := by simp
 obtain ⟨wA, hwA⟩ : ∃ wA, wA = (w.alloc (.cells #[.string tauB] 9)).alloc (.cells #[.string ⟨#[97]⟩, .string ⟨#[98]⟩, .string ⟨#[99]⟩, .string ⟨#[103, 101, 116, 40, 48, 41]⟩, .string ⟨#[103, 101, 116, 40, 49, 41]⟩] 9) := ⟨_, rfl⟩;rw [← hwA] at hO0 hS0 hon hbx hz0;replace hO0 := hide hO0;replace hS0 := hide hS0;replace hon := hide hon;replace hbx := hide hbx;clear h hO1 k1;go_enter Tryz.func209, Tryz.ntmps209;go_upto_region 4 with fail;have hwA' : (w.alloc (.cells #[.string ⟨#[116, 97, 117]⟩] 9)).alloc (.cells #[.string ⟨#[97]⟩, .string ⟨#[98]⟩, .string ⟨#[99]⟩, .string ⟨#[103, 101, 116, 40, 48, 41]⟩, .string ⟨#[103, 101, 116, 40, 49, 41]⟩] 9) = wA := hwA.symm;rw [hwA'];replace hwA := hide hwA;replace hwA' := hide hwA'
 go_loopw [3, 5] (fun o i wr => ∃ (k : Nat) (A : Option Addr) (m c : Nat) (ts : List ByteArray), k ≤ 5 ∧ i = .int .i64 (k : Nat) ∧ o = .slice A m c ∧ 1 ≤ m ∧ m ≤ 4 ∧ Hid (Own 1 strv wr w.heap.size 9 A m c ts) ∧ Hid (NamD ts) ∧ Hid (SrcW wr b (N + 2 * k)) ∧ Hid (Only b (b + 1) w wr) ∧ Hid (wr.heap[w.heap.size + 1]? = wA.heap[w.heap.size + 1]?) ∧ Hid (∀ g, (Value.slice A m c).ownBlock = some g → g ≠ w.heap.size + 1) ∧ w.heap.size + 2 ≤ wr.heap.size) (fun _ i _ => 5 - (intOf i).toNat)
 case atStart => exact ⟨0, _, 1, 1, [tauB], Nat.zero_le _, rfl, rfl, zR, by omega, hO0.out, (fun x hx => .inl (List.mem_singleton.1 hx)), hS0.out, hon.out, rfl, (fun g e => by cases e; exact Nat.ne_of_lt (Nat.lt_succ_self _)), hz0⟩
 case round =>
  clear hO0 hS0 hon;obtain ⟨k, A, m, c, ts, hk, rfl, rfl, hm1, hm4, hO, hD, hS, hon, hbk, hnb, hzr⟩ := hrel
  by_cases hlt : k < 5
  ·have k0 : (0 : Int) ≤ (k : Int) := by omega
   have k1 : (k : Int) < 5 := by omega
   have q := hide (one_calls b (N + 2 * k) 2 wr hS.out (by omega));have hc : ∃ x, x ∈ nm5 ∧ ∀ W : World, W.heap[w.heap.size + 1]? = wA.heap[w.heap.size + 1]? → W.cell? ⟨w.heap.size + 1, k, none⟩ = some (.string x) := by
    have : k = 0 ∨ k = 1 ∨ k = 2 ∨ k = 3 ∨ k = 4 := by omega
    rcases this with rfl | rfl | rfl | rfl | rfl
    all_goals
     refine ⟨_, ?_, fun W hW => (cell_of_row _ _ _ _ _ (0, 0) (hW.trans hbx.out)).trans rfl⟩
     simp [nm5]
   obtain ⟨x, hxm, hxc⟩ := hc;replace hxc := hide hxc;have hbw := hS.out.lt;go_upto_region 6 with fail;go_wp2_with fail;refine q.out.mono ?_;rintro e w5 ⟨v, rfl, hT⟩;have hO5 := hide (hO.out.keep (w' := w5) fun g e => hT.only.block g (hO.out.lt g e).2 (by have := (hO.out.lt g e).1; omega));have hS5 := hide (hT.src.more (show N + 2 * k + 2 ≤ N + 2 * (k + 1) by omega));have hon5 := hide (Only.trans' hon.out hT.only);have hbk5 := hide ((hT.only.block (w.heap.size + 1) (by omega) (by omega)).trans hbk.out);have hz5 : w.heap.size + 2 ≤ w5.heap.size := by have := hT.size; omega
   have cx := hxc.out w5 hbk5.out;clear q hO hS hon hbk hT
   cases v with
   | false =>
    clear cx;go_wp2_with fail;go_roundw
    case rel => exact ⟨k + 1, A, m, c, ts, by omega, by go_num, rfl, hm1, hm4, hO5.out, hD.out, hS5.out, hon5.out, hbk5.out, hnb.out, hz5⟩
    case measure => simp [intOf]; omega
   | true =>
    by_cases hm : m < 4
    ·have g1 : (m : Int) < 4 := by omega
     have hza : w.heap.size ≤ (w5.alloc (.cells #[.string x] 9)).heap.size := by rw [World.size_alloc]; omega
     have hOa := hide (hO5.out.alloc (.cells #[.string x] 9));have hSa := hide (hS5.out.alloc (.cells #[.string x] 9));have hona := hide (hon5.out.alloc' (.cells #[.string x] 9));have hbka : Hid ((w5.alloc (.cells #[.string x] 9)).heap[w.heap.size + 1]? = wA.heap[w.heap.size + 1]?) := (Below.heap_alloc _ _ _ (by omega)).trans hbk5.out;have hrow := hide (fun q (e : (Value.slice A m c).ownBlock = some q) => (hOa.out.lt q e).1);have hD2 := hide (hD.out.app hxm);clear hO5 hS5 hon5 hbk5;go_wp2_with (first | (at_builtin; (with_reducible refine wpList_app rfl (.tmp 21) (.tmp 26) rfl hE.out flat_strv rfl hOa.out rfl (Sl.lit1' w5 9 x _ rfl 1 _ ?d0) ?d1 hza ?_); rotate_right; intro A6 c6 w6 hown6 hgr6 hb6 hat6))
     case d0 => rfl
     case d1 => omega
     have hS6 := hide (hSa.out.grow hgr6 (fun q e => by have := hrow.out q e; omega));have hon6 := hide (hona.out.grow hgr6 (fun q e => hrow.out q e));have hbk6 := hide ((hgr6.block (w.heap.size + 1) (by rw [World.size_alloc]; omega) (fun e => hnb.out _ e.symm rfl)).trans hbka.out);have hnb6 : Hid (∀ g, (Value.slice A6 (m + 1) c6).ownBlock = some g → g ≠ w.heap.size + 1) := fun g e => by
      rcases hat6 with h1 | h1
      ·exact hnb.out g (h1.symm.trans e)
      ·rw [h1] at e
       injection e with e;rw [World.size_alloc] at e;omega
     have hz6 := hgr6.size;rw [World.size_alloc] at hz6;replace hown6 := hide hown6;clear hgr6 hb6 hat6 hOa hSa hona hbka hrow;go_roundw
     case rel => exact ⟨k + 1, A6, _, c6, _, by omega, by go_num, rfl, by omega, by omega, hown6.out, hD2.out, hS6.out, hon6.out, hbk6.out, hnb6.out, by omega⟩
     case measure => simp [intOf]; omega
    ·have g1 : ¬ (m : Int) < 4 := by omega
     clear cx;go_wp2_with fail;go_roundw
     case rel => exact ⟨k + 1, A, m, c, ts, by omega, by go_num, rfl, hm1, hm4, hO5.out, hD.out, hS5.out, hon5.out, hbk5.out, hnb.out, hz5⟩
     case measure => simp [intOf]; omega
  ·obtain rfl : k = 5 := by omega
   have hSe := hide (hS.out.more (show N + 2 * 5 ≤ N + 10 by omega))
   by_cases hm : m = 1
   ·subst hm
    have hza : w.heap.size ≤ (wr.alloc (.cells #[.string ⟨#[97]⟩] 9)).heap.size := by rw [World.size_alloc]; omega
    have hOa := hide (hO.out.alloc (.cells #[.string ⟨#[97]⟩] 9));have hSa := hide (hSe.out.alloc (.cells #[.string ⟨#[97]⟩] 9));have hona := hide (hon.out.alloc' (.cells #[.string ⟨#[97]⟩] 9));have hrow := hide (fun q (e : (Value.slice A 1 c).ownBlock = some q) => (hOa.out.lt q e).1);have hD2 := hide (hD.out.app (x := ⟨#[97]⟩) (by simp [nm5]));clear hO hS hon hbk hnb;go_wp2_with (first | (at_builtin; (with_reducible refine wpList_app rfl (.tmp 31) (.tmp 32) rfl hE.out flat_strv rfl hOa.out rfl (Sl.lit1' wr 9 (⟨#[97]⟩ : ByteArray) _ rfl 1 _ ?d0) ?d1 hza ?_); rotate_right; intro A6 c6 w6 hown6 hgr6 hb6 hat6))
    case d0 => rfl
    case d1 => omega
    have hS6 := hide (hSa.out.grow hgr6 (fun q e => by have := hrow.out q e; omega));have hon6 := hide (hona.out.grow hgr6 (fun q e => hrow.out q e));have hsl := hide (hown6.sl flat_strv);clear hgr6 hb6 hat6 hOa hSa hona hrow hown6;go_ret;exact ⟨_, _, _, _, rfl, hsl.out, by omega, by omega, hD2.out, hS6.out, hon6.out⟩
   ·have g1 : ((m : Int) == 1) = false := by rw [beq_eq_false_iff_ne]; omega
    have g2 : ¬ m = 1 := hm;have hsl := hide (hO.out.sl flat_strv);go_wp2_with fail;go_ret;exact ⟨_, _, _, _, rfl, hsl.out, by omega, by omega, hD.out, hSe.out, hon.out⟩
end Go.Proofs.YtnhomkmfbngmgaaGreatDoor
namespace Go.Proofs.YtnhomkmfbngmgaaGreatDoor
theorem nm5_lab : ∀ x, x ∈ nm5 → labS x = true ∧ x ≠ tauB := by
 intro x hx;unfold nm5 at hx;simp only [List.mem_cons, List.mem_nil_iff, or_false] at hx
 rcases hx with rfl | rfl | rfl | rfl | rfl
 all_goals exact ⟨by kernel_rfl, by decide⟩
theorem joi_rise (ts : List ByteArray) : ((joiF ts).map toL).Pairwise fun x y => ltL x y = true := by
 unfold joiF;rw [map_toL_ofL2];exact compact_rise (sortL_rise _)
theorem joi_mem_iff (ts : List ByteArray) (x : ByteArray) : x ∈ joiF ts ↔ x = tauB ∨ x ∈ ts := by
 constructor
 ·intro h
  unfold joiF at h;obtain ⟨y, hy, rfl⟩ := List.mem_map.1 h;rw [compactL_mem, List.mem_mergeSort] at hy;obtain ⟨z, hz, rfl⟩ := List.mem_map.1 hy;rw [ofL_toL];exact List.mem_cons.1 hz
 ·intro h
  unfold joiF;refine List.mem_map.2 ⟨toL x, ?_, ofL_toL x⟩;rw [compactL_mem, List.mem_mergeSort];exact List.mem_map_of_mem (List.mem_cons.2 h)
theorem joi_lt {ts : List ByteArray} {i j : Nat} {x y : ByteArray} (hx : (joiF ts)[i]? = some x) (hy : (joiF ts)[j]? = some y) (hij : i < j) : ltL (toL x) (toL y) = true := by
 have hi := List.getElem?_eq_some_iff.1 hx;have hj := List.getElem?_eq_some_iff.1 hy;have := List.pairwise_iff_getElem.1 (joi_rise ts) i j (by rw [List.length_map]; exact hi.1) (by rw [List.length_map]; exact hj.1) hij;rw [List.getElem_map, List.getElem_map, hi.2, hj.2] at this;exact this
theorem not_lt_tau (x : List UInt8) : ltL x tauBL = false := Bool.eq_false_iff.2 fun h => by
 rw [ltL_iff] at h
 rcases h.2 with e | e
 ·exact h.1 e
 ·exact e.1 rfl
theorem joi_head (ts : List ByteArray) : (joiF ts)[0]? = some tauB := by
 have hm : tauB ∈ joiF ts := (joi_mem_iff ts tauB).2 (.inl rfl);obtain ⟨j, hj⟩ := List.getElem?_of_mem hm
 by_cases e : j = 0
 ·rw [← e]; exact hj
 ·have hjl := (List.getElem?_eq_some_iff.1 hj).1
  obtain ⟨x, hx⟩ : ∃ x, (joiF ts)[0]? = some x := ⟨_, List.getElem?_eq_getElem (by omega)⟩;have := joi_lt hx hj (by omega);rw [toL_tau, not_lt_tau] at this
  cases this
theorem joi_names {ts : List ByteArray} (h : ∀ x, x ∈ ts → x = tauB ∨ labS x = true) (hl : (joiF ts).length ≤ 12) : namesB (joiF ts) = true := by
 have h0 := joi_head ts;have hpos := (List.getElem?_eq_some_iff.1 h0).1;unfold namesB;rw [Bool.and_eq_true];refine ⟨inB_true.2 (by omega), allK_good fun k hk => ?_⟩;obtain ⟨s, hs⟩ : ∃ s, (joiF ts)[k]? = some s := ⟨_, List.getElem?_eq_getElem hk⟩
 by_cases k0 : k = 0
 ·subst k0
  rw [okL_zero hs];rw [h0] at hs;injection hs with hs;exact decide_eq_true hs.symm
 ·obtain ⟨y, hy⟩ : ∃ y, (joiF ts)[k - 1]? = some y := ⟨_, List.getElem?_eq_getElem (by omega)⟩
  rw [okL_at hs (by omega) hy];have hst : s ≠ tauB := fun e => by
   have := joi_lt h0 hs (by omega);rw [e, ltL_irr] at this
   cases this
  have hlab : labS s = true := by
   rcases (joi_mem_iff ts s).1 (List.mem_of_getElem? hs) with e | e
   ·exact absurd e hst
   ·rcases h s e with e2 | e2
    ·exact absurd e2 hst
    ·exact e2
  rw [hlab, decide_eq_false hst]
  by_cases k1 : k ≤ 1
  ·simp [k1]
  ·have hlt := joi_lt hy hs (by omega)
   rw [ltL_iff] at hlt;have hyt : toL y ≠ tauBL := fun e => by
    have h3 := joi_lt h0 hy (by omega);rw [toL_tau, e, ltL_irr] at h3
    cases h3
   rcases hlt.2 with e | e
   ·exact absurd e hyt
   ·have : sLess y s = true := by unfold sLess; rw [toL_eq, toL_eq]; exact e.2
    simp [this]
theorem made_valid {st ini : Int} {ts : List ByteArray} {es es2 : List Ed} (h1 : 1 ≤ st ∧ st ≤ 40) (h2 : 0 ≤ ini ∧ ini < st) (hn : ∀ x, x ∈ ts → x = tauB ∨ labS x = true) (hl : (joiF ts).length ≤ 12) (hes : es.length ≤ 300) (he : ∀ e, e ∈ es → (0 ≤ e.1 ∧ e.1 < st) ∧ 0 ≤ e.2.2 ∧ e.2.2 < st) (hm : MadeE ts es es2) : ltsV (st, ini, joiF ts, es2) = true := by
 obtain ⟨m1, m2, m3⟩ := hm;rw [ltsV_eq];simp only [Bool.and_eq_true, decide_eq_true_eq];refine ⟨⟨inB_true.2 (by omega), inB_true.2 (by omega), joi_names hn hl, by omega⟩, allK_good fun k hk => ?_⟩;obtain ⟨⟨f, lb, t⟩, hx⟩ : ∃ x, es2[k]? = some x := ⟨_, List.getElem?_eq_getElem hk⟩;obtain ⟨e, hem, e1, e2, e3, e4⟩ := m3 _ (List.mem_of_getElem? hx);obtain ⟨a1, a2⟩ := he e hem
 (try dsimp only at e1 e2 e3 e4)
 have b1 : inB f 0 (st - 1) = true := inB_true.2 (by omega);have b2 : inB t 0 (st - 1) = true := inB_true.2 (by omega);have b3 : inB lb 0 (((joiF ts).length : Int) - 1) = true := inB_true.2 (by omega)
 by_cases k0 : k = 0
 ·subst k0
  have := okE_zero (st := st) (m := (joiF ts).length) hx;rw [this, b1, b2, b3]; rfl
 ·obtain ⟨r, hr⟩ : ∃ r, es2[k - 1]? = some r := ⟨_, List.getElem?_eq_getElem (by omega)⟩
  have := okE_at (st := st) (m := (joiF ts).length) hx (by omega) hr;rw [this, b1, b2, b3];have p := List.pairwise_iff_getElem.1 m1 (k - 1) k (by omega) hk (by omega);rw [(List.getElem?_eq_some_iff.1 hr).2, (List.getElem?_eq_some_iff.1 hx).2] at p;rw [p]; rfl
end Go.Proofs.YtnhomkmfbngmgaaGreatDoor
namespace Go.Proofs
open Go.Shelf
def Tryz.laysSortG_ren : Go.Shelf.Ren := ⟨fun | 6 => 132 | 15 => 224 | 14 => 223 | 28 => 289 | 29 => 290 | 20 => 281 | 21 => 282 | 22 => 283 | 23 => 284 | 24 => 285 | 25 => 286 | 26 => 287 | 27 => 288 | 46 => 339 | 47 => 340 | 48 => 341 | 49 => 342 | 50 => 343 | 57 => 374 | n => n, fun | 22 => 25 | 24 => 84 | 25 => 147 | 3 => 3 | 39 => 243 | 0 => 0 | 53 => 292 | 55 => 137 | 4 => 4 | 46 => 285 | 45 => 284 | 50 => 289 | 5 => 5 | 9 => 9 | 66 => 327 | 70 => 331 | 76 => 352 | 77 => 353 | n => n, fun | n => n⟩
theorem Tryz.laysSortG : Go.Proofs.SlLaysF0.n6 Tryz.prog Tryz.laysSortG_ren := {
 mixed := by kernel_rfl
 f6 := ⟨Tryz.f132.name, by decide, Tryz.func132.trans (congrArg some (by kernel_rfl))⟩
 f14 := ⟨Tryz.f223.name, by decide, Tryz.func223.trans (congrArg some (by kernel_rfl))⟩
 f15 := Tryz.func224.trans (congrArg some (by kernel_rfl))
 f20 := ⟨Tryz.f281.name, by decide, Tryz.func281.trans (congrArg some (by kernel_rfl))⟩
 f21 := ⟨Tryz.f282.name, by decide, Tryz.func282.trans (congrArg some (by kernel_rfl))⟩
 f22 := ⟨Tryz.f283.name, by decide, Tryz.func283.trans (congrArg some (by kernel_rfl))⟩
 f23 := ⟨Tryz.f284.name, by decide, Tryz.func284.trans (congrArg some (by kernel_rfl))⟩
 f24 := ⟨Tryz.f285.name, by decide, Tryz.func285.trans (congrArg some (by kernel_rfl))⟩
 f25 := ⟨Tryz.f286.name, by decide, Tryz.func286.trans (congrArg some (by kernel_rfl))⟩
 f26 := ⟨Tryz.f287.name, by decide, Tryz.func287.trans (congrArg some (by kernel_rfl))⟩
 f27 := ⟨Tryz.f288.name, by decide, Tryz.func288.trans (congrArg some (by kernel_rfl))⟩
 f28 := Tryz.func289.trans (congrArg some (by kernel_rfl))
 f29 := Tryz.func290.trans (congrArg some (by kernel_rfl))
 f46 := ⟨Tryz.f339.name, by decide, Tryz.func339.trans (congrArg some (by kernel_rfl))⟩
 f47 := Tryz.func340.trans (congrArg some (by kernel_rfl))
 f48 := Tryz.func341.trans (congrArg some (by kernel_rfl))
 f49 := ⟨Tryz.f342.name, by decide, Tryz.func342.trans (congrArg some (by kernel_rfl))⟩
 f50 := ⟨Tryz.f343.name, by decide, Tryz.func343.trans (congrArg some (by kernel_rfl))⟩
 f57 := ⟨Tryz.f374.name, by decide, Tryz.func374.trans (congrArg some (by kernel_rfl))⟩
 t0 := Tryz.underlying0
 a0 := Tryz.isAgg0
 z0 := Tryz.sizeOf0
 v0 := Tryz.zeroValue0
 t3 := Tryz.underlying3
 a3 := Tryz.isAgg3
 z3 := Tryz.sizeOf3
 v3 := Tryz.zeroValue3
 t4 := Tryz.underlying4
 a4 := Tryz.isAgg4
 z4 := Tryz.sizeOf4
 v4 := Tryz.zeroValue4
 t5 := Tryz.underlying5
 a5 := Tryz.isAgg5
 z5 := Tryz.sizeOf5
 v5 := Tryz.zeroValue5
 t9 := Tryz.underlying9
 a9 := Tryz.isAgg9
 z9 := Tryz.sizeOf9
 v9 := Tryz.zeroValue9
 t22 := Tryz.underlying25
 a22 := Tryz.isAgg25
 z22 := Tryz.sizeOf25
 v22 := Tryz.zeroValue25
 t25 := Tryz.underlying147
 a25 := Tryz.isAgg147
 z25 := Tryz.sizeOf147
 v25 := Tryz.zeroValue147
 t39 := Tryz.underlying243
 a39 := Tryz.isAgg243
 z39 := Tryz.sizeOf243
 v39 := Tryz.zeroValue243
 t45 := Tryz.underlying284
 a45 := Tryz.isAgg284
 z45 := Tryz.sizeOf284
 v45 := Tryz.zeroValue284
 t46 := Tryz.underlying285
 a46 := Tryz.isAgg285
 z46 := Tryz.sizeOf285
 v46 := Tryz.zeroValue285
 t50 := Tryz.underlying289
 a50 := Tryz.isAgg289
 z50 := Tryz.sizeOf289
 v50 := Tryz.zeroValue289
 t53 := Tryz.underlying292
 a53 := Tryz.isAgg292
 z53 := Tryz.sizeOf292
 v53 := Tryz.zeroValue292
 t55 := Tryz.underlying137
 a55 := Tryz.isAgg137
 z55 := Tryz.sizeOf137
 v55 := Tryz.zeroValue137
 t66 := Tryz.underlying327
 a66 := Tryz.isAgg327
 z66 := Tryz.sizeOf327
 v66 := Tryz.zeroValue327
 t70 := Tryz.underlying331
 a70 := Tryz.isAgg331
 z70 := Tryz.sizeOf331
 v70 := Tryz.zeroValue331
 t76 := Tryz.underlying352
 a76 := Tryz.isAgg352
 z76 := Tryz.sizeOf352
 v76 := Tryz.zeroValue352
 t77 := Tryz.underlying353
 a77 := Tryz.isAgg353
 z77 := Tryz.sizeOf353
 v77 := Tryz.zeroValue353 }
open Go.Shelf Go.RowKit Go.Lib Go.Sort in
theorem Tryz.slices_SortFunc_edge {α : Type} [Inhabited α] (enc : α → List Value) (hk : ∀ x, (enc x).length = 3) (h1 : ∀ x, ∀ v ∈ enc x, v.oneCell' = true) (cf : α → α → Int) (hO : SWO (ltOf cf)) (g : Nat) (cb : Array Value) (blk off cap : Nat) (d : Array α) (w : World) (eg : ∀ args w, (callFunc g args).run Tryz.prog w = .ok (.enter g args) w) (hcmp : CmpLays Tryz.prog g cb enc 3 cf blk off d.size w) (hH : HoldsK enc 3 w blk off d) (hblk : blk < w.heap.size) (hsz : d.size < 4611686018427387904) (hT : ∀ x y, (ltOf cf) x y = false → (ltOf cf) y x = false → x = y) :
  Calls Tryz.prog 132 #[.slice (some ⟨blk, off, none⟩) d.size cap, .func (.func g) #[] cb] w fun e w' =>
   e = .returned (.tuple #[]) ∧ ∃ n os, w' = sortWorldK enc 3 w blk off n (d.toList.mergeSort fun x y => !(ltOf cf) y x).toArray os := AnyQ.slices_SortFunc_total Tryz.laysSortG 3 Tryz.isAgg84 Tryz.sizeOf84 enc hk h1 cf hO g cb blk off cap d w eg hcmp hH hblk hsz hT
open Go.Shelf Go.RowKit Go.Lib Go.Sort in
theorem Tryz.slices_SortFunc_edge_none (p : Option Addr) (cap : Nat) (fv : Value) (w : World) :
  Calls Tryz.prog 132 #[.slice p 0 cap, fv] w fun e w' => e = .returned (.tuple #[]) ∧ w' = w := AnyF.slices_SortFunc_none Tryz.laysSortG p cap fv w
end Go.Proofs
