/-
  Sets of pairs that grow till nothing is new: plain. Conditions: none.
-/
import Derived.Test.YtiaclddgllkgpaaGreatDoorAftI
import Derived.Test.YtiaclddgllkgpaaGreatDoorSets
namespace Go.Proofs.YtiaclddgllkgpaaGreatDoor
set_option linter.unusedVariables false
set_option linter.unusedSimpArgs false

abbrev Rel2 := Int → Int → Prop
/-- The least set of pairs in R that is closed under F. -/
def Lf (R : Rel2) (F : Rel2 → Rel2) (x y : Int) : Prop := ∀ D : Rel2, (∀ x y, R x y → F D x y → D x y) → D x y
def MonoF (F : Rel2 → Rel2) : Prop := ∀ D E : Rel2, (∀ x y, D x y → E x y) → ∀ x y, F D x y → F E x y
theorem Lf.add {R : Rel2} {F : Rel2 → Rel2} (hm : MonoF F) {x y : Int} (hR : R x y) (h : F (Lf R F) x y) : Lf R F x y := fun D hD => hD x y hR (hm _ _ (fun u v h => h D hD) x y h)
theorem Lf.done {R : Rel2} {F : Rel2 → Rel2} {D : Rel2} (hs : ∀ x y, D x y → Lf R F x y) (hc : ∀ x y, R x y → F D x y → D x y) (x y : Int) : D x y ↔ Lf R F x y := ⟨hs x y, fun h => h D hc⟩

theorem count_set {b : Bool} : ∀ {l : List Bool} {i : Nat}, l[i]? = some b → (l.set i (!b)).count b + 1 = l.count b
  | [], i, h => by simp at h
  | a :: l, 0, h => by
    simp at h
    subst h
    cases a <;> simp [List.count_cons]
  | a :: l, i + 1, h => by
    have := count_set (l := l) (i := i) (by simpa using h)
    simp only [List.set_cons_succ, List.count_cons]
    omega

/-- A table of rows of answers. -/
def getM (M : List (List Bool)) (x y : Nat) : Option Bool := M[x]?.bind fun r => r[y]?
def setM (M : List (List Bool)) (x y : Nat) (b : Bool) : List (List Bool) := M.set x ((M[x]?.getD []).set y b)
def cntM (b : Bool) (M : List (List Bool)) : Nat := (M.map (List.count b)).sum
theorem getM_row {M : List (List Bool)} {x y : Nat} {b : Bool} (h : getM M x y = some b) : ∃ r, M[x]? = some r ∧ r[y]? = some b := by
  unfold getM at h
  cases hr : M[x]? with
  | none => rw [hr] at h; cases h
  | some r => rw [hr] at h; exact ⟨r, rfl, h⟩
theorem cntM_row {b : Bool} : ∀ {M : List (List Bool)} {x : Nat} {r r' : List Bool}, M[x]? = some r → r'.count b + 1 = r.count b → cntM b (M.set x r') + 1 = cntM b M
  | [], x, r, r', h, _ => by simp at h
  | a :: M, 0, r, r', h, g => by
    simp at h
    subst h
    simp only [cntM, List.set_cons_zero, List.map_cons, List.sum_cons]
    omega
  | a :: M, x + 1, r, r', h, g => by
    have := cntM_row (M := M) (x := x) (by simpa using h) g
    simp only [cntM, List.set_cons_succ, List.map_cons, List.sum_cons] at this ⊢
    omega
theorem cntM_set {b : Bool} {M : List (List Bool)} {x y : Nat} (h : getM M x y = some b) : cntM b (setM M x y (!b)) + 1 = cntM b M := by
  obtain ⟨r, h1, h2⟩ := getM_row h
  unfold setM
  rw [h1]
  exact cntM_row h1 (count_set h2)
theorem getM_set {M : List (List Bool)} {x y : Nat} {b c : Bool} (h : getM M x y = some b) (u v : Nat) : getM (setM M x y c) u v = if u = x ∧ v = y then some c else getM M u v := by
  obtain ⟨r, h1, h2⟩ := getM_row h
  have hx := (List.getElem?_eq_some_iff.1 h1).1
  have hy := (List.getElem?_eq_some_iff.1 h2).1
  unfold setM getM
  rw [h1]
  by_cases hu : u = x
  · subst hu
    rw [List.getElem?_set_self hx, h1]
    simp only [Option.getD_some, Option.bind_some, true_and]
    by_cases hv : v = y
    · subst hv
      rw [List.getElem?_set_self hy, if_pos rfl]
    · rw [List.getElem?_set_ne (fun e => hv e.symm), if_neg hv]
  · rw [List.getElem?_set_ne (fun e => hu e.symm), if_neg (fun e => hu e.1)]
/-- n rows of p answers. -/
def ShM (n p : Nat) (M : List (List Bool)) : Prop := M.length = n ∧ ∀ r, r ∈ M → r.length = p
theorem ShM.get {n p : Nat} {M : List (List Bool)} (h : ShM n p M) {x y : Nat} (hx : x < n) (hy : y < p) : ∃ r b, M[x]? = some r ∧ r.length = p ∧ r[y]? = some b ∧ getM M x y = some b := by
  have h1 : M[x]? = some (M[x]'(by rw [h.1]; exact hx)) := List.getElem?_eq_getElem _
  have h2 := h.2 _ (List.mem_of_getElem? h1)
  have h3 : (M[x]'(by rw [h.1]; exact hx))[y]? = some ((M[x]'(by rw [h.1]; exact hx))[y]'(by rw [h2]; exact hy)) := List.getElem?_eq_getElem _
  exact ⟨_, _, h1, h2, h3, by unfold getM; rw [h1]; exact h3⟩
theorem ShM.set {n p : Nat} {M : List (List Bool)} (h : ShM n p M) {x y : Nat} (c : Bool) (hx : x < n) : ShM n p (setM M x y c) := by
  refine ⟨by unfold setM; rw [List.length_set]; exact h.1, fun r hr => ?_⟩
  unfold setM at hr
  rcases List.mem_or_eq_of_mem_set hr with h1 | h1
  · exact h.2 r h1
  · subst h1
    have h2 : M[x]? = some (M[x]'(by rw [h.1]; exact hx)) := List.getElem?_eq_getElem _
    rw [h2, List.length_set]
    exact h.2 _ (List.mem_of_getElem? h2)
theorem ShM.lt {n p : Nat} {M : List (List Bool)} (h : ShM n p M) {x y : Nat} {b : Bool} (hb : getM M x y = some b) : x < n ∧ y < p := by
  obtain ⟨r, h1, h2⟩ := getM_row hb
  have hx := (List.getElem?_eq_some_iff.1 h1).1
  have hy := (List.getElem?_eq_some_iff.1 h2).1
  rw [h.1] at hx
  rw [h.2 r (List.mem_of_getElem? h1)] at hy
  exact ⟨hx, hy⟩
theorem cntM_le {b : Bool} {p : Nat} : ∀ {M : List (List Bool)}, (∀ r, r ∈ M → r.length = p) → cntM b M ≤ M.length * p
  | [], _ => by simp [cntM]
  | r :: M, h => by
    have h1 := cntM_le (b := b) (M := M) fun q hq => h q (List.mem_cons_of_mem _ hq)
    have h2 : r.count b ≤ r.length := List.count_le_length
    rw [h r (List.mem_cons_self ..)] at h2
    simp only [cntM, List.map_cons, List.sum_cons, List.length_cons] at h1 ⊢
    rw [Nat.add_mul, Nat.one_mul]
    omega
def fillM (n p : Nat) (b : Bool) : List (List Bool) := List.replicate n (List.replicate p b)
theorem fillM_sh (n p : Nat) (b : Bool) : ShM n p (fillM n p b) := ⟨by simp [fillM], fun r hr => by rw [List.eq_of_mem_replicate hr, List.length_replicate]⟩
theorem fillM_get {n p : Nat} {b c : Bool} {x y : Nat} (h : getM (fillM n p b) x y = some c) : c = b := by
  obtain ⟨r, h1, h2⟩ := getM_row h
  have h3 := List.eq_of_mem_replicate (List.mem_of_getElem? h1)
  subst h3
  exact List.eq_of_mem_replicate (List.mem_of_getElem? h2)

/-- The pairs that are changed. -/
def ChM (b : Bool) (M : List (List Bool)) (x y : Int) : Prop := 0 ≤ x ∧ 0 ≤ y ∧ getM M x.toNat y.toNat = some (!b)
def RgN (n p : Nat) (x y : Int) : Prop := (0 ≤ x ∧ x < (n : Int)) ∧ 0 ≤ y ∧ y < (p : Int)
/-- The table while it is settled: what is changed is in the least set. -/
structure SetI (b : Bool) (n p : Nat) (F : Rel2 → Rel2) (M : List (List Bool)) : Prop where
  sh : ShM n p M
  sound : ∀ x y, ChM b M x y → Lf (RgN n p) F x y
theorem SetI.start (b : Bool) (n p : Nat) (F : Rel2 → Rel2) : SetI b n p F (fillM n p b) :=
  ⟨fillM_sh _ _ _, fun x y h => by have := fillM_get h.2.2; cases b <;> cases this⟩
theorem SetI.change {b : Bool} {n p : Nat} {F : Rel2 → Rel2} {M : List (List Bool)} (h : SetI b n p F M) (hm : MonoF F) {x y : Nat} (hx : x < n) (hg : getM M x y = some b) (hF : F (ChM b M) (x : Int) (y : Int)) : SetI b n p F (setM M x y (!b)) := by
  refine ⟨h.sh.set _ hx, fun u v hc => ?_⟩
  obtain ⟨h0, h1, h2⟩ := hc
  rw [getM_set hg] at h2
  split at h2
  · rename_i e
    have eu : u = (x : Int) := by omega
    have ev : v = (y : Int) := by omega
    subst eu ev
    have := (h.sh.lt hg).2
    exact Lf.add hm ⟨by omega, by omega⟩ (hm _ _ h.sound _ _ hF)
  · exact h.sound u v ⟨h0, h1, h2⟩
/-- All pairs ahead of (x, y) are closed. -/
def ClosedTo (b : Bool) (p : Nat) (F : Rel2 → Rel2) (M : List (List Bool)) (x y : Nat) : Prop := ∀ u v : Nat, v < p → (u < x ∨ u = x ∧ v < y) → F (ChM b M) (u : Int) (v : Int) → ChM b M (u : Int) (v : Int)
theorem ClosedTo.start (b : Bool) (p : Nat) (F : Rel2 → Rel2) (M : List (List Bool)) : ClosedTo b p F M 0 0 := fun u v hv h => by omega
theorem ClosedTo.next {b : Bool} {p : Nat} {F : Rel2 → Rel2} {M : List (List Bool)} {x y : Nat} (h : ClosedTo b p F M x y) (hn : F (ChM b M) (x : Int) (y : Int) → ChM b M (x : Int) (y : Int)) : ClosedTo b p F M x (y + 1) := fun u v hv hl => by
  by_cases e : u = x ∧ v = y
  · obtain ⟨rfl, rfl⟩ := e
    exact hn
  · exact h u v hv (by omega)
theorem ClosedTo.row {b : Bool} {p : Nat} {F : Rel2 → Rel2} {M : List (List Bool)} {x : Nat} (h : ClosedTo b p F M x p) : ClosedTo b p F M (x + 1) 0 := fun u v hv hl => h u v hv (by omega)
theorem SetI.done {b : Bool} {n p : Nat} {F : Rel2 → Rel2} {M : List (List Bool)} (h : SetI b n p F M) (hc : ClosedTo b p F M n 0) (x y : Int) : ChM b M x y ↔ Lf (RgN n p) F x y := by
  refine Lf.done h.sound (fun u v hR hF => ?_) x y
  obtain ⟨⟨h1, h2⟩, h3, h4⟩ := hR
  have := hc u.toNat v.toNat (by omega) (.inl (by omega))
  rw [Int.toNat_of_nonneg h1, Int.toNat_of_nonneg h3] at this
  exact this hF

/-- The state of the property behind an edge of the model. -/
def toP (lt : List ByteArray) (ep : List Ed) (lp : List ByteArray) (e : Ed) (y : Int) : Int := if e.2.1 = 0 then y else goE ep lp (lt[e.2.1.toNat]?.getD ByteArray.empty) y
/-- A move leaves, or leads to a pair of D. -/
def hitD (D : Rel2) (z : Int × Int) : Prop := z.2 < 0 ∨ D z.1 z.2
def movT (et : List Ed) (lt : List ByteArray) (ep : List Ed) (lp : List ByteArray) (x y : Int) : List (Int × Int) := (et.filter fun e => decide (e.1 = x)).map fun e => (e.2.2, toP lt ep lp e y)
def leaF (et : List Ed) (lt : List ByteArray) (ep : List Ed) (lp : List ByteArray) (D : Rel2) (x y : Int) : Prop := ∃ z ∈ movT et lt ep lp x y, hitD D z
def staF (et : List Ed) (lt : List ByteArray) (ep : List Ed) (lp : List ByteArray) (D : Rel2) (x y : Int) : Prop := movT et lt ep lp x y ≠ [] ∧ ∀ z ∈ movT et lt ep lp x y, hitD D z
theorem leaF_mono (et : List Ed) (lt : List ByteArray) (ep : List Ed) (lp : List ByteArray) : MonoF (leaF et lt ep lp) := fun D E h x y => by
  rintro ⟨z, hz, h1⟩
  exact ⟨z, hz, h1.imp_right (h _ _)⟩
theorem staF_mono (et : List Ed) (lt : List ByteArray) (ep : List Ed) (lp : List ByteArray) : MonoF (staF et lt ep lp) := fun D E h x y => by
  rintro ⟨h0, h1⟩
  exact ⟨h0, fun z hz => (h1 z hz).imp_right (h _ _)⟩
def canL (n p : Nat) (et : List Ed) (lt : List ByteArray) (ep : List Ed) (lp : List ByteArray) : Rel2 := Lf (RgN n p) (leaF et lt ep lp)
def notS (n p : Nat) (et : List Ed) (lt : List ByteArray) (ep : List Ed) (lp : List ByteArray) : Rel2 := Lf (RgN n p) (staF et lt ep lp)

open Classical in
/-- The verdict for the states with P. -/
noncomputable def vdV (L N : Rel2) (P : Int → Prop) (y : Int) : Int := if y < 0 then 2 else if ¬ ∃ v, P v ∧ L v y then 1 else if ¬ ∃ v, P v ∧ ¬ N v y then 2 else 0
/-- The state of a deterministic system behind a trace. -/
def goT (ep : List Ed) (lp : List ByteArray) (tr : List ByteArray) (y : Int) : Int := tr.foldl (fun y lab => goE ep lp lab y) y
open Classical in
noncomputable def vaF (t p : DL) (tr : List ByteArray) : Int × Int :=
  if ltsV t = true ∧ ltsV p = true then
    (if detV p = true then
      (if visB tr = true then
        (if ∃ v, AftC t.2.2.2 t.2.2.1 (· = t.2.1) tr v then
          (vdV (canL t.1.toNat p.1.toNat t.2.2.2 t.2.2.1 p.2.2.2 p.2.2.1) (notS t.1.toNat p.1.toNat t.2.2.2 t.2.2.1 p.2.2.2 p.2.2.1) (AftC t.2.2.2 t.2.2.1 (· = t.2.1) tr) (goT p.2.2.2 p.2.2.1 tr p.2.1), 0)
        else (0, 3))
      else (0, 2))
    else (0, 6))
  else (0, 1)

end Go.Proofs.YtiaclddgllkgpaaGreatDoor
