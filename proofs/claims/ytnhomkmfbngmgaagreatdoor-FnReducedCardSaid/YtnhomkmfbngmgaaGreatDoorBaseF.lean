/-
  Lemmas that the law of this claim leans on. Conditions: sizes.
-/
import Derived.Test.YtnhomkmfbngmgaaGreatDoorBaseA
import Derived.Test.YtnhomkmfbngmgaaGreatDoorBaseB
import Derived.Test.YtnhomkmfbngmgaaGreatDoorBaseC
import Derived.Test.YtnhomkmfbngmgaaGreatDoorBaseD
import Derived.Test.YtnhomkmfbngmgaaGreatDoorBaseE
import Derived.Ground.SlsfProg
import Derived.Shelf.SlSortCmp.NoneTotal
import Derived.Sort.EncStr
import Derived.Shelf.SlGeneric
import Derived.Test.YtnhomkmfbngmgaaGreatDoorProg
import Derived.Lib.SliceRun
import Derived.Deep.RegionHeld
set_option maxHeartbeats 6400000
set_option maxRecDepth 100000
set_option linter.unusedSimpArgs false
set_option linter.unusedVariables false
namespace Go.Proofs.YtnhomkmfbngmgaaGreatDoor
open Go.ChangeShapes Go.WideShapes Go.ChangeAt Go.RowKit
theorem mem_sum : ∀ {l : List Nat} {x : Nat}, x ∈ l → x ≤ l.sum
 | a :: l, x, h => by
  rw [List.sum_cons]
  rcases List.mem_cons.1 h with e | e
  ·omega
  ·have := mem_sum e; omega
structure SysA (w : World) (N ini : Nat) (A : Option Addr) (n : Nat) (B : Option Addr) (m : Nat) (ls : List ByteArray) (es : List Ed) : Prop where
 ss : SlS w 0 w.heap.size A n ls
 se : SlE w 0 w.heap.size B m es
 ok : ltsV ((N : Int), (ini : Int), ls, es) = true
 sz : totS ls ≤ 100000
theorem Sl.here' {α : Type} {size : Nat} {f : α → List Value} {w : World} {lo hi n : Nat} {A : Option Addr} {l : List α} (h : Sl size f w lo hi A n l) : Sl size f w 0 w.heap.size A n l :=
 ⟨h.1, fun hn => by
  obtain ⟨b, off, e, g1, g2, g3, hc⟩ := h.2 hn;exact ⟨b, off, e, Nat.zero_le _, g3, g3, hc⟩⟩
section
variable {w w' : World} {N ini : Nat} {A : Option Addr} {n c : Nat} {B : Option Addr} {m d : Nat} {ls : List ByteArray} {es : List Ed}
theorem SysA.below {K : Nat} (h : SysA w N ini A n B m ls es) (hb : Below K w w') (hK : w.heap.size ≤ K) : SysA w' N ini A n B m ls es :=
 ⟨(h.ss.below hb (.inr hK)).here', (h.se.below hb (.inr hK)).here', h.ok, h.sz⟩
theorem SysA.edges (h : SysA w N ini A n B m ls es) : EdIn N es := fun e he => by
 have := (ltsV_edge h.ok).1 e he;exact ⟨this.1, this.2.1.1, this.2.2⟩
theorem SysA.labs (h : SysA w N ini A n B m ls es) : ∀ e, e ∈ es → 0 ≤ e.2.1 ∧ e.2.1 < (ls.length : Int) := fun e he => ((ltsV_edge h.ok).1 e he).2.1
theorem SysA.ends (h : SysA w N ini A n B m ls es) : ∀ e ∈ es, (0 ≤ e.1 ∧ e.1 < (N : Int)) ∧ (0 ≤ e.2.2 ∧ e.2.2 < (N : Int)) := fun e he => by
 have := (ltsV_edge h.ok).1 e he;exact ⟨this.1, this.2.2⟩
theorem SysA.bounds (h : SysA w N ini A n B m ls es) : (1 ≤ N ∧ N ≤ 40) ∧ ini < N := by
 have := (ltsV_edge h.ok).2;omega
theorem SysA.many (h : SysA w N ini A n B m ls es) : m ≤ 300 ∧ n ≤ 12 ∧ 1 ≤ n ∧ es.length = m ∧ ls.length = n := by
 have h1 := h.ok;rw [ltsV_eq] at h1;simp only [Bool.and_eq_true, decide_eq_true_eq] at h1;obtain ⟨⟨-, -, h3, h4⟩, -⟩ := h1;unfold namesB at h3;rw [Bool.and_eq_true] at h3;have h5 := inB_true.1 h3.1;have := h.ss.len;have := h.se.len;omega
theorem SysA.read (h : SysA w N ini A n B m ls es) (c d : Nat) : ReadL w 0 w.heap.size ((N : Int), (ini : Int), .slice A n c, .slice B m d) ((N : Int), (ini : Int), ls, es) ∧ totL ((N : Int), (ini : Int), ls, es) ≤ 1048576 := by
 have hm := h.many;have hz := h.sz;have hml : 100000 ≤ maxLen := by unfold maxLen; omega
 refine ⟨⟨rfl, rfl, ⟨A, n, c, rfl, by omega, ?_, h.ss⟩, ⟨B, m, d, rfl, by omega, h.se⟩⟩, ?_⟩
 ·intro s hs
  have hs : s ∈ ls := hs;have h1 : s.size ≤ (ls.map (·.size)).sum := mem_sum (List.mem_map_of_mem hs);unfold totS at hz;omega
 ·unfold totL
  show totS ls + es.length ≤ 1048576
  omega
theorem SysA.valid (h : SysA w N ini A n B m ls es) (c d : Nat) (he : Env w) :
  Calls Tryz.prog 54 #[.agg #[.int .i64 (N : Int), .int .i64 (ini : Int), .slice A n c, .slice B m d]] w fun e w' => e = .returned (.bool true) ∧ Below w.heap.size w w' := by
 have q := validLts_calls ((N : Int), (ini : Int), .slice A n c, .slice B m d) ((N : Int), (ini : Int), ls, es) w 0 w.heap.size (h.read c d).1 (h.read c d).2 he;rw [h.ok] at q;exact q
end
end Go.Proofs.YtnhomkmfbngmgaaGreatDoor
namespace Go.Proofs.YtnhomkmfbngmgaaGreatDoor
inductive StarR (R : Nat → Nat → Prop) : Nat → Nat → Prop
 | refl (x : Nat) : StarR R x x
 | step {x y z : Nat} : R x y → StarR R y z → StarR R x z
theorem StarR.trans {R : Nat → Nat → Prop} {x y z : Nat} (h : StarR R x y) (g : StarR R y z) : StarR R x z := by
 induction h with
 | refl => exact g
 | step e _ ih => exact .step e (ih g)
theorem StarR.snoc {R : Nat → Nat → Prop} {x y z : Nat} (h : StarR R x y) (g : R y z) : StarR R x z := h.trans (.step g (.refl z))
theorem StarR.mono {R S : Nat → Nat → Prop} (hs : ∀ x y, R x y → S x y) {x y : Nat} (h : StarR R x y) : StarR S x y := by
 induction h with
 | refl => exact .refl _
 | step e _ ih => exact .step (hs _ _ e) ih
def Dvg (R : Nat → Nat → Prop) (x : Nat) : Prop := ∃ D : Nat → Prop, D x ∧ ∀ y, D y → ∃ z, R y z ∧ D z
theorem Dvg.next {R : Nat → Nat → Prop} {x : Nat} (h : Dvg R x) : ∃ y, R x y ∧ Dvg R y := by
 obtain ⟨D, h1, h2⟩ := h;obtain ⟨y, g1, g2⟩ := h2 x h1;exact ⟨y, g1, D, g2, h2⟩
theorem Dvg.mono {R S : Nat → Nat → Prop} (hs : ∀ x y, R x y → S x y) {x : Nat} (h : Dvg R x) : Dvg S x := by
 obtain ⟨D, h1, h2⟩ := h;refine ⟨D, h1, fun y hy => ?_⟩;obtain ⟨z, g1, g2⟩ := h2 y hy;exact ⟨z, hs _ _ g1, g2⟩
section
variable {L α β : Type} {E : Nat → L → Nat → Prop} {τ : L} {d : Prop} {q : Nat → α} {p : Nat → β} {x y : Nat} {l : L}
def inrt (E : Nat → L → Nat → Prop) (τ : L) (q : Nat → α) (x y : Nat) : Prop := E x τ y ∧ q x = q y
def offr (E : Nat → L → Nat → Prop) (τ : L) (q : Nat → α) (x : Nat) (l : L) (b : α) : Prop := ∃ x' x'', StarR (inrt E τ q) x x' ∧ E x' l x'' ∧ q x'' = b ∧ ¬ (l = τ ∧ q x' = q x'')
structure Stb (E : Nat → L → Nat → Prop) (τ : L) (d : Prop) (q : Nat → α) : Prop where
 off : ∀ x y l b, q x = q y → offr E τ q x l b → offr E τ q y l b
 dvg : d → ∀ x y, q x = q y → Dvg (inrt E τ q) x → Dvg (inrt E τ q) y
theorem star_same (h : StarR (inrt E τ q) x y) : q x = q y := by
 induction h with
 | refl => rfl
 | step e _ ih => exact e.2.trans ih
theorem inrt_mono (hf : ∀ x y, q x = q y → p x = p y) (x y : Nat) (h : inrt E τ q x y) : inrt E τ p x y := ⟨h.1, hf _ _ h.2⟩
theorem Stb.one (h : Stb E τ d q) (hf : ∀ x y, q x = q y → p x = p y) {x' : Nat} (hq : q x = q y) (hs : inrt E τ p x x') : ∃ y', StarR (inrt E τ p) y y' ∧ q x' = q y' := by
 by_cases e : q x = q x'
 ·exact ⟨y, .refl _, e ▸ hq⟩
 ·obtain ⟨y1, y2, g1, g2, g3, -⟩ := h.off x y τ (q x') hq ⟨x, x', .refl _, hs.1, rfl, fun h => e h.2⟩
  exact ⟨y2, (g1.mono (inrt_mono hf)).snoc ⟨g2, by rw [← hf _ _ (star_same g1), ← hf _ _ hq, hf _ _ g3]; exact hs.2⟩, g3.symm⟩
theorem Stb.star (h : Stb E τ d q) (hf : ∀ x y, q x = q y → p x = p y) {x x' : Nat} (hs : StarR (inrt E τ p) x x') : ∀ {y : Nat}, q x = q y → ∃ y', StarR (inrt E τ p) y y' ∧ q x' = q y' := by
 induction hs with
 | refl => intro y hq; exact ⟨y, .refl _, hq⟩
 | step e _ ih =>
  intro y hq;obtain ⟨y1, g1, g2⟩ := h.one hf hq e;obtain ⟨y2, g3, g4⟩ := ih g2;exact ⟨y2, g1.trans g3, g4⟩
theorem Stb.fine_off (h : Stb E τ d q) (hf : ∀ x y, q x = q y → p x = p y) {b : β} (hq : q x = q y) (ho : offr E τ p x l b) : offr E τ p y l b := by
 obtain ⟨x1, x2, g1, g2, g3, g4⟩ := ho;obtain ⟨y1, k1, k2⟩ := h.star hf g1 hq;obtain ⟨y2, y3, m1, m2, m3, -⟩ := h.off x1 y1 l (q x2) k2 ⟨x1, x2, .refl _, g2, rfl, fun e => g4 ⟨e.1, hf _ _ e.2⟩⟩;refine ⟨y2, y3, k1.trans (m1.mono (inrt_mono hf)), m2, by rw [hf _ _ m3]; exact g3, fun e => g4 ⟨e.1, ?_⟩⟩;rw [hf _ _ k2, hf _ _ (star_same m1), e.2, hf _ _ m3]
theorem dvg_leave (hf : ∀ x y, q x = q y → p x = p y) (h : Dvg (inrt E τ p) x) (hn : ¬ Dvg (inrt E τ q) x) : ∃ x1 x2, StarR (inrt E τ q) x x1 ∧ inrt E τ p x1 x2 ∧ ¬ q x1 = q x2 ∧ Dvg (inrt E τ p) x2 := by
 refine Classical.byContradiction fun hc => hn ⟨fun z => StarR (inrt E τ q) x z ∧ Dvg (inrt E τ p) z, ⟨.refl _, h⟩, fun z hz => ?_⟩
 obtain ⟨z', g1, g2⟩ := hz.2.next
 by_cases e : q z = q z'
 ·exact ⟨z', ⟨g1.1, e⟩, hz.1.snoc ⟨g1.1, e⟩, g2⟩
 ·exact absurd ⟨z, z', hz.1, g1, e, g2⟩ hc
theorem Stb.fine_dvg (h : Stb E τ d q) (hd : d) (hf : ∀ x y, q x = q y → p x = p y) (hq : q x = q y) (hx : Dvg (inrt E τ p) x) : Dvg (inrt E τ p) y := by
 refine ⟨fun y => ∃ x, q x = q y ∧ Dvg (inrt E τ p) x, ⟨x, hq, hx⟩, fun y hy => ?_⟩;obtain ⟨x, hq, hx⟩ := hy
 by_cases hD : Dvg (inrt E τ q) x
 ·obtain ⟨y', g1, g2⟩ := (h.dvg hd x y hq hD).next
  exact ⟨y', inrt_mono hf _ _ g1, y', rfl, g2.mono (inrt_mono hf)⟩
 ·obtain ⟨x1, x2, k1, k2, k3, k4⟩ := dvg_leave hf hx hD
  obtain ⟨y1, y2, g1, g2, g3, -⟩ := h.off x y τ (q x2) hq ⟨x1, x2, k1, k2.1, rfl, fun e => k3 e.2⟩
  cases g1 with
  | refl => exact ⟨y2, ⟨g2, by rw [← hf _ _ hq, hf _ _ (star_same k1), k2.2, hf _ _ g3]⟩, x2, g3.symm, k4⟩
  | step e _ => exact ⟨_, inrt_mono hf _ _ e, x, hq.trans e.2, hx⟩
end
section
variable {L α : Type} {E M : Nat → L → Nat → Prop} {τ : L} {d : Prop} {P : Nat → Nat} {x y : Nat} {l : L}
def QuoB (E M : Nat → L → Nat → Prop) (τ : L) (d : Prop) (P : Nat → Nat) : Prop :=
 ∀ b l c, M b l c ↔ (∃ x x', E x l x' ∧ P x = b ∧ P x' = c ∧ ¬ (l = τ ∧ P x = P x')) ∨ (d ∧ l = τ ∧ b = c ∧ ∃ x, P x = b ∧ Dvg (inrt E τ P) x)
theorem star_id {b c : Nat} (h : StarR (inrt M τ fun x => x) b c) : b = c := star_same h
theorem quo_off (h : Stb E τ d P) (hM : QuoB E M τ d P) {c : Nat} : offr E τ P x l c ↔ offr M τ (fun x => x) (P x) l c := by
 constructor
 ·rintro ⟨x1, x2, g1, g2, rfl, g4⟩
  exact ⟨P x1, P x2, by rw [star_same g1]; exact .refl _, (hM _ _ _).2 (.inl ⟨x1, x2, g2, rfl, rfl, g4⟩), rfl, g4⟩
 ·rintro ⟨b1, b2, g1, g2, g3, g4⟩
  have e := star_id g1
  rcases (hM _ _ _).1 g2 with ⟨u, u', k1, k2, k3, k4⟩ | ⟨_, k1, k2, _⟩
  ·exact h.off u x l c (by rw [k2, e]) ⟨u, u', .refl _, k1, by rw [k3]; exact g3, k4⟩
  ·exact absurd ⟨k1, k2⟩ g4
theorem quo_dvg (h : Stb E τ d P) (hM : QuoB E M τ d P) (hd : d) : Dvg (inrt E τ P) x ↔ Dvg (inrt M τ fun x => x) (P x) := by
 constructor
 ·intro hx
  exact ⟨fun b => b = P x, rfl, fun b hb => ⟨b, ⟨(hM _ _ _).2 (.inr ⟨hd, rfl, rfl, x, hb.symm, hx⟩), rfl⟩, hb⟩⟩
 ·intro hx
  obtain ⟨c, ⟨g1, g2⟩, -⟩ := hx.next;have g2 : P x = c := g2
  rcases (hM _ _ _).1 g1 with ⟨u, u', k1, k2, k3, k4⟩ | ⟨_, _, _, u, k1, k2⟩
  ·exact absurd ⟨rfl, by rw [k2, k3, g2]⟩ k4
  ·exact h.dvg hd u x k1 k2
variable {pm : Nat → α}
theorem star_up (hM : QuoB E M τ d P) (h : StarR (inrt E τ fun x => pm (P x)) x y) : StarR (inrt M τ pm) (P x) (P y) := by
 induction h with
 | refl => exact .refl _
 | @step x y z e _ ih =>
  by_cases c : P x = P y
  ·rw [c]; exact ih
  ·exact .step ⟨(hM _ _ _).2 (.inl ⟨x, y, e.1, rfl, rfl, fun h => c h.2⟩), e.2⟩ ih
theorem one_down (h : Stb E τ d P) (hM : QuoB E M τ d P) {b c : Nat} (hs : M b l c) (hn : ¬ (l = τ ∧ b = c)) (hx : P x = b) : ∃ x1 x2, StarR (inrt E τ P) x x1 ∧ E x1 l x2 ∧ P x2 = c := by
 rcases (hM _ _ _).1 hs with ⟨u, u', k1, k2, k3, k4⟩ | ⟨_, k1, k2, _⟩
 ·obtain ⟨x1, x2, g1, g2, g3, -⟩ := h.off u x l c (by rw [k2, hx]) ⟨u, u', .refl _, k1, k3, k4⟩
  exact ⟨x1, x2, g1, g2, g3⟩
 ·exact absurd ⟨k1, k2⟩ hn
theorem inrt_comp (pm : Nat → α) (x y : Nat) (h : inrt E τ P x y) : inrt E τ (fun x => pm (P x)) x y := ⟨h.1, congrArg pm h.2⟩
theorem star_down (h : Stb E τ d P) (hM : QuoB E M τ d P) {b c : Nat} (hs : StarR (inrt M τ pm) b c) : ∀ {x : Nat}, P x = b → ∃ x', StarR (inrt E τ fun x => pm (P x)) x x' ∧ P x' = c := by
 induction hs with
 | refl => intro x hx; exact ⟨x, .refl _, hx⟩
 | @step b b' c e _ ih =>
  intro x hx
  by_cases hb : b = b'
  ·exact ih (by rw [hx, hb])
  ·obtain ⟨x1, x2, g1, g2, g3⟩ := one_down h hM e.1 (fun h => hb h.2) hx
   obtain ⟨x3, k1, k2⟩ := ih g3;refine ⟨x3, ((g1.mono (inrt_comp pm)).snoc ⟨g2, ?_⟩).trans k1, k2⟩
   show pm (P x1) = pm (P x2)
   rw [← star_same g1, hx, g3]; exact e.2
theorem comp_off (h : Stb E τ d P) (hM : QuoB E M τ d P) {b : α} : offr E τ (fun x => pm (P x)) x l b ↔ offr M τ pm (P x) l b := by
 constructor
 ·rintro ⟨x1, x2, g1, g2, g3, g4⟩
  exact ⟨P x1, P x2, star_up hM g1, (hM _ _ _).2 (.inl ⟨x1, x2, g2, rfl, rfl, fun e => g4 ⟨e.1, congrArg pm e.2⟩⟩), g3, g4⟩
 ·rintro ⟨b1, b2, g1, g2, g3, g4⟩
  obtain ⟨x1, k1, k2⟩ := star_down h hM g1 rfl;obtain ⟨x2, x3, m1, m2, m3⟩ := one_down h hM g2 (fun e => g4 ⟨e.1, congrArg pm e.2⟩) k2;refine ⟨x2, x3, k1.trans (m1.mono (inrt_comp pm)), m2, ?_, fun e => g4 ⟨e.1, ?_⟩⟩
  ·show pm (P x3) = b
   rw [m3]; exact g3
  ·have e2 : pm (P x2) = pm (P x3) := e.2
   rw [← k2, star_same m1, e2, m3]
theorem comp_dvg (h : Stb E τ d P) (hM : QuoB E M τ d P) (hd : d) : Dvg (inrt E τ fun x => pm (P x)) x ↔ Dvg (inrt M τ pm) (P x) := by
 constructor
 ·intro hx
  refine ⟨fun b => ∃ x, P x = b ∧ Dvg (inrt E τ fun x => pm (P x)) x, ⟨x, rfl, hx⟩, fun b hb => ?_⟩;obtain ⟨x, rfl, hx⟩ := hb
  by_cases hD : Dvg (inrt E τ P) x
  ·exact ⟨P x, ⟨(hM _ _ _).2 (.inr ⟨hd, rfl, rfl, x, rfl, hD⟩), rfl⟩, x, rfl, hx⟩
  ·obtain ⟨x1, x2, k1, k2, k3, k4⟩ := dvg_leave (q := P) (fun x y h => congrArg pm h) hx hD
   refine ⟨P x2, ⟨?_, ?_⟩, x2, rfl, k4⟩
   ·rw [star_same k1]; exact (hM _ _ _).2 (.inl ⟨x1, x2, k2.1, rfl, rfl, fun e => k3 e.2⟩)
   ·rw [star_same k1]; exact k2.2
 ·intro hx
  refine ⟨fun x => Dvg (inrt M τ pm) (P x), hx, fun x hx => ?_⟩;obtain ⟨c, g1, g2⟩ := hx.next
  by_cases hb : P x = c
  ·have hl := (hM _ _ _).1 g1.1
   rcases hl with ⟨u, u', k1, k2, k3, k4⟩ | ⟨_, _, _, u, k1, k2⟩
   ·exact absurd ⟨rfl, by rw [k2, k3, hb]⟩ k4
   ·obtain ⟨y, m1, -⟩ := (h.dvg hd u x k1 k2).next
    exact ⟨y, inrt_comp pm _ _ m1, by show Dvg (inrt M τ pm) (P y); rw [← m1.2]; exact hx⟩
  ·obtain ⟨x1, x2, m1, m2, m3⟩ := one_down h hM g1.1 (fun e => hb e.2) rfl
   cases m1 with
   | refl => exact ⟨x2, ⟨m2, by show pm (P x) = pm (P x2); rw [m3]; exact g1.2⟩, by show Dvg (inrt M τ pm) (P x2); rw [m3]; exact g2⟩
   | @step _ y _ e _ => exact ⟨y, inrt_comp pm _ _ e, by show Dvg (inrt M τ pm) (P y); rw [← e.2]; exact hx⟩
theorem comp_stb (h : Stb E τ d P) (hM : QuoB E M τ d P) (hp : Stb M τ d pm) : Stb E τ d fun x => pm (P x) :=
 ⟨fun x y l b hq ho => (comp_off h hM).2 (hp.off _ _ l b hq ((comp_off h hM).1 ho)), fun hd x y hq hx => (comp_dvg h hM hd).2 (hp.dvg hd _ _ hq ((comp_dvg h hM hd).1 hx))⟩
end
section
variable {L α β : Type} {E U : Nat → L → Nat → Prop} {τ : L} {d : Prop} {P : Nat → β} {q : Nat → α} {f : Nat → Nat} {g : β → α} {i j : Nat} {l : L}
structure Emb (E U : Nat → L → Nat → Prop) (f : Nat → Nat) : Prop where
 up : ∀ i l j, E i l j → U (f i) l (f j)
 down : ∀ i l y, U (f i) l y → ∃ j, y = f j ∧ E i l j
theorem Emb.inrt_up (h : Emb E U f) (hq : ∀ i, q (f i) = g (P i)) (e : inrt E τ P i j) : inrt U τ q (f i) (f j) := ⟨h.up _ _ _ e.1, by rw [hq, hq, e.2]⟩
theorem Emb.star_up (h : Emb E U f) (hq : ∀ i, q (f i) = g (P i)) (e : StarR (inrt E τ P) i j) : StarR (inrt U τ q) (f i) (f j) := by
 induction e with
 | refl => exact .refl _
 | step e _ ih => exact .step (h.inrt_up hq e) ih
theorem Emb.inrt_down (h : Emb E U f) (hq : ∀ i, q (f i) = g (P i)) (hg : ∀ a b, g a = g b → a = b) {y : Nat} (e : inrt U τ q (f i) y) : ∃ j, y = f j ∧ inrt E τ P i j := by
 obtain ⟨j, rfl, k⟩ := h.down _ _ _ e.1;refine ⟨j, rfl, k, hg _ _ ?_⟩;rw [← hq, ← hq]; exact e.2
theorem Emb.star_down (h : Emb E U f) (hq : ∀ i, q (f i) = g (P i)) (hg : ∀ a b, g a = g b → a = b) {u v : Nat} (e : StarR (inrt U τ q) u v) : ∀ {i : Nat}, u = f i → ∃ j, v = f j ∧ StarR (inrt E τ P) i j := by
 induction e with
 | refl => intro i hi; exact ⟨i, hi, .refl _⟩
 | step e _ ih =>
  intro i hi;subst hi;obtain ⟨j, rfl, k⟩ := h.inrt_down hq hg e;obtain ⟨m, rfl, k2⟩ := ih rfl;exact ⟨m, rfl, .step k k2⟩
theorem Emb.off (h : Emb E U f) (hq : ∀ i, q (f i) = g (P i)) (hg : ∀ a b, g a = g b → a = b) {b : α} : offr U τ q (f i) l b ↔ ∃ c, b = g c ∧ offr E τ P i l c := by
 constructor
 ·rintro ⟨x1, x2, g1, g2, g3, g4⟩
  obtain ⟨j, rfl, k⟩ := h.star_down hq hg g1 rfl;obtain ⟨m, rfl, k2⟩ := h.down _ _ _ g2;exact ⟨P m, by rw [← g3, hq], j, m, k, k2, rfl, fun e => g4 ⟨e.1, by rw [hq, hq, e.2]⟩⟩
 ·rintro ⟨c, rfl, j, m, k1, k2, k3, k4⟩
  exact ⟨f j, f m, h.star_up hq k1, h.up _ _ _ k2, by rw [hq, k3], fun e => k4 ⟨e.1, hg _ _ (by rw [← hq, ← hq]; exact e.2)⟩⟩
theorem Emb.dvg (h : Emb E U f) (hq : ∀ i, q (f i) = g (P i)) (hg : ∀ a b, g a = g b → a = b) : Dvg (inrt U τ q) (f i) ↔ Dvg (inrt E τ P) i := by
 constructor
 ·rintro ⟨D, h1, h2⟩
  refine ⟨fun i => D (f i), h1, fun j hj => ?_⟩;obtain ⟨z, g1, g2⟩ := h2 _ hj;obtain ⟨m, rfl, k⟩ := h.inrt_down hq hg g1;exact ⟨m, k, g2⟩
 ·rintro ⟨D, h1, h2⟩
  refine ⟨fun u => ∃ j, u = f j ∧ D j, ⟨i, rfl, h1⟩, fun u hu => ?_⟩;obtain ⟨j, rfl, hj⟩ := hu;obtain ⟨m, g1, g2⟩ := h2 j hj;exact ⟨f m, h.inrt_up hq g1, m, rfl, g2⟩
end
structure ConfS {L : Type} (E : Nat → L → Nat → Prop) (τ : L) (c : Nat → Nat → Prop) : Prop where
 sub : ∀ x y, c x y → E x τ y
 con : ∀ x u l v, c x u → E x l v → (l = τ ∧ (v = u ∨ c v u)) ∨ ∃ v', E u l v' ∧ (v = v' ∨ c v v')
 cc : ∀ x u v, c x u → c x v → (v = u ∨ c v u) ∨ ∃ v', c u v' ∧ (v = v' ∨ c v v')
section
variable {L : Type} {E : Nat → L → Nat → Prop} {τ : L} {c : Nat → Nat → Prop}
theorem ConfS.strip (h : ConfS E τ c) {x v : Nat} (hv : StarR c x v) : ∀ {u : Nat}, c x u → ∃ z, StarR c u z ∧ (v = z ∨ c v z) := by
 induction hv with
 | refl x => intro u hu; exact ⟨u, .refl _, .inr hu⟩
 | @step x x1 v e s ih =>
  intro u hu
  rcases h.cc x u x1 hu e with (rfl | g) | ⟨v', g1, rfl | g2⟩
  ·exact ⟨v, s, .inl rfl⟩
  ·exact ih g
  ·exact ⟨v, .step g1 s, .inl rfl⟩
  ·obtain ⟨z, k1, k2⟩ := ih g2
   exact ⟨z, .step g1 k1, k2⟩
theorem ConfS.join (h : ConfS E τ c) {x u : Nat} (hu : StarR c x u) : ∀ {v : Nat}, StarR c x v → ∃ z, StarR c u z ∧ StarR c v z := by
 induction hu with
 | refl x => intro v hv; exact ⟨v, hv, .refl _⟩
 | @step x x1 u e s ih =>
  intro v hv;obtain ⟨z1, k1, k2⟩ := h.strip hv e;obtain ⟨z, m1, m2⟩ := ih k1
  rcases k2 with rfl | k2
  ·exact ⟨z, m1, m2⟩
  ·exact ⟨z, m1, .step k2 m2⟩
def comR (c : Nat → Nat → Prop) (x k : Nat) : Prop := StarR c x k ∧ ∀ r, StarR c x r → StarR c r k
theorem ConfS.com (h : ConfS E τ c) {x y k : Nat} (hs : StarR c x y) : comR c x k ↔ comR c y k := by
 constructor
 ·rintro ⟨h1, h2⟩
  exact ⟨h2 y hs, fun r hr => h2 r (hs.trans hr)⟩
 ·rintro ⟨h1, h2⟩
  refine ⟨hs.trans h1, fun r hr => ?_⟩;obtain ⟨z, k1, k2⟩ := h.join hs hr;exact k2.trans (h2 z k1)
theorem ConfS.all (h : ConfS E τ c) {x : Nat} : ∀ (l : List Nat), (∀ r, r ∈ l → StarR c x r) → ∃ z, StarR c x z ∧ ∀ r, r ∈ l → StarR c r z
 | [], _ => ⟨x, .refl _, fun r hr => (List.not_mem_nil hr).elim⟩
 | r :: l, hl => by
  obtain ⟨z, h1, h2⟩ := h.all l fun r hr => hl r (List.mem_cons_of_mem _ hr)
  obtain ⟨z', k1, k2⟩ := h.join h1 (hl r (List.mem_cons_self ..));refine ⟨z', h1.trans k1, fun q hq => ?_⟩
  rcases List.mem_cons.1 hq with rfl | hq
  ·exact k2
  ·exact (h2 q hq).trans k1
theorem ConfS.some (h : ConfS E τ c) {x : Nat} {l : List Nat} (hl : ∀ r, r ∈ l ↔ StarR c x r) : ∃ k, comR c x k := by
 obtain ⟨z, h1, h2⟩ := h.all l fun r hr => (hl r).1 hr
 exact ⟨z, h1, fun r hr => h2 r ((hl r).2 hr)⟩
structure RepC (c : Nat → Nat → Prop) (rep : Nat → Nat) : Prop where
 com : ∀ x, comR c x (rep x)
 same : ∀ x y, (∀ k, comR c x k ↔ comR c y k) → rep x = rep y
variable {rep : Nat → Nat}
theorem RepC.star (hr : RepC c rep) (h : ConfS E τ c) {x y : Nat} (hs : StarR c x y) : rep x = rep y := hr.same _ _ fun k => h.com hs
theorem RepC.twice (hr : RepC c rep) (h : ConfS E τ c) (x : Nat) : rep (rep x) = rep x := (hr.star h (hr.com x).1).symm
theorem RepC.along (hr : RepC c rep) (h : ConfS E τ c) {x r : Nat} (hs : StarR c x r) : ∀ {l : L} {x' : Nat}, E x l x' → (l = τ ∧ rep x' = rep x) ∨ ∃ v, E r l v ∧ rep v = rep x' := by
 induction hs with
 | refl x => intro l x' e; exact .inr ⟨x', e, rfl⟩
 | @step x x1 r e s ih =>
  intro l x' hx;have e1 := hr.star h (.step e (.refl _))
  rcases h.con x x1 l x' e hx with ⟨rfl, g⟩ | ⟨v', g1, g2⟩
  ·refine .inl ⟨rfl, ?_⟩
   rcases g with rfl | g
   ·exact e1.symm
   ·rw [hr.star h (.step g (.refl _)), e1]
  ·have e2 : rep x' = rep v' := by
    rcases g2 with rfl | g2
    ·rfl
    ·exact hr.star h (.step g2 (.refl _))
   rcases ih g1 with ⟨k1, k2⟩ | ⟨v, k1, k2⟩
   ·exact .inl ⟨k1, by rw [e2, k2, e1]⟩
   ·exact .inr ⟨v, k1, by rw [k2, e2]⟩
theorem RepC.star_in (hr : RepC c rep) (h : ConfS E τ c) {x y : Nat} (hs : StarR c x y) : StarR (inrt E τ rep) x y := by
 induction hs with
 | refl x => exact .refl _
 | @step x x1 y e s ih => exact .step ⟨h.sub _ _ e, hr.star h (.step e (.refl _))⟩ ih
theorem RepC.stb {d : Prop} (hd : ¬ d) (hr : RepC c rep) (h : ConfS E τ c) : Stb E τ d rep := by
 refine ⟨fun x y l b hq ho => ?_, fun g => (hd g).elim⟩;obtain ⟨x1, x2, g1, g2, g3, g4⟩ := ho;have e1 : rep x = rep x1 := star_same g1
 rcases hr.along h (hr.com x1).1 g2 with ⟨k1, k2⟩ | ⟨v, k1, k2⟩
 ·exact absurd ⟨k1, k2.symm⟩ g4
 ·refine ⟨rep x1, v, ?_, k1, k2.trans g3, fun e => g4 ⟨e.1, ?_⟩⟩
  ·rw [← e1, hq]
   exact hr.star_in h (hr.com y).1
  ·rw [← k2, ← e.2, hr.twice h]
end
section
variable {L α : Type} {E M M2 : Nat → L → Nat → Prop} {τ : L} {d : Prop} {P P2 : Nat → Nat}
theorem QuoB.comp (hd : ¬ d) (h1 : QuoB E M τ d P) (h2 : QuoB M M2 τ d P2) : QuoB E M2 τ d fun x => P2 (P x) := by
 intro b l c
 constructor
 ·intro h
  rcases (h2 b l c).1 h with ⟨u, u', k1, k2, k3, k4⟩ | ⟨k, _⟩
  ·rcases (h1 u l u').1 k1 with ⟨x, x', g1, g2, g3, g4⟩ | ⟨k, _⟩
   ·subst g2 g3
    exact .inl ⟨x, x', g1, k2, k3, k4⟩
   ·exact (hd k).elim
  ·exact (hd k).elim
 ·rintro (⟨x, x', g1, g2, g3, g4⟩ | ⟨k, _⟩)
  ·exact (h2 b l c).2 (.inl ⟨P x, P x', (h1 _ _ _).2 (.inl ⟨x, x', g1, rfl, rfl, fun e => g4 ⟨e.1, congrArg P2 e.2⟩⟩), g2, g3, g4⟩)
  ·exact (hd k).elim
theorem stb_down (hd : ¬ d) (h : Stb E τ d P) (hM : QuoB E M τ d P) {pm : Nat → α} (hp : Stb E τ d fun x => pm (P x)) (hc : ∀ u v l b, pm u = pm v → offr M τ pm u l b → ∃ x y, P x = u ∧ P y = v) : Stb M τ d pm := by
 refine ⟨fun u v l b hq ho => ?_, fun g => (hd g).elim⟩;obtain ⟨x, y, rfl, rfl⟩ := hc u v l b hq ho;exact (comp_off h hM).1 (hp.off x y l b hq ((comp_off h hM).2 ho))
end
structure RefG (g : List Int → List Int) (N : Nat) : Prop where
 part : ∀ p, PartN N (g p)
 fine : ∀ p, PartN N p → ∀ i j, i < N → j < N → sameB (g p) i j → sameB p i j
def itP (g : List Int → List Int) (N : Nat) : Nat → List Int
 | 0 => zeroP N
 | n + 1 => g (itP g N n)
def LastG (g : List Int → List Int) (N r : Nat) : Prop := itP g N (r + 1) = itP g N r ∧ ∀ m, m < r → itP g N (m + 1) ≠ itP g N m
section
variable {g : List Int → List Int} {N r s : Nat}
theorem itP_part (h : RefG g N) (n : Nat) : PartN N (itP g N n) := by
 cases n with
 | zero => exact zeroP_part N
 | succ n => exact h.part _
theorem itP_ref (h : RefG g N) {n : Nat} (hne : itP g N (n + 1) ≠ itP g N n) : numB (itP g N n) < numB (itP g N (n + 1)) := by
 have hl : (itP g N n).length = (itP g N (n + 1)).length := by rw [(itP_part h n).len, (itP_part h (n + 1)).len]
 obtain ⟨h1, h2⟩ := numB_fine hl fun i j hi hj hs => h.fine _ (itP_part h n) i j (by rw [(itP_part h n).len] at hi; exact hi) (by rw [(itP_part h n).len] at hj; exact hj) hs
 by_cases e : numB (itP g N n) = numB (itP g N (n + 1))
 ·refine absurd (part_ext (itP_part h (n + 1)) (itP_part h n) fun i j hi hj => ⟨fun hs => h.fine _ (itP_part h n) i j hi hj hs, fun hs => h2 e i j (by rw [(itP_part h n).len]; exact hi) (by rw [(itP_part h n).len]; exact hj) hs⟩) hne
 ·omega
theorem itP_many (h : RefG g N) (hN : 1 ≤ N) {n : Nat} (hn : ∀ m, m < n → itP g N (m + 1) ≠ itP g N m) : n + 1 ≤ numB (itP g N n) := by
 induction n with
 | zero =>
  have hm : (0 : Int) ∈ firsts [] (itP g N 0) := firsts_mem.2 (.inr (by unfold itP zeroP; exact List.mem_replicate.2 ⟨by omega, rfl⟩));have := List.length_pos_of_mem hm;unfold numB; omega
 | succ n ih =>
  have h1 := ih fun m hm => hn m (by omega)
  have h2 := itP_ref h (hn n (by omega));omega
theorem itP_bound (h : RefG g N) (hN : 1 ≤ N) {n : Nat} (hn : ∀ m, m < n → itP g N (m + 1) ≠ itP g N m) : n + 1 ≤ N := by
 have h1 := itP_many h hN hn;have h2 := numB_le (itP g N n);rw [(itP_part h n).len] at h2;omega
end
section
variable {es : List Ed} {N r : Nat}
end
structure BisR {L : Type} (A B : Nat → L → Nat → Prop) (R : Nat → Nat → Prop) : Prop where
 fwd : ∀ x y s x', R x y → A x s x' → ∃ y', B y s y' ∧ R x' y'
 bwd : ∀ x y s y', R x y → B y s y' → ∃ x', A x s x' ∧ R x' y'
def Bis {L : Type} (A B : Nat → L → Nat → Prop) (a b : Nat) : Prop := ∃ R, BisR A B R ∧ R a b
section
variable {L : Type} {A B C : Nat → L → Nat → Prop} {a b c : Nat}
theorem Bis.refl (A : Nat → L → Nat → Prop) (a : Nat) : Bis A A a a :=
 ⟨fun x y => x = y, ⟨fun x y s x' e h => ⟨x', e ▸ h, rfl⟩, fun x y s y' e h => ⟨y', e.symm ▸ h, rfl⟩⟩, rfl⟩
theorem Bis.symm (h : Bis A B a b) : Bis B A b a := by
 obtain ⟨R, h1, h2⟩ := h;exact ⟨fun x y => R y x, ⟨fun x y s x' e g => h1.bwd y x s x' e g, fun x y s y' e g => h1.fwd y x s y' e g⟩, h2⟩
theorem Bis.trans (h : Bis A B a b) (g : Bis B C b c) : Bis A C a c := by
 obtain ⟨R, h1, h2⟩ := h;obtain ⟨S, g1, g2⟩ := g;refine ⟨fun x z => ∃ y, R x y ∧ S y z, ⟨fun x z s x' e k => ?_, fun x z s z' e k => ?_⟩, b, h2, g2⟩
 ·obtain ⟨y, e1, e2⟩ := e
  obtain ⟨y', k1, k2⟩ := h1.fwd x y s x' e1 k;obtain ⟨z', k3, k4⟩ := g1.fwd y z s y' e2 k1;exact ⟨z', k3, y', k2, k4⟩
 ·obtain ⟨y, e1, e2⟩ := e
  obtain ⟨y', k1, k2⟩ := g1.bwd y z s z' e2 k;obtain ⟨x', k3, k4⟩ := h1.bwd x y s y' e1 k1;exact ⟨x', k3, y', k4, k2⟩
end
def nE (es : List Ed) (x : Nat) (l : Int) (y : Nat) : Prop := ((x : Int), l, (y : Int)) ∈ es
section
variable {es : List Ed} {N r : Nat}
theorem nE_in (he : EdIn N es) {x y : Nat} {l : Int} (h : nE es x l y) : x < N ∧ y < N := by
 have := he _ h;simp only at this;omega
end
def tE (ls : List ByteArray) (es : List Ed) (x : Nat) (s : ByteArray) (y : Nat) : Prop := ∃ l : Nat, nE es x (l : Int) y ∧ ls[l]? = some s
def sumE {L : Type} (n : Nat) (A B : Nat → L → Nat → Prop) (x : Nat) (s : L) (y : Nat) : Prop := (x < n ∧ y < n ∧ A x s y) ∨ (∃ x' y', x = n + x' ∧ y = n + y' ∧ B x' s y')
open Go.Sort
def pq (p : List Int) (x : Nat) : Option Int := p[x]?
def inrE (es : List Ed) (p : List Int) : Nat → Nat → Prop := inrt (nE es) (0 : Int) (pq p)
open Classical in
noncomputable def offL (es : List Ed) (N : Nat) (p : List Int) (k : Nat) : List Int := (es.filter fun e => decide (StarR (inrE es p) k e.1.toNat ∧ ¬ (e.2.1 = 0 ∧ pq p e.1.toNat = pq p e.2.2.toNat))).map (cdE N p)
open Classical in
noncomputable def dvgI (es : List Ed) (d : Bool) (p : List Int) (k : Nat) : Int := if d = true ∧ Dvg (inrE es p) k then 1 else 0
noncomputable def keyB (es : List Ed) (N : Nat) (d : Bool) (p : List Int) (k : Nat) : List Int := [(p[k]?).getD 0, dvgI es d p k] ++ Lib.compact (sortI (offL es N p k))
noncomputable def refB (es : List Ed) (N : Nat) (d : Bool) (p : List Int) : List Int := nkF ((List.range N).map (keyB es N d p))
section
variable {es : List Ed} {N : Nat} {p : List Int} {d : Bool}
theorem star_in (he : EdIn N es) {x y : Nat} (h : StarR (inrE es p) x y) (hx : x < N) : y < N := by
 induction h with
 | refl => exact hx
 | step e _ ih => exact ih (nE_in he e.1).2
open Classical in
theorem offL_mem (he : EdIn N es) (hp : p.length = N) {k : Nat} {c : Int} : c ∈ offL es N p k ↔ ∃ l b, offr (nE es) 0 (pq p) k l (some b) ∧ c = l * (N : Int) + b := by
 unfold offL;rw [List.mem_map]
 constructor
 ·rintro ⟨e, h1, rfl⟩
  obtain ⟨h1, h2⟩ := List.mem_filter.1 h1;obtain ⟨h2, h3⟩ := of_decide_eq_true h2;obtain ⟨b, hb⟩ := to_get he hp h1;obtain ⟨f, l, t⟩ := e;have hin := he _ h1;dsimp only at h2 h3 hb hin;refine ⟨l, b, ⟨f.toNat, t.toNat, h2, ?_, hb, h3⟩, by unfold cdE; dsimp only; rw [hb]; rfl⟩;unfold nE;rw [show ((f.toNat : Nat) : Int) = f by omega, show ((t.toNat : Nat) : Int) = t by omega];exact h1
 ·rintro ⟨l, b, ⟨x1, x2, h1, h2, h3, h4⟩, rfl⟩
  refine ⟨_, List.mem_filter.2 ⟨h2, decide_eq_true ?_⟩, ?_⟩
  ·simpa using ⟨h1, fun e => fun g => h4 ⟨e, g⟩⟩
  ·unfold cdE
   have h3 : p[x2]? = some b := h3
   simp [h3]
theorem refB_part (es : List Ed) (N : Nat) (d : Bool) (p : List Int) : PartN N (refB es N d p) := ⟨by unfold refB; rw [nkF_len]; simp, nkF_norm _⟩
theorem refB_same (he : EdIn N es) (hp : p.length = N) (hr : ∀ x, x ∈ p → 0 ≤ x ∧ x < (N : Int)) {i j : Nat} (hi : i < N) (hj : j < N) :
  sameB (refB es N d p) i j ↔ sameB p i j ∧ (d = true → (Dvg (inrE es p) i ↔ Dvg (inrE es p) j)) ∧ ∀ l b, offr (nE es) 0 (pq p) i l (some b) ↔ offr (nE es) 0 (pq p) j l (some b) := by
 have hk : ((List.range N).map (keyB es N d p)).length = N := by simp
 unfold refB;rw [nk_same (by omega) (by omega), List.getElem?_map, List.getElem?_map, List.getElem?_range hi, List.getElem?_range hj];simp only [Option.map_some, Option.some.injEq];unfold keyB;simp only [List.cons_append, List.nil_append, List.cons.injEq];rw [set_ext];have e1 : (p[i]?).getD 0 = (p[j]?).getD 0 ↔ sameB p i j := by
  unfold sameB;rw [List.getElem?_eq_getElem (by omega), List.getElem?_eq_getElem (by omega)]
  simp
 have e2 : dvgI es d p i = dvgI es d p j ↔ (d = true → (Dvg (inrE es p) i ↔ Dvg (inrE es p) j)) := by
  unfold dvgI
  by_cases hd : d = true
  ·by_cases h1 : Dvg (inrE es p) i <;> by_cases h2 : Dvg (inrE es p) j <;> simp [hd, h1, h2]
  ·simp [hd]
 have hin : ∀ {k : Nat} {l b : Int}, offr (nE es) 0 (pq p) k l (some b) → 0 ≤ b ∧ b < (N : Int) := fun ⟨_, x2, _, _, hb, _⟩ => hr _ (List.mem_of_getElem? (show p[x2]? = some _ from hb))
 rw [e1, e2];refine and_congr_right fun _ => and_congr_right fun _ => ?_
 constructor
 ·intro h l b
  have := h (l * (N : Int) + b);rw [offL_mem he hp, offL_mem he hp] at this
  constructor
  ·intro g
   obtain ⟨l2, b2, g2, e⟩ := this.1 ⟨l, b, g, rfl⟩;obtain ⟨rfl, rfl⟩ := cd_inj (hin g) (hin g2) e;exact g2
  ·intro g
   obtain ⟨l2, b2, g2, e⟩ := this.2 ⟨l, b, g, rfl⟩;obtain ⟨rfl, rfl⟩ := cd_inj (hin g) (hin g2) e;exact g2
 ·intro h c
  rw [offL_mem he hp, offL_mem he hp]
  constructor
  ·rintro ⟨l, b, g, e⟩; exact ⟨l, b, (h l b).1 g, e⟩
  ·rintro ⟨l, b, g, e⟩; exact ⟨l, b, (h l b).2 g, e⟩
theorem refB_ref (he : EdIn N es) : RefG (refB es N d) N := ⟨fun p => refB_part es N d p, fun p hp i j hi hj h => ((refB_same he hp.len hp.range hi hj).1 h).1⟩
theorem offr_some (he : EdIn N es) (hp : p.length = N) {k : Nat} {l : Int} {b : Option Int} (h : offr (nE es) 0 (pq p) k l b) : ∃ c, b = some c := by
 obtain ⟨x1, x2, _, h2, rfl, _⟩ := h;exact ⟨_, List.getElem?_eq_getElem (show x2 < p.length by rw [hp]; exact (nE_in he h2).2)⟩
theorem isSome_at {α : Type} {l : List α} {i : Nat} : (l[i]?).isSome = true ↔ i < l.length := by
 by_cases h : i < l.length
 ·rw [List.getElem?_eq_getElem h]; simp [h]
 ·rw [List.getElem?_eq_none (by omega)]; simp [h]
theorem pq_in (hp : p.length = N) {x y : Nat} (h : pq p x = pq p y) : x < N ↔ y < N := by
 unfold pq at h;rw [← hp, ← isSome_at, h, isSome_at]
theorem none_off (he : EdIn N es) {α : Type} {q : Nat → α} {x : Nat} (hx : ¬ x < N) {l : Int} {b : α} : ¬ offr (nE es) 0 q x l b := by
 rintro ⟨x1, x2, h1, h2, _⟩
 cases h1 with
 | refl => exact hx (nE_in he h2).1
 | step e _ => exact hx (nE_in he e.1).1
theorem none_dvg (he : EdIn N es) {α : Type} {q : Nat → α} {x : Nat} (hx : ¬ x < N) : ¬ Dvg (inrt (nE es) (0 : Int) q) x := fun h => by
 obtain ⟨y, h1, _⟩ := h.next;exact hx (nE_in he h1.1).1
theorem stable_stb (he : EdIn N es) (hp : PartN N p) (hs : refB es N d p = p) : Stb (nE es) (0 : Int) (d = true) (pq p) := by
 have key : ∀ {x y : Nat}, pq p x = pq p y → x < N → (d = true → (Dvg (inrE es p) x ↔ Dvg (inrE es p) y)) ∧ ∀ l b, offr (nE es) 0 (pq p) x l (some b) ↔ offr (nE es) 0 (pq p) y l (some b) := fun {x y} hxy hx => by
  have hy := (pq_in hp.len hxy).1 hx;have hxy : sameB p x y := hxy;rw [← hs] at hxy;exact ((refB_same he hp.len hp.range hx hy).1 hxy).2
 refine ⟨fun x y l b hq ho => ?_, fun hd x y hq hx => ?_⟩
 ·by_cases h : x < N
  ·obtain ⟨c, rfl⟩ := offr_some he hp.len ho
   exact ((key hq h).2 l c).1 ho
  ·exact absurd ho (none_off he h)
 ·by_cases h : x < N
  ·exact ((key hq h).1 hd).1 hx
  ·exact absurd hx (none_dvg he h)
theorem stb_rnd (he : EdIn N es) {α : Type} {q : Nat → α} (hq : Stb (nE es) (0 : Int) (d = true) q) (hr : ∀ x y, q x = q y → (x < N ↔ y < N)) : ∀ (n : Nat) {x y : Nat}, x < N → y < N → q x = q y → sameB (itP (refB es N d) N n) x y
 | 0, x, y, hx, hy, _ => rnd_zero (es := es) hx hy
 | n + 1, x, y, hx, hy, h => by
  have hP := itP_part (refB_ref (d := d) he) n;have hf : ∀ x y, q x = q y → pq (itP (refB es N d) N n) x = pq (itP (refB es N d) N n) y := fun x y e => by
   by_cases hx : x < N
   ·exact stb_rnd he hq hr n hx ((hr x y e).1 hx) e
   ·have hy : ¬ y < N := fun g => hx ((hr x y e).2 g)
    unfold pq;rw [List.getElem?_eq_none (by rw [hP.len]; omega), List.getElem?_eq_none (by rw [hP.len]; omega)]
  refine (refB_same he hP.len hP.range hx hy).2 ⟨hf x y h, fun hd => ⟨fun g => hq.fine_dvg hd hf h g, fun g => hq.fine_dvg hd hf h.symm g⟩, fun l b => ⟨fun g => hq.fine_off hf h g, fun g => hq.fine_off hf h.symm g⟩⟩
end
section
variable {ls : List ByteArray} {es : List Ed} {α : Type} {q : Nat → α} {t0 : ByteArray} {d : Prop}
theorem nd_inj (hn : ls.Nodup) {i j : Nat} {s : ByteArray} (h : ls[i]? = some s) (g : ls[j]? = some s) : i = j := by
 obtain ⟨hi, e1⟩ := List.getElem?_eq_some_iff.1 h;obtain ⟨hj, e2⟩ := List.getElem?_eq_some_iff.1 g;exact (List.getElem_inj hn).1 (e1.trans e2.symm)
theorem inrt_text (hn : ls.Nodup) (h0 : ls[0]? = some t0) : inrt (tE ls es) t0 q = inrt (nE es) (0 : Int) q := by
 funext x y
 refine propext ⟨fun h => ⟨?_, h.2⟩, fun h => ⟨⟨0, h.1, h0⟩, h.2⟩⟩;obtain ⟨l, g1, g2⟩ := h.1;rw [nd_inj hn g2 h0] at g1;exact g1
theorem offr_text (hn : ls.Nodup) (h0 : ls[0]? = some t0) {x : Nat} {s : ByteArray} {b : α} : offr (tE ls es) t0 q x s b ↔ ∃ l : Nat, ls[l]? = some s ∧ offr (nE es) (0 : Int) q x (l : Int) b := by
 unfold offr;rw [inrt_text hn h0]
 constructor
 ·rintro ⟨x1, x2, h1, ⟨l, g1, g2⟩, h3, h4⟩
  exact ⟨l, g2, x1, x2, h1, g1, h3, fun e => h4 ⟨by
   have : l = 0 := by omega
   rw [this, h0] at g2;exact (Option.some.inj g2).symm, e.2⟩⟩
 ·rintro ⟨l, g2, x1, x2, h1, g1, h3, h4⟩
  exact ⟨x1, x2, h1, ⟨l, g1, g2⟩, h3, fun e => h4 ⟨by
   have := e.1;subst this;rw [nd_inj hn g2 h0]; rfl, e.2⟩⟩
theorem offr_lab (hl : ∀ e, e ∈ es → 0 ≤ e.2.1 ∧ e.2.1 < (ls.length : Int)) {x : Nat} {l : Int} {b : α} (h : offr (nE es) (0 : Int) q x l b) : ∃ (k : Nat) (s : ByteArray), l = (k : Int) ∧ ls[k]? = some s := by
 obtain ⟨x1, x2, -, h, -, -⟩ := h;have := hl _ h;dsimp only at this;exact ⟨l.toNat, _, by omega, List.getElem?_eq_getElem (show l.toNat < ls.length by omega)⟩
theorem stb_text (hn : ls.Nodup) (h0 : ls[0]? = some t0) (hl : ∀ e, e ∈ es → 0 ≤ e.2.1 ∧ e.2.1 < (ls.length : Int)) : Stb (nE es) (0 : Int) d q ↔ Stb (tE ls es) t0 d q := by
 constructor
 ·intro h
  refine ⟨fun x y s b hq ho => ?_, by rw [inrt_text hn h0]; exact h.dvg⟩;obtain ⟨l, g1, g2⟩ := (offr_text hn h0).1 ho;exact (offr_text hn h0).2 ⟨l, g1, h.off x y _ b hq g2⟩
 ·intro h
  refine ⟨fun x y l b hq ho => ?_, by have := h.dvg; rw [inrt_text hn h0] at this; exact this⟩;obtain ⟨k, s, rfl, hs⟩ := offr_lab hl ho;obtain ⟨l2, g1, g2⟩ := (offr_text hn h0).1 (h.off x y s b hq ((offr_text hn h0).2 ⟨k, hs, ho⟩));rw [nd_inj hn hs g1];exact g2
end
section
variable {L : Type} {A B : Nat → L → Nat → Prop} {n m : Nat}
theorem emb_left (hA : ∀ x s y, A x s y → x < n ∧ y < n) (hB : ∀ x s y, B x s y → x < m ∧ y < m) {z : Nat} (hz : n + m ≤ z) : Emb A (sumE n A B) fun i => if i < n then i else z := by
 refine ⟨fun i l j h => ?_, fun i l y h => ?_⟩
 ·have := hA i l j h
  rw [if_pos this.1, if_pos this.2];exact .inl ⟨this.1, this.2, h⟩
 ·by_cases hi : i < n
  ·rw [if_pos hi] at h
   rcases h with ⟨_, h2, h⟩ | ⟨x', y', e, _, _⟩
   ·exact ⟨y, by rw [if_pos h2], h⟩
   ·omega
  ·rw [if_neg hi] at h
   rcases h with ⟨h2, _, _⟩ | ⟨x', y', e, _, h⟩
   ·omega
   ·have := hB _ _ _ h; omega
theorem emb_right : Emb B (sumE n A B) fun i => n + i := by
 refine ⟨fun i l j h => .inr ⟨i, j, rfl, rfl, h⟩, fun i l y h => ?_⟩
 rcases h with ⟨h1, _, _⟩ | ⟨x', y', e, rfl, h⟩
 ·omega
 ·obtain rfl : x' = i := by omega
  exact ⟨y', rfl, h⟩
end
section
variable {L : Type} {E M U : Nat → L → Nat → Prop} {τ : L} {d : Prop} {P : Nat → Nat} {f1 f2 : Nat → Nat} {q : Nat → Nat ⊕ Nat}
theorem quo_alike (hs : Stb E τ d P) (hM : QuoB E M τ d P) (h1 : Emb E U f1) (h2 : Emb M U f2) (q1 : ∀ i, q (f1 i) = .inl (P i)) (q2 : ∀ b, q (f2 b) = .inl b) (hc : ∀ u, (∃ i, u = f1 i) ∨ (∃ b, u = f2 b) ∨ q u = .inr u) : Stb U τ d q := by
 have hg : ∀ a b : Nat, (Sum.inl a : Nat ⊕ Nat) = Sum.inl b → a = b := fun a b h => Sum.inl.inj h
 have ho : ∀ u c, q u = .inl c → ∀ l b, offr U τ q u l b ↔ ∃ c', b = Sum.inl c' ∧ offr M τ (fun x => x) c l c' := by
  intro u c hu l b
  rcases hc u with ⟨i, rfl⟩ | ⟨k, rfl⟩ | e
  ·rw [q1] at hu
   rw [h1.off (P := P) (g := Sum.inl) q1 hg];have hu := Sum.inl.inj hu;subst hu;exact exists_congr fun c' => and_congr_right fun _ => quo_off hs hM
  ·rw [q2] at hu
   rw [h2.off (P := fun x => x) (g := Sum.inl) q2 hg];have hu := Sum.inl.inj hu;subst hu;exact Iff.rfl
  ·rw [e] at hu; cases hu
 have hd : d → ∀ u c, q u = .inl c → (Dvg (inrt U τ q) u ↔ Dvg (inrt M τ fun x => x) c) := by
  intro hd u c hu
  rcases hc u with ⟨i, rfl⟩ | ⟨k, rfl⟩ | e
  ·rw [q1] at hu
   rw [h1.dvg (P := P) (g := Sum.inl) q1 hg];have hu := Sum.inl.inj hu;subst hu;exact quo_dvg hs hM hd
  ·rw [q2] at hu
   rw [h2.dvg (P := fun x => x) (g := Sum.inl) q2 hg];have hu := Sum.inl.inj hu;subst hu;exact Iff.rfl
  ·rw [e] at hu; cases hu
 have hcase : ∀ u, (∃ c, q u = .inl c) ∨ q u = .inr u := fun u => by
  rcases hc u with ⟨i, rfl⟩ | ⟨k, rfl⟩ | e
  ·exact .inl ⟨_, q1 i⟩
  ·exact .inl ⟨_, q2 k⟩
  ·exact .inr e
 refine ⟨fun x y l b hq h => ?_, fun hd' x y hq h => ?_⟩
 ·rcases hcase x with ⟨c, e⟩ | e
  ·exact (ho y c (hq ▸ e) l b).2 ((ho x c e l b).1 h)
  ·rcases hcase y with ⟨c, e2⟩ | e2
   ·rw [hq, e2] at e; cases e
   ·rw [e, e2] at hq
    exact Sum.inr.inj hq ▸ h
 ·rcases hcase x with ⟨c, e⟩ | e
  ·exact (hd hd' y c (hq ▸ e)).2 ((hd hd' x c e).1 h)
  ·rcases hcase y with ⟨c, e2⟩ | e2
   ·rw [hq, e2] at e; cases e
   ·rw [e, e2] at hq
    exact Sum.inr.inj hq ▸ h
end
end Go.Proofs.YtnhomkmfbngmgaaGreatDoor
namespace Go.Proofs
open Go.Shelf
def Tryz.laysSortG_ren : Go.Shelf.Ren := ⟨fun | 6 => 132 | 15 => 224 | 14 => 223 | 28 => 289 | 29 => 290 | 20 => 281 | 21 => 282 | 22 => 283 | 23 => 284 | 24 => 285 | 25 => 286 | 26 => 287 | 27 => 288 | 46 => 339 | 47 => 340 | 48 => 341 | 49 => 342 | 50 => 343 | 57 => 374 | n => n, fun | 22 => 25 | 24 => 84 | 25 => 147 | 3 => 3 | 39 => 243 | 0 => 0 | 53 => 292 | 55 => 137 | 4 => 4 | 46 => 285 | 45 => 284 | 50 => 289 | 5 => 5 | 9 => 9 | 66 => 327 | 70 => 331 | 76 => 352 | 77 => 353 | n => n, fun | n => n⟩
theorem Tryz.laysSortG : Go.Proofs.SlLaysF0.n6 Tryz.prog Tryz.laysSortG_ren := {
 mixed := by kernel_rfl
 f6 := ⟨Tryz.f132.name, by decide, Tryz.func132.trans (congrArg some (by kernel_rfl))⟩
 f14 := ⟨Tryz.f223.name, by decide, Tryz.func223.trans (congrArg some (by kernel_rfl))⟩
 f15 := Tryz.func224.trans (congrArg some (by kernel_rfl))
 f20 := ⟨Tryz.f281.name, by decide, Tryz.func281.trans (congrArg some (by kernel_rfl))⟩
 f21 := ⟨Tryz.f282.name, by decide, Tryz.func282.trans (congrArg some (by kernel_rfl))⟩
 f22 := ⟨Tryz.f283.name, by decide, Tryz.func283.trans (congrArg some (by kernel_rfl))⟩
 f23 := ⟨Tryz.f284.name, by decide, Tryz.func284.trans (congrArg some (by kernel_rfl))⟩
 f24 := ⟨Tryz.f285.name, by decide, Tryz.func285.trans (congrArg some (by kernel_rfl))⟩
 f25 := ⟨Tryz.f286.name, by decide, Tryz.func286.trans (congrArg some (by kernel_rfl))⟩
 f26 := ⟨Tryz.f287.name, by decide, Tryz.func287.trans (congrArg some (by kernel_rfl))⟩
 f27 := ⟨Tryz.f288.name, by decide, Tryz.func288.trans (congrArg some (by kernel_rfl))⟩
 f28 := Tryz.func289.trans (congrArg some (by kernel_rfl))
 f29 := Tryz.func290.trans (congrArg some (by kernel_rfl))
 f46 := ⟨Tryz.f339.name, by decide, Tryz.func339.trans (congrArg some (by kernel_rfl))⟩
 f47 := Tryz.func340.trans (congrArg some (by kernel_rfl))
 f48 := Tryz.func341.trans (congrArg some (by kernel_rfl))
 f49 := ⟨Tryz.f342.name, by decide, Tryz.func342.trans (congrArg some (by kernel_rfl))⟩
 f50 := ⟨Tryz.f343.name, by decide, Tryz.func343.trans (congrArg some (by kernel_rfl))⟩
 f57 := ⟨Tryz.f374.name, by decide, Tryz.func374.trans (congrArg some (by kernel_rfl))⟩
 t0 := Tryz.underlying0
 a0 := Tryz.isAgg0
 z0 := Tryz.sizeOf0
 v0 := Tryz.zeroValue0
 t3 := Tryz.underlying3
 a3 := Tryz.isAgg3
 z3 := Tryz.sizeOf3
 v3 := Tryz.zeroValue3
 t4 := Tryz.underlying4
 a4 := Tryz.isAgg4
 z4 := Tryz.sizeOf4
 v4 := Tryz.zeroValue4
 t5 := Tryz.underlying5
 a5 := Tryz.isAgg5
 z5 := Tryz.sizeOf5
 v5 := Tryz.zeroValue5
 t9 := Tryz.underlying9
 a9 := Tryz.isAgg9
 z9 := Tryz.sizeOf9
 v9 := Tryz.zeroValue9
 t22 := Tryz.underlying25
 a22 := Tryz.isAgg25
 z22 := Tryz.sizeOf25
 v22 := Tryz.zeroValue25
 t25 := Tryz.underlying147
 a25 := Tryz.isAgg147
 z25 := Tryz.sizeOf147
 v25 := Tryz.zeroValue147
 t39 := Tryz.underlying243
 a39 := Tryz.isAgg243
 z39 := Tryz.sizeOf243
 v39 := Tryz.zeroValue243
 t45 := Tryz.underlying284
 a45 := Tryz.isAgg284
 z45 := Tryz.sizeOf284
 v45 := Tryz.zeroValue284
 t46 := Tryz.underlying285
 a46 := Tryz.isAgg285
 z46 := Tryz.sizeOf285
 v46 := Tryz.zeroValue285
 t50 := Tryz.underlying289
 a50 := Tryz.isAgg289
 z50 := Tryz.sizeOf289
 v50 := Tryz.zeroValue289
 t53 := Tryz.underlying292
 a53 := Tryz.isAgg292
 z53 := Tryz.sizeOf292
 v53 := Tryz.zeroValue292
 t55 := Tryz.underlying137
 a55 := Tryz.isAgg137
 z55 := Tryz.sizeOf137
 v55 := Tryz.zeroValue137
 t66 := Tryz.underlying327
 a66 := Tryz.isAgg327
 z66 := Tryz.sizeOf327
 v66 := Tryz.zeroValue327
 t70 := Tryz.underlying331
 a70 := Tryz.isAgg331
 z70 := Tryz.sizeOf331
 v70 := Tryz.zeroValue331
 t76 := Tryz.underlying352
 a76 := Tryz.isAgg352
 z76 := Tryz.sizeOf352
 v76 := Tryz.zeroValue352
 t77 := Tryz.underlying353
 a77 := Tryz.isAgg353
 z77 := Tryz.sizeOf353
 v77 := Tryz.zeroValue353 }
open Go.Shelf Go.RowKit Go.Lib Go.Sort in
theorem Tryz.slices_SortFunc_edge {α : Type} [Inhabited α] (enc : α → List Value) (hk : ∀ x, (enc x).length = 3) (h1 : ∀ x, ∀ v ∈ enc x, v.oneCell' = true) (cf : α → α → Int) (hO : SWO (ltOf cf)) (g : Nat) (cb : Array Value) (blk off cap : Nat) (d : Array α) (w : World) (eg : ∀ args w, (callFunc g args).run Tryz.prog w = .ok (.enter g args) w) (hcmp : CmpLays Tryz.prog g cb enc 3 cf blk off d.size w) (hH : HoldsK enc 3 w blk off d) (hblk : blk < w.heap.size) (hsz : d.size < 4611686018427387904) (hT : ∀ x y, (ltOf cf) x y = false → (ltOf cf) y x = false → x = y) :
  Calls Tryz.prog 132 #[.slice (some ⟨blk, off, none⟩) d.size cap, .func (.func g) #[] cb] w fun e w' =>
   e = .returned (.tuple #[]) ∧ ∃ n os, w' = sortWorldK enc 3 w blk off n (d.toList.mergeSort fun x y => !(ltOf cf) y x).toArray os := AnyQ.slices_SortFunc_total Tryz.laysSortG 3 Tryz.isAgg84 Tryz.sizeOf84 enc hk h1 cf hO g cb blk off cap d w eg hcmp hH hblk hsz hT
open Go.Shelf Go.RowKit Go.Lib Go.Sort in
theorem Tryz.slices_SortFunc_edge_none (p : Option Addr) (cap : Nat) (fv : Value) (w : World) :
  Calls Tryz.prog 132 #[.slice p 0 cap, fv] w fun e w' => e = .returned (.tuple #[]) ∧ w' = w := AnyF.slices_SortFunc_none Tryz.laysSortG p cap fv w
end Go.Proofs
namespace Go.Proofs.YtnhomkmfbngmgaaGreatDoor
open Go.ChangeShapes Go.WideShapes Go.ChangeAt Go.RowKit Go.Sort Go.Lib
theorem push3 (h : Array Obj) (a b o : Obj) : ((h.push a).push b).push o = h ++ #[a, b, o] := by
 apply Array.ext'
 simp
theorem grow3a (w : World) (a b o : Obj) : (((w.alloc a).alloc b).drew).alloc o = grow (w.drewN 1) #[a, b, o] := by
 unfold grow;rw [← push3]
 rfl
theorem grow3b (w : World) (a b o : Obj) : (((w.alloc a).alloc b).alloc o).drew = grow (w.drewN 1) #[a, b, o] := by
 unfold grow;rw [← push3]
 rfl
theorem compareEdgesG_calls (x1 x2 x3 y1 y2 y3 : Int) (w : World) :
  Calls Tryz.prog 122 #[.agg #[.int .i64 x1, .int .i64 x2, .int .i64 x3], .agg #[.int .i64 y1, .int .i64 y2, .int .i64 y3]] w fun e w' => e = .returned (.int .i64 (cmpE (x1, x2, x3) (y1, y2, y3))) ∧ ∃ q os, w' = grow (w.drewN q) os := by
 have hv : Hid (cmpE (x1, x2, x3) (y1, y2, y3) = orF [cmpI x1 y1, cmpI x2 y2, cmpI x3 y3]) := rfl;have hbA : Below w.heap.size w ((w.alloc (.cells #[.int .i64 x1, .int .i64 x2, .int .i64 x3] 84)).alloc (.cells #[.int .i64 y1, .int .i64 y2, .int .i64 y3] 84)) := (bR.alloc zR _).alloc (by simp only [World.size_alloc]; omega) _;have k0 := (Below.heap_alloc (w.alloc (.cells #[.int .i64 x1, .int .i64 x2, .int .i64 x3] 84)) (.cells #[.int .i64 y1, .int .i64 y2, .int .i64 y3] 84) w.heap.size (by simp only [World.size_alloc]; omega)).trans (heap_alloc_new w (.cells #[.int .i64 x1, .int .i64 x2, .int .i64 x3] 84));have k1 := heap_alloc_new (w.alloc (.cells #[.int .i64 x1, .int .i64 x2, .int .i64 x3] 84)) (.cells #[.int .i64 y1, .int .i64 y2, .int .i64 y3] 84);rw [World.size_alloc] at k1;have q := hide compare_calls;have hgr1 : Hid (∀ o : Obj, ∃ (q : Nat) (os : Array Obj), (((w.alloc (.cells #[.int .i64 x1, .int .i64 x2, .int .i64 x3] 84)).alloc (.cells #[.int .i64 y1, .int .i64 y2, .int .i64 y3] 84)).drew).alloc o = grow (w.drewN q) os) := fun o => ⟨1, _, grow3a w _ _ o⟩
 have hgr2 : Hid (∀ o : Obj, ∃ (q : Nat) (os : Array Obj), (((w.alloc (.cells #[.int .i64 x1, .int .i64 x2, .int .i64 x3] 84)).alloc (.cells #[.int .i64 y1, .int .i64 y2, .int .i64 y3] 84)).alloc o).drew = grow (w.drewN q) os) := fun o => ⟨1, _, grow3b w _ _ o⟩
 replace hbA := hide hbA;replace k0 := hide k0;replace k1 := hide k1;go_enter Tryz.func122, Tryz.ntmps122;go_wp2_with fail;generalize hW : ((w.alloc (.cells #[.int .i64 x1, .int .i64 x2, .int .i64 x3] 84)).alloc (.cells #[.int .i64 y1, .int .i64 y2, .int .i64 y3] 84)) = W at *;have a0 : W.cell? ⟨w.heap.size, 0, none⟩ = some (.int .i64 x1) := cR 0 k0.out;have a1 : W.cell? ⟨w.heap.size, 1, none⟩ = some (.int .i64 x2) := cR 1 k0.out;have a2 : W.cell? ⟨w.heap.size, 2, none⟩ = some (.int .i64 x3) := cR 2 k0.out;have b0 : W.cell? ⟨w.heap.size + 1, 0, none⟩ = some (.int .i64 y1) := cR 0 k1.out;have b1 : W.cell? ⟨w.heap.size + 1, 1, none⟩ = some (.int .i64 y2) := cR 1 k1.out;have b2 : W.cell? ⟨w.heap.size + 1, 2, none⟩ = some (.int .i64 y3) := cR 2 k1.out;clear hW
 go_region_held3 (fun w' => w'.cell? ⟨w.heap.size, 0, none⟩ = some (.int .i64 x1) ∧ w'.cell? ⟨w.heap.size, 1, none⟩ = some (.int .i64 x2) ∧ w'.cell? ⟨w.heap.size, 2, none⟩ = some (.int .i64 x3) ∧ w'.cell? ⟨w.heap.size + 1, 0, none⟩ = some (.int .i64 y1) ∧ w'.cell? ⟨w.heap.size + 1, 1, none⟩ = some (.int .i64 y2) ∧ w'.cell? ⟨w.heap.size + 1, 2, none⟩ = some (.int .i64 y3)) (first | exact ⟨a0, a1, a2, b0, b1, b2⟩ | go_keep)
  (first
   | (go_at_call 216; (with_reducible refine (q.out _ _ _).mono ?_); rintro e w' ⟨rfl, rfl⟩)
   | (go_at_call 215; (refine (or3_calls _ _ _ _ _ _ (by exact heap_alloc_new W _)).mono ?_); rintro e w' ⟨rfl, rfl⟩))
 all_goals go_wp2
 all_goals go_ret
 all_goals
  first
   | exact ⟨ret_i (by rw [hv.out]), hgr1.out _⟩
   | exact ⟨ret_i (by rw [hv.out]), hgr2.out _⟩
theorem ltOf_cmpE (a b : Ed) : ltOf cmpE a b = edLess a b := by
 have h := cmpE_less a b;unfold ltOf
 by_cases e : cmpE a b < 0
 ·rw [decide_eq_false (by omega)] at h
  have : edLess a b = true := by cases h2 : edLess a b <;> simp_all
  rw [this]; exact decide_eq_true e
 ·rw [decide_eq_true (by omega)] at h
  have : edLess a b = false := by cases h2 : edLess a b <;> simp_all
  rw [this]; exact decide_eq_false e
theorem swoE : SWO (ltOf cmpE) where
 irrefl x := by rw [ltOf_cmpE]; exact edLess_irr x
 trans x y z h1 h2 := by rw [ltOf_cmpE] at *; exact edLess_trans h1 h2
 ntrans x y z h1 h2 := by
  rw [ltOf_cmpE] at *
  by_cases e1 : x = y
  ·rw [e1]; exact h2
  ·by_cases e2 : y = z
   ·rw [← e2]; exact h1
   ·have g1 := (edLess_total e1).resolve_left (by rw [h1]; decide)
    have g2 := (edLess_total e2).resolve_left (by rw [h2]; decide);exact Bool.eq_false_iff.2 fun h => by
     have := edLess_trans (edLess_trans h g2) g1;rw [edLess_irr] at this; cases this
theorem apartE (x y : Ed) (h : ltOf cmpE x y = false) (g : ltOf cmpE y x = false) : x = y := by
 rw [ltOf_cmpE] at h g
 by_cases e : x = y
 ·exact e
 ·rcases edLess_total e with h1 | h1
  ·rw [h] at h1; cases h1
  ·rw [g] at h1; cases h1
def sortE (l : List Ed) : List Ed := l.mergeSort fun x y => !(ltOf cmpE) y x
theorem sortE_len (l : List Ed) : (sortE l).length = l.length := List.length_mergeSort _
theorem sortE_mem {l : List Ed} {x : Ed} : x ∈ sortE l ↔ x ∈ l := List.mem_mergeSort
theorem sortE_le (l : List Ed) : (sortE l).Pairwise fun x y => edLess y x = false := by
 have := List.pairwise_mergeSort (le := fun x y : Ed => !(ltOf cmpE) y x) (fun a b c h1 h2 => by
  simp only [Bool.not_eq_true', ltOf_cmpE] at *;exact Bool.eq_false_iff.2 fun h => by
   by_cases e : a = b
   ·rw [e] at h; rw [h] at h2; cases h2
   ·have g := (edLess_total e).resolve_right (by rw [h1]; decide)
    have := edLess_trans h g;rw [this] at h2; cases h2) (fun a b => by
  simp only [Bool.or_eq_true, Bool.not_eq_true', ltOf_cmpE]
  by_cases h : edLess b a = true
  ·right
   exact Bool.eq_false_iff.2 fun g => by
    have := edLess_trans h g;rw [edLess_irr] at this; cases this
  ·left; exact Bool.eq_false_iff.2 h) l
 exact this.imp fun h => by simpa [ltOf_cmpE] using h
section
variable {w : World} {base g n c q : Nat} {e : TypeId} {l d : List Ed} {os : Array Obj}
theorem flatE_get (d : List Ed) {j : Nat} (hj : j < d.length * 3) : (flatK ev 3 d.toArray)[j]? = (d.flatMap ev)[j]? := by
 have h1 : (flatK ev 3 d.toArray)[j]? = some ((flatK ev 3 d.toArray)[j]!) := by
  rw [getElem!_pos _ j (by simpa using hj), Array.getElem?_eq_getElem (by simpa using hj)]
 rw [h1, get_flatK ev 3 d.toArray j (by simpa using hj)];have hk : j / 3 < d.length := by omega
 have := flat_at flat_ev d (j / 3) d[j / 3] (List.getElem?_eq_getElem hk) (j % 3) ((ev d[j / 3])[j % 3]'(by rw [flat_ev.len]; omega)) (List.getElem?_eq_getElem _);rw [show j / 3 * 3 + j % 3 = j by omega] at this;rw [this, getElem!_pos _ (j / 3) (by simpa using hk)];simp only [List.getElem_toArray];rw [getElem!_pos _ (j % 3) (by rw [flat_ev.len]; omega)]
theorem Own.holdsE (h : Own 3 ev w base e (some ⟨g, 0, none⟩) n c l) : HoldsK ev 3 w g 0 l.toArray := by
 intro j hj;have hj' : j < l.length * 3 := by simpa using hj
 have hs := h.sl flat_ev;have hn := h.len;obtain ⟨b', off', e', -, -, -, hc⟩ := hs.at_ (by omega)
 cases e'
 have hk : j / 3 < l.length := by omega
 have h1 := flatE_get l hj';have h2 := flat_at flat_ev l (j / 3) l[j / 3] (List.getElem?_eq_getElem hk) (j % 3) ((ev l[j / 3])[j % 3]'(by rw [flat_ev.len]; omega)) (List.getElem?_eq_getElem _);rw [show j / 3 * 3 + j % 3 = j by omega] at h2;rw [h2] at h1;have h3 : (flatK ev 3 l.toArray)[j]! = (ev l[j / 3])[j % 3]'(by rw [flat_ev.len]; omega) := by
  rw [getElem!_pos _ j (by simpa using hj)];have := Array.getElem?_eq_getElem (xs := flatK ev 3 l.toArray) (i := j) (by simpa using hj);rw [this] at h1;exact Option.some.inj h1
 have := hc (j / 3) l[j / 3] (List.getElem?_eq_getElem hk) (j % 3) _ (List.getElem?_eq_getElem (by rw [flat_ev.len]; omega));rw [show j / 3 * 3 + j % 3 = j by omega] at this
 show w.cell? ⟨g, 0 + j, none⟩ = some (id ((flatK ev 3 l.toArray)[j]!)) ∧ _
 rw [h3];exact this
theorem putE_block (w : World) (g q : Nat) (F : Array Value) (os : Array Obj) (hg : g < w.heap.size) :
  (grow (putRow id (Sort.ahead w q) g 0 F) os).heap[g]? = (w.heap[g]?).map (onCells (Go.Sort.putCells id 0 F)) := by
 rw [heap_grow_old _ _ (by simpa [putRow, mapBlock, Sort.ahead] using hg)]
 simp [putRow, mapBlock, Sort.ahead, Array.getElem?_modify]
theorem putE_grown (w : World) (g q : Nat) (F : Array Value) (os : Array Obj) : w.grownBy (grow (putRow id (Sort.ahead w q) g 0 F) os) (some g) := by
 refine ⟨rfl, rfl, rfl, by simp [putRow, mapBlock, Sort.ahead], fun k hk hne => ?_⟩;rw [heap_grow_old _ _ (by simpa [putRow, mapBlock, Sort.ahead] using hk)];have hne' : g ≠ k := fun h => hne (by rw [h])
 simp [putRow, mapBlock, Sort.ahead, Array.getElem?_modify, hne']
theorem Own.putK (h : Own 3 ev w base e (some ⟨g, 0, none⟩) n c l) (hd : d.length = n) : Own 3 ev (sortWorldK ev 3 w g 0 q d.toArray os) base e (some ⟨g, 0, none⟩) n c d := by
 rcases h.2.2 with ⟨hv, -⟩ | ⟨g', cap, cur, hv, hb, hg, hnc, hcm, hcs, htake⟩
 ·cases hv
 ·cases hv
  have hlt : g < w.heap.size := (Array.getElem?_eq_some_iff.1 hg).1;refine ⟨hd, by rw [flat_length flat_ev, hd], .inr ⟨g, c, Go.Sort.putCells id 0 (flatK ev 3 d.toArray) cur, rfl, hb, ?_, hnc, hcm, by simp [Go.Sort.putCells, hcs], ?_⟩⟩
  ·unfold sortWorldK putRowK
   rw [putE_block _ _ _ _ _ hlt, hg]
   rfl
  ·apply List.ext_getElem?
   intro k
   by_cases hk : k < n * 3
   ·have hkc : k < cur.size := by omega
    rw [List.getElem?_take, if_pos hk, Array.getElem?_toList];simp only [Go.Sort.putCells, Array.getElem?_mapIdx, Array.getElem?_eq_getElem hkc, Option.map_some];rw [if_pos ⟨Nat.zero_le _, by simp [hd]; omega⟩, Nat.sub_zero];have := flatE_get d (j := k) (by rw [hd]; exact hk);rw [← this, Array.getElem?_eq_getElem (by simp [hd]; omega), getElem!_pos _ k (by simp [hd]; omega)]
    rfl
   ·rw [List.getElem?_eq_none (by simp; omega), List.getElem?_eq_none (by rw [flat_length flat_ev, hd]; omega)]
end
section
variable {w : World} {base n c : Nat} {A : Option Addr} {l : List Ed}
theorem sortE_calls (h : Own 3 ev w base 84 A n c l) (hn : n ≤ 1000000000) :
  Calls Tryz.prog 132 #[.slice A n c, .func (.func 122) #[] #[]] w fun e w' => e = .returned (.tuple #[]) ∧ Own 3 ev w' base 84 A n c (sortE l) ∧ w.grownBy w' (Value.slice A n c).ownBlock := by
 rcases h.2.2 with ⟨hv, hn0⟩ | ⟨g, cap, cur, hv, hb, hg, hnc, hcm, hcs, htake⟩
 ·cases hv
  have hl := List.eq_nil_of_length_eq_zero h.len;subst hl;refine (Tryz.slices_SortFunc_edge_none none 0 _ w).mono ?_;rintro e w' ⟨rfl, rfl⟩;refine ⟨rfl, ?_, ⟨rfl, rfl, rfl, zR, fun _ _ _ => rfl⟩⟩
  simpa [sortE] using h
 ·cases hv
  have hlt : g < w.heap.size := (Array.getElem?_eq_some_iff.1 hg).1;have eg : ∀ args w, (callFunc 122 args).run Tryz.prog w = .ok (.enter 122 args) w := enters_of Tryz.func122 (by kernel_rfl) rfl;have hsz : l.toArray.size = n := by simp [h.len]
  have hcmp : CmpLays Tryz.prog 122 #[] ev 3 cmpE g 0 l.toArray.size w := fun m os dk hs x y => compareEdgesG_calls x.1 x.2.1 x.2.2 y.1 y.2.1 y.2.2 _
  have hq := Tryz.slices_SortFunc_edge ev (fun x => flat_ev.len x) (fun x v hv => flat_ev.one x v hv) cmpE swoE 122 #[] g 0 c l.toArray w eg hcmp h.holdsE hlt (by rw [hsz]; omega) apartE;rw [hsz] at hq;refine hq.mono ?_;rintro e w' ⟨rfl, q, os, rfl⟩;exact ⟨rfl, h.putK (d := sortE l) ((sortE_len l).trans h.len), putE_grown _ _ _ _ _⟩
end
theorem setCells_heap9 (g : Nat) (e : TypeId) : ∀ (vs : List Value) (o : Nat) (w : World) (cur : Array Value), w.heap[g]? = some (.cells cur e (0, 0)) → ∃ cur' : Array Value, (w.setCells g o vs).heap[g]? = some (.cells cur' e (0, 0)) ∧ cur'.size = cur.size ∧ ∀ i, i < o → cur'[i]? = cur[i]?
 | [], o, w, cur, h => ⟨cur, h, rfl, fun _ _ => rfl⟩
 | v :: r, o, w, cur, h => by
  have h1 := heap_setCell_same w g o cur _ v h;obtain ⟨cur', a, b, c⟩ := setCells_heap9 g e r (o + 1) _ _ h1;refine ⟨cur', a, by rw [b]; simp, fun i hi => ?_⟩;rw [c i (by omega), Array.getElem?_setIfInBounds_ne (by omega)]
theorem setCells_only9 (g : Nat) : ∀ (vs : List Value) (o : Nat) (w : World), Only g (g + 1) w (w.setCells g o vs)
 | [], o, w => Only.refl _ _ _
 | v :: r, o, w => by
  have h1 := (Only.refl g (g + 1) w).setCell (p := ⟨g, o, none⟩) zR (Nat.lt_succ_self _) v;exact h1.trans' (setCells_only9 g r (o + 1) _)
theorem Own.clearE {w : World} {base g n c k : Nat} {e : TypeId} {l : List Ed} (h : Own 3 ev w base e (some ⟨g, 0, none⟩) n c l) (hk : k ≤ n) (vs : List Value) : Own 3 ev (w.setCells g (k * 3) vs) base e (some ⟨g, 0, none⟩) k c (l.take k) := by
 rcases h.2.2 with ⟨hv, -⟩ | ⟨g', cap, cur, hv, hb, hg, hnc, hcm, hcs, htake⟩
 ·cases hv
 ·cases hv
  have hn := h.len;have hl : (l.take k).length = k := by rw [List.length_take]; omega
  obtain ⟨cur', a, b, d⟩ := setCells_heap9 g e vs (k * 3) w cur hg;refine ⟨hl, by rw [flat_length flat_ev, hl], .inr ⟨g, c, cur', rfl, hb, a, by omega, hcm, by rw [b]; exact hcs, ?_⟩⟩
  apply List.ext_getElem?
  intro i
  by_cases hi : i < k * 3
  ·rw [List.getElem?_take, if_pos hi, Array.getElem?_toList, d i hi]
   have h1 : (cur.toList.take (n * 3))[i]? = (l.flatMap ev)[i]? := by rw [htake]
   rw [List.getElem?_take, if_pos (by omega), Array.getElem?_toList] at h1;rw [h1];have h2 : l.flatMap ev = (l.take k).flatMap ev ++ (l.drop k).flatMap ev := by rw [← List.flatMap_append, List.take_append_drop]
   rw [h2, List.getElem?_append_left (by rw [flat_length flat_ev, hl]; exact hi)]
  ·rw [List.getElem?_eq_none (by simp; omega), List.getElem?_eq_none (by rw [flat_length flat_ev, hl]; omega)]
theorem run_clearE (w : World) (ty : TypeId) (b o n c : Nat) (hn : 0 < n) (hc : ∀ j, j < n * 3 → (w.cell? ⟨b, o + j, none⟩).isSome = true) (hf : ∀ j, j < n * 3 → w.frozen? ⟨b, o + j, none⟩ = false) :
  (Builtin.clear_ #[25] ty #[.slice (some ⟨b, o, none⟩) n c]).run Tryz.prog w = .ok (.tuple #[]) (w.setCells b o (List.replicate (n * 3) (.int .i64 0))) := by
 have hv : ∀ w, (zeroValue 84).run Tryz.prog w = .ok (.agg #[.int .i64 0, .int .i64 0, .int .i64 0]) w := fun w => by kernel_rfl
 have hzc : (Builtin.zeroCells (Value.agg #[.int .i64 0, .int .i64 0, .int .i64 0]).cells n).toList = List.replicate (n * 3) (.int .i64 0) := by
  have e : (Value.agg #[.int .i64 0, .int .i64 0, .int .i64 0]).cells = #[.int .i64 0, .int .i64 0, .int .i64 0] := rfl;rw [e]
  apply List.ext_getElem
  ·simp [Builtin.zeroCells, Nat.mul_comm]
  ·intro i h1 h2
   simp only [Builtin.zeroCells, List.getElem_replicate];have : i % 3 = 0 ∨ i % 3 = 1 ∨ i % 3 = 2 := by omega
   rcases this with h | h | h <;> simp [h]
 have hst := run_storeCells_cells (P := Tryz.prog) b o (List.replicate (n * 3) (.int .i64 0)) 0 w (by simpa using hc) (by simpa using hf) (by intro v hv'; rw [List.eq_of_mem_replicate hv']; rfl);simp only [Nat.add_zero] at hst;obtain ⟨m, rfl⟩ : ∃ m, n = m + 1 := ⟨n - 1, by omega⟩
 simp [Builtin.clear_, run_underlying Tryz.underlying25, hv, hzc, hst]
theorem ed_cases (x1 x2 x3 y1 y2 y3 : Int) : (y1 = x1 ∧ y2 = x2 ∧ y3 = x3) ∨ (((x1, x2, x3) : Ed) ≠ (y1, y2, y3) ∧ ((x1 == y1) = false ∨ (y1 = x1 ∧ (x2 == y2) = false) ∨ (y1 = x1 ∧ y2 = x2 ∧ (x3 == y3) = false))) := by
 by_cases a : x1 = y1
 ·by_cases b : x2 = y2
  ·by_cases c : x3 = y3
   ·exact .inl ⟨a.symm, b.symm, c.symm⟩
   ·exact .inr ⟨fun e => c (by injection e with _ e; injection e with _ e), .inr (.inr ⟨a.symm, b.symm, beq_eq_false_iff_ne.2 c⟩)⟩
  ·exact .inr ⟨fun e => b (by injection e with _ e; injection e with e _), .inr (.inl ⟨a.symm, beq_eq_false_iff_ne.2 b⟩)⟩
 ·exact .inr ⟨fun e => a (by injection e with e _), .inl (beq_eq_false_iff_ne.2 a)⟩
theorem gete {l : List Ed} {k : Nat} {x : Ed} (h : l[k]? = some x) : l.toArray[k]! = x := by
 obtain ⟨h1, h2⟩ := List.getElem?_eq_some_iff.1 h;rw [getElem!_pos _ k (by simpa using h1)]
 simpa using h2
theorem only_grown {w w' : World} {g : Nat} (h : Only g (g + 1) w w') : w.grownBy w' (some g) := ⟨h.os, h.tape, h.output, h.size, fun k hk hne => h.block k hk (by
 have : g ≠ k := fun e => hne (by rw [e])
 omega)⟩
theorem cells_all {w : World} {base g n c j : Nat} {e : TypeId} {l : List Ed} (h : Own 3 ev w base e (some ⟨g, 0, none⟩) n c l) (hj : j < n * 3) :
  (w.cell? ⟨g, j, none⟩).isSome = true ∧ w.frozen? ⟨g, j, none⟩ = false := by
 obtain ⟨g', o', x1, x2, x3, ex, -, -, -, hx, c0, c1, c2, f0, f1, f2⟩ := SlE.get (h.sl flat_ev) (show j / 3 < n by omega)
 cases ex
 rw [Nat.zero_add] at c0 c1 c2 f0 f1 f2;have : j = j / 3 * 3 ∨ j = j / 3 * 3 + 1 ∨ j = j / 3 * 3 + 2 := by omega
 rcases this with e | e | e <;> rw [e]
 ·exact ⟨by rw [c0]; rfl, f0⟩
 ·exact ⟨by rw [c1]; rfl, f1⟩
 ·exact ⟨by rw [c2]; rfl, f2⟩
theorem _root_.Go.Lib.CompInv.takeE {l M : List Ed} {m kk n : Nat} (h : CompInv l.toArray m kk M.toArray) (hl : l.length = n) (hm : m = n) : M.take kk = Lib.compact l := by
 subst hm;have h1 : Lib.compact l = compactUpTo l.toArray m := by unfold compact; rw [hl]
 have h2 := h.size;have h3 := h.lt;simp only [List.size_toArray] at h2;rw [h1]
 apply List.ext_getElem?
 intro j
 by_cases hj : j < kk
 ·rw [h.low j hj, List.getElem?_take, if_pos hj, List.getElem?_eq_getElem (show j < M.length by omega), getElem!_pos _ j (by simp; omega)]
  simp
 ·rw [List.getElem?_eq_none (by simp; omega), List.getElem?_eq_none (by rw [h.len]; omega)]
theorem compactE_mem {l : List Ed} {x : Ed} : x ∈ Lib.compact l ↔ x ∈ l := by
 unfold Lib.compact Lib.compactUpTo;rw [List.mem_map]
 constructor
 ·rintro ⟨k, hk, rfl⟩
  have hk' := List.mem_range.1 (List.mem_filter.1 hk).1;rw [getElem!_pos _ k (by simpa using hk')]
  simp
 ·intro hx
  obtain ⟨k, hk, rfl⟩ := List.mem_iff_getElem.1 hx;have key : ∀ k, (hk : k < l.length) → ∃ a, a ∈ (List.range l.length).filter (Lib.keeps l.toArray) ∧ l.toArray[a]! = l[k] := by
   intro k
   induction k with
   | zero => exact fun hk => ⟨0, List.mem_filter.2 ⟨List.mem_range.2 hk, by simp [Lib.keeps]⟩, by rw [getElem!_pos _ 0 (by simpa using hk)]; simp⟩
   | succ k ih =>
    intro hk
    by_cases h : l.toArray[k + 1]! = l.toArray[k]!
    ·obtain ⟨a, ha, e⟩ := ih (by omega)
     refine ⟨a, ha, ?_⟩;rw [e];rw [getElem!_pos _ (k + 1) (by simpa using hk), getElem!_pos _ k (by simp; omega)] at h
     simpa using h.symm
    ·exact ⟨k + 1, List.mem_filter.2 ⟨List.mem_range.2 hk, Lib.keeps_pos (by simpa using h)⟩, by rw [getElem!_pos _ (k + 1) (by simpa using hk)]; simp⟩
  exact key k hk
theorem compactE_len (l : List Ed) : (Lib.compact l).length ≤ l.length := by
 unfold Lib.compact Lib.compactUpTo;rw [List.length_map];exact Nat.le_trans (List.length_filter_le _ _) (by simp)
theorem compactE_calls {w : World} {base n c : Nat} {A : Option Addr} {l : List Ed} (h : Own 3 ev w base 84 A n c l) (hn : n ≤ 1000000000) (hnc : n ≤ c) :
  Calls Tryz.prog 228 #[.slice A n c] w fun e w' => e = .returned (.slice A (Lib.compact l).length c) ∧ Own 3 ev w' base 84 A (Lib.compact l).length c (Lib.compact l) ∧ w.grownBy w' (Value.slice A n c).ownBlock := by
 have hll := h.len
 by_cases hn2 : n < 2
 ·have g1 : (n : Int) < 2 := by omega
  have hc0 : Lib.compact l = l := compact_all l fun j hj => by
   have : j = 0 := by omega
   subst this
   simp [keeps]
  rw [hc0, hll];replace h := hide h;go_enter Tryz.func228, Tryz.ntmps228;go_wp2_with fail;go_ret;exact ⟨rfl, h.out, ⟨rfl, rfl, rfl, zR, fun _ _ _ => rfl⟩⟩
 have g1 : ¬ (n : Int) < 2 := by omega
 have hEe := hide elem_edge;obtain ⟨g, rfl, hbg⟩ := h.neE (by omega);have hbl := (h.lt g rfl).2
 show Calls _ _ _ _ fun e w' => _ ∧ _ ∧ w.grownBy w' (some g)
 replace h := hide h;go_enter Tryz.func228, Tryz.ntmps228;go_wp2_with fail
 go_loopw [3] (fun v wr => ∃ u : Nat, u + 1 ≤ n ∧ v = .int .i64 ((u + 1 : Nat) : Int) ∧ Hid (∃ nq, wr = w.drewN nq) ∧ Hid (∀ j, j ≤ u → keeps l.toArray j = true)) (fun v _ => n - (intOf v).toNat)
 case atStart => exact ⟨0, by omega, rfl, ⟨0, rfl⟩, fun j hj => by
  have : j = 0 := by omega
  subst this
  simp [keeps]⟩
 case round =>
  obtain ⟨u, hu, rfl, hw, hall⟩ := hrel;have hO : Hid (Own 3 ev wr base 84 (some ⟨g, 0, none⟩) n c l) := by
   obtain ⟨nq, e⟩ := hw.out
   show Own _ _ _ _ _ _ _ _ _
   rw [e];exact h.out.keep fun _ _ => rfl
  by_cases hlt : u + 1 < n
  ·have k1 : ((u + 1 : Nat) : Int) < (n : Int) := by omega
   have k0 : (0 : Int) ≤ ((u + 1 : Nat) : Int) := by omega
   have hi1 : IntKind.i64.wrap (((u + 1 : Nat) : Int) - 1) = (u : Int) := by rw [IntWalk.i64_in _ (by omega)]; omega
   have hi2 : ((u + 1 : Nat) : Int) - 1 = (u : Int) := by omega
   have u0 : (0 : Int) ≤ (u : Int) := by omega
   have u1 : (u : Int) < (n : Int) := by omega
   obtain ⟨gx, ox, x1, x2, x3, ex, -, -, -, hx, c0, c1, c2, -⟩ := SlE.get (hO.out.sl flat_ev) hlt;obtain ⟨gy, oy, y1, y2, y3, ey, -, -, -, hy, d0, d1, d2, -⟩ := SlE.get (hO.out.sl flat_ev) (show u < n by omega)
   cases ex
   cases ey
   rw [Nat.zero_add] at c0 c1 c2 d0 d1 d2
   rcases ed_cases x1 x2 x3 y1 y2 y3 with ⟨e1, e2, e3⟩ | ⟨hne, hc⟩
   ·subst e1 e2 e3
    have hdup : Hid (keeps l.toArray (u + 1) = false) := keeps_neg (by omega) (by rw [gete hx]; exact (gete hy).symm);have hs1 : ∀ W : World, (Instr.slice 25 (.slice (some ⟨g, 0, none⟩) n c) (some (.int .i64 ((u + 1 : Nat) : Int))) none none).run Tryz.prog W = .ok (.slice (some ⟨g, (u + 1) * 3, none⟩) (n - (u + 1)) (c - (u + 1))) W := fun W => by
     rw [run_cut hEe.out _ n c (u + 1) (by omega) W];unfold cutA;rw [if_neg (by omega)]
     simp [Addr.add]
    go_upto_region 6 with fail;go_quiet (fail);obtain ⟨wi, hwi⟩ : ∃ wi, wi = wr.drewN nq := ⟨_, rfl⟩;have hOi : Hid (Own 3 ev wi base 84 (some ⟨g, 0, none⟩) n c l) := by rw [hwi]; exact hO.out.keep fun _ _ => rfl
    have hon : Hid (Only g (g + 1) w wi) := by
     obtain ⟨nq2, e⟩ := hw.out;rw [hwi, e];exact ⟨rfl, rfl, rfl, zR, fun _ _ _ => rfl⟩
    rw [← hwi];replace hwi := hide hwi;replace hx := hide hx;replace hy := hide hy;clear c0 c1 c2 d0 d1 d2 hO hw;go_wp2_with fail;obtain ⟨wQ, rfl⟩ : ∃ wQ : World, wQ = wr := ⟨_, rfl⟩
    go_loopw [3, 5] (fun v3 v5 wz => ∃ (kk v : Nat) (M : List Ed), v3 = .int .i64 (kk : Nat) ∧ v5 = .int .i64 ((v + 1 : Nat) : Int) ∧ u + 1 + v + 1 ≤ n ∧ Hid (Own 3 ev wz base 84 (some ⟨g, 0, none⟩) n c M) ∧ Hid (CompInv l.toArray (u + 1 + v + 1) kk M.toArray) ∧ Hid (Only g (g + 1) w wz)) (fun _ v _ => n - (intOf v).toNat)
    case atStart => exact ⟨u + 1, 0, l, rfl, rfl, by omega, hOi.out, CompInv.start (fun j hj => hall.out j (by omega)) hdup.out, hon.out⟩
    case round =>
     clear hOi hon;obtain ⟨kk, v, M, rfl, rfl, hv, hOM, hI, hon⟩ := hrel;have hMl := hOM.out.len;have hkm := hI.out.lt
     by_cases hlt2 : u + 1 + (v + 1) < n
     ·have k2 : ((v + 1 : Nat) : Int) < ((n - (u + 1) : Nat) : Int) := by omega
      have k20 : (0 : Int) ≤ ((v + 1 : Nat) : Int) := by omega
      have hi3 : IntKind.i64.wrap (((v + 1 : Nat) : Int) - 1) = (v : Int) := by rw [IntWalk.i64_in _ (by omega)]; omega
      have hi4 : ((v + 1 : Nat) : Int) - 1 = (v : Int) := by omega
      have v0 : (0 : Int) ≤ (v : Int) := by omega
      have v1 : (v : Int) < ((n - (u + 1) : Nat) : Int) := by omega
      have kk0 : (0 : Int) ≤ (kk : Int) := by omega
      have kk1 : (kk : Int) < (n : Int) := by omega
      have hki : IntKind.i64.wrap ((kk : Int) + 1) = ((kk + 1 : Nat) : Int) := by rw [IntWalk.i64_in _ (by omega)]; omega
      have hvi : IntKind.i64.wrap (((v + 1 : Nat) : Int) + 1) = ((v + 1 + 1 : Nat) : Int) := by rw [IntWalk.i64_in _ (by omega)]; omega
      obtain ⟨gx, ox, x1, x2, x3, ex, -, -, -, hx, c0, c1, c2, -⟩ := SlE.get (hOM.out.sl flat_ev) hlt2;obtain ⟨gy, oy, y1, y2, y3, ey, -, -, -, hy, d0, d1, d2, -⟩ := SlE.get (hOM.out.sl flat_ev) (show u + 1 + v < n by omega);obtain ⟨gz, oz, z1, z2, z3, ez, -, -, -, hz, z0c, z1c, z2c, z0f, z1f, z2f⟩ := SlE.get (hOM.out.sl flat_ev) (show kk < n by omega)
      cases ex
      cases ey
      cases ez
      rw [Nat.zero_add] at c0 c1 c2 d0 d1 d2 z0c z1c z2c z0f z1f z2f;rw [show (u + 1 + (v + 1)) * 3 = (u + 1) * 3 + (v + 1) * 3 from Nat.add_mul _ _ _] at c0 c1 c2;rw [show (u + 1 + v) * 3 = (u + 1) * 3 + v * 3 from Nat.add_mul _ _ _] at d0 d1 d2;have hx' : l.toArray[u + 1 + v + 1]! = (x1, x2, x3) := by
       rw [← hI.out.high (u + 1 + v + 1) (by omega)];exact gete hx
      have hy' : l.toArray[u + 1 + v]! = (y1, y2, y3) := by
       rw [← hI.out.high _ (by omega)];exact gete hy
      replace hx := hide hx;replace hy := hide hy;replace hz := hide hz;replace hx' := hide hx';replace hy' := hide hy'
      rcases ed_cases x1 x2 x3 y1 y2 y3 with ⟨e1, e2, e3⟩ | ⟨hne, hc⟩
      ·subst e1 e2 e3
       have hI2 : Hid (CompInv l.toArray (u + 1 + v + 1 + 1) kk M.toArray) := hI.out.skip (keeps_neg (by omega) (by rw [hx'.out, show u + 1 + v + 1 - 1 = u + 1 + v by omega]; exact hy'.out.symm));go_upto_region 11 with fail;go_quiet (fail);obtain ⟨wj, hwj⟩ : ∃ wj, wj = wr.drewN nq := ⟨_, rfl⟩;have hOj : Hid (Own 3 ev wj base 84 (some ⟨g, 0, none⟩) n c M) := by rw [hwj]; exact hOM.out.keep fun _ _ => rfl
       have hoj : Hid (Only g (g + 1) w wj) := by rw [hwj]; exact ⟨hon.out.os, hon.out.tape, hon.out.output, hon.out.size, hon.out.block⟩
       rw [← hwj];replace hwj := hide hwj;clear c0 c1 c2 d0 d1 d2 z0c z1c z2c z0f z1f z2f;go_wp2_with fail;go_roundw
       ·exact ⟨kk, v + 1, M, rfl, rfl, by omega, hOj.out, hI2.out, hoj.out⟩
       ·simp [intOf]; omega
      ·have hI2 : Hid (CompInv l.toArray (u + 1 + v + 1 + 1) (kk + 1) (M.set kk (x1, x2, x3)).toArray) := by
        have h1 := hI.out.keep (by simp; omega) (keeps_pos (by rw [hx'.out, show u + 1 + v + 1 - 1 = u + 1 + v by omega, hy'.out]; exact hne));rw [hx'.out, List.setIfInBounds_toArray] at h1;exact h1
       replace hne := hide hne
       rcases hc with e3 | ⟨e4, e3⟩ | ⟨e4, e5, e3⟩
       rotate_left
       subst e4
       rotate_left
       subst e4 e5
       rotate_left
       all_goals
        go_upto_region 11 with fail;go_quiet (fail);go_wp2_with fail;go_roundw
       all_goals
        first
         | refine ⟨kk + 1, v + 1, M.set kk (_, _, _), by go_num, by go_num, by omega, (hOM.out.keep fun _ _ => rfl).setE kk _ _ _, hI2.out, ?_⟩
         | (simp [intOf]; omega)
       all_goals
        have o1 : Only g (g + 1) w (wr.drewN nq) := ⟨hon.out.os, hon.out.tape, hon.out.output, hon.out.size, hon.out.block⟩;have o2 := fun v => o1.setCell (p := ⟨g, kk * 3, none⟩) zR (Nat.lt_succ_self _) v
        have o3 := fun v u => (o2 v).setCell (p := ⟨g, kk * 3 + 1, none⟩) zR (Nat.lt_succ_self _) u
        exact (o3 _ _).setCell (p := ⟨g, kk * 3 + 2, none⟩) zR (Nat.lt_succ_self _) _
     ·have hend : u + 1 + v + 1 = n := by omega
      have hcl := run_clearE wr 0 g (kk * 3) (n - kk) (c - kk) (by omega) (fun j hj => (cells_all hOM.out (j := kk * 3 + j) (by omega)).1) (fun j hj => (cells_all hOM.out (j := kk * 3 + j) (by omega)).2);have hcO := hide (hOM.out.clearE (k := kk) (by omega) (List.replicate ((n - kk) * 3) (.int .i64 0)));have hcon := hide (hon.out.trans' (setCells_only9 g (List.replicate ((n - kk) * 3) (.int .i64 0)) (kk * 3) wr));have hcL := hide (show M.take kk = Lib.compact l from hI.out.takeE hll hend);have hcn : (Lib.compact l).length = kk := by rw [← hcL.out, List.length_take]; omega
      have hs2 := run_head hEe.out (some ⟨g, 0, none⟩) n c kk (by omega);generalize wr.setCells g (kk * 3) (List.replicate ((n - kk) * 3) (.int .i64 0)) = wC at *;go_wp2_with fail;go_ret;have e1 := hcO.out;rw [hcL.out] at e1;rw [hcn];exact ⟨rfl, e1, only_grown hcon.out⟩
   ·have hkeep : Hid (∀ j, j ≤ u + 1 → keeps l.toArray j = true) := fun j hj => by
     by_cases e : j = u + 1
     ·subst e
      exact keeps_pos (by rw [gete hx]; simp only [Nat.add_sub_cancel]; rw [gete hy]; exact hne)
     ·exact hall.out j (by omega)
    replace hx := hide hx;replace hy := hide hy;replace hne := hide hne
    rcases hc with e3 | ⟨e4, e3⟩ | ⟨e4, e5, e3⟩
    rotate_left
    subst e4
    rotate_left
    subst e4 e5
    rotate_left
    all_goals
     go_upto_region 6 with fail;go_quiet (fail);obtain ⟨wi, hwi⟩ : ∃ wi, wi = wr.drewN nq := ⟨_, rfl⟩;have hw2 : Hid (∃ nq, wi = w.drewN nq) := by
      obtain ⟨nq2, e⟩ := hw.out;exact ⟨nq2 + nq, by rw [hwi, e, World.drewN_drewN]⟩
     rw [← hwi];replace hwi := hide hwi;clear c0 c1 c2 d0 d1 d2 e3;go_wp2_with fail;go_roundw
    all_goals
     first
      | exact ⟨u + 1, by omega, by go_num, hw2.out, hkeep.out⟩
      | (simp [intOf]; omega)
  ·obtain rfl : u + 1 = n := by omega
   have hcL : Lib.compact l = l := compact_all l fun j hj => hall.out j (by omega)
   have hon : Hid (w.grownBy wr (some g)) := by
    obtain ⟨nq, e⟩ := hw.out
    show w.grownBy wr (some g)
    rw [e];exact ⟨rfl, rfl, rfl, zR, fun _ _ _ => rfl⟩
   go_wp2_with fail;go_ret
   rw [hcL, hll];exact ⟨rfl, hO.out, hon.out⟩
end Go.Proofs.YtnhomkmfbngmgaaGreatDoor
namespace Go.Proofs.YtnhomkmfbngmgaaGreatDoor
open Go.ChangeShapes Go.WideShapes Go.ChangeAt Go.RowKit Go.Sort
theorem indexI_calls (v : Int) (A : Option Addr) (n c : Nat) (l : List Int) (w : World) (lo hi : Nat) (h : SlI w lo hi A n l) (hn : n ≤ 1048576) :
  Calls Tryz.prog 130 #[.slice A n c, .int .i64 v] w fun e w' => ∃ i : Int, e = .returned (.int .i64 i) ∧ decide (0 ≤ i) = l.any (fun x => decide (x = v)) ∧ w = w' := by
 have hlen := hide h.len;go_enter Tryz.func130, Tryz.ntmps130
 go_wp2
 go_loop [8] (fun i => ∃ k : Nat, k ≤ n ∧ i = .int .i64 k ∧ Hid ((l.take k).any (fun x => decide (x = v)) = false)) (fun i => n - (intOf i).toNat)
 case atStart => exact ⟨0, Nat.zero_le _, rfl, rfl⟩
 case round =>
  obtain ⟨k, hk, rfl, ha⟩ := hrel
  by_cases hlt : k < n
  ·obtain ⟨b, off, x, rfl, g1, g2, g3, hx, c0, -⟩ := SlI.get h hlt
   clear h
   by_cases hq : x = v
   ·have hy := hide (any_hit (G := fun x => decide (x = v)) hx (decide_eq_true hq))
    subst hq;clear hx
    go_wp2
    go_ret;exact ⟨_, rfl, by rw [hy.out]; simp, rfl⟩
   ·have hy := hide (any_take_succ ha.out hx (decide_eq_false hq))
    have hne : (v == x) = false := by rw [beq_eq_false_iff_ne]; exact fun e => hq e.symm
    clear hx hq
    go_wp2
    go_round
    case rel => exact ⟨k + 1, by omega, by go_num, hy⟩
    case measure => simp [intOf]; omega
  ·have hkn : k = n := by omega
   subst hkn;clear h
   go_wp2
   go_ret;have hy := ha.out
   rw [List.take_of_length_le (by rw [hlen.out]; exact zR)] at hy;exact ⟨_, rfl, by rw [hy]; decide, rfl⟩
theorem containsI_calls (v : Int) (A : Option Addr) (n c : Nat) (l : List Int) (w : World) (lo hi : Nat) (h : SlI w lo hi A n l) (hn : n ≤ 1048576) :
  Calls Tryz.prog 193 #[.slice A n c, .int .i64 v] w fun e w' => e = .returned (.bool (l.any (fun x => decide (x = v)))) ∧ w = w' := by
 have q := hide (indexI_calls v A n c l w lo hi h hn);clear h;go_enter Tryz.func193, Tryz.ntmps193;go_wp2_with fail;refine q.out.mono ?_;rintro e w1 ⟨i, rfl, hi, rfl⟩;replace hi := hide hi;go_wp2_with fail;go_ret;exact ⟨ret_b hi.out.symm, rfl⟩
theorem str_list_ne2 {a b : ByteArray} (h : ¬ a = b) : (b.toList == a.toList) = false ∧ ¬ b.toList = a.toList := by
 have h1 := str_neq (a := b) (b := a) (fun e => h e.symm);exact ⟨h1, fun e => by rw [e] at h1; simp at h1⟩
def hitS (ls : List ByteArray) (lab : ByteArray) (S : List Int) (e : Ed) : Bool := S.any (fun x => decide (x = e.1)) && (match ls[e.2.1.toNat]? with | some r => decide (r = lab) | none => false)
def folS (es : List Ed) (ls : List ByteArray) (lab : ByteArray) (S : List Int) : List Int := (es.filter (hitS ls lab S)).map (·.2.2)
def folV (es : List Ed) (ls : List ByteArray) (lab : ByteArray) (S : List Int) : List Int := Lib.compact (sortI (folS es ls lab S))
theorem hitS_at {ls : List ByteArray} {lab r : ByteArray} {S : List Int} {f lb tg : Int} (hr : ls[lb.toNat]? = some r) : hitS ls lab S (f, lb, tg) = (S.any (fun x => decide (x = f)) && decide (r = lab)) := by
 unfold hitS;simp only [hr]
theorem folS_succ {es : List Ed} {k : Nat} {e : Ed} {ls : List ByteArray} {lab : ByteArray} {S : List Int} (hx : es[k]? = some e) : folS (es.take (k + 1)) ls lab S = folS (es.take k) ls lab S ++ (if hitS ls lab S e then [e.2.2] else []) := by
 unfold folS;rw [List.take_add_one, hx, List.filter_append, List.map_append]
 congr 1
 by_cases h : hitS ls lab S e = true <;> simp [h]
theorem folS_len (es : List Ed) (ls : List ByteArray) (lab : ByteArray) (S : List Int) : (folS es ls lab S).length ≤ es.length := by
 unfold folS;rw [List.length_map];exact List.length_filter_le _ _
theorem folV_len (es : List Ed) (ls : List ByteArray) (lab : ByteArray) (S : List Int) : (folV es ls lab S).length ≤ es.length :=
 Nat.le_trans (compact_len _) (by rw [sortI_len]; exact folS_len es ls lab S)
theorem folV_mem {es : List Ed} {ls : List ByteArray} {lab : ByteArray} {S : List Int} {v : Int} : v ∈ folV es ls lab S ↔ ∃ e ∈ es, e.1 ∈ S ∧ ls[e.2.1.toNat]? = some lab ∧ e.2.2 = v := by
 unfold folV;rw [compact_mem, sortI_mem];unfold folS;rw [List.mem_map]
 constructor
 ·rintro ⟨e, he, rfl⟩
  obtain ⟨h1, h2⟩ := List.mem_filter.1 he;unfold hitS at h2;rw [Bool.and_eq_true, List.any_eq_true] at h2;obtain ⟨⟨x, hx, hxe⟩, h3⟩ := h2;refine ⟨e, h1, by rw [← of_decide_eq_true hxe]; exact hx, ?_, rfl⟩
  revert h3
  cases ls[e.2.1.toNat]? with
  | none => intro h; cases h
  | some r => intro h; rw [of_decide_eq_true h]
 ·rintro ⟨e, h1, h2, h3, rfl⟩
  refine ⟨e, List.mem_filter.2 ⟨h1, ?_⟩, rfl⟩;unfold hitS;rw [Bool.and_eq_true, List.any_eq_true, h3];exact ⟨⟨e.1, h2, decide_eq_true rfl⟩, decide_eq_true rfl⟩
theorem Own.grown_below {α : Type} {size : Nat} {f : α → List Value} {w w' : World} {base n c B : Nat} {e : TypeId} {A : Option Addr} {l : List α} (h : Own size f w base e A n c l) (hg : w.grownBy w' (Value.slice A n c).ownBlock) (hB : B ≤ base) (hb : base ≤ w.heap.size) : Below B w w' :=
 bR.grown hg (by omega) fun k hk => Nat.le_trans hB (h.lt k hk).1
theorem followS_calls (s0 s1 : Int) (A2 : Option Addr) (n2 k2 : Nat) (A3 : Option Addr) (n3 k3 : Nat) (A1 : Option Addr) (n1 c1 : Nat) (S : List Int) (lab : ByteArray) (ls : List ByteArray) (es : List Ed) (w : World) (lo hi lo1 hi1 : Nat)
  (t2 : SlS w lo hi A2 n2 ls) (t3 : SlE w lo hi A3 n3 es) (t1 : SlI w lo1 hi1 A1 n1 S) (hS : n1 ≤ 1048576) (hes : n3 ≤ 1048576) (hval : ltsV (s0, s1, ls, es) = true) :
  Calls Tryz.prog 181 #[.agg #[.int .i64 s0, .int .i64 s1, .slice A2 n2 k2, .slice A3 n3 k3], .slice A1 n1 c1, .string lab] w fun e w' => ∃ A n c, e = .returned (.slice A n c) ∧ Own 1 iv w' w.heap.size 2 A n c (folV es ls lab S) ∧ Below w.heap.size w w' := by
 have l2 := hide t2.len;have l3 := hide t3.len;have hlts := hide hval;have hW0 := hide (show Below w.heap.size w (w.alloc (.cells #[.int .i64 s0, .int .i64 s1, .slice A2 n2 k2, .slice A3 n3 k3] 27)) from bR.alloc zR _);have kE := heap_alloc_new w (.cells #[.int .i64 s0, .int .i64 s1, .slice A2 n2 k2, .slice A3 n3 k3] 27);have hbt : w.heap.size < (w.alloc (.cells #[.int .i64 s0, .int .i64 s1, .slice A2 n2 k2, .slice A3 n3 k3] 27)).heap.size := by rw [World.size_alloc]; omega
 have hE := hide elem_int;replace t1 := hide t1;replace t2 := hide t2;replace t3 := hide t3;clear hval;go_enter Tryz.func181, Tryz.ntmps181;go_upto_region 3 with fail;have c2 : (w.alloc (.cells #[.int .i64 s0, .int .i64 s1, .slice A2 n2 k2, .slice A3 n3 k3] 27)).cell? ⟨w.heap.size, 2, none⟩ = some (.slice A2 n2 k2) := cR 2 kE;have c3 : (w.alloc (.cells #[.int .i64 s0, .int .i64 s1, .slice A2 n2 k2, .slice A3 n3 k3] 27)).cell? ⟨w.heap.size, 3, none⟩ = some (.slice A3 n3 k3) := cR 3 kE;clear kE;generalize hWW : (w.alloc (.cells #[.int .i64 s0, .int .i64 s1, .slice A2 n2 k2, .slice A3 n3 k3] 27)) = W0 at *;clear hWW;have hbt1 : w.heap.size + 1 ≤ W0.heap.size := hbt
 go_loopw [7, 13] (fun o i wr => ∃ k m c A, k ≤ n3 ∧ m ≤ k ∧ o = .slice A m c ∧ i = .int .i64 (k : Nat) ∧ Hid (Own 1 iv wr W0.heap.size 2 A m c (folS (es.take k) ls lab S)) ∧ Below W0.heap.size W0 wr) (fun _ i _ => n3 - (intOf i).toNat)
 case atStart => exact ⟨0, 0, 0, none, Nat.zero_le _, Nat.zero_le _, rfl, rfl, Own.nil_ _ _ _, bR⟩
 case round =>
  obtain ⟨k, m, c, A, hk, hm, rfl, rfl, hown, hb⟩ := hrel;have hz := hb.size;have hwb := hW0.out.trans (hb.mono (by omega));have y2 := (hb.cell (p := ⟨w.heap.size, 2, none⟩) hbt).trans c2;have y3 := (hb.cell (p := ⟨w.heap.size, 3, none⟩) hbt).trans c3;clear c2 c3
  by_cases hlt : k < n3
  ·obtain ⟨b, off, f, lb, tg, rfl, -, -, g3, hx, p0, p1, p2, -, -, -⟩ := SlE.get t3.out hlt
   replace p0 := (hwb.cell g3).trans p0;replace p1 := (hwb.cell (p := ⟨b, off + k * 3 + 1, none⟩) g3).trans p1;replace p2 := (hwb.cell (p := ⟨b, off + k * 3 + 2, none⟩) g3).trans p2;have hed := edge_of hlts.out hx;have hl0 : (0 : Int) ≤ lb := hed.2.2.1;have hl1 : lb < (n2 : Int) := by have := hed.2.2.2; have := l2.out; omega
   obtain ⟨b2, off2, r, rfl, -, -, g32, hr, p3, -⟩ := SlS.get t2.out (show lb.toNat < n2 by omega);have hh := hitS_at (lab := lab) (S := S) (f := f) (tg := tg) hr;have hsu := folS_succ (ls := ls) (lab := lab) (S := S) hx;have hbE : Below wr.heap.size wr (wr.alloc (.cells #[.int .i64 f, .int .i64 lb, .int .i64 tg] 84)) := bR.alloc zR _;have kE := heap_alloc_new wr (.cells #[.int .i64 f, .int .i64 lb, .int .i64 tg] 84);have hgw : w.heap.size < wr.heap.size := by omega
   have x2 := (hbE.cell (p := ⟨w.heap.size, 2, none⟩) hgw).trans y2;have x3 := (hbE.cell (p := ⟨w.heap.size, 3, none⟩) hgw).trans y3;have z0 : (wr.alloc (.cells #[.int .i64 f, .int .i64 lb, .int .i64 tg] 84)).cell? ⟨wr.heap.size, 0, none⟩ = some (.int .i64 f) := cR 0 kE;have z1 : (wr.alloc (.cells #[.int .i64 f, .int .i64 lb, .int .i64 tg] 84)).cell? ⟨wr.heap.size, 1, none⟩ = some (.int .i64 lb) := cR 1 kE;have z2 : (wr.alloc (.cells #[.int .i64 f, .int .i64 lb, .int .i64 tg] 84)).cell? ⟨wr.heap.size, 2, none⟩ = some (.int .i64 tg) := cR 2 kE;have hbw : Below w.heap.size w (wr.alloc (.cells #[.int .i64 f, .int .i64 lb, .int .i64 tg] 84)) := hwb.trans (hbE.mono hwb.size);have p3' := (hbw.cell (p := ⟨b2, off2 + lb.toNat, none⟩) g32).trans p3;have hbB := hb.trans (hbE.mono hz);have hzB := hbB.size;have qc := containsI_calls f A1 n1 c1 S _ lo1 hi1 (t1.out.below hbw (.inr zR)) hS;replace hown := hide (hown.out.alloc (.cells #[.int .i64 f, .int .i64 lb, .int .i64 tg] 84));have hI0 : (0 : Int) ≤ (k : Int) := by omega
   have hI1 : (k : Int) < (n3 : Int) := by omega
   replace hbB := hide hbB;clear hed t1 t2 t3 hwb hb hbE kE p3 hz hbw;generalize hany : S.any (fun x => decide (x = f)) = an at *;clear hany;replace qc := hide qc;go_upto_region 5 with fail;clear p0 p1 p2 y2 y3 x3;generalize hWE : (wr.alloc (.cells #[.int .i64 f, .int .i64 lb, .int .i64 tg] 84)) = WE at *;generalize hbE : wr.heap.size = bE at *;clear hWE hbE;have hza : ∀ o, W0.heap.size ≤ (WE.alloc o).heap.size := fun o => by rw [World.size_alloc]; omega
   by_cases hrl : r = lab
   ·subst hrl
    have hself : (r.toList == r.toList) = true := beq_self_eq_true _;rw [hh, decide_eq_true rfl, Bool.and_true] at hsu
    cases an with
    | true =>
     rw [if_pos rfl] at hsu;replace hsu := hide hsu;clear hx hr hh;go_wp2_with (first
      | (go_at_call 193; (with_reducible refine qc.out.mono ?_); rintro e w' ⟨rfl, rfl⟩)
      | (at_builtin; (with_reducible refine wpList_app rfl (.tmp 31) (.tmp 34) rfl hE.out flat_iv rfl (hown.out.alloc _) rfl (Sl.lit1' _ 2 tg _ rfl 1 _ ?c0) ?c1 (hza _) ?_); rotate_right; intro A5 c5 w5 hown5 hgr5 hb5 _))
     case c0 => rfl
     case c1 => omega
     have hb6 := (hbB.out.alloc hzB (.cells #[.int .i64 tg] 2)).trans hb5;replace hown5 : Hid (Own 1 iv w5 W0.heap.size 2 A5 (m + 1) c5 (folS (es.take (k + 1)) ls r S)) := by show Own _ _ _ _ _ _ _ _ _; rw [hsu.out]; exact hown5
     go_roundw
     case rel => exact ⟨k + 1, m + 1, c5, A5, by omega, by omega, rfl, by go_num, hown5, hb6⟩
     case measure => simp [intOf]; omega
    | false =>
     replace hown : Hid (Own 1 iv WE W0.heap.size 2 A m c (folS (es.take (k + 1)) ls r S)) := by show Own _ _ _ _ _ _ _ _ _; rw [hsu]; simpa using hown.out
     clear hx hr hh hsu;go_wp2_with (first
      | (go_at_call 193; (with_reducible refine qc.out.mono ?_); rintro e w' ⟨rfl, rfl⟩))
     go_roundw
     case rel => exact ⟨k + 1, m, c, A, by omega, by omega, rfl, by go_num, hown, hbB.out⟩
     case measure => simp [intOf]; omega
   ·obtain ⟨hne1, hne2⟩ := str_list_ne2 (a := lab) (b := r) (fun e => hrl e.symm)
    rw [hh, decide_eq_false hrl, Bool.and_false] at hsu;replace hown : Hid (Own 1 iv WE W0.heap.size 2 A m c (folS (es.take (k + 1)) ls lab S)) := by show Own _ _ _ _ _ _ _ _ _; rw [hsu]; simpa using hown.out
    clear hx hr hh hsu hrl;go_wp2_with fail;go_roundw
    case rel => exact ⟨k + 1, m, c, A, by omega, by omega, rfl, by go_num, hown, hbB.out⟩
    case measure => simp [intOf]; omega
  ·have hkn : k = n3 := by omega
   have hall : es.take k = es := List.take_of_length_le (by rw [l3.out, hkn]; exact zR);rw [hall] at hown;have hf := folS_len es ls lab S;have hm9 : m ≤ 1000000000 := by omega
   have q1 := hide (sortI_calls hown.out hm9);have hwz : W0.heap.size ≤ wr.heap.size := hz;replace hb := hide hb;replace hwb := hide hwb;clear t1 t2 t3;go_wp2_with fail;refine q1.out.mono ?_;rintro e w1 ⟨rfl, hs1, hg1⟩;have hbs1 := hown.out.grown_below hg1 zR hwz;have q2 := hide (compactI_calls hs1 hm9);have hw1 : W0.heap.size ≤ w1.heap.size := Nat.le_trans hwz hbs1.size;replace hs1 := hide hs1;replace hbs1 := hide hbs1;clear hg1;go_wp2_with fail;refine q2.out.mono ?_;rintro e w2 ⟨rfl, hs2, hg2⟩;have hbs2 := hide (hs1.out.grown_below hg2 zR hw1);replace hs2 := hide hs2;clear hg2;go_wp2_with fail;go_ret;exact ⟨_, _, _, rfl, hs2.out.lower (by omega), hW0.out.trans (((hb.out.trans hbs1.out).trans hbs2.out).mono (by omega))⟩
end Go.Proofs.YtnhomkmfbngmgaaGreatDoor
namespace Go.Proofs.YtnhomkmfbngmgaaGreatDoor
def addN (R : List Int) (v : Int) : List Int := if v ∈ R then R else R ++ [v]
def addL (R L : List Int) : List Int := L.foldl addN R
theorem addL_succ {R L : List Int} {k : Nat} {v : Int} (h : L[k]? = some v) : addL R (L.take (k + 1)) = addN (addL R (L.take k)) v := by
 unfold addL;rw [List.take_add_one, h, List.foldl_append]
 rfl
theorem addN_mem {R : List Int} {v x : Int} : x ∈ addN R v ↔ x ∈ R ∨ x = v := by
 unfold addN
 split
 ·constructor
  ·exact .inl
  ·rintro (h | rfl)
   ·exact h
   ·assumption
 ·simp
theorem addL_mem : ∀ {L R : List Int} {x : Int}, x ∈ addL R L ↔ x ∈ R ∨ x ∈ L
 | [], R, x => by simp [addL]
 | v :: L, R, x => by
  show x ∈ addL (addN R v) L ↔ _
  rw [addL_mem, addN_mem, List.mem_cons]
  constructor
  ·rintro ((h | h) | h)
   ·exact .inl h
   ·exact .inr (.inl h)
   ·exact .inr (.inr h)
  ·rintro (h | h | h)
   ·exact .inl (.inl h)
   ·exact .inl (.inr h)
   ·exact .inr h
def Beg (N : Int) (S R : List Int) : Prop := ∃ T, R = S ++ T ∧ T.Nodup ∧ ∀ v ∈ T, v ∉ S ∧ 0 ≤ v ∧ v < N
theorem Beg.refl (N : Int) (S : List Int) : Beg N S S := ⟨[], by simp, List.nodup_nil, fun _ h => by cases h⟩
theorem Beg.add {N : Int} {S R : List Int} (h : Beg N S R) {v : Int} (h0 : 0 ≤ v) (h1 : v < N) : Beg N S (addN R v) := by
 obtain ⟨T, rfl, hn, hv⟩ := h;unfold addN
 split
 ·exact ⟨T, rfl, hn, hv⟩
 ·rename_i hnot
  rw [List.mem_append] at hnot;refine ⟨T ++ [v], by simp, ?_, ?_⟩
  ·rw [List.nodup_append]
   exact ⟨hn, by simp, fun a ha b hb => by rw [List.mem_singleton.1 hb]; rintro rfl; exact hnot (.inr ha)⟩
  ·intro x hx
   rcases List.mem_append.1 hx with hx | hx
   ·exact hv x hx
   ·rw [List.mem_singleton.1 hx]
    exact ⟨fun h => hnot (.inl h), h0, h1⟩
theorem Beg.addL {N : Int} {S : List Int} : ∀ {L R : List Int}, Beg N S R → (∀ v ∈ L, 0 ≤ v ∧ v < N) → Beg N S (addL R L)
 | [], R, h, _ => h
 | v :: L, R, h, hv => Beg.addL (L := L) (h.add (hv v (List.mem_cons_self ..)).1 (hv v (List.mem_cons_self ..)).2) fun x hx => hv x (List.mem_cons_of_mem _ hx)
theorem nodup_few_aux : ∀ (n : Nat) (l : List Nat), l.Nodup → (∀ x ∈ l, x < n) → l.length ≤ n
 | 0, l, _, h => by
  cases l with
  | nil => simp
  | cons a l => exact absurd (h a (by simp)) (by omega)
 | n + 1, l, hd, h => by
  have h1 := nodup_few_aux n (l.filter fun x => decide (x ≠ n)) (hd.filter _) (fun x hx => by
   obtain ⟨h2, h3⟩ := List.mem_filter.1 hx;have := h x h2;have h4 : x ≠ n := by simpa using h3
   omega)
  have h2 : l.length ≤ (l.filter fun x => decide (x ≠ n)).length + 1 := by
   have h3 : l.length = l.countP (fun x => decide (x ≠ n)) + l.countP (fun x => !(decide (x ≠ n))) := by
    rw [List.length_eq_countP_add_countP (fun x => decide (x ≠ n))]
    congr 1
    apply List.countP_congr
    intro x _
    simp
   have h4 : l.countP (fun x => !(decide (x ≠ n))) ≤ 1 := by
    have h5 : l.countP (fun x => !(decide (x ≠ n))) = l.count n := by
     unfold List.count
     apply List.countP_congr
     intro x _
     simp
    rw [h5];exact List.nodup_iff_count.1 hd n
   rw [← List.countP_eq_length_filter];omega
  omega
theorem nodup_few {N : Nat} : ∀ {T : List Int}, T.Nodup → (∀ v ∈ T, 0 ≤ v ∧ v < (N : Int)) → T.length ≤ N := by
 intro T hn hv;have h1 : (T.map Int.toNat).Nodup := by
  rw [List.Nodup, List.pairwise_map];refine List.Pairwise.imp_of_mem (fun {a b} ha hb hne => ?_) hn;have := hv a ha;have := hv b hb;omega
 have := nodup_few_aux N (T.map Int.toNat) h1 fun x hx => by
  obtain ⟨v, hvv, rfl⟩ := List.mem_map.1 hx;have := hv v hvv;omega
 simpa using this
theorem Beg.len {N : Nat} {S R : List Int} (h : Beg (N : Int) S R) : R.length ≤ S.length + N := by
 obtain ⟨T, rfl, hn, hv⟩ := h;have := nodup_few hn fun v hx => (hv v hx).2
 rw [List.length_append];omega
structure TauI (N : Int) (es : List Ed) (ls : List ByteArray) (S R : List Int) (k : Nat) : Prop where
 beg : Beg N S R
 sound : ∀ v ∈ R, TauC es ls (· ∈ S) v
 closed : ∀ j, j < k → ∀ x, R[j]? = some x → ∀ v ∈ folV es ls tauB [x], v ∈ R
theorem TauI.start (N : Int) (es : List Ed) (ls : List ByteArray) (S : List Int) : TauI N es ls S S 0 :=
 ⟨Beg.refl _ _, fun v hv => .base hv, fun j hj => by omega⟩
theorem addL_get {R L : List Int} {j : Nat} (h : j < R.length) : (addL R L)[j]? = R[j]? := by
 induction L generalizing R with
 | nil => rfl
 | cons v L ih =>
  show (addL (addN R v) L)[j]? = _
  have h2 : j < (addN R v).length := by
   unfold addN
   split
   ·exact h
   ·rw [List.length_append]; omega
  rw [ih h2];unfold addN
  split
  ·rfl
  ·rw [List.getElem?_append_left h]
theorem addL_len {R L : List Int} : R.length ≤ (addL R L).length := by
 induction L generalizing R with
 | nil => exact zR
 | cons v L ih =>
  show _ ≤ (addL (addN R v) L).length
  refine Nat.le_trans ?_ ih;unfold addN
  split
  ·exact zR
  ·rw [List.length_append]; omega
theorem TauI.next {N : Int} {es : List Ed} {ls : List ByteArray} {S R : List Int} {k : Nat} {x : Int} (h : TauI N es ls S R k) (hx : R[k]? = some x) (hN : ∀ e ∈ es, 0 ≤ e.2.2 ∧ e.2.2 < N) : TauI N es ls S (addL R (folV es ls tauB [x])) (k + 1) := by
 have hk : k < R.length := (List.getElem?_eq_some_iff.1 hx).1;refine ⟨h.beg.addL fun v hv => ?_, fun v hv => ?_, fun j hj y hy v hv => ?_⟩
 ·obtain ⟨e, he, -, -, rfl⟩ := folV_mem.1 hv
  exact hN e he
 ·rcases addL_mem.1 hv with hv | hv
  ·exact h.sound v hv
  ·obtain ⟨e, he, h1, h2, rfl⟩ := folV_mem.1 hv
   refine .step ?_ he h2;rw [List.mem_singleton.1 h1];exact h.sound x (List.mem_of_getElem? hx)
 ·rw [addL_get (by omega)] at hy
  rcases Nat.lt_or_ge j k with h1 | h1
  ·exact addL_mem.2 (.inl (h.closed j h1 y hy v hv))
  ·have : j = k := by omega
   subst this;rw [hx] at hy
   cases hy
   exact addL_mem.2 (.inr hv)
theorem TauI.done {N : Int} {es : List Ed} {ls : List ByteArray} {S R : List Int} {k : Nat} (h : TauI N es ls S R k) (hk : R.length ≤ k) {v : Int} : v ∈ R ↔ TauC es ls (· ∈ S) v := by
 refine ⟨h.sound v, fun hv => ?_⟩
 induction hv with
 | base hv =>
  obtain ⟨T, rfl, -⟩ := h.beg;exact List.mem_append.2 (.inl hv)
 | step _ he hl ih =>
  obtain ⟨j, hj, e⟩ := List.mem_iff_getElem.1 ih;exact h.closed j (by omega) _ (List.getElem?_eq_some_iff.2 ⟨hj, e⟩) _ (folV_mem.2 ⟨_, he, List.mem_singleton.2 rfl, hl, rfl⟩)
open Go.ChangeAt Go.ChangeShapes Go.RowKit Go.WideShapes
theorem alloc_some {w : World} {o : Obj} {a : Addr} {v : Value} (h : w.cell? a = some v) : (w.alloc o).cell? a = some v := (World.cell?_alloc_some w a o (by rw [h]; rfl)).trans h
structure OwnC {α : Type} (size : Nat) (f : α → List Value) (t : TypeId) (w1 : World) (BB : Nat) (w : World) (A : Option Addr) (m c : Nat) (l : List α) : Prop where
 own : Own size f w BB t A m c l
 at_ : ∀ g, (Value.slice A m c).ownBlock = some g → g = BB ∨ w1.heap.size ≤ g
 only : Only BB (BB + 1) w1 w
theorem OwnC.below {α : Type} {size : Nat} {f : α → List Value} {t : TypeId} {w1 w w' : World} {BB m c : Nat} {A : Option Addr} {l : List α} (h : OwnC size f t w1 BB w A m c l) (hb : Below w.heap.size w w') : OwnC size f t w1 BB w' A m c l :=
 ⟨h.own.below hb zR, h.at_, ⟨hb.os.trans h.only.os, hb.tape.trans h.only.tape, hb.output.trans h.only.output, Nat.le_trans h.only.size hb.size, fun b hb' ho => (hb.block b (Nat.lt_of_lt_of_le hb' h.only.size)).trans (h.only.block b hb' ho)⟩⟩
theorem OwnC.app {α : Type} {size : Nat} {f : α → List Value} {t : TypeId} {w1 w w' : World} {BB m c m' c' : Nat} {A A' : Option Addr} {l l' : List α} (h : OwnC size f t w1 BB w A m c l) (ho : Own size f w' BB t A' m' c' l') (hg : w.grownBy w' (Value.slice A m c).ownBlock)
  (ha : (Value.slice A' m' c').ownBlock = (Value.slice A m c).ownBlock ∨ (Value.slice A' m' c').ownBlock = some w.heap.size) : OwnC size f t w1 BB w' A' m' c' l' := by
 refine ⟨ho, fun g hg' => ?_, ⟨hg.os.trans h.only.os, hg.tape.trans h.only.tape, hg.output.trans h.only.output, Nat.le_trans h.only.size hg.size, fun b hb' hb2 => (hg.block b (Nat.lt_of_lt_of_le hb' h.only.size) fun e => ?_).trans (h.only.block b hb' hb2)⟩⟩
 ·rcases ha with ha | ha
  ·exact h.at_ g (by rw [← ha]; exact hg')
  ·rw [ha] at hg'
   injection hg' with e;have := h.only.size;omega
 ·have := h.at_ b e.symm
  omega
end Go.Proofs.YtnhomkmfbngmgaaGreatDoor
