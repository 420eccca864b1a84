/-
  Several texts in one:
  Distances in a graph: by a queue and by rounds, both the least number of arcs. Conditions: none.
  Numbers in decimal: the program's reading and the reference's are the same function. Conditions: sizes.
  Labels: the program's reading and the reference's are the same function of a text. Conditions: none.
  Words for memory: a slice value that reads as a list of elements, each element being a fixed number of cells. Conditions: none; plain theorems about worlds.
  The laws' helpers on lists of int64: copying, comparing, marking, asking for the marks. Conditions: at most 1048576 numbers.
  From the reading of an argument to the words for memory: slices whose elements are a fixed number of cells without further memory. Conditions: none.
  Slices of the call's own that grow: what they hold, and append from any slice that reads as a list. Conditions: the new length times the element's bytes is at most 2^47.
  Words for slices of slices: the handles in one row, what each handle holds, all rows in different blocks. Conditions: rows of at most 1048576 elements.
  Words for slices whose elements hold a slice each beside other cells (hd tells an element's handle). Conditions: rows of at most 1048576 elements.
  Lists of int64 as fields of a law's arguments, and readings of fields. Conditions: none.
-/
import Derived.Lib.ParseIntB
import Derived.Lib.ItoaNum
import Derived.Lib.Strings
import Derived.Lib.Split
import Derived.Lib.Join
import Derived.WalkKit
import Derived.ProofKit
import Derived.OpenShut
import Derived.Handy
import Derived.Below
import Derived.Deep.Draws
import Derived.Laws.MakeOwn
import Derived.Test.YtcdhgabcajehnaaGreatDoorRows
import Derived.LoopTactic
import Derived.Deep.QuietTactic
import Derived.BigQuiet
import Derived.Deep.Slices
import Derived.Deep.Fields
import Derived.ChangeSame
import Derived.ChangeOld
import Derived.Maps.AppendAt
import Derived.Laws.OwnMore
import Derived.OwnWalk
set_option linter.unusedSimpArgs false
set_option linter.unusedVariables false
namespace Go.Proofs.YtcdhgabcajehnaaGreatDoor
set_option linter.unusedVariables false

section
variable (src : Nat → Prop) (arc : Nat → Nat → Prop)
/-- Reached by at most n arcs. -/
def lay : Nat → Nat → Prop
  | 0, k => src k
  | n + 1, k => lay n k ∨ ∃ a, lay n a ∧ arc a k
theorem lay_mono {n m k : Nat} (h : lay src arc n k) (hm : n ≤ m) : lay src arc m k := by
  induction m with
  | zero =>
    have : n = 0 := by omega
    subst this; exact h
  | succ m ih =>
    rcases Nat.lt_or_ge m n with h1 | h1
    · have : n = m + 1 := by omega
      subst this; exact h
    · exact .inl (ih h1)
/-- The least number of arcs is d. -/
def least (d k : Nat) : Prop := lay src arc d k ∧ ∀ m, m < d → ¬ lay src arc m k
theorem least_uniq {d e k : Nat} (h : least src arc d k) (g : least src arc e k) : d = e := by
  rcases Nat.lt_trichotomy d e with h1 | h1 | h1
  · exact absurd h.1 (g.2 d h1)
  · exact h1
  · exact absurd g.1 (h.2 e h1)
theorem least_of {n k : Nat} (h : lay src arc n k) : ∃ d, d ≤ n ∧ least src arc d k := by
  induction n with
  | zero => exact ⟨0, Nat.le_refl _, h, fun m hm => absurd hm (by omega)⟩
  | succ n ih =>
    by_cases h1 : lay src arc n k
    · obtain ⟨d, h2, h3⟩ := ih h1
      exact ⟨d, by omega, h3⟩
    · refine ⟨n + 1, Nat.le_refl _, h, fun m hm hl => h1 (lay_mono src arc hl (by omega))⟩
theorem least_pred {n k : Nat} (h : least src arc (n + 1) k) : ∃ a, least src arc n a ∧ arc a k := by
  obtain ⟨h1, h2⟩ := h
  rcases h1 with h1 | ⟨a, ha, hk⟩
  · exact absurd h1 (h2 n (by omega))
  · refine ⟨a, ⟨ha, fun m hm hl => ?_⟩, hk⟩
    exact h2 (m + 1) (by omega) (.inr ⟨a, hl, hk⟩)

/-- The numbers that a list of distances tells: the least number of arcs, or a negative one. -/
def DistIs (n : Nat) (out : List Int) : Prop := out.length = n ∧ ∀ (k : Nat) (x : Int), out[k]? = some x → (0 ≤ x → least src arc x.toNat k) ∧ (x < 0 → x = -1 ∧ ∀ m, ¬ lay src arc m k)
theorem DistIs.uniq {n : Nat} {a b : List Int} (h : DistIs src arc n a) (g : DistIs src arc n b) : a = b := by
  apply List.ext_getElem?
  intro k
  by_cases hk : k < n
  · have ha : a[k]? = some (a[k]'(by rw [h.1]; exact hk)) := List.getElem?_eq_getElem _
    have hb : b[k]? = some (b[k]'(by rw [g.1]; exact hk)) := List.getElem?_eq_getElem _
    rw [ha, hb]
    generalize (a[k]'(by rw [h.1]; exact hk)) = x at *
    generalize (b[k]'(by rw [g.1]; exact hk)) = y at *
    obtain ⟨h1, h2⟩ := h.2 k x ha
    obtain ⟨g1, g2⟩ := g.2 k y hb
    by_cases hx : 0 ≤ x
    · by_cases hy : 0 ≤ y
      · have := least_uniq src arc (h1 hx) (g1 hy)
        congr 1
        omega
      · exact absurd (h1 hx).1 ((g2 (by omega)).2 _)
    · by_cases hy : 0 ≤ y
      · exact absurd (g1 hy).1 ((h2 (by omega)).2 _)
      · rw [(h2 (by omega)).1, (g2 (by omega)).1]
  · rw [List.getElem?_eq_none (by rw [h.1]; omega), List.getElem?_eq_none (by rw [g.1]; omega)]

/-! ## By rounds -/
/-- What is told behind n rounds. -/
def RoundIs (N n : Nat) (out : List Int) : Prop := out.length = N ∧ ∀ (k : Nat) (x : Int), out[k]? = some x → (0 ≤ x → least src arc x.toNat k ∧ x ≤ n) ∧ (x < 0 → x = -1 ∧ ¬ lay src arc n k)
theorem RoundIs.start {N : Nat} {out : List Int} (hl : out.length = N) (h : ∀ (k : Nat) (x : Int), out[k]? = some x → (x = 0 ∧ src k) ∨ (x = -1 ∧ ¬ src k)) : RoundIs src arc N 0 out := by
  refine ⟨hl, fun k x hx => ?_⟩
  rcases h k x hx with ⟨rfl, hs⟩ | ⟨rfl, hs⟩
  · exact ⟨fun _ => ⟨⟨hs, fun m hm => absurd hm (by omega)⟩, by omega⟩, fun h => absurd h (by omega)⟩
  · exact ⟨fun h => absurd h (by omega), fun _ => ⟨rfl, hs⟩⟩
theorem RoundIs.done {N n : Nat} {out : List Int} (h : RoundIs src arc N n out) (hin : ∀ a k, arc a k → a < N ∧ k < N) (hsrc : ∀ k, src k → k < N)
    (hstop : ∀ (a k : Nat) (x y : Int), arc a k → out[a]? = some x → out[k]? = some y → 0 ≤ x → 0 ≤ y) : DistIs src arc N out := by
  refine ⟨h.1, fun k x hx => ⟨fun h0 => ((h.2 k x hx).1 h0).1, fun h0 => ⟨((h.2 k x hx).2 h0).1, ?_⟩⟩⟩
  have key : ∀ (m k : Nat), lay src arc m k → k < N ∧ ∀ x, out[k]? = some x → 0 ≤ x := by
    intro m
    induction m with
    | zero =>
      intro k hk
      refine ⟨hsrc k hk, fun x hx => ?_⟩
      rcases Int.lt_or_le x 0 with h1 | h1
      · exact absurd (lay_mono src arc (n := 0) (m := n) hk (Nat.zero_le _)) ((h.2 k x hx).2 h1).2
      · exact h1
    | succ m ih =>
      intro k hk
      rcases hk with hk | ⟨a, ha, hak⟩
      · exact ih k hk
      · obtain ⟨h1, h2⟩ := ih a ha
        refine ⟨(hin a k hak).2, fun x hx => ?_⟩
        have hax : out[a]? = some (out[a]'(by rw [h.1]; exact h1)) := List.getElem?_eq_getElem _
        exact hstop a k _ x hak hax hx (h2 _ hax)
  intro m hm
  have := (key m k hm).2 x hx
  omega
/-! ## By a queue -/
/-- The queue's invariant: out tells the least numbers of what was found; what was found and is not in the queue has all its arcs' ends found. -/
structure QueIs (N : Nat) (out : List Int) (todo : List Nat) : Prop where
  len : out.length = N
  exact_ : ∀ (k : Nat) (x : Int), out[k]? = some x → (0 ≤ x → least src arc x.toNat k) ∧ (x < 0 → x = -1)
  src_ : ∀ k, src k → ∃ x : Int, out[k]? = some x ∧ 0 ≤ x
  todo_ : ∀ k, k ∈ todo → ∃ x : Int, out[k]? = some x ∧ 0 ≤ x
  done_ : ∀ (a k : Nat) (x : Int), out[a]? = some x → 0 ≤ x → a ∉ todo → arc a k → ∃ y : Int, out[k]? = some y ∧ 0 ≤ y
  sorted : todo.Pairwise fun a b => ∀ (x y : Int), out[a]? = some x → out[b]? = some y → x ≤ y
  near : ∀ a, todo.head? = some a → ∀ b, b ∈ todo → ∀ (x y : Int), out[a]? = some x → out[b]? = some y → y ≤ x + 1
theorem QueIs.done {N : Nat} {out : List Int} (h : QueIs src arc N out []) (hin : ∀ a k, arc a k → a < N ∧ k < N) (hsrc : ∀ k, src k → k < N) : DistIs src arc N out := by
  refine ⟨h.len, fun k x hx => ⟨(h.exact_ k x hx).1, fun h0 => ⟨(h.exact_ k x hx).2 h0, ?_⟩⟩⟩
  have key : ∀ m k, lay src arc m k → ∃ y : Int, out[k]? = some y ∧ 0 ≤ y := by
    intro m
    induction m with
    | zero => exact fun k hk => h.src_ k hk
    | succ m ih =>
      intro k hk
      rcases hk with hk | ⟨a, ha, hak⟩
      · exact ih k hk
      · obtain ⟨y, hy, hy0⟩ := ih a ha
        exact h.done_ a k y hy hy0 (by simp) hak
  intro m hm
  obtain ⟨y, hy, hy0⟩ := key m k hm
  rw [hx] at hy
  cases hy
  omega
theorem QueIs.found {N : Nat} {out : List Int} {k : Nat} {todo : List Nat} (h : QueIs src arc N out (k :: todo)) {m : Int} (hm : out[k]? = some m) : ∀ (d b : Nat), (d : Int) ≤ m → least src arc d b → ∃ y : Int, out[b]? = some y ∧ 0 ≤ y := by
  intro d
  induction d with
  | zero => exact fun b _ hb => h.src_ b hb.1
  | succ d ih =>
    intro b hd hb
    obtain ⟨a, ha, hab⟩ := least_pred src arc hb
    obtain ⟨y, hy, hy0⟩ := ih a (by omega) ha
    have hyd : y.toNat = d := least_uniq src arc ((h.exact_ a y hy).1 hy0) ha
    refine h.done_ a b y hy hy0 ?_ hab
    intro hin
    rcases List.mem_cons.1 hin with rfl | hin
    · rw [hm] at hy
      cases hy
      omega
    · have := (List.pairwise_cons.1 h.sorted).1 a hin m y hm hy
      omega
theorem QueIs.add {N : Nat} {out : List Int} {k b : Nat} {todo : List Nat} (h : QueIs src arc N out (k :: todo)) {m x : Int} (hm : out[k]? = some m) (hb : out[b]? = some x) (hx : x < 0) (hkb : arc k b) :
    QueIs src arc N (out.set b (m + 1)) (k :: (todo ++ [b])) := by
  have hm0 : 0 ≤ m := by
    obtain ⟨y, hy, hy0⟩ := h.todo_ k (by simp)
    rw [hm] at hy
    cases hy
    exact hy0
  have hbl : b < out.length := (List.getElem?_eq_some_iff.1 hb).1
  have hne : ∀ {j : Nat} {y : Int}, out[j]? = some y → 0 ≤ y → j ≠ b := by
    rintro j y hy hy0 rfl
    rw [hb] at hy
    cases hy
    omega
  have hkeep : ∀ {j : Nat} {y : Int}, out[j]? = some y → 0 ≤ y → (out.set b (m + 1))[j]? = some y := fun hy hy0 => by
    rw [List.getElem?_set_ne (fun e => hne hy hy0 e.symm)]
    exact hy
  have hself : (out.set b (m + 1))[b]? = some (m + 1) := List.getElem?_set_self hbl
  have hlay : least src arc (m + 1).toNat b := by
    have hk := (h.exact_ k m hm).1 hm0
    rw [show (m + 1).toNat = m.toNat + 1 by omega]
    refine ⟨.inr ⟨k, hk.1, hkb⟩, fun j hj hl => ?_⟩
    obtain ⟨d, hd, hld⟩ := least_of src arc hl
    obtain ⟨y, hy, hy0⟩ := h.found src arc hm d b (by omega) hld
    rw [hb] at hy
    cases hy
    omega
  have hold : ∀ {j : Nat} {y : Int}, j ∈ k :: todo → (out.set b (m + 1))[j]? = some y → out[j]? = some y := fun hj hy => by
    obtain ⟨z, hz, hz0⟩ := h.todo_ _ hj
    rw [hkeep hz hz0] at hy
    rw [hz, hy]
  have hmb : ∀ j ∈ k :: todo, ∀ y, out[j]? = some y → y ≤ m + 1 := fun j hj y hy => h.near k rfl j hj m y hm hy
  refine ⟨by rw [List.length_set]; exact h.len, fun j y hy => ?_, fun j hj => ?_, fun j hj => ?_, fun a j y hy hy0 ha haj => ?_, ?_, ?_⟩
  · by_cases e : j = b
    · subst e
      rw [hself] at hy
      cases hy
      exact ⟨fun _ => hlay, fun h0 => absurd h0 (by omega)⟩
    · rw [List.getElem?_set_ne (fun e' => e e'.symm)] at hy
      exact h.exact_ j y hy
  · obtain ⟨y, hy, hy0⟩ := h.src_ j hj
    exact ⟨y, hkeep hy hy0, hy0⟩
  · rw [← List.cons_append, List.mem_append] at hj
    rcases hj with hj | hj
    · obtain ⟨y, hy, hy0⟩ := h.todo_ j hj
      exact ⟨y, hkeep hy hy0, hy0⟩
    · rw [List.mem_singleton.1 hj]
      exact ⟨_, hself, by omega⟩
  · have hab : a ≠ b := by
      rintro rfl
      exact ha (by simp)
    rw [List.getElem?_set_ne (fun e => hab e.symm)] at hy
    obtain ⟨z, hz, hz0⟩ := h.done_ a j y hy hy0 (fun hin => ha (by rw [← List.cons_append, List.mem_append]; exact .inl hin)) haj
    exact ⟨z, hkeep hz hz0, hz0⟩
  · rw [← List.cons_append, List.pairwise_append]
    refine ⟨?_, by simp, fun a ha c hc y z hy hz => ?_⟩
    · refine List.Pairwise.imp_of_mem ?_ h.sorted
      intro a c ha hc hq y z hy hz
      exact hq y z (hold ha hy) (hold hc hz)
    · rw [List.mem_singleton.1 hc, hself] at hz
      cases hz
      exact hmb a ha y (hold ha hy)
  · intro a ha c hc y z hy hz
    cases ha
    have hym := hold (by simp) hy
    rw [hm] at hym
    cases hym
    rw [← List.cons_append, List.mem_append] at hc
    rcases hc with hc | hc
    · exact hmb c hc z (hold hc hz)
    · rw [List.mem_singleton.1 hc, hself] at hz
      cases hz
      omega
theorem QueIs.pop {N : Nat} {out : List Int} {k : Nat} {todo : List Nat} (h : QueIs src arc N out (k :: todo)) (hk : ∀ b, arc k b → ∃ y : Int, out[b]? = some y ∧ 0 ≤ y) : QueIs src arc N out todo := by
  obtain ⟨m, hm, hm0⟩ := h.todo_ k (by simp)
  refine ⟨h.len, h.exact_, h.src_, fun j hj => h.todo_ j (List.mem_cons_of_mem _ hj), fun a j y hy hy0 ha haj => ?_, (List.pairwise_cons.1 h.sorted).2, fun a ha b hb x y hx hy => ?_⟩
  · by_cases e : a = k
    · subst e
      exact hk j haj
    · exact h.done_ a j y hy hy0 (fun hin => by
        rcases List.mem_cons.1 hin with hin | hin
        · exact e hin
        · exact ha hin) haj
  · have h1 := h.near k rfl b (List.mem_cons_of_mem _ hb) m y hm hy
    have h2 := (List.pairwise_cons.1 h.sorted).1 a (List.mem_of_mem_head? ha) m x hm hx
    omega
theorem QueIs.start {N : Nat} {out : List Int} {todo : List Nat} (hl : out.length = N) (h : ∀ (k : Nat) (x : Int), out[k]? = some x → (x = 0 ∧ src k) ∨ (x = -1 ∧ ¬ src k)) (hs : ∀ k, src k ↔ k ∈ todo) (hN : ∀ k, src k → k < N) : QueIs src arc N out todo := by
  have hz : ∀ k, src k → out[k]? = some 0 := fun k hk => by
    have ho : out[k]? = some (out[k]'(by rw [hl]; exact hN k hk)) := List.getElem?_eq_getElem _
    rcases h k _ ho with ⟨h1, _⟩ | ⟨_, h1⟩
    · rw [ho, h1]
    · exact absurd hk h1
  have hzt : ∀ k x, k ∈ todo → out[k]? = some x → x = 0 := fun k x hk hx => by
    rw [hz k ((hs k).2 hk)] at hx
    exact (Option.some.inj hx).symm
  refine ⟨hl, fun k x hx => ?_, fun k hk => ⟨0, hz k hk, by omega⟩, fun k hk => ⟨0, hz k ((hs k).2 hk), by omega⟩, fun a k x hx hx0 ha _ => ?_, ?_, fun a ha b hb x y hx hy => ?_⟩
  · rcases h k x hx with ⟨rfl, h1⟩ | ⟨rfl, h1⟩
    · exact ⟨fun _ => ⟨h1, fun m hm => absurd hm (by simp)⟩, fun h0 => absurd h0 (by omega)⟩
    · exact ⟨fun h0 => absurd h0 (by omega), fun _ => rfl⟩
  · rcases h a x hx with ⟨rfl, h1⟩ | ⟨rfl, h1⟩
    · exact absurd ((hs a).1 h1) ha
    · omega
  · rw [List.pairwise_iff_forall_sublist]
    intro a b hab x y hx hy
    have ha := hab.subset (List.mem_cons_self)
    have hb := hab.subset (List.mem_cons_of_mem a (List.mem_cons_self))
    rw [hzt a x ha hx, hzt b y hb hy]
    omega
  · rw [hzt a x (List.mem_of_mem_head? ha) hx, hzt b y hb hy]
    omega
end

end Go.Proofs.YtcdhgabcajehnaaGreatDoor

namespace Go.Proofs.YtcdhgabcajehnaaGreatDoor
set_option linter.unusedVariables false

def isDig (c : UInt8) : Bool := decide (48 ≤ c.toNat) && decide (c.toNat ≤ 57)
/-- What digits spell. -/
def valN (acc : Nat) (l : List UInt8) : Nat := l.foldl (fun n c => n * 10 + (c.toNat - 48)) acc
theorem valN_nil (acc : Nat) : valN acc [] = acc := rfl
theorem valN_cons (acc : Nat) (c : UInt8) (l : List UInt8) : valN acc (c :: l) = valN (acc * 10 + (c.toNat - 48)) l := by
  unfold valN
  rw [List.foldl_cons]
theorem valN_snoc (acc : Nat) (c : UInt8) (l : List UInt8) : valN acc (l ++ [c]) = valN acc l * 10 + (c.toNat - 48) := by
  unfold valN
  rw [List.foldl_append]
  rfl
theorem valN_lt : ∀ (l : List UInt8) (acc k : Nat), l.all isDig = true → acc < 10 ^ k → valN acc l < 10 ^ (k + l.length) := by
  intro l
  induction l with
  | nil => intro acc k _ h; rw [valN_nil, List.length_nil, Nat.add_zero]; exact h
  | cons c l ih =>
    intro acc k hd h
    rw [List.all_cons, Bool.and_eq_true] at hd
    have hc : 48 ≤ c.toNat ∧ c.toNat ≤ 57 := by simpa [isDig] using hd.1
    have hp : (10 : Nat) ^ (k + 1) = 10 ^ k * 10 := Nat.pow_succ ..
    have := ih (acc * 10 + (c.toNat - 48)) (k + 1) hd.2 (by rw [hp]; omega)
    rw [valN_cons, List.length_cons, show k + (l.length + 1) = (k + 1) + l.length by omega]
    exact this

theorem parseUintM_short : ∀ (l : List UInt8) (acc k : Nat), k + l.length ≤ 18 → acc < 10 ^ k →
    Lib.parseUintM (2 ^ 64 - 1) acc l = if l.all isDig then .ok (valN acc l) else Lib.NumEnd.syntax := by
  intro l
  induction l with
  | nil => exact fun acc k _ _ => rfl
  | cons c l ih =>
    intro acc k hk h
    rw [List.length_cons] at hk
    have hq : (10 : Nat) ^ (k + 1) = 10 ^ k * 10 := Nat.pow_succ ..
    have hp : acc * 10 + 9 < 10 ^ (k + 1) := by rw [hq]; omega
    have hp2 : (10 : Nat) ^ (k + 1) ≤ 10 ^ 18 := Nat.pow_le_pow_right (by decide) (by omega)
    have h18 : (10 : Nat) ^ 18 = 1000000000000000000 := by decide
    have h64 : (2 : Nat) ^ 64 - 1 = 18446744073709551615 := by decide
    rw [h18] at hp2
    rw [h64] at ih ⊢
    unfold Lib.parseUintM
    by_cases hc : 48 ≤ c.toNat ∧ c.toNat ≤ 57
    · have hd : isDig c = true := by simpa [isDig] using hc
      have hn := ih (acc * 10 + (c.toNat - 48)) (k + 1) (by omega) (by have := hc.1; have := hc.2; omega)
      rw [if_pos hc, if_neg (by omega), if_neg (by omega), hn, List.all_cons, hd, Bool.true_and, valN_cons]
    · have hd : isDig c = false := by
        rw [Bool.eq_false_iff]
        intro h1
        exact hc (by simpa [isDig] using h1)
      rw [if_neg hc, List.all_cons, hd]
      rfl

/-- Digits without a needless zero ahead. -/
def canon (l : List UInt8) : Bool := !l.isEmpty && l.all isDig && (decide (l.length = 1) || !(l.head? == some 48))

theorem ofNat_dig {c : UInt8} (h : isDig c = true) : UInt8.ofNat (48 + (c.toNat - 48)) = c := by
  have hc : 48 ≤ c.toNat ∧ c.toNat ≤ 57 := by simpa [isDig] using h
  rw [show 48 + (c.toNat - 48) = c.toNat by omega]
  simp
theorem decDigits_small {u : Nat} (h : u < 10) : Lib.decDigits u = [UInt8.ofNat (48 + u)] := by rw [Lib.decDigits, dif_pos h]
theorem decDigits_big {u : Nat} (h : ¬ u < 10) : Lib.decDigits u = Lib.decDigits (u / 10) ++ [UInt8.ofNat (48 + u % 10)] := by rw [Lib.decDigits, dif_neg h]
theorem decDigits_ne (u : Nat) : Lib.decDigits u ≠ [] := by
  by_cases h : u < 10
  · rw [decDigits_small h]; simp
  · rw [decDigits_big h]; simp
theorem toNat_dig (k : Nat) (h : k < 10) : (UInt8.ofNat (48 + k)).toNat = 48 + k := by
  simp
  omega
theorem decDigits_dig (u : Nat) : (Lib.decDigits u).all isDig = true := by
  induction u using Nat.strongRecOn with
  | _ u ih =>
    by_cases h : u < 10
    · rw [decDigits_small h]
      simp only [List.all_cons, List.all_nil, Bool.and_true, isDig, toNat_dig u h]
      simp
      omega
    · rw [decDigits_big h, List.all_append, ih (u / 10) (by omega)]
      simp only [List.all_cons, List.all_nil, Bool.and_true, isDig, toNat_dig (u % 10) (by omega)]
      simp
      omega
theorem decDigits_head {u : Nat} (h0 : 0 < u) : (Lib.decDigits u).head? ≠ some 48 := by
  induction u using Nat.strongRecOn with
  | _ u ih =>
    by_cases h : u < 10
    · rw [decDigits_small h]
      intro hc
      have := congrArg UInt8.toNat (Option.some.inj hc)
      rw [toNat_dig u h] at this
      have h48 : (48 : UInt8).toNat = 48 := rfl
      omega
    · rw [decDigits_big h, List.head?_append]
      intro hc
      have hi := ih (u / 10) (by omega) (by omega)
      cases hh : (Lib.decDigits (u / 10)).head? with
      | none => exact decDigits_ne _ (List.head?_eq_none_iff.1 hh)
      | some x =>
        rw [hh] at hc hi
        exact hi hc
theorem decDigits_canon (u : Nat) : canon (Lib.decDigits u) = true := by
  unfold canon
  rw [decDigits_dig u]
  by_cases h : 0 < u
  · have h1 := decDigits_head h
    have h2 := decDigits_ne u
    simp [h1, h2]
  · have : u = 0 := by omega
    subst this
    rw [decDigits_small (by omega)]
    simp
theorem valN_pos {l : List UInt8} : ∀ {acc : Nat}, 0 < acc → 0 < valN acc l := by
  induction l with
  | nil => intro acc h; exact h
  | cons c l ih => intro acc h; rw [valN_cons]; exact ih (by omega)

theorem decDigits_valN (l : List UInt8) (h : canon l = true) : Lib.decDigits (valN 0 l) = l := by
  have key : ∀ (n : Nat) (l : List UInt8), l.length = n → canon l = true → Lib.decDigits (valN 0 l) = l := by
    intro n
    induction n with
    | zero =>
      intro l hl hc
      have : l = [] := List.eq_nil_of_length_eq_zero hl
      subst this
      simp [canon] at hc
    | succ n ih =>
      intro l hl hc
      have hne : l ≠ [] := by intro hh; subst hh; simp at hl
      obtain ⟨l', c, rfl⟩ : ∃ l' c, l = l' ++ [c] := ⟨l.dropLast, l.getLast hne, (List.dropLast_concat_getLast hne).symm⟩
      simp only [canon, Bool.and_eq_true, List.all_append] at hc
      obtain ⟨⟨_, hd1, hd2⟩, hz⟩ := hc
      have hdc : isDig c = true := by simpa using hd2
      have hcb : 48 ≤ c.toNat ∧ c.toNat ≤ 57 := by simpa [isDig] using hdc
      rw [valN_snoc]
      by_cases hl' : l' = []
      · subst hl'
        rw [valN_nil, decDigits_small (by omega), show 48 + (0 * 10 + (c.toNat - 48)) = 48 + (c.toNat - 48) by omega, ofNat_dig hdc]
        rfl
      · have hlen : l'.length = n := by simpa using hl
        obtain ⟨x, r, rfl⟩ := List.exists_cons_of_ne_nil hl'
        have hx : x ≠ 48 := by
          intro hx
          subst hx
          simp at hz
        have hc' : canon (x :: r) = true := by
          unfold canon
          rw [hd1]
          simp [hx]
        have hi := ih (x :: r) hlen hc'
        have hdx : isDig x = true := by rw [List.all_cons, Bool.and_eq_true] at hd1; exact hd1.1
        have hxb : 48 ≤ x.toNat ∧ x.toNat ≤ 57 := by simpa [isDig] using hdx
        have hx0 : x.toNat ≠ 48 := fun h => hx (UInt8.toNat_inj.1 h)
        have hpos : 0 < valN 0 (x :: r) := by rw [valN_cons]; exact valN_pos (by omega)
        rw [decDigits_big (by omega), show (valN 0 (x :: r) * 10 + (c.toNat - 48)) / 10 = valN 0 (x :: r) by omega, hi, show (valN 0 (x :: r) * 10 + (c.toNat - 48)) % 10 = c.toNat - 48 by omega, ofNat_dig hdc]
  exact key l.length l rfl h
theorem decDigits_iff (l : List UInt8) (h : l.all isDig = true) : (Lib.decDigits (valN 0 l) = l) ↔ canon l = true :=
  ⟨fun e => e ▸ decDigits_canon _, decDigits_valN l⟩

/-- The reference's reading. -/
def numNeg (r : List UInt8) : Option Int := if canon r && decide (r.length ≤ 18) && !(r.head? == some 48) then some (-(valN 0 r : Int)) else none
def numPos (l : List UInt8) : Option Int := if canon l && decide (l.length ≤ 18) then some (valN 0 l : Int) else none
def numS (l : List UInt8) : Option Int := if l.head? = some 45 then numNeg l.tail else numPos l
/-- The program's reading. -/
def numP (l : List UInt8) : Option Int :=
  if 18 < (Lib.trimPrefix l [45]).length then none
  else match Lib.parseIntB 64 l with
    | .ok n => if Lib.itoa n = l then some n else none
    | _ => none

theorem parseUintB_short (l : List UInt8) (h : l.length ≤ 18) : Lib.parseUintB 64 l = if l ≠ [] ∧ l.all isDig = true then .ok (valN 0 l) else Lib.NumEnd.syntax := by
  unfold Lib.parseUintB
  by_cases hl : l = []
  · subst hl; rfl
  · rw [if_neg hl, parseUintM_short l 0 0 (by omega) (by decide)]
    by_cases hd : l.all isDig = true
    · rw [if_pos hd, if_pos ⟨hl, hd⟩]
    · rw [if_neg hd, if_neg (fun h => hd h.2)]

theorem valN_18 {l : List UInt8} (h : l.length ≤ 18) (hd : l.all isDig = true) : valN 0 l < 10 ^ 18 :=
  Nat.lt_of_lt_of_le (valN_lt l 0 0 hd (by decide)) (Nat.pow_le_pow_right (by decide) (by omega))

theorem numP_eq (l : List UInt8) : numP l = numS l := by
  unfold numP numS
  cases l with
  | nil => rfl
  | cons c r =>
    have hpre : Lib.trimPrefix (c :: r) [45] = if c = 45 then r else c :: r := by
      unfold Lib.trimPrefix Lib.hasPrefix
      by_cases hc : c = 45
      · subst hc; simp
      · rw [if_neg hc, if_neg]
        simp
        exact fun h => hc h.symm
    rw [hpre]
    by_cases hc : c = 45
    · subst hc
      rw [if_pos rfl, if_pos (show (45 :: r).head? = some 45 from rfl), show (45 :: r).tail = r from rfl]
      unfold numNeg
      by_cases hl : 18 < r.length
      · rw [if_pos hl, if_neg (by simp; intro _ h; omega)]
      · rw [if_neg hl]
        unfold Lib.parseIntB
        simp only [show ((45 : UInt8).toNat = 43 ∨ (45 : UInt8).toNat = 45) from Or.inr rfl, if_true, parseUintB_short r (by omega)]
        by_cases hd : r ≠ [] ∧ r.all isDig = true
        · simp only [if_pos hd, show (45 : UInt8).toNat = 45 from rfl, not_true, false_and, if_false, true_and, if_true]
          have hv := valN_18 (show r.length ≤ 18 by omega) hd.2
          rw [if_neg (by omega)]
          simp only
          by_cases h0 : valN 0 r = 0
          · rw [h0, if_neg (by rw [show Lib.itoa (-((0 : Nat) : Int)) = [48] from by unfold Lib.itoa; simp [decDigits_small]]; simp)]
            rw [if_neg]
            intro hh
            simp only [Bool.and_eq_true, decide_eq_true_eq] at hh
            have := decDigits_valN r hh.1.1
            rw [h0, decDigits_small (by omega)] at this
            rw [← this] at hh
            simp at hh
          · have hneg : -((valN 0 r : Nat) : Int) < 0 := by omega
            have e1 : Lib.itoa (-((valN 0 r : Nat) : Int)) = 45 :: Lib.decDigits (valN 0 r) := by
              unfold Lib.itoa
              rw [if_pos hneg]
              simp
            rw [e1]
            have e2 : (45 :: Lib.decDigits (valN 0 r) = 45 :: r) ↔ canon r = true := by
              rw [List.cons.injEq]
              simp only [true_and]
              exact decDigits_iff r hd.2
            by_cases hcan : canon r = true
            · rw [if_pos (e2.2 hcan), if_pos]
              rw [hcan]
              simp only [Bool.true_and, Bool.and_eq_true, decide_eq_true_eq]
              refine ⟨by omega, ?_⟩
              have h4 := decDigits_head (show 0 < valN 0 r by omega)
              rw [decDigits_valN r hcan] at h4
              simpa using h4
            · rw [if_neg (fun h => hcan (e2.1 h)), if_neg (fun h => hcan (by simp only [Bool.and_eq_true] at h; exact h.1.1))]
        · simp only [if_neg hd]
          rw [if_neg]
          intro h
          simp only [Bool.and_eq_true, canon] at h
          refine hd ⟨?_, h.1.1.1.2⟩
          rintro rfl
          simp at h
    · have hh : ¬ (c :: r).head? = some 45 := by simpa using hc
      have hcn : ¬ c.toNat = 45 := fun h => hc (UInt8.toNat_inj.1 h)
      rw [if_neg hc, if_neg hh]
      unfold numPos
      by_cases hl : 18 < (c :: r).length
      · rw [if_pos hl, if_neg (by simp only [Bool.and_eq_true, decide_eq_true_eq]; omega)]
      · rw [if_neg hl]
        unfold Lib.parseIntB
        by_cases hp : c.toNat = 43
        · -- a plus sign: never its own numeral
          have hnd : canon (c :: r) = false := by
            rw [Bool.eq_false_iff]
            intro h
            simp only [canon, Bool.and_eq_true, List.all_cons] at h
            have : 48 ≤ c.toNat ∧ c.toNat ≤ 57 := by simpa [isDig] using h.1.2.1
            omega
          rw [hnd]
          simp only [Bool.false_and, Bool.false_eq_true, if_false]
          simp only [hp, true_or, if_true]
          have hl2 : r.length ≤ 18 := by simp at hl; omega
          rw [parseUintB_short r hl2]
          by_cases hd : r ≠ [] ∧ r.all isDig = true
          · simp only [if_pos hd]
            have hv := valN_18 hl2 hd.2
            rw [if_neg (by omega), if_neg (by omega)]
            simp only [show ¬ (43 : Nat) = 45 by omega, if_false]
            rw [if_neg]
            intro h
            have h2 := decDigits_dig (valN 0 r)
            have e1 : Lib.itoa ((valN 0 r : Nat) : Int) = Lib.decDigits (valN 0 r) := by
              unfold Lib.itoa
              rw [if_neg (by omega)]
              simp
            rw [← e1, h, List.all_cons, Bool.and_eq_true] at h2
            have : 48 ≤ c.toNat ∧ c.toNat ≤ 57 := by simpa [isDig] using h2.1
            omega
          · simp only [if_neg hd]
        · have hs : ¬ (c.toNat = 43 ∨ c.toNat = 45) := by omega
          simp only [if_neg hs, parseUintB_short (c :: r) (by omega)]
          by_cases hd : (c :: r) ≠ [] ∧ (c :: r).all isDig = true
          · simp only [if_pos hd]
            have hv := valN_18 (show (c :: r).length ≤ 18 by omega) hd.2
            rw [if_neg (by omega), if_neg (by omega)]
            simp only [if_neg hcn]
            have e1 : Lib.itoa ((valN 0 (c :: r) : Nat) : Int) = Lib.decDigits (valN 0 (c :: r)) := by
              unfold Lib.itoa
              rw [if_neg (by omega)]
              simp
            rw [e1]
            by_cases hcan : canon (c :: r) = true
            · rw [if_pos ((decDigits_iff _ hd.2).2 hcan), if_pos (by rw [hcan]; simp at hl ⊢; omega)]
            · rw [if_neg (fun h => hcan ((decDigits_iff _ hd.2).1 h)), if_neg (fun h => hcan (by simp only [Bool.and_eq_true] at h; exact h.1))]
          · simp only [if_neg hd]
            rw [if_neg]
            intro h
            simp only [Bool.and_eq_true, canon] at h
            exact hd ⟨by simp, h.1.1.2⟩

end Go.Proofs.YtcdhgabcajehnaaGreatDoor

namespace Go.Proofs.YtcdhgabcajehnaaGreatDoor
set_option linter.unusedVariables false

/-! ## Cutting at a byte -/
def splitC (c : UInt8) : List UInt8 → List (List UInt8)
  | [] => [[]]
  | x :: l => if x = c then [] :: splitC c l else (x :: (splitC c l).headD []) :: (splitC c l).tail
theorem splitC_ne (c : UInt8) (l : List UInt8) : splitC c l ≠ [] := by
  cases l with
  | nil => simp [splitC]
  | cons x l => unfold splitC; split <;> simp
theorem splitC_ceq (c : UInt8) (l : List UInt8) : splitC c (c :: l) = [] :: splitC c l := by rw [splitC, if_pos rfl]
theorem splitC_cne {c x : UInt8} (h : x ≠ c) (l : List UInt8) : splitC c (x :: l) = (x :: (splitC c l).headD []) :: (splitC c l).tail := by rw [splitC, if_neg h]
theorem splitC_miss {c : UInt8} : ∀ {l : List UInt8}, c ∉ l → splitC c l = [l]
  | [], _ => rfl
  | x :: l, h => by
    rw [List.mem_cons, not_or] at h
    rw [splitC_cne (fun e => h.1 e.symm), splitC_miss h.2]
    rfl
theorem splitC_hit {c : UInt8} : ∀ {a b : List UInt8}, c ∉ a → splitC c (a ++ c :: b) = a :: splitC c b
  | [], b, _ => by rw [List.nil_append, splitC_ceq]
  | x :: a, b, h => by
    rw [List.mem_cons, not_or] at h
    rw [List.cons_append, splitC_cne (fun e => h.1 e.symm), splitC_hit h.2]
    rfl
theorem index_one (c : UInt8) (l : List UInt8) (h : c ∉ l) : Lib.index l [c] = -1 := by
  induction l with
  | nil => rfl
  | cons x l ih =>
    rw [List.mem_cons, not_or] at h
    unfold Lib.index
    rw [if_neg (by simp [List.isPrefixOf]; exact h.1), ih h.2]
    rfl
theorem index_one_hit (c : UInt8) (a b : List UInt8) (h : c ∉ a) : Lib.index (a ++ c :: b) [c] = a.length := by
  induction a with
  | nil => unfold Lib.index; simp [List.isPrefixOf]
  | cons x a ih =>
    rw [List.mem_cons, not_or] at h
    rw [List.cons_append]
    unfold Lib.index
    rw [if_neg (by simp [List.isPrefixOf]; exact h.1), ih h.2, if_neg (by simp <;> omega)]
    simp
theorem split_at (c : UInt8) (l : List UInt8) (h : c ∈ l) : ∃ a b, l = a ++ c :: b ∧ c ∉ a := by
  induction l with
  | nil => cases h
  | cons x l ih =>
    by_cases hx : x = c
    · subst hx
      exact ⟨[], l, rfl, by simp⟩
    · obtain ⟨a, b, rfl, h2⟩ := ih (by
        rcases List.mem_cons.1 h with h | h
        · exact absurd h.symm hx
        · exact h)
      exact ⟨x :: a, b, rfl, by simp; exact ⟨fun e => hx e.symm, h2⟩⟩
theorem count_at (c : UInt8) {a b : List UInt8} (h : c ∉ a) : (a ++ c :: b).count c = b.count c + 1 := by
  rw [List.count_append, List.count_cons_self, List.count_eq_zero_of_not_mem h]
  omega
theorem countFrom_one (c : UInt8) : ∀ (fuel : Nat) (l : List UInt8), l.length < fuel → Lib.countFrom [c] fuel l = l.count c
  | 0, _, h => by omega
  | fuel + 1, l, h => by
    unfold Lib.countFrom
    by_cases hm : c ∈ l
    · obtain ⟨a, b, rfl, ha⟩ := split_at c l hm
      rw [index_one_hit c a b ha, if_neg (by simp <;> omega), count_at c ha]
      have e1 : ((a.length : Int)).toNat + [c].length = (a ++ [c]).length := by simp
      have e2 : (a ++ c :: b).drop (((a.length : Int)).toNat + [c].length) = b := by
        rw [e1, show a ++ c :: b = (a ++ [c]) ++ b by simp, List.drop_left]
      rw [e2, countFrom_one c fuel b (by simp at h; omega)]
      omega
    · rw [index_one c l hm, if_pos (by decide), List.count_eq_zero_of_not_mem hm]
theorem splitK_one (c : UInt8) : ∀ (k : Nat) (l : List UInt8), l.count c ≤ k → Lib.splitK [c] 0 k l = splitC c l
  | 0, l, h => by
    rw [splitC_miss (List.count_eq_zero.1 (by omega))]
    rfl
  | k + 1, l, h => by
    unfold Lib.splitK
    by_cases hm : c ∈ l
    · obtain ⟨a, b, rfl, ha⟩ := split_at c l hm
      rw [index_one_hit c a b ha, if_neg (by simp <;> omega), splitC_hit ha]
      rw [count_at c ha] at h
      have e1 : ((a.length : Int)).toNat + [c].length = (a ++ [c]).length := by simp
      have e2 : (a ++ c :: b).drop (((a.length : Int)).toNat + [c].length) = b := by
        rw [e1, show a ++ c :: b = (a ++ [c]) ++ b by simp, List.drop_left]
      rw [e2, splitK_one c k b (by omega)]
      congr 1
      simp
    · rw [index_one c l hm, if_pos (by decide), splitC_miss hm]
theorem split_one (c : UInt8) (l : List UInt8) : Lib.split l [c] = splitC c l := by
  unfold Lib.split Lib.count
  rw [countFrom_one c _ l (by omega)]
  exact splitK_one c _ l (Nat.le_refl _)
theorem join_cons2 (x y : List UInt8) (r : List (List UInt8)) (sep : List UInt8) : Lib.join (x :: y :: r) sep = x ++ sep ++ Lib.join (y :: r) sep := by
  rw [Lib.join_cons, Lib.join_cons]
  simp [Lib.joinTail]
theorem join_splitC (c : UInt8) : ∀ (l : List UInt8), Lib.join (splitC c l) [c] = l
  | [] => rfl
  | x :: l => by
    have ih := join_splitC c l
    unfold splitC
    obtain ⟨p, ps, hp⟩ := List.exists_cons_of_ne_nil (splitC_ne c l)
    rw [hp] at ih ⊢
    by_cases hx : x = c
    · subst hx
      rw [if_pos rfl, join_cons2, ih]
      simp
    · rw [if_neg hx]
      simp only [List.headD_cons, List.tail_cons]
      rw [Lib.join_cons] at ih ⊢
      rw [List.cons_append, ih]

/-! ## Numbers of a list of texts -/
def numsOf (f : List UInt8 → Option Int) : List (List UInt8) → Option (List Int)
  | [] => some []
  | x :: l => match f x, numsOf f l with
    | some n, some ns => some (n :: ns)
    | _, _ => none
def isVal (n : Int) : Bool := decide (0 ≤ n) && decide (n ≤ 63)
def numV (l : List UInt8) : Option Int := (numS l).filter isVal
theorem numsOf_len {f : List UInt8 → Option Int} : ∀ {l : List (List UInt8)} {ns : List Int}, numsOf f l = some ns → ns.length = l.length
  | [], ns, h => by cases h; rfl
  | x :: l, ns, h => by
    unfold numsOf at h
    split at h
    · rename_i n ms hn hm
      cases h
      simp [numsOf_len hm]
    · cases h
theorem numsOf_val : ∀ (l : List (List UInt8)), numsOf numV l = (numsOf numS l).filter (fun ns => ns.all isVal)
  | [] => rfl
  | x :: l => by
    unfold numsOf
    rw [numsOf_val l]
    unfold numV
    cases hx : numS x with
    | none => simp
    | some n =>
      cases hl : numsOf numS l with
      | none => cases hv : isVal n <;> simp [Option.filter, hv]
      | some ns => cases hv : isVal n <;> cases hw : ns.all isVal <;> simp [Option.filter, hv, hw]
theorem numS_itoa {l : List UInt8} {n : Int} (h : numS l = some n) : Lib.itoa n = l := by
  rw [← numP_eq] at h
  unfold numP at h
  split at h
  · cases h
  · split at h
    · split at h
      · rename_i hh
        cases h
        exact hh
      · cases h
    · cases h
theorem numsOf_itoa : ∀ {l : List (List UInt8)} {ns : List Int}, numsOf numS l = some ns → ns.map Lib.itoa = l
  | [], ns, h => by cases h; rfl
  | x :: l, ns, h => by
    unfold numsOf at h
    split at h
    · rename_i n ms hn hm
      cases h
      rw [List.map_cons, numS_itoa hn, numsOf_itoa hm]
    · cases h

/-! ## Labels -/
section
variable (nameL : List UInt8 → Bool)
def tauL : List UInt8 := [116, 97, 117]
def labName (l : List UInt8) : List UInt8 := (Lib.cut l [40]).1
/-- The reference's values of a label. -/
def valsS (l : List UInt8) : Option (List Int) :=
  if 40 ∉ l then (if nameL l then some [] else none)
  else if (nameL (labName l) && !(labName l == tauL)) && (l.getLast? == some 41) then
    (numsOf numV (splitC 44 (Lib.cut l [40]).2.1.dropLast)).filter (fun ns => decide (ns.length ≤ 2))
  else none
/-- The program's label with a name and values. -/
def labOf (name : List UInt8) (ns : List Int) : Option (List UInt8) :=
  if name = tauL then (if ns = [] then some tauL else none)
  else if !(nameL name) || decide (2 < ns.length) || !(ns.all isVal) then none
  else if ns = [] then some name
  else some (name ++ [40] ++ Lib.join (ns.map Lib.itoa) [44] ++ [41])
/-- The program's values of a label. -/
def valsP (l : List UInt8) : Option (List Int) :=
  match (if (Lib.cut l [40]).2.2 then numsOf numP (splitC 44 (Lib.trimSuffix (Lib.cut l [40]).2.1 [41])) else some []) with
  | none => none
  | some ns => if labOf nameL (Lib.cut l [40]).1 ns = some l then some ns else none
end
theorem cut_miss {l : List UInt8} (h : (40 : UInt8) ∉ l) : Lib.cut l [40] = (l, [], false) := by
  unfold Lib.cut
  rw [index_one 40 l h, if_neg (by decide)]
theorem cut_hit {a b : List UInt8} (h : (40 : UInt8) ∉ a) : Lib.cut (a ++ 40 :: b) [40] = (a, b, true) := by
  unfold Lib.cut
  rw [index_one_hit 40 a b h, if_pos (by omega)]
  congr 1
  · simp
  · congr 1
    have e1 : ((a.length : Int)).toNat + [(40 : UInt8)].length = (a ++ [40]).length := by simp
    rw [e1, show a ++ 40 :: b = (a ++ [40]) ++ b by simp, List.drop_left]
theorem numP_fun : numP = numS := funext numP_eq
theorem trimSuffix_hit (r : List UInt8) (c : UInt8) : Lib.trimSuffix (r ++ [c]) [c] = r := by
  unfold Lib.trimSuffix Lib.hasSuffix
  rw [if_pos (by simp)]
  simp
theorem trimSuffix_miss {r : List UInt8} {c : UInt8} (h : r.getLast? ≠ some c) : Lib.trimSuffix r [c] = r := by
  unfold Lib.trimSuffix Lib.hasSuffix
  rw [if_neg]
  intro hs
  have hs2 : [c] <:+ r := List.isSuffixOf_iff_suffix.1 hs
  obtain ⟨t, rfl⟩ := hs2
  simp at h

theorem valsP_eq (nameL : List UInt8 → Bool) (ht : nameL tauL = true) (l : List UInt8) : valsP nameL l = valsS nameL l := by
  by_cases hm : (40 : UInt8) ∈ l
  · obtain ⟨name, rest, rfl, hn⟩ := split_at 40 l hm
    have hlast : (name ++ 40 :: rest).getLast? = (40 :: rest).getLast? := by
      rw [List.getLast?_append]
      cases h : (40 :: rest).getLast? with
      | none => exact absurd (List.getLast?_eq_none_iff.1 h) (by simp)
      | some x => rfl
    have hP : valsP nameL (name ++ 40 :: rest) = (match numsOf numS (splitC 44 (Lib.trimSuffix rest [41])) with
        | none => none
        | some ns => if labOf nameL name ns = some (name ++ 40 :: rest) then some ns else none) := by
      unfold valsP
      rw [cut_hit hn]
      simp only [if_true, numP_fun]
    have hS : valsS nameL (name ++ 40 :: rest) = (if (nameL name && !(name == tauL)) && ((40 :: rest).getLast? == some 41) then
        (numsOf numV (splitC 44 rest.dropLast)).filter (fun ns => decide (ns.length ≤ 2)) else none) := by
      unfold valsS labName
      rw [if_neg (fun h => h hm), cut_hit hn, hlast]
    rw [hP, hS]
    by_cases hr : rest.getLast? = some 41
    · obtain ⟨r, rfl⟩ : ∃ r, rest = r ++ [41] := by
        have hne : rest ≠ [] := by rintro rfl; cases hr
        refine ⟨rest.dropLast, ?_⟩
        have h1 := List.dropLast_concat_getLast hne
        rw [List.getLast?_eq_some_getLast hne] at hr
        have h2 := Option.some.inj hr
        rw [h2] at h1
        exact h1.symm
      have hd : (r ++ [(41 : UInt8)]).dropLast = r := by simp
      rw [trimSuffix_hit, hd]
      have hl41 : ((40 :: (r ++ [41])).getLast? == some 41) = true := by
        rw [← List.cons_append, List.getLast?_append]
        rfl
      rw [hl41, Bool.and_true, numsOf_val]
      cases hx : numsOf numS (splitC 44 r) with
      | none => simp [Option.filter]
      | some ns =>
        have hlen := numsOf_len hx
        have hne : ns ≠ [] := by
          rintro rfl
          exact splitC_ne 44 r (List.eq_nil_of_length_eq_zero hlen.symm)
        have hj : Lib.join (ns.map Lib.itoa) [44] = r := by rw [numsOf_itoa hx, join_splitC]
        simp only
        unfold labOf
        by_cases htau : name = tauL
        · rw [if_pos htau, if_neg hne, if_neg (by simp), if_neg (by simp [htau])]
        · rw [if_neg htau, if_neg hne, hj]
          have htb : (name == tauL) = false := by rw [beq_eq_false_iff_ne]; exact htau
          rw [htb]
          by_cases h2 : ns.length ≤ 2
          · have h3 : ¬ 2 < ns.length := by omega
            cases hnm : nameL name <;> cases ha : ns.all isVal <;> simp [Option.filter, ha, h2, h3]
          · have h3 : 2 < ns.length := by omega
            cases hnm : nameL name <;> cases ha : ns.all isVal <;> simp [Option.filter, ha, h2, h3]
    · have hno : ¬ (((nameL name && !(name == tauL)) && ((40 :: rest).getLast? == some 41)) = true) := by
        intro hc
        rw [Bool.and_eq_true] at hc
        have hc2 := hc.2
        cases rest with
        | nil => simp at hc2
        | cons x r =>
          rw [List.getLast?_cons_cons] at hc2
          exact hr (by simpa using hc2)
      rw [trimSuffix_miss hr, if_neg hno]
      cases hx : numsOf numS (splitC 44 rest) with
      | none => rfl
      | some ns =>
        have hlen := numsOf_len hx
        have hne : ns ≠ [] := by
          rintro rfl
          exact splitC_ne 44 rest (List.eq_nil_of_length_eq_zero hlen.symm)
        have hj : Lib.join (ns.map Lib.itoa) [44] = rest := by rw [numsOf_itoa hx, join_splitC]
        simp only
        rw [if_neg]
        intro hc
        unfold labOf at hc
        rw [hj] at hc
        simp only [if_neg hne] at hc
        split at hc
        · cases hc
        · split at hc
          · cases hc
          · have h1 := Option.some.inj hc
            have h2 := congrArg List.length h1
            simp at h2
  · have hP : valsP nameL l = (if labOf nameL l [] = some l then some [] else none) := by
      unfold valsP
      rw [cut_miss hm]
      simp only [Bool.false_eq_true, if_false]
    have hS : valsS nameL l = (if nameL l then some [] else none) := by
      unfold valsS
      rw [if_pos hm]
    rw [hP, hS]
    unfold labOf
    by_cases htau : l = tauL
    · subst htau
      simp [ht]
    · rw [if_neg htau]
      cases hnm : nameL l <;> simp

end Go.Proofs.YtcdhgabcajehnaaGreatDoor

namespace Go.Proofs.YtcdhgabcajehnaaGreatDoor
open Go.RowKit

/-- A fact kept from the walk. -/
theorem hide {p : Prop} (h : p) : Hid p := h

theorem ret_b {a b : Bool} (h : b = a) : Ending.returned (.bool a) = .returned (.bool b) := by rw [h]
theorem ret_i {k : IntKind} {a b : Int} (h : b = a) : Ending.returned (.int k a) = .returned (.int k b) := by rw [h]

/-- The slice value `.slice A n c` holds the elements l (each of size cells, as f tells), in one block from lo on and below hi, whose cells may be written. -/
def Sl {α : Type} (size : Nat) (f : α → List Value) (w : World) (lo hi : Nat) (A : Option Addr) (n : Nat) (l : List α) : Prop :=
  l.length = n ∧ (0 < n → ∃ b off, A = some ⟨b, off, none⟩ ∧ lo ≤ b ∧ b < hi ∧ b < w.heap.size ∧
    ∀ (k : Nat) (x : α), l[k]? = some x → ∀ (j : Nat) (u : Value), (f x)[j]? = some u →
      w.cell? ⟨b, off + (k * size + j), none⟩ = some u ∧ w.frozen? ⟨b, off + (k * size + j), none⟩ = false)

section
variable {α : Type} {size : Nat} {f : α → List Value} {w w' : World} {lo hi lo' hi' n : Nat} {A : Option Addr} {l : List α}

theorem Sl.len (h : Sl size f w lo hi A n l) : l.length = n := h.1

theorem Sl.nil_ : Sl size f w lo hi A 0 ([] : List α) := ⟨rfl, fun h => absurd h (by omega)⟩

theorem Sl.at_ (h : Sl size f w lo hi A n l) (hn : 0 < n) : ∃ b off, A = some ⟨b, off, none⟩ ∧ lo ≤ b ∧ b < hi ∧ b < w.heap.size ∧
    ∀ (k : Nat) (x : α), l[k]? = some x → ∀ (j : Nat) (u : Value), (f x)[j]? = some u →
      w.cell? ⟨b, off + (k * size + j), none⟩ = some u ∧ w.frozen? ⟨b, off + (k * size + j), none⟩ = false := h.2 hn

theorem Sl.keep (h : Sl size f w lo hi A n l) (hs : w.heap.size ≤ w'.heap.size) (hk : ∀ b, lo ≤ b → b < hi → b < w.heap.size → w'.heap[b]? = w.heap[b]?) : Sl size f w' lo hi A n l :=
  ⟨h.1, fun hn => by
    obtain ⟨b, off, e, h1, h2, h3, hc⟩ := h.2 hn
    refine ⟨b, off, e, h1, h2, by omega, fun k x hx j u hu => ?_⟩
    obtain ⟨hc1, hc2⟩ := hc k x hx j u hu
    have hb := hk b h1 h2 h3
    exact ⟨(World.cell?_of_block (w := w) (by simpa using hb)).trans hc1, (World.frozen?_of_block (w := w) (by simpa using hb)).trans hc2⟩⟩

theorem Sl.below {B : Nat} (h : Sl size f w lo hi A n l) (hb : Below B w w') (hB : hi ≤ B ∨ w.heap.size ≤ B) : Sl size f w' lo hi A n l :=
  h.keep hb.size fun b _ h2 h3 => hb.block b (by omega)

theorem Sl.more (h : Sl size f w lo hi A n l) (h1 : lo' ≤ lo) (h2 : hi ≤ hi') : Sl size f w lo' hi' A n l :=
  ⟨h.1, fun hn => by
    obtain ⟨b, off, e, g1, g2, g3, hc⟩ := h.2 hn
    exact ⟨b, off, e, by omega, by omega, g3, hc⟩⟩

theorem Sl.drew (h : Sl size f w lo hi A n l) : Sl size f w.drew lo hi A n l := h
theorem Sl.drewN (h : Sl size f w lo hi A n l) (k : Nat) : Sl size f (w.drewN k) lo hi A n l := h
end

/-- Int's order test in Bool. -/
def inB (n lo hi : Int) : Bool := decide (lo ≤ n) && decide (n ≤ hi)

/-- A struct of two int64 fields. -/
def tv (t : Int × Int) : List Value := [.int .i64 t.1, .int .i64 t.2]
/-- An int64. -/
def iv (n : Int) : List Value := [.int .i64 n]

abbrev SlT := Sl 2 tv
abbrev SlI := Sl 1 iv

/-- Block B is a row of n elements of which the first k are those of l. -/
def Fill {α : Type} (size : Nat) (f : α → List Value) (w : World) (B : Nat) (t : TypeId) (n k : Nat) (l : List α) : Prop :=
  ∃ cur : Array Value, w.heap[B]? = some (.cells cur t (0, 0)) ∧ cur.size = n * size ∧
    ∀ (i : Nat) (x : α), i < k → l[i]? = some x → ∀ (j : Nat) (u : Value), (f x)[j]? = some u → cur[i * size + j]? = some u

section
variable {α : Type} {size : Nat} {f : α → List Value} {w w' : World} {B n k : Nat} {t : TypeId} {l : List α}

theorem Fill.start (w : World) (t : TypeId) (cur : Array Value) (n : Nat) (hs : cur.size = n * size) : Fill size f (w.alloc (.cells cur t)) w.heap.size t n 0 l :=
  ⟨cur, heap_alloc_new w _, hs, fun i x hi => absurd hi (by omega)⟩

theorem Fill.lt (h : Fill size f w B t n k l) : B < w.heap.size := by
  obtain ⟨cur, hc, _⟩ := h
  rcases Nat.lt_or_ge B w.heap.size with hl | hl
  · exact hl
  · rw [Array.getElem?_eq_none hl] at hc; cases hc

theorem Fill.keep (h : Fill size f w B t n k l) (hb : w'.heap[B]? = w.heap[B]?) : Fill size f w' B t n k l := by
  obtain ⟨cur, hc, r⟩ := h
  exact ⟨cur, hb.trans hc, r⟩

theorem Fill.cell (h : Fill size f w B t n k l) {i : Nat} (hi : i < n * size) : ∃ u, w.cell? ⟨B, i, none⟩ = some u := by
  obtain ⟨cur, hc, hs, _⟩ := h
  exact ⟨cur[i]'(by omega), by rw [cell_of_row w B i cur t (0, 0) hc, Array.getElem?_eq_getElem (by omega)]⟩

theorem Fill.frozen (h : Fill size f w B t n k l) (i : Nat) : w.frozen? ⟨B, i, none⟩ = false := by
  obtain ⟨cur, hc, hs, _⟩ := h
  exact frozen_of_row w B i cur t hc

/-- A round that lays element k, cell by cell. -/
theorem Fill.step (h : Fill size f w B t n k l) (hlen : ∀ x, (f x).length = size) {x : α} (hx : l[k]? = some x)
    (hs : ∀ cur : Array Value, w.heap[B]? = some (.cells cur t (0, 0)) → cur.size = n * size → ∃ cur', w'.heap[B]? = some (.cells cur' t (0, 0)) ∧ cur'.size = cur.size ∧
      (∀ i, i < k * size → cur'[i]? = cur[i]?) ∧ (∀ j u, (f x)[j]? = some u → cur'[k * size + j]? = some u)) : Fill size f w' B t n (k + 1) l := by
  obtain ⟨cur, hc, hsz, hel⟩ := h
  obtain ⟨cur', h1, h2, h3, h4⟩ := hs cur hc hsz
  refine ⟨cur', h1, h2.trans hsz, fun i y hi hy j v hv => ?_⟩
  have hj : j < size := by rw [← hlen y]; exact (List.getElem?_eq_some_iff.1 hv).1
  rcases Nat.lt_or_ge i k with hlt | hge
  · have hm : (i + 1) * size ≤ k * size := Nat.mul_le_mul_right _ hlt
    rw [Nat.add_mul] at hm
    rw [h3 _ (by omega)]
    exact hel i y hlt hy j v hv
  · have : i = k := by omega
    subst this
    rw [hx] at hy
    cases hy
    exact h4 j v hv

theorem Fill.done (h : Fill size f w B t n n l) (hl : l.length = n) {lo hi : Nat} (h1 : lo ≤ B) (h2 : B < hi) : Sl size f w lo hi (some ⟨B, 0, none⟩) n l := by
  refine ⟨hl, fun _ => ⟨B, 0, rfl, h1, h2, h.lt, fun k x hx j u hu => ?_⟩⟩
  obtain ⟨cur, hc, hs, hel⟩ := h
  have hk : k < n := by rw [← hl]; exact (List.getElem?_eq_some_iff.1 hx).1
  rw [Nat.zero_add]
  exact ⟨(cell_of_row w B _ cur t (0, 0) hc).trans (hel k x hk hx j u hu), frozen_of_row w B _ cur t hc⟩
end

section
variable {w w' : World} {lo hi n : Nat} {A : Option Addr}
/-- A slice of two-field structs, read at k, in the walk's spelling. -/
theorem SlT.get {l : List (Int × Int)} (h : SlT w lo hi A n l) {k : Nat} (hk : k < n) :
    ∃ b off x y, A = some ⟨b, off, none⟩ ∧ lo ≤ b ∧ b < hi ∧ b < w.heap.size ∧ l[k]? = some (x, y) ∧ w.cell? ⟨b, off + k * 2, none⟩ = some (.int .i64 x) ∧ w.cell? ⟨b, off + k * 2 + 1, none⟩ = some (.int .i64 y) ∧
      w.frozen? ⟨b, off + k * 2, none⟩ = false ∧ w.frozen? ⟨b, off + k * 2 + 1, none⟩ = false := by
  obtain ⟨b, off, e, g1, g2, g3, hc⟩ := h.at_ (by omega)
  have hl : k < l.length := by rw [h.len]; exact hk
  have h0 := hc k l[k] (List.getElem?_eq_getElem hl) 0 _ rfl
  have h1 := hc k l[k] (List.getElem?_eq_getElem hl) 1 _ rfl
  rw [← Nat.add_assoc] at h1
  exact ⟨b, off, l[k].1, l[k].2, e, g1, g2, g3, List.getElem?_eq_getElem hl, h0.1, h1.1, h0.2, h1.2⟩
theorem SlI.get {l : List Int} (h : SlI w lo hi A n l) {k : Nat} (hk : k < n) :
    ∃ b off x, A = some ⟨b, off, none⟩ ∧ lo ≤ b ∧ b < hi ∧ b < w.heap.size ∧ l[k]? = some x ∧ w.cell? ⟨b, off + k, none⟩ = some (.int .i64 x) ∧ w.frozen? ⟨b, off + k, none⟩ = false := by
  obtain ⟨b, off, e, g1, g2, g3, hc⟩ := h.at_ (by omega)
  have hl : k < l.length := by rw [h.len]; exact hk
  have h0 := hc k l[k] (List.getElem?_eq_getElem hl) 0 _ rfl
  simp only [Nat.mul_one, Nat.add_zero] at h0
  exact ⟨b, off, l[k], e, g1, g2, g3, List.getElem?_eq_getElem hl, h0.1, h0.2⟩
end

/-- `make([]T, n)` at an n that fits: a new block of n elements' zero cells. -/
theorem make_row {P : Program} (t e : TypeId) (i : TypeInfo) (z : Value) (sz n : Nat) (ht : P.underlying t = some (.slice e)) (hi : P.info? e = some i) (hz : i.zero = some z) (hsz : i.size = sz)
    (hby : i.bytes * n ≤ 281474976710656) (hn : n ≤ 9223372036854775807) (W : World) :
    (Instr.makeSlice t (.int .i64 (n : Int)) (.int .i64 (n : Int))).run P W = .ok (.slice (some ⟨W.heap.size, 0, none⟩) n n) (W.alloc (.cells (madeCells z.cells (n * sz)) e)) := by
  have hb : (i.bytes : Int) * (n : Int) ≤ 281474976710656 := by
    rw [← Int.natCast_mul]
    omega
  have h := run_make (P := P) W t e i z ht hi hz .i64 .i64 n n (by omega) (Int.le_refl _) hb (by omega)
  rw [Int.toNat_natCast, hsz] at h
  exact h

section
variable {α : Type} {f : α → List Value} {w : World} {B n k : Nat} {t : TypeId} {l : List α}
theorem Fill.set1 (h : Fill 1 f w B t n k l) (hk : k < n) (hlen : ∀ x, (f x).length = 1) {x : α} (hx : l[k]? = some x) {u : Value} (hf : f x = [u]) :
    Fill 1 f (w.setCell ⟨B, k, none⟩ u) B t n (k + 1) l :=
  h.step hlen hx fun cur hc hs => ⟨cur.setIfInBounds k u, heap_setCell_same w B k cur t u hc, by simp, fun i hi => Array.getElem?_setIfInBounds_ne (by omega), fun j v hv => by
    rw [hf] at hv
    match j, hv with
    | 0, hv =>
      simp at hv
      subst hv
      simp [Array.getElem?_setIfInBounds]
      omega⟩
end

/-- w' is w but for blocks from lo on and below hi, and new blocks. -/
structure Only (lo hi : Nat) (w w' : World) : Prop where
  os : w'.os = w.os
  tape : w'.tape = w.tape
  output : w'.output = w.output
  size : w.heap.size ≤ w'.heap.size
  block : ∀ b, b < w.heap.size → b < lo ∨ hi ≤ b → w'.heap[b]? = w.heap[b]?

theorem Only.refl (lo hi : Nat) (w : World) : Only lo hi w w := ⟨rfl, rfl, rfl, Nat.le_refl _, fun _ _ _ => rfl⟩
theorem Only.setCell {lo hi : Nat} {a w : World} (h : Only lo hi a w) {p : Addr} (h1 : lo ≤ p.block) (h2 : p.block < hi) (u : Value) : Only lo hi a (w.setCell p u) :=
  ⟨h.os, h.tape, h.output, by simpa [World.setCell] using h.size, fun b hb ho => (Below.heap_setCell w p u b (by omega)).trans (h.block b hb ho)⟩
theorem Only.below {lo hi B : Nat} {a w w' : World} (h : Below B a w) (g : Only lo hi w w') (h1 : B ≤ lo) (h2 : B ≤ w.heap.size) : Below B a w' :=
  h.trans ⟨g.os, g.tape, g.output, g.size, fun b hb => g.block b (by omega) (by omega)⟩
theorem Sl.only {α : Type} {size : Nat} {f : α → List Value} {w w' : World} {lo hi lo' hi' n : Nat} {A : Option Addr} {l : List α} (h : Sl size f w lo hi A n l) (g : Only lo' hi' w w') (hd : hi ≤ lo' ∨ hi' ≤ lo) : Sl size f w' lo hi A n l :=
  h.keep g.size fun b h1 h2 h3 => g.block b h3 (by omega)

section
variable {w : World} {lo hi n b off : Nat}
theorem SlT.put {l : List (Int × Int)} (h : SlT w lo hi (some ⟨b, off, none⟩) n l) {k : Nat} (hk : k < n) (x y : Int) :
    SlT ((w.setCell ⟨b, off + k * 2, none⟩ (.int .i64 x)).setCell ⟨b, off + k * 2 + 1, none⟩ (.int .i64 y)) lo hi (some ⟨b, off, none⟩) n (l.set k (x, y)) := by
  refine ⟨by rw [List.length_set]; exact h.len, fun _ => ?_⟩
  obtain ⟨b', off', e, g1, g2, g3, hc⟩ := h.at_ (by omega)
  cases e
  refine ⟨b, off, rfl, g1, g2, by simpa [World.setCell] using g3, fun i z hz j u hu => ?_⟩
  have hj : j < 2 := (List.getElem?_eq_some_iff.1 hu).1
  have hil : i < l.length := by
    have := (List.getElem?_eq_some_iff.1 hz).1
    rwa [List.length_set] at this
  obtain ⟨hkc0, hkf0⟩ := hc k (l[k]'(by rw [h.len]; exact hk)) (List.getElem?_eq_getElem _) 0 _ rfl
  obtain ⟨hkc1, hkf1⟩ := hc k (l[k]'(by rw [h.len]; exact hk)) (List.getElem?_eq_getElem _) 1 _ rfl
  have hfr : ∀ (W : World) (p q : Addr) (v : Value), (W.setCell p v).frozen? q = W.frozen? q := fun W p q v => World.frozen?_setCell W p q v
  rw [hfr, hfr]
  by_cases hik : i = k
  · subst hik
    rw [List.getElem?_set_self hil] at hz
    cases hz
    match j, hu with
    | 0, hu =>
      simp [tv] at hu
      subst hu
      simp only [Nat.add_zero] at hkc0 hkf0 ⊢
      refine ⟨?_, hkf0⟩
      rw [World.cell?_setCell_other _ _ _ _ (by intro e; injection e with _ e _; omega)]
      exact World.cell?_setCell_same _ _ _ hkc0
    | 1, hu =>
      simp [tv] at hu
      subst hu
      rw [← Nat.add_assoc] at hkc1 hkf1 ⊢
      refine ⟨?_, hkf1⟩
      exact World.cell?_setCell_same _ _ _ ((World.cell?_setCell_other _ _ _ _ (by intro e; injection e with _ e _; omega)).trans hkc1)
  · rw [List.getElem?_set_ne (by omega)] at hz
    obtain ⟨h1, h2⟩ := hc i z hz j u hu
    refine ⟨?_, h2⟩
    rw [World.cell?_setCell_other _ _ _ _ (by intro e; injection e with _ e _; omega), World.cell?_setCell_other _ _ _ _ (by intro e; injection e with _ e _; omega)]
    exact h1
theorem SlI.put {l : List Int} (h : SlI w lo hi (some ⟨b, off, none⟩) n l) {k : Nat} (hk : k < n) (x : Int) :
    SlI (w.setCell ⟨b, off + k, none⟩ (.int .i64 x)) lo hi (some ⟨b, off, none⟩) n (l.set k x) := by
  refine ⟨by rw [List.length_set]; exact h.len, fun _ => ?_⟩
  obtain ⟨b', off', e, g1, g2, g3, hc⟩ := h.at_ (by omega)
  cases e
  refine ⟨b, off, rfl, g1, g2, by simpa [World.setCell] using g3, fun i z hz j u hu => ?_⟩
  have hj : j < 1 := (List.getElem?_eq_some_iff.1 hu).1
  have hil : i < l.length := by
    have := (List.getElem?_eq_some_iff.1 hz).1
    rwa [List.length_set] at this
  obtain ⟨hkc0, hkf0⟩ := hc k (l[k]'(by rw [h.len]; exact hk)) (List.getElem?_eq_getElem _) 0 _ rfl
  rw [World.frozen?_setCell]
  by_cases hik : i = k
  · subst hik
    rw [List.getElem?_set_self hil] at hz
    cases hz
    match j, hu with
    | 0, hu =>
      simp [iv] at hu
      subst hu
      simp only [Nat.add_zero, Nat.mul_one] at hkc0 hkf0 ⊢
      exact ⟨World.cell?_setCell_same _ _ _ hkc0, hkf0⟩
  · rw [List.getElem?_set_ne (by omega)] at hz
    obtain ⟨h1, h2⟩ := hc i z hz j u hu
    refine ⟨?_, h2⟩
    rw [World.cell?_setCell_other _ _ _ _ (by intro e; injection e with _ e _; omega)]
    exact h1
end

/-- A list of which the first k elements are mapped by g, the others as they were. -/
def MapK {α : Type} (g : α → α) (k : Nat) (l L : List α) : Prop := L.length = l.length ∧ (∀ i, i < k → L[i]? = (l[i]?).map g) ∧ ∀ i, k ≤ i → L[i]? = l[i]?
theorem MapK.start {α : Type} (g : α → α) (l : List α) : MapK g 0 l l := ⟨rfl, fun i hi => absurd hi (by omega), fun _ _ => rfl⟩
theorem MapK.skip {α : Type} {g : α → α} {k : Nat} {l L : List α} (h : MapK g k l L) {x : α} (hx : L[k]? = some x) (hg : g x = x) : MapK g (k + 1) l L := by
  refine ⟨h.1, fun i hi => ?_, fun i hi => h.2.2 i (by omega)⟩
  by_cases e : i = k
  · subst e
    have h1 := h.2.2 i (Nat.le_refl _)
    rw [← h1, hx]
    simp [hg]
  · exact h.2.1 i (by omega)
theorem MapK.set {α : Type} {g : α → α} {k : Nat} {l L : List α} (h : MapK g k l L) {x y : α} (hx : L[k]? = some x) (hg : g x = y) : MapK g (k + 1) l (L.set k y) := by
  have hk : k < L.length := (List.getElem?_eq_some_iff.1 hx).1
  refine ⟨by rw [List.length_set]; exact h.1, fun i hi => ?_, fun i hi => by rw [List.getElem?_set_ne (by omega)]; exact h.2.2 i (by omega)⟩
  by_cases e : i = k
  · subst e
    rw [List.getElem?_set_self hk, ← h.2.2 i (Nat.le_refl _), hx]
    simp [hg]
  · rw [List.getElem?_set_ne (by omega)]
    exact h.2.1 i (by omega)
theorem MapK.done {α : Type} {g : α → α} {k : Nat} {l L : List α} (h : MapK g k l L) (hk : l.length = k) : L = l.map g := by
  apply List.ext_getElem?
  intro i
  rw [List.getElem?_map]
  by_cases hi : i < k
  · exact h.2.1 i hi
  · rw [h.2.2 i (by omega), List.getElem?_eq_none (by omega)]
    rfl

end Go.Proofs.YtcdhgabcajehnaaGreatDoor

namespace Go.Proofs.YtcdhgabcajehnaaGreatDoor
open Go.ChangeShapes Go.WideShapes Go.ChangeAt Go.RowKit
set_option linter.unusedVariables false

theorem info_int64 : (Tryz.prog.info? 2).map (fun i => (i.zero, i.size, i.bytes)) = some (some (.int .i64 0), 1, 8) := by kernel_rfl

end Go.Proofs.YtcdhgabcajehnaaGreatDoor

namespace Go.Proofs.YtcdhgabcajehnaaGreatDoor
open Go.ChangeShapes Go.WideShapes Go.Deep Go.RowKit

theorem addr_add (b off i : Nat) : (⟨b, off, none⟩ : Addr).add i = ⟨b, off + i, none⟩ := by
  unfold Addr.add
  split <;> simp_all

theorem list_of {α : Type} {Q : Nat → α → Prop} (n : Nat) (h : ∀ i, i < n → ∃ x, Q i x) : ∃ l : List α, l.length = n ∧ ∀ i x, l[i]? = some x → Q i x := by
  induction n with
  | zero => exact ⟨[], rfl, fun i x h => by simp at h⟩
  | succ n ih =>
    obtain ⟨l, hl, hq⟩ := ih fun i hi => h i (by omega)
    obtain ⟨y, hy⟩ := h n (by omega)
    refine ⟨l ++ [y], by simp [hl], fun i x hx => ?_⟩
    rcases Nat.lt_or_ge i n with hi | hi
    · rw [List.getElem?_append_left (by omega)] at hx
      exact hq i x hx
    · rw [List.getElem?_append_right (by omega)] at hx
      have : i = n := by
        have := (List.getElem?_eq_some_iff.1 hx).1
        simp at this
        omega
      subst this
      simp [hl] at hx
      subst hx
      exact hy

section
variable {H : Type} {enc : TypeId × Value → H} {P : Program} {w : World} {base : Nat} {spare : Nat → Bool} {held : Bool}

theorem mem_row {a : Addr} {n j : Nat} (h : j < n) : MemPlace.cell a.block (a.off + j) ∈ MemPlace.row a n := List.mem_map.2 ⟨j, List.mem_range.2 h, rfl⟩

theorem open_flat {α : Type} (f : α → List Value) {t e : TypeId} {size : Nat} (ht : P.underlying t = some (.slice e)) (hC : P.cellsOf e = size) (hs : 0 < size)
    (hE : ∀ (fuel : Nat) (cs : List Value) (y : DataW H × List MemPlace), DataW.trod enc P w base spare held fuel e cs = some y → cs.length = size → ∃ x : α, cs = f x)
    {fuel : Nat} {cs : List Value} {r : DataW H × List MemPlace} (h : DataW.trod enc P w base spare held fuel t cs = some r) (hz : ∀ b off, MemPlace.cell b off ∈ r.2 → w.frozen? ⟨b, off, none⟩ = false) :
    ∃ A n c l, cs = [.slice A n c] ∧ n ≤ maxLen ∧ Sl size f w base w.heap.size A n l := by
  rcases open_slice ht h with ⟨hcs, _⟩ | ⟨a, len, cap, m, n, D, Pl, hcs, hb, hl, hm, hmm, hr, hi⟩
  · exact ⟨none, 0, 0, [], hcs, Nat.zero_le _, Sl.nil_⟩
  · have hlm : len ≤ m := by rw [hmm]; split <;> omega
    have hq : ∀ i, i < len → ∃ x : α, ∀ j u, (f x)[j]? = some u → w.cell? ((a.add (i * size)).add j) = some u ∧ j < size := by
      intro i hil
      obtain ⟨cs', hc, ht'⟩ := hi i (by omega)
      rw [hC] at hc
      obtain ⟨_, hcl, hat⟩ := World.cells?_some hc
      obtain ⟨y, rfl⟩ := hE _ _ _ ht' hcl
      refine ⟨y, fun j u hu => ?_⟩
      have hj : j < size := by rw [← hcl]; exact (List.getElem?_eq_some_iff.1 hu).1
      exact ⟨(hat j hj).trans hu, hj⟩
    obtain ⟨l, hll, hlq⟩ := list_of len hq
    refine ⟨some a, len, cap, l, hcs, by omega, hll, fun h0 => ?_⟩
    obtain ⟨b, off, spot⟩ := a
    have hspot : spot = none := by
      obtain ⟨cs', hc, ht'⟩ := hi 0 (by omega)
      rw [hC] at hc
      obtain ⟨_, hcl, hat⟩ := World.cells?_some hc
      have h1 := hat 0 hs
      rw [List.getElem?_eq_getElem (by omega)] at h1
      simpa [Addr.add] using World.cell?_spot h1
    subst hspot
    have hcell : ∀ (k : Nat) (x : α), l[k]? = some x → ∀ (j : Nat) (u : Value), (f x)[j]? = some u → w.cell? ⟨b, off + (k * size + j), none⟩ = some u ∧ k < len ∧ j < size := by
      intro k x hx j u hu
      obtain ⟨h1, h2⟩ := hlq k x hx j u hu
      rw [addr_add, addr_add, Nat.add_assoc] at h1
      exact ⟨h1, by rw [← hll]; exact (List.getElem?_eq_some_iff.1 hx).1, h2⟩
    have hbl : b < w.heap.size := by
      obtain ⟨cs', hc, ht'⟩ := hi 0 (by omega)
      rw [hC] at hc
      obtain ⟨_, hcl, hat⟩ := World.cells?_some hc
      have h1 := hat 0 hs
      rw [List.getElem?_eq_getElem (by omega), addr_add, addr_add] at h1
      exact World.block_lt_of_cell? w _ h1
    refine ⟨b, off, rfl, hb, hbl, hbl, fun k x hx j u hu => ?_⟩
    obtain ⟨h1, h2, h3⟩ := hcell k x hx j u hu
    refine ⟨h1, hz _ _ ?_⟩
    rw [hr, hC]
    refine List.mem_append_left _ (mem_row (a := ⟨b, off, none⟩) ?_)
    have hkm : (k + 1) * size ≤ m * size := Nat.mul_le_mul_right _ (by omega)
    rw [Nat.add_mul] at hkm
    omega

end

end Go.Proofs.YtcdhgabcajehnaaGreatDoor

namespace Go.Proofs.YtcdhgabcajehnaaGreatDoor
open Go.RowKit

/-- The cells of an element: always size many, each one cell. -/
structure Flat {α : Type} (f : α → List Value) (size : Nat) : Prop where
  len : ∀ x, (f x).length = size
  one : ∀ x u, u ∈ f x → u.oneCell' = true

theorem flat_iv : Flat iv 1 := ⟨fun _ => rfl, fun x u h => by simp [iv] at h; subst h; rfl⟩

/-- What the program's tables say of a slice type and its elements. -/
def Elem (P : Program) (t e : TypeId) (size bytes : Nat) : Prop :=
  P.underlying t = some (.slice e) ∧ 0 < size ∧ 0 < bytes ∧ ∃ i z, P.info? e = some i ∧ i.zero = some z ∧ i.size = size ∧ i.bytes = bytes ∧ z.cells.size = size

theorem Elem.of {P : Program} {t e : TypeId} {size bytes : Nat} {z : Value} (ht : P.underlying t = some (.slice e)) (hi : (P.info? e).map (fun i => (i.zero, i.size, i.bytes)) = some (some z, size, bytes))
    (hz : z.cells.size = size) (h0 : 0 < size) (h1 : 0 < bytes) : Elem P t e size bytes := by
  obtain ⟨i, a, b, c, d⟩ := info_parts hi
  exact ⟨ht, h0, h1, i, z, a, b, c, d, hz⟩

/-- The slice value `.slice A n c` is the call's own (blocks from base on), and holds l. -/
def Own {α : Type} (size : Nat) (f : α → List Value) (w : World) (base : Nat) (e : TypeId) (A : Option Addr) (n c : Nat) (l : List α) : Prop :=
  l.length = n ∧ w.ownsRow base e size (.slice A n c) n (l.flatMap f)

theorem flat_length {α : Type} {f : α → List Value} {size : Nat} (hf : Flat f size) (l : List α) : (l.flatMap f).length = l.length * size := by
  induction l with
  | nil => simp
  | cons x l ih => simp [List.flatMap_cons, ih, hf.len, Nat.add_mul]; omega

theorem flat_at {α : Type} {f : α → List Value} {size : Nat} (hf : Flat f size) : ∀ (l : List α) (k : Nat) (x : α), l[k]? = some x → ∀ (j : Nat) (u : Value), (f x)[j]? = some u → (l.flatMap f)[k * size + j]? = some u := by
  intro l
  induction l with
  | nil => intro k x h; simp at h
  | cons y l ih =>
    intro k x h j u hu
    have hj : j < size := by rw [← hf.len x]; exact (List.getElem?_eq_some_iff.1 hu).1
    rw [List.flatMap_cons]
    cases k with
    | zero =>
      simp at h
      subst h
      rw [List.getElem?_append_left (by rw [hf.len]; omega)]
      simpa using hu
    | succ k =>
      simp at h
      rw [List.getElem?_append_right (by rw [hf.len, Nat.add_mul]; omega), hf.len]
      have : (k + 1) * size + j - size = k * size + j := by rw [Nat.add_mul]; omega
      rw [this]
      exact ih k x h j u hu

theorem flat_from {α : Type} {f : α → List Value} {size : Nat} (hf : Flat f size) : ∀ (l : List α) (j : Nat) (u : Value), (l.flatMap f)[j]? = some u → ∃ k i x, l[k]? = some x ∧ (f x)[i]? = some u ∧ j = k * size + i := by
  intro l
  induction l with
  | nil => intro j u h; simp at h
  | cons y l ih =>
    intro j u h
    rw [List.flatMap_cons] at h
    rcases Nat.lt_or_ge j size with hj | hj
    · rw [List.getElem?_append_left (by rw [hf.len]; exact hj)] at h
      exact ⟨0, j, y, rfl, h, by simp⟩
    · rw [List.getElem?_append_right (by rw [hf.len]; exact hj), hf.len] at h
      obtain ⟨k, i, x, h1, h2, h3⟩ := ih _ _ h
      exact ⟨k + 1, i, x, by simpa using h1, h2, by rw [Nat.add_mul]; omega⟩

theorem flat_one {α : Type} {f : α → List Value} {size : Nat} (hf : Flat f size) (l : List α) : ∀ u ∈ l.flatMap f, u.oneCell' = true := by
  intro u hu
  obtain ⟨x, _, hx⟩ := List.mem_flatMap.1 hu
  exact hf.one x u hx

section
variable {α : Type} {size : Nat} {f : α → List Value} {w w' : World} {base n c : Nat} {e : TypeId} {A : Option Addr} {l : List α}

theorem Own.len (h : Own size f w base e A n c l) : l.length = n := h.1

theorem Own.nil_ (w : World) (base : Nat) (e : TypeId) : Own size f w base e none 0 0 ([] : List α) := ⟨rfl, World.ownsRow_nil _ _ _ _⟩

theorem Own.lt (h : Own size f w base e A n c l) : ∀ g, (Value.slice A n c).ownBlock = some g → base ≤ g ∧ g < w.heap.size := h.2.lt

theorem Own.sl (h : Own size f w base e A n c l) (hf : Flat f size) : Sl size f w base w.heap.size A n l := by
  refine ⟨h.1, fun hn => ?_⟩
  rcases h.2.2 with ⟨hv, rfl⟩ | ⟨g, cap, cur, hv, hb, hg, hnc, hcm, hcs, htake⟩
  · omega
  · injection hv with hA _ _
    subst hA
    have hlt : g < w.heap.size := (Array.getElem?_eq_some_iff.1 hg).1
    refine ⟨g, 0, rfl, hb, hlt, hlt, fun k x hx j u hu => ?_⟩
    have h1 := flat_at hf l k x hx j u hu
    have h2 := h.2.cells (g := g) rfl _ _ h1
    have hadd : (⟨g, 0, none⟩ : Addr).add (k * size + j) = ⟨g, 0 + (k * size + j), none⟩ := by unfold Addr.add; split <;> simp_all
    rw [hadd] at h2
    exact ⟨h2, frozen_of_row w g _ cur e hg⟩

theorem Own.keep (h : Own size f w base e A n c l) (hk : ∀ g, (Value.slice A n c).ownBlock = some g → w'.heap[g]? = w.heap[g]?) : Own size f w' base e A n c l := by
  refine ⟨h.1, h.2.1, ?_⟩
  rcases h.2.2 with hn | ⟨g, cap, cur, hv, hb, hg, rest⟩
  · exact .inl hn
  · refine .inr ⟨g, cap, cur, hv, hb, ?_, rest⟩
    rw [hk g (by rw [hv]; rfl)]
    exact hg

theorem Own.below (h : Own size f w base e A n c l) {B : Nat} (hb : Below B w w') (hB : w.heap.size ≤ B) : Own size f w' base e A n c l :=
  h.keep fun g hg => hb.block g (by have := (h.lt g hg).2; omega)

theorem Own.lower (h : Own size f w base e A n c l) {base' : Nat} (hb : base' ≤ base) : Own size f w base' e A n c l := by
  refine ⟨h.1, h.2.1, ?_⟩
  rcases h.2.2 with hn | ⟨g, cap, cur, hv, hg, rest⟩
  · exact .inl hn
  · exact .inr ⟨g, cap, cur, hv, by omega, rest⟩
end

/-- A slice written out in the text: one element, in a block of its own. -/
theorem Sl.lit1 {α : Type} {f : α → List Value} (w : World) (t : TypeId) (x : α) (cs : Array Value) (h : f x = cs.toList) (size lo : Nat) (hlo : lo ≤ w.heap.size) :
    Sl size f (w.alloc (.cells cs t)) lo (w.heap.size + 1) (some ⟨w.heap.size, 0, none⟩) 1 [x] := by
  refine ⟨rfl, fun _ => ⟨w.heap.size, 0, rfl, hlo, by omega, by simp, fun k y hy j u hu => ?_⟩⟩
  cases k with
  | succ k => simp at hy
  | zero =>
    simp at hy
    subst hy
    rw [h] at hu
    simp only [Nat.zero_mul, Nat.zero_add]
    have hg := heap_alloc_new w (.cells cs t)
    exact ⟨(cell_of_row _ _ _ cs t (0, 0) hg).trans (by simpa using hu), frozen_of_row _ _ _ cs t hg⟩

/-- The same, the new block's number as the walk spells it. -/
theorem Sl.lit1' {α : Type} {f : α → List Value} (w : World) (t : TypeId) (x : α) (cs : Array Value) (h : f x = cs.toList) (size g : Nat) (hg : g = w.heap.size) :
    Sl size f (w.alloc (.cells cs t)) 0 (g + 1) (some ⟨g, 0, none⟩) 1 [x] := by
  subst hg
  exact Sl.lit1 w t x cs h size 0 (Nat.zero_le _)

section
variable {P : Program} {α : Type} {size bytes : Nat} {f : α → List Value} {t e : TypeId}

theorem run_app (w : World) (hE : Elem P t e size bytes) (hf : Flat f size) (ty : TypeId) {base n c : Nat} {A : Option Addr} {l : List α} (hown : Own size f w base e A n c l)
    {B : Option Addr} {m d lo hi : Nat} {r : List α} (hr : Sl size f w lo hi B m r) (hsz : (n + m) * bytes ≤ 140737488355328) (hbase : base ≤ w.heap.size) :
    ∃ A' c' w', (Builtin.append_ #[t, t] ty #[.slice A n c, .slice B m d]).run P w = .ok (.slice A' (n + m) c') w' ∧ Own size f w' base e A' (n + m) c' (l ++ r) ∧ w.grownBy w' (Value.slice A n c).ownBlock ∧
      ((Value.slice A' (n + m) c').ownBlock = (Value.slice A n c).ownBlock ∨ (Value.slice A' (n + m) c').ownBlock = some w.heap.size) := by
  obtain ⟨ht, h0, hb0, i, z, hi', hz, hs, hby, hzs⟩ := hE
  have hnm : n + m ≤ 140737488355328 := Nat.le_trans (Nat.le_mul_of_pos_right _ hb0) hsz
  have key : ∀ v' w', w'.ownsRow base e size v' (n + m) (l.flatMap f ++ r.flatMap f) → ∃ A' c', v' = .slice A' (n + m) c' ∧ Own size f w' base e A' (n + m) c' (l ++ r) := by
    intro v' w' h
    have hsh : ∃ A' c', v' = .slice A' (n + m) c' := by
      rcases h.2 with ⟨rfl, h0⟩ | ⟨g, cap, cur, rfl, _⟩
      · exact ⟨none, 0, by rw [h0]⟩
      · exact ⟨_, _, rfl⟩
    obtain ⟨A', c', rfl⟩ := hsh
    exact ⟨A', c', rfl, by rw [List.length_append, hown.1, hr.len], by rw [List.flatMap_append]; exact h⟩
  by_cases hm : m = 0
  · subst hm
    have hr0 : r = [] := List.eq_nil_of_length_eq_zero hr.len
    subst hr0
    have hrun : (Builtin.append_ #[t, t] ty #[.slice A n c, .slice B 0 d]).run P w = .ok (.slice A n c) w := by
      rcases hown.2.2 with ⟨hv, rfl⟩ | ⟨g, cap, cur, hv, _, hg, hnc, _⟩
      · injection hv with h1 _ h3
        subst h1 h3
        cases B <;> simp [Builtin.append_, run_underlying ht, sizeOf, typeInfo, hi', Builtin.lenOf, Builtin.firstCells, loadCells, loadCellsFrom]
      · injection hv with h1 _ h3
        subst h1 h3
        cases B <;> simp [Builtin.append_, run_underlying ht, sizeOf, typeInfo, hi', Builtin.lenOf, Builtin.firstCells, loadCells, loadCellsFrom, hnc, storeCells]
    exact ⟨A, c, w, hrun, ⟨by simpa using hown.1, by simpa using hown.2⟩, ⟨rfl, rfl, rfl, Nat.le_refl _, fun _ _ _ => rfl⟩, .inl rfl⟩
  · obtain ⟨b, off, rfl, _, _, _, hc⟩ := hr.at_ (by omega)
    obtain ⟨v', w', h1, h2, h3, _, h5⟩ := run_append_own_at (P := P) w base t ty e i z size bytes ht hi' hz hs hby hzs h0 (.slice A n c) n (l.flatMap f) hown.2 ⟨b, off, none⟩ m d (r.flatMap f)
      (by rw [flat_length hf, hr.len]) (fun j u hu => by
        obtain ⟨k, i, x, hx, hu', rfl⟩ := flat_from hf r j u hu
        have hadd : (⟨b, off, none⟩ : Addr).add (k * size + i) = ⟨b, off + (k * size + i), none⟩ := by unfold Addr.add; split <;> simp_all
        rw [hadd]
        exact (hc k x hx i u hu').1) (flat_one hf r) (by unfold maxLen; omega) hsz hbase
    obtain ⟨A', c', rfl, h6⟩ := key v' w' h2
    exact ⟨A', c', w', h1, h6, h3, h5⟩

/-- append, at the walk's operation. -/
theorem wpList_app {w : World} {ops : Array Oper} {rest : List Oper} {o : Oper} {a : Act} {Q : Exit → Act → World → Prop} (hgd : o.guard = none) (s x : Operand)
    (ho : o.op = .call { callee := .builtin .append, args := #[s, x], argTypes := #[t, t] }) (hE : Elem P t e size bytes) (hf : Flat f size)
    {base n c : Nat} {A : Option Addr} {l : List α} (hs : a.eval s = .slice A n c) (hown : Own size f w base e A n c l)
    {B : Option Addr} {m d lo hi : Nat} {r : List α} (hx : a.eval x = .slice B m d) (hr : Sl size f w lo hi B m r) (hsz : (n + m) * bytes ≤ 140737488355328) (hbase : base ≤ w.heap.size)
    (h : ∀ A' c' w', Own size f w' base e A' (n + m) c' (l ++ r) → w.grownBy w' (Value.slice A n c).ownBlock → Below base w w' →
      ((Value.slice A' (n + m) c').ownBlock = (Value.slice A n c).ownBlock ∨ (Value.slice A' (n + m) c').ownBlock = some w.heap.size) → wpList P ops Q rest (a.put o.dst (.slice A' (n + m) c')) w') : wpList P ops Q (o :: rest) a w := by
  refine wpList_plain hgd fun K hK => ?_
  obtain ⟨A', c', w', h1, h2, h3, h4⟩ := run_app w hE hf o.type hown (d := d) hr hsz hbase
  unfold Oper.wp execOp
  simp only [ho, resolve, invoke, builtin, Sem.run_bind, Sem.run_pure, Result.andThen_ok, List.map_toArray, List.map_cons, List.map_nil, hs, hx, h1]
  exact hK _ _ (h A' c' w' h2 h3 ((Below.refl _ _).grown h3 hbase fun k hk => (hown.lt k hk).1) h4)
end

/-- An empty slice written out in the text, or made: of the call's own. -/
theorem Own.made {α : Type} {size : Nat} {f : α → List Value} (w : World) {base : Nat} (e : TypeId) (hb : base ≤ w.heap.size) : Own size f (w.alloc (.cells #[] e)) base e (some ⟨w.heap.size, 0, none⟩) 0 0 ([] : List α) :=
  ⟨rfl, World.ownsRow_made w #[] 0 hb (Nat.zero_le _) (by simp)⟩

theorem Own.alloc {α : Type} {size : Nat} {f : α → List Value} {w : World} {base n c : Nat} {e : TypeId} {A : Option Addr} {l : List α} (h : Own size f w base e A n c l) (o : Obj) : Own size f (w.alloc o) base e A n c l :=
  ⟨h.1, h.2.alloc o⟩

/-- Where `s[l:]` begins (at its end the old address stays). -/
def cutA (A : Option Addr) (l cap size : Nat) : Option Addr := if cap = l then A else A.map (·.add (l * size))

theorem Sl.cut {α : Type} {size : Nat} {f : α → List Value} {w : World} {lo hi n c k : Nat} {A : Option Addr} {l : List α} (h : Sl size f w lo hi A n l) (hk : k ≤ n) (hc : n ≤ c) : Sl size f w lo hi (cutA A k c size) (n - k) (l.drop k) := by
  refine ⟨by rw [List.length_drop, h.len], fun hn => ?_⟩
  obtain ⟨b, off, rfl, g1, g2, g3, hcell⟩ := h.at_ (by omega)
  have e : cutA (some ⟨b, off, none⟩) k c size = some ⟨b, off + k * size, none⟩ := by
    unfold cutA
    rw [if_neg (by omega)]
    simp only [Option.map_some, Addr.add]
    split <;> simp_all
  rw [e]
  refine ⟨b, off + k * size, rfl, g1, g2, g3, fun i x hx j u hu => ?_⟩
  rw [List.getElem?_drop] at hx
  have h1 := hcell (k + i) x hx j u hu
  have e2 : off + ((k + i) * size + j) = off + k * size + (i * size + j) := by rw [Nat.add_mul]; omega
  rw [e2] at h1
  exact h1

theorem Sl.take {α : Type} {size : Nat} {f : α → List Value} {w : World} {lo hi n k : Nat} {A : Option Addr} {l : List α} (h : Sl size f w lo hi A n l) (hk : k ≤ n) : Sl size f w lo hi A k (l.take k) := by
  refine ⟨by rw [List.length_take, h.len]; omega, fun hn => ?_⟩
  obtain ⟨b, off, rfl, g1, g2, g3, hcell⟩ := h.at_ (by omega)
  refine ⟨b, off, rfl, g1, g2, g3, fun i x hx j u hu => ?_⟩
  rw [List.getElem?_take] at hx
  split at hx
  · exact hcell i x hx j u hu
  · cases hx

/-- `s[k:]`. -/
theorem run_cut {P : Program} {t e : TypeId} {size bytes : Nat} (hE : Elem P t e size bytes) (A : Option Addr) (n c k : Nat) (hk : k ≤ n) (W : World) :
    (Instr.slice t (.slice A n c) (some (.int .i64 (k : Int))) none none).run P W = .ok (.slice (cutA A k c size) (n - k) (c - k)) W := by
  obtain ⟨ht, _, _, i, z, hi, _, hs, _⟩ := hE
  have he : P.elem t = e := by simp [Program.elem, ht]
  rw [run_slice_l W t A n c (by rw [he]; exact ht) .i64 k (by omega) (by omega)]
  simp [sizeOf, typeInfo, he, hi, hs, sliced, cutA]

/-- `s[:k]`. -/
theorem run_head {P : Program} {t e : TypeId} {size bytes : Nat} (hE : Elem P t e size bytes) (A : Option Addr) (n c k : Nat) (hk : k ≤ c) (W : World) :
    (Instr.slice t (.slice A n c) none (some (.int .i64 (k : Int))) none).run P W = .ok (.slice A k c) W := by
  obtain ⟨ht, _, _, i, z, hi, _, hs, _⟩ := hE
  have he : P.elem t = e := by simp [Program.elem, ht]
  rw [run_slice_h W t A n c (by rw [he]; exact ht) .i64 k (by omega) (by omega)]
  have ha : A.map (fun x => x.add 0) = A := by cases A <;> simp [Addr.add]
  simp [sizeOf, typeInfo, he, hi, hs, sliced, ha]

theorem Own.take {α : Type} {size : Nat} {f : α → List Value} {w : World} {base n c k : Nat} {e : TypeId} {A : Option Addr} {l : List α} (hf : Flat f size) (h : Own size f w base e A n c l) (hk : k ≤ n) : Own size f w base e A k c (l.take k) := by
  have hl : (l.take k).length = k := by rw [List.length_take, h.1]; omega
  have hfl : (l.take k).flatMap f = (l.flatMap f).take (k * size) := by
    have h1 : l.flatMap f = (l.take k).flatMap f ++ (l.drop k).flatMap f := by rw [← List.flatMap_append, List.take_append_drop]
    rw [h1]
    have h2 := flat_length hf (l.take k)
    rw [hl] at h2
    rw [← h2, List.take_left]
  refine ⟨hl, by rw [flat_length hf, hl], ?_⟩
  rcases h.2.2 with ⟨hv, h0⟩ | ⟨g, cap, cur, hv, hb, hg, hnc, hcm, hcs, htake⟩
  · injection hv with h1 _ h3
    subst h1 h3
    have : k = 0 := by omega
    subst this
    exact .inl ⟨rfl, rfl⟩
  · injection hv with h1 _ h3
    subst h1 h3
    refine .inr ⟨g, c, cur, rfl, hb, hg, by omega, hcm, hcs, ?_⟩
    rw [hfl, ← htake, List.take_take]
    congr 1
    have := Nat.mul_le_mul_right size hk
    omega

/-- A slice value as an element. -/
def sv (x : Option Addr × Nat × Nat) : List Value := [.slice x.1 x.2.1 x.2.2]
/-- Rows of different element types are different rows. -/
theorem Own.apart {α β : Type} {size size' : Nat} {f : α → List Value} {f' : β → List Value} {w : World} {base base' n c n' c' : Nat} {e e' : TypeId} {A A' : Option Addr} {l : List α} {l' : List β}
    (h : Own size f w base e A n c l) (g : Own size' f' w base' e' A' n' c' l') (he : e ≠ e') : (Value.slice A n c).ownBlock = none ∨ (Value.slice A n c).ownBlock ≠ (Value.slice A' n' c').ownBlock := by
  rcases h.2.2 with ⟨hv, _⟩ | ⟨b, cap, cur, hv, _, hb, _⟩
  · left; rw [hv]; rfl
  · right
    intro e1
    rcases g.2.2 with ⟨hv', _⟩ | ⟨b', cap', cur', hv', _, hb', _⟩
    · rw [hv, hv'] at e1; simp [Value.ownBlock] at e1
    · rw [hv, hv'] at e1
      simp [Value.ownBlock] at e1
      subst e1
      rw [hb] at hb'
      injection hb' with hb'
      injection hb' with _ ht
      exact he ht
theorem Own.kept {α : Type} {size : Nat} {f : α → List Value} {w w' : World} {base n c : Nat} {e : TypeId} {A : Option Addr} {l : List α} {row : Option Nat} (h : Own size f w base e A n c l) (hg : w.grownBy w' row) (hne : (Value.slice A n c).ownBlock = none ∨ (Value.slice A n c).ownBlock ≠ row) :
    Own size f w' base e A n c l := ⟨h.1, h.2.kept hg hne⟩

end Go.Proofs.YtcdhgabcajehnaaGreatDoor

namespace Go.Proofs.YtcdhgabcajehnaaGreatDoor
open Go.RowKit

/-- A slice's header. -/
abbrev Hd := Option Addr × Nat × Nat

/-- The block that a handle's elements lie in, as a span. -/
def spanOf (h : Hd) : Nat × Nat := if h.2.1 = 0 then (0, 0) else match h.1 with | some a => (a.block, a.block + 1) | none => (0, 0)
def offS (x y : Nat × Nat) : Prop := x.2 ≤ y.1 ∨ y.2 ≤ x.1
theorem offS.symm {x y : Nat × Nat} (h : offS x y) : offS y x := Or.symm h

theorem spanOf_zero (A : Option Addr) (c : Nat) : spanOf (A, 0, c) = (0, 0) := rfl
theorem spanOf_pos {n : Nat} (b off c : Nat) (hn : 0 < n) : spanOf (some ⟨b, off, none⟩, n, c) = (b, b + 1) := if_neg (by show ¬ n = 0; omega)

section
variable {α : Type} {size : Nat} {f : α → List Value} {w w' : World} {lo hi n : Nat} {A : Option Addr} {l : List α}

theorem Sl.tight (h : Sl size f w lo hi A n l) (c : Nat) : Sl size f w (spanOf (A, n, c)).1 (spanOf (A, n, c)).2 A n l := by
  rcases Nat.eq_zero_or_pos n with rfl | hn
  · exact ⟨h.1, fun h0 => absurd h0 (by omega)⟩
  · obtain ⟨b, off, rfl, g1, g2, g3, hc⟩ := h.at_ hn
    rw [spanOf_pos b off c hn]
    exact ⟨h.1, fun _ => ⟨b, off, rfl, Nat.le_refl _, Nat.lt_succ_self _, g3, hc⟩⟩

theorem Sl.span (h : Sl size f w lo hi A n l) (c : Nat) : spanOf (A, n, c) = (0, 0) ∨ (lo ≤ (spanOf (A, n, c)).1 ∧ (spanOf (A, n, c)).2 ≤ hi ∧ (spanOf (A, n, c)).2 ≤ w.heap.size) := by
  rcases Nat.eq_zero_or_pos n with rfl | hn
  · exact .inl rfl
  · obtain ⟨b, off, rfl, g1, g2, g3, hc⟩ := h.at_ hn
    rw [spanOf_pos b off c hn]
    exact .inr ⟨g1, g2, g3⟩

theorem Sl.loose {c : Nat} (h : Sl size f w (spanOf (A, n, c)).1 (spanOf (A, n, c)).2 A n l) (hs : spanOf (A, n, c) = (0, 0) ∨ (lo ≤ (spanOf (A, n, c)).1 ∧ (spanOf (A, n, c)).2 ≤ hi)) : Sl size f w lo hi A n l := by
  rcases Nat.eq_zero_or_pos n with rfl | hn
  · exact ⟨h.1, fun h0 => absurd h0 (by omega)⟩
  · obtain ⟨b, off, rfl, g1, g2, g3, hc⟩ := h.at_ hn
    rw [spanOf_pos b off c hn] at hs
    rcases hs with hs | hs
    · simp at hs
    · exact ⟨h.1, fun _ => ⟨b, off, rfl, hs.1, by have := hs.2; show b < hi; simp at this; omega, g3, hc⟩⟩

theorem Sl.keepB (h : Sl size f w lo hi A n l) (hs : w.heap.size ≤ w'.heap.size) (hk : ∀ b off, 0 < n → A = some ⟨b, off, none⟩ → lo ≤ b → b < w.heap.size → w'.heap[b]? = w.heap[b]?) : Sl size f w' lo hi A n l := by
  rcases Nat.eq_zero_or_pos n with rfl | hn
  · exact ⟨h.1, fun h0 => absurd h0 (by omega)⟩
  · have ht := h.tight 0
    obtain ⟨b, off, rfl, g1, g2, g3, _⟩ := h.at_ hn
    have e := spanOf_pos b off 0 hn
    exact (ht.keep hs fun b' h1 h2 h3 => by
      rw [e] at h1 h2
      simp at h1 h2
      have : b' = b := by omega
      subst this
      exact hk b' off hn rfl g1 h3).loose (c := 0) (.inr (by rw [e]; exact ⟨g1, g2⟩))

theorem Sl.onlyS (h : Sl size f w lo hi A n l) {x : Nat × Nat} (g : Only x.1 x.2 w w') {c : Nat} (hd : offS (spanOf (A, n, c)) x) : Sl size f w' lo hi A n l :=
  h.keepB g.size fun b off hn e _ hb => g.block b hb (by
    subst e
    rw [spanOf_pos b off c hn] at hd
    rcases hd with hd | hd
    · exact .inl (by simp at hd; omega)
    · exact .inr hd)
end

/-- The slice value `.slice A n c` holds handles, and each handle its own list. -/
structure Nest {α : Type} (size : Nat) (f : α → List Value) (w : World) (lo hi : Nat) (A : Option Addr) (n : Nat) (R : List (Hd × List α)) : Prop where
  outer : Sl 1 sv w lo hi A n (R.map (·.1))
  rows : ∀ r ∈ R, Sl size f w lo hi r.1.1 r.1.2.1 r.2 ∧ r.1.2.1 ≤ 1048576
  apart : R.Pairwise fun r s => offS (spanOf r.1) (spanOf s.1)
  away : ∀ r ∈ R, offS (spanOf (A, n, 0)) (spanOf r.1)

section
variable {α : Type} {size : Nat} {f : α → List Value} {w w' : World} {lo hi n : Nat} {A : Option Addr} {R : List (Hd × List α)}

theorem Nest.len (h : Nest size f w lo hi A n R) : R.length = n := by have := h.outer.len; rwa [List.length_map] at this
theorem Nest.nil_ : Nest size f w lo hi A 0 ([] : List (Hd × List α)) := ⟨Sl.nil_, fun _ h => (List.not_mem_nil h).elim, List.Pairwise.nil, fun _ h => (List.not_mem_nil h).elim⟩
theorem Nest.keep (h : Nest size f w lo hi A n R) (hs : w.heap.size ≤ w'.heap.size) (hk : ∀ b, lo ≤ b → b < hi → b < w.heap.size → w'.heap[b]? = w.heap[b]?) : Nest size f w' lo hi A n R :=
  ⟨h.outer.keep hs hk, fun r hr => ⟨(h.rows r hr).1.keep hs hk, (h.rows r hr).2⟩, h.apart, h.away⟩
theorem Nest.below {B : Nat} (h : Nest size f w lo hi A n R) (hb : Below B w w') (hB : hi ≤ B ∨ w.heap.size ≤ B) : Nest size f w' lo hi A n R :=
  h.keep hb.size fun b _ h2 h3 => hb.block b (by omega)
theorem Nest.only {lo' hi' : Nat} (h : Nest size f w lo hi A n R) (g : Only lo' hi' w w') (hd : hi ≤ lo' ∨ hi' ≤ lo) : Nest size f w' lo hi A n R :=
  h.keep g.size fun b h1 h2 h3 => g.block b h3 (by omega)
theorem Nest.more {lo' hi' : Nat} (h : Nest size f w lo hi A n R) (h1 : lo' ≤ lo) (h2 : hi ≤ hi') : Nest size f w lo' hi' A n R :=
  ⟨h.outer.more h1 h2, fun r hr => ⟨(h.rows r hr).1.more h1 h2, (h.rows r hr).2⟩, h.apart, h.away⟩
theorem Nest.drewN (h : Nest size f w lo hi A n R) (k : Nat) : Nest size f (w.drewN k) lo hi A n R := h.keep (Nat.le_refl _) fun _ _ _ _ => rfl

theorem Nest.get (h : Nest size f w lo hi A n R) {k : Nat} (hk : k < n) :
    ∃ b off Ah nh ch s, A = some ⟨b, off, none⟩ ∧ lo ≤ b ∧ b < hi ∧ b < w.heap.size ∧ R[k]? = some ((Ah, nh, ch), s) ∧ w.cell? ⟨b, off + k, none⟩ = some (.slice Ah nh ch) ∧ w.frozen? ⟨b, off + k, none⟩ = false ∧ Sl size f w lo hi Ah nh s ∧ nh ≤ 1048576 := by
  obtain ⟨b, off, e, g1, g2, g3, hc⟩ := h.outer.at_ (by omega)
  have hkl : k < R.length := by rw [h.len]; exact hk
  obtain ⟨⟨⟨Ah, nh, ch⟩, s⟩, hr⟩ : ∃ r, R[k]? = some r := ⟨_, List.getElem?_eq_getElem hkl⟩
  have h0 := hc k (Ah, nh, ch) (by rw [List.getElem?_map, hr]; rfl) 0 _ rfl
  simp only [Nat.mul_one, Nat.add_zero] at h0
  have h1 := h.rows _ (List.mem_of_getElem? hr)
  exact ⟨b, off, Ah, nh, ch, s, e, g1, g2, g3, hr, h0.1, h0.2, h1.1, h1.2⟩

theorem pairwise_at {β : Type} {p : β → β → Prop} (hp : ∀ x y, p x y → p y x) {R : List β} (h : R.Pairwise p) {i j : Nat} {x y : β} (hi : R[i]? = some x) (hj : R[j]? = some y) (hne : i ≠ j) : p x y := by
  obtain ⟨hi', rfl⟩ := List.getElem?_eq_some_iff.1 hi
  obtain ⟨hj', rfl⟩ := List.getElem?_eq_some_iff.1 hj
  rcases Nat.lt_or_ge i j with hlt | hge
  · exact List.pairwise_iff_getElem.1 h i j hi' hj' hlt
  · exact hp _ _ (List.pairwise_iff_getElem.1 h j i hj' hi' (by omega))

/-- One row written anew, nothing else touched. -/
theorem Nest.put (h : Nest size f w lo hi A n R) {k : Nat} {Ah : Option Addr} {nh ch : Nat} {s s' : List α} (hr : R[k]? = some ((Ah, nh, ch), s))
    (g : Only (spanOf (Ah, nh, ch)).1 (spanOf (Ah, nh, ch)).2 w w') (hs : Sl size f w' (spanOf (Ah, nh, ch)).1 (spanOf (Ah, nh, ch)).2 Ah nh s') :
    Nest size f w' lo hi A n (R.set k ((Ah, nh, ch), s')) ∧ Only lo hi w w' := by
  have hk : k < R.length := (List.getElem?_eq_some_iff.1 hr).1
  have hm := List.mem_of_getElem? hr
  have e : (R.set k ((Ah, nh, ch), s')).map (·.1) = R.map (·.1) := by
    apply List.ext_getElem?
    intro i
    rw [List.getElem?_map, List.getElem?_map]
    by_cases hi : k = i
    · subst hi
      rw [List.getElem?_set_self hk, hr]
      rfl
    · rw [List.getElem?_set_ne hi]
  have h1 : Sl size f w lo hi Ah nh s ∧ nh ≤ 1048576 := h.rows _ hm
  refine ⟨⟨by rw [e]; exact h.outer.onlyS g (h.away _ hm), fun r hr' => ?_, ?_, fun r hr' => ?_⟩, ⟨g.os, g.tape, g.output, g.size, fun b hb ho => g.block b hb ?_⟩⟩
  · obtain ⟨i, hi⟩ := List.getElem?_of_mem hr'
    by_cases hki : k = i
    · subst hki
      rw [List.getElem?_set_self hk] at hi
      cases hi
      refine ⟨hs.loose (c := ch) ?_, h1.2⟩
      rcases h1.1.span ch with h2 | h2
      · exact .inl h2
      · exact .inr ⟨h2.1, h2.2.1⟩
    · rw [List.getElem?_set_ne hki] at hi
      have h2 := h.rows r (List.mem_of_getElem? hi)
      exact ⟨h2.1.onlyS g (pairwise_at (fun _ _ => offS.symm) h.apart hi hr (Ne.symm hki)), h2.2⟩
  · have h2 : (R.map (·.1)).Pairwise (fun x y => offS (spanOf x) (spanOf y)) := List.pairwise_map.2 h.apart
    rw [← e] at h2
    exact (List.pairwise_map (R := fun x y => offS (spanOf x) (spanOf y))).1 h2
  · obtain ⟨i, hi⟩ := List.getElem?_of_mem hr'
    by_cases hki : k = i
    · subst hki
      rw [List.getElem?_set_self hk] at hi
      cases hi
      have h9 := h.away _ hm
      exact h9
    · rw [List.getElem?_set_ne hki] at hi
      exact h.away _ (List.mem_of_getElem? hi)
  · rcases h1.1.span ch with h2 | h2
    · rw [h2]
      exact .inr (Nat.zero_le _)
    · omega
end

/-- The same, the outer row of the call's own: it may grow. -/
structure NestO {α : Type} (size : Nat) (f : α → List Value) (w : World) (base : Nat) (e : TypeId) (A : Option Addr) (n c : Nat) (R : List (Hd × List α)) : Prop where
  outer : Own 1 sv w base e A n c (R.map (·.1))
  rows : ∀ r ∈ R, Sl size f w base w.heap.size r.1.1 r.1.2.1 r.2 ∧ r.1.2.1 ≤ 1048576
  apart : R.Pairwise fun r s => offS (spanOf r.1) (spanOf s.1)
  away : ∀ r ∈ R, ∀ g, (Value.slice A n c).ownBlock = some g → offS (g, g + 1) (spanOf r.1)

section
variable {α : Type} {size : Nat} {f : α → List Value} {w w' : World} {base n c : Nat} {e : TypeId} {A : Option Addr} {R : List (Hd × List α)}

theorem NestO.len (h : NestO size f w base e A n c R) : R.length = n := by have := h.outer.len; rwa [List.length_map] at this
theorem NestO.nil_ (w : World) (base : Nat) (e : TypeId) : NestO size f w base e none 0 0 ([] : List (Hd × List α)) := ⟨Own.nil_ _ _ _, fun _ h => (List.not_mem_nil h).elim, List.Pairwise.nil, fun _ h => (List.not_mem_nil h).elim⟩
theorem NestO.made (w : World) {base : Nat} (e : TypeId) (hb : base ≤ w.heap.size) : NestO size f (w.alloc (.cells #[] e)) base e (some ⟨w.heap.size, 0, none⟩) 0 0 ([] : List (Hd × List α)) :=
  ⟨Own.made w e hb, fun _ h => (List.not_mem_nil h).elim, List.Pairwise.nil, fun _ h => (List.not_mem_nil h).elim⟩
theorem NestO.keep (h : NestO size f w base e A n c R) (hs : w.heap.size ≤ w'.heap.size) (hk : ∀ b, base ≤ b → b < w.heap.size → w'.heap[b]? = w.heap[b]?) : NestO size f w' base e A n c R :=
  ⟨h.outer.keep fun g hg => hk g (h.outer.lt g hg).1 (h.outer.lt g hg).2, fun r hr => ⟨((h.rows r hr).1.keep hs fun b h1 _ h3 => hk b h1 h3).more (Nat.le_refl _) hs, (h.rows r hr).2⟩, h.apart, h.away⟩
theorem NestO.below {B : Nat} (h : NestO size f w base e A n c R) (hb : Below B w w') (hB : w.heap.size ≤ B) : NestO size f w' base e A n c R := h.keep hb.size fun b _ h2 => hb.block b (by omega)

end

/-- How many elements the first k handles have. -/
def preH (H : List Hd) (k : Nat) : Nat := ((H.take k).map (·.2.1)).sum
/-- The first k rows hold their marks. -/
def MarkedK {α : Type} (mk : Int → α) (step : Nat) (m : Int) (k : Nat) (R : List (Hd × List α)) : Prop :=
  ∀ (i : Nat) (r : Hd × List α), i < k → R[i]? = some r → ∀ j : Nat, j < r.1.2.1 → r.2[j]? = some (mk (m + step * (preH (R.map (·.1)) i + j : Nat)))
theorem MarkedK.zero {α : Type} (mk : Int → α) (step : Nat) (m : Int) (R : List (Hd × List α)) : MarkedK mk step m 0 R := fun i r hi => absurd hi (by omega)
theorem handles_set {α : Type} {R : List (Hd × List α)} {k : Nat} {h : Hd} {s s' : List α} (hr : R[k]? = some (h, s)) : (R.set k (h, s')).map (·.1) = R.map (·.1) := by
  apply List.ext_getElem?
  intro i
  rw [List.getElem?_map, List.getElem?_map]
  by_cases hi : k = i
  · subst hi
    rw [List.getElem?_set_self (List.getElem?_eq_some_iff.1 hr).1, hr]
    rfl
  · rw [List.getElem?_set_ne hi]
theorem MarkedK.step {α : Type} {mk : Int → α} {step : Nat} {m : Int} {k : Nat} {R : List (Hd × List α)} (h : MarkedK mk step m k R) {Ah : Option Addr} {nh ch : Nat} {s s' : List α} (hr : R[k]? = some ((Ah, nh, ch), s))
    (hs : ∀ j : Nat, j < nh → s'[j]? = some (mk (m + step * (preH (R.map (·.1)) k + j : Nat)))) : MarkedK mk step m (k + 1) (R.set k ((Ah, nh, ch), s')) := by
  intro i r hi hr' j hj
  rw [handles_set hr]
  by_cases hki : k = i
  · subst hki
    rw [List.getElem?_set_self (List.getElem?_eq_some_iff.1 hr).1] at hr'
    cases hr'
    exact hs j hj
  · rw [List.getElem?_set_ne hki] at hr'
    exact h i r (by omega) hr' j hj

end Go.Proofs.YtcdhgabcajehnaaGreatDoor

namespace Go.Proofs.YtcdhgabcajehnaaGreatDoor
open Go.RowKit

theorem Only.trans {lo hi : Nat} {a b c : World} (h : Only lo hi a b) (g : Only lo hi b c) : Only lo hi a c :=
  ⟨g.os.trans h.os, g.tape.trans h.tape, g.output.trans h.output, Nat.le_trans h.size g.size, fun k hb hc => (g.block k (Nat.lt_of_lt_of_le hb h.size) hc).trans (h.block k hb hc)⟩
theorem Only.more {lo hi lo' hi' : Nat} {a b : World} (h : Only lo hi a b) (h1 : lo' ≤ lo) (h2 : hi ≤ hi') : Only lo' hi' a b :=
  ⟨h.os, h.tape, h.output, h.size, fun k hb hc => h.block k hb (by omega)⟩
/-- The words for a span from within a larger one. -/
theorem Only.span {lo hi : Nat} {a b : World} {x : Nat × Nat} (h : Only x.1 x.2 a b) (hs : x = (0, 0) ∨ (lo ≤ x.1 ∧ x.2 ≤ hi)) : Only lo hi a b :=
  ⟨h.os, h.tape, h.output, h.size, fun k hb hc => h.block k hb (by
    rcases hs with hs | hs
    · rw [hs]; exact .inr (Nat.zero_le _)
    · omega)⟩

/-- A list of elements, each with what its handle holds; all of it in [lo, hi). Nothing is said of different rows. -/
structure RowsG {β α : Type} (hd : β → Hd) (osz : Nat) (g : β → List Value) (size : Nat) (f : α → List Value) (most : Nat) (w : World) (lo hi : Nat) (A : Option Addr) (n : Nat) (R : List (β × List α)) : Prop where
  outer : Sl osz g w lo hi A n (R.map (·.1))
  rows : ∀ r ∈ R, Sl size f w lo hi (hd r.1).1 (hd r.1).2.1 r.2 ∧ (hd r.1).2.1 ≤ most

/-- The same, all rows in different blocks. -/
structure NestG {β α : Type} (hd : β → Hd) (osz : Nat) (g : β → List Value) (size : Nat) (f : α → List Value) (w : World) (lo hi : Nat) (A : Option Addr) (n : Nat) (R : List (β × List α)) : Prop where
  all : RowsG hd osz g size f 1048576 w lo hi A n R
  apart : R.Pairwise fun r s => offS (spanOf (hd r.1)) (spanOf (hd s.1))
  away : ∀ r ∈ R, offS (spanOf (A, n, 0)) (spanOf (hd r.1))

section
variable {β α : Type} {hd : β → Hd} {osz : Nat} {g : β → List Value} {size most : Nat} {f : α → List Value} {w w' : World} {lo hi n : Nat} {A : Option Addr} {R : List (β × List α)}

theorem RowsG.len (h : RowsG hd osz g size f most w lo hi A n R) : R.length = n := by have := h.outer.len; rwa [List.length_map] at this
theorem RowsG.nil_ : RowsG hd osz g size f most w lo hi A 0 ([] : List (β × List α)) := ⟨Sl.nil_, fun _ h => (List.not_mem_nil h).elim⟩
theorem RowsG.keep (h : RowsG hd osz g size f most w lo hi A n R) (hs : w.heap.size ≤ w'.heap.size) (hk : ∀ b, lo ≤ b → b < hi → b < w.heap.size → w'.heap[b]? = w.heap[b]?) : RowsG hd osz g size f most w' lo hi A n R :=
  ⟨h.outer.keep hs hk, fun r hr => ⟨(h.rows r hr).1.keep hs hk, (h.rows r hr).2⟩⟩
theorem RowsG.below {B : Nat} (h : RowsG hd osz g size f most w lo hi A n R) (hb : Below B w w') (hB : hi ≤ B ∨ w.heap.size ≤ B) : RowsG hd osz g size f most w' lo hi A n R :=
  h.keep hb.size fun b _ h2 h3 => hb.block b (by omega)
theorem RowsG.only {lo' hi' : Nat} (h : RowsG hd osz g size f most w lo hi A n R) (o : Only lo' hi' w w') (hd' : hi ≤ lo' ∨ hi' ≤ lo) : RowsG hd osz g size f most w' lo hi A n R :=
  h.keep o.size fun b h1 h2 h3 => o.block b h3 (by omega)
theorem RowsG.more {lo' hi' : Nat} (h : RowsG hd osz g size f most w lo hi A n R) (h1 : lo' ≤ lo) (h2 : hi ≤ hi') : RowsG hd osz g size f most w lo' hi' A n R :=
  ⟨h.outer.more h1 h2, fun r hr => ⟨(h.rows r hr).1.more h1 h2, (h.rows r hr).2⟩⟩
/-- Element k. -/
theorem RowsG.get (h : RowsG hd osz g size f most w lo hi A n R) {k : Nat} (hk : k < n) :
    ∃ b off x s, A = some ⟨b, off, none⟩ ∧ lo ≤ b ∧ b < hi ∧ b < w.heap.size ∧ R[k]? = some (x, s) ∧
      (∀ (j : Nat) (u : Value), (g x)[j]? = some u → w.cell? ⟨b, off + (k * osz + j), none⟩ = some u ∧ w.frozen? ⟨b, off + (k * osz + j), none⟩ = false) ∧ Sl size f w lo hi (hd x).1 (hd x).2.1 s ∧ (hd x).2.1 ≤ most := by
  obtain ⟨b, off, e, g1, g2, g3, hc⟩ := h.outer.at_ (by omega)
  have hkl : k < R.length := by rw [h.len]; exact hk
  obtain ⟨⟨x, s⟩, hr⟩ : ∃ r, R[k]? = some r := ⟨_, List.getElem?_eq_getElem hkl⟩
  have h1 := h.rows _ (List.mem_of_getElem? hr)
  exact ⟨b, off, x, s, e, g1, g2, g3, hr, hc k x (by rw [List.getElem?_map, hr]; rfl), h1.1, h1.2⟩

theorem NestG.len (h : NestG hd osz g size f w lo hi A n R) : R.length = n := h.all.len
theorem NestG.nil_ : NestG hd osz g size f w lo hi A 0 ([] : List (β × List α)) := ⟨RowsG.nil_, List.Pairwise.nil, fun _ h => (List.not_mem_nil h).elim⟩
theorem NestG.keep (h : NestG hd osz g size f w lo hi A n R) (hs : w.heap.size ≤ w'.heap.size) (hk : ∀ b, lo ≤ b → b < hi → b < w.heap.size → w'.heap[b]? = w.heap[b]?) : NestG hd osz g size f w' lo hi A n R := ⟨h.all.keep hs hk, h.apart, h.away⟩
theorem NestG.below {B : Nat} (h : NestG hd osz g size f w lo hi A n R) (hb : Below B w w') (hB : hi ≤ B ∨ w.heap.size ≤ B) : NestG hd osz g size f w' lo hi A n R := ⟨h.all.below hb hB, h.apart, h.away⟩
theorem NestG.only {lo' hi' : Nat} (h : NestG hd osz g size f w lo hi A n R) (o : Only lo' hi' w w') (hd' : hi ≤ lo' ∨ hi' ≤ lo) : NestG hd osz g size f w' lo hi A n R := ⟨h.all.only o hd', h.apart, h.away⟩
theorem NestG.more {lo' hi' : Nat} (h : NestG hd osz g size f w lo hi A n R) (h1 : lo' ≤ lo) (h2 : hi ≤ hi') : NestG hd osz g size f w lo' hi' A n R := ⟨h.all.more h1 h2, h.apart, h.away⟩
/-- What element k's handle holds written anew, nothing else touched. -/
theorem NestG.put (h : NestG hd osz g size f w lo hi A n R) {k : Nat} {x : β} {s s' : List α} (hr : R[k]? = some (x, s))
    (o : Only (spanOf (hd x)).1 (spanOf (hd x)).2 w w') (hs : Sl size f w' (spanOf (hd x)).1 (spanOf (hd x)).2 (hd x).1 (hd x).2.1 s') :
    NestG hd osz g size f w' lo hi A n (R.set k (x, s')) ∧ Only lo hi w w' := by
  have hk : k < R.length := (List.getElem?_eq_some_iff.1 hr).1
  have hm := List.mem_of_getElem? hr
  have e : (R.set k (x, s')).map (·.1) = R.map (·.1) := by
    apply List.ext_getElem?
    intro i
    rw [List.getElem?_map, List.getElem?_map]
    by_cases hi : k = i
    · subst hi
      rw [List.getElem?_set_self hk, hr]
      rfl
    · rw [List.getElem?_set_ne hi]
  have h1 : Sl size f w lo hi (hd x).1 (hd x).2.1 s ∧ (hd x).2.1 ≤ 1048576 := h.all.rows _ hm
  have hsp : spanOf (hd x) = (0, 0) ∨ (lo ≤ (spanOf (hd x)).1 ∧ (spanOf (hd x)).2 ≤ hi ∧ (spanOf (hd x)).2 ≤ w.heap.size) := h1.1.span (hd x).2.2
  refine ⟨⟨⟨by rw [e]; exact h.all.outer.onlyS (c := 0) o (h.away _ hm), fun r hr' => ?_⟩, ?_, fun r hr' => ?_⟩, o.span (by rcases hsp with h2 | h2; exact .inl h2; exact .inr ⟨h2.1, h2.2.1⟩)⟩
  · obtain ⟨i, hi⟩ := List.getElem?_of_mem hr'
    by_cases hki : k = i
    · subst hki
      rw [List.getElem?_set_self hk] at hi
      cases hi
      refine ⟨Sl.loose (c := (hd x).2.2) hs ?_, h1.2⟩
      rcases hsp with h2 | h2
      · exact .inl h2
      · exact .inr ⟨h2.1, h2.2.1⟩
    · rw [List.getElem?_set_ne hki] at hi
      have h2 := h.all.rows r (List.mem_of_getElem? hi)
      exact ⟨h2.1.onlyS (c := (hd r.1).2.2) o (pairwise_at (fun _ _ => offS.symm) h.apart hi hr (Ne.symm hki)), h2.2⟩
  · have h2 : (R.map (·.1)).Pairwise (fun x y => offS (spanOf (hd x)) (spanOf (hd y))) := List.pairwise_map.2 h.apart
    rw [← e] at h2
    exact (List.pairwise_map (R := fun x y => offS (spanOf (hd x)) (spanOf (hd y)))).1 h2
  · obtain ⟨i, hi⟩ := List.getElem?_of_mem hr'
    by_cases hki : k = i
    · subst hki
      rw [List.getElem?_set_self hk] at hi
      cases hi
      have h9 := h.away _ hm
      exact h9
    · rw [List.getElem?_set_ne hki] at hi
      exact h.away _ (List.mem_of_getElem? hi)

end

/-- A row of elements being made in block B, the first k laid, each handle's row made after it. -/
structure NestF {β α : Type} (hd : β → Hd) (osz : Nat) (g : β → List Value) (size : Nat) (f : α → List Value) (w : World) (B : Nat) (t : TypeId) (n k : Nat) (R : List (β × List α)) : Prop where
  len : R.length = k
  fill : Fill osz g w B t n k (R.map (·.1))
  rows : ∀ r ∈ R, Sl size f w (B + 1) w.heap.size (hd r.1).1 (hd r.1).2.1 r.2 ∧ (hd r.1).2.1 ≤ 1048576
  apart : R.Pairwise fun r s => offS (spanOf (hd r.1)) (spanOf (hd s.1))

section
variable {β α : Type} {hd : β → Hd} {osz : Nat} {g : β → List Value} {size : Nat} {f : α → List Value} {w w1 w2 : World} {B n k : Nat} {t : TypeId} {R : List (β × List α)}

theorem NestF.start (w : World) (t : TypeId) (cur : Array Value) (n : Nat) (hs : cur.size = n * osz) : NestF hd osz g size f (w.alloc (.cells cur t)) w.heap.size t n 0 ([] : List (β × List α)) :=
  ⟨rfl, Fill.start w t cur n hs, fun _ h => (List.not_mem_nil h).elim, List.Pairwise.nil⟩

/-- A row was made: the new element's. -/
theorem NestF.keep (h : NestF hd osz g size f w B t n k R) (hb : Below w.heap.size w w1) : NestF hd osz g size f w1 B t n k R :=
  ⟨h.len, h.fill.keep (hb.block _ h.fill.lt), fun r hr => ⟨((h.rows r hr).1.below hb (.inr (Nat.le_refl _))).more (Nat.le_refl _) hb.size, (h.rows r hr).2⟩, h.apart⟩

theorem NestF.done (h : NestF hd osz g size f w B t n n R) : NestG hd osz g size f w B w.heap.size (some ⟨B, 0, none⟩) n R := by
  have hlt := h.fill.lt
  refine ⟨⟨h.fill.done (by rw [List.length_map, h.len]) (Nat.le_refl _) hlt, fun r hr => ⟨(h.rows r hr).1.more (Nat.le_succ _) (Nat.le_refl _), (h.rows r hr).2⟩⟩, h.apart, fun r hr => ?_⟩
  rcases Nat.eq_zero_or_pos n with rfl | hn
  · rw [spanOf_zero]; exact .inl (Nat.zero_le _)
  · rw [spanOf_pos B 0 0 hn]
    have h2 := (h.rows r hr).1.span (hd r.1).2.2
    rcases h2 with h2 | h2
    · have h2 : spanOf (hd r.1) = (0, 0) := h2
      rw [h2]; exact .inr (Nat.zero_le _)
    · exact .inl h2.1
end

end Go.Proofs.YtcdhgabcajehnaaGreatDoor

namespace Go.Proofs.YtcdhgabcajehnaaGreatDoor
open Go.ChangeShapes Go.WideShapes Go.ChangeAt Go.RowKit Go.Deep
set_option linter.unusedVariables false

def ArgI (w : World) (lo hi : Nat) (v : Value) (d : List Int) : Prop := ∃ A n c, v = .slice A n c ∧ n ≤ maxLen ∧ SlI w lo hi A n d
section
variable {w w' : World} {lo hi lo' hi' B : Nat} {v : Value} {d : List Int}
theorem ArgI.shape (h : ArgI w lo hi v d) : ∃ A n c, v = .slice A n c := by obtain ⟨A, n, c, h1, _⟩ := h; exact ⟨A, n, c, h1⟩
theorem ArgI.below (h : ArgI w lo hi v d) (hb : Below B w w') (hB : hi ≤ B ∨ w.heap.size ≤ B) : ArgI w' lo hi v d := by
  obtain ⟨A, n, c, h1, h2, h3⟩ := h
  exact ⟨A, n, c, h1, h2, h3.below hb hB⟩
theorem ArgI.more (h : ArgI w lo hi v d) (h1 : lo' ≤ lo) (h2 : hi ≤ hi') : ArgI w lo' hi' v d := by
  obtain ⟨A, n, c, q1, q2, q3⟩ := h
  exact ⟨A, n, c, q1, q2, q3.more h1 h2⟩
theorem ArgI.only (h : ArgI w lo hi v d) (g : Only lo' hi' w w') (hd : hi ≤ lo' ∨ hi' ≤ lo) : ArgI w' lo hi v d := by
  obtain ⟨A, n, c, h1, h2, h3⟩ := h
  exact ⟨A, n, c, h1, h2, h3.only g hd⟩
end

section
variable {H : Type} {enc : TypeId × Value → H} {P : Program} {w : World} {base : Nat} {spare : Nat → Bool} {held : Bool}
end

/-- Cells written one behind the other. -/
def putCells (w : World) (b : Nat) : Nat → List Value → World
  | _, [] => w
  | off, u :: us => putCells (w.setCell ⟨b, off, none⟩ u) b (off + 1) us

theorem putCells_row (b : Nat) (t : TypeId) (us : List Value) : ∀ (w : World) (off : Nat) (cur : Array Value), w.heap[b]? = some (.cells cur t (0, 0)) →
    ∃ cur', (putCells w b off us).heap[b]? = some (.cells cur' t (0, 0)) ∧ cur'.size = cur.size ∧ (∀ i, i < off → cur'[i]? = cur[i]?) ∧ (∀ j u, us[j]? = some u → off + us.length ≤ cur.size → cur'[off + j]? = some u) := by
  induction us with
  | nil => exact fun w off cur h => ⟨cur, h, rfl, fun _ _ => rfl, fun j u hu => by simp at hu⟩
  | cons v us ih =>
    intro w off cur h
    obtain ⟨cur', h1, h2, h3, h4⟩ := ih (w.setCell ⟨b, off, none⟩ v) (off + 1) (cur.setIfInBounds off v) (heap_setCell_same w b off cur t v h)
    refine ⟨cur', h1, by rw [h2]; simp, fun i hi => ?_, fun j u hu hl => ?_⟩
    · rw [h3 i (by omega), Array.getElem?_setIfInBounds_ne (by omega)]
    · simp only [List.length_cons] at hl
      cases j with
      | zero =>
        simp at hu
        subst hu
        rw [Nat.add_zero, h3 off (by omega)]
        simp [Array.getElem?_setIfInBounds]
        omega
      | succ j =>
        simp at hu
        have := h4 j u hu (by simp; omega)
        rwa [show off + (j + 1) = off + 1 + j by omega]
/-- Element k laid by putCells. -/
theorem Fill.putN {α : Type} {size : Nat} {f : α → List Value} {w : World} {B n k : Nat} {t : TypeId} {l : List α} (h : Fill size f w B t n k l) (hk : k < n) (hlen : ∀ x, (f x).length = size) {x : α} (hx : l[k]? = some x) :
    Fill size f (putCells w B (k * size) (f x)) B t n (k + 1) l :=
  h.step hlen hx fun cur hc hs => by
    obtain ⟨cur', h1, h2, h3, h4⟩ := putCells_row B t (f x) w (k * size) cur hc
    refine ⟨cur', h1, h2, h3, fun j u hu => h4 j u hu ?_⟩
    rw [hlen x, hs]
    have := Nat.mul_le_mul_right size (show k + 1 ≤ n by omega)
    rw [Nat.add_mul] at this
    omega
/-- The first cells of an element of a row that is there written anew. -/
theorem Sl.putPre {α : Type} {size : Nat} {f : α → List Value} {w : World} {lo hi n b off : Nat} {l : List α} (h : Sl size f w lo hi (some ⟨b, off, none⟩) n l) {k : Nat} {x0 : α} (hx0 : l[k]? = some x0) (hlen : ∀ x, (f x).length = size) (x : α)
    (us : List Value) (hus : us.length ≤ size) (hpre : ∀ j u, j < us.length → (f x)[j]? = some u → us[j]? = some u) (hrest : ∀ j u, us.length ≤ j → (f x)[j]? = some u → (f x0)[j]? = some u) :
    Sl size f (putCells w b (off + k * size) us) lo hi (some ⟨b, off, none⟩) n (l.set k x) := by
  have key : ∀ (us : List Value) (W : World) (o : Nat),
      (∀ (q : Addr), (putCells W b o us).frozen? q = W.frozen? q) ∧ (putCells W b o us).heap.size = W.heap.size ∧
      (∀ i, (i < o ∨ o + us.length ≤ i) → (putCells W b o us).cell? ⟨b, i, none⟩ = W.cell? ⟨b, i, none⟩) ∧
      ((∀ j, j < us.length → ∃ v, W.cell? ⟨b, o + j, none⟩ = some v) → ∀ j u, us[j]? = some u → (putCells W b o us).cell? ⟨b, o + j, none⟩ = some u) := by
    intro us
    induction us with
    | nil => exact fun W o => ⟨fun _ => rfl, rfl, fun _ _ => rfl, fun _ j u hu => by simp at hu⟩
    | cons v us ih =>
      intro W o
      obtain ⟨i1, i2, i3, i4⟩ := ih (W.setCell ⟨b, o, none⟩ v) (o + 1)
      refine ⟨fun q => (i1 q).trans (World.frozen?_setCell W _ q v), by rw [putCells, i2, World.size_setCell], fun i hi => ?_, fun hc j u hu => ?_⟩
      · simp only [List.length_cons] at hi
        refine (i3 i (by omega)).trans (World.cell?_setCell_other _ _ _ _ (by intro e; injection e with _ e _; omega))
      · cases j with
        | zero =>
          simp at hu
          subst hu
          obtain ⟨v0, hv0⟩ := hc 0 (by simp)
          exact (i3 o (by omega)).trans (World.cell?_setCell_same _ _ _ hv0)
        | succ j =>
          simp at hu
          have := i4 (fun j hj => by
            obtain ⟨v1, hv1⟩ := hc (j + 1) (by simp; omega)
            exact ⟨v1, (World.cell?_setCell_other _ _ _ _ (by intro e; injection e with _ e _; omega)).trans (by rw [← hv1]; congr 2; omega)⟩) j u hu
          rw [show o + (j + 1) = o + 1 + j by omega]
          exact this
  obtain ⟨k1, k2, k3, k4⟩ := key us w (off + k * size)
  have hkl : k < l.length := (List.getElem?_eq_some_iff.1 hx0).1
  have hll := h.len
  refine ⟨by rw [List.length_set]; exact h.len, fun _ => ?_⟩
  obtain ⟨b', off', e, g1, g2, g3, hc⟩ := h.at_ (by omega)
  cases e
  refine ⟨b, off, rfl, g1, g2, by rw [k2]; exact g3, fun i z hz j u hu => ?_⟩
  have hj : j < size := by rw [← hlen z]; exact (List.getElem?_eq_some_iff.1 hu).1
  rw [k1]
  by_cases hik : i = k
  · subst hik
    rw [List.getElem?_set_self hkl] at hz
    cases hz
    have hold := hc i x0 hx0
    have hex : ∀ j, j < us.length → ∃ v, w.cell? ⟨b, off + (i * size + j), none⟩ = some v ∧ w.frozen? ⟨b, off + (i * size + j), none⟩ = false := fun j hj => 
      ⟨_, hold j _ (List.getElem?_eq_getElem (by rw [hlen]; omega))⟩
    rcases Nat.lt_or_ge j us.length with hju | hju
    · refine ⟨?_, (hex j hju).choose_spec.2⟩
      rw [← Nat.add_assoc]
      exact k4 (fun j hj => by rw [Nat.add_assoc]; exact ⟨_, (hex j hj).choose_spec.1⟩) j u (hpre j u hju hu)
    · obtain ⟨h1, h2⟩ := hold j u (hrest j u hju hu)
      refine ⟨?_, h2⟩
      rw [k3 _ (by omega)]
      exact h1
  · have hil : i < l.length := by
      have := (List.getElem?_eq_some_iff.1 hz).1
      rwa [List.length_set] at this
    rw [List.getElem?_set_ne (by omega)] at hz
    obtain ⟨h1, h2⟩ := hc i z hz j u hu
    refine ⟨?_, h2⟩
    rw [k3 _ ?_]
    · exact h1
    · rcases Nat.lt_or_ge i k with hlt | hge
      · have := Nat.mul_le_mul_right size (show i + 1 ≤ k by omega)
        rw [Nat.add_mul] at this
        omega
      · have := Nat.mul_le_mul_right size (show k + 1 ≤ i by omega)
        rw [Nat.add_mul] at this
        omega
theorem Sl.putN {α : Type} {size : Nat} {f : α → List Value} {w : World} {lo hi n b off : Nat} {l : List α} (h : Sl size f w lo hi (some ⟨b, off, none⟩) n l) {k : Nat} (hk : k < n) (hlen : ∀ x, (f x).length = size) (x : α) :
    Sl size f (putCells w b (off + k * size) (f x)) lo hi (some ⟨b, off, none⟩) n (l.set k x) :=
  h.putPre (x0 := l[k]'(by rw [h.len]; exact hk)) (List.getElem?_eq_getElem _) hlen x (f x) (by rw [hlen]; exact Nat.le_refl _) (fun _ _ _ h => h) (fun j u hj hu => by
    have := (List.getElem?_eq_some_iff.1 hu).1
    omega)

end Go.Proofs.YtcdhgabcajehnaaGreatDoor
