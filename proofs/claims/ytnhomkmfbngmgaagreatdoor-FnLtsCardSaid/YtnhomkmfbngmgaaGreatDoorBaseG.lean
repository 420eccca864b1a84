/-
  Lemmas that the law of this claim leans on. Conditions: sizes.
-/
import Derived.Test.YtnhomkmfbngmgaaGreatDoorBaseA
import Derived.Test.YtnhomkmfbngmgaaGreatDoorBaseB
import Derived.Test.YtnhomkmfbngmgaaGreatDoorBaseC
import Derived.Test.YtnhomkmfbngmgaaGreatDoorBaseD
import Derived.Test.YtnhomkmfbngmgaaGreatDoorBaseE
import Derived.Test.YtnhomkmfbngmgaaGreatDoorBaseF
import Derived.Lib.AppendZeros
import Derived.Deep.RegionLaw
import Derived.Deep.LoopGhost
set_option maxHeartbeats 6400000
set_option maxRecDepth 100000
set_option linter.unusedSimpArgs false
set_option linter.unusedVariables false
namespace Go.Proofs.YtnhomkmfbngmgaaGreatDoor
def firsts : List Int → List Int → List Int
 | L, [] => L
 | L, x :: l => firsts (if x ∈ L then L else L ++ [x]) l
theorem firsts_mem {L l : List Int} {x : Int} : x ∈ firsts L l ↔ x ∈ L ∨ x ∈ l := by
 induction l generalizing L with
 | nil => simp [firsts]
 | cons t l ih =>
  unfold firsts;rw [ih]
  split
  ·rename_i h
   constructor
   ·rintro (g | g)
    ·exact .inl g
    ·exact .inr (List.mem_cons_of_mem _ g)
   ·rintro (g | g)
    ·exact .inl g
    ·rcases List.mem_cons.1 g with rfl | g
     ·exact .inl h
     ·exact .inr g
  ·simp only [List.mem_append, List.mem_singleton, List.mem_cons, or_assoc, List.not_mem_nil, false_or]
def normF (l : List Int) : List Int := l.map fun x => ((firsts [] l).idxOf x : Int)
theorem normF_len (l : List Int) : (normF l).length = l.length := by simp [normF]
theorem normF_at {l : List Int} {i : Nat} {x : Int} (h : l[i]? = some x) : (normF l)[i]? = some ((firsts [] l).idxOf x : Int) := by
 unfold normF; rw [List.getElem?_map, h]; rfl
def sameB (l : List Int) (i j : Nat) : Prop := l[i]? = l[j]?
theorem normF_same {l : List Int} {i j : Nat} (hi : i < l.length) (hj : j < l.length) : sameB (normF l) i j ↔ sameB l i j := by
 unfold sameB;have h1 : l[i]? = some l[i] := List.getElem?_eq_getElem hi;have h2 : l[j]? = some l[j] := List.getElem?_eq_getElem hj;rw [normF_at h1, normF_at h2, h1, h2]
 constructor
 ·intro h
  injection h with h;have h : (firsts [] l).idxOf l[i] = (firsts [] l).idxOf l[j] := by omega
  have g1 := List.idxOf_lt_length_of_mem (firsts_mem.2 (.inr (List.getElem_mem hi)) : l[i] ∈ firsts [] l);have g2 := List.idxOf_lt_length_of_mem (firsts_mem.2 (.inr (List.getElem_mem hj)) : l[j] ∈ firsts [] l);have e1 := List.getElem_idxOf g1;have e2 := List.getElem_idxOf g2;rw [← e1, ← e2];simp only [h]
 ·intro h
  injection h with h;rw [h]
theorem firsts_map {f : Int → Int} {L l : List Int} (hf : ∀ x y, x ∈ L ++ l → y ∈ L ++ l → f x = f y → x = y) : firsts (L.map f) (l.map f) = (firsts L l).map f := by
 induction l generalizing L with
 | nil => rfl
 | cons x l ih =>
  rw [List.map_cons];unfold firsts
  by_cases h : x ∈ L
  ·rw [if_pos h, if_pos (List.mem_map_of_mem h)]
   exact ih fun a b ha hb => hf a b (by rw [List.mem_append, List.mem_cons]; rcases List.mem_append.1 ha with g | g; exact .inl g; exact .inr (.inr g)) (by rw [List.mem_append, List.mem_cons]; rcases List.mem_append.1 hb with g | g; exact .inl g; exact .inr (.inr g))
  ·rw [if_neg h, if_neg (fun hm => by
    obtain ⟨y, hy, e⟩ := List.mem_map.1 hm;have := hf y x (List.mem_append_left _ hy) (List.mem_append_right _ (List.mem_cons_self ..)) e;exact h (this ▸ hy))]
   rw [show L.map f ++ [f x] = (L ++ [x]).map f by simp];exact ih fun a b ha hb => hf a b (by simpa using ha) (by simpa using hb)
theorem idxOf_mapI {f : Int → Int} : ∀ {L : List Int} {x : Int}, (∀ y, y ∈ L → f y = f x → y = x) → (L.map f).idxOf (f x) = L.idxOf x
 | [], x, _ => rfl
 | a :: L, x, h => by
  rw [List.map_cons, List.idxOf_cons, List.idxOf_cons]
  by_cases e : a = x
  ·subst e; simp
  ·have : f a ≠ f x := fun g => e (h a (List.mem_cons_self ..) g)
   rw [beq_eq_false_iff_ne.2 e, beq_eq_false_iff_ne.2 this];simp only [cond_false];rw [idxOf_mapI fun y hy => h y (List.mem_cons_of_mem _ hy)]
theorem normF_map {f : Int → Int} {l : List Int} (hf : ∀ x y, x ∈ l → y ∈ l → f x = f y → x = y) : normF (l.map f) = normF l := by
 unfold normF;have h := firsts_map (f := f) (L := []) (l := l) (by simpa using hf);rw [List.map_nil] at h;rw [h, List.map_map]
 apply List.map_congr_left
 intro x hx
 show (((firsts [] l).map f).idxOf (f x) : Int) = _
 rw [idxOf_mapI fun y hy e => hf y x ((firsts_mem.1 hy).resolve_left (by simp)) hx e]
theorem normF_ext {l m : List Int} (hl : l.length = m.length) (h : ∀ i j, i < l.length → j < l.length → (sameB l i j ↔ sameB m i j)) : normF l = normF m := by
 have key : ∃ f : Int → Int, m = l.map f := by
  refine ⟨fun x => (m[l.idxOf x]?).getD 0, List.ext_getElem (by simp [hl]) fun i h1 h2 => ?_⟩;rw [List.getElem_map];have hi : i < l.length := by omega
  have hx : l.idxOf l[i] < l.length := List.idxOf_lt_length_of_mem (List.getElem_mem hi);have hs : sameB l (l.idxOf l[i]) i := by
   unfold sameB;rw [List.getElem?_eq_getElem hx, List.getElem?_eq_getElem hi];exact congrArg some (List.getElem_idxOf hx)
  have := (h _ _ hx hi).1 hs;unfold sameB at this;rw [this, List.getElem?_eq_getElem h1]
  rfl
 obtain ⟨f, rfl⟩ := key;refine (normF_map fun x y hx hy e => ?_).symm;obtain ⟨i, hi, rfl⟩ := List.getElem_of_mem hx;obtain ⟨j, hj, rfl⟩ := List.getElem_of_mem hy;have := (h i j hi hj).2 (by unfold sameB; rw [List.getElem?_map, List.getElem?_map, List.getElem?_eq_getElem hi, List.getElem?_eq_getElem hj]; exact congrArg some e);unfold sameB at this;rw [List.getElem?_eq_getElem hi, List.getElem?_eq_getElem hj] at this;injection this
theorem normF_norm (l : List Int) : normF (normF l) = normF l :=
 normF_ext (normF_len l) fun i j hi hj => normF_same (by rw [normF_len] at hi; exact hi) (by rw [normF_len] at hj; exact hj)
theorem firsts_nodup {L l : List Int} (h : L.Nodup) : (firsts L l).Nodup := by
 induction l generalizing L with
 | nil => exact h
 | cons x l ih =>
  unfold firsts;refine ih ?_
  split
  ·exact h
  ·rename_i hn
   refine List.nodup_append.2 ⟨h, by simp, ?_⟩;intro a ha b hb e;rw [List.mem_singleton] at hb;subst hb; subst e;exact hn ha
section
variable {p : List Int} {i : Nat} {x : Int}
end
open Go.Sort
section
variable {α : Type} [BEq α]
def nkL (keys : List α) : List Int := keys.map fun k => (keys.idxOf k : Int)
def nkF (keys : List α) : List Int := normF (nkL keys)
theorem nkF_len (keys : List α) : (nkF keys).length = keys.length := by unfold nkF nkL; rw [normF_len, List.length_map]
theorem nkF_norm (keys : List α) : normF (nkF keys) = nkF keys := normF_norm _
theorem nk_same [LawfulBEq α] {keys : List α} {i j : Nat} (hi : i < keys.length) (hj : j < keys.length) : sameB (nkF keys) i j ↔ keys[i]? = keys[j]? := by
 have hl : (nkL keys).length = keys.length := by simp [nkL]
 rw [nkF, normF_same (by omega) (by omega)];unfold sameB nkL;rw [List.getElem?_map, List.getElem?_map, List.getElem?_eq_getElem hi, List.getElem?_eq_getElem hj];simp only [Option.map_some, Option.some.injEq]
 constructor
 ·intro h
  have h : keys.idxOf keys[i] = keys.idxOf keys[j] := by omega
  have g1 := List.idxOf_lt_length_of_mem (List.getElem_mem hi);have g2 := List.idxOf_lt_length_of_mem (List.getElem_mem hj);have e1 := List.getElem_idxOf g1;have e2 := List.getElem_idxOf g2;rw [← e1, ← e2];simp only [h]
 ·intro h; rw [h]
end
theorem asc_ext : ∀ {l m : List Int}, l.Pairwise (· < ·) → m.Pairwise (· < ·) → (∀ x, x ∈ l ↔ x ∈ m) → l = m
 | [], [], _, _, _ => rfl
 | [], y :: m, _, _, h => absurd ((h y).2 (List.mem_cons_self ..)) List.not_mem_nil
 | x :: l, [], _, _, h => absurd ((h x).1 (List.mem_cons_self ..)) List.not_mem_nil
 | x :: l, y :: m, hl, hm, h => by
  have h1 := List.pairwise_cons.1 hl;have h2 := List.pairwise_cons.1 hm;have e : x = y := by
   rcases List.mem_cons.1 ((h x).1 (List.mem_cons_self ..)) with e | e
   ·exact e
   ·rcases List.mem_cons.1 ((h y).2 (List.mem_cons_self ..)) with g | g
    ·exact g.symm
    ·have := h1.1 y g; have := h2.1 x e; omega
  subst e;rw [asc_ext h1.2 h2.2 fun z => ?_]
  constructor
  ·intro hz
   rcases List.mem_cons.1 ((h z).1 (List.mem_cons_of_mem _ hz)) with e | e
   ·subst e; exact absurd (h1.1 z hz) (by omega)
   ·exact e
  ·intro hz
   rcases List.mem_cons.1 ((h z).2 (List.mem_cons_of_mem _ hz)) with e | e
   ·subst e; exact absurd (h2.1 z hz) (by omega)
   ·exact e
theorem set_ext {l m : List Int} : Lib.compact (sortI l) = Lib.compact (sortI m) ↔ ∀ x, x ∈ l ↔ x ∈ m := by
 constructor
 ·intro h x; rw [← set_mem (l := l), h, set_mem]
 ·intro h; exact asc_ext (set_asc l) (set_asc m) fun x => by rw [set_mem, set_mem]; exact h x
def cdE (N : Nat) (p : List Int) (e : Ed) : Int := e.2.1 * (N : Int) + (p[e.2.2.toNat]?).getD 0
def cdL (es : List Ed) (N : Nat) (p : List Int) (k : Nat) : List Int := (es.filter fun e => decide (e.1 = (k : Int))).map (cdE N p)
def keyR (es : List Ed) (N : Nat) (p : List Int) (k : Nat) : List Int := (p[k]?).getD 0 :: Lib.compact (sortI (cdL es N p k))
def keysR (es : List Ed) (N : Nat) (p : List Int) : List (List Int) := (List.range N).map (keyR es N p)
def refF (es : List Ed) (N : Nat) (p : List Int) : List Int := nkF (keysR es N p)
def canS (es : List Ed) (p : List Int) (k : Nat) (l b : Int) : Prop := ∃ e, e ∈ es ∧ e.1 = (k : Int) ∧ e.2.1 = l ∧ p[e.2.2.toNat]? = some b
def EdIn (N : Nat) (es : List Ed) : Prop := ∀ e, e ∈ es → (0 ≤ e.1 ∧ e.1 < (N : Int)) ∧ 0 ≤ e.2.1 ∧ 0 ≤ e.2.2 ∧ e.2.2 < (N : Int)
structure PartN (N : Nat) (p : List Int) : Prop where
 len : p.length = N
 norm : normF p = p
section
variable {es : List Ed} {N : Nat} {p q : List Int}
theorem firsts_len_le (L l : List Int) : (firsts L l).length ≤ L.length + l.length := by
 induction l generalizing L with
 | nil => exact zR
 | cons x l ih =>
  unfold firsts;refine Nat.le_trans (ih _) ?_;rw [List.length_cons]
  split
  ·omega
  ·rw [List.length_append, List.length_singleton]; omega
theorem PartN.range (h : PartN N p) : ∀ x, x ∈ p → 0 ≤ x ∧ x < (N : Int) := fun x hx => by
 rw [← h.norm] at hx;unfold normF at hx;obtain ⟨y, hy, rfl⟩ := List.mem_map.1 hx;have h1 := List.idxOf_lt_length_of_mem (firsts_mem.2 (.inr hy) : y ∈ firsts [] p);have h2 := firsts_len_le [] p;rw [h.len] at h2;simp only [List.length_nil] at h2;omega
theorem refF_part (es : List Ed) (N : Nat) (p : List Int) : PartN N (refF es N p) := ⟨by unfold refF; rw [nkF_len]; simp [keysR], nkF_norm _⟩
theorem cd_inj {a b c d : Int} (hN : 0 ≤ b ∧ b < (N : Int)) (hM : 0 ≤ d ∧ d < (N : Int)) (h : a * (N : Int) + b = c * (N : Int) + d) : a = c ∧ b = d := by
 have h1 : (a * (N : Int) + b) / (N : Int) = a := by rw [Int.add_comm, Int.add_mul_ediv_right _ _ (by omega), Int.ediv_eq_zero_of_lt hN.1 hN.2]; omega
 have h2 : (c * (N : Int) + d) / (N : Int) = c := by rw [Int.add_comm, Int.add_mul_ediv_right _ _ (by omega), Int.ediv_eq_zero_of_lt hM.1 hM.2]; omega
 have e : a = c := by rw [← h1, ← h2, h]
 subst e;exact ⟨rfl, by omega⟩
theorem to_get (he : EdIn N es) (hp : p.length = N) {e : Ed} (h : e ∈ es) : ∃ b, p[e.2.2.toNat]? = some b := by
 have := he e h;exact ⟨_, List.getElem?_eq_getElem (by omega)⟩
theorem cdL_mem (he : EdIn N es) (hp : p.length = N) {k : Nat} {c : Int} : c ∈ cdL es N p k ↔ ∃ l b, canS es p k l b ∧ c = l * (N : Int) + b := by
 unfold cdL;rw [List.mem_map]
 constructor
 ·rintro ⟨e, h1, rfl⟩
  obtain ⟨h1, h2⟩ := List.mem_filter.1 h1;obtain ⟨b, hb⟩ := to_get he hp h1;exact ⟨e.2.1, b, ⟨e, h1, of_decide_eq_true h2, rfl, hb⟩, by unfold cdE; rw [hb]; rfl⟩
 ·rintro ⟨l, b, ⟨e, h1, h2, rfl, hb⟩, rfl⟩
  exact ⟨e, List.mem_filter.2 ⟨h1, decide_eq_true h2⟩, by unfold cdE; rw [hb]; rfl⟩
theorem ref_same (he : EdIn N es) (hp : p.length = N) (hr : ∀ x, x ∈ p → 0 ≤ x ∧ x < (N : Int)) {i j : Nat} (hi : i < N) (hj : j < N) : sameB (refF es N p) i j ↔ sameB p i j ∧ ∀ l b, canS es p i l b ↔ canS es p j l b := by
 have hk : (keysR es N p).length = N := by simp [keysR]
 unfold refF;rw [nk_same (by omega) (by omega)];unfold keysR;rw [List.getElem?_map, List.getElem?_map, List.getElem?_range hi, List.getElem?_range hj];simp only [Option.map_some, Option.some.injEq];unfold keyR;rw [List.cons.injEq, set_ext];have e1 : (p[i]?).getD 0 = (p[j]?).getD 0 ↔ sameB p i j := by
  unfold sameB;rw [List.getElem?_eq_getElem (by omega), List.getElem?_eq_getElem (by omega)]
  simp
 have hin : ∀ {k : Nat} {l b : Int}, canS es p k l b → 0 ≤ b ∧ b < (N : Int) := fun ⟨e, _, _, _, hb⟩ => hr _ (List.mem_of_getElem? hb)
 rw [e1];refine and_congr_right fun _ => ?_
 constructor
 ·intro h l b
  have := h (l * (N : Int) + b);rw [cdL_mem he hp, cdL_mem he hp] at this
  constructor
  ·intro g
   obtain ⟨l2, b2, g2, e⟩ := this.1 ⟨l, b, g, rfl⟩;obtain ⟨rfl, rfl⟩ := cd_inj (hin g) (hin g2) e;exact g2
  ·intro g
   obtain ⟨l2, b2, g2, e⟩ := this.2 ⟨l, b, g, rfl⟩;obtain ⟨rfl, rfl⟩ := cd_inj (hin g) (hin g2) e;exact g2
 ·intro h c
  rw [cdL_mem he hp, cdL_mem he hp]
  constructor
  ·rintro ⟨l, b, g, e⟩; exact ⟨l, b, (h l b).1 g, e⟩
  ·rintro ⟨l, b, g, e⟩; exact ⟨l, b, (h l b).2 g, e⟩
theorem part_ext (h : PartN N p) (g : PartN N q) (hs : ∀ i j, i < N → j < N → (sameB p i j ↔ sameB q i j)) : p = q := by
 rw [← h.norm, ← g.norm];exact normF_ext (by rw [h.len, g.len]) fun i j hi hj => hs i j (by rw [h.len] at hi; exact hi) (by rw [h.len] at hj; exact hj)
end
def zeroP (N : Nat) : List Int := List.replicate N 0
def rndP (es : List Ed) (N : Nat) : Nat → List Int
 | 0 => zeroP N
 | n + 1 => refF es N (rndP es N n)
theorem zeroP_part (N : Nat) : PartN N (zeroP N) := by
 refine ⟨by simp [zeroP], ?_⟩;unfold normF zeroP;rw [List.map_replicate]
 congr 1
 cases N with
 | zero => rfl
 | succ n =>
  have : (0 : Int) ∈ firsts [] (List.replicate (n + 1) (0 : Int)) := firsts_mem.2 (.inr (by simp));have h0 : firsts [] (List.replicate (n + 1) (0 : Int)) = [0] := by
   show firsts (if (0 : Int) ∈ ([] : List Int) then [] else [] ++ [0]) (List.replicate n 0) = [0]
   rw [if_neg (by simp)]
   show firsts [0] (List.replicate n 0) = [0]
   induction n with
   | zero => rfl
   | succ n ih =>
    show firsts (if (0 : Int) ∈ ([0] : List Int) then [0] else [0] ++ [0]) (List.replicate n 0) = [0]
    rw [if_pos (by simp)];exact ih (firsts_mem.2 (.inr (by simp)))
  rw [h0]; rfl
section
variable {es : List Ed} {N : Nat}
theorem rnd_part (n : Nat) : PartN N (rndP es N n) := by
 cases n with
 | zero => exact zeroP_part N
 | succ n => exact refF_part _ _ _
theorem rnd_same (he : EdIn N es) {n i j : Nat} (hi : i < N) (hj : j < N) : sameB (rndP es N (n + 1)) i j ↔ sameB (rndP es N n) i j ∧ ∀ l b, canS es (rndP es N n) i l b ↔ canS es (rndP es N n) j l b :=
 ref_same he (rnd_part n).len (rnd_part n).range hi hj
theorem rnd_zero {i j : Nat} (hi : i < N) (hj : j < N) : sameB (rndP es N 0) i j := by
 unfold sameB rndP zeroP;rw [List.getElem?_replicate, List.getElem?_replicate, if_pos hi, if_pos hj]
def numB (p : List Int) : Nat := (firsts [] p).length
theorem numB_le (p : List Int) : numB p ≤ p.length := by have := firsts_len_le [] p; simp only [List.length_nil] at this; unfold numB; omega
theorem firsts_nd (p : List Int) : (firsts [] p).Nodup := firsts_nodup List.nodup_nil
theorem sub_erase {L M : List Int} {x : Int} (hn : (x :: L).Nodup) (h : ∀ y, y ∈ x :: L → y ∈ M) : ∀ y, y ∈ L → y ∈ M.erase x := fun y hy => by
 have hne : y ≠ x := fun e => (List.nodup_cons.1 hn).1 (e ▸ hy)
 exact (List.mem_erase_of_ne hne).2 (h y (List.mem_cons_of_mem _ hy))
theorem sub_len : ∀ {L M : List Int}, L.Nodup → (∀ y, y ∈ L → y ∈ M) → L.length ≤ M.length
 | [], M, _, _ => Nat.zero_le _
 | x :: L, M, hn, h => by
  have h1 := sub_len (List.nodup_cons.1 hn).2 (sub_erase hn h);have hx := h x (List.mem_cons_self ..);rw [List.length_erase_of_mem hx] at h1;have := List.length_pos_of_mem hx;rw [List.length_cons]; omega
theorem sub_perm : ∀ {L M : List Int}, L.Nodup → (∀ y, y ∈ L → y ∈ M) → M.length ≤ L.length → L.Perm M
 | [], M, _, _, hl => by rw [List.length_eq_zero_iff.1 (Nat.le_zero.1 hl)]
 | x :: L, M, hn, h, hl => by
  have hx := h x (List.mem_cons_self ..);have := sub_perm (List.nodup_cons.1 hn).2 (sub_erase hn h) (by rw [List.length_erase_of_mem hx]; rw [List.length_cons] at hl; omega);exact (this.cons x).trans (List.perm_cons_erase hx).symm
theorem numB_fine {p q : List Int} (hl : p.length = q.length) (hf : ∀ i j, i < p.length → j < p.length → sameB q i j → sameB p i j) : numB p ≤ numB q ∧ (numB p = numB q → ∀ i j, i < p.length → j < p.length → sameB p i j → sameB q i j) := by
 -- each block of q lies in one of p: the map from q's numbers to p's is onto
 let f : Int → Int := fun x => (p[q.idxOf x]?).getD 0
 have hfx : ∀ i, i < p.length → ∀ x, q[i]? = some x → p[i]? = some (f x) := by
  intro i hi x hx;have hxi := List.getElem?_eq_some_iff.1 hx;have hm : x ∈ q := List.mem_of_getElem? hx;have hlt := List.idxOf_lt_length_of_mem hm;have hs : sameB q (q.idxOf x) i := by
   unfold sameB;rw [hx, List.getElem?_eq_getElem hlt];exact congrArg some (List.getElem_idxOf hlt)
  have := hf _ _ (by omega) hi hs;unfold sameB at this
  show p[i]? = some ((p[q.idxOf x]?).getD 0)
  rw [← this, List.getElem?_eq_getElem (show q.idxOf x < p.length by omega)]
  rfl
 have hsub : ∀ y, y ∈ firsts [] p → y ∈ (firsts [] q).map f := by
  intro y hy;have hy := (firsts_mem.1 hy).resolve_left List.not_mem_nil;obtain ⟨i, hi, rfl⟩ := List.getElem_of_mem hy;have hq : q[i]? = some (q[i]'(by omega)) := List.getElem?_eq_getElem (by omega);have := hfx i hi _ hq;rw [List.getElem?_eq_getElem hi] at this;injection this with this;rw [this];exact List.mem_map_of_mem (firsts_mem.2 (.inr (List.mem_of_getElem? hq)))
 have hle : (firsts [] p).length ≤ ((firsts [] q).map f).length := sub_len (firsts_nd p) hsub;rw [List.length_map] at hle;refine ⟨hle, fun he i j hi hj hs => ?_⟩;have hperm : (firsts [] p).Perm ((firsts [] q).map f) := sub_perm (firsts_nd p) hsub (by rw [List.length_map]; exact Nat.le_of_eq he.symm);have hnd : ((firsts [] q).map f).Nodup := hperm.nodup_iff.1 (firsts_nd p);have h1 : q[i]? = some (q[i]'(by omega)) := List.getElem?_eq_getElem (by omega);have h2 : q[j]? = some (q[j]'(by omega)) := List.getElem?_eq_getElem (by omega);have e1 := hfx i hi _ h1;have e2 := hfx j hj _ h2;unfold sameB at hs;rw [e1, e2] at hs;injection hs with hs;have m1 : (q[i]'(by omega)) ∈ firsts [] q := firsts_mem.2 (.inr (List.mem_of_getElem? h1));have m2 : (q[j]'(by omega)) ∈ firsts [] q := firsts_mem.2 (.inr (List.mem_of_getElem? h2));unfold sameB;rw [h1, h2]
 congr 1
 obtain ⟨a, ha, ea⟩ := List.getElem_of_mem m1;obtain ⟨b, hb, eb⟩ := List.getElem_of_mem m2;have hab := (List.getElem_inj (h₀ := show a < ((firsts [] q).map f).length by rw [List.length_map]; exact ha) (h₁ := show b < ((firsts [] q).map f).length by rw [List.length_map]; exact hb) hnd).1 (by rw [List.getElem_map, List.getElem_map, ea, eb]; exact hs);subst hab;rw [← ea, ← eb]
theorem numB_ref (he : EdIn N es) {n : Nat} (hne : rndP es N (n + 1) ≠ rndP es N n) : numB (rndP es N n) < numB (rndP es N (n + 1)) := by
 have hl : (rndP es N n).length = (rndP es N (n + 1)).length := by rw [(rnd_part n).len, (rnd_part (n + 1)).len]
 obtain ⟨h1, h2⟩ := numB_fine hl fun i j hi hj h => ((rnd_same he (by rw [(rnd_part n).len] at hi; exact hi) (by rw [(rnd_part n).len] at hj; exact hj)).1 h).1
 by_cases e : numB (rndP es N n) = numB (rndP es N (n + 1))
 ·refine absurd (part_ext (rnd_part (n + 1)) (rnd_part n) fun i j hi hj => ⟨fun h => ((rnd_same he hi hj).1 h).1, fun h => h2 e i j (by rw [(rnd_part n).len]; exact hi) (by rw [(rnd_part n).len]; exact hj) h⟩) hne
 ·omega
theorem rnd_many (he : EdIn N es) (hN : 1 ≤ N) {n : Nat} (h : ∀ m, m < n → rndP es N (m + 1) ≠ rndP es N m) : n + 1 ≤ numB (rndP es N n) := by
 induction n with
 | zero =>
  have hm : (0 : Int) ∈ firsts [] (rndP es N 0) := firsts_mem.2 (.inr (by unfold rndP zeroP; exact List.mem_replicate.2 ⟨by omega, rfl⟩));have := List.length_pos_of_mem hm;unfold numB; omega
 | succ n ih =>
  have h1 := ih fun m hm => h m (by omega)
  have h2 := numB_ref he (h n (by omega));omega
theorem rnd_bound (he : EdIn N es) (hN : 1 ≤ N) {n : Nat} (h : ∀ m, m < n → rndP es N (m + 1) ≠ rndP es N m) : n + 1 ≤ N := by
 have h1 := rnd_many he hN h;have h2 := numB_le (rndP es N n);rw [(rnd_part n).len] at h2;omega
def LastR (es : List Ed) (N r : Nat) : Prop := rndP es N (r + 1) = rndP es N r ∧ ∀ m, m < r → rndP es N (m + 1) ≠ rndP es N m
end
end Go.Proofs.YtnhomkmfbngmgaaGreatDoor
namespace Go.Proofs.YtnhomkmfbngmgaaGreatDoor
open Go.ChangeShapes Go.WideShapes Go.ChangeAt Go.RowKit
theorem mem_sum : ∀ {l : List Nat} {x : Nat}, x ∈ l → x ≤ l.sum
 | a :: l, x, h => by
  rw [List.sum_cons]
  rcases List.mem_cons.1 h with e | e
  ·omega
  ·have := mem_sum e; omega
structure SysA (w : World) (N ini : Nat) (A : Option Addr) (n : Nat) (B : Option Addr) (m : Nat) (ls : List ByteArray) (es : List Ed) : Prop where
 ss : SlS w 0 w.heap.size A n ls
 se : SlE w 0 w.heap.size B m es
 ok : ltsV ((N : Int), (ini : Int), ls, es) = true
 sz : totS ls ≤ 100000
theorem Sl.here' {α : Type} {size : Nat} {f : α → List Value} {w : World} {lo hi n : Nat} {A : Option Addr} {l : List α} (h : Sl size f w lo hi A n l) : Sl size f w 0 w.heap.size A n l :=
 ⟨h.1, fun hn => by
  obtain ⟨b, off, e, g1, g2, g3, hc⟩ := h.2 hn;exact ⟨b, off, e, Nat.zero_le _, g3, g3, hc⟩⟩
section
variable {w w' : World} {N ini : Nat} {A : Option Addr} {n c : Nat} {B : Option Addr} {m d : Nat} {ls : List ByteArray} {es : List Ed}
theorem SysA.below {K : Nat} (h : SysA w N ini A n B m ls es) (hb : Below K w w') (hK : w.heap.size ≤ K) : SysA w' N ini A n B m ls es :=
 ⟨(h.ss.below hb (.inr hK)).here', (h.se.below hb (.inr hK)).here', h.ok, h.sz⟩
theorem SysA.edges (h : SysA w N ini A n B m ls es) : EdIn N es := fun e he => by
 have := (ltsV_edge h.ok).1 e he;exact ⟨this.1, this.2.1.1, this.2.2⟩
theorem SysA.labs (h : SysA w N ini A n B m ls es) : ∀ e, e ∈ es → 0 ≤ e.2.1 ∧ e.2.1 < (ls.length : Int) := fun e he => ((ltsV_edge h.ok).1 e he).2.1
theorem SysA.ends (h : SysA w N ini A n B m ls es) : ∀ e ∈ es, (0 ≤ e.1 ∧ e.1 < (N : Int)) ∧ (0 ≤ e.2.2 ∧ e.2.2 < (N : Int)) := fun e he => by
 have := (ltsV_edge h.ok).1 e he;exact ⟨this.1, this.2.2⟩
theorem SysA.bounds (h : SysA w N ini A n B m ls es) : (1 ≤ N ∧ N ≤ 40) ∧ ini < N := by
 have := (ltsV_edge h.ok).2;omega
theorem SysA.many (h : SysA w N ini A n B m ls es) : m ≤ 300 ∧ n ≤ 12 ∧ 1 ≤ n ∧ es.length = m ∧ ls.length = n := by
 have h1 := h.ok;rw [ltsV_eq] at h1;simp only [Bool.and_eq_true, decide_eq_true_eq] at h1;obtain ⟨⟨-, -, h3, h4⟩, -⟩ := h1;unfold namesB at h3;rw [Bool.and_eq_true] at h3;have h5 := inB_true.1 h3.1;have := h.ss.len;have := h.se.len;omega
theorem SysA.read (h : SysA w N ini A n B m ls es) (c d : Nat) : ReadL w 0 w.heap.size ((N : Int), (ini : Int), .slice A n c, .slice B m d) ((N : Int), (ini : Int), ls, es) ∧ totL ((N : Int), (ini : Int), ls, es) ≤ 1048576 := by
 have hm := h.many;have hz := h.sz;have hml : 100000 ≤ maxLen := by unfold maxLen; omega
 refine ⟨⟨rfl, rfl, ⟨A, n, c, rfl, by omega, ?_, h.ss⟩, ⟨B, m, d, rfl, by omega, h.se⟩⟩, ?_⟩
 ·intro s hs
  have hs : s ∈ ls := hs;have h1 : s.size ≤ (ls.map (·.size)).sum := mem_sum (List.mem_map_of_mem hs);unfold totS at hz;omega
 ·unfold totL
  show totS ls + es.length ≤ 1048576
  omega
theorem SysA.valid (h : SysA w N ini A n B m ls es) (c d : Nat) (he : Env w) :
  Calls Tryz.prog 54 #[.agg #[.int .i64 (N : Int), .int .i64 (ini : Int), .slice A n c, .slice B m d]] w fun e w' => e = .returned (.bool true) ∧ Below w.heap.size w w' := by
 have q := validLts_calls ((N : Int), (ini : Int), .slice A n c, .slice B m d) ((N : Int), (ini : Int), ls, es) w 0 w.heap.size (h.read c d).1 (h.read c d).2 he;rw [h.ok] at q;exact q
end
theorem DrawnG.sys {K M Q b N : Nat} {w w' : World} {e : Ending} (h : DrawnG K M Q b N w e w') (hK : K ≤ 12) : ∃ (st ini : Nat) (A : Option Addr) (n c : Nat) (B : Option Addr) (m d : Nat) (ls : List ByteArray) (es : List Ed),
  e = .returned (.agg #[.int .i64 (st : Int), .int .i64 (ini : Int), .slice A n c, .slice B m d]) ∧ SysA w' st ini A n B m ls es ∧ st ≤ 7 ∧ es.length ≤ M ∧ n ≤ K ∧ NamD ls ∧ SrcW w' b (N + Q) ∧ Only b (b + 1) w w' ∧ SlS w' w.heap.size w'.heap.size A n ls ∧ SlE w' w.heap.size w'.heap.size B m es := by
 obtain ⟨st, ini, A, n, c, B, m, d, ts, es, rfl, hA, hB, hv, h7, hM, hn, hD, hS, hO⟩ := h;have hnam : NamD (joiF ts) := fun x hx => ((joi_mem_iff ts x).1 hx).elim .inl (hD x)
 refine ⟨st, ini, A, n, c, B, m, d, joiF ts, es, rfl, ⟨hA.here', hB.here', hv, ?_⟩, h7, hM, hn, hnam, hS, hO, hA, hB⟩;have hl := hA.len;have key : ∀ l : List ByteArray, NamD l → (l.map (·.size)).sum ≤ 6 * l.length := by
  intro l
  induction l with
  | nil => intro _; simp
  | cons x l ih =>
   intro hx;have h1 := ih fun y hy => hx y (List.mem_cons_of_mem _ hy)
   have h2 : x.size ≤ 6 := by
    rcases hx x (List.mem_cons_self ..) with e | e
    ·rw [e]; decide
    ·unfold nm5 at e
     simp only [List.mem_cons, List.mem_nil_iff, or_false] at e
     rcases e with rfl | rfl | rfl | rfl | rfl <;> decide
   simp only [List.map_cons, List.sum_cons, List.length_cons];omega
 have := key _ hnam;unfold totS;omega
abbrev ltsC (N ini : Nat) (A : Option Addr) (n c : Nat) (B : Option Addr) (m d : Nat) : Obj := .cells #[.int .i64 (N : Int), .int .i64 (ini : Int), .slice A n c, .slice B m d] 27
structure BoxA (w w1 : World) (N ini : Nat) (A : Option Addr) (n c : Nat) (B : Option Addr) (m d : Nat) (ls : List ByteArray) (es : List Ed) : Prop where
 box : LtsBox w1 w.heap.size (N : Int) (ini : Int) A n c B m d
 sys : SysA w1 N ini A n B m ls es
 bel : Below w.heap.size w w1
theorem SysA.box {w : World} {N ini : Nat} {A : Option Addr} {n c : Nat} {B : Option Addr} {m d : Nat} {ls : List ByteArray} {es : List Ed} (h : SysA w N ini A n B m ls es) : BoxA w (w.alloc (ltsC N ini A n c B m d)) N ini A n c B m d ls es := by
 have hb := (Below.refl w.heap.size w).alloc zR (ltsC N ini A n c B m d);exact ⟨heap_alloc_new w _, h.below hb zR, hb⟩
section
variable {w w1 w2 : World} {N ini : Nat} {A : Option Addr} {n c : Nat} {B : Option Addr} {m d : Nat} {ls : List ByteArray} {es : List Ed}
theorem BoxA.below (h : BoxA w w1 N ini A n c B m d ls es) (hb : Below w1.heap.size w1 w2) : BoxA w w2 N ini A n c B m d ls es :=
 ⟨h.box.below hb h.box.lt, h.sys.below hb zR, h.bel.trans (hb.mono h.bel.size)⟩
theorem BoxA.lt (h : BoxA w w1 N ini A n c B m d ls es) : w.heap.size < w1.heap.size := h.box.lt
end
section
variable {w : World} {N ini : Nat} {A : Option Addr} {n : Nat} {B : Option Addr} {m : Nat} {ls : List ByteArray} {es : List Ed}
end
theorem grown_cell8 {w w' : World} {row : Option Nat} {q i : Nat} {v : Value} (h : w.grownBy w' row) (hq : q < w.heap.size) (hne : some q ≠ row) (hc : w.cell? ⟨q, i, none⟩ = some v) : w'.cell? ⟨q, i, none⟩ = some v :=
 (World.cell?_of_block (w := w) (by simpa using h.block q hq hne)).trans hc
section
variable {w : World} {N ini : Nat} {A : Option Addr} {n : Nat} {B : Option Addr} {m : Nat} {ls : List ByteArray} {es : List Ed}
end
open Go.Lib Go.Sort
def idxZ (l : List ByteArray) (v : ByteArray) : Int := if l.any (fun x => decide (x = v)) then ((l.findIdx fun x => decide (x = v) : Nat) : Int) else -1
theorem idxZ_hit {l : List ByteArray} {v : ByteArray} {k : Nat} (hx : l[k]? = some v) (ha : (l.take k).any (fun x => decide (x = v)) = false) : idxZ l v = (k : Int) := by
 obtain ⟨hk, e⟩ := List.getElem?_eq_some_iff.1 hx;have h1 : l.any (fun x => decide (x = v)) = true := any_hit (G := fun x => decide (x = v)) hx (decide_eq_true rfl);unfold idxZ;rw [if_pos h1]
 congr 1
 rw [List.findIdx_eq hk];refine ⟨by rw [e]; exact decide_eq_true rfl, fun j hj => ?_⟩;rw [List.any_eq_false] at ha;have := ha (l[j]'(by omega)) (List.mem_of_getElem? (show (l.take k)[j]? = some l[j] by rw [List.getElem?_take, if_pos hj, List.getElem?_eq_getElem (by omega)]))
 simpa using this
theorem idxZ_none {l : List ByteArray} {v : ByteArray} (ha : l.any (fun x => decide (x = v)) = false) : idxZ l v = -1 := by
 unfold idxZ;rw [ha]
 rfl
theorem idxZ_get {l : List ByteArray} {v : ByteArray} (h : v ∈ l) : ∃ k : Nat, idxZ l v = (k : Int) ∧ l[k]? = some v := by
 have h1 : l.any (fun x => decide (x = v)) = true := List.any_eq_true.2 ⟨v, h, decide_eq_true rfl⟩;unfold idxZ;rw [if_pos h1];have h2 : l.findIdx (fun x => decide (x = v)) < l.length := List.findIdx_lt_length.2 ⟨v, h, decide_eq_true rfl⟩;refine ⟨_, rfl, ?_⟩;rw [List.getElem?_eq_getElem h2];have h3 := List.findIdx_getElem (p := fun x => decide (x = v)) (xs := l) (w := h2);exact congrArg some (of_decide_eq_true h3)
theorem indexZ_calls (v : ByteArray) (A : Option Addr) (n c : Nat) (l : List ByteArray) (w : World) (lo hi : Nat) (h : SlS w lo hi A n l) (hn : n ≤ 1048576) :
  Calls Tryz.prog 185 #[.slice A n c, .string v] w fun e w' => e = .returned (.int .i64 (idxZ l v)) ∧ w' = w := by
 have hlen := hide h.len;go_enter Tryz.func185, Tryz.ntmps185
 go_wp2
 go_loop [8] (fun i => ∃ k : Nat, k ≤ n ∧ i = .int .i64 k ∧ Hid ((l.take k).any (fun x => decide (x = v)) = false)) (fun i => n - (intOf i).toNat)
 case atStart => exact ⟨0, Nat.zero_le _, rfl, rfl⟩
 case round =>
  obtain ⟨k, hk, rfl, ha⟩ := hrel
  by_cases hlt : k < n
  ·obtain ⟨b, off, x, rfl, g1, g2, g3, hx, c0, -⟩ := SlS.get h hlt
   clear h
   by_cases hq : x = v
   ·subst hq
    have hy := hide (idxZ_hit hx ha.out);have hself : (x.toList == x.toList) = true := beq_self_eq_true _;clear hx
    go_wp2
    go_ret;exact ⟨ret_i (by rw [hy.out]), rfl⟩
   ·have hy := hide (any_take_succ ha.out hx (decide_eq_false hq))
    have hne := str_neq hq;have hne2 : ¬ x.toList = v.toList := fun e => by rw [e, beq_self_eq_true] at hne; cases hne
    obtain ⟨hne3, hne4⟩ := str_list_ne3 hq;clear hx hq
    go_wp2
    go_round
    case rel => exact ⟨k + 1, by omega, by go_num, hy⟩
    case measure => simp [intOf]; omega
  ·have hkn : k = n := by omega
   subst hkn;clear h
   go_wp2
   go_ret;have hy := ha.out
   rw [List.take_of_length_le (by rw [hlen.out]; exact zR)] at hy;exact ⟨ret_i (by rw [idxZ_none hy]), rfl⟩
abbrev Arc := Int × ByteArray × Int
def av (a : Arc) : List Value := [.int .i64 a.1, .string a.2.1, .int .i64 a.2.2]
theorem flat_av : Go.Proofs.YtnhomkmfbngmgaaGreatDoor.Flat av 3 := ⟨fun _ => rfl, fun x u h => by simp [av] at h; rcases h with rfl | rfl | rfl <;> rfl⟩
abbrev SlA := Sl 3 av
theorem SlA.get {w : World} {lo hi n : Nat} {A : Option Addr} {l : List Arc} (h : SlA w lo hi A n l) {k : Nat} (hk : k < n) :
  ∃ b off x y z, A = some ⟨b, off, none⟩ ∧ lo ≤ b ∧ b < hi ∧ b < w.heap.size ∧ l[k]? = some (x, y, z) ∧ w.cell? ⟨b, off + k * 3, none⟩ = some (.int .i64 x) ∧ w.cell? ⟨b, off + k * 3 + 1, none⟩ = some (.string y) ∧ w.cell? ⟨b, off + k * 3 + 2, none⟩ = some (.int .i64 z) := by
 obtain ⟨b, off, e, g1, g2, g3, hc⟩ := h.at_ (by omega);have hl : k < l.length := by rw [h.len]; exact hk
 have h0 := hc k l[k] (List.getElem?_eq_getElem hl) 0 _ rfl;have h1 := hc k l[k] (List.getElem?_eq_getElem hl) 1 _ rfl;have h2 := hc k l[k] (List.getElem?_eq_getElem hl) 2 _ rfl;rw [← Nat.add_assoc] at h1 h2;exact ⟨b, off, l[k].1, l[k].2.1, l[k].2.2, e, g1, g2, g3, List.getElem?_eq_getElem hl, h0.1, h1.1, h2.1⟩
theorem info_arc : (Tryz.prog.info? 204).map (fun i => (i.zero, i.size, i.bytes)) = some (some (.agg #[.int .i64 0, .string ByteArray.empty, .int .i64 0]), 3, 32) := by kernel_rfl
theorem elem_arc : Elem Tryz.prog 155 204 3 32 := Elem.of Tryz.underlying155 info_arc rfl (by decide) (by decide)
def arcD (L : List ByteArray) (a : Arc) : Ed := (a.1, idxZ L a.2.1, a.2.2)
def ltsEs (ls : List ByteArray) (rs : List Arc) : List Ed := Lib.compact (sortE (rs.map (arcD (joiF ls))))
theorem LtsBox.set2 {w : World} {g : Nat} {st ini : Int} {A B A' : Option Addr} {n c m d n' c' : Nat} (h : LtsBox w g st ini A n c B m d) : LtsBox (w.setCell ⟨g, 2, none⟩ (.slice A' n' c')) g st ini A' n' c' B m d := heap_setCell_same w g 2 _ _ _ h
theorem LtsBox.set3 {w : World} {g : Nat} {st ini : Int} {A B B' : Option Addr} {n c m d m' d' : Nat} (h : LtsBox w g st ini A n c B m d) : LtsBox (w.setCell ⟨g, 3, none⟩ (.slice B' m' d')) g st ini A n c B' m' d' := heap_setCell_same w g 3 _ _ _ h
theorem LtsBox.grown {w w' : World} {row : Option Nat} {g : Nat} {st ini : Int} {A B : Option Addr} {n c m d : Nat} (h : LtsBox w g st ini A n c B m d) (hg : w.grownBy w' row) (hne : some g ≠ row) : LtsBox w' g st ini A n c B m d := by
 have h1 := hg.block g h.lt hne;exact h1.trans h
theorem Own.asideL {α : Type} {size : Nat} {f : α → List Value} {w : World} {base n c : Nat} {e : TypeId} {A : Option Addr} {l : List α} (h : Own size f w base e A n c l) {g j : Nat} (hne : some g ≠ (Value.slice A n c).ownBlock) (v : Value) : Own size f (w.setCell ⟨g, j, none⟩ v) base e A n c l :=
 h.keep fun q hq => (((Only.refl g (g + 1) w).setCell (p := ⟨g, j, none⟩) zR (Nat.lt_succ_self _) v).block q (h.lt q hq).2 (by
  have : g ≠ q := fun e => hne (by rw [e, hq])
  omega))
theorem Own.le_cap {α : Type} {size : Nat} {f : α → List Value} {w : World} {base n c : Nat} {e : TypeId} {A : Option Addr} {l : List α} (h : Own size f w base e A n c l) : n ≤ c := by
 rcases h.2.2 with ⟨hv, hn⟩ | ⟨g, cap, cur, hv, hb, hg, hnc, -⟩
 ·omega
 ·cases hv
  exact hnc
structure LtmL (w wr : World) (g9 w0s : Nat) (s i : Int) (A1 : Option Addr) (n2 c1 : Nat) (J : List ByteArray) (A3 : Option Addr) (k c3 : Nat) (E : List Ed) : Prop where
 box : LtsBox wr g9 s i A1 n2 c1 A3 k c3
 res : LtsBox wr w.heap.size 0 0 none 0 0 none 0 0
 labs : Own 1 strv wr w0s 9 A1 n2 c1 J
 eds : Own 3 ev wr (g9 + 1) 84 A3 k c3 E
 bel : Below w.heap.size w wr
 base : w.heap.size < w0s ∧ w0s ≤ g9
 lt : ∀ q, (Value.slice A1 n2 c1).ownBlock = some q → q < g9
section
variable {w wr w' : World} {g9 w0s : Nat} {s i : Int} {A1 : Option Addr} {n2 c1 : Nat} {J : List ByteArray} {A3 : Option Addr} {k c3 : Nat} {E : List Ed}
theorem LtmL.below (h : LtmL w wr g9 w0s s i A1 n2 c1 J A3 k c3 E) (hb : Below wr.heap.size wr w') : LtmL w w' g9 w0s s i A1 n2 c1 J A3 k c3 E where
 box := h.box.below hb h.box.lt
 res := h.res.below hb h.res.lt
 labs := h.labs.below hb zR
 eds := h.eds.below hb zR
 bel := h.bel.trans (hb.mono h.bel.size)
 base := h.base
 lt := h.lt
theorem LtmL.same (h : LtmL w wr g9 w0s s i A1 n2 c1 J A3 k c3 E) {E' : List Ed} (hg : wr.grownBy w' (Value.slice A3 k c3).ownBlock) (ho : Own 3 ev w' (g9 + 1) 84 A3 k c3 E') : LtmL w w' g9 w0s s i A1 n2 c1 J A3 k c3 E' := by
 have hb0 := h.base;have ha : ∀ q, q ≤ g9 → some q ≠ (Value.slice A3 k c3).ownBlock := fun q hq e => by
  have := (h.eds.lt q e.symm).1;omega
 exact ⟨h.box.grown hg (ha _ zR), h.res.grown hg (ha _ (by omega)), h.labs.keep fun q hq => hg.block q (h.labs.lt q hq).2 (ha q (by have := h.lt q hq; omega)), ho, h.bel.grown hg h.bel.size fun q e => by have := (h.eds.lt q e).1; omega, hb0, h.lt⟩
theorem LtmL.grown (h : LtmL w wr g9 w0s s i A1 n2 c1 J A3 k c3 E) {A7 : Option Addr} {k7 c7 : Nat} {E' : List Ed} (hg : wr.grownBy w' (Value.slice A3 k c3).ownBlock) (ho : Own 3 ev w' (g9 + 1) 84 A7 k7 c7 E') : LtsBox w' g9 s i A1 n2 c1 A3 k c3 ∧ LtmL w (w'.setCell ⟨g9, 3, none⟩ (.slice A7 k7 c7)) g9 w0s s i A1 n2 c1 J A7 k7 c7 E' := by
 have hb0 := h.base;have ha : ∀ q, q ≤ g9 → some q ≠ (Value.slice A3 k c3).ownBlock := fun q hq e => by
  have := (h.eds.lt q e.symm).1;omega
 have hbx := h.box.grown hg (ha _ zR);have hrs := h.res.grown hg (ha _ (by omega));have hO : Only g9 (g9 + 1) w' (w'.setCell ⟨g9, 3, none⟩ (.slice A7 k7 c7)) := (Only.refl g9 (g9 + 1) w').setCell (p := ⟨g9, 3, none⟩) zR (Nat.lt_succ_self _) _;have hbel : Below w.heap.size w w' := h.bel.grown hg h.bel.size fun q e => by have := (h.eds.lt q e).1; omega
 refine ⟨hbx, hbx.set3, hrs.only hO (.inl (by omega)), ?_, ?_, Only.below hbel hO (by omega) hbel.size, hb0, h.lt⟩
 ·have hl : Own 1 strv w' w0s 9 A1 n2 c1 J := h.labs.keep fun q hq => hg.block q (h.labs.lt q hq).2 (ha q (by have := h.lt q hq; omega))
  exact hl.asideL (fun e => by have := h.lt _ e.symm; omega) _
 ·exact ho.asideL (fun e => by have := (ho.lt _ e.symm).1; omega) _
end
theorem Own.sink {α : Type} {size : Nat} {f : α → List Value} {w : World} {base base' n c : Nat} {e : TypeId} {A : Option Addr} {l : List α} (h : Own size f w base e A n c l) (hb : base' ≤ base) : Own size f w base' e A n c l := by
 refine ⟨h.1, h.2.1, ?_⟩
 rcases h.2.2 with hn | ⟨g, cap, cur, hv, hg, rest⟩
 ·exact .inl hn
 ·exact .inr ⟨g, cap, cur, hv, by omega, rest⟩
theorem LtmL.done {w wr : World} {g9 w0s : Nat} {s i : Int} {A1 : Option Addr} {n2 c1 : Nat} {J : List ByteArray} {A3 : Option Addr} {k c3 : Nat} {E : List Ed} (h : LtmL w wr g9 w0s s i A1 n2 c1 J A3 k c3 E) {wf : World} (a b c d : Value)
  (hw : wf = (((wr.setCell ⟨w.heap.size, 0, none⟩ a).setCell ⟨w.heap.size, 1, none⟩ b).setCell ⟨w.heap.size, 2, none⟩ c).setCell ⟨w.heap.size, 3, none⟩ d) :
  SlS wf w.heap.size wf.heap.size A1 n2 J ∧ Own 3 ev wf w.heap.size 84 A3 k c3 E ∧ Below w.heap.size w wf := by
 have hb0 := h.base;have n1 : some w.heap.size ≠ (Value.slice A1 n2 c1).ownBlock := fun e => by have := (h.labs.lt _ e.symm).1; omega
 have n3 : some w.heap.size ≠ (Value.slice A3 k c3).ownBlock := fun e => by have := (h.eds.lt _ e.symm).1; omega
 have o1 := (Only.refl w.heap.size (w.heap.size + 1) wr).setCell (p := ⟨w.heap.size, 0, none⟩) zR (Nat.lt_succ_self _) a;have o2 := o1.setCell (p := ⟨w.heap.size, 1, none⟩) zR (Nat.lt_succ_self _) b;have o3 := o2.setCell (p := ⟨w.heap.size, 2, none⟩) zR (Nat.lt_succ_self _) c;have o4 := o3.setCell (p := ⟨w.heap.size, 3, none⟩) zR (Nat.lt_succ_self _) d;rw [hw];refine ⟨?_, ?_, Only.below h.bel o4 zR h.bel.size⟩
 ·exact (((((h.labs.asideL n1 _).asideL n1 _).asideL n1 _).asideL n1 _).sl flat_strv).more (by omega) zR
 ·exact (((((h.eds.asideL n3 _).asideL n3 _).asideL n3 _).asideL n3 _)).sink (by omega)
theorem ltsC_calls (s i : Int) (A : Option Addr) (n c : Nat) (ls : List ByteArray) (B : Option Addr) (m d : Nat) (rs : List Arc) (w : World) (lo hi lo2 hi2 : Nat) (hA : SlS w lo hi A n ls) (hhi : hi ≤ w.heap.size) (hn : n ≤ 100000) (hB : SlA w lo2 hi2 B m rs) (hhi2 : hi2 ≤ w.heap.size) (hm : m ≤ 100000000) :
  Calls Tryz.prog 134 #[.int .i64 s, .int .i64 i, .slice A n c, .slice B m d] w fun e w' => ∃ A2 n2 c2 A3 n3 c3, e = .returned (.agg #[.int .i64 s, .int .i64 i, .slice A2 n2 c2, .slice A3 n3 c3]) ∧ SlS w' w.heap.size w'.heap.size A2 n2 (joiF ls) ∧ Own 3 ev w' w.heap.size 84 A3 n3 c3 (ltsEs ls rs) ∧ Below w.heap.size w w' ∧ n2 ≤ c2 := by
 have hEs := hide elem_str;have hEe := hide elem_edge;have hlA := hide hA.len;have hlB := hide hB.len;obtain ⟨w0, hw0⟩ : ∃ w0, w0 = w.alloc (.cells #[.int .i64 0, .int .i64 0, .slice none 0 0, .slice none 0 0] 27) := ⟨_, rfl⟩;have hb0 : Below w.heap.size w w0 := by rw [hw0]; exact bR.alloc zR _
 have hz0 : w0.heap.size = w.heap.size + 1 := by rw [hw0]; exact World.size_alloc _ _
 have k0 : w0.heap[w.heap.size]? = some (.cells #[.int .i64 0, .int .i64 0, .slice none 0 0, .slice none 0 0] 27 (0, 0)) := by rw [hw0]; exact heap_alloc_new w _
 have k1 := heap_alloc_new w0 (.cells #[.string (⟨#[116, 97, 117]⟩ : ByteArray)] 9);have hst : Hid (Own 1 strv (w0.alloc (.cells #[.string (⟨#[116, 97, 117]⟩ : ByteArray)] 9)) w0.heap.size 9 (some ⟨w0.heap.size, 0, none⟩) 1 1 [(⟨#[116, 97, 117]⟩ : ByteArray)]) := Own.litL k1 rfl zR;have hb1 := hide (hb0.alloc (by omega) (.cells #[.string (⟨#[116, 97, 117]⟩ : ByteArray)] 9));have hA1 := hide (hA.below hb1.out (.inl hhi));have hz1 : (w0.alloc (.cells #[.string (⟨#[116, 97, 117]⟩ : ByteArray)] 9)).heap.size = w0.heap.size + 1 := World.size_alloc _ _;have hza : w0.heap.size ≤ (w0.alloc (.cells #[.string (⟨#[116, 97, 117]⟩ : ByteArray)] 9)).heap.size := by omega
 replace hB := hide hB;clear hA k1;go_enter Tryz.func134, Tryz.ntmps134;go_upto_region 1 with fail;rw [← show w0 = _ from hw0];replace hw0 := hide hw0;replace hz0 := hide hz0;replace hz1 := hide hz1;go_upto_region 2 with (first | (at_builtin; (with_reducible refine wpList_app rfl (.tmp 14) (.tmp 15) rfl hEs.out flat_strv rfl hst.out rfl hA1.out ?d1 hza ?_); rotate_right; intro A1 c1 w1 hown1 hgr1 hbw1 hat1))
 case d1 => omega
 obtain ⟨w2, hw2⟩ : ∃ w2, w2 = w1.alloc (.cells #[.int .i64 s, .int .i64 i, .slice A1 (1 + n) c1, .slice none 0 0] 27) := ⟨_, rfl⟩;have hBx2 : Hid (LtsBox w2 w1.heap.size s i A1 (1 + n) c1 none 0 0) := by rw [hw2]; exact heap_alloc_new w1 _
 have hO2 : Hid (Own 1 strv w2 w0.heap.size 9 A1 (1 + n) c1 (tauB :: ls)) := by rw [hw2]; exact hown1.alloc _
 have hb2 : Hid (Below w.heap.size w w2) := by
  rw [hw2];have := hz0.out;exact (hb1.out.trans (hbw1.mono (by omega))).alloc (Nat.le_trans hb1.out.size hbw1.size) _
 have hRs2 : LtsBox w2 w.heap.size 0 0 none 0 0 none 0 0 := by
  have e0 : LtsBox w0 w.heap.size 0 0 none 0 0 none 0 0 := k0;have e1 : LtsBox w1 w.heap.size 0 0 none 0 0 none 0 0 := (e0.below (K := w0.heap.size) (bR.alloc zR _) e0.lt).below hbw1 e0.lt;rw [hw2];exact e1.below (K := w1.heap.size) (bR.alloc zR _) e1.lt
 have hng : ∀ q, (Value.slice A1 (1 + n) c1).ownBlock = some q → w0.heap.size ≤ q ∧ q < w1.heap.size := hown1.lt;have hz1b : Hid (w0.heap.size ≤ w1.heap.size) := by have := hgr1.size; show _ ≤ _; omega
 have hqS := hide (sortL_calls hO2.out (by omega));have b2 := hBx2.out.c2;rw [← hw2];replace hw2 := hide hw2;clear hown1 hgr1 hbw1 hat1 hst hza;go_upto_region 3 with (first | (go_at_call 225; (with_reducible refine hqS.out.mono ?_); rintro e w3 ⟨rfl, hO3, hg3⟩));have hnb : some w1.heap.size ≠ (Value.slice A1 (1 + n) c1).ownBlock := fun e => by have := (hng _ e.symm).2; omega
 have hBx3 := hBx2.out.grown hg3 hnb;have hb3 := hide (hb2.out.grown hg3 hb2.out.size fun q e => by have := (hng q e).1; have := hz0.out; omega);obtain ⟨n2, hn2⟩ : ∃ n2, n2 = (Lib.compact (((tauB :: ls).map toL).mergeSort fun x y => !(ltL y x))).length := ⟨_, rfl⟩;have hqC := compactD_calls hO3 (by omega);rw [← hn2] at hqC;have hJl : Hid ((joiF ls).length = n2) := by show _ = _; unfold joiF; rw [List.length_map, hn2]
 have hn2b : n2 ≤ n + 1 := by
  rw [hn2];refine Nat.le_trans (Go.Lib.compact_length_le _) ?_;rw [List.length_mergeSort, List.length_map, List.length_cons, hlA.out];exact zR
 replace hn2 := hide hn2;replace hqC := hide hqC;have hO3l := hide (fun q hq => (hO3.lt q hq).2);have hz3 := hg3.size;have hrs3 : LtsBox w3 w.heap.size 0 0 none 0 0 none 0 0 := hRs2.grown hg3 fun e => by have := (hng _ e.symm).1; have := hz0.out; omega
 have c23 := hBx3.c2;clear hO3 hO2 hBx2 hqS b2;replace hBx3 := hide hBx3;go_upto_region 4 with (first | (go_at_call 227; (with_reducible refine hqC.out.mono ?_); rintro e w4 ⟨rfl, hO4, hg4⟩; have hBx4 := hBx3.out.grown hg4 hnb; have c24 := hBx4.c2; have f24 := hBx4.f2));have hL : Hid (LtmL w (w4.setCell ⟨w1.heap.size, 2, none⟩ (.slice A1 n2 c1)) w1.heap.size w0.heap.size s i A1 n2 c1 (joiF ls) none 0 0 []) := by
  have hO : Only w1.heap.size (w1.heap.size + 1) w4 (w4.setCell ⟨w1.heap.size, 2, none⟩ (.slice A1 n2 c1)) := (Only.refl _ _ _).setCell (p := ⟨w1.heap.size, 2, none⟩) zR (Nat.lt_succ_self _) _;have e1 := hz0.out;have e2 := hz1b.out;have hb4 : Below w.heap.size w w4 := hb3.out.grown hg4 hb3.out.size fun q e => by have := (hng q e).1; omega
  have hr4 := hrs3.grown hg4 fun e => by have := (hng _ e.symm).1; omega
  have hng2 : ∀ q, (Value.slice A1 n2 c1).ownBlock = some q → w0.heap.size ≤ q ∧ q < w1.heap.size := by
   intro q hq;refine hng q ?_
   cases A1 with
   | none => exact hq
   | some a => exact hq
  exact ⟨hBx4.set2, hr4.only hO (.inl (by omega)), hO4.asideL (fun e => by have := (hng2 _ e.symm).2; omega) _, Own.nil_ _ _ _, Only.below hb4 hO (by omega) hb4.size, ⟨by omega, e2⟩, fun q hq => (hng2 q hq).2⟩
 generalize w4.setCell ⟨w1.heap.size, 2, none⟩ (.slice A1 n2 c1) = w5 at *;clear hO4 hg4 hBx4 c24 f24 hBx3 c23 hqC hrs3 hRs2 hz3 hO3l hg3 hnb hng hb3 hb2 hz1b;generalize w1.heap.size = g9 at *;obtain ⟨es, hes⟩ : ∃ es, es = rs.map (arcD (joiF ls)) := ⟨_, rfl⟩;go_wp2_with fail
 go_loopw [27] (fun v27 wr => ∃ (k : Nat) (A3 : Option Addr) (c3 : Nat), k ≤ m ∧ v27 = .int .i64 (k : Nat) ∧ Hid (LtmL w wr g9 w0.heap.size s i A1 n2 c1 (joiF ls) A3 k c3 (es.take k))) (fun v _ => m - (intOf v).toNat)
 case atStart => exact ⟨0, none, 0, Nat.zero_le _, rfl, hL.out⟩
 case round =>
  clear hL;obtain ⟨k, A3, c3, hk, rfl, hL⟩ := hrel
  by_cases hlt : k < m
  ·obtain ⟨gB, oB, f, lb, t, rfl, -, -, hgB, hx, x0, x1, x2⟩ := SlA.get (hB.out.below hL.out.bel (.inl hhi2)) hlt
   have k0 : (0 : Int) ≤ (k : Int) := by omega
   have k1 : (k : Int) < (m : Int) := by omega
   have hes1 : Hid (es.take (k + 1) = es.take k ++ [(f, idxZ (joiF ls) lb, t)]) := by
    show _ = _
    rw [List.take_add_one, hes, List.getElem?_map, hx]
    rfl
   replace hx := hide hx;replace hes := hide hes;obtain ⟨bA, hbA⟩ : ∃ bA, bA = wr.heap.size := ⟨_, rfl⟩;obtain ⟨z, hz⟩ : ∃ z, z = idxZ (joiF ls) lb := ⟨_, rfl⟩;obtain ⟨wA, hwA⟩ : ∃ wA, wA = wr.alloc (.cells #[.int .i64 f, .string lb, .int .i64 t] 204) := ⟨_, rfl⟩;have hLA := hL.out.below (w' := wA) (by rw [hwA]; exact bR.alloc zR _);have ka : wA.heap[bA]? = some (.cells #[.int .i64 f, .string lb, .int .i64 t] 204 (0, 0)) := by rw [hwA, hbA]; exact heap_alloc_new wr _
   obtain ⟨wD, hwD⟩ : ∃ wD, wD = wA.drew := ⟨_, rfl⟩;have hLD := hide (hLA.below (w' := wD) (by rw [hwD]; exact bR.drew));have kd : wD.heap[bA]? = some (.cells #[.int .i64 f, .string lb, .int .i64 t] 204 (0, 0)) := by rw [hwD]; exact ka
   have hbD : bA < wD.heap.size := (Array.getElem?_eq_some_iff.1 kd).1;have b2 := hLD.out.box.c2;have b3 := hLD.out.box.c3;have e0 := (cell_of_row _ _ 0 _ _ (0, 0) kd).trans (show _ = some (Value.int .i64 f) from rfl);have e1 := (cell_of_row _ _ 1 _ _ (0, 0) kd).trans (show _ = some (Value.string lb) from rfl);have e2 := (cell_of_row _ _ 2 _ _ (0, 0) kd).trans (show _ = some (Value.int .i64 t) from rfl);have hqI := indexZ_calls lb A1 n2 c1 (joiF ls) wD _ _ (hLD.out.labs.sl flat_strv) (by omega);rw [← hz] at hqI hes1;replace hqI := hide hqI;obtain ⟨wL, hwL⟩ : ∃ wL, wL = wD.alloc (.cells #[.int .i64 f, .int .i64 z, .int .i64 t] 84) := ⟨_, rfl⟩;have hblL : Below wD.heap.size wD wL := by rw [hwL]; exact bR.alloc zR _
   have hLL := hide (hLD.out.below hblL);have hOL := hide hLL.out.eds;have a2 := hLL.out.box.c2;have a3 := hLL.out.box.c3;have a4 := (hblL.cell (p := ⟨bA, 0, none⟩) hbD).trans e0;have a5 := (hblL.cell (p := ⟨bA, 1, none⟩) hbD).trans e1;have a6 := (hblL.cell (p := ⟨bA, 2, none⟩) hbD).trans e2;have hbL : bA < wL.heap.size := Nat.lt_of_lt_of_le hbD hblL.size;have hnA : some bA ≠ (Value.slice A3 k c3).ownBlock := fun e => by have := (hL.out.eds.lt bA e.symm).2; omega
   have hlit : Hid (Sl 3 ev wL 0 (wD.heap.size + 1) (some ⟨wD.heap.size, 0, none⟩) 1 [(f, z, t)]) := by
    rw [hwL];exact Sl.lit1' (f := ev) wD 84 (f, z, t) #[.int .i64 f, .int .i64 z, .int .i64 t] rfl 3 _ rfl
   have hsz : (k + 1) * 24 ≤ 140737488355328 := by omega
   have hza : g9 + 1 ≤ wL.heap.size := hLL.out.box.lt;go_upto_region 7 with fail;rw [← show bA = _ from hbA];rw [← show wA = _ from hwA];replace hwA := hide hwA;replace hwD := hide hwD;replace hbA := hide hbA;replace hz := hide hz;replace hwL := hide hwL;clear x0 x1 x2 kd ka hLA hblL;refine lateT_begin (S := fun w' => w'.cell? ⟨g9, 2, none⟩ = some (.slice A1 n2 c1) ∧ w'.cell? ⟨g9, 3, none⟩ = some (.slice A3 k c3) ∧ w'.cell? ⟨bA, 0, none⟩ = some (.int .i64 f) ∧ w'.cell? ⟨bA, 1, none⟩ = some (.string lb) ∧ w'.cell? ⟨bA, 2, none⟩ = some (.int .i64 t)) (st := 15) (by kernel_rfl) ?_;rw [← show wD = _ from hwD.out];have hS0 : (fun w' : World => w'.cell? ⟨g9, 2, none⟩ = some (.slice A1 n2 c1) ∧ w'.cell? ⟨g9, 3, none⟩ = some (.slice A3 k c3) ∧ w'.cell? ⟨bA, 0, none⟩ = some (.int .i64 f) ∧ w'.cell? ⟨bA, 1, none⟩ = some (.string lb) ∧ w'.cell? ⟨bA, 2, none⟩ = some (.int .i64 t)) wD := ⟨b2, b3, e0, e1, e2⟩;refine tkB 0 [15] hS0 ?_;refine tkB 1 [15] hS0 ?_;refine tkB 2 [15] hS0 ?_;refine tkB 3 [15] hS0 ?_;refine tkB 4 [15] hS0 ?_;refine tkB 5 [15] hS0 ?_;refine tkB 6 [15] hS0 ?_;refine tkB 7 [15] hS0 ?_;refine tkB 9 [15] hS0 ?_;refine tkB 10 [15] hS0 ?_;refine lS 8 fun K hK => ?_
   go_simp;go_at_call 185
   refine hqI.out.mono ?_;rintro e w6 ⟨rfl, e6⟩;rw [e6];clear e6 w6;go_wp2_with fail;refine kP hK (fun _ => ⟨b2, b3, e0, e1, e2⟩) ?_;clear hK K;refine lS 11 fun K hK => ?_
   go_simp;refine kP hK (fun _ => ⟨b2, b3, e0, e1, e2⟩) ?_
   clear hK K;refine lS 12 fun K hK => ?_
   go_simp;rw [← show wL = _ from hwL.out]
   refine kP hK (fun _ => ⟨a2, a3, a4, a5, a6⟩) ?_;clear hK K;refine lS 13 fun K hK => ?_
   refine step_appL (m := 1) (d := 1) (by rfl) (.tmp 32) (.tmp 43) (by rfl) hEe.out flat_ev (by go_simp) hOL.out (by go_simp) hlit.out hsz hza ?_;intro A7 c7 w7 hown7 hgr7 hb7 hat7;obtain ⟨hbx7, hL8⟩ := hLL.out.grown hgr7 hown7;have d2 := hbx7.c2;have d3 := hbx7.c3;have df := hbx7.f3;have d4 := grown_cell8 hgr7 hbL hnA a4;have d5 := grown_cell8 hgr7 hbL hnA a5;have d6 := grown_cell8 hgr7 hbL hnA a6;refine kP hK (fun _ => ⟨d2, d3, d4, d5, d6⟩) ?_;clear hK K;refine lS 14 fun K hK => ?_
   go_simp;refine kP hK (fun _ => ⟨d2, d3, d4, d5, d6⟩) ?_
   clear hK K;refine lS 15 fun K hK => ?_
   go_simp;refine kP hK nH ?_
   clear hK K;refine lateT_done (by kernel_rfl) ?_ _;have hL9 := hL8;rw [← hes1.out] at hL9;replace hL9 := hide hL9;clear hL8 hown7 hgr7 hb7 hat7 hbx7;go_wp2_with fail;go_roundw
   case rel => exact ⟨k + 1, A7, c7, by omega, by go_num, hL9.out⟩
   case measure => simp [intOf]; omega
  ·obtain rfl : k = m := by omega
   have hLm := hL.out;rw [List.take_of_length_le (by rw [hes, List.length_map, hlB.out]; exact zR)] at hLm;have c3a := hLm.box.c3;have hqS := hide (sortE_calls hLm.eds (by omega));replace hLm := hide hLm;replace hes := hide hes;clear hL;go_upto_region 10 with (first | (go_at_call 132; (with_reducible refine hqS.out.mono ?_); rintro e w6 ⟨rfl, hO6, hg6⟩));have hL6 := hLm.out.same hg6 hO6;have c36 := hL6.box.c3;obtain ⟨n3, hn3⟩ : ∃ n3, n3 = (Lib.compact (sortE es)).length := ⟨_, rfl⟩;have hqC := compactE_calls hO6 (by omega) hO6.le_cap;rw [← hn3] at hqC;replace hqC := hide hqC;replace hL6 := hide hL6;replace hn3 := hide hn3;clear hO6 hg6 hqS c3a hLm;go_upto_region 11 with (first | (go_at_call 228; (with_reducible refine hqC.out.mono ?_); rintro e w7 ⟨rfl, hO7, hg7⟩; obtain ⟨hbx7, hL8⟩ := hL6.out.grown hg7 hO7; have c37 := hbx7.c3; have f37 := hbx7.f3));obtain ⟨w8, hw8⟩ : ∃ w8, w8 = w7.setCell ⟨g9, 3, none⟩ (.slice A3 n3 c3) := ⟨_, rfl⟩;rw [← hw8] at hL8;have y0 := hL8.box.c0;have y1 := hL8.box.c1;have y2 := hL8.box.c2;have y3 := hL8.box.c3;have r0 := hL8.res.c0;have r1 := hL8.res.c1;have r2 := hL8.res.c2;have r3 := hL8.res.c3;have v0 := hL8.res.f0;have v1 := hL8.res.f1;have v2 := hL8.res.f2;have v3 := hL8.res.f3;rw [← show w8 = _ from hw8];replace hL8 := hide hL8;replace hw8 := hide hw8;clear c37 f37 hbx7 hO7 hg7 hqC hL6 c36;go_wp2_with fail
   (try simp only [Exit.inBlock, Exit.then])
   refine bodyPost_ret_by (v := .agg #[.int .i64 s, .int .i64 i, .slice A1 n2 c1, .slice A3 n3 c3]) ?_ rfl ?_
   focus
    rw [results_cell1 rfl];go_simp
   obtain ⟨f1, f2, f3⟩ := hL8.out.done (.int .i64 s) (.int .i64 i) (.slice A1 n2 c1) (.slice A3 n3 c3) rfl;refine ⟨A1, n2, c1, A3, n3, c3, rfl, f1, ?_, f3, hL8.out.labs.le_cap⟩;unfold ltsEs;rw [← hes.out];exact f2
theorem lts_calls (s i : Int) (A : Option Addr) (n c : Nat) (ls : List ByteArray) (B : Option Addr) (m d : Nat) (rs : List Arc) (w : World) (lo hi lo2 hi2 : Nat) (hA : SlS w lo hi A n ls) (hhi : hi ≤ w.heap.size) (hn : n ≤ 100000) (hB : SlA w lo2 hi2 B m rs) (hhi2 : hi2 ≤ w.heap.size) (hm : m ≤ 100000000) :
  Calls Tryz.prog 134 #[.int .i64 s, .int .i64 i, .slice A n c, .slice B m d] w fun e w' => ∃ A2 n2 c2 A3 n3 c3, e = .returned (.agg #[.int .i64 s, .int .i64 i, .slice A2 n2 c2, .slice A3 n3 c3]) ∧ SlS w' w.heap.size w'.heap.size A2 n2 (joiF ls) ∧ Own 3 ev w' w.heap.size 84 A3 n3 c3 (ltsEs ls rs) ∧ Below w.heap.size w w' :=
 (ltsC_calls s i A n c ls B m d rs w lo hi lo2 hi2 hA hhi hn hB hhi2 hm).mono (by
  rintro e w' ⟨A2, n2, c2, A3, n3, c3, h1, h2, h3, h4, -⟩;exact ⟨A2, n2, c2, A3, n3, c3, h1, h2, h3, h4⟩)
def arcOf (ls : List ByteArray) (e : Ed) : Arc := (e.1, ls[e.2.1.toNat]?.getD ByteArray.empty, e.2.2)
theorem arcOf_at {ls : List ByteArray} {f t : Int} {l : Nat} {s : ByteArray} (hs : ls[l]? = some s) : arcOf ls (f, (l : Int), t) = (f, s, t) := by
 unfold arcOf;simp only [Int.toNat_natCast, hs, Option.getD_some]
theorem arcs_calls {w : World} {N ini : Nat} {A : Option Addr} {n : Nat} {B : Option Addr} {m : Nat} {ls : List ByteArray} {es : List Ed} (h : SysA w N ini A n B m ls es) (c d : Nat) :
  Calls Tryz.prog 133 #[.agg #[.int .i64 (N : Int), .int .i64 (ini : Int), .slice A n c, .slice B m d]] w fun e w' => ∃ Q cq, e = .returned (.slice Q m cq) ∧ Own 3 av w' w.heap.size 204 Q m cq (es.map (arcOf ls)) ∧ Below w.heap.size w w' := by
 have hEa := hide elem_arc;have hB := h.box (c := c) (d := d);obtain ⟨w1, hw1⟩ : ∃ w1, w1 = w.alloc (ltsC N ini A n c B m d) := ⟨_, rfl⟩;rw [← hw1] at hB;obtain ⟨hm, hn12, hn1, hle, hll⟩ := hB.sys.many;obtain ⟨gA, oA, rfl, -, hgA, -⟩ := h.ss.at_ hn1;have hlt0 := hB.lt;have c3x := hB.box.c3;replace hB := hide hB;go_enter Tryz.func133, Tryz.ntmps133;go_upto_region 1 with fail;rw [← show w1 = w.alloc (.cells #[.int .i64 (N : Int), .int .i64 (ini : Int), .slice (some ⟨gA, oA, none⟩) n c, .slice B m d] 27) from hw1];replace hw1 := hide hw1;go_wp2_with fail
 go_loopw [3, 9] (fun v5 v10 wr => ∃ (k : Nat) (A5 : Option Addr) (c5 : Nat), k ≤ m ∧ v10 = .int .i64 (k : Nat) ∧ v5 = .slice A5 k c5 ∧ Hid (Own 3 av wr w1.heap.size 204 A5 k c5 ((es.take k).map (arcOf ls))) ∧ Hid (Below w1.heap.size w1 wr)) (fun _ v _ => m - (intOf v).toNat)
 case atStart => exact ⟨0, none, 0, Nat.zero_le _, rfl, rfl, Own.nil_ _ _ _, bR⟩
 case round =>
  obtain ⟨k, A5, c5, hk, rfl, rfl, hO, hb⟩ := hrel
  by_cases hlt : k < m
  ·have hBr := hide (hB.out.below hb.out)
   obtain ⟨gB, oB, f, l, t, rfl, -, -, hgBs, hx, x0, x1, x2, -⟩ := SlE.get hBr.out.sys.se hlt;have hlab := hBr.out.sys.labs _ (List.mem_of_getElem? hx)
   (try dsimp only at hlab)
   obtain ⟨l, rfl⟩ : ∃ j : Nat, l = (j : Int) := ⟨l.toNat, by omega⟩;have hln : l < n := by omega
   have hzr := hb.out.size;have k0 : (0 : Int) ≤ (k : Int) := by omega
   have k1 : (k : Int) < (m : Int) := by omega
   have l0 : (0 : Int) ≤ (l : Int) := by omega
   have l1 : (l : Int) < (n : Int) := by omega
   obtain ⟨bA, hbA⟩ : ∃ bA, bA = wr.heap.size := ⟨_, rfl⟩;obtain ⟨wA, hwA⟩ : ∃ wA, wA = wr.alloc (.cells #[.int .i64 f, .int .i64 (l : Int), .int .i64 t] 84) := ⟨_, rfl⟩;have hbAA : Below wr.heap.size wr wA := by rw [hwA]; exact bR.alloc zR _
   have ka : wA.heap[bA]? = some (.cells #[.int .i64 f, .int .i64 (l : Int), .int .i64 t] 84 (0, 0)) := by rw [hwA, hbA]; exact heap_alloc_new wr _
   obtain ⟨wD, hwD⟩ : ∃ wD, wD = wA.drew := ⟨_, rfl⟩;have hbDD : Below wr.heap.size wr wD := hbAA.trans (by rw [hwD]; exact bR.drew);have hBD := hBr.out.below hbDD;have kd : wD.heap[bA]? = some (.cells #[.int .i64 f, .int .i64 (l : Int), .int .i64 t] 84 (0, 0)) := by rw [hwD]; exact ka
   have hbD : bA < wD.heap.size := (Array.getElem?_eq_some_iff.1 kd).1;have b2 := hBD.box.c2;have e0 := (cell_of_row _ _ 0 _ _ (0, 0) kd).trans (show _ = some (Value.int .i64 f) from rfl);have e1 := (cell_of_row _ _ 1 _ _ (0, 0) kd).trans (show _ = some (Value.int .i64 (l : Int)) from rfl);have e2 := (cell_of_row _ _ 2 _ _ (0, 0) kd).trans (show _ = some (Value.int .i64 t) from rfl);obtain ⟨gA2, oA2, s, eA, -, -, hgs, hs, cs, -⟩ := SlS.get hBD.sys.ss hln
   cases eA
   have hes1 : Hid ((es.take (k + 1)).map (arcOf ls) = (es.take k).map (arcOf ls) ++ [(f, s, t)]) := by
    show _ = _
    rw [List.take_add_one, hx, List.map_append]
    congr 1
    show [arcOf ls (f, (l : Int), t)] = _
    rw [arcOf_at hs]
   obtain ⟨wL, hwL⟩ : ∃ wL, wL = wD.alloc (.cells #[.int .i64 f, .string s, .int .i64 t] 204) := ⟨_, rfl⟩;have hblL : Below wD.heap.size wD wL := by rw [hwL]; exact bR.alloc zR _
   have hbLL := hide (hbDD.trans (hblL.mono hbDD.size));have hOL := hide (hO.out.below hbLL.out zR);have hbw := hide (hb.out.trans (hbLL.out.mono hzr));have hzL := hblL.size;have a2 := (hblL.cell (p := ⟨w.heap.size, 2, none⟩) (by show w.heap.size < _; have := hbDD.size; omega)).trans b2;have a3 := (hblL.cell (p := ⟨bA, 0, none⟩) hbD).trans e0;have a4 := (hblL.cell (p := ⟨bA, 1, none⟩) hbD).trans e1;have a5 := (hblL.cell (p := ⟨bA, 2, none⟩) hbD).trans e2;have a6 := (hblL.cell (p := ⟨gA, oA + l, none⟩) hgs).trans cs;have hlit : Hid (Sl 3 av wL 0 (wD.heap.size + 1) (some ⟨wD.heap.size, 0, none⟩) 1 [(f, s, t)]) := by
    rw [hwL];exact Sl.lit1' (f := av) wD 204 (f, s, t) #[.int .i64 f, .string s, .int .i64 t] rfl 3 _ rfl
   have hsz : (k + 1) * 32 ≤ 140737488355328 := by omega
   have hza : w1.heap.size ≤ wL.heap.size := by have := hbDD.size; omega
   have hgAL : gA < w1.heap.size := Nat.lt_of_lt_of_le hgA (by omega);have hne : ∀ g, g < w1.heap.size ∨ g = bA → some g ≠ (Value.slice A5 k c5).ownBlock := fun g hg e => by
    have := hO.out.lt g e.symm;omega
   have hbAL : bA < wL.heap.size := Nat.lt_of_lt_of_le hbD hzL;go_upto_region 5 with fail;rw [← show bA = _ from hbA];rw [← show wA = _ from hwA];replace hwA := hide hwA;replace hwD := hide hwD;replace hbA := hide hbA;replace hwL := hide hwL;replace hx := hide hx;replace hs := hide hs;clear x0 x1 x2 kd ka hblL hbAA hbDD hBD;refine lateT_begin (S := fun w' => w'.cell? ⟨w.heap.size, 2, none⟩ = some (.slice (some ⟨gA, oA, none⟩) n c) ∧ w'.cell? ⟨bA, 0, none⟩ = some (.int .i64 f) ∧ w'.cell? ⟨bA, 1, none⟩ = some (.int .i64 (l : Int)) ∧ w'.cell? ⟨bA, 2, none⟩ = some (.int .i64 t) ∧ w'.cell? ⟨gA, oA + l, none⟩ = some (.string s)) (st := 14) (by kernel_rfl) ?_;rw [← show wD = _ from hwD.out];have hS0 : (fun w' : World => w'.cell? ⟨w.heap.size, 2, none⟩ = some (.slice (some ⟨gA, oA, none⟩) n c) ∧ w'.cell? ⟨bA, 0, none⟩ = some (.int .i64 f) ∧ w'.cell? ⟨bA, 1, none⟩ = some (.int .i64 (l : Int)) ∧ w'.cell? ⟨bA, 2, none⟩ = some (.int .i64 t) ∧ w'.cell? ⟨gA, oA + l, none⟩ = some (.string s)) wD := ⟨b2, e0, e1, e2, cs⟩;refine tkB 0 [14] hS0 ?_;refine tkB 1 [14] hS0 ?_;refine tkB 2 [14] hS0 ?_;refine tkB 3 [14] hS0 ?_;refine tkB 4 [14] hS0 ?_;refine tkB 5 [14] hS0 ?_;refine tkB 6 [14] hS0 ?_;refine tkB 7 [14] hS0 ?_;refine tkB 8 [14] hS0 ?_;refine tkB 9 [14] hS0 ?_;refine tkB 10 [14] hS0 ?_;refine tkB 11 [14] hS0 ?_;refine lS 12 fun K hK => ?_
   go_simp;rw [← show wL = _ from hwL.out]
   refine kP hK (fun _ => ⟨a2, a3, a4, a5, a6⟩) ?_;clear hK K;refine lS 13 fun K hK => ?_
   refine step_appL (m := 1) (d := 1) (by rfl) (.tmp 13) (.tmp 25) (by rfl) hEa.out flat_av (by go_simp) hOL.out (by go_simp) hlit.out hsz hza ?_;intro A7 c7 w7 hown7 hgr7 hb7 hat7;have d2 := grown_cell8 hgr7 (by omega) (hne w.heap.size (.inl (by omega))) a2;have d3 := grown_cell8 hgr7 (by omega) (hne bA (.inr rfl)) a3;have d4 := grown_cell8 hgr7 (by omega) (hne bA (.inr rfl)) a4;have d5 := grown_cell8 hgr7 (by omega) (hne bA (.inr rfl)) a5;have d6 := grown_cell8 hgr7 (by omega) (hne gA (.inl (by omega))) a6;refine kP hK (fun _ => ⟨d2, d3, d4, d5, d6⟩) ?_;clear hK K;refine lS 14 fun K hK => ?_
   go_simp;refine kP hK nH ?_
   clear hK K;refine lateT_done (by kernel_rfl) ?_ _;have hO9 := hown7;rw [← hes1.out] at hO9;replace hO9 := hide hO9;have hb9 := hide (hbw.out.grown hgr7 hza fun q e => (hOL.out.lt q e).1);clear hown7 hgr7 hb7 hat7;go_wp2_with fail;go_roundw
   case rel => exact ⟨k + 1, A7, c7, by omega, by go_num, rfl, hO9.out, hb9.out⟩
   case measure => simp [intOf]; omega
  ·obtain rfl : k = m := by omega
   have hF := hide (hB.out.bel.trans (hb.out.mono (by omega)));have hO9 := hO.out;rw [List.take_of_length_le (by omega)] at hO9;replace hO9 := hide (hO9.sink (show w.heap.size ≤ w1.heap.size by omega));clear hO;go_wp2_with fail;go_ret;exact ⟨A5, c5, rfl, hO9.out, hF.out⟩
end Go.Proofs.YtnhomkmfbngmgaaGreatDoor
namespace Go.Proofs.YtnhomkmfbngmgaaGreatDoor
open Go.ChangeShapes Go.WideShapes Go.ChangeAt Go.RowKit
theorem cloneS_calls (A : Option Addr) (n c : Nat) (l : List ByteArray) (w : World) (lo hi : Nat) (h : SlS w lo hi A n l) (hn : n ≤ 1048576) :
  Calls Tryz.prog 131 #[.slice A n c] w fun e w' => ∃ A' c', e = .returned (.slice A' n c') ∧ Own 1 strv w' w.heap.size 9 A' n c' l ∧ Below w.heap.size w w' := by
 have hnil : ∀ (W : World) (a : Option Addr) (m d : Nat), (binOp .eql 24 (.slice a m d) (.slice none 0 0)).run Tryz.prog W = .ok (.bool a.isNone) W := fun W a m d => Lib.run_eql_slice_nil W 24 _ a m d 0 0 Tryz.underlying24
 have hE := hide elem_str
 cases A with
 | none =>
  have hn0 : n = 0 := by
   rcases Nat.eq_zero_or_pos n with h0 | h0
   ·exact h0
   ·obtain ⟨b, off, e, _⟩ := h.at_ h0
    cases e
  subst hn0;have hl := List.eq_nil_of_length_eq_zero h.len;subst hl;go_enter Tryz.func131, Tryz.ntmps131;go_wp2_with fail;go_ret;exact ⟨none, 0, rfl, Own.nil_ _ _ _, bR⟩
 | some a =>
  have hs := hide (h.below ((Below.refl w.heap.size w).alloc zR (.cells #[] 9)) (.inr zR));have hz : w.heap.size ≤ (w.alloc (.cells #[] 9)).heap.size := by simp
  clear h;go_enter Tryz.func131, Tryz.ntmps131;go_wp2_with (first | (at_builtin; (with_reducible refine wpList_app rfl (.tmp 5) (.tmp 6) rfl hE.out flat_strv rfl (Own.made w 9 zR) rfl hs.out ?c1 hz ?_); rotate_right; intro A2 c2 w2 hown2 hgr2 hb2 _))
  case c1 => omega
  go_ret;rw [Nat.zero_add, List.nil_append] at hown2
  exact ⟨_, _, rfl, hown2, (bR.alloc zR _).trans hb2⟩
theorem growS_calls (k : Nat) (w : World) (hk : k ≤ 8796093022208) :
  Calls Tryz.prog 235 #[.slice none 0 0, .int .i64 (k : Int)] w fun e w' => ∃ A c, e = .returned (.slice A 0 c) ∧ Own 1 strv w' w.heap.size 9 A 0 c ([] : List ByteArray) ∧ Below w.heap.size w w' := by
 rcases Nat.eq_zero_or_pos k with rfl | h0
 ·go_enter Tryz.func235, Tryz.ntmps235
  go_wp2_with fail;go_ret
  exact ⟨none, 0, rfl, Own.nil_ _ _ _, bR⟩
 ·obtain ⟨i, hi, hz, hs, hby⟩ := info_parts info_string
  have hcut : ∀ (W : World) (A : Option Addr) (n c : Nat), (Instr.slice 24 (.slice A n c) none (some (.int .i64 0)) none).run Tryz.prog W = .ok (.slice A 0 c) W := fun W A n c => run_head elem_str A n c 0 (Nat.zero_le _) W
  have hrun := fun ty => Lib.run_append_nil_zeros (P := Tryz.prog) w 24 3 ty 9 i _ .i64 .i64 Tryz.underlying24 Tryz.underlying3 hi hz k h0 (by rw [hs]; omega) (by omega) (by rw [hby]; omega)
  have hg1 := grownCap_ge w k 0 9;have hg2 := grownCap_le_maxLen w k 0 9 (by unfold maxLen; omega);generalize grownCap w k 0 9 = G at *;unfold maxLen at hg2;have hrun := hide hrun;have hsz : Hid ((Builtin.zeroCells #[.string ⟨#[]⟩] k ++ Builtin.zeroCells #[.string ⟨#[]⟩] (G - k)).size = G * 1) := by show _ = _; rw [Array.size_append, size_zeroCells, size_zeroCells, ← Nat.add_mul]; show (k + (G - k)) * 1 = G * 1; congr 1; omega
  have q1 : ¬ ((k : Int) < 0) := by omega
  have q2 : (0 : Int) < (k : Int) := by omega
  clear hi hz hs hby;go_enter Tryz.func235, Tryz.ntmps235;go_wp2_with (first | (at_builtin; (with_reducible refine Lib.wpList_append_run _ rfl (.tmp 20) (.tmp 21) _ _ rfl _ _ rfl rfl _ _ (hrun.out _) ?_)))
  all_goals go_ret
  all_goals exact ⟨_, _, rfl, ⟨rfl, World.ownsRow_made w.drew _ _ zR (by unfold maxLen; omega) hsz.out⟩, bR.drew.alloc zR _⟩
theorem concatS_calls (bS : Nat) (A : Option Addr) (n c : Nat) (B : Option Addr) (m d : Nat) (l r : List ByteArray) (w : World) (lo hi lo' hi' : Nat) (c0 : w.cell? ⟨bS, 0, none⟩ = some (.slice A n c)) (c1 : w.cell? ⟨bS, 1, none⟩ = some (.slice B m d)) (hbS : bS < w.heap.size) (h : SlS w lo hi A n l) (g : SlS w lo' hi' B m r) (hn : n ≤ 1048576) (hm : m ≤ 1048576) :
  Calls Tryz.prog 155 #[.slice (some ⟨bS, 0, none⟩) 2 2] w fun e w' => ∃ A' c', e = .returned (.slice A' (n + m) c') ∧ Own 1 strv w' w.heap.size 9 A' (n + m) c' (l ++ r) ∧ Below w.heap.size w w' := by
 have hE := hide elem_str;have hgrow := hide (growS_calls (n + m) w (by omega));replace h := hide h;replace g := hide g;go_enter Tryz.func155, Tryz.ntmps155
 go_wp2
 go_loop [3, 11] (fun s i => (i = .int .i64 ((0 : Nat) : Int) ∧ s = .int .i64 ((0 : Nat) : Int)) ∨ (i = .int .i64 ((1 : Nat) : Int) ∧ s = .int .i64 (n : Int)) ∨ (i = .int .i64 ((2 : Nat) : Int) ∧ s = .int .i64 ((n + m : Nat) : Int))) (fun _ i => 2 - (intOf i).toNat)
 case atStart => exact .inl ⟨rfl, rfl⟩
 case round =>
  rcases hrel with ⟨rfl, rfl⟩ | ⟨rfl, rfl⟩ | ⟨rfl, rfl⟩
  ·clear h g hgrow
   go_wp2
   go_round
   case rel => exact .inr (.inl ⟨by go_num, by go_num⟩)
   case measure => simp [intOf]
  ·clear h g hgrow
   go_wp2
   go_round
   case rel => exact .inr (.inr ⟨by go_num, by go_num⟩)
   case measure => simp [intOf]
  ·go_wp2_with (go_at_call 235; refine hgrow.out.mono ?_; rintro e w1 ⟨A1, c1', rfl, hown1, hb1⟩; replace hown1 := hide hown1)
   go_loopw [6, 27] (fun v i wr => ∃ (A2 : Option Addr) (c2 : Nat), ((i = .int .i64 ((0 : Nat) : Int) ∧ v = .slice A2 0 c2 ∧ Own 1 strv wr w.heap.size 9 A2 0 c2 []) ∨ (i = .int .i64 ((1 : Nat) : Int) ∧ v = .slice A2 n c2 ∧ Own 1 strv wr w.heap.size 9 A2 n c2 l) ∨ (i = .int .i64 ((2 : Nat) : Int) ∧ v = .slice A2 (n + m) c2 ∧ Own 1 strv wr w.heap.size 9 A2 (n + m) c2 (l ++ r))) ∧ Below w.heap.size w wr) (fun _ i _ => 2 - (intOf i).toNat)
   case atStart => exact ⟨A1, c1', .inl ⟨rfl, rfl, hown1.out⟩, hb1⟩
   case round =>
    clear hown1 hb1;obtain ⟨A2, c2, hcs, hb⟩ := hrel;have y0 := (hb.cell (p := ⟨bS, 0, none⟩) hbS).trans c0;have y1 := (hb.cell (p := ⟨bS, 1, none⟩) hbS).trans c1;have hz := hb.size
    rcases hcs with ⟨rfl, rfl, ho⟩ | ⟨rfl, rfl, ho⟩ | ⟨rfl, rfl, ho⟩
    ·replace ho := hide ho
     have hs := hide (h.out.below hb (.inr zR));go_wp2_with (first | (at_builtin; (with_reducible refine wpList_app rfl (.tmp 31) (.tmp 32) rfl hE.out flat_strv rfl ho.out rfl hs.out ?c1 hz ?_); rotate_right; intro A5 c5 w5 hown5 hgr5 hb5 _))
     case c1 => omega
     rw [Nat.zero_add, List.nil_append] at hown5;go_roundw
     case rel => exact ⟨A5, c5, .inr (.inl ⟨by go_num, rfl, hown5⟩), hb.trans hb5⟩
     case measure => simp [intOf]
    ·replace ho := hide ho
     have hs := hide (g.out.below hb (.inr zR));go_wp2_with (first | (at_builtin; (with_reducible refine wpList_app rfl (.tmp 31) (.tmp 32) rfl hE.out flat_strv rfl ho.out rfl hs.out ?c1 hz ?_); rotate_right; intro A5 c5 w5 hown5 hgr5 hb5 _))
     case c1 => omega
     go_roundw
     case rel => exact ⟨A5, c5, .inr (.inr ⟨by go_num, rfl, hown5⟩), hb.trans hb5⟩
     case measure => simp [intOf]
    ·replace ho := hide ho
     replace hb := hide hb
     go_wp2
     go_ret;exact ⟨A2, c2, rfl, ho.out, hb.out⟩
open Go.Lib Go.Sort
def shiftA (N : Nat) (a : Arc) : Arc := (a.1 + (N : Int), a.2.1, a.2.2 + (N : Int))
structure UniS (w wr : World) (Na ia : Nat) (A : Option Addr) (n c : Nat) (B : Option Addr) (m d : Nat) (Nb ib : Nat) (A' : Option Addr) (n' c' : Nat) (B' : Option Addr) (m' d' : Nat) : Prop where
 boxa : LtsBox wr w.heap.size (Na : Int) (ia : Int) A n c B m d
 boxb : LtsBox wr (w.heap.size + 1) (Nb : Int) (ib : Int) A' n' c' B' m' d'
 res : LtsBox wr (w.heap.size + 2) 0 0 none 0 0 none 0 0
 bel : Below w.heap.size w wr
section
variable {w wr w2 : World} {Na ia : Nat} {A : Option Addr} {n c : Nat} {B : Option Addr} {m d : Nat} {Nb ib : Nat} {A' : Option Addr} {n' c' : Nat} {B' : Option Addr} {m' d' : Nat}
theorem UniS.below (h : UniS w wr Na ia A n c B m d Nb ib A' n' c' B' m' d') {K : Nat} (hb : Below K wr w2) (hK : w.heap.size + 3 ≤ K) : UniS w w2 Na ia A n c B m d Nb ib A' n' c' B' m' d' :=
 ⟨h.boxa.below hb (by omega), h.boxb.below hb (by omega), h.res.below hb (by omega), h.bel.trans (hb.mono (by omega))⟩
theorem UniS.five (h : UniS w wr Na ia A n c B m d Nb ib A' n' c' B' m' d') : wr.cell? ⟨w.heap.size, 0, none⟩ = some (.int .i64 (Na : Int)) ∧ wr.cell? ⟨w.heap.size, 1, none⟩ = some (.int .i64 (ia : Int)) ∧ wr.cell? ⟨w.heap.size, 2, none⟩ = some (.slice A n c) ∧ wr.cell? ⟨w.heap.size + 1, 0, none⟩ = some (.int .i64 (Nb : Int)) ∧ wr.cell? ⟨w.heap.size + 1, 2, none⟩ = some (.slice A' n' c') :=
 ⟨h.boxa.c0, h.boxa.c1, h.boxa.c2, h.boxb.c0, h.boxb.c2⟩
theorem UniS.start (w : World) (Na ia : Nat) (A : Option Addr) (n c : Nat) (B : Option Addr) (m d : Nat) (Nb ib : Nat) (A' : Option Addr) (n' c' : Nat) (B' : Option Addr) (m' d' : Nat) :
  UniS w (((w.alloc (ltsC Na ia A n c B m d)).alloc (ltsC Nb ib A' n' c' B' m' d')).alloc (.cells #[.int .i64 0, .int .i64 0, .slice none 0 0, .slice none 0 0] 27)) Na ia A n c B m d Nb ib A' n' c' B' m' d' := by
 have z1 : (w.alloc (ltsC Na ia A n c B m d)).heap.size = w.heap.size + 1 := World.size_alloc _ _;have z2 : ((w.alloc (ltsC Na ia A n c B m d)).alloc (ltsC Nb ib A' n' c' B' m' d')).heap.size = w.heap.size + 2 := by rw [World.size_alloc, z1]
 have b1 := (Below.refl (w.heap.size + 1) (w.alloc (ltsC Na ia A n c B m d))).alloc (by omega) (ltsC Nb ib A' n' c' B' m' d');have b2 := (Below.refl (w.heap.size + 2) ((w.alloc (ltsC Na ia A n c B m d)).alloc (ltsC Nb ib A' n' c' B' m' d'))).alloc (by omega) (.cells #[.int .i64 0, .int .i64 0, .slice none 0 0, .slice none 0 0] 27);have x1 : LtsBox (w.alloc (ltsC Na ia A n c B m d)) w.heap.size (Na : Int) (ia : Int) A n c B m d := heap_alloc_new w _;have x2 : LtsBox ((w.alloc (ltsC Na ia A n c B m d)).alloc (ltsC Nb ib A' n' c' B' m' d')) (w.heap.size + 1) (Nb : Int) (ib : Int) A' n' c' B' m' d' := by rw [← z1]; exact heap_alloc_new _ _
 have x3 : LtsBox (((w.alloc (ltsC Na ia A n c B m d)).alloc (ltsC Nb ib A' n' c' B' m' d')).alloc (.cells #[.int .i64 0, .int .i64 0, .slice none 0 0, .slice none 0 0] 27)) (w.heap.size + 2) 0 0 none 0 0 none 0 0 := by rw [← z2]; exact heap_alloc_new _ _
 exact ⟨(x1.below b1 (by omega)).below b2 (by omega), x2.below b2 (by omega), x3, ((Below.refl w.heap.size w).alloc zR _).trans ((b1.mono (by omega)).trans (b2.mono (by omega)))⟩
end
theorem union_calls {w : World} {Na ia : Nat} {A : Option Addr} {n : Nat} {B : Option Addr} {m : Nat} {la : List ByteArray} {ea : List Ed} {Nb ib : Nat} {A' : Option Addr} {n' : Nat} {B' : Option Addr} {m' : Nat} {lb : List ByteArray} {eb : List Ed}
  (h : SysA w Na ia A n B m la ea) (g : SysA w Nb ib A' n' B' m' lb eb) (c d c' d' : Nat) :
  Calls Tryz.prog 229 #[.agg #[.int .i64 (Na : Int), .int .i64 (ia : Int), .slice A n c, .slice B m d], .agg #[.int .i64 (Nb : Int), .int .i64 (ib : Int), .slice A' n' c', .slice B' m' d']] w fun e w' => ∃ A2 n2 c2 A3 n3 c3, e = .returned (.agg #[.int .i64 ((Na : Int) + (Nb : Int)), .int .i64 (ia : Int), .slice A2 n2 c2, .slice A3 n3 c3]) ∧ SlS w' w.heap.size w'.heap.size A2 n2 (joiF (la ++ lb)) ∧ SlE w' w.heap.size w'.heap.size A3 n3 (ltsEs (la ++ lb) (ea.map (arcOf la) ++ (eb.map (arcOf lb)).map (shiftA Na))) ∧ Below w.heap.size w w' := by
 have hEa := hide elem_arc;obtain ⟨hm, hn12, hn1, hle, hll⟩ := h.many;obtain ⟨hm', hn12', hn1', hle', hll'⟩ := g.many;obtain ⟨⟨hNa, hNa2⟩, hia⟩ := h.bounds;obtain ⟨⟨hNb, hNb2⟩, hib⟩ := g.bounds;obtain ⟨w1, hw1⟩ : ∃ w1, w1 = (((w.alloc (ltsC Na ia A n c B m d)).alloc (ltsC Nb ib A' n' c' B' m' d')).alloc (.cells #[.int .i64 0, .int .i64 0, .slice none 0 0, .slice none 0 0] 27)) := ⟨_, rfl⟩;have hU1 : UniS w w1 Na ia A n c B m d Nb ib A' n' c' B' m' d' := by rw [hw1]; exact UniS.start _ _ _ _ _ _ _ _ _ _ _ _ _ _ _ _ _
 have hz1 := hU1.res.lt;have x0 := hU1.boxa.c0;have x1 := hU1.boxa.c1;have x2 := hU1.boxa.c2;have x3 := hU1.boxa.c3;have hqA := hide (arcs_calls (h.below hU1.bel zR) c d);obtain ⟨aa, haa⟩ : ∃ aa, aa = ea.map (arcOf la) := ⟨_, rfl⟩;obtain ⟨ab, hab⟩ : ∃ ab, ab = eb.map (arcOf lb) := ⟨_, rfl⟩;have habl : ab.length = m' := by rw [hab, List.length_map, hle']
 have hab2 : ∀ a, a ∈ ab → (0 ≤ a.1 ∧ a.1 ≤ 40) ∧ (0 ≤ a.2.2 ∧ a.2.2 ≤ 40) := fun a ha => by
  rw [hab] at ha;obtain ⟨e, he, rfl⟩ := List.mem_map.1 ha;have := g.ends e he;simp only [arcOf];omega
 rw [← haa, ← hab];rw [← haa] at hqA;replace hU1 := hide hU1;replace haa := hide haa;replace hle := hide hle;replace hll := hide hll;replace hle' := hide hle';replace hll' := hide hll';replace habl := hide habl;go_enter Tryz.func229, Tryz.ntmps229;go_upto_region 1 with fail;rw [show (((w.alloc (.cells #[.int .i64 (Na : Int), .int .i64 (ia : Int), .slice A n c, .slice B m d] 27)).alloc (.cells #[.int .i64 (Nb : Int), .int .i64 (ib : Int), .slice A' n' c', .slice B' m' d'] 27)).alloc (.cells #[.int .i64 0, .int .i64 0, .slice none 0 0, .slice none 0 0] 27)) = w1 from hw1.symm];replace hw1 := hide hw1;go_upto_region 2 with (first | (go_at_call 133; (with_reducible refine hqA.out.mono ?_); rintro e w2 ⟨QA, cA, rfl, hOA, hb2⟩));have hU2 := hU1.out.below hb2 (by omega);have y0 := hU2.boxb.c0;have y1 := hU2.boxb.c1;have y2 := hU2.boxb.c2;have y3 := hU2.boxb.c3;have hz2 := hb2.size;have hqB := arcs_calls (g.below hU2.bel zR) c' d';rw [← hab] at hqB;replace hqB := hide hqB;replace hab := hide hab;replace hOA := hide hOA;replace hU2 := hide hU2;clear x0 x1 x2 x3 hqA hb2;go_upto_region 3 with (first | (go_at_call 133; (with_reducible refine hqB.out.mono ?_); rintro e w3 ⟨QB, cB, rfl, hOB, hb3⟩; replace hOB := hide hOB; replace hb3 := hide hb3));have hU3 := hide (hU2.out.below hb3.out (by omega));have hOA3 := hide (hOA.out.below hb3.out zR);have hap3 : Hid (∀ q, (Value.slice QA m cA).ownBlock = some q → (Value.slice QB m' cB).ownBlock ≠ some q) := fun q h1 h2 => by
  have := (hOA.out.lt q h1).2;have := (hOB.out.lt q h2).1;omega
 have hOB3 := hide (hOB.out.sink hz2);have hz3 := hb3.out.size;clear hOA hOB hU2 hb3 hqB y0 y1 y2 y3
 go_loopw [5, 13] (fun v5 v13 wr => ∃ (k : Nat) (A5 : Option Addr) (c5 : Nat), k ≤ m' ∧ v13 = .int .i64 (k : Nat) ∧ v5 = .slice A5 (m + k) c5 ∧ Hid (UniS w wr Na ia A n c B m d Nb ib A' n' c' B' m' d') ∧ Hid (Own 3 av wr w1.heap.size 204 A5 (m + k) c5 (aa ++ (ab.take k).map (shiftA Na))) ∧ Hid (Own 3 av wr w1.heap.size 204 QB m' cB ab) ∧ Hid (∀ q, (Value.slice A5 (m + k) c5).ownBlock = some q → (Value.slice QB m' cB).ownBlock ≠ some q) ∧ w1.heap.size ≤ wr.heap.size) (fun _ v _ => m' - (intOf v).toNat)
 case atStart => exact ⟨0, QA, cA, Nat.zero_le _, rfl, rfl, hU3.out, (by show Own _ _ _ _ _ _ _ _ _; simpa using hOA3.out), hOB3.out, hap3.out, by omega⟩
 case round =>
  clear hU3 hOA3 hOB3 hap3;obtain ⟨k, A5, c5, hk, rfl, rfl, hU, hOA, hOB, hap, hzr⟩ := hrel
  by_cases hlt : k < m'
  ·obtain ⟨gB, oB, f, s, t, rfl, -, -, hgB, hx, x0, x1, x2⟩ := SlA.get (hOB.out.sl flat_av) hlt
   have hxb := hab2 _ (List.mem_of_getElem? hx)
   (try dsimp only at hxb)
   have k0 : (0 : Int) ≤ (k : Int) := by omega
   have k1 : (k : Int) < (m' : Int) := by omega
   have hf : IntKind.i64.wrap (f + (Na : Int)) = f + (Na : Int) := IntWalk.i64_in _ (by omega);have ht : IntKind.i64.wrap (t + (Na : Int)) = t + (Na : Int) := IntWalk.i64_in _ (by omega);have hes1 : Hid (aa ++ (ab.take (k + 1)).map (shiftA Na) = (aa ++ (ab.take k).map (shiftA Na)) ++ [(f + (Na : Int), s, t + (Na : Int))]) := by
    show _ = _
    rw [List.take_add_one, hx, List.map_append, List.append_assoc]
    rfl
   obtain ⟨wA, hwA⟩ : ∃ wA, wA = wr.alloc (.cells #[.int .i64 f, .string s, .int .i64 t] 204) := ⟨_, rfl⟩;have hbAA : Below wr.heap.size wr wA := by rw [hwA]; exact bR.alloc zR _
   have ka : wA.heap[wr.heap.size]? = some (.cells #[.int .i64 f, .string s, .int .i64 t] 204 (0, 0)) := by rw [hwA]; exact heap_alloc_new wr _
   have e0 := (cell_of_row _ _ 0 _ _ (0, 0) ka).trans (show _ = some (Value.int .i64 f) from rfl);have e1 := (cell_of_row _ _ 1 _ _ (0, 0) ka).trans (show _ = some (Value.string s) from rfl);have e2 := (cell_of_row _ _ 2 _ _ (0, 0) ka).trans (show _ = some (Value.int .i64 t) from rfl);have hUA := hU.out.below hbAA (by omega);have b0 := hUA.boxa.c0;obtain ⟨wL, hwL⟩ : ∃ wL, wL = wA.alloc (.cells #[.int .i64 (f + (Na : Int)), .string s, .int .i64 (t + (Na : Int))] 204) := ⟨_, rfl⟩;have hbL : Below wr.heap.size wr wL := hbAA.trans (by rw [hwL]; exact bR.alloc hbAA.size _);have hUL := hide (hU.out.below hbL (by omega));have hOAL := hide (hOA.out.below hbL zR);have hOBL := hide (hOB.out.below hbL zR);have hlit : Hid (Sl 3 av (wA.alloc (.cells #[.int .i64 (f + (Na : Int)), .string s, .int .i64 (t + (Na : Int))] 204)) 0 (wA.heap.size + 1) (some ⟨wA.heap.size, 0, none⟩) 1 [(f + (Na : Int), s, t + (Na : Int))]) := Sl.lit1' (f := av) wA 204 _ #[.int .i64 (f + (Na : Int)), .string s, .int .i64 (t + (Na : Int))] rfl 3 _ rfl;have hOAL2 := hOAL;rw [hwL] at hOAL2;have hsz : (m + k + 1) * 32 ≤ 140737488355328 := by omega
   have hza : w1.heap.size ≤ (wA.alloc (.cells #[.int .i64 (f + (Na : Int)), .string s, .int .i64 (t + (Na : Int))] 204)).heap.size := by rw [← hwL]; have := hbL.size; omega
   replace hx := hide hx;replace hbL := hide hbL;replace hwL := hide hwL;clear hbAA ka hUA;go_upto_region 5 with fail;rw [← show wA = _ from hwA];replace hwA := hide hwA;clear x0 x1 x2;generalize wr.heap.size = bA at *;go_wp2_with (first | (at_builtin; (with_reducible refine wpList_app rfl (.tmp 17) (.tmp 31) rfl hEa.out flat_av rfl hOAL2.out rfl hlit.out ?c1 hza ?_); rotate_right; intro A7 c7 w7 hown7 hgr7 hb7 hat7))
   case c1 => omega
   have hszL := hUL.out.res.lt;rw [hwL.out] at hUL hOBL hbL hszL;have hU7 := hide (hUL.out.below hb7 (by omega));have hz7 := hb7.size;have hne7 : ∀ q, (Value.slice (some (⟨gB, oB, none⟩ : Addr)) m' cB).ownBlock = some q → some q ≠ (Value.slice A5 (m + k) c5).ownBlock := fun q h1 h2 => hap.out q h2.symm h1
   have hOB7 := hide (hOBL.out.keep fun q hq => hgr7.block q (hOBL.out.lt q hq).2 (hne7 q hq));have hap7 : Hid (∀ q, (Value.slice A7 (m + k + 1) c7).ownBlock = some q → (Value.slice (some (⟨gB, oB, none⟩ : Addr)) m' cB).ownBlock ≠ some q) := fun q h1 h2 => by
    rcases hat7 with e | e
    ·exact hne7 q h2 (by rw [← h1, e])
    ·have h3 := (hOBL.out.lt q h2).2
     rw [h1] at e;have : q = _ := Option.some.inj e;omega
   have hO9 := hown7;rw [← hes1.out] at hO9;replace hO9 := hide hO9;clear hown7 hgr7 hb7 hat7 hUL hOBL hOAL hOAL2 hlit hU hOA hOB hap e0 e1 e2;go_roundw
   case rel => exact ⟨k + 1, A7, c7, by omega, by go_num, rfl, hU7.out, hO9.out, hOB7.out, hap7.out, by omega⟩
   case measure => simp [intOf]; omega
  ·have hkm : k = m' := by omega
   subst hkm;have hOA9 := hOA.out;rw [List.take_of_length_le (by rw [habl.out]; omega)] at hOA9;obtain ⟨wD, hwD⟩ : ∃ wD, wD = wr.drew := ⟨_, rfl⟩;have hbD : Below wr.heap.size wr wD := by rw [hwD]; exact bR.drew
   have hUD := hide (hU.out.below hbD (by omega));obtain ⟨wS, hwS⟩ : ∃ wS, wS = wD.alloc (.cells #[.slice A n c, .slice A' n' c'] 24) := ⟨_, rfl⟩;have hbS : Below wr.heap.size wr wS := hbD.trans (by rw [hwS]; exact bR.alloc hbD.size _);have hUS := hide (hU.out.below hbS (by omega));have hOAS := hide (hOA9.below hbS zR);have ks : wS.heap[wD.heap.size]? = some (.cells #[.slice A n c, .slice A' n' c'] 24 (0, 0)) := by rw [hwS]; exact heap_alloc_new wD _
   have hszS : w.heap.size + 3 ≤ wS.heap.size := by have := hbS.size; omega
   have hqC := hide (concatS_calls wD.heap.size A n c A' n' c' la lb wS _ _ _ _ (cR 0 ks) (cR 1 ks) (Array.getElem?_eq_some_iff.1 ks).1 (h.ss.below hUS.out.bel (.inr zR)) (g.ss.below hUS.out.bel (.inr zR)) (by omega) (by omega));have hsum : IntKind.i64.wrap ((Na : Int) + (Nb : Int)) = (Na : Int) + (Nb : Int) := IntWalk.i64_in _ (by omega);replace hwS := hide hwS;replace hwD := hide hwD;replace hbS := hide hbS;clear ks hbD hOA9 hOA hOB hap;go_upto_region 7 with fail;refine lateT_begin (S := fun w' => w'.cell? ⟨w.heap.size, 0, none⟩ = some (.int .i64 (Na : Int)) ∧ w'.cell? ⟨w.heap.size, 1, none⟩ = some (.int .i64 (ia : Int)) ∧ w'.cell? ⟨w.heap.size, 2, none⟩ = some (.slice A n c) ∧ w'.cell? ⟨w.heap.size + 1, 0, none⟩ = some (.int .i64 (Nb : Int)) ∧ w'.cell? ⟨w.heap.size + 1, 2, none⟩ = some (.slice A' n' c')) (st := 15) (by kernel_rfl) ?_;rw [← show wD = _ from hwD.out];have hS0 : (fun w' : World => w'.cell? ⟨w.heap.size, 0, none⟩ = some (.int .i64 (Na : Int)) ∧ w'.cell? ⟨w.heap.size, 1, none⟩ = some (.int .i64 (ia : Int)) ∧ w'.cell? ⟨w.heap.size, 2, none⟩ = some (.slice A n c) ∧ w'.cell? ⟨w.heap.size + 1, 0, none⟩ = some (.int .i64 (Nb : Int)) ∧ w'.cell? ⟨w.heap.size + 1, 2, none⟩ = some (.slice A' n' c')) wD := hUD.out.five;refine tkB 0 [15] hS0 ?_;refine tkB 1 [15] hS0 ?_;refine tkB 2 [15] hS0 ?_;refine tkB 3 [15] hS0 ?_;refine tkB 4 [15] hS0 ?_;refine tkB 5 [15] hS0 ?_;refine tkB 6 [15] hS0 ?_;refine tkB 7 [15] hS0 ?_;refine tkB 8 [15] hS0 ?_;refine tkB 9 [15] hS0 ?_;refine tkB 10 [15] hS0 ?_;refine tkB 13 [15] hS0 ?_;refine lS 11 fun K hK => ?_
   go_simp;rw [← show wS = _ from hwS.out]
   refine kP hK (fun _ => hUS.out.five) ?_;clear hK K;refine lS 12 fun K hK => ?_
   go_simp;go_at_call 155
   refine hqC.out.mono ?_;rintro e w6 ⟨A6, c6, rfl, hO6, hb6⟩;have hU6 := hide (hUS.out.below hb6 hszS);have hsl6 := hide (hO6.sl flat_strv);have hz6 := hb6.size;have hOA6 := hide (hOAS.out.below hb6 zR);go_wp2_with fail;refine kP hK (fun _ => hU6.out.five) ?_;clear hK K;refine lS 14 fun K hK => ?_
   have hqL := hide (lts_calls ((Na : Int) + (Nb : Int)) (ia : Int) A6 (n + n') c6 (la ++ lb) A5 (m + k) c5 (aa ++ ab.map (shiftA Na)) w6 _ _ _ _ hsl6.out zR (by omega) (hOA6.out.sl flat_av) zR (by omega));go_simp;go_at_call 134;refine hqL.out.mono ?_;rintro e w7 ⟨A2, n2, c2, A3, n3, c3, rfl, hS7, hO7, hb7⟩;have hU7 := hide (hU6.out.below hb7 (by omega));have hS7 := hide hS7;have hO7 := hide hO7;have r0 := hU7.out.res.c0;have r1 := hU7.out.res.c1;have r2 := hU7.out.res.c2;have r3 := hU7.out.res.c3;have v0 := hU7.out.res.f0;have v1 := hU7.out.res.f1;have v2 := hU7.out.res.f2;have v3 := hU7.out.res.f3;go_wp2_with fail;refine kP hK (fun _ => hU7.out.five) ?_;clear hK K;refine lS 15 fun K hK => ?_
   go_simp;refine kP hK nH ?_
   clear hK K;refine lateT_done (by kernel_rfl) ?_ _;go_wp2_with fail
   (try simp only [Exit.inBlock, Exit.then])
   refine bodyPost_ret_by (v := .agg #[.int .i64 ((Na : Int) + (Nb : Int)), .int .i64 (ia : Int), .slice A2 n2 c2, .slice A3 n3 c3]) ?_ rfl ?_
   focus
    rw [results_cell1 rfl];go_simp
   have hZs := put4_size w7 (w.heap.size + 1 + 1) (.int .i64 ((Na : Int) + (Nb : Int))) (.int .i64 (ia : Int)) (.slice A2 n2 c2) (.slice A3 n3 c3);have hz67 := hb7.size;have hw6 : w.heap.size + 3 ≤ w6.heap.size := by omega
   have hb77 := hU7.out.bel;have hf : ∀ q, q ≠ w.heap.size + 1 + 1 → (put4 w7 (w.heap.size + 1 + 1) (.int .i64 ((Na : Int) + (Nb : Int))) (.int .i64 (ia : Int)) (.slice A2 n2 c2) (.slice A3 n3 c3)).heap[q]? = w7.heap[q]? := fun q hq => put4_other _ _ _ _ _ _ hq
   refine ⟨A2, n2, c2, A3, n3, c3, rfl, ?_, ?_, ?_⟩
   ·change SlS (put4 w7 (w.heap.size + 1 + 1) _ _ _ _) _ (put4 w7 (w.heap.size + 1 + 1) _ _ _ _).heap.size _ _ _
    exact (Sl.keep hS7.out (by omega) fun q h1 h2 h3 => hf q (by omega)).more (by omega) (by omega)
   ·change SlE (put4 w7 (w.heap.size + 1 + 1) _ _ _ _) _ (put4 w7 (w.heap.size + 1 + 1) _ _ _ _).heap.size _ _ _
    exact (Sl.keep (hO7.out.sl flat_ev) (by omega) fun q h1 h2 h3 => hf q (by omega)).more (by omega) (by omega)
   ·change Below _ _ (put4 w7 (w.heap.size + 1 + 1) _ _ _ _)
    exact ⟨hb77.os, hb77.tape, hb77.output, by have := hb77.size; omega, fun q hq => (hf q (by omega)).trans (hb77.block q hq)⟩
end Go.Proofs.YtnhomkmfbngmgaaGreatDoor
namespace Go.Proofs.YtnhomkmfbngmgaaGreatDoor
def plcE (l : List Nat) (n : Nat) : Nat := (l.findIdx? fun x => decide (x = n)).getD l.length
def nrmE (l : List Nat) : Nat → List Int × List Nat
 | 0 => ([], [])
 | k + 1 => match l[k]? with
  | none => nrmE l k
  | some n => ((nrmE l k).1 ++ [(plcE (nrmE l k).2 n : Int)], if n ∈ (nrmE l k).2 then (nrmE l k).2 else (nrmE l k).2 ++ [n])
end Go.Proofs.YtnhomkmfbngmgaaGreatDoor
