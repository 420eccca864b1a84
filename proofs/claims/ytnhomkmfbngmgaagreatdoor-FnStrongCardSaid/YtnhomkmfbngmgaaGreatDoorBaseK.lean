/-
  Several texts in one:
  Validity of systems whose edges were sorted; part and quotient in plain words. Conditions: none.
  The part and the quotient of a valid system are valid. Conditions: none.
  A system and its minimal one are bisimilar. Conditions: none.
  AreBisimilar says yes of a system and its minimal one. Conditions: none.
  The minimal system's classes are single states. Conditions: none.
  laws.r8Has, laws.r8Blocks. Conditions: sizes.
  Ascending lists with the same members: plain. Conditions: none.
  A number put to its place among ascending ones: plain. Conditions: the numbers ascend.
  A number put to its place among ascending ones, by the reference. Conditions: the numbers ascend; at most 1048000 of them.
  spec.l13Sign: the signature of a state. Conditions: sizes.
  The reference's refinement of a partition is the program's: plain. Conditions: none.
  A growing row of lists of numbers of any lengths, each in a block of its own. Conditions: none.
  spec.l00Same: equality of lists of numbers. Conditions: at most 1048576 elements.
-/
import Derived.Test.YtnhomkmfbngmgaaGreatDoorBaseA
import Derived.Test.YtnhomkmfbngmgaaGreatDoorBaseE
import Derived.Test.YtnhomkmfbngmgaaGreatDoorBaseG
import Derived.Test.YtnhomkmfbngmgaaGreatDoorBaseI
import Derived.Test.YtnhomkmfbngmgaaGreatDoorBaseJ
import Derived.Deep.LoopGhost
import Derived.Deep.RegionLaw
import Derived.StillTailTactics
set_option linter.unusedSimpArgs false
set_option linter.unusedVariables false
namespace Go.Proofs.YtnhomkmfbngmgaaGreatDoor
open Go.ChangeShapes Go.WideShapes Go.ChangeAt Go.RowKit Go.Sort Go.Lib
set_option linter.unusedVariables false
set_option linter.unusedSimpArgs false

theorem compactE_rise {l : List Ed} (h : l.Pairwise fun x y => edLess y x = false) : RisE (Lib.compact l) := by
  unfold RisE Lib.compact Lib.compactUpTo
  rw [List.pairwise_map]
  refine List.Pairwise.imp_of_mem (fun {p q} hp hq hpq => ?_) (List.Pairwise.filter _ (List.pairwise_lt_range (n := l.length)))
  obtain ⟨hp1, -⟩ := List.mem_filter.1 hp
  obtain ⟨hq1, hq2⟩ := List.mem_filter.1 hq
  have hp1 := List.mem_range.1 hp1
  have hq1 := List.mem_range.1 hq1
  unfold Lib.keeps at hq2
  rw [decide_eq_true_eq] at hq2
  have hne : l.toArray[q]! ≠ l.toArray[q - 1]! := hq2.resolve_left (by omega)
  rw [getElem!_pos _ q (by simpa using hq1), getElem!_pos _ (q - 1) (by simp; omega)] at hne
  rw [getElem!_pos _ p (by simpa using hp1), getElem!_pos _ q (by simpa using hq1)]
  simp only [List.getElem_toArray] at hne ⊢
  have h1 := List.pairwise_iff_getElem.1 h (q - 1) q (by omega) hq1 (by omega)
  have h2 : edLess l[q - 1] l[q] = true := by
    rcases edLess_total (fun e => hne e.symm) with g | g
    · exact g
    · rw [h1] at g; cases g
  by_cases e : p = q - 1
  · subst e; exact h2
  · have h3 := List.pairwise_iff_getElem.1 h p (q - 1) hp1 (by omega) (by omega)
    by_cases e2 : l[p] = l[q - 1]
    · rw [e2]; exact h2
    · rcases edLess_total e2 with g | g
      · exact edLess_trans g h2
      · rw [h3] at g; cases g
theorem sortE_rise {l : List Ed} (hn : l.Nodup) : RisE (sortE l) := by
  have h1 := sortE_le l
  have h2 : (sortE l).Nodup := (List.mergeSort_perm l _).nodup_iff.2 hn
  refine List.pairwise_iff_getElem.2 fun i j hi hj hij => ?_
  have h3 := List.pairwise_iff_getElem.1 h1 i j hi hj hij
  have h4 := List.pairwise_iff_getElem.1 h2 i j hi hj hij
  rcases edLess_total h4 with g | g
  · exact g
  · rw [h3] at g; cases g
theorem rise_nodup {l : List Ed} (h : RisE l) : l.Nodup := h.imp fun {a b} g e => by rw [e, edLess_irr] at g; cases g
/-- What makes a system valid. -/
theorem ltsV_of {st ini : Int} {ls : List ByteArray} {es : List Ed} (h1 : 1 ≤ st ∧ st ≤ 40) (h2 : 0 ≤ ini ∧ ini < st) (hn : namesB ls = true) (hes : es.length ≤ 300) (hr : RisE es)
    (he : ∀ e, e ∈ es → (0 ≤ e.1 ∧ e.1 < st) ∧ (0 ≤ e.2.1 ∧ e.2.1 < (ls.length : Int)) ∧ 0 ≤ e.2.2 ∧ e.2.2 < st) : ltsV (st, ini, ls, es) = true := by
  rw [ltsV_eq]
  simp only [Bool.and_eq_true, decide_eq_true_eq]
  refine ⟨⟨inB_true.2 (by omega), inB_true.2 (by omega), hn, hes⟩, allK_good fun k hk => ?_⟩
  obtain ⟨⟨f, lb, t⟩, hx⟩ : ∃ x, es[k]? = some x := ⟨_, List.getElem?_eq_getElem hk⟩
  have hb := he _ (List.mem_of_getElem? hx)
  (try dsimp only at hb)
  have b1 : inB f 0 (st - 1) = true := inB_true.2 (by omega)
  have b2 : inB t 0 (st - 1) = true := inB_true.2 (by omega)
  have b3 : inB lb 0 ((ls.length : Int) - 1) = true := inB_true.2 (by omega)
  by_cases k0 : k = 0
  · subst k0
    have := okE_zero (st := st) (m := ls.length) hx
    rw [this, b1, b2, b3]; rfl
  · obtain ⟨r, hrr⟩ : ∃ r, es[k - 1]? = some r := ⟨_, List.getElem?_eq_getElem (by omega)⟩
    have := okE_at (st := st) (m := ls.length) hx (by omega) hrr
    rw [this, b1, b2, b3]
    have p := List.pairwise_iff_getElem.1 hr (k - 1) k (by omega) hk (by omega)
    rw [(List.getElem?_eq_some_iff.1 hrr).2, (List.getElem?_eq_some_iff.1 hx).2] at p
    rw [p]; rfl
/-- What validity says of the names and the order. -/
theorem ltsV_names {st ini : Int} {ls : List ByteArray} {es : List Ed} (h : ltsV (st, ini, ls, es) = true) : namesB ls = true ∧ es.length ≤ 300 := by
  rw [ltsV_eq] at h
  simp only [Bool.and_eq_true, decide_eq_true_eq] at h
  exact ⟨h.1.2.2.1, h.1.2.2.2⟩
theorem rise_near {es : List Ed} (h : ∀ k r e, 0 < k → es[k - 1]? = some r → es[k]? = some e → edLess r e = true) : RisE es := by
  have key : ∀ d i (hi : i < es.length) (hj : i + 1 + d < es.length), edLess es[i] es[i + 1 + d] = true := by
    intro d
    induction d with
    | zero => exact fun i hi hj => h (i + 1) _ _ (by omega) (List.getElem?_eq_getElem hi) (List.getElem?_eq_getElem hj)
    | succ d ih => exact fun i hi hj => edLess_trans (ih i hi (by omega)) (h (i + 1 + (d + 1)) _ _ (by omega) (List.getElem?_eq_getElem (show i + 1 + (d + 1) - 1 < es.length by omega)) (List.getElem?_eq_getElem hj))
  refine List.pairwise_iff_getElem.2 fun i j hi hj hij => ?_
  have := key (j - i - 1) i hi (by omega)
  have e : i + 1 + (j - i - 1) = j := by omega
  simpa only [e] using this
theorem ltsV_rise {st ini : Int} {ls : List ByteArray} {es : List Ed} (h : ltsV (st, ini, ls, es) = true) : RisE es := by
  rw [ltsV_eq] at h
  simp only [Bool.and_eq_true] at h
  refine rise_near fun k r e hk hr he => ?_
  obtain ⟨f, lb, t⟩ := e
  have h1 := allK_get h.2 (List.getElem?_eq_some_iff.1 he).1
  rw [okE_at he hk hr] at h1
  simp only [Bool.and_eq_true] at h1
  exact h1.2
/-- The part in plain words. -/
theorem partF_part {S : List Int} {es : List Ed} (hn : S.Nodup) : PartE S es (partF S es) := by
  intro f l t
  unfold partF
  rw [sortE_mem, List.mem_filterMap]
  constructor
  · rintro ⟨⟨a, l', b⟩, he, h⟩
    unfold partO at h
    dsimp only at h
    by_cases c : 0 ≤ posZ S a ∧ 0 ≤ posZ S b
    · rw [if_pos c] at h
      injection h with h
      injection h with h1 h2
      injection h2 with h2 h3
      obtain ⟨i, hi⟩ : ∃ i : Nat, posZ S a = (i : Int) := ⟨(posZ S a).toNat, by omega⟩
      obtain ⟨j, hj⟩ : ∃ j : Nat, posZ S b = (j : Int) := ⟨(posZ S b).toNat, by omega⟩
      exact ⟨i, j, a, b, by omega, by omega, (posZ_at hn).1 hi, (posZ_at hn).1 hj, h2 ▸ he⟩
    · rw [if_neg c] at h
      cases h
  · rintro ⟨i, j, a, b, rfl, rfl, hi, hj, he⟩
    refine ⟨(a, l, b), he, ?_⟩
    have h1 := (posZ_at hn).2 hi
    have h2 := (posZ_at hn).2 hj
    unfold partO
    dsimp only
    rw [h1, h2, if_pos ⟨by omega, by omega⟩]
/-- The quotient in plain words. -/
theorem quoF_quo {p : List Int} {es : List Ed} (hb : ∀ e, e ∈ es → e.1.toNat < p.length ∧ e.2.2.toNat < p.length) : QuoE p es (quoF p (fun _ => true) es) := by
  intro f l t
  unfold quoF
  rw [compactE_mem, sortE_mem, List.filter_eq_self.2 (fun _ _ => rfl), List.mem_map]
  constructor
  · rintro ⟨e, he, h⟩
    unfold quoO pv at h
    injection h with h1 h2
    injection h2 with h2 h3
    have hh := hb e he
    rw [List.getElem?_eq_getElem hh.1, Option.getD_some] at h1
    rw [List.getElem?_eq_getElem hh.2, Option.getD_some] at h3
    exact ⟨e, he, by rw [List.getElem?_eq_getElem hh.1, h1], h2, by rw [List.getElem?_eq_getElem hh.2, h3]⟩
  · rintro ⟨e, he, h1, h2, h3⟩
    refine ⟨e, he, ?_⟩
    unfold quoO pv
    rw [h1, h3, h2]
    rfl
end Go.Proofs.YtnhomkmfbngmgaaGreatDoor

namespace Go.Proofs.YtnhomkmfbngmgaaGreatDoor
open Go.ChangeShapes Go.WideShapes Go.ChangeAt Go.RowKit Go.Sort Go.Lib
set_option linter.unusedVariables false
set_option linter.unusedSimpArgs false

theorem posZ_inj {l : List Int} {u v : Int} (h : posZ l u = posZ l v) (h0 : 0 ≤ posZ l u) : u = v := by
  unfold posZ at h h0
  by_cases hu : u ∈ l
  · by_cases hv : v ∈ l
    · rw [if_pos hu, if_pos hv] at h
      have h2 : l.idxOf u < l.length := List.idxOf_lt_length_iff.2 hu
      have h3 : l.idxOf v < l.length := List.idxOf_lt_length_iff.2 hv
      have e : l.idxOf u = l.idxOf v := by omega
      have g1 : l[l.idxOf u] = u := List.getElem_idxOf h2
      have g2 : l[l.idxOf v] = v := List.getElem_idxOf h3
      rw [← g1, ← g2]
      congr 1
    · rw [if_pos hu, if_neg hv] at h
      omega
  · rw [if_neg hu] at h0
    omega
theorem filterMap_nodup {α β : Type} {f : α → Option β} (hf : ∀ a b c, f a = some c → f b = some c → a = b) : ∀ {l : List α}, l.Nodup → (l.filterMap f).Nodup
  | [], _ => List.nodup_nil
  | a :: r, h => by
    obtain ⟨h1, h2⟩ := List.nodup_cons.1 h
    cases hfa : f a with
    | none => rw [List.filterMap_cons_none hfa]; exact filterMap_nodup hf h2
    | some c =>
      rw [List.filterMap_cons_some hfa]
      refine List.nodup_cons.2 ⟨fun hm => ?_, filterMap_nodup hf h2⟩
      obtain ⟨b, hb, e⟩ := List.mem_filterMap.1 hm
      exact h1 (hf a b c hfa e ▸ hb)
theorem partF_rise {S : List Int} {es : List Ed} (h : RisE es) : RisE (partF S es) := by
  unfold partF
  refine sortE_rise (filterMap_nodup (fun a b c ha hb => ?_) (rise_nodup h))
  unfold partO at ha hb
  by_cases c1 : 0 ≤ posZ S a.1 ∧ 0 ≤ posZ S a.2.2
  · by_cases c2 : 0 ≤ posZ S b.1 ∧ 0 ≤ posZ S b.2.2
    · rw [if_pos c1] at ha
      rw [if_pos c2] at hb
      have e := Option.some.inj (ha.trans hb.symm)
      injection e with e1 e2
      injection e2 with e2 e3
      have g1 := posZ_inj e1 c1.1
      have g3 := posZ_inj e3 c1.2
      obtain ⟨x, y, z⟩ := a
      obtain ⟨x', y', z'⟩ := b
      simp only at g1 g3 e2
      rw [g1, g3, e2]
    · rw [if_neg c2] at hb; cases hb
  · rw [if_neg c1] at ha; cases ha
theorem partF_len {S : List Int} {es : List Ed} : (partF S es).length ≤ es.length := by
  unfold partF
  rw [sortE_len]
  exact List.length_filterMap_le _ _
theorem quoF_rise {p : List Int} {G : Ed → Bool} {es : List Ed} : RisE (quoF p G es) := compactE_rise (sortE_le _)
theorem quoF_len {p : List Int} {G : Ed → Bool} {es : List Ed} : (quoF p G es).length ≤ es.length := by
  unfold quoF
  refine Nat.le_trans (compactE_len _) ?_
  rw [sortE_len, List.length_map]
  exact List.length_filter_le _ _
theorem part_valid {N ini : Nat} {ls : List ByteArray} {es : List Ed} {S : List Int} (h : ltsV ((N : Int), (ini : Int), ls, es) = true) (hn : S.Nodup) (hS : S.length ≤ 40) (hi : (ini : Int) ∈ S) :
    ltsV ((S.length : Int), posZ S (ini : Int), ls, partF S es) = true ∧ 0 ≤ posZ S (ini : Int) := by
  have h2 : S.idxOf (ini : Int) < S.length := List.idxOf_lt_length_iff.2 hi
  have hp : posZ S (ini : Int) = ((S.idxOf (ini : Int) : Nat) : Int) := by unfold posZ; rw [if_pos hi]
  have hnm := ltsV_names h
  have hl := partF_len (S := S) (es := es)
  refine ⟨ltsV_of (by omega) (by omega) hnm.1 (by omega) (partF_rise (ltsV_rise h)) fun e he => ?_, by omega⟩
  obtain ⟨f, l, t⟩ := e
  obtain ⟨i, j, a, b, rfl, rfl, hi, hj, hm⟩ := (partF_part hn f l t).1 he
  have h1 := (List.getElem?_eq_some_iff.1 hi).1
  have h3 := (List.getElem?_eq_some_iff.1 hj).1
  have h4 := ((ltsV_edge h).1 _ hm).2.1
  dsimp only at h4 ⊢
  omega
theorem max_numB {N : Nat} {p : List Int} {M : Int} (hp : PartN N p) (hM : MaxL p M) : M + 1 = (numB p : Int) := by
  have h1 := part_lt hp hM.1
  have h2 : 0 < numB p := by omega
  have h3 := hM.2 _ (part_mem hp (show numB p - 1 < numB p by omega))
  omega
theorem quo_valid {N ini : Nat} {ls : List ByteArray} {es : List Ed} {p : List Int} {M : Int} (h : ltsV ((N : Int), (ini : Int), ls, es) = true) (hp : PartN N p) (hM : MaxL p M) :
    ltsV (M + 1, pv p (ini : Int), ls, quoF p (fun _ => true) es) = true ∧ 0 ≤ pv p (ini : Int) := by
  have hed := ltsV_edge h
  have hb : ∀ e, e ∈ es → e.1.toNat < p.length ∧ e.2.2.toNat < p.length := fun e he => by
    have := hed.1 e he
    rw [hp.len]
    omega
  have hnm := ltsV_names h
  have hl := quoF_len (p := p) (G := fun _ => true) (es := es)
  have hnb := max_numB hp hM
  have hle : numB p ≤ N := by
    have h1 := numB_le p
    rw [hp.len] at h1
    exact h1
  have hpi : (pv p (ini : Int)) ∈ p := by
    unfold pv
    rw [Int.toNat_natCast, List.getElem?_eq_getElem (show ini < p.length by rw [hp.len]; omega), Option.getD_some]
    exact List.getElem_mem _
  have hr := part_lt hp hpi
  refine ⟨ltsV_of (by omega) (by omega) hnm.1 (by omega) quoF_rise fun e he => ?_, hr.1⟩
  obtain ⟨f, l, t⟩ := e
  obtain ⟨e, hm, h1, h2, h3⟩ := (quoF_quo hb f l t).1 he
  have g1 := part_lt hp (List.mem_of_getElem? h1)
  have g3 := part_lt hp (List.mem_of_getElem? h3)
  have g2 := (hed.1 e hm).2.1
  dsimp only
  omega
end Go.Proofs.YtnhomkmfbngmgaaGreatDoor

namespace Go.Proofs.YtnhomkmfbngmgaaGreatDoor
open Go.ChangeShapes Go.WideShapes Go.ChangeAt Go.RowKit Go.Sort Go.Lib
set_option linter.unusedVariables false
set_option linter.unusedSimpArgs false

theorem reach_mem {N : Nat} {es : List Ed} {ini a : Int} : a ∈ reachF N es ini ↔ ∃ k : Nat, a = (k : Int) ∧ k < N ∧ ReachE es ini k := by
  unfold reachF
  rw [List.mem_map]
  constructor
  · rintro ⟨k, hk, rfl⟩
    obtain ⟨h1, h2⟩ := List.mem_filter.1 hk
    exact ⟨k, rfl, List.mem_range.1 h1, reachB_true.1 h2⟩
  · rintro ⟨k, rfl, h1, h2⟩
    exact ⟨k, List.mem_filter.2 ⟨List.mem_range.2 h1, reachB_true.2 h2⟩, rfl⟩
theorem reach_ini {N ini : Nat} {es : List Ed} (h : ini < N) : (ini : Int) ∈ reachF N es (ini : Int) :=
  reach_mem.2 ⟨ini, rfl, h, 0, by simp [lay, srcE]⟩
theorem reach_closed {N : Nat} {es : List Ed} {ini : Int} (he : EdIn N es) (a l b : Int) (ha : a ∈ reachF N es ini) (h : (a, l, b) ∈ es) : b ∈ reachF N es ini := by
  obtain ⟨k, rfl, h1, h2⟩ := reach_mem.1 ha
  have h3 := he _ h
  dsimp only at h3
  obtain ⟨j, rfl⟩ : ∃ j : Nat, b = (j : Int) := ⟨b.toNat, by omega⟩
  exact reach_mem.2 ⟨j, rfl, by omega, h2.step ⟨_, h, by simp⟩⟩
theorem bis_tE {ls : List ByteArray} {ea eb : List Ed} {x y : Nat} (h : Bis (nE ea) (nE eb) x y) : Bis (tE ls ea) (tE ls eb) x y := by
  obtain ⟨R, h1, h2⟩ := h
  refine ⟨R, ⟨fun a b s a' r g => ?_, fun a b s b' r g => ?_⟩, h2⟩
  · obtain ⟨l, g1, g2⟩ := g
    obtain ⟨b', k1, k2⟩ := h1.fwd a b _ a' r g1
    exact ⟨b', ⟨l, k1, g2⟩, k2⟩
  · obtain ⟨l, g1, g2⟩ := g
    obtain ⟨a', k1, k2⟩ := h1.bwd a b _ b' r g1
    exact ⟨a', ⟨l, k1, g2⟩, k2⟩
theorem part_in {N : Nat} {es : List Ed} {S : List Int} (he : EdIn N es) (hn : S.Nodup) : EdIn S.length (partF S es) := by
  rintro ⟨f, l, t⟩ hm
  obtain ⟨i, j, a, b, rfl, rfl, hi, hj, hx⟩ := (partF_part hn f l t).1 hm
  have h1 := (List.getElem?_eq_some_iff.1 hi).1
  have h2 := (List.getElem?_eq_some_iff.1 hj).1
  have h3 := he _ hx
  dsimp only at h3 ⊢
  omega
/-- The system and the quotient of its reachable part. -/
theorem min_bis {N ini r iR c : Nat} {es : List Ed} {R : List Int} (he : EdIn N es) (hR : R = reachF N es (ini : Int)) (hn : R.Nodup) (hini : ini < N) (hL : LastR (partF R es) R.length r) (hi : posZ R (ini : Int) = (iR : Int)) (hc : pv (rndP (partF R es) R.length r) (iR : Int) = (c : Int)) :
    Bis (nE es) (nE (quoF (rndP (partF R es) R.length r) (fun _ => true) (partF R es))) ini c := by
  have hat := (posZ_at hn).1 hi
  have hlt := (List.getElem?_eq_some_iff.1 hat).1
  have h1 := part_bis (es := es) (es2 := partF R es) (partF_part hn) (fun a l b ha hm => by rw [hR] at ha ⊢; exact reach_closed he a l b ha hm) hn (fun a ha => by
    rw [hR] at ha
    obtain ⟨k, rfl, -⟩ := reach_mem.1 ha
    omega) hat
  have hE1 := part_in he hn
  have hp : PartN R.length (rndP (partF R es) R.length r) := rnd_part r
  have h2 := quo_bis hE1 hp (last_stable hL) (quoF_quo fun e hm => by
    have := hE1 e hm
    rw [hp.len]
    omega) hlt (c := c) (by
    unfold pv at hc
    rw [Int.toNat_natCast] at hc
    rw [List.getElem?_eq_getElem (show iR < (rndP (partF R es) R.length r).length by rw [hp.len]; exact hlt)] at hc ⊢
    rw [Option.getD_some] at hc
    rw [hc])
  exact h1.trans h2
end Go.Proofs.YtnhomkmfbngmgaaGreatDoor

namespace Go.Proofs.YtnhomkmfbngmgaaGreatDoor
open Go.ChangeShapes Go.WideShapes Go.ChangeAt Go.RowKit Go.Sort Go.Lib
set_option linter.unusedVariables false
set_option linter.unusedSimpArgs false

theorem joi_nodup (l : List ByteArray) : (joiF l).Nodup := by
  unfold joiF
  refine List.Pairwise.map ofL (fun a b h e => ?_) (compact_rise (sortL_rise _))
  have : a = b := by rw [← toL_ofL a, ← toL_ofL b, e]
  rw [this, ltL_irr] at h
  cases h
theorem uni_lab {la : List ByteArray} {ea : List Ed} {lb : List ByteArray} {eb : List Ed} {Na : Nat}
    (ha : ∀ e, e ∈ ea → 0 ≤ e.2.1 ∧ e.2.1 < (la.length : Int)) (hb : ∀ e, e ∈ eb → 0 ≤ e.2.1 ∧ e.2.1 < (lb.length : Int)) :
    ∀ e, e ∈ uniE la ea lb eb Na → 0 ≤ e.2.1 ∧ e.2.1 < ((joiF (la ++ lb)).length : Int) := by
  intro e he
  obtain ⟨a, hm, rfl⟩ := ltsEs_mem.1 he
  have lab : ∀ s, s ∈ la ++ lb → 0 ≤ idxZ (joiF (la ++ lb)) s ∧ idxZ (joiF (la ++ lb)) s < ((joiF (la ++ lb)).length : Int) := fun s hs => by
    obtain ⟨k, h1, h2⟩ := idxZ_get ((joi_mem_iff (la ++ lb) s).2 (.inr hs))
    have := (List.getElem?_eq_some_iff.1 h2).1
    omega
  unfold uniA at hm
  rcases List.mem_append.1 hm with h | h
  · obtain ⟨x, hx, rfl⟩ := List.mem_map.1 h
    exact lab _ (List.mem_append_left lb (arcOf_mem (ha x hx)))
  · obtain ⟨y, hy, rfl⟩ := List.mem_map.1 h
    obtain ⟨x, hx, rfl⟩ := List.mem_map.1 hy
    exact lab _ (List.mem_append_right la (arcOf_mem (hb x hx)))
/-- The classes of the union tell what the texts tell. -/
theorem uni_alike {la : List ByteArray} {ea : List Ed} {lb : List ByteArray} {eb : List Ed} {Na Nb r x y : Nat} (hla : la.length ≤ 100) (hlb : lb.length ≤ 100)
    (ha : ∀ e, e ∈ ea → (0 ≤ e.1 ∧ e.1 < (Na : Int)) ∧ (0 ≤ e.2.1 ∧ e.2.1 < (la.length : Int)) ∧ (0 ≤ e.2.2 ∧ e.2.2 < (Na : Int)))
    (hb : ∀ e, e ∈ eb → (0 ≤ e.1 ∧ e.1 < (Nb : Int)) ∧ (0 ≤ e.2.1 ∧ e.2.1 < (lb.length : Int)) ∧ (0 ≤ e.2.2 ∧ e.2.2 < (Nb : Int)))
    (hL : LastR (uniE la ea lb eb Na) (Na + Nb) r) (hx : x < Na) (hy : y < Nb) :
    (rndP (uniE la ea lb eb Na) (Na + Nb) r)[x]? = (rndP (uniE la ea lb eb Na) (Na + Nb) r)[Na + y]? ↔ Bis (tE la ea) (tE lb eb) x y := by
  have hE : tE (joiF (la ++ lb)) (uniE la ea lb eb Na) = sumE Na (tE la ea) (tE lb eb) := by
    funext a s b
    exact propext (uni_tE ha fun e he => ⟨(hb e he).1.1, (hb e he).2.1, (hb e he).2.2.1⟩)
  have h1 := str_iff (uni_in hla hlb ha hb).1 hL (x := x) (y := Na + y) (by omega) (by omega)
  have h2 := bis_text (joi_nodup (la ++ lb)) (uni_lab (Na := Na) (fun e he => (ha e he).2.1) (fun e he => (hb e he).2.1)) (x := x) (y := Na + y)
  rw [hE] at h2
  have h3 := bis_sum (A := tE la ea) (B := tE lb eb) (n := Na) (a := x) (b := y) (fun a s b hh => by
    obtain ⟨l, g1, g2⟩ := hh
    have := ha _ g1
    dsimp only at this
    omega) hx
  exact h1.trans (h2.trans h3)
end Go.Proofs.YtnhomkmfbngmgaaGreatDoor

namespace Go.Proofs.YtnhomkmfbngmgaaGreatDoor
open Go.ChangeShapes Go.WideShapes Go.ChangeAt Go.RowKit Go.Sort Go.Lib
set_option linter.unusedVariables false
set_option linter.unusedSimpArgs false

theorem quo_in {N r : Nat} {es : List Ed} (he : EdIn N es) : EdIn (numB (rndP es N r)) (quoF (rndP es N r) (fun _ => true) es) := by
  have hp : PartN N (rndP es N r) := rnd_part r
  rintro ⟨f, l, t⟩ hm
  obtain ⟨e, h0, h1, h2, h3⟩ := (quoF_quo (fun e hx => by
    have := he e hx
    rw [hp.len]
    omega) f l t).1 hm
  have g1 := part_lt hp (List.mem_of_getElem? h1)
  have g3 := part_lt hp (List.mem_of_getElem? h3)
  have g2 := he e h0
  dsimp only
  omega
theorem min_single {N r r2 : Nat} {es : List Ed} (he : EdIn N es) (hL : LastR es N r) (hL2 : LastR (quoF (rndP es N r) (fun _ => true) es) (numB (rndP es N r)) r2) :
    numB (rndP (quoF (rndP es N r) (fun _ => true) es) (numB (rndP es N r)) r2) = numB (rndP es N r) := by
  have hp : PartN N (rndP es N r) := rnd_part r
  have hq : QuoE (rndP es N r) es (quoF (rndP es N r) (fun _ => true) es) := quoF_quo fun e hx => by
    have := he e hx
    rw [hp.len]
    omega
  have hp2 : PartN (numB (rndP es N r)) (rndP (quoF (rndP es N r) (fun _ => true) es) (numB (rndP es N r)) r2) := rnd_part r2
  have h := numB_single (p := rndP (quoF (rndP es N r) (fun _ => true) es) (numB (rndP es N r)) r2) fun i j hi hj hs => by
    rw [hp2.len] at hi hj
    exact quo_apart he hL hq (part_mem hp hi) (part_mem hp hj) ((str_iff (quo_in he) hL2 hi hj).1 hs)
  rw [h, hp2.len]
end Go.Proofs.YtnhomkmfbngmgaaGreatDoor

namespace Go.Proofs.YtnhomkmfbngmgaaGreatDoor
open Go.ChangeShapes Go.WideShapes Go.ChangeAt Go.RowKit Go.Sort Go.Lib
set_option linter.unusedVariables false
set_option linter.unusedSimpArgs false

set_option maxRecDepth 100000 in
set_option maxHeartbeats 1600000 in
theorem r8Has_calls (v : Int) (A : Option Addr) (n c : Nat) (l : List Int) (w : World) (lo hi : Nat) (h : SlI w lo hi A n l) (hn : n ≤ 1048576) :
    Calls Tryz.prog 47 #[.slice A n c, .int .i64 v] w fun e w' => e = .returned (.bool (decide (v ∈ l))) ∧ w' = w := by
  have hlen := hide h.len
  go_enter Tryz.func47, Tryz.ntmps47
  go_wp2_with fail
  go_loopw [5] (fun i wr => ∃ k : Nat, k ≤ n ∧ i = .int .i64 (k : Nat) ∧ Hid (v ∉ l.take k) ∧ wr = w) (fun i _ => n - (intOf i).toNat)
  case atStart => exact ⟨0, Nat.zero_le _, rfl, (by show ¬ _; rw [List.take_zero]; exact List.not_mem_nil), rfl⟩
  case round =>
    obtain ⟨k, hk, rfl, ha, rfl⟩ := hrel
    by_cases hlt : k < n
    · obtain ⟨b, off, x, rfl, g1, g2, g3, hx, c0, -⟩ := SlI.get h hlt
      have k0 : (0 : Int) ≤ (k : Int) := by omega
      have k1 : (k : Int) < (n : Int) := by omega
      clear h
      by_cases hq : x = v
      · subst hq
        have hm : Hid (decide (x ∈ l) = true) := decide_eq_true (List.mem_of_getElem? hx)
        have hself : (x == x) = true := by simp
        replace hx := hide hx
        go_wp2_with fail
        go_ret
        exact ⟨ret_b hm.out, rfl⟩
      · have hy : Hid (v ∉ l.take (k + 1)) := by
          show ¬ _
          rw [List.take_add_one, hx, List.mem_append]
          rintro (h1 | h1)
          · exact ha.out h1
          · exact hq (List.mem_singleton.1 h1).symm
        have hne : (x == v) = false := by rw [beq_eq_false_iff_ne]; exact hq
        replace hx := hide hx
        clear hq
        go_wp2_with fail
        go_roundw
        case rel => exact ⟨k + 1, by omega, by go_num, hy.out, trivial⟩
        case measure => simp [intOf]; omega
    · obtain rfl : k = n := by omega
      have hm := ha.out
      rw [List.take_of_length_le (by rw [hlen.out]; exact Nat.le_refl _)] at hm
      have hm2 : Hid (decide (v ∈ l) = false) := decide_eq_false hm
      clear h hm
      go_wp2_with fail
      go_ret
      exact ⟨ret_b hm2.out, rfl⟩
theorem firsts_step {l : List Int} {k : Nat} {x : Int} (hx : l[k]? = some x) : firsts [] (l.take (k + 1)) = if x ∈ l.take k then firsts [] (l.take k) else firsts [] (l.take k) ++ [x] := by
  rw [List.take_add_one, hx, firsts_two]
  show firsts (firsts [] (l.take k)) [x] = _
  rw [firsts_one]
  have : x ∈ firsts [] (l.take k) ↔ x ∈ l.take k := by rw [firsts_mem]; simp
  by_cases c : x ∈ l.take k
  · rw [if_pos c, if_pos (this.2 c)]
  · rw [if_neg c, if_neg (fun h => c (this.1 h))]
set_option maxRecDepth 100000 in
set_option maxHeartbeats 3200000 in
theorem r8Blocks_calls (A : Option Addr) (n c : Nat) (l : List Int) (w : World) (lo hi : Nat) (h : SlI w lo hi A n l) (hnc : n ≤ c) (hn : n ≤ 1000) :
    Calls Tryz.prog 33 #[.slice A n c] w fun e w' => e = .returned (.int .i64 (numB l : Int)) ∧ Below w.heap.size w w' := by
  have hlen := hide h.len
  have hEi := hide elem_int
  go_enter Tryz.func33, Tryz.ntmps33
  go_wp2_with fail
  go_loopw [3, 4] (fun v3 v4 wr => ∃ k z : Nat, k ≤ n ∧ v4 = .int .i64 (k : Nat) ∧ v3 = .int .i64 (z : Nat) ∧ Hid (z = (firsts [] (l.take k)).length) ∧ z ≤ k ∧ Hid (Below w.heap.size w wr)) (fun _ i _ => n - (intOf i).toNat)
  case atStart => exact ⟨0, 0, Nat.zero_le _, rfl, rfl, rfl, Nat.le_refl _, Below.refl _ _⟩
  case round =>
    obtain ⟨k, z, hk, rfl, rfl, hz, hzk, hb⟩ := hrel
    by_cases hlt : k < n
    · obtain ⟨wD, hwD⟩ : ∃ wD, wD = wr.drew := ⟨_, rfl⟩
      have hbD := hide (hb.out.trans ((show Below wr.heap.size wr wD by rw [hwD]; exact (Below.refl _ _).drew).mono hb.out.size))
      have hS := h.below hbD.out (.inr (Nat.le_refl _))
      obtain ⟨b, off, x, rfl, -, -, -, hx, c0, -⟩ := SlI.get hS hlt
      have hq := hide (r8Has_calls x (some ⟨b, off, none⟩) k c (l.take k) wD _ _ (hS.take hk) (by omega))
      have hcut := fun W => run_head hEi.out (some ⟨b, off, none⟩) n c k (by omega) W
      have hst := hide (firsts_step hx)
      have k0 : (0 : Int) ≤ (k : Int) := by omega
      have k1 : (k : Int) < (n : Int) := by omega
      have k2 : (k : Int) ≤ (c : Int) := by omega
      replace hwD := hide hwD
      replace hx := hide hx
      clear hS h
      go_upto_region 5 with fail
      by_cases hm : x ∈ l.take k
      · have hz2 : Hid (z = (firsts [] (l.take (k + 1))).length) := by show _ = _; rw [hst.out, if_pos hm]; exact hz.out
        have hq2 := hq.out
        rw [show decide (x ∈ l.take k) = true from decide_eq_true hm] at hq2
        replace hq := hide hq2
        clear hq2
        replace hm := hide hm
        refine lateT_begin (S := fun w' => w'.cell? ⟨b, off + k, none⟩ = some (.int .i64 x)) (st := 8) (by kernel_rfl) ?_
        rw [← show wD = _ from hwD.out]
        have hS0 : (fun w' : World => w'.cell? ⟨b, off + k, none⟩ = some (.int .i64 x)) wD := c0
        refine lateT_take (i := 0) (oi := _) (v := ?_) [2, 7, 8] rfl (by kernel_rfl) (by kernel_rfl) (by kernel_rfl) (by kernel_rfl) (fun _ _ _ h => h) (Or.inl ⟨by rfl, ?hy⟩) hS0 ?_
        case hy => (intro w hSw; (try dsimp only at hSw); go_simp <;> with_reducible rfl)
        (try simp only [Act.put, List.setIfInBounds_toArray, List.set_cons_zero, List.set_cons_succ])
        refine lateT_take (i := 1) (oi := _) (v := ?_) [2, 7, 8] rfl (by kernel_rfl) (by kernel_rfl) (by kernel_rfl) (by kernel_rfl) (fun _ _ _ h => h) (Or.inl ⟨by rfl, ?hy⟩) hS0 ?_
        case hy => (intro w hSw; (try dsimp only at hSw); go_simp <;> with_reducible rfl)
        (try simp only [Act.put, List.setIfInBounds_toArray, List.set_cons_zero, List.set_cons_succ])
        refine lateT_take (i := 2) (oi := _) (v := ?_) [7, 8] rfl (by kernel_rfl) (by kernel_rfl) (by kernel_rfl) (by kernel_rfl) (fun _ _ _ h => h) (Or.inl ⟨by rfl, ?hy⟩) hS0 ?_
        case hy => (intro w hSw; (try dsimp only at hSw); go_simp <;> with_reducible rfl)
        (try simp only [Act.put, List.setIfInBounds_toArray, List.set_cons_zero, List.set_cons_succ])
        refine lateT_take (i := 3) (oi := _) (v := ?_) [5, 6, 7, 8] rfl (by kernel_rfl) (by kernel_rfl) (by kernel_rfl) (by kernel_rfl) (fun _ _ _ h => h) (Or.inl ⟨by rfl, ?hy⟩) hS0 ?_
        case hy => (intro w hSw; (try dsimp only at hSw); go_simp <;> with_reducible rfl)
        (try simp only [Act.put, List.setIfInBounds_toArray, List.set_cons_zero, List.set_cons_succ])
        refine lateT_take (i := 4) (oi := _) (v := ?_) [5, 6, 7, 8] rfl (by kernel_rfl) (by kernel_rfl) (by kernel_rfl) (by kernel_rfl) (fun _ _ _ h => h) (Or.inl ⟨by rfl, ?hy⟩) hS0 ?_
        case hy => (intro w hSw; (try dsimp only at hSw); go_simp <;> with_reducible rfl)
        (try simp only [Act.put, List.setIfInBounds_toArray, List.set_cons_zero, List.set_cons_succ])
        refine lateT_take (i := 5) (oi := _) (v := ?_) [6, 7, 8] rfl (by kernel_rfl) (by kernel_rfl) (by kernel_rfl) (by kernel_rfl) (fun _ _ _ h => h) (Or.inl ⟨by rfl, ?hy⟩) hS0 ?_
        case hy => (intro w hSw; (try dsimp only at hSw); go_simp <;> with_reducible rfl)
        (try simp only [Act.put, List.setIfInBounds_toArray, List.set_cons_zero, List.set_cons_succ])
        refine lateT_take (i := 6) (oi := _) (v := ?_) [7, 8] rfl (by kernel_rfl) (by kernel_rfl) (by kernel_rfl) (by kernel_rfl) (fun _ _ _ h => h) (Or.inl ⟨by rfl, ?hy⟩) hS0 ?_
        case hy => (intro w hSw; (try dsimp only at hSw); go_simp <;> with_reducible rfl)
        (try simp only [Act.put, List.setIfInBounds_toArray, List.set_cons_zero, List.set_cons_succ])
        refine lateT_step (i := 7) (by kernel_rfl) rfl (fun K hK => ?_)
        go_simp
        go_at_call 47
        (with_reducible refine hq.out.mono ?_)
        rintro e w6 ⟨rfl, e6⟩
        rw [e6]
        clear e6 w6
        (try go_wp2_with fail)
        refine hK.out _ _ (fun _ => c0) ?_
        clear hK K
        (try simp only [Act.put, List.setIfInBounds_toArray, List.set_cons_zero, List.set_cons_succ])
        refine lateT_step (i := 8) (by kernel_rfl) rfl (fun K hK => ?_)
        go_simp
        refine hK.out _ _ (fun h => absurd rfl h) ?_
        clear hK K
        (try simp only [Act.put, List.setIfInBounds_toArray, List.set_cons_zero, List.set_cons_succ])
        refine lateT_done (by kernel_rfl) ?_ _
        clear hq hst hcut
        go_wp2_with fail
        go_roundw
        case rel => exact ⟨k + 1, z, by omega, by go_num, rfl, hz2.out, by omega, hbD.out⟩
        case measure => simp [intOf]; omega
      · have hz2 : Hid (z + 1 = (firsts [] (l.take (k + 1))).length) := by show _ = _; rw [hst.out, if_neg hm, List.length_append, ← hz.out]; rfl
        have hq2 := hq.out
        rw [show decide (x ∈ l.take k) = false from decide_eq_false hm] at hq2
        replace hq := hide hq2
        clear hq2
        replace hm := hide hm
        refine lateT_begin (S := fun w' => w'.cell? ⟨b, off + k, none⟩ = some (.int .i64 x)) (st := 8) (by kernel_rfl) ?_
        rw [← show wD = _ from hwD.out]
        have hS0 : (fun w' : World => w'.cell? ⟨b, off + k, none⟩ = some (.int .i64 x)) wD := c0
        refine lateT_take (i := 0) (oi := _) (v := ?_) [2, 7, 8] rfl (by kernel_rfl) (by kernel_rfl) (by kernel_rfl) (by kernel_rfl) (fun _ _ _ h => h) (Or.inl ⟨by rfl, ?hy⟩) hS0 ?_
        case hy => (intro w hSw; (try dsimp only at hSw); go_simp <;> with_reducible rfl)
        (try simp only [Act.put, List.setIfInBounds_toArray, List.set_cons_zero, List.set_cons_succ])
        refine lateT_take (i := 1) (oi := _) (v := ?_) [2, 7, 8] rfl (by kernel_rfl) (by kernel_rfl) (by kernel_rfl) (by kernel_rfl) (fun _ _ _ h => h) (Or.inl ⟨by rfl, ?hy⟩) hS0 ?_
        case hy => (intro w hSw; (try dsimp only at hSw); go_simp <;> with_reducible rfl)
        (try simp only [Act.put, List.setIfInBounds_toArray, List.set_cons_zero, List.set_cons_succ])
        refine lateT_take (i := 2) (oi := _) (v := ?_) [7, 8] rfl (by kernel_rfl) (by kernel_rfl) (by kernel_rfl) (by kernel_rfl) (fun _ _ _ h => h) (Or.inl ⟨by rfl, ?hy⟩) hS0 ?_
        case hy => (intro w hSw; (try dsimp only at hSw); go_simp <;> with_reducible rfl)
        (try simp only [Act.put, List.setIfInBounds_toArray, List.set_cons_zero, List.set_cons_succ])
        refine lateT_take (i := 3) (oi := _) (v := ?_) [5, 6, 7, 8] rfl (by kernel_rfl) (by kernel_rfl) (by kernel_rfl) (by kernel_rfl) (fun _ _ _ h => h) (Or.inl ⟨by rfl, ?hy⟩) hS0 ?_
        case hy => (intro w hSw; (try dsimp only at hSw); go_simp <;> with_reducible rfl)
        (try simp only [Act.put, List.setIfInBounds_toArray, List.set_cons_zero, List.set_cons_succ])
        refine lateT_take (i := 4) (oi := _) (v := ?_) [5, 6, 7, 8] rfl (by kernel_rfl) (by kernel_rfl) (by kernel_rfl) (by kernel_rfl) (fun _ _ _ h => h) (Or.inl ⟨by rfl, ?hy⟩) hS0 ?_
        case hy => (intro w hSw; (try dsimp only at hSw); go_simp <;> with_reducible rfl)
        (try simp only [Act.put, List.setIfInBounds_toArray, List.set_cons_zero, List.set_cons_succ])
        refine lateT_take (i := 5) (oi := _) (v := ?_) [6, 7, 8] rfl (by kernel_rfl) (by kernel_rfl) (by kernel_rfl) (by kernel_rfl) (fun _ _ _ h => h) (Or.inl ⟨by rfl, ?hy⟩) hS0 ?_
        case hy => (intro w hSw; (try dsimp only at hSw); go_simp <;> with_reducible rfl)
        (try simp only [Act.put, List.setIfInBounds_toArray, List.set_cons_zero, List.set_cons_succ])
        refine lateT_take (i := 6) (oi := _) (v := ?_) [7, 8] rfl (by kernel_rfl) (by kernel_rfl) (by kernel_rfl) (by kernel_rfl) (fun _ _ _ h => h) (Or.inl ⟨by rfl, ?hy⟩) hS0 ?_
        case hy => (intro w hSw; (try dsimp only at hSw); go_simp <;> with_reducible rfl)
        (try simp only [Act.put, List.setIfInBounds_toArray, List.set_cons_zero, List.set_cons_succ])
        refine lateT_step (i := 7) (by kernel_rfl) rfl (fun K hK => ?_)
        go_simp
        go_at_call 47
        (with_reducible refine hq.out.mono ?_)
        rintro e w6 ⟨rfl, e6⟩
        rw [e6]
        clear e6 w6
        (try go_wp2_with fail)
        refine hK.out _ _ (fun _ => c0) ?_
        clear hK K
        (try simp only [Act.put, List.setIfInBounds_toArray, List.set_cons_zero, List.set_cons_succ])
        refine lateT_step (i := 8) (by kernel_rfl) rfl (fun K hK => ?_)
        go_simp
        refine hK.out _ _ (fun h => absurd rfl h) ?_
        clear hK K
        (try simp only [Act.put, List.setIfInBounds_toArray, List.set_cons_zero, List.set_cons_succ])
        refine lateT_done (by kernel_rfl) ?_ _
        clear hq hst hcut
        go_wp2_with fail
        go_roundw
        case rel => exact ⟨k + 1, z + 1, by omega, by go_num, by go_num, hz2.out, by omega, hbD.out⟩
        case measure => simp [intOf]; omega
    · obtain rfl : k = n := by omega
      have hF := hz.out
      rw [List.take_of_length_le (by rw [hlen.out]; exact Nat.le_refl _)] at hF
      have hF2 : Hid (numB l = z) := hF.symm
      clear hF hz
      go_wp2_with fail
      go_ret
      exact ⟨ret_i (by rw [hF2.out]), hb.out⟩
end Go.Proofs.YtnhomkmfbngmgaaGreatDoor

namespace Go.Proofs.YtnhomkmfbngmgaaGreatDoor
set_option linter.unusedVariables false
set_option linter.unusedSimpArgs false

/-- Two strictly ascending lists of the same numbers are one. -/
theorem asc_one : ∀ {A B : List Int}, A.Pairwise (· < ·) → B.Pairwise (· < ·) → (∀ x, x ∈ A ↔ x ∈ B) → A = B
  | [], [], _, _, _ => rfl
  | [], b :: B, _, _, h => absurd ((h b).2 (List.mem_cons_self ..)) (List.not_mem_nil)
  | a :: A, [], _, _, h => absurd ((h a).1 (List.mem_cons_self ..)) (List.not_mem_nil)
  | a :: A, b :: B, hA, hB, h => by
    obtain ⟨ha, hA'⟩ := List.pairwise_cons.1 hA
    obtain ⟨hb, hB'⟩ := List.pairwise_cons.1 hB
    have e : a = b := by
      rcases List.mem_cons.1 ((h a).1 (List.mem_cons_self ..)) with e | h1
      · exact e
      · rcases List.mem_cons.1 ((h b).2 (List.mem_cons_self ..)) with e | h2
        · exact e.symm
        · have := hb a h1
          have := ha b h2
          omega
    subst e
    congr 1
    refine asc_one hA' hB' fun x => ?_
    constructor
    · intro hx
      rcases List.mem_cons.1 ((h x).1 (List.mem_cons_of_mem _ hx)) with rfl | g
      · have := ha _ hx; omega
      · exact g
    · intro hx
      rcases List.mem_cons.1 ((h x).2 (List.mem_cons_of_mem _ hx)) with rfl | g
      · have := hb _ hx; omega
      · exact g

end Go.Proofs.YtnhomkmfbngmgaaGreatDoor

namespace Go.Proofs.YtnhomkmfbngmgaaGreatDoor
set_option linter.unusedVariables false
set_option linter.unusedSimpArgs false

def putI (l : List Int) (n : Int) : List Int := (l.filter fun x => decide (x < n)) ++ n :: l.filter fun x => decide (n < x)
theorem putI_mem {l : List Int} {n x : Int} : x ∈ putI l n ↔ x ∈ l ∨ x = n := by
  unfold putI
  rw [List.mem_append, List.mem_cons, List.mem_filter, List.mem_filter, decide_eq_true_eq, decide_eq_true_eq]
  constructor
  · rintro (h | h | h)
    · exact .inl h.1
    · exact .inr h
    · exact .inl h.1
  · rintro (h | h)
    · by_cases h1 : x < n
      · exact .inl ⟨h, h1⟩
      · by_cases h2 : n < x
        · exact .inr (.inr ⟨h, h2⟩)
        · exact .inr (.inl (by omega))
    · exact .inr (.inl h)
theorem putI_asc {l : List Int} {n : Int} (h : l.Pairwise (· < ·)) : (putI l n).Pairwise (· < ·) := by
  refine List.pairwise_append.2 ⟨h.filter _, List.pairwise_cons.2 ⟨fun x hx => of_decide_eq_true (List.mem_filter.1 hx).2, h.filter _⟩, ?_⟩
  intro a ha b hb
  have h1 := of_decide_eq_true (List.mem_filter.1 ha).2
  rcases List.mem_cons.1 hb with rfl | hb
  · exact h1
  · have := of_decide_eq_true (List.mem_filter.1 hb).2
    omega
theorem putI_of {l k : List Int} {n : Int} (h : l.Pairwise (· < ·)) (hk : k.Pairwise (· < ·)) (hm : ∀ x, x ∈ k ↔ x ∈ l ∨ x = n) : putI l n = k :=
  asc_one (putI_asc h) hk fun x => by rw [putI_mem, hm]
/-- Whether the place is found among the first i; what lies in the new list then. -/
def doneI (l : List Int) (n : Int) (i : Nat) : Bool := (l.take i).any fun x => decide (n ≤ x)
def outI (l : List Int) (n : Int) (i : Nat) : List Int := if doneI l n i then putI (l.take i) n else l.take i
section
variable {l : List Int} {n x : Int} {i : Nat}
theorem doneI_succ (hx : l[i]? = some x) : doneI l n (i + 1) = (doneI l n i || decide (n ≤ x)) := by
  unfold doneI
  rw [List.take_add_one, hx, List.any_append]
  simp
theorem asc_snoc (h : l.Pairwise (· < ·)) (hx : l[i]? = some x) : ∀ y, y ∈ l.take i → y < x := by
  intro y hy
  obtain ⟨hi, e⟩ := List.getElem?_eq_some_iff.1 hx
  obtain ⟨j, hj, rfl⟩ := List.getElem_of_mem hy
  rw [List.length_take] at hj
  rw [List.getElem_take]
  have := List.pairwise_iff_getElem.1 h j i (by omega) hi (by omega)
  omega
theorem asc_take (h : l.Pairwise (· < ·)) (k : Nat) : (l.take k).Pairwise (· < ·) := h.sublist (List.take_sublist _ _)
theorem asc_app {k : List Int} (h : k.Pairwise (· < ·)) (hy : ∀ y, y ∈ k → y < x) : (k ++ [x]).Pairwise (· < ·) :=
  List.pairwise_append.2 ⟨h, by simp, fun a ha b hb => by rw [List.mem_singleton.1 hb]; exact hy a ha⟩
/-- One more number: what the loop appends. -/
theorem outI_succ (h : l.Pairwise (· < ·)) (hx : l[i]? = some x) :
    outI l n (i + 1) = (if doneI l n i = false ∧ n ≤ x ∧ n < x then outI l n i ++ [n] else outI l n i) ++ [x] := by
  have ht : l.take (i + 1) = l.take i ++ [x] := by rw [List.take_add_one, hx]; rfl
  have hlt := asc_snoc h hx
  have hta := asc_take h i
  unfold outI
  rw [doneI_succ hx]
  cases hd : doneI l n i with
  | true =>
    rw [Bool.true_or, if_pos rfl, if_neg (by simp), if_pos rfl]
    obtain ⟨y, hy, hyn⟩ := List.any_eq_true.1 hd
    have hyn := of_decide_eq_true hyn
    have hyx := hlt y hy
    refine putI_of (asc_take h (i + 1)) (asc_app (putI_asc hta) fun z hz => ?_) fun z => ?_
    · rcases putI_mem.1 hz with hz | rfl
      · exact hlt z hz
      · omega
    · rw [ht]
      simp only [List.mem_append, List.mem_singleton, putI_mem]
      constructor
      · rintro ((a | a) | a)
        · exact .inl (.inl a)
        · exact .inr a
        · exact .inl (.inr a)
      · rintro ((a | a) | a)
        · exact .inl (.inl a)
        · exact .inr a
        · exact .inl (.inr a)
  | false =>
    rw [Bool.false_or, if_neg Bool.false_ne_true]
    have hall : ∀ y, y ∈ l.take i → y < n := fun y hy => by
      have := List.any_eq_false.1 hd y hy
      rw [decide_eq_true_eq] at this
      omega
    by_cases hn : n ≤ x
    · rw [decide_eq_true hn, if_pos rfl]
      by_cases hnx : n < x
      · rw [if_pos ⟨rfl, hn, hnx⟩]
        refine putI_of (asc_take h (i + 1)) (asc_app (asc_app hta hall) fun z hz => ?_) fun z => ?_
        · rcases List.mem_append.1 hz with hz | hz
          · exact hlt z hz
          · rw [List.mem_singleton.1 hz]; exact hnx
        · rw [ht]
          simp only [List.mem_append, List.mem_singleton]
          constructor
          · rintro ((a | a) | a)
            · exact .inl (.inl a)
            · exact .inr a
            · exact .inl (.inr a)
          · rintro ((a | a) | a)
            · exact .inl (.inl a)
            · exact .inr a
            · exact .inl (.inr a)
      · rw [if_neg (by omega)]
        obtain rfl : n = x := by omega
        refine putI_of (asc_take h (i + 1)) (asc_app hta hlt) fun z => ?_
        rw [ht]
        simp only [List.mem_append, List.mem_singleton, or_assoc, or_self]
    · rw [decide_eq_false hn, if_neg Bool.false_ne_true, if_neg (by omega), ht]
theorem outI_end (h : l.Pairwise (· < ·)) : (if doneI l n l.length then outI l n l.length else outI l n l.length ++ [n]) = putI l n := by
  unfold outI
  rw [List.take_length]
  cases hd : doneI l n l.length with
  | true => rfl
  | false =>
    rw [if_neg Bool.false_ne_true, if_neg Bool.false_ne_true]
    symm
    refine putI_of h (asc_app h fun y hy => ?_) fun z => by simp
    unfold doneI at hd
    rw [List.take_length] at hd
    have := List.any_eq_false.1 hd y hy
    rw [decide_eq_true_eq] at this
    omega
end
end Go.Proofs.YtnhomkmfbngmgaaGreatDoor

namespace Go.Proofs.YtnhomkmfbngmgaaGreatDoor
open Go.ChangeShapes Go.WideShapes Go.ChangeAt Go.RowKit
set_option linter.unusedVariables false
set_option linter.unusedSimpArgs false

set_option maxRecDepth 100000 in
set_option maxHeartbeats 1600000 in
theorem l00Put_calls (A : Option Addr) (n c : Nat) (l : List Int) (x : Int) (w : World) (lo hi : Nat) (h : SlI w lo hi A n l) (hasc : l.Pairwise (· < ·)) (hn : n ≤ 1048000) :
    Calls Tryz.prog 256 #[.slice A n c, .int .i64 x] w fun e w' => ∃ A' n' c', e = .returned (.slice A' n' c') ∧ Own 1 iv w' w.heap.size 2 A' n' c' (putI l x) ∧ n' ≤ n + 1 ∧ Below w.heap.size w w' := by
  have hE := hide elem_int64
  have hlen := h.len
  replace h := hide h.top
  replace hasc := hide hasc
  go_enter Tryz.func256, Tryz.ntmps256
  go_wp2_with fail
  go_loopw [5, 6, 7] (fun v dn i wr => ∃ (k m : Nat) (Ao : Option Addr) (co : Nat), k ≤ n ∧ m ≤ k + 1 ∧ i = .int .i64 (k : Nat) ∧ v = .slice Ao m co ∧ dn = .bool (doneI l x k) ∧ Hid (Own 1 iv wr w.heap.size 2 Ao m co (outI l x k)) ∧ Below w.heap.size w wr) (fun _ _ i _ => n - (intOf i).toNat)
  case atStart => exact ⟨0, 0, _, 0, Nat.zero_le _, Nat.zero_le _, rfl, rfl, rfl, Own.made _ _ (Nat.le_refl _), (Below.refl _ _).alloc (Nat.le_refl _) _⟩
  case round =>
    obtain ⟨k, m, Ao, co, hk, hm, rfl, rfl, rfl, hown, hb⟩ := hrel
    by_cases hlt : k < n
    · have hz := hb.size
      have hza : ∀ o, w.heap.size ≤ (wr.alloc o).heap.size := fun o => by rw [World.size_alloc]; omega
      obtain ⟨b, off, y, rfl, g1, g2, g3, hy, c0, -⟩ := SlI.get h.out hlt
      replace c0 := (hb.cell (p := ⟨b, off + k, none⟩) g3).trans c0
      have hd := doneI_succ (n := x) hy
      have ho := outI_succ (n := x) hasc.out hy
      have k0 : (0 : Int) ≤ (k : Int) := by omega
      have k1 : (k : Int) < (n : Int) := by omega
      replace hy := hide hy
      replace hb := hide hb
      by_cases one : doneI l x k = false ∧ x < y
      · obtain ⟨d0, hxy⟩ := one
        have hm2 : m ≤ k := by
          have h1 := hown.out.len
          have h2 : outI l x k = l.take k := by unfold outI; rw [d0]; rfl
          rw [h2, List.length_take] at h1
          omega
        have e1 : Hid (outI l x (k + 1) = outI l x k ++ [x] ++ [y]) := by show _ = _; rw [ho, if_pos ⟨d0, by omega, hxy⟩]
        have e2 : Hid (doneI l x (k + 1) = true) := by show _ = _; rw [hd, d0, decide_eq_true (show x ≤ y by omega)]; rfl
        have hge : decide (y ≥ x) = true := decide_eq_true (by omega)
        have hge2 : y ≥ x := by omega
        have hgt : y > x := hxy
        rw [d0]
        clear hd ho d0
        have c0a : ∀ o, (wr.alloc o).cell? ⟨b, off + k, none⟩ = some (.int .i64 y) := fun o => (((Below.refl wr.heap.size wr).alloc (Nat.le_refl _) o).cell (p := ⟨b, off + k, none⟩) (by show b < wr.heap.size; omega)).trans c0
        have e4 := hide (show ∀ o, Below w.heap.size w (wr.alloc o) from fun o => hb.out.alloc hz o)
        go_wp2_with (first
          | (at_builtin; (with_reducible refine wpList_app rfl (.tmp 31) (.tmp 33) rfl hE.out flat_iv rfl (hown.out.alloc _) rfl (Sl.lit1' wr 2 x _ rfl 1 _ ?c0) ?c1 (hza _) ?_); rotate_right; intro A5 c5 w5 hown5 hgr5 hb5 _; have c5' := (hb5.cell (p := ⟨b, off + k, none⟩) g3).trans (c0a _); have hz5 := hb5.size; have hza5 : ∀ o, w.heap.size ≤ (w5.alloc o).heap.size := fun o => (by rw [World.size_alloc]; rw [World.size_alloc] at hz5; omega); have hz5' := Nat.le_trans (hza _) hz5; replace hown5 := hide hown5; replace hb5 := hide hb5; clear hgr5)
          | (at_builtin; (with_reducible refine wpList_app rfl (.tmp 35) (.tmp 40) rfl hE.out flat_iv rfl (hown5.out.alloc _) rfl (Sl.lit1' w5 2 y _ rfl 1 _ ?d0) ?d1 (hza5 _) ?_); rotate_right; intro A6 c6 w6 hown6 hgr6 hb6 _))
        case d0 => rfl
        case d1 => omega
        case c0 => rfl
        case c1 => omega
        have hb7 := hide ((e4.out _).trans (hb5.out.trans ((Below.refl _ _).alloc hz5' _ |>.trans hb6)))
        rw [← e1.out] at hown6
        go_roundw
        case rel => exact ⟨k + 1, m + 1 + 1, A6, c6, by omega, by omega, by go_num, rfl, by rw [e2.out], hown6, hb7.out⟩
        case measure => simp [intOf]; omega
      · have e1 : Hid (outI l x (k + 1) = outI l x k ++ [y]) := by show _ = _; rw [ho, if_neg (fun c => one ⟨c.1, c.2.2⟩)]
        replace hd := hide hd
        clear ho
        have e4 := hide (show ∀ o, Below w.heap.size w (wr.alloc o) from fun o => hb.out.alloc hz o)
        cases d0 : doneI l x k with
        | true =>
          have e2 : Hid (doneI l x (k + 1) = true) := by show _ = _; rw [hd.out, d0]; rfl
          clear hd d0 one
          go_wp2_with (first
            | (at_builtin; (with_reducible refine wpList_app rfl (.tmp 35) (.tmp 40) rfl hE.out flat_iv rfl (hown.out.alloc _) rfl (Sl.lit1' wr 2 y _ rfl 1 _ ?d0) ?d1 (hza _) ?_); rotate_right; intro A6 c6 w6 hown6 hgr6 hb6 _))
          case d0 => rfl
          case d1 => omega
          have hb7 := hide ((e4.out _).trans hb6)
          rw [← e1.out] at hown6
          go_roundw
          case rel => exact ⟨k + 1, m + 1, A6, c6, by omega, by omega, by go_num, rfl, by rw [e2.out], hown6, hb7.out⟩
          case measure => simp [intOf]; omega
        | false =>
          by_cases hxy : x ≤ y
          · have e2 : Hid (doneI l x (k + 1) = true) := by show _ = _; rw [hd.out, d0, decide_eq_true hxy]; rfl
            have hge : decide (y ≥ x) = true := decide_eq_true (by omega)
            have hge2 : y ≥ x := by omega
            have hgt : ¬ y > x := fun c => one ⟨d0, c⟩
            clear hd d0 one
            go_wp2_with (first
              | (at_builtin; (with_reducible refine wpList_app rfl (.tmp 35) (.tmp 40) rfl hE.out flat_iv rfl (hown.out.alloc _) rfl (Sl.lit1' wr 2 y _ rfl 1 _ ?d0) ?d1 (hza _) ?_); rotate_right; intro A6 c6 w6 hown6 hgr6 hb6 _))
            case d0 => rfl
            case d1 => omega
            have hb7 := hide ((e4.out _).trans hb6)
            rw [← e1.out] at hown6
            go_roundw
            case rel => exact ⟨k + 1, m + 1, A6, c6, by omega, by omega, by go_num, rfl, by rw [e2.out], hown6, hb7.out⟩
            case measure => simp [intOf]; omega
          · have e2 : Hid (doneI l x (k + 1) = false) := by show _ = _; rw [hd.out, d0, decide_eq_false hxy]; rfl
            have hge : decide (y ≥ x) = false := decide_eq_false (by omega)
            have hge2 : ¬ y ≥ x := by omega
            clear hd d0 one
            go_wp2_with (first
              | (at_builtin; (with_reducible refine wpList_app rfl (.tmp 35) (.tmp 40) rfl hE.out flat_iv rfl (hown.out.alloc _) rfl (Sl.lit1' wr 2 y _ rfl 1 _ ?d0) ?d1 (hza _) ?_); rotate_right; intro A6 c6 w6 hown6 hgr6 hb6 _))
            case d0 => rfl
            case d1 => omega
            have hb7 := hide ((e4.out _).trans hb6)
            rw [← e1.out] at hown6
            go_roundw
            case rel => exact ⟨k + 1, m + 1, A6, c6, by omega, by omega, by go_num, rfl, by rw [e2.out], hown6, hb7.out⟩
            case measure => simp [intOf]; omega
    · obtain rfl : k = n := by omega
      have hend := outI_end (n := x) hasc.out
      rw [hlen] at hend
      have hz := hb.size
      replace hb := hide hb
      cases d0 : doneI l x k with
      | true =>
        rw [d0, if_pos rfl] at hend
        rw [hend] at hown
        clear hend
        go_wp2_with fail
        go_ret
        exact ⟨_, _, _, rfl, hown.out, by omega, hb.out⟩
      | false =>
        rw [d0, if_neg Bool.false_ne_true] at hend
        replace hend := hide hend
        have hza : ∀ o, w.heap.size ≤ (wr.alloc o).heap.size := fun o => by rw [World.size_alloc]; omega
        have hm2 : m ≤ k := by
          have h1 := hown.out.len
          have h2 : outI l x k = l.take k := by unfold outI; rw [d0]; rfl
          rw [h2, List.length_take] at h1
          omega
        have e4 := hide (show ∀ o, Below w.heap.size w (wr.alloc o) from fun o => hb.out.alloc hz o)
        go_wp2_with (first
          | (at_builtin; (with_reducible refine wpList_app rfl (.tmp 44) (.tmp 46) rfl hE.out flat_iv rfl (hown.out.alloc _) rfl (Sl.lit1' wr 2 x _ rfl 1 _ ?d0) ?d1 (hza _) ?_); rotate_right; intro A6 c6 w6 hown6 hgr6 hb6 _))
        case d0 => rfl
        case d1 => omega
        have hb7 := hide ((e4.out _).trans hb6)
        rw [hend.out] at hown6
        go_wp2_with fail
        go_ret
        exact ⟨_, _, _, rfl, hown6, by omega, hb7.out⟩

end Go.Proofs.YtnhomkmfbngmgaaGreatDoor

namespace Go.Proofs.YtnhomkmfbngmgaaGreatDoor
open Go.ChangeShapes Go.WideShapes Go.ChangeAt Go.RowKit Go.Sort Go.Lib
set_option linter.unusedVariables false
set_option linter.unusedSimpArgs false

/-- One edge more. -/
def sgS (N : Nat) (p : List Int) (x : Int) (s : List Int) (e : Ed) : List Int := if e.1 = x then putI s (e.2.1 * (N : Int) + pv p e.2.2) else s
/-- The signature of a state by the reference. -/
def sgF (N : Nat) (p : List Int) (es : List Ed) (x : Int) : List Int := es.foldl (sgS N p x) []
theorem sg_asc {N : Nat} {p : List Int} {x : Int} : ∀ (l : List Ed) (s : List Int), s.Pairwise (· < ·) → (l.foldl (sgS N p x) s).Pairwise (· < ·)
  | [], s, h => h
  | e :: l, s, h => sg_asc l _ (by
    unfold sgS
    by_cases c : e.1 = x
    · rw [if_pos c]; exact putI_asc h
    · rw [if_neg c]; exact h)
set_option maxRecDepth 100000 in
set_option maxHeartbeats 6400000 in
theorem l13Sign_calls {w : World} {N ini : Nat} {A : Option Addr} {n : Nat} {B : Option Addr} {m : Nat} {ls : List ByteArray} {es : List Ed} (h : SysA w N ini A n B m ls es) (c d bx : Nat) (hbx : LtsBox w bx (N : Int) (ini : Int) A n c B m d) (P : Option Addr) (cP : Nat) (p : List Int) (hP : SlI w 0 w.heap.size P N p) (hp : ∀ x, x ∈ p → 0 ≤ x ∧ x ≤ 1000) (x : Int) :
    Calls Tryz.prog 244 #[.pointer (some ⟨bx, 0, none⟩), .slice P N cP, .int .i64 x] w fun e w' => ∃ A' n' c', e = .returned (.slice A' n' c') ∧ SlI w' w.heap.size w'.heap.size A' n' (sgF N p es x) ∧ n' ≤ 300 ∧ Below w.heap.size w w' := by
  obtain ⟨hm, hn12, hn1, hle, hll⟩ := h.many
  obtain ⟨⟨hN1, hN2⟩, hini⟩ := h.bounds
  have hAll : ∀ wx, Below w.heap.size w wx → SysA wx N ini A n B m ls es ∧ LtsBox wx bx (N : Int) (ini : Int) A n c B m d ∧ SlI wx 0 w.heap.size P N p := fun wx hx => ⟨h.below hx (Nat.le_refl _), hbx.below hx hbx.lt, hP.below hx (.inl (Nat.le_refl _))⟩
  have hth := hide h.three
  replace hAll := hide hAll
  have hbl := hbx.lt
  clear h hP hbx
  go_enter Tryz.func244, Tryz.ntmps244
  obtain ⟨w1, hw1⟩ : ∃ w1, w1 = w.alloc (.cells #[] 2) := ⟨_, rfl⟩
  have hb1 : Hid (Below w.heap.size w w1) := by show Below _ _ _; rw [hw1]; exact (Below.refl _ _).alloc (Nat.le_refl _) _
  have hst : Hid (SlI w1 w.heap.size w1.heap.size (some ⟨w.heap.size, 0, none⟩) 0 []) := ⟨rfl, fun h => absurd h (Nat.lt_irrefl 0)⟩
  go_upto_region 2 with fail
  rw [← show w1 = _ from hw1]
  replace hw1 := hide hw1
  go_wp2_with fail
  go_loopw [7, 8] (fun v7 v8 wr => ∃ (k n5 c5 : Nat) (A5 : Option Addr), k ≤ m ∧ v8 = .int .i64 (k : Nat) ∧ v7 = .slice A5 n5 c5 ∧ Hid (SlI wr w.heap.size wr.heap.size A5 n5 ((es.take k).foldl (sgS N p x) [])) ∧ n5 ≤ k ∧ Hid (Below w.heap.size w wr)) (fun _ v _ => m - (intOf v).toNat)
  case atStart => exact ⟨0, 0, 0, _, Nat.zero_le _, rfl, rfl, hst.out, Nat.le_refl _, hb1.out⟩
  case round =>
    clear hst hb1
    obtain ⟨k, n5, c5, A5, hk, rfl, rfl, hO, hn5, hb⟩ := hrel
    obtain ⟨-, hBr, -⟩ := hAll.out wr hb.out
    have z3 := hBr.c3
    by_cases hlt : k < m
    · obtain ⟨hSy, -, hPr⟩ := hAll.out wr hb.out
      obtain ⟨gB, oB, f, l, t, rfl, -, -, hgB, hx, x0, x1, x2, -⟩ := SlE.get hSy.se hlt
      have h3 := hth.out _ (List.mem_of_getElem? hx)
      (try dsimp only at h3)
      obtain ⟨⟨f0, f1⟩, ⟨l0, l1⟩, t0, t1⟩ := h3
      obtain ⟨gP, oP, pt, rfl, -, -, hgP, hpt, cp, -⟩ := SlI.get hPr (show t.toNat < N by omega)
      have hpb := hp _ (List.mem_of_getElem? hpt)
      have hpv : pv p t = pt := by unfold pv; rw [hpt]; rfl
      have hstep : (es.take (k + 1)).foldl (sgS N p x) [] = sgS N p x ((es.take k).foldl (sgS N p x) []) (f, l, t) := by
        rw [List.take_add_one, hx, List.foldl_append]; rfl
      have k0 : (0 : Int) ≤ (k : Int) := by omega
      have k1 : (k : Int) < (m : Int) := by omega
      by_cases hfx : f = x
      · subst hfx
        have hs2 : Hid ((es.take (k + 1)).foldl (sgS N p f) [] = putI ((es.take k).foldl (sgS N p f) []) (l * (N : Int) + pt)) := by
          show _ = _
          rw [hstep, ← hpv]
          unfold sgS
          rw [if_pos rfl]
        have g1 : (f == f) = true := by simp
        have hlN0 : 0 ≤ l * (N : Int) := Int.mul_nonneg l0 (by omega)
        have hlN1 : l * (N : Int) ≤ 12 * 40 := Int.mul_le_mul (by omega) (by omega) (by omega) (by omega)
        have hm1 : IntKind.i64.wrap (l * (N : Int)) = l * (N : Int) := IntWalk.i64_in _ (by omega)
        have hm2 : IntKind.i64.wrap (l * (N : Int) + pt) = l * (N : Int) + pt := IntWalk.i64_in _ (by omega)
        obtain ⟨wD, hwD⟩ : ∃ wD, wD = wr.drew := ⟨_, rfl⟩
        have hbD := hide (hb.out.trans ((show Below wr.heap.size wr wD by rw [hwD]; exact (Below.refl _ _).drew).mono hb.out.size))
        have hOD := hO.out.below (show Below wr.heap.size wr wD by rw [hwD]; exact (Below.refl _ _).drew) (.inr (Nat.le_refl _))
        have hq := hide (l00Put_calls A5 n5 c5 _ (l * (N : Int) + pt) wD _ _ hOD (sg_asc _ _ List.Pairwise.nil) (by omega))
        have hSS : Hid (∀ wx, Below wD.heap.size wD wx → wx.cell? ⟨bx, 3, none⟩ = some (.slice (some ⟨gB, oB, none⟩) m d) ∧ wx.cell? ⟨gB, oB + k * 3 + 1, none⟩ = some (.int .i64 l) ∧ wx.cell? ⟨gB, oB + k * 3 + 2, none⟩ = some (.int .i64 t) ∧ wx.cell? ⟨gP, oP + t.toNat, none⟩ = some (.int .i64 pt)) := fun wx hx2 => by
          obtain ⟨q1, q2, q3⟩ := hAll.out wx (hbD.out.trans (hx2.mono hbD.out.size))
          obtain ⟨g5, o5, f5, l5, t5, e5, -, -, -, hx5, -, z1, z2, -⟩ := SlE.get q1.se hlt
          cases e5
          obtain ⟨g6, o6, v6, e6, -, -, -, hx6, z4, -⟩ := SlI.get q3 (show t.toNat < N by omega)
          cases e6
          rw [hx] at hx5
          cases hx5
          rw [hpt] at hx6
          cases hx6
          exact ⟨q2.c3, z1, z2, z4⟩
        replace hwD := hide hwD
        replace hx := hide hx
        replace hpt := hide hpt
        clear hstep hO hOD hSy hPr hBr
        go_upto_region 6 with fail
        refine lateT_begin (S := fun w' => w'.cell? ⟨bx, 3, none⟩ = some (.slice (some ⟨gB, oB, none⟩) m d) ∧ w'.cell? ⟨gB, oB + k * 3 + 1, none⟩ = some (.int .i64 l) ∧ w'.cell? ⟨gB, oB + k * 3 + 2, none⟩ = some (.int .i64 t) ∧ w'.cell? ⟨gP, oP + t.toNat, none⟩ = some (.int .i64 pt)) (st := 25) (by kernel_rfl) ?_
        rw [← show wD = _ from hwD.out]
        have hS0 : (fun w' : World => w'.cell? ⟨bx, 3, none⟩ = some (.slice (some ⟨gB, oB, none⟩) m d) ∧ w'.cell? ⟨gB, oB + k * 3 + 1, none⟩ = some (.int .i64 l) ∧ w'.cell? ⟨gB, oB + k * 3 + 2, none⟩ = some (.int .i64 t) ∧ w'.cell? ⟨gP, oP + t.toNat, none⟩ = some (.int .i64 pt)) wD := hSS.out wD (Below.refl _ _)
        refine lateT_take (i := 0) (oi := _) (v := ?_) [25] rfl (by kernel_rfl) (by kernel_rfl) (by kernel_rfl) (by kernel_rfl) (fun _ _ _ h => h) (Or.inl ⟨by rfl, ?hy⟩) hS0 ?_
        case hy => (intro w hSw; (try dsimp only at hSw); go_simp <;> with_reducible rfl)
        (try simp only [Act.put, List.setIfInBounds_toArray, List.set_cons_zero, List.set_cons_succ])
        refine lateT_take (i := 1) (oi := _) (v := ?_) [25] rfl (by kernel_rfl) (by kernel_rfl) (by kernel_rfl) (by kernel_rfl) (fun _ _ _ h => h) (Or.inl ⟨by rfl, ?hy⟩) hS0 ?_
        case hy => (intro w hSw; (try dsimp only at hSw); go_simp <;> with_reducible rfl)
        (try simp only [Act.put, List.setIfInBounds_toArray, List.set_cons_zero, List.set_cons_succ])
        refine lateT_take (i := 2) (oi := _) (v := ?_) [25] rfl (by kernel_rfl) (by kernel_rfl) (by kernel_rfl) (by kernel_rfl) (fun _ _ _ h => h) (Or.inl ⟨by rfl, ?hy⟩) hS0 ?_
        case hy => (intro w hSw; (try dsimp only at hSw); go_simp <;> with_reducible rfl)
        (try simp only [Act.put, List.setIfInBounds_toArray, List.set_cons_zero, List.set_cons_succ])
        refine lateT_take (i := 3) (oi := _) (v := ?_) [25] rfl (by kernel_rfl) (by kernel_rfl) (by kernel_rfl) (by kernel_rfl) (fun _ _ _ h => h) (Or.inl ⟨by rfl, ?hy⟩) hS0 ?_
        case hy => (intro w hSw; (try dsimp only at hSw); go_simp <;> with_reducible rfl)
        (try simp only [Act.put, List.setIfInBounds_toArray, List.set_cons_zero, List.set_cons_succ])
        refine lateT_take (i := 4) (oi := _) (v := ?_) [25] rfl (by kernel_rfl) (by kernel_rfl) (by kernel_rfl) (by kernel_rfl) (fun _ _ _ h => h) (Or.inl ⟨by rfl, ?hy⟩) hS0 ?_
        case hy => (intro w hSw; (try dsimp only at hSw); go_simp <;> with_reducible rfl)
        (try simp only [Act.put, List.setIfInBounds_toArray, List.set_cons_zero, List.set_cons_succ])
        refine lateT_take (i := 5) (oi := _) (v := ?_) [25] rfl (by kernel_rfl) (by kernel_rfl) (by kernel_rfl) (by kernel_rfl) (fun _ _ _ h => h) (Or.inl ⟨by rfl, ?hy⟩) hS0 ?_
        case hy => (intro w hSw; (try dsimp only at hSw); go_simp <;> with_reducible rfl)
        (try simp only [Act.put, List.setIfInBounds_toArray, List.set_cons_zero, List.set_cons_succ])
        refine lateT_take (i := 6) (oi := _) (v := ?_) [25] rfl (by kernel_rfl) (by kernel_rfl) (by kernel_rfl) (by kernel_rfl) (fun _ _ _ h => h) (Or.inl ⟨by rfl, ?hy⟩) hS0 ?_
        case hy => (intro w hSw; (try dsimp only at hSw); go_simp <;> with_reducible rfl)
        (try simp only [Act.put, List.setIfInBounds_toArray, List.set_cons_zero, List.set_cons_succ])
        refine lateT_take (i := 7) (oi := _) (v := ?_) [25] rfl (by kernel_rfl) (by kernel_rfl) (by kernel_rfl) (by kernel_rfl) (fun _ _ _ h => h) (Or.inl ⟨by rfl, ?hy⟩) hS0 ?_
        case hy => (intro w hSw; (try dsimp only at hSw); go_simp <;> with_reducible rfl)
        (try simp only [Act.put, List.setIfInBounds_toArray, List.set_cons_zero, List.set_cons_succ])
        refine lateT_take (i := 8) (oi := _) (v := ?_) [25] rfl (by kernel_rfl) (by kernel_rfl) (by kernel_rfl) (by kernel_rfl) (fun _ _ _ h => h) (Or.inl ⟨by rfl, ?hy⟩) hS0 ?_
        case hy => (intro w hSw; (try dsimp only at hSw); go_simp <;> with_reducible rfl)
        (try simp only [Act.put, List.setIfInBounds_toArray, List.set_cons_zero, List.set_cons_succ])
        refine lateT_take (i := 9) (oi := _) (v := ?_) [25] rfl (by kernel_rfl) (by kernel_rfl) (by kernel_rfl) (by kernel_rfl) (fun _ _ _ h => h) (Or.inl ⟨by rfl, ?hy⟩) hS0 ?_
        case hy => (intro w hSw; (try dsimp only at hSw); go_simp <;> with_reducible rfl)
        (try simp only [Act.put, List.setIfInBounds_toArray, List.set_cons_zero, List.set_cons_succ])
        refine lateT_take (i := 12) (oi := _) (v := ?_) [25] rfl (by kernel_rfl) (by kernel_rfl) (by kernel_rfl) (by kernel_rfl) (fun _ _ _ h => h) (Or.inl ⟨by rfl, ?hy⟩) hS0 ?_
        case hy => (intro w hSw; (try dsimp only at hSw); go_simp <;> with_reducible rfl)
        (try simp only [Act.put, List.setIfInBounds_toArray, List.set_cons_zero, List.set_cons_succ])
        refine lateT_take (i := 13) (oi := _) (v := ?_) [25] rfl (by kernel_rfl) (by kernel_rfl) (by kernel_rfl) (by kernel_rfl) (fun _ _ _ h => h) (Or.inl ⟨by rfl, ?hy⟩) hS0 ?_
        case hy => (intro w hSw; (try dsimp only at hSw); go_simp <;> with_reducible rfl)
        (try simp only [Act.put, List.setIfInBounds_toArray, List.set_cons_zero, List.set_cons_succ])
        refine lateT_take (i := 14) (oi := _) (v := ?_) [25] rfl (by kernel_rfl) (by kernel_rfl) (by kernel_rfl) (by kernel_rfl) (fun _ _ _ h => h) (Or.inl ⟨by rfl, ?hy⟩) hS0 ?_
        case hy => (intro w hSw; (try dsimp only at hSw); go_simp <;> with_reducible rfl)
        (try simp only [Act.put, List.setIfInBounds_toArray, List.set_cons_zero, List.set_cons_succ])
        refine lateT_take (i := 15) (oi := _) (v := ?_) [25] rfl (by kernel_rfl) (by kernel_rfl) (by kernel_rfl) (by kernel_rfl) (fun _ _ _ h => h) (Or.inl ⟨by rfl, ?hy⟩) hS0 ?_
        case hy => (intro w hSw; (try dsimp only at hSw); go_simp <;> with_reducible rfl)
        (try simp only [Act.put, List.setIfInBounds_toArray, List.set_cons_zero, List.set_cons_succ])
        refine lateT_take (i := 16) (oi := _) (v := ?_) [25] rfl (by kernel_rfl) (by kernel_rfl) (by kernel_rfl) (by kernel_rfl) (fun _ _ _ h => h) (Or.inl ⟨by rfl, ?hy⟩) hS0 ?_
        case hy => (intro w hSw; (try dsimp only at hSw); go_simp <;> with_reducible rfl)
        (try simp only [Act.put, List.setIfInBounds_toArray, List.set_cons_zero, List.set_cons_succ])
        refine lateT_take (i := 17) (oi := _) (v := ?_) [25] rfl (by kernel_rfl) (by kernel_rfl) (by kernel_rfl) (by kernel_rfl) (fun _ _ _ h => h) (Or.inl ⟨by rfl, ?hy⟩) hS0 ?_
        case hy => (intro w hSw; (try dsimp only at hSw); go_simp <;> with_reducible rfl)
        (try simp only [Act.put, List.setIfInBounds_toArray, List.set_cons_zero, List.set_cons_succ])
        refine lateT_take (i := 18) (oi := _) (v := ?_) [25] rfl (by kernel_rfl) (by kernel_rfl) (by kernel_rfl) (by kernel_rfl) (fun _ _ _ h => h) (Or.inl ⟨by rfl, ?hy⟩) hS0 ?_
        case hy => (intro w hSw; (try dsimp only at hSw); go_simp <;> with_reducible rfl)
        (try simp only [Act.put, List.setIfInBounds_toArray, List.set_cons_zero, List.set_cons_succ])
        refine lateT_take (i := 19) (oi := _) (v := ?_) [25] rfl (by kernel_rfl) (by kernel_rfl) (by kernel_rfl) (by kernel_rfl) (fun _ _ _ h => h) (Or.inl ⟨by rfl, ?hy⟩) hS0 ?_
        case hy => (intro w hSw; (try dsimp only at hSw); go_simp <;> with_reducible rfl)
        (try simp only [Act.put, List.setIfInBounds_toArray, List.set_cons_zero, List.set_cons_succ])
        refine lateT_take (i := 20) (oi := _) (v := ?_) [25] rfl (by kernel_rfl) (by kernel_rfl) (by kernel_rfl) (by kernel_rfl) (fun _ _ _ h => h) (Or.inl ⟨by rfl, ?hy⟩) hS0 ?_
        case hy => (intro w hSw; (try dsimp only at hSw); go_simp <;> with_reducible rfl)
        (try simp only [Act.put, List.setIfInBounds_toArray, List.set_cons_zero, List.set_cons_succ])
        refine lateT_take (i := 21) (oi := _) (v := ?_) [25] rfl (by kernel_rfl) (by kernel_rfl) (by kernel_rfl) (by kernel_rfl) (fun _ _ _ h => h) (Or.inl ⟨by rfl, ?hy⟩) hS0 ?_
        case hy => (intro w hSw; (try dsimp only at hSw); go_simp <;> with_reducible rfl)
        (try simp only [Act.put, List.setIfInBounds_toArray, List.set_cons_zero, List.set_cons_succ])
        refine lateT_take (i := 22) (oi := _) (v := ?_) [25] rfl (by kernel_rfl) (by kernel_rfl) (by kernel_rfl) (by kernel_rfl) (fun _ _ _ h => h) (Or.inl ⟨by rfl, ?hy⟩) hS0 ?_
        case hy => (intro w hSw; (try dsimp only at hSw); go_simp <;> with_reducible rfl)
        (try simp only [Act.put, List.setIfInBounds_toArray, List.set_cons_zero, List.set_cons_succ])
        refine lateT_step (i := 10) (by kernel_rfl) rfl (fun K hK => ?_)
        go_simp
        refine hK.out _ _ (fun _ => hSS.out wD (Below.refl _ _)) ?_
        clear hK K
        (try simp only [Act.put, List.setIfInBounds_toArray, List.set_cons_zero, List.set_cons_succ])
        refine lateT_step (i := 11) (by kernel_rfl) rfl (fun K hK => ?_)
        go_simp
        refine hK.out _ _ (fun _ => hSS.out wD (Below.refl _ _)) ?_
        clear hK K
        (try simp only [Act.put, List.setIfInBounds_toArray, List.set_cons_zero, List.set_cons_succ])
        refine lateT_step (i := 23) (by kernel_rfl) rfl (fun K hK => ?_)
        go_simp
        refine hK.out _ _ (fun _ => hSS.out wD (Below.refl _ _)) ?_
        clear hK K
        (try simp only [Act.put, List.setIfInBounds_toArray, List.set_cons_zero, List.set_cons_succ])
        refine lateT_step (i := 24) (by kernel_rfl) rfl (fun K hK => ?_)
        go_simp
        go_at_call 256
        (with_reducible refine hq.out.mono ?_)
        rintro e w6 ⟨A7, n7, c7, rfl, hO7, hn7, hb7⟩
        have hS7 := hide (hSS.out w6 hb7)
        have hb7h := hide hb7
        have hO7h := hide hO7
        clear hO7 hb7
        (try go_wp2_with fail)
        refine hK.out _ _ (fun _ => hS7.out) ?_
        clear hK K
        (try simp only [Act.put, List.setIfInBounds_toArray, List.set_cons_zero, List.set_cons_succ])
        refine lateT_step (i := 25) (by kernel_rfl) rfl (fun K hK => ?_)
        go_simp
        refine hK.out _ _ (fun h => absurd rfl h) ?_
        clear hK K
        (try simp only [Act.put, List.setIfInBounds_toArray, List.set_cons_zero, List.set_cons_succ])
        refine lateT_done (by kernel_rfl) ?_ _
        have hsF := hO7h.out.sl flat_iv
        rw [← hs2.out] at hsF
        have hzD := hbD.out.size
        replace hsF := hide (hsF.more hzD (Nat.le_refl _))
        have hbF := hide (hbD.out.trans (hb7h.out.mono hzD))
        clear hO7h
        go_wp2_with fail
        go_roundw
        case rel => exact ⟨k + 1, n7, c7, A7, by omega, by go_num, rfl, hsF.out, by omega, hbF.out⟩
        case measure => simp [intOf]; omega
      · have hs2 : (es.take (k + 1)).foldl (sgS N p x) [] = (es.take k).foldl (sgS N p x) [] := by
          rw [hstep]
          unfold sgS
          rw [if_neg hfx]
        have hO9 := hO.out
        rw [← hs2] at hO9
        replace hO9 := hide hO9
        have g1 : (f == x) = false := by rw [beq_eq_false_iff_ne]; exact hfx
        replace hx := hide hx
        replace hpt := hide hpt
        clear hstep hs2 hO hSy hPr hfx hBr
        go_wp2_with fail
        go_roundw
        case rel => exact ⟨k + 1, n5, c5, A5, by omega, by go_num, rfl, hO9.out, by omega, hb.out⟩
        case measure => simp [intOf]; omega
    · obtain rfl : k = m := by omega
      have hF := hO.out
      rw [List.take_of_length_le (by omega)] at hF
      replace hF := hide hF
      clear hBr
      go_wp2_with fail
      go_ret
      exact ⟨A5, n5, c5, rfl, hF.out, by omega, hb.out⟩
end Go.Proofs.YtnhomkmfbngmgaaGreatDoor

namespace Go.Proofs.YtnhomkmfbngmgaaGreatDoor
open Go.Sort
set_option linter.unusedVariables false
set_option linter.unusedSimpArgs false

theorem sg_mem {N : Nat} {p : List Int} {x : Int} : ∀ (l : List Ed) (s : List Int) (c : Int), c ∈ l.foldl (sgS N p x) s ↔ c ∈ s ∨ ∃ e, e ∈ l ∧ e.1 = x ∧ c = e.2.1 * (N : Int) + pv p e.2.2
  | [], s, c => by simp
  | e :: l, s, c => by
    rw [List.foldl_cons, sg_mem l]
    unfold sgS
    by_cases h : e.1 = x
    · rw [if_pos h, putI_mem, or_assoc]
      refine or_congr_right ?_
      constructor
      · rintro (g | ⟨f, hf, g⟩)
        · exact ⟨e, List.mem_cons_self .., h, g⟩
        · exact ⟨f, List.mem_cons_of_mem _ hf, g⟩
      · rintro ⟨f, hf, g1, g2⟩
        rcases List.mem_cons.1 hf with rfl | hf
        · exact .inl g2
        · exact .inr ⟨f, hf, g1, g2⟩
    · rw [if_neg h]
      refine or_congr_right ⟨fun ⟨f, hf, g⟩ => ⟨f, List.mem_cons_of_mem _ hf, g⟩, fun ⟨f, hf, g1, g2⟩ => ?_⟩
      rcases List.mem_cons.1 hf with rfl | hf
      · exact absurd g1 h
      · exact ⟨f, hf, g1, g2⟩
theorem sgF_eq (N : Nat) (p : List Int) (es : List Ed) (k : Nat) : sgF N p es (k : Int) = Lib.compact (sortI (cdL es N p k)) := by
  refine asc_ext (sg_asc _ _ List.Pairwise.nil) (set_asc _) fun c => ?_
  unfold sgF
  rw [sg_mem, set_mem]
  unfold cdL
  rw [List.mem_map]
  constructor
  · rintro (h | ⟨e, he, h1, h2⟩)
    · cases h
    · exact ⟨e, List.mem_filter.2 ⟨he, decide_eq_true h1⟩, h2.symm⟩
  · rintro ⟨e, he, h⟩
    obtain ⟨h1, h2⟩ := List.mem_filter.1 he
    exact .inr ⟨e, h1, of_decide_eq_true h2, h.symm⟩
/-- Two states stay together exactly if their blocks and their signatures are the same. -/
theorem ref_key {N : Nat} {p : List Int} {es : List Ed} (hp : p.length = N) {i j : Nat} (hi : i < N) (hj : j < N) : sameB (refF es N p) i j ↔ p[i]? = p[j]? ∧ sgF N p es (i : Int) = sgF N p es (j : Int) := by
  have hk : (keysR es N p).length = N := by simp [keysR]
  unfold refF
  rw [nk_same (by omega) (by omega)]
  unfold keysR
  rw [List.getElem?_map, List.getElem?_map, List.getElem?_range hi, List.getElem?_range hj]
  simp only [Option.map_some, Option.some.injEq]
  unfold keyR
  rw [List.cons.injEq, sgF_eq, sgF_eq]
  refine and_congr_left fun _ => ?_
  rw [List.getElem?_eq_getElem (show i < p.length by omega), List.getElem?_eq_getElem (show j < p.length by omega)]
  simp
/-- A block begins a new number, or it is one that has come. -/
theorem new_or {r : List Int} (hr : normF r = r) {k : Nat} {x : Int} (hx : r[k]? = some x) : (0 ≤ x ∧ cntB r (k + 1) = cntB r k ∧ ∃ j, j < k ∧ r[j]? = some x) ∨ (x = cntB r k ∧ cntB r (k + 1) = cntB r k + 1 ∧ ∀ j, j < k → ¬ r[j]? = some x) := by
  rcases cntB_step hr hx with ⟨h0, h1, h2⟩ | ⟨h1, h2⟩
  · left
    refine ⟨h0, h2, ?_⟩
    have hm : x ∈ firsts [] (r.take k) := by
      rw [firsts_take hr k]
      exact List.mem_map.2 ⟨x.toNat, List.mem_range.2 (by omega), by show ((x.toNat : Nat) : Int) = x; omega⟩
    have hm2 := (firsts_mem.1 hm).resolve_left (by simp)
    obtain ⟨j, hj, e⟩ := List.getElem_of_mem hm2
    rw [List.length_take] at hj
    rw [List.getElem_take] at e
    exact ⟨j, by omega, by rw [List.getElem?_eq_getElem (by omega), e]⟩
  · right
    refine ⟨h1, h2, fun j hj hjx => ?_⟩
    have hm : x ∈ firsts [] (r.take k) := firsts_mem.2 (.inr (List.mem_of_getElem? (by rw [List.getElem?_take_of_lt hj]; exact hjx)))
    rw [firsts_take hr k] at hm
    obtain ⟨v, hv, e⟩ := List.mem_map.1 hm
    have := List.mem_range.1 hv
    have : (v : Int) = x := e
    omega
end Go.Proofs.YtnhomkmfbngmgaaGreatDoor

namespace Go.Proofs.YtnhomkmfbngmgaaGreatDoor
open Go.ChangeShapes Go.WideShapes Go.ChangeAt Go.RowKit
set_option linter.unusedVariables false
set_option linter.unusedSimpArgs false

/-- Rows of numbers, of any lengths; the row of their handles is the call's own. -/
structure GrowH (w : World) (base : Nat) (A : Option Addr) (n c : Nat) (R : List (Hd × List Int)) : Prop where
  own : Own 1 (sv) w base 32 A n c (R.map (·.1))
  rows : ∀ r ∈ R, SlI w base w.heap.size r.1.1 r.1.2.1 r.2
  off : ∀ r ∈ R, 0 < r.1.2.1 → ∀ b off, r.1.1 = some ⟨b, off, none⟩ → (Value.slice A n c).ownBlock ≠ some b
section
variable {w w4 w5 w' : World} {base n c : Nat} {A : Option Addr} {R : List (Hd × List Int)}
theorem GrowH.len (h : GrowH w base A n c R) : R.length = n := by have := h.own.len; rwa [List.length_map] at this
theorem GrowH.nil_ (w : World) (base : Nat) : GrowH w base none 0 0 [] := ⟨Own.nil_ _ _ _, fun _ h => (List.not_mem_nil h).elim, fun _ h => (List.not_mem_nil h).elim⟩
/-- The blocks from base on stay. -/
theorem GrowH.keep (h : GrowH w base A n c R) (hs : w.heap.size ≤ w'.heap.size) (hk : ∀ b, base ≤ b → b < w.heap.size → w'.heap[b]? = w.heap[b]?) : GrowH w' base A n c R :=
  ⟨h.own.keep fun g hg => hk g (h.own.lt g hg).1 (h.own.lt g hg).2, fun r hr => ((h.rows r hr).keep hs fun b h1 _ h3 => hk b h1 h3).more (Nat.le_refl _) hs, h.off⟩
theorem GrowH.below (h : GrowH w base A n c R) (hb : Below w.heap.size w w') : GrowH w' base A n c R := h.keep hb.size fun b _ h2 => hb.block b h2
/-- A first row. -/
theorem GrowH.one {Ah : Option Addr} {nh ch : Nat} {s : List Int} (hs : SlI w base w.heap.size Ah nh s) (hb : base ≤ w.heap.size) : GrowH (w.alloc (.cells #[.slice Ah nh ch] 32)) base (some ⟨w.heap.size, 0, none⟩) 1 1 [((Ah, nh, ch), s)] := by
  have hbel : Below w.heap.size w (w.alloc (.cells #[.slice Ah nh ch] 32)) := (Below.refl _ _).alloc (Nat.le_refl _) _
  refine ⟨⟨rfl, by simp [sv], .inr ⟨w.heap.size, 1, #[.slice Ah nh ch], rfl, hb, heap_alloc_new w _, Nat.le_refl _, by decide, rfl, rfl⟩⟩, fun r hr => ?_, fun r hr hN b off e => ?_⟩
  · obtain rfl := List.mem_singleton.1 hr
    exact (hs.below hbel (.inr (Nat.le_refl _))).more (Nat.le_refl _) hbel.size
  · obtain rfl := List.mem_singleton.1 hr
    obtain ⟨b', off', e', -, -, g3, -⟩ := hs.at_ hN
    have e : Ah = _ := e
    rw [e] at e'
    cases e'
    intro e2
    have e2 : some w.heap.size = some b := e2
    injection e2 with e2
    omega
/-- A further row. -/
theorem GrowH.push (h : GrowH w4 base A n c R) {Ah : Option Addr} {nh ch : Nat} {s : List Int} (hs : SlI w4 base w4.heap.size Ah nh s) (ho : ∀ b off, 0 < nh → Ah = some ⟨b, off, none⟩ → (Value.slice A n c).ownBlock ≠ some b)
    {A5 : Option Addr} {c5 : Nat} (hown : Own 1 (sv) w5 base 32 A5 (n + 1) c5 (R.map (·.1) ++ [(Ah, nh, ch)])) (hgr : w4.grownBy w5 (Value.slice A n c).ownBlock)
    (hat : (Value.slice A5 (n + 1) c5).ownBlock = (Value.slice A n c).ownBlock ∨ (Value.slice A5 (n + 1) c5).ownBlock = some w4.heap.size) :
    GrowH w5 base A5 (n + 1) c5 (R ++ [((Ah, nh, ch), s)]) := by
  have hz5 := hgr.size
  have keepS : ∀ (B : Option Addr) (nb : Nat) (l : List Int), SlI w4 base w4.heap.size B nb l → (∀ b off, 0 < nb → B = some ⟨b, off, none⟩ → (Value.slice A n c).ownBlock ≠ some b) → SlI w5 base w5.heap.size B nb l := by
    intro B nb l hl hne
    refine ⟨hl.1, fun hm => ?_⟩
    obtain ⟨b, off, rfl, g1, g2, g3, hc⟩ := hl.2 hm
    have hk := hgr.block b g3 (fun e => hne b off hm rfl e.symm)
    refine ⟨b, off, rfl, g1, by omega, by omega, fun k x hx j u hu => ?_⟩
    obtain ⟨h1, h2⟩ := hc k x hx j u hu
    exact ⟨(World.cell?_of_block (w := w4) (by simpa using hk)).trans h1, (World.frozen?_of_block (w := w4) (by simpa using hk)).trans h2⟩
  have hoff : ∀ (B : Option Addr) (nb : Nat) (l : List Int), SlI w4 base w4.heap.size B nb l → (∀ b off, 0 < nb → B = some ⟨b, off, none⟩ → (Value.slice A n c).ownBlock ≠ some b) → ∀ b off, 0 < nb → B = some ⟨b, off, none⟩ → (Value.slice A5 (n + 1) c5).ownBlock ≠ some b := by
    intro B nb l hl hne b off hN e
    rcases hat with h1 | h1
    · rw [h1]; exact hne b off hN e
    · rw [h1]
      obtain ⟨b', off', e', -, -, g3, -⟩ := hl.at_ hN
      rw [e] at e'
      cases e'
      intro e2
      injection e2 with e2
      omega
  refine ⟨by rw [List.map_append]; exact hown, fun r hr => ?_, fun r hr hm b off e => ?_⟩
  · rcases List.mem_append.1 hr with hr | hr
    · exact keepS _ _ _ (h.rows r hr) fun b off hm e => h.off r hr hm b off e
    · obtain rfl := List.mem_singleton.1 hr
      exact keepS _ _ _ hs ho
  · rcases List.mem_append.1 hr with hr | hr
    · exact hoff _ _ _ (h.rows r hr) (fun b off hm e => h.off r hr hm b off e) b off hm e
    · obtain rfl := List.mem_singleton.1 hr
      exact hoff _ _ _ hs ho b off hm e
/-- Row k. -/
theorem GrowH.get (h : GrowH w base A n c R) {k : Nat} (hk : k < n) : ∃ b off Ah nh ch s, A = some ⟨b, off, none⟩ ∧ base ≤ b ∧ b < w.heap.size ∧ R[k]? = some ((Ah, nh, ch), s) ∧ w.cell? ⟨b, off + k, none⟩ = some (.slice Ah nh ch) ∧ SlI w base w.heap.size Ah nh s ∧
    ∀ b off, 0 < nh → Ah = some ⟨b, off, none⟩ → (Value.slice A n c).ownBlock ≠ some b := by
  have hl := h.len
  obtain ⟨b, off, e, g1, g2, g3, hc⟩ := (h.own.sl flat_sv).at_ (by omega)
  have hr : R[k]? = some R[k] := List.getElem?_eq_getElem (by omega)
  have hm : R[k] ∈ R := List.getElem_mem _
  have h0 := (hc k R[k].1 (by rw [List.getElem?_map, hr]; rfl) 0 _ rfl).1
  rw [Nat.mul_one, Nat.add_zero] at h0
  exact ⟨b, off, R[k].1.1, R[k].1.2.1, R[k].1.2.2, R[k].2, e, g1, g3, hr, h0, h.rows _ hm, fun b off hN e => h.off _ hm hN b off e⟩
end
end Go.Proofs.YtnhomkmfbngmgaaGreatDoor

namespace Go.Proofs.YtnhomkmfbngmgaaGreatDoor
open Go.ChangeShapes Go.WideShapes Go.ChangeAt Go.RowKit
set_option linter.unusedVariables false

set_option maxRecDepth 100000 in
theorem l00Same_calls (A B : Option Addr) (n m c d : Nat) (l r : List Int) (w : World) (lo hi lo' hi' : Nat) (h : SlI w lo hi A n l) (g : SlI w lo' hi' B m r) (hn : n ≤ 1048576) (hm : m ≤ 1048576) :
    Calls Tryz.prog 165 #[.slice A n c, .slice B m d] w fun e w' => e = .returned (.bool (decide (l = r))) ∧ Below w.heap.size w w' := by
  have hl := hide h.len
  have hr := hide g.len
  by_cases hnm : n = m
  · subst hnm
    replace h := hide h
    replace g := hide g
    go_enter Tryz.func165, Tryz.ntmps165
    go_wp2_with fail
    go_loopw [5] (fun i wr => ∃ k : Nat, k ≤ n ∧ i = .int .i64 k ∧ Below w.heap.size w wr ∧ l.take k = r.take k) (fun i _ => n - (intOf i).toNat)
    case atStart => exact ⟨0, Nat.zero_le _, rfl, (Below.refl _ _), rfl⟩
    case round =>
      obtain ⟨k, hk, rfl, hb, he⟩ := hrel
      replace he := hide he
      by_cases hlt : k < n
      · obtain ⟨b, off, x, rfl, g1, g2, g3, hx, c0, -⟩ := h.out.get hlt
        obtain ⟨b', off', y, rfl, g1', g2', g3', hy, d0, -⟩ := g.out.get hlt
        replace c0 := (hb.cell (p := ⟨b, off + k, none⟩) g3).trans c0
        replace d0 := (hb.cell (p := ⟨b', off' + k, none⟩) g3').trans d0
        replace hx := hide hx
        replace hy := hide hy
        clear h g
        have hk0 : (0 : Int) ≤ (k : Int) := by omega
        have hk1 : (k : Int) < (n : Int) := by omega
        by_cases hxy : x = y
        · subst hxy
          have hq : (x != x) = false := by simp
          go_wp2_with fail
          go_quiet (fail)
          go_wp2_with fail
          go_roundw
          case rel => exact ⟨k + 1, by omega, by go_num, by first | exact hb | exact ⟨hb.os, hb.tape, hb.output, hb.size, hb.block⟩, take_step he.out hx.out hy.out rfl⟩
          case measure => simp [intOf]; omega
        · have hne := hide (take_stop hx.out hy.out hxy)
          have hq : (x != y) = true := by rw [bne_iff_ne]; exact hxy
          go_wp2_with fail
          go_quiet (fail)
          go_wp2_with fail
          go_ret
          exact ⟨by simp [hne.out], by first | exact hb | exact ⟨hb.os, hb.tape, hb.output, hb.size, hb.block⟩⟩
      · have hkn : k = n := by omega
        subst hkn
        clear h g
        go_wp2_with fail
        go_ret
        exact ⟨by rw [take_all he.out hl.out hr.out]; simp, hb⟩
  · have hne : Hid (l ≠ r) := fun e => hnm (by rw [← hl.out, ← hr.out, e])
    have hb0 : ((n : Int) != (m : Int)) = true := by rw [bne_iff_ne]; omega
    clear h g
    go_enter Tryz.func165, Tryz.ntmps165
    go_wp2_with fail
    go_ret
    exact ⟨by simp [hne.out], Below.refl _ _⟩

end Go.Proofs.YtnhomkmfbngmgaaGreatDoor
