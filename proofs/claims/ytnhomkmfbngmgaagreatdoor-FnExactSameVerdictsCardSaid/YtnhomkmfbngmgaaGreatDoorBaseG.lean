/-
  Several texts in one:
  The list of labels of a list of texts, by the reference. Conditions: sizes.
  Rising lists of edges and an edge put into one: plain; an edge of a list of the call's own written anew. Conditions: none.
  A transition system made of edges over a list of texts, by the reference. Conditions: sizes.
  The names that are drawn for a system. Conditions: fewer than 10^9 choices.
  The drawn names are labels: plain. Conditions: none.
  Whether two monitors give the same verdicts: the two searches answer alike. Plain. Conditions: both are valid.
  The shelf's contract of SortFunc at []impl.Edge, in plain words (printed by wip/shelf6.py with the kit's lay-plain). Conditions: sizes.
  slices.SortFunc with compareEdges, and slices.Compact, on edges of the call's own, by the program. Conditions: sizes.
  slices.Compact on edges of the call's own, by the program. Conditions: sizes.
  slices.Sort and slices.Compact at []int64, on a slice of the call's own. Conditions: sizes.
  The states to which edges with a label lead from some states, by the program. Conditions: sizes.
  What internal edges reach from some states: lists that grow till nothing is new. Conditions: none.
  A list that grows, begun before some other blocks were made. Conditions: none.
  A world that meets the rows' condition on the library's variables, and what the condition gives. Conditions: none.
  Pairs of numbers as keys of a map. Conditions: numbers that fit.
  A set of pairs of numbers as a map to bools, and the loop over it in whatever order. Conditions: numbers that fit.
  Whether the edges of a pair are answered within a set of pairs, by the program. Conditions: sizes.
  compareLabels, slices.SortFunc and slices.Compact at []string, and the ready labels, by the program. Conditions: sizes.
-/
import Derived.Test.YtnhomkmfbngmgaaGreatDoorBaseA
import Derived.Test.YtnhomkmfbngmgaaGreatDoorBaseB
import Derived.Test.YtnhomkmfbngmgaaGreatDoorBaseC
import Derived.Test.YtnhomkmfbngmgaaGreatDoorBaseD
import Derived.Test.YtnhomkmfbngmgaaGreatDoorBaseE
import Derived.Test.YtnhomkmfbngmgaaGreatDoorBaseF
import Derived.Deep.DeepCutAuto
import Derived.StillTailTactics
import Derived.Ground.SlsfProg
import Derived.Shelf.SlSortCmp.NoneTotal
import Derived.Sort.EncStr
import Derived.Shelf.SlGeneric
import Derived.Test.YtnhomkmfbngmgaaGreatDoorProg
import Derived.Lib.SliceRun
import Derived.Deep.RegionHeld
import Derived.LaidMore
import Derived.LaidLaws
import Derived.HandedShaped
import Derived.Stop.LaidErr
import Derived.Lib.LaidTab
import Derived.Maps.OwnSet
import Derived.Maps.Views
import Derived.WideKeyPair
import Derived.DeepKeys4
import Derived.WalkArith
import Derived.Maps.RangeWalk
import Derived.Below
import Derived.Deep.RegionLaw
import Derived.Laws.EntriesVeiled
import Derived.Deep.QuietTactic
import Derived.Ground.SlgnProg
import Derived.Ground.SlgmProg
import Derived.Shelf.SlicesG.Turned
import Derived.Shelf.SlicesG.SearchI
import Derived.Shelf.SlicesG.CompactI
import Derived.Shelf.SlicesG.Cells
import Derived.Shelf.SortM.Plain
import Derived.Shelf.SortM.SortNone
import Derived.Deep.LoopGhost
import Derived.Deep.RegionHeld3
set_option linter.unusedSimpArgs false
set_option linter.unusedVariables false
namespace Go.Proofs.YtnhomkmfbngmgaaGreatDoor
open Go.ChangeShapes Go.WideShapes Go.ChangeAt Go.RowKit Go.Sort
set_option linter.unusedVariables false
set_option linter.unusedSimpArgs false

/-- A rising list of labels with tau ahead. -/
structure JoiI (out : List ByteArray) (l : List ByteArray) : Prop where
  head : out[0]? = some tauB
  rise : (out.map toL).Pairwise fun x y => ltL x y = true
  mem : ∀ x, x ∈ out ↔ x = tauB ∨ x ∈ l
theorem JoiI.start : JoiI [tauB] [] := ⟨rfl, by simp, fun x => by simp⟩
theorem JoiI.old {out l : List ByteArray} (h : JoiI out l) {s : ByteArray} (hs : s ∈ out) : JoiI out (l ++ [s]) :=
  ⟨h.head, h.rise, fun x => by
    rw [h.mem, List.mem_append, List.mem_singleton]
    constructor
    · rintro (g | g)
      · exact .inl g
      · exact .inr (.inl g)
    · rintro (g | g | rfl)
      · exact .inl g
      · exact .inr g
      · exact (h.mem _).1 hs⟩
theorem JoiI.put {out l : List ByteArray} (h : JoiI out l) {s : ByteArray} (hs : ¬ s ∈ out) {k : Nat} (hk0 : 1 ≤ k) (hk : k ≤ out.length) (hlo : ∀ j, 1 ≤ j → j < k → ∀ x, out[j]? = some x → Op.bytesLess x.toList s.toList = true) (hhi : ∀ x, out[k]? = some x → Op.bytesLess x.toList s.toList = false) :
    JoiI (out.take k ++ s :: out.drop k) (l ++ [s]) := by
  have hst : s ≠ tauB := fun e => hs (e ▸ (h.mem tauB).2 (.inl rfl))
  have hsL : toL s ≠ tauBL := fun e => hst (toL_inj (e.trans toL_tau.symm))
  have hne : ∀ x ∈ out, toL x ≠ toL s := fun x hx e => hs (toL_inj e ▸ hx)
  have hlow : ∀ x ∈ out.take k, ltL (toL x) (toL s) = true := fun x hx => by
    obtain ⟨j, hj⟩ := List.getElem?_of_mem hx
    rw [List.getElem?_take] at hj
    split at hj
    · rename_i hjk
      have hxo := List.mem_of_getElem? hj
      rw [ltL_iff]
      refine ⟨hne x hxo, ?_⟩
      by_cases h0 : j = 0
      · subst h0
        rw [h.head] at hj
        have := Option.some.inj hj
        subst this
        exact .inl toL_tau
      · have := hlo j (by omega) hjk x hj
        rw [toL_eq, toL_eq] at this
        exact .inr ⟨hsL, this⟩
    · cases hj
  have hhigh : ∀ x ∈ out.drop k, ltL (toL s) (toL x) = true := fun x hx => by
    have hkl : k < out.length := by
      rcases Nat.lt_or_ge k out.length with h1 | h1
      · exact h1
      · rw [List.drop_eq_nil_of_le h1] at hx; cases hx
    have hy : out[k]? = some out[k] := List.getElem?_eq_getElem _
    have h1 : ltL (toL s) (toL out[k]) = true := by
      rcases ltL_total (toL s) (toL out[k]) with g | g | g
      · exact g
      · exact absurd g.symm (hne _ (List.mem_of_getElem? hy))
      · rw [ltL_iff] at g
        have h2 := hhi _ hy
        rw [toL_eq, toL_eq] at h2
        rcases g.2 with g2 | g2
        · have h3 : out[k] = tauB := toL_inj (g2.trans toL_tau.symm)
          have h4 := List.pairwise_iff_getElem.1 h.rise 0 k (by rw [List.length_map]; omega) (by rw [List.length_map]; omega) (by omega)
          rw [List.getElem_map, List.getElem_map, h3] at h4
          have h5 := h.head
          rw [List.getElem?_eq_getElem (by omega)] at h5
          rw [Option.some.inj h5, ltL_irr] at h4
          cases h4
        · rw [h2] at g2
          cases g2.2
    rw [List.drop_eq_getElem_cons hkl] at hx
    rcases List.mem_cons.1 hx with rfl | hx
    · exact h1
    · obtain ⟨j, hj⟩ := List.getElem?_of_mem hx
      rw [List.getElem?_drop] at hj
      have hjl := (List.getElem?_eq_some_iff.1 hj).1
      have h4 := List.pairwise_iff_getElem.1 h.rise k (k + 1 + j) (by rw [List.length_map]; omega) (by rw [List.length_map]; omega) (by omega)
      rw [List.getElem_map, List.getElem_map, (List.getElem?_eq_some_iff.1 hj).2] at h4
      exact ltL_trans h1 h4
  refine ⟨?_, ?_, fun x => ?_⟩
  · rw [List.getElem?_append_left (by rw [List.length_take]; omega), List.getElem?_take, if_pos (by omega)]
    exact h.head
  · rw [List.map_append, List.map_cons, List.pairwise_append]
    have hr := h.rise
    rw [← List.take_append_drop k out, List.map_append, List.pairwise_append] at hr
    refine ⟨hr.1, List.pairwise_cons.2 ⟨fun y hy => ?_, hr.2.1⟩, fun a ha b hb => ?_⟩
    · obtain ⟨x, hx, rfl⟩ := List.mem_map.1 hy
      exact hhigh x hx
    · obtain ⟨x, hx, rfl⟩ := List.mem_map.1 ha
      rcases List.mem_cons.1 hb with rfl | hb
      · exact hlow x hx
      · exact hr.2.2 _ ha _ hb
  · have hm := h.mem x
    rw [← List.take_append_drop k out, List.mem_append] at hm
    rw [List.mem_append, List.mem_cons, List.mem_append, List.mem_singleton]
    constructor
    · rintro (g | g | g)
      · rcases hm.1 (.inl g) with g | g
        · exact .inl g
        · exact .inr (.inl g)
      · exact .inr (.inr g)
      · rcases hm.1 (.inr g) with g | g
        · exact .inl g
        · exact .inr (.inl g)
    · rintro (g | g | g)
      · rcases hm.2 (.inl g) with g | g
        · exact .inl g
        · exact .inr (.inr g)
      · rcases hm.2 (.inr g) with g | g
        · exact .inl g
        · exact .inr (.inr g)
      · exact .inr (.inl g)
/-- What the program makes of the same texts. -/
def joiF (l : List ByteArray) : List ByteArray := (Lib.compact (((tauB :: l).map toL).mergeSort fun x y => !(ltL y x))).map ofL
theorem map_toL_ofL2 (d : List (List UInt8)) : (d.map ofL).map toL = d := by
  rw [List.map_map]
  exact (List.map_congr_left fun x _ => toL_ofL x).trans (List.map_id _)
theorem JoiI.done {out l : List ByteArray} (h : JoiI out l) : out = joiF l := by
  have h1 : out.map toL = Lib.compact (((tauB :: l).map toL).mergeSort fun x y => !(ltL y x)) := by
    refine rise_ext (r := fun x y => ltL x y = true) (fun a g => by rw [ltL_irr] at g; cases g) (fun a b g k => ltL_asym g k) h.rise (compact_rise (sortL_rise _)) fun y => ?_
    rw [compactL_mem, List.mem_mergeSort, List.mem_map, List.mem_map]
    constructor
    · rintro ⟨x, hx, rfl⟩
      exact ⟨x, by rw [List.mem_cons]; exact (h.mem x).1 hx, rfl⟩
    · rintro ⟨x, hx, rfl⟩
      exact ⟨x, by rw [List.mem_cons] at hx; exact (h.mem x).2 hx, rfl⟩
  unfold joiF
  rw [← h1, List.map_map]
  exact ((List.map_congr_left fun x _ => ofL_toL x).trans (List.map_id _)).symm
theorem JoiI.len {out l : List ByteArray} (h : JoiI out l) : out.length ≤ l.length + 1 := by
  rw [h.done]
  unfold joiF
  rw [List.length_map]
  refine Nat.le_trans (Go.Lib.compact_length_le _) ?_
  rw [List.length_mergeSort, List.length_map, List.length_cons]
  exact Nat.le_refl _

theorem any_of_mem {l : List ByteArray} {s : ByteArray} : anyL l s = true ↔ s ∈ l := by
  unfold anyL
  rw [List.any_eq_true]
  exact ⟨fun ⟨x, h, e⟩ => of_decide_eq_true e ▸ h, fun h => ⟨s, h, decide_eq_true rfl⟩⟩
theorem Own.ne {w : World} {base e n c : Nat} {A : Option Addr} {l : List ByteArray} (h : Own 1 strv w base e A n c l) (hn : 0 < n) : ∃ g, A = some ⟨g, 0, none⟩ ∧ base ≤ g := by
  rcases h.2.2 with ⟨-, hv⟩ | ⟨g, cap, cur, hv, hb, -⟩
  · omega
  · cases hv
    exact ⟨g, rfl, hb⟩
theorem shift_set {out : List ByteArray} {i : Nat} {z x : ByteArray} (hi : i < out.length) (hx : out[i]? = some x) : (out.take (i + 1) ++ z :: out.drop (i + 1)).set (i + 1) x = out.take i ++ x :: out.drop i := by
  have h1 : out.drop i = x :: out.drop (i + 1) := by rw [List.drop_eq_getElem_cons hi]; congr 1; exact Option.some.inj ((List.getElem?_eq_getElem hi).symm.trans hx)
  rw [List.set_append_right _ _ (by rw [List.length_take]; omega), List.length_take, Nat.min_eq_left (by omega), Nat.sub_self, List.set_cons_zero, List.take_add_one, hx, h1]
  simp
theorem shift_end {out : List ByteArray} {i : Nat} {z x : ByteArray} (hi : i ≤ out.length) : (out.take i ++ z :: out.drop i).set i x = out.take i ++ x :: out.drop i := by
  rw [List.set_append_right _ _ (by rw [List.length_take]; omega), List.length_take, Nat.min_eq_left (by omega), Nat.sub_self, List.set_cons_zero]
theorem shift_get {out : List ByteArray} {i : Nat} {z x : ByteArray} (hi : i < out.length) (hx : out[i]? = some x) : (out.take (i + 1) ++ z :: out.drop (i + 1))[i]? = some x := by
  rw [List.getElem?_append_left (by rw [List.length_take]; omega), List.getElem?_take, if_pos (by omega), hx]

set_option maxRecDepth 100000 in
set_option maxHeartbeats 3200000 in
theorem l11Join_calls (A : Option Addr) (n c : Nat) (l : List ByteArray) (w : World) (lo hi : Nat) (h : SlS w lo hi A n l) (hh : hi ≤ w.heap.size) (hn : n ≤ 100000) :
    Calls Tryz.prog 146 #[.slice A n c] w fun e w' => ∃ A' n' c', e = .returned (.slice A' n' c') ∧ Own 1 strv w' w.heap.size 9 A' n' c' (joiF l) ∧ Below w.heap.size w w' := by
  have hE := hide elem_str
  have hlen := hide h.len
  have k1 := heap_alloc_new w (.cells #[.string tauB] 9)
  have hst : Hid (Own 1 strv (w.alloc (.cells #[.string tauB] 9)) w.heap.size 9 (some ⟨w.heap.size, 0, none⟩) 1 1 [tauB]) := Own.litL k1 rfl (Nat.le_refl _)
  have hb0 := hide ((Below.refl w.heap.size w).alloc (Nat.le_refl _) (.cells #[.string tauB] 9))
  replace h := hide h
  clear k1
  go_enter Tryz.func146, Tryz.ntmps146
  go_upto_region 2 with fail
  go_upto_region 3 with fail
  go_loopg [3, 4] n (fun J o i wr => ∃ (k m c : Nat) (A : Option Addr) (out : List ByteArray), k ≤ n ∧ o = .slice A m c ∧ i = .int .i64 (k : Nat) ∧ Hid (Own 1 strv wr w.heap.size 9 A m c out) ∧ Hid (JoiI out (l.take k)) ∧ Hid (Below w.heap.size w wr) ∧ Hid (n - k ≤ J))
  case atStart => exact ⟨0, 1, 1, _, [tauB], Nat.zero_le _, rfl, rfl, hst.out, JoiI.start, hb0.out, by show _ ≤ _; omega⟩
  case round =>
    clear hst hb0
    obtain ⟨k, m, c2, A2, out, hk, rfl, rfl, hown, hj, hb, hG⟩ := hrel
    by_cases hlt : k < n
    · obtain ⟨J2, rfl⟩ : ∃ G2, gk = G2 + 1 := ⟨gk - 1, by have := hG.out; omega⟩
      have hJ2 : Hid (n - (k + 1) ≤ J2) := by have := hG.out; show _ ≤ _; omega
      obtain ⟨b, off, s, rfl, g1, g2, g3, hx, c0, -⟩ := SlS.get h.out hlt
      have hbb := hb.out
      have c00 := hide c0
      have z0 := (hbb.cell (p := ⟨b, off + k, none⟩) g3).trans c0
      have hml := hown.out.len
      have hm1 : 1 ≤ m ∧ m ≤ k + 1 := by
        have h1 := hj.out.len
        have h2 := hj.out.head
        rw [List.length_take] at h1
        have h3 := (List.getElem?_eq_some_iff.1 h2).1
        omega
      obtain ⟨hm0, hm1⟩ := hm1
      have q := l11Find_calls s A2 m c2 out wr _ _ (hown.out.sl flat_strv) (by omega)
      have htk : l.take (k + 1) = l.take k ++ [s] := by rw [List.take_add_one, hx]; rfl
      have hI0 : (0 : Int) ≤ (k : Int) := by omega
      have hI1 : (k : Int) < (n : Int) := by omega
      clear c0 hbb hG
      by_cases hin : s ∈ out
      · have hj2 : Hid (JoiI out (l.take (k + 1))) := by show JoiI _ _; rw [htk]; exact hj.out.old hin
        replace q := hide (q.mono (R' := fun e w' => ∃ i : Nat, e = .returned (.int .i64 (i : Int)) ∧ wr = w') (by
          rintro e w' ⟨i, rfl, hf, rfl⟩
          rcases hf with ⟨-, h2⟩ | ⟨k, rfl, -, -⟩
          · rw [any_of_mem.2 hin] at h2; cases h2
          · exact ⟨k, rfl, rfl⟩))
        clear hj hx htk hin hml
        go_wp2_with (first | (go_at_call 174; (with_reducible refine q.out.mono ?_); rintro e w5 ⟨i, rfl, rfl⟩; have hge : (0 : Int) ≤ (i : Int) := Int.natCast_nonneg _))
        go_roundg J2
        case measure => omega
        case rel => exact ⟨k + 1, m, c2, A2, out, by omega, rfl, by go_num, hown, hj2, hb, hJ2⟩
      · replace q := hide (q.mono (R' := fun e w' => e = .returned (.int .i64 (-1)) ∧ wr = w') (by
          rintro e w' ⟨i, rfl, hf, rfl⟩
          rcases hf with ⟨rfl, h2⟩ | ⟨k, rfl, -, h2⟩
          · exact ⟨rfl, rfl⟩
          · exact absurd (any_of_mem.1 h2) hin))
        have hna : Hid (∀ out', JoiI out' (l.take k ++ [s]) → JoiI out' (l.take (k + 1))) := fun out' h => by rw [htk]; exact h
        have hzw := hb.out.size
        clear hx htk
        go_upto_region 6 with (first | (go_at_call 174; (with_reducible refine q.out.mono ?_); rintro e w5 ⟨rfl, rfl⟩))
        go_upto_region 7 with fail
        obtain ⟨wO, rfl⟩ : ∃ wO : World, wO = wr := ⟨_, rfl⟩
        go_loopw [5] (fun i wr => ∃ t : Nat, 1 ≤ t ∧ t ≤ m ∧ i = .int .i64 (t : Nat) ∧ Hid (∀ j, 1 ≤ j → j < t → ∀ x, out[j]? = some x → Op.bytesLess x.toList s.toList = true) ∧ Hid (Own 1 strv wr w.heap.size 9 A2 m c2 out) ∧ Hid (Below w.heap.size w wr)) (fun i _ => m - (intOf i).toNat)
        case atStart => exact ⟨1, Nat.le_refl _, by omega, rfl, fun j h1 h2 => by omega, hown.out, hb.out⟩
        case round =>
          clear hown hb q z0
          obtain ⟨t, ht1, htm, rfl, hlo, hown, hb⟩ := hrel
          have z0 := (hb.out.cell (p := ⟨b, off + k, none⟩) g3).trans c00.out
          have t0 : (0 : Int) ≤ (t : Int) := by omega
          by_cases hgo : t < m ∧ ∃ x, out[t]? = some x ∧ Op.bytesLess x.toList s.toList = true
          · obtain ⟨htl, x, hx, hxs⟩ := hgo
            have t1 : (t : Int) < (m : Int) := by omega
            have f1 : decide ((t : Int) < (m : Int)) = true := decide_eq_true t1
            obtain ⟨ga, oa, x', rfl, -, -, -, hx', cx, -⟩ := SlS.get (hown.out.sl flat_strv) htl
            rw [hx] at hx'
            injection hx' with hx'
            subst hx'
            have hlo2 : Hid (∀ j, 1 ≤ j → j < t + 1 → ∀ x, out[j]? = some x → Op.bytesLess x.toList s.toList = true) := fun j h1 h2 y hy => by
              by_cases e : j = t
              · subst e; rw [hx] at hy; injection hy with hy; rw [← hy]; exact hxs
              · exact hlo.out j h1 (by omega) y hy
            clear hx hlo
            go_wp2_with fail
            go_quiet (fail)
            go_wp2_with fail
            go_roundw
            case rel => exact ⟨t + 1, by omega, by omega, by go_num, hlo2.out, hown.out.keep fun _ _ => rfl, hb.out.trans ((below_drewN _ nq).mono hb.out.size)⟩
            case measure => simp [intOf]; omega
          · have hput := hide (hj.out.put (s := s) hin ht1 (by omega) hlo.out (fun x hx => by
              have h3 := (List.getElem?_eq_some_iff.1 hx).1
              rw [Bool.eq_false_iff]
              exact fun h4 => hgo ⟨by omega, x, hx, h4⟩))
            have hstop : t = m ∨ ∃ x, t < m ∧ out[t]? = some x ∧ Op.bytesLess x.toList s.toList = false := by
              by_cases e : t = m
              · exact .inl e
              · obtain ⟨x, hx⟩ : ∃ x, out[t]? = some x := ⟨_, List.getElem?_eq_getElem (by omega)⟩
                exact .inr ⟨x, by omega, hx, Bool.eq_false_iff.2 fun h4 => hgo ⟨by omega, x, hx, h4⟩⟩
            clear hgo hlo
            have hAB : Hid (t < m → ∀ ga oa, A2 = some ⟨ga, oa, none⟩ → ∀ x, out[t]? = some x → wr.cell? ⟨ga, oa + t, none⟩ = some (.string x)) := fun h1 ga oa eA x hx => by
              obtain ⟨ga', oa', x', e', -, -, -, hx', cx, -⟩ := SlS.get (hown.out.sl flat_strv) h1
              rw [eA] at e'
              cases e'
              rw [hx] at hx'
              injection hx' with hx'
              rw [hx']; exact cx
            obtain ⟨gA, rfl, -⟩ := hown.out.ne (by omega)
            rcases hstop with hst | ⟨x, htl, hx, hxs⟩
            focus
              have t1 : ¬ (t : Int) < (m : Int) := by omega
              have f1 : decide ((t : Int) < (m : Int)) = false := decide_eq_false t1
              have f2 : decide (t < m) = false := decide_eq_false (by omega)
              have f3 : ¬ t < m := by omega
              clear hAB hst
              go_wp2_with fail
              go_quiet (fail)
              go_upto_region 9 with fail
              clear t1 f1 f2 f3
            rotate_left
            focus
              have t1 : (t : Int) < (m : Int) := by omega
              have f1 : decide ((t : Int) < (m : Int)) = true := decide_eq_true t1
              have f2 : decide (t < m) = true := decide_eq_true htl
              have cx := hAB.out htl gA 0 rfl x hx
              rw [Nat.zero_add] at cx
              clear hAB hx
              go_wp2_with fail
              go_quiet (fail)
              go_upto_region 9 with fail
              clear hxs cx htl t1 f1 f2
            all_goals
              obtain ⟨wq, hwq⟩ : ∃ wq, wq = wr.drewN nq := ⟨_, rfl⟩
              have hownq : Hid (Own 1 strv wq w.heap.size 9 (some ⟨gA, 0, none⟩) m c2 out) := by rw [hwq]; exact hown.out.keep fun _ _ => rfl
              have hbq : Hid (Below w.heap.size w wq) := by rw [hwq]; exact hb.out.trans ((below_drewN _ nq).mono hb.out.size)
              rw [← hwq]
              replace hwq := hide hwq
              have hzq := hbq.out.size
              have hza : w.heap.size ≤ (wq.alloc (.cells #[.string ⟨#[]⟩] 9)).heap.size := by rw [World.size_alloc]; omega
              have hba := hide (hbq.out.alloc hzq (.cells #[.string ⟨#[]⟩] 9))
              clear hown hb
              go_upto_region 10 with (first | (at_builtin; (with_reducible refine wpList_app rfl (.tmp 38) (.tmp 39) rfl hE.out flat_strv rfl (hownq.out.alloc _) rfl (Sl.lit1' wq 9 (⟨#[]⟩ : ByteArray) _ rfl 1 _ ?d0) ?d1 hza ?_); rotate_right; intro A6 c6 w6 hown6 hgr6 hb6 hat6))
              case d0 => rfl
              case d1 => omega
              obtain ⟨g6, rfl, hg6⟩ := hown6.ne (by omega)
              have hb7 := hide (hba.out.trans hb6)
              have hS0 : Hid (Own 1 strv w6 w.heap.size 9 (some ⟨g6, 0, none⟩) (m + 1) c6 (out.take m ++ (⟨#[]⟩ : ByteArray) :: out.drop m)) := by
                show Own _ _ _ _ _ _ _ _ _
                rw [List.take_of_length_le (by omega), List.drop_eq_nil_of_le (by omega)]
                exact hown6
              clear hown6 hgr6 hb6 hat6 hownq hbq hba hza
              go_wp2_with fail
              obtain ⟨wP, rfl⟩ : ∃ wP : World, wP = wr := ⟨_, rfl⟩
              go_loopw [6] (fun i wr => ∃ (q : Nat) (y : ByteArray), t ≤ q ∧ q ≤ m ∧ i = .int .i64 (q : Nat) ∧ Hid (Own 1 strv wr w.heap.size 9 (some ⟨g6, 0, none⟩) (m + 1) c6 (out.take q ++ y :: out.drop q)) ∧ Hid (Below w.heap.size w wr)) (fun i _ => (intOf i).toNat)
              case atStart => exact ⟨m, _, htm, Nat.le_refl _, by go_num, hS0.out, hb7.out⟩
              case round =>
                clear hS0 hb7
                obtain ⟨q, y, hq1, hq2, rfl, hS, hb⟩ := hrel
                by_cases hqt : t < q
                · have q0 : (t : Int) < (q : Int) := by omega
                  obtain ⟨q', rfl⟩ : ∃ q', q = q' + 1 := ⟨q - 1, by omega⟩
                  have q1 : (0 : Int) ≤ (q' : Int) := by omega
                  have q2 : (q' : Int) < (m : Int) + 1 := by omega
                  have q3 : (q' : Int) + 1 < (m : Int) + 1 := by omega
                  have q4 : (0 : Int) ≤ (q' : Int) + 1 := by omega
                  obtain ⟨x1, hx1⟩ : ∃ x, out[q']? = some x := ⟨_, List.getElem?_eq_getElem (by omega)⟩
                  obtain ⟨ga, oa, xa, ea, -, -, -, hxa, ca, -⟩ := SlS.get (hS.out.sl flat_strv) (show q' < m + 1 by omega)
                  cases ea
                  rw [Nat.zero_add] at ca
                  rw [shift_get (by omega) hx1] at hxa
                  injection hxa with hxa
                  subst hxa
                  obtain ⟨gb, ob, xb, eb, -, -, -, -, cb, fb⟩ := SlS.get (hS.out.sl flat_strv) (show q' + 1 < m + 1 by omega)
                  cases eb
                  rw [Nat.zero_add] at cb fb
                  have hset := hS.out.setS (q' + 1) x1
                  rw [shift_set (by omega) hx1] at hset
                  replace hset := hide hset
                  have hbs := hide (hb.out.setCell (p := ⟨g6, q' + 1, none⟩) hg6 (.string x1))
                  clear hx1
                  go_wp2_with fail
                  go_roundw
                  case rel => exact ⟨q', x1, by omega, by omega, by go_num, hset.out, hbs.out⟩
                  case measure => simp [intOf]
                · obtain rfl : q = t := by omega
                  have q0 : ¬ (q : Int) < (q : Int) := by omega
                  have q1 : (0 : Int) ≤ (q : Int) := by omega
                  have q2 : (q : Int) < ((m + 1 : Nat) : Int) := by omega
                  have z1 := (hb.out.cell (p := ⟨b, off + k, none⟩) g3).trans c00.out
                  obtain ⟨g6', o6, x6, e6, -, -, -, -, c6', f6⟩ := SlS.get (hS.out.sl flat_strv) (show q < m + 1 by omega)
                  cases e6
                  rw [Nat.zero_add] at c6' f6
                  have hset := hide (hS.out.setS q s)
                  have hfin := shift_end (z := y) (x := s) (show q ≤ out.length by omega)
                  rw [hfin] at hset
                  have hbs := hide (hb.out.setCell (p := ⟨g6, q, none⟩) hg6 (.string s))
                  have hJ := hide (hna.out _ hput.out)
                  clear hfin
                  go_wp2_with fail
                  go_roundg J2
                  case measure => omega
                  case rel => exact ⟨k + 1, m + 1, c6, _, _, by omega, rfl, by go_num, hset.out, hJ.out, hbs.out, hJ2.out⟩
    · obtain rfl : k = n := by omega
      have hkk : ¬ (k : Int) < (k : Int) := by omega
      have hdone : Hid (out = joiF l) := by
        have := hj.out.done
        rw [List.take_of_length_le (by rw [hlen.out]; exact Nat.le_refl _)] at this
        exact this
      clear hj
      go_wp2_with fail
      go_ret
      exact ⟨A2, m, c2, rfl, by rw [← hdone.out]; exact hown.out, hb.out⟩

end Go.Proofs.YtnhomkmfbngmgaaGreatDoor

namespace Go.Proofs.YtnhomkmfbngmgaaGreatDoor
open Go.ChangeShapes Go.WideShapes Go.ChangeAt Go.RowKit
set_option linter.unusedVariables false
set_option linter.unusedSimpArgs false

theorem edLess_iff (a b : Ed) : edLess a b = true ↔ a.1 < b.1 ∨ (a.1 = b.1 ∧ (a.2.1 < b.2.1 ∨ (a.2.1 = b.2.1 ∧ a.2.2 < b.2.2))) := by
  unfold edLess
  by_cases h1 : a.1 = b.1
  · by_cases h2 : a.2.1 = b.2.1
    · simp [h1, h2]
    · simp [h1, h2]
  · simp [h1]
theorem edLess_irr (a : Ed) : edLess a a = false := Bool.eq_false_iff.2 fun h => by rw [edLess_iff] at h; omega
theorem edLess_trans {a b c : Ed} (h : edLess a b = true) (g : edLess b c = true) : edLess a c = true := by
  rw [edLess_iff] at h g ⊢; omega
theorem edLess_total {a b : Ed} (h : a ≠ b) : edLess a b = true ∨ edLess b a = true := by
  rw [edLess_iff, edLess_iff]
  by_cases h1 : a.1 = b.1
  · by_cases h2 : a.2.1 = b.2.1
    · by_cases h3 : a.2.2 = b.2.2
      · exact absurd (Prod.ext h1 (Prod.ext h2 h3)) h
      · omega
    · omega
  · omega
/-- Strictly rising. -/
def RisE (l : List Ed) : Prop := l.Pairwise fun x y => edLess x y = true
/-- A list that has got one edge more. -/
def PutO (l : List Ed) (e : Ed) (l' : List Ed) : Prop := RisE l' ∧ (∀ x, x ∈ l' ↔ x = e ∨ x ∈ l) ∧ l'.length ≤ l.length + 1
theorem PutO.old {l : List Ed} {e : Ed} (h : RisE l) (he : e ∈ l) : PutO l e l := ⟨h, fun x => ⟨.inr, fun g => by rcases g with rfl | g; exact he; exact g⟩, by omega⟩
section
variable {α : Type} {out : List α} {i : Nat} {z x : α}
end
theorem ev_set : ∀ (l : List Ed) (k : Nat) (x y z : Int), (((l.flatMap ev).set (k * 3) (.int .i64 x)).set (k * 3 + 1) (.int .i64 y)).set (k * 3 + 2) (.int .i64 z) = (l.set k (x, y, z)).flatMap ev
  | [], _, _, _, _ => rfl
  | a :: l, 0, x, y, z => by simp [ev]
  | a :: l, k + 1, x, y, z => by
    have e0 : (k + 1) * 3 = k * 3 + 1 + 1 + 1 := by omega
    have e1 : (k + 1) * 3 + 1 = k * 3 + 1 + 1 + 1 + 1 := by omega
    have e2 : (k + 1) * 3 + 2 = k * 3 + 2 + 1 + 1 + 1 := by omega
    have ih := ev_set l k x y z
    rw [List.set_cons_succ, List.flatMap_cons, List.flatMap_cons, ← ih]
    unfold ev
    rw [e2, e1, e0]
    rfl
theorem Own.setE {w : World} {base g n c : Nat} {e : TypeId} {l : List Ed} (h : Own 3 ev w base e (some ⟨g, 0, none⟩) n c l) (k : Nat) (x y z : Int) :
    Own 3 ev (((w.setCell ⟨g, k * 3, none⟩ (.int .i64 x)).setCell ⟨g, k * 3 + 1, none⟩ (.int .i64 y)).setCell ⟨g, k * 3 + 2, none⟩ (.int .i64 z)) base e (some ⟨g, 0, none⟩) n c (l.set k (x, y, z)) := by
  rcases h.2.2 with ⟨hv, -⟩ | ⟨g', cap, cur, hv, hb, hg, hnc, hcm, hcs, htake⟩
  · cases hv
  · cases hv
    have h1 := heap_setCell_same w g (k * 3) cur _ (.int .i64 x) hg
    have h2 := heap_setCell_same _ g (k * 3 + 1) _ _ (.int .i64 y) h1
    have h3 := heap_setCell_same _ g (k * 3 + 2) _ _ (.int .i64 z) h2
    refine ⟨by rw [List.length_set]; exact h.1, by rw [flat_length flat_ev, List.length_set]; have := h.1; omega, .inr ⟨g, c, _, rfl, hb, h3, hnc, hcm, by simpa using hcs, ?_⟩⟩
    rw [Array.toList_setIfInBounds, Array.toList_setIfInBounds, Array.toList_setIfInBounds, List.take_set, List.take_set, List.take_set, htake]
    exact ev_set l k x y z
theorem Own.neE {w : World} {base e n c : Nat} {A : Option Addr} {l : List Ed} (h : Own 3 ev w base e A n c l) (hn : 0 < n) : ∃ g, A = some ⟨g, 0, none⟩ ∧ base ≤ g := by
  rcases h.2.2 with ⟨-, hv⟩ | ⟨g, cap, cur, hv, hb, -⟩
  · omega
  · cases hv
    exact ⟨g, rfl, hb⟩

end Go.Proofs.YtnhomkmfbngmgaaGreatDoor

namespace Go.Proofs.YtnhomkmfbngmgaaGreatDoor
open Go.ChangeShapes Go.WideShapes Go.ChangeAt Go.RowKit
set_option linter.unusedVariables false
set_option linter.unusedSimpArgs false

/-- Edges whose labels are numbers of other texts now. -/
def MadeE (ts : List ByteArray) (es es2 : List Ed) : Prop := RisE es2 ∧ es2.length ≤ es.length ∧ ∀ x, x ∈ es2 → ∃ e, e ∈ es ∧ x.1 = e.1 ∧ x.2.2 = e.2.2 ∧ 0 ≤ x.2.1 ∧ x.2.1 < ((joiF ts).length : Int)
theorem MadeE.start (ts : List ByteArray) : MadeE ts [] [] := ⟨List.Pairwise.nil, Nat.le_refl _, fun x hx => absurd hx List.not_mem_nil⟩
theorem MadeE.put {ts : List ByteArray} {es es2 es3 : List Ed} {k : Nat} {f lb t i : Int} (h : MadeE ts (es.take k) es2) (hk : es[k]? = some (f, lb, t)) (hi : 0 ≤ i ∧ i < ((joiF ts).length : Int)) (hp : PutO es2 (f, i, t) es3) : MadeE ts (es.take (k + 1)) es3 := by
  have hkl := (List.getElem?_eq_some_iff.1 hk).1
  have e : es.take (k + 1) = es.take k ++ [(f, lb, t)] := by rw [List.take_add_one, hk]; rfl
  refine ⟨hp.1, ?_, fun x hx => ?_⟩
  · have h1 := hp.2.2
    have h2 := h.2.1
    rw [e, List.length_append]
    simp only [List.length_singleton]
    omega
  · rcases (hp.2.1 x).1 hx with rfl | hx
    · exact ⟨(f, lb, t), by rw [e]; exact List.mem_append_right _ (List.mem_singleton.2 rfl), rfl, rfl, hi⟩
    · obtain ⟨y, hy, r⟩ := h.2.2 x hx
      exact ⟨y, by rw [e]; exact List.mem_append_left _ hy, r⟩
theorem results_cell1 {fn : Func} {p : Tmp} {ty : TypeId} (h : fn.results = #[.cell p ty]) (tmps : Array Value) (P : Program) (w : World) :
    (results fn tmps).run P w = ((asAddr (tmps.getD p undef)).run P w).andThen fun a w₁ => (loadVar ty a).run P w₁ := by
  simp only [results, h]
  simp [Sem.run_bind, Result.andThen]
end Go.Proofs.YtnhomkmfbngmgaaGreatDoor

namespace Go.Proofs.YtnhomkmfbngmgaaGreatDoor
open Go.ChangeShapes Go.WideShapes Go.ChangeAt Go.RowKit
set_option linter.unusedVariables false
set_option linter.unusedSimpArgs false

/-- The names that a system may have. -/
def nm5 : List ByteArray := [⟨#[97]⟩, ⟨#[98]⟩, ⟨#[99]⟩, ⟨#[103, 101, 116, 40, 48, 41]⟩, ⟨#[103, 101, 116, 40, 49, 41]⟩]
def NamD (ts : List ByteArray) : Prop := ∀ x, x ∈ ts → x = tauB ∨ x ∈ nm5
end Go.Proofs.YtnhomkmfbngmgaaGreatDoor

namespace Go.Proofs.YtnhomkmfbngmgaaGreatDoor
set_option linter.unusedVariables false
theorem joi_rise (ts : List ByteArray) : ((joiF ts).map toL).Pairwise fun x y => ltL x y = true := by
  unfold joiF
  rw [map_toL_ofL2]
  exact compact_rise (sortL_rise _)
theorem joi_mem_iff (ts : List ByteArray) (x : ByteArray) : x ∈ joiF ts ↔ x = tauB ∨ x ∈ ts := by
  constructor
  · intro h
    unfold joiF at h
    obtain ⟨y, hy, rfl⟩ := List.mem_map.1 h
    rw [compactL_mem, List.mem_mergeSort] at hy
    obtain ⟨z, hz, rfl⟩ := List.mem_map.1 hy
    rw [ofL_toL]
    exact List.mem_cons.1 hz
  · intro h
    unfold joiF
    refine List.mem_map.2 ⟨toL x, ?_, ofL_toL x⟩
    rw [compactL_mem, List.mem_mergeSort]
    exact List.mem_map_of_mem (List.mem_cons.2 h)
theorem joi_lt {ts : List ByteArray} {i j : Nat} {x y : ByteArray} (hx : (joiF ts)[i]? = some x) (hy : (joiF ts)[j]? = some y) (hij : i < j) : ltL (toL x) (toL y) = true := by
  have hi := List.getElem?_eq_some_iff.1 hx
  have hj := List.getElem?_eq_some_iff.1 hy
  have := List.pairwise_iff_getElem.1 (joi_rise ts) i j (by rw [List.length_map]; exact hi.1) (by rw [List.length_map]; exact hj.1) hij
  rw [List.getElem_map, List.getElem_map, hi.2, hj.2] at this
  exact this
theorem not_lt_tau (x : List UInt8) : ltL x tauBL = false := Bool.eq_false_iff.2 fun h => by
  rw [ltL_iff] at h
  rcases h.2 with e | e
  · exact h.1 e
  · exact e.1 rfl
theorem joi_head (ts : List ByteArray) : (joiF ts)[0]? = some tauB := by
  have hm : tauB ∈ joiF ts := (joi_mem_iff ts tauB).2 (.inl rfl)
  obtain ⟨j, hj⟩ := List.getElem?_of_mem hm
  by_cases e : j = 0
  · rw [← e]; exact hj
  · have hjl := (List.getElem?_eq_some_iff.1 hj).1
    obtain ⟨x, hx⟩ : ∃ x, (joiF ts)[0]? = some x := ⟨_, List.getElem?_eq_getElem (by omega)⟩
    have := joi_lt hx hj (by omega)
    rw [toL_tau, not_lt_tau] at this
    cases this
end Go.Proofs.YtnhomkmfbngmgaaGreatDoor

namespace Go.Proofs.YtnhomkmfbngmgaaGreatDoor
open Go.ChangeShapes Go.WideShapes Go.ChangeAt Go.RowKit
set_option linter.unusedVariables false
set_option linter.unusedSimpArgs false

def goM (d : DM) (lab : ByteArray) (k : Int) : Int := goE d.1.2.2.2 d.1.2.2.1 lab k
/-- What the pairs of states lead to, by the labels in order. -/
def scM (a b : DM) (J : List ByteArray) (x : Int × Int) (t : List ByteArray) : List (PT ByteArray) := J.map fun s => ((goM a s x.1, goM b s x.2), t ++ [s])
def badR (a b : DM) (x : Int × Int) : Bool := (decide (x.1 < 0) != decide (x.2 < 0)) || (decide (0 ≤ x.1) && decide (verM a x.1 ≠ verM b x.2))
def badI (a b : DM) (x : Int × Int) : Bool := (decide (x.1 < 0) || decide (x.2 < 0)) || decide (verM a x.1 ≠ verM b x.2)
def stopR (a : DM) (x : Int × Int) : Bool := decide (x.1 < 0) || decide (verM a x.1 ≠ 0)
theorem dead_false {x : Int × Int} : deadP x = false ↔ 0 ≤ x.1 ∨ 0 ≤ x.2 := by
  unfold deadP
  rw [Bool.and_eq_false_iff, decide_eq_false_iff_not, decide_eq_false_iff_not]
  omega
theorem sam_dead {a b : DM} (x : Int × Int) (h : deadP x = true) : badR a b x = false ∧ stopR a x = true := by
  unfold deadP at h
  rw [Bool.and_eq_true, decide_eq_true_eq, decide_eq_true_eq] at h
  unfold badR stopR
  have h3 : ¬ (0 ≤ x.1) := by omega
  simp [h.1, h.2, h3]
theorem sam_bad {a b : DM} (x : Int × Int) (h : deadP x = false) : badI a b x = badR a b x := by
  rw [dead_false] at h
  unfold badI badR
  by_cases h1 : x.1 < 0
  · have h2 : ¬ x.2 < 0 := by omega
    simp [h1, h2]
  · have h3 : 0 ≤ x.1 := by omega
    by_cases h2 : x.2 < 0
    · simp [h1, h2]
    · simp [h1, h2, h3]
theorem ver_out {d : DM} (h : monV d = true) {s : Int} (hs : 0 ≤ s) (hv : verM d s ≠ 0) (lab : ByteArray) : goM d lab s = -1 := by
  unfold monV at h
  simp only [Bool.and_eq_true] at h
  obtain ⟨-, -, h4⟩ := h
  obtain ⟨k, rfl⟩ : ∃ k : Nat, s = (k : Int) := ⟨s.toNat, by omega⟩
  unfold verM at hv
  rw [Int.toNat_natCast] at hv
  cases hx : d.2[k]? with
  | none => rw [hx] at hv; exact absurd rfl hv
  | some v =>
    have h5 := allK_get h4 (List.getElem?_eq_some_iff.1 hx).1
    rw [okVd_at hx] at h5
    rw [hx] at hv
    simp only [Bool.and_eq_true, Bool.or_eq_true, decide_eq_true_eq] at h5
    have h6 := h5.2.resolve_left hv
    have h7 : outE d.1.2.2.2 (k : Int) = [] := List.isEmpty_iff.1 h6
    have h8 : folE d.1.2.2.2 d.1.2.2.1 lab (k : Int) = [] := by
      unfold folE
      rw [List.map_eq_nil_iff]
      refine List.filter_eq_nil_iff.2 fun e he h9 => ?_
      unfold hitE at h9
      rw [Bool.and_eq_true] at h9
      have : e ∈ outE d.1.2.2.2 (k : Int) := List.mem_filter.2 ⟨he, h9.1⟩
      rw [h7] at this
      cases this
    unfold goM goE
    rw [h8]
    rfl
theorem sam_stop {a b : DM} (ha : monV a = true) (hb : monV b = true) {J : List ByteArray} (x : Int × Int) (t : List ByteArray) (h : deadP x = false) (h1 : badR a b x = false) (h2 : stopR a x = true) : ∀ e ∈ scM a b J x t, deadP e.1 = true := by
  rw [dead_false] at h
  unfold badR at h1
  rw [Bool.or_eq_false_iff] at h1
  obtain ⟨h3, h4⟩ := h1
  have h5 : 0 ≤ x.1 ∧ 0 ≤ x.2 := by
    by_cases c1 : x.1 < 0
    · by_cases c2 : x.2 < 0
      · omega
      · simp [c1, c2] at h3
    · by_cases c2 : x.2 < 0
      · simp [c1, c2] at h3
      · omega
  have h6 : verM a x.1 = verM b x.2 := by
    simp only [h5.1, decide_true, Bool.true_and, decide_eq_false_iff_not, Classical.not_not] at h4
    exact h4
  unfold stopR at h2
  have h7 : verM a x.1 ≠ 0 := by
    have h8 : ¬ x.1 < 0 := by omega
    simpa [h8] using h2
  intro e he
  obtain ⟨s, -, rfl⟩ := List.mem_map.1 he
  unfold deadP
  rw [ver_out ha h5.1 h7, ver_out hb h5.2 (h6 ▸ h7)]
  rfl
noncomputable def samR (a b : DM) : Option (List ByteArray) := runF (scM a b (joiF (a.1.2.2.1 ++ b.1.2.2.1)).tail) (badR a b) (stopR a) [((a.1.2.1, b.1.2.1), [])]
theorem sam_ref {a b : DM} {r : Option (List ByteArray)} (h : RRun (scM a b (joiF (a.1.2.2.1 ++ b.1.2.2.1)).tail) (badR a b) (stopR a) [((a.1.2.1, b.1.2.1), [])] 0 r) : r = samR a b := h.val
theorem sam_imp {a b : DM} (ha : monV a = true) (hb : monV b = true) {r r' : Option (List ByteArray)} (h : IRun (scM a b (joiF (a.1.2.2.1 ++ b.1.2.2.1)).tail) (badI a b) [((a.1.2.1, b.1.2.1), [])] [] r)
    (h' : RRun (scM a b (joiF (a.1.2.2.1 ++ b.1.2.2.1)).tail) (badR a b) (stopR a) [((a.1.2.1, b.1.2.1), [])] 0 r') : r = samR a b := by
  have hi := (lts_states (monV_lts ha)).2.1
  rw [← sam_ref h']
  exact runs_start sam_dead sam_bad (sam_stop ha hb) (dead_false.2 (.inl hi)) h h'
/-- What the searches find. -/
noncomputable def samB (d0 d1 : DM) : Bool := if (monV d0 && monV d1) = true then (samR d0 d1).isNone else false
noncomputable def samS (d0 d1 : DM) : List ByteArray := if (monV d0 && monV d1) = true then (samR d0 d1).getD [] else []
noncomputable def samC (d0 d1 : DM) : Int := if (monV d0 && monV d1) = true then 0 else 1
end Go.Proofs.YtnhomkmfbngmgaaGreatDoor

namespace Go.Proofs
open Go.Shelf
def Tryz.laysSortG_ren : Go.Shelf.Ren := ⟨fun | 6 => 132 | 15 => 224 | 14 => 223 | 28 => 289 | 29 => 290 | 20 => 281 | 21 => 282 | 22 => 283 | 23 => 284 | 24 => 285 | 25 => 286 | 26 => 287 | 27 => 288 | 46 => 339 | 47 => 340 | 48 => 341 | 49 => 342 | 50 => 343 | 57 => 374 | n => n, fun | 22 => 25 | 24 => 84 | 25 => 147 | 3 => 3 | 39 => 243 | 0 => 0 | 53 => 292 | 55 => 137 | 4 => 4 | 46 => 285 | 45 => 284 | 50 => 289 | 5 => 5 | 9 => 9 | 66 => 327 | 70 => 331 | 76 => 352 | 77 => 353 | n => n, fun | n => n⟩
theorem Tryz.laysSortG : Go.Proofs.SlLaysF0.n6 Tryz.prog Tryz.laysSortG_ren := {
  mixed := by kernel_rfl
  f6 := ⟨Tryz.f132.name, by decide, Tryz.func132.trans (congrArg some (by kernel_rfl))⟩
  f14 := ⟨Tryz.f223.name, by decide, Tryz.func223.trans (congrArg some (by kernel_rfl))⟩
  f15 := Tryz.func224.trans (congrArg some (by kernel_rfl))
  f20 := ⟨Tryz.f281.name, by decide, Tryz.func281.trans (congrArg some (by kernel_rfl))⟩
  f21 := ⟨Tryz.f282.name, by decide, Tryz.func282.trans (congrArg some (by kernel_rfl))⟩
  f22 := ⟨Tryz.f283.name, by decide, Tryz.func283.trans (congrArg some (by kernel_rfl))⟩
  f23 := ⟨Tryz.f284.name, by decide, Tryz.func284.trans (congrArg some (by kernel_rfl))⟩
  f24 := ⟨Tryz.f285.name, by decide, Tryz.func285.trans (congrArg some (by kernel_rfl))⟩
  f25 := ⟨Tryz.f286.name, by decide, Tryz.func286.trans (congrArg some (by kernel_rfl))⟩
  f26 := ⟨Tryz.f287.name, by decide, Tryz.func287.trans (congrArg some (by kernel_rfl))⟩
  f27 := ⟨Tryz.f288.name, by decide, Tryz.func288.trans (congrArg some (by kernel_rfl))⟩
  f28 := Tryz.func289.trans (congrArg some (by kernel_rfl))
  f29 := Tryz.func290.trans (congrArg some (by kernel_rfl))
  f46 := ⟨Tryz.f339.name, by decide, Tryz.func339.trans (congrArg some (by kernel_rfl))⟩
  f47 := Tryz.func340.trans (congrArg some (by kernel_rfl))
  f48 := Tryz.func341.trans (congrArg some (by kernel_rfl))
  f49 := ⟨Tryz.f342.name, by decide, Tryz.func342.trans (congrArg some (by kernel_rfl))⟩
  f50 := ⟨Tryz.f343.name, by decide, Tryz.func343.trans (congrArg some (by kernel_rfl))⟩
  f57 := ⟨Tryz.f374.name, by decide, Tryz.func374.trans (congrArg some (by kernel_rfl))⟩
  t0 := Tryz.underlying0
  a0 := Tryz.isAgg0
  z0 := Tryz.sizeOf0
  v0 := Tryz.zeroValue0
  t3 := Tryz.underlying3
  a3 := Tryz.isAgg3
  z3 := Tryz.sizeOf3
  v3 := Tryz.zeroValue3
  t4 := Tryz.underlying4
  a4 := Tryz.isAgg4
  z4 := Tryz.sizeOf4
  v4 := Tryz.zeroValue4
  t5 := Tryz.underlying5
  a5 := Tryz.isAgg5
  z5 := Tryz.sizeOf5
  v5 := Tryz.zeroValue5
  t9 := Tryz.underlying9
  a9 := Tryz.isAgg9
  z9 := Tryz.sizeOf9
  v9 := Tryz.zeroValue9
  t22 := Tryz.underlying25
  a22 := Tryz.isAgg25
  z22 := Tryz.sizeOf25
  v22 := Tryz.zeroValue25
  t25 := Tryz.underlying147
  a25 := Tryz.isAgg147
  z25 := Tryz.sizeOf147
  v25 := Tryz.zeroValue147
  t39 := Tryz.underlying243
  a39 := Tryz.isAgg243
  z39 := Tryz.sizeOf243
  v39 := Tryz.zeroValue243
  t45 := Tryz.underlying284
  a45 := Tryz.isAgg284
  z45 := Tryz.sizeOf284
  v45 := Tryz.zeroValue284
  t46 := Tryz.underlying285
  a46 := Tryz.isAgg285
  z46 := Tryz.sizeOf285
  v46 := Tryz.zeroValue285
  t50 := Tryz.underlying289
  a50 := Tryz.isAgg289
  z50 := Tryz.sizeOf289
  v50 := Tryz.zeroValue289
  t53 := Tryz.underlying292
  a53 := Tryz.isAgg292
  z53 := Tryz.sizeOf292
  v53 := Tryz.zeroValue292
  t55 := Tryz.underlying137
  a55 := Tryz.isAgg137
  z55 := Tryz.sizeOf137
  v55 := Tryz.zeroValue137
  t66 := Tryz.underlying327
  a66 := Tryz.isAgg327
  z66 := Tryz.sizeOf327
  v66 := Tryz.zeroValue327
  t70 := Tryz.underlying331
  a70 := Tryz.isAgg331
  z70 := Tryz.sizeOf331
  v70 := Tryz.zeroValue331
  t76 := Tryz.underlying352
  a76 := Tryz.isAgg352
  z76 := Tryz.sizeOf352
  v76 := Tryz.zeroValue352
  t77 := Tryz.underlying353
  a77 := Tryz.isAgg353
  z77 := Tryz.sizeOf353
  v77 := Tryz.zeroValue353 }
open Go.Shelf Go.RowKit Go.Lib Go.Sort in
theorem Tryz.slices_SortFunc_edge {α : Type} [Inhabited α] (enc : α → List Value) (hk : ∀ x, (enc x).length = 3) (h1 : ∀ x, ∀ v ∈ enc x, v.oneCell' = true) (cf : α → α → Int) (hO : SWO (ltOf cf)) (g : Nat) (cb : Array Value) (blk off cap : Nat) (d : Array α) (w : World) (eg : ∀ args w, (callFunc g args).run Tryz.prog w = .ok (.enter g args) w) (hcmp : CmpLays Tryz.prog g cb enc 3 cf blk off d.size w) (hH : HoldsK enc 3 w blk off d) (hblk : blk < w.heap.size) (hsz : d.size < 4611686018427387904) (hT : ∀ x y, (ltOf cf) x y = false → (ltOf cf) y x = false → x = y) :
    Calls Tryz.prog 132 #[.slice (some ⟨blk, off, none⟩) d.size cap, .func (.func g) #[] cb] w fun e w' =>
      e = .returned (.tuple #[]) ∧ ∃ n os, w' = sortWorldK enc 3 w blk off n (d.toList.mergeSort fun x y => !(ltOf cf) y x).toArray os := AnyQ.slices_SortFunc_total Tryz.laysSortG 3 Tryz.isAgg84 Tryz.sizeOf84 enc hk h1 cf hO g cb blk off cap d w eg hcmp hH hblk hsz hT
open Go.Shelf Go.RowKit Go.Lib Go.Sort in
theorem Tryz.slices_SortFunc_edge_none (p : Option Addr) (cap : Nat) (fv : Value) (w : World) :
    Calls Tryz.prog 132 #[.slice p 0 cap, fv] w fun e w' => e = .returned (.tuple #[]) ∧ w' = w := AnyF.slices_SortFunc_none Tryz.laysSortG p cap fv w
end Go.Proofs

namespace Go.Proofs.YtnhomkmfbngmgaaGreatDoor
open Go.ChangeShapes Go.WideShapes Go.ChangeAt Go.RowKit Go.Sort Go.Lib
set_option linter.unusedVariables false
set_option linter.unusedSimpArgs false

theorem push3 (h : Array Obj) (a b o : Obj) : ((h.push a).push b).push o = h ++ #[a, b, o] := by
  apply Array.ext'
  simp
theorem grow3a (w : World) (a b o : Obj) : (((w.alloc a).alloc b).drew).alloc o = grow (w.drewN 1) #[a, b, o] := by
  unfold grow
  rw [← push3]
  rfl
theorem grow3b (w : World) (a b o : Obj) : (((w.alloc a).alloc b).alloc o).drew = grow (w.drewN 1) #[a, b, o] := by
  unfold grow
  rw [← push3]
  rfl
set_option maxRecDepth 100000 in
set_option maxHeartbeats 1600000 in
theorem compareEdgesG_calls (x1 x2 x3 y1 y2 y3 : Int) (w : World) :
    Calls Tryz.prog 122 #[.agg #[.int .i64 x1, .int .i64 x2, .int .i64 x3], .agg #[.int .i64 y1, .int .i64 y2, .int .i64 y3]] w fun e w' => e = .returned (.int .i64 (cmpE (x1, x2, x3) (y1, y2, y3))) ∧ ∃ q os, w' = grow (w.drewN q) os := by
  have hv : Hid (cmpE (x1, x2, x3) (y1, y2, y3) = orF [cmpI x1 y1, cmpI x2 y2, cmpI x3 y3]) := rfl
  have hbA : Below w.heap.size w ((w.alloc (.cells #[.int .i64 x1, .int .i64 x2, .int .i64 x3] 84)).alloc (.cells #[.int .i64 y1, .int .i64 y2, .int .i64 y3] 84)) := ((Below.refl _ _).alloc (Nat.le_refl _) _).alloc (by simp only [World.size_alloc]; omega) _
  have k0 := (Below.heap_alloc (w.alloc (.cells #[.int .i64 x1, .int .i64 x2, .int .i64 x3] 84)) (.cells #[.int .i64 y1, .int .i64 y2, .int .i64 y3] 84) w.heap.size (by simp only [World.size_alloc]; omega)).trans (heap_alloc_new w (.cells #[.int .i64 x1, .int .i64 x2, .int .i64 x3] 84))
  have k1 := heap_alloc_new (w.alloc (.cells #[.int .i64 x1, .int .i64 x2, .int .i64 x3] 84)) (.cells #[.int .i64 y1, .int .i64 y2, .int .i64 y3] 84)
  rw [World.size_alloc] at k1
  have q := hide compare_calls
  have hgr1 : Hid (∀ o : Obj, ∃ (q : Nat) (os : Array Obj), (((w.alloc (.cells #[.int .i64 x1, .int .i64 x2, .int .i64 x3] 84)).alloc (.cells #[.int .i64 y1, .int .i64 y2, .int .i64 y3] 84)).drew).alloc o = grow (w.drewN q) os) := fun o => ⟨1, _, grow3a w _ _ o⟩
  have hgr2 : Hid (∀ o : Obj, ∃ (q : Nat) (os : Array Obj), (((w.alloc (.cells #[.int .i64 x1, .int .i64 x2, .int .i64 x3] 84)).alloc (.cells #[.int .i64 y1, .int .i64 y2, .int .i64 y3] 84)).alloc o).drew = grow (w.drewN q) os) := fun o => ⟨1, _, grow3b w _ _ o⟩
  replace hbA := hide hbA
  replace k0 := hide k0
  replace k1 := hide k1
  go_enter Tryz.func122, Tryz.ntmps122
  go_wp2_with fail
  generalize hW : ((w.alloc (.cells #[.int .i64 x1, .int .i64 x2, .int .i64 x3] 84)).alloc (.cells #[.int .i64 y1, .int .i64 y2, .int .i64 y3] 84)) = W at *
  have a0 : W.cell? ⟨w.heap.size, 0, none⟩ = some (.int .i64 x1) := (cell_of_row _ _ 0 _ _ (0, 0) k0.out).trans rfl
  have a1 : W.cell? ⟨w.heap.size, 1, none⟩ = some (.int .i64 x2) := (cell_of_row _ _ 1 _ _ (0, 0) k0.out).trans rfl
  have a2 : W.cell? ⟨w.heap.size, 2, none⟩ = some (.int .i64 x3) := (cell_of_row _ _ 2 _ _ (0, 0) k0.out).trans rfl
  have b0 : W.cell? ⟨w.heap.size + 1, 0, none⟩ = some (.int .i64 y1) := (cell_of_row _ _ 0 _ _ (0, 0) k1.out).trans rfl
  have b1 : W.cell? ⟨w.heap.size + 1, 1, none⟩ = some (.int .i64 y2) := (cell_of_row _ _ 1 _ _ (0, 0) k1.out).trans rfl
  have b2 : W.cell? ⟨w.heap.size + 1, 2, none⟩ = some (.int .i64 y3) := (cell_of_row _ _ 2 _ _ (0, 0) k1.out).trans rfl
  clear hW
  go_region_held3 (fun w' => w'.cell? ⟨w.heap.size, 0, none⟩ = some (.int .i64 x1) ∧ w'.cell? ⟨w.heap.size, 1, none⟩ = some (.int .i64 x2) ∧ w'.cell? ⟨w.heap.size, 2, none⟩ = some (.int .i64 x3) ∧ w'.cell? ⟨w.heap.size + 1, 0, none⟩ = some (.int .i64 y1) ∧ w'.cell? ⟨w.heap.size + 1, 1, none⟩ = some (.int .i64 y2) ∧ w'.cell? ⟨w.heap.size + 1, 2, none⟩ = some (.int .i64 y3)) (first | exact ⟨a0, a1, a2, b0, b1, b2⟩ | go_keep)
    (first
      | (go_at_call 216; (with_reducible refine (q.out _ _ _).mono ?_); rintro e w' ⟨rfl, rfl⟩)
      | (go_at_call 215; (refine (or3_calls _ _ _ _ _ _ (by exact heap_alloc_new W _)).mono ?_); rintro e w' ⟨rfl, rfl⟩))
  all_goals go_wp2
  all_goals go_ret
  all_goals
    first
      | exact ⟨ret_i (by rw [hv.out]), hgr1.out _⟩
      | exact ⟨ret_i (by rw [hv.out]), hgr2.out _⟩

theorem ltOf_cmpE (a b : Ed) : ltOf cmpE a b = edLess a b := by
  have h := cmpE_less a b
  unfold ltOf
  by_cases e : cmpE a b < 0
  · rw [decide_eq_false (by omega)] at h
    have : edLess a b = true := by cases h2 : edLess a b <;> simp_all
    rw [this]; exact decide_eq_true e
  · rw [decide_eq_true (by omega)] at h
    have : edLess a b = false := by cases h2 : edLess a b <;> simp_all
    rw [this]; exact decide_eq_false e
theorem swoE : SWO (ltOf cmpE) where
  irrefl x := by rw [ltOf_cmpE]; exact edLess_irr x
  trans x y z h1 h2 := by rw [ltOf_cmpE] at *; exact edLess_trans h1 h2
  ntrans x y z h1 h2 := by
    rw [ltOf_cmpE] at *
    by_cases e1 : x = y
    · rw [e1]; exact h2
    · by_cases e2 : y = z
      · rw [← e2]; exact h1
      · have g1 := (edLess_total e1).resolve_left (by rw [h1]; decide)
        have g2 := (edLess_total e2).resolve_left (by rw [h2]; decide)
        exact Bool.eq_false_iff.2 fun h => by
          have := edLess_trans (edLess_trans h g2) g1
          rw [edLess_irr] at this; cases this
theorem apartE (x y : Ed) (h : ltOf cmpE x y = false) (g : ltOf cmpE y x = false) : x = y := by
  rw [ltOf_cmpE] at h g
  by_cases e : x = y
  · exact e
  · rcases edLess_total e with h1 | h1
    · rw [h] at h1; cases h1
    · rw [g] at h1; cases h1
def sortE (l : List Ed) : List Ed := l.mergeSort fun x y => !(ltOf cmpE) y x
theorem sortE_len (l : List Ed) : (sortE l).length = l.length := List.length_mergeSort _
/-! ## The row of edges in place -/
section
variable {w : World} {base g n c q : Nat} {e : TypeId} {l d : List Ed} {os : Array Obj}
theorem flatE_get (d : List Ed) {j : Nat} (hj : j < d.length * 3) : (flatK ev 3 d.toArray)[j]? = (d.flatMap ev)[j]? := by
  have h1 : (flatK ev 3 d.toArray)[j]? = some ((flatK ev 3 d.toArray)[j]!) := by
    rw [getElem!_pos _ j (by simpa using hj), Array.getElem?_eq_getElem (by simpa using hj)]
  rw [h1, get_flatK ev 3 d.toArray j (by simpa using hj)]
  have hk : j / 3 < d.length := by omega
  have := flat_at flat_ev d (j / 3) d[j / 3] (List.getElem?_eq_getElem hk) (j % 3) ((ev d[j / 3])[j % 3]'(by rw [flat_ev.len]; omega)) (List.getElem?_eq_getElem _)
  rw [show j / 3 * 3 + j % 3 = j by omega] at this
  rw [this, getElem!_pos _ (j / 3) (by simpa using hk)]
  simp only [List.getElem_toArray]
  rw [getElem!_pos _ (j % 3) (by rw [flat_ev.len]; omega)]
theorem Own.holdsE (h : Own 3 ev w base e (some ⟨g, 0, none⟩) n c l) : HoldsK ev 3 w g 0 l.toArray := by
  intro j hj
  have hj' : j < l.length * 3 := by simpa using hj
  have hs := h.sl flat_ev
  have hn := h.len
  obtain ⟨b', off', e', -, -, -, hc⟩ := hs.at_ (by omega)
  cases e'
  have hk : j / 3 < l.length := by omega
  have h1 := flatE_get l hj'
  have h2 := flat_at flat_ev l (j / 3) l[j / 3] (List.getElem?_eq_getElem hk) (j % 3) ((ev l[j / 3])[j % 3]'(by rw [flat_ev.len]; omega)) (List.getElem?_eq_getElem _)
  rw [show j / 3 * 3 + j % 3 = j by omega] at h2
  rw [h2] at h1
  have h3 : (flatK ev 3 l.toArray)[j]! = (ev l[j / 3])[j % 3]'(by rw [flat_ev.len]; omega) := by
    rw [getElem!_pos _ j (by simpa using hj)]
    have := Array.getElem?_eq_getElem (xs := flatK ev 3 l.toArray) (i := j) (by simpa using hj)
    rw [this] at h1
    exact Option.some.inj h1
  have := hc (j / 3) l[j / 3] (List.getElem?_eq_getElem hk) (j % 3) _ (List.getElem?_eq_getElem (by rw [flat_ev.len]; omega))
  rw [show j / 3 * 3 + j % 3 = j by omega] at this
  show w.cell? ⟨g, 0 + j, none⟩ = some (id ((flatK ev 3 l.toArray)[j]!)) ∧ _
  rw [h3]
  exact this
theorem putE_block (w : World) (g q : Nat) (F : Array Value) (os : Array Obj) (hg : g < w.heap.size) :
    (grow (putRow id (Sort.ahead w q) g 0 F) os).heap[g]? = (w.heap[g]?).map (onCells (Go.Sort.putCells id 0 F)) := by
  rw [heap_grow_old _ _ (by simpa [putRow, mapBlock, Sort.ahead] using hg)]
  simp [putRow, mapBlock, Sort.ahead, Array.getElem?_modify]
theorem putE_grown (w : World) (g q : Nat) (F : Array Value) (os : Array Obj) : w.grownBy (grow (putRow id (Sort.ahead w q) g 0 F) os) (some g) := by
  refine ⟨rfl, rfl, rfl, by simp [putRow, mapBlock, Sort.ahead], fun k hk hne => ?_⟩
  rw [heap_grow_old _ _ (by simpa [putRow, mapBlock, Sort.ahead] using hk)]
  have hne' : g ≠ k := fun h => hne (by rw [h])
  simp [putRow, mapBlock, Sort.ahead, Array.getElem?_modify, hne']
theorem Own.putK (h : Own 3 ev w base e (some ⟨g, 0, none⟩) n c l) (hd : d.length = n) : Own 3 ev (sortWorldK ev 3 w g 0 q d.toArray os) base e (some ⟨g, 0, none⟩) n c d := by
  rcases h.2.2 with ⟨hv, -⟩ | ⟨g', cap, cur, hv, hb, hg, hnc, hcm, hcs, htake⟩
  · cases hv
  · cases hv
    have hlt : g < w.heap.size := (Array.getElem?_eq_some_iff.1 hg).1
    refine ⟨hd, by rw [flat_length flat_ev, hd], .inr ⟨g, c, Go.Sort.putCells id 0 (flatK ev 3 d.toArray) cur, rfl, hb, ?_, hnc, hcm, by simp [Go.Sort.putCells, hcs], ?_⟩⟩
    · unfold sortWorldK putRowK
      rw [putE_block _ _ _ _ _ hlt, hg]
      rfl
    · apply List.ext_getElem?
      intro k
      by_cases hk : k < n * 3
      · have hkc : k < cur.size := by omega
        rw [List.getElem?_take, if_pos hk, Array.getElem?_toList]
        simp only [Go.Sort.putCells, Array.getElem?_mapIdx, Array.getElem?_eq_getElem hkc, Option.map_some]
        rw [if_pos ⟨Nat.zero_le _, by simp [hd]; omega⟩, Nat.sub_zero]
        have := flatE_get d (j := k) (by rw [hd]; exact hk)
        rw [← this, Array.getElem?_eq_getElem (by simp [hd]; omega), getElem!_pos _ k (by simp [hd]; omega)]
        rfl
      · rw [List.getElem?_eq_none (by simp; omega), List.getElem?_eq_none (by rw [flat_length flat_ev, hd]; omega)]
end
section
variable {w : World} {base n c : Nat} {A : Option Addr} {l : List Ed}
theorem sortE_calls (h : Own 3 ev w base 84 A n c l) (hn : n ≤ 1000000000) :
    Calls Tryz.prog 132 #[.slice A n c, .func (.func 122) #[] #[]] w fun e w' => e = .returned (.tuple #[]) ∧ Own 3 ev w' base 84 A n c (sortE l) ∧ w.grownBy w' (Value.slice A n c).ownBlock := by
  rcases h.2.2 with ⟨hv, hn0⟩ | ⟨g, cap, cur, hv, hb, hg, hnc, hcm, hcs, htake⟩
  · cases hv
    have hl := List.eq_nil_of_length_eq_zero h.len
    subst hl
    refine (Tryz.slices_SortFunc_edge_none none 0 _ w).mono ?_
    rintro e w' ⟨rfl, rfl⟩
    refine ⟨rfl, ?_, ⟨rfl, rfl, rfl, Nat.le_refl _, fun _ _ _ => rfl⟩⟩
    simpa [sortE] using h
  · cases hv
    have hlt : g < w.heap.size := (Array.getElem?_eq_some_iff.1 hg).1
    have eg : ∀ args w, (callFunc 122 args).run Tryz.prog w = .ok (.enter 122 args) w := enters_of Tryz.func122 (by kernel_rfl) rfl
    have hsz : l.toArray.size = n := by simp [h.len]
    have hcmp : CmpLays Tryz.prog 122 #[] ev 3 cmpE g 0 l.toArray.size w := fun m os dk hs x y => compareEdgesG_calls x.1 x.2.1 x.2.2 y.1 y.2.1 y.2.2 _
    have hq := Tryz.slices_SortFunc_edge ev (fun x => flat_ev.len x) (fun x v hv => flat_ev.one x v hv) cmpE swoE 122 #[] g 0 c l.toArray w eg hcmp h.holdsE hlt (by rw [hsz]; omega) apartE
    rw [hsz] at hq
    refine hq.mono ?_
    rintro e w' ⟨rfl, q, os, rfl⟩
    exact ⟨rfl, h.putK (d := sortE l) ((sortE_len l).trans h.len), putE_grown _ _ _ _ _⟩
end
end Go.Proofs.YtnhomkmfbngmgaaGreatDoor

namespace Go.Proofs.YtnhomkmfbngmgaaGreatDoor
open Go.ChangeShapes Go.WideShapes Go.ChangeAt Go.RowKit Go.Sort Go.Lib
set_option linter.unusedVariables false
set_option linter.unusedSimpArgs false

theorem setCells_heap9 (g : Nat) (e : TypeId) : ∀ (vs : List Value) (o : Nat) (w : World) (cur : Array Value), w.heap[g]? = some (.cells cur e (0, 0)) → ∃ cur' : Array Value, (w.setCells g o vs).heap[g]? = some (.cells cur' e (0, 0)) ∧ cur'.size = cur.size ∧ ∀ i, i < o → cur'[i]? = cur[i]?
  | [], o, w, cur, h => ⟨cur, h, rfl, fun _ _ => rfl⟩
  | v :: r, o, w, cur, h => by
    have h1 := heap_setCell_same w g o cur _ v h
    obtain ⟨cur', a, b, c⟩ := setCells_heap9 g e r (o + 1) _ _ h1
    refine ⟨cur', a, by rw [b]; simp, fun i hi => ?_⟩
    rw [c i (by omega), Array.getElem?_setIfInBounds_ne (by omega)]
theorem setCells_only9 (g : Nat) : ∀ (vs : List Value) (o : Nat) (w : World), Only g (g + 1) w (w.setCells g o vs)
  | [], o, w => Only.refl _ _ _
  | v :: r, o, w => by
    have h1 := (Only.refl g (g + 1) w).setCell (p := ⟨g, o, none⟩) (Nat.le_refl _) (Nat.lt_succ_self _) v
    exact h1.trans' (setCells_only9 g r (o + 1) _)
theorem Own.clearE {w : World} {base g n c k : Nat} {e : TypeId} {l : List Ed} (h : Own 3 ev w base e (some ⟨g, 0, none⟩) n c l) (hk : k ≤ n) (vs : List Value) : Own 3 ev (w.setCells g (k * 3) vs) base e (some ⟨g, 0, none⟩) k c (l.take k) := by
  rcases h.2.2 with ⟨hv, -⟩ | ⟨g', cap, cur, hv, hb, hg, hnc, hcm, hcs, htake⟩
  · cases hv
  · cases hv
    have hn := h.len
    have hl : (l.take k).length = k := by rw [List.length_take]; omega
    obtain ⟨cur', a, b, d⟩ := setCells_heap9 g e vs (k * 3) w cur hg
    refine ⟨hl, by rw [flat_length flat_ev, hl], .inr ⟨g, c, cur', rfl, hb, a, by omega, hcm, by rw [b]; exact hcs, ?_⟩⟩
    apply List.ext_getElem?
    intro i
    by_cases hi : i < k * 3
    · rw [List.getElem?_take, if_pos hi, Array.getElem?_toList, d i hi]
      have h1 : (cur.toList.take (n * 3))[i]? = (l.flatMap ev)[i]? := by rw [htake]
      rw [List.getElem?_take, if_pos (by omega), Array.getElem?_toList] at h1
      rw [h1]
      have h2 : l.flatMap ev = (l.take k).flatMap ev ++ (l.drop k).flatMap ev := by rw [← List.flatMap_append, List.take_append_drop]
      rw [h2, List.getElem?_append_left (by rw [flat_length flat_ev, hl]; exact hi)]
    · rw [List.getElem?_eq_none (by simp; omega), List.getElem?_eq_none (by rw [flat_length flat_ev, hl]; omega)]
theorem run_clearE (w : World) (ty : TypeId) (b o n c : Nat) (hn : 0 < n) (hc : ∀ j, j < n * 3 → (w.cell? ⟨b, o + j, none⟩).isSome = true) (hf : ∀ j, j < n * 3 → w.frozen? ⟨b, o + j, none⟩ = false) :
    (Builtin.clear_ #[25] ty #[.slice (some ⟨b, o, none⟩) n c]).run Tryz.prog w = .ok (.tuple #[]) (w.setCells b o (List.replicate (n * 3) (.int .i64 0))) := by
  have hv : ∀ w, (zeroValue 84).run Tryz.prog w = .ok (.agg #[.int .i64 0, .int .i64 0, .int .i64 0]) w := fun w => by kernel_rfl
  have hzc : (Builtin.zeroCells (Value.agg #[.int .i64 0, .int .i64 0, .int .i64 0]).cells n).toList = List.replicate (n * 3) (.int .i64 0) := by
    have e : (Value.agg #[.int .i64 0, .int .i64 0, .int .i64 0]).cells = #[.int .i64 0, .int .i64 0, .int .i64 0] := rfl
    rw [e]
    apply List.ext_getElem
    · simp [Builtin.zeroCells, Nat.mul_comm]
    · intro i h1 h2
      simp only [Builtin.zeroCells, List.getElem_replicate]
      have : i % 3 = 0 ∨ i % 3 = 1 ∨ i % 3 = 2 := by omega
      rcases this with h | h | h <;> simp [h]
  have hst := run_storeCells_cells (P := Tryz.prog) b o (List.replicate (n * 3) (.int .i64 0)) 0 w (by simpa using hc) (by simpa using hf) (by intro v hv'; rw [List.eq_of_mem_replicate hv']; rfl)
  simp only [Nat.add_zero] at hst
  obtain ⟨m, rfl⟩ : ∃ m, n = m + 1 := ⟨n - 1, by omega⟩
  simp [Builtin.clear_, run_underlying Tryz.underlying25, hv, hzc, hst]
theorem ed_cases (x1 x2 x3 y1 y2 y3 : Int) : (y1 = x1 ∧ y2 = x2 ∧ y3 = x3) ∨ (((x1, x2, x3) : Ed) ≠ (y1, y2, y3) ∧ ((x1 == y1) = false ∨ (y1 = x1 ∧ (x2 == y2) = false) ∨ (y1 = x1 ∧ y2 = x2 ∧ (x3 == y3) = false))) := by
  by_cases a : x1 = y1
  · by_cases b : x2 = y2
    · by_cases c : x3 = y3
      · exact .inl ⟨a.symm, b.symm, c.symm⟩
      · exact .inr ⟨fun e => c (by injection e with _ e; injection e with _ e), .inr (.inr ⟨a.symm, b.symm, beq_eq_false_iff_ne.2 c⟩)⟩
    · exact .inr ⟨fun e => b (by injection e with _ e; injection e with e _), .inr (.inl ⟨a.symm, beq_eq_false_iff_ne.2 b⟩)⟩
  · exact .inr ⟨fun e => a (by injection e with e _), .inl (beq_eq_false_iff_ne.2 a)⟩
theorem gete {l : List Ed} {k : Nat} {x : Ed} (h : l[k]? = some x) : l.toArray[k]! = x := by
  obtain ⟨h1, h2⟩ := List.getElem?_eq_some_iff.1 h
  rw [getElem!_pos _ k (by simpa using h1)]
  simpa using h2
theorem only_grown {w w' : World} {g : Nat} (h : Only g (g + 1) w w') : w.grownBy w' (some g) := ⟨h.os, h.tape, h.output, h.size, fun k hk hne => h.block k hk (by
  have : g ≠ k := fun e => hne (by rw [e])
  omega)⟩

theorem cells_all {w : World} {base g n c j : Nat} {e : TypeId} {l : List Ed} (h : Own 3 ev w base e (some ⟨g, 0, none⟩) n c l) (hj : j < n * 3) :
    (w.cell? ⟨g, j, none⟩).isSome = true ∧ w.frozen? ⟨g, j, none⟩ = false := by
  obtain ⟨g', o', x1, x2, x3, ex, -, -, -, hx, c0, c1, c2, f0, f1, f2⟩ := SlE.get (h.sl flat_ev) (show j / 3 < n by omega)
  cases ex
  rw [Nat.zero_add] at c0 c1 c2 f0 f1 f2
  have : j = j / 3 * 3 ∨ j = j / 3 * 3 + 1 ∨ j = j / 3 * 3 + 2 := by omega
  rcases this with e | e | e <;> rw [e]
  · exact ⟨by rw [c0]; rfl, f0⟩
  · exact ⟨by rw [c1]; rfl, f1⟩
  · exact ⟨by rw [c2]; rfl, f2⟩
theorem _root_.Go.Lib.CompInv.takeE {l M : List Ed} {m kk n : Nat} (h : CompInv l.toArray m kk M.toArray) (hl : l.length = n) (hm : m = n) : M.take kk = Lib.compact l := by
  subst hm
  have h1 : Lib.compact l = compactUpTo l.toArray m := by unfold compact; rw [hl]
  have h2 := h.size
  have h3 := h.lt
  simp only [List.size_toArray] at h2
  rw [h1]
  apply List.ext_getElem?
  intro j
  by_cases hj : j < kk
  · rw [h.low j hj, List.getElem?_take, if_pos hj, List.getElem?_eq_getElem (show j < M.length by omega), getElem!_pos _ j (by simp; omega)]
    simp
  · rw [List.getElem?_eq_none (by simp; omega), List.getElem?_eq_none (by rw [h.len]; omega)]
set_option maxRecDepth 100000 in
set_option maxHeartbeats 6400000 in
theorem compactE_calls {w : World} {base n c : Nat} {A : Option Addr} {l : List Ed} (h : Own 3 ev w base 84 A n c l) (hn : n ≤ 1000000000) (hnc : n ≤ c) :
    Calls Tryz.prog 228 #[.slice A n c] w fun e w' => e = .returned (.slice A (Lib.compact l).length c) ∧ Own 3 ev w' base 84 A (Lib.compact l).length c (Lib.compact l) ∧ w.grownBy w' (Value.slice A n c).ownBlock := by
  have hll := h.len
  by_cases hn2 : n < 2
  · have g1 : (n : Int) < 2 := by omega
    have hc0 : Lib.compact l = l := compact_all l fun j hj => by
      have : j = 0 := by omega
      subst this
      simp [keeps]
    rw [hc0, hll]
    replace h := hide h
    go_enter Tryz.func228, Tryz.ntmps228
    go_wp2_with fail
    go_ret
    exact ⟨rfl, h.out, ⟨rfl, rfl, rfl, Nat.le_refl _, fun _ _ _ => rfl⟩⟩
  have g1 : ¬ (n : Int) < 2 := by omega
  have hEe := hide elem_edge
  obtain ⟨g, rfl, hbg⟩ := h.neE (by omega)
  have hbl := (h.lt g rfl).2
  show Calls _ _ _ _ fun e w' => _ ∧ _ ∧ w.grownBy w' (some g)
  replace h := hide h
  go_enter Tryz.func228, Tryz.ntmps228
  go_wp2_with fail
  go_loopw [3] (fun v wr => ∃ u : Nat, u + 1 ≤ n ∧ v = .int .i64 ((u + 1 : Nat) : Int) ∧ Hid (∃ nq, wr = w.drewN nq) ∧ Hid (∀ j, j ≤ u → keeps l.toArray j = true)) (fun v _ => n - (intOf v).toNat)
  case atStart => exact ⟨0, by omega, rfl, ⟨0, rfl⟩, fun j hj => by
    have : j = 0 := by omega
    subst this
    simp [keeps]⟩
  case round =>
    obtain ⟨u, hu, rfl, hw, hall⟩ := hrel
    have hO : Hid (Own 3 ev wr base 84 (some ⟨g, 0, none⟩) n c l) := by
      obtain ⟨nq, e⟩ := hw.out
      show Own _ _ _ _ _ _ _ _ _
      rw [e]
      exact h.out.keep fun _ _ => rfl
    by_cases hlt : u + 1 < n
    · have k1 : ((u + 1 : Nat) : Int) < (n : Int) := by omega
      have k0 : (0 : Int) ≤ ((u + 1 : Nat) : Int) := by omega
      have hi1 : IntKind.i64.wrap (((u + 1 : Nat) : Int) - 1) = (u : Int) := by rw [IntWalk.i64_in _ (by omega)]; omega
      have hi2 : ((u + 1 : Nat) : Int) - 1 = (u : Int) := by omega
      have u0 : (0 : Int) ≤ (u : Int) := by omega
      have u1 : (u : Int) < (n : Int) := by omega
      obtain ⟨gx, ox, x1, x2, x3, ex, -, -, -, hx, c0, c1, c2, -⟩ := SlE.get (hO.out.sl flat_ev) hlt
      obtain ⟨gy, oy, y1, y2, y3, ey, -, -, -, hy, d0, d1, d2, -⟩ := SlE.get (hO.out.sl flat_ev) (show u < n by omega)
      cases ex
      cases ey
      rw [Nat.zero_add] at c0 c1 c2 d0 d1 d2
      rcases ed_cases x1 x2 x3 y1 y2 y3 with ⟨e1, e2, e3⟩ | ⟨hne, hc⟩
      · subst e1 e2 e3
        have hdup : Hid (keeps l.toArray (u + 1) = false) := keeps_neg (by omega) (by rw [gete hx]; exact (gete hy).symm)
        have hs1 : ∀ W : World, (Instr.slice 25 (.slice (some ⟨g, 0, none⟩) n c) (some (.int .i64 ((u + 1 : Nat) : Int))) none none).run Tryz.prog W = .ok (.slice (some ⟨g, (u + 1) * 3, none⟩) (n - (u + 1)) (c - (u + 1))) W := fun W => by
          rw [run_cut hEe.out _ n c (u + 1) (by omega) W]
          unfold cutA
          rw [if_neg (by omega)]
          simp [Addr.add]
        go_upto_region 6 with fail
        go_quiet (fail)
        obtain ⟨wi, hwi⟩ : ∃ wi, wi = wr.drewN nq := ⟨_, rfl⟩
        have hOi : Hid (Own 3 ev wi base 84 (some ⟨g, 0, none⟩) n c l) := by rw [hwi]; exact hO.out.keep fun _ _ => rfl
        have hon : Hid (Only g (g + 1) w wi) := by
          obtain ⟨nq2, e⟩ := hw.out
          rw [hwi, e]
          exact ⟨rfl, rfl, rfl, Nat.le_refl _, fun _ _ _ => rfl⟩
        rw [← hwi]
        replace hwi := hide hwi
        replace hx := hide hx
        replace hy := hide hy
        clear c0 c1 c2 d0 d1 d2 hO hw
        go_wp2_with fail
        obtain ⟨wQ, rfl⟩ : ∃ wQ : World, wQ = wr := ⟨_, rfl⟩
        go_loopw [3, 5] (fun v3 v5 wz => ∃ (kk v : Nat) (M : List Ed), v3 = .int .i64 (kk : Nat) ∧ v5 = .int .i64 ((v + 1 : Nat) : Int) ∧ u + 1 + v + 1 ≤ n ∧ Hid (Own 3 ev wz base 84 (some ⟨g, 0, none⟩) n c M) ∧ Hid (CompInv l.toArray (u + 1 + v + 1) kk M.toArray) ∧ Hid (Only g (g + 1) w wz)) (fun _ v _ => n - (intOf v).toNat)
        case atStart => exact ⟨u + 1, 0, l, rfl, rfl, by omega, hOi.out, CompInv.start (fun j hj => hall.out j (by omega)) hdup.out, hon.out⟩
        case round =>
          clear hOi hon
          obtain ⟨kk, v, M, rfl, rfl, hv, hOM, hI, hon⟩ := hrel
          have hMl := hOM.out.len
          have hkm := hI.out.lt
          by_cases hlt2 : u + 1 + (v + 1) < n
          · have k2 : ((v + 1 : Nat) : Int) < ((n - (u + 1) : Nat) : Int) := by omega
            have k20 : (0 : Int) ≤ ((v + 1 : Nat) : Int) := by omega
            have hi3 : IntKind.i64.wrap (((v + 1 : Nat) : Int) - 1) = (v : Int) := by rw [IntWalk.i64_in _ (by omega)]; omega
            have hi4 : ((v + 1 : Nat) : Int) - 1 = (v : Int) := by omega
            have v0 : (0 : Int) ≤ (v : Int) := by omega
            have v1 : (v : Int) < ((n - (u + 1) : Nat) : Int) := by omega
            have kk0 : (0 : Int) ≤ (kk : Int) := by omega
            have kk1 : (kk : Int) < (n : Int) := by omega
            have hki : IntKind.i64.wrap ((kk : Int) + 1) = ((kk + 1 : Nat) : Int) := by rw [IntWalk.i64_in _ (by omega)]; omega
            have hvi : IntKind.i64.wrap (((v + 1 : Nat) : Int) + 1) = ((v + 1 + 1 : Nat) : Int) := by rw [IntWalk.i64_in _ (by omega)]; omega
            obtain ⟨gx, ox, x1, x2, x3, ex, -, -, -, hx, c0, c1, c2, -⟩ := SlE.get (hOM.out.sl flat_ev) hlt2
            obtain ⟨gy, oy, y1, y2, y3, ey, -, -, -, hy, d0, d1, d2, -⟩ := SlE.get (hOM.out.sl flat_ev) (show u + 1 + v < n by omega)
            obtain ⟨gz, oz, z1, z2, z3, ez, -, -, -, hz, z0c, z1c, z2c, z0f, z1f, z2f⟩ := SlE.get (hOM.out.sl flat_ev) (show kk < n by omega)
            cases ex
            cases ey
            cases ez
            rw [Nat.zero_add] at c0 c1 c2 d0 d1 d2 z0c z1c z2c z0f z1f z2f
            rw [show (u + 1 + (v + 1)) * 3 = (u + 1) * 3 + (v + 1) * 3 from Nat.add_mul _ _ _] at c0 c1 c2
            rw [show (u + 1 + v) * 3 = (u + 1) * 3 + v * 3 from Nat.add_mul _ _ _] at d0 d1 d2
            have hx' : l.toArray[u + 1 + v + 1]! = (x1, x2, x3) := by
              rw [← hI.out.high (u + 1 + v + 1) (by omega)]
              exact gete hx
            have hy' : l.toArray[u + 1 + v]! = (y1, y2, y3) := by
              rw [← hI.out.high _ (by omega)]
              exact gete hy
            replace hx := hide hx
            replace hy := hide hy
            replace hz := hide hz
            replace hx' := hide hx'
            replace hy' := hide hy'
            rcases ed_cases x1 x2 x3 y1 y2 y3 with ⟨e1, e2, e3⟩ | ⟨hne, hc⟩
            · subst e1 e2 e3
              have hI2 : Hid (CompInv l.toArray (u + 1 + v + 1 + 1) kk M.toArray) := hI.out.skip (keeps_neg (by omega) (by rw [hx'.out, show u + 1 + v + 1 - 1 = u + 1 + v by omega]; exact hy'.out.symm))
              go_upto_region 11 with fail
              go_quiet (fail)
              obtain ⟨wj, hwj⟩ : ∃ wj, wj = wr.drewN nq := ⟨_, rfl⟩
              have hOj : Hid (Own 3 ev wj base 84 (some ⟨g, 0, none⟩) n c M) := by rw [hwj]; exact hOM.out.keep fun _ _ => rfl
              have hoj : Hid (Only g (g + 1) w wj) := by rw [hwj]; exact ⟨hon.out.os, hon.out.tape, hon.out.output, hon.out.size, hon.out.block⟩
              rw [← hwj]
              replace hwj := hide hwj
              clear c0 c1 c2 d0 d1 d2 z0c z1c z2c z0f z1f z2f
              go_wp2_with fail
              go_roundw
              · exact ⟨kk, v + 1, M, rfl, rfl, by omega, hOj.out, hI2.out, hoj.out⟩
              · simp [intOf]; omega
            · have hI2 : Hid (CompInv l.toArray (u + 1 + v + 1 + 1) (kk + 1) (M.set kk (x1, x2, x3)).toArray) := by
                have h1 := hI.out.keep (by simp; omega) (keeps_pos (by rw [hx'.out, show u + 1 + v + 1 - 1 = u + 1 + v by omega, hy'.out]; exact hne))
                rw [hx'.out, List.setIfInBounds_toArray] at h1
                exact h1
              replace hne := hide hne
              rcases hc with e3 | ⟨e4, e3⟩ | ⟨e4, e5, e3⟩
              rotate_left
              subst e4
              rotate_left
              subst e4 e5
              rotate_left
              all_goals
                go_upto_region 11 with fail
                go_quiet (fail)
                go_wp2_with fail
                go_roundw
              all_goals
                first
                  | refine ⟨kk + 1, v + 1, M.set kk (_, _, _), by go_num, by go_num, by omega, (hOM.out.keep fun _ _ => rfl).setE kk _ _ _, hI2.out, ?_⟩
                  | (simp [intOf]; omega)
              all_goals
                have o1 : Only g (g + 1) w (wr.drewN nq) := ⟨hon.out.os, hon.out.tape, hon.out.output, hon.out.size, hon.out.block⟩
                have o2 := fun v => o1.setCell (p := ⟨g, kk * 3, none⟩) (Nat.le_refl _) (Nat.lt_succ_self _) v
                have o3 := fun v u => (o2 v).setCell (p := ⟨g, kk * 3 + 1, none⟩) (Nat.le_refl _) (Nat.lt_succ_self _) u
                exact (o3 _ _).setCell (p := ⟨g, kk * 3 + 2, none⟩) (Nat.le_refl _) (Nat.lt_succ_self _) _
          · have hend : u + 1 + v + 1 = n := by omega
            have hcl := run_clearE wr 0 g (kk * 3) (n - kk) (c - kk) (by omega) (fun j hj => (cells_all hOM.out (j := kk * 3 + j) (by omega)).1) (fun j hj => (cells_all hOM.out (j := kk * 3 + j) (by omega)).2)
            have hcO := hide (hOM.out.clearE (k := kk) (by omega) (List.replicate ((n - kk) * 3) (.int .i64 0)))
            have hcon := hide (hon.out.trans' (setCells_only9 g (List.replicate ((n - kk) * 3) (.int .i64 0)) (kk * 3) wr))
            have hcL := hide (show M.take kk = Lib.compact l from hI.out.takeE hll hend)
            have hcn : (Lib.compact l).length = kk := by rw [← hcL.out, List.length_take]; omega
            have hs2 := run_head hEe.out (some ⟨g, 0, none⟩) n c kk (by omega)
            generalize wr.setCells g (kk * 3) (List.replicate ((n - kk) * 3) (.int .i64 0)) = wC at *
            go_wp2_with fail
            go_ret
            have e1 := hcO.out
            rw [hcL.out] at e1
            rw [hcn]
            exact ⟨rfl, e1, only_grown hcon.out⟩
      · have hkeep : Hid (∀ j, j ≤ u + 1 → keeps l.toArray j = true) := fun j hj => by
          by_cases e : j = u + 1
          · subst e
            exact keeps_pos (by rw [gete hx]; simp only [Nat.add_sub_cancel]; rw [gete hy]; exact hne)
          · exact hall.out j (by omega)
        replace hx := hide hx
        replace hy := hide hy
        replace hne := hide hne
        rcases hc with e3 | ⟨e4, e3⟩ | ⟨e4, e5, e3⟩
        rotate_left
        subst e4
        rotate_left
        subst e4 e5
        rotate_left
        all_goals
          go_upto_region 6 with fail
          go_quiet (fail)
          obtain ⟨wi, hwi⟩ : ∃ wi, wi = wr.drewN nq := ⟨_, rfl⟩
          have hw2 : Hid (∃ nq, wi = w.drewN nq) := by
            obtain ⟨nq2, e⟩ := hw.out
            exact ⟨nq2 + nq, by rw [hwi, e, World.drewN_drewN]⟩
          rw [← hwi]
          replace hwi := hide hwi
          clear c0 c1 c2 d0 d1 d2 e3
          go_wp2_with fail
          go_roundw
        all_goals
          first
            | exact ⟨u + 1, by omega, by go_num, hw2.out, hkeep.out⟩
            | (simp [intOf]; omega)
    · obtain rfl : u + 1 = n := by omega
      have hcL : Lib.compact l = l := compact_all l fun j hj => hall.out j (by omega)
      have hon : Hid (w.grownBy wr (some g)) := by
        obtain ⟨nq, e⟩ := hw.out
        show w.grownBy wr (some g)
        rw [e]
        exact ⟨rfl, rfl, rfl, Nat.le_refl _, fun _ _ _ => rfl⟩
      go_wp2_with fail
      go_ret
      rw [hcL, hll]
      exact ⟨rfl, hO.out, hon.out⟩
end Go.Proofs.YtnhomkmfbngmgaaGreatDoor

namespace Go.Proofs.YtnhomkmfbngmgaaGreatDoor
open Go.RowKit Go.Sort Go.Lib
set_option linter.unusedVariables false
set_option linter.unusedSimpArgs false

def sortI (l : List Int) : List Int := l.mergeSort fun x y => decide (x ≤ y)
theorem sortI_mem {l : List Int} {x : Int} : x ∈ sortI l ↔ x ∈ l := List.mem_mergeSort
theorem iv_map (l : List Int) : l.flatMap iv = l.map (Value.int .i64) := by
  induction l with
  | nil => rfl
  | cons x l ih => rw [List.flatMap_cons, ih]; rfl

theorem compact_mem {l : List Int} {x : Int} : x ∈ Lib.compact l ↔ x ∈ l := by
  unfold Lib.compact Lib.compactUpTo
  rw [List.mem_map]
  constructor
  · rintro ⟨k, hk, rfl⟩
    have hk' := List.mem_range.1 (List.mem_filter.1 hk).1
    rw [getElem!_pos _ k (by simpa using hk')]
    simp
  · intro hx
    obtain ⟨k, hk, rfl⟩ := List.mem_iff_getElem.1 hx
    have key : ∀ k, (hk : k < l.length) → ∃ a, a ∈ (List.range l.length).filter (Lib.keeps l.toArray) ∧ l.toArray[a]! = l[k] := by
      intro k
      induction k with
      | zero => exact fun hk => ⟨0, List.mem_filter.2 ⟨List.mem_range.2 hk, by simp [Lib.keeps]⟩, by rw [getElem!_pos _ 0 (by simpa using hk)]; simp⟩
      | succ k ih =>
        intro hk
        by_cases h : l.toArray[k + 1]! = l.toArray[k]!
        · obtain ⟨a, ha, e⟩ := ih (by omega)
          refine ⟨a, ha, ?_⟩
          rw [e]
          rw [getElem!_pos _ (k + 1) (by simpa using hk), getElem!_pos _ k (by simp; omega)] at h
          simpa using h.symm
        · exact ⟨k + 1, List.mem_filter.2 ⟨List.mem_range.2 hk, Lib.keeps_pos (by simpa using h)⟩, by rw [getElem!_pos _ (k + 1) (by simpa using hk)]; simp⟩
    exact key k hk
section
variable {w : World} {base g n c q : Nat} {e : TypeId} {l d : List Int} {os : Array Obj}

theorem put_block (w : World) (g q : Nat) (d : List Int) (os : Array Obj) (hg : g < w.heap.size) :
    (grow (putRow (Value.int .i64) (Sort.ahead w q) g 0 d.toArray) os).heap[g]? = (w.heap[g]?).map (onCells (Go.Sort.putCells (Value.int .i64) 0 d.toArray)) := by
  rw [heap_grow_old _ _ (by simpa [putRow, mapBlock, Sort.ahead] using hg)]
  simp [putRow, mapBlock, Sort.ahead, Array.getElem?_modify]

theorem Own.put (h : Own 1 iv w base e (some ⟨g, 0, none⟩) n c l) (hd : d.length = n) {m : Nat} (hm : m ≤ n) :
    Own 1 iv (grow (putRow (Value.int .i64) (Sort.ahead w q) g 0 d.toArray) os) base e (some ⟨g, 0, none⟩) m c (d.take m) := by
  rcases h.2.2 with ⟨hv, -⟩ | ⟨g', cap, cur, hv, hb, hg, hnc, hcm, hcs, htake⟩
  · cases hv
  · cases hv
    have hlt : g < w.heap.size := (Array.getElem?_eq_some_iff.1 hg).1
    have hl : (d.take m).length = m := by rw [List.length_take]; omega
    refine ⟨hl, by rw [flat_length flat_iv, hl], .inr ⟨g, c, Go.Sort.putCells (Value.int .i64) 0 d.toArray cur, rfl, hb, ?_, by omega, hcm, by simp [Go.Sort.putCells, hcs], ?_⟩⟩
    · rw [put_block _ _ _ _ _ hlt, hg]
      rfl
    · rw [iv_map]
      apply List.ext_getElem?
      intro k
      by_cases hk : k < m
      · have hkc : k < cur.size := by omega
        have hkd : k < d.length := by omega
        rw [List.getElem?_take, if_pos (by omega), List.getElem?_map, List.getElem?_take, if_pos hk, Array.getElem?_toList, List.getElem?_eq_getElem hkd]
        simp only [Go.Sort.putCells, Array.getElem?_mapIdx, Array.getElem?_eq_getElem hkc, Option.map_some]
        rw [if_pos ⟨Nat.zero_le _, by simp; omega⟩, Nat.sub_zero, getElem!_pos _ k (by simpa using hkd)]
        simp
      · rw [List.getElem?_eq_none (by simp; omega), List.getElem?_eq_none (by simp; omega)]

theorem Own.holds (h : Own 1 iv w base e (some ⟨g, 0, none⟩) n c l) : Holds (Value.int .i64) w g 0 l.toArray := by
  intro j hj
  have hj' : j < l.length := by simpa using hj
  have hs := h.sl flat_iv
  have hn := h.len
  obtain ⟨b', off', e', -, -, -, hc⟩ := hs.at_ (by omega)
  cases e'
  have := hc j l[j] (List.getElem?_eq_getElem hj') 0 (.int .i64 l[j]) rfl
  rw [getElem!_pos _ j hj]
  simpa using this
end

section
variable {w : World} {base n c : Nat} {A : Option Addr} {l : List Int}

end

end Go.Proofs.YtnhomkmfbngmgaaGreatDoor

namespace Go.Proofs.YtnhomkmfbngmgaaGreatDoor
open Go.ChangeShapes Go.WideShapes Go.ChangeAt Go.RowKit Go.Sort
set_option linter.unusedVariables false
set_option linter.unusedSimpArgs false

/-- The edge leads from one of the states by the label. -/
def hitS (ls : List ByteArray) (lab : ByteArray) (S : List Int) (e : Ed) : Bool := S.any (fun x => decide (x = e.1)) && (match ls[e.2.1.toNat]? with | some r => decide (r = lab) | none => false)
def folS (es : List Ed) (ls : List ByteArray) (lab : ByteArray) (S : List Int) : List Int := (es.filter (hitS ls lab S)).map (·.2.2)
def folV (es : List Ed) (ls : List ByteArray) (lab : ByteArray) (S : List Int) : List Int := Lib.compact (sortI (folS es ls lab S))
theorem folV_mem {es : List Ed} {ls : List ByteArray} {lab : ByteArray} {S : List Int} {v : Int} : v ∈ folV es ls lab S ↔ ∃ e ∈ es, e.1 ∈ S ∧ ls[e.2.1.toNat]? = some lab ∧ e.2.2 = v := by
  unfold folV
  rw [compact_mem, sortI_mem]
  unfold folS
  rw [List.mem_map]
  constructor
  · rintro ⟨e, he, rfl⟩
    obtain ⟨h1, h2⟩ := List.mem_filter.1 he
    unfold hitS at h2
    rw [Bool.and_eq_true, List.any_eq_true] at h2
    obtain ⟨⟨x, hx, hxe⟩, h3⟩ := h2
    refine ⟨e, h1, by rw [← of_decide_eq_true hxe]; exact hx, ?_, rfl⟩
    revert h3
    cases ls[e.2.1.toNat]? with
    | none => intro h; cases h
    | some r => intro h; rw [of_decide_eq_true h]
  · rintro ⟨e, h1, h2, h3, rfl⟩
    refine ⟨e, List.mem_filter.2 ⟨h1, ?_⟩, rfl⟩
    unfold hitS
    rw [Bool.and_eq_true, List.any_eq_true, h3]
    exact ⟨⟨e.1, h2, decide_eq_true rfl⟩, decide_eq_true rfl⟩

end Go.Proofs.YtnhomkmfbngmgaaGreatDoor

namespace Go.Proofs.YtnhomkmfbngmgaaGreatDoor
set_option linter.unusedVariables false
set_option linter.unusedSimpArgs false

def addN (R : List Int) (v : Int) : List Int := if v ∈ R then R else R ++ [v]
/-- The list begins with S, and what stands behind is in [0, N), each once, and not in S. -/
def Beg (N : Int) (S R : List Int) : Prop := ∃ T, R = S ++ T ∧ T.Nodup ∧ ∀ v ∈ T, v ∉ S ∧ 0 ≤ v ∧ v < N
theorem Beg.refl (N : Int) (S : List Int) : Beg N S S := ⟨[], by simp, List.nodup_nil, fun _ h => by cases h⟩
theorem Beg.add {N : Int} {S R : List Int} (h : Beg N S R) {v : Int} (h0 : 0 ≤ v) (h1 : v < N) : Beg N S (addN R v) := by
  obtain ⟨T, rfl, hn, hv⟩ := h
  unfold addN
  split
  · exact ⟨T, rfl, hn, hv⟩
  · rename_i hnot
    rw [List.mem_append] at hnot
    refine ⟨T ++ [v], by simp, ?_, ?_⟩
    · rw [List.nodup_append]
      exact ⟨hn, by simp, fun a ha b hb => by rw [List.mem_singleton.1 hb]; rintro rfl; exact hnot (.inr ha)⟩
    · intro x hx
      rcases List.mem_append.1 hx with hx | hx
      · exact hv x hx
      · rw [List.mem_singleton.1 hx]
        exact ⟨fun h => hnot (.inl h), h0, h1⟩
theorem nodup_few_aux : ∀ (n : Nat) (l : List Nat), l.Nodup → (∀ x ∈ l, x < n) → l.length ≤ n
  | 0, l, _, h => by
    cases l with
    | nil => simp
    | cons a l => exact absurd (h a (by simp)) (by omega)
  | n + 1, l, hd, h => by
    have h1 := nodup_few_aux n (l.filter fun x => decide (x ≠ n)) (hd.filter _) (fun x hx => by
      obtain ⟨h2, h3⟩ := List.mem_filter.1 hx
      have := h x h2
      have h4 : x ≠ n := by simpa using h3
      omega)
    have h2 : l.length ≤ (l.filter fun x => decide (x ≠ n)).length + 1 := by
      have h3 : l.length = l.countP (fun x => decide (x ≠ n)) + l.countP (fun x => !(decide (x ≠ n))) := by
        rw [List.length_eq_countP_add_countP (fun x => decide (x ≠ n))]
        congr 1
        apply List.countP_congr
        intro x _
        simp
      have h4 : l.countP (fun x => !(decide (x ≠ n))) ≤ 1 := by
        have h5 : l.countP (fun x => !(decide (x ≠ n))) = l.count n := by
          unfold List.count
          apply List.countP_congr
          intro x _
          simp
        rw [h5]
        exact List.nodup_iff_count.1 hd n
      rw [← List.countP_eq_length_filter]
      omega
    omega
theorem nodup_few {N : Nat} : ∀ {T : List Int}, T.Nodup → (∀ v ∈ T, 0 ≤ v ∧ v < (N : Int)) → T.length ≤ N := by
  intro T hn hv
  have h1 : (T.map Int.toNat).Nodup := by
    rw [List.Nodup, List.pairwise_map]
    refine List.Pairwise.imp_of_mem (fun {a b} ha hb hne => ?_) hn
    have := hv a ha
    have := hv b hb
    omega
  have := nodup_few_aux N (T.map Int.toNat) h1 fun x hx => by
    obtain ⟨v, hvv, rfl⟩ := List.mem_map.1 hx
    have := hv v hvv
    omega
  simpa using this
theorem Beg.len {N : Nat} {S R : List Int} (h : Beg (N : Int) S R) : R.length ≤ S.length + N := by
  obtain ⟨T, rfl, hn, hv⟩ := h
  have := nodup_few hn fun v hx => (hv v hx).2
  rw [List.length_append]
  omega

/-- The search has gone through k states of its list. -/
structure TauI (N : Int) (es : List Ed) (ls : List ByteArray) (S R : List Int) (k : Nat) : Prop where
  beg : Beg N S R
  sound : ∀ v ∈ R, TauC es ls (· ∈ S) v
  closed : ∀ j, j < k → ∀ x, R[j]? = some x → ∀ v ∈ folV es ls tauB [x], v ∈ R
theorem TauI.start (N : Int) (es : List Ed) (ls : List ByteArray) (S : List Int) : TauI N es ls S S 0 :=
  ⟨Beg.refl _ _, fun v hv => .base hv, fun j hj => by omega⟩
theorem TauI.done {N : Int} {es : List Ed} {ls : List ByteArray} {S R : List Int} {k : Nat} (h : TauI N es ls S R k) (hk : R.length ≤ k) {v : Int} : v ∈ R ↔ TauC es ls (· ∈ S) v := by
  refine ⟨h.sound v, fun hv => ?_⟩
  induction hv with
  | base hv =>
    obtain ⟨T, rfl, -⟩ := h.beg
    exact List.mem_append.2 (.inl hv)
  | step _ he hl ih =>
    obtain ⟨j, hj, e⟩ := List.mem_iff_getElem.1 ih
    exact h.closed j (by omega) _ (List.getElem?_eq_some_iff.2 ⟨hj, e⟩) _ (folV_mem.2 ⟨_, he, List.mem_singleton.2 rfl, hl, rfl⟩)

end Go.Proofs.YtnhomkmfbngmgaaGreatDoor

namespace Go.Proofs.YtnhomkmfbngmgaaGreatDoor
open Go.ChangeShapes Go.WideShapes Go.ChangeAt Go.RowKit
set_option linter.unusedVariables false

/-- A grown list, begun before some other blocks were made. -/
structure OwnC {α : Type} (size : Nat) (f : α → List Value) (t : TypeId) (w1 : World) (BB : Nat) (w : World) (A : Option Addr) (m c : Nat) (l : List α) : Prop where
  own : Own size f w BB t A m c l
  at_ : ∀ g, (Value.slice A m c).ownBlock = some g → g = BB ∨ w1.heap.size ≤ g
  only : Only BB (BB + 1) w1 w
theorem OwnC.below {α : Type} {size : Nat} {f : α → List Value} {t : TypeId} {w1 w w' : World} {BB m c : Nat} {A : Option Addr} {l : List α} (h : OwnC size f t w1 BB w A m c l) (hb : Below w.heap.size w w') : OwnC size f t w1 BB w' A m c l :=
  ⟨h.own.below hb (Nat.le_refl _), h.at_, ⟨hb.os.trans h.only.os, hb.tape.trans h.only.tape, hb.output.trans h.only.output, Nat.le_trans h.only.size hb.size, fun b hb' ho => (hb.block b (Nat.lt_of_lt_of_le hb' h.only.size)).trans (h.only.block b hb' ho)⟩⟩
end Go.Proofs.YtnhomkmfbngmgaaGreatDoor

namespace Go.Proofs.YtnhomkmfbngmgaaGreatDoor
open Go.ChangeShapes Go.WideShapes Go.ChangeAt Go.RowKit Go.Lib
set_option linter.unusedVariables false

def cellsD : DataW Unit → List Value
  | .agg l => l.flatMap fun x => match x with
    | .lit (.int k z) => [.int k z]
    | _ => []
  | _ => []
noncomputable def laidWorld (os : Os) : World :=
  let w0 := World.doorLaid Tryz.prog 400 os
  { w0 with heap := w0.heap.modify 2 fun
      | .cells _ t f => .cells (cellsD Rows.laid_unicode_utf8_first).toArray t f
      | o => o }
theorem laid_met (os : Os) (args : Array Value) : laidMet Tryz.prog Rows.fnLtsRow.laid ((laidWorld os).forCall (fun _ _ => 0) ⟨#[], args, []⟩).memory :=
  laidMet_of_run' 8 (by kernel_rfl) (by kernel_rfl)

end Go.Proofs.YtnhomkmfbngmgaaGreatDoor

namespace Go.Proofs.YtnhomkmfbngmgaaGreatDoor
open Go.ChangeShapes Go.WideShapes Go.ChangeAt Go.RowKit
open Go.Maps (Keyed)
set_option linter.unusedVariables false

def pairV (q : Int × Int) : Value := .agg #[.int .i64 q.1, .int .i64 q.2]
def fitP (q : Int × Int) : Prop := (Lit.int .i64 q.1).wf = true ∧ (Lit.int .i64 q.2).wf = true
theorem laidP : laidOutB Tryz.prog = true := by kernel_rfl
set_option maxRecDepth 100000 in
theorem arrP : Go.WideMaps.ArrKey Tryz.prog 177 2 2 := ⟨Tryz.underlying177, by kernel_rfl, by kernel_rfl, by kernel_rfl⟩
theorem typesP : ∃ m, Tryz.prog.types.size = m + 1 := ⟨Tryz.prog.types.size - 1, by have : 0 < Tryz.prog.types.size := of_decide_eq_true (by kernel_rfl); omega⟩
set_option maxRecDepth 100000 in
theorem keyedP : Keyed Tryz.prog 177 := Keyed.of_law (Go.deep_law_laid laidP (m := 2) (by omega) (of_decide_eq_true (by kernel_rfl)) (by kernel_rfl) (by rw [Tryz.underlying177]))
theorem keyP {q : Int × Int} (h : fitP q) : ∃ l, keyOf Tryz.prog 177 (pairV q) = some l := ⟨_, Go.WideMaps.keyOf_pair arrP Tryz.underlying2 typesP h.1 h.2⟩
theorem pairV_inj {a b : Int × Int} (h : pairV a = pairV b) : a = b := by
  unfold pairV at h
  injection h with h
  injection h with h
  injection h with h1 h2
  injection h2 with h2 _
  injection h1 with _ h1
  injection h2 with _ h2
  exact Prod.ext h1 h2

end Go.Proofs.YtnhomkmfbngmgaaGreatDoor

namespace Go.Proofs.YtnhomkmfbngmgaaGreatDoor
open Go.ChangeShapes Go.WideShapes Go.ChangeAt Go.RowKit
open Go.Maps (Keyed)
set_option linter.unusedVariables false

abbrev PQ2 := Int × Int
def KL (q : PQ2) (l : Lit) : Prop := keyOf Tryz.prog 177 (pairV q) = some l
theorem KL.inj {a b : PQ2} {l : Lit} (h : KL a l) (g : KL b l) : a = b := pairV_inj (keyedP.inj h g)
theorem zeroB (w : World) : (zeroValue 4).run Tryz.prog w = .ok (.bool false) w := by kernel_rfl
noncomputable abbrev RB : Value → Option (DataW Unit × List MemPlace) := plainElem Tryz.prog 4
set_option maxRecDepth 100000 in
theorem RB_inv {v : Value} {z : DataW Unit × List MemPlace} (h : RB v = some z) : ∃ c : Bool, v = .bool c ∧ z = (.lit (.bool c), []) := by
  unfold RB plainElem at h
  rw [Tryz.underlying4] at h
  cases v <;> simp at h
  exact ⟨_, rfl, h.symm⟩

/-- The datum holds the pairs of S, each with true. -/
structure DatS (D : DataW Unit) (S : List PQ2) : Prop where
  has : ∀ l, Maps.has D l = true ↔ ∃ q ∈ S, KL q l
  val : ∀ l, Maps.has D l = true → ∀ z, D.atKey l z = .lit (.bool true)
/-- Block b is the set of the pairs of S. -/
structure PSet (w : World) (b : Nat) (S : List PQ2) : Prop where
  nd : S.Nodup
  fit : ∀ q, q ∈ S → fitP q
  ex : ∃ (D : DataW Unit), w.ownsMap Tryz.prog 177 RB b S.length D ∧ Maps.size D = S.length ∧ DatS D S

theorem owns_tight {H : Type} {P : Program} {k : TypeId} {R : Value → Option (DataW H × List MemPlace)} {w : World} {b n : Nat} {D : DataW H} (h : w.ownsMap P k R b n D) : w.ownsMap P k R b (Maps.size D) D := by
  obtain ⟨es, clock, hb, F, hs, rfl⟩ := h
  exact ⟨es, clock, hb, F, by simp [Maps.size, length_sorted], rfl⟩

section
variable {w w' : World} {b : Nat} {S : List PQ2}
theorem PSet.made (w : World) : PSet (w.alloc (.map #[] 0)) w.heap.size [] :=
  ⟨List.nodup_nil, (fun q h => by cases h), .map [], World.ownsMap_made _ _ _ _, rfl, ⟨fun l => ⟨(fun h => by cases h), (fun ⟨q, h, _⟩ => by cases h)⟩, fun l h => by cases h⟩⟩
theorem PSet.lt (h : PSet w b S) : b < w.heap.size := by obtain ⟨-, -, D, h1, -⟩ := h; exact h1.lt
theorem PSet.keep (h : PSet w b S) (hb : w'.heap[b]? = w.heap[b]?) : PSet w' b S := by
  obtain ⟨h1, h2, D, ⟨es, clock, h3, r⟩, h4⟩ := h
  exact ⟨h1, h2, D, ⟨es, clock, hb.trans h3, r⟩, h4⟩
theorem PSet.below (h : PSet w b S) (hb : Below w.heap.size w w') : PSet w' b S := h.keep (hb.block b h.lt)
theorem PSet.map (h : PSet w b S) : ∃ es clock, w.heap[b]? = some (.map es clock) := by obtain ⟨-, -, D, ⟨es, clock, h1, r⟩, -⟩ := h; exact ⟨es, clock, h1⟩
/-- The set with one pair more. -/
def addQ (S : List PQ2) (q : PQ2) : List PQ2 := if q ∈ S then S else S ++ [q]
theorem addQ_mem {S : List PQ2} {q x : PQ2} : x ∈ addQ S q ↔ x ∈ S ∨ x = q := by
  unfold addQ
  split
  · constructor
    · exact .inl
    · rintro (h | rfl)
      · exact h
      · assumption
  · simp
end

/-- A loop over the set is under way: the pairs of L are still to come. -/
structure RSet (w : World) (b r : Nat) (S L : List PQ2) (cnt : Nat) : Prop where
  set : PSet w b S
  sub : ∀ q, q ∈ L → q ∈ S
  nd : L.Nodup
  ex : ∃ (D : DataW Unit) (left : Lit → Bool), w.ranges Tryz.prog 177 RB b r S.length D left cnt ∧ DatS D S ∧ ∀ l, left l = true ↔ ∃ q ∈ L, KL q l
section
variable {w w' : World} {b r : Nat} {S L : List PQ2} {cnt : Nat}
theorem RSet.kept (h : RSet w b r S L cnt) {row : Option Nat} (hg : w.grownBy w' row) (hb : some b ≠ row) (hr : some r ≠ row) : RSet w' b r S L cnt := by
  obtain ⟨h1, h2, h3, D, left, h4, h5⟩ := h
  exact ⟨h1.keep (hg.block b h1.lt hb), h2, h3, D, left, h4.kept hg hb hr, h5⟩
theorem RSet.lt (h : RSet w b r S L cnt) : r < w.heap.size := by obtain ⟨-, -, -, D, left, h4, -⟩ := h; exact h4.lt
theorem RSet.ne (h : RSet w b r S L cnt) : r ≠ b := by obtain ⟨-, -, -, D, left, h4, -⟩ := h; exact h4.ne
theorem RSet.below (h : RSet w b r S L cnt) (hb : Below w.heap.size w w') : RSet w' b r S L cnt :=
  h.kept (row := none) ⟨hb.os, hb.tape, hb.output, hb.size, fun i hi _ => hb.block i hi⟩ (by simp) (by simp)
end
section
variable {w : World} {ops : Array Oper} {rest : List Oper} {o : Oper} {a : Act} {Q : Exit → Act → World → Prop} {b r : Nat} {S L : List PQ2} {cnt : Nat}
end
end Go.Proofs.YtnhomkmfbngmgaaGreatDoor

namespace Go.Proofs.YtnhomkmfbngmgaaGreatDoor
open Go.ChangeShapes Go.WideShapes Go.ChangeAt Go.RowKit Go.Sort
set_option linter.unusedVariables false
set_option linter.unusedSimpArgs false

/-- Two systems lie below K. -/
structure SimD (w : World) (K : Nat) (s0 s1 : Int) (A2 : Option Addr) (n2 k2 : Nat) (A3 : Option Addr) (n3 k3 : Nat) (r0 r1 : Int) (B2 : Option Addr) (m2 j2 : Nat) (B3 : Option Addr) (m3 j3 : Nat) (lt : List ByteArray) (et : List Ed) (lp : List ByteArray) (ep : List Ed) : Prop where
  t2 : SlS w 0 K A2 n2 lt
  t3 : SlE w 0 K A3 n3 et
  u2 : SlS w 0 K B2 m2 lp
  u3 : SlE w 0 K B3 m3 ep
  hes : n3 ≤ 1048576
  hfs : m3 ≤ 1048576
  ht : ltsV (s0, s1, lt, et) = true
  hp : ltsV (r0, r1, lp, ep) = true
theorem SimD.below {w w' : World} {K B : Nat} {s0 s1 : Int} {A2 : Option Addr} {n2 k2 : Nat} {A3 : Option Addr} {n3 k3 : Nat} {r0 r1 : Int} {B2 : Option Addr} {m2 j2 : Nat} {B3 : Option Addr} {m3 j3 : Nat} {lt : List ByteArray} {et : List Ed} {lp : List ByteArray} {ep : List Ed}
    (h : SimD w K s0 s1 A2 n2 k2 A3 n3 k3 r0 r1 B2 m2 j2 B3 m3 j3 lt et lp ep) (hb : Below B w w') (hK : K ≤ B) : SimD w' K s0 s1 A2 n2 k2 A3 n3 k3 r0 r1 B2 m2 j2 B3 m3 j3 lt et lp ep :=
  ⟨h.t2.below hb (.inl hK), h.t3.below hb (.inl hK), h.u2.below hb (.inl hK), h.u3.below hb (.inl hK), h.hes, h.hfs, h.ht, h.hp⟩
end Go.Proofs.YtnhomkmfbngmgaaGreatDoor

namespace Go.Proofs.YtnhomkmfbngmgaaGreatDoor
open Go.ChangeShapes Go.WideShapes Go.ChangeAt Go.RowKit Go.Sort Go.Lib
set_option linter.unusedVariables false
set_option linter.unusedSimpArgs false

set_option maxRecDepth 100000 in
theorem compareLabels_calls (a b : ByteArray) (w : World) : Calls Tryz.prog 226 #[.string a, .string b] w fun e w' => e = .returned (.int .i64 (cmpB (toL a) (toL b))) ∧ w' = w := by
  have q := Tryz.strings_Compare a b
  by_cases h1 : a = b
  · subst h1
    have hv : Hid (cmpB (toL a) (toL a) = 0) := by show _ = _; unfold cmpB; rw [if_pos rfl]
    have hself : (a.toList == a.toList) = true := beq_self_eq_true _
    clear q
    go_enter Tryz.func226, Tryz.ntmps226
    go_wp2_with fail
    go_ret
    exact ⟨ret_i (by rw [hv.out]), rfl⟩
  · have n1 := str_neq h1
    have n2 : ¬ a.toList = b.toList := fun e => by rw [e, beq_self_eq_true] at n1; cases n1
    have n3 : ¬ toL a = toL b := fun e => h1 (toL_inj e)
    by_cases h2 : a = tauB
    · have hv : Hid (cmpB (toL a) (toL b) = -1) := by show _ = _; unfold cmpB; rw [if_neg n3, if_pos (by rw [h2, toL_tau])]
      have t1 : (a.toList == [116, 97, 117]) = true := by rw [h2, tau_list]; rfl
      clear q n3 h1 h2
      go_enter Tryz.func226, Tryz.ntmps226
      go_wp2_with fail
      go_ret
      exact ⟨ret_i (by rw [hv.out]), rfl⟩
    · have t1 : (a.toList == [116, 97, 117]) = false := by have := str_neq h2; rwa [tau_list] at this
      have t2 : ¬ a.toList = [116, 97, 117] := fun e => by rw [e] at t1; cases t1
      have t3 : ¬ toL a = tauBL := fun e => h2 (toL_inj (e.trans toL_tau.symm))
      by_cases h3 : b = tauB
      · have hv : Hid (cmpB (toL a) (toL b) = 1) := by show _ = _; unfold cmpB; rw [if_neg n3, if_neg t3, if_pos (by rw [h3, toL_tau])]
        have u1 : (b.toList == [116, 97, 117]) = true := by rw [h3, tau_list]; rfl
        clear q n3 t3 h1 h2 h3
        go_enter Tryz.func226, Tryz.ntmps226
        go_wp2_with fail
        go_ret
        exact ⟨ret_i (by rw [hv.out]), rfl⟩
      · have u1 : (b.toList == [116, 97, 117]) = false := by have := str_neq h3; rwa [tau_list] at this
        have u2 : ¬ b.toList = [116, 97, 117] := fun e => by rw [e] at u1; cases u1
        have u3 : ¬ toL b = tauBL := fun e => h3 (toL_inj (e.trans toL_tau.symm))
        have hv : Hid (cmpB (toL a) (toL b) = Lib.compareBytes a.data.toList b.data.toList) := by show _ = _; unfold cmpB; rw [if_neg n3, if_neg t3, if_neg u3]; rfl
        generalize Lib.compareBytes a.data.toList b.data.toList = r at *
        replace q := hide q
        clear n3 t3 u3 h1 h2 h3
        go_enter Tryz.func226, Tryz.ntmps226
        go_wp2_with (first | (go_at_call 292; (with_reducible refine (q.out _).mono ?_); rintro e w5 ⟨rfl, rfl⟩))
        go_ret
        exact ⟨ret_i (by rw [hv.out]), rfl⟩

theorem strv_map (l : List ByteArray) : l.flatMap strv = l.map Value.string := by
  induction l with
  | nil => rfl
  | cons x l ih => rw [List.flatMap_cons, ih]; rfl

section
variable {w : World} {base g n c q : Nat} {e : TypeId} {l : List ByteArray} {d : List (List UInt8)} {os : Array Obj}

theorem putS_block (w : World) (g q : Nat) (d : List (List UInt8)) (os : Array Obj) (hg : g < w.heap.size) :
    (grow (putRow encStr (Sort.ahead w q) g 0 d.toArray) os).heap[g]? = (w.heap[g]?).map (onCells (Go.Sort.putCells encStr 0 d.toArray)) := by
  rw [heap_grow_old _ _ (by simpa [putRow, mapBlock, Sort.ahead] using hg)]
  simp [putRow, mapBlock, Sort.ahead, Array.getElem?_modify]

theorem putS_grown (w : World) (g q : Nat) (d : List (List UInt8)) (os : Array Obj) : w.grownBy (grow (putRow encStr (Sort.ahead w q) g 0 d.toArray) os) (some g) := by
  refine ⟨rfl, rfl, rfl, by simp [putRow, mapBlock, Sort.ahead], fun k hk hne => ?_⟩
  rw [heap_grow_old _ _ (by simpa [putRow, mapBlock, Sort.ahead] using hk)]
  have hne' : g ≠ k := fun h => hne (by rw [h])
  simp [putRow, mapBlock, Sort.ahead, Array.getElem?_modify, hne']

theorem Own.putS (h : Own 1 strv w base e (some ⟨g, 0, none⟩) n c l) (hd : d.length = n) {m : Nat} (hm : m ≤ n) :
    Own 1 strv (grow (putRow encStr (Sort.ahead w q) g 0 d.toArray) os) base e (some ⟨g, 0, none⟩) m c ((d.take m).map ofL) := by
  rcases h.2.2 with ⟨hv, -⟩ | ⟨g', cap, cur, hv, hb, hg, hnc, hcm, hcs, htake⟩
  · cases hv
  · cases hv
    have hlt : g < w.heap.size := (Array.getElem?_eq_some_iff.1 hg).1
    have hl : ((d.take m).map ofL).length = m := by rw [List.length_map, List.length_take]; omega
    refine ⟨hl, by rw [flat_length flat_strv, hl], .inr ⟨g, c, Go.Sort.putCells encStr 0 d.toArray cur, rfl, hb, ?_, by omega, hcm, by simp [Go.Sort.putCells, hcs], ?_⟩⟩
    · rw [putS_block _ _ _ _ _ hlt, hg]
      rfl
    · rw [strv_map]
      apply List.ext_getElem?
      intro k
      by_cases hk : k < m
      · have hkc : k < cur.size := by omega
        have hkd : k < d.length := by omega
        rw [List.getElem?_take, if_pos (by omega), List.getElem?_map, List.getElem?_map, List.getElem?_take, if_pos hk, Array.getElem?_toList, List.getElem?_eq_getElem hkd]
        simp only [Go.Sort.putCells, Array.getElem?_mapIdx, Array.getElem?_eq_getElem hkc, Option.map_some]
        rw [if_pos ⟨Nat.zero_le _, by simp; omega⟩, Nat.sub_zero, getElem!_pos _ k (by simpa using hkd)]
        simp [encStr, ofL]
      · rw [List.getElem?_eq_none (by simp; omega), List.getElem?_eq_none (by simp; omega)]

theorem Own.holdsS (h : Own 1 strv w base e (some ⟨g, 0, none⟩) n c l) : Holds encStr w g 0 (l.map toL).toArray := by
  intro j hj
  have hj' : j < l.length := by simpa using hj
  have hs := h.sl flat_strv
  have hn := h.len
  obtain ⟨b', off', e', -, -, -, hc⟩ := hs.at_ (by omega)
  cases e'
  have := hc j l[j] (List.getElem?_eq_getElem hj') 0 (.string l[j]) rfl
  rw [getElem!_pos _ j hj]
  have he : encStr (l.map toL).toArray[j] = .string l[j] := by
    simp only [List.getElem_toArray, List.getElem_map]
    exact congrArg Value.string (ofL_toL _)
  rw [he]
  simpa using this
end

section
variable {w : World} {base n c : Nat} {A : Option Addr} {l : List ByteArray}

theorem sortL_calls (h : Own 1 strv w base 9 A n c l) (hn : n ≤ 1000000000) :
    Calls Tryz.prog 225 #[.slice A n c, .func (.func 226) #[] #[]] w fun e w' => e = .returned (.tuple #[]) ∧ Own 1 strv w' base 9 A n c (((l.map toL).mergeSort fun x y => !(ltL y x)).map ofL) ∧ w.grownBy w' (Value.slice A n c).ownBlock := by
  rcases h.2.2 with ⟨hv, hn0⟩ | ⟨g, cap, cur, hv, hb, hg, hnc, hcm, hcs, htake⟩
  · cases hv
    have hl := List.eq_nil_of_length_eq_zero h.len
    subst hl
    refine (Tryz.slices_SortFunc_string_none none 0 _ w).mono ?_
    rintro e w' ⟨rfl, rfl⟩
    refine ⟨rfl, ?_, ⟨rfl, rfl, rfl, Nat.le_refl _, fun _ _ _ => rfl⟩⟩
    simpa using h
  · cases hv
    have hlt : g < w.heap.size := (Array.getElem?_eq_some_iff.1 hg).1
    have eg : ∀ args w, (callFunc 226 args).run Tryz.prog w = .ok (.enter 226 args) w := enters_of Tryz.func226 (by kernel_rfl) rfl
    have hsz : (l.map toL).toArray.size = n := by simp [h.len]
    have hcmp : CmpReads Tryz.prog 226 #[] encStr cmpB g 0 (l.map toL).toArray.size w := fun m os dk hs x y => (compareLabels_calls (ofL x) (ofL y) _).mono fun e w' ⟨he, hw⟩ => ⟨by rw [he, toL_ofL, toL_ofL], 0, hw⟩
    have hq := Tryz.slices_SortFunc_string cmpB swoL 226 #[] g 0 c (l.map toL).toArray w eg hcmp.lays h.holdsS hlt (by rw [hsz]; omega) apartL
    rw [hsz] at hq
    refine hq.mono ?_
    rintro e w' ⟨rfl, q, os, rfl⟩
    have hd : ((l.map toL).mergeSort fun x y => !(ltL y x)).length = n := by rw [List.length_mergeSort, List.length_map, h.len]
    refine ⟨rfl, ?_, putS_grown _ _ _ _ _⟩
    have := h.putS (d := (l.map toL).mergeSort fun x y => !(ltL y x)) (q := q) (os := os) hd (Nat.le_refl n)
    rwa [List.take_of_length_le (by rw [hd]; exact Nat.le_refl _)] at this

theorem compactL_calls (h : Own 1 strv w base 9 A n c l) (hn : n ≤ 1000000000) :
    Calls Tryz.prog 227 #[.slice A n c] w fun e w' => e = .returned (.slice A (Lib.compact (l.map toL)).length c) ∧ Own 1 strv w' base 9 A (Lib.compact (l.map toL)).length c ((Lib.compact (l.map toL)).map ofL) ∧ w.grownBy w' (Value.slice A n c).ownBlock := by
  rcases h.2.2 with ⟨hv, hn0⟩ | ⟨g, cap, cur, hv, hb, hg, hnc, hcm, hcs, htake⟩
  · cases hv
    have hl := List.eq_nil_of_length_eq_zero h.len
    subst hl
    refine (Tryz.slices_Compact_string_empty none 0 w).mono ?_
    rintro e w' ⟨rfl, rfl⟩
    exact ⟨rfl, h, ⟨rfl, rfl, rfl, Nat.le_refl _, fun _ _ _ => rfl⟩⟩
  · cases hv
    have hlt : g < w.heap.size := (Array.getElem?_eq_some_iff.1 hg).1
    have hlen := compact_length_le (l.map toL)
    have hln : (l.map toL).length = n := by rw [List.length_map, h.len]
    have hq := Tryz.slices_Compact_string g 0 c (l.map toL) w h.holdsS (by omega) (by omega)
    rw [hln] at hq hlen
    refine hq.mono ?_
    rintro e w' ⟨rfl, q, rfl⟩
    have hd : (Lib.compact (l.map toL) ++ List.replicate (n - (Lib.compact (l.map toL)).length) []).length = n := by simp; omega
    have h1 := h.putS (d := Lib.compact (l.map toL) ++ List.replicate (n - (Lib.compact (l.map toL)).length) []) (q := q) (os := #[]) hd hlen
    have h2 := putS_grown w g q (Lib.compact (l.map toL) ++ List.replicate (n - (Lib.compact (l.map toL)).length) []) #[]
    rw [grow_empty] at h1 h2
    rw [List.take_left' rfl] at h1
    exact ⟨rfl, h1, h2⟩
end

theorem map_toL_ofL (d : List (List UInt8)) : (d.map ofL).map toL = d := by
  rw [List.map_map]
  exact (List.map_congr_left fun x _ => toL_ofL x).trans (List.map_id _)

theorem compactD_calls {w : World} {base n c : Nat} {A : Option Addr} {d : List (List UInt8)} (h : Own 1 strv w base 9 A n c (d.map ofL)) (hn : n ≤ 1000000000) :
    Calls Tryz.prog 227 #[.slice A n c] w fun e w' => e = .returned (.slice A (Lib.compact d).length c) ∧ Own 1 strv w' base 9 A (Lib.compact d).length c ((Lib.compact d).map ofL) ∧ w.grownBy w' (Value.slice A n c).ownBlock := by
  have := compactL_calls h hn
  rwa [map_toL_ofL] at this

end Go.Proofs.YtnhomkmfbngmgaaGreatDoor
