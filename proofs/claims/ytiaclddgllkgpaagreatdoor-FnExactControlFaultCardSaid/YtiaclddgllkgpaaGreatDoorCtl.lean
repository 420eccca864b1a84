/-
  A label's name, by both; whether a label is controlled. Conditions: sizes; the program's name of a label that is one.
-/
import Derived.Test.YtiaclddgllkgpaaGreatDoorPairs
import Derived.Test.YtiaclddgllkgpaaGreatDoorBaseC
import Derived.Deep.DeepCutAuto
import Derived.Deep.RegionLaw
namespace Go.Proofs.YtiaclddgllkgpaaGreatDoor
open Go.ChangeShapes Go.WideShapes Go.ChangeAt Go.RowKit Go.Sort
set_option linter.unusedVariables false
set_option linter.unusedSimpArgs false

def namS (s : ByteArray) : ByteArray := s.extract 0 (openN s)
theorem namS_cut (s : ByteArray) : mkB (Lib.cut s.data.toList [40]).1 = namS s := by
  unfold namS
  by_cases hm : (40 : UInt8) ∈ s.data.toList
  · obtain ⟨a, b, hl, hn⟩ := split_at 40 _ hm
    rw [open_hit hl hn, extract_mk, hl, cut_hit hn, List.drop_zero, Nat.sub_zero, List.take_left]
  · have h1 : openN s = s.data.toList.length := by
      unfold openN
      exact takeWhile_all fun j x hx e => hm (by rw [← e]; exact List.mem_of_getElem? hx)
    rw [cut_miss hm, h1, extract_mk, List.drop_zero, Nat.sub_zero, List.take_length]
theorem namS_size (s : ByteArray) : (namS s).size ≤ s.size := by
  unfold namS
  rw [ByteArray.size_extract]
  omega
set_option maxRecDepth 100000 in
theorem l01LabelName_calls (s : ByteArray) (w : World) (hs : s.size ≤ 1048576) : Calls Tryz.prog 180 #[.string s] w fun e w' => e = .returned (.string (namS s)) ∧ w = w' := by
  have q := hide (l01Open_calls s w hs)
  have h1 : openN s ≤ s.size := by
    unfold openN
    rw [← bsize]
    exact (List.takeWhile_sublist _).length_le
  have h2 : ((openN s : Nat) : Int).toNat = openN s := by omega
  have h3 : Hid (namS s = s.extract 0 (openN s)) := rfl
  go_enter Tryz.func180, Tryz.ntmps180
  go_wp2_with fail
  refine q.out.mono ?_
  rintro e w1 ⟨rfl, rfl⟩
  go_wp2_with fail
  go_ret
  exact ⟨by rw [h3.out]; rfl, rfl⟩
set_option maxRecDepth 100000 in
theorem labelName_calls (s : ByteArray) (w : World) (hs : s.size ≤ 1048576) (he : Env w) (hv : labS s = true) : Calls Tryz.prog 191 #[.string s] w fun e w' => e = .returned (.string (namS s)) ∧ Below w.heap.size w w' := by
  have q := hide (readLabel_calls s w hs he)
  go_enter Tryz.func191, Tryz.ntmps191
  go_wp2_with fail
  refine q.out.mono ?_
  rintro e w1 ⟨nm, A, n, c, rfl, hnm, hb⟩
  rw [if_pos hv, namS_cut] at hnm
  subst hnm
  replace hb := hide hb
  go_wp2_with fail
  go_ret
  exact ⟨rfl, hb.out⟩

set_option maxRecDepth 100000 in
theorem controlled_calls (p0 p1 : Int) (A2 A3 A4 A5 : Option Addr) (n2 k2 n3 k3 n4 k4 n5 k5 : Nat) (ns : List ByteArray) (lab : ByteArray) (w : World) (lo hi : Nat) (t5 : SlS w lo hi A5 n5 ns) (h5 : n5 ≤ 1048576) (hs : lab.size ≤ 1048576) (he : Env w) (hv : labS lab = true) :
    Calls Tryz.prog 151 #[.agg #[.int .i64 p0, .int .i64 p1, .slice A2 n2 k2, .slice A3 n3 k3, .slice A4 n4 k4, .slice A5 n5 k5], .string lab] w fun e w' => e = .returned (.bool (anyL ns (namS lab))) ∧ Below w.heap.size w w' := by
  have hb0 : Below w.heap.size w (w.alloc (.cells #[.int .i64 p0, .int .i64 p1, .slice A2 n2 k2, .slice A3 n3 k3, .slice A4 n4 k4, .slice A5 n5 k5] 44)) := (Below.refl _ _).alloc (Nat.le_refl _) _
  have k0 := heap_alloc_new w (.cells #[.int .i64 p0, .int .i64 p1, .slice A2 n2 k2, .slice A3 n3 k3, .slice A4 n4 k4, .slice A5 n5 k5] 44)
  have heW := he.below hb0 (Nat.le_refl _)
  have t5W := t5.below hb0 (.inr (Nat.le_refl _))
  have hzw : w.heap.size < (w.alloc (.cells #[.int .i64 p0, .int .i64 p1, .slice A2 n2 k2, .slice A3 n3 k3, .slice A4 n4 k4, .slice A5 n5 k5] 44)).heap.size := by rw [World.size_alloc]; omega
  have hz := hb0.size
  replace hb0 := hide hb0
  clear t5 he
  go_enter Tryz.func151, Tryz.ntmps151
  go_upto_region 1 with fail
  generalize (w.alloc (.cells #[.int .i64 p0, .int .i64 p1, .slice A2 n2 k2, .slice A3 n3 k3, .slice A4 n4 k4, .slice A5 n5 k5] 44)) = W0 at *
  generalize hbm : w.heap.size = bm at *
  have c5 : W0.cell? ⟨bm, 5, none⟩ = some (.slice A5 n5 k5) := (cell_of_row _ _ 5 _ _ (0, 0) k0).trans rfl
  have q := hide (labelName_calls lab W0.drew hs (heW.below (Below.refl W0.heap.size W0).drew (Nat.le_refl _)) hv)
  have k0' := hide k0
  clear k0 heW
  go_cut [4] (fun a wx => a = .bool (anyL ns (namS lab)) ∧ Below W0.heap.size W0 wx)
  case first =>
    go_region_law (first
      | (go_simp; go_at_call 191; (with_reducible refine q.out.mono ?_); rintro e w5 ⟨rfl, hb5⟩; have d5 : w5.cell? ⟨bm, 5, none⟩ = some (.slice A5 n5 k5) := (cell_of_row _ _ 5 _ _ (0, 0) ((hb5.block _ hzw).trans k0'.out)).trans rfl; have q2 := hide (containsS_calls (namS lab) A5 n5 k5 ns w5 lo hi (t5W.below ((Below.refl W0.heap.size W0).drew.trans hb5) (.inr (Nat.le_refl _))) h5))
      | (go_simp; go_at_call 127; (with_reducible refine q2.out.mono ?_); rintro e w6 ⟨rfl, rfl⟩))
    all_goals (go_wp2_with fail; go_meet)
    all_goals exact ⟨rfl, (Below.refl W0.heap.size W0).drew.trans hb5⟩
  case rest =>
  obtain ⟨rfl, hb5⟩ := hcut
  replace hb5 := hide hb5
  go_wp2_with fail
  go_ret
  exact ⟨rfl, by first | exact hb0.out.trans (hb5.out.mono hz) | (rw [hbm]; exact hb0.out.trans (hb5.out.mono hz))⟩

end Go.Proofs.YtiaclddgllkgpaaGreatDoor
