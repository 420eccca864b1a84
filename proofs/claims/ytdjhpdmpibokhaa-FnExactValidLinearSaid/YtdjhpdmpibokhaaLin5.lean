/-
  Linear processes as arguments of a law: copies and comparisons of rows of summands and of linear processes, and the opening. Conditions: at most 1048576 elements.
-/
import Derived.Test.YtdjhpdmpibokhaaLin4
namespace Go.Proofs.Ytdjhpdmpibokhaa
open Go.ChangeShapes Go.WideShapes Go.ChangeAt Go.RowKit Go.Deep
set_option linter.unusedVariables false

theorem info_impSu : (Try.prog.info? 103).map (fun i => (i.zero, i.size, i.bytes)) = some (some (.agg #[.slice none 0 0, .slice none 0 0, .string { data := #[] }, .slice none 0 0, .slice none 0 0]), 5, 112) := by kernel_rfl

theorem mem_tot {d : List DSu} {x : DSu} (h : x ∈ d) : totSu x ≤ totSuS d := by
  unfold totSuS
  have : totSu x ≤ (d.map totSu).sum := by
    induction d with
    | nil => cases h
    | cons y d ih =>
      rw [List.map_cons, List.sum_cons]
      rcases List.mem_cons.1 h with rfl | h
      · omega
      · have := ih h
        omega
  omega

set_option maxHeartbeats 1600000 in
set_option maxRecDepth 100000 in
theorem toSummandS_a {v : Value} {d : List DSu} {w : World} {lo hi : Nat} (h : ArgSuS w lo hi v d) (ht : totSuS d ≤ 1048576) :
    Calls Try.prog 87 #[v] w fun e w' => ∃ v', e = .returned v' ∧ ArgSuS w' w.heap.size w'.heap.size v' d ∧ Below w.heap.size w w' := by
  obtain ⟨A, n, c, R, rfl, hn0, hR, rfl⟩ := h
  have hlen := hide hR.len
  have hn : n ≤ 1048576 := by unfold totSuS at ht; rw [List.length_map, hlen.out] at ht; omega
  obtain ⟨i0, hi0, hz0, hz1, hz2⟩ := info_parts info_impSu
  have hmk := fun W => make_row (P := Try.prog) 64 103 i0 _ _ n Try.underlying64 hi0 hz0 hz1 (by rw [hz2]; omega) (by omega) W
  clear hi0 hz0 hz1 hz2
  replace ht := hide ht
  replace hR := hide hR
  go_enter Try.func87, Try.ntmps87
  go_wp2
  go_loopw [4] (fun i wr => ∃ k : Nat, k ≤ n ∧ i = .int .i64 k ∧ Below w.heap.size w wr ∧ ∃ R', RowF ReadSu 5 cellsSu wr w.heap.size 103 n k R' ∧ R'.map (·.2) = (R.map (·.2)).take k) (fun i _ => n - (intOf i).toNat)
  case atStart => exact ⟨0, Nat.zero_le _, rfl, (Below.refl _ _).alloc (Nat.le_refl _) _, [], RowF.start _ _ _ _ (by simp [madeCells]), rfl⟩
  case round =>
    obtain ⟨k, hk, rfl, hb, R', hf, he⟩ := hrel
    clear hmk
    replace hf := hide hf
    replace he := hide he
    by_cases hlt : k < n
    · obtain ⟨b, off, v0, v1, nm, v3, v4, d, rfl, g1, g2, g3, hx, c0, c1, c2, c3, c4, hs⟩ := (hR.out.below lawsSu hb (.inr (Nat.le_refl _))).getSu hlt
      have hx2 := hide (show (R.map (·.2))[k]? = some d by rw [List.getElem?_map, hx]; rfl)
      have hq := toSummand_a hs (Nat.le_trans (mem_tot (List.mem_of_getElem? hx2.out)) ht.out)
      dsimp only at hq
      replace hq := hide hq
      have hlen2 := hide hf.out.len
      have hzB := hf.out.fill.lt
      clear hx hs hR ht
      go_wp2_with (first | (go_at_call 112; (with_reducible refine hq.out.mono ?_); rintro e w1 ⟨⟨u0, u1, um, u3, u4⟩, rfl, hs1, hb1⟩; have hf1 := hf.out.fill.keep (hb1.block _ hzB); obtain ⟨A0, n0, c0', eq0⟩ := hs1.1.shape; obtain ⟨A1, n1, c1', eq1⟩ := hs1.2.1.shape; obtain ⟨A3, n3, c3', eq3⟩ := hs1.2.2.2.1.shape; obtain ⟨A4, n4, c4', eq4⟩ := hs1.2.2.2.2.shape; dsimp only at eq0 eq1 eq3 eq4; subst eq0 eq1 eq3 eq4; obtain ⟨x0, y0⟩ := hf1.cell (i := k * 5) (by omega); obtain ⟨x1, y1⟩ := hf1.cell (i := k * 5 + 1) (by omega); obtain ⟨x2, y2⟩ := hf1.cell (i := k * 5 + 2) (by omega); obtain ⟨x3, y3⟩ := hf1.cell (i := k * 5 + 3) (by omega); obtain ⟨x4, y4⟩ := hf1.cell (i := k * 5 + 4) (by omega); have z0 := hf1.frozen (k * 5); have z1 := hf1.frozen (k * 5 + 1); have z2 := hf1.frozen (k * 5 + 2); have z3 := hf1.frozen (k * 5 + 3); have z4 := hf1.frozen (k * 5 + 4); replace hf1 := hide hf1; replace hs1 := hide hs1))
      go_roundw
      case rel =>
        have hpush := hf.out.push lawsSu hb1 hs1.out (putCells_only w.heap.size (cellsSu (.slice A0 n0 c0', .slice A1 n1 c1', um, .slice A3 n3 c3', .slice A4 n4 c4')) w1 (k * 5)) ((hf1.out.of_take ?ht1).putN hlt (fun _ => rfl) (x := (.slice A0 n0 c0', .slice A1 n1 c1', um, .slice A3 n3 c3', .slice A4 n4 c4')) ?ht2)
        · simp only [putCells, cellsSu, Nat.add_assoc, Nat.reduceAdd] at hpush
          refine ⟨k + 1, by omega, by go_num, ?_, R' ++ [((.slice A0 n0 c0', .slice A1 n1 c1', um, .slice A3 n3 c3', .slice A4 n4 c4'), d)], hpush, ?_⟩
          · exact (((((hb.trans (hb1.mono hb.size)).setCell (Nat.le_refl _) _).setCell (Nat.le_refl _) _).setCell (Nat.le_refl _) _).setCell (Nat.le_refl _) _).setCell (Nat.le_refl _) _
          · rw [List.map_append, he.out, List.take_add_one, hx2.out]; rfl
        case ht1 => rw [List.take_append_of_le_length (by rw [List.length_map, hlen2.out]; exact Nat.le_refl _)]
        case ht2 => rw [List.getElem?_append_right (by rw [List.length_map, hlen2.out]; exact Nat.le_refl _), List.length_map, hlen2.out]; simp
      case measure => simp [intOf]; omega
    · have : k = n := by omega
      subst this
      clear hR
      go_wp2
      go_ret
      exact ⟨_, rfl, ⟨_, k, k, R', rfl, hn0, hf.out.done lawsSu, by rw [he.out, List.take_of_length_le (by rw [List.length_map, hlen.out]; exact Nat.le_refl _)]⟩, hb⟩

end Go.Proofs.Ytdjhpdmpibokhaa
