/-
  Arenas: without some vertices. Conditions: valid games.
-/
import Derived.Test.YtbnneahjjcamlaaArena
import Derived.StillTailTactics
namespace Go.Proofs.Ytbnneahjjcamlaa
open Go.ChangeShapes Go.WideShapes Go.ChangeAt Go.RowKit
set_option linter.unusedVariables false

set_option maxHeartbeats 1600000 in
set_option maxRecDepth 100000 in
theorem without_calls (b : Nat) (g : DV) (alive gone : List Bool) (C : Option Addr) (d : Nat) (w : World) (h : ArenaAt w b g alive) (ok : GameOk g) (hg2 : SetAt w C g.length gone) :
    Calls Try.prog 96 #[.pointer (some ⟨b, 0, none⟩), .slice C g.length d] w fun e w' => ∃ b', e = .returned (.pointer (some ⟨b', 0, none⟩)) ∧ ArenaAt w' b' g (setOf g.length fun v => inS alive v && !inS gone v) ∧ Below w.heap.size w w' := by
  obtain ⟨b1, o1, cg, b2, o2, cb, b3, o3, ci, Q, c0, c1, c2, hg, hbk, hbo, ha, hbl, hn0, hn1⟩ := h.open_ ok
  have hal := hide ha.len
  obtain ⟨b4, o4, rfl, -⟩ := hg2.addr hn0
  have q := hide (cloneB_calls (some ⟨b3, o3, none⟩) g.length ci alive w.drew 0 _ ha.sl (by omega))
  replace hg2 := hide hg2
  replace ha := hide ha
  replace hg := hide hg
  replace hbk := hide hbk
  replace hbo := hide hbo
  clear h ok
  generalize hgl : g.length = n at *
  replace hgl := hide hgl
  go_enter Try.func96, Try.ntmps96
  go_wp2
  go_region_held3 (fun w' => w'.cell? ⟨b, 0, none⟩ = some (.slice (some ⟨b1, o1, none⟩) n cg) ∧ w'.cell? ⟨b, 1, none⟩ = some (.slice (some ⟨b2, o2, none⟩) n cb) ∧ w'.cell? ⟨b, 2, none⟩ = some (.slice (some ⟨b3, o3, none⟩) n ci)) (first | exact ⟨k0, k1, k2⟩ | go_keep)
    (first | (go_at_call 126; (refine q.out.mono ?_); rintro e w1 ⟨A1, k, rfl, hs1, hb1⟩; have k0 := (hb1.cell (p := ⟨b, 0, none⟩) hbl).trans c0; have k1 := (hb1.cell (p := ⟨b, 1, none⟩) hbl).trans c1; have k2 := (hb1.cell (p := ⟨b, 2, none⟩) hbl).trans c2; replace hs1 := hide hs1))
  have hs1' := hs1.out
  obtain ⟨bi, oi, rfl, hi1, hi2, hi3, -⟩ := hs1'.at_ hn0
  have bel1 : Below w.heap.size w w1 := (Below.refl _ _).drew.trans hb1
  have hz1 : w.heap.size ≤ w1.heap.size := bel1.size
  have bel2 := bel1.alloc hz1 (.cells #[.slice (some ⟨b1, o1, none⟩) n cg, .slice (some ⟨b2, o2, none⟩) n cb, .slice (some ⟨bi, oi, none⟩) n k] 140)
  have hblk := heap_alloc_new w1 (.cells #[.slice (some ⟨b1, o1, none⟩) n cg, .slice (some ⟨b2, o2, none⟩) n cb, .slice (some ⟨bi, oi, none⟩) n k] 140)
  have hs2 := (Sl.below hs1' ((Below.refl w1.heap.size w1).alloc (Nat.le_refl _) (.cells #[.slice (some ⟨b1, o1, none⟩) n cg, .slice (some ⟨b2, o2, none⟩) n cb, .slice (some ⟨bi, oi, none⟩) n k] 140)) (.inr (Nat.le_refl _))).tight' hn0
  have hz2 : w1.heap.size < (w1.alloc (.cells #[.slice (some ⟨b1, o1, none⟩) n cg, .slice (some ⟨b2, o2, none⟩) n cb, .slice (some ⟨bi, oi, none⟩) n k] 140)).heap.size := by simp
  generalize hW2 : (w1.alloc (.cells #[.slice (some ⟨b1, o1, none⟩) n cg, .slice (some ⟨b2, o2, none⟩) n cb, .slice (some ⟨bi, oi, none⟩) n k] 140)) = W2 at *
  have hi1 : w.heap.size ≤ bi := hi1
  replace hblk := hide hblk
  replace hs2 := hide hs2
  replace bel2 := hide bel2
  clear hs1' hs1 hb1 k0 k1 k2 hi3
  go_wp2_with fail
  try rw [hW2]
  clear hW2
  generalize w1.heap.size = B at *
  go_loopw [25] (fun i wr => ∃ j : Nat, j ≤ n ∧ i = .int .i64 j ∧ SlB wr bi (bi + 1) (some ⟨bi, oi, none⟩) n (setM alive j fun v => inS alive v && !inS gone v) ∧ Only bi (bi + 1) W2 wr) (fun i _ => n - (intOf i).toNat)
  case atStart => exact ⟨0, Nat.zero_le _, rfl, by rw [setM_zero]; exact hs2.out, Only.refl _ _ _⟩
  case round =>
    obtain ⟨j, hj, rfl, hs, ho⟩ := hrel
    clear hs2
    have hbW := Only.below bel2.out ho hi1 bel2.out.size
    have hblkr := (ho.block B hz2 (.inr (by omega))).trans hblk.out
    by_cases hlt : j < n
    · have y0 := (cell_of_row _ _ 0 _ _ (0, 0) hblkr).trans rfl
      have y1 := (cell_of_row _ _ 1 _ _ (0, 0) hblkr).trans rfl
      have y2 := (cell_of_row _ _ 2 _ _ (0, 0) hblkr).trans rfl
      obtain ⟨s0, z0, -, -, -⟩ := SlB.cell hs hlt
      rw [inS_setM (by rw [hal.out]; exact hlt)] at s0
      have g0 := (hg2.out.below hbW (Nat.le_refl _)).cell hlt
      have hput : ∀ v, v = (inS alive j && !inS gone j) → SlB (wr.setCell ⟨bi, oi + j, none⟩ (.bool v)) bi (bi + 1) (some ⟨bi, oi, none⟩) n (setM alive (j + 1) fun v => inS alive v && !inS gone v) := fun v hv => by
        have := hs.put hlt v
        rwa [setM_step (by rw [hal.out]; exact hlt) hv] at this
      replace hput := hide hput
      have hi0 : (0 : Int) ≤ (j : Int) := by omega
      have hi9 : (j : Int) < (n : Int) := by omega
      clear hs hblkr hg2 c0 c1 c2
      by_cases z1 : inS alive j = true
      · rw [z1] at s0
        have hnext := hide (hput.out (!inS gone j) (by rw [z1]; rfl))
        clear z1 hput
        generalize inS gone j = gj at *
        go_wp2
        go_still_tail 17, (by kernel_rfl)
        change wpList _ _ _ _ _ wr.drew
        go_wp2
        go_roundw
        case rel => exact ⟨j + 1, by omega, by go_num, hnext.out.drewN 1, (ho.setCell (p := ⟨bi, oi + j, none⟩) (Nat.le_refl _) (Nat.lt_succ_self _) _).drewN 1⟩
        case measure => simp [intOf]; omega
      · replace z1 := Bool.eq_false_iff.2 z1
        rw [z1] at s0
        have hnext := hide (hput.out false (by rw [z1]; rfl))
        clear z1 hput
        generalize inS gone j = gj at *
        go_wp2
        go_still_tail 17, (by kernel_rfl)
        change wpList _ _ _ _ _ wr.drew
        go_wp2
        go_roundw
        case rel => exact ⟨j + 1, by omega, by go_num, hnext.out.drewN 1, (ho.setCell (p := ⟨bi, oi + j, none⟩) (Nat.le_refl _) (Nat.lt_succ_self _) _).drewN 1⟩
        case measure => simp [intOf]; omega
    · have hjn : j = n := by omega
      subst hjn
      rw [setM_all _ hal.out] at hs
      replace hs := hide hs
      replace hblkr := hide hblkr
      replace hbW := hide hbW
      clear c0 c1 c2
      go_wp2
      go_ret
      refine ⟨B, rfl, ⟨some ⟨b1, o1, none⟩, cg, some ⟨b2, o2, none⟩, cb, some ⟨bi, oi, none⟩, k, Q, ?_, ?_, ?_, hbo.out, ?_⟩, hbW.out⟩
      · rw [hgl.out]; exact hblkr.out
      · rw [hgl.out]; exact hg.out.below hbW.out (Nat.le_refl _)
      · rw [hgl.out]; exact (hbk.out.below hbW.out (.inl (Nat.le_refl _))).more (Nat.le_refl _) hbW.out.size
      · rw [hgl.out]; exact SlB.at_set hs.out

end Go.Proofs.Ytbnneahjjcamlaa
