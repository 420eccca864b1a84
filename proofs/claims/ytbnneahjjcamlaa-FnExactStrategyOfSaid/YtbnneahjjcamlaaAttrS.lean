/-
  The reference's helpers on games: whole sets, differences, ends, attractors. Conditions: valid games.
-/
import Derived.Test.YtbnneahjjcamlaaMem
namespace Go.Proofs.Ytbnneahjjcamlaa
open Go.ChangeShapes Go.WideShapes Go.ChangeAt Go.RowKit
set_option linter.unusedVariables false

theorem l23Whole_calls (n : Nat) (w : World) (hn : n ≤ 1048576) :
    Calls Try.prog 81 #[.int .i64 n] w fun e w' => ∃ A' c', e = .returned (.slice A' n c') ∧ SlB w' w.heap.size w'.heap.size A' n (setOf n fun _ => true) ∧ Below w.heap.size w w' := by
  have hmk := run_make_bool n hn
  have hstart := SlB.made w n
  rw [← setK_zero n (fun _ => true)] at hstart
  replace hstart := hide hstart
  go_enter Try.func81, Try.ntmps81
  go_wp2
  go_loopw [4] (fun i wr => ∃ k : Nat, k ≤ n ∧ i = .int .i64 k ∧ SlB wr w.heap.size (w.heap.size + 1) (some ⟨w.heap.size, 0, none⟩) n (setK n k fun _ => true) ∧ Below w.heap.size w wr ∧ w.heap.size < wr.heap.size) (fun i _ => n - (intOf i).toNat)
  case atStart => exact ⟨0, Nat.zero_le _, rfl, hstart.out, (Below.refl _ _).alloc (Nat.le_refl _) _, by simp⟩
  case round =>
    obtain ⟨k, hk, rfl, hs, hb, hz⟩ := hrel
    clear hmk hstart
    by_cases hlt : k < n
    · obtain ⟨c0, z0, -, -, -⟩ := SlB.cell hs hlt
      rw [Nat.zero_add] at c0 z0
      have hnext := hs.put hlt true
      rw [setK_step hlt rfl, Nat.zero_add] at hnext
      replace hnext := hide hnext
      clear hs
      go_wp2
      go_roundw
      case rel => exact ⟨k + 1, by omega, by go_num, hnext.out, hb.setCell (Nat.le_refl _) _, by rw [World.size_setCell]; exact hz⟩
      case measure => simp [intOf]; omega
    · have hkn : k = n := by omega
      subst hkn
      rw [setK_all] at hs
      replace hs := hide hs
      go_wp2
      go_ret
      exact ⟨_, _, rfl, hs.out.more (Nat.le_refl _) hz, hb⟩

set_option maxHeartbeats 800000 in
theorem l23Less_calls (A B : Option Addr) (n c d : Nat) (a b : List Bool) (w : World) (ha : SetAt w A n a) (hb0 : SetAt w B n b) (hn : n ≤ 1048576) :
    Calls Try.prog 84 #[.slice A n c, .slice B n d] w fun e w' => ∃ A' c', e = .returned (.slice A' n c') ∧ SlB w' w.heap.size w'.heap.size A' n (setOf n fun v => inS a v && !inS b v) ∧ Below w.heap.size w w' := by
  have hE := hide elem_bool
  replace ha := hide ha
  replace hb0 := hide hb0
  go_enter Try.func84, Try.ntmps84
  go_wp2
  go_loopw [5, 6] (fun v i wr => ∃ (k : Nat) (A2 : Option Addr) (c2 : Nat), k ≤ n ∧ i = .int .i64 k ∧ v = .slice A2 k c2 ∧ Own 1 bv wr w.heap.size 4 A2 k c2 ((List.range k).map fun v => inS a v && !inS b v) ∧ Below w.heap.size w wr) (fun _ i _ => n - (intOf i).toNat)
  case atStart => exact ⟨0, _, 0, Nat.zero_le _, rfl, rfl, Own.made w _ (Nat.le_refl _), (Below.refl _ _).alloc (Nat.le_refl _) _⟩
  case round =>
    obtain ⟨k, A2, c2, hk, rfl, rfl, hown, hb⟩ := hrel
    replace hown := hide hown
    by_cases hlt : k < n
    · obtain ⟨b1, o1, rfl, -⟩ := SetAt.addr ha.out (by omega)
      obtain ⟨b2, o2, rfl, -⟩ := SetAt.addr hb0.out (by omega)
      have p0 := (ha.out.below hb (Nat.le_refl _)).cell hlt
      have q0 := (hb0.out.below hb (Nat.le_refl _)).cell hlt
      have hz := hb.size
      have hst := range_map_step (fun v => inS a v && !inS b v) k
      clear ha hb0
      by_cases z1 : inS a k = true
      · rw [z1] at p0
        rw [z1, Bool.true_and] at hst
        by_cases z2 : inS b k = true
        · rw [z2] at q0 hst
          replace hst := hide hst
          clear z1 z2
          have hza : w.heap.size ≤ (wr.alloc (.cells #[.bool false] 4)).heap.size := by simp; omega
          go_wp2_with (first | (at_builtin; (with_reducible refine wpList_app rfl (.tmp 14) (.tmp 26) rfl hE.out flat_bv rfl (hown.out.alloc _) rfl (Sl.lit1' wr 4 false _ rfl 1 _ ?c0) ?c1 hza ?_); rotate_right; intro A5 c5 w5 hown5 hgr5 hb5 _))
          case c0 => rfl
          case c1 => omega
          go_roundw
          case rel => exact ⟨k + 1, A5, c5, by omega, by go_num, rfl, by rw [hst.out]; exact hown5, (hb.alloc hz _).trans hb5⟩
          case measure => simp [intOf]; omega
        · replace z2 := Bool.eq_false_iff.2 z2
          rw [z2] at q0 hst
          replace hst := hide hst
          clear z1 z2
          have hza : w.heap.size ≤ (wr.alloc (.cells #[.bool true] 4)).heap.size := by simp; omega
          go_wp2_with (first | (at_builtin; (with_reducible refine wpList_app rfl (.tmp 14) (.tmp 26) rfl hE.out flat_bv rfl (hown.out.alloc _) rfl (Sl.lit1' wr 4 true _ rfl 1 _ ?c0) ?c1 hza ?_); rotate_right; intro A5 c5 w5 hown5 hgr5 hb5 _))
          case c0 => rfl
          case c1 => omega
          go_roundw
          case rel => exact ⟨k + 1, A5, c5, by omega, by go_num, rfl, by rw [hst.out]; exact hown5, (hb.alloc hz _).trans hb5⟩
          case measure => simp [intOf]; omega
      · replace z1 := Bool.eq_false_iff.2 z1
        rw [z1] at p0
        rw [z1, Bool.false_and] at hst
        replace hst := hide hst
        clear z1 q0
        have hza : w.heap.size ≤ (wr.alloc (.cells #[.bool false] 4)).heap.size := by simp; omega
        go_wp2_with (first | (at_builtin; (with_reducible refine wpList_app rfl (.tmp 14) (.tmp 26) rfl hE.out flat_bv rfl (hown.out.alloc _) rfl (Sl.lit1' wr 4 false _ rfl 1 _ ?c0) ?c1 hza ?_); rotate_right; intro A5 c5 w5 hown5 hgr5 hb5 _))
        case c0 => rfl
        case c1 => omega
        go_roundw
        case rel => exact ⟨k + 1, A5, c5, by omega, by go_num, rfl, by rw [hst.out]; exact hown5, (hb.alloc hz _).trans hb5⟩
        case measure => simp [intOf]; omega
    · have hkn : k = n := by omega
      subst hkn
      clear ha hb0
      go_wp2
      go_ret
      exact ⟨_, _, rfl, hown.out.sl flat_bv, hb⟩

set_option maxHeartbeats 1600000 in
theorem l23Ends_calls (A B : Option Addr) (n c d : Nat) (g : DV) (alive : List Bool) (player : Int) (w : World) (hg : GameAt w A n g) (ok : GameOk g) (ha : SetAt w B n alive) :
    Calls Try.prog 83 #[.slice A n c, .slice B n d, .int .i64 player] w fun e w' => ∃ A' c', e = .returned (.slice A' n c') ∧ SlB w' w.heap.size w'.heap.size A' n (setOf n fun v => inS alive v && decide (gOwn g v = player) && (gNxt g v).isEmpty) ∧ Below w.heap.size w w' := by
  have hgl := hg.len
  have hn : 0 < n ∧ n ≤ 120 := by have := ok.1; omega
  obtain ⟨hn0, hn1⟩ := hn
  have hmk := run_make_bool n (by omega)
  have hstart := SlB.made w n
  rw [← setK_zero n (fun v => inS alive v && decide (gOwn g v = player) && (gNxt g v).isEmpty)] at hstart
  replace hstart := hide hstart
  obtain ⟨b1, o1, rfl, hb1⟩ := hg.addr hn0
  obtain ⟨b2, o2, rfl, hb2⟩ := ha.addr hn0
  replace hg := hide hg
  replace ha := hide ha
  replace hgl := hide hgl
  replace ok := hide ok
  go_enter Try.func83, Try.ntmps83
  go_wp2
  go_loopw [8] (fun i wr => ∃ k : Nat, k ≤ n ∧ i = .int .i64 k ∧ SlB wr w.heap.size (w.heap.size + 1) (some ⟨w.heap.size, 0, none⟩) n (setK n k fun v => inS alive v && decide (gOwn g v = player) && (gNxt g v).isEmpty) ∧ Below w.heap.size w wr ∧ w.heap.size < wr.heap.size) (fun i _ => n - (intOf i).toNat)
  case atStart => exact ⟨0, Nat.zero_le _, rfl, hstart.out, (Below.refl _ _).alloc (Nat.le_refl _) _, by simp⟩
  case round =>
    obtain ⟨k, hk, rfl, hs, hb, hz⟩ := hrel
    clear hmk hstart
    by_cases hlt : k < n
    · obtain ⟨s0, z0, -, -, -⟩ := SlB.cell hs hlt
      rw [Nat.zero_add] at s0 z0
      obtain ⟨o, p, l, Ah, nh, ch, hx, c0, c1, c2, hl, -, -, -, -⟩ := (hg.out.below hb (Nat.le_refl _)).cell ok.out hlt
      have a0 := (ha.out.below hb (Nat.le_refl _)).cell hlt
      have hnext := fun v (hv : v = (inS alive k && decide (gOwn g k = player) && (gNxt g k).isEmpty)) => setK_step (p := fun v => inS alive v && decide (gOwn g v = player) && (gNxt g v).isEmpty) hlt hv
      have hput := fun v => hs.put hlt v
      rw [gOwn_at hx, gNxt_at hx] at hnext
      have hll : (l.map Int.toNat).isEmpty = decide (nh = 0) := by
        have := hl.len
        cases l <;> simp at this ⊢ <;> omega
      rw [hll] at hnext
      clear hl hx hll
      have hfin : ∀ v, v = (inS alive k && decide (o = player) && decide (nh = 0)) → SlB (wr.setCell ⟨w.heap.size, k, none⟩ (.bool v)) w.heap.size (w.heap.size + 1) (some ⟨w.heap.size, 0, none⟩) n (setK n (k + 1) fun v => inS alive v && decide (gOwn g v = player) && (gNxt g v).isEmpty) := fun v hv => by
        have := hput v
        rwa [hnext v hv, Nat.zero_add] at this
      replace hfin := hide hfin
      clear hput hnext hs hg ha
      by_cases z1 : inS alive k = true
      · rw [z1] at a0 hfin
        by_cases z2 : o = player
        · have e2 : (o == player) = true := by simpa using z2
          by_cases z3 : nh = 0
          · have e3 : ((nh : Int) == 0) = true := by simpa using z3
            have hf := hide (hfin.out true (by simp [z2, z3]))
            clear z1 z2 z3 hfin
            go_wp2
            go_roundw
            case rel => exact ⟨k + 1, by omega, by go_num, hf.out, hb.setCell (Nat.le_refl _) _, by rw [World.size_setCell]; exact hz⟩
            case measure => simp [intOf]; omega
          · have e3 : ((nh : Int) == 0) = false := by rw [beq_eq_false_iff_ne]; omega
            have hf := hide (hfin.out false (by simp [z3]))
            clear z1 z2 z3 hfin
            go_wp2
            go_roundw
            case rel => exact ⟨k + 1, by omega, by go_num, hf.out, hb.setCell (Nat.le_refl _) _, by rw [World.size_setCell]; exact hz⟩
            case measure => simp [intOf]; omega
        · have e2 : (o == player) = false := by simpa using z2
          have hf := hide (hfin.out false (by simp [z2]))
          clear z1 z2 hfin
          go_wp2
          go_roundw
          case rel => exact ⟨k + 1, by omega, by go_num, hf.out, hb.setCell (Nat.le_refl _) _, by rw [World.size_setCell]; exact hz⟩
          case measure => simp [intOf]; omega
      · replace z1 := Bool.eq_false_iff.2 z1
        rw [z1] at a0 hfin
        have hf := hide (hfin.out false (by simp))
        clear z1 hfin
        go_wp2
        go_roundw
        case rel => exact ⟨k + 1, by omega, by go_num, hf.out, hb.setCell (Nat.le_refl _) _, by rw [World.size_setCell]; exact hz⟩
        case measure => simp [intOf]; omega
    · have hkn : k = n := by omega
      subst hkn
      rw [setK_all] at hs
      replace hs := hide hs
      go_wp2
      go_ret
      exact ⟨_, _, rfl, hs.out.more (Nat.le_refl _) hz, hb⟩

end Go.Proofs.Ytbnneahjjcamlaa
