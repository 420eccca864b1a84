/-
  Validity of games: ValidGame by the program and by the reference. Conditions: at most 1048576 vertices.
-/
import Derived.Test.YtbnneahjjcamlaaFuncsV
import Derived.Test.YtbnneahjjcamlaaValid
namespace Go.Proofs.Ytbnneahjjcamlaa
open Go.ChangeShapes Go.WideShapes Go.ChangeAt Go.RowKit
set_option linter.unusedVariables false

set_option maxRecDepth 100000 in
theorem validGame1_calls (o p : Int) (Ah : Option Addr) (nh ch : Nat) (s : List Int) (bg : Nat) (Ag : Option Addr) (m cg : Nat) (W : World) (lo hi : Nat) (h : SlI W lo hi Ah nh s) (hn : nh ≤ 1048576) (hm : m ≤ 1048576)
    (hc : W.cell? ⟨bg, 0, none⟩ = some (.slice Ag m cg)) (hbg : bg < W.heap.size) :
    Calls Try.prog 90 #[.agg #[.int .i64 o, .int .i64 p, .slice Ah nh ch], .pointer (some ⟨bg, 0, none⟩)] W (Says (!decide (VxOk m (o, p, s))) W) := by
  have hb0 := hide ((Below.refl W.heap.size W).alloc (Nat.le_refl _) (.cells #[.int .i64 o, .int .i64 p, .slice Ah nh ch] 66))
  have q := hide (increasing_calls Ah nh ch s m hm (W.alloc (.cells #[.int .i64 o, .int .i64 p, .slice Ah nh ch] 66)) lo hi (h.below hb0.out (.inr (Nat.le_refl _))) (by unfold maxLen; omega))
  have hv := vx_eq m (o, p, s)
  dsimp only at hv
  clear h
  by_cases z0 : inB o 0 1 = true
  · by_cases z1 : inB p 0 9 = true
    · rw [z0, z1] at hv
      simp only [Bool.true_and] at hv
      by_cases z2 : decide (Inc m s) = true
      · rw [z2] at hv
        replace hv := hide hv
        go_enter Try.func90, Try.ntmps90
        go_wp2_with (first | (go_at_call 88; (with_reducible refine (within_calls _ _ _ _).mono ?_); rintro e w' ⟨rfl, rfl⟩) | (go_at_call 70; (with_reducible refine q.out.mono ?_); rintro e w' ⟨rfl, rfl⟩))
        go_ret
        exact ⟨ret_b (by rw [hv.out]; rfl), hb0.out⟩
      · replace z2 := Bool.eq_false_iff.2 z2
        rw [z2] at hv
        replace hv := hide hv
        go_enter Try.func90, Try.ntmps90
        go_wp2_with (first | (go_at_call 88; (with_reducible refine (within_calls _ _ _ _).mono ?_); rintro e w' ⟨rfl, rfl⟩) | (go_at_call 70; (with_reducible refine q.out.mono ?_); rintro e w' ⟨rfl, rfl⟩))
        go_ret
        exact ⟨ret_b (by rw [hv.out]; rfl), hb0.out⟩
    · replace z1 := Bool.eq_false_iff.2 z1
      rw [z0, z1] at hv
      replace hv := hide hv
      go_enter Try.func90, Try.ntmps90
      go_wp2_with (first | (go_at_call 88; (with_reducible refine (within_calls _ _ _ _).mono ?_); rintro e w' ⟨rfl, rfl⟩))
      go_ret
      exact ⟨ret_b (by rw [hv.out]; rfl), hb0.out⟩
  · replace z0 := Bool.eq_false_iff.2 z0
    rw [z0] at hv
    replace hv := hide hv
    go_enter Try.func90, Try.ntmps90
    go_wp2_with (first | (go_at_call 88; (with_reducible refine (within_calls _ _ _ _).mono ?_); rintro e w' ⟨rfl, rfl⟩))
    go_ret
    exact ⟨ret_b (by rw [hv.out]; rfl), hb0.out⟩

theorem game_any {g : DV} (hl : 1 ≤ g.length ∧ g.length ≤ 120) : decide (GameOk g) = !(g.any fun x => !decide (VxOk g.length x)) := by
  by_cases h : ∀ x, x ∈ g → VxOk g.length x
  · have h1 : (g.any fun x => !decide (VxOk g.length x)) = false := List.any_eq_false.2 fun x hx => by simp [h x hx]
    rw [decide_eq_true (show GameOk g from ⟨hl, h⟩), h1]
    rfl
  · have h1 : (g.any fun x => !decide (VxOk g.length x)) = true := by
      rw [List.any_eq_true]
      exact Classical.byContradiction fun hn => h fun x hx => Classical.byContradiction fun hv => hn ⟨x, hx, by simp [hv]⟩
    rw [decide_eq_false (fun hg : GameOk g => h hg.2), h1]
    rfl

set_option maxRecDepth 100000 in
theorem validGame_calls (A : Option Addr) (n c : Nat) (R : List (CV × List Int)) (w : World) (lo hi : Nat) (h : RowsV 1048576 w lo hi A n R) (hn : n ≤ 1048576) :
    Calls Try.prog 43 #[.slice A n c] w (Says (decide (GameOk (R.map dV))) w) := by
  have hb0 := hide ((Below.refl w.heap.size w).alloc (Nat.le_refl _) (.cells #[.slice A n c] 27))
  have hlen : (R.map dV).length = n := by rw [List.length_map, h.len]
  by_cases hr : 1 ≤ n ∧ n ≤ 120
  · have hin : inB (n : Int) 1 120 = true := inB_true.2 (by omega)
    have hv := game_any (g := R.map dV) (by rw [hlen]; exact hr)
    rw [hlen] at hv
    have hcell := fun (W : World) (hW : Below (w.heap.size + 1) (w.alloc (.cells #[.slice A n c] 27)) W) => (hW.cell (p := ⟨w.heap.size, 0, none⟩) (by show w.heap.size < _; omega)).trans (show (w.alloc (.cells #[.slice A n c] 27)).cell? ⟨w.heap.size, 0, none⟩ = some (.slice A n c) from (cell_of_row _ _ 0 _ _ (0, 0) (heap_alloc_new w _)).trans rfl)
    have q := containsFuncV_calls 90 #[.pointer (some ⟨w.heap.size, 0, none⟩)] (fun x => !decide (VxOk n x)) A n c R (w.alloc (.cells #[.slice A n c] 27)) lo hi (h.below hb0.out (.inr (Nat.le_refl _))) hn (fun v W => by kernel_rfl)
      (fun x y Ah nh ch s W hW hs hnh => validGame1_calls x y Ah nh ch s w.heap.size A n c W lo hi hs hnh hn (hcell W (by simpa using hW)) (by have := hW.size; simp at this; omega))
    rw [hlen] at *
    replace q := hide q
    replace hv := hide hv
    clear h hcell hr
    go_enter Try.func43, Try.ntmps43
    go_wp2_with (first | (go_at_call 88; (with_reducible refine (within_calls _ _ _ _).mono ?_); rintro e w' ⟨rfl, rfl⟩) | (go_at_call 89; refine q.out.mono ?_; rintro e w1 ⟨rfl, hb1⟩))
    go_ret
    exact ⟨ret_b (by rw [hv.out, List.any_map]), hb0.out.trans (hb1.mono hb0.out.size)⟩
  · have hin : inB (n : Int) 1 120 = false := inB_false.2 (by omega)
    have hv : Hid (decide (GameOk (R.map dV)) = false) := decide_eq_false fun hg => hr (by have := hg.1; rwa [hlen] at this)
    clear h hr hlen
    go_enter Try.func43, Try.ntmps43
    go_wp2_with (first | (go_at_call 88; (with_reducible refine (within_calls _ _ _ _).mono ?_); rintro e w' ⟨rfl, rfl⟩))
    go_ret
    exact ⟨ret_b (by rw [hv.out]), hb0.out⟩

set_option maxHeartbeats 1600000 in
set_option maxRecDepth 100000 in
theorem l23Is_calls (A : Option Addr) (n c : Nat) (R : List (CV × List Int)) (w : World) (lo hi : Nat) (h : RowsV 1048576 w lo hi A n R) (hn : n ≤ 1048576) :
    Calls Try.prog 40 #[.slice A n c] w fun e w' => e = .returned (.bool (decide (GameOk (R.map dV)))) ∧ ∃ N, w' = w.drewN N := by
  have hlen : (R.map dV).length = n := by rw [List.length_map, h.len]
  by_cases h0 : n = 0
  · have hv : Hid (decide (GameOk (R.map dV)) = false) := decide_eq_false fun hg => by have := hg.1.1; omega
    have e0 : ((n : Int) == 0) = true := by simp [h0]
    clear h hlen h0
    go_enter Try.func40, Try.ntmps40
    go_wp2
    go_ret
    exact ⟨ret_b (by rw [hv.out]), 0, rfl⟩
  have e0 : ((n : Int) == 0) = false := by rw [beq_eq_false_iff_ne]; omega
  by_cases h1 : 120 < n
  · have hv : Hid (decide (GameOk (R.map dV)) = false) := decide_eq_false fun hg => by have := hg.1.2; omega
    have e1 : (120 : Int) < (n : Int) := by omega
    clear h hlen h0 h1
    go_enter Try.func40, Try.ntmps40
    go_wp2
    go_ret
    exact ⟨ret_b (by rw [hv.out]), 0, rfl⟩
  have e1 : ¬ (120 : Int) < (n : Int) := by omega
  replace h := hide h
  have hgame := game_any (g := R.map dV) (by rw [hlen]; omega)
  rw [hlen] at hgame
  replace hgame := hide hgame
  replace hlen := hide hlen
  clear h0 h1
  go_enter Try.func40, Try.ntmps40
  go_wp2
  go_loopw [3] (fun i wr => ∃ k : Nat, k ≤ n ∧ i = .int .i64 k ∧ (∃ N, wr = w.drewN N) ∧ Hid (((R.map dV).take k).any (fun x => !decide (VxOk n x)) = false)) (fun i _ => n - (intOf i).toNat)
  case atStart => exact ⟨0, Nat.zero_le _, rfl, ⟨0, rfl⟩, rfl⟩
  case round =>
    obtain ⟨k, hk, rfl, ⟨N, rfl⟩, ha⟩ := hrel
    by_cases hlt : k < n
    · obtain ⟨b, off, o, p, Ah, nh, ch, s, rfl, g1, g2, g3, hx, c0, c1, c2, -, -, hs, hnh⟩ := h.out.atV hlt
      have hx2 := hide (show (R.map dV)[k]? = some (o, p, s) by rw [List.getElem?_map, hx]; rfl)
      have q := hide (rises_calls Ah nh ch s n hn (w.drewN N) lo hi (hs.drewN N) (by unfold maxLen; omega))
      have hv := vx_eq n (o, p, s)
      dsimp only at hv
      clear h hx hs
      by_cases z0 : inB o 0 1 = true
      · by_cases z1 : inB p 0 9 = true
        · rw [z0, z1] at hv
          simp only [Bool.true_and] at hv
          by_cases z2 : decide (Inc n s) = true
          · rw [z2] at hv
            have hy := hide (any_take_succ ha.out hx2.out (G := fun x => !decide (VxOk n x)) (by rw [hv]; rfl))
            clear hv
            go_wp2_with (first | (go_at_call 79; (with_reducible refine (l00In_calls _ _ _ _).mono ?_); rintro e w' ⟨rfl, rfl⟩) | (go_at_call 80; (with_reducible refine q.out.mono ?_); rintro e w' ⟨rfl, N2, rfl⟩))
            go_roundw
            case rel => exact ⟨k + 1, by omega, by go_num, ⟨_, rfl⟩, hy⟩
            case measure => simp [intOf]; omega
          · replace z2 := Bool.eq_false_iff.2 z2
            rw [z2] at hv
            have hy := hide (any_hit hx2.out (G := fun x => !decide (VxOk n x)) (by rw [hv]; rfl))
            clear hv
            go_wp2_with (first | (go_at_call 79; (with_reducible refine (l00In_calls _ _ _ _).mono ?_); rintro e w' ⟨rfl, rfl⟩) | (go_at_call 80; (with_reducible refine q.out.mono ?_); rintro e w' ⟨rfl, N2, rfl⟩))
            go_ret
            exact ⟨ret_b (by rw [hgame.out, hy.out]; rfl), _, rfl⟩
        · replace z1 := Bool.eq_false_iff.2 z1
          rw [z0, z1] at hv
          have hy := hide (any_hit hx2.out (G := fun x => !decide (VxOk n x)) (by rw [hv]; rfl))
          clear hv
          go_wp2_with (first | (go_at_call 79; (with_reducible refine (l00In_calls _ _ _ _).mono ?_); rintro e w' ⟨rfl, rfl⟩))
          go_ret
          exact ⟨ret_b (by rw [hgame.out, hy.out]; rfl), _, rfl⟩
      · replace z0 := Bool.eq_false_iff.2 z0
        rw [z0] at hv
        have hy := hide (any_hit hx2.out (G := fun x => !decide (VxOk n x)) (by rw [hv]; rfl))
        clear hv
        go_wp2_with (first | (go_at_call 79; (with_reducible refine (l00In_calls _ _ _ _).mono ?_); rintro e w' ⟨rfl, rfl⟩))
        go_ret
        exact ⟨ret_b (by rw [hgame.out, hy.out]; rfl), _, rfl⟩
    · have hkn : k = n := by omega
      subst hkn
      have ha' := ha.out
      rw [List.take_of_length_le (by rw [hlen.out]; exact Nat.le_refl _)] at ha'
      replace ha' := hide ha'
      clear h
      go_wp2
      go_ret
      exact ⟨ret_b (by rw [hgame.out, ha'.out]; rfl), _, rfl⟩

end Go.Proofs.Ytbnneahjjcamlaa
