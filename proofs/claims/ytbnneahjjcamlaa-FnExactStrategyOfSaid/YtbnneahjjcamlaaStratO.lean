/-
  The reference's copy of a game. Conditions: valid games.
-/
import Derived.Test.YtbnneahjjcamlaaStratG
namespace Go.Proofs.Ytbnneahjjcamlaa
open Go.ChangeShapes Go.WideShapes Go.ChangeAt Go.RowKit
set_option linter.unusedVariables false

set_option maxHeartbeats 3200000 in
set_option maxRecDepth 100000 in
theorem l23Own_calls (A : Option Addr) (n c : Nat) (g : DV) (w : World) (h : GameAt w A n g) (ok : GameOk g) :
    Calls Try.prog 99 #[.slice A n c] w fun e w' => ∃ b c', e = .returned (.slice (some ⟨b, 0, none⟩) n c') ∧ GameW w' b 0 n g ∧ w.heap.size ≤ b ∧ Below w.heap.size w w' := by
  have hgl := h.len
  have hn : 0 < n ∧ n ≤ 120 := by have := ok.1; omega
  obtain ⟨hn0, hn1⟩ := hn
  obtain ⟨b, off, rfl, hbl⟩ := h.addr hn0
  replace h := hide h
  have hE := hide elem_vertex
  replace hgl := hide hgl
  replace ok := hide ok
  go_enter Try.func99, Try.ntmps99
  go_wp2_with fail
  go_loopw [3, 4] (fun v i wr => ∃ (k : Nat) (Ao : Option Addr) (co : Nat) (R : List (CV × List Int)), k ≤ n ∧ i = .int .i64 k ∧ v = .slice Ao k co ∧ GrowV wr w.heap.size Ao k co R ∧ R.map dV = g.take k ∧ Below w.heap.size w wr) (fun _ i _ => n - (intOf i).toNat)
  case atStart => exact ⟨0, _, 0, [], Nat.zero_le _, rfl, rfl, GrowV.made _ _ (Nat.le_refl _), rfl, (Below.refl _ _).alloc (Nat.le_refl _) _⟩
  case round =>
    obtain ⟨k, Ao, co, R, hk, rfl, rfl, hG, hR, hb⟩ := hrel
    by_cases hlt : k < n
    · have hr := h.out.below hb (Nat.le_refl _)
      have hz := hb.size
      obtain ⟨o, p, l, Ah, nh, ch, hx, c0, c1', c2', hs, hnh, -⟩ := hr.cell ok.out hlt
      have hk1 : (0 : Int) ≤ (k : Int) := by omega
      have hk2 : (k : Int) < (n : Int) := by omega
      have hbx : Below wr.heap.size wr wr.drew := (Below.refl _ _).drew
      have hq := hide (l00Own_calls Ah nh ch l _ _ _ (hs.below hbx (.inr (Nat.le_refl _))) hnh)
      have hsz : (k + 1) * 40 ≤ 140737488355328 := by omega
      have n0 : some b ≠ (Value.slice Ao k co).ownBlock := fun e2 => by have := (hG.own.lt b e2.symm).1; omega
      have hlt1 : b < wr.heap.size := by omega
      replace hG := hide hG
      replace hR := hide hR
      replace hb := hide hb
      replace hbx := hide hbx
      replace hx := hide hx
      clear hr hs h
      go_wp2
      go_region_held3 (fun w' => w'.cell? ⟨b, off + k * 3, none⟩ = some (.int .i64 o) ∧ w'.cell? ⟨b, off + k * 3 + 1, none⟩ = some (.int .i64 p) ∧ w'.cell? ⟨b, off + k * 3 + 2, none⟩ = some (.slice Ah nh ch)) (first | exact ⟨k4, k5, k6⟩ | exact ⟨k0, k1, k2⟩ | go_keep)
        (first
          | (go_at_call 100; (refine hq.out.mono ?_); rintro e w2 ⟨A2, c2, rfl, hs2, hb2⟩; change Below wr.heap.size _ _ at hb2; have k0 := (hb2.cell (p := ⟨b, off + k * 3, none⟩) hlt1).trans c0; have k1 := (hb2.cell (p := ⟨b, off + k * 3 + 1, none⟩) hlt1).trans c1'; have k2 := (hb2.cell (p := ⟨b, off + k * 3 + 2, none⟩) hlt1).trans c2'; have hz2 : wr.heap.size ≤ w2.heap.size := hb2.size; have hb3 := hide (hbx.out.trans (hb2.mono (Nat.le_refl _))); replace hs2 := hide hs2; clear hb2; have hza3 := Nat.le_trans hz hb3.out.size; have hown3 := hide (hG.out.own.below hb3.out (Nat.le_refl _)))
          | (refine step_app (d := 1) (by rfl) (.tmp 12) (.tmp 30) (by rfl) hE.out flat_gV (by go_simp) (hown3.out.alloc _) (by go_simp) (Sl.lit1' w2 66 (o, p, A2, nh, c2) _ rfl 3 w2.heap.size rfl) hsz (le_alloc hza3) ?_; intro A5 c5 w5 hown5 hgr5 hb5 hat5; have k4 := grown_cell hgr5 (alloc_lt (Nat.lt_of_lt_of_le hlt1 hz2)) n0 (alloc_cell (Nat.lt_of_lt_of_le hlt1 hz2) k0); have k5 := grown_cell hgr5 (alloc_lt (Nat.lt_of_lt_of_le hlt1 hz2)) n0 (alloc_cell (Nat.lt_of_lt_of_le hlt1 hz2) k1); have k6 := grown_cell hgr5 (alloc_lt (Nat.lt_of_lt_of_le hlt1 hz2)) n0 (alloc_cell (Nat.lt_of_lt_of_le hlt1 hz2) k2); replace hown5 := hide hown5; replace hgr5 := hide hgr5; replace hb5 := hide hb5; replace hat5 := hide hat5))
      have hs4 : SlI (w2.alloc (.cells #[.int .i64 o, .int .i64 p, .slice A2 nh c2] 66)) wr.heap.size (w2.alloc (.cells #[.int .i64 o, .int .i64 p, .slice A2 nh c2] 66)).heap.size A2 nh l :=
        (Sl.below hs2.out ((Below.refl w2.heap.size w2).alloc (Nat.le_refl _) _) (.inr (Nat.le_refl _))).more (by simp) (by simp)
      have hG5 := hide (hG.out.push (hb3.out.alloc hb3.out.size _) hz hs4 hnh hown5.out hgr5.out hat5.out)
      have hR5 : Hid ((R ++ [((o, p, A2, nh, c2), l)]).map dV = g.take (k + 1)) := by
        show _ = _
        rw [List.map_append, hR.out, List.take_add_one, hx.out]
        rfl
      have hb6 := hide ((hb.out.trans (hb3.out.mono hz)).trans (((Below.refl w.heap.size w2).alloc hza3 _).trans hb5.out))
      clear k0 k1 k2 k4 k5 k6 c0 c1' c2' hs4
      go_wp2
      go_roundw
      case rel => exact ⟨k + 1, A5, c5, _, by omega, by go_num, rfl, hG5.out, hR5.out, hb6.out⟩
      case measure => simp [intOf]; omega
    · have hkn : k = n := by omega
      subst hkn
      clear h
      obtain ⟨b9, rfl, hb9, hW⟩ := hG.atW hn0
      rw [hR, List.take_of_length_le (by rw [← hgl.out]; exact Nat.le_refl _)] at hW
      replace hW := hide hW
      clear hG hR
      go_wp2
      go_ret
      exact ⟨b9, _, rfl, hW.out, hb9, hb⟩

end Go.Proofs.Ytbnneahjjcamlaa
