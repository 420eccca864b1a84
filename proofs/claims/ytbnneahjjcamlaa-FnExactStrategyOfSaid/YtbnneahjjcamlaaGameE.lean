/-
  The program's game of an equation system. Conditions: at most 1048576 equations.
-/
import Derived.Test.YtbnneahjjcamlaaGrowV
import Derived.Test.YtbnneahjjcamlaaNewA2
import Derived.Deep.RegionHeld3
namespace Go.Proofs.Ytbnneahjjcamlaa
open Go.ChangeShapes Go.WideShapes Go.ChangeAt Go.RowKit
set_option linter.unusedVariables false

theorem le_alloc {a : Nat} {w : World} {o : Obj} (h : a ≤ w.heap.size) : a ≤ (w.alloc o).heap.size := by rw [World.size_alloc]; omega
theorem grown_cell {w w' : World} {row : Option Nat} {q i : Nat} {v : Value} (h : w.grownBy w' row) (hq : q < w.heap.size) (hne : some q ≠ row) (hc : w.cell? ⟨q, i, none⟩ = some v) : w'.cell? ⟨q, i, none⟩ = some v :=
  (World.cell?_of_block (w := w) (by simpa using h.block q hq hne)).trans hc
theorem alloc_cell {w : World} {o : Obj} {q i : Nat} {v : Value} (hq : q < w.heap.size) (hc : w.cell? ⟨q, i, none⟩ = some v) : (w.alloc o).cell? ⟨q, i, none⟩ = some v :=
  (World.cell?_of_block (w := w) (by simpa using Below.heap_alloc w o q hq)).trans hc
theorem alloc_lt {w : World} {o : Obj} {q : Nat} (hq : q < w.heap.size) : q < (w.alloc o).heap.size := by rw [World.size_alloc]; omega
/-- A truth as a number. -/
def tI (b : Bool) : Int := if b then 1 else 0
theorem tI_le (b : Bool) : 0 ≤ tI b ∧ tI b ≤ 1 := by cases b <;> decide
theorem truth_t (b : Bool) (w : World) : Calls Try.prog 98 #[.bool b] w fun e w' => e = .returned (.int .i64 (tI b)) ∧ w = w' := truth_calls b w
theorem vxOf_t {e : DE} {i : Nat} {a b x : Bool} {l : List Int} (h : e[i]? = some (a, b, l)) (h0 : eGr e 0 = x) : vxOf e i = (tI b, (blockNo e i : Int) + tI (!x), l) := by
  rw [vxOf_at h, h0]
  cases x <;> rfl

set_option maxHeartbeats 3200000 in
set_option maxRecDepth 100000 in
theorem game_calls (A : Option Addr) (n c : Nat) (e : DE) (w : World) (h : EqsAt w A n e) (hn : 0 < n ∧ n ≤ 1048576) :
    Calls Try.prog 112 #[.slice A n c] w fun r w' => ∃ A' c', r = .returned (.slice A' n c') ∧ GameAt w' A' n (eqGame e) ∧ Below w.heap.size w w' := by
  obtain ⟨hn0, hn1⟩ := hn
  have hel := h.len
  obtain ⟨b, off, rfl, hbl⟩ := h.addr hn0
  have q0 := hide (equationBlocks_calls _ n c e w h ⟨hn0, hn1⟩)
  replace h := hide h
  have hE := hide elem_vertex
  replace hel := hide hel
  go_enter Try.func112, Try.ntmps112
  go_wp2_with fail
  refine q0.out.mono ?_
  rintro r w1 ⟨A1, c1, rfl, hs1, bel1⟩
  obtain ⟨b1, o1, rfl, hb11, hb12, hb1l, -⟩ := hs1.at_ hn0
  replace hs1 := hide hs1
  have hz1 := bel1.size
  go_wp2_with fail
  go_loopw [4, 11] (fun v i wr => ∃ (k : Nat) (Ao : Option Addr) (co : Nat) (R : List (CV × List Int)), k ≤ n ∧ i = .int .i64 k ∧ v = .slice Ao k co ∧ GrowV wr w1.heap.size Ao k co R ∧ R.map dV = (List.range k).map (vxOf e) ∧ Below w1.heap.size w1 wr) (fun _ i _ => n - (intOf i).toNat)
  case atStart => exact ⟨0, none, 0, [], Nat.zero_le _, rfl, rfl, GrowV.nil_ _ _, rfl, Below.refl _ _⟩
  case round =>
    obtain ⟨k, Ao, co, R, hk, rfl, rfl, hG, hR, hb⟩ := hrel
    by_cases hlt : k < n
    · have hle := blockNo_le e k
      have belr := bel1.trans (hb.mono hz1)
      have hr := h.out.below belr (Nat.le_refl _)
      have hz := hb.size
      obtain ⟨x, y, l, Ah, nh, ch, hx, c0, c1', c2, hs, hnh⟩ := hr.cell hlt
      obtain ⟨x0, y0, l0, Ah0, nh0, ch0, hx0, c00, -⟩ := hr.cell hn0
      simp only [Nat.zero_mul, Nat.add_zero] at c00
      have hvx := vxOf_t hx (eGr_at hx0)
      have ht1 := tI_le (!x0)
      obtain ⟨z, hz', d0, -⟩ := SlI.cell (Sl.below hs1.out hb (.inr (Nat.le_refl _))) hlt
      rw [blocksF_at e hlt] at hz'
      cases hz'
      have hk1 : (0 : Int) ≤ (k : Int) := by omega
      have hk2 : (k : Int) < (n : Int) := by omega
      have hn2 : (0 : Int) < (n : Int) := by omega
      generalize blockNo e k = p at *
      have hpb : p ≤ 1048576 := by omega
      have hbx : Below wr.heap.size wr (wr.alloc (.cells #[.bool x, .bool y, .slice Ah nh ch] 76)).drew := ((Below.refl _ _).alloc (Nat.le_refl _) _).drew
      have hq := hide (cloneI_calls Ah nh ch l _ _ _ (hs.below hbx (.inr (Nat.le_refl _))) hnh)
      have c00a := (((Below.refl wr.heap.size wr).alloc (Nat.le_refl _) (.cells #[.bool x, .bool y, .slice Ah nh ch] 76)).cell (p := ⟨b, off, none⟩) (by show b < _; omega)).trans c00
      have d0a := (((Below.refl wr.heap.size wr).alloc (Nat.le_refl _) (.cells #[.bool x, .bool y, .slice Ah nh ch] 76)).cell (p := ⟨b1, o1 + k, none⟩) (by show b1 < _; omega)).trans d0
      have y1a : (wr.alloc (.cells #[.bool x, .bool y, .slice Ah nh ch] 76)).cell? ⟨wr.heap.size, 1, none⟩ = some (.bool y) := (cell_of_row _ _ 1 _ _ (0, 0) (heap_alloc_new wr _)).trans rfl
      have y2a : (wr.alloc (.cells #[.bool x, .bool y, .slice Ah nh ch] 76)).cell? ⟨wr.heap.size, 2, none⟩ = some (.slice Ah nh ch) := (cell_of_row _ _ 2 _ _ (0, 0) (heap_alloc_new wr _)).trans rfl
      have hsz : (k + 1) * 40 ≤ 140737488355328 := by omega
      have n0 : some b ≠ (Value.slice Ao k co).ownBlock := fun e2 => by have := (hG.own.lt b e2.symm).1; omega
      have n1 : some b1 ≠ (Value.slice Ao k co).ownBlock := fun e2 => by have := (hG.own.lt b1 e2.symm).1; omega
      have n2 : some wr.heap.size ≠ (Value.slice Ao k co).ownBlock := fun e2 => by have := (hG.own.lt _ e2.symm).2; omega
      have hlt3 : wr.heap.size < wr.heap.size + 1 := by omega
      have hlt1 : b < wr.heap.size + 1 := by omega
      have hlt2 : b1 < wr.heap.size + 1 := by omega
      replace hG := hide hG
      replace hR := hide hR
      replace hvx := hide hvx
      replace hb := hide hb
      replace hbx := hide hbx
      clear hr hs hx hx0 c00 d0 belr h q0
      have hwrap : IntKind.i64.wrap ((p : Int) + tI (!x0)) = (p : Int) + tI (!x0) := IntWalk.i64_in _ (by omega)
      go_wp2
      go_region_held3 (fun w' => w'.cell? ⟨b, off, none⟩ = some (.bool x0) ∧ w'.cell? ⟨b1, o1 + k, none⟩ = some (.int .i64 (p : Int)) ∧ w'.cell? ⟨wr.heap.size, 1, none⟩ = some (.bool y) ∧ w'.cell? ⟨wr.heap.size, 2, none⟩ = some (.slice Ah nh ch)) (first | exact ⟨k4, k5, k6, k7⟩ | exact ⟨k0, k1, k2, k3⟩ | go_keep)
        (first
          | (go_at_call 98; (with_reducible refine (truth_t _ _).mono ?_); rintro e w' ⟨rfl, rfl⟩)
          | (go_at_call 104; (refine hq.out.mono ?_); rintro e w2 ⟨A2, c2, rfl, hs2, hb2⟩; change Below (wr.alloc (.cells #[.bool x, .bool y, .slice Ah nh ch] 76)).heap.size _ _ at hb2; rw [World.size_alloc] at hb2; have k0 := (hb2.cell (p := ⟨b, off, none⟩) hlt1).trans c00a; have k1 := (hb2.cell (p := ⟨b1, o1 + k, none⟩) hlt2).trans d0a; have k2 := (hb2.cell (p := ⟨wr.heap.size, 1, none⟩) (Nat.lt_succ_self _)).trans y1a; have k3 := (hb2.cell (p := ⟨wr.heap.size, 2, none⟩) (Nat.lt_succ_self _)).trans y2a; have hz2 : wr.heap.size + 1 ≤ w2.heap.size := by { have := hb2.size; simpa using this }; have hb3 := hide (hbx.out.trans (hb2.mono (Nat.le_succ _))); replace hs2 := hide hs2; clear hb2; have hza3 := Nat.le_trans hz hb3.out.size; have hown3 := hide (hG.out.own.below hb3.out (Nat.le_refl _)))
          | (refine step_app (d := 1) (by rfl) (.tmp 16) (.tmp 35) (by rfl) hE.out flat_gV (by go_simp) (hown3.out.alloc _) (by go_simp) (Sl.lit1' w2 66 (tI y, (p : Int) + tI (!x0), A2, nh, c2) _ rfl 3 w2.heap.size rfl) hsz (le_alloc hza3) ?_; intro A5 c5 w5 hown5 hgr5 hb5 hat5; have k4 := grown_cell hgr5 (alloc_lt (Nat.lt_of_lt_of_le hlt1 hz2)) n0 (alloc_cell (Nat.lt_of_lt_of_le hlt1 hz2) k0); have k5 := grown_cell hgr5 (alloc_lt (Nat.lt_of_lt_of_le hlt2 hz2)) n1 (alloc_cell (Nat.lt_of_lt_of_le hlt2 hz2) k1); have k6 := grown_cell hgr5 (alloc_lt (Nat.lt_of_lt_of_le hlt3 hz2)) n2 (alloc_cell (Nat.lt_of_lt_of_le hlt3 hz2) k2); have k7 := grown_cell hgr5 (alloc_lt (Nat.lt_of_lt_of_le hlt3 hz2)) n2 (alloc_cell (Nat.lt_of_lt_of_le hlt3 hz2) k3); replace hown5 := hide hown5; replace hgr5 := hide hgr5; replace hb5 := hide hb5; replace hat5 := hide hat5))
      have hs4 : SlI (w2.alloc (.cells #[.int .i64 (tI y), .int .i64 ((p : Int) + tI (!x0)), .slice A2 nh c2] 66)) wr.heap.size (w2.alloc (.cells #[.int .i64 (tI y), .int .i64 ((p : Int) + tI (!x0)), .slice A2 nh c2] 66)).heap.size A2 nh l :=
        (Sl.below hs2.out ((Below.refl w2.heap.size w2).alloc (Nat.le_refl _) _) (.inr (Nat.le_refl _))).more (by simp) (by simp)
      have hG5 := hide (hG.out.push (hb3.out.alloc hb3.out.size _) hz hs4 hnh hown5.out hgr5.out hat5.out)
      have hR5 : Hid ((R ++ [((tI y, (p : Int) + tI (!x0), A2, nh, c2), l)]).map dV = (List.range (k + 1)).map (vxOf e)) := by
        show _ = _
        rw [List.map_append, hR.out, List.range_succ, List.map_append]
        show _ ++ [(tI y, (p : Int) + tI (!x0), l)] = _ ++ [vxOf e k]
        rw [hvx.out]
      have hb6 := hide ((hb.out.trans (hb3.out.mono hz)).trans (((Below.refl w1.heap.size w2).alloc hza3 _).trans hb5.out))
      clear k0 k1 k2 k3 k4 k5 k6 k7 c0 c1' c00a d0a y1a y2a hs4
      go_wp2
      go_roundw
      case rel => exact ⟨k + 1, A5, c5, _, by omega, by go_num, rfl, hG5.out, hR5.out, hb6.out⟩
      case measure => simp [intOf]; omega
    · have hkn : k = n := by omega
      subst hkn
      clear h
      go_wp2
      go_ret
      exact ⟨_, _, rfl, by have := hG.game; rw [hR] at this; unfold eqGame; rw [← hel.out]; exact this, bel1.trans (hb.mono hz1)⟩

end Go.Proofs.Ytbnneahjjcamlaa
