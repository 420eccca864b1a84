/-
  The reference's game of an equation system. Conditions: at most 1048576 equations.
-/
import Derived.Test.YtbnneahjjcamlaaGameE
import Derived.Deep.CutRange
namespace Go.Proofs.Ytbnneahjjcamlaa
open Go.ChangeShapes Go.WideShapes Go.ChangeAt Go.RowKit
set_option linter.unusedVariables false

theorem Own.lit1 (w : World) (e : TypeId) (x : Int) {base : Nat} (hb : base ≤ w.heap.size) : Own 1 iv (w.alloc (.cells #[.int .i64 x] e)) base e (some ⟨w.heap.size, 0, none⟩) 1 1 [x] :=
  ⟨rfl, by simp [iv], .inr ⟨w.heap.size, 1, #[.int .i64 x], rfl, hb, heap_alloc_new w _, Nat.le_refl _, by unfold maxLen; omega, by simp, by simp [iv]⟩⟩

set_option maxHeartbeats 3200000 in
set_option maxRecDepth 100000 in
theorem l22Blocks_calls (A : Option Addr) (n c : Nat) (e : DE) (w : World) (h : EqsAt w A n e) (hn : 0 < n ∧ n ≤ 1048576) :
    Calls Try.prog 135 #[.slice A n c] w fun r w' => ∃ A' c', r = .returned (.slice A' n c') ∧ SlI w' w.heap.size w'.heap.size A' n (blocksF e n) ∧ Below w.heap.size w w' := by
  obtain ⟨hn0, hn1⟩ := hn
  obtain ⟨b, off, rfl, hbl⟩ := h.addr hn0
  replace h := hide h
  have hE := hide elem_int64
  go_enter Try.func135, Try.ntmps135
  go_wp2
  go_loopw [3, 4] (fun v i wr => ∃ (k : Nat) (Ao : Option Addr) (co : Nat), 1 ≤ k ∧ k ≤ n ∧ i = .int .i64 k ∧ v = .slice Ao k co ∧ Own 1 iv wr w.heap.size 2 Ao k co (blocksF e k) ∧ Below w.heap.size w wr) (fun _ i _ => n - (intOf i).toNat)
  case atStart => exact ⟨1, _, 1, Nat.le_refl _, by omega, rfl, rfl, Own.lit1 w _ 0 (Nat.le_refl _), (Below.refl _ _).alloc (Nat.le_refl _) _⟩
  case round =>
    obtain ⟨k, Ao, co, hk0, hk, rfl, rfl, hown, hb⟩ := hrel
    by_cases hlt : k < n
    · have hle := blockNo_le e k
      have hle0 := blockNo_le e (k - 1)
      have hst := hide (blocksF_succ e k)
      have hr := h.out.below hb (Nat.le_refl _)
      obtain ⟨x, y, l, Ah, nh, ch, hx, c0, -⟩ := hr.cell hlt
      obtain ⟨x', y', l', Ah', nh', ch', hx', c0', -⟩ := hr.cell (show k - 1 < n by omega)
      have hsu := blockNo_succ (e := e) hk0
      rw [eGr_at hx, eGr_at hx'] at hsu
      obtain ⟨bo, oo, z, rfl, -, -, -, hz', d0, -⟩ := SlI.get (hown.sl flat_iv) (show k - 1 < k by omega)
      rw [blocksF_at e (by omega)] at hz'
      cases hz'
      have hz := hb.size
      have hk1 : (0 : Int) ≤ (k : Int) := by omega
      have hk2 : (k : Int) < (n : Int) := by omega
      have e2 : IntKind.i64.wrap ((k : Int) - 1) = (k : Int) - 1 := IntWalk.i64_in _ (by omega)
      have e3 : 0 ≤ (k : Int) - 1 := by omega
      have e4 : ((k : Int) - 1).toNat = k - 1 := by omega
      have e5 : (k : Int) - 1 < n := by omega
      have e6 : (k : Int) - 1 < k := by omega
      generalize hp : blockNo e (k - 1) = p at *
      have hpb : p ≤ 1048576 := by omega
      have hownN : Hid (∀ N, Own 1 iv (wr.drewN N) w.heap.size 2 (some ⟨bo, oo, none⟩) k co (blocksF e k)) := fun N => hown.below (below_drewN _ N) (Nat.le_refl _)
      have hbN : Hid (∀ N, Below w.heap.size w (wr.drewN N)) := fun N => hb.trans ((below_drewN _ N).mono hz)
      replace hown := hide hown
      clear h hr hx hx'
      cases x <;> cases x'
      all_goals
        simp only [bne_self_eq_false, Bool.false_eq_true, if_false, if_true, Bool.true_bne, Bool.false_bne, Bool.not_true, Bool.not_false, Nat.add_zero] at hsu
        replace hsu := hide hsu
        go_wp2
        go_quiet (fail)
        clear e2 e4
        go_wp2_with (first | (at_builtin; ((with_reducible refine wpList_app rfl (.tmp 32) (.tmp 34) rfl hE.out flat_iv rfl ((hownN.out _).alloc _) rfl (Sl.lit1' _ 2 (p : Int) _ rfl 1 _ ?c0) ?c1 ?c2 ?_); rotate_right; intro A5 c5 w5 hown5 hgr5 hb5 _)) | (at_builtin; ((with_reducible refine wpList_app rfl (.tmp 32) (.tmp 34) rfl hE.out flat_iv rfl ((hownN.out _).alloc _) rfl (Sl.lit1' _ 2 ((p : Int) + 1) _ rfl 1 _ ?c0) ?c1 ?c2 ?_); rotate_right; intro A5 c5 w5 hown5 hgr5 hb5 _)))
        case c0 => simp
        case c1 => omega
        case c2 => simp; omega
        go_roundw
        case rel => exact ⟨k + 1, A5, c5, by omega, by omega, by go_num, rfl, by rw [hst.out, hsu.out]; exact hown5, ((hbN.out _).alloc (hbN.out _).size _).trans hb5⟩
        case measure => simp [intOf]; omega
    · have hkn : k = n := by omega
      subst hkn
      clear h
      replace hown := hide hown
      go_wp2
      go_ret
      exact ⟨_, _, rfl, hown.out.sl flat_iv, hb⟩

abbrev objZ : Obj := .cells #[.int .i64 0, .int .i64 0, .slice none 0 0] 66
/-- A vertex made at bx, its list a copy. -/
structure Made (wr W : World) (bx : Nat) (o q : Int) (A2 : Option Addr) (nh k2 : Nat) (l : List Int) : Prop where
  blk : W.heap[bx]? = some (.cells #[.int .i64 o, .int .i64 q, .slice A2 nh k2] 66 (0, 0))
  row : SlI W wr.heap.size W.heap.size A2 nh l
  bel : Below wr.heap.size wr W
  new : wr.heap.size ≤ bx
  off : 0 < nh → ∀ b o, A2 = some ⟨b, o, none⟩ → b ≠ bx
section
variable {wr W : World} {bx nh k2 : Nat} {o q : Int} {A2 : Option Addr} {l : List Int}
theorem Made.step (h : Made wr W bx o q A2 nh k2 l) (i : Nat) (v : Value) {o' q' : Int} (hc : #[Value.int .i64 o, .int .i64 q, .slice A2 nh k2].setIfInBounds i v = #[.int .i64 o', .int .i64 q', .slice A2 nh k2]) : Made wr (W.setCell ⟨bx, i, none⟩ v) bx o' q' A2 nh k2 l := by
  have h1 := heap_setCell_same W bx i _ _ v h.blk
  rw [hc] at h1
  refine ⟨h1, ⟨h.row.1, fun hn => ?_⟩, h.bel.setCell h.new _, h.new, h.off⟩
  obtain ⟨b, off, rfl, g1, g2, g3, hcell⟩ := h.row.2 hn
  have hne := h.off hn b off rfl
  have hk : (W.setCell ⟨bx, i, none⟩ v).heap[b]? = W.heap[b]? := Below.heap_setCell _ _ _ _ hne
  refine ⟨b, off, rfl, g1, by rw [World.size_setCell]; exact g2, by rw [World.size_setCell]; exact g3, fun k x hx j u hu => ?_⟩
  obtain ⟨c1, c2⟩ := hcell k x hx j u hu
  exact ⟨(World.cell?_of_block (w := W) (by simpa using hk)).trans c1, (World.frozen?_of_block (w := W) (by simpa using hk)).trans c2⟩
theorem Made.set0 (h : Made wr W bx o q A2 nh k2 l) (o' : Int) : Made wr (W.setCell ⟨bx, 0, none⟩ (.int .i64 o')) bx o' q A2 nh k2 l := h.step 0 _ rfl
theorem Made.set1 (h : Made wr W bx o q A2 nh k2 l) (q' : Int) : Made wr (W.setCell ⟨bx, 1, none⟩ (.int .i64 q')) bx o q' A2 nh k2 l := h.step 1 _ rfl
theorem Made.facts (h : Made wr W bx o q A2 nh k2 l) : W.cell? ⟨bx, 0, none⟩ = some (.int .i64 o) ∧ W.cell? ⟨bx, 1, none⟩ = some (.int .i64 q) ∧ W.cell? ⟨bx, 2, none⟩ = some (.slice A2 nh k2) ∧ W.frozen? ⟨bx, 0, none⟩ = false ∧ W.frozen? ⟨bx, 1, none⟩ = false :=
  ⟨(cell_of_row _ _ 0 _ _ (0, 0) h.blk).trans rfl, (cell_of_row _ _ 1 _ _ (0, 0) h.blk).trans rfl, (cell_of_row _ _ 2 _ _ (0, 0) h.blk).trans rfl, frozen_of_row _ _ _ _ _ h.blk, frozen_of_row _ _ _ _ _ h.blk⟩
theorem Made.bx_lt (h : Made wr W bx o q A2 nh k2 l) : bx < W.heap.size := (Array.getElem?_eq_some_iff.1 h.blk).1
/-- The loop's word behind an append of the vertex made. -/
theorem Made.push (h : Made wr W bx o q A2 nh k2 l) {base k c : Nat} {A : Option Addr} {R : List (CV × List Int)} (hG : GrowV wr base A k c R) (hbase : base ≤ wr.heap.size) (hnh : nh ≤ 1048576) {obj : Obj} {w5 : World} {A5 : Option Addr} {c5 : Nat}
    (hown : Own 3 gV w5 base 66 A5 (k + 1) c5 (R.map (·.1) ++ [(o, q, A2, nh, k2)])) (hgr : (W.alloc obj).grownBy w5 (Value.slice A k c).ownBlock)
    (hat : (Value.slice A5 (k + 1) c5).ownBlock = (Value.slice A k c).ownBlock ∨ (Value.slice A5 (k + 1) c5).ownBlock = some (W.alloc obj).heap.size) : GrowV w5 base A5 (k + 1) c5 (R ++ [((o, q, A2, nh, k2), l)]) :=
  hG.push (h.bel.alloc h.bel.size obj) hbase ((Sl.below h.row ((Below.refl W.heap.size W).alloc (Nat.le_refl _) obj) (.inr (Nat.le_refl _))).more (Nat.le_refl _) (by simp)) hnh hown hgr hat
end
def VMade (wr : World) (p : Int) (nh : Nat) (l : List Int) (v : Value) (wx : World) : Prop := ∃ bx A2 k2, v = .pointer (some ⟨bx, 0, none⟩) ∧ Made wr wx bx 0 p A2 nh k2 l
theorem map_push {R : List (CV × List Int)} {k : Nat} {vx : Nat → Vx} {o p : Int} {l : List Int} (hR : R.map dV = (List.range k).map vx) (hv : vx k = (o, p, l)) (A2 : Option Addr) (k2 nh : Nat) :
    (R ++ [((o, p, A2, nh, k2), l)]).map dV = (List.range (k + 1)).map vx := by
  rw [List.map_append, hR, List.range_succ, List.map_append]
  show _ ++ [(o, p, l)] = _ ++ [vx k]
  rw [hv]

set_option maxHeartbeats 3200000 in
set_option maxRecDepth 100000 in
theorem l22Game_calls (A : Option Addr) (n c : Nat) (e : DE) (w : World) (h : EqsAt w A n e) (hn : 0 < n ∧ n ≤ 1048576) :
    Calls Try.prog 108 #[.slice A n c] w fun r w' => ∃ A' c', r = .returned (.slice A' n c') ∧ GameAt w' A' n (eqGame e) ∧ Below w.heap.size w w' := by
  obtain ⟨hn0, hn1⟩ := hn
  have hel := h.len
  obtain ⟨b, off, rfl, hbl⟩ := h.addr hn0
  have q0 := hide (l22Blocks_calls _ n c e w h ⟨hn0, hn1⟩)
  replace h := hide h
  have hE := hide elem_vertex
  replace hel := hide hel
  go_enter Try.func108, Try.ntmps108
  go_wp2_with fail
  refine q0.out.mono ?_
  rintro r w1 ⟨A1, c1, rfl, hs1, bel1⟩
  obtain ⟨b1, o1, rfl, hb11, hb12, hb1l, -⟩ := hs1.at_ hn0
  replace hs1 := hide hs1
  have hz1 := bel1.size
  go_wp2_with fail
  go_loopw [4, 5] (fun v i wr => ∃ (k : Nat) (Ao : Option Addr) (co : Nat) (R : List (CV × List Int)), k ≤ n ∧ i = .int .i64 k ∧ v = .slice Ao k co ∧ GrowV wr w1.heap.size Ao k co R ∧ R.map dV = (List.range k).map (vxOf e) ∧ Below w1.heap.size w1 wr) (fun _ i _ => n - (intOf i).toNat)
  case atStart => exact ⟨0, _, 0, [], Nat.zero_le _, rfl, rfl, GrowV.made _ _ (Nat.le_refl _), rfl, (Below.refl _ _).alloc (Nat.le_refl _) _⟩
  case round =>
    obtain ⟨k, Ao, co, R, hk, rfl, rfl, hG, hR, hb⟩ := hrel
    by_cases hlt : k < n
    · have hle := blockNo_le e k
      have belr := bel1.trans (hb.mono hz1)
      have hr := h.out.below belr (Nat.le_refl _)
      have hz := hb.size
      obtain ⟨x, y, l, Ah, nh, ch, hx, c0', c1', c2', hs, hnh⟩ := hr.cell hlt
      obtain ⟨x0, y0, l0, Ah0, nh0, ch0, hx0, c00', -⟩ := hr.cell hn0
      simp only [Nat.zero_mul, Nat.add_zero] at c00'
      have hvx := vxOf_t hx (eGr_at hx0)
      obtain ⟨z, hz', d0', -⟩ := SlI.cell (Sl.below hs1.out hb (.inr (Nat.le_refl _))) hlt
      rw [blocksF_at e hlt] at hz'
      cases hz'
      have hk1 : (0 : Int) ≤ (k : Int) := by omega
      have hk2 : (k : Int) < (n : Int) := by omega
      have hn2 : (0 : Int) < (n : Int) := by omega
      generalize blockNo e k = p at *
      have hpb : p ≤ 1048576 := by omega
      have hbx : Below wr.heap.size wr wr.drew := (Below.refl _ _).drew
      have hq := hide (l00Own_calls Ah nh ch l _ _ _ (hs.below hbx (.inr (Nat.le_refl _))) hnh)
      have hsz : (k + 1) * 40 ≤ 140737488355328 := by omega
      replace hG := hide hG
      replace hR := hide hR
      have hbr : b < wr.heap.size := by omega
      replace hb := hide hb
      have hs0 := hide hs
      clear hr hs hx hx0 belr h q0
      have d0 := d0'
      have c2 := c2'
      have hbz : Below (wr.heap.size + 1) (wr.alloc objZ).drew (wr.alloc objZ).drew := Below.refl _ _
      have hbz0 : Below wr.heap.size wr (wr.alloc objZ).drew := ((Below.refl _ _).alloc (Nat.le_refl _) _).drew
      have hq2 := hide (l00Own_calls Ah nh ch l _ _ _ (hs0.out.below hbz0 (.inr (Nat.le_refl _))) hnh)
      have hzk : (wr.alloc objZ).drew.heap[wr.heap.size]? = some (.cells #[.int .i64 0, .int .i64 0, .slice none 0 0] 66 (0, 0)) := heap_alloc_new wr _
      have z1 := hide hzk
      have nw0 := World.new_ne wr ⟨b1, o1 + k, none⟩ d0'
      have nw1 := World.new_ne wr ⟨b, off + k * 3 + 2, none⟩ c2'
      have hbr1 : b1 < wr.heap.size := by omega
      have hbr2 : b1 < wr.heap.size + 1 := by omega
      have hbr3 : b < wr.heap.size + 1 := by omega
      have hsz1 : (wr.alloc objZ).drew.heap.size = wr.heap.size + 1 := by simp
      have d0a := alloc_cell (o := objZ) hbr1 d0'
      have c2a := alloc_cell (o := objZ) hbr c2'
      clear hzk hbz0
      go_wp2
      go_cut [6] (fun v wx => VMade wr p nh l v wx)
      case first =>
        go_region_held3 (fun w' => w'.cell? ⟨b1, o1 + k, none⟩ = some (.int .i64 (p : Int)) ∧ w'.cell? ⟨b, off + k * 3 + 2, none⟩ = some (.slice Ah nh ch)) (first | exact ⟨k0, k1⟩ | go_keep)
          (first
            | (go_at_call 100; (with_reducible refine hq.out.mono ?_); rintro e w2 ⟨A2, k2, rfl, hs2, hb2⟩; have k0 := (hb2.cell (p := ⟨b1, o1 + k, none⟩) hbr1).trans d0'; have k1 := (hb2.cell (p := ⟨b, off + k * 3 + 2, none⟩) hbr).trans c2'; replace hs2 := hide hs2; replace hb2 := hide hb2)
            | (go_at_call 100; (with_reducible refine hq2.out.mono ?_); rintro e w2 ⟨A2, k2, rfl, hs2, hb2⟩; rw [hsz1] at hb2; have k0 := (hb2.cell (p := ⟨b1, o1 + k, none⟩) hbr2).trans d0a; have k1 := (hb2.cell (p := ⟨b, off + k * 3 + 2, none⟩) hbr3).trans c2a; have t := (hb2.block wr.heap.size (Nat.lt_succ_self _)).trans z1.out; have t0 := (cell_of_row _ _ 0 _ _ (0, 0) t).trans (show _ = some (Value.int .i64 0) from rfl); have t1 := (cell_of_row _ _ 1 _ _ (0, 0) t).trans (show _ = some (Value.int .i64 0) from rfl); have t2 := (cell_of_row _ _ 2 _ _ (0, 0) t).trans (show _ = some (Value.slice none 0 0) from rfl); have f0 := frozen_of_row _ _ 0 _ _ t; have f1 := frozen_of_row _ _ 1 _ _ t; have f2 := frozen_of_row _ _ 2 _ _ t; replace t := hide t; replace hs2 := hide hs2; replace hb2 := hide hb2))
        all_goals (go_wp2_with fail; go_meet)
        · have hb3 := hbx.trans hb2.out
          refine ⟨w2.heap.size, A2, k2, rfl, heap_alloc_new w2 _, (Sl.below hs2.out ((Below.refl w2.heap.size w2).alloc (Nat.le_refl _) _) (.inr (Nat.le_refl _))).more (Nat.le_refl _) (by simp), hb3.alloc hb3.size _, hb3.size, fun hn b9 o9 e9 => ?_⟩
          obtain ⟨b', o', e', -, -, h3, -⟩ := hs2.out.at_ hn
          rw [e9] at e'
          cases e'
          omega
        · have hz2 : wr.heap.size + 1 ≤ w2.heap.size := by have := hb2.out.size; rwa [hsz1] at this
          have hb3 : Below wr.heap.size wr w2 := (((Below.refl _ _).alloc (Nat.le_refl _) _).drew).trans (hb2.out.mono (Nat.le_succ _))
          have hs3 := hs2.out
          rw [hsz1] at hs3
          have hM : Made wr w2 wr.heap.size 0 0 none 0 0 [] := ⟨t.out, Sl.nil_, hb3, Nat.le_refl _, fun h => absurd h (Nat.lt_irrefl _)⟩
          have ho : Only wr.heap.size (wr.heap.size + 1) w2 (((w2.setCell ⟨wr.heap.size, 0, none⟩ (.int .i64 0)).setCell ⟨wr.heap.size, 1, none⟩ (.int .i64 (p : Int))).setCell ⟨wr.heap.size, 2, none⟩ (.slice A2 nh k2)) :=
            (((Only.refl wr.heap.size (wr.heap.size + 1) w2).setCell (p := ⟨wr.heap.size, 0, none⟩) (Nat.le_refl _) (Nat.lt_succ_self _) _).setCell (p := ⟨wr.heap.size, 1, none⟩) (Nat.le_refl _) (Nat.lt_succ_self _) _).setCell (p := ⟨wr.heap.size, 2, none⟩) (Nat.le_refl _) (Nat.lt_succ_self _) _
          refine ⟨wr.heap.size, A2, k2, rfl, heap_setCell_same _ _ 2 _ _ (.slice A2 nh k2) (heap_setCell_same _ _ 1 _ _ (.int .i64 (p : Int)) (heap_setCell_same _ _ 0 _ _ (.int .i64 0) t.out)), (Sl.only hs3 ho (.inr (Nat.le_refl _))).more (Nat.le_succ _) (by simp), ((hb3.setCell (Nat.le_refl _) _).setCell (Nat.le_refl _) _).setCell (Nat.le_refl _) _, Nat.le_refl _, fun hn b9 o9 e9 => ?_⟩
          obtain ⟨b', o', e', h1, -, h3, -⟩ := hs3.at_ hn
          rw [e9] at e'
          cases e'
          omega
      case rest =>
        obtain ⟨bx, A2, k2, rfl, M00⟩ := hcut
        have M10 := M00.set0 1
        have M01 := M00.set1 ((p : Int) + 1)
        have M11 := M10.set1 ((p : Int) + 1)
        have hc1 := (M00.bel.cell (p := ⟨b, off + k * 3 + 1, none⟩) hbr).trans c1'
        have hc0 := (M00.bel.cell (p := ⟨b, off, none⟩) hbr).trans c00'
        have hc0a := (M10.bel.cell (p := ⟨b, off, none⟩) hbr).trans c00'
        obtain ⟨x0a, x1a, x2a, y0a, y1a⟩ := M00.facts
        obtain ⟨x0b, x1b, x2b, y0b, y1b⟩ := M10.facts
        obtain ⟨x0c, x1c, x2c, y0c, y1c⟩ := M01.facts
        obtain ⟨x0d, x1d, x2d, y0d, y1d⟩ := M11.facts
        have hown := hide (fun (W : World) (hW : Below wr.heap.size wr W) => hG.out.own.below hW (Nat.le_refl _))
        replace M00 := hide M00
        replace M10 := hide M10
        replace M01 := hide M01
        replace M11 := hide M11
        clear d0 d0' c2 c2' c1' c00' c0' d0a c2a
        cases y <;> cases x0
        all_goals
          simp only [tI, Bool.not_true, Bool.not_false, if_true, if_false, Bool.false_eq_true, Int.add_zero] at hvx
          replace hvx := hide hvx
          go_wp2_with (first
            | (at_builtin; (with_reducible refine wpList_app rfl (.tmp 42) (.tmp 44) rfl hE.out flat_gV rfl ((hown.out _ (by first | exact M00.out.bel | exact M10.out.bel | exact M01.out.bel | exact M11.out.bel)).alloc _) rfl (Sl.lit1' _ 66 (_, _, A2, nh, k2) _ rfl 3 _ ?c0) hsz ?c1 ?_); rotate_right; intro A5 c5 w5 hown5 hgr5 hb5 hat5))
          case c0 => first | rfl | simp
          case c1 => first | exact le_alloc (Nat.le_trans hz M00.out.bel.size) | exact le_alloc (Nat.le_trans hz M10.out.bel.size) | exact le_alloc (Nat.le_trans hz M01.out.bel.size) | exact le_alloc (Nat.le_trans hz M11.out.bel.size)
          have hG5 := hide (by first | exact M00.out.push hG.out hz hnh hown5 hgr5 hat5 | exact M10.out.push hG.out hz hnh hown5 hgr5 hat5 | exact M01.out.push hG.out hz hnh hown5 hgr5 hat5 | exact M11.out.push hG.out hz hnh hown5 hgr5 hat5)
          have hR5 := hide (map_push (vx := vxOf e) hR.out hvx.out A2 k2 nh)
          have hb6 := hide (hb.out.trans (by first | exact ((M00.out.bel.alloc M00.out.bel.size _).mono hz).trans hb5 | exact ((M10.out.bel.alloc M10.out.bel.size _).mono hz).trans hb5 | exact ((M01.out.bel.alloc M01.out.bel.size _).mono hz).trans hb5 | exact ((M11.out.bel.alloc M11.out.bel.size _).mono hz).trans hb5))
          clear hown5 hgr5 hat5 hb5
          go_roundw
          case rel => exact ⟨k + 1, A5, c5, _, by omega, by go_num, rfl, hG5.out, hR5.out, hb6.out⟩
          case measure => simp [intOf]; omega
    · have hkn : k = n := by omega
      subst hkn
      clear h
      go_wp2
      go_ret
      exact ⟨_, _, rfl, by have := hG.game; rw [hR] at this; unfold eqGame; rw [← hel.out]; exact this, bel1.trans (hb.mono hz1)⟩

end Go.Proofs.Ytbnneahjjcamlaa
