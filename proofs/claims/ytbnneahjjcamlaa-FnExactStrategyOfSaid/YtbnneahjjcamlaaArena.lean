/-
  Arenas in memory (a game, who may move where, the vertices that are left), and the functions on them that only read: marked, exits. Conditions: valid games.
-/
import Derived.Test.YtbnneahjjcamlaaRegS
import Derived.Test.YtbnneahjjcamlaaRepeat
import Derived.Deep.RegionHeld3
namespace Go.Proofs.Ytbnneahjjcamlaa
open Go.ChangeShapes Go.WideShapes Go.ChangeAt Go.RowKit
set_option linter.unusedVariables false

theorem Only.drewN {lo hi : Nat} {a w : World} (h : Only lo hi a w) (k : Nat) : Only lo hi a (w.drewN k) := ⟨h.os, h.tape, h.output, h.size, h.block⟩

/-- Which vertices may move to a vertex. -/
def BackOk (g : DV) (L : List (List Int)) : Prop := L.length = g.length ∧ ∀ (k : Nat) (row : List Int), L[k]? = some row → row.Nodup ∧ ∀ b : Int, b ∈ row ↔ ∃ v : Nat, b = v ∧ k ∈ gNxt g v
abbrev RowsI (most : Nat) := RowsG (id : Hd → Hd) 1 sv 1 iv most

/-- An arena. -/
def ArenaAt (w : World) (b : Nat) (g : DV) (alive : List Bool) : Prop :=
  ∃ Ag cg Ab cb Ai ci Q, w.heap[b]? = some (.cells #[.slice Ag g.length cg, .slice Ab g.length cb, .slice Ai g.length ci] 140 (0, 0)) ∧ GameAt w Ag g.length g ∧ RowsI 1048576 w 0 w.heap.size Ab g.length Q ∧ BackOk g (Q.map (·.2)) ∧ SetAt w Ai g.length alive

section
variable {w w' : World} {b B : Nat} {g : DV} {alive : List Bool}
theorem ArenaAt.below (h : ArenaAt w b g alive) (hb : Below B w w') (hB : w.heap.size ≤ B) : ArenaAt w' b g alive := by
  obtain ⟨Ag, cg, Ab, cb, Ai, ci, Q, h1, h2, h3, h4, h5⟩ := h
  have hlt := (Array.getElem?_eq_some_iff.1 h1).1
  exact ⟨Ag, cg, Ab, cb, Ai, ci, Q, (hb.block b (by omega)).trans h1, h2.below hb hB, (h3.below hb (.inl hB)).more (Nat.le_refl _) hb.size, h4, h5.below hb hB⟩
theorem ArenaAt.lt (h : ArenaAt w b g alive) : b < w.heap.size := by
  obtain ⟨Ag, cg, Ab, cb, Ai, ci, Q, h1, _⟩ := h
  exact (Array.getElem?_eq_some_iff.1 h1).1
/-- The fields, at addresses that are known. -/
theorem ArenaAt.open_ (h : ArenaAt w b g alive) (ok : GameOk g) : ∃ b1 o1 cg b2 o2 cb b3 o3 ci Q, w.cell? ⟨b, 0, none⟩ = some (.slice (some ⟨b1, o1, none⟩) g.length cg) ∧ w.cell? ⟨b, 1, none⟩ = some (.slice (some ⟨b2, o2, none⟩) g.length cb) ∧ w.cell? ⟨b, 2, none⟩ = some (.slice (some ⟨b3, o3, none⟩) g.length ci) ∧
    GameAt w (some ⟨b1, o1, none⟩) g.length g ∧ RowsI 1048576 w 0 w.heap.size (some ⟨b2, o2, none⟩) g.length Q ∧ BackOk g (Q.map (·.2)) ∧ SetAt w (some ⟨b3, o3, none⟩) g.length alive ∧ b < w.heap.size ∧ 0 < g.length ∧ g.length ≤ 120 := by
  obtain ⟨Ag, cg, Ab, cb, Ai, ci, Q, h1, h2, h3, h4, h5⟩ := h
  have hn : 0 < g.length := ok.1.1
  obtain ⟨b1, o1, rfl, _⟩ := h2.addr hn
  obtain ⟨b2, o2, rfl, _⟩ := h3.outer.at_ hn
  obtain ⟨b3, o3, rfl, _⟩ := h5.addr hn
  exact ⟨b1, o1, cg, b2, o2, cb, b3, o3, ci, Q, (cell_of_row _ _ 0 _ _ (0, 0) h1).trans rfl, (cell_of_row _ _ 1 _ _ (0, 0) h1).trans rfl, (cell_of_row _ _ 2 _ _ (0, 0) h1).trans rfl, h2, h3, h4, h5, (Array.getElem?_eq_some_iff.1 h1).1, hn, ok.1.2⟩
end

set_option maxHeartbeats 800000 in
set_option maxRecDepth 100000 in
theorem marked_calls (F : FuncId) (caps : Array Value) (G : Nat → Bool) (b : Nat) (g : DV) (alive : List Bool) (w : World) (h : ArenaAt w b g alive) (ok : GameOk g)
    (hF : ∀ (v : Value) (W : World), Sem.run Try.prog (callFunc F (#[v] ++ caps)) W = .ok (.enter F (#[v] ++ caps)) W)
    (hcl : ∀ (k : Nat) (W : World), k < g.length → inS alive k = true → Below w.heap.size w W → Calls Try.prog F (#[.int .i64 (k : Int)] ++ caps) W fun e W' => e = .returned (.bool (G k)) ∧ ∃ N, W' = W.drewN N) :
    Calls Try.prog 93 #[.pointer (some ⟨b, 0, none⟩), .func (.func F) #[] caps] w (GotB w g.length (setOf g.length fun v => inS alive v && G v)) := by
  obtain ⟨b1, o1, cg, b2, o2, cb, b3, o3, ci, Q, c0, c1, c2, -, -, -, ha, hbl, hn0, hn1⟩ := h.open_ ok
  have hmk := run_make_bool g.length (by omega)
  have hstart := SlB.made w g.length
  rw [← setK_zero g.length (fun v => inS alive v && G v)] at hstart
  replace hstart := hide hstart
  replace ha := hide ha
  replace hcl := hide hcl
  clear h ok
  generalize hgl : g.length = n at *
  clear hgl
  go_enter Try.func93, Try.ntmps93
  go_wp2
  go_loopw [19] (fun i wr => ∃ k : Nat, k ≤ n ∧ i = .int .i64 k ∧ SlB wr w.heap.size (w.heap.size + 1) (some ⟨w.heap.size, 0, none⟩) n (setK n k fun v => inS alive v && G v) ∧ Below w.heap.size w wr ∧ w.heap.size < wr.heap.size) (fun i _ => n - (intOf i).toNat)
  case atStart => exact ⟨0, Nat.zero_le _, rfl, hstart.out, (Below.refl _ _).alloc (Nat.le_refl _) _, by simp⟩
  case round =>
    obtain ⟨k, hk, rfl, hs, hb, hz⟩ := hrel
    clear hmk hstart
    by_cases hlt : k < n
    · have a0 := (ha.out.below hb (Nat.le_refl _)).cell hlt
      have hfin : ∀ v W, SlB W w.heap.size (w.heap.size + 1) (some ⟨w.heap.size, 0, none⟩) n (setK n k fun v => inS alive v && G v) → v = (inS alive k && G k) → SlB (W.setCell ⟨w.heap.size, k, none⟩ (.bool v)) w.heap.size (w.heap.size + 1) (some ⟨w.heap.size, 0, none⟩) n (setK n (k + 1) fun v => inS alive v && G v) := fun v W hsW hv => by
        have := SlB.put hsW hlt v
        rwa [setK_step hlt hv, Nat.zero_add] at this
      by_cases z1 : inS alive k = true
      · have hc := hide (hcl.out k wr hlt z1 hb)
        have hnext := hide (fun N => hfin (G k) (wr.drewN N) (hs.drewN N) (by rw [z1]; rfl))
        have hcell := hide (fun N => (SlB.cell (hs.drewN N) hlt))
        have hbN := hide (fun N => hb.trans ((below_drewN wr N).mono hb.size))
        rw [z1] at a0
        clear z1 hfin hs ha hcl c0 c1
        generalize G k = gk' at *
        go_wp2_with fail
        refine hc.out.mono ?_
        rintro e w1 ⟨rfl, N, rfl⟩
        obtain ⟨s0, z0, -, -, -⟩ := hcell.out N
        rw [Nat.zero_add] at s0 z0
        go_wp2_with fail
        go_roundw
        case rel => exact ⟨k + 1, by omega, by go_num, hnext.out N, (hbN.out N).setCell (Nat.le_refl _) _, by rw [World.size_setCell]; exact hz⟩
        case measure => simp [intOf]; omega
      · replace z1 := Bool.eq_false_iff.2 z1
        have hnext := hide (hfin false wr hs (by rw [z1]; rfl))
        obtain ⟨s0, z0, -, -, -⟩ := SlB.cell hs hlt
        rw [Nat.zero_add] at s0 z0
        rw [z1] at a0
        clear z1 hfin hs ha hcl c0 c1
        go_wp2_with fail
        go_roundw
        case rel => exact ⟨k + 1, by omega, by go_num, hnext.out, hb.setCell (Nat.le_refl _) _, by rw [World.size_setCell]; exact hz⟩
        case measure => simp [intOf]; omega
    · have hkn : k = n := by omega
      subst hkn
      rw [setK_all] at hs
      replace hs := hide hs
      go_wp2
      go_ret
      exact ⟨_, _, rfl, hs.out.more (Nat.le_refl _) hz, hb⟩

/-- The ways left, as the walk counts them. -/
theorem exits_step {g : DV} {alive : List Bool} {l : List Int} {k : Nat} {x : Int} (hx : l[k]? = some x) :
    (((l.take (k + 1)).map Int.toNat).filter (inS alive)).length = (((l.take k).map Int.toNat).filter (inS alive)).length + if inS alive x.toNat then 1 else 0 := by
  rw [List.take_add_one, hx, List.map_append, List.filter_append, List.length_append]
  by_cases h : inS alive x.toNat = true <;> simp [List.filter_cons, h]

set_option maxHeartbeats 800000 in
theorem exits_calls (b : Nat) (g : DV) (alive : List Bool) (v : Nat) (w : World) (h : ArenaAt w b g alive) (ok : GameOk g) (hv : v < g.length) :
    Calls Try.prog 128 #[.pointer (some ⟨b, 0, none⟩), .int .i64 (v : Int)] w fun e w' => e = .returned (.int .i64 (exitsF g alive v)) ∧ w = w' := by
  obtain ⟨b1, o1, cg, b2, o2, cb, b3, o3, ci, Q, c0, c1, c2, hg, -, -, ha, hbl, hn0, hn1⟩ := h.open_ ok
  obtain ⟨o, p, l, Ah, nh, ch, hx, d0, d1, d2, hl, hnh, -, -, hinc⟩ := hg.cell ok hv
  have hnx := hide (gNxt_at hx)
  have hlen := hide hl.len
  replace hl := hide hl
  replace ha := hide ha
  replace hinc := hide hinc
  clear h ok hg hx
  generalize g.length = n at *
  go_enter Try.func128, Try.ntmps128
  go_wp2
  go_loop [5, 17] (fun s i => ∃ (k m : Nat), k ≤ nh ∧ i = .int .i64 k ∧ s = .int .i64 m ∧ Hid (m = (((l.take k).map Int.toNat).filter (inS alive)).length) ∧ m ≤ k) (fun _ i => nh - (intOf i).toNat)
  case atStart => exact ⟨0, 0, Nat.zero_le _, rfl, rfl, rfl, Nat.le_refl _⟩
  case round =>
    obtain ⟨k, m, hk, rfl, rfl, hm, hmk⟩ := hrel
    by_cases hlt : k < nh
    · obtain ⟨bh, oh, eAh, -⟩ := hl.out.at_ (show 0 < nh by omega)
      have hl2 := hl.out
      rw [eAh] at hl2
      obtain ⟨x, hx, e0, -⟩ := hl2.cell hlt
      have hxb := hinc.out.at_ hx
      have hx0 := hxb.1
      have hx1 := hxb.2
      have al0 := ha.out.cell (show x.toNat < n by omega)
      have hst := exits_step (g := g) (alive := alive) hx
      rw [← hm.out] at hst
      subst eAh
      clear hl2 hl hx hxb ha
      by_cases z1 : inS alive x.toNat = true
      · rw [if_pos z1] at hst
        rw [z1] at al0
        replace hst := hide hst
        clear z1
        go_wp2
        go_round
        case rel => exact ⟨k + 1, m + 1, by omega, by go_num, by go_num, hst.out.symm, by omega⟩
        case measure => simp [intOf]; omega
      · rw [if_neg z1] at hst
        rw [Bool.eq_false_iff.2 z1] at al0
        replace hst := hide hst
        clear z1
        go_wp2
        go_round
        case rel => exact ⟨k + 1, m, by omega, by go_num, rfl, hst.out.symm, by omega⟩
        case measure => simp [intOf]; omega
    · have hkn : k = nh := by omega
      subst hkn
      have hm' := hm.out
      rw [List.take_of_length_le (by rw [hlen.out]; exact Nat.le_refl _), ← hnx.out] at hm'
      replace hm' := hide hm'
      clear hl ha
      go_wp2
      go_ret
      exact ⟨by unfold exitsF; rw [← hm'.out]; rfl, rfl⟩

end Go.Proofs.Ytbnneahjjcamlaa
