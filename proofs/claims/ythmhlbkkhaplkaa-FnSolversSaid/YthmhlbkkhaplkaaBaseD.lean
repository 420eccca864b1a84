/-
  Several texts in one:
  Arenas: without some vertices. Conditions: valid games.
  A queue of numbers (a slice of the call's own that is cut at its head and appended to at its end), and maps from numbers to counts that the call has made. Conditions: short queues.
  The program's attractor. Conditions: valid games, a set within the vertices that are left.
  The program's arena of a game: who may move where. Conditions: valid games.
  The program's arena of a game: the walk. Conditions: valid games.
  The function values that the program's win hands to marked. Conditions: valid games.
-/
import Derived.Test.YthmhlbkkhaplkaaBaseC
import Derived.StillTailTactics
import Derived.Maps.OwnSet
import Derived.Maps.Views
import Derived.ArgAppend
import Derived.Deep.DeepCutAuto
import Derived.Deep.RegionLaw
import Derived.Deep.CutRange
set_option linter.unusedSimpArgs false
set_option linter.unusedVariables false
namespace Go.Proofs.Ythmhlbkkhaplkaa
open Go.ChangeShapes Go.WideShapes Go.ChangeAt Go.RowKit
set_option linter.unusedVariables false

set_option maxHeartbeats 1600000 in
set_option maxRecDepth 100000 in
theorem without_calls (b : Nat) (g : DV) (alive gone : List Bool) (C : Option Addr) (d : Nat) (w : World) (h : ArenaAt w b g alive) (ok : GameOk g) (hg2 : SetAt w C g.length gone) :
    Calls Try.prog 59 #[.pointer (some ⟨b, 0, none⟩), .slice C g.length d] w fun e w' => ∃ b', e = .returned (.pointer (some ⟨b', 0, none⟩)) ∧ ArenaAt w' b' g (setOf g.length fun v => inS alive v && !inS gone v) ∧ Below w.heap.size w w' := by
  obtain ⟨b1, o1, cg, b2, o2, cb, b3, o3, ci, Q, c0, c1, c2, hg, hbk, hbo, ha, hbl, hn0, hn1⟩ := h.open_ ok
  have hal := hide ha.len
  obtain ⟨b4, o4, rfl, -⟩ := hg2.addr hn0
  have q := hide (cloneB_calls (some ⟨b3, o3, none⟩) g.length ci alive w.drew 0 _ ha.sl (by omega))
  replace hg2 := hide hg2
  replace ha := hide ha
  replace hg := hide hg
  replace hbk := hide hbk
  replace hbo := hide hbo
  clear h ok
  generalize hgl : g.length = n at *
  replace hgl := hide hgl
  go_enter Try.func59, Try.ntmps59
  go_wp2
  go_region_held3 (fun w' => w'.cell? ⟨b, 0, none⟩ = some (.slice (some ⟨b1, o1, none⟩) n cg) ∧ w'.cell? ⟨b, 1, none⟩ = some (.slice (some ⟨b2, o2, none⟩) n cb) ∧ w'.cell? ⟨b, 2, none⟩ = some (.slice (some ⟨b3, o3, none⟩) n ci)) (first | exact ⟨k0, k1, k2⟩ | go_keep)
    (first | (go_at_call 84; (refine q.out.mono ?_); rintro e w1 ⟨A1, k, rfl, hs1, hb1⟩; have k0 := (hb1.cell (p := ⟨b, 0, none⟩) hbl).trans c0; have k1 := (hb1.cell (p := ⟨b, 1, none⟩) hbl).trans c1; have k2 := (hb1.cell (p := ⟨b, 2, none⟩) hbl).trans c2; replace hs1 := hide hs1))
  have hs1' := hs1.out
  obtain ⟨bi, oi, rfl, hi1, hi2, hi3, -⟩ := hs1'.at_ hn0
  have bel1 : Below w.heap.size w w1 := (Below.refl _ _).drew.trans hb1
  have hz1 : w.heap.size ≤ w1.heap.size := bel1.size
  have bel2 := bel1.alloc hz1 (.cells #[.slice (some ⟨b1, o1, none⟩) n cg, .slice (some ⟨b2, o2, none⟩) n cb, .slice (some ⟨bi, oi, none⟩) n k] 105)
  have hblk := heap_alloc_new w1 (.cells #[.slice (some ⟨b1, o1, none⟩) n cg, .slice (some ⟨b2, o2, none⟩) n cb, .slice (some ⟨bi, oi, none⟩) n k] 105)
  have hs2 := (Sl.below hs1' ((Below.refl w1.heap.size w1).alloc (Nat.le_refl _) (.cells #[.slice (some ⟨b1, o1, none⟩) n cg, .slice (some ⟨b2, o2, none⟩) n cb, .slice (some ⟨bi, oi, none⟩) n k] 105)) (.inr (Nat.le_refl _))).tight' hn0
  have hz2 : w1.heap.size < (w1.alloc (.cells #[.slice (some ⟨b1, o1, none⟩) n cg, .slice (some ⟨b2, o2, none⟩) n cb, .slice (some ⟨bi, oi, none⟩) n k] 105)).heap.size := by simp
  generalize hW2 : (w1.alloc (.cells #[.slice (some ⟨b1, o1, none⟩) n cg, .slice (some ⟨b2, o2, none⟩) n cb, .slice (some ⟨bi, oi, none⟩) n k] 105)) = W2 at *
  have hi1 : w.heap.size ≤ bi := hi1
  replace hblk := hide hblk
  replace hs2 := hide hs2
  replace bel2 := hide bel2
  clear hs1' hs1 hb1 k0 k1 k2 hi3
  go_wp2_with fail
  try rw [hW2]
  clear hW2
  generalize w1.heap.size = B at *
  go_loopw [25] (fun i wr => ∃ j : Nat, j ≤ n ∧ i = .int .i64 j ∧ SlB wr bi (bi + 1) (some ⟨bi, oi, none⟩) n (setM alive j fun v => inS alive v && !inS gone v) ∧ Only bi (bi + 1) W2 wr) (fun i _ => n - (intOf i).toNat)
  case atStart => exact ⟨0, Nat.zero_le _, rfl, by rw [setM_zero]; exact hs2.out, Only.refl _ _ _⟩
  case round =>
    obtain ⟨j, hj, rfl, hs, ho⟩ := hrel
    clear hs2
    have hbW := Only.below bel2.out ho hi1 bel2.out.size
    have hblkr := (ho.block B hz2 (.inr (by omega))).trans hblk.out
    by_cases hlt : j < n
    · have y0 := (cell_of_row _ _ 0 _ _ (0, 0) hblkr).trans rfl
      have y1 := (cell_of_row _ _ 1 _ _ (0, 0) hblkr).trans rfl
      have y2 := (cell_of_row _ _ 2 _ _ (0, 0) hblkr).trans rfl
      obtain ⟨s0, z0, -, -, -⟩ := SlB.cell hs hlt
      rw [inS_setM (by rw [hal.out]; exact hlt)] at s0
      have g0 := (hg2.out.below hbW (Nat.le_refl _)).cell hlt
      have hput : ∀ v, v = (inS alive j && !inS gone j) → SlB (wr.setCell ⟨bi, oi + j, none⟩ (.bool v)) bi (bi + 1) (some ⟨bi, oi, none⟩) n (setM alive (j + 1) fun v => inS alive v && !inS gone v) := fun v hv => by
        have := hs.put hlt v
        rwa [setM_step (by rw [hal.out]; exact hlt) hv] at this
      replace hput := hide hput
      have hi0 : (0 : Int) ≤ (j : Int) := by omega
      have hi9 : (j : Int) < (n : Int) := by omega
      clear hs hblkr hg2 c0 c1 c2
      by_cases z1 : inS alive j = true
      · rw [z1] at s0
        have hnext := hide (hput.out (!inS gone j) (by rw [z1]; rfl))
        clear z1 hput
        generalize inS gone j = gj at *
        go_wp2
        go_still_tail 17, (by kernel_rfl)
        change wpList _ _ _ _ _ wr.drew
        go_wp2
        go_roundw
        case rel => exact ⟨j + 1, by omega, by go_num, hnext.out.drewN 1, (ho.setCell (p := ⟨bi, oi + j, none⟩) (Nat.le_refl _) (Nat.lt_succ_self _) _).drewN 1⟩
        case measure => simp [intOf]; omega
      · replace z1 := Bool.eq_false_iff.2 z1
        rw [z1] at s0
        have hnext := hide (hput.out false (by rw [z1]; rfl))
        clear z1 hput
        generalize inS gone j = gj at *
        go_wp2
        go_still_tail 17, (by kernel_rfl)
        change wpList _ _ _ _ _ wr.drew
        go_wp2
        go_roundw
        case rel => exact ⟨j + 1, by omega, by go_num, hnext.out.drewN 1, (ho.setCell (p := ⟨bi, oi + j, none⟩) (Nat.le_refl _) (Nat.lt_succ_self _) _).drewN 1⟩
        case measure => simp [intOf]; omega
    · have hjn : j = n := by omega
      subst hjn
      rw [setM_all _ hal.out] at hs
      replace hs := hide hs
      replace hblkr := hide hblkr
      replace hbW := hide hbW
      clear c0 c1 c2
      go_wp2
      go_ret
      refine ⟨B, rfl, ⟨some ⟨b1, o1, none⟩, cg, some ⟨b2, o2, none⟩, cb, some ⟨bi, oi, none⟩, k, Q, ?_, ?_, ?_, hbo.out, ?_⟩, hbW.out⟩
      · rw [hgl.out]; exact hblkr.out
      · rw [hgl.out]; exact hg.out.below hbW.out (Nat.le_refl _)
      · rw [hgl.out]; exact (hbk.out.below hbW.out (.inl (Nat.le_refl _))).more (Nat.le_refl _) hbW.out.size
      · rw [hgl.out]; exact SlB.at_set hs.out

end Go.Proofs.Ythmhlbkkhaplkaa

namespace Go.Proofs.Ythmhlbkkhaplkaa
open Go.ChangeShapes Go.WideShapes Go.ChangeAt Go.RowKit
open Go.Maps (Keyed keyOf_int_mk)
set_option linter.unusedVariables false

/-- The slice value `.slice A n c` is the call's own (a block from base on, at whatever offset), and holds l. -/
def OwnQ (w : World) (base : Nat) (A : Option Addr) (n c : Nat) (l : List Int) : Prop :=
  l.length = n ∧ ((A = none ∧ n = 0 ∧ c = 0) ∨ ∃ g off cur, A = some ⟨g, off, none⟩ ∧ base ≤ g ∧ w.heap[g]? = some (.cells cur 2 (0, 0)) ∧ n ≤ c ∧ c ≤ maxLen ∧ off + c ≤ cur.size ∧ ∀ (i : Nat) (x : Int), l[i]? = some x → cur[off + i]? = some (.int .i64 x))

section
variable {w w' : World} {base n c : Nat} {A : Option Addr} {l : List Int}
theorem OwnQ.len (h : OwnQ w base A n c l) : l.length = n := h.1
theorem OwnQ.of (h : Own 1 iv w base 2 A n c l) : OwnQ w base A n c l := by
  refine ⟨h.1, ?_⟩
  rcases h.2.2 with ⟨hv, h0⟩ | ⟨g, cap, cur, hv, hb, hg, hnc, hcm, hcs, htake⟩
  · injection hv with h1 _ h3
    exact .inl ⟨h1, h0, h3⟩
  · injection hv with h1 _ h3
    subst h1 h3
    refine .inr ⟨g, 0, cur, rfl, hb, hg, hnc, hcm, by omega, fun i x hx => ?_⟩
    have h1 := flat_at flat_iv l i x hx 0 _ rfl
    rw [← htake] at h1
    rw [List.getElem?_take] at h1
    split at h1
    · simpa using h1
    · cases h1
theorem OwnQ.keep (h : OwnQ w base A n c l) (hk : ∀ g, base ≤ g → (Value.slice A n c).ownBlock = some g → w'.heap[g]? = w.heap[g]?) : OwnQ w' base A n c l := by
  refine ⟨h.1, ?_⟩
  rcases h.2 with hn | ⟨g, off, cur, rfl, hb, hg, rest⟩
  · exact .inl hn
  · exact .inr ⟨g, off, cur, rfl, hb, (hk g hb rfl).trans hg, rest⟩
theorem OwnQ.lt (h : OwnQ w base A n c l) : ∀ g, (Value.slice A n c).ownBlock = some g → base ≤ g ∧ g < w.heap.size := by
  intro g hg
  rcases h.2 with ⟨rfl, _⟩ | ⟨g', off, cur, rfl, hb, hg', rest⟩
  · cases hg
  · cases hg
    exact ⟨hb, (Array.getElem?_eq_some_iff.1 hg').1⟩
theorem OwnQ.kept {row : Option Nat} (h : OwnQ w base A n c l) (hg : w.grownBy w' row) (hne : (Value.slice A n c).ownBlock = none ∨ (Value.slice A n c).ownBlock ≠ row) : OwnQ w' base A n c l :=
  h.keep fun g _ e => hg.block g (h.lt g e).2 (by
    rcases hne with hne | hne
    · rw [e] at hne; cases hne
    · rw [e] at hne; exact hne)
theorem OwnQ.alloc (h : OwnQ w base A n c l) (o : Obj) : OwnQ (w.alloc o) base A n c l := h.kept (World.grownBy_alloc w o none) (by cases (Value.slice A n c).ownBlock <;> simp)
theorem OwnQ.drewN (h : OwnQ w base A n c l) (k : Nat) : OwnQ (w.drewN k) base A n c l := h
/-- The first element. -/
theorem OwnQ.head {x : Int} {r : List Int} (h : OwnQ w base A n c (x :: r)) : ∃ g off, A = some ⟨g, off, none⟩ ∧ w.cell? ⟨g, off, none⟩ = some (.int .i64 x) ∧ 0 < n ∧ n ≤ c := by
  have hl := h.1
  simp at hl
  rcases h.2 with ⟨rfl, h0, _⟩ | ⟨g, off, cur, rfl, hb, hg, h1, h2, h3, h4⟩
  · omega
  · refine ⟨g, off, rfl, (cell_of_row w g off cur _ (0, 0) hg).trans ?_, by omega, h1⟩
    have := h4 0 x rfl
    simpa using this
/-- `q[1:]`. -/
theorem OwnQ.cut {x : Int} {r : List Int} (h : OwnQ w base A n c (x :: r)) : OwnQ w base (cutA A 1 c 1) (n - 1) (c - 1) r := by
  have hl := h.1
  simp at hl
  rcases h.2 with ⟨rfl, h0, _⟩ | ⟨g, off, cur, rfl, hb, hg, h1, h2, h3, h4⟩
  · omega
  · refine ⟨by omega, .inr ?_⟩
    by_cases hc : c = 1
    · subst hc
      refine ⟨g, off, cur, by simp [cutA], hb, hg, by omega, by unfold maxLen; omega, by omega, fun i y hy => ?_⟩
      have hr : r = [] := List.eq_nil_of_length_eq_zero (by omega)
      subst hr
      simp at hy
    · refine ⟨g, off + 1, cur, by unfold cutA; rw [if_neg hc, Option.map_some, addr_add], hb, hg, by omega, by omega, by omega, fun i y hy => ?_⟩
      have := h4 (i + 1) y (by simpa using hy)
      rw [show off + 1 + i = off + (i + 1) by omega]
      exact this
end

/-- append of one number to a queue. -/
theorem run_appQ (w : World) (ty : TypeId) {base n c : Nat} {A : Option Addr} {l : List Int} (h : OwnQ w base A n c l) (ad : Addr) (d : Nat) (x : Int) (hx : w.cell? ad = some (.int .i64 x)) (hn : n + 1 ≤ 1048576) (hbase : base ≤ w.heap.size) :
    ∃ A' c' w', (Builtin.append_ #[26, 26] ty #[.slice A n c, .slice (some ad) 1 d]).run Try.prog w = .ok (.slice A' (n + 1) c') w' ∧ OwnQ w' base A' (n + 1) c' (l ++ [x]) ∧ w.grownBy w' (Value.slice A n c).ownBlock ∧
      ((Value.slice A' (n + 1) c').ownBlock = (Value.slice A n c).ownBlock ∨ (Value.slice A' (n + 1) c').ownBlock = some w.heap.size) := by
  obtain ⟨i, hi, hz, hs, hby⟩ := info_parts info_int64
  have ht := Try.underlying26
  have hnews : ∀ j u, ([Value.int .i64 x] : List Value)[j]? = some u → w.cell? (ad.add j) = some u := by
    intro j u hj
    match j, hj with
    | 0, hj => simp at hj; subst hj; simpa [Addr.add] using hx
  have hzc : (Value.int .i64 0).cells.size = 1 := rfl
  have grown : ∀ (old : Nat) (olds : List Value), olds = l.map (Value.int .i64) → old < n + 1 → ∀ row : Option Nat,
      OwnQ (w.drew.alloc (.cells (olds.toArray ++ [Value.int .i64 x].toArray ++ Builtin.zeroCells (Value.int .i64 0).cells (grownCap w (n + 1) old 2 - (n + 1))) 2)) base (some ⟨w.heap.size, 0, none⟩) (n + 1) (grownCap w (n + 1) old 2) (l ++ [x]) ∧
      w.grownBy (w.drew.alloc (.cells (olds.toArray ++ [Value.int .i64 x].toArray ++ Builtin.zeroCells (Value.int .i64 0).cells (grownCap w (n + 1) old 2 - (n + 1))) 2)) row := by
    intro old olds hol ho row
    have hge := grownCap_ge w (n + 1) old 2
    have hcm : grownCap w (n + 1) old 2 ≤ maxLen := grownCap_le_maxLen w (n + 1) old 2 (by unfold maxLen; omega)
    refine ⟨⟨by rw [List.length_append, h.1]; rfl, .inr ⟨w.heap.size, 0, _, rfl, hbase, heap_alloc_new w.drew _, hge, hcm, ?_, fun i y hy => ?_⟩⟩, ⟨rfl, rfl, rfl, by simp, fun k hk _ => Below.heap_alloc w.drew _ k hk⟩⟩
    · simp only [Array.size_append, List.size_toArray, size_zeroCells, hzc, hol, List.length_map, h.1, List.length_singleton]
      omega
    · have hil : i < n + 1 := by
        have := (List.getElem?_eq_some_iff.1 hy).1
        rw [List.length_append, h.1] at this
        simpa using this
      have e1 : (olds.toArray ++ [Value.int .i64 x].toArray : Array Value) = ((l ++ [x]).map (Value.int .i64)).toArray := by rw [hol]; simp
      rw [Nat.zero_add, Array.getElem?_append_left (by rw [e1]; simp [h.1]; omega), e1]
      simp only [List.getElem?_toArray, List.getElem?_map, hy, Option.map_some]
  rcases h.2 with ⟨rfl, rfl, rfl⟩ | ⟨g, off, cur, rfl, hb, hg, hnc, hcm, hcs, hcur⟩
  · have hl : l = [] := List.eq_nil_of_length_eq_zero h.1
    subst hl
    have hr := run_append_nil (P := Try.prog) w 26 ty 2 i _ ht hi hz ad 1 d [.int .i64 x] (by rw [hs]; rfl) hnews (by omega) (by omega) (by rw [hby]; omega)
    obtain ⟨g1, g2⟩ := grown 0 [] rfl (by omega) (Value.ownBlock (.slice none 0 0))
    simp only [Nat.zero_add, Array.empty_append] at g1 g2 ⊢
    exact ⟨_, _, _, hr, g1, g2, .inr rfl⟩
  · by_cases hroom : n + 1 ≤ c
    · have hcell : (w.cell? ⟨g, off + n, none⟩).isSome = true := by
        rw [cell_of_row w g _ cur _ (0, 0) hg, Array.getElem?_eq_getElem (by omega)]
        rfl
      have hr := run_append_room_cells (P := Try.prog) w 26 ty 2 i ht hi g off n c ad 1 d [.int .i64 x] (by rw [hs]; rfl) hnews (by intro u hu; simp at hu; subst hu; rfl) hroom
        (fun j hj => by
          simp at hj
          subst hj
          rw [hs, Nat.mul_one, Nat.add_zero]
          exact hcell) (fun j hj => frozen_of_row w g _ cur _ hg)
      refine ⟨_, _, _, hr, ?_, ?_, .inl rfl⟩
      · rw [hs, Nat.mul_one]
        show OwnQ (w.setCell ⟨g, off + n, none⟩ (.int .i64 x)) base _ _ _ _
        refine ⟨by rw [List.length_append, h.1]; rfl, .inr ⟨g, off, cur.setIfInBounds (off + n) (.int .i64 x), rfl, hb, heap_setCell_same w g _ cur _ _ hg, hroom, hcm, by simpa using hcs, fun i y hy => ?_⟩⟩
        by_cases hin : i < n
        · rw [Array.getElem?_setIfInBounds_ne (by omega)]
          rw [List.getElem?_append_left (by rw [h.1]; exact hin)] at hy
          exact hcur i y hy
        · have : i = n := by
            have := (List.getElem?_eq_some_iff.1 hy).1
            rw [List.length_append, h.1] at this
            simp at this
            omega
          subst this
          rw [List.getElem?_append_right (by rw [h.1]; exact Nat.le_refl _), h.1, Nat.sub_self] at hy
          simp at hy
          subst hy
          simp [Array.getElem?_setIfInBounds]
          omega
      · rw [hs, Nat.mul_one]
        show w.grownBy (w.setCell ⟨g, off + n, none⟩ (.int .i64 x)) _
        exact ⟨rfl, rfl, rfl, by rw [World.size_setCell]; exact Nat.le_refl _, fun k hk hne => Below.heap_setCell w _ _ k (fun e => hne (by rw [e]; rfl))⟩
    · have holds : ∀ j u, (l.map (Value.int .i64))[j]? = some u → w.cell? ((⟨g, off, none⟩ : Addr).add j) = some u := by
        intro j u hj
        rw [List.getElem?_map] at hj
        obtain ⟨y, hy, rfl⟩ := Option.map_eq_some_iff.1 hj
        rw [addr_add, cell_of_row w g _ cur _ (0, 0) hg]
        exact hcur j y hy
      have hr := run_append_grow (P := Try.prog) w 26 ty 2 i _ ht hi hz ⟨g, off, none⟩ n c (l.map (Value.int .i64)) (by rw [List.length_map, h.1, hs, Nat.mul_one]) holds ad 1 d [.int .i64 x] (by rw [hs]; rfl) hnews (by omega) (by omega) (growslice_fits (by omega) (by rw [hby]; omega))
      obtain ⟨g1, g2⟩ := grown c _ rfl (by omega) (Value.ownBlock (.slice (some ⟨g, off, none⟩) n c))
      exact ⟨_, _, _, hr, g1, g2, .inr rfl⟩

/-- .. at the walk's operation. -/
theorem wpList_appQ {w : World} {ops : Array Oper} {rest : List Oper} {o : Oper} {a : Act} {Q : Exit → Act → World → Prop} (hgd : o.guard = none) (s x : Operand)
    (ho : o.op = .call { callee := .builtin .append, args := #[s, x], argTypes := #[26, 26] })
    {base n c : Nat} {A : Option Addr} {l : List Int} (hs : a.eval s = .slice A n c) (h : OwnQ w base A n c l) (ad : Addr) (d : Nat) (y : Int) (hx : a.eval x = .slice (some ad) 1 d) (hy : w.cell? ad = some (.int .i64 y)) (hn : n + 1 ≤ 1048576) (hbase : base ≤ w.heap.size)
    (hK : ∀ A' c' w', OwnQ w' base A' (n + 1) c' (l ++ [y]) → w.grownBy w' (Value.slice A n c).ownBlock → Below base w w' →
      ((Value.slice A' (n + 1) c').ownBlock = (Value.slice A n c).ownBlock ∨ (Value.slice A' (n + 1) c').ownBlock = some w.heap.size) → wpList Try.prog ops Q rest (a.put o.dst (.slice A' (n + 1) c')) w') : wpList Try.prog ops Q (o :: rest) a w := by
  refine wpList_plain hgd fun K hK' => ?_
  obtain ⟨A', c', w', h1, h2, h3, h4⟩ := run_appQ w o.type h ad d y hy hn hbase
  unfold Oper.wp execOp
  simp only [ho, resolve, invoke, builtin, Sem.run_bind, Sem.run_pure, Result.andThen_ok, List.map_toArray, List.map_cons, List.map_nil, hs, hx, h1]
  exact hK' _ _ (hK A' c' w' h2 h3 ((Below.refl _ _).grown h3 hbase fun k hk => (h.lt k hk).1) h4)

/-- Block b is a map of at most n entries that answers as f. -/
def MapQ (w : World) (b n : Nat) (f : Int → Option Int) : Prop :=
  ∃ D : DataW Unit, w.ownsMap Try.prog 2 (plainElem Try.prog 3) b n D ∧ ∀ k : Int, (Lit.int .i64 k).wf = true → Maps.has D (.int .i64 k) = (f k).isSome ∧ ∀ c, f k = some c → D.atKey (.int .i64 k) (.lit (.int .i64 0)) = .lit (.int .i64 c)

theorem keyedQ : Keyed Try.prog 2 := Go.Maps.int_keyed Try.underlying2
theorem zeroQ (w : World) : (zeroValue 3).run Try.prog w = .ok (.int .i64 0) w := by kernel_rfl

section
variable {w w' : World} {b n : Nat} {f : Int → Option Int}
theorem MapQ.made (w : World) : MapQ (w.alloc (.map #[] 0)) w.heap.size 0 (fun _ => none) :=
  ⟨.map [], World.ownsMap_made _ _ _ _, fun k _ => ⟨rfl, fun c h => by cases h⟩⟩
theorem MapQ.lt (h : MapQ w b n f) : b < w.heap.size := by obtain ⟨D, h1, _⟩ := h; exact h1.lt
theorem MapQ.kept {row : Option Nat} (h : MapQ w b n f) (hg : w.grownBy w' row) (hne : some b ≠ row) : MapQ w' b n f := by
  obtain ⟨D, h1, h2⟩ := h
  exact ⟨D, h1.kept hg hne, h2⟩
theorem MapQ.keep (h : MapQ w b n f) (hs : w.heap.size ≤ w'.heap.size) (hb : w'.heap[b]? = w.heap[b]?) : MapQ w' b n f := by
  obtain ⟨D, ⟨es, clock, h1, r⟩, h2⟩ := h
  exact ⟨D, ⟨es, clock, hb.trans h1, r⟩, h2⟩
set_option maxRecDepth 100000 in
theorem MapQ.lookOk (h : MapQ w b n f) {k : Int} (hk : (Lit.int .i64 k).wf = true) : ∃ c : Int, (Instr.lookup 107 (.map (some b)) (.int .i64 k) true).run Try.prog w = .ok (.tuple #[.int .i64 c, .bool (f k).isSome]) w ∧ ∀ c', f k = some c' → c = c' := by
  obtain ⟨D, h1, h2⟩ := h
  obtain ⟨h3, h4⟩ := h2 k hk
  obtain ⟨v, ps, hr, hv⟩ := h1.look_ok keyedQ Try.underlying107 (zeroQ w) (plainElem_int Try.underlying3 (by decide)) (keyOf_int_mk Try.underlying2 hk)
  obtain ⟨c, rfl, hc, hw⟩ := plainElem_int_inv Try.underlying3 hv
  simp only [Prod.mk.injEq] at hc
  rw [h3] at hr
  refine ⟨c, hr, fun c' hc' => ?_⟩
  rw [h4 c' hc'] at hc
  have := hc.1
  injection this with e
  injection e with _ e
  exact e.symm
set_option maxRecDepth 100000 in
theorem MapQ.look (h : MapQ w b n f) {k c : Int} (hk : (Lit.int .i64 k).wf = true) (hc : f k = some c) : (Instr.lookup 107 (.map (some b)) (.int .i64 k) false).run Try.prog w = .ok (.int .i64 c) w := by
  obtain ⟨D, h1, h2⟩ := h
  obtain ⟨h3, h4⟩ := h2 k hk
  obtain ⟨c', hr, hat, _⟩ := h1.lookup_int keyedQ Try.underlying107 Try.underlying3 (zeroQ w) (keyOf_int_mk Try.underlying2 hk)
  rw [h4 c hc] at hat
  injection hat with e
  injection e with _ e
  rw [e]
  exact hr
theorem MapQ.update (h : MapQ w b n f) (hn : n < maxLen) {k c : Int} (hk : (Lit.int .i64 k).wf = true) (hc : (Lit.int .i64 c).wf = true) :
    ∃ w', (Instr.mapUpdate 107 (.map (some b)) (.int .i64 k) (.int .i64 c)).run Try.prog w = .ok () w' ∧ MapQ w' b (n + 1) (fun i => if i = k then some c else f i) ∧ w.grownBy w' (some b) := by
  obtain ⟨D, h1, h2⟩ := h
  have hm := h1.isMap
  obtain ⟨w', hr, h3, h4⟩ := h1.update keyedQ Try.underlying107 hn (keyOf_int_mk Try.underlying2 hk) (plainElem_int Try.underlying3 hc)
  refine ⟨w', hr, ⟨_, h3, fun i hi => ?_⟩, h4⟩
  by_cases e : i = k
  · subst e
    simp only [if_true]
    refine ⟨Go.Maps.has_true_of_atKey fun z => Go.Maps.atKey_put_same hm (by trivial) _ z, fun c' hc' => ?_⟩
    cases hc'
    exact Go.Maps.atKey_put_same hm (by trivial) _ _
  · simp only [if_neg e]
    have hne : (Lit.int .i64 i) ≠ (Lit.int .i64 k) := fun h => e (by injection h)
    obtain ⟨h5, h6⟩ := h2 i hi
    refine ⟨?_, fun c' hc' => by rw [Go.Maps.atKey_put_other hne]; exact h6 c' hc'⟩
    rw [← h5]
    exact Go.Maps.has_put_other hne _
end

end Go.Proofs.Ythmhlbkkhaplkaa

namespace Go.Proofs.Ythmhlbkkhaplkaa
open Go.ChangeShapes Go.WideShapes Go.ChangeAt Go.RowKit
set_option linter.unusedVariables false

/-- The three things that the search writes. -/
structure MemA (W : World) (bo oo n : Nat) (out : List Bool) (bm m : Nat) (f : Int → Option Int) (qb : Nat) (A : Option Addr) (q c : Nat) (todo : List Int) : Prop where
  out : SlB W bo (bo + 1) (some ⟨bo, oo, none⟩) n out
  map : MapQ W bm m f
  que : OwnQ W qb A q c todo
  o1 : bo < bm
  o2 : bm < qb
  o3 : qb ≤ W.heap.size

section
variable {W W' : World} {bo oo n bm m qb q c : Nat} {out : List Bool} {f : Int → Option Int} {A : Option Addr} {todo : List Int}
theorem MemA.put (h : MemA W bo oo n out bm m f qb A q c todo) {k : Nat} (hk : k < n) : MemA (W.setCell ⟨bo, oo + k, none⟩ (.bool true)) bo oo n (out.set k true) bm m f qb A q c todo :=
  ⟨h.out.put hk true, h.map.keep (by rw [World.size_setCell]; exact Nat.le_refl _) (Below.heap_setCell _ _ _ _ (by have := h.o1; show bm ≠ bo; omega)), h.que.keep fun g hg _ => Below.heap_setCell _ _ _ _ (by have := h.o1; have := h.o2; show g ≠ bo; omega), h.o1, h.o2, by rw [World.size_setCell]; exact h.o3⟩
theorem MemA.grown (h : MemA W bo oo n out bm m f qb A q c todo) {m' : Nat} {f' : Int → Option Int} (hm : MapQ W' bm m' f') (hg : W.grownBy W' (some bm)) : MemA W' bo oo n out bm m' f' qb A q c todo := by
  have h1 := h.o1
  have h2 := h.o2
  have h3 := h.o3
  refine ⟨Sl.keep h.out hg.size fun b hb1 hb2 hb3 => hg.block b hb3 (by intro e; injection e with e; omega), hm, h.que.kept hg ?_, h1, h2, Nat.le_trans h3 hg.size⟩
  cases e : (Value.slice A q c).ownBlock with
  | none => exact .inl rfl
  | some g =>
    have := (h.que.lt g e).1
    right
    intro e2
    injection e2 with e2
    omega
theorem MemA.alloc (h : MemA W bo oo n out bm m f qb A q c todo) (o : Obj) : MemA (W.alloc o) bo oo n out bm m f qb A q c todo := by
  have h1 := h.o1
  have h2 := h.o2
  have h3 := h.o3
  exact ⟨Sl.keep h.out (by simp) fun b _ _ hb => Below.heap_alloc _ _ _ hb, h.map.keep (by simp) (Below.heap_alloc _ _ _ h.map.lt), h.que.alloc o, h1, h2, by simp; omega⟩
theorem MemA.app (h : MemA W bo oo n out bm m f qb A q c todo) {A' : Option Addr} {q' c' : Nat} {todo' : List Int} (hq : OwnQ W' qb A' q' c' todo') (hg : W.grownBy W' (Value.slice A q c).ownBlock) : MemA W' bo oo n out bm m f qb A' q' c' todo' := by
  have h1 := h.o1
  have h2 := h.o2
  have h3 := h.o3
  have hne : ∀ b, b < qb → some b ≠ (Value.slice A q c).ownBlock := fun b hb e => by
    have := (h.que.lt b e.symm).1
    omega
  exact ⟨Sl.keep h.out hg.size fun b hb1 hb2 hb3 => hg.block b hb3 (hne b (by omega)), h.map.kept hg (hne bm h2), hq, h1, h2, Nat.le_trans h3 hg.size⟩
theorem MemA.cut {x : Int} (h : MemA W bo oo n out bm m f qb A q c (x :: todo)) : MemA W bo oo n out bm m f qb (cutA A 1 c 1) (q - 1) (c - 1) todo := ⟨h.out, h.map, h.que.cut, h.o1, h.o2, h.o3⟩
end

theorem wf_of {x : Int} (h0 : 0 ≤ x) (h1 : x ≤ 1048576) : (Lit.int .i64 x).wf = true := WalkArith.wf_i64 (by omega)

theorem drop_at {l : List Int} {j : Nat} {x : Int} (h : l[j]? = some x) : l.drop j = x :: l.drop (j + 1) := by
  obtain ⟨hj, rfl⟩ := List.getElem?_eq_some_iff.1 h
  exact List.drop_eq_getElem_cons hj

/-- Row k of who may move where. -/
theorem RowsG.atI {most : Nat} {w : World} {lo hi n k b off : Nat} {R : List (Hd × List Int)} (h : RowsI most w lo hi (some ⟨b, off, none⟩) n R) (hk : k < n) :
    ∃ Ah nh ch s, R[k]? = some ((Ah, nh, ch), s) ∧ w.cell? ⟨b, off + k, none⟩ = some (.slice Ah nh ch) ∧ SlI w lo hi Ah nh s ∧ nh ≤ most := by
  obtain ⟨b', off', ⟨Ah, nh, ch⟩, s, e, g1, g2, g3, hr, hc, hs, hn⟩ := h.get hk
  cases e
  have h0 := (hc 0 _ rfl).1
  simp only [Nat.mul_one, Nat.add_zero] at h0
  exact ⟨Ah, nh, ch, s, hr, h0, hs, hn⟩

set_option maxHeartbeats 4000000 in
set_option maxRecDepth 100000 in
theorem attract_calls (b : Nat) (g : DV) (alive set : List Bool) (player : Int) (C : Option Addr) (d : Nat) (w : World) (h : ArenaAt w b g alive) (ok : GameOk g) (hset : SetAt w C g.length set) (hsub : ∀ v, inS set v = true → inS alive v = true) :
    Calls Try.prog 58 #[.pointer (some ⟨b, 0, none⟩), .int .i64 player, .slice C g.length d] w (GotB w g.length (attrF g alive player set)) := by
  obtain ⟨b1, o1, cg, b2, o2, cb, b3, o3, ci, Q, c0, c1, c2, hg, hbk, hbo, ha, hbl, hn0, hn1⟩ := h.open_ ok
  have hmm := @run_makeMap Try.prog
  have hal := hide ha.len
  have q1 := hide (cloneB_calls C g.length d set w 0 _ hset.sl (by omega))
  have hsl := hide hset.len
  have q2 := hide (fun W (hW : Below w.heap.size w W) => trueAt_calls C g.length d set W 0 _ (hset.below hW (Nat.le_refl _)).sl (by omega))
  replace h := hide h
  replace hg := hide hg
  replace ha := hide ha
  replace hbk := hide hbk
  replace hbo := hide hbo
  replace ok := hide ok
  replace hsub := hide hsub
  clear hset
  generalize hgl : g.length = n at *
  replace hgl := hide hgl
  go_enter Try.func58, Try.ntmps58
  go_wp2_with fail
  refine q1.out.mono ?_
  rintro e w1 ⟨A1, k1, rfl, hs1, hb1⟩
  obtain ⟨bo, oo, rfl, ho1, ho2, -, -⟩ := hs1.at_ hn0
  have hs1' := hs1.tight' hn0
  have hz1 := hb1.size
  have bel1 := hb1.alloc hz1 (.map #[] 0)
  have hmap := MapQ.made w1
  have hs2 := Sl.below hs1' ((Below.refl w1.heap.size w1).alloc (Nat.le_refl _) (.map #[] 0)) (.inr (Nat.le_refl _))
  have hz2 : (w1.alloc (.map #[] 0)).heap.size = w1.heap.size + 1 := by simp
  replace hs2 := hide hs2
  replace hmap := hide hmap
  clear hs1 hs1'
  go_wp2_with fail
  refine (q2.out _ bel1).mono ?_
  rintro e w2 ⟨A2, k2, rfl, hq, hb2⟩
  have hz3 := hb2.size
  rw [hz2] at hq hb2 hz3
  have bel2 := bel1.trans (hb2.mono (by rw [← hz2]; exact bel1.size))
  have hmem : MemA w2 bo oo n set w1.heap.size 0 (fun _ => none) (w1.heap.size + 1) A2 (idxOf set).length k2 (idxOf set) :=
    ⟨Sl.below hs2.out hb2 (.inl (by omega)), hmap.out.keep hb2.size (hb2.block _ (by omega)), OwnQ.of hq, ho2, Nat.lt_succ_self _, hz3⟩
  have hinit : Hid (AttrI g alive player set set (setOf g.length fun _ => false) (idxOf set) (fun _ => none) 0 []) := AttrI.start (by rw [hsl.out, hgl.out]) 0
  replace hmem := hide hmem
  replace bel2 := hide bel2
  generalize hbm : w1.heap.size = bm at *
  have hbow : w.heap.size ≤ bo := ho1
  clear hq hs2 hmap bel1 hb1 hb2 q1 q2 hmm hz2
  generalize hil : (idxOf set).length = il at *
  go_wp2_with fail
  go_loopg [9] n (fun N v wr => ∃ (out P : List Bool) (todo : List Int) (f : Int → Option Int) (A : Option Addr) (q c m : Nat), v = .slice A q c ∧ MemA wr bo oo n out bm m f (bm + 1) A q c todo ∧ Hid (AttrI g alive player set out P todo f 0 []) ∧ m ≤ 240 * cntT P ∧ Below w.heap.size w wr ∧ n - cntT P ≤ N)
  case atStart => exact ⟨set, _, _, _, A2, _, k2, 0, rfl, hmem.out, hinit, Nat.zero_le _, bel2.out, by omega⟩
  case round =>
    obtain ⟨out, P, todo, f, A, q, c, m, rfl, hM, hI, hm, hb, hN⟩ := hrel
    clear hmem bel2 hinit
    have hnP : cntT P ≤ n := by
      have h1 := cntT_le P
      rw [hI.out.plen, hgl.out] at h1
      exact h1
    cases todo with
    | nil =>
      have hq0 : q = 0 := hM.que.len.symm
      subst hq0
      have hfin := hide (hI.out.done (by rw [hal.out, hgl.out]))
      have hs := hide hM.out
      have hzz := hM.o3
      have h01 := hM.o1
      clear hM hI
      go_wp2
      go_ret
      have hs9 := hs.out.more hbow (show bo + 1 ≤ wr.heap.size by omega)
      rw [hfin.out] at hs9
      exact ⟨_, _, rfl, hs9, hb⟩
    | cons t todo =>
      obtain ⟨kk, rfl, hkk, hko, hkP⟩ := hI.out.head
      rw [hgl.out] at hkk
      obtain ⟨qg, qo, rfl, e0, hq0, hqc⟩ := hM.que.head
      have hcut : ∀ W : World, (Instr.slice 26 (.slice (some ⟨qg, qo, none⟩) q c) (some (.int .i64 1)) none none).run Try.prog W = .ok (.slice (cutA (some ⟨qg, qo, none⟩) 1 c 1) (q - 1) (c - 1)) W := fun W => run_cut elem_int64 (some ⟨qg, qo, none⟩) q c 1 (by omega) W
      have hM2 := hide hM.cut
      obtain ⟨Ah, nh, ch, row, hrow, r00, hrl, hrn⟩ := RowsG.atI hbk.out hkk
      have hb2l : b2 < w.heap.size := by
        obtain ⟨b2', o2', eb, -, -, h9, -⟩ := hbk.out.outer.at_ (show 0 < n from hn0)
        cases eb
        exact h9
      have r0 := (hb.cell (p := ⟨b2, o2 + kk, none⟩) hb2l).trans r00
      replace r00 := hide r00
      have hrow2 : (Q.map (·.2))[kk]? = some row := by rw [List.getElem?_map, hrow]; rfl
      obtain ⟨hnd, hrm⟩ := hbo.out.2 kk row hrow2
      have hpop := hide (hI.out.pop hnd (fun b' => by
        rw [hrm]
        constructor
        · rintro ⟨v, e, hv⟩; have : b' = v := by omega
          subst this; exact hv
        · intro hv; exact ⟨b', rfl, hv⟩))
      have hnum := cntT_set (s := P) (v := kk) (by rw [hI.out.plen, hgl.out]; exact hkk) hkP
      have hkP1 : Hid (inS (P.set kk true) kk = true) := by
        show _ = _
        rw [inS_set (by rw [hI.out.plen, hgl.out]; exact hkk), if_pos rfl]
      have y0 := (hb.cell (p := ⟨b, 0, none⟩) hbl).trans c0
      have y1 := (hb.cell (p := ⟨b, 1, none⟩) hbl).trans c1
      have y2 := (hb.cell (p := ⟨b, 2, none⟩) hbl).trans c2
      have hrl2 := hide hrl
      have hrll := hide hrl.len
      have hnh : nh ≤ 120 := by
        have h1 := nodup_le n (row.map Int.toNat) (by
          unfold List.Nodup
          rw [List.pairwise_map]
          refine List.Pairwise.imp_of_mem ?_ hnd
          intro a1 a2 m1 m2 hne e
          obtain ⟨v1, rfl, _⟩ := (hrm a1).1 m1
          obtain ⟨v2, rfl, _⟩ := (hrm a2).1 m2
          apply hne
          simp at e
          rw [e]) (fun x hx => by
          obtain ⟨y, hy, rfl⟩ := List.mem_map.1 hx
          obtain ⟨v1, rfl, hv⟩ := (hrm y).1 hy
          have := gNxt_src hv
          have := hgl.out
          simp
          omega)
        rw [List.length_map, hrl.len] at h1
        omega
      replace hrm := hide hrm
      obtain ⟨N2, rfl⟩ : ∃ N2, gk = N2 + 1 := ⟨gk - 1, by have := cntT_le (P.set kk true); rw [List.length_set, hI.out.plen, hgl.out] at this; omega⟩
      clear hM hI hrow hrow2 hrl hnd hbk hbo
      obtain ⟨wo, rfl⟩ : ∃ wo : World, wo = wr := ⟨_, rfl⟩
      generalize cutA (some ⟨qg, qo, none⟩) 1 c 1 = AC at *
      go_wp2
      go_loopw [9, 36] (fun v i wr => ∃ (j : Nat) (out : List Bool) (todo : List Int) (f : Int → Option Int) (A : Option Addr) (q c m : Nat), j ≤ nh ∧ i = .int .i64 j ∧ v = .slice A q c ∧ MemA wr bo oo n out bm m f (bm + 1) A q c todo ∧ Hid (AttrI g alive player set out (P.set kk true) todo f kk (row.drop j)) ∧ m ≤ 240 * cntT P + 2 * j ∧ Below w.heap.size w wr) (fun _ i _ => nh - (intOf i).toNat)
      case atStart => exact ⟨0, out, todo, f, AC, _, _, m, Nat.zero_le _, rfl, rfl, hM2.out, (by rw [List.drop_zero]; exact hpop.out), by omega, hb⟩
      case round =>
        clear hM2 hpop hb e0 r0 y0 y1 y2 hcut
        obtain ⟨j, out, todo, f, A, q, c, m, hj, rfl, rfl, hM, hI, hm, hb⟩ := hrel
        by_cases hlt : j < nh
        · have hl2 := Sl.below hrl2.out hb (.inl (Nat.le_refl _))
          obtain ⟨bh, oh, eAh, -⟩ := hl2.at_ (show 0 < nh by omega)
          rw [eAh] at hl2
          obtain ⟨x, hx, x0, -⟩ := SlI.cell hl2 hlt
          subst eAh
          obtain ⟨bv, rfl, hkb⟩ := (hrm.out x).1 (List.mem_of_getElem? hx)
          have hI1 : AttrI g alive player set out (P.set kk true) todo f kk ((bv : Int) :: row.drop (j + 1)) := by rw [← drop_at hx]; exact hI.out
          have hbg : bv < g.length := gNxt_src hkb
          have hbn : bv < n := by have := hgl.out; omega
          have y0 := (hb.cell (p := ⟨b, 0, none⟩) hbl).trans c0
          have y1 := (hb.cell (p := ⟨b, 1, none⟩) hbl).trans c1
          have y2 := (hb.cell (p := ⟨b, 2, none⟩) hbl).trans c2
          obtain ⟨s0, z0, -, -, -⟩ := SlB.cell hM.out hbn
          have a0 := (ha.out.below hb (Nat.le_refl _)).cell hbn
          obtain ⟨o, p, l, Aq, nq, cq, hxk, d0, d1, d2, -, -, -, -, -⟩ := (hg.out.below hb (Nat.le_refl _)).cell ok.out hbn
          have hown := gOwn_at hxk
          have hqt := hI1.todo_le
          rw [hM.que.len, hgl.out] at hqt
          clear hl2 hx hI hxk d1 d2
          by_cases z1 : inS alive bv = true
          · by_cases z2 : inS out bv = true
            · have hnext := hide (hI1.skip (.inr z2))
              rw [z1] at a0
              rw [z2] at s0
              replace hM := hide hM
              clear z1 z2 hI1 hown
              go_wp2
              go_roundw
              case rel => exact ⟨j + 1, out, todo, f, A, q, c, m, by omega, by go_num, rfl, hM.out, hnext, by omega, hb⟩
              case measure => simp [intOf]; omega
            · replace z2 := Bool.eq_false_iff.2 z2
              rw [z1] at a0
              rw [z2] at s0
              have hbow2 : w.heap.size ≤ (⟨bo, oo + bv, none⟩ : Addr).block := hbow
              by_cases z3 : o = player
              · have e3 : (o != player) = false := by simpa using z3
                have hadd := hide (hI1.add (f' := f) z2 hbg (hI1.attr_own hsub.out hkP1.out hkb z1 (hown.trans z3)) (fun _ _ => rfl))
                have hMp := hide (hM.put hbn)
                have hMa := hide ((hM.put hbn).alloc (.cells #[.int .i64 (bv : Int)] 2))
                have hbp := (hb.setCell hbow2 (.bool true)).alloc (show w.heap.size ≤ (wr.setCell ⟨bo, oo + bv, none⟩ (.bool true)).heap.size by rw [World.size_setCell]; have := hM.o1; have := hM.o2; have := hM.o3; omega) (.cells #[.int .i64 (bv : Int)] 2)
                have hcell0 := cell_one_new (wr.setCell ⟨bo, oo + bv, none⟩ (.bool true)) (.int .i64 (bv : Int)) 2 0 _ rfl
                rw [addr_add, Nat.zero_add, World.size_setCell] at hcell0
                replace hcell0 := hide hcell0
                replace hbp := hide hbp
                have hzq : bm + 1 ≤ ((wr.setCell ⟨bo, oo + bv, none⟩ (.bool true)).alloc (.cells #[.int .i64 (bv : Int)] 2)).heap.size := hMa.out.o3
                replace hM := hide hM
                clear z1 z2 z3 hI1 hown
                go_wp2_with (first | (at_builtin; (with_reducible refine wpList_appQ rfl (.tmp 88) (.tmp 90) rfl rfl hMa.out.que ⟨wr.heap.size, 0, none⟩ 1 (bv : Int) rfl hcell0.out ?k1 hzq ?_); rotate_right; intro A5 c5 w5 hown5 hgr5 hb5 _))
                case k1 => omega
                have hM5 := hide (hMa.out.app hown5 hgr5)
                have hb6 := hide (hbp.out.trans (hb5.mono (by have := hM.out.o1; omega)))
                clear hown5 hgr5 hb5
                go_roundw
                case rel => exact ⟨j + 1, _, _, f, A5, _, c5, m, by omega, by go_num, rfl, hM5.out, hadd, by omega, hb6.out⟩
                case measure => simp [intOf]; omega
              · have e3 : (o != player) = true := by simpa using z3
                have hop : gOwn g bv ≠ player := by rw [hown]; exact z3
                obtain ⟨hcnt, hfb⟩ := hI1.count (ok.out.nxt bv).1 (ok.out.nxt bv).2 hsub.out hkP1.out hkb z1 z2 hop
                have hbw : (Lit.int .i64 (bv : Int)).wf = true := wf_of (by omega) (by omega)
                have hmb : m + 2 < maxLen := by unfold maxLen; omega
                obtain ⟨c8, hl1, hl1c⟩ := hM.map.lookOk hbw
                cases hf : f bv with
                | none =>
                  rw [hf] at hl1 hcnt hfb
                  simp only [Option.isSome_none, Option.getD_none] at hl1 hcnt
                  have hne : exitsF g alive bv ≤ n := by
                    have h1 := nodup_le g.length _ ((ok.out.nxt bv).1.filter (inS alive)) fun y hy => (ok.out.nxt bv).2 y (List.mem_filter.1 hy).1
                    have := hgl.out
                    unfold exitsF
                    omega
                  have qe := hide (exits_calls b g alive bv wr (h.out.below hb (Nat.le_refl _)) ok.out hbg)
                  obtain ⟨w1, hu1, hm1, hg1⟩ := hM.map.update (by omega) hbw (wf_of (x := (exitsF g alive bv : Int)) (by omega) (by omega))
                  have hM1 := hM.grown hm1 hg1
                  have hl2 := hm1.look hbw (c := (exitsF g alive bv : Int)) (by simp)
                  obtain ⟨w2, hu2, hm2, hg2⟩ := hm1.update (by omega) hbw (wf_of (x := (exitsF g alive bv : Int) - 1) (by omega) (by omega))
                  have hM2 := hM1.grown hm2 hg2
                  have hl3 := hm2.look hbw (c := (exitsF g alive bv : Int) - 1) (by simp)
                  clear hl1c
                  by_cases hpos : 0 < cntL g alive (P.set kk true) bv
                  · have hnext := hI1.lower (c := (exitsF g alive bv : Int) - 1) hop hcnt (by omega)
                    have ef : (fun i : Int => if i = (bv : Int) then some ((exitsF g alive bv : Int) - 1) else if i = (bv : Int) then some (exitsF g alive bv : Int) else f i) = fun x => if x = (bv : Int) then some ((exitsF g alive bv : Int) - 1) else f x := by funext i; by_cases e : i = (bv : Int) <;> simp [e]
                    rw [← ef] at hnext
                    replace hnext := hide hnext
                    have hb2 := hide ((hb.grown hg1 (by have := hM.o1; have := hM.o2; have := hM.o3; omega) (fun k hk => by injection hk with hk; have := hM.o1; omega)).grown hg2 (by have := hM1.o1; have := hM1.o2; have := hM1.o3; omega) (fun k hk => by injection hk with hk; have := hM.o1; omega))
                    have p1 : (0 : Int) < (exitsF g alive bv : Int) - 1 := by omega
                    have p2 : (1 : Int) < (exitsF g alive bv : Int) := by omega
                    replace hM2 := hide hM2
                    clear hm1 hg1 hM1 hm2 hg2 hM z1 z2 z3 hI1 hown hcnt hfb hpos hop hf
                    go_wp2_with (go_at_call 86; (with_reducible refine qe.out.mono ?_); rintro e w' ⟨rfl, rfl⟩)
                    go_roundw
                    case rel => exact ⟨j + 1, out, todo, _, A, q, c, _, by omega, by go_num, rfl, hM2.out, hnext.out, by omega, hb2.out⟩
                    case measure => simp [intOf]; omega
                  · have hadd := hI1.add (f' := fun i : Int => if i = (bv : Int) then some ((exitsF g alive bv : Int) - 1) else if i = (bv : Int) then some (exitsF g alive bv : Int) else f i) z2 hbg (hI1.attr_other hsub.out hkP1.out hkb z1 hop (by omega)) (fun x hx => by simp only [if_neg (show ¬ ((x : Int) = (bv : Int)) by omega)])
                    replace hadd := hide hadd
                    have hb2 := (hb.grown hg1 (by have := hM.o1; have := hM.o2; have := hM.o3; omega) (fun k hk => by injection hk with hk; have := hM.o1; omega)).grown hg2 (by have := hM1.o1; have := hM1.o2; have := hM1.o3; omega) (fun k hk => by injection hk with hk; have := hM.o1; omega)
                    have hMa := hide ((hM2.put hbn).alloc (.cells #[.int .i64 (bv : Int)] 2))
                    obtain ⟨s2, z2', -, -, -⟩ := SlB.cell hM2.out hbn
                    have hbp := (hb2.setCell hbow2 (.bool true)).alloc (show w.heap.size ≤ (w2.setCell ⟨bo, oo + bv, none⟩ (.bool true)).heap.size by rw [World.size_setCell]; have := hM2.o1; have := hM2.o2; have := hM2.o3; omega) (.cells #[.int .i64 (bv : Int)] 2)
                    have hcell0 := cell_one_new (w2.setCell ⟨bo, oo + bv, none⟩ (.bool true)) (.int .i64 (bv : Int)) 2 0 _ rfl
                    rw [addr_add, Nat.zero_add, World.size_setCell] at hcell0
                    replace hcell0 := hide hcell0
                    replace hbp := hide hbp
                    have hzq : bm + 1 ≤ ((w2.setCell ⟨bo, oo + bv, none⟩ (.bool true)).alloc (.cells #[.int .i64 (bv : Int)] 2)).heap.size := hMa.out.o3
                    have hom := hM.o1
                    have p1 : ¬ (0 : Int) < (exitsF g alive bv : Int) - 1 := by omega
                    have p2 : ¬ (1 : Int) < (exitsF g alive bv : Int) := by omega
                    replace hM2 := hide hM2
                    clear hm1 hg1 hM1 hm2 hg2 hM z1 z2 z3 hI1 hown hcnt hfb hpos hop hb2 hf
                    go_wp2_with (first | (go_at_call 86; (with_reducible refine qe.out.mono ?_); rintro e w' ⟨rfl, rfl⟩) | (at_builtin; (with_reducible refine wpList_appQ rfl (.tmp 88) (.tmp 90) rfl rfl hMa.out.que ⟨w2.heap.size, 0, none⟩ 1 (bv : Int) rfl hcell0.out ?k1 hzq ?_); rotate_right; intro A5 c5 w5 hown5 hgr5 hb5 _))
                    case k1 => omega
                    have hM5 := hide (hMa.out.app hown5 hgr5)
                    have hb6 := hide (hbp.out.trans (hb5.mono (by omega)))
                    clear hown5 hgr5 hb5
                    go_roundw
                    case rel => exact ⟨j + 1, _, _, _, A5, _, c5, _, by omega, by go_num, rfl, hM5.out, hadd.out, by omega, hb6.out⟩
                    case measure => simp [intOf]; omega
                | some c9 =>
                  have e89 := hl1c c9 hf
                  subst e89
                  rw [hf] at hl1 hcnt hfb
                  simp only [Option.isSome_some, Option.getD_some] at hl1 hcnt
                  have hc9 := hfb _ rfl
                  obtain ⟨hc91, hc92⟩ := hc9
                  rw [hgl.out] at hc92
                  have hl2 := hM.map.look hbw hf
                  obtain ⟨w2, hu2, hm2, hg2⟩ := hM.map.update (by omega) hbw (wf_of (x := c8 - 1) (by omega) (by omega))
                  have hM2 := hM.grown hm2 hg2
                  have hl3 := hm2.look hbw (c := c8 - 1) (by simp)
                  clear hl1c
                  by_cases hpos : 0 < cntL g alive (P.set kk true) bv
                  · have hnext := hI1.lower (c := c8 - 1) hop hcnt (by omega)
                    skip
                    replace hnext := hide hnext
                    have hb2 := hide ((hb).grown hg2 (by have := hM.o1; have := hM.o2; have := hM.o3; omega) (fun k hk => by injection hk with hk; have := hM.o1; omega))
                    have p1 : (0 : Int) < c8 - 1 := by omega
                    have p2 : (1 : Int) < c8 := by omega
                    replace hM2 := hide hM2
                    clear  hm2 hg2 hM z1 z2 z3 hI1 hown hcnt hfb hpos hop hf
                    go_wp2_with fail
                    go_roundw
                    case rel => exact ⟨j + 1, out, todo, _, A, q, c, _, by omega, by go_num, rfl, hM2.out, hnext.out, by omega, hb2.out⟩
                    case measure => simp [intOf]; omega
                  · have hadd := hI1.add (f' := fun i : Int => if i = (bv : Int) then some (c8 - 1) else f i) z2 hbg (hI1.attr_other hsub.out hkP1.out hkb z1 hop (by omega)) (fun x hx => by simp only [if_neg (show ¬ ((x : Int) = (bv : Int)) by omega)])
                    replace hadd := hide hadd
                    have hb2 := (hb).grown hg2 (by have := hM.o1; have := hM.o2; have := hM.o3; omega) (fun k hk => by injection hk with hk; have := hM.o1; omega)
                    have hMa := hide ((hM2.put hbn).alloc (.cells #[.int .i64 (bv : Int)] 2))
                    obtain ⟨s2, z2', -, -, -⟩ := SlB.cell hM2.out hbn
                    have hbp := (hb2.setCell hbow2 (.bool true)).alloc (show w.heap.size ≤ (w2.setCell ⟨bo, oo + bv, none⟩ (.bool true)).heap.size by rw [World.size_setCell]; have := hM2.o1; have := hM2.o2; have := hM2.o3; omega) (.cells #[.int .i64 (bv : Int)] 2)
                    have hcell0 := cell_one_new (w2.setCell ⟨bo, oo + bv, none⟩ (.bool true)) (.int .i64 (bv : Int)) 2 0 _ rfl
                    rw [addr_add, Nat.zero_add, World.size_setCell] at hcell0
                    replace hcell0 := hide hcell0
                    replace hbp := hide hbp
                    have hzq : bm + 1 ≤ ((w2.setCell ⟨bo, oo + bv, none⟩ (.bool true)).alloc (.cells #[.int .i64 (bv : Int)] 2)).heap.size := hMa.out.o3
                    have hom := hM.o1
                    have p1 : ¬ (0 : Int) < c8 - 1 := by omega
                    have p2 : ¬ (1 : Int) < c8 := by omega
                    replace hM2 := hide hM2
                    clear  hm2 hg2 hM z1 z2 z3 hI1 hown hcnt hfb hpos hop hb2 hf
                    go_wp2_with (first | fail | (at_builtin; (with_reducible refine wpList_appQ rfl (.tmp 88) (.tmp 90) rfl rfl hMa.out.que ⟨w2.heap.size, 0, none⟩ 1 (bv : Int) rfl hcell0.out ?k1 hzq ?_); rotate_right; intro A5 c5 w5 hown5 hgr5 hb5 _))
                    case k1 => omega
                    have hM5 := hide (hMa.out.app hown5 hgr5)
                    have hb6 := hide (hbp.out.trans (hb5.mono (by omega)))
                    clear hown5 hgr5 hb5
                    go_roundw
                    case rel => exact ⟨j + 1, _, _, _, A5, _, c5, _, by omega, by go_num, rfl, hM5.out, hadd.out, by omega, hb6.out⟩
                    case measure => simp [intOf]; omega
          · replace z1 := Bool.eq_false_iff.2 z1
            have hnext := hide (hI1.skip (.inl z1))
            rw [z1] at a0
            replace hM := hide hM
            clear z1 hI1 hown s0
            go_wp2
            go_roundw
            case rel => exact ⟨j + 1, out, todo, f, A, q, c, m, by omega, by go_num, rfl, hM.out, hnext, by omega, hb⟩
            case measure => simp [intOf]; omega
        · have hjn : j = nh := by omega
          subst hjn
          have hI2 := hI.out
          rw [List.drop_eq_nil_of_le (by rw [hrll.out]; exact Nat.le_refl _)] at hI2
          have hI3 : Hid (AttrI g alive player set out (P.set kk true) todo f 0 []) := ⟨hI2.bet, hI2.plen, hI2.sub, hI2.nodup, hI2.rnd, hI2.mem, fun x => by have := hI2.cond x; simpa using this⟩
          replace hM := hide hM
          clear hI hI2 hrl2
          go_wp2
          go_roundg N2
          case measure => omega
          case rel => exact ⟨out, _, todo, f, A, q, c, m, rfl, hM.out, hI3, by rw [hnum]; omega, hb, by rw [hnum]; omega⟩

end Go.Proofs.Ythmhlbkkhaplkaa

namespace Go.Proofs.Ythmhlbkkhaplkaa
open Go.ChangeShapes Go.WideShapes Go.ChangeAt Go.RowKit
set_option linter.unusedVariables false

/-- Which moves have been noted: those of the vertices below k, and the first j of k. -/
def BackK (g : DV) (L : List (List Int)) (k j : Nat) : Prop := L.length = g.length ∧ ∀ (m : Nat) (row : List Int), L[m]? = some row → row.Nodup ∧ ∀ b : Int, b ∈ row ↔ ∃ v : Nat, b = v ∧ ((v < k ∧ m ∈ gNxt g v) ∨ (v = k ∧ m ∈ (gNxt g k).take j))

section
variable {g : DV} {L : List (List Int)} {k j : Nat}
theorem BackK.start (h : ∀ (m : Nat) (row : List Int), L[m]? = some row → row = []) (hl : L.length = g.length) : BackK g L 0 0 := by
  refine ⟨hl, fun m row hm => ?_⟩
  rw [h m row hm]
  refine ⟨List.nodup_nil, fun b => ⟨fun hb => (List.not_mem_nil hb).elim, ?_⟩⟩
  rintro ⟨v, _, ⟨h1, _⟩ | ⟨_, h1⟩⟩
  · omega
  · simp at h1
theorem BackK.next (h : BackK g L k (gNxt g k).length) : BackK g L (k + 1) 0 := by
  refine ⟨h.1, fun m row hm => ⟨(h.2 m row hm).1, fun b => ((h.2 m row hm).2 b).trans ?_⟩⟩
  rw [List.take_length]
  constructor
  · rintro ⟨v, e, ⟨h1, h2⟩ | ⟨rfl, h2⟩⟩
    · exact ⟨v, e, .inl ⟨by omega, h2⟩⟩
    · exact ⟨v, e, .inl ⟨by omega, h2⟩⟩
  · rintro ⟨v, e, ⟨h1, h2⟩ | ⟨_, h2⟩⟩
    · by_cases hv : v = k
      · subst hv; exact ⟨v, e, .inr ⟨rfl, h2⟩⟩
      · exact ⟨v, e, .inl ⟨by omega, h2⟩⟩
    · simp at h2
theorem BackK.done (h : BackK g L k 0) (hk : g.length ≤ k) : BackOk g L := by
  refine ⟨h.1, fun m row hm => ⟨(h.2 m row hm).1, fun b => ((h.2 m row hm).2 b).trans ?_⟩⟩
  constructor
  · rintro ⟨v, e, ⟨_, h2⟩ | ⟨_, h2⟩⟩
    · exact ⟨v, e, h2⟩
    · simp at h2
  · rintro ⟨v, e, h2⟩
    exact ⟨v, e, .inl ⟨by have := gNxt_src h2; omega, h2⟩⟩
theorem BackK.step {x : Nat} {row : List Int} (h : BackK g L k j) (hn : (gNxt g k).Nodup) (hx : (gNxt g k)[j]? = some x) (hr : L[x]? = some row) : BackK g (L.set x (row ++ [(k : Int)])) k (j + 1) := by
  have hxl : x < L.length := (List.getElem?_eq_some_iff.1 hr).1
  have hnew : x ∉ (gNxt g k).take j := by
    intro hm
    obtain ⟨i, hi, e⟩ := List.mem_take_iff_getElem.1 hm
    obtain ⟨hj, e2⟩ := List.getElem?_eq_some_iff.1 hx
    have := List.pairwise_iff_getElem.1 hn i j (by omega) hj (by omega)
    rw [e, e2] at this
    exact this rfl
  refine ⟨by rw [List.length_set]; exact h.1, fun m r hm => ?_⟩
  have ht : (gNxt g k).take (j + 1) = (gNxt g k).take j ++ [x] := by rw [List.take_add_one, hx]; rfl
  by_cases e : x = m
  · subst e
    rw [List.getElem?_set_self hxl] at hm
    cases hm
    obtain ⟨h1, h2⟩ := h.2 x row hr
    refine ⟨List.nodup_append.2 ⟨h1, by simp, fun a ha b hb => ?_⟩, fun b => ?_⟩
    · simp at hb
      subst hb
      rintro rfl
      obtain ⟨v, e, ⟨h3, _⟩ | ⟨_, h3⟩⟩ := (h2 k).1 ha
      · omega
      · exact hnew h3
    · rw [List.mem_append, h2, ht]
      constructor
      · rintro (⟨v, e, h3 | ⟨e2, h3⟩⟩ | hb)
        · exact ⟨v, e, .inl h3⟩
        · exact ⟨v, e, .inr ⟨e2, List.mem_append_left _ h3⟩⟩
        · simp at hb
          exact ⟨k, hb, .inr ⟨rfl, by simp⟩⟩
      · rintro ⟨v, e, h3 | ⟨e2, h3⟩⟩
        · exact .inl ⟨v, e, .inl h3⟩
        · subst e2
          exact .inr (by simp [e])
  · rw [List.getElem?_set_ne e] at hm
    obtain ⟨h1, h2⟩ := h.2 m r hm
    refine ⟨h1, fun b => (h2 b).trans ?_⟩
    rw [ht]
    constructor
    · rintro ⟨v, e, h3 | ⟨e2, h3⟩⟩
      · exact ⟨v, e, .inl h3⟩
      · exact ⟨v, e, .inr ⟨e2, List.mem_append_left _ h3⟩⟩
    · rintro ⟨v, e, h3 | ⟨e2, h3⟩⟩
      · exact ⟨v, e, .inl h3⟩
      · rcases List.mem_append.1 h3 with h3 | h3
        · exact ⟨v, e, .inr ⟨e2, h3⟩⟩
        · simp at h3
          omega
theorem BackK.len (h : BackK g L k j) (hk : k < g.length) {m : Nat} {row : List Int} (hm : L[m]? = some row) : row.length ≤ g.length := by
  obtain ⟨h1, h2⟩ := h.2 m row hm
  have h3 := nodup_le g.length (row.map Int.toNat) (by
    unfold List.Nodup
    rw [List.pairwise_map]
    refine List.Pairwise.imp_of_mem ?_ h1
    intro a1 a2 m1 m2 hne e
    obtain ⟨v1, rfl, _⟩ := (h2 a1).1 m1
    obtain ⟨v2, rfl, _⟩ := (h2 a2).1 m2
    simp at e
    exact hne (by rw [e])) (fun x hx => by
    obtain ⟨y, hy, rfl⟩ := List.mem_map.1 hx
    obtain ⟨v1, rfl, h4⟩ := (h2 y).1 hy
    simp
    omega)
  rwa [List.length_map] at h3
end

/-- Rows of the call's own that grow, their handles in block bb. -/
structure BackM (w : World) (bb base : Nat) (R : List (Hd × List Int)) : Prop where
  outer : ∃ cur : Array Value, w.heap[bb]? = some (.cells cur 26 (0, 0)) ∧ cur.size = R.length ∧ ∀ (i : Nat) (r : Hd × List Int), R[i]? = some r → cur[i]? = some (.slice r.1.1 r.1.2.1 r.1.2.2)
  rows : ∀ (i : Nat) (r : Hd × List Int), R[i]? = some r → Own 1 iv w base 2 r.1.1 r.1.2.1 r.1.2.2 r.2
  apart : ∀ (i i' : Nat) (r r' : Hd × List Int), i ≠ i' → R[i]? = some r → R[i']? = some r' → (Value.slice r.1.1 r.1.2.1 r.1.2.2).ownBlock = none ∨ (Value.slice r.1.1 r.1.2.1 r.1.2.2).ownBlock ≠ (Value.slice r'.1.1 r'.1.2.1 r'.1.2.2).ownBlock

section
variable {w w' : World} {bb base : Nat} {R : List (Hd × List Int)}
theorem BackM.keep (h : BackM w bb base R) (hb : w'.heap[bb]? = w.heap[bb]?) (hk : ∀ b, base ≤ b → b < w.heap.size → w'.heap[b]? = w.heap[b]?) : BackM w' bb base R := by
  obtain ⟨cur, h1, h2⟩ := h.outer
  exact ⟨⟨cur, hb.trans h1, h2⟩, fun i r hr => (h.rows i r hr).keep fun g hg => hk g ((h.rows i r hr).lt g hg).1 ((h.rows i r hr).lt g hg).2, h.apart⟩
theorem BackM.lt (h : BackM w bb base R) : bb < w.heap.size := by obtain ⟨cur, h1, _⟩ := h.outer; exact (Array.getElem?_eq_some_iff.1 h1).1
theorem BackM.alloc (h : BackM w bb base R) (o : Obj) : BackM (w.alloc o) bb base R := h.keep (Below.heap_alloc _ _ _ h.lt) fun b _ hb => Below.heap_alloc _ _ _ hb
theorem BackM.cell (h : BackM w bb base R) {i : Nat} {r : Hd × List Int} (hr : R[i]? = some r) : w.cell? ⟨bb, i, none⟩ = some (.slice r.1.1 r.1.2.1 r.1.2.2) ∧ w.frozen? ⟨bb, i, none⟩ = false := by
  obtain ⟨cur, h1, h2, h3⟩ := h.outer
  exact ⟨(cell_of_row w bb i cur _ (0, 0) h1).trans (h3 i r hr), frozen_of_row w bb i cur _ h1⟩
/-- One row grew. -/
theorem BackM.push (h : BackM w bb base R) (hbb : bb < base) (hbase : base ≤ w.heap.size) {i : Nat} {r : Hd × List Int} (hr : R[i]? = some r) {A' : Option Addr} {n' c' : Nat} {s' : List Int} (ho : Own 1 iv w' base 2 A' n' c' s') (hg : w.grownBy w' (Value.slice r.1.1 r.1.2.1 r.1.2.2).ownBlock)
    (hat : (Value.slice A' n' c').ownBlock = (Value.slice r.1.1 r.1.2.1 r.1.2.2).ownBlock ∨ (Value.slice A' n' c').ownBlock = some w.heap.size) :
    BackM (w'.setCell ⟨bb, i, none⟩ (.slice A' n' c')) bb base (R.set i ((A', n', c'), s')) := by
  have hi : i < R.length := (List.getElem?_eq_some_iff.1 hr).1
  obtain ⟨cur, h1, h2, h3⟩ := h.outer
  have hne : ∀ b, b < base → some b ≠ (Value.slice r.1.1 r.1.2.1 r.1.2.2).ownBlock := fun b hb e => by
    have := ((h.rows i r hr).lt b e.symm).1
    omega
  have hkeep : ∀ g, base ≤ g → (w'.setCell ⟨bb, i, none⟩ (.slice A' n' c')).heap[g]? = w'.heap[g]? := fun g hg => Below.heap_setCell _ _ _ _ (by show g ≠ bb; omega)
  have key : ∀ i' r', i ≠ i' → R[i']? = some r' → Own 1 iv w' base 2 r'.1.1 r'.1.2.1 r'.1.2.2 r'.2 := fun i' r' hii hr' => (h.rows i' r' hr').kept hg (h.apart i' i r' r (Ne.symm hii) hr' hr)
  have keyA : ∀ i' r', i ≠ i' → R[i']? = some r' → (Value.slice r'.1.1 r'.1.2.1 r'.1.2.2).ownBlock = none ∨ (Value.slice r'.1.1 r'.1.2.1 r'.1.2.2).ownBlock ≠ (Value.slice A' n' c').ownBlock := fun i' r' hii hr' => by
    rcases hat with e | e
    · rw [e]; exact h.apart i' i r' r (Ne.symm hii) hr' hr
    · rw [e]
      cases e2 : (Value.slice r'.1.1 r'.1.2.1 r'.1.2.2).ownBlock with
      | none => exact .inl rfl
      | some b =>
        right
        intro e3
        injection e3 with e3
        have := ((h.rows i' r' hr').lt b e2).2
        omega
  refine ⟨⟨cur.setIfInBounds i (.slice A' n' c'), heap_setCell_same w' bb i cur _ _ ((hg.block bb h.lt (hne bb hbb)).trans h1), by simp [h2], fun i' r' hr' => ?_⟩, fun i' r' hr' => ?_, fun i1 i2 r1 r2 hii hr1 hr2 => ?_⟩
  · by_cases e : i = i'
    · subst e
      rw [List.getElem?_set_self hi] at hr'
      cases hr'
      simp [Array.getElem?_setIfInBounds]
      omega
    · rw [List.getElem?_set_ne e] at hr'
      rw [Array.getElem?_setIfInBounds_ne e]
      exact h3 i' r' hr'
  · by_cases e : i = i'
    · subst e
      rw [List.getElem?_set_self hi] at hr'
      cases hr'
      exact ho.keep fun g hgg => hkeep g (ho.lt g hgg).1
    · rw [List.getElem?_set_ne e] at hr'
      have hk := key i' r' e hr'
      exact hk.keep fun g hgg => hkeep g (hk.lt g hgg).1
  · by_cases e1 : i = i1
    · subst e1
      rw [List.getElem?_set_self hi] at hr1
      cases hr1
      rw [List.getElem?_set_ne hii] at hr2
      rcases keyA i2 r2 hii hr2 with h4 | h4
      · rw [h4]
        cases e2 : (Value.slice A' n' c').ownBlock with
        | none => exact .inl rfl
        | some b => right; simp
      · exact .inr (Ne.symm h4)
    · rw [List.getElem?_set_ne e1] at hr1
      by_cases e2 : i = i2
      · subst e2
        rw [List.getElem?_set_self hi] at hr2
        cases hr2
        exact keyA i1 r1 e1 hr1
      · rw [List.getElem?_set_ne e2] at hr2
        exact h.apart i1 i2 r1 r2 hii hr1 hr2
/-- What the finished rows read as. -/
theorem BackM.rowsI (h : BackM w bb base R) (hn : ∀ (i : Nat) (r : Hd × List Int), R[i]? = some r → r.2.length ≤ 1048576) : RowsI 1048576 w 0 w.heap.size (some ⟨bb, 0, none⟩) R.length R := by
  obtain ⟨cur, h1, h2, h3⟩ := h.outer
  refine ⟨⟨by rw [List.length_map], fun _ => ⟨bb, 0, rfl, Nat.zero_le _, h.lt, h.lt, fun k x hx j u hu => ?_⟩⟩, fun r hr => ?_⟩
  · rw [List.getElem?_map] at hx
    obtain ⟨r, hr, rfl⟩ := Option.map_eq_some_iff.1 hx
    have hj : j = 0 := by
      have := (List.getElem?_eq_some_iff.1 hu).1
      simp [sv] at this
      exact this
    subst hj
    simp [sv] at hu
    subst hu
    have := h.cell hr
    simpa using this
  · obtain ⟨i, hi⟩ := List.getElem?_of_mem hr
    have ho := h.rows i r hi
    refine ⟨((ho.sl flat_iv).more (Nat.zero_le _) (Nat.le_refl _)), ?_⟩
    have := hn i r hi
    rw [ho.len] at this
    exact this
end

end Go.Proofs.Ythmhlbkkhaplkaa

namespace Go.Proofs.Ythmhlbkkhaplkaa
open Go.ChangeShapes Go.WideShapes Go.ChangeAt Go.RowKit
set_option linter.unusedVariables false

/-- What the arena's making leaves. -/
def NewA (w : World) (A : Option Addr) (n cg : Nat) (v : Value) (W : World) : Prop :=
  ∃ bx bb bi oi ci, v = .pointer (some ⟨bx, 0, none⟩) ∧ W.heap[bx]? = some (.cells #[.slice A n cg, .slice (some ⟨bb, 0, none⟩) n n, .slice (some ⟨bi, oi, none⟩) n ci] 105 (0, 0)) ∧
    W.heap[bb]? = some (.cells (madeCells #[.slice none 0 0] n) 26 (0, 0)) ∧ SlB W w.heap.size W.heap.size (some ⟨bi, oi, none⟩) n (setOf n fun _ => true) ∧ Below w.heap.size w W ∧ bi ≠ bb ∧ bx ≠ bb ∧ w.heap.size ≤ bx ∧ w.heap.size ≤ bb

theorem info_rowI : (Try.prog.info? 26).map (fun i => (i.zero, i.size, i.bytes)) = some (some (.slice none 0 0), 1, 24) := by kernel_rfl
theorem run_make_rows (n : Nat) (hn : n ≤ 1048576) (W : World) : (Instr.makeSlice 31 (.int .i64 (n : Int)) (.int .i64 (n : Int))).run Try.prog W = .ok (.slice (some ⟨W.heap.size, 0, none⟩) n n) (W.alloc (.cells (madeCells #[.slice none 0 0] n) 26)) := by
  obtain ⟨i0, hi0, hz0, hz1, hz2⟩ := info_parts info_rowI
  have h := make_row (P := Try.prog) 31 26 i0 _ _ n Try.underlying31 hi0 hz0 hz1 (by rw [hz2]; omega) (by omega) W
  rw [Nat.mul_one] at h
  exact h

abbrev objM (n : Nat) : Obj := .cells (madeCells #[.slice none 0 0] n) 26
abbrev objL : Obj := .cells #[.bool true] 4

theorem newA_mk (w w1 : World) (A A1 : Option Addr) (n cg bb lo hi : Nat) (hn0 : 0 < n) (hbb : w1.heap[bb]? = some (.cells (madeCells #[.slice none 0 0] n) 26 (0, 0))) (hs : SlB w1 lo hi A1 n (List.replicate n true)) (bel : Below w.heap.size w w1) (hlo : w.heap.size ≤ lo) (hb : w.heap.size ≤ bb)
    (hne : ∀ bi, lo ≤ bi → bi < hi → bi ≠ bb) : NewA w A n cg (.pointer (some ⟨w1.heap.size, 0, none⟩)) (w1.alloc (.cells #[.slice A n cg, .slice (some ⟨bb, 0, none⟩) n n, .slice A1 n n] 105)) := by
  obtain ⟨bi, oi, rfl, h1, h2, h3, -⟩ := hs.at_ hn0
  have hlt : bb < w1.heap.size := (Array.getElem?_eq_some_iff.1 hbb).1
  rw [replicate_set] at hs
  have hz := bel.size
  exact ⟨w1.heap.size, bb, bi, oi, n, rfl, heap_alloc_new w1 _, (Below.heap_alloc _ _ _ hlt).trans hbb, ((Sl.below hs ((Below.refl w1.heap.size w1).alloc (Nat.le_refl _) _) (.inr (Nat.le_refl _))).top).more hlo (Nat.le_refl _), bel.alloc hz _, hne bi h1 h2, by omega, hz, hb⟩

/-- Where the two loops stand. -/
def BK (w : World) (A : Option Addr) (n cg bx bb bi oi ci base : Nat) (g : DV) (k j : Nat) (wr : World) : Prop :=
  ∃ R : List (Hd × List Int), BackM wr bb base R ∧ BackK g (R.map (·.2)) k j ∧ wr.heap[bx]? = some (.cells #[.slice A n cg, .slice (some ⟨bb, 0, none⟩) n n, .slice (some ⟨bi, oi, none⟩) n ci] 105 (0, 0)) ∧
    SlB wr bi (bi + 1) (some ⟨bi, oi, none⟩) n (setOf n fun _ => true) ∧ Below w.heap.size w wr ∧ base ≤ wr.heap.size

theorem step_app {P : Program} {α : Type} {size bytes : Nat} {f : α → List Value} {t e : TypeId} {w : World} {ops : Array Oper} {o : Oper} {a : Act} {K : Act → World → Prop} {Q : Exit → Act → World → Prop} {E : Prop} (hgd : o.guard = none) (s x : Operand)
    (ho : o.op = .call { callee := .builtin .append, args := #[s, x], argTypes := #[t, t] }) (hE : Elem P t e size bytes) (hf : Flat f size)
    {base n c : Nat} {A : Option Addr} {l : List α} (hs : a.eval s = .slice A n c) (hown : Own size f w base e A n c l)
    {B : Option Addr} {m d lo hi : Nat} {r : List α} (hx : a.eval x = .slice B m d) (hr : Sl size f w lo hi B m r) (hsz : (n + m) * bytes ≤ 140737488355328) (hbase : base ≤ w.heap.size)
    (h : ∀ A' c' w', Own size f w' base e A' (n + m) c' (l ++ r) → w.grownBy w' (Value.slice A n c).ownBlock → Below base w w' →
      ((Value.slice A' (n + m) c').ownBlock = (Value.slice A n c).ownBlock ∨ (Value.slice A' (n + m) c').ownBlock = some w.heap.size) → K (a.put o.dst (.slice A' (n + m) c')) w') :
    if Region.wanted o (yielded ops a.tmps) = true then Oper.wp P o a w K Q else E := by
  have hw : Region.wanted o (yielded ops a.tmps) = true := by simp [Region.wanted, hgd]
  rw [if_pos hw]
  obtain ⟨A', c', w', h1, h2, h3, h4⟩ := run_app w hE hf o.type hown (d := d) hr hsz hbase
  unfold Oper.wp execOp
  simp only [ho, resolve, invoke, builtin, Sem.run_bind, Sem.run_pure, Result.andThen_ok, List.map_toArray, List.map_cons, List.map_nil, hs, hx, h1]
  exact h _ _ _ h2 h3 ((Below.refl _ _).grown h3 hbase fun k hk => (hown.lt k hk).1) h4

set_option maxHeartbeats 3200000 in
set_option maxRecDepth 100000 in
theorem newArena_calls (A : Option Addr) (cg : Nat) (g : DV) (w : World) (hg : GameAt w A g.length g) (ok : GameOk g) :
    Calls Try.prog 54 #[.slice A g.length cg] w fun e w' => ∃ b, e = .returned (.pointer (some ⟨b, 0, none⟩)) ∧ ArenaAt w' b g (setOf g.length fun _ => true) ∧ Below w.heap.size w w' := by
  have hn0 : 0 < g.length := ok.1.1
  have hn1 : g.length ≤ 120 := ok.1.2
  have hmk := run_make_rows g.length (by omega)
  generalize hgl : g.length = n at *
  have L1 : SlB ((w.alloc (objM n)).alloc objL).drew 0 ((w.heap.size + 1) + 1) (some ⟨w.heap.size + 1, 0, none⟩) 1 [true] := (Sl.lit1' (w.alloc (objM n)) 4 true _ rfl 1 (w.heap.size + 1) (by simp)).drew
  have L3 : SlB (w.alloc objL).drew 0 (w.heap.size + 1) (some ⟨w.heap.size, 0, none⟩) 1 [true] := (Sl.lit1' w 4 true _ rfl 1 w.heap.size rfl).drew
  have L2 : SlB ((w.alloc objL).alloc (objM n)).drew 0 (w.heap.size + 1) (some ⟨w.heap.size, 0, none⟩) 1 [true] := (Sl.below (Sl.lit1' w 4 true _ rfl 1 w.heap.size rfl) ((Below.refl (w.alloc objL).heap.size (w.alloc objL)).alloc (Nat.le_refl _) (objM n)) (.inl (by simp))).drew
  have q1 := hide (repeatB_calls _ 1 true n _ _ _ L1 hn0 (by omega))
  have q2 := hide (repeatB_calls _ 1 true n _ _ _ L2 hn0 (by omega))
  have q3 := hide (repeatB_calls _ 1 true n _ _ _ L3 hn0 (by omega))
  replace hg := hide hg
  replace ok := hide ok
  replace hgl := hide hgl
  clear L1 L2 L3
  go_enter Try.func54, Try.ntmps54
  go_upto_region 1 with fail
  go_cut [3] (fun v wx => NewA w A n cg v wx)
  case first =>
    go_region_with (first | (go_at_call 83; (with_reducible refine q1.out.mono ?_); rintro e w1 ⟨A1, rfl, hs1, hb1⟩) | (go_at_call 83; (with_reducible refine q2.out.mono ?_); rintro e w1 ⟨A1, rfl, hs1, hb1⟩) | (go_at_call 83; (with_reducible refine q3.out.mono ?_); rintro e w1 ⟨A1, rfl, hs1, hb1⟩))
    all_goals (go_wp2_with fail; go_meet)
    · exact newA_mk w w1 A A1 n cg w.heap.size _ _ hn0 ((hb1.block _ (by simp; omega)).trans ((Below.heap_alloc _ _ _ (by simp)).trans (heap_alloc_new w _))) hs1 ((((Below.refl _ _).alloc (Nat.le_refl _) _).alloc (by simp) _).drew.trans (hb1.mono (by simp; omega))) (by simp; omega) (Nat.le_refl _) (fun bi h1 _ => by simp at h1; omega)
    · exact newA_mk w w1 A A1 n cg (w.heap.size + 1) _ _ hn0 ((hb1.block _ (by simp)).trans (by have h := heap_alloc_new (w.alloc objL) (objM n); rw [World.size_alloc] at h; exact h)) hs1 ((((Below.refl _ _).alloc (Nat.le_refl _) _).alloc (by simp) _).drew.trans (hb1.mono (by simp; omega))) (by simp; omega) (by omega) (fun bi h1 _ => by simp at h1; omega)
    · have hbw : Below w.heap.size w w1 := ((Below.refl _ _).alloc (Nat.le_refl _) _).drew.trans (hb1.mono (by simp))
      have := newA_mk w (w1.alloc (objM n)) A A1 n cg w1.heap.size _ w1.heap.size hn0 (heap_alloc_new w1 _) ((Sl.below hs1 ((Below.refl w1.heap.size w1).alloc (Nat.le_refl _) (objM n)) (.inr (Nat.le_refl _)))) (hbw.alloc hbw.size _) (by simp) hbw.size (fun bi _ h2 => by omega)
      rw [World.size_alloc] at this
      exact this
  case rest =>
    obtain ⟨bx, bb, bi, oi, ci, rfl, hx, hbb, hin, bel, ne1, ne2, g1, g2⟩ := hcut
    obtain ⟨b1, o1, rfl, hb1⟩ := hg.out.addr hn0
    have hbbl : bb < wc.heap.size := (Array.getElem?_eq_some_iff.1 hbb).1
    have hbxl : bx < wc.heap.size := (Array.getElem?_eq_some_iff.1 hx).1
    have hbil : bi < wc.heap.size := by
      obtain ⟨b9, o9, e9, -, -, h9, -⟩ := hin.at_ hn0
      cases e9
      exact h9
    replace hin := hin.tight' hn0
    have hE := hide elem_int64
    have hstart : BK w (some ⟨b1, o1, none⟩) n cg bx bb bi oi ci wc.heap.size g 0 0 wc := by
      refine ⟨List.replicate n ((none, 0, 0), []), ⟨⟨_, hbb, by simp [madeCells], fun i r hr => ?_⟩, fun i r hr => ?_, fun i i' r r' _ hr _ => ?_⟩, BackK.start (fun m row hm => ?_) (by simp [hgl.out]), hx, hin, bel, Nat.le_refl _⟩
      · have hi : i < n := by
          have := (List.getElem?_eq_some_iff.1 hr).1
          simpa using this
        have := List.eq_of_mem_replicate (List.mem_of_getElem? hr)
        subst this
        simp [madeCells, hi, Nat.mod_one]
      · have := List.eq_of_mem_replicate (List.mem_of_getElem? hr)
        subst this
        exact Own.nil_ _ _ _
      · have := List.eq_of_mem_replicate (List.mem_of_getElem? hr)
        subst this
        exact .inl rfl
      · rw [List.getElem?_map] at hm
        obtain ⟨r, hr, rfl⟩ := Option.map_eq_some_iff.1 hm
        have := List.eq_of_mem_replicate (List.mem_of_getElem? hr)
        subst this
        rfl
    generalize hbs : wc.heap.size = base at *
    replace hstart := hide hstart
    clear hx hbb hin hbs bel hmk
    go_wp2_with fail
    go_loopw [20] (fun i wr => ∃ k : Nat, k ≤ n ∧ i = .int .i64 k ∧ BK w (some ⟨b1, o1, none⟩) n cg bx bb bi oi ci base g k 0 wr) (fun i _ => n - (intOf i).toNat)
    case atStart => exact ⟨0, Nat.zero_le _, rfl, hstart.out⟩
    case round =>
      obtain ⟨k, hk, rfl, hBK⟩ := hrel
      clear hstart
      by_cases hlt : k < n
      · obtain ⟨R, hM, hK, hx, hin, hb, hz⟩ := hBK
        obtain ⟨o, p, l, Ah, nh, ch, hxk, c0', c1', c2', hl, hnh, -, -, hinc⟩ := hg.out.cell ok.out hlt
        have c0 := (hb.cell (p := ⟨b1, o1 + k * 3, none⟩) hb1).trans c0'
        have c1 := (hb.cell (p := ⟨b1, o1 + k * 3 + 1, none⟩) hb1).trans c1'
        have c2 := (hb.cell (p := ⟨b1, o1 + k * 3 + 2, none⟩) hb1).trans c2'
        clear c0' c1' c2'
        have hnx := hide (gNxt_at hxk)
        have hzw : w.heap.size ≤ wr.heap.size := hb.size
        have hBK2 : Hid (BK w (some ⟨b1, o1, none⟩) n cg bx bb bi oi ci base g k 0 (wr.alloc (.cells #[.int .i64 o, .int .i64 p, .slice Ah nh ch] 49))) :=
          ⟨R, hM.alloc _, hK, (Below.heap_alloc _ _ _ ((Array.getElem?_eq_some_iff.1 hx).1)).trans hx, Sl.below hin ((Below.refl wr.heap.size wr).alloc (Nat.le_refl _) _) (.inr (Nat.le_refl _)), hb.alloc hzw _, by simp; omega⟩
        have hlen := hide hl.len
        have hl0 := hide hl
        replace hinc := hide hinc
        have hbw := hide hb
        clear hM hK hx hin hb hxk hl
        obtain ⟨wo, rfl⟩ : ∃ wo : World, wo = wr := ⟨_, rfl⟩
        go_wp2
        go_loopw [28] (fun i wr => ∃ j : Nat, j ≤ nh ∧ i = .int .i64 j ∧ BK w (some ⟨b1, o1, none⟩) n cg bx bb bi oi ci base g k j wr) (fun i _ => nh - (intOf i).toNat)
        case atStart => exact ⟨0, Nat.zero_le _, rfl, hBK2.out⟩
        case round =>
          obtain ⟨j, hj, rfl, hBK⟩ := hrel
          clear hBK2
          by_cases hjl : j < nh
          · obtain ⟨R, hM, hK, hx, hin, hb, hz⟩ := hBK
            obtain ⟨bh, oh, eAh, -⟩ := hl0.out.at_ (show 0 < nh by omega)
            have hl2 : SlI wr 0 w.heap.size Ah nh l := Sl.below hl0.out hb (.inl (Nat.le_refl _))
            rw [eAh] at hl2
            obtain ⟨x, hxl, x0, -⟩ := SlI.cell hl2 hjl
            subst eAh
            have hxb := hinc.out.at_ hxl
            have hx0 := hxb.1
            have hx1 := hxb.2
            have hxn : x.toNat < R.length := by have := hK.1; rw [List.length_map] at this; have := hgl.out; omega
            obtain ⟨⟨⟨Ar, nr, cr⟩, row⟩, hr⟩ : ∃ r, R[x.toNat]? = some r := ⟨_, List.getElem?_eq_getElem hxn⟩
            have hrow := hM.rows _ _ hr
            have hrl := hK.len (by rw [hgl.out]; exact hlt) (m := x.toNat) (row := row) (by rw [List.getElem?_map, hr]; rfl)
            have hnr := hrow.len
            dsimp only at hrow hnr hrl
            rw [hgl.out, hnr] at hrl
            have hKs := hK.step (x := x.toNat) (row := row) (ok.out.nxt k).1 (by rw [hnx.out, List.getElem?_map, hxl]; rfl) (by rw [List.getElem?_map, hr]; rfl)
            obtain ⟨m0, mz⟩ := hM.cell hr
            dsimp only at m0
            have y1 : wr.cell? ⟨bx, 1, none⟩ = some (.slice (some ⟨bb, 0, none⟩) n n) := (cell_of_row _ _ 1 _ _ (0, 0) hx).trans rfl
            have hxlt := (Array.getElem?_eq_some_iff.1 hx).1
            have hMlt := hM.lt
            have hMa := hide (hM.alloc (.cells #[.int .i64 (k : Int)] 2))
            have hrowa : Own 1 iv (wr.alloc (.cells #[.int .i64 (k : Int)] 2)).drew base 2 Ar nr cr row := hrow.alloc _
            have hlit : Sl 1 iv (wr.alloc (.cells #[.int .i64 (k : Int)] 2)).drew 0 (wr.heap.size + 1) (some ⟨wr.heap.size, 0, none⟩) 1 [(k : Int)] := (Sl.lit1' wr 2 (k : Int) _ rfl 1 _ rfl).drew
            have hza : base ≤ (wr.alloc (.cells #[.int .i64 (k : Int)] 2)).drew.heap.size := by simp; omega
            have hba : Below base wr (wr.alloc (.cells #[.int .i64 (k : Int)] 2)).drew := ((Below.refl _ _).alloc hz _).drew
            replace hrowa := hide hrowa
            replace hlit := hide hlit
            have y1a := (hba.cell (p := ⟨bx, 1, none⟩) hbxl).trans y1
            have m0a := (hba.cell (p := ⟨bb, x.toNat, none⟩) hbbl).trans m0
            have mza := (hba.frozen (p := ⟨bb, x.toNat, none⟩) hbbl).trans mz
            have hzw : w.heap.size ≤ base := Nat.le_trans g2 (Nat.le_of_lt hbbl)
            have hxa := hide (hx)
            have hina := hide hin
            have hba2 := hide hba
            replace hKs := hide hKs
            replace hr := hide hr
            have hbr := hide hb
            clear hl2 hxl hxb hrow hK hM hx hin hb hl0 hba c0 c1 c2
            have hsz : (nr + 1) * 8 ≤ 140737488355328 := by omega
            have hfin : ∀ A5 c5 w5, Own 1 iv w5 base 2 A5 (nr + 1) c5 (row ++ [(k : Int)]) → (wr.alloc (.cells #[.int .i64 (k : Int)] 2)).drew.grownBy w5 (Value.slice Ar nr cr).ownBlock → Below base (wr.alloc (.cells #[.int .i64 (k : Int)] 2)).drew w5 →
                ((Value.slice A5 (nr + 1) c5).ownBlock = (Value.slice Ar nr cr).ownBlock ∨ (Value.slice A5 (nr + 1) c5).ownBlock = some (wr.alloc (.cells #[.int .i64 (k : Int)] 2)).drew.heap.size) →
                BK w (some ⟨b1, o1, none⟩) n cg bx bb bi oi ci base g k (j + 1) (w5.setCell ⟨bb, x.toNat, none⟩ (.slice A5 (nr + 1) c5)) := by
              intro A5 c5 w5 hown5 hgr5 hb5 hat5
              have hMd : BackM (wr.alloc (.cells #[.int .i64 (k : Int)] 2)).drew bb base R := ⟨hMa.out.outer, hMa.out.rows, hMa.out.apart⟩
              refine ⟨R.set x.toNat ((A5, nr + 1, c5), row ++ [(k : Int)]), hMd.push hbbl hza hr.out hown5 hgr5 hat5, ?_, ?_, ?_, ?_, ?_⟩
              · rw [List.map_set]; exact hKs.out
              · exact (Below.heap_setCell _ _ _ _ (by show bx ≠ bb; exact ne2)).trans ((hb5.block bx hbxl).trans ((hba2.out.block bx hbxl).trans hxa.out))
              · exact Sl.only (Sl.below (Sl.below hina.out hba2.out (.inl hbil)) hb5 (.inl hbil)) ((Only.refl bb (bb + 1) w5).setCell (p := ⟨bb, x.toNat, none⟩) (Nat.le_refl _) (Nat.lt_succ_self _) _) (by omega)
              · exact ((hbr.out.trans (hba2.out.mono hzw)).trans (hb5.mono hzw)).setCell g2 _
              · rw [World.size_setCell]; exact Nat.le_trans hz (Nat.le_trans hba2.out.size hb5.size)
            replace hfin := hide hfin
            go_wp2
            go_region_law (refine step_app (d := 1) (by rfl) (.tmp 43) (.tmp 45) (by rfl) hE.out flat_iv (by go_simp) hrowa.out (by go_simp) hlit.out hsz hza ?_; intro A5 c5 w5 hown5 hgr5 hb5 hat5; have k1 := (hb5.cell (p := ⟨bx, 1, none⟩) hbxl).trans y1a; have k2 := (hb5.cell (p := ⟨bb, x.toNat, none⟩) hbbl).trans m0a; have k3 := (hb5.frozen (p := ⟨bb, x.toNat, none⟩) hbbl).trans mza; have hf9 := hide (hfin.out A5 c5 w5 hown5 hgr5 hb5 hat5); clear hown5 hgr5 hb5 hat5)
            all_goals
              go_wp2
              go_roundw
              case rel => exact ⟨j + 1, by omega, by go_num, hf9.out⟩
              case measure => simp [intOf]; omega
          · have hjn : j = nh := by omega
            subst hjn
            have hnext : Hid (BK w (some ⟨b1, o1, none⟩) n cg bx bb bi oi ci base g (k + 1) 0 wr) := by
              obtain ⟨R, hM, hK, r⟩ := hBK
              refine ⟨R, hM, ?_, r⟩
              have el : (gNxt g k).length = j := by rw [hnx.out, List.length_map, hlen.out]
              rw [← el] at hK
              exact hK.next
            clear hBK
            go_wp2
            go_roundw
            case rel => exact ⟨k + 1, by omega, by go_num, hnext.out⟩
            case measure => simp [intOf]; omega
      · have hkn : k = n := by omega
        subst hkn
        obtain ⟨R, hM, hK, hx, hin, hb, hz⟩ := hBK
        have hRl : R.length = k := by have := hK.1; rw [List.length_map] at this; have := hgl.out; omega
        have hdone := hK.done (by rw [hgl.out]; exact Nat.le_refl _)
        have hres : Hid (ArenaAt wr bx g (setOf g.length fun _ => true)) := by
          refine ⟨some ⟨b1, o1, none⟩, cg, some ⟨bb, 0, none⟩, k, some ⟨bi, oi, none⟩, ci, R, by rw [hgl.out]; exact hx, ?_, ?_, hdone, ?_⟩
          · rw [hgl.out]; exact hg.out.below hb (Nat.le_refl _)
          · have h9 := hM.rowsI (fun i r hr => by
              have h8 := hdone.2 i r.2 (by rw [List.getElem?_map, hr]; rfl)
              have h7 := nodup_le g.length (r.2.map Int.toNat) (by
                unfold List.Nodup
                rw [List.pairwise_map]
                refine List.Pairwise.imp_of_mem ?_ h8.1
                intro a1 a2 m1 m2 hne e
                obtain ⟨v1, rfl, _⟩ := (h8.2 a1).1 m1
                obtain ⟨v2, rfl, _⟩ := (h8.2 a2).1 m2
                simp at e
                exact hne (by rw [e])) (fun x hx => by
                obtain ⟨y, hy, rfl⟩ := List.mem_map.1 hx
                obtain ⟨v1, rfl, h4⟩ := (h8.2 y).1 hy
                have := gNxt_src h4
                simpa using this)
              rw [List.length_map, hgl.out] at h7
              omega)
            rw [hgl.out]
            rw [hRl] at h9
            exact h9
          · rw [hgl.out]; exact SlB.at_set hin
        replace hb := hide hb
        clear hM hK hx hin hdone
        go_wp2
        go_ret
        exact ⟨bx, rfl, by have h0 := hres.out; rwa [hgl.out] at h0, hb.out⟩

end Go.Proofs.Ythmhlbkkhaplkaa

namespace Go.Proofs.Ythmhlbkkhaplkaa
open Go.ChangeShapes Go.WideShapes Go.ChangeAt Go.RowKit
set_option linter.unusedVariables false

/-- A boxed variable. -/
def Box (W : World) (b : Nat) (v : Value) : Prop := W.cell? ⟨b, 0, none⟩ = some v ∧ b < W.heap.size
theorem Box.below {W W' : World} {b : Nat} {v : Value} {B : Nat} (h : Box W b v) (hb : Below B W W') (hB : W.heap.size ≤ B) : Box W' b v :=
  ⟨(hb.cell (p := ⟨b, 0, none⟩) (by have := h.2; show b < B; omega)).trans h.1, Nat.lt_of_lt_of_le h.2 hb.size⟩
theorem Box.made (W : World) (v : Value) (t : TypeId) : Box (W.alloc (.cells #[v] t)) W.heap.size v :=
  ⟨(cell_of_row _ _ 0 _ _ (0, 0) (heap_alloc_new W _)).trans rfl, by simp⟩

theorem win1_calls (b bX bL : Nat) (g : DV) (alive : List Bool) (least : Int) (k : Nat) (W : World) (h : ArenaAt W b g alive) (ok : GameOk g) (hk : k < g.length) (hX : Box W bX (.pointer (some ⟨b, 0, none⟩))) (hL : Box W bL (.int .i64 least)) :
    Calls Try.prog 87 #[.int .i64 (k : Int), .pointer (some ⟨bX, 0, none⟩), .pointer (some ⟨bL, 0, none⟩)] W fun e W' => e = .returned (.bool (decide (gPri g k = least))) ∧ ∃ N, W' = W.drewN N := by
  obtain ⟨b1, o1, cg, b2, o2, cb, b3, o3, ci, Q, c0, c1, c2, hg, -, -, -, -, hn0, hn1⟩ := h.open_ ok
  obtain ⟨o, p, l, Ah, nh, ch, hx, d0, d1, d2, -, -, -, -, -⟩ := hg.cell ok hk
  have hp := hide (gPri_at hx)
  have x0 := hX.1
  have l0 := hL.1
  have hk0 : (0 : Int) ≤ (k : Int) := by omega
  have hk1 : (k : Int) < (g.length : Int) := by omega
  clear h ok hg hX hL hx c1 c2 d0 d2
  generalize g.length = n at *
  by_cases z : p = least
  · have hv : Hid (decide (gPri g k = least) = true) := decide_eq_true (by rw [hp.out]; exact z)
    have e1 : (p == least) = true := by simpa using z
    clear z
    go_enter Try.func87, Try.ntmps87
    go_wp2
    go_quiet (fail)
    go_wp2
    go_ret
    exact ⟨ret_b (by rw [hv.out]), _, rfl⟩
  · have hv : Hid (decide (gPri g k = least) = false) := decide_eq_false (by rw [hp.out]; exact z)
    have e1 : (p == least) = false := by simpa using z
    clear z
    go_enter Try.func87, Try.ntmps87
    go_wp2
    go_quiet (fail)
    go_wp2
    go_ret
    exact ⟨ret_b (by rw [hv.out]), _, rfl⟩

theorem win2_calls (bW bP : Nat) (n : Nat) (A : Option Addr) (c : Nat) (won : List Bool) (player : Int) (k : Nat) (W : World) (hk : k < n) (hs : SetAt W A n won) (hW : Box W bW (.slice A n c)) (hP : Box W bP (.int .i64 player)) :
    Calls Try.prog 88 #[.int .i64 (k : Int), .pointer (some ⟨bW, 0, none⟩), .pointer (some ⟨bP, 0, none⟩)] W fun e W' => e = .returned (.bool (inS won k != decide (player = 1))) ∧ ∃ N, W' = W.drewN N := by
  obtain ⟨b1, o1, rfl, -⟩ := hs.addr (by omega)
  have s0 := hs.cell hk
  have x0 := hW.1
  have p0 := hP.1
  have hk0 : (0 : Int) ≤ (k : Int) := by omega
  have hk1 : (k : Int) < (n : Int) := by omega
  clear hs hW hP
  generalize inS won k = sv at *
  by_cases z : player = 1
  · have hv : Hid (decide (player = 1) = true) := decide_eq_true z
    have e1 : (player == 1) = true := by simpa using z
    clear z
    cases sv
    all_goals
      go_enter Try.func88, Try.ntmps88
      go_wp2
      go_quiet (fail)
      go_wp2
      go_ret
      exact ⟨ret_b (by rw [hv.out]; rfl), _, rfl⟩
  · have hv : Hid (decide (player = 1) = false) := decide_eq_false z
    have e1 : (player == 1) = false := by simpa using z
    clear z
    cases sv
    all_goals
      go_enter Try.func88, Try.ntmps88
      go_wp2
      go_quiet (fail)
      go_wp2
      go_ret
      exact ⟨ret_b (by rw [hv.out]; rfl), _, rfl⟩

theorem win3_calls (bP : Nat) (player : Int) (k : Nat) (W : World) (hP : Box W bP (.int .i64 player)) :
    Calls Try.prog 90 #[.int .i64 (k : Int), .pointer (some ⟨bP, 0, none⟩)] W fun e W' => e = .returned (.bool (decide (player = 1))) ∧ ∃ N, W' = W.drewN N := by
  have p0 := hP.1
  clear hP
  by_cases z : player = 1
  · have hv : Hid (decide (player = 1) = true) := decide_eq_true z
    have e1 : (player == 1) = true := by simpa using z
    clear z
    go_enter Try.func90, Try.ntmps90
    go_wp2
    go_ret
    exact ⟨ret_b (by rw [hv.out]), 0, rfl⟩
  · have hv : Hid (decide (player = 1) = false) := decide_eq_false z
    have e1 : (player == 1) = false := by simpa using z
    clear z
    go_enter Try.func90, Try.ntmps90
    go_wp2
    go_ret
    exact ⟨ret_b (by rw [hv.out]), 0, rfl⟩

theorem win4_calls (bO bP bW : Nat) (n : Nat) (A C : Option Addr) (c d : Nat) (lost won : List Bool) (player : Int) (k : Nat) (W : World) (hk : k < n) (hl : SetAt W A n lost) (hs : SetAt W C n won) (hO : Box W bO (.slice A n c)) (hP : Box W bP (.int .i64 player)) (hW : Box W bW (.slice C n d)) :
    Calls Try.prog 91 #[.int .i64 (k : Int), .pointer (some ⟨bO, 0, none⟩), .pointer (some ⟨bP, 0, none⟩), .pointer (some ⟨bW, 0, none⟩)] W fun e W' => e = .returned (.bool ((inS lost k && decide (player = 0)) || (!inS lost k && inS won k))) ∧ ∃ N, W' = W.drewN N := by
  obtain ⟨b1, o1, rfl, -⟩ := hl.addr (by omega)
  obtain ⟨b2, o2, rfl, -⟩ := hs.addr (by omega)
  have s0 := hl.cell hk
  have t0 := hs.cell hk
  have x0 := hO.1
  have p0 := hP.1
  have w0 := hW.1
  have hk0 : (0 : Int) ≤ (k : Int) := by omega
  have hk1 : (k : Int) < (n : Int) := by omega
  clear hs hl hO hW hP
  generalize inS lost k = lv at *
  generalize inS won k = wv at *
  by_cases z : player = 0
  · have hv : Hid (decide (player = 0) = true) := decide_eq_true z
    have e1 : (player == 0) = true := by simpa using z
    clear z
    cases lv <;> cases wv
    all_goals
      go_enter Try.func91, Try.ntmps91
      go_wp2
      go_ret
      exact ⟨ret_b (by rw [hv.out]; rfl), 0, rfl⟩
  · have hv : Hid (decide (player = 0) = false) := decide_eq_false z
    have e1 : (player == 0) = false := by simpa using z
    clear z
    cases lv <;> cases wv
    all_goals
      go_enter Try.func91, Try.ntmps91
      go_wp2
      go_ret
      exact ⟨ret_b (by rw [hv.out]; rfl), 0, rfl⟩

theorem winners11_calls (bG bO : Nat) (A : Option Addr) (g : DV) (cg : Nat) (owner : Int) (k : Nat) (W : World) (hg : GameAt W A g.length g) (ok : GameOk g) (hk : k < g.length) (hG : Box W bG (.slice A g.length cg)) (hO : Box W bO (.int .i64 owner)) :
    Calls Try.prog 57 #[.int .i64 (k : Int), .pointer (some ⟨bG, 0, none⟩), .pointer (some ⟨bO, 0, none⟩)] W fun e W' => e = .returned (.bool (decide (gOwn g k = owner) && (gNxt g k).isEmpty)) ∧ ∃ N, W' = W.drewN N := by
  obtain ⟨b1, o1, rfl, -⟩ := hg.addr (by omega)
  obtain ⟨o, p, l, Ah, nh, ch, hx, d0, d1, d2, hl, -, -, -, -⟩ := hg.cell ok hk
  have ho := hide (gOwn_at hx)
  have hll : (gNxt g k).isEmpty = decide (nh = 0) := by
    have := hl.len
    rw [gNxt_at hx]
    cases l <;> simp at this ⊢ <;> omega
  replace hll := hide hll
  have x0 := hG.1
  have p0 := hO.1
  have hk0 : (0 : Int) ≤ (k : Int) := by omega
  have hk1 : (k : Int) < (g.length : Int) := by omega
  clear hg hx hl ok hG hO
  generalize g.length = n at *
  by_cases z : o = owner
  · have hv : Hid (decide (gOwn g k = owner) = true) := decide_eq_true (by rw [ho.out]; exact z)
    have e1 : (o == owner) = true := by simpa using z
    clear z
    by_cases z2 : nh = 0
    · have hv2 : Hid (decide (nh = 0) = true) := decide_eq_true z2
      have e2 : ((nh : Int) == 0) = true := by simpa using z2
      clear z2
      go_enter Try.func57, Try.ntmps57
      go_wp2
      go_quiet (fail)
      go_wp2
      go_ret
      exact ⟨ret_b (by rw [hv.out, hll.out, hv2.out]; rfl), _, rfl⟩
    · have hv2 : Hid (decide (nh = 0) = false) := decide_eq_false z2
      have e2 : ((nh : Int) == 0) = false := by rw [beq_eq_false_iff_ne]; omega
      clear z2
      go_enter Try.func57, Try.ntmps57
      go_wp2
      go_quiet (fail)
      go_wp2
      go_ret
      exact ⟨ret_b (by rw [hv.out, hll.out, hv2.out]; rfl), _, rfl⟩
  · have hv : Hid (decide (gOwn g k = owner) = false) := decide_eq_false (by rw [ho.out]; exact z)
    have e1 : (o == owner) = false := by simpa using z
    clear z
    go_enter Try.func57, Try.ntmps57
    go_wp2
    go_quiet (fail)
    go_wp2
    go_ret
    exact ⟨ret_b (by rw [hv.out]; rfl), _, rfl⟩

end Go.Proofs.Ythmhlbkkhaplkaa
