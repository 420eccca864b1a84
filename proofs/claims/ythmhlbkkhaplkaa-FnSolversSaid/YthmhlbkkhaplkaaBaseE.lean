/-
  Several texts in one:
  The program's recursive computation of winners. Conditions: valid games.
  Lists of int64 as results of a law: the helpers' contracts in one shape. Conditions: none.
  The reference's winners of a game. Conditions: none (games that are not valid are refused).
  The program's winners of a game. Conditions: none (games that are not valid are refused).
  Small functions around strategies: equality of lists, the test of a move, the moves that a test leaves. Conditions: at most 1048576 elements.
  Copies of lists of numbers, and lists of vertices that grow in the call's own memory. Conditions: at most 1048576 elements.
  The program's game of an equation system. Conditions: at most 1048576 equations.
  Copies of games in the call's own memory, whose moves may be written anew. Conditions: at most 1048576 vertices.
  A game in the call's own memory whose owners and priorities may be written anew. Conditions: none.
  Maps from numbers to numbers that the call has made. Conditions: sizes.
  slices.Sort and slices.Compact at []int64, on a slice of the call's own. Conditions: sizes.
  Copies of lists of numbers, and lists as ascending sets, by the program. Conditions: at most 1048576 elements.
  The winner's choices, one by one: plain. Conditions: a valid game.
  Plays by choices that contain the winners' strategies, smaller priorities, the players exchanged: plain. Conditions: a valid game.
  Smaller priorities for ascending ones, one after the other: plain. Conditions: none.
  Where a number lies in a list, and whether it does, by the library. Conditions: at most 1048576 elements.
  A play by choices, by the program: who wins it. Conditions: a valid game, choices that contain the winners' strategies.
  The players exchanged, and smaller priorities, by the program. Conditions: a valid game.
-/
import Derived.Test.YthmhlbkkhaplkaaBaseA
import Derived.Test.YthmhlbkkhaplkaaBaseB
import Derived.Test.YthmhlbkkhaplkaaBaseC
import Derived.Test.YthmhlbkkhaplkaaBaseD
import Derived.Deep.RegionHeld3
import Derived.StillTailTactics
import Derived.Maps.OwnSet
import Derived.Maps.Views
import Derived.Carry
import Derived.Deep.CutBlock
import Derived.Deep.DeepCutAuto
import Derived.Deep.QuietTactic
import Derived.BigQuiet
import Derived.Ground.SlgnProg
import Derived.Ground.SlgmProg
import Derived.Shelf.SlicesG.Turned
import Derived.Shelf.SlicesG.SearchI
import Derived.Shelf.SlicesG.CompactI
import Derived.Shelf.SlicesG.Cells
import Derived.Shelf.SortM.Plain
import Derived.Shelf.SortM.SortNone
import Derived.Shelf.SlGeneric
import Derived.Test.YthmhlbkkhaplkaaProg
set_option linter.unusedSimpArgs false
set_option linter.unusedVariables false
namespace Go.Proofs.Ythmhlbkkhaplkaa
open Go.ChangeShapes Go.WideShapes Go.ChangeAt Go.RowKit
set_option linter.unusedVariables false

theorem Box.set_other {W : World} {b B : Nat} {u v : Value} (h : Box W b u) (hne : b ≠ B) : Box (W.setCell ⟨B, 0, none⟩ v) b u :=
  ⟨(World.cell?_setCell_other _ _ _ _ (by intro e; injection e with e _ _; omega)).trans h.1, by rw [World.size_setCell]; exact h.2⟩
theorem Box.set_same {W : World} {B : Nat} {u v : Value} (h : Box W B u) : Box (W.setCell ⟨B, 0, none⟩ v) B v :=
  ⟨World.cell?_setCell_same _ _ _ h.1, by rw [World.size_setCell]; exact h.2⟩

theorem idx_zero {s : List Bool} : (idxOf s).length = 0 ↔ ∀ v, inS s v = false := by
  constructor
  · intro h v
    cases e : inS s v with
    | false => rfl
    | true =>
      have : (v : Int) ∈ idxOf s := mem_idx.2 ⟨v, rfl, e⟩
      have := List.length_pos_of_mem this
      omega
  · intro h
    have : idxOf s = [] := List.eq_nil_iff_forall_not_mem.2 fun x hx => by
      obtain ⟨v, rfl, hv⟩ := mem_idx.1 hx
      rw [h v] at hv; cases hv
    rw [this]; rfl

/-- The least priority so far. -/
def LeastJ (g : DV) (alive : List Bool) (l : List Int) (j : Nat) (m : Int) : Prop := (∃ u, inS alive u = true ∧ gPri g u = m) ∧ ∀ i (v : Nat), i < j → l[i]? = some (v : Int) → m ≤ gPri g v
theorem LeastJ.done {g : DV} {alive : List Bool} {m : Int} (h : LeastJ g alive (idxOf alive) (idxOf alive).length m) (hal : alive.length = g.length) : leastP g alive = some m := by
  obtain ⟨⟨u, hu, hm⟩, hle⟩ := h
  refine leastP_some hal hu hm fun v hv => ?_
  obtain ⟨i, hi⟩ := List.getElem?_of_mem (mem_idx.2 ⟨v, rfl, hv⟩ : (v : Int) ∈ idxOf alive)
  exact hle i v (List.getElem?_eq_some_iff.1 hi).1 hi
theorem LeastJ.done' {g : DV} {alive : List Bool} {m : Int} {n : Nat} (h : LeastJ g alive (idxOf alive) n m) (hn : (idxOf alive).length = n) (hal : alive.length = g.length) : leastP g alive = some m := by
  subst hn; exact h.done hal
theorem LeastJ.step {g : DV} {alive : List Bool} {l : List Int} {j : Nat} {m : Int} {v : Nat} (h : LeastJ g alive l j m) (hx : l[j]? = some (v : Int)) (hv : inS alive v = true) : LeastJ g alive l (j + 1) (min m (gPri g v)) := by
  obtain ⟨⟨u, hu, hm⟩, hle⟩ := h
  refine ⟨?_, fun i x hi hix => ?_⟩
  · rcases Int.le_total m (gPri g v) with h1 | h1
    · exact ⟨u, hu, by omega⟩
    · exact ⟨v, hv, by omega⟩
  · by_cases e : i = j
    · subst e
      rw [hx] at hix
      injection hix with hix
      have : v = x := by omega
      subst this
      omega
    · have := hle i x (by omega) hix
      omega

set_option maxHeartbeats 6400000 in
set_option maxRecDepth 100000 in
theorem win_calls (f : Nat) : ∀ (b : Nat) (g : DV) (alive : List Bool) (w : World), ArenaAt w b g alive → GameOk g → cntT alive ≤ f →
    Calls Try.prog 60 #[.pointer (some ⟨b, 0, none⟩)] w (GotB w g.length (winF g f alive)) := by
  induction f using Nat.strongRecOn with
  | ind f ih =>
  intro b g alive w h ok hf
  have hal : alive.length = g.length := by
    obtain ⟨Ag, cg, Ab, cb, Ai, ci, Q, h1, h2, h3, h4, h5⟩ := h
    exact h5.len
  have hmk := run_make_bool g.length (by have := ok.1.2; omega)
  have hb0 : Below w.heap.size w (w.alloc (.cells #[.pointer (some ⟨b, 0, none⟩)] 77)) := (Below.refl _ _).alloc (Nat.le_refl _) _
  have hX0 := Box.made w (.pointer (some ⟨b, 0, none⟩)) 77
  have h0 := h.below hb0 (Nat.le_refl _)
  have hz0 : w.heap.size < (w.alloc (.cells #[.pointer (some ⟨b, 0, none⟩)] 77)).heap.size := by simp
  obtain ⟨b1, o1, cg, b2, o2, cb, b3, o3, ci, Q, c0, c1, c2, hg, -, -, ha, hbl, hn0, hn1⟩ := h0.open_ ok
  have x0 := hX0.1
  have hal2 := hide hal
  generalize hBX : w.heap.size = BX at *
  replace hBX := hide hBX
  go_enter Try.func60, Try.ntmps60
  go_upto_region 1 with fail
  try simp only [hBX.out]
  generalize (w.alloc (.cells #[.pointer (some ⟨b, 0, none⟩)] 77)) = W0 at *
  have q1 := hide (trueAt_calls (some ⟨b3, o3, none⟩) g.length ci alive W0 0 _ ha.sl (by omega))
  replace h := hide h
  replace h0 := hide h0
  replace ih := hide ih
  replace hb0 := hide hb0
  replace hX0 := hide hX0
  replace hg := hide hg
  replace hf := hide hf
  replace hmk := hide hmk
  clear hal ha
  generalize hgl : g.length = n at *
  replace hgl := hide hgl
  go_wp2_with fail
  refine q1.out.mono ?_
  rintro e w1 ⟨A1, k1, rfl, hall, hb1⟩
  have hX1 := hX0.out.below hb1 (Nat.le_refl _)
  have h1 := hide (h0.out.below hb1 (Nat.le_refl _))
  have hz1 := hb1.size
  clear q1 c0 c1 c2 x0
  by_cases hem : (idxOf alive).length = 0
  · have hno := idx_zero.1 hem
    have hres := hide (winF_none (f := f) (leastP_none (hal2.out.trans hgl.out.symm) hno))
    have x1 := hX1.1
    obtain ⟨b1, o1, cg, b2, o2, cb, b3, o3, ci, Q, c0, c1, c2, -, -, -, -, hbl1, -, -⟩ := h1.out.open_ ok
    rw [hgl.out] at c0
    have hm := hide (SlB.made w1 n)
    have e0 : (((idxOf alive).length : Int) == 0) = true := by rw [hem]; rfl
    have bel1 := hb0.out.trans (hb1.mono (by omega))
    replace hmk := hmk.out
    clear hall hno hem hX1 c1 c2 hb1
    go_wp2
    go_ret
    rw [← hBX.out] at *
    exact ⟨_, _, rfl, by rw [hres.out, hgl.out]; exact hm.out.more (by omega) (by simp), bel1.alloc (by omega) _⟩
  · have e0 : (((idxOf alive).length : Int) == 0) = false := by rw [beq_eq_false_iff_ne]; omega
    have hallS := hall.sl flat_iv
    have hm0 : 0 < (idxOf alive).length := by omega
    obtain ⟨ba, oa, rfl, ha1, -, ha2, -⟩ := hallS.at_ hm0
    obtain ⟨a0, hx0, d0, -⟩ := SlI.cell hallS hm0
    obtain ⟨v0, rfl, hv0⟩ := mem_idx.1 (List.mem_of_getElem? hx0)
    have hv0n : v0 < n := by have := inS_lt hv0; rw [hal2.out] at this; have := hgl.out; omega
    have hlenA : Hid ((idxOf alive).length ≤ n) := by
      show _ ≤ _
      have := idx_len alive
      rw [hal2.out] at this
      have := hgl.out
      omega
    have x1 := hX1.1
    obtain ⟨b1, o1, cg, b2, o2, cb, b3, o3, ci, Q, c0, c1, c2, hg1, -, -, -, hbl1, -, -⟩ := h1.out.open_ ok
    rw [hgl.out] at c0 hg1
    obtain ⟨o, p0, l, Ah, nh, ch, hxv, y0, y1, y2, -, -, -, hp0, -⟩ := hg1.cell ok hv0n
    have hL0 : Hid (LeastJ g alive (idxOf alive) 0 p0) := ⟨⟨v0, hv0, gPri_at hxv⟩, fun i _ hi => absurd hi (by omega)⟩
    rw [Nat.add_zero] at d0
    have n1 := World.new_ne w1 _ x1
    have n2 := World.new_ne w1 _ c0
    have n3 := World.new_ne w1 _ d0
    have n4 := World.new_ne w1 _ y1
    have i1 : (0 : Int) ≤ (v0 : Int) := by omega
    have i2 : (v0 : Int) < (n : Int) := by omega
    have hp00 := hp0.1
    have hp09 := hp0.2
    replace hX1 := hide hX1
    replace hg1 := hide hg1
    replace hallS := hide hallS
    clear hall hx0 hxv hp0 c1 c2 y0 y2
    generalize hil : (idxOf alive).length = il at *
    have hil2 := hide hil
    clear hil
    go_wp2
    go_region_held3 (fun w' => w'.cell? ⟨BX, 0, none⟩ = some (.pointer (some ⟨b, 0, none⟩)) ∧ w'.cell? ⟨b, 0, none⟩ = some (.slice (some ⟨b1, o1, none⟩) n cg) ∧ w'.cell? ⟨ba, oa, none⟩ = some (.int .i64 (v0 : Int)) ∧ w'.cell? ⟨b1, o1 + v0 * 3 + 1, none⟩ = some (.int .i64 p0)) (go_keep) (fail)
    have bel4 : Below W0.heap.size W0 (w1.alloc (.cells #[.int .i64 p0] 2)).drew := (hb1.alloc hz1 _).drew
    have hBL : (w1.alloc (.cells #[.int .i64 p0] 2)).drew.heap[w1.heap.size]? = some (.cells #[.int .i64 p0] 2 (0, 0)) := heap_alloc_new w1 _
    have hall4 : SlI (w1.alloc (.cells #[.int .i64 p0] 2)).drew W0.heap.size w1.heap.size (some ⟨ba, oa, none⟩) il (idxOf alive) := (Sl.below hallS.out ((Below.refl w1.heap.size w1).alloc (Nat.le_refl _) _) (.inr (Nat.le_refl _))).drew
    have hz4 : w1.heap.size < (w1.alloc (.cells #[.int .i64 p0] 2)).drew.heap.size := by simp
    replace bel4 := hide bel4
    replace hBL := hide hBL
    replace hall4 := hide hall4
    clear hallS hX1 hg1 hb1 x1 c0 d0 y1 n1 n2 n3 n4 h1 i1 i2
    go_wp2_with fail
    generalize hW4 : (w1.alloc (.cells #[.int .i64 p0] 2)).drew = W4 at *
    generalize hBLn : w1.heap.size = BL at *
    clear hW4 hBLn
    go_loopw [39] (fun i wr => ∃ (j : Nat) (m : Int), j ≤ il ∧ i = .int .i64 j ∧ Hid (wr.heap[BL]? = some (.cells #[.int .i64 m] 2 (0, 0))) ∧ Hid (LeastJ g alive (idxOf alive) j m) ∧ 0 ≤ m ∧ m ≤ 9 ∧ Only BL (BL + 1) W4 wr) (fun i _ => il - (intOf i).toNat)
    case atStart => exact ⟨0, p0, Nat.zero_le _, rfl, hBL, hL0, hp00, hp09, Only.refl _ _ _⟩
    case round =>
      obtain ⟨j, m, hj, rfl, hBm, hLm, hm0', hm9, ho⟩ := hrel
      clear hBL hL0
      have bel := Only.below bel4.out ho hz1 bel4.out.size
      by_cases hjl : j < il
      · obtain ⟨aj, hxj, e0', -⟩ := SlI.cell (Sl.only hall4.out ho (.inl (Nat.le_refl _))) hjl
        obtain ⟨vj, rfl, hvj⟩ := mem_idx.1 (List.mem_of_getElem? hxj)
        have hvjn : vj < n := by have := inS_lt hvj; rw [hal2.out] at this; have := hgl.out; omega
        have hXr := hX0.out.below bel (Nat.le_refl _)
        have hAr := h0.out.below bel (Nat.le_refl _)
        have x1 := hXr.1
        obtain ⟨b1, o1, cg, b2, o2, cb, b3, o3, ci, Q, c0, c1, c2, hg1, -, -, -, hbl1, -, -⟩ := hAr.open_ ok
        rw [hgl.out] at c0 hg1
        obtain ⟨o, p, l, Ah, nh, ch, hxv, y0, y1, y2, -, -, -, hpj, -⟩ := hg1.cell ok hvjn
        have hpp0 := hpj.1
        have hpp9 := hpj.2
        have hnext := hLm.out.step hxj hvj
        rw [gPri_at hxv] at hnext
        have l0 : wr.cell? ⟨BL, 0, none⟩ = some (.int .i64 m) := (cell_of_row _ _ 0 _ _ (0, 0) hBm.out).trans rfl
        have lz := frozen_of_row _ _ 0 _ _ hBm.out
        have hset : ∀ v, Hid ((wr.setCell ⟨BL, 0, none⟩ (.int .i64 v)).heap[BL]? = some (.cells #[.int .i64 v] 2 (0, 0))) := fun v => heap_setCell_same _ _ _ _ _ _ hBm.out
        have i1 : (0 : Int) ≤ (vj : Int) := by omega
        have i2 : (vj : Int) < (n : Int) := by omega
        have hlb := hlenA.out
        clear hXr hAr hg1 hxj hxv hpj c1 c2 y0 y2 bel hBm
        by_cases hpm : p < m
        · rw [show min m p = p by omega] at hnext
          replace hnext := hide hnext
          have hset := hset p
          go_wp2
          go_still_tail 10, (by kernel_rfl)
          change wpList _ _ _ _ _ wr.drew
          go_wp2
          go_roundw
          case rel => exact ⟨j + 1, p, by omega, by go_num, (by first | exact hset | (rw [show min m p = p by omega]; exact hset)), hnext, by omega, by omega, (ho.setCell (p := ⟨BL, 0, none⟩) (Nat.le_refl _) (Nat.lt_succ_self _) _).drewN 1⟩
          case measure => simp [intOf]; omega
        · rw [show min m p = m by omega] at hnext
          replace hnext := hide hnext
          have hset := hset m
          go_wp2
          go_still_tail 10, (by kernel_rfl)
          change wpList _ _ _ _ _ wr.drew
          go_wp2
          go_roundw
          case rel => exact ⟨j + 1, m, by omega, by go_num, (by first | exact hset | (rw [show min m p = m by omega]; exact hset)), hnext, by omega, by omega, (ho.setCell (p := ⟨BL, 0, none⟩) (Nat.le_refl _) (Nat.lt_succ_self _) _).drewN 1⟩
          case measure => simp [intOf]; omega
      · have hjn : j = il := by omega
        subst hjn
        have hle := hLm.out.done' hil2.out (hal2.out.trans hgl.out.symm)
        have hrest := rest_lt (hal2.out.trans hgl.out.symm) hle
        obtain ⟨f', rfl⟩ : ∃ f', f = f' + 1 := ⟨f - 1, by have := hf.out; omega⟩
        have hXr := hX0.out.below bel (Nat.le_refl _)
        have hAr := h0.out.below bel (Nat.le_refl _)
        have hLr : Box wr BL (.int .i64 m) := ⟨(cell_of_row _ _ 0 _ _ (0, 0) hBm.out).trans rfl, (Array.getElem?_eq_some_iff.1 hBm.out).1⟩
        have l0 := hLr.1
        replace hle := hide hle
        replace hrest := hide hrest
        have hzr := bel.size
        go_upto_region 11 with fail
        have belP := bel.alloc hzr (.cells #[.int .i64 (m % 2)] 2)
        have hP := Box.made wr (.int .i64 (m % 2)) 2
        have hbA := (Below.refl wr.heap.size wr).alloc (Nat.le_refl _) (.cells #[.int .i64 (m % 2)] 2)
        have hXP := hXr.below hbA (Nat.le_refl _)
        have hLP := hLr.below hbA (Nat.le_refl _)
        have hAP := hAr.below hbA (Nat.le_refl _)
        clear hXr hAr hLr hbA l0 hBm hLm bel ho hall4 bel4 hlenA hil2
        generalize hWP : wr.alloc (.cells #[.int .i64 (m % 2)] 2) = WP at *
        generalize hBP : wr.heap.size = BP at *
        clear hWP
        have hWd : Below WP.heap.size WP WP.drew := below_drewN WP 1
        have hdrew : Below W0.heap.size W0 WP.drew := belP.drew
        have q2 := hide (marked_calls 87 #[.pointer (some ⟨BX, 0, none⟩), .pointer (some ⟨BL, 0, none⟩)] (fun v => decide (gPri g v = m)) b g alive WP.drew (hAP.below hWd (Nat.le_refl _)) ok (fun v W => by kernel_rfl)
          (fun k W hk _ hW => win1_calls b BX BL g alive m k W ((hAP.below hWd (Nat.le_refl _)).below hW (Nat.le_refl _)) ok hk ((hXP.below hWd (Nat.le_refl _)).below hW (Nat.le_refl _)) ((hLP.below hWd (Nat.le_refl _)).below hW (Nat.le_refl _))))
        have x1 := hXP.1
        have p1 := hP.1
        have hXlt := hXP.2
        have hPlt := hP.2
        replace hAP := hide hAP
        replace hXP := hide hXP
        replace hLP := hide hLP
        replace hP := hide hP
        replace belP := hide belP
        replace hdrew := hide hdrew
        go_region_held3 (fun w' => w'.cell? ⟨BX, 0, none⟩ = some (.pointer (some ⟨b, 0, none⟩)) ∧ w'.cell? ⟨BP, 0, none⟩ = some (.int .i64 (m % 2))) (first | exact ⟨y1, y2⟩ | exact ⟨z1, z2⟩ | go_keep)
          (first
            | (go_at_call 56; (with_reducible refine q2.out.mono ?_); rintro e w2 ⟨A2, k2, rfl, hs2, hb2⟩; have z1 := (hb2.cell (p := ⟨BX, 0, none⟩) hXlt).trans x1; have z2 := (hb2.cell (p := ⟨BP, 0, none⟩) hPlt).trans p1; have hX2 := Nat.lt_of_lt_of_le hXlt hb2.size; have hP2 := Nat.lt_of_lt_of_le hPlt hb2.size; have belV2 := hWd.trans (hb2.mono (Nat.le_refl _)); replace belV2 := hide belV2; have bel2 := hide (hdrew.out.trans (hb2.mono hdrew.out.size)); have hF2 := hide (SlB.at_set hs2); clear hs2 hb2)
            | (go_at_call 58; (refine (attract_calls b g alive (firstF g alive m) (m % 2) A2 k2 w2 (h0.out.below bel2.out (Nat.le_refl _)) ok hF2.out (fun v hv => firstF_sub hv)).mono ?_); rintro e w3 ⟨A3, k3, rfl, hs3, hb3⟩; have bel3 := hide (bel2.out.trans (hb3.mono bel2.out.size)); have belV3 := belV2.out.trans (hb3.mono belV2.out.size); replace belV3 := hide belV3; have hF3 := hide (show SetAt w3 A3 g.length (aimF g alive m) from SlB.at_set hs3); have y1 := (hb3.cell (p := ⟨BX, 0, none⟩) hX2).trans z1; have y2 := (hb3.cell (p := ⟨BP, 0, none⟩) hP2).trans z2; clear hs3 hb3))
        clear q2 hF2 z1 z2 hX2 hP2 x1 p1
        go_wp2_with fail
        refine (without_calls b g alive (aimF g alive m) A3 k3 w3 (h0.out.below bel3.out (Nat.le_refl _)) ok hF3.out).mono ?_
        rintro e w4 ⟨b4, rfl, hA4, hb4⟩
        have hA4 : Hid (ArenaAt w4 b4 g (lessF g alive (aimF g alive m))) := hA4
        have bel4 := hide (bel3.out.trans (hb4.mono bel3.out.size))
        have belV4 := hide (belV3.out.trans (hb4.mono belV3.out.size))
        clear hF3 y1 y2 hb4
        generalize hrs : lessF g alive (aimF g alive m) = rest at *
        replace hrs := hide hrs
        go_wp2_with fail
        refine (ih.out f' (Nat.lt_succ_self _) b4 g rest w4 hA4.out ok (by have := hrest.out; have := hf.out; omega)).mono ?_
        rintro e w5 ⟨A5, k5, rfl, hs5, hb5⟩
        have bel5 := bel4.out.trans (hb5.mono bel4.out.size)
        have belV5 := belV4.out.trans (hb5.mono belV4.out.size)
        have hbox := (Below.refl w5.heap.size w5).alloc (Nat.le_refl _) (.cells #[.slice A5 g.length k5] 79)
        have bel6 := bel5.trans (hbox.mono bel5.size)
        have belV6 := belV5.trans (hbox.mono belV5.size)
        have hA6 := (hA4.out.below hb5 (Nat.le_refl _)).below hbox (Nat.le_refl _)
        have hW6 := Box.made w5 (.slice A5 g.length k5) 79
        have hs6 := SlB.at_set (Sl.below hs5 hbox (.inr (Nat.le_refl _)))
        have hP6 := hP.out.below belV6 (Nat.le_refl _)
        have hWb6 := heap_alloc_new w5 (.cells #[.slice A5 g.length k5] 79)
        replace hWb6 := hide hWb6
        have hBWz : w5.heap.size < (w5.alloc (.cells #[.slice A5 g.length k5] 79)).heap.size := by simp
        have hBW5 : WP.heap.size ≤ w5.heap.size := belV5.size
        have hBW0 : W0.heap.size ≤ w5.heap.size := bel5.size
        clear hs5 hb5 bel4 belV4 bel5 belV5 hbox hA4
        replace bel6 := hide bel6
        replace belV6 := hide belV6
        replace hA6 := hide hA6
        replace hW6 := hide hW6
        replace hs6 := hide hs6
        replace hP6 := hide hP6
        go_wp2_with fail
        generalize hW6n : (w5.alloc (.cells #[.slice A5 g.length k5] 79)) = W6 at *
        generalize hBWn : w5.heap.size = BW at *
        clear hW6n
        generalize hwn : winF g f' rest = won at *
        replace hwn := hide hwn
        refine (marked_calls 88 #[.pointer (some ⟨BW, 0, none⟩), .pointer (some ⟨BP, 0, none⟩)] (fun v => inS won v != decide (m % 2 = 1)) b4 g rest W6 hA6.out ok (fun v W => by kernel_rfl)
          (fun k W hk _ hW => win2_calls BW BP g.length A5 k5 won (m % 2) k W hk (hs6.out.below hW (Nat.le_refl _)) (hW6.out.below hW (Nat.le_refl _)) (hP6.out.below hW (Nat.le_refl _)))).mono ?_
        rintro e w7 ⟨A7, k7, rfl, hs7, hb7⟩
        have hs7 : SlB w7 W6.heap.size w7.heap.size A7 g.length (otherF g rest won (m % 2)) := hs7
        have bel7 := hide (bel6.out.trans (hb7.mono bel6.out.size))
        have belV7 := hide (belV6.out.trans (hb7.mono belV6.out.size))
        have hW7 := hide (hW6.out.below hb7 (Nat.le_refl _))
        have hO7 := hide (SlB.at_set hs7)
        have hz67 := hb7.size
        have hWb7 := hide ((hb7.block _ hBWz).trans hWb6.out)
        clear hs7 hb7 hWb6 hA6 hW6 hs6 bel6 belV6 hP6
        go_wp2_with fail
        refine (containsTrue_calls A7 g.length k7 _ w7 0 _ hO7.out.sl (by have := ok.1.2; omega)).mono ?_
        rintro e w' ⟨rfl, rfl⟩
        generalize hoth : otherF g rest won (m % 2) = other at *
        have hX7 := (hXP.out.below belV7.out (Nat.le_refl _))
        have hP7 := (hP.out.below belV7.out (Nat.le_refl _))
        have x7 := hX7.1
        have p7 := hP7.1
        replace hX7 := hide hX7
        replace hP7 := hide hP7
        by_cases hany : anyS other = true
        · have hgo := winF_go (f := f') hle.out (by rw [hrs.out, hwn.out, hoth]; exact hany)
          have hll := lost_lt (p2 := 1 - m % 2) (won := won) (player := m % 2) (hal2.out.trans hgl.out.symm) (least := m) (g := g) (alive := alive) (by rw [hrs.out, hoth]; exact hany)
          rw [hrs.out, hwn.out, hoth] at hgo
          rw [hrs.out, hoth] at hll
          have hosub : ∀ v, inS other v = true → inS alive v = true := fun v hv => by
            rw [← hoth, ← hrs.out] at hv
            exact otherF_sub hv
          dsimp only at hgo
          replace hgo := hide hgo
          replace hll := hide hll
          replace hosub := hide hosub
          replace hoth := hide hoth
          go_wp2_with fail
          refine (attract_calls b g alive other (1 - m % 2) A7 k7 w7 (h0.out.below bel7.out (Nat.le_refl _)) ok hO7.out hosub.out).mono ?_
          rintro e w8 ⟨A8, k8, rfl, hs8, hb8⟩
          have bel8 := bel7.out.trans (hb8.mono bel7.out.size)
          have hz8 := hb8.size
          have hz78 : W6.heap.size ≤ w7.heap.size := hz67
          have hWb8 := (hb8.block _ (by omega)).trans hWb7.out
          have hX8 := hX7.out.below hb8 (Nat.le_refl _)
          have hP8 := hP7.out.below hb8 (Nat.le_refl _)
          have hbox := (Below.refl w8.heap.size w8).alloc (Nat.le_refl _) (.cells #[.slice A8 g.length k8] 79)
          have bel9 := bel8.trans (hbox.mono bel8.size)
          have hX9 := hX8.below hbox (Nat.le_refl _)
          have hP9 := hP8.below hbox (Nat.le_refl _)
          have hO9 := Box.made w8 (.slice A8 g.length k8) 79
          have hl9 := Sl.below hs8 hbox (.inr (Nat.le_refl _))
          have hWb9 := (hbox.block BW (by omega)).trans hWb8
          have hz9 : w8.heap.size < (w8.alloc (.cells #[.slice A8 g.length k8] 79)).heap.size := by simp
          have x9 := hX9.1
          have o9 := hO9.1
          generalize hlost : attrF g alive (1 - m % 2) other = lost at *
          replace hlost := hide hlost
          replace bel9 := hide bel9
          replace hX9 := hide hX9
          replace hP9 := hide hP9
          replace hO9 := hide hO9
          replace hl9 := hide hl9
          replace hWb9 := hide hWb9
          clear hs8 hb8 hbox hX8 hP8 hWb8 bel8 hO7 x7 p7 hX7 hP7 hWb7 hW7 belV7
          go_wp2_with fail
          generalize hW9 : (w8.alloc (.cells #[.slice A8 g.length k8] 79)) = W9 at *
          generalize hBO : w8.heap.size = BO at *
          clear hW9
          refine (without_calls b g alive lost A8 k8 W9 (h0.out.below bel9.out (Nat.le_refl _)) ok (SlB.at_set hl9.out)).mono ?_
          rintro e w10 ⟨b10, rfl, hA10, hb10⟩
          have hA10 : Hid (ArenaAt w10 b10 g (lessF g alive lost)) := hA10
          have bel10 := hide (bel9.out.trans (hb10.mono bel9.out.size))
          have hX10 := hide (hX9.out.below hb10 (Nat.le_refl _))
          have hP10 := hide (hP9.out.below hb10 (Nat.le_refl _))
          have hO10 := hide (hO9.out.below hb10 (Nat.le_refl _))
          have hl10 := hide (Sl.below hl9.out hb10 (.inr (Nat.le_refl _)))
          have hWb10 := hide ((hb10.block BW (by omega)).trans hWb9.out)
          have hz10 := hb10.size
          clear hX9 hP9 hO9 hl9 hWb9 bel9 hb10 x9 o9
          go_wp2_with fail
          refine (ih.out f' (Nat.lt_succ_self _) b10 g (lessF g alive lost) w10 hA10.out ok (by have := hll.out; have := hf.out; omega)).mono ?_
          rintro e w11 ⟨A11, k11, rfl, hs11, hb11⟩
          have bel11 := bel10.out.trans (hb11.mono bel10.out.size)
          have hX11 := hX10.out.below hb11 (Nat.le_refl _)
          have hP11 := hP10.out.below hb11 (Nat.le_refl _)
          have hO11 := hO10.out.below hb11 (Nat.le_refl _)
          have hl11 := Sl.below hl10.out hb11 (.inr (Nat.le_refl _))
          have hWb11 := (hb11.block BW (by omega)).trans hWb10.out
          have hz11 := hb11.size
          have hW11 : Box w11 BW (.slice A5 g.length k5) := ⟨(cell_of_row _ _ 0 _ _ (0, 0) hWb11).trans rfl, (Array.getElem?_eq_some_iff.1 hWb11).1⟩
          have w11c := hW11.1
          have w11z := frozen_of_row _ _ 0 _ _ hWb11
          have hXne : BX ≠ BW := by omega
          have hPne : BP ≠ BW := by omega
          have hOne : BO ≠ BW := by omega
          have hbW : Below W0.heap.size W0 (w11.setCell ⟨BW, 0, none⟩ (.slice A11 g.length k11)) := bel11.setCell hBW0 _
          have hoW : Only BW (BW + 1) w11 (w11.setCell ⟨BW, 0, none⟩ (.slice A11 g.length k11)) := (Only.refl _ _ _).setCell (p := ⟨BW, 0, none⟩) (Nat.le_refl _) (Nat.lt_succ_self _) _
          have hX12 := Box.set_other (v := .slice A11 g.length k11) hX11 hXne
          have hP12 := hide (Box.set_other (v := .slice A11 g.length k11) hP11 hPne)
          have hO12 := hide (Box.set_other (v := .slice A11 g.length k11) hO11 hOne)
          have hW12 := hide (Box.set_same (v := .slice A11 g.length k11) hW11)
          have hl12 := hide (SlB.at_set (Sl.only hl11 hoW (.inr (by omega))))
          have hs12 := hide (SlB.at_set (Sl.only hs11 hoW (.inr (by omega))))
          have hA12 := hide (h0.out.below hbW (Nat.le_refl _))
          have x12 := hX12.1
          have hzs : (w11.setCell ⟨BW, 0, none⟩ (.slice A11 g.length k11)).heap.size = w11.heap.size := World.size_setCell _ _ _
          replace hbW := hide hbW
          replace hzs := hide hzs
          clear hs11 hb11 bel11 hX11 hP11 hO11 hl11 hWb11 hoW hX12 bel10 hX10 hP10 hO10 hl10 hWb10 hA10
          go_wp2_with fail
          refine (marked_calls 91 #[.pointer (some ⟨BO, 0, none⟩), .pointer (some ⟨BP, 0, none⟩), .pointer (some ⟨BW, 0, none⟩)] (fun v => (inS lost v && decide (m % 2 = 0)) || (!inS lost v && inS (winF g f' (lessF g alive lost)) v)) b g alive _ hA12.out ok (fun v W => by kernel_rfl)
            (fun k W hk _ hW => win4_calls BO BP BW g.length A8 A11 k8 k11 lost (winF g f' (lessF g alive lost)) (m % 2) k W hk (hl12.out.below hW (Nat.le_refl _)) (hs12.out.below hW (Nat.le_refl _)) (hO12.out.below hW (Nat.le_refl _)) (hP12.out.below hW (Nat.le_refl _)) (hW12.out.below hW (Nat.le_refl _)))).mono ?_
          rintro e w13 ⟨A13, k13, rfl, hs13, hb13⟩
          have bel13 := hide (hbW.out.trans (hb13.mono hbW.out.size))
          have hzz := bel7.out.size
          have hw7 : w.heap.size ≤ w11.heap.size := Nat.le_trans hb0.out.size (by omega)
          have hfin : SlB w13 w.heap.size w13.heap.size A13 n (winF g (f' + 1) alive) := by
            have h9 := hs13.more (lo' := w.heap.size) (by rw [hzs.out]; exact hw7) (Nat.le_refl _)
            rw [hgo.out, ← hgl.out]
            exact h9
          replace hfin := hide hfin
          clear hs13 hb13 x12
          go_wp2_with fail
          go_ret
          exact ⟨A13, k13, by rw [← hgl.out]; rfl, hfin.out, by rw [hBX.out]; exact hb0.out.trans (bel13.out.mono (by omega))⟩
        · replace hany := Bool.eq_false_iff.2 hany
          have hstop := hide (winF_stop (f := f') hle.out (by rw [hrs.out, hwn.out, hoth]; exact hany))
          replace hoth := hide hoth
          have hA7 := hide (h0.out.below bel7.out (Nat.le_refl _))
          go_wp2_with fail
          refine (marked_calls 90 #[.pointer (some ⟨BP, 0, none⟩)] (fun _ => decide (m % 2 = 1)) b g alive w7 hA7.out ok (fun v W => by kernel_rfl) (fun k W hk _ hW => win3_calls BP (m % 2) k W (hP7.out.below hW (Nat.le_refl _)))).mono ?_
          rintro e w8 ⟨A8, k8, rfl, hs8, hb8⟩
          have bel8 := hide (bel7.out.trans (hb8.mono bel7.out.size))
          have hzz := bel7.out.size
          replace hs8 := hide hs8
          clear hb8
          go_wp2_with fail
          go_ret
          have hw7 : w.heap.size ≤ w7.heap.size := Nat.le_trans hb0.out.size hzz
          have hfin : SlB w8 w.heap.size w8.heap.size A8 n (winF g (f' + 1) alive) := by
            have h9 := hs8.out.more (lo' := w.heap.size) hw7 (Nat.le_refl _)
            rw [hstop.out, ← hgl.out]
            exact h9
          exact ⟨A8, k8, by rw [← hgl.out]; rfl, hfin, by rw [hBX.out]; exact hb0.out.trans (bel8.out.mono (by omega))⟩

end Go.Proofs.Ythmhlbkkhaplkaa

namespace Go.Proofs.Ythmhlbkkhaplkaa
open Go.ChangeShapes Go.WideShapes Go.ChangeAt Go.RowKit
set_option linter.unusedVariables false

def ResI (w : World) (lo hi : Nat) (v : Value) (d : List Int) : Prop := ∃ A n c, v = .slice A n c ∧ n ≤ 1048576 ∧ SlI w lo hi A n d
theorem ResI.below {w w' : World} {lo hi B : Nat} {v : Value} {d : List Int} (h : ResI w lo hi v d) (hb : Below B w w') (hB : hi ≤ B ∨ w.heap.size ≤ B) : ResI w' lo hi v d := by
  obtain ⟨A, n, c, h1, h2, h3⟩ := h
  exact ⟨A, n, c, h1, h2, h3.below hb hB⟩
theorem ResI.only {w w' : World} {lo hi lo' hi' : Nat} {v : Value} {d : List Int} (h : ResI w lo hi v d) (g : Only lo' hi' w w') (hd : hi ≤ lo' ∨ hi' ≤ lo) : ResI w' lo hi v d := by
  obtain ⟨A, n, c, h1, h2, h3⟩ := h
  exact ⟨A, n, c, h1, h2, h3.only g hd⟩
end Go.Proofs.Ythmhlbkkhaplkaa

namespace Go.Proofs.Ythmhlbkkhaplkaa
open Go.ChangeShapes Go.WideShapes Go.ChangeAt Go.RowKit
set_option linter.unusedVariables false

theorem FreshV.game {w : World} {lo hi n : Nat} {A : Option Addr} {R : List (CV × List Int)} (h : NestV w lo hi A n R) : GameAt w A n (R.map dV) :=
  ⟨R, (h.all.top.more (Nat.zero_le _) (Nat.le_refl _)), rfl, by rw [List.length_map, h.len]⟩

theorem less_whole {g : DV} (z : List Bool) : (setOf g.length fun v => inS (setOf g.length fun _ => true) v && !inS z v) = setOf g.length fun v => !inS z v := setOf_congr fun v hv => by rw [inS_setOf]; simp [hv]
theorem ends_whole {g : DV} (o : Int) : (setOf g.length fun v => inS (setOf g.length fun _ => true) v && decide (gOwn g v = o) && (gNxt g v).isEmpty) = stuckF g o := setOf_congr fun v hv => by rw [inS_setOf]; simp [hv]

set_option maxHeartbeats 1600000 in
set_option maxRecDepth 100000 in
theorem l23Winners_calls (A : Option Addr) (n c : Nat) (g : DV) (w : World) (hg : GameAt w A n g) (ok : GameOk g) :
    Calls Try.prog 47 #[.slice A n c] w fun e w' => ∃ A' c', e = .returned (.slice A' n c') ∧ SlI w' w.heap.size w'.heap.size A' n (winnersF g) ∧ Below w.heap.size w w' := by
  have hgl := hg.len
  have hn : 0 < n ∧ n ≤ 120 := by have := ok.1; omega
  obtain ⟨hn0, hn1⟩ := hn
  have hE := hide elem_int64
  have hq := hide (l23Whole_calls n w (by omega))
  replace hg := hide hg
  replace hgl := hide hgl
  replace ok := hide ok
  go_enter Try.func47, Try.ntmps47
  go_wp2_with fail
  refine hq.out.mono ?_
  rintro e w1 ⟨A1, k1, rfl, hs1, bel1⟩
  have h1 : SetAt w1 A1 n (wholeF g) := by
    have := SlB.at_set hs1
    unfold wholeF
    rw [← hgl.out]
    exact this
  replace h1 := hide h1
  clear hs1 hq
  go_wp2_with fail
  refine (l23Ends_calls _ _ n _ _ g (wholeF g) 1 w1 (hg.out.below bel1 (Nat.le_refl _)) ok.out h1.out).mono ?_
  rintro e w2 ⟨A2, k2, rfl, hs2, hb2⟩
  have bel2 := bel1.trans (hb2.mono bel1.size)
  have h2 : SetAt w2 A2 n (stuckF g 1) := by
    have := SlB.at_set hs2
    rw [hgl.out] at this
    unfold wholeF at this
    rw [ends_whole] at this
    rw [hgl.out]
    exact this
  replace h2 := hide h2
  have h12 := hide (h1.out.below hb2 (Nat.le_refl _))
  clear hs2 h1 hb2
  go_wp2_with fail
  refine (l23Attract_calls _ _ _ n _ _ _ g (wholeF g) (stuckF g 1) 0 w2 (hg.out.below bel2 (Nat.le_refl _)) ok.out h12.out h2.out).mono ?_
  rintro e w3 ⟨A3, k3, rfl, hs3, hb3⟩
  have bel3 := bel2.trans (hb3.mono bel2.size)
  have h3 : Hid (SetAt w3 A3 n (zeroF g)) := SlB.at_set hs3
  have h13 := hide (h12.out.below hb3 (Nat.le_refl _))
  clear hs3 h12 h2 hb3
  go_wp2_with fail
  refine (l23Less_calls _ _ n _ _ (wholeF g) (zeroF g) w3 h13.out h3.out (by omega)).mono ?_
  rintro e w4 ⟨A4, k4, rfl, hs4, hb4⟩
  have bel4 := bel3.trans (hb4.mono bel3.size)
  have h4 : SetAt w4 A4 n (setOf g.length fun v => !inS (zeroF g) v) := by
    have := SlB.at_set hs4
    rw [hgl.out] at this
    unfold wholeF at this
    rw [less_whole] at this
    rw [hgl.out]
    exact this
  replace h4 := hide h4
  clear hs4 h13 h3 hb4
  have heq := winners_eq (g := g) ok.out.owned
  dsimp only at heq
  generalize (setOf g.length fun v => !inS (zeroF g) v) = rest at *
  go_wp2_with fail
  refine (l23Ends_calls _ _ n _ _ g rest 0 w4 (hg.out.below bel4 (Nat.le_refl _)) ok.out h4.out).mono ?_
  rintro e w5 ⟨A5, k5, rfl, hs5, hb5⟩
  have bel5 := bel4.trans (hb5.mono bel4.size)
  have h5 : SetAt w5 A5 n (setOf g.length fun v => inS rest v && decide (gOwn g v = 0) && (gNxt g v).isEmpty) := by
    have := SlB.at_set hs5
    rw [hgl.out] at this ⊢
    exact this
  replace h5 := hide h5
  have h45 := hide (h4.out.below hb5 (Nat.le_refl _))
  clear hs5 h4 hb5
  go_wp2_with fail
  refine (l23Attract_calls _ _ _ n _ _ _ g rest _ 1 w5 (hg.out.below bel5 (Nat.le_refl _)) ok.out h45.out h5.out).mono ?_
  rintro e w6 ⟨A6, k6, rfl, hs6, hb6⟩
  have bel6 := bel5.trans (hb6.mono bel5.size)
  have h6 := hide (SlB.at_set hs6)
  have h46 := hide (h45.out.below hb6 (Nat.le_refl _))
  clear hs6 h45 h5 hb6
  generalize attrF g rest 1 (setOf g.length fun v => inS rest v && decide (gOwn g v = 0) && (gNxt g v).isEmpty) = one at *
  go_wp2_with fail
  refine (l23Less_calls _ _ n _ _ rest one w6 h46.out h6.out (by omega)).mono ?_
  rintro e w7 ⟨A7, k7, rfl, hs7, hb7⟩
  have bel7 := bel6.trans (hb7.mono bel6.size)
  have h7 : SetAt w7 A7 n (setOf g.length fun v => inS rest v && !inS one v) := by
    have := SlB.at_set hs7
    rw [hgl.out] at this ⊢
    exact this
  replace h7 := hide h7
  have h67 := hide (h6.out.below hb7 (Nat.le_refl _))
  clear hs7 h46 h6 hb7
  go_wp2_with fail
  refine (l23Region_calls g.length _ _ n _ _ g _ w7 (hg.out.below bel7 (Nat.le_refl _)) ok.out h7.out (by have := cntT_le (setOf g.length fun v => inS rest v && !inS one v); rw [setOf_len] at this; exact this)).mono ?_
  rintro e w8 ⟨A8, k8, rfl, hs8, hb8⟩
  have bel8 := bel7.trans (hb8.mono bel7.size)
  have h8 := hide (SlB.at_set hs8)
  have h68 := hide (h67.out.below hb8 (Nat.le_refl _))
  clear hs8 h67 h7 hb8
  generalize winF g g.length (setOf g.length fun v => inS rest v && !inS one v) = region at *
  replace heq := hide heq
  have hz8 := bel8.size
  go_wp2_with fail
  go_loopw [8, 9] (fun v i wr => ∃ (k : Nat) (Ao : Option Addr) (co : Nat), k ≤ n ∧ i = .int .i64 k ∧ v = .slice Ao k co ∧ Own 1 iv wr w8.heap.size 2 Ao k co ((List.range k).map fun v => if inS one v || inS region v then (1 : Int) else 0) ∧ Below w8.heap.size w8 wr) (fun _ i _ => n - (intOf i).toNat)
  case atStart => exact ⟨0, _, 0, Nat.zero_le _, rfl, rfl, Own.made w8 _ (Nat.le_refl _), (Below.refl _ _).alloc (Nat.le_refl _) _⟩
  case round =>
    obtain ⟨k, Ao, co, hk, rfl, rfl, hown, hb⟩ := hrel
    replace hown := hide hown
    by_cases hlt : k < n
    · obtain ⟨b1, o1, rfl, hb1⟩ := SetAt.addr h68.out hn0
      obtain ⟨b2, o2, rfl, hb2⟩ := SetAt.addr h8.out hn0
      have h6r := h68.out.below hb (Nat.le_refl _)
      have h8r := h8.out.below hb (Nat.le_refl _)
      have p0 := h6r.cell hlt
      have q0 := h8r.cell hlt
      have hst := range_map_step (fun v => if inS one v || inS region v then (1 : Int) else 0) k
      have hz := hb.size
      clear h6r h8r h68 h8
      by_cases z1 : inS one k = true
      · rw [z1] at p0
        simp only [z1, Bool.true_or, if_true] at hst
        replace hst := hide hst
        have hza : w8.heap.size ≤ (wr.alloc (.cells #[.int .i64 1] 2)).heap.size := by simp; omega
        clear z1 q0
        go_wp2_with (first | (go_at_call 81; (with_reducible refine (l03Truth_calls true _).mono ?_); rintro e w' ⟨rfl, rfl⟩; simp only [if_true]) | (at_builtin; (with_reducible refine wpList_app rfl (.tmp 40) (.tmp 52) rfl hE.out flat_iv rfl (hown.out.alloc _) rfl (Sl.lit1' wr 2 (1 : Int) _ rfl 1 _ ?c0) ?c1 hza ?_); rotate_right; intro A5 c5 w5 hown5 hgr5 hb5 _))
        case c0 => rfl
        case c1 => omega
        go_roundw
        case rel => exact ⟨k + 1, A5, c5, by omega, by go_num, rfl, by rw [hst.out]; exact hown5, (hb.alloc hz _).trans hb5⟩
        case measure => simp [intOf]; omega
      · replace z1 := Bool.eq_false_iff.2 z1
        rw [z1] at p0
        simp only [z1, Bool.false_or] at hst
        generalize inS region k = z2 at *
        cases z2 with
        | true =>
          replace hst := hide hst
          have hza : w8.heap.size ≤ (wr.alloc (.cells #[.int .i64 1] 2)).heap.size := by simp; omega
          clear z1
          go_wp2_with (first | (go_at_call 81; (with_reducible refine (l03Truth_calls true _).mono ?_); rintro e w' ⟨rfl, rfl⟩; simp only [if_true]) | (at_builtin; (with_reducible refine wpList_app rfl (.tmp 40) (.tmp 52) rfl hE.out flat_iv rfl (hown.out.alloc _) rfl (Sl.lit1' wr 2 (1 : Int) _ rfl 1 _ ?c0) ?c1 hza ?_); rotate_right; intro A5 c5 w5 hown5 hgr5 hb5 _))
          case c0 => rfl
          case c1 => omega
          go_roundw
          case rel => exact ⟨k + 1, A5, c5, by omega, by go_num, rfl, by rw [hst.out]; exact hown5, (hb.alloc hz _).trans hb5⟩
          case measure => simp [intOf]; omega
        | false =>
          replace hst := hide hst
          have hza : w8.heap.size ≤ (wr.alloc (.cells #[.int .i64 0] 2)).heap.size := by simp; omega
          clear z1
          go_wp2_with (first | (go_at_call 81; (with_reducible refine (l03Truth_calls false _).mono ?_); rintro e w' ⟨rfl, rfl⟩; simp only [if_false, Bool.false_eq_true]) | (at_builtin; (with_reducible refine wpList_app rfl (.tmp 40) (.tmp 52) rfl hE.out flat_iv rfl (hown.out.alloc _) rfl (Sl.lit1' wr 2 (0 : Int) _ rfl 1 _ ?c0) ?c1 hza ?_); rotate_right; intro A5 c5 w5 hown5 hgr5 hb5 _))
          case c0 => rfl
          case c1 => omega
          go_roundw
          case rel => exact ⟨k + 1, A5, c5, by omega, by go_num, rfl, by rw [hst.out]; exact hown5, (hb.alloc hz _).trans hb5⟩
          case measure => simp [intOf]; omega
    · have hkn : k = n := by omega
      subst hkn
      clear h68 h8
      go_wp2
      go_ret
      refine ⟨_, _, rfl, ?_, bel8.trans (hb.mono bel8.size)⟩
      rw [← heq.out, ← hgl.out]
      exact (hown.out.sl flat_iv).more hz8 (Nat.le_refl _)

end Go.Proofs.Ythmhlbkkhaplkaa

namespace Go.Proofs.Ythmhlbkkhaplkaa
open Go.ChangeShapes Go.WideShapes Go.ChangeAt Go.RowKit
set_option linter.unusedVariables false

/-- A list of which the first k places are filled. -/
def intK (n k : Nat) (p : Nat → Int) : List Int := (List.range n).map fun v => if v < k then p v else 0
theorem intK_len (n k : Nat) (p : Nat → Int) : (intK n k p).length = n := by simp [intK]
theorem intK_all (n : Nat) (p : Nat → Int) : intK n n p = (List.range n).map p := by
  unfold intK
  apply List.map_congr_left
  intro v hv
  rw [if_pos (List.mem_range.1 hv)]
theorem intK_step {n k : Nat} {p : Nat → Int} (hk : k < n) : (intK n k p).set k (p k) = intK n (k + 1) p := by
  apply List.ext_getElem?
  intro i
  by_cases e : k = i
  · subst e
    rw [List.getElem?_set_self (by rw [intK_len]; exact hk)]
    simp [intK, hk]
  · rw [List.getElem?_set_ne e]
    by_cases hi : i < n
    · simp only [intK, List.getElem?_map, List.getElem?_range hi, Option.map_some]
      have : (i < k) ↔ (i < k + 1) := by omega
      simp [this]
    · rw [List.getElem?_eq_none (by rw [intK_len]; omega), List.getElem?_eq_none (by rw [intK_len]; omega)]
theorem run_make_int (n : Nat) (hn : n ≤ 1048576) (W : World) : (Instr.makeSlice 26 (.int .i64 (n : Int)) (.int .i64 (n : Int))).run Try.prog W = .ok (.slice (some ⟨W.heap.size, 0, none⟩) n n) (W.alloc (.cells (madeCells #[.int .i64 0] n) 2)) := by
  obtain ⟨i0, hi0, hz0, hz1, hz2⟩ := info_parts info_int64
  have h := make_row (P := Try.prog) 26 2 i0 _ _ n Try.underlying26 hi0 hz0 hz1 (by rw [hz2]; omega) (by omega) W
  rw [Nat.mul_one] at h
  exact h
theorem SlI.made (w : World) (n : Nat) (p : Nat → Int) : SlI (w.alloc (.cells (madeCells #[.int .i64 0] n) 2)) w.heap.size (w.heap.size + 1) (some ⟨w.heap.size, 0, none⟩) n (intK n 0 p) := by
  refine ⟨intK_len _ _ _, fun hn => ⟨w.heap.size, 0, rfl, Nat.le_refl _, by omega, by simp, fun k x hx j u hu => ?_⟩⟩
  have hk : k < n := by
    have := (List.getElem?_eq_some_iff.1 hx).1
    rwa [intK_len] at this
  have hx0 : x = 0 := by
    simp only [intK, List.getElem?_map, List.getElem?_range hk, Option.map_some] at hx
    simp at hx
    exact hx.symm
  subst hx0
  have hj : j = 0 := by
    have := (List.getElem?_eq_some_iff.1 hu).1
    simp [iv] at this
    exact this
  subst hj
  simp [iv] at hu
  subst hu
  have hg := heap_alloc_new w (.cells (madeCells #[.int .i64 0] n) 2)
  refine ⟨(cell_of_row _ _ _ _ _ (0, 0) hg).trans ?_, frozen_of_row _ _ _ _ _ hg⟩
  simp [madeCells, hk, Nat.mod_one]

theorem stuck_marked {g : DV} (o : Int) : (setOf g.length fun v => inS (setOf g.length fun _ => true) v && (decide (gOwn g v = o) && (gNxt g v).isEmpty)) = stuckF g o := setOf_congr fun v hv => by rw [inS_setOf]; simp [hv]

set_option maxRecDepth 100000 in
theorem winners1_calls (b bX bG : Nat) (A : Option Addr) (g : DV) (cg : Nat) (owner : Int) (W : World) (h : ArenaAt W b g (setOf g.length fun _ => true)) (ok : GameOk g) (hX : Box W bX (.pointer (some ⟨b, 0, none⟩))) (hG : Box W bG (.slice A g.length cg)) (hg : GameAt W A g.length g) :
    Calls Try.prog 55 #[.int .i64 owner, .pointer (some ⟨bX, 0, none⟩), .pointer (some ⟨bG, 0, none⟩)] W (GotB W g.length (stuckF g owner)) := by
  have hb0 := (Below.refl W.heap.size W).alloc (Nat.le_refl _) (.cells #[.int .i64 owner] 2)
  have hO := Box.made W (.int .i64 owner) 2
  have hX0 := hX.below hb0 (Nat.le_refl _)
  have x0 := hX0.1
  have q := marked_calls 57 #[.pointer (some ⟨bG, 0, none⟩), .pointer (some ⟨W.heap.size, 0, none⟩)] (fun v => decide (gOwn g v = owner) && (gNxt g v).isEmpty) b g _ (W.alloc (.cells #[.int .i64 owner] 2)) (h.below hb0 (Nat.le_refl _)) ok (fun v W => by kernel_rfl)
    (fun k W1 hk _ hW => winners11_calls bG W.heap.size A g cg owner k W1 ((hg.below hb0 (Nat.le_refl _)).below hW (Nat.le_refl _)) ok hk ((hG.below hb0 (Nat.le_refl _)).below hW (Nat.le_refl _)) (hO.below hW (Nat.le_refl _)))
  rw [stuck_marked] at q
  replace q := hide q
  replace hb0 := hide hb0
  clear h hX hG hg hO hX0
  go_enter Try.func55, Try.ntmps55
  go_wp2_with fail
  refine q.out.mono ?_
  rintro e w1 ⟨A1, k1, rfl, hs, hb⟩
  replace hs := hide hs
  go_wp2_with fail
  go_ret
  exact ⟨A1, k1, rfl, hs.out.more (by simp) (Nat.le_refl _), hb0.out.trans (hb.mono hb0.out.size)⟩

theorem rest_two {g : DV} : (setOf g.length fun v => inS (setOf g.length fun v => inS (setOf g.length fun _ => true) v && !inS (oneF g) v) v && !inS (zeroF g) v) = restF g := setOf_congr fun v hv => by
  rw [inS_setOf, inS_setOf]
  simp [hv, Bool.and_comm]

set_option maxHeartbeats 3200000 in
set_option maxRecDepth 100000 in
theorem winners_calls (A : Option Addr) (cg : Nat) (g : DV) (w : World) (hg : GameAt w A g.length g) (ok : GameOk g) :
    Calls Try.prog 24 #[.slice A g.length cg] w fun e w' => ∃ A' c', e = .returned (.slice A' g.length c') ∧ SlI w' w.heap.size w'.heap.size A' g.length (winnersF g) ∧ Below w.heap.size w w' := by
  have hn0 : 0 < g.length := ok.1.1
  have hn1 : g.length ≤ 120 := ok.1.2
  have hmk := hide (run_make_int g.length (by omega))
  have hb0 := (Below.refl w.heap.size w).alloc (Nat.le_refl _) (.cells #[.slice A g.length cg] 25)
  have hG0 := Box.made w (.slice A g.length cg) 25
  have g0 := hG0.1
  have hg0 := hg.below hb0 (Nat.le_refl _)
  have hz0 : w.heap.size < (w.alloc (.cells #[.slice A g.length cg] 25)).heap.size := by simp
  have q := hide (newArena_calls A cg g _ hg0 ok)
  replace hG0 := hide hG0
  replace hg0 := hide hg0
  replace hb0 := hide hb0
  go_enter Try.func24, Try.ntmps24
  go_wp2_with fail
  generalize hW0 : (w.alloc (.cells #[.slice A g.length cg] 25)) = W0 at *
  generalize hBG : w.heap.size = BG at *
  replace hBG := hide hBG
  clear hW0
  refine q.out.mono ?_
  rintro e w1 ⟨b, rfl, hA1, hb1⟩
  have hbox := (Below.refl w1.heap.size w1).alloc (Nat.le_refl _) (.cells #[.pointer (some ⟨b, 0, none⟩)] 77)
  have bel2 := hb1.trans (hbox.mono hb1.size)
  have hX2 := Box.made w1 (.pointer (some ⟨b, 0, none⟩)) 77
  have hA2 := hA1.below hbox (Nat.le_refl _)
  have hG2 := hG0.out.below bel2 (Nat.le_refl _)
  have hg2 := hg0.out.below bel2 (Nat.le_refl _)
  replace hA2 := hide hA2
  replace hX2 := hide hX2
  replace hG2 := hide hG2
  replace hg2 := hide hg2
  replace bel2 := hide bel2
  clear q hA1 hb1 hbox
  have x2 := hX2.out.1
  have hX2lt := hX2.out.2
  go_upto_region 3 with fail
  generalize hW2 : (w1.alloc (.cells #[.pointer (some ⟨b, 0, none⟩)] 77)) = W2 at *
  generalize hBX : w1.heap.size = BX at *
  clear hW2
  have hWd : Below W2.heap.size W2 W2.drew := below_drewN W2 1
  have q1 := hide (winners1_calls b BX BG A g cg 0 W2.drew (hA2.out.below hWd (Nat.le_refl _)) ok (hX2.out.below hWd (Nat.le_refl _)) (hG2.out.below hWd (Nat.le_refl _)) (hg2.out.below hWd (Nat.le_refl _)))
  go_region_held3 (fun w' => w'.cell? ⟨BX, 0, none⟩ = some (.pointer (some ⟨b, 0, none⟩))) (first | exact y1 | exact z1 | go_keep)
    (first
      | (go_at_call 55; (with_reducible refine q1.out.mono ?_); rintro e w3 ⟨A3, k3, rfl, hs3, hb3⟩; have z1 := (hb3.cell (p := ⟨BX, 0, none⟩) hX2lt).trans x2; have bel3 := hWd.trans (hb3.mono (Nat.le_refl _)); have hX3 := Nat.lt_of_lt_of_le hX2lt hb3.size; replace bel3 := hide bel3; have hF3 := hide (SlB.at_set hs3); clear hs3 hb3)
      | (go_at_call 58; (refine (attract_calls b g _ (stuckF g 0) 1 A3 k3 w3 (hA2.out.below bel3.out (Nat.le_refl _)) ok hF3.out (fun v hv => stuck_whole hv)).mono ?_); rintro e w4 ⟨A4, k4, rfl, hs4, hb4⟩; have y1 := (hb4.cell (p := ⟨BX, 0, none⟩) hX3).trans z1; have bel4 := bel3.out.trans (hb4.mono bel3.out.size); replace bel4 := hide bel4; have hF4 := hide (show SetAt w4 A4 g.length (oneF g) from SlB.at_set hs4); clear hs4 hb4))
  clear q1 hF3 z1 hX3
  go_upto_region 4 with fail
  have hX4 := hX2.out.below bel4.out (Nat.le_refl _)
  have hX4lt := hX4.2
  have x4 := hX4.1
  have hWd4 : Below w4.heap.size w4 w4.drew := below_drewN w4 1
  have belD4 := bel4.out.trans (hWd4.mono bel4.out.size)
  have q2 := hide (winners1_calls b BX BG A g cg 1 w4.drew (hA2.out.below belD4 (Nat.le_refl _)) ok (hX2.out.below belD4 (Nat.le_refl _)) (hG2.out.below belD4 (Nat.le_refl _)) (hg2.out.below belD4 (Nat.le_refl _)))
  replace hX4 := hide hX4
  replace belD4 := hide belD4
  go_region_held3 (fun w' => w'.cell? ⟨BX, 0, none⟩ = some (.pointer (some ⟨b, 0, none⟩))) (first | exact y5 | exact z5 | go_keep)
    (first
      | (go_at_call 55; (with_reducible refine q2.out.mono ?_); rintro e w5 ⟨A5, k5, rfl, hs5, hb5⟩; have z5 := (hb5.cell (p := ⟨BX, 0, none⟩) hX4lt).trans x4; have bel5 := belD4.out.trans (hb5.mono belD4.out.size); have hX5 := Nat.lt_of_lt_of_le hX4lt hb5.size; replace bel5 := hide bel5; have hF5 := hide (SlB.at_set hs5); have hF45 := hide ((hF4.out.below hWd4 (Nat.le_refl _)).below hb5 (Nat.le_refl _)); clear hs5 hb5)
      | (go_at_call 58; (refine (attract_calls b g _ (stuckF g 1) 0 A5 k5 w5 (hA2.out.below bel5.out (Nat.le_refl _)) ok hF5.out (fun v hv => stuck_whole hv)).mono ?_); rintro e w6 ⟨A6, k6, rfl, hs6, hb6⟩; have y5 := (hb6.cell (p := ⟨BX, 0, none⟩) hX5).trans z5; have bel6 := bel5.out.trans (hb6.mono bel5.out.size); replace bel6 := hide bel6; have hF6 := hide (show SetAt w6 A6 g.length (zeroF g) from SlB.at_set hs6); have hF46 := hide (hF45.out.below hb6 (Nat.le_refl _)); clear hs6 hb6))
  clear q2 hF5 hF4 hF45 z5 y1 x4 x2 hX5
  go_wp2_with fail
  refine (without_calls b g _ (oneF g) A4 k4 w6 (hA2.out.below bel6.out (Nat.le_refl _)) ok hF46.out).mono ?_
  rintro e w7 ⟨b7, rfl, hA7, hb7⟩
  have bel7 := hide (bel6.out.trans (hb7.mono bel6.out.size))
  have hF47 := hide (hF46.out.below hb7 (Nat.le_refl _))
  have hF67 := hide (hF6.out.below hb7 (Nat.le_refl _))
  replace hA7 := hide hA7
  clear hb7 hF46 hF6
  go_wp2_with fail
  refine (without_calls b7 g _ (zeroF g) A6 k6 w7 hA7.out ok hF67.out).mono ?_
  rintro e w8 ⟨b8, rfl, hA8, hb8⟩
  rw [rest_two] at hA8
  have bel8 := hide (bel7.out.trans (hb8.mono bel7.out.size))
  have hF48 := hide (hF47.out.below hb8 (Nat.le_refl _))
  have hF68 := hide (hF67.out.below hb8 (Nat.le_refl _))
  replace hA8 := hide hA8
  clear hb8 hF47 hF67 hA7
  go_wp2_with fail
  refine (win_calls g.length b8 g (restF g) w8 hA8.out ok (by have := cntT_le (restF g); unfold restF at this ⊢; rw [setOf_len] at this; exact this)).mono ?_
  rintro e w9 ⟨A9, k9, rfl, hs9, hb9⟩
  have bel9 := bel8.out.trans (hb9.mono bel8.out.size)
  have hF49 := hide (hF48.out.below hb9 (Nat.le_refl _))
  have hF69 := hide (hF68.out.below hb9 (Nat.le_refl _))
  have hF99 := hide (SlB.at_set hs9)
  have hG9 := hG2.out.below bel9 (Nat.le_refl _)
  have g9 := hG9.1
  have hGlt := hG9.2
  clear hs9 hb9 hF48 hF68 hA8
  obtain ⟨u1, v1, rfl, -⟩ := SetAt.addr hF49.out hn0
  obtain ⟨u2, v2, rfl, -⟩ := SetAt.addr hF69.out hn0
  obtain ⟨u3, v3, rfl, -⟩ := SetAt.addr hF99.out hn0
  have hval : Hid (winnersF g = (List.range g.length).map fun v => if inS (oneF g) v || (!inS (zeroF g) v && inS (winF g g.length (restF g)) v) then 1 else 0) := rfl
  have hz9 := bel9.size
  replace bel9 := hide bel9
  replace hG9 := hide hG9
  generalize oneF g = one at *
  generalize zeroF g = zero at *
  generalize winF g g.length (restF g) = won at *
  have hm := hide (SlI.made w9 g.length (fun v => if inS one v || (!inS zero v && inS won v) then 1 else 0))
  have g10 := (hG9.out.below ((Below.refl w9.heap.size w9).alloc (Nat.le_refl _) (.cells (madeCells #[.int .i64 0] g.length) 2)) (Nat.le_refl _)).1
  replace hmk := hmk.out
  go_wp2_with fail
  go_loopw [32] (fun i wr => ∃ k : Nat, k ≤ g.length ∧ i = .int .i64 k ∧ SlI wr w9.heap.size (w9.heap.size + 1) (some ⟨w9.heap.size, 0, none⟩) g.length (intK g.length k fun v => if inS one v || (!inS zero v && inS won v) then 1 else 0) ∧ Below w9.heap.size w9 wr ∧ w9.heap.size < wr.heap.size) (fun i _ => g.length - (intOf i).toNat)
  case atStart => exact ⟨0, Nat.zero_le _, rfl, hm.out, (Below.refl _ _).alloc (Nat.le_refl _) _, by simp⟩
  case round =>
    obtain ⟨k, hk, rfl, hs, hb, hz⟩ := hrel
    clear hm hmk
    by_cases hlt : k < g.length
    · obtain ⟨x0, hx0, s0, z0⟩ := SlI.cell hs hlt
      rw [Nat.zero_add] at s0 z0
      have p0 := (hF49.out.below hb (Nat.le_refl _)).cell hlt
      have q0 := (hF69.out.below hb (Nat.le_refl _)).cell hlt
      have r0 := (hF99.out.below hb (Nat.le_refl _)).cell hlt
      have hfin : ∀ v : Int, v = (if inS one k || (!inS zero k && inS won k) then 1 else 0) → SlI (wr.setCell ⟨w9.heap.size, k, none⟩ (.int .i64 v)) w9.heap.size (w9.heap.size + 1) (some ⟨w9.heap.size, 0, none⟩) g.length (intK g.length (k + 1) fun v => if inS one v || (!inS zero v && inS won v) then 1 else 0) := fun v hv => by
        have := hs.put' hlt v
        rwa [hv, intK_step (p := fun v => if inS one v || (!inS zero v && inS won v) then 1 else 0) hlt, Nat.zero_add, ← hv] at this
      replace hfin := hide hfin
      clear hs g9 g10
      generalize g.length = n at *
      generalize inS one k = e1 at *
      generalize inS zero k = e2 at *
      generalize inS won k = e3 at *
      cases e1 <;> cases e2 <;> cases e3
      all_goals
        first
        | (have hnext := hide (hfin.out 1 (by rfl))
           go_wp2_with (go_at_call 61; (with_reducible refine (truth_calls true _).mono ?_); rintro e w' ⟨rfl, rfl⟩; simp only [if_true])
           go_roundw
           case rel => exact ⟨k + 1, by omega, by go_num, hnext.out, hb.setCell (Nat.le_refl _) _, by rw [World.size_setCell]; exact hz⟩
           case measure => simp [intOf]; omega)
        | (have hnext := hide (hfin.out 0 (by rfl))
           go_wp2_with (go_at_call 61; (with_reducible refine (truth_calls false _).mono ?_); rintro e w' ⟨rfl, rfl⟩; simp only [if_false, Bool.false_eq_true])
           go_roundw
           case rel => exact ⟨k + 1, by omega, by go_num, hnext.out, hb.setCell (Nat.le_refl _) _, by rw [World.size_setCell]; exact hz⟩
           case measure => simp [intOf]; omega)
    · have hkn : k = g.length := by omega
      subst hkn
      rw [intK_all, ← hval.out] at hs
      replace hs := hide hs
      clear g9 g10
      go_wp2
      go_ret
      have hbw : Below W2.heap.size W2 wr := bel9.out.trans (hb.mono bel9.out.size)
      have hb02 : Below W0.heap.size W0 wr := bel2.out.trans (hbw.mono bel2.out.size)
      have hbF : Below w.heap.size w wr := by rw [hBG.out]; exact hb0.out.trans (hb02.mono (by have := hz0; omega))
      refine ⟨_, _, rfl, hs.out.more ?_ hz, hbF⟩
      rw [hBG.out]
      have := bel2.out.size
      omega

end Go.Proofs.Ythmhlbkkhaplkaa

namespace Go.Proofs.Ythmhlbkkhaplkaa
open Go.ChangeShapes Go.WideShapes Go.ChangeAt Go.RowKit
set_option linter.unusedVariables false

set_option maxRecDepth 100000 in
theorem l00Same_calls (A B : Option Addr) (n m c d : Nat) (l r : List Int) (w : World) (lo hi lo' hi' : Nat) (h : SlI w lo hi A n l) (g : SlI w lo' hi' B m r) (hn : n ≤ 1048576) (hm : m ≤ 1048576) :
    Calls Try.prog 50 #[.slice A n c, .slice B m d] w fun e w' => e = .returned (.bool (decide (l = r))) ∧ Below w.heap.size w w' := by
  have hl := hide h.len
  have hr := hide g.len
  by_cases hnm : n = m
  · subst hnm
    replace h := hide h
    replace g := hide g
    go_enter Try.func50, Try.ntmps50
    go_wp2
    go_loopw [5] (fun i wr => ∃ k : Nat, k ≤ n ∧ i = .int .i64 k ∧ Below w.heap.size w wr ∧ l.take k = r.take k) (fun i _ => n - (intOf i).toNat)
    case atStart => exact ⟨0, Nat.zero_le _, rfl, (Below.refl _ _), rfl⟩
    case round =>
      obtain ⟨k, hk, rfl, hb, he⟩ := hrel
      replace he := hide he
      by_cases hlt : k < n
      · obtain ⟨b, off, x, rfl, g1, g2, g3, hx, c0, -⟩ := h.out.get hlt
        obtain ⟨b', off', y, rfl, g1', g2', g3', hy, d0, -⟩ := g.out.get hlt
        replace c0 := (hb.cell (p := ⟨b, off + k, none⟩) g3).trans c0
        replace d0 := (hb.cell (p := ⟨b', off' + k, none⟩) g3').trans d0
        replace hx := hide hx
        replace hy := hide hy
        clear h g
        have hk0 : (0 : Int) ≤ (k : Int) := by omega
        have hk1 : (k : Int) < (n : Int) := by omega
        by_cases hxy : x = y
        · subst hxy
          have hq : (x != x) = false := by simp
          go_wp2
          go_quiet (fail)
          go_wp2
          go_roundw
          case rel => exact ⟨k + 1, by omega, by go_num, by first | exact hb | exact ⟨hb.os, hb.tape, hb.output, hb.size, hb.block⟩, take_step he.out hx.out hy.out rfl⟩
          case measure => simp [intOf]; omega
        · have hne := hide (take_stop hx.out hy.out hxy)
          have hq : (x != y) = true := by rw [bne_iff_ne]; exact hxy
          go_wp2
          go_quiet (fail)
          go_wp2
          go_ret
          exact ⟨by simp [hne.out], by first | exact hb | exact ⟨hb.os, hb.tape, hb.output, hb.size, hb.block⟩⟩
      · have hkn : k = n := by omega
        subst hkn
        clear h g
        go_wp2
        go_ret
        exact ⟨by rw [take_all he.out hl.out hr.out]; simp, hb⟩
  · have hne : Hid (l ≠ r) := fun e => hnm (by rw [← hl.out, ← hr.out, e])
    have hb0 : ((n : Int) != (m : Int)) = true := by rw [bne_iff_ne]; omega
    clear h g
    go_enter Try.func50, Try.ntmps50
    go_wp2
    go_ret
    exact ⟨by simp [hne.out], Below.refl _ _⟩

set_option maxRecDepth 100000 in
theorem equalI_calls (A B : Option Addr) (n m c d : Nat) (l r : List Int) (w : World) (lo hi lo' hi' : Nat) (h : SlI w lo hi A n l) (g : SlI w lo' hi' B m r) (hn : n ≤ 1048576) (hm : m ≤ 1048576) :
    Calls Try.prog 66 #[.slice A n c, .slice B m d] w fun e w' => e = .returned (.bool (decide (l = r))) ∧ Below w.heap.size w w' := by
  have hl := hide h.len
  have hr := hide g.len
  by_cases hnm : n = m
  · subst hnm
    replace h := hide h
    replace g := hide g
    go_enter Try.func66, Try.ntmps66
    go_wp2
    go_loopw [13] (fun i wr => ∃ k : Nat, k ≤ n ∧ i = .int .i64 k ∧ Below w.heap.size w wr ∧ l.take k = r.take k) (fun i _ => n - (intOf i).toNat)
    case atStart => exact ⟨0, Nat.zero_le _, rfl, (Below.refl _ _), rfl⟩
    case round =>
      obtain ⟨k, hk, rfl, hb, he⟩ := hrel
      replace he := hide he
      by_cases hlt : k < n
      · obtain ⟨b, off, x, rfl, g1, g2, g3, hx, c0, -⟩ := h.out.get hlt
        obtain ⟨b', off', y, rfl, g1', g2', g3', hy, d0, -⟩ := g.out.get hlt
        replace c0 := (hb.cell (p := ⟨b, off + k, none⟩) g3).trans c0
        replace d0 := (hb.cell (p := ⟨b', off' + k, none⟩) g3').trans d0
        replace hx := hide hx
        replace hy := hide hy
        clear h g
        have hk0 : (0 : Int) ≤ (k : Int) := by omega
        have hk1 : (k : Int) < (n : Int) := by omega
        by_cases hxy : x = y
        · subst hxy
          have hq : (x != x) = false := by simp
          go_wp2
          go_quiet (fail)
          go_wp2
          go_roundw
          case rel => exact ⟨k + 1, by omega, by go_num, by first | exact hb | exact ⟨hb.os, hb.tape, hb.output, hb.size, hb.block⟩, take_step he.out hx.out hy.out rfl⟩
          case measure => simp [intOf]; omega
        · have hne := hide (take_stop hx.out hy.out hxy)
          have hq : (x != y) = true := by rw [bne_iff_ne]; exact hxy
          go_wp2
          go_quiet (fail)
          go_wp2
          go_ret
          exact ⟨by simp [hne.out], by first | exact hb | exact ⟨hb.os, hb.tape, hb.output, hb.size, hb.block⟩⟩
      · have hkn : k = n := by omega
        subst hkn
        clear h g
        go_wp2
        go_ret
        exact ⟨by rw [take_all he.out hl.out hr.out]; simp, hb⟩
  · have hne : Hid (l ≠ r) := fun e => hnm (by rw [← hl.out, ← hr.out, e])
    have hb0 : ((n : Int) != (m : Int)) = true := by rw [bne_iff_ne]; omega
    clear h g
    go_enter Try.func66, Try.ntmps66
    go_wp2
    go_ret
    exact ⟨by simp [hne.out], Below.refl _ _⟩

set_option maxRecDepth 100000 in
theorem strategy1_calls (x : Int) (bw bv : Nat) (Aw : Option Addr) (n cw : Nat) (W : List Int) (o p : Int) (Ah : Option Addr) (nh ch : Nat) (w : World) (hx : 0 ≤ x ∧ x < n) (hs : SlI w 0 w.heap.size Aw n W)
    (k0 : w.cell? ⟨bw, 0, none⟩ = some (.slice Aw n cw)) (k1 : w.cell? ⟨bv, 0, none⟩ = some (.int .i64 o)) :
    Calls Try.prog 65 #[.int .i64 x, .pointer (some ⟨bw, 0, none⟩), .pointer (some ⟨bv, 0, none⟩)] w (Says (!decide ((W[x.toNat]?.getD 0) = o)) w) := by
  obtain ⟨b, off, y, rfl, g1, g2, g3, hy, c0, -⟩ := hs.get (show x.toNat < n by omega)
  have hval : Hid ((!decide ((W[x.toNat]?.getD 0) = o)) = (y != o)) := by show _ = _; rw [hy]; show (!decide (y = o)) = (y != o); by_cases e : y = o <;> simp [e]
  obtain ⟨hx0, hx1⟩ := hx
  clear hs hy
  go_enter Try.func65, Try.ntmps65
  go_wp2
  go_quiet (fail)
  go_wp2
  go_ret
  exact ⟨ret_b (by rw [hval.out]), below_drewN _ _⟩

end Go.Proofs.Ythmhlbkkhaplkaa

namespace Go.Proofs.Ythmhlbkkhaplkaa
open Go.ChangeShapes Go.WideShapes Go.ChangeAt Go.RowKit
set_option linter.unusedVariables false

theorem l00Own_calls (A : Option Addr) (n c : Nat) (l : List Int) (w : World) (lo hi : Nat) (h : SlI w lo hi A n l) (hn : n ≤ 1048576) :
    Calls Try.prog 49 #[.slice A n c] w fun e w' => ∃ A' c', e = .returned (.slice A' n c') ∧ SlI w' w.heap.size w'.heap.size A' n l ∧ Below w.heap.size w w' := by
  have hE := hide elem_int64
  have hs := hide (h.below ((Below.refl w.heap.size w).alloc (Nat.le_refl _) (.cells #[] 2)) (.inr (Nat.le_refl _)))
  have hz : w.heap.size ≤ (w.alloc (.cells #[] 2)).heap.size := by simp
  clear h
  go_enter Try.func49, Try.ntmps49
  go_wp2_with (first | (at_builtin; (with_reducible refine wpList_app rfl (.tmp 3) (.tmp 4) rfl hE.out flat_iv rfl (Own.made w 2 (Nat.le_refl _)) rfl hs.out ?c1 hz ?_); rotate_right; intro A2 c2 w2 hown2 hgr2 hb2 _))
  case c1 => omega
  go_ret
  rw [Nat.zero_add, List.nil_append] at hown2
  exact ⟨_, _, rfl, hown2.sl flat_iv, ((Below.refl _ _).alloc (Nat.le_refl _) _).trans hb2⟩

theorem cloneI_calls (A : Option Addr) (n c : Nat) (l : List Int) (w : World) (lo hi : Nat) (h : SlI w lo hi A n l) (hn : n ≤ 1048576) :
    Calls Try.prog 64 #[.slice A n c] w fun e w' => ∃ A' c', e = .returned (.slice A' n c') ∧ SlI w' w.heap.size w'.heap.size A' n l ∧ Below w.heap.size w w' := by
  have hnil : ∀ (W : World) (a : Option Addr) (m d : Nat), (binOp .eql 26 (.slice a m d) (.slice none 0 0)).run Try.prog W = .ok (.bool a.isNone) W := fun W a m d => Lib.run_eql_slice_nil W 26 _ a m d 0 0 Try.underlying26
  have hE := hide elem_int64
  cases A with
  | none =>
    have hn0 : n = 0 := by
      rcases Nat.eq_zero_or_pos n with h0 | h0
      · exact h0
      · obtain ⟨b, off, e, _⟩ := h.at_ h0
        cases e
    subst hn0
    have hl := List.eq_nil_of_length_eq_zero h.len
    subst hl
    go_enter Try.func64, Try.ntmps64
    go_wp2_with fail
    go_ret
    exact ⟨none, 0, rfl, Sl.nil_, Below.refl _ _⟩
  | some a =>
    have hs := hide (h.below ((Below.refl w.heap.size w).alloc (Nat.le_refl _) (.cells #[] 2)) (.inr (Nat.le_refl _)))
    have hz : w.heap.size ≤ (w.alloc (.cells #[] 2)).heap.size := by simp
    clear h
    go_enter Try.func64, Try.ntmps64
    go_wp2_with (first | (at_builtin; (with_reducible refine wpList_app rfl (.tmp 5) (.tmp 6) rfl hE.out flat_iv rfl (Own.made w 2 (Nat.le_refl _)) rfl hs.out ?c1 hz ?_); rotate_right; intro A2 c2 w2 hown2 hgr2 hb2 _))
    case c1 => omega
    go_ret
    rw [Nat.zero_add, List.nil_append] at hown2
    exact ⟨_, _, rfl, hown2.sl flat_iv, ((Below.refl _ _).alloc (Nat.le_refl _) _).trans hb2⟩

theorem flat_gV : Flat gV 3 := ⟨fun _ => rfl, fun x u h => by simp [gV] at h; rcases h with rfl | rfl | rfl <;> rfl⟩
theorem elem_vertex : Elem Try.prog 25 49 3 40 := Elem.of Try.underlying25 info_impV rfl (by omega) (by omega)

/-- A list of vertices in a row of the call's own, the lists in it in other blocks. -/
structure GrowV (w : World) (base : Nat) (A : Option Addr) (n c : Nat) (R : List (CV × List Int)) : Prop where
  own : Own 3 gV w base 49 A n c (R.map (·.1))
  rows : ∀ r ∈ R, SlI w base w.heap.size (hdV r.1).1 (hdV r.1).2.1 r.2 ∧ (hdV r.1).2.1 ≤ 1048576
  off : ∀ r ∈ R, 0 < (hdV r.1).2.1 → ∀ b off, (hdV r.1).1 = some ⟨b, off, none⟩ → (Value.slice A n c).ownBlock ≠ some b

section
variable {w w4 w5 : World} {base n c : Nat} {A : Option Addr} {R : List (CV × List Int)}
theorem GrowV.nil_ (w : World) (base : Nat) : GrowV w base none 0 0 [] := ⟨Own.nil_ _ _ _, fun _ h => (List.not_mem_nil h).elim, fun _ h => (List.not_mem_nil h).elim⟩
theorem GrowV.made (w : World) (base : Nat) (hb : base ≤ w.heap.size) : GrowV (w.alloc (.cells #[] 49)) base (some ⟨w.heap.size, 0, none⟩) 0 0 [] := ⟨Own.made w _ hb, fun _ h => (List.not_mem_nil h).elim, fun _ h => (List.not_mem_nil h).elim⟩
theorem GrowV.push (h : GrowV w base A n c R) (hb : Below w.heap.size w w4) (hbase : base ≤ w.heap.size) {o p : Int} {Ah : Option Addr} {nh ch : Nat} {s : List Int} (hs : SlI w4 w.heap.size w4.heap.size Ah nh s) (hnh : nh ≤ 1048576)
    {A5 : Option Addr} {c5 : Nat} (hown : Own 3 gV w5 base 49 A5 (n + 1) c5 (R.map (·.1) ++ [(o, p, Ah, nh, ch)])) (hgr : w4.grownBy w5 (Value.slice A n c).ownBlock)
    (hat : (Value.slice A5 (n + 1) c5).ownBlock = (Value.slice A n c).ownBlock ∨ (Value.slice A5 (n + 1) c5).ownBlock = some w4.heap.size) :
    GrowV w5 base A5 (n + 1) c5 (R ++ [((o, p, Ah, nh, ch), s)]) := by
  have hz4 := hb.size
  have hz5 := hgr.size
  have keepS : ∀ (B : Option Addr) (m lo hi : Nat) (l : List Int), SlI w4 lo hi B m l → (∀ b off, 0 < m → B = some ⟨b, off, none⟩ → (Value.slice A n c).ownBlock ≠ some b) → SlI w5 lo w5.heap.size B m l := by
    intro B m lo hi l hl hne
    refine ⟨hl.1, fun hm => ?_⟩
    obtain ⟨b, off, rfl, g1, g2, g3, hc⟩ := hl.2 hm
    have hk := hgr.block b g3 (fun e => hne b off hm rfl e.symm)
    refine ⟨b, off, rfl, g1, by omega, by omega, fun k x hx j u hu => ?_⟩
    obtain ⟨h1, h2⟩ := hc k x hx j u hu
    exact ⟨(World.cell?_of_block (w := w4) (by simpa using hk)).trans h1, (World.frozen?_of_block (w := w4) (by simpa using hk)).trans h2⟩
  have hold : ∀ r ∈ R, SlI w4 base w.heap.size (hdV r.1).1 (hdV r.1).2.1 r.2 := fun r hr => (h.rows r hr).1.below hb (.inr (Nat.le_refl _))
  refine ⟨by rw [List.map_append]; exact hown, fun r hr => ?_, fun r hr hm b off e => ?_⟩
  · rcases List.mem_append.1 hr with hr | hr
    · exact ⟨keepS _ _ _ _ _ (hold r hr) (fun b off hm e => h.off r hr hm b off e), (h.rows r hr).2⟩
    · have := List.mem_singleton.1 hr
      subst this
      refine ⟨(keepS _ _ _ _ _ hs (fun b off hm e => ?_)).more hbase (Nat.le_refl _), hnh⟩
      obtain ⟨b', off', e', g1, -⟩ := hs.at_ hm
      rw [e] at e'
      cases e'
      intro e2
      have := (h.own.lt b e2).2
      omega
  · rcases List.mem_append.1 hr with hr | hr
    · obtain ⟨b', off', e', g1, g2, g3, -⟩ := (hold r hr).at_ hm
      rw [e] at e'
      cases e'
      rcases hat with h1 | h1
      · rw [h1]; exact h.off r hr hm b off e
      · rw [h1]
        intro e2
        injection e2 with e2
        omega
    · have := List.mem_singleton.1 hr
      subst this
      obtain ⟨b', off', e', g1, g2, g3, -⟩ := hs.at_ hm
      have e : Ah = _ := e
      rw [e] at e'
      cases e'
      rcases hat with h1 | h1
      · rw [h1]
        intro e2
        have := (h.own.lt b e2).2
        omega
      · rw [h1]
        intro e2
        injection e2 with e2
        omega
theorem GrowV.game (h : GrowV w base A n c R) : GameAt w A n (R.map dV) :=
  ⟨R, ⟨(h.own.sl flat_gV).more (Nat.zero_le _) (Nat.le_refl _), fun r hr => ⟨(h.rows r hr).1.more (Nat.zero_le _) (Nat.le_refl _), (h.rows r hr).2⟩⟩, rfl, by have := h.own.len; rw [List.length_map] at this; rw [List.length_map]; exact this.symm⟩
end


end Go.Proofs.Ythmhlbkkhaplkaa

namespace Go.Proofs.Ythmhlbkkhaplkaa
open Go.ChangeShapes Go.WideShapes Go.ChangeAt Go.RowKit
set_option linter.unusedVariables false

theorem le_alloc {a : Nat} {w : World} {o : Obj} (h : a ≤ w.heap.size) : a ≤ (w.alloc o).heap.size := by rw [World.size_alloc]; omega
theorem grown_cell {w w' : World} {row : Option Nat} {q i : Nat} {v : Value} (h : w.grownBy w' row) (hq : q < w.heap.size) (hne : some q ≠ row) (hc : w.cell? ⟨q, i, none⟩ = some v) : w'.cell? ⟨q, i, none⟩ = some v :=
  (World.cell?_of_block (w := w) (by simpa using h.block q hq hne)).trans hc
theorem alloc_cell {w : World} {o : Obj} {q i : Nat} {v : Value} (hq : q < w.heap.size) (hc : w.cell? ⟨q, i, none⟩ = some v) : (w.alloc o).cell? ⟨q, i, none⟩ = some v :=
  (World.cell?_of_block (w := w) (by simpa using Below.heap_alloc w o q hq)).trans hc
theorem alloc_lt {w : World} {o : Obj} {q : Nat} (hq : q < w.heap.size) : q < (w.alloc o).heap.size := by rw [World.size_alloc]; omega

end Go.Proofs.Ythmhlbkkhaplkaa

namespace Go.Proofs.Ythmhlbkkhaplkaa
open Go.ChangeShapes Go.WideShapes Go.ChangeAt Go.RowKit
set_option linter.unusedVariables false

/-- A game lies at b, its lists in other blocks. -/
def GameW (w : World) (b off n : Nat) (g : DV) : Prop :=
  ∃ R, RowsV 1048576 w 0 w.heap.size (some ⟨b, off, none⟩) n R ∧ R.map dV = g ∧ ∀ r ∈ R, 0 < (hdV r.1).2.1 → ∀ b' o', (hdV r.1).1 = some ⟨b', o', none⟩ → b' ≠ b
section
variable {w w' : World} {b off n k : Nat} {g : DV}
theorem GameW.at (h : GameW w b off n g) : GameAt w (some ⟨b, off, none⟩) n g := by
  obtain ⟨R, h1, rfl, _⟩ := h
  exact ⟨R, h1, rfl, by rw [List.length_map, h1.len]⟩
theorem GameW.below {B : Nat} (h : GameW w b off n g) (hb : Below B w w') (hB : w.heap.size ≤ B) : GameW w' b off n g := by
  obtain ⟨R, h1, h2, h3⟩ := h
  exact ⟨R, (h1.below hb (.inl hB)).more (Nat.le_refl _) hb.size, h2, h3⟩
theorem GameW.frozen (h : GameW w b off n g) (hk : k < n) : w.frozen? ⟨b, off + k * 3 + 2, none⟩ = false ∧ b < w.heap.size := by
  obtain ⟨R, h1, _, _⟩ := h
  obtain ⟨b', off', x, s, e, g1, g2, g3, hr, hc, hs, hn⟩ := h1.get hk
  cases e
  exact ⟨(hc 2 _ rfl).2, g3⟩
theorem GameW.put (h : GameW w b off n g) (hk : k < n) {A2 : Option Addr} {nh c2 : Nat} {l : List Int} (hs : SlI w 0 w.heap.size A2 nh l) (hnh : nh ≤ 1048576) (hne : 0 < nh → ∀ b' o', A2 = some ⟨b', o', none⟩ → b' ≠ b) :
    GameW (w.setCell ⟨b, off + k * 3 + 2, none⟩ (.slice A2 nh c2)) b off n (putN g k l) := by
  obtain ⟨R, h1, rfl, h3⟩ := h
  obtain ⟨b', off', ⟨x, y, hd0⟩, s0, e, g1, g2, g3, hr, hc0, -, -⟩ := h1.get hk
  cases e
  have hkl : k < R.length := (List.getElem?_eq_some_iff.1 hr).1
  have keepS : ∀ (B : Option Addr) (m : Nat) (s : List Int), SlI w 0 w.heap.size B m s → (0 < m → ∀ b' o', B = some ⟨b', o', none⟩ → b' ≠ b) → SlI (w.setCell ⟨b, off + k * 3 + 2, none⟩ (.slice A2 nh c2)) 0 (w.setCell ⟨b, off + k * 3 + 2, none⟩ (.slice A2 nh c2)).heap.size B m s := by
    intro B m s hl hn
    refine ⟨hl.1, fun hm => ?_⟩
    obtain ⟨b2, o2, rfl, q1, q2, q3, q4⟩ := hl.2 hm
    have hk2 : (w.setCell ⟨b, off + k * 3 + 2, none⟩ (.slice A2 nh c2)).heap[b2]? = w.heap[b2]? := Below.heap_setCell _ _ _ _ (hn hm b2 o2 rfl)
    refine ⟨b2, o2, rfl, q1, by rw [World.size_setCell]; exact q2, by rw [World.size_setCell]; exact q3, fun i z hz j u hu => ?_⟩
    obtain ⟨r1, r2⟩ := q4 i z hz j u hu
    exact ⟨(World.cell?_of_block (w := w) (by simpa using hk2)).trans r1, (World.frozen?_of_block (w := w) (by simpa using hk2)).trans r2⟩
  refine ⟨R.set k ((x, y, A2, nh, c2), l), ⟨⟨by rw [List.length_map, List.length_set, h1.len], fun hn0 => ?_⟩, fun r hr' => ?_⟩, ?_, fun r hr' => ?_⟩
  · obtain ⟨b3, o3, e3, p1, p2, p3, p4⟩ := h1.outer.2 hn0
    cases e3
    refine ⟨b, off, rfl, p1, by rw [World.size_setCell]; exact p2, by rw [World.size_setCell]; exact p3, fun i z hz j u hu => ?_⟩
    have hj : j < 3 := by have := (List.getElem?_eq_some_iff.1 hu).1; simpa [gV] using this
    rw [World.frozen?_setCell]
    rw [List.map_set] at hz
    by_cases hik : k = i
    · subst hik
      rw [List.getElem?_set_self (by rw [List.length_map]; exact hkl)] at hz
      cases hz
      have hold := p4 k (x, y, hd0) (by rw [List.getElem?_map, hr]; rfl)
      match j, hj with
      | 0, _ => exact ⟨(World.cell?_setCell_other _ _ _ _ (by intro e; injection e with _ e _; omega)).trans ((hold 0 _ rfl).1.trans hu), (hold 0 _ rfl).2⟩
      | 1, _ => exact ⟨(World.cell?_setCell_other _ _ _ _ (by intro e; injection e with _ e _; omega)).trans ((hold 1 _ rfl).1.trans hu), (hold 1 _ rfl).2⟩
      | 2, _ =>
        have h2 := hold 2 _ rfl
        refine ⟨?_, h2.2⟩
        have h4 := World.cell?_setCell_same w ⟨b, off + (k * 3 + 2), none⟩ (.slice A2 nh c2) h2.1
        simp [gV] at hu
        subst hu
        exact h4
    · rw [List.getElem?_set_ne hik] at hz
      obtain ⟨q1, q2⟩ := p4 i z hz j u hu
      exact ⟨(World.cell?_setCell_other _ _ _ _ (by intro e; injection e with _ e _; omega)).trans q1, q2⟩
  · rcases List.mem_or_eq_of_mem_set hr' with hr' | hr'
    · exact ⟨keepS _ _ _ (h1.rows r hr').1 (h3 r hr'), (h1.rows r hr').2⟩
    · subst hr'
      exact ⟨keepS _ _ _ hs hne, hnh⟩
  · have hx : (R.map dV)[k]? = some (x, y, s0) := by rw [List.getElem?_map, hr]; rfl
    rw [List.map_set]
    unfold putN
    rw [gOwn_at hx, gPri_at hx]
    rfl
  · rcases List.mem_or_eq_of_mem_set hr' with hr' | hr'
    · exact h3 r hr'
    · subst hr'
      exact hne
theorem GrowV.atW {base c : Nat} {A : Option Addr} {R : List (CV × List Int)} (h : GrowV w base A n c R) (hn : 0 < n) : ∃ b, A = some ⟨b, 0, none⟩ ∧ base ≤ b ∧ GameW w b 0 n (R.map dV) := by
  obtain ⟨R', h1, h2, h3⟩ := h.game
  obtain ⟨b, hA, hb, hbl⟩ : ∃ b, A = some ⟨b, 0, none⟩ ∧ base ≤ b ∧ (Value.slice A n c).ownBlock = some b := by
    rcases h.own.2.2 with ⟨hv, h0⟩ | ⟨g, cap, cur, hv, hb, _⟩
    · omega
    · injection hv with h4 _ _
      subst h4
      exact ⟨g, rfl, hb, rfl⟩
  subst hA
  exact ⟨b, rfl, hb, R, ⟨(h.own.sl flat_gV).more (Nat.zero_le _) (Nat.le_refl _), fun r hr => ⟨(h.rows r hr).1.more (Nat.zero_le _) (Nat.le_refl _), (h.rows r hr).2⟩⟩, rfl, fun r hr h0 b' o' e e2 => h.off r hr h0 b' o' e (by rw [hbl, e2])⟩
end

theorem row_new {w : World} {lo hi n b : Nat} {A : Option Addr} {l : List Int} (h : SlI w lo hi A n l) (hb : b < lo) : 0 < n → ∀ b' o', A = some ⟨b', o', none⟩ → b' ≠ b := fun h0 b' o' e => by
  obtain ⟨b9, o9, e9, h9, -⟩ := h.at_ h0
  rw [e] at e9
  cases e9
  omega

set_option maxHeartbeats 1600000 in
set_option maxRecDepth 100000 in
theorem cloneV_calls (A : Option Addr) (n c : Nat) (g : DV) (w : World) (h : GameAt w A n g) (hn : 0 < n ∧ n ≤ 1048576) :
    Calls Try.prog 74 #[.slice A n c] w fun e w' => ∃ b c', e = .returned (.slice (some ⟨b, 0, none⟩) n c') ∧ GameW w' b 0 n g ∧ w.heap.size ≤ b ∧ Below w.heap.size w w' := by
  have hnil : ∀ (W : World) (a : Option Addr) (m d : Nat), (binOp .eql 25 (.slice a m d) (.slice none 0 0)).run Try.prog W = .ok (.bool a.isNone) W := fun W a m d => Lib.run_eql_slice_nil W 25 _ a m d 0 0 Try.underlying25
  have hE := hide elem_vertex
  obtain ⟨hn0, hn1⟩ := hn
  obtain ⟨R, hR, rfl, hl⟩ := h
  obtain ⟨b1, o1, rfl, q1, q2, q3, -⟩ := hR.outer.at_ hn0
  have hs := hide (hR.outer.below ((Below.refl w.heap.size w).alloc (Nat.le_refl _) (.cells #[] 49)) (.inr (Nat.le_refl _)))
  have hz : w.heap.size ≤ (w.alloc (.cells #[] 49)).heap.size := by simp
  replace hR := hide hR
  clear hl
  go_enter Try.func74, Try.ntmps74
  go_wp2_with (first | (at_builtin; (with_reducible refine wpList_app rfl (.tmp 5) (.tmp 6) rfl hE.out flat_gV rfl (Own.made w 49 (Nat.le_refl _)) rfl hs.out ?c1 hz ?_); rotate_right; intro A2 c2 w2 hown2 hgr2 hb2 _))
  case c1 => omega
  go_ret
  rw [Nat.zero_add, List.nil_append] at hown2
  have hbF : Below w.heap.size w w2 := ((Below.refl _ _).alloc (Nat.le_refl _) _).trans hb2
  have hsl := hown2.sl flat_gV
  obtain ⟨b, hA, hb⟩ : ∃ b, A2 = some ⟨b, 0, none⟩ ∧ w.heap.size ≤ b := by
    rcases hown2.2.2 with ⟨hv, h0⟩ | ⟨g, cap, cur, hv, hb, _⟩
    · omega
    · injection hv with h4 _ _
      subst h4
      exact ⟨g, rfl, hb⟩
  subst hA
  have e0 : 0 + n = n := Nat.zero_add n
  refine ⟨b, c2, by first | rfl | rw [e0], ⟨R, ⟨by first | exact hsl.more (Nat.zero_le _) (Nat.le_refl _) | (rw [e0] at hsl; exact hsl.more (Nat.zero_le _) (Nat.le_refl _)), fun r hr => ⟨((hR.out.rows r hr).1.below hbF (.inl (Nat.le_refl _))).more (Nat.le_refl _) hbF.size, (hR.out.rows r hr).2⟩⟩, rfl, fun r hr h0 b' o' e => ?_⟩, hb, hbF⟩
  obtain ⟨b9, o9, e9, -, h9, -⟩ := (hR.out.rows r hr).1.at_ h0
  rw [e] at e9
  cases e9
  omega

set_option maxHeartbeats 1600000 in
set_option maxRecDepth 100000 in
theorem cloneGame_calls (A : Option Addr) (n c : Nat) (g : DV) (w : World) (h : GameAt w A n g) (ok : GameOk g) :
    Calls Try.prog 44 #[.slice A n c] w fun e w' => ∃ b c', e = .returned (.slice (some ⟨b, 0, none⟩) n c') ∧ GameW w' b 0 n g ∧ w.heap.size ≤ b ∧ Below w.heap.size w w' := by
  have hgl := h.len
  have hn : 0 < n ∧ n ≤ 120 := by have := ok.1; omega
  obtain ⟨hn0, hn1⟩ := hn
  have q0 := hide (cloneV_calls A n c g w h ⟨hn0, by omega⟩)
  replace ok := hide ok
  replace hgl := hide hgl
  clear h
  go_enter Try.func44, Try.ntmps44
  go_wp2_with fail
  refine q0.out.mono ?_
  rintro e w1 ⟨b, c1, rfl, hG, hbb, hb1⟩
  replace hG := hide hG
  have hz1 := hb1.size
  clear q0
  go_wp2_with fail
  go_loopw [9] (fun i wr => ∃ k : Nat, k ≤ n ∧ i = .int .i64 k ∧ GameW wr b 0 n g ∧ Below w.heap.size w wr) (fun i _ => n - (intOf i).toNat)
  case atStart => exact ⟨0, Nat.zero_le _, rfl, hG.out, hb1⟩
  case round =>
    obtain ⟨k, hk, rfl, hW, hb⟩ := hrel
    clear hG
    by_cases hlt : k < n
    · obtain ⟨o, p, l, Ah, nh, ch, hx, c0, c1', c2, hs, hnh, -⟩ := hW.at.cell ok.out hlt
      obtain ⟨f2, hbl⟩ := hW.frozen hlt
      simp only [Nat.zero_add] at c0 c1' c2 f2
      have hq := hide (cloneI_calls Ah nh ch l wr _ _ hs hnh)
      have hraw := hide (gRaw_at hx)
      have hz := hb.size
      replace hW := hide hW
      clear hx hs
      go_wp2_with (first | (go_at_call 64; (refine hq.out.mono ?_); rintro e w2 ⟨A2, k2, rfl, hs2, hb2⟩; have d2 := (hb2.cell (p := ⟨b, k * 3 + 2, none⟩) hbl).trans c2; have z2 := (hb2.frozen (p := ⟨b, k * 3 + 2, none⟩) hbl).trans f2; have hW2 := hide ((hW.out.below hb2 (Nat.le_refl _)).put (c2 := k2) hlt (hs2.more (Nat.zero_le _) (Nat.le_refl _)) hnh (row_new hs2 hbl)); have hb3 := hide (hb.trans (hb2.mono hz)); clear hs2 hb2))
      go_roundw
      case rel =>
        refine ⟨k + 1, by omega, by go_num, ?_, hb3.out.setCell hbb _⟩
        have h9 := hW2.out
        rw [← hraw.out, putN_raw (by rw [← hgl.out]; exact hlt)] at h9
        simpa only [Nat.zero_add] using h9
      case measure => simp [intOf]; omega
    · have hkn : k = n := by omega
      subst hkn
      replace hW := hide hW
      go_wp2
      go_ret
      exact ⟨b, _, rfl, hW.out, hbb, hb⟩

end Go.Proofs.Ythmhlbkkhaplkaa

namespace Go.Proofs.Ythmhlbkkhaplkaa
open Go.ChangeShapes Go.WideShapes Go.ChangeAt Go.RowKit
set_option linter.unusedVariables false
set_option linter.unusedSimpArgs false

section
variable {w : World} {b off n k : Nat} {g : DV}
theorem GameW.setJ (h : GameW w b off n g) (hk : k < n) {o p : Int} {l : List Int} (hx : g[k]? = some (o, p, l)) {j : Nat} {v o' p' : Int} (hj : (j = 0 ∧ o' = v ∧ p' = p) ∨ (j = 1 ∧ o' = o ∧ p' = v)) :
    GameW (w.setCell ⟨b, off + (k * 3 + j), none⟩ (.int .i64 v)) b off n (g.set k (o', p', l)) := by
  obtain ⟨R, h1, rfl, h3⟩ := h
  obtain ⟨b', off', ⟨x, y, hd0⟩, s0, e, g1, g2, g3, hr, hc0, hs0, hn0⟩ := h1.get hk
  cases e
  have hkl : k < R.length := (List.getElem?_eq_some_iff.1 hr).1
  rw [List.getElem?_map, hr] at hx
  injection hx with hx
  injection hx with e1 hx
  injection hx with e2 e3
  have e1 : x = o := e1
  have e2 : y = p := e2
  have e3 : s0 = l := e3
  subst e1 e2 e3
  have keepS : ∀ (B : Option Addr) (m : Nat) (s : List Int), SlI w 0 w.heap.size B m s → (0 < m → ∀ b' o', B = some ⟨b', o', none⟩ → b' ≠ b) → SlI (w.setCell ⟨b, off + (k * 3 + j), none⟩ (.int .i64 v)) 0 (w.setCell ⟨b, off + (k * 3 + j), none⟩ (.int .i64 v)).heap.size B m s := by
    intro B m s hl hn
    refine ⟨hl.1, fun hm => ?_⟩
    obtain ⟨b2, o2, rfl, q1, q2, q3, q4⟩ := hl.2 hm
    have hk2 : (w.setCell ⟨b, off + (k * 3 + j), none⟩ (.int .i64 v)).heap[b2]? = w.heap[b2]? := Below.heap_setCell _ _ _ _ (hn hm b2 o2 rfl)
    refine ⟨b2, o2, rfl, q1, by rw [World.size_setCell]; exact q2, by rw [World.size_setCell]; exact q3, fun i z hz j u hu => ?_⟩
    obtain ⟨r1, r2⟩ := q4 i z hz j u hu
    exact ⟨(World.cell?_of_block (w := w) (by simpa using hk2)).trans r1, (World.frozen?_of_block (w := w) (by simpa using hk2)).trans r2⟩
  refine ⟨R.set k ((o', p', hd0), s0), ⟨⟨by rw [List.length_map, List.length_set, h1.len], fun hn0 => ?_⟩, fun r hr' => ?_⟩, ?_, fun r hr' => ?_⟩
  · obtain ⟨b3, o3, e3, p1, p2, p3, p4⟩ := h1.outer.2 hn0
    cases e3
    refine ⟨b, off, rfl, p1, by rw [World.size_setCell]; exact p2, by rw [World.size_setCell]; exact p3, fun i z hz q u hu => ?_⟩
    have hq : q < 3 := by have := (List.getElem?_eq_some_iff.1 hu).1; simpa [gV] using this
    rw [World.frozen?_setCell]
    rw [List.map_set] at hz
    by_cases hik : k = i
    · subst hik
      rw [List.getElem?_set_self (by rw [List.length_map]; exact hkl)] at hz
      cases hz
      have hold := p4 k (x, y, hd0) (by rw [List.getElem?_map, hr]; rfl)
      have other : ∀ q u u', q ≠ j → w.cell? ⟨b, off + (k * 3 + q), none⟩ = some u → u = u' → (w.setCell ⟨b, off + (k * 3 + j), none⟩ (.int .i64 v)).cell? ⟨b, off + (k * 3 + q), none⟩ = some u' := fun q u u' hne hu he => by
        subst he
        exact (World.cell?_setCell_other _ _ _ _ (by intro e; injection e with _ e _; omega)).trans hu
      have same : ∀ u u', w.cell? ⟨b, off + (k * 3 + j), none⟩ = some u → (Value.int .i64 v) = u' → (w.setCell ⟨b, off + (k * 3 + j), none⟩ (.int .i64 v)).cell? ⟨b, off + (k * 3 + j), none⟩ = some u' := fun u u' hu he => by
        subst he
        exact World.cell?_setCell_same w ⟨b, off + (k * 3 + j), none⟩ _ hu
      have hu2 : u = (gV (o', p', hd0))[q]?.getD (.int .i64 0) := by rw [hu]; rfl
      match q, hq with
      | 0, _ =>
        refine ⟨?_, (hold 0 _ rfl).2⟩
        rcases hj with ⟨rfl, e1, e2⟩ | ⟨rfl, e1, e2⟩
        · exact same _ _ (hold 0 _ rfl).1 (by rw [hu2, ← e1]; rfl)
        · exact other 0 _ _ (by omega) (hold 0 _ rfl).1 (by rw [hu2, e1]; rfl)
      | 1, _ =>
        refine ⟨?_, (hold 1 _ rfl).2⟩
        rcases hj with ⟨rfl, e1, e2⟩ | ⟨rfl, e1, e2⟩
        · exact other 1 _ _ (by omega) (hold 1 _ rfl).1 (by rw [hu2, e2]; rfl)
        · exact same _ _ (hold 1 _ rfl).1 (by rw [hu2, ← e2]; rfl)
      | 2, _ =>
        refine ⟨other 2 _ _ (by rcases hj with h | h <;> omega) (hold 2 _ rfl).1 (by rw [hu2]; rfl), (hold 2 _ rfl).2⟩
    · rw [List.getElem?_set_ne hik] at hz
      obtain ⟨q1, q2⟩ := p4 i z hz q u hu
      exact ⟨(World.cell?_setCell_other _ _ _ _ (by intro e; injection e with _ e _; rcases hj with h | h <;> omega)).trans q1, q2⟩
  · rcases List.mem_or_eq_of_mem_set hr' with hr' | hr'
    · exact ⟨keepS _ _ _ (h1.rows r hr').1 (h3 r hr'), (h1.rows r hr').2⟩
    · subst hr'
      have hm : ((x, y, hd0), s0) ∈ R := List.mem_of_getElem? hr
      exact ⟨keepS _ _ _ (h1.rows ((x, y, hd0), s0) hm).1 (h3 ((x, y, hd0), s0) hm), (h1.rows ((x, y, hd0), s0) hm).2⟩
  · rw [List.map_set]
    rfl
  · rcases List.mem_or_eq_of_mem_set hr' with hr' | hr'
    · exact h3 r hr'
    · subst hr'
      exact h3 ((x, y, hd0), s0) (List.mem_of_getElem? hr)
theorem GameW.setP (h : GameW w b off n g) (hk : k < n) {o p : Int} {l : List Int} (hx : g[k]? = some (o, p, l)) (v : Int) : GameW (w.setCell ⟨b, off + k * 3 + 1, none⟩ (.int .i64 v)) b off n (g.set k (o, v, l)) := by
  rw [Nat.add_assoc]
  exact h.setJ hk hx (j := 1) (.inr ⟨rfl, rfl, rfl⟩)
end

end Go.Proofs.Ythmhlbkkhaplkaa

namespace Go.Proofs.Ythmhlbkkhaplkaa
open Go.ChangeShapes Go.WideShapes Go.ChangeAt Go.RowKit
open Go.Maps (Keyed keyOf_int_mk)
set_option linter.unusedVariables false

/-- Block b is a map of at most n entries that answers as f. -/
def MapJ (w : World) (b n : Nat) (f : Int → Option Int) : Prop :=
  ∃ D : DataW Unit, w.ownsMap Try.prog 2 (plainElem Try.prog 2) b n D ∧ ∀ k : Int, (Lit.int .i64 k).wf = true → Maps.has D (.int .i64 k) = (f k).isSome ∧ ∀ c, f k = some c → D.atKey (.int .i64 k) (.lit (.int .i64 0)) = .lit (.int .i64 c)

theorem keyedJ : Keyed Try.prog 2 := Go.Maps.int_keyed Try.underlying2
theorem zeroJ (w : World) : (zeroValue 2).run Try.prog w = .ok (.int .i64 0) w := by kernel_rfl

section
variable {w w' : World} {b n : Nat} {f : Int → Option Int}
theorem MapJ.made (w : World) : MapJ (w.alloc (.map #[] 0)) w.heap.size 0 (fun _ => none) :=
  ⟨.map [], World.ownsMap_made _ _ _ _, fun k _ => ⟨rfl, fun c h => by cases h⟩⟩
theorem MapJ.lt (h : MapJ w b n f) : b < w.heap.size := by obtain ⟨D, h1, _⟩ := h; exact h1.lt
theorem MapJ.kept {row : Option Nat} (h : MapJ w b n f) (hg : w.grownBy w' row) (hne : some b ≠ row) : MapJ w' b n f := by
  obtain ⟨D, h1, h2⟩ := h
  exact ⟨D, h1.kept hg hne, h2⟩
theorem MapJ.keep (h : MapJ w b n f) (hs : w.heap.size ≤ w'.heap.size) (hb : w'.heap[b]? = w.heap[b]?) : MapJ w' b n f := by
  obtain ⟨D, ⟨es, clock, h1, r⟩, h2⟩ := h
  exact ⟨D, ⟨es, clock, hb.trans h1, r⟩, h2⟩
set_option maxRecDepth 100000 in
theorem MapJ.lookOk (h : MapJ w b n f) {k : Int} (hk : (Lit.int .i64 k).wf = true) : ∃ c : Int, (Instr.lookup 67 (.map (some b)) (.int .i64 k) true).run Try.prog w = .ok (.tuple #[.int .i64 c, .bool (f k).isSome]) w ∧ ∀ c', f k = some c' → c = c' := by
  obtain ⟨D, h1, h2⟩ := h
  obtain ⟨h3, h4⟩ := h2 k hk
  obtain ⟨v, ps, hr, hv⟩ := h1.look_ok keyedJ Try.underlying67 (zeroJ w) (plainElem_int Try.underlying2 (by decide)) (keyOf_int_mk Try.underlying2 hk)
  obtain ⟨c, rfl, hc, hw⟩ := plainElem_int_inv Try.underlying2 hv
  simp only [Prod.mk.injEq] at hc
  rw [h3] at hr
  refine ⟨c, hr, fun c' hc' => ?_⟩
  rw [h4 c' hc'] at hc
  have := hc.1
  injection this with e
  injection e with _ e
  exact e.symm
set_option maxRecDepth 100000 in
theorem MapJ.look (h : MapJ w b n f) {k c : Int} (hk : (Lit.int .i64 k).wf = true) (hc : f k = some c) : (Instr.lookup 67 (.map (some b)) (.int .i64 k) false).run Try.prog w = .ok (.int .i64 c) w := by
  obtain ⟨D, h1, h2⟩ := h
  obtain ⟨h3, h4⟩ := h2 k hk
  obtain ⟨c', hr, hat, _⟩ := h1.lookup_int keyedJ Try.underlying67 Try.underlying2 (zeroJ w) (keyOf_int_mk Try.underlying2 hk)
  rw [h4 c hc] at hat
  injection hat with e
  injection e with _ e
  rw [e]
  exact hr
theorem MapJ.update (h : MapJ w b n f) (hn : n < maxLen) {k c : Int} (hk : (Lit.int .i64 k).wf = true) (hc : (Lit.int .i64 c).wf = true) :
    ∃ w', (Instr.mapUpdate 67 (.map (some b)) (.int .i64 k) (.int .i64 c)).run Try.prog w = .ok () w' ∧ MapJ w' b (n + 1) (fun i => if i = k then some c else f i) ∧ w.grownBy w' (some b) := by
  obtain ⟨D, h1, h2⟩ := h
  have hm := h1.isMap
  obtain ⟨w', hr, h3, h4⟩ := h1.update keyedJ Try.underlying67 hn (keyOf_int_mk Try.underlying2 hk) (plainElem_int Try.underlying2 hc)
  refine ⟨w', hr, ⟨_, h3, fun i hi => ?_⟩, h4⟩
  by_cases e : i = k
  · subst e
    simp only [if_true]
    refine ⟨Go.Maps.has_true_of_atKey fun z => Go.Maps.atKey_put_same hm (by trivial) _ z, fun c' hc' => ?_⟩
    cases hc'
    exact Go.Maps.atKey_put_same hm (by trivial) _ _
  · simp only [if_neg e]
    have hne : (Lit.int .i64 i) ≠ (Lit.int .i64 k) := fun h => e (by injection h)
    obtain ⟨h5, h6⟩ := h2 i hi
    refine ⟨?_, fun c' hc' => by rw [Go.Maps.atKey_put_other hne]; exact h6 c' hc'⟩
    rw [← h5]
    exact Go.Maps.has_put_other hne _
end

end Go.Proofs.Ythmhlbkkhaplkaa

namespace Go.Proofs.Ythmhlbkkhaplkaa
open Go.RowKit Go.Sort Go.Lib
set_option linter.unusedVariables false
set_option linter.unusedSimpArgs false

theorem iv_map (l : List Int) : l.flatMap iv = l.map (Value.int .i64) := by
  induction l with
  | nil => rfl
  | cons x l ih => rw [List.flatMap_cons, ih]; rfl

section
variable {w : World} {base g n c q : Nat} {e : TypeId} {l d : List Int} {os : Array Obj}

theorem put_block (w : World) (g q : Nat) (d : List Int) (os : Array Obj) (hg : g < w.heap.size) :
    (grow (putRow (Value.int .i64) (Sort.ahead w q) g 0 d.toArray) os).heap[g]? = (w.heap[g]?).map (onCells (Go.Sort.putCells (Value.int .i64) 0 d.toArray)) := by
  rw [heap_grow_old _ _ (by simpa [putRow, mapBlock, Sort.ahead] using hg)]
  simp [putRow, mapBlock, Sort.ahead, Array.getElem?_modify]

theorem Own.put (h : Own 1 iv w base e (some ⟨g, 0, none⟩) n c l) (hd : d.length = n) {m : Nat} (hm : m ≤ n) :
    Own 1 iv (grow (putRow (Value.int .i64) (Sort.ahead w q) g 0 d.toArray) os) base e (some ⟨g, 0, none⟩) m c (d.take m) := by
  rcases h.2.2 with ⟨hv, -⟩ | ⟨g', cap, cur, hv, hb, hg, hnc, hcm, hcs, htake⟩
  · cases hv
  · cases hv
    have hlt : g < w.heap.size := (Array.getElem?_eq_some_iff.1 hg).1
    have hl : (d.take m).length = m := by rw [List.length_take]; omega
    refine ⟨hl, by rw [flat_length flat_iv, hl], .inr ⟨g, c, Go.Sort.putCells (Value.int .i64) 0 d.toArray cur, rfl, hb, ?_, by omega, hcm, by simp [Go.Sort.putCells, hcs], ?_⟩⟩
    · rw [put_block _ _ _ _ _ hlt, hg]
      rfl
    · rw [iv_map]
      apply List.ext_getElem?
      intro k
      by_cases hk : k < m
      · have hkc : k < cur.size := by omega
        have hkd : k < d.length := by omega
        rw [List.getElem?_take, if_pos (by omega), List.getElem?_map, List.getElem?_take, if_pos hk, Array.getElem?_toList, List.getElem?_eq_getElem hkd]
        simp only [Go.Sort.putCells, Array.getElem?_mapIdx, Array.getElem?_eq_getElem hkc, Option.map_some]
        rw [if_pos ⟨Nat.zero_le _, by simp; omega⟩, Nat.sub_zero, getElem!_pos _ k (by simpa using hkd)]
        simp
      · rw [List.getElem?_eq_none (by simp; omega), List.getElem?_eq_none (by simp; omega)]

theorem Own.holds (h : Own 1 iv w base e (some ⟨g, 0, none⟩) n c l) : Holds (Value.int .i64) w g 0 l.toArray := by
  intro j hj
  have hj' : j < l.length := by simpa using hj
  have hs := h.sl flat_iv
  have hn := h.len
  obtain ⟨b', off', e', -, -, -, hc⟩ := hs.at_ (by omega)
  cases e'
  have := hc j l[j] (List.getElem?_eq_getElem hj') 0 (.int .i64 l[j]) rfl
  rw [getElem!_pos _ j hj]
  simpa using this
end

section
variable {w : World} {base n c : Nat} {A : Option Addr} {l : List Int}

end

end Go.Proofs.Ythmhlbkkhaplkaa

namespace Go.Proofs.Ythmhlbkkhaplkaa
open Go.ChangeShapes Go.WideShapes Go.ChangeAt Go.RowKit
set_option linter.unusedVariables false
set_option linter.unusedSimpArgs false

theorem Own.grown_below {α : Type} {size : Nat} {f : α → List Value} {w w' : World} {base n c B : Nat} {e : TypeId} {A : Option Addr} {l : List α} (h : Own size f w base e A n c l) (hg : w.grownBy w' (Value.slice A n c).ownBlock) (hB : B ≤ base) (hb : base ≤ w.heap.size) : Below B w w' :=
  (Below.refl _ _).grown hg (by omega) fun k hk => Nat.le_trans hB (h.lt k hk).1

theorem cloneOwn_calls (A : Option Addr) (n c : Nat) (l : List Int) (w : World) (lo hi : Nat) (h : SlI w lo hi A n l) (hn : n ≤ 1048576) :
    Calls Try.prog 64 #[.slice A n c] w fun e w' => ∃ A' c', e = .returned (.slice A' n c') ∧ Own 1 iv w' w.heap.size 2 A' n c' l ∧ Below w.heap.size w w' := by
  have hnil : ∀ (W : World) (a : Option Addr) (m d : Nat), (binOp .eql 26 (.slice a m d) (.slice none 0 0)).run Try.prog W = .ok (.bool a.isNone) W := fun W a m d => Lib.run_eql_slice_nil W 26 _ a m d 0 0 Try.underlying26
  have hE := hide elem_int64
  cases A with
  | none =>
    have hn0 : n = 0 := by
      rcases Nat.eq_zero_or_pos n with h0 | h0
      · exact h0
      · obtain ⟨b, off, e, _⟩ := h.at_ h0
        cases e
    subst hn0
    have hl := List.eq_nil_of_length_eq_zero h.len
    subst hl
    go_enter Try.func64, Try.ntmps64
    go_wp2_with fail
    go_ret
    exact ⟨none, 0, rfl, Own.nil_ _ _ _, Below.refl _ _⟩
  | some a =>
    have hs := hide (h.below ((Below.refl w.heap.size w).alloc (Nat.le_refl _) (.cells #[] 2)) (.inr (Nat.le_refl _)))
    have hz : w.heap.size ≤ (w.alloc (.cells #[] 2)).heap.size := by simp
    clear h
    go_enter Try.func64, Try.ntmps64
    go_wp2_with (first | (at_builtin; (with_reducible refine wpList_app rfl (.tmp 5) (.tmp 6) rfl hE.out flat_iv rfl (Own.made w 2 (Nat.le_refl _)) rfl hs.out ?c1 hz ?_); rotate_right; intro A2 c2 w2 hown2 hgr2 hb2 _))
    case c1 => omega
    go_ret
    rw [Nat.zero_add, List.nil_append] at hown2
    exact ⟨_, _, rfl, hown2, ((Below.refl _ _).alloc (Nat.le_refl _) _).trans hb2⟩
end Go.Proofs.Ythmhlbkkhaplkaa

namespace Go.Proofs.Ythmhlbkkhaplkaa
set_option linter.unusedVariables false
set_option linter.unusedSimpArgs false

section
variable {g : DV}
theorem stateK_pre {j k : Nat} (h : k ≤ j) : ∃ K, (stateK g j).2 = (stateK g k).2 ++ K := by
  induction j with
  | zero => obtain rfl : k = 0 := by omega
            exact ⟨[], (List.append_nil _).symm⟩
  | succ j ih =>
    by_cases e : k = j + 1
    · subst e; exact ⟨[], (List.append_nil _).symm⟩
    · obtain ⟨K, hK⟩ := ih (by omega)
      rw [stateK_succ]
      unfold stepF
      split
      · exact ⟨K ++ [_], by dsimp only; rw [hK, List.append_assoc]⟩
      · exact ⟨K ++ [_], by dsimp only; rw [hK, List.append_assoc]⟩
/-- The winner's choice at a vertex of its own: a move that stays won. -/
theorem strat_at (ok : GameOk g) {v : Nat} (hv : v < g.length) (hw : gOwn g v = wonI g v) : ∃ n, (stratF g)[v]? = some n ∧ n ∈ gRaw g v ∧ wonI g n.toNat = wonI g v := by
  have hs := stateK_ok ok v (by omega)
  have e1 : ∀ u, u < g.length → wonI (stateK g v).1 u = wonI g u := fun u hu => wonI_eq hs.win hs.len (by rw [hs.len]; exact hu)
  have hw' : gOwn (stateK g v).1 v = wonI (stateK g v).1 v := by rw [hs.own, e1 v hv]; exact hw
  obtain ⟨n, h1, h2, h3⟩ := pick_is hs.ok (by rw [hs.len]; exact hv) hw'
  have h4 := keeps_own hs.ok h2 hw' h3
  have h5 : n ∈ gRaw g v := by unfold gRaw at h2 ⊢; rw [← hs.later v (Nat.le_refl _)]; exact h2
  obtain ⟨-, hn0, hn1⟩ := ok.raw h5
  refine ⟨n, ?_, h5, ?_⟩
  · obtain ⟨K, hK⟩ := stateK_pre (g := g) (k := v + 1) (j := g.length) (by omega)
    unfold stratF
    rw [hK, stateK_succ]
    unfold stepF
    rw [h1]
    dsimp only
    rw [List.append_assoc, List.getElem?_append_right (by rw [hs.out]; exact Nat.le_refl _), hs.out]
    simp
  · have := of_decide_eq_true h4
    rw [e1 _ (by omega), hs.own] at this
    rw [this, hw]
/-- Every move at a vertex of the other one stays won. -/
theorem opp_at (ok : GameOk g) {v u : Nat} (hv : v < g.length) (hw : gOwn g v ≠ wonI g v) (hu : u ∈ gNxt g v) : wonI g u = wonI g v := by
  have hl := ok.succ v u hu
  unfold wonI at hw ⊢
  cases e : wonB g v with
  | true =>
    obtain ⟨σ, c⟩ := cert_one ok.owned ok.succ
    rw [e, if_pos rfl] at hw
    rcases c.opp v ⟨hv, e⟩ hw u hu hl with h | h
    · rw [h.2]
    · exact absurd h (by simp)
  | false =>
    obtain ⟨σ, c⟩ := cert_zero ok.owned ok.succ
    rw [e, if_neg Bool.false_ne_true] at hw
    rcases c.opp v ⟨hv, e⟩ hw u hu hl with h | h
    · rw [h.2]
    · exact absurd h (by simp)
/-- The choice at a vertex. -/
noncomputable def choW (g : DV) (v : Int) : Int := ((stratF g)[v.toNat]?).getD (-1)
theorem choW_at (ok : GameOk g) {v : Nat} (hv : v < g.length) (hw : gOwn g v = wonI g v) : (stratF g)[v]? = some (choW g (v : Int)) ∧ choW g (v : Int) ∈ gRaw g v ∧ wonI g (choW g (v : Int)).toNat = wonI g v := by
  obtain ⟨n, h1, h2, h3⟩ := strat_at ok hv hw
  have e : choW g (v : Int) = n := by unfold choW; rw [show ((v : Int).toNat) = v by omega, h1]; rfl
  rw [e]
  exact ⟨h1, h2, h3⟩
end
end Go.Proofs.Ythmhlbkkhaplkaa

namespace Go.Proofs.Ythmhlbkkhaplkaa
set_option linter.unusedVariables false
set_option linter.unusedSimpArgs false

section
variable {g : DV}
theorem gRaw_put {v : Nat} (hv : v < g.length) (l : List Int) (u : Nat) : gRaw (putN g v l) u = if u = v then l else gRaw g u := by
  unfold gRaw
  by_cases e : u = v
  · subst e; rw [putN_self hv, if_pos rfl]; rfl
  · rw [putN_ne (fun h => e h.symm), if_neg e]
theorem state_pri (k u : Nat) : gPri (stateK g k).1 u = gPri g u := by
  induction k with
  | zero => rfl
  | succ k ih =>
    rw [stateK_succ]
    unfold stepF
    split
    · rw [putN_pri]; exact ih
    · exact ih
theorem state_pick (ok : GameOk g) {v : Nat} (hv : v < g.length) (hw : gOwn g v = wonI g v) : pickF (stateK g v).1 v = some (choW g (v : Int)) := by
  have hs := stateK_ok ok v (by omega)
  have e1 : wonI (stateK g v).1 v = wonI g v := wonI_eq hs.win hs.len (by rw [hs.len]; exact hv)
  have hw' : gOwn (stateK g v).1 v = wonI (stateK g v).1 v := by rw [hs.own, e1]; exact hw
  obtain ⟨n, h1, h2, h3⟩ := pick_is hs.ok (by rw [hs.len]; exact hv) hw'
  obtain ⟨K, hK⟩ := stateK_pre (g := g) (k := v + 1) (j := g.length) (by omega)
  have e : choW g (v : Int) = n := by
    unfold choW stratF
    rw [show ((v : Int).toNat) = v by omega, hK, stateK_succ]
    unfold stepF
    rw [h1]
    dsimp only
    rw [List.append_assoc, List.getElem?_append_right (by rw [hs.out]; exact Nat.le_refl _), hs.out]
    simp
  rw [e, h1]
theorem state_none (ok : GameOk g) {v : Nat} (hv : v < g.length) (hw : gOwn g v ≠ wonI g v) : pickF (stateK g v).1 v = none := by
  have hs := stateK_ok ok v (by omega)
  have e1 : wonI (stateK g v).1 v = wonI g v := wonI_eq hs.win hs.len (by rw [hs.len]; exact hv)
  unfold pickF
  rw [if_neg]
  rw [hs.own, e1]; exact hw
/-- The moves of the game in which all choices are made. -/
theorem state_raw (ok : GameOk g) : ∀ k, k ≤ g.length → ∀ v, gRaw (stateK g k).1 v = if v < k ∧ gOwn g v = wonI g v then [choW g (v : Int)] else gRaw g v
  | 0, _, v => by rw [if_neg (by omega)]; rfl
  | k + 1, hk, v => by
    have ih := state_raw ok k (by omega)
    have hs := stateK_ok ok k (by omega)
    rw [stateK_succ]
    unfold stepF
    by_cases hw : gOwn g k = wonI g k
    · rw [state_pick ok (by omega) hw]
      dsimp only
      rw [gRaw_put (by rw [hs.len]; omega), ih v]
      by_cases e : v = k
      · subst e; rw [if_pos rfl, if_pos ⟨by omega, hw⟩]
      · rw [if_neg e]
        by_cases c : v < k ∧ gOwn g v = wonI g v
        · rw [if_pos c, if_pos ⟨by omega, c.2⟩]
        · rw [if_neg c, if_neg (fun h => c ⟨by omega, h.2⟩)]
    · rw [state_none ok (by omega) hw]
      dsimp only
      rw [ih v]
      by_cases e : v = k
      · subst e; rw [if_neg (by omega), if_neg (fun h => hw h.2)]
      · by_cases c : v < k ∧ gOwn g v = wonI g v
        · rw [if_pos c, if_pos ⟨by omega, c.2⟩]
        · rw [if_neg c, if_neg (fun h => c ⟨by omega, h.2⟩)]
def atC (C : List Int) (v : Nat) : Int := (C[v]?).getD (-1)
/-- Choices for each vertex, which are the winner's where a vertex is its winner's own. -/
structure ChoOk (g : DV) (C : List Int) : Prop where
  len : C.length = g.length
  none : ∀ v, v < g.length → gRaw g v = [] → atC C v = -1
  some : ∀ v, v < g.length → gRaw g v ≠ [] → atC C v ∈ gRaw g v
  best : ∀ v, v < g.length → gOwn g v = wonI g v → atC C v = choW g (v : Int)
variable {C : List Int}
theorem ChoOk.step (h : ChoOk g C) (ok : GameOk g) {v : Nat} (hv : v < g.length) (hc : 0 ≤ atC C v) : atC C v ∈ gRaw g v ∧ (atC C v).toNat < g.length ∧ wonI g (atC C v).toNat = wonI g v := by
  have hm : atC C v ∈ gRaw g v := h.some v hv fun e => by have := h.none v hv e; omega
  obtain ⟨-, h0, h1⟩ := ok.raw hm
  refine ⟨hm, by omega, ?_⟩
  by_cases hw : gOwn g v = wonI g v
  · rw [h.best v hv hw]
    exact (choW_at ok hv hw).2.2
  · exact opp_at ok hv hw (by rw [gNxt_raw]; exact List.mem_map_of_mem hm)
/-- Where a play is behind some moves. -/
def walkC (C : List Int) (v : Nat) : Nat → Nat
  | 0 => v
  | k + 1 => (atC C (walkC C v k)).toNat
theorem GoodP.congr_pri {g g' : DV} {o : Int} {p : Nat → Nat} (h : GoodP g o p) (e : ∀ v, gPri g' v = gPri g v) : GoodP g' o p := by
  obtain ⟨m, a, b, N, c⟩ := h
  refine ⟨m, a, fun M => ?_, N, fun i hi => ?_⟩
  · obtain ⟨i, hi, hm⟩ := b M
    exact ⟨i, hi, by rw [e]; exact hm⟩
  · rw [e]; exact c i hi
end

section
variable {g : DV}
theorem Play.lt {o : Int} {σ : Nat → Nat} {W : Nat → Prop} {p : Nat → Nat} (h : Play g o σ W p) (hs : ∀ v, W v → v < g.length) (i : Nat) : p i < g.length := hs _ (h.mem i)
end
end Go.Proofs.Ythmhlbkkhaplkaa

namespace Go.Proofs.Ythmhlbkkhaplkaa
set_option linter.unusedVariables false
set_option linter.unusedSimpArgs false

def atL (S : List Int) (j : Nat) : Int := (S[j]?).getD 0
theorem atL_get {S : List Int} {j : Nat} {x : Int} (h : S[j]? = some x) : atL S j = x := by unfold atL; rw [h]; rfl
def cmpN (S : List Int) : Nat → Int
  | 0 => atL S 0 % 2
  | j + 1 => if atL S (j + 1) % 2 = atL S j % 2 then cmpN S j else cmpN S j + 1
section
variable {S : List Int}
theorem atL_lt (h : S.Pairwise (· < ·)) {i j : Nat} (hij : i < j) (hj : j < S.length) : atL S i < atL S j := by
  rw [atL_get (List.getElem?_eq_getElem (show i < S.length by omega)), atL_get (List.getElem?_eq_getElem hj)]
  exact List.pairwise_iff_getElem.1 h i j (by omega) hj hij
/-- What the map holds behind j numbers. -/
def CmpTo (S : List Int) (f : Int → Option Int) (j : Nat) : Prop := ∀ i, i < j → f (atL S i) = some (cmpN S i)
theorem CmpTo.step {f : Int → Option Int} {j : Nat} (h : CmpTo S f j) (hS : S.Pairwise (· < ·)) (hj : j < S.length) : CmpTo S (fun x => if x = atL S j then some (cmpN S j) else f x) (j + 1) := by
  intro i hi
  by_cases e : i = j
  · subst e; exact if_pos rfl
  · have := atL_lt hS (show i < j by omega) hj
    exact (if_neg (by omega)).trans (h i (by omega))
theorem CmpTo.at {f : Int → Option Int} (h : CmpTo S f S.length) {x : Int} (hx : x ∈ S) : ∃ i, i < S.length ∧ atL S i = x ∧ f x = some (cmpN S i) := by
  obtain ⟨i, hi, e⟩ := List.getElem_of_mem hx
  have e2 : atL S i = x := by rw [atL_get (List.getElem?_eq_getElem hi), e]
  exact ⟨i, hi, e2, by rw [← e2]; exact h i hi⟩
variable {g : DV}
end
end Go.Proofs.Ythmhlbkkhaplkaa

namespace Go.Proofs.Ythmhlbkkhaplkaa
open Go.ChangeShapes Go.WideShapes Go.ChangeAt Go.RowKit
set_option linter.unusedVariables false
set_option linter.unusedSimpArgs false

/-- The first place of v in l. -/
def FstI (l : List Int) (v i : Int) : Prop := (i = -1 ∧ v ∉ l) ∨ ∃ k : Nat, i = k ∧ k < l.length ∧ l[k]? = some v
set_option maxRecDepth 100000 in
theorem indexX_calls (v : Int) (A : Option Addr) (n c : Nat) (l : List Int) (w : World) (lo hi : Nat) (h : SlI w lo hi A n l) (hn : n ≤ 1048576) :
    Calls Try.prog 42 #[.slice A n c, .int .i64 v] w fun e w' => ∃ i : Int, e = .returned (.int .i64 i) ∧ FstI l v i ∧ w = w' := by
  have hlen := hide h.len
  go_enter Try.func42, Try.ntmps42
  go_wp2
  go_loop [8] (fun i => ∃ k : Nat, k ≤ n ∧ i = .int .i64 k ∧ Hid (v ∉ l.take k)) (fun i => n - (intOf i).toNat)
  case atStart => exact ⟨0, Nat.zero_le _, rfl, by rw [List.take_zero]; exact List.not_mem_nil⟩
  case round =>
    obtain ⟨k, hk, rfl, ha⟩ := hrel
    by_cases hlt : k < n
    · obtain ⟨b, off, x, rfl, g1, g2, g3, hx, c0, -⟩ := SlI.get h hlt
      clear h
      have hx2 := hide hx
      by_cases hq : x = v
      · subst hq
        clear hx
        go_wp2
        go_ret
        exact ⟨_, rfl, .inr ⟨k, rfl, (List.getElem?_eq_some_iff.1 hx2.out).1, hx2.out⟩, rfl⟩
      · have hy : Hid (v ∉ l.take (k + 1)) := by
          show ¬ _
          rw [List.take_add_one, hx, List.mem_append]
          rintro (h1 | h1)
          · exact ha.out h1
          · exact hq (List.mem_singleton.1 h1).symm
        have hne : (v == x) = false := by rw [beq_eq_false_iff_ne]; exact fun e => hq e.symm
        clear hx hq
        go_wp2
        go_round
        case rel => exact ⟨k + 1, by omega, by go_num, hy⟩
        case measure => simp [intOf]; omega
    · have hkn : k = n := by omega
      subst hkn
      clear h
      go_wp2
      go_ret
      have hy := ha.out
      rw [List.take_of_length_le (by rw [hlen.out]; exact Nat.le_refl _)] at hy
      exact ⟨_, rfl, .inl ⟨rfl, hy⟩, rfl⟩
theorem containsX_calls (v : Int) (A : Option Addr) (n c : Nat) (l : List Int) (w : World) (lo hi : Nat) (h : SlI w lo hi A n l) (hn : n ≤ 1048576) :
    Calls Try.prog 38 #[.slice A n c, .int .i64 v] w fun e w' => e = .returned (.bool (decide (v ∈ l))) ∧ w = w' := by
  have q := hide (indexX_calls v A n c l w lo hi h hn)
  clear h
  go_enter Try.func38, Try.ntmps38
  go_wp2_with fail
  refine q.out.mono ?_
  rintro e w1 ⟨i, rfl, hi, rfl⟩
  rcases hi with ⟨rfl, h1⟩ | ⟨k, rfl, -, h1⟩
  · have hv : Hid (decide (v ∈ l) = false) := decide_eq_false h1
    clear q
    go_wp2_with fail
    go_ret
    exact ⟨ret_b hv.out, rfl⟩
  · have hv : Hid (decide (v ∈ l) = true) := decide_eq_true (List.mem_of_getElem? h1)
    have k0 : (0 : Int) ≤ (k : Int) := by omega
    clear q
    go_wp2_with fail
    go_ret
    exact ⟨ret_b hv.out, rfl⟩

end Go.Proofs.Ythmhlbkkhaplkaa

namespace Go.Proofs.Ythmhlbkkhaplkaa
open Go.ChangeShapes Go.WideShapes Go.ChangeAt Go.RowKit
set_option linter.unusedVariables false
set_option linter.unusedSimpArgs false

/-- The least priority of some vertices of a play. -/
def LstP (g : DV) (C : List Int) (v j i : Nat) (m : Int) : Prop := (∀ s, j ≤ s → s < j + i → m ≤ gPri g (walkC C v s)) ∧ ((i = 0 ∧ m = 9) ∨ ∃ s, j ≤ s ∧ s < j + i ∧ gPri g (walkC C v s) = m)
theorem LstP.step {g : DV} {C : List Int} {v j i : Nat} {m p : Int} (h : LstP g C v j i m) (hp : gPri g (walkC C v (j + i)) = p) (h9 : p ≤ 9) : LstP g C v j (i + 1) (if p < m then p else m) := by
  refine ⟨fun s h1 h2 => ?_, .inr ?_⟩
  · by_cases e : s = j + i
    · rw [e, hp]; split <;> omega
    · have := h.1 s h1 (by omega)
      split <;> omega
  · by_cases c : p < m
    · exact ⟨j + i, by omega, by omega, by rw [hp, if_pos c]⟩
    · rw [if_neg c]
      rcases h.2 with ⟨e1, e2⟩ | ⟨s, h1, h2, h3⟩
      · exact ⟨j + i, by omega, by omega, by rw [hp]; omega⟩
      · exact ⟨s, h1, by omega, h3⟩

theorem gameAt_valid {A : Option Addr} {n c : Nat} {g : DV} {w : World} (h : GameAt w A n g) (ok : GameOk g) : Calls Try.prog 23 #[.slice A n c] w (Says true w) := by
  obtain ⟨R, h1, rfl, h3⟩ := h
  have hn : n ≤ 1048576 := by have := ok.1; omega
  have q := validGame_calls A n c R w _ _ h1 hn
  rw [decide_eq_true ok] at q
  exact q

end Go.Proofs.Ythmhlbkkhaplkaa

namespace Go.Proofs.Ythmhlbkkhaplkaa
open Go.ChangeShapes Go.WideShapes Go.ChangeAt Go.RowKit
set_option linter.unusedVariables false
set_option linter.unusedSimpArgs false

/-- The priorities of the first k vertices. -/
def priL (g : DV) (k : Nat) : List Int := (g.take k).map fun x => x.2.1
theorem priL_succ {g : DV} {k : Nat} {o p : Int} {l : List Int} (h : g[k]? = some (o, p, l)) : priL g (k + 1) = priL g k ++ [p] := by
  unfold priL; rw [List.take_add_one, h, List.map_append]; rfl

end Go.Proofs.Ythmhlbkkhaplkaa
