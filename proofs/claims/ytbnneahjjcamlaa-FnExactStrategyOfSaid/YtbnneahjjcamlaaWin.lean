/-
  The program's recursive computation of winners. Conditions: valid games.
-/
import Derived.Test.YtbnneahjjcamlaaWinC
import Derived.Deep.RegionHeld3
namespace Go.Proofs.Ytbnneahjjcamlaa
open Go.ChangeShapes Go.WideShapes Go.ChangeAt Go.RowKit
set_option linter.unusedVariables false

theorem Box.set_other {W : World} {b B : Nat} {u v : Value} (h : Box W b u) (hne : b ≠ B) : Box (W.setCell ⟨B, 0, none⟩ v) b u :=
  ⟨(World.cell?_setCell_other _ _ _ _ (by intro e; injection e with e _ _; omega)).trans h.1, by rw [World.size_setCell]; exact h.2⟩
theorem Box.set_same {W : World} {B : Nat} {u v : Value} (h : Box W B u) : Box (W.setCell ⟨B, 0, none⟩ v) B v :=
  ⟨World.cell?_setCell_same _ _ _ h.1, by rw [World.size_setCell]; exact h.2⟩

theorem idx_zero {s : List Bool} : (idxOf s).length = 0 ↔ ∀ v, inS s v = false := by
  constructor
  · intro h v
    cases e : inS s v with
    | false => rfl
    | true =>
      have : (v : Int) ∈ idxOf s := mem_idx.2 ⟨v, rfl, e⟩
      have := List.length_pos_of_mem this
      omega
  · intro h
    have : idxOf s = [] := List.eq_nil_iff_forall_not_mem.2 fun x hx => by
      obtain ⟨v, rfl, hv⟩ := mem_idx.1 hx
      rw [h v] at hv; cases hv
    rw [this]; rfl

/-- The least priority so far. -/
def LeastJ (g : DV) (alive : List Bool) (l : List Int) (j : Nat) (m : Int) : Prop := (∃ u, inS alive u = true ∧ gPri g u = m) ∧ ∀ i (v : Nat), i < j → l[i]? = some (v : Int) → m ≤ gPri g v
theorem LeastJ.done {g : DV} {alive : List Bool} {m : Int} (h : LeastJ g alive (idxOf alive) (idxOf alive).length m) (hal : alive.length = g.length) : leastP g alive = some m := by
  obtain ⟨⟨u, hu, hm⟩, hle⟩ := h
  refine leastP_some hal hu hm fun v hv => ?_
  obtain ⟨i, hi⟩ := List.getElem?_of_mem (mem_idx.2 ⟨v, rfl, hv⟩ : (v : Int) ∈ idxOf alive)
  exact hle i v (List.getElem?_eq_some_iff.1 hi).1 hi
theorem LeastJ.done' {g : DV} {alive : List Bool} {m : Int} {n : Nat} (h : LeastJ g alive (idxOf alive) n m) (hn : (idxOf alive).length = n) (hal : alive.length = g.length) : leastP g alive = some m := by
  subst hn; exact h.done hal
theorem LeastJ.step {g : DV} {alive : List Bool} {l : List Int} {j : Nat} {m : Int} {v : Nat} (h : LeastJ g alive l j m) (hx : l[j]? = some (v : Int)) (hv : inS alive v = true) : LeastJ g alive l (j + 1) (min m (gPri g v)) := by
  obtain ⟨⟨u, hu, hm⟩, hle⟩ := h
  refine ⟨?_, fun i x hi hix => ?_⟩
  · rcases Int.le_total m (gPri g v) with h1 | h1
    · exact ⟨u, hu, by omega⟩
    · exact ⟨v, hv, by omega⟩
  · by_cases e : i = j
    · subst e
      rw [hx] at hix
      injection hix with hix
      have : v = x := by omega
      subst this
      omega
    · have := hle i x (by omega) hix
      omega

set_option maxHeartbeats 6400000 in
set_option maxRecDepth 100000 in
theorem win_calls (f : Nat) : ∀ (b : Nat) (g : DV) (alive : List Bool) (w : World), ArenaAt w b g alive → GameOk g → numS alive ≤ f →
    Calls Try.prog 97 #[.pointer (some ⟨b, 0, none⟩)] w (GotB w g.length (winF g f alive)) := by
  induction f using Nat.strongRecOn with
  | ind f ih =>
  intro b g alive w h ok hf
  have hal : alive.length = g.length := by
    obtain ⟨Ag, cg, Ab, cb, Ai, ci, Q, h1, h2, h3, h4, h5⟩ := h
    exact h5.len
  have hmk := run_make_bool g.length (by have := ok.1.2; omega)
  have hb0 : Below w.heap.size w (w.alloc (.cells #[.pointer (some ⟨b, 0, none⟩)] 110)) := (Below.refl _ _).alloc (Nat.le_refl _) _
  have hX0 := Box.made w (.pointer (some ⟨b, 0, none⟩)) 110
  have h0 := h.below hb0 (Nat.le_refl _)
  have hz0 : w.heap.size < (w.alloc (.cells #[.pointer (some ⟨b, 0, none⟩)] 110)).heap.size := by simp
  obtain ⟨b1, o1, cg, b2, o2, cb, b3, o3, ci, Q, c0, c1, c2, hg, -, -, ha, hbl, hn0, hn1⟩ := h0.open_ ok
  have x0 := hX0.1
  have hal2 := hide hal
  generalize hBX : w.heap.size = BX at *
  replace hBX := hide hBX
  go_enter Try.func97, Try.ntmps97
  go_upto_region 1 with fail
  try simp only [hBX.out]
  generalize (w.alloc (.cells #[.pointer (some ⟨b, 0, none⟩)] 110)) = W0 at *
  have q1 := hide (trueAt_calls (some ⟨b3, o3, none⟩) g.length ci alive W0 0 _ ha.sl (by omega))
  replace h := hide h
  replace h0 := hide h0
  replace ih := hide ih
  replace hb0 := hide hb0
  replace hX0 := hide hX0
  replace hg := hide hg
  replace hf := hide hf
  replace hmk := hide hmk
  clear hal ha
  generalize hgl : g.length = n at *
  replace hgl := hide hgl
  go_wp2_with fail
  refine q1.out.mono ?_
  rintro e w1 ⟨A1, k1, rfl, hall, hb1⟩
  have hX1 := hX0.out.below hb1 (Nat.le_refl _)
  have h1 := hide (h0.out.below hb1 (Nat.le_refl _))
  have hz1 := hb1.size
  clear q1 c0 c1 c2 x0
  by_cases hem : (idxOf alive).length = 0
  · have hno := idx_zero.1 hem
    have hres := hide (winF_none (f := f) (leastP_none (hal2.out.trans hgl.out.symm) hno))
    have x1 := hX1.1
    obtain ⟨b1, o1, cg, b2, o2, cb, b3, o3, ci, Q, c0, c1, c2, -, -, -, -, hbl1, -, -⟩ := h1.out.open_ ok
    rw [hgl.out] at c0
    have hm := hide (SlB.made w1 n)
    have e0 : (((idxOf alive).length : Int) == 0) = true := by rw [hem]; rfl
    have bel1 := hb0.out.trans (hb1.mono (by omega))
    replace hmk := hmk.out
    clear hall hno hem hX1 c1 c2 hb1
    go_wp2
    go_ret
    rw [← hBX.out] at *
    exact ⟨_, _, rfl, by rw [hres.out, hgl.out]; exact hm.out.more (by omega) (by simp), bel1.alloc (by omega) _⟩
  · have e0 : (((idxOf alive).length : Int) == 0) = false := by rw [beq_eq_false_iff_ne]; omega
    have hallS := hall.sl flat_iv
    have hm0 : 0 < (idxOf alive).length := by omega
    obtain ⟨ba, oa, rfl, ha1, -, ha2, -⟩ := hallS.at_ hm0
    obtain ⟨a0, hx0, d0, -⟩ := SlI.cell hallS hm0
    obtain ⟨v0, rfl, hv0⟩ := mem_idx.1 (List.mem_of_getElem? hx0)
    have hv0n : v0 < n := by have := inS_lt hv0; rw [hal2.out] at this; have := hgl.out; omega
    have hlenA : Hid ((idxOf alive).length ≤ n) := by
      show _ ≤ _
      have := idx_len alive
      rw [hal2.out] at this
      have := hgl.out
      omega
    have x1 := hX1.1
    obtain ⟨b1, o1, cg, b2, o2, cb, b3, o3, ci, Q, c0, c1, c2, hg1, -, -, -, hbl1, -, -⟩ := h1.out.open_ ok
    rw [hgl.out] at c0 hg1
    obtain ⟨o, p0, l, Ah, nh, ch, hxv, y0, y1, y2, -, -, -, hp0, -⟩ := hg1.cell ok hv0n
    have hL0 : Hid (LeastJ g alive (idxOf alive) 0 p0) := ⟨⟨v0, hv0, gPri_at hxv⟩, fun i _ hi => absurd hi (by omega)⟩
    rw [Nat.add_zero] at d0
    have n1 := World.new_ne w1 _ x1
    have n2 := World.new_ne w1 _ c0
    have n3 := World.new_ne w1 _ d0
    have n4 := World.new_ne w1 _ y1
    have i1 : (0 : Int) ≤ (v0 : Int) := by omega
    have i2 : (v0 : Int) < (n : Int) := by omega
    have hp00 := hp0.1
    have hp09 := hp0.2
    replace hX1 := hide hX1
    replace hg1 := hide hg1
    replace hallS := hide hallS
    clear hall hx0 hxv hp0 c1 c2 y0 y2
    generalize hil : (idxOf alive).length = il at *
    have hil2 := hide hil
    clear hil
    go_wp2
    go_region_held3 (fun w' => w'.cell? ⟨BX, 0, none⟩ = some (.pointer (some ⟨b, 0, none⟩)) ∧ w'.cell? ⟨b, 0, none⟩ = some (.slice (some ⟨b1, o1, none⟩) n cg) ∧ w'.cell? ⟨ba, oa, none⟩ = some (.int .i64 (v0 : Int)) ∧ w'.cell? ⟨b1, o1 + v0 * 3 + 1, none⟩ = some (.int .i64 p0)) (go_keep) (fail)
    have bel4 : Below W0.heap.size W0 (w1.alloc (.cells #[.int .i64 p0] 2)).drew := (hb1.alloc hz1 _).drew
    have hBL : (w1.alloc (.cells #[.int .i64 p0] 2)).drew.heap[w1.heap.size]? = some (.cells #[.int .i64 p0] 2 (0, 0)) := heap_alloc_new w1 _
    have hall4 : SlI (w1.alloc (.cells #[.int .i64 p0] 2)).drew W0.heap.size w1.heap.size (some ⟨ba, oa, none⟩) il (idxOf alive) := (Sl.below hallS.out ((Below.refl w1.heap.size w1).alloc (Nat.le_refl _) _) (.inr (Nat.le_refl _))).drew
    have hz4 : w1.heap.size < (w1.alloc (.cells #[.int .i64 p0] 2)).drew.heap.size := by simp
    replace bel4 := hide bel4
    replace hBL := hide hBL
    replace hall4 := hide hall4
    clear hallS hX1 hg1 hb1 x1 c0 d0 y1 n1 n2 n3 n4 h1 i1 i2
    go_wp2_with fail
    generalize hW4 : (w1.alloc (.cells #[.int .i64 p0] 2)).drew = W4 at *
    generalize hBLn : w1.heap.size = BL at *
    clear hW4 hBLn
    go_loopw [39] (fun i wr => ∃ (j : Nat) (m : Int), j ≤ il ∧ i = .int .i64 j ∧ Hid (wr.heap[BL]? = some (.cells #[.int .i64 m] 2 (0, 0))) ∧ Hid (LeastJ g alive (idxOf alive) j m) ∧ 0 ≤ m ∧ m ≤ 9 ∧ Only BL (BL + 1) W4 wr) (fun i _ => il - (intOf i).toNat)
    case atStart => exact ⟨0, p0, Nat.zero_le _, rfl, hBL, hL0, hp00, hp09, Only.refl _ _ _⟩
    case round =>
      obtain ⟨j, m, hj, rfl, hBm, hLm, hm0', hm9, ho⟩ := hrel
      clear hBL hL0
      have bel := Only.below bel4.out ho hz1 bel4.out.size
      by_cases hjl : j < il
      · obtain ⟨aj, hxj, e0', -⟩ := SlI.cell (Sl.only hall4.out ho (.inl (Nat.le_refl _))) hjl
        obtain ⟨vj, rfl, hvj⟩ := mem_idx.1 (List.mem_of_getElem? hxj)
        have hvjn : vj < n := by have := inS_lt hvj; rw [hal2.out] at this; have := hgl.out; omega
        have hXr := hX0.out.below bel (Nat.le_refl _)
        have hAr := h0.out.below bel (Nat.le_refl _)
        have x1 := hXr.1
        obtain ⟨b1, o1, cg, b2, o2, cb, b3, o3, ci, Q, c0, c1, c2, hg1, -, -, -, hbl1, -, -⟩ := hAr.open_ ok
        rw [hgl.out] at c0 hg1
        obtain ⟨o, p, l, Ah, nh, ch, hxv, y0, y1, y2, -, -, -, hpj, -⟩ := hg1.cell ok hvjn
        have hpp0 := hpj.1
        have hpp9 := hpj.2
        have hnext := hLm.out.step hxj hvj
        rw [gPri_at hxv] at hnext
        have l0 : wr.cell? ⟨BL, 0, none⟩ = some (.int .i64 m) := (cell_of_row _ _ 0 _ _ (0, 0) hBm.out).trans rfl
        have lz := frozen_of_row _ _ 0 _ _ hBm.out
        have hset : ∀ v, Hid ((wr.setCell ⟨BL, 0, none⟩ (.int .i64 v)).heap[BL]? = some (.cells #[.int .i64 v] 2 (0, 0))) := fun v => heap_setCell_same _ _ _ _ _ _ hBm.out
        have i1 : (0 : Int) ≤ (vj : Int) := by omega
        have i2 : (vj : Int) < (n : Int) := by omega
        have hlb := hlenA.out
        clear hXr hAr hg1 hxj hxv hpj c1 c2 y0 y2 bel hBm
        by_cases hpm : p < m
        · rw [show min m p = p by omega] at hnext
          replace hnext := hide hnext
          have hset := hset p
          go_wp2
          go_still_tail 10, (by kernel_rfl)
          change wpList _ _ _ _ _ wr.drew
          go_wp2
          go_roundw
          case rel => exact ⟨j + 1, p, by omega, by go_num, hset, hnext, by omega, by omega, (ho.setCell (p := ⟨BL, 0, none⟩) (Nat.le_refl _) (Nat.lt_succ_self _) _).drewN 1⟩
          case measure => simp [intOf]; omega
        · rw [show min m p = m by omega] at hnext
          replace hnext := hide hnext
          have hset := hset m
          go_wp2
          go_still_tail 10, (by kernel_rfl)
          change wpList _ _ _ _ _ wr.drew
          go_wp2
          go_roundw
          case rel => exact ⟨j + 1, m, by omega, by go_num, hset, hnext, by omega, by omega, (ho.setCell (p := ⟨BL, 0, none⟩) (Nat.le_refl _) (Nat.lt_succ_self _) _).drewN 1⟩
          case measure => simp [intOf]; omega
      · have hjn : j = il := by omega
        subst hjn
        have hle := hLm.out.done' hil2.out (hal2.out.trans hgl.out.symm)
        have hrest := rest_lt (hal2.out.trans hgl.out.symm) hle
        obtain ⟨f', rfl⟩ : ∃ f', f = f' + 1 := ⟨f - 1, by have := hf.out; omega⟩
        have hXr := hX0.out.below bel (Nat.le_refl _)
        have hAr := h0.out.below bel (Nat.le_refl _)
        have hLr : Box wr BL (.int .i64 m) := ⟨(cell_of_row _ _ 0 _ _ (0, 0) hBm.out).trans rfl, (Array.getElem?_eq_some_iff.1 hBm.out).1⟩
        have l0 := hLr.1
        replace hle := hide hle
        replace hrest := hide hrest
        have hzr := bel.size
        go_upto_region 11 with fail
        have belP := bel.alloc hzr (.cells #[.int .i64 (m % 2)] 2)
        have hP := Box.made wr (.int .i64 (m % 2)) 2
        have hbA := (Below.refl wr.heap.size wr).alloc (Nat.le_refl _) (.cells #[.int .i64 (m % 2)] 2)
        have hXP := hXr.below hbA (Nat.le_refl _)
        have hLP := hLr.below hbA (Nat.le_refl _)
        have hAP := hAr.below hbA (Nat.le_refl _)
        clear hXr hAr hLr hbA l0 hBm hLm bel ho hall4 bel4 hlenA hil2
        generalize hWP : wr.alloc (.cells #[.int .i64 (m % 2)] 2) = WP at *
        generalize hBP : wr.heap.size = BP at *
        clear hWP
        have hWd : Below WP.heap.size WP WP.drew := below_drewN WP 1
        have hdrew : Below W0.heap.size W0 WP.drew := belP.drew
        have q2 := hide (marked_calls 129 #[.pointer (some ⟨BX, 0, none⟩), .pointer (some ⟨BL, 0, none⟩)] (fun v => decide (gPri g v = m)) b g alive WP.drew (hAP.below hWd (Nat.le_refl _)) ok (fun v W => by kernel_rfl)
          (fun k W hk _ hW => win1_calls b BX BL g alive m k W ((hAP.below hWd (Nat.le_refl _)).below hW (Nat.le_refl _)) ok hk ((hXP.below hWd (Nat.le_refl _)).below hW (Nat.le_refl _)) ((hLP.below hWd (Nat.le_refl _)).below hW (Nat.le_refl _))))
        have x1 := hXP.1
        have p1 := hP.1
        have hXlt := hXP.2
        have hPlt := hP.2
        replace hAP := hide hAP
        replace hXP := hide hXP
        replace hLP := hide hLP
        replace hP := hide hP
        replace belP := hide belP
        replace hdrew := hide hdrew
        go_region_held3 (fun w' => w'.cell? ⟨BX, 0, none⟩ = some (.pointer (some ⟨b, 0, none⟩)) ∧ w'.cell? ⟨BP, 0, none⟩ = some (.int .i64 (m % 2))) (first | exact ⟨y1, y2⟩ | exact ⟨z1, z2⟩ | go_keep)
          (first
            | (go_at_call 93; (with_reducible refine q2.out.mono ?_); rintro e w2 ⟨A2, k2, rfl, hs2, hb2⟩; have z1 := (hb2.cell (p := ⟨BX, 0, none⟩) hXlt).trans x1; have z2 := (hb2.cell (p := ⟨BP, 0, none⟩) hPlt).trans p1; have hX2 := Nat.lt_of_lt_of_le hXlt hb2.size; have hP2 := Nat.lt_of_lt_of_le hPlt hb2.size; have belV2 := hWd.trans (hb2.mono (Nat.le_refl _)); replace belV2 := hide belV2; have bel2 := hide (hdrew.out.trans (hb2.mono hdrew.out.size)); have hF2 := hide (SlB.at_set hs2); clear hs2 hb2)
            | (go_at_call 95; (refine (attract_calls b g alive (firstF g alive m) (m % 2) A2 k2 w2 (h0.out.below bel2.out (Nat.le_refl _)) ok hF2.out (fun v hv => firstF_sub hv)).mono ?_); rintro e w3 ⟨A3, k3, rfl, hs3, hb3⟩; have bel3 := hide (bel2.out.trans (hb3.mono bel2.out.size)); have belV3 := belV2.out.trans (hb3.mono belV2.out.size); replace belV3 := hide belV3; have hF3 := hide (show SetAt w3 A3 g.length (aimF g alive m) from SlB.at_set hs3); have y1 := (hb3.cell (p := ⟨BX, 0, none⟩) hX2).trans z1; have y2 := (hb3.cell (p := ⟨BP, 0, none⟩) hP2).trans z2; clear hs3 hb3))
        clear q2 hF2 z1 z2 hX2 hP2 x1 p1
        go_wp2_with fail
        refine (without_calls b g alive (aimF g alive m) A3 k3 w3 (h0.out.below bel3.out (Nat.le_refl _)) ok hF3.out).mono ?_
        rintro e w4 ⟨b4, rfl, hA4, hb4⟩
        have hA4 : Hid (ArenaAt w4 b4 g (lessF g alive (aimF g alive m))) := hA4
        have bel4 := hide (bel3.out.trans (hb4.mono bel3.out.size))
        have belV4 := hide (belV3.out.trans (hb4.mono belV3.out.size))
        clear hF3 y1 y2 hb4
        generalize hrs : lessF g alive (aimF g alive m) = rest at *
        replace hrs := hide hrs
        go_wp2_with fail
        refine (ih.out f' (Nat.lt_succ_self _) b4 g rest w4 hA4.out ok (by have := hrest.out; have := hf.out; omega)).mono ?_
        rintro e w5 ⟨A5, k5, rfl, hs5, hb5⟩
        have bel5 := bel4.out.trans (hb5.mono bel4.out.size)
        have belV5 := belV4.out.trans (hb5.mono belV4.out.size)
        have hbox := (Below.refl w5.heap.size w5).alloc (Nat.le_refl _) (.cells #[.slice A5 g.length k5] 36)
        have bel6 := bel5.trans (hbox.mono bel5.size)
        have belV6 := belV5.trans (hbox.mono belV5.size)
        have hA6 := (hA4.out.below hb5 (Nat.le_refl _)).below hbox (Nat.le_refl _)
        have hW6 := Box.made w5 (.slice A5 g.length k5) 36
        have hs6 := SlB.at_set (Sl.below hs5 hbox (.inr (Nat.le_refl _)))
        have hP6 := hP.out.below belV6 (Nat.le_refl _)
        have hWb6 := heap_alloc_new w5 (.cells #[.slice A5 g.length k5] 36)
        replace hWb6 := hide hWb6
        have hBWz : w5.heap.size < (w5.alloc (.cells #[.slice A5 g.length k5] 36)).heap.size := by simp
        have hBW5 : WP.heap.size ≤ w5.heap.size := belV5.size
        have hBW0 : W0.heap.size ≤ w5.heap.size := bel5.size
        clear hs5 hb5 bel4 belV4 bel5 belV5 hbox hA4
        replace bel6 := hide bel6
        replace belV6 := hide belV6
        replace hA6 := hide hA6
        replace hW6 := hide hW6
        replace hs6 := hide hs6
        replace hP6 := hide hP6
        go_wp2_with fail
        generalize hW6n : (w5.alloc (.cells #[.slice A5 g.length k5] 36)) = W6 at *
        generalize hBWn : w5.heap.size = BW at *
        clear hW6n
        generalize hwn : winF g f' rest = won at *
        replace hwn := hide hwn
        refine (marked_calls 130 #[.pointer (some ⟨BW, 0, none⟩), .pointer (some ⟨BP, 0, none⟩)] (fun v => inS won v != decide (m % 2 = 1)) b4 g rest W6 hA6.out ok (fun v W => by kernel_rfl)
          (fun k W hk _ hW => win2_calls BW BP g.length A5 k5 won (m % 2) k W hk (hs6.out.below hW (Nat.le_refl _)) (hW6.out.below hW (Nat.le_refl _)) (hP6.out.below hW (Nat.le_refl _)))).mono ?_
        rintro e w7 ⟨A7, k7, rfl, hs7, hb7⟩
        have hs7 : SlB w7 W6.heap.size w7.heap.size A7 g.length (otherF g rest won (m % 2)) := hs7
        have bel7 := hide (bel6.out.trans (hb7.mono bel6.out.size))
        have belV7 := hide (belV6.out.trans (hb7.mono belV6.out.size))
        have hW7 := hide (hW6.out.below hb7 (Nat.le_refl _))
        have hO7 := hide (SlB.at_set hs7)
        have hz67 := hb7.size
        have hWb7 := hide ((hb7.block _ hBWz).trans hWb6.out)
        clear hs7 hb7 hWb6 hA6 hW6 hs6 bel6 belV6 hP6
        go_wp2_with fail
        refine (containsTrue_calls A7 g.length k7 _ w7 0 _ hO7.out.sl (by have := ok.1.2; omega)).mono ?_
        rintro e w' ⟨rfl, rfl⟩
        generalize hoth : otherF g rest won (m % 2) = other at *
        have hX7 := (hXP.out.below belV7.out (Nat.le_refl _))
        have hP7 := (hP.out.below belV7.out (Nat.le_refl _))
        have x7 := hX7.1
        have p7 := hP7.1
        replace hX7 := hide hX7
        replace hP7 := hide hP7
        by_cases hany : anyS other = true
        · have hgo := winF_go (f := f') hle.out (by rw [hrs.out, hwn.out, hoth]; exact hany)
          have hll := lost_lt (p2 := 1 - m % 2) (won := won) (player := m % 2) (hal2.out.trans hgl.out.symm) (least := m) (g := g) (alive := alive) (by rw [hrs.out, hoth]; exact hany)
          rw [hrs.out, hwn.out, hoth] at hgo
          rw [hrs.out, hoth] at hll
          have hosub : ∀ v, inS other v = true → inS alive v = true := fun v hv => by
            rw [← hoth, ← hrs.out] at hv
            exact otherF_sub hv
          dsimp only at hgo
          replace hgo := hide hgo
          replace hll := hide hll
          replace hosub := hide hosub
          replace hoth := hide hoth
          go_wp2_with fail
          refine (attract_calls b g alive other (1 - m % 2) A7 k7 w7 (h0.out.below bel7.out (Nat.le_refl _)) ok hO7.out hosub.out).mono ?_
          rintro e w8 ⟨A8, k8, rfl, hs8, hb8⟩
          have bel8 := bel7.out.trans (hb8.mono bel7.out.size)
          have hz8 := hb8.size
          have hz78 : W6.heap.size ≤ w7.heap.size := hz67
          have hWb8 := (hb8.block _ (by omega)).trans hWb7.out
          have hX8 := hX7.out.below hb8 (Nat.le_refl _)
          have hP8 := hP7.out.below hb8 (Nat.le_refl _)
          have hbox := (Below.refl w8.heap.size w8).alloc (Nat.le_refl _) (.cells #[.slice A8 g.length k8] 36)
          have bel9 := bel8.trans (hbox.mono bel8.size)
          have hX9 := hX8.below hbox (Nat.le_refl _)
          have hP9 := hP8.below hbox (Nat.le_refl _)
          have hO9 := Box.made w8 (.slice A8 g.length k8) 36
          have hl9 := Sl.below hs8 hbox (.inr (Nat.le_refl _))
          have hWb9 := (hbox.block BW (by omega)).trans hWb8
          have hz9 : w8.heap.size < (w8.alloc (.cells #[.slice A8 g.length k8] 36)).heap.size := by simp
          have x9 := hX9.1
          have o9 := hO9.1
          generalize hlost : attrF g alive (1 - m % 2) other = lost at *
          replace hlost := hide hlost
          replace bel9 := hide bel9
          replace hX9 := hide hX9
          replace hP9 := hide hP9
          replace hO9 := hide hO9
          replace hl9 := hide hl9
          replace hWb9 := hide hWb9
          clear hs8 hb8 hbox hX8 hP8 hWb8 bel8 hO7 x7 p7 hX7 hP7 hWb7 hW7 belV7
          go_wp2_with fail
          generalize hW9 : (w8.alloc (.cells #[.slice A8 g.length k8] 36)) = W9 at *
          generalize hBO : w8.heap.size = BO at *
          clear hW9
          refine (without_calls b g alive lost A8 k8 W9 (h0.out.below bel9.out (Nat.le_refl _)) ok (SlB.at_set hl9.out)).mono ?_
          rintro e w10 ⟨b10, rfl, hA10, hb10⟩
          have hA10 : Hid (ArenaAt w10 b10 g (lessF g alive lost)) := hA10
          have bel10 := hide (bel9.out.trans (hb10.mono bel9.out.size))
          have hX10 := hide (hX9.out.below hb10 (Nat.le_refl _))
          have hP10 := hide (hP9.out.below hb10 (Nat.le_refl _))
          have hO10 := hide (hO9.out.below hb10 (Nat.le_refl _))
          have hl10 := hide (Sl.below hl9.out hb10 (.inr (Nat.le_refl _)))
          have hWb10 := hide ((hb10.block BW (by omega)).trans hWb9.out)
          have hz10 := hb10.size
          clear hX9 hP9 hO9 hl9 hWb9 bel9 hb10 x9 o9
          go_wp2_with fail
          refine (ih.out f' (Nat.lt_succ_self _) b10 g (lessF g alive lost) w10 hA10.out ok (by have := hll.out; have := hf.out; omega)).mono ?_
          rintro e w11 ⟨A11, k11, rfl, hs11, hb11⟩
          have bel11 := bel10.out.trans (hb11.mono bel10.out.size)
          have hX11 := hX10.out.below hb11 (Nat.le_refl _)
          have hP11 := hP10.out.below hb11 (Nat.le_refl _)
          have hO11 := hO10.out.below hb11 (Nat.le_refl _)
          have hl11 := Sl.below hl10.out hb11 (.inr (Nat.le_refl _))
          have hWb11 := (hb11.block BW (by omega)).trans hWb10.out
          have hz11 := hb11.size
          have hW11 : Box w11 BW (.slice A5 g.length k5) := ⟨(cell_of_row _ _ 0 _ _ (0, 0) hWb11).trans rfl, (Array.getElem?_eq_some_iff.1 hWb11).1⟩
          have w11c := hW11.1
          have w11z := frozen_of_row _ _ 0 _ _ hWb11
          have hXne : BX ≠ BW := by omega
          have hPne : BP ≠ BW := by omega
          have hOne : BO ≠ BW := by omega
          have hbW : Below W0.heap.size W0 (w11.setCell ⟨BW, 0, none⟩ (.slice A11 g.length k11)) := bel11.setCell hBW0 _
          have hoW : Only BW (BW + 1) w11 (w11.setCell ⟨BW, 0, none⟩ (.slice A11 g.length k11)) := (Only.refl _ _ _).setCell (p := ⟨BW, 0, none⟩) (Nat.le_refl _) (Nat.lt_succ_self _) _
          have hX12 := Box.set_other (v := .slice A11 g.length k11) hX11 hXne
          have hP12 := hide (Box.set_other (v := .slice A11 g.length k11) hP11 hPne)
          have hO12 := hide (Box.set_other (v := .slice A11 g.length k11) hO11 hOne)
          have hW12 := hide (Box.set_same (v := .slice A11 g.length k11) hW11)
          have hl12 := hide (SlB.at_set (Sl.only hl11 hoW (.inr (by omega))))
          have hs12 := hide (SlB.at_set (Sl.only hs11 hoW (.inr (by omega))))
          have hA12 := hide (h0.out.below hbW (Nat.le_refl _))
          have x12 := hX12.1
          have hzs : (w11.setCell ⟨BW, 0, none⟩ (.slice A11 g.length k11)).heap.size = w11.heap.size := World.size_setCell _ _ _
          replace hbW := hide hbW
          replace hzs := hide hzs
          clear hs11 hb11 bel11 hX11 hP11 hO11 hl11 hWb11 hoW hX12 bel10 hX10 hP10 hO10 hl10 hWb10 hA10
          go_wp2_with fail
          refine (marked_calls 133 #[.pointer (some ⟨BO, 0, none⟩), .pointer (some ⟨BP, 0, none⟩), .pointer (some ⟨BW, 0, none⟩)] (fun v => (inS lost v && decide (m % 2 = 0)) || (!inS lost v && inS (winF g f' (lessF g alive lost)) v)) b g alive _ hA12.out ok (fun v W => by kernel_rfl)
            (fun k W hk _ hW => win4_calls BO BP BW g.length A8 A11 k8 k11 lost (winF g f' (lessF g alive lost)) (m % 2) k W hk (hl12.out.below hW (Nat.le_refl _)) (hs12.out.below hW (Nat.le_refl _)) (hO12.out.below hW (Nat.le_refl _)) (hP12.out.below hW (Nat.le_refl _)) (hW12.out.below hW (Nat.le_refl _)))).mono ?_
          rintro e w13 ⟨A13, k13, rfl, hs13, hb13⟩
          have bel13 := hide (hbW.out.trans (hb13.mono hbW.out.size))
          have hzz := bel7.out.size
          have hw7 : w.heap.size ≤ w11.heap.size := Nat.le_trans hb0.out.size (by omega)
          have hfin : SlB w13 w.heap.size w13.heap.size A13 n (winF g (f' + 1) alive) := by
            have h9 := hs13.more (lo' := w.heap.size) (by rw [hzs.out]; exact hw7) (Nat.le_refl _)
            rw [hgo.out, ← hgl.out]
            exact h9
          replace hfin := hide hfin
          clear hs13 hb13 x12
          go_wp2_with fail
          go_ret
          exact ⟨A13, k13, by rw [← hgl.out]; rfl, hfin.out, by rw [hBX.out]; exact hb0.out.trans (bel13.out.mono (by omega))⟩
        · replace hany := Bool.eq_false_iff.2 hany
          have hstop := hide (winF_stop (f := f') hle.out (by rw [hrs.out, hwn.out, hoth]; exact hany))
          replace hoth := hide hoth
          have hA7 := hide (h0.out.below bel7.out (Nat.le_refl _))
          go_wp2_with fail
          refine (marked_calls 132 #[.pointer (some ⟨BP, 0, none⟩)] (fun _ => decide (m % 2 = 1)) b g alive w7 hA7.out ok (fun v W => by kernel_rfl) (fun k W hk _ hW => win3_calls BP (m % 2) k W (hP7.out.below hW (Nat.le_refl _)))).mono ?_
          rintro e w8 ⟨A8, k8, rfl, hs8, hb8⟩
          have bel8 := hide (bel7.out.trans (hb8.mono bel7.out.size))
          have hzz := bel7.out.size
          replace hs8 := hide hs8
          clear hb8
          go_wp2_with fail
          go_ret
          have hw7 : w.heap.size ≤ w7.heap.size := Nat.le_trans hb0.out.size hzz
          have hfin : SlB w8 w.heap.size w8.heap.size A8 n (winF g (f' + 1) alive) := by
            have h9 := hs8.out.more (lo' := w.heap.size) hw7 (Nat.le_refl _)
            rw [hstop.out, ← hgl.out]
            exact h9
          exact ⟨A8, k8, by rw [← hgl.out]; rfl, hfin, by rw [hBX.out]; exact hb0.out.trans (bel8.out.mono (by omega))⟩

end Go.Proofs.Ytbnneahjjcamlaa
