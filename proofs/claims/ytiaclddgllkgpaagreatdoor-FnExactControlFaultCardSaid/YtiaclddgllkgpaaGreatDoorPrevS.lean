/-
  PreventedAfter, by the reference. Conditions: sizes.
-/
import Derived.Test.YtiaclddgllkgpaaGreatDoorPrev
import Derived.Test.YtiaclddgllkgpaaGreatDoorMarkP
import Derived.Test.YtiaclddgllkgpaaGreatDoorKindLu
import Derived.Test.YtiaclddgllkgpaaGreatDoorMarkS
import Derived.Deep.DeepCutAuto
import Derived.Deep.RegionLaw
namespace Go.Proofs.YtiaclddgllkgpaaGreatDoor
open Go.ChangeShapes Go.WideShapes Go.ChangeAt Go.RowKit Go.Sort
set_option linter.unusedVariables false
set_option linter.unusedSimpArgs false

theorem resS_nil' (w : World) (lo hi : Nat) : ResS w lo hi (.slice none 0 0) [] := ⟨⟨none, 0, 0, rfl, Nat.zero_le _, (fun s hs => by cases hs), Sl.nil_⟩, Nat.zero_le _⟩
theorem find_none {s : ByteArray} {A : Option Addr} {n c : Nat} {l : List ByteArray} {w : World} {lo hi : Nat} (h : SlS w lo hi A n l) (hn : n ≤ 1048576) (ha : anyL l s = false) :
    Calls Tryz.prog 84 #[.slice A n c, .string s] w fun e w' => e = .returned (.int .i64 (-1)) ∧ w = w' := by
  refine (l11Find_calls s A n c l w lo hi h hn).mono ?_
  rintro e w' ⟨i, rfl, hf, rfl⟩
  rcases hf with ⟨rfl, -⟩ | ⟨k, -, -, h2⟩
  · exact ⟨rfl, rfl⟩
  · rw [ha] at h2; cases h2
theorem find_at {s : ByteArray} {A : Option Addr} {n c k : Nat} {l : List ByteArray} {w : World} {lo hi : Nat} (h : SlS w lo hi A n l) (hn : n ≤ 1048576) (hl : namesB l = true) (hk : l[k]? = some s) :
    Calls Tryz.prog 84 #[.slice A n c, .string s] w fun e w' => e = .returned (.int .i64 (k : Int)) ∧ w = w' := by
  refine (l11Find_calls s A n c l w lo hi h hn).mono ?_
  rintro e w' ⟨i, rfl, hf, rfl⟩
  rcases hf with ⟨-, h2⟩ | ⟨k', rfl, h1, -⟩
  · unfold anyL at h2
    rw [List.any_eq_false] at h2
    exact absurd (by simp) (h2 s (List.mem_of_getElem? hk))
  · rw [labs_uniq hl h1 hk]
    exact ⟨rfl, rfl⟩
theorem any_get {l : List ByteArray} {s : ByteArray} (h : anyL l s = true) : ∃ k : Nat, l[k]? = some s := by
  unfold anyL at h
  obtain ⟨x, hx, e⟩ := List.any_eq_true.1 h
  obtain ⟨k, hk⟩ := List.getElem?_of_mem hx
  have : x = s := by simpa using e
  subst this
  exact ⟨k, hk⟩
theorem go_nat {st ini : Int} {ls : List ByteArray} {es : List Ed} (h : ltsV (st, ini, ls, es) = true) {lab : ByteArray} {s v : Int} (hx : (folE es ls lab s)[0]? = some v) : 0 ≤ v ∧ v < st := by
  have hm := List.mem_of_getElem? hx
  unfold folE at hm
  obtain ⟨⟨f, lb, tg⟩, he, rfl⟩ := List.mem_map.1 hm
  obtain ⟨j, hj⟩ := List.getElem?_of_mem (List.mem_filter.1 he).1
  have := (edge_of h hj).2.1
  dsimp only
  omega
theorem alo_range {st ini : Int} {ls : List ByteArray} {es : List Ed} (h : ltsV (st, ini, ls, es) = true) {lab : ByteArray} {k : Int} (h0 : 0 ≤ k) (h1 : k < st) (hok : aloOk (st, ini, ls, es) k lab = true) : 0 ≤ aloTo (st, ini, ls, es) k lab ∧ aloTo (st, ini, ls, es) k lab < st := by
  unfold aloOk at hok
  unfold aloTo
  have hr := goE_rangeA h lab k
  by_cases ha : anyL ls lab = true
  · rw [if_pos ha] at hok ⊢
    have : 0 ≤ goE es ls lab k := by simpa using hok
    dsimp only at *
    omega
  · rw [if_neg ha]
    exact ⟨h0, h1⟩

/-- A grown list of texts, begun before some other blocks were made. -/
structure OwnA (w1 : World) (BB : Nat) (w : World) (A : Option Addr) (m c : Nat) (l : List ByteArray) : Prop where
  own : Own 1 strv w BB 9 A m c l
  at_ : ∀ g, (Value.slice A m c).ownBlock = some g → g = BB ∨ w1.heap.size ≤ g
  only : Only BB (BB + 1) w1 w
theorem OwnA.below {w1 w w' : World} {BB m c : Nat} {A : Option Addr} {l : List ByteArray} (h : OwnA w1 BB w A m c l) (hb : Below w.heap.size w w') : OwnA w1 BB w' A m c l :=
  ⟨h.own.below hb (Nat.le_refl _), h.at_, ⟨hb.os.trans h.only.os, hb.tape.trans h.only.tape, hb.output.trans h.only.output, Nat.le_trans h.only.size hb.size, fun b hb' ho => (hb.block b (Nat.lt_of_lt_of_le hb' h.only.size)).trans (h.only.block b hb' ho)⟩⟩
theorem OwnA.app {w1 w w' : World} {BB m c m' c' : Nat} {A A' : Option Addr} {l l' : List ByteArray} (h : OwnA w1 BB w A m c l) (ho : Own 1 strv w' BB 9 A' m' c' l') (hg : w.grownBy w' (Value.slice A m c).ownBlock)
    (ha : (Value.slice A' m' c').ownBlock = (Value.slice A m c).ownBlock ∨ (Value.slice A' m' c').ownBlock = some w.heap.size) : OwnA w1 BB w' A' m' c' l' := by
  refine ⟨ho, fun g hg' => ?_, ⟨hg.os.trans h.only.os, hg.tape.trans h.only.tape, hg.output.trans h.only.output, Nat.le_trans h.only.size hg.size, fun b hb' hb2 => (hg.block b (Nat.lt_of_lt_of_le hb' h.only.size) fun e => ?_).trans (h.only.block b hb' hb2)⟩⟩
  · rcases ha with ha | ha
    · exact h.at_ g (by rw [← ha]; exact hg')
    · rw [ha] at hg'
      injection hg' with e
      have := h.only.size
      omega
  · have := h.at_ b e.symm
    omega

set_option maxRecDepth 100000 in
set_option maxHeartbeats 3200000 in
theorem specPreventedAfter_u {v u t : Value} {d : DP} {s : DL} {tr : List ByteArray} {w : World} {lo hi lo' hi' lo2 hi2 : Nat} (he : Env w) (h : FreshP w lo hi v d) (hh : hi ≤ w.heap.size) (g : FreshL w lo' hi' u s) (gh : hi' ≤ w.heap.size) (r : FreshSS w lo2 hi2 t tr) (rh : hi2 ≤ w.heap.size) :
    Calls Tryz.prog 45 #[v, u, t] w fun e w' => ∃ u0, e = .returned (.tuple #[u0, .int .i64 (prvF d s tr).2]) ∧ ResS w' w.heap.size w'.heap.size u0 (prvF d s tr).1 ∧ Below w.heap.size w w' := by
  obtain ⟨⟨p0, p1, v2, v3⟩, A4, n4, k4, A5, n5, k5, rfl, hp⟩ := h.open_
  obtain ⟨⟨⟨r0, r1, u2, u3⟩, rfl, gL⟩, gt⟩ := g
  obtain ⟨A, n, c, rfl, hT⟩ := FreshS.open_ r.1 r.2
  obtain ⟨⟨st, ini, ls, es⟩, vs, ns⟩ := d
  obtain ⟨st', ini', ms, fs⟩ := s
  obtain ⟨hL, t4, t5, h4, h5, hs, ht⟩ := hp
  have e0 := hL.1
  have e1 := hL.2.1
  have f0 := gL.1
  have f1 := gL.2.1
  dsimp only at *
  subst e0 e1 f0 f1
  have hb0 : Below w.heap.size w ((w.alloc (.cells #[.int .i64 p0, .int .i64 p1, v2, v3, .slice A4 n4 k4, .slice A5 n5 k5] 44)).alloc (.cells #[.int .i64 r0, .int .i64 r1, u2, u3] 33)) := ((Below.refl _ _).alloc (Nat.le_refl _) _).alloc (by rw [World.size_alloc]; omega) _
  have k0 : ((w.alloc (.cells #[.int .i64 p0, .int .i64 p1, v2, v3, .slice A4 n4 k4, .slice A5 n5 k5] 44)).alloc (.cells #[.int .i64 r0, .int .i64 r1, u2, u3] 33)).heap[w.heap.size]? = some (.cells #[.int .i64 p0, .int .i64 p1, v2, v3, .slice A4 n4 k4, .slice A5 n5 k5] 44 (0, 0)) := (Below.heap_alloc _ _ _ (by rw [World.size_alloc]; omega)).trans (heap_alloc_new w _)
  have k1 : ((w.alloc (.cells #[.int .i64 p0, .int .i64 p1, v2, v3, .slice A4 n4 k4, .slice A5 n5 k5] 44)).alloc (.cells #[.int .i64 r0, .int .i64 r1, u2, u3] 33)).heap[w.heap.size + 1]? = some (.cells #[.int .i64 r0, .int .i64 r1, u2, u3] 33 (0, 0)) := by have h := heap_alloc_new (w.alloc (.cells #[.int .i64 p0, .int .i64 p1, v2, v3, .slice A4 n4 k4, .slice A5 n5 k5] 44)) (.cells #[.int .i64 r0, .int .i64 r1, u2, u3] 33); rw [World.size_alloc] at h; exact h
  have hz : w.heap.size + 1 < ((w.alloc (.cells #[.int .i64 p0, .int .i64 p1, v2, v3, .slice A4 n4 k4, .slice A5 n5 k5] 44)).alloc (.cells #[.int .i64 r0, .int .i64 r1, u2, u3] 33)).heap.size := by rw [World.size_alloc, World.size_alloc]; omega
  have hLW := (hL.below hb0 (.inr (Nat.le_refl _))).more (Nat.zero_le _) (Nat.le_trans hh hb0.size)
  have gLW := (gL.below hb0 (.inr (Nat.le_refl _))).more (Nat.zero_le _) (Nat.le_trans gh hb0.size)
  have t4W := (t4.below hb0 (.inr (Nat.le_refl _))).more (Nat.zero_le _) (Nat.le_trans hh hb0.size)
  have t5W := (t5.below hb0 (.inr (Nat.le_refl _))).more (Nat.zero_le _) (Nat.le_trans hh hb0.size)
  replace hT := hT.below hb0 (.inr (Nat.le_refl _))
  have hz' := hb0.size
  replace hb0 := hide hb0
  clear hL gL t4 t5 h r
  go_enter Tryz.func45, Tryz.ntmps45
  go_upto_region 1 with fail
  generalize ((w.alloc (.cells #[.int .i64 p0, .int .i64 p1, v2, v3, .slice A4 n4 k4, .slice A5 n5 k5] 44)).alloc (.cells #[.int .i64 r0, .int .i64 r1, u2, u3] 33)) = W0 at *
  generalize hbm : w.heap.size = bm at *
  have hbmz : bm < W0.heap.size := by omega
  have hatP : LtsAt W0 bm (p0, p1, v2, v3) (p0, p1, ls, es) :=
    ⟨hLW, by omega, hbmz, (cell_of_row _ _ 0 _ _ (0, 0) k0).trans rfl, (cell_of_row _ _ 1 _ _ (0, 0) k0).trans rfl, (cell_of_row _ _ 2 _ _ (0, 0) k0).trans rfl, (cell_of_row _ _ 3 _ _ (0, 0) k0).trans rfl⟩
  have hatS : LtsAt W0 (bm + 1) (r0, r1, u2, u3) (r0, r1, ms, fs) :=
    ⟨gLW, gt, hz, (cell_of_row _ _ 0 _ _ (0, 0) k1).trans rfl, (cell_of_row _ _ 1 _ _ (0, 0) k1).trans rfl, (cell_of_row _ _ 2 _ _ (0, 0) k1).trans rfl, (cell_of_row _ _ 3 _ _ (0, 0) k1).trans rfl⟩
  have c1 : W0.cell? ⟨bm, 1, none⟩ = some (.int .i64 p1) := (cell_of_row _ _ 1 _ _ (0, 0) k0).trans rfl
  have c2 : W0.cell? ⟨bm, 2, none⟩ = some v2 := (cell_of_row _ _ 2 _ _ (0, 0) k0).trans rfl
  have d1 : W0.cell? ⟨bm + 1, 1, none⟩ = some (.int .i64 r1) := (cell_of_row _ _ 1 _ _ (0, 0) k1).trans rfl
  have qa := l29Is_calls bm (p0, p1, v2, v3) A4 A5 n4 k4 n5 k5 (p0, p1, ls, es) vs ns _ hatP ((cell_of_row _ _ 4 _ _ (0, 0) k0).trans rfl) ((cell_of_row _ _ 5 _ _ (0, 0) k0).trans rfl) h4 h5 hs t4W t5W
  have qb := fun W (hW : Below W0.heap.size W0 W) => l29Free_calls (bm + 1) (r0, r1, u2, u3) (r0, r1, ms, fs) W (hatS.below hW (Nat.le_refl _))
  have hfalse : ∀ (hv : (plantV ((p0, p1, ls, es), vs, ns) && detV (r0, r1, ms, fs)) = false), Hid (prvF ((p0, p1, ls, es), vs, ns) (r0, r1, ms, fs) tr = ([], 1)) := fun hv => by show _ = _; unfold prvF; rw [if_neg (by rw [hv]; decide)]
  clear k0 k1 hLW gLW t4W t5W
  cases hv1 : plantV ((p0, p1, ls, es), vs, ns) with
  | false =>
    have hval := hfalse (by rw [hv1]; rfl)
    rw [hv1] at qa
    replace qa := hide qa
    clear hatP hatS qb hfalse hT
    go_wp2_with fail
    refine qa.out.mono ?_
    rintro e w1 ⟨rfl, hb⟩
    replace hb := hide hb
    go_wp2_with fail
    go_ret2
    exact ⟨_, by rw [hval.out]; rfl, by rw [hval.out]; exact resS_nil' _ _ _, by first | exact hb0.out.trans (hb.out.mono hz') | (rw [hbm]; exact hb0.out.trans (hb.out.mono hz'))⟩
  | true =>
  cases hv2 : detV (r0, r1, ms, fs) with
  | false =>
    have hval := hfalse (by rw [hv1, hv2]; rfl)
    rw [hv1] at qa
    simp only [hv2] at qb
    replace qa := hide qa
    replace qb := hide qb
    clear hatP hatS hfalse hT
    go_wp2_with fail
    refine qa.out.mono ?_
    rintro e w1 ⟨rfl, hb⟩
    have q2 := hide (qb.out _ hb)
    replace hb := hide hb
    go_wp2_with fail
    refine q2.out.mono ?_
    rintro e w2 ⟨rfl, hb2⟩
    have hbw := hide (hb.out.trans (hb2.mono hb.out.size))
    clear hb2
    go_wp2_with fail
    go_ret2
    exact ⟨_, by rw [hval.out]; rfl, by rw [hval.out]; exact resS_nil' _ _ _, by first | exact hb0.out.trans (hbw.out.mono hz') | (rw [hbm]; exact hb0.out.trans (hbw.out.mono hz'))⟩
  | true =>
  have hdp : detV (p0, p1, ls, es) = true := by
    unfold plantV at hv1
    rw [Bool.and_eq_true] at hv1
    exact hv1.1
  have hlp := det_ltsA hdp
  have hls := det_ltsA hv2
  have hval : prvF ((p0, p1, ls, es), vs, ns) (r0, r1, ms, fs) tr = (match prvG (p0, p1, ls, es) (r0, r1, ms, fs) (tr.drop 0) p1 r1 with | some (x, y) => (prvL (p0, p1, ls, es) (r0, r1, ms, fs) x y, 0) | none => ([], 3)) := by
    unfold prvF
    rw [if_pos (by rw [hv1, hv2]; rfl)]
    rfl
  rw [hv1] at qa
  simp only [hv2] at qb
  replace qa := hide qa
  replace qb := hide qb
  have hbp := lts_boundsA hlp
  have hbs := lts_boundsA hls
  have hx0 := hbp.2.1
  have hx1 : p1 < p0 := by omega
  have hy0 := hbs.2.1
  have hy1 : r1 < r0 := by omega
  have hnl := hT.len
  obtain ⟨A2, n2, k2, e2, hn2, hs2, t2⟩ := hatP.1.2.2.1
  have hn2l : n2 ≤ 1048576 := by rw [← t2.len]; exact Nat.le_trans (totL_lab (p0, p1, ls, es)) ht
  dsimp only at e2
  subst e2
  have hE := hide elem_str
  have hT' := hide hT
  have hatP' := hide hatP
  have hatS' := hide hatS
  have t2' := hide t2
  have hs2' := hide hs2
  replace hlp := hide hlp
  replace hls := hide hls
  replace hdp := hide hdp
  replace hv2' := hide hv2
  replace hval := hide hval
  clear hatP hatS hfalse hT hbp hbs hv1 hn2 hs2 t2 hv2
  go_wp2_with fail
  refine qa.out.mono ?_
  rintro e w1 ⟨rfl, hb⟩
  have q2 := hide (qb.out _ hb)
  have a1 := (hb.cell (p := ⟨bm, 1, none⟩) hbmz).trans c1
  have b1 := (hb.cell (p := ⟨bm + 1, 1, none⟩) hz).trans d1
  have hbs1 := hb.size
  replace hb := hide hb
  go_wp2_with fail
  refine q2.out.mono ?_
  rintro e w2 ⟨rfl, hb2⟩
  have a2 := (hb2.cell (p := ⟨bm, 1, none⟩) (Nat.lt_of_lt_of_le hbmz hbs1)).trans a1
  have b2 := (hb2.cell (p := ⟨bm + 1, 1, none⟩) (Nat.lt_of_lt_of_le hz hbs1)).trans b1
  have hbw := hide (hb.out.trans (hb2.mono hbs1))
  clear hb2 hb qa qb q2 a1 b1 c1 d1
  go_upto_region 6 with fail
  clear a2 b2
  go_loopg [8, 9, 10] n (fun G a b i wr => ∃ (k : Nat) (x y : Int), k ≤ n ∧ 0 ≤ x ∧ x < p0 ∧ 0 ≤ y ∧ y < r0 ∧ a = .int .i64 x ∧ b = .int .i64 y ∧ i = .int .i64 (k : Nat) ∧ Hid (prvG (p0, p1, ls, es) (r0, r1, ms, fs) (tr.drop k) x y = prvG (p0, p1, ls, es) (r0, r1, ms, fs) (tr.drop 0) p1 r1) ∧ Below W0.heap.size W0 wr ∧ Hid (n - k ≤ G))
  case atStart => exact ⟨0, p1, r1, Nat.zero_le _, hx0, hx1, hy0, hy1, rfl, rfl, rfl, rfl, hbw.out, by show _ ≤ _; omega⟩
  case round =>
    clear hbw
    obtain ⟨k, x, y, hk, hx0, hx1, hy0, hy1, rfl, rfl, rfl, hg, hb, hG⟩ := hrel
    have y2 := (hb.cell (p := ⟨bm, 2, none⟩) hbmz).trans c2
    by_cases hlt : k < n
    · obtain ⟨G2, rfl⟩ : ∃ G2, gk = G2 + 1 := ⟨gk - 1, by have := hG.out; omega⟩
      have hG2 : Hid (n - (k + 1) ≤ G2) := by have := hG.out; show _ ≤ _; omega
      obtain ⟨bt, ot, lab, rfl, -, -, gt', hlab, q0, -⟩ := SlS.get hT'.out.sl hlt
      replace q0 := (hb.cell (p := ⟨bt, ot + k, none⟩) gt').trans q0
      have hI0 : (0 : Int) ≤ (k : Int) := by omega
      have hI1 : (k : Int) < (n : Int) := by omega
      have hst := @prvG_step (p0, p1, ls, es) (r0, r1, ms, fs) tr k lab x y hlab
      have hbad := @prvG_bad (p0, p1, ls, es) (r0, r1, ms, fs) tr k lab x y hlab
      dsimp only at hst hbad
      cases ha : anyL ls lab with
      | false =>
        have qf := fun (N : Nat) => find_none (c := k2) ((t2'.out.below hb (.inr (Nat.le_refl _))).drewN N) hn2l ha
        have hv : Hid (prvF ((p0, p1, ls, es), vs, ns) (r0, r1, ms, fs) tr = ([], 3)) := by
          show _ = _
          rw [hval.out, ← hg.out, hbad (by rw [go_none ha]; omega)]
        replace qf := hide qf
        clear hst hbad hlab ha hg
        go_wp2
        go_quiet ((go_at_call 84; with_reducible exact same_quiet (qf.out _)))
        go_wp2
        have hbq := hide (hb.trans ((below_drewN wr nq).mono hb.size))
        go_ret2
        exact ⟨_, by rw [hv.out]; rfl, by rw [hv.out]; exact resS_nil' _ _ _, by first | exact hb0.out.trans (hbq.out.mono hz') | (rw [hbm]; exact hb0.out.trans (hbq.out.mono hz'))⟩
      | true =>
        obtain ⟨k0, hk0⟩ := any_get ha
        have qf := fun (N : Nat) => find_at (c := k2) ((t2'.out.below hb (.inr (Nat.le_refl _))).drewN N) hn2l (names_of hlp.out) hk0
        have qn := fun W (hW : Below W0.heap.size W0 W) => l11Next_calls bm _ (p0, p1, ls, es) x k0 lab W (hatP'.out.below hW (Nat.le_refl _)) hdp.out hk0
        have qg := fun W (hW : Below W0.heap.size W0 W) => l29Go_calls (bm + 1) _ (r0, r1, ms, fs) y lab W (hatS'.out.below hW (Nat.le_refl _)) hv2'.out
        have hgn := fun v => @go_nat p0 p1 ls es hlp.out lab x v
        have hal := @alo_range r0 r1 ms fs hls.out lab y hy0 hy1
        replace qf := hide qf
        replace qn := hide qn
        replace qg := hide qg
        replace hgn := hide hgn
        replace hal := hide hal
        replace hst := hide hst
        replace hbad := hide hbad
        have hk0n : ¬ (k0 : Int) < 0 := by omega
        clear hlab ha hk0
        go_wp2
        go_quiet ((go_at_call 84; with_reducible exact same_quiet (qf.out _)))
        have hbq := hb.trans ((below_drewN wr nq).mono hb.size)
        have q0' : (wr.drewN nq).cell? ⟨bt, ot + k, none⟩ = some (.string lab) := q0
        clear q0 y2 qf
        generalize wr.drewN nq = wq at *
        have q3 := hide (qn.out _ hbq)
        have hbqs := hbq.size
        have gtq : bt < wq.heap.size := Nat.lt_of_lt_of_le gt' hbqs
        replace hbq := hide hbq
        go_wp2_with fail
        refine q3.out.mono ?_
        rintro e w3 ⟨An, nn, cn, rfl, hsl, hn1, hb3⟩
        have q0'' := (hb3.cell (p := ⟨bt, ot + k, none⟩) gtq).trans q0'
        have hb3W := hbq.out.trans (hb3.mono hbqs)
        have q4 := hide (qg.out _ hb3W)
        have hb3s := hb3W.size
        replace hb3W := hide hb3W
        replace hsl := hide hsl
        clear hb3 q0' q3 qn
        go_wp2_with fail
        refine q4.out.mono ?_
        rintro e w4 ⟨va, rfl, hva, hb4⟩
        have hb4W := hide (hb3W.out.trans (hb4.mono hb3s))
        have hslB := hsl.out.below hb4 (.inr (Nat.le_refl _))
        have hlen := hslB.len
        replace hva := hide hva
        clear hb4 q0'' q4 qg hsl
        by_cases hn0 : nn = 0
        · subst hn0
          have hv : Hid (prvF ((p0, p1, ls, es), vs, ns) (r0, r1, ms, fs) tr = ([], 3)) := by
            show _ = _
            rw [hval.out, ← hg.out, hbad.out (by rw [goE_none (List.eq_nil_of_length_eq_zero hlen)]; omega)]
          clear hst hbad hg hva hslB hlen hal hgn
          go_wp2_with fail
          go_ret2
          exact ⟨_, by rw [hv.out]; rfl, by rw [hv.out]; exact resS_nil' _ _ _, by first | exact hb0.out.trans (hb4W.out.mono hz') | (rw [hbm]; exact hb0.out.trans (hb4W.out.mono hz'))⟩
        · have hn1' : nn = 1 := by omega
          subst hn1'
          obtain ⟨b5, o5, vx, rfl, -, -, -, hx5, p5, -⟩ := SlI.get hslB (show 0 < 1 by omega)
          simp only [Nat.add_zero] at p5
          have hgx := go_some hx5
          obtain ⟨hx0', hx1'⟩ := hgn.out vx hx5
          cases hok : aloOk (r0, r1, ms, fs) y lab with
          | false =>
            have hv : Hid (prvF ((p0, p1, ls, es), vs, ns) (r0, r1, ms, fs) tr = ([], 3)) := by
              show _ = _
              rw [hval.out, ← hg.out, hbad.out (by rw [hok]; exact fun h => by cases h.2)]
            clear hst hbad hg hva hslB hlen hal hgn hx5 hgx hok
            go_wp2_with fail
            go_ret2
            exact ⟨_, by rw [hv.out]; rfl, by rw [hv.out]; exact resS_nil' _ _ _, by first | exact hb0.out.trans (hb4W.out.mono hz') | (rw [hbm]; exact hb0.out.trans (hb4W.out.mono hz'))⟩
          | true =>
            have ev := hva.out hok
            obtain ⟨hy0', hy1'⟩ := hal.out hok
            have hnext : Hid (prvG (p0, p1, ls, es) (r0, r1, ms, fs) (tr.drop (k + 1)) vx va = prvG (p0, p1, ls, es) (r0, r1, ms, fs) (tr.drop 0) p1 r1) := by
              show _ = _
              rw [← hg.out, hst.out (by rw [hgx]; exact hx0') hok, hgx, ev]
            rw [← ev] at hy0' hy1'
            clear hst hbad hg hva hslB hlen hal hgn hx5 hgx hok ev
            go_wp2_with fail
            go_roundg G2
            case measure => omega
            case rel => exact ⟨k + 1, vx, va, by omega, hx0', hx1', hy0', hy1', rfl, rfl, by go_num, hnext, hb4W.out, hG2⟩
    · have hkn : k = n := by omega
      subst hkn
      have hend := @prvG_end (p0, p1, ls, es) (r0, r1, ms, fs) tr k x y (by rw [hT'.out.sl.len]; exact Nat.le_refl _)
      have hv : Hid (prvF ((p0, p1, ls, es), vs, ns) (r0, r1, ms, fs) tr = (prvL (p0, p1, ls, es) (r0, r1, ms, fs) x y, 0)) := by
        show _ = _
        rw [hval.out, ← hg.out, hend]
      have hfew := out_few hdp.out x
      have hmemE : ∀ e ∈ outE es x, e ∈ es := fun e he => (List.mem_filter.1 he).1
      have hlab : ∀ e ∈ outE es x, ls[e.2.1.toNat]? = some (labE ls e) := fun e he => labE_at hdp.out (hmemE e he)
      have hlr : ∀ e ∈ outE es x, 0 ≤ e.2.1 ∧ e.2.1 < (n2 : Int) := fun e he => by
        have := det_first hdp.out e (hmemE e he)
        have := t2'.out.len
        omega
      have hO0 := Own.made (f := strv) (size := 1) wr 9 (Nat.le_refl wr.heap.size)
      have hA : Below W0.heap.size W0 (wr.alloc (.cells #[] 9)) := hb.alloc hb.size _
      have qo := hide (l11Out_calls bm _ (p0, p1, ls, es) x _ (hatP'.out.below hA (Nat.le_refl _)))
      have qg := fun (lab : ByteArray) W (hW : Below W0.heap.size W0 W) => l29Go_calls (bm + 1) _ (r0, r1, ms, fs) y lab W (hatS'.out.below hW (Nat.le_refl _)) hv2'.out
      replace qg := hide qg
      have hBW : Hid (W0.heap.size ≤ wr.heap.size) := hb.size
      have hOB : Hid (wr.heap.size + 1 ≤ (wr.alloc (.cells #[] 9)).heap.size) := by show _ ≤ _; rw [World.size_alloc]; exact Nat.le_refl _
      replace hlab := hide hlab
      replace hlr := hide hlr
      replace hfew := hide hfew
      replace hA := hide hA
      replace hO0 := hide hO0
      clear hmemE hend hg y2 hb
      go_upto_region 18 with fail
      generalize wr.heap.size = BB at *
      generalize (wr.alloc (.cells #[] 9)) = wA at *
      go_wp2_with fail
      refine qo.out.mono ?_
      rintro e w1 ⟨Ao, no, co, rfl, ho, hno, hb1⟩
      have hstart : Hid (OwnA w1 BB w1 (some ⟨BB, 0, none⟩) 0 0 []) := ⟨hO0.out.below hb1 (Nat.le_refl _), fun g hg' => by injection hg' with e; exact .inl e.symm, Only.refl _ _ _⟩
      have hbw1 := hide (hA.out.trans (hb1.mono hA.out.size))
      have hlen := ho.len
      rw [hlen] at hfew
      replace hlen := hide hlen
      replace ho := hide ho
      have hOW : Hid (wA.heap.size ≤ w1.heap.size) := hb1.size
      clear hb1 hO0 qo hA
      go_upto_region 20 with fail
      go_loopg [15, 17] no (fun G v i wr => ∃ (j m c : Nat) (A : Option Addr), j ≤ no ∧ m ≤ j ∧ v = .slice A m c ∧ i = .int .i64 (j : Nat) ∧ Hid (OwnA w1 BB wr A m c (prvE (p0, p1, ls, es) (r0, r1, ms, fs) y ((outE es x).take j))) ∧ Hid (no - j ≤ G))
      case atStart => exact ⟨0, 0, 0, _, Nat.zero_le _, Nat.le_refl _, rfl, rfl, hstart, by show _ ≤ _; omega⟩
      case round =>
        clear hstart
        obtain ⟨j, m, c', A', hj, hmj, rfl, rfl, hown, hG2⟩ := hrel
        have hbx := Only.below hbw1.out hown.out.only hBW.out hbw1.out.size
        by_cases hlt : j < no
        · obtain ⟨G3, rfl⟩ : ∃ G3, gk = G3 + 1 := ⟨gk - 1, by have := hG2.out; omega⟩
          have hG3 : Hid (no - (j + 1) ≤ G3) := by have := hG2.out; show _ ≤ _; omega
          obtain ⟨b5, o5, f, lb, tg, rfl, -, -, g5, hx, a0, a1, a2, -, -, -⟩ := SlE.get (Sl.only ho.out hown.out.only (.inr hOB.out)) hlt
          have hl1 := hlab.out _ (List.mem_of_getElem? hx)
          have hl2 := hlr.out _ (List.mem_of_getElem? hx)
          dsimp only at hl1 hl2
          have hsu := prvE_succ (p := (p0, p1, ls, es)) (s := (r0, r1, ms, fs)) (y := y) hx
          dsimp only at hsu
          generalize labE ls (f, lb, tg) = lab at *
          have hln : lb.toNat < n2 := by omega
          have hl0 : (0 : Int) ≤ lb := hl2.1
          have hl9 : lb < (n2 : Int) := hl2.2
          obtain ⟨b6, o6, r6, rfl, -, -, -, hr6, p6, -⟩ := SlS.get (t2'.out.below hbx (.inr (Nat.le_refl _))) hln
          rw [hl1] at hr6
          obtain rfl := Option.some.inj hr6
          have x2 := (hbx.cell (p := ⟨bm, 2, none⟩) hbmz).trans c2
          have hI0 : (0 : Int) ≤ (j : Int) := by omega
          have hI1 : (j : Int) < (no : Int) := by omega
          have hqW : Hid (∀ N : Nat, Below W0.heap.size W0 (wr.drewN N)) := fun N => ⟨hbx.os, hbx.tape, hbx.output, hbx.size, hbx.block⟩
          have hownq : Hid (∀ N : Nat, OwnA w1 BB (wr.drewN N) A' m c' (prvE (p0, p1, ls, es) (r0, r1, ms, fs) y ((outE es x).take j))) := fun N => hown.out.below (below_drewN wr N)
          clear hx hl1 hl2 hr6 hbx hown
          go_wp2
          go_quiet (fail)
          replace hqW := hqW.out nq
          replace hown := hide (hownq.out nq)
          clear hownq a0 a1 a2 p6 x2
          generalize wr.drewN nq = wq at *
          have qd := hide (qg.out lab _ hqW)
          have hqs := hqW.size
          replace hqW := hide hqW
          go_wp2_with fail
          refine qd.out.mono ?_
          rintro e w4 ⟨va, rfl, -, hb4⟩
          have hown4 := hide (hown.out.below hb4)
          clear hown qd hb4
          cases hok : aloOk (r0, r1, ms, fs) y lab with
          | true =>
            rw [hok, if_pos rfl, List.append_nil] at hsu
            replace hsu := hide hsu
            clear hok
            have hown5 : Hid (OwnA w1 BB w4 A' m c' (prvE (p0, p1, ls, es) (r0, r1, ms, fs) y ((outE es x).take (j + 1)))) := by show OwnA _ _ _ _ _ _ _; rw [hsu.out]; exact hown4.out
            clear hown4
            go_wp2_with fail
            go_roundg G3
            case measure => omega
            case rel => exact ⟨j + 1, m, c', A', by omega, by omega, rfl, by go_num, hown5, hG3⟩
          | false =>
            rw [hok, if_neg (by decide)] at hsu
            replace hsu := hide hsu
            clear hok
            have hownA := hown4.out.below ((Below.refl _ _).alloc (Nat.le_refl _) (.cells #[.string lab] 9))
            have hza : BB ≤ (w4.alloc (.cells #[.string lab] 9)).heap.size := by have h1 := hown4.out.only.size; have h2 := hOB.out; have h3 := hOW.out; rw [World.size_alloc]; omega
            replace hownA := hide hownA
            clear hown4
            go_wp2_with (first | (at_builtin; (with_reducible refine wpList_app rfl (.tmp 100) (.tmp 102) rfl hE.out flat_strv rfl hownA.out.own rfl (Sl.lit1' w4 9 lab _ rfl 1 _ ?c0) ?c1 hza ?_); rotate_right; intro A7 c7 w7 hown7 hgr7 hb7 hat7))
            case c0 => rfl
            case c1 => omega
            have hown8 := hownA.out.app hown7 hgr7 hat7
            replace hown8 : Hid (OwnA w1 BB w7 A7 (m + 1) c7 (prvE (p0, p1, ls, es) (r0, r1, ms, fs) y ((outE es x).take (j + 1)))) := by show OwnA _ _ _ _ _ _ _; rw [hsu.out]; exact hown8
            clear hown7 hgr7 hb7 hat7 hownA
            go_roundg G3
            case measure => omega
            case rel => exact ⟨j + 1, m + 1, c7, A7, by omega, by omega, rfl, by go_num, hown8, hG3⟩
        · have hjn : j = no := by omega
          subst hjn
          have hall : (outE es x).take j = outE es x := List.take_of_length_le (by rw [hlen.out]; exact Nat.le_refl _)
          rw [hall] at hown
          have hsl := hown.out.own.sl flat_strv
          have hmem := prv_mem hdp.out (r0, r1, ms, fs) x y
          have hleq := prv_few hdp.out (r0, r1, ms, fs) x y
          have hR : Hid (ResS wr bm wr.heap.size (.slice A' m c') (prvL (p0, p1, ls, es) (r0, r1, ms, fs) x y)) :=
            ⟨⟨A', m, c', rfl, by have := hsl.len; have : (prvL (p0, p1, ls, es) (r0, r1, ms, fs) x y).length = m := this; unfold maxLen; omega, fun s hs => hs2'.out s (hmem s hs), hsl.more (by have := hBW.out; omega) (Nat.le_refl _)⟩, by omega⟩
          replace hbx := hide hbx
          clear hown hsl hmem hleq hall
          go_wp2_with fail
          go_ret2
          exact ⟨_, by rw [hv.out]; rfl, by rw [hv.out]; first | exact hR.out | (rw [hbm]; exact hR.out), by first | exact hb0.out.trans (hbx.out.mono hz') | (rw [hbm]; exact hb0.out.trans (hbx.out.mono hz'))⟩

end Go.Proofs.YtiaclddgllkgpaaGreatDoor
