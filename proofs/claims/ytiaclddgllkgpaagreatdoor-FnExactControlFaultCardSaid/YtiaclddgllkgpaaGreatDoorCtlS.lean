/-
  IsControllable, by the reference. Conditions: sizes.
-/
import Derived.Test.YtiaclddgllkgpaaGreatDoorReachS
namespace Go.Proofs.YtiaclddgllkgpaaGreatDoor
open Go.ChangeShapes Go.WideShapes Go.ChangeAt Go.RowKit Go.Sort
set_option linter.unusedVariables false
set_option linter.unusedSimpArgs false

/-- What was found, as the functions that look at it want it. -/
theorem ReachS.ref {w w0 : World} {base bx bp bd n c m dd : Nat} {A B : Option Addr} {G : List (Nat × PR)} {E : List Ed} {fl : Bool} (h : ReachS w base bx bp bd A n c G B m dd E fl) {xp xs : CL} {dp ds : DL} {A5 : Option Addr} {n5 k5 : Nat} {ns : List ByteArray}
    (hb : Below w0.heap.size w0 w) (hp : LtsAt w0 bp xp dp) (hs : LtsAt w0 bd xs ds) (c5 : w0.cell? ⟨bp, 5, none⟩ = some (.slice A5 n5 k5)) (t5 : SlS w0 0 w0.heap.size A5 n5 ns) :
    RefW w bx bp bd xp xs dp ds A5 n5 k5 ns A n c (G.map fun g => (hdG g, [g.2.1, g.2.2])) :=
  ⟨h.lt, h.facts.1, h.facts.2.1, h.facts.2.2.1, hp.below hb (Nat.le_refl _), hs.below hb (Nat.le_refl _), (hb.cell (p := ⟨bp, 5, none⟩) hp.2.2.1).trans c5, (t5.below hb (.inr (Nat.le_refl _))).more (Nat.le_refl _) hb.size, h.gp.nest⟩
theorem rows_get {G : List (Nat × PR)} {R : List PQ} (h : G.map (·.2) = R.map (·.1)) {k : Nat} {q : PQ} (hk : R[k]? = some q) : ∃ hd0 : Hd, (G.map fun g => (hdG g, [g.2.1, g.2.2]))[k]? = some (hd0, [q.1.1, q.1.2]) := by
  have h1 : (G.map (·.2))[k]? = some q.1 := by rw [h, List.getElem?_map, hk]; rfl
  rw [List.getElem?_map] at h1
  obtain ⟨g, hg, e⟩ := Option.map_eq_some_iff.1 h1
  refine ⟨hdG g, ?_⟩
  rw [List.getElem?_map, hg, ← e]
  rfl

set_option maxRecDepth 100000 in
set_option maxHeartbeats 3200000 in
theorem specIsControllable_u {v u : Value} {d : DP} {s : DL} {w : World} {lo hi lo' hi' : Nat} (he : Env w) (h : FreshP w lo hi v d) (hh : hi ≤ w.heap.size) (g : FreshL w lo' hi' u s) (gh : hi' ≤ w.heap.size) :
    Calls Tryz.prog 50 #[v, u] w fun e w' => e = .returned (.bool (ctlV d s)) ∧ Below w.heap.size w w' := by
  obtain ⟨⟨p0, p1, v2, v3⟩, A4, n4, k4, A5, n5, k5, rfl, hp⟩ := h.open_
  obtain ⟨⟨⟨r0, r1, u2, u3⟩, rfl, gL⟩, gt⟩ := g
  obtain ⟨⟨st, ini, ls, es⟩, vs, ns⟩ := d
  obtain ⟨st', ini', ms, fs⟩ := s
  obtain ⟨hL, t4, t5, h4, h5, hs, ht⟩ := hp
  have e0 := hL.1
  have e1 := hL.2.1
  have f0 := gL.1
  have f1 := gL.2.1
  dsimp only at *
  subst e0 e1 f0 f1
  have hb0 : Below w.heap.size w ((w.alloc (.cells #[.int .i64 p0, .int .i64 p1, v2, v3, .slice A4 n4 k4, .slice A5 n5 k5] 44)).alloc (.cells #[.int .i64 r0, .int .i64 r1, u2, u3] 33)) := ((Below.refl _ _).alloc (Nat.le_refl _) _).alloc (by rw [World.size_alloc]; omega) _
  have k0 : ((w.alloc (.cells #[.int .i64 p0, .int .i64 p1, v2, v3, .slice A4 n4 k4, .slice A5 n5 k5] 44)).alloc (.cells #[.int .i64 r0, .int .i64 r1, u2, u3] 33)).heap[w.heap.size]? = some (.cells #[.int .i64 p0, .int .i64 p1, v2, v3, .slice A4 n4 k4, .slice A5 n5 k5] 44 (0, 0)) := (Below.heap_alloc _ _ _ (by rw [World.size_alloc]; omega)).trans (heap_alloc_new w _)
  have k1 : ((w.alloc (.cells #[.int .i64 p0, .int .i64 p1, v2, v3, .slice A4 n4 k4, .slice A5 n5 k5] 44)).alloc (.cells #[.int .i64 r0, .int .i64 r1, u2, u3] 33)).heap[w.heap.size + 1]? = some (.cells #[.int .i64 r0, .int .i64 r1, u2, u3] 33 (0, 0)) := by have h := heap_alloc_new (w.alloc (.cells #[.int .i64 p0, .int .i64 p1, v2, v3, .slice A4 n4 k4, .slice A5 n5 k5] 44)) (.cells #[.int .i64 r0, .int .i64 r1, u2, u3] 33); rw [World.size_alloc] at h; exact h
  have hz : w.heap.size + 1 < ((w.alloc (.cells #[.int .i64 p0, .int .i64 p1, v2, v3, .slice A4 n4 k4, .slice A5 n5 k5] 44)).alloc (.cells #[.int .i64 r0, .int .i64 r1, u2, u3] 33)).heap.size := by rw [World.size_alloc, World.size_alloc]; omega
  have hLW := (hL.below hb0 (.inr (Nat.le_refl _))).more (Nat.zero_le _) (Nat.le_trans hh hb0.size)
  have gLW := (gL.below hb0 (.inr (Nat.le_refl _))).more (Nat.zero_le _) (Nat.le_trans gh hb0.size)
  have t4W := (t4.below hb0 (.inr (Nat.le_refl _))).more (Nat.zero_le _) (Nat.le_trans hh hb0.size)
  have t5W := (t5.below hb0 (.inr (Nat.le_refl _))).more (Nat.zero_le _) (Nat.le_trans hh hb0.size)
  have hz' := hb0.size
  replace hb0 := hide hb0
  clear hL gL t4 t5 h
  go_enter Tryz.func50, Tryz.ntmps50
  go_upto_region 1 with fail
  generalize ((w.alloc (.cells #[.int .i64 p0, .int .i64 p1, v2, v3, .slice A4 n4 k4, .slice A5 n5 k5] 44)).alloc (.cells #[.int .i64 r0, .int .i64 r1, u2, u3] 33)) = W0 at *
  generalize hbm : w.heap.size = bm at *
  have hbmz : bm < W0.heap.size := by omega
  have hatP : LtsAt W0 bm (p0, p1, v2, v3) (p0, p1, ls, es) :=
    ⟨hLW, by omega, hbmz, (cell_of_row _ _ 0 _ _ (0, 0) k0).trans rfl, (cell_of_row _ _ 1 _ _ (0, 0) k0).trans rfl, (cell_of_row _ _ 2 _ _ (0, 0) k0).trans rfl, (cell_of_row _ _ 3 _ _ (0, 0) k0).trans rfl⟩
  have hatS : LtsAt W0 (bm + 1) (r0, r1, u2, u3) (r0, r1, ms, fs) :=
    ⟨gLW, gt, hz, (cell_of_row _ _ 0 _ _ (0, 0) k1).trans rfl, (cell_of_row _ _ 1 _ _ (0, 0) k1).trans rfl, (cell_of_row _ _ 2 _ _ (0, 0) k1).trans rfl, (cell_of_row _ _ 3 _ _ (0, 0) k1).trans rfl⟩
  have qa := l29Is_calls bm (p0, p1, v2, v3) A4 A5 n4 k4 n5 k5 (p0, p1, ls, es) vs ns _ hatP ((cell_of_row _ _ 4 _ _ (0, 0) k0).trans rfl) ((cell_of_row _ _ 5 _ _ (0, 0) k0).trans rfl) h4 h5 hs t4W t5W
  have qb := fun W (hW : Below W0.heap.size W0 W) => l29Free_calls (bm + 1) (r0, r1, u2, u3) (r0, r1, ms, fs) W (hatS.below hW (Nat.le_refl _))
  have hfalse : ∀ (hv : (plantV ((p0, p1, ls, es), vs, ns) && detV (r0, r1, ms, fs)) = false), Hid (ctlV ((p0, p1, ls, es), vs, ns) (r0, r1, ms, fs) = false) := fun hv => by show _ = _; unfold ctlV; rw [hv]; rfl
  have c5 : W0.cell? ⟨bm, 5, none⟩ = some (.slice A5 n5 k5) := (cell_of_row _ _ 5 _ _ (0, 0) k0).trans rfl
  replace t5W := hide t5W
  clear k0 k1 hLW gLW t4W
  cases hv1 : plantV ((p0, p1, ls, es), vs, ns) with
  | false =>
    have hval := hfalse (by rw [hv1]; rfl)
    rw [hv1] at qa
    replace qa := hide qa
    clear hatP hatS qb hfalse
    go_wp2_with fail
    refine qa.out.mono ?_
    rintro e w1 ⟨rfl, hb⟩
    replace hb := hide hb
    go_wp2_with fail
    go_ret
    exact ⟨by rw [hval.out]; rfl, by first | exact hb0.out.trans (hb.out.mono hz') | (rw [hbm]; exact hb0.out.trans (hb.out.mono hz'))⟩
  | true =>
  cases hv2 : detV (r0, r1, ms, fs) with
  | false =>
    have hval := hfalse (by rw [hv1, hv2]; rfl)
    rw [hv1] at qa
    simp only [hv2] at qb
    replace qa := hide qa
    replace qb := hide qb
    clear hatP hatS hfalse
    go_wp2_with fail
    refine qa.out.mono ?_
    rintro e w1 ⟨rfl, hb⟩
    have q2 := hide (qb.out _ hb)
    replace hb := hide hb
    go_wp2_with fail
    refine q2.out.mono ?_
    rintro e w2 ⟨rfl, hb2⟩
    have hbw := hide (hb.out.trans (hb2.mono hb.out.size))
    clear hb2
    go_wp2_with fail
    go_ret
    exact ⟨by rw [hval.out]; rfl, by first | exact hb0.out.trans (hbw.out.mono hz') | (rw [hbm]; exact hb0.out.trans (hbw.out.mono hz'))⟩
  | true =>
  have hdp : detV (p0, p1, ls, es) = true := by
    unfold plantV at hv1
    rw [Bool.and_eq_true] at hv1
    exact hv1.1
  have hlp := det_ltsA hdp
  have hls := det_ltsA hv2
  have hval : ctlV ((p0, p1, ls, es), vs, ns) (r0, r1, ms, fs) = (fauR (ctlB ns) (p0, p1, ls, es) (r0, r1, ms, fs) (allR (p0, p1, ls, es) (r0, r1, ms, fs))).isNone := by
    unfold ctlV
    rw [hv1, hv2]
    rfl
  rw [hv1] at qa
  simp only [hv2] at qb
  replace qa := hide qa
  replace qb := hide qb
  have hbp := lts_boundsA hlp
  have hbs := lts_boundsA hls
  obtain ⟨A2, n2, k2, e2, hn2, hs2, t2⟩ := hatP.1.2.2.1
  have hn2l : n2 ≤ 1048576 := by rw [← t2.len]; exact Nat.le_trans (totL_lab (p0, p1, ls, es)) ht
  dsimp only at e2
  subst e2
  have hgood := hide (allR_good (p := (p0, p1, ls, es)) (s := (r0, r1, ms, fs)) hdp hv2 (by have := hbp.2; show 0 ≤ p1 ∧ p1 < p0; omega) (by have := hbs.2; show 0 ≤ r1 ∧ r1 < r0; omega))
  have hlen16 : (allR (p0, p1, ls, es) (r0, r1, ms, fs)).length ≤ 1600 := hgood.out.len hbp.1.2 hbs.1.2
  have htotS : Hid (totS ls ≤ 1048576) := by have h9 : totL (p0, p1, ls, es) ≤ 1048576 := by omega
                                             unfold totL at h9; dsimp only at h9; show _ ≤ _; omega
  have hatP' := hide hatP
  have hatS' := hide hatS
  have c5' := hide c5
  replace hdp := hide hdp
  replace hv2' := hide hv2
  replace hval := hide hval
  have ctlEq : Hid (∀ l, (fauR (ctlB ns) (p0, p1, ls, es) (r0, r1, ms, fs) l).isNone = true ∨ (fauR (ctlB ns) (p0, p1, ls, es) (r0, r1, ms, fs) l).isNone = false) := fun l => by cases (fauR (ctlB ns) (p0, p1, ls, es) (r0, r1, ms, fs) l).isNone <;> simp
  clear hatP hatS hfalse hbp hbs hv1 hn2 hs2 t2 hv2 hlp hls c5 hs h4
  go_wp2_with fail
  refine qa.out.mono ?_
  rintro e w1 ⟨rfl, hb⟩
  have q2 := hide (qb.out _ hb)
  have hbs1 := hb.size
  replace hb := hide hb
  go_wp2_with fail
  refine q2.out.mono ?_
  rintro e w2 ⟨rfl, hb2⟩
  have hbw := hb.out.trans (hb2.mono hbs1)
  have qr := hide (l29Reach_calls bm (bm + 1) (p0, p1, .slice A2 n2 k2, v3) (r0, r1, u2, u3) p0 p1 ls es r0 r1 ms fs w2 (hatP'.out.below hbw (Nat.le_refl _)) (hatS'.out.below hbw (Nat.le_refl _)) hdp.out hv2'.out)
  have hbws := hbw.size
  replace hbw := hide hbw
  clear hb2 hb qa qb q2
  go_wp2_with fail
  refine qr.out.mono ?_
  rintro e w3 ⟨bx, A, n, c, G, B, m, dd, fl, rfl, hR, hG, hb3⟩
  have hbw3 := hbw.out.trans (hb3.mono hbws)
  have hRef := hide (hR.ref hbw3 hatP'.out hatS'.out c5'.out t5W.out)
  have hnn : n = (allR (p0, p1, ls, es) (r0, r1, ms, fs)).length := by rw [← hR.gp.len, ← List.length_map (f := (·.2)), hG, List.length_map]
  have hn16 : n ≤ 1600 := by omega
  have hlt3 := hR.lt
  obtain ⟨-, -, x2, -, -⟩ := hR.facts
  have hbw3s := hbw3.size
  replace hbw3 := hide hbw3
  replace hnn := hide hnn
  replace hG := hide hG
  clear hR hb3 qr hlen16
  go_upto_region 5 with fail
  go_loopw [6] (fun i wr => ∃ k : Nat, k ≤ n ∧ i = .int .i64 (k : Nat) ∧ Hid (fauR (ctlB ns) (p0, p1, ls, es) (r0, r1, ms, fs) ((allR (p0, p1, ls, es) (r0, r1, ms, fs)).drop k) = fauR (ctlB ns) (p0, p1, ls, es) (r0, r1, ms, fs) (allR (p0, p1, ls, es) (r0, r1, ms, fs))) ∧ Below w3.heap.size w3 wr) (fun i _ => n - (intOf i).toNat)
  case atStart => exact ⟨0, Nat.zero_le _, rfl, rfl, Below.refl _ _⟩
  case round =>
    obtain ⟨k, hk, rfl, hd, hbr⟩ := hrel
    have y2 := (hbr.cell (p := ⟨bx, 2, none⟩) hlt3).trans x2
    by_cases hlt : k < n
    · obtain ⟨q, hq⟩ : ∃ q, (allR (p0, p1, ls, es) (r0, r1, ms, fs))[k]? = some q := ⟨_, List.getElem?_eq_getElem (by rw [← hnn.out]; exact hlt)⟩
      obtain ⟨hd0, hrow⟩ := rows_get hG.out hq
      have qf := faultS_calls bx bm (bm + 1) _ _ p0 p1 ls ns es (r0, r1, ms, fs) A5 n5 k5 A n c _ k hd0 q.1.1 q.1.2 wr (hRef.out.below hbr) hrow (by omega) h5 htotS.out hdp.out hv2'.out
      have hat := fauR_at (ctl := ctlB ns) (p := (p0, p1, ls, es)) (s := (r0, r1, ms, fs)) hq
      have hcs := fauN_cases hdp.out ns (r0, r1, ms, fs) (q.1.1, q.1.2)
      have hI0 : (0 : Int) ≤ (k : Int) := by omega
      have hI1 : (k : Int) < (n : Int) := by omega
      have hbrs := hbr.size
      generalize fauN ns (p0, p1, ls, es) (r0, r1, ms, fs) (q.1.1, q.1.2) = z at *
      replace qf := hide qf
      replace hbr := hide hbr
      rcases hcs with ⟨rfl, e2⟩ | ⟨hz, lab, -, e2⟩
      · have hn2 : Hid (fauR (ctlB ns) (p0, p1, ls, es) (r0, r1, ms, fs) ((allR (p0, p1, ls, es) (r0, r1, ms, fs)).drop (k + 1)) = fauR (ctlB ns) (p0, p1, ls, es) (r0, r1, ms, fs) (allR (p0, p1, ls, es) (r0, r1, ms, fs))) := by
          show _ = _
          rw [← hd.out, hat, show q.1 = (q.1.1, q.1.2) from rfl, e2]
        clear hd hat e2 hq hrow
        go_wp2_with fail
        refine qf.out.mono ?_
        rintro e w5 ⟨rfl, hb5⟩
        have hbz := hide (hbr.out.trans (hb5.mono hbrs))
        clear hb5 y2
        go_wp2_with fail
        go_roundw
        case rel => exact ⟨k + 1, by omega, by go_num, hn2, hbz.out⟩
        case measure => simp [intOf]; omega
      · have hv : Hid (ctlV ((p0, p1, ls, es), vs, ns) (r0, r1, ms, fs) = false) := by
          show _ = _
          rw [hval.out, ← hd.out, hat, show q.1 = (q.1.1, q.1.2) from rfl, e2]
          rfl
        clear hd hat e2 hq hrow
        go_wp2_with fail
        refine qf.out.mono ?_
        rintro e w5 ⟨rfl, hb5⟩
        have hbz := hide (hbw3.out.trans ((hbr.out.trans (hb5.mono hbrs)).mono hbw3s))
        clear hb5 y2
        go_wp2_with fail
        go_ret
        exact ⟨by rw [hv.out]; rfl, by first | exact hb0.out.trans (hbz.out.mono hz') | (rw [hbm]; exact hb0.out.trans (hbz.out.mono hz'))⟩
    · have hkn : k = n := by omega
      have hv : Hid (ctlV ((p0, p1, ls, es), vs, ns) (r0, r1, ms, fs) = true) := by
        show _ = _
        rw [hval.out, ← hd.out, List.drop_eq_nil_of_le (by rw [← hnn.out]; omega)]
        rfl
      have hbz := hide (hbw3.out.trans (hbr.mono hbw3s))
      clear hd hbr
      go_wp2_with fail
      go_ret
      exact ⟨by rw [hv.out]; rfl, by first | exact hb0.out.trans (hbz.out.mono hz') | (rw [hbm]; exact hb0.out.trans (hbz.out.mono hz'))⟩

end Go.Proofs.YtiaclddgllkgpaaGreatDoor
