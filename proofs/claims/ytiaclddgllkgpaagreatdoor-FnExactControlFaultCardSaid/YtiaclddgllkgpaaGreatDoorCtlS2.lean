/-
  ControlFault, by the reference. Conditions: sizes.
-/
import Derived.Test.YtiaclddgllkgpaaGreatDoorPairs3
namespace Go.Proofs.YtiaclddgllkgpaaGreatDoor
open Go.ChangeShapes Go.WideShapes Go.ChangeAt Go.RowKit Go.Sort
set_option linter.unusedVariables false
set_option linter.unusedSimpArgs false

theorem elem_strS : Elem Tryz.prog 115 22 1 24 := Elem.of (z := .slice none 0 0) Tryz.underlying115 (by kernel_rfl) rfl (by omega) (by omega)
structure InvC (w3 wr : World) (p s : DL) (k : Nat) (A : Option Addr) (m c : Nat) (H : List (Hd × List ByteArray)) (B : Option Addr) (d : Nat) (R : List PQ) : Prop where
  ord : Own 1 iv wr w3.heap.size 2 B m d (ordL m)
  pth : PathsW wr w3.heap.size A m c H
  eq : H.map (·.2) = R.map (·.2)
  len : R.length = m
  at_ : AtR p s k R
  bel : Below w3.heap.size w3 wr
structure InvD (w3 wr : World) (p s : DL) (k : Nat) (q : PQ) (R F : List PQ) (i : Nat) (A : Option Addr) (m c : Nat) (H : List (Hd × List ByteArray)) (B : Option Addr) (d : Nat) (R' : List PQ) : Prop where
  ord : Own 1 iv wr w3.heap.size 2 B m d (ordL m)
  pth : PathsW wr w3.heap.size A m c H
  eq : H.map (·.2) = R'.map (·.2)
  len : R'.length = m
  fold : ((edgR p s (allR p s).length).drop i).foldl (stpE p s k q.2) R' = F
  pre : R <+: R'
  bel : Below w3.heap.size w3 wr
theorem InvC.start (w3 : World) {p s : DL} (h : AtR p s 0 (startR p s)) : InvC w3 (((w3.alloc (.cells #[] 9)).alloc (.cells #[.slice (some ⟨w3.heap.size, 0, none⟩) 0 0] 22)).alloc (.cells #[.int .i64 0] 2)) p s 0 (some ⟨w3.heap.size + 1, 0, none⟩) 1 1 [((some ⟨w3.heap.size, 0, none⟩, 0, 0), [])] (some ⟨w3.heap.size + 2, 0, none⟩) 1 (startR p s) := by
  have z1 : (w3.alloc (.cells #[] 9)).heap.size = w3.heap.size + 1 := World.size_alloc _ _
  have k2 := heap_alloc_new (w3.alloc (.cells #[] 9)) (.cells #[.slice (some ⟨w3.heap.size, 0, none⟩) 0 0] 22)
  rw [z1] at k2
  have k3 := heap_alloc_new ((w3.alloc (.cells #[] 9)).alloc (.cells #[.slice (some ⟨w3.heap.size, 0, none⟩) 0 0] 22)) (.cells #[.int .i64 0] 2)
  rw [World.size_alloc, z1] at k3
  have k2' := (Below.heap_alloc ((w3.alloc (.cells #[] 9)).alloc (.cells #[.slice (some ⟨w3.heap.size, 0, none⟩) 0 0] 22)) (.cells #[.int .i64 0] 2) (w3.heap.size + 1) (by rw [World.size_alloc, z1]; omega)).trans k2
  refine ⟨Own.lit1 k3 rfl (by omega), ⟨Own.lit1 k2' rfl (by omega), fun r hr => ?_⟩, rfl, rfl, h, ?_⟩
  · rw [List.mem_singleton.1 hr]
    exact ((Own.made w3 _ (Nat.le_refl _)).alloc _).alloc _
  · exact (((Below.refl _ _).alloc (Nat.le_refl _) _).alloc (by rw [World.size_alloc]; omega) _).alloc (by rw [World.size_alloc, World.size_alloc]; omega) _

set_option maxRecDepth 100000 in
set_option maxHeartbeats 3200000 in
theorem specControlFault_u {v u : Value} {d : DP} {s : DL} {w : World} {lo hi lo' hi' : Nat} (he : Env w) (h : FreshP w lo hi v d) (hh : hi ≤ w.heap.size) (g : FreshL w lo' hi' u s) (gh : hi' ≤ w.heap.size) :
    Calls Tryz.prog 54 #[v, u] w fun e w' => ∃ u0, e = .returned (.tuple #[u0, .string (ctlF d s).2.1, .int .i64 (ctlF d s).2.2]) ∧ ResS w' w.heap.size w'.heap.size u0 (ctlF d s).1 ∧ Below w.heap.size w w' := by
  obtain ⟨⟨p0, p1, v2, v3⟩, A4, n4, k4, A5, n5, k5, rfl, hp⟩ := h.open_
  obtain ⟨⟨⟨r0, r1, u2, u3⟩, rfl, gL⟩, gt⟩ := g
  obtain ⟨⟨st, ini, ls, es⟩, vs, ns⟩ := d
  obtain ⟨st', ini', ms, fs⟩ := s
  obtain ⟨hL, t4, t5, h4, h5, hs, ht⟩ := hp
  have e0 := hL.1
  have e1 := hL.2.1
  have f0 := gL.1
  have f1 := gL.2.1
  dsimp only at *
  subst e0 e1 f0 f1
  have hb0 : Below w.heap.size w ((w.alloc (.cells #[.int .i64 p0, .int .i64 p1, v2, v3, .slice A4 n4 k4, .slice A5 n5 k5] 44)).alloc (.cells #[.int .i64 r0, .int .i64 r1, u2, u3] 33)) := ((Below.refl _ _).alloc (Nat.le_refl _) _).alloc (by rw [World.size_alloc]; omega) _
  have k0 : ((w.alloc (.cells #[.int .i64 p0, .int .i64 p1, v2, v3, .slice A4 n4 k4, .slice A5 n5 k5] 44)).alloc (.cells #[.int .i64 r0, .int .i64 r1, u2, u3] 33)).heap[w.heap.size]? = some (.cells #[.int .i64 p0, .int .i64 p1, v2, v3, .slice A4 n4 k4, .slice A5 n5 k5] 44 (0, 0)) := (Below.heap_alloc _ _ _ (by rw [World.size_alloc]; omega)).trans (heap_alloc_new w _)
  have k1 : ((w.alloc (.cells #[.int .i64 p0, .int .i64 p1, v2, v3, .slice A4 n4 k4, .slice A5 n5 k5] 44)).alloc (.cells #[.int .i64 r0, .int .i64 r1, u2, u3] 33)).heap[w.heap.size + 1]? = some (.cells #[.int .i64 r0, .int .i64 r1, u2, u3] 33 (0, 0)) := by have h := heap_alloc_new (w.alloc (.cells #[.int .i64 p0, .int .i64 p1, v2, v3, .slice A4 n4 k4, .slice A5 n5 k5] 44)) (.cells #[.int .i64 r0, .int .i64 r1, u2, u3] 33); rw [World.size_alloc] at h; exact h
  have hz : w.heap.size + 1 < ((w.alloc (.cells #[.int .i64 p0, .int .i64 p1, v2, v3, .slice A4 n4 k4, .slice A5 n5 k5] 44)).alloc (.cells #[.int .i64 r0, .int .i64 r1, u2, u3] 33)).heap.size := by rw [World.size_alloc, World.size_alloc]; omega
  have hLW := (hL.below hb0 (.inr (Nat.le_refl _))).more (Nat.zero_le _) (Nat.le_trans hh hb0.size)
  have gLW := (gL.below hb0 (.inr (Nat.le_refl _))).more (Nat.zero_le _) (Nat.le_trans gh hb0.size)
  have t4W := (t4.below hb0 (.inr (Nat.le_refl _))).more (Nat.zero_le _) (Nat.le_trans hh hb0.size)
  have t5W := (t5.below hb0 (.inr (Nat.le_refl _))).more (Nat.zero_le _) (Nat.le_trans hh hb0.size)
  have hz' := hb0.size
  replace hb0 := hide hb0
  clear hL gL t4 t5 h
  go_enter Tryz.func54, Tryz.ntmps54
  go_upto_region 1 with fail
  generalize ((w.alloc (.cells #[.int .i64 p0, .int .i64 p1, v2, v3, .slice A4 n4 k4, .slice A5 n5 k5] 44)).alloc (.cells #[.int .i64 r0, .int .i64 r1, u2, u3] 33)) = W0 at *
  generalize hbm : w.heap.size = bm at *
  have hbmz : bm < W0.heap.size := by omega
  have hatP : LtsAt W0 bm (p0, p1, v2, v3) (p0, p1, ls, es) :=
    ⟨hLW, by omega, hbmz, (cell_of_row _ _ 0 _ _ (0, 0) k0).trans rfl, (cell_of_row _ _ 1 _ _ (0, 0) k0).trans rfl, (cell_of_row _ _ 2 _ _ (0, 0) k0).trans rfl, (cell_of_row _ _ 3 _ _ (0, 0) k0).trans rfl⟩
  have hatS : LtsAt W0 (bm + 1) (r0, r1, u2, u3) (r0, r1, ms, fs) :=
    ⟨gLW, gt, hz, (cell_of_row _ _ 0 _ _ (0, 0) k1).trans rfl, (cell_of_row _ _ 1 _ _ (0, 0) k1).trans rfl, (cell_of_row _ _ 2 _ _ (0, 0) k1).trans rfl, (cell_of_row _ _ 3 _ _ (0, 0) k1).trans rfl⟩
  have qa := l29Is_calls bm (p0, p1, v2, v3) A4 A5 n4 k4 n5 k5 (p0, p1, ls, es) vs ns _ hatP ((cell_of_row _ _ 4 _ _ (0, 0) k0).trans rfl) ((cell_of_row _ _ 5 _ _ (0, 0) k0).trans rfl) h4 h5 hs t4W t5W
  have qb := fun W (hW : Below W0.heap.size W0 W) => l29Free_calls (bm + 1) (r0, r1, u2, u3) (r0, r1, ms, fs) W (hatS.below hW (Nat.le_refl _))
  have hfalse : ∀ (hv : (plantV ((p0, p1, ls, es), vs, ns) && detV (r0, r1, ms, fs)) = false), Hid (ctlF ((p0, p1, ls, es), vs, ns) (r0, r1, ms, fs) = ([], ⟨#[]⟩, 1)) := fun hv => by show _ = _; unfold ctlF; rw [hv]; rfl
  have c5 : W0.cell? ⟨bm, 5, none⟩ = some (.slice A5 n5 k5) := (cell_of_row _ _ 5 _ _ (0, 0) k0).trans rfl
  replace t5W := hide t5W
  clear k0 k1 hLW gLW t4W
  cases hv1 : plantV ((p0, p1, ls, es), vs, ns) with
  | false =>
    have hval := hfalse (by rw [hv1]; rfl)
    rw [hv1] at qa
    replace qa := hide qa
    clear hatP hatS qb hfalse
    go_wp2_with fail
    refine qa.out.mono ?_
    rintro e w1 ⟨rfl, hb⟩
    replace hb := hide hb
    go_wp2_with fail
    go_ret3
    exact ⟨_, by rw [hval.out]; rfl, by rw [hval.out]; exact resS_nil' _ _ _, by first | exact hb0.out.trans (hb.out.mono hz') | (rw [hbm]; exact hb0.out.trans (hb.out.mono hz'))⟩
  | true =>
  cases hv2 : detV (r0, r1, ms, fs) with
  | false =>
    have hval := hfalse (by rw [hv1, hv2]; rfl)
    rw [hv1] at qa
    simp only [hv2] at qb
    replace qa := hide qa
    replace qb := hide qb
    clear hatP hatS hfalse
    go_wp2_with fail
    refine qa.out.mono ?_
    rintro e w1 ⟨rfl, hb⟩
    have q2 := hide (qb.out _ hb)
    replace hb := hide hb
    go_wp2_with fail
    refine q2.out.mono ?_
    rintro e w2 ⟨rfl, hb2⟩
    have hbw := hide (hb.out.trans (hb2.mono hb.out.size))
    clear hb2
    go_wp2_with fail
    go_ret3
    exact ⟨_, by rw [hval.out]; rfl, by rw [hval.out]; exact resS_nil' _ _ _, by first | exact hb0.out.trans (hbw.out.mono hz') | (rw [hbm]; exact hb0.out.trans (hbw.out.mono hz'))⟩
  | true =>
  have hdp : detV (p0, p1, ls, es) = true := by
    unfold plantV at hv1
    rw [Bool.and_eq_true] at hv1
    exact hv1.1
  have hlp := det_ltsA hdp
  have hls := det_ltsA hv2
  have hval : ctlF ((p0, p1, ls, es), vs, ns) (r0, r1, ms, fs) = (match fauR (ctlB ns) (p0, p1, ls, es) (r0, r1, ms, fs) (allR (p0, p1, ls, es) (r0, r1, ms, fs)) with | some (path, lab) => (path, lab, 0) | none => ([], ⟨#[]⟩, 3)) := by
    unfold ctlF
    rw [hv1, hv2]
    rfl
  rw [hv1] at qa
  simp only [hv2] at qb
  replace qa := hide qa
  replace qb := hide qb
  have hbp := lts_boundsA hlp
  have hbs := lts_boundsA hls
  obtain ⟨A2, n2, k2, e2, hn2, hs2, t2⟩ := hatP.1.2.2.1
  have hn2l : n2 ≤ 1048576 := by rw [← t2.len]; exact Nat.le_trans (totL_lab (p0, p1, ls, es)) ht
  dsimp only at e2
  subst e2
  have hgood := hide (allR_good (p := (p0, p1, ls, es)) (s := (r0, r1, ms, fs)) hdp hv2 (by have := hbp.2; show 0 ≤ p1 ∧ p1 < p0; omega) (by have := hbs.2; show 0 ≤ r1 ∧ r1 < r0; omega))
  have hlen16 : (allR (p0, p1, ls, es) (r0, r1, ms, fs)).length ≤ 1600 := hgood.out.len hbp.1.2 hbs.1.2
  have htotS : Hid (totS ls ≤ 1048576) := by have h9 : totL (p0, p1, ls, es) ≤ 1048576 := by omega
                                             unfold totL at h9; dsimp only at h9; show _ ≤ _; omega
  have hatP' := hide hatP
  have hatS' := hide hatS
  have c5' := hide c5
  replace hdp := hide hdp
  replace hv2' := hide hv2
  replace hval := hide hval
  have hs2' := hide hs2
  have t2' := hide t2
  have d2' := hide hatP.2.2.2.2.2.1
  have hpath := hide (allR_path (r0, r1, ms, fs) hdp.out)
  have hpi : 0 ≤ p1 ∧ p1 < p0 := by have := hbp.2; omega
  have hsi : 0 ≤ r1 ∧ r1 < r0 := by have := hbs.2; omega
  have hp4 : p0 ≤ 40 := hbp.1.2
  have hs4 : r0 ≤ 40 := hbs.1.2
  have hst0 := hide (AtR.start (p := (p0, p1, ls, es)) (s := (r0, r1, ms, fs)) hpi hsi)
  clear hpi hsi hatP hatS hfalse hbp hbs hv1 hn2 hs2 t2 hv2 hlp hls c5 hs h4
  go_wp2_with fail
  refine qa.out.mono ?_
  rintro e w1 ⟨rfl, hb⟩
  have q2 := hide (qb.out _ hb)
  have hbs1 := hb.size
  replace hb := hide hb
  go_wp2_with fail
  refine q2.out.mono ?_
  rintro e w2 ⟨rfl, hb2⟩
  have hbw := hb.out.trans (hb2.mono hbs1)
  have qr := hide (l29Reach_calls bm (bm + 1) (p0, p1, .slice A2 n2 k2, v3) (r0, r1, u2, u3) p0 p1 ls es r0 r1 ms fs w2 (hatP'.out.below hbw (Nat.le_refl _)) (hatS'.out.below hbw (Nat.le_refl _)) hdp.out hv2'.out)
  have hbws := hbw.size
  replace hbw := hide hbw
  clear hb2 hb qa qb q2
  go_wp2_with fail
  refine qr.out.mono ?_
  rintro e w3 ⟨bx, A', n, c', G, B', me, de, fl, rfl, hR, hG', hb3⟩
  have hbw3 := hbw.out.trans (hb3.mono hbws)
  have hRef := hide (hR.ref hbw3 hatP'.out hatS'.out c5'.out t5W.out)
  have hnn : n = (allR (p0, p1, ls, es) (r0, r1, ms, fs)).length := by rw [← hR.gp.len, ← List.length_map (f := (·.2)), hG', List.length_map]
  have hn16 : n ≤ 1600 := by omega
  have hlt3 := hR.lt
  have hR' := hide hR
  have hbw3s := hbw3.size
  replace hbw3 := hide hbw3
  replace hnn := hide hnn
  replace hG' := hide hG'
  clear hR hb3 qr hlen16
  obtain ⟨-, -, -, x3, -⟩ := hR'.out.facts
  have hEd := hide ((hR'.out.ge.sl flat_ev).more (Nat.le_refl _) (Nat.le_refl _))
  have hme := hide hR'.out.ge.len
  have hme2 : me ≤ 19200 := by have h1 := edgR_len hdp.out (r0, r1, ms, fs) (allR (p0, p1, ls, es) (r0, r1, ms, fs)).length; rw [hme.out] at h1; have := hgood.out.len hp4 hs4; omega
  clear hR'
  have hEi := hide elem_int64
  have hEs := hide elem_str
  have hEp := hide elem_strS
  have hbm3 : bm < w3.heap.size := by omega
  have d3' := hide ((hbw3.out.cell (p := ⟨bm, 2, none⟩) hbmz).trans d2'.out)
  go_upto_region 7 with fail
  go_loopg [8, 9, 10] 1601 (fun gk pv ov av wr => ∃ (k m c dk : Nat) (A B : Option Addr) (H : List (Hd × List ByteArray)) (R : List PQ), pv = .slice A m c ∧ ov = .slice B m dk ∧ av = .int .i64 (k : Nat) ∧ Hid (InvC w3 wr (p0, p1, ls, es) (r0, r1, ms, fs) k A m c H B dk R) ∧ Hid (fauR (ctlB ns) (p0, p1, ls, es) (r0, r1, ms, fs) ((allR (p0, p1, ls, es) (r0, r1, ms, fs)).drop k) = fauR (ctlB ns) (p0, p1, ls, es) (r0, r1, ms, fs) (allR (p0, p1, ls, es) (r0, r1, ms, fs))) ∧ Hid (1601 - k ≤ gk))
  case atStart => exact ⟨0, 1, 1, 1, _, _, _, _, rfl, rfl, rfl, InvC.start w3 hst0.out, rfl, by show _ ≤ _; omega⟩
  case round =>
    obtain ⟨k, m, c, dk, A, B, H, R, rfl, rfl, rfl, hI, hd, hG⟩ := hrel
    have hRl := hI.out.at_.good.len hp4 hs4
    have hm16 : m ≤ 1600 := by rw [← hI.out.len]; exact hRl
    have hkm : k ≤ m := by rw [← hI.out.len]; exact hI.out.at_.le
    have hbr := hI.out.bel
    have hbrs := hbr.size
    by_cases hlt : k < m
    · obtain ⟨G2, rfl⟩ : ∃ G2, gk = G2 + 1 := ⟨gk - 1, by have := hG.out; omega⟩
      have hG2 : Hid (1601 - (k + 1) ≤ G2) := by have := hG.out; show _ ≤ _; omega
      obtain ⟨q, hq⟩ : ∃ q, R[k]? = some q := ⟨_, List.getElem?_eq_getElem (by rw [hI.out.len]; exact hlt)⟩
      have hqa := pre_at hI.out.at_.pre hq
      have hkA : k < 1600 := by have := (List.getElem?_eq_some_iff.1 hqa).1; have := hgood.out.len hp4 hs4; omega
      obtain ⟨hd0, hrow⟩ := rows_get hG'.out hqa
      have qf := faultS_calls bx bm (bm + 1) _ _ p0 p1 ls ns es (r0, r1, ms, fs) A5 n5 k5 A' n c' _ k hd0 q.1.1 q.1.2 wr (hRef.out.below hbr) hrow (by omega) h5 htotS.out hdp.out hv2'.out
      have hat := fauR_at (ctl := ctlB ns) (p := (p0, p1, ls, es)) (s := (r0, r1, ms, fs)) hqa
      have hcs := fauN_cases hdp.out ns (r0, r1, ms, fs) (q.1.1, q.1.2)
      obtain ⟨bo, oo, vk, rfl, -, -, gbo, hvk, po, -⟩ := SlI.get (hI.out.ord.sl flat_iv) hlt
      rw [ordL_at hlt] at hvk
      obtain rfl := Option.some.inj hvk
      obtain ⟨bq, oq, Ah, nh, ch, rfl, -, gbq, -, pq, hoq⟩ := hI.out.pth.at_ (k := k) (l := q.2) (by rw [hI.out.eq, List.getElem?_map, hq]; rfl)
      have hI0 : (0 : Int) ≤ (k : Int) := by omega
      have hI1 : (k : Int) < (m : Int) := by omega
      generalize fauN ns (p0, p1, ls, es) (r0, r1, ms, fs) (q.1.1, q.1.2) = z at *
      replace qf := hide qf
      replace hbr := hide hbr
      have hq' := hide hq
      have hqa' := hide hqa
      rcases hcs with ⟨rfl, e2⟩ | ⟨hz, lab, hzl, e2⟩
      · have hn2 : Hid (fauR (ctlB ns) (p0, p1, ls, es) (r0, r1, ms, fs) ((allR (p0, p1, ls, es) (r0, r1, ms, fs)).drop (k + 1)) = fauR (ctlB ns) (p0, p1, ls, es) (r0, r1, ms, fs) (allR (p0, p1, ls, es) (r0, r1, ms, fs))) := by
          show _ = _
          rw [← hd.out, hat, show q.1 = (q.1.1, q.1.2) from rfl, e2]
        clear hd hat e2 hq hrow pq hoq
        go_wp2_with fail
        refine qf.out.mono ?_
        rintro e w5 ⟨rfl, hb5⟩
        have hAtn := hI.out.at_.step hdp.out hv2'.out hp4 hs4 hq'.out
        have hF : Hid (expP (p0, p1, ls, es) (r0, r1, ms, fs) R q <+: allR (p0, p1, ls, es) (r0, r1, ms, fs)) := hAtn.pre
        have hD0 : Hid (InvD w3 w5 (p0, p1, ls, es) (r0, r1, ms, fs) k q R (expP (p0, p1, ls, es) (r0, r1, ms, fs) R q) 0 (some ⟨bq, oq, none⟩) m c H (some ⟨bo, oo, none⟩) dk R) :=
          ⟨hI.out.ord.below hb5 (Nat.le_refl _), hI.out.pth.below hb5, hI.out.eq, hI.out.len, by rw [List.drop_zero, stp_edgR hgood.out hqa hF.out, if_pos (List.getElem?_eq_some_iff.1 hqa).1], List.prefix_rfl, hI.out.bel.trans (hb5.mono hbrs)⟩
        replace hAtn := hide hAtn
        clear hb5 hI qf po hbr hqa
        go_upto_region 13 with fail
        go_loopg [8, 9, 12] me (fun gk pv ov iw wr => ∃ (i m c dk : Nat) (A B : Option Addr) (H : List (Hd × List ByteArray)) (R' : List PQ), i ≤ me ∧ pv = .slice A m c ∧ ov = .slice B m dk ∧ iw = .int .i64 (i : Nat) ∧ Hid (InvD w3 wr (p0, p1, ls, es) (r0, r1, ms, fs) k q R (expP (p0, p1, ls, es) (r0, r1, ms, fs) R q) i A m c H B dk R') ∧ Hid (me - i ≤ gk))
        case atStart => exact ⟨0, m, c, dk, _, _, H, R, Nat.zero_le _, rfl, rfl, rfl, hD0, by show _ ≤ _; omega⟩
        case round =>
          clear hD0
          obtain ⟨i, m', c'', dk', A'', B'', H', R', hi, rfl, rfl, rfl, hD, hG3⟩ := hrel
          have hbel := hD.out.bel
          have y3 := (hbel.cell (p := ⟨bx, 3, none⟩) hlt3).trans x3
          by_cases hlt2 : i < me
          · obtain ⟨G4, rfl⟩ : ∃ G4, gk = G4 + 1 := ⟨gk - 1, by have := hG3.out; omega⟩
            have hG4 : Hid (me - (i + 1) ≤ G4) := by have := hG3.out; show _ ≤ _; omega
            have hpreR : R' <+: allR (p0, p1, ls, es) (r0, r1, ms, fs) := (stp_fpre hD.out.fold).trans hF.out
            have hm16' : m' ≤ 1600 := by rw [← hD.out.len]; exact Nat.le_trans hpreR.length_le (hgood.out.len hp4 hs4)
            have hkm' : k < m' := by have h1 := (List.getElem?_eq_some_iff.1 hq'.out).1; have h2 := hD.out.pre.length_le; have h3 := hD.out.len; omega
            have hqR := pre_at hD.out.pre hq'.out
            obtain ⟨b5, o5, f, lb, tg, rfl, -, -, g5, hx, a0', a1', a2', -, -, -⟩ := SlE.get hEd.out hlt2
            have a0 := (hbel.cell (p := ⟨_, _, none⟩) g5).trans a0'
            have a1 := (hbel.cell (p := ⟨_, _, none⟩) g5).trans a1'
            have a2 := (hbel.cell (p := ⟨_, _, none⟩) g5).trans a2'
            obtain ⟨bo', oo', vk, rfl, -, -, gbo', hvk, po, -⟩ := SlI.get (hD.out.ord.sl flat_iv) hkm'
            rw [ordL_at hkm'] at hvk
            obtain rfl := Option.some.inj hvk
            have hJ0 : (0 : Int) ≤ (i : Int) := by omega
            have hJ1 : (i : Int) < (me : Int) := by omega
            have hK1 : (k : Int) < (m' : Int) := by omega
            have hfold := stp_drop hD.out.fold hx
            have hba : Below wr.heap.size wr (wr.alloc (.cells #[.int .i64 f, .int .i64 lb, .int .i64 tg] 86)) := (Below.refl _ _).alloc (Nat.le_refl _) _
            have kE := heap_alloc_new wr (.cells #[.int .i64 f, .int .i64 lb, .int .i64 tg] 86)
            have z0 : (wr.alloc (.cells #[.int .i64 f, .int .i64 lb, .int .i64 tg] 86)).cell? ⟨wr.heap.size, 0, none⟩ = some (.int .i64 f) := (cell_of_row _ _ 0 _ _ (0, 0) kE).trans rfl
            have z1 : (wr.alloc (.cells #[.int .i64 f, .int .i64 lb, .int .i64 tg] 86)).cell? ⟨wr.heap.size, 1, none⟩ = some (.int .i64 lb) := (cell_of_row _ _ 1 _ _ (0, 0) kE).trans rfl
            have z2 : (wr.alloc (.cells #[.int .i64 f, .int .i64 lb, .int .i64 tg] 86)).cell? ⟨wr.heap.size, 2, none⟩ = some (.int .i64 tg) := (cell_of_row _ _ 2 _ _ (0, 0) kE).trans rfl
            have poE := (hba.cell (p := ⟨bo', oo' + k, none⟩) gbo').trans po
            have hordE := hD.out.ord.below hba (Nat.le_refl _)
            have hpthE := hD.out.pth.below hba
            have hbelE := hbel.trans (hba.mono hbel.size)
            have hlenD := hide hD.out.len
            have heqD := hide hD.out.eq
            have hpreD := hide hD.out.pre
            have hbE : w3.heap.size ≤ wr.heap.size := hbel.size
            replace hordE := hide hordE
            replace hpthE := hide hpthE
            replace hbelE := hide hbelE
            replace hfold := hide hfold
            replace hpreR := hide hpreR
            replace hqR := hide hqR
            replace kE := hide kE
            have hx' := hide hx
            clear hD hbel hba po hx a0' a1' a2'
            go_upto_region 16 with fail
            clear a0 a1 a2 y3
            generalize hWE : (wr.alloc (.cells #[.int .i64 f, .int .i64 lb, .int .i64 tg] 86)) = WE at *
            generalize hbEE : wr.heap.size = bE at *
            clear hWE
            by_cases hf : f = (k : Int)
            · subst hf
              obtain ⟨t, x, lab, ht, hat, hl0, hlb, hstp⟩ := edg_at hdp.out hgood.out hqa'.out hF.out (List.mem_of_getElem? hx'.out) rfl
              dsimp only at ht hl0 hlb
              subst ht
              have hfb : ((k : Int) == (k : Int)) = true := beq_self_eq_true _
              have hst := hstp R'
              have qh := fun N => l00Has_calls (t : Int) (some ⟨bo', oo', none⟩) m' dk' (ordL m') (WE.drewN N) _ _ ((hordE.out.sl flat_iv).drewN N) (by omega)
              rw [ordL_has] at qh
              by_cases htm : t < m'
              · rw [decide_eq_true htm] at qh
                replace qh := hide qh
                have hst2 : addP R' x.1 (q.2 ++ [lab]) = R' := stp_old hgood.out hpreR.out hat (by rw [hlenD.out]; exact htm) _
                have hfold2 := hfold.out
                rw [hst, hst2] at hfold2
                replace hfold2 := hide hfold2
                clear hst hst2 hstp hat hlb hfold
                go_quiet ((go_at_call 108; with_reducible exact same_quiet (qh.out _)))
                go_wp2
                have hbq : Below WE.heap.size WE (WE.drewN nq) := ⟨rfl, rfl, rfl, Nat.le_refl _, fun _ _ => rfl⟩
                have hD2 : Hid (InvD w3 (WE.drewN nq) (p0, p1, ls, es) (r0, r1, ms, fs) k q R (expP (p0, p1, ls, es) (r0, r1, ms, fs) R q) (i + 1) A'' m' c'' H' (some ⟨bo', oo', none⟩) dk' R') :=
                  ⟨hordE.out.below hbq (Nat.le_refl _), hpthE.out.below hbq, heqD.out, hlenD.out, hfold2.out, hpreD.out, hbelE.out.trans (hbq.mono hbelE.out.size)⟩
                clear hfb hbq hordE hpthE hbelE heqD hlenD hfold2 qh
                generalize WE.drewN nq = wq at *
                go_wp2_with fail
                go_roundg G4
                case measure => omega
                case rel => exact ⟨i + 1, m', c'', dk', A'', _, H', R', by omega, rfl, rfl, by go_num, hD2, hG4⟩
              · rw [decide_eq_false htm] at qh
                replace qh := hide qh
                have hpre9 : addP R' x.1 (q.2 ++ [lab]) <+: allR (p0, p1, ls, es) (r0, r1, ms, fs) := by
                  have h1 := hfold.out
                  rw [hst] at h1
                  exact (stp_fpre h1).trans hF.out
                obtain ⟨htR, hst2⟩ := stp_new hgood.out hat hpre9 (by rw [hlenD.out]; exact htm)
                have hfold2 := hfold.out
                rw [hst, hst2] at hfold2
                replace hfold2 := hide hfold2
                obtain rfl : t = m' := by rw [htR, hlenD.out]
                have hln : lb.toNat < n2 := by
                  have h9 : ls.length = n2 := t2'.out.len
                  have := (List.getElem?_eq_some_iff.1 hlb).1
                  omega
                have hl9 : lb < (n2 : Int) := by omega
                obtain ⟨b6, o6, r6, rfl, -, -, g6, hr6, p6, -⟩ := SlS.get t2'.out hln
                rw [hlb] at hr6
                obtain rfl := Option.some.inj hr6
                have g63 : b6 < w3.heap.size := Nat.lt_of_lt_of_le g6 (by omega)
                have p63 := (hbw3.out.cell (p := ⟨b6, o6 + lb.toNat, none⟩) g6).trans p6
                obtain ⟨bq', oq', Ah', nh', ch', rfl, -, gbq', -, pq, hoq⟩ := hpthE.out.at_ (k := k) (l := q.2) (by rw [heqD.out, List.getElem?_map, hqR.out]; rfl)
                have hnh : nh' ≤ 1600 := by have h1 := (hpath.out k q hqa'.out).1; rw [hoq.len] at h1; omega
                obtain ⟨-, -, cur, kq⟩ := hpthE.out.own.typed (g := bq') rfl
                clear hst hst2 hstp hat hfold hpre9 htR hlb gbo' gbq'
                go_quiet ((go_at_call 108; with_reducible exact same_quiet (qh.out _)))
                go_upto_region 17 with fail
                have hbq : Below WE.heap.size WE (WE.drewN nq) := ⟨rfl, rfl, rfl, Nat.le_refl _, fun _ _ => rfl⟩
                replace z1 : (WE.drewN nq).cell? ⟨bE, 1, none⟩ = some (.int .i64 lb) := z1
                replace z2 : (WE.drewN nq).cell? ⟨bE, 2, none⟩ = some (.int .i64 (t : Int)) := z2
                replace pq : (WE.drewN nq).cell? ⟨bq', oq' + k, none⟩ = some (.slice Ah' nh' ch') := pq
                have kEq : Hid ((WE.drewN nq).heap[bE]? = some (.cells #[.int .i64 (k : Int), .int .i64 lb, .int .i64 (t : Int)] 86 (0, 0))) := kE.out
                replace kq : Hid ((WE.drewN nq).heap[bq']? = some (.cells cur 22 (0, 0))) := kq
                have hord := hide (hordE.out.below hbq (Nat.le_refl _))
                have hpth := hide (hpthE.out.below hbq)
                replace hoq := hide (hoq.below hbq (Nat.le_refl _))
                have hbelq := hide (hbelE.out.trans (hbq.mono hbelE.out.size))
                clear hbq hordE hpthE hbelE qh kE z0 poE hfb
                generalize WE.drewN nq = wq at *
                have hbqs := hbelq.out.size
                have hsz1 : (t + 1) * 8 ≤ 140737488355328 := by omega
                have hza1 : w3.heap.size ≤ (wq.alloc (.cells #[.int .i64 (t : Int)] 2)).heap.size := by rw [World.size_alloc]; omega
                have hordA := hide (hord.out.alloc (.cells #[.int .i64 (t : Int)] 2))
                have hsz2 : (0 + nh') * 16 ≤ 140737488355328 := by omega
                have hsz3 : (nh' + 1) * 16 ≤ 140737488355328 := by omega
                have hsz4 : (t + 1) * 24 ≤ 140737488355328 := by omega
                go_wp2_with (first
                  | (at_builtin; (with_reducible refine wpList_app rfl (.tmp 79) (.tmp 82) rfl hEi.out flat_iv rfl hordA.out rfl (Sl.lit1' wq 2 (t : Int) _ rfl 1 _ ?c0) hsz1 hza1 ?_); rotate_right; intro A10 c10 w10 hown10 hgr10 hb10 hat10; have kq10 := grown_block hgr10 ((Below.heap_alloc _ (.cells #[.int .i64 (t : Int)] 2) _ (Array.getElem?_eq_some_iff.1 kq.out).1).trans kq.out) (hordA.out.other ((Below.heap_alloc _ _ _ (Array.getElem?_eq_some_iff.1 kq.out).1).trans kq.out) (by decide)); have kE10 := grown_block hgr10 ((Below.heap_alloc _ (.cells #[.int .i64 (t : Int)] 2) _ (Array.getElem?_eq_some_iff.1 kEq.out).1).trans kEq.out) (hordA.out.other ((Below.heap_alloc _ _ _ (Array.getElem?_eq_some_iff.1 kEq.out).1).trans kEq.out) (by decide)); have pq10 : w10.cell? ⟨bq', oq' + k, none⟩ = some (.slice Ah' nh' ch') := (cell_of_row _ _ _ _ _ (0, 0) kq10).trans ((cell_of_row _ _ _ _ _ (0, 0) kq.out).symm.trans pq); have pqA : (w10.alloc (.cells #[] 9)).cell? ⟨bq', oq' + k, none⟩ = some (.slice Ah' nh' ch') := alloc_some pq10; have hoq10 := hide ((hoq.out.alloc (.cells #[.int .i64 (t : Int)] 2)).kept hgr10 ((hoq.out.alloc _).apart hordA.out (by decide))); have hpth10 := hide ((hpth.out.kept (w' := (wq.alloc (.cells #[.int .i64 (t : Int)] 2))) (fun b hb => Below.heap_alloc _ _ _ hb)).grown hordA.out (by decide) (by decide) hgr10); have hbel10 := hide ((hbelq.out.alloc hbqs _).trans hb10); have hown2 := hide (Own.made (f := strv) (size := 1) w10 9 (Nat.le_refl w10.heap.size)); have hx2 := hide ((hoq10.out.alloc (.cells #[] 9)).sl flat_strv); have hza2 : w10.heap.size ≤ (w10.alloc (.cells #[] 9)).heap.size := (by rw [World.size_alloc]; omega); replace kq10 := hide kq10; replace kE10 := hide kE10; replace hown10 := hide hown10; clear hgr10 hb10 hat10 pq10)
                  | (at_builtin; (with_reducible refine wpList_app rfl (.tmp 84) (.tmp 88) rfl hEs.out flat_strv rfl hown2.out rfl hx2.out hsz2 hza2 ?_); intro A11 c11 w11 hown11 hgr11 hb11 hat11; rw [Nat.zero_add] at hown11 hat11 ⊢; have hb1011 := hide (((Below.refl w10.heap.size w10).alloc (Nat.le_refl _) (.cells #[] 9)).trans hb11); have u1 : w11.cell? ⟨bE, 1, none⟩ = some (.int .i64 lb) := (cell_of_row _ _ 1 _ _ (0, 0) ((hb1011.out.block _ (Array.getElem?_eq_some_iff.1 kE10.out).1).trans kE10.out)).trans rfl; have hbel11 := hide (hbel10.out.trans (hb1011.out.mono hbel10.out.size)); have u2 := (hbel11.out.cell (p := ⟨b6, o6 + lb.toNat, none⟩) g63).trans p63; have u3 := (hbel11.out.cell (p := ⟨bm, 2, none⟩) hbm3).trans d3'.out; have hown3 := hide (hown11.alloc (.cells #[.string lab] 9)); have hza3 : w10.heap.size ≤ (w11.alloc (.cells #[.string lab] 9)).heap.size := (by rw [World.size_alloc]; have := hb1011.out.size; omega); clear hgr11 hb11 hat11 hown11)
                  | (at_builtin; (with_reducible refine wpList_app rfl (.tmp 91) (.tmp 99) rfl hEs.out flat_strv rfl hown3.out rfl (Sl.lit1' w11 9 lab _ rfl 1 _ ?c1) hsz3 hza3 ?_); rotate_right; intro A12 c12 w12 hown12 hgr12 hb12 hat12; have hb1012 := hide ((hb1011.out.alloc hb1011.out.size (.cells #[.string lab] 9)).trans hb12); have hpth12 := hide (hpth10.out.below hb1012.out); have hown4 := hide (hpth12.out.own.alloc (.cells #[.slice A12 (nh' + 1) c12] 22)); have hza4 : w3.heap.size ≤ (w12.alloc (.cells #[.slice A12 (nh' + 1) c12] 22)).heap.size := (by rw [World.size_alloc]; have := hb1012.out.size; have := hbel10.out.size; omega); replace hown12 := hide hown12; clear hgr12 hb12 hat12)
                  | (at_builtin; (with_reducible refine wpList_app rfl (.tmp 90) (.tmp 101) rfl hEp.out flat_sv rfl hown4.out rfl (Sl.lit1' w12 22 (A12, nh' + 1, c12) _ rfl 1 _ ?c2) hsz4 hza4 ?_); rotate_right; intro A13 c13 w13 hown13 hgr13 hb13 hat13; replace hown13 := hide hown13; replace hgr13 := hide hgr13; replace hb13 := hide hb13; clear hat13))
                case c0 => rfl
                case c1 => rfl
                case c2 => rfl
                have hb13' : Below w3.heap.size w3 w13 := ((hbel10.out.trans (hb1012.out.mono hbel10.out.size)).alloc (by have := hb1012.out.size; have := hbel10.out.size; omega) _).trans hb13.out
                have hord12 := (hown10.out.below hb1012.out (Nat.le_refl _)).alloc (.cells #[.slice A12 (nh' + 1) c12] 22)
                have hD2 : Hid (InvD w3 w13 (p0, p1, ls, es) (r0, r1, ms, fs) k q R (expP (p0, p1, ls, es) (r0, r1, ms, fs) R q) (i + 1) A13 (t + 1) c13 (H' ++ [((A12, nh' + 1, c12), q.2 ++ [lab])]) A10 c10 (R' ++ [(x.1, q.2 ++ [lab])])) := by
                  refine ⟨?_, ?_, ?_, ?_, hfold2.out, hpreD.out.trans (List.prefix_append _ _), hb13'⟩
                  · rw [ordL_succ]
                    exact hord12.kept hgr13.out (hord12.apart hown4.out (by decide))
                  · exact (hpth12.out.kept (w' := w12.alloc (.cells #[.slice A12 (nh' + 1) c12] 22)) fun b hb => Below.heap_alloc _ _ _ hb).push (r := ((A12, nh' + 1, c12), q.2 ++ [lab])) ((hown12.out.lower hbel10.out.size).alloc _) hown13.out hgr13.out
                  · rw [List.map_append, List.map_append, heqD.out]
                    rfl
                  · rw [List.length_append, hlenD.out]
                    rfl
                clear hord12 hb13' hown13 hgr13 hb13 hown12 hown10 hpth12 hpth10 hown4 hown3 hown2 hx2 hb1012 hb1011 hbel10 hbel11 hordA hord hpth hoq hbelq kq kEq kq10 kE10 hoq10 heqD hlenD hfold2
                go_roundg G4
                case measure => omega
                case rel => exact ⟨i + 1, t + 1, c13, c10, A13, A10, _, _, by omega, rfl, rfl, by go_num, hD2, hG4⟩
            · have hfb : (f == (k : Int)) = false := by rw [beq_eq_false_iff_ne]; exact hf
              have hst : stpE (p0, p1, ls, es) (r0, r1, ms, fs) k q.2 R' (f, lb, tg) = R' := if_neg hf
              go_quiet (fail)
              go_wp2
              have hbq : Below WE.heap.size WE (WE.drewN nq) := ⟨rfl, rfl, rfl, Nat.le_refl _, fun _ _ => rfl⟩
              have hD2 : Hid (InvD w3 (WE.drewN nq) (p0, p1, ls, es) (r0, r1, ms, fs) k q R (expP (p0, p1, ls, es) (r0, r1, ms, fs) R q) (i + 1) A'' m' c'' H' (some ⟨bo', oo', none⟩) dk' R') :=
                ⟨hordE.out.below hbq (Nat.le_refl _), hpthE.out.below hbq, heqD.out, hlenD.out, by have h1 := hfold.out; rw [hst] at h1; exact h1, hpreD.out, hbelE.out.trans (hbq.mono hbelE.out.size)⟩
              clear hst hf hfb hbq hordE hpthE hbelE heqD hlenD hfold
              generalize WE.drewN nq = wq at *
              go_wp2_with fail
              go_roundg G4
              case measure => omega
              case rel => exact ⟨i + 1, m', c'', dk', A'', _, H', R', by omega, rfl, rfl, by go_num, hD2, hG4⟩
          · have hRF : R' = expP (p0, p1, ls, es) (r0, r1, ms, fs) R q := by
              have h1 := hD.out.fold
              rw [List.drop_eq_nil_of_le (by rw [hme.out]; omega)] at h1
              exact h1
            subst hRF
            have hC2 : Hid (InvC w3 wr (p0, p1, ls, es) (r0, r1, ms, fs) (k + 1) A'' m' c'' H' B'' dk' (expP (p0, p1, ls, es) (r0, r1, ms, fs) R q)) := ⟨hD.out.ord, hD.out.pth, hD.out.eq, hD.out.len, hAtn.out, hbel⟩
            clear hD hbel
            go_wp2_with fail
            go_roundg G2
            case measure => omega
            case rel => exact ⟨k + 1, m', c'', dk', A'', B'', H', _, rfl, rfl, by go_num, hC2, hn2, hG2⟩
      · have hv : Hid (ctlF ((p0, p1, ls, es), vs, ns) (r0, r1, ms, fs) = (q.2, lab, 0)) := by
          show _ = _
          rw [hval.out, ← hd.out, hat, show q.1 = (q.1.1, q.1.2) from rfl, e2]
        have hzn : z < (n2 : Int) := by
          have h9 : ls.length = n2 := t2'.out.len
          have := (List.getElem?_eq_some_iff.1 hzl).1
          omega
        obtain ⟨b6, o6, r6, rfl, -, -, g6, hr6, p6, -⟩ := SlS.get t2'.out (show z.toNat < n2 by omega)
        rw [hzl] at hr6
        obtain rfl := Option.some.inj hr6
        have hp2 := hpath.out k q hqa
        clear hd hat e2 hq hqa hrow hzl
        go_wp2_with fail
        refine qf.out.mono ?_
        rintro e w5 ⟨rfl, hb5⟩
        have hbz := hbw3.out.trans ((hbr.out.trans (hb5.mono hbrs)).mono hbw3s)
        have u1 := (hb5.cell (p := ⟨bq, oq + k, none⟩) gbq).trans pq
        have u2 := (hbz.cell (p := ⟨bm, 2, none⟩) hbmz).trans d2'.out
        have u3 := (hbz.cell (p := ⟨b6, o6 + z.toNat, none⟩) g6).trans p6
        have hoq5 := hoq.below hb5 (Nat.le_refl _)
        have hnh := hoq5.len
        have hR5 : Hid (∀ W, Below w5.heap.size w5 W → ResS W bm W.heap.size (.slice Ah nh ch) q.2) := fun W hW => by
          have h1 := (hoq5.below hW (Nat.le_refl _)).sl flat_strv
          exact ⟨⟨Ah, nh, ch, rfl, by unfold maxLen; omega, fun s hs => hs2'.out s (hp2.2 s hs), h1.more (by omega) (Nat.le_refl _)⟩, by omega⟩
        replace hbz := hide hbz
        clear hb5 hoq5 hoq
        go_upto_region 11 with fail
        go_quiet (fail)
        go_wp2
        go_ret3
        have hbq : Below w5.heap.size w5 (w5.drewN nq) := ⟨rfl, rfl, rfl, Nat.le_refl _, fun _ _ => rfl⟩
        have hbqz := hbz.out.trans (hbq.mono (hbz.out.size))
        exact ⟨_, by rw [hv.out]; rfl, by rw [hv.out]; first | exact hR5.out _ hbq | (rw [hbm]; exact hR5.out _ hbq), by first | exact hb0.out.trans (hbqz.mono hz') | (rw [hbm]; exact hb0.out.trans (hbqz.mono hz'))⟩
    · have hfin := hI.out.at_.fin hp4 hs4 (by rw [hI.out.len]; omega)
      have hv : Hid (ctlF ((p0, p1, ls, es), vs, ns) (r0, r1, ms, fs) = ([], ⟨#[]⟩, 3)) := by
        show _ = _
        rw [hval.out, ← hd.out, List.drop_eq_nil_of_le (by rw [← hfin, hI.out.len]; omega)]
        rfl
      have hbz := hide (hbw3.out.trans (hbr.mono hbw3s))
      clear hd hbr hI hfin
      go_wp2_with fail
      go_ret3
      exact ⟨_, by rw [hv.out]; rfl, by rw [hv.out]; exact resS_nil' _ _ _, by first | exact hb0.out.trans (hbz.out.mono hz') | (rw [hbm]; exact hb0.out.trans (hbz.out.mono hz'))⟩

end Go.Proofs.YtiaclddgllkgpaaGreatDoor
