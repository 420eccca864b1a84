/-
  Pairs that can leave, by the reference: the walk. Conditions: sizes.
-/
import Derived.Test.YtiaclddgllkgpaaGreatDoorRefL
import Derived.Deep.DeepCutAuto
namespace Go.Proofs.YtiaclddgllkgpaaGreatDoor
open Go.ChangeShapes Go.WideShapes Go.ChangeAt Go.RowKit Go.Sort
set_option linter.unusedVariables false
set_option linter.unusedSimpArgs false

set_option maxRecDepth 100000 in
set_option maxHeartbeats 6400000 in
theorem l30Leave_calls (bt bp n p : Nat) (x y : CL) (ini pini : Int) (lt lp : List ByteArray) (et ep : List Ed) (w : World) (h : LtsAt w bt x ((n : Int), ini, lt, et)) (g : LtsAt w bp y ((p : Int), pini, lp, ep)) (ht : ltsV ((n : Int), ini, lt, et) = true) (hs : ltsV ((p : Int), pini, lp, ep) = true) (N : Nat) (hN : N = n * p) :
    Calls Tryz.prog 102 #[.pointer (some ⟨bt, 0, none⟩), .pointer (some ⟨bp, 0, none⟩)] w fun e w' => ∃ B f M, e = .returned (.slice (some ⟨B, 0, none⟩) N N) ∧ BoB w' B N f ∧ FlatM n p f M ∧ w.heap.size ≤ B ∧ (∀ u v, ChM false M u v ↔ canL n p et lt ep lp u v) ∧ Below w.heap.size w w' := by
  have hbP := lts_boundsA ht
  have hbS := lts_boundsA hs
  have hn40 : n ≤ 40 := by omega
  have hp40 : p ≤ 40 := by omega
  have hp0 : 0 < p := by omega
  have hN16 : N ≤ 1600 := by subst hN; exact Nat.mul_le_mul hn40 hp40
  have hq := hide fun (be : Nat) (f lb tg q : Int) (W : World) (hb : Below w.heap.size w W) (he : W.cell? ⟨be, 0 + 1, none⟩ = some (.int .i64 lb)) (hbe : be < W.heap.size) (hlb : 0 ≤ lb ∧ lb < (lt.length : Int)) => l30To_calls bt bp be 0 x y ((n : Int), ini, lt, et) ((p : Int), pini, lp, ep) f lb tg q W (h.below hb (Nat.le_refl _)) (g.below hb (Nat.le_refl _)) hs he hbe hlb
  have hgo := hide fun (lab : ByteArray) (q : Int) => goE_lt hs (by omega) lab q
  obtain ⟨s0, s1, v2, v3⟩ := x
  obtain ⟨r0, r1, u2, u3⟩ := y
  obtain ⟨⟨e0, e1, -, ⟨A3, n3, k3, e3, hn3, t3⟩⟩, htot, hbt, c0, -, -, c3⟩ := h
  obtain ⟨⟨f0, f1, -, -⟩, -, hbp, g0, -, -, -⟩ := g
  dsimp only at *
  subst e0 e1 e3 f0 f1
  have hmk := run_make_bool N (by omega)
  have hwm : IntKind.i64.wrap ((n : Int) * (p : Int)) = (N : Int) := by rw [hN]; exact wrap_mul (by omega) (by omega)
  have l3 := t3.len
  have hes : n3 ≤ 1048576 := by rw [← l3]; exact Nat.le_trans (totL_edg ((n : Int), s1, lt, et)) htot
  have hb0 : Below w.heap.size w (w.alloc (.cells (madeCells #[.bool false] N) 4)).drew := ((Below.refl _ _).alloc (Nat.le_refl _) _).drew
  have hst : Hid (BoB (w.alloc (.cells (madeCells #[.bool false] N) 4)).drew w.heap.size N (setOf N fun _ => false)) := BoB.made w N
  have hinv : Hid (LeaI n p et lt ep lp (setOf N fun _ => false) (fillM n p false) n3 0 true) := ⟨FlatM.fill n p false (by rw [setOf_len, hN]) (fun i hi => setOf_get (by rw [hN]; exact hi)), SetI.start _ _ _ _, fun e => by cases e⟩
  have m0 := Sv_alloc (o := .cells (madeCells #[.bool false] N) 4) c0
  have m1 := Sv_alloc (o := .cells (madeCells #[.bool false] N) 4) g0
  replace l3 := hide l3
  replace t3 := hide t3
  replace ht := hide ht
  replace hs := hide hs
  replace hN := hide hN
  clear htot hn3 hbP hbS
  go_enter Tryz.func102, Tryz.ntmps102
  go_upto_region 1 with fail
  go_cut [5] (fun v wx => v = .slice (some ⟨w.heap.size, 0, none⟩) N N ∧ wx = (w.alloc (.cells (madeCells #[.bool false] N) 4)).drew)
  case first =>
    go_region_held3 (fun w' => w'.cell? ⟨bt, 0, none⟩ = some (.int .i64 (n : Int)) ∧ w'.cell? ⟨bp, 0, none⟩ = some (.int .i64 (p : Int))) (first | exact ⟨c0, g0⟩ | exact ⟨m0, m1⟩ | go_keep) (fail)
    all_goals (go_wp2_with fail; go_meet)
    all_goals exact ⟨rfl, rfl⟩
  case rest =>
  obtain ⟨rfl, rfl⟩ := hcut
  clear hmk hwm m0 m1 c0
  generalize (w.alloc (.cells (madeCells #[.bool false] N) 4)).drew = W0 at *
  go_upto_region 3 with fail
  go_loopg [6] (cntM false (fillM n p false) + 1) (fun T m wr => ∃ (f : List Bool) (M : List (List Bool)) (mm : Bool), m = .bool mm ∧ Hid (LeaI n p et lt ep lp f M n3 0 mm) ∧ Hid (BoB wr w.heap.size N f) ∧ Hid (cntM false M + mm.toNat ≤ T) ∧ Below w.heap.size w wr)
  case atStart => exact ⟨_, _, true, rfl, hinv, hst, by show _ ≤ _; simp, hb0⟩
  case round =>
    clear hst hinv hb0
    obtain ⟨f, M, mm, rfl, hc, hbo, hT, hb⟩ := hrel
    cases mm with
    | false =>
      have hfin := hide (fun u v => hc.out.done (by rw [l3.out]; exact Nat.le_refl _) u v)
      have hfl := hide hc.out.fl
      replace hb := hide hb
      clear hc
      go_wp2_with fail
      go_ret
      exact ⟨_, f, M, rfl, hbo.out, hfl.out, Nat.le_refl _, hfin.out, hb.out⟩
    | true =>
      obtain ⟨T, rfl⟩ : ∃ T, gk = T + 1 := ⟨gk - 1, by have := hT.out; simp only [Bool.toNat_true] at this; omega⟩
      have hc1 := hide hc.out.again
      have hT1 : Hid (cntM false M + false.toNat ≤ T) := by have := hT.out; simp only [Bool.toNat_true] at this; show _ ≤ _; simp; omega
      clear hc hT
      go_upto_region 6 with fail
      go_loopg [6, 7] n3 (fun G m i wr => ∃ (j : Nat) (f : List Bool) (M : List (List Bool)) (mm : Bool), j ≤ n3 ∧ m = .bool mm ∧ i = .int .i64 (j : Nat) ∧ Hid (LeaI n p et lt ep lp f M j 0 mm) ∧ Hid (BoB wr w.heap.size N f) ∧ Hid (cntM false M + mm.toNat ≤ T) ∧ Below w.heap.size w wr ∧ Hid (n3 - j ≤ G))
      case atStart => exact ⟨0, f, M, false, Nat.zero_le _, rfl, rfl, hc1, hbo, hT1, hb, by show _ ≤ _; omega⟩
      case round =>
        clear hc1 hbo hT1 hb
        obtain ⟨j, f, M, mm, hj, rfl, rfl, hc, hbo, hT, hb, hG⟩ := hrel
        have y3 := (hb.cell (p := ⟨bt, 3, none⟩) hbt).trans c3
        by_cases hlt : j < n3
        · obtain ⟨G2, rfl⟩ : ∃ G2, gk = G2 + 1 := ⟨gk - 1, by have := hG.out; omega⟩
          have hG2 : Hid (n3 - (j + 1) ≤ G2) := by have := hG.out; show _ ≤ _; omega
          obtain ⟨b, off, ff, lb, tg, rfl, -, -, g3, hx, p0, p1, p2, -, -, -⟩ := SlE.get t3.out hlt
          replace p0 := (hb.cell g3).trans p0
          replace p1 := (hb.cell (p := ⟨b, off + j * 3 + 1, none⟩) g3).trans p1
          replace p2 := (hb.cell (p := ⟨b, off + j * 3 + 2, none⟩) g3).trans p2
          have hed := edge_of ht.out hx
          obtain ⟨xn, rfl⟩ : ∃ xn : Nat, ff = (xn : Int) := ⟨ff.toNat, by omega⟩
          obtain ⟨tn, rfl⟩ : ∃ tn : Nat, tg = (tn : Int) := ⟨tg.toNat, by omega⟩
          have hxn : xn < n := by omega
          have htn : tn < n := by omega
          have hlb := hed.2.2
          have hlb' : 0 ≤ lb ∧ lb < (lt.length : Int) := by omega
          have hbE : Below w.heap.size w (wr.alloc (.cells #[.int .i64 (xn : Int), .int .i64 lb, .int .i64 (tn : Int)] 86)) := hb.alloc hb.size _
          have kE := heap_alloc_new wr (.cells #[.int .i64 (xn : Int), .int .i64 lb, .int .i64 (tn : Int)] 86)
          have hboE := hide (hbo.out.below ((Below.refl wr.heap.size wr).alloc (Nat.le_refl _) (.cells #[.int .i64 (xn : Int), .int .i64 lb, .int .i64 (tn : Int)] 86)))
          have hBlt : w.heap.size < wr.heap.size := by obtain ⟨-, -, hh, -⟩ := hbo.out.get (k := 0) (by have := hN.out; rw [this]; exact Nat.mul_pos (by omega) hp0); exact hh
          generalize hbEn : wr.heap.size = bE at *
          have hneE : bE ≠ w.heap.size := by omega
          have hI0 : (0 : Int) ≤ (j : Int) := by omega
          have hI1 : (j : Int) < (n3 : Int) := by omega
          have hx' := hide hx
          replace kE := hide kE
          replace hbE := hide hbE
          clear hb hbo hed hlb hx
          go_upto_region 10 with fail
          clear p0 p1 p2 y3
          go_loopg [6, 9] p (fun G m i wr => ∃ (v : Nat) (f : List Bool) (M : List (List Bool)) (mm : Bool), v ≤ p ∧ m = .bool mm ∧ i = .int .i64 (v : Nat) ∧ Hid (LeaI n p et lt ep lp f M j v mm) ∧ Hid (BoB wr w.heap.size N f) ∧ Hid (cntM false M + mm.toNat ≤ T) ∧ Below w.heap.size w wr ∧ Hid (wr.heap[bE]? = some (.cells #[.int .i64 (xn : Int), .int .i64 lb, .int .i64 (tn : Int)] 86 (0, 0))) ∧ Hid (p - v ≤ G))
          case atStart => exact ⟨0, f, M, mm, Nat.zero_le _, rfl, rfl, hc, hboE, hT, hbE.out, kE, by show _ ≤ _; omega⟩
          case round =>
            clear hc hboE hT hbE kE hG
            obtain ⟨v, f, M, mm, hv, rfl, rfl, hc, hbo, hT, hb, kE, hG⟩ := hrel
            have yp := (hb.cell (p := ⟨bp, 0, none⟩) hbp).trans g0
            by_cases hvl : v < p
            · obtain ⟨G3, rfl⟩ : ∃ G3, gk = G3 + 1 := ⟨gk - 1, by have := hG.out; omega⟩
              have hG3 : Hid (p - (v + 1) ≤ G3) := by have := hG.out; show _ ≤ _; omega
              have z0 : wr.cell? ⟨bE, 0, none⟩ = some (.int .i64 (xn : Int)) := (cell_of_row _ _ 0 _ _ (0, 0) kE.out).trans rfl
              have hJ1 : (v : Int) < (p : Int) := by omega
              have hwa := hide (wrap_at (a := xn) (b := p) (c := v) (by omega) (by omega) (by omega))
              have hkl := flat_lt hxn hvl
              rw [← hN.out] at hkl
              have hgM := hide (hc.out.fl.get hxn hvl)
              obtain ⟨d0, d1, d2, d3⟩ := hbo.out.get hkl
              have hst2 := hide (d3 true)
              have hLh := hide fun h1 h2 => LeaI.hit hc.out hx'.out hxn hvl h1 h2
              generalize hkk : xn * p + v = k at *
              have hK0 : (0 : Int) ≤ (k : Int) := by omega
              have hK1 : (k : Int) < (N : Int) := by omega
              clear d3
              go_upto_region 12 with fail
              go_cut [10] (fun a wx => a = .int .i64 (k : Int) ∧ wx = wr.drew)
              case first =>
                go_region_held3 (fun w' => w'.cell? ⟨bE, 0, none⟩ = some (.int .i64 (xn : Int)) ∧ w'.cell? ⟨bp, 0, none⟩ = some (.int .i64 (p : Int))) (first | exact ⟨z0, yp⟩ | go_keep) (fail)
                all_goals (go_wp2_with fail; go_meet)
                all_goals exact ⟨by rw [hwa.out], rfl⟩
              case rest =>
              obtain ⟨rfl, rfl⟩ := hcut
              have hbd := hb.drew
              have kEd : Hid (wr.drew.heap[bE]? = some (.cells #[.int .i64 (xn : Int), .int .i64 lb, .int .i64 (tn : Int)] 86 (0, 0))) := kE.out
              have hbod : Hid (BoB wr.drew w.heap.size N f) := hbo.out
              have e0 : wr.drew.cell? ⟨w.heap.size, k, none⟩ = some (.bool (inS f k)) := d0
              have e1 : wr.drew.frozen? ⟨w.heap.size, k, none⟩ = false := d1
              have hst3 : Hid (BoB (wr.drew.setCell ⟨w.heap.size, k, none⟩ (.bool true)) w.heap.size N (f.set k true)) := hst2.out
              clear hb kE hbo d0 d1 d2 z0 yp hwa hst2
              generalize wr.drew = wd at *
              cases hfk : inS f k with
              | true =>
                have hc2 := hide (hc.out.skip hx'.out fun _ => ⟨by omega, by omega, by dsimp only; rw [Int.toNat_natCast, Int.toNat_natCast, hgM.out, hfk]; rfl⟩)
                rw [hfk] at e0
                replace hbd := hide hbd
                clear hc hfk hLh hgM hst3
                go_wp2_with fail
                go_roundg G3
                case measure => omega
                case rel => exact ⟨v + 1, f, M, mm, by omega, rfl, by go_num, hc2, hbod, hT, hbd.out, kEd, hG3⟩
              | false =>
                rw [hfk] at e0 hgM
                have z1 : wd.cell? ⟨bE, 0 + 1, none⟩ = some (.int .i64 lb) := (cell_of_row _ _ 1 _ _ (0, 0) kEd.out).trans rfl
                have hEl := (Array.getElem?_eq_some_iff.1 kEd.out).1
                have qt := hide (hq.out bE (xn : Int) lb (tn : Int) (v : Int) wd hbd z1 hEl hlb')
                have hzr : Hid (toP lt ep lp ((xn : Int), lb, (tn : Int)) (v : Int) < (p : Int)) := by
                  show _ < _
                  unfold toP
                  split
                  · omega
                  · exact hgo.out _ _
                have hLs := hide fun h1 => LeaI.skip hc.out hx'.out h1
                have hfl := hide hc.out.fl
                dsimp only at hLs
                generalize toP lt ep lp ((xn : Int), lb, (tn : Int)) (v : Int) = z at *
                have hbz := hbd.size
                replace hbd := hide hbd
                clear z1 hfk hc
                go_upto_region 15 with (first | (go_at_call 141; (with_reducible refine qt.out.mono ?_); rintro e w5 ⟨rfl, hb5⟩))
                have hb6 := hbd.out.trans (hb5.mono hbz)
                have yp := (hb6.cell (p := ⟨bp, 0, none⟩) hbp).trans g0
                have kE5 := hide ((hb5.block bE hEl).trans kEd.out)
                have z2 : w5.cell? ⟨bE, 2, none⟩ = some (.int .i64 (tn : Int)) := (cell_of_row _ _ 2 _ _ (0, 0) kE5.out).trans rfl
                have hbo5 := hide (hbod.out.below hb5)
                obtain ⟨i0, i1, i2, i3⟩ := hbo5.out.get hkl
                have hst5 := hide (i3 true)
                have hbv : (decide (z < 0) || inS f (tn * p + z.toNat)) = true ↔ hitD (ChM false M) ((tn : Int), z) := by
                  unfold hitD ChM
                  rw [Bool.or_eq_true, decide_eq_true_eq]
                  constructor
                  · rintro (h1 | h1)
                    · exact .inl h1
                    · by_cases hz : z < 0
                      · exact .inl hz
                      · refine .inr ⟨by dsimp only; omega, by dsimp only; omega, ?_⟩
                        dsimp only
                        rw [Int.toNat_natCast, hfl.out.get htn (show z.toNat < p by have := hzr.out; omega), h1]
                        rfl
                  · rintro (h1 | ⟨-, h1, h2⟩)
                    · exact .inl h1
                    · right
                      dsimp only at h1 h2
                      rw [Int.toNat_natCast, hfl.out.get htn (show z.toNat < p by have := hzr.out; omega)] at h2
                      exact Option.some.inj h2
                generalize hbb : (decide (z < 0) || inS f (tn * p + z.toNat)) = bb at *
                replace hbv := hide hbv
                replace hb6 := hide hb6
                clear hst3 hbod hb5 i3 kEd qt hfl
                go_cut [79] (fun a wx => a = .bool bb ∧ ∃ nq, wx = w5.drewN nq)
                case first =>
                  clear hLs hLh hT hbv hgM
                  by_cases hz : z < 0
                  · rw [decide_eq_true hz, Bool.true_or] at hbb
                    replace hbb := hide hbb
                    have hzd : decide (z < 0) = true := decide_eq_true hz
                    go_quiet (fail)
                    all_goals (go_wp2_with fail; go_meet)
                    all_goals exact ⟨by rw [← hbb.out], _, rfl⟩
                  · obtain ⟨zn, rfl⟩ : ∃ zn : Nat, z = (zn : Int) := ⟨z.toNat, by omega⟩
                    have hzn : zn < p := by have := hzr.out; omega
                    have hk2 := flat_lt htn hzn
                    rw [← hN.out] at hk2
                    obtain ⟨a0, a1, -, -⟩ := hbo5.out.get hk2
                    have hw1 := wrap_mul (a := tn) (b := p) (by omega) (by omega)
                    have hw2 := wrap_at (a := tn) (b := p) (c := zn) (by omega) (by omega) (by omega)
                    rw [hw1] at hw2
                    rw [decide_eq_false hz, Bool.false_or, Int.toNat_natCast] at hbb
                    generalize tn * p + zn = k2 at *
                    generalize tn * p = m1 at *
                    have hK2 : (0 : Int) ≤ (k2 : Int) := by omega
                    have hK3 : (k2 : Int) < (N : Int) := by omega
                    replace hbb := hide hbb
                    have hzd : decide ((zn : Int) < 0) = false := decide_eq_false hz
                    go_quiet (fail)
                    all_goals (go_wp2_with fail; go_meet)
                    all_goals exact ⟨by rw [← hbb.out], _, rfl⟩
                case rest =>
                obtain ⟨rfl, nq, rfl⟩ := hcut
                have j0 : (w5.drewN nq).cell? ⟨w.heap.size, k, none⟩ = some (.bool (inS f k)) := i0
                have j1 : (w5.drewN nq).frozen? ⟨w.heap.size, k, none⟩ = false := i1
                have hbq : Hid (Below w.heap.size w (w5.drewN nq)) := ⟨hb6.out.os, hb6.out.tape, hb6.out.output, hb6.out.size, hb6.out.block⟩
                clear hbb i0 i1 yp z2
                cases bb with
                | true =>
                  have hc2 := hide (hLh.out hgM.out (hbv.out.1 rfl))
                  have hT2 : Hid (cntM false (setM M xn v true) + true.toNat ≤ T) := by
                    have h1 := cntM_set (b := false) hgM.out
                    have h2 := hT.out
                    simp only [Bool.not_false] at h1
                    show _ ≤ _
                    simp only [Bool.toNat_true]
                    omega
                  have hb7 := hide ((hbq.out).setCell (p := ⟨w.heap.size, k, none⟩) (Nat.le_refl _) (.bool true))
                  have kE7 : Hid (((w5.drewN nq).setCell ⟨w.heap.size, k, none⟩ (.bool true)).heap[bE]? = some (.cells #[.int .i64 (xn : Int), .int .i64 lb, .int .i64 (tn : Int)] 86 (0, 0))) := (Sav.set (w5.drewN nq) ⟨w.heap.size, k, none⟩ (.bool true)).kept kE5.out hneE
                  have hst7 : Hid (BoB ((w5.drewN nq).setCell ⟨w.heap.size, k, none⟩ (.bool true)) w.heap.size N (f.set k true)) := hst5.out
                  clear hLs hLh hT hst5 hbo5 kE5 hb6 hbv hgM
                  go_wp2_with fail
                  go_roundg G3
                  case measure => omega
                  case rel => exact ⟨v + 1, _, _, true, by omega, rfl, by go_num, hc2, hst7, hT2, hb7.out, kE7, hG3⟩
                | false =>
                  have hc2 := hide (hLs.out fun h1 => by have := hbv.out.2 h1; cases this)
                  have hb7 := hbq
                  have kE7 : Hid ((w5.drewN nq).heap[bE]? = some (.cells #[.int .i64 (xn : Int), .int .i64 lb, .int .i64 (tn : Int)] 86 (0, 0))) := kE5.out
                  have hst7 : Hid (BoB (w5.drewN nq) w.heap.size N f) := hbo5.out
                  clear hLs hLh hst5 hbo5 kE5 hb6 hbv hgM
                  go_wp2_with fail
                  go_roundg G3
                  case measure => omega
                  case rel => exact ⟨v + 1, f, M, mm, by omega, rfl, by go_num, hc2, hst7, hT, hb7.out, kE7, hG3⟩
            · have hvp : v = p := by omega
              subst hvp
              have hc2 := hide hc.out.row
              replace hb := hide hb
              clear hc kE
              go_wp2_with fail
              go_roundg G2
              case measure => omega
              case rel => exact ⟨j + 1, f, M, mm, by omega, rfl, by go_num, hc2, hbo, hT, hb.out, hG2⟩
        · have hjn : j = n3 := by omega
          subst hjn
          replace hb := hide hb
          go_wp2_with fail
          go_roundg T
          case measure => omega
          case rel => exact ⟨f, M, mm, rfl, hc, hbo, hT, hb.out⟩

end Go.Proofs.YtiaclddgllkgpaaGreatDoor
