/-
  VerdictAfter, by the reference: the whole. Conditions: sizes.
-/
import Derived.Test.YtiaclddgllkgpaaGreatDoorRefV
namespace Go.Proofs.YtiaclddgllkgpaaGreatDoor
open Go.ChangeShapes Go.WideShapes Go.ChangeAt Go.RowKit Go.Sort
set_option linter.unusedVariables false
set_option linter.unusedSimpArgs false

theorem goE_neg {st ini : Int} {es : List Ed} {ls : List ByteArray} (h : ltsV (st, ini, ls, es) = true) (lab : ByteArray) {s : Int} (hs : s < 0) : goE es ls lab s = -1 := goE_none (fol_neg h hs)
theorem goT_neg {st ini : Int} {es : List Ed} {ls : List ByteArray} (h : ltsV (st, ini, ls, es) = true) : ∀ (tr : List ByteArray), goT es ls tr (-1) = -1
  | [] => rfl
  | a :: t => by
    show goT es ls t (goE es ls a (-1)) = -1
    rw [goE_neg h a (by omega)]
    exact goT_neg h t
theorem goT_split {es : List Ed} {ls : List ByteArray} {tr : List ByteArray} {k : Nat} {y : Int} : goT es ls tr y = goT es ls (tr.drop k) (goT es ls (tr.take k) y) := by
  unfold goT
  rw [← List.foldl_append, List.take_append_drop]

set_option maxRecDepth 100000 in
set_option maxHeartbeats 3200000 in
theorem specVerdictAfter_u {v u t : Value} {d : DL} {s : DL} {tr : List ByteArray} {w : World} {lo hi lo' hi' lo2 hi2 : Nat} (he : Env w) (h : FreshL w lo hi v d) (hh : hi ≤ w.heap.size) (g : FreshL w lo' hi' u s) (gh : hi' ≤ w.heap.size) (r : FreshSS w lo2 hi2 t tr) (rh : hi2 ≤ w.heap.size) :
    Calls Tryz.prog 52 #[v, u, t] w fun e w' => e = .returned (.tuple #[.int .i64 (vaF d s tr).1, .int .i64 (vaF d s tr).2]) ∧ Below w.heap.size w w' := by
  obtain ⟨⟨⟨s0, s1, v2, v3⟩, rfl, hL⟩, ht⟩ := h
  obtain ⟨⟨⟨r0, r1, u2, u3⟩, rfl, gL⟩, gt⟩ := g
  obtain ⟨A, n, c, rfl, hT⟩ := FreshS.open_ r.1 r.2
  obtain ⟨st, ini, lt, et⟩ := d
  obtain ⟨st', ini', lp, ep⟩ := s
  have e0 := hL.1
  have e1 := hL.2.1
  have f0 := gL.1
  have f1 := gL.2.1
  dsimp only at *
  subst e0 e1 f0 f1
  have hz1 : (w.alloc (.cells #[.int .i64 s0, .int .i64 s1, v2, v3] 33)).heap.size = w.heap.size + 1 := World.size_alloc _ _
  have hb0 : Below w.heap.size w ((w.alloc (.cells #[.int .i64 s0, .int .i64 s1, v2, v3] 33)).alloc (.cells #[.int .i64 r0, .int .i64 r1, u2, u3] 33)) := ((Below.refl _ _).alloc (Nat.le_refl _) _).alloc (by omega) _
  have k1 := heap_alloc_new (w.alloc (.cells #[.int .i64 s0, .int .i64 s1, v2, v3] 33)) (.cells #[.int .i64 r0, .int .i64 r1, u2, u3] 33)
  rw [hz1] at k1
  have k0 := (Below.heap_alloc (w.alloc (.cells #[.int .i64 s0, .int .i64 s1, v2, v3] 33)) (.cells #[.int .i64 r0, .int .i64 r1, u2, u3] 33) w.heap.size (by omega)).trans (heap_alloc_new w (.cells #[.int .i64 s0, .int .i64 s1, v2, v3] 33))
  have hz : w.heap.size + 1 < ((w.alloc (.cells #[.int .i64 s0, .int .i64 s1, v2, v3] 33)).alloc (.cells #[.int .i64 r0, .int .i64 r1, u2, u3] 33)).heap.size := by rw [World.size_alloc, hz1]; omega
  have hLW := (hL.below hb0 (.inr (Nat.le_refl _))).more (Nat.zero_le _) (Nat.le_trans hh hb0.size)
  have gLW := (gL.below hb0 (.inr (Nat.le_refl _))).more (Nat.zero_le _) (Nat.le_trans gh hb0.size)
  have hT0 := hT.below hb0 (.inr (Nat.le_refl _))
  have hzs := hb0.size
  replace hb0 := hide hb0
  clear hL gL r hT he hz1
  go_enter Tryz.func52, Tryz.ntmps52
  go_upto_region 1 with fail
  generalize ((w.alloc (.cells #[.int .i64 s0, .int .i64 s1, v2, v3] 33)).alloc (.cells #[.int .i64 r0, .int .i64 r1, u2, u3] 33)) = W0 at *
  have hatT : LtsAt W0 w.heap.size (s0, s1, v2, v3) (s0, s1, lt, et) :=
    ⟨hLW, ht, by omega, (cell_of_row _ _ 0 _ _ (0, 0) k0).trans rfl, (cell_of_row _ _ 1 _ _ (0, 0) k0).trans rfl, (cell_of_row _ _ 2 _ _ (0, 0) k0).trans rfl, (cell_of_row _ _ 3 _ _ (0, 0) k0).trans rfl⟩
  have hatP : LtsAt W0 (w.heap.size + 1) (r0, r1, u2, u3) (r0, r1, lp, ep) :=
    ⟨gLW, gt, hz, (cell_of_row _ _ 0 _ _ (0, 0) k1).trans rfl, (cell_of_row _ _ 1 _ _ (0, 0) k1).trans rfl, (cell_of_row _ _ 2 _ _ (0, 0) k1).trans rfl, (cell_of_row _ _ 3 _ _ (0, 0) k1).trans rfl⟩
  have c4 : W0.cell? ⟨w.heap.size + 1, 0, none⟩ = some (.int .i64 r0) := (cell_of_row _ _ 0 _ _ (0, 0) k1).trans rfl
  have c5 : W0.cell? ⟨w.heap.size + 1, 1, none⟩ = some (.int .i64 r1) := (cell_of_row _ _ 1 _ _ (0, 0) k1).trans rfl
  have q1 := l30Ask_calls w.heap.size (w.heap.size + 1) _ _ (s0, s1, lt, et) (r0, r1, lp, ep) W0 hatT hatP
  clear k0 k1 hLW gLW
  by_cases hco : obsC (s0, s1, lt, et) (r0, r1, lp, ep) = 0
  case neg =>
    have hv := hide (vaF_bad (tr := tr) hco)
    generalize obsC (s0, s1, lt, et) (r0, r1, lp, ep) = oc at *
    replace q1 := hide q1
    clear hatT hatP
    go_wp2_with (first | (go_at_call 98; (with_reducible refine q1.out.mono ?_); rintro e w5 ⟨rfl, hb5⟩; replace hb5 := hide hb5))
    go_ret2
    exact ⟨by rw [hv.out]; rfl, hb0.out.trans (hb5.out.mono hzs)⟩
  obtain ⟨ht', hp', hdet⟩ := obsC_ok hco
  rw [hco] at q1
  replace q1 := hide q1
  have hbP := lts_boundsA ht'
  have hbS := lts_boundsA hp'
  obtain ⟨nn, rfl⟩ : ∃ nn : Nat, s0 = (nn : Int) := ⟨s0.toNat, by omega⟩
  obtain ⟨pp, rfl⟩ : ∃ pp : Nat, r0 = (pp : Int) := ⟨r0.toNat, by omega⟩
  have hval : Hid (vaF ((nn : Int), s1, lt, et) ((pp : Int), r1, lp, ep) tr = (open Classical in if visB tr = true then (if ∃ v, AftC et lt (· = s1) tr v then (vdV (canL nn pp et lt ep lp) (notS nn pp et lt ep lp) (AftC et lt (· = s1) tr) (goT ep lp tr r1), 0) else (0, 3)) else (0, 2))) := by
    show _ = _
    unfold vaF
    rw [if_pos ⟨ht', hp'⟩, if_pos hdet]
    simp only [Int.toNat_natCast]
  have hin := hide (aft_in ht' (by omega : 0 ≤ s1 ∧ s1 < (nn : Int)) tr)
  have hgo : Hid (∀ tr : List ByteArray, goT ep lp tr r1 < (pp : Int)) := fun tr => by
    have key : ∀ (tr : List ByteArray) (y : Int), y < (pp : Int) → goT ep lp tr y < (pp : Int) := by
      intro tr
      induction tr with
      | nil => exact fun y hy => hy
      | cons a t ih => exact fun y hy => ih _ (goE_lt hp' (by omega) _ _)
    exact key _ _ (by omega)
  have hge : Hid (∀ k, -1 ≤ goT ep lp (tr.take k) r1) := fun k => by
    have key : ∀ (tr : List ByteArray) (y : Int), -1 ≤ y → -1 ≤ goT ep lp tr y := by
      intro tr
      induction tr with
      | nil => exact fun y hy => hy
      | cons a t ih => exact fun y hy => ih _ (goE_rangeA hp' _ _).1
    exact key _ _ (by omega)
  have hfin : Hid (∀ k, goT ep lp (tr.take k) r1 < 0 → goT ep lp tr r1 = goT ep lp (tr.take k) r1) := fun k hk => by
    have h1 : goT ep lp (tr.take k) r1 = -1 := by have := hge.out k; omega
    rw [goT_split (k := k), h1]
    exact goT_neg hp' _
  have hlen := hide hT0.sl.len
  have qv := fun (W : World) (hW : Below W0.heap.size W0 W) => l12Visible_calls A n c tr W lo2 hi2 (hT0.sl.below hW (.inr (Nat.le_refl _))) hT0.len hT0.each
  have qa := hide fun (W : World) (hW : Below W0.heap.size W0 W) => l12After_calls w.heap.size _ nn s1 lt et A n c tr W lo2 hi2 (hatT.below hW (Nat.le_refl _)) ht' (hT0.sl.below hW (.inr (Nat.le_refl _))) hT0.len
  have qs := hide fun (lab : ByteArray) (y : Int) (W : World) (hW : Below W0.heap.size W0 W) => l12Go_calls (w.heap.size + 1) _ ((pp : Int), r1, lp, ep) y lab W (hatP.below hW (Nat.le_refl _)) hp'
  have ql := hide fun (W : World) (hW : Below W0.heap.size W0 W) => l30Leave_calls w.heap.size (w.heap.size + 1) nn pp _ _ s1 r1 lt lp et ep W (hatT.below hW (Nat.le_refl _)) (hatP.below hW (Nat.le_refl _)) ht' hp' (nn * pp) rfl
  have qy := hide fun (W : World) (hW : Below W0.heap.size W0 W) => l30Stay_calls w.heap.size (w.heap.size + 1) nn pp _ _ s1 r1 lt lp et ep W (hatT.below hW (Nat.le_refl _)) (hatP.below hW (Nat.le_refl _)) ht' hp' (nn * pp) rfl
  have hn40 : nn ≤ 40 := by omega
  have hp40 : pp ≤ 40 := by omega
  have hnT := hT0.len
  have hTs := hide hT0.sl
  clear hatT hatP hT0 hco ht' hp' hdet hbP hbS
  cases hv : visB tr with
  | false =>
    rw [hv] at qv
    replace qv := hide qv
    have hr : Hid (vaF ((nn : Int), s1, lt, et) ((pp : Int), r1, lp, ep) tr = (0, 2)) := by
      show _ = _
      rw [hval.out, if_neg (by rw [hv]; decide)]
    clear hval hv qa
    go_wp2_with (first | (go_at_call 98; (with_reducible refine q1.out.mono ?_); rintro e w5 ⟨rfl, hb5⟩; have qw := hide (qv.out w5 hb5); replace hb5 := hide hb5) | (go_at_call 75; (with_reducible refine qw.out.mono ?_); rintro e w6 ⟨rfl, hb6⟩; replace hb6 := hide hb6))
    go_ret2
    exact ⟨by rw [hr.out]; rfl, (hb0.out.trans (hb5.out.mono hzs)).trans (hb6.out.mono (Nat.le_trans hzs hb5.out.size))⟩
  | true =>
    rw [hv] at qv
    replace qv := hide qv
    have hval2 : Hid (vaF ((nn : Int), s1, lt, et) ((pp : Int), r1, lp, ep) tr = (open Classical in if ∃ v, AftC et lt (· = s1) tr v then (vdV (canL nn pp et lt ep lp) (notS nn pp et lt ep lp) (AftC et lt (· = s1) tr) (goT ep lp tr r1), 0) else (0, 3))) := by
      show _ = _
      rw [hval.out, if_pos hv]
    clear hval hv
    go_upto_region 7 with (first | (go_at_call 98; (with_reducible refine q1.out.mono ?_); rintro e w5 ⟨rfl, hb5⟩; have qw := hide (qv.out w5 hb5); replace hb5 := hide hb5) | (go_at_call 75; (with_reducible refine qw.out.mono ?_); rintro e w6 ⟨rfl, hb6⟩; have hb7 := hb5.out.trans (hb6.mono hb5.out.size); have qz := hide (qa.out w6 hb7); replace hb7 := hide hb7; clear hb6) | (go_at_call 99; (with_reducible refine qz.out.mono ?_); rintro e w8 ⟨A8, m8, c8, R8, rfl, hs8, hn8, hm8, hb8⟩))
    have hb9 := hb7.out.trans (hb8.mono hb7.out.size)
    have hl8 := hs8.len
    have hbw8 := hide (hb0.out.trans (hb9.mono hzs))
    have d5 := (hb9.cell (p := ⟨w.heap.size + 1, 1, none⟩) hz).trans c5
    replace hs8 := hide hs8
    replace hm8 := hide hm8
    clear hb8
    by_cases hm0 : m8 = 0
    · have hno : ¬ ∃ v, AftC et lt (· = s1) tr v := fun ⟨v, hv⟩ => by
        have := (hm8.out v).2 hv
        rw [List.eq_nil_of_length_eq_zero (by omega : R8.length = 0)] at this
        cases this
      have hr : Hid (vaF ((nn : Int), s1, lt, et) ((pp : Int), r1, lp, ep) tr = (0, 3)) := by
        show _ = _
        rw [hval2.out, if_neg hno]
      subst hm0
      replace hb9 := hide hb9
      clear hval2 hno
      go_wp2_with fail
      go_ret2
      exact ⟨by rw [hr.out]; rfl, hbw8.out⟩
    · have hyes : ∃ v, AftC et lt (· = s1) tr v := by
        cases R8 with
        | nil => simp at hl8; omega
        | cons a t => exact ⟨a, (hm8.out a).1 (List.mem_cons_self ..)⟩
      have hr : Hid (vaF ((nn : Int), s1, lt, et) ((pp : Int), r1, lp, ep) tr = (vdV (canL nn pp et lt ep lp) (notS nn pp et lt ep lp) (AftC et lt (· = s1) tr) (goT ep lp tr r1), 0)) := by
        show _ = _
        rw [hval2.out, if_pos hyes]
      have h0I : ((m8 : Int) == 0) = false := by rw [beq_eq_false_iff_ne]; omega
      clear hval2 hyes hl8 q1 qv qw qa qz
      go_upto_region 11 with fail
      clear d5 h0I
      go_loopg [10, 11] n (fun G y i wr => ∃ k : Nat, k ≤ n ∧ y = .int .i64 (goT ep lp (tr.take k) r1) ∧ i = .int .i64 (k : Nat) ∧ Below w8.heap.size w8 wr ∧ Hid (n - k ≤ G))
      case atStart => exact ⟨0, Nat.zero_le _, rfl, rfl, Below.refl _ _, by show _ ≤ _; omega⟩
      case round =>
        obtain ⟨k, hk, rfl, rfl, hb, hG⟩ := hrel
        have hb10 := hb9.trans (hb.mono hb9.size)
        have hdone : ∀ y : Int, goT ep lp tr r1 = y → goT ep lp (tr.take k) r1 = y → (¬ (k < n) ∨ y < 0) → True := fun _ _ _ _ => trivial
        by_cases hgo1 : k < n ∧ 0 ≤ goT ep lp (tr.take k) r1
        · obtain ⟨hlt, hy0⟩ := hgo1
          obtain ⟨G2, rfl⟩ : ∃ G2, gk = G2 + 1 := ⟨gk - 1, by have := hG.out; omega⟩
          have hG2 : Hid (n - (k + 1) ≤ G2) := by have := hG.out; show _ ≤ _; omega
          obtain ⟨bx, ox, lab, rfl, -, -, gx, hx, px, -⟩ := SlS.get (hTs.out.below hb10 (.inr (Nat.le_refl _))) hlt
          have hI0 : (0 : Int) ≤ (k : Int) := by omega
          have hI1 : (k : Int) < (n : Int) := by omega
          have hsu := hide (goT_succ (ep := ep) (lp := lp) (y := r1) hx)
          have qg := hide (qs.out lab (goT ep lp (tr.take k) r1) wr hb10)
          replace hb10 := hide hb10
          clear hx hdone
          generalize goT ep lp (tr.take k) r1 = yk at *
          go_wp2_with (first | (go_at_call 100; (with_reducible refine qg.out.mono ?_); rintro e w9 ⟨rfl, hb11⟩))
          have hb12 := hb.trans (hb11.mono hb.size)
          clear hb11
          go_roundg G2
          case measure => omega
          case rel => exact ⟨k + 1, by omega, by rw [hsu.out], by go_num, hb12, hG2⟩
        · have hyt : goT ep lp (tr.take k) r1 = goT ep lp tr r1 := by
            by_cases hlt : k < n
            · exact (hfin.out k (by omega)).symm
            · rw [List.take_of_length_le (by rw [hlen.out]; omega)]
          have hex : ¬ (k < n) ∨ goT ep lp tr r1 < 0 := by
            by_cases hlt : k < n
            · exact .inr (by rw [← hyt]; omega)
            · exact .inl hlt
          rw [hyt]
          have hy := hide (hgo.out tr)
          clear hgo1 hdone hyt
          have qL := hide (ql.out wr hb10)
          have qY := hide fun (W : World) (hW : Below wr.heap.size wr W) => qy.out W (hb10.trans (hW.mono hb10.size))
          have hinR : Hid (∀ x, x ∈ R8 → 0 ≤ x ∧ x < (nn : Int)) := fun x hx => hin.out x ((hm8.out x).1 hx)
          have hsR := hide (hs8.out.below hb (.inr (Nat.le_refl _)))
          have d4 := (hb10.cell (p := ⟨w.heap.size + 1, 0, none⟩) hz).trans c4
          have hzw : w.heap.size + 1 < wr.heap.size := Nat.lt_of_lt_of_le hz hb10.size
          generalize goT ep lp tr r1 = y at *
          have qV := hide fun (BL BS : Nat) (fL fS : List Bool) (ML MS : List (List Bool)) (W : World) (hW : Below wr.heap.size wr W) (h1 : BoB W BL (nn * pp) fL) (h2 : BoB W BS (nn * pp) fS) (h3 : FlatM nn pp fL ML) (h4 : FlatM nn pp fS MS) =>
            l30Verdict_calls (w.heap.size + 1) nn pp BL BS (nn * pp) fL fS ML MS A8 m8 c8 R8 y W _ _ ((hW.cell (p := ⟨w.heap.size + 1, 0, none⟩) hzw).trans d4) (Nat.lt_of_lt_of_le hzw hW.size) hn40 hp40 rfl h1 h2 h3 h4 (hsR.out.below hW (.inr (Nat.le_refl _))) (by omega) hinR.out hy.out
          have hbw := hide (hb0.out.trans (hb10.mono hzs))
          have hbz := hbw.out.size
          clear hb10 hb hfin hge hgo d4 hTs
          generalize nn * pp = NN at *
          rcases hex with hex | hex
          · have hI1 : ¬ (k : Int) < (n : Int) := by omega
            go_wp2_with (first | (go_at_call 102; (with_reducible refine qL.out.mono ?_); rintro e w9 ⟨BL, fL, ML, rfl, hBL, hFL, hlL, hcL, hb11⟩; have qY2 := hide (qY.out w9 hb11); replace hBL := hide hBL; have hz11 := hb11.size; replace hb11 := hide hb11) | (go_at_call 103; (with_reducible refine qY2.out.mono ?_); rintro e w10 ⟨BS, fS, MS, rfl, hBS, hFS, hlS, hcS, hb12⟩; have hb13 := hb11.out.trans (hb12.mono hz11); have qV2 := hide (qV.out BL BS fL fS ML MS w10 hb13 (hBL.out.below hb12) hBS hFL hFS); have hvd := hide (vd_eq hFS.sh hcL hcS hm8.out hinR.out hy.out); replace hb13 := hide hb13; clear hb12 hBS) | (go_at_call 101; (with_reducible refine qV2.out.mono ?_); rintro e w11 ⟨rfl, hb14⟩; replace hb14 := hide hb14))
            go_ret2
            exact ⟨by rw [hr.out, ← hvd.out]; rfl, (hbw.out.trans (hb13.out.mono hbz)).trans (hb14.out.mono (Nat.le_trans hbz hb13.out.size))⟩
          · by_cases hI1 : (k : Int) < (n : Int)
            · have hI2 : ¬ (0 : Int) ≤ y := by omega
              go_wp2_with (first | (go_at_call 102; (with_reducible refine qL.out.mono ?_); rintro e w9 ⟨BL, fL, ML, rfl, hBL, hFL, hlL, hcL, hb11⟩; have qY2 := hide (qY.out w9 hb11); replace hBL := hide hBL; have hz11 := hb11.size; replace hb11 := hide hb11) | (go_at_call 103; (with_reducible refine qY2.out.mono ?_); rintro e w10 ⟨BS, fS, MS, rfl, hBS, hFS, hlS, hcS, hb12⟩; have hb13 := hb11.out.trans (hb12.mono hz11); have qV2 := hide (qV.out BL BS fL fS ML MS w10 hb13 (hBL.out.below hb12) hBS hFL hFS); have hvd := hide (vd_eq hFS.sh hcL hcS hm8.out hinR.out hy.out); replace hb13 := hide hb13; clear hb12 hBS) | (go_at_call 101; (with_reducible refine qV2.out.mono ?_); rintro e w11 ⟨rfl, hb14⟩; replace hb14 := hide hb14))
              go_ret2
              exact ⟨by rw [hr.out, ← hvd.out]; rfl, (hbw.out.trans (hb13.out.mono hbz)).trans (hb14.out.mono (Nat.le_trans hbz hb13.out.size))⟩
            · go_wp2_with (first | (go_at_call 102; (with_reducible refine qL.out.mono ?_); rintro e w9 ⟨BL, fL, ML, rfl, hBL, hFL, hlL, hcL, hb11⟩; have qY2 := hide (qY.out w9 hb11); replace hBL := hide hBL; have hz11 := hb11.size; replace hb11 := hide hb11) | (go_at_call 103; (with_reducible refine qY2.out.mono ?_); rintro e w10 ⟨BS, fS, MS, rfl, hBS, hFS, hlS, hcS, hb12⟩; have hb13 := hb11.out.trans (hb12.mono hz11); have qV2 := hide (qV.out BL BS fL fS ML MS w10 hb13 (hBL.out.below hb12) hBS hFL hFS); have hvd := hide (vd_eq hFS.sh hcL hcS hm8.out hinR.out hy.out); replace hb13 := hide hb13; clear hb12 hBS) | (go_at_call 101; (with_reducible refine qV2.out.mono ?_); rintro e w11 ⟨rfl, hb14⟩; replace hb14 := hide hb14))
              go_ret2
              exact ⟨by rw [hr.out, ← hvd.out]; rfl, (hbw.out.trans (hb13.out.mono hbz)).trans (hb14.out.mono (Nat.le_trans hbz hb13.out.size))⟩

end Go.Proofs.YtiaclddgllkgpaaGreatDoor
