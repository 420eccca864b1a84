/-
  Several texts in one:
  spec.R8Part, weak: a partition is drawn. Conditions: sizes.
-/
import Derived.Test.YtnhomkmfbngmgaaGreatDoorBaseM
set_option linter.unusedSimpArgs false
set_option linter.unusedVariables false
namespace Go.Proofs.YtnhomkmfbngmgaaGreatDoor
open Go.ChangeShapes Go.WideShapes Go.ChangeAt Go.RowKit Go.Sort Go.Lib
set_option linter.unusedVariables false
set_option linter.unusedSimpArgs false

theorem normF_partW (l : List Int) : PartN l.length (normF l) := ⟨normF_len l, normF_norm l⟩
set_option maxRecDepth 100000 in
set_option maxHeartbeats 12800000 in
theorem R8PartW_calls {w : World} {N ini : Nat} {A : Option Addr} {n : Nat} {B : Option Addr} {m : Nat} {ls : List ByteArray} {es : List Ed} (h : SysA w N ini A n B m ls es) (c d : Nat) (C : Option Addr) (nc cc : Nat) (code : List Int) (hC : SlU w 0 w.heap.size C nc code) (hcr : ∀ x, x ∈ code → 0 ≤ x ∧ x ≤ 255) (hnc : nc ≤ maxLen) (dv : Bool) :
  Calls Tryz.prog 31 #[.slice C nc cc, .agg #[.int .i64 (N : Int), .int .i64 (ini : Int), .slice A n c, .slice B m d], .bool true, .bool dv] w fun e w' => ∃ Q cQ q, e = .returned (.slice Q N cQ) ∧ SlI w' 0 w'.heap.size Q N q ∧ PartN N q ∧ Below w.heap.size w w' := by
 obtain ⟨⟨hN1, hN2⟩, hini⟩ := h.bounds
 have hE := hide elem_int64
 have hB := h.box (c := c) (d := d)
 obtain ⟨w1, hw1⟩ : ∃ w1, w1 = w.alloc (ltsC N ini A n c B m d) := ⟨_, rfl⟩
 rw [← hw1] at hB
 have hzw : w.heap.size < w1.heap.size := hB.lt
 have q1 := hide (l00From_calls C nc cc code w1 ((hC.below hB.bel (.inl (Nat.le_refl _))).more (Nat.le_refl _) hB.bel.size) hcr hnc)
 replace hB := hide hB
 clear h hC
 go_enter Tryz.func31, Tryz.ntmps31
 go_upto_region 1 with fail
 rw [← show w1 = w.alloc (.cells #[.int .i64 (N : Int), .int .i64 (ini : Int), .slice A n c, .slice B m d] 27) from hw1]
 replace hw1 := hide hw1
 go_wp2_with fail
 refine q1.out.mono ?_
 rintro e w2 ⟨rfl, hS, hb2, hz2⟩
 obtain ⟨b, hbe⟩ : ∃ b, b = w1.heap.size := ⟨_, rfl⟩
 rw [← hbe] at hS ⊢
 have hb1 : b ≤ w1.heap.size := Nat.le_of_eq hbe
 have hb1' : w1.heap.size ≤ b := Nat.le_of_eq hbe.symm
 have hbw : w.heap.size < b := by omega
 replace hbe := hide hbe
 have hlt2 : b < w2.heap.size := hS.lt
 have hB2 := hide (hB.out.below hb2)
 have q2 := hide (l13Part_calls hB2.out.sys c d w.heap.size hB2.out.box)
 replace hS := hide hS
 replace hb2 := hide hb2
 replace hz2 := hide hz2
 clear q1
 go_wp2_with fail
 refine q2.out.mono ?_
 rintro e w3a ⟨r, Qa, cQa, rfl, hL, hQa, hb3a⟩
 have hb13a := hide (hb2.out.trans (hb3a.mono (Nat.le_trans hb1' (Nat.le_of_lt hlt2))))
 have hB3a := hide (hB.out.below hb13a.out)
 have q2b := hide (l15Part_calls hB3a.out.sys c d w.heap.size hB3a.out.box dv)
 have hb3ah := hide hb3a
 replace hQa := hide hQa
 clear hb3a
 go_wp2_with fail
 refine q2b.out.mono ?_
 rintro e w3 ⟨Q, cQ, rfl, hPT, hb3b⟩
 obtain ⟨pq, hQ0, hpp0⟩ := hPT
 have hQ := hQ0.more hb3ah.out.size (Nat.le_refl _)
 have hb3 := hb3ah.out.trans (hb3b.mono hb3ah.out.size)
 have hS3 := hide (hS.out.below hb3 hlt2)
 have hz3 := hb3.size
 have hpp := hide hpp0
 replace hQ0 := hide hQ0
 replace hb3b := hide hb3b
 clear hpp0 q2b
 obtain ⟨p, hpe⟩ : ∃ p, p = pq := ⟨_, rfl⟩
 rw [← hpe] at hQ hpp
 replace hpe := hide hpe
 have hb13 := hide (hb2.out.trans (hb3.mono (Nat.le_trans hb1' (Nat.le_of_lt hlt2))))
 have q3 := hide (pick_calls b 0 4 w3 hS3.out (by omega))
 replace hQ := hide hQ
 replace hb3 := hide hb3
 clear q2 hL
 go_wp2_with fail
 refine q3.out.mono ?_
 rintro e w4 ⟨x, rfl, hx0, hx1, hT⟩
 have hb14 := hide (Only.below hb13.out hT.only hb1' (by omega))
 have hbel := hide (hB.out.bel.trans (hb14.out.mono (Nat.le_of_lt hzw)))
 have hS4 := hide hT.src
 have hz34 := hide (show w3.heap.size ≤ w4.heap.size from hT.only.size)
 have hbz4 : b < w4.heap.size := hS4.out.lt
 have hQ4 := hide ((Sl.only hQ.out hT.only (.inr (by omega))).more (show b + 1 ≤ _ by omega) hz34.out)
 have hB4 := hide (hB.out.below hb14.out)
 replace hT := hide hT
 clear q3 hQ
 have b0 := hB4.out.box.c0
 by_cases x0 : x = 0
 ·subst x0
  have q4 := hide (pick_calls b (0 + 2) 3 w4 hS4.out (by omega))
  clear b0
  go_wp2_with fail
  refine q4.out.mono ?_
  rintro e w5 ⟨y, rfl, hy0, hy1, hT5⟩
  obtain ⟨y, rfl⟩ : ∃ k : Nat, y = (k : Int) := ⟨y.toNat, by omega⟩
  have hb15 := hide (Only.below hb14.out hT5.only hb1' (by omega))
  have hB5 := hide (hB.out.below hb15.out)
  have q5 := hide (l13Round_calls hB5.out.sys c d w.heap.size hB5.out.box y (by omega))
  have hz5 := hb15.out.size
  replace hT5 := hide hT5
  clear q4
  go_wp2_with fail
  refine q5.out.mono ?_
  rintro e w6 ⟨Q6, c6, rfl, hQ6, hb6⟩
  have hF := hide (hB.out.bel.trans ((hb15.out.trans (hb6.mono hz5)).mono (Nat.le_of_lt hzw)))
  have hQF := hide hQ6.here'
  clear q5 hQ6 hb6
  go_wp2_with fail
  go_ret
  exact ⟨Q6, c6, _, rfl, hQF.out, rnd_part y, hF.out⟩
 ·have g0 : (x == 0) = false := beq_eq_false_iff_ne.2 x0
  by_cases x1 : x = 1
  ·subst x1
   have honP := hide (fun (wx : World) (hx : Only b (b + 1) w4 wx) => Sl.only hQ4.out hx (.inr (Nat.le_refl _)))
   have hbx := hide (fun (wx : World) (hx : Only b (b + 1) w4 wx) => (hB.out.below (Only.below hb14.out hx hb1' (by omega))).box.c0)
   have hps := hide (fun (x : Int) (hx : x ∈ p) => hpp.out.range x hx)
   obtain ⟨w5, hw5⟩ : ∃ w5, w5 = w4.alloc (.cells #[] 2) := ⟨_, rfl⟩
   have hO5 : Hid (Own 1 iv w5 w4.heap.size 2 (some ⟨w4.heap.size, 0, none⟩) 0 0 []) := by show Own _ _ _ _ _ _ _ _ _; rw [hw5]; exact Own.made w4 _ (Nat.le_refl _)
   have hon5 : Hid (Only b (b + 1) w4 w5) := by show Only _ _ _ _; rw [hw5]; exact (Only.refl _ _ _).alloc' _
   have hS5 : Hid (SrcW w5 b (0 + 2)) := by show SrcW _ _ _; rw [hw5]; exact hS4.out.alloc _
   clear b0
   go_upto_region 10 with fail
   rw [← show w5 = _ from hw5]
   replace hw5 := hide hw5
   go_wp2_with fail
   go_loopw [11, 12] (fun v11 v12 wr => ∃ (k c5 : Nat) (A5 : Option Addr) (T : List Int), k ≤ N ∧ v12 = .int .i64 (k : Nat) ∧ v11 = .slice A5 k c5 ∧ Hid (Own 1 iv wr w4.heap.size 2 A5 k c5 T) ∧ Hid (SrcW wr b (2 + 2 * k)) ∧ Hid (Only b (b + 1) w4 wr)) (fun _ v _ => N - (intOf v).toNat)
   case atStart => exact ⟨0, 0, _, [], Nat.zero_le _, rfl, rfl, hO5.out, hS5.out, hon5.out⟩
   case round =>
    clear hO5 hS5 hon5
    obtain ⟨k, c5, A5, T, hk, rfl, rfl, hO, hS, hon⟩ := hrel
    have b0 := hbx.out wr hon.out
    by_cases hlt : k < N
    ·have k0 : (0 : Int) ≤ (k : Int) := by omega
     have k1 : (k : Int) < (N : Int) := by omega
     obtain ⟨gQ, oQ, pk, rfl, -, -, -, hpk, cpk, -⟩ := SlI.get (honP.out wr hon.out) hlt
     have hpr := hps.out pk (List.mem_of_getElem? hpk)
     have hm1 : IntKind.i64.wrap (2 * pk) = 2 * pk := IntWalk.i64_in _ (by omega)
     have hSS : Hid (∀ wx, Only b (b + 1) w4 wx → wx.cell? ⟨gQ, oQ + k, none⟩ = some (.int .i64 pk)) := fun wx hx => by
      obtain ⟨g2, o2, p2, e2, -, -, -, hp2, c2, -⟩ := SlI.get (honP.out wx hx) hlt
      cases e2
      rw [hpk] at hp2
      cases hp2
      exact c2
     obtain ⟨wD, hwD⟩ : ∃ wD, wD = wr.drew := ⟨_, rfl⟩
     have honD : Hid (Only b (b + 1) w4 wD) := by show Only _ _ _ _; rw [hwD]; exact hon.out.drew'
     have hOD : Hid (Own 1 iv wD w4.heap.size 2 A5 k c5 T) := by show Own _ _ _ _ _ _ _ _ _; rw [hwD]; exact hO.out.keep fun _ _ => rfl
     have hSD : Hid (SrcW wD b (2 + 2 * k)) := by show SrcW _ _ _; rw [hwD]; exact hS.out.drew
     obtain ⟨wE, hwE⟩ : ∃ wE, wE = wD.alloc (.cells #[.int .i64 0, .int .i64 0, .int .i64 0, .int .i64 1] 2) := ⟨_, rfl⟩
     have honE : Hid (Only b (b + 1) w4 wE) := by show Only _ _ _ _; rw [hwE]; exact honD.out.alloc' _
     have hOE : Hid (Own 1 iv wE w4.heap.size 2 A5 k c5 T) := by show Own _ _ _ _ _ _ _ _ _; rw [hwE]; exact hOD.out.alloc _
     have hSE : Hid (SrcW wE b (2 + 2 * k)) := by show SrcW _ _ _; rw [hwE]; exact hSD.out.alloc _
     have hlist : SlI wE wD.heap.size (wD.heap.size + 1) (some ⟨wD.heap.size, 0, none⟩) 4 [0, 0, 0, 1] := by rw [hwE]; exact Sl.litJ wD 2 [0, 0, 0, 1] _ rfl
     have hzD := honD.out.size
     have hzE := honE.out.size
     have qA := hide (among_calls b (2 + 2 * k) (some ⟨wD.heap.size, 0, none⟩) 4 4 [0, 0, 0, 1] wE _ _ hSE.out (by omega) hlist (.inr (by omega)) (by omega) (by omega))
     replace hwD := hide hwD
     replace hwE := hide hwE
     replace hpk := hide hpk
     clear hO hS hon cpk hlist hOD hSD hSE
     go_upto_region 13 with fail
     clear b0
     refine lateT_begin (S := fun w' => w'.cell? ⟨gQ, oQ + k, none⟩ = some (.int .i64 pk)) (st := 12) (by kernel_rfl) ?_
     rw [← show wD = _ from hwD.out]
     have hS0 : (fun w' : World => w'.cell? ⟨gQ, oQ + k, none⟩ = some (.int .i64 pk)) wD := hSS.out wD honD.out
     refine tkA ?_ 0 [12] rfl (Or.inl ⟨by rfl, ?hy⟩) hS0 ?_
     case hy => intro w hSw; (try dsimp only at hSw); go_simp <;> with_reducible rfl
     (try simp only [Act.put, sA, sB, sC])
     refine tkA ?_ 1 [12] rfl (Or.inl ⟨by rfl, ?hy⟩) hS0 ?_
     case hy => intro w hSw; (try dsimp only at hSw); go_simp <;> with_reducible rfl
     (try simp only [Act.put, sA, sB, sC])
     refine tkA ?_ 2 [12] rfl (Or.inl ⟨by rfl, ?hy⟩) hS0 ?_
     case hy => intro w hSw; (try dsimp only at hSw); go_simp <;> with_reducible rfl
     (try simp only [Act.put, sA, sB, sC])
     refine tkA ?_ 3 [12] rfl (Or.inl ⟨by rfl, ?hy⟩) hS0 ?_
     case hy => intro w hSw; (try dsimp only at hSw); go_simp <;> with_reducible rfl
     (try simp only [Act.put, sA, sB, sC])
     refine tkA ?_ 4 [12] rfl (Or.inl ⟨by rfl, ?hy⟩) hS0 ?_
     case hy => intro w hSw; (try dsimp only at hSw); go_simp <;> with_reducible rfl
     (try simp only [Act.put, sA, sB, sC])
     refine tkA ?_ 5 [12] rfl (Or.inl ⟨by rfl, ?hy⟩) hS0 ?_
     case hy => intro w hSw; (try dsimp only at hSw); go_simp <;> with_reducible rfl
     (try simp only [Act.put, sA, sB, sC])
     refine tkA ?_ 6 [12] rfl (Or.inl ⟨by rfl, ?hy⟩) hS0 ?_
     case hy => intro w hSw; (try dsimp only at hSw); go_simp <;> with_reducible rfl
     (try simp only [Act.put, sA, sB, sC])
     refine lateT_step (i := 7) (by kernel_rfl) rfl (fun K hK => ?_)
     go_simp
     rw [← show wE = _ from hwE.out]
     refine hK.out _ _ (fun _ => hSS.out wE honE.out) ?_
     clear hK K
     (try simp only [Act.put, sA, sB, sC])
     refine lateT_step (i := 8) (by kernel_rfl) rfl (fun K hK => ?_)
     go_simp
     go_at_call 86
     (with_reducible refine qA.out.mono ?_)
     rintro e w7 ⟨y, rfl, hy, hT7⟩
     obtain ⟨hy0, hy1⟩ : 0 ≤ y ∧ y ≤ 1 := by simp at hy; omega
     have hon7 := hide (honE.out.trans' hT7.only)
     have hc7 := hSS.out w7 hon7.out
     have hS7 := hide hT7.src
     have hO7 := hide (hOE.out.keep (w' := w7) fun g e => hT7.only.block g (hOE.out.lt g e).2 (by have := (hOE.out.lt g e).1; omega))
     have hsz7 : wE.heap.size ≤ w7.heap.size := by have := hT7.size; omega
     replace hT7 := hide hT7
     (try go_wp2_with fail)
     refine hK.out _ _ (fun _ => hc7) ?_
     clear hK K
     (try simp only [Act.put, sA, sB, sC])
     have hlit := hide (Sl.lit1' (f := iv) w7 2 (IntKind.i64.wrap (2 * pk + y)) #[.int .i64 (IntKind.i64.wrap (2 * pk + y))] rfl 1 _ rfl)
     have hO8 := hide (hO7.out.alloc (.cells #[.int .i64 (IntKind.i64.wrap (2 * pk + y))] 2))
     have hon8 := hide (hon7.out.alloc' (.cells #[.int .i64 (IntKind.i64.wrap (2 * pk + y))] 2))
     have hS8 := hide (hS7.out.alloc (.cells #[.int .i64 (IntKind.i64.wrap (2 * pk + y))] 2))
     have hc8 := hSS.out _ hon8.out
     have hza : w4.heap.size ≤ (w7.alloc (.cells #[.int .i64 (IntKind.i64.wrap (2 * pk + y))] 2)).heap.size := by rw [World.size_alloc]; omega
     have hsz : (k + 1) * 8 ≤ 140737488355328 := by omega
     have hrow := hide (fun q (e : (Value.slice A5 k c5).ownBlock = some q) => (hO8.out.lt q e).1)
     refine lateT_step (i := 9) (by kernel_rfl) rfl (fun K hK => ?_)
     go_simp
     refine hK.out _ _ (fun _ => hc7) ?_
     clear hK K
     (try simp only [Act.put, sA, sB, sC])
     refine lateT_step (i := 10) (by kernel_rfl) rfl (fun K hK => ?_)
     go_simp
     refine hK.out _ _ (fun _ => hc8) ?_
     clear hK K
     (try simp only [Act.put, sA, sB, sC])
     refine lateT_step (i := 11) (by kernel_rfl) rfl (fun K hK => ?_)
     refine step_appL (m := 1) (d := 1) (by rfl) (.tmp 38) (.tmp 48) (by rfl) hE.out flat_iv (by go_simp) hO8.out (by go_simp) hlit.out hsz hza ?_
     intro A6 c6 w6 hown6 hgr6 hb6 hat6
     have hon6 := hide (hon8.out.grow hgr6 fun q e => hrow.out q e)
     have hc6 := hSS.out w6 hon6.out
     refine hK.out _ _ (fun _ => hc6) ?_
     clear hK K
     (try simp only [Act.put, sA, sB, sC])
     refine lateT_step (i := 12) (by kernel_rfl) rfl (fun K hK => ?_)
     go_simp
     refine hK.out _ _ (fun h => absurd rfl h) ?_
     clear hK K
     (try simp only [Act.put, sA, sB, sC])
     refine lateT_done (by kernel_rfl) ?_ _
     have hT6 : Hid (Own 1 iv w6 w4.heap.size 2 A6 (k + 1) c6 (T ++ [IntKind.i64.wrap (2 * pk + y)])) := hown6
     have hS6 := hide (hS8.out.grow hgr6 fun q e => by have := hrow.out q e; omega)
     go_wp2_with fail
     go_roundw
     case rel => exact ⟨k + 1, c6, A6, _, by omega, by go_num, rfl, hT6.out, hS6.out.more (by omega), hon6.out⟩
     case measure => simp [intOf]; omega
    ·obtain rfl : k = N := by omega
     obtain ⟨N, rfl⟩ : ∃ N, N = k := ⟨_, rfl⟩
     obtain ⟨wK, rfl⟩ : ∃ wK : World, wK = wr := ⟨_, rfl⟩
     have hTl : T.length = N := hO.out.len
     have hTs := hide ((hO.out.sl flat_iv).more (Nat.zero_le _) (Nat.le_refl _))
     have hbK := hide (hB.out.bel.trans ((Only.below hb14.out hon.out hb1' (by omega)).mono (Nat.le_of_lt hzw)))
     have hzK := hbK.out.size
     obtain ⟨AT, rfl⟩ : ∃ AT, AT = A5 := ⟨_, rfl⟩
     obtain ⟨cT, rfl⟩ : ∃ cT, cT = c5 := ⟨_, rfl⟩
     obtain ⟨w9, hw9⟩ : ∃ w9, w9 = (wK.alloc (.cells #[] 2)).alloc (.cells #[] 2) := ⟨_, rfl⟩
     have hP9 : Hid (Own 1 iv w9 wK.heap.size 2 (some ⟨wK.heap.size, 0, none⟩) 0 0 []) := by show Own _ _ _ _ _ _ _ _ _; rw [hw9]; exact (Own.made wK _ (Nat.le_refl _)).alloc _
     have hQ9 : Hid (Own 1 iv w9 wK.heap.size 2 (some ⟨wK.heap.size + 1, 0, none⟩) 0 0 []) := by
      show Own _ _ _ _ _ _ _ _ _
      have := Own.made (f := iv) (size := 1) (wK.alloc (.cells #[] 2)) (base := wK.heap.size) 2 (by rw [World.size_alloc]; omega)
      rw [World.size_alloc] at this
      rw [hw9]; exact this
     have hb9 : Hid (Below wK.heap.size wK w9) := by show Below _ _ _; rw [hw9]; exact ((Below.refl _ _).alloc (Nat.le_refl _) _).alloc (by rw [World.size_alloc]; omega) _
     have hne9 : Hid (∀ g, (Value.slice (some ⟨wK.heap.size, 0, none⟩) 0 0).ownBlock = some g → (Value.slice (some ⟨wK.heap.size + 1, 0, none⟩) 0 0).ownBlock ≠ some g) := fun g e e2 => by
      have e3 : (some wK.heap.size : Option Nat) = some g := e
      have e4 : (some (wK.heap.size + 1) : Option Nat) = some g := e2
      injection e3 with e3
      injection e4 with e4
      omega
     clear hO hS hon honP hbx
     go_upto_region 16 with fail
     clear b0
     rw [← show w9 = _ from hw9]
     replace hw9 := hide hw9
     go_wp2_with fail
     go_loopw [10, 13, 14] (fun v10 v13 v14 wr => ∃ (k m2 c2 c3 : Nat) (A2 A3 : Option Addr), k ≤ N ∧ m2 ≤ k ∧ v14 = .int .i64 (k : Nat) ∧ v10 = .slice A3 k c3 ∧ v13 = .slice A2 m2 c2 ∧ Hid (Own 1 iv wr wK.heap.size 2 A3 k c3 ((normF T).take k)) ∧ Hid (Own 1 iv wr wK.heap.size 2 A2 m2 c2 (firsts [] (T.take k))) ∧ Hid (∀ g, (Value.slice A3 k c3).ownBlock = some g → (Value.slice A2 m2 c2).ownBlock ≠ some g) ∧ Hid (Below wK.heap.size wK wr)) (fun _ _ v _ => N - (intOf v).toNat)
     case atStart => exact ⟨0, 0, 0, 0, _, _, Nat.zero_le _, Nat.le_refl _, rfl, rfl, rfl, hP9.out, hQ9.out, hne9.out, hb9.out⟩
     case round =>
      clear hP9 hQ9 hne9 hb9
      obtain ⟨k, m2, c2, c3, A2, A3, hk, hm2, rfl, rfl, rfl, hP, hF, hne, hb⟩ := hrel
      by_cases hlt : k < N
      ·have k0 : (0 : Int) ≤ (k : Int) := by omega
       have k1 : (k : Int) < (N : Int) := by omega
       obtain ⟨gT, oT, x, rfl, -, -, hgT, hx, cx, -⟩ := SlI.get hTs.out hlt
       have cx2 := (hb.out.cell (p := ⟨gT, oT + k, none⟩) hgT).trans cx
       have qP := hide (l11Place_calls x A2 m2 c2 _ wr _ _ (hF.out.sl flat_iv) (by omega))
       replace hx := hide hx
       have hzr := hb.out.size
       go_upto_region 19 with fail
       go_wp2_with fail
       refine qP.out.mono ?_
       rintro e w7 ⟨i, rfl, hf, rfl⟩
       have hFl := hF.out.len
       have hst := norm_step hx.out hf
       replace hf := hide hf
       rcases hst with ⟨rfl, hf1, hv⟩ | ⟨hi0, hf1, hv⟩
       ·have hfe := hide hf1
        rw [hFl] at hv
        have hta : Hid ((normF T).take (k + 1) = (normF T).take k ++ [(m2 : Int)]) := by
         show _ = _
         rw [List.take_add_one, hv]; rfl
        replace hv := hide hv
        replace hFl := hide hFl
        clear hf1 qP
        have hlitX := hide (Sl.lit1' (f := iv) wr 2 x #[.int .i64 x] rfl 1 _ rfl)
        have hOx := hide (hF.out.alloc (.cells #[.int .i64 x] 2))
        have hPx := hide (hP.out.alloc (.cells #[.int .i64 x] 2))
        have hbX := hide (hb.out.alloc hzr (.cells #[.int .i64 x] 2))
        have hza : wK.heap.size ≤ (wr.alloc (.cells #[.int .i64 x] 2)).heap.size := by rw [World.size_alloc]; omega
        have hneX := hide (fun g (e : (Value.slice A3 k c3).ownBlock = some g) => (hP.out.lt g e).2)
        go_upto_region 22 with fail
        go_upto_region 23 with (first | (at_builtin; (with_reducible refine wpList_app rfl (.tmp 68) (.tmp 73) rfl hE.out flat_iv rfl hOx.out rfl hlitX.out ?c1 hza ?_); rotate_right; intro A6 c6 w6 hown6 hgr6 hb6 hat6))
        case c1 => omega
        rw [← hfe.out] at hown6
        have hP6 := hide (hPx.out.kept hgr6 (by
         cases e : (Value.slice A3 k c3).ownBlock with
         | none => exact .inl rfl
         | some g => exact .inr fun e2 => hne.out g e (e2 ▸ rfl)))
        have hne6 : Hid (∀ g, (Value.slice A3 k c3).ownBlock = some g → (Value.slice A6 (m2 + 1) c6).ownBlock ≠ some g) := fun g e e2 => by
         rcases hat6 with h1 | h1
         ·exact hne.out g e (by rw [← h1]; exact e2)
         ·rw [h1] at e2
          injection e2 with e2
          have := hneX.out g e
          rw [World.size_alloc] at e2
          omega
        have hb66 := hide (hbX.out.trans (hb6.mono (by omega)))
        have hF6 := hide hown6
        have hz6 := hb66.out.size
        clear hOx hPx hlitX hP hF
        have hOa := hide (hP6.out.alloc (.cells #[.int .i64 (m2 : Int)] 2))
        have hFa := hide (hF6.out.alloc (.cells #[.int .i64 (m2 : Int)] 2))
        have hlitM := hide (Sl.lit1' (f := iv) w6 2 (m2 : Int) #[.int .i64 (m2 : Int)] rfl 1 _ rfl)
        have hzb : wK.heap.size ≤ (w6.alloc (.cells #[.int .i64 (m2 : Int)] 2)).heap.size := by rw [World.size_alloc]; omega
        go_wp2_with (first | (at_builtin; (with_reducible refine wpList_app rfl (.tmp 75) (.tmp 77) rfl hE.out flat_iv rfl hOa.out rfl hlitM.out ?c1 hzb ?_); rotate_right; intro A9 c9 w10 hown9 hgr9 hb10 hat9))
        case c1 => omega
        rw [← hta.out] at hown9
        have hFb := hide (hFa.out.kept hgr9 (by
         cases e : (Value.slice A6 (m2 + 1) c6).ownBlock with
         | none => exact .inl rfl
         | some g => exact .inr fun e2 => hne6.out g e2.symm e))
        have hneF : Hid (∀ g, (Value.slice A9 (k + 1) c9).ownBlock = some g → (Value.slice A6 (m2 + 1) c6).ownBlock ≠ some g) := fun g e e2 => by
         rcases hat9 with h1 | h1
         ·exact hne6.out g (by rw [← h1]; exact e) e2
         ·rw [h1] at e
          injection e with e
          have := (hF6.out.lt g e2).2
          rw [World.size_alloc] at e
          omega
        have hbF := hide ((hb66.out.alloc hz6 _).trans hb10)
        go_wp2_with fail
        go_roundw
        case rel => exact ⟨k + 1, m2 + 1, c6, c9, A6, A9, by omega, by omega, by go_num, rfl, rfl, hown9, hFb.out, hneF.out, hbF.out⟩
        case measure => simp [intOf]; omega
       ·have hfe := hide hf1
        have hta : Hid ((normF T).take (k + 1) = (normF T).take k ++ [i]) := by
         show _ = _
         rw [List.take_add_one, hv]; rfl
        replace hv := hide hv
        replace hFl := hide hFl
        clear hf1 qP
        have i0 : ¬ i < 0 := by omega
        rw [← hfe.out] at hF
        have hOa := hide (hP.out.alloc (.cells #[.int .i64 i] 2))
        have hFa := hide (hF.out.alloc (.cells #[.int .i64 i] 2))
        have hlitM := hide (Sl.lit1' (f := iv) wr 2 i #[.int .i64 i] rfl 1 _ rfl)
        have hzb : wK.heap.size ≤ (wr.alloc (.cells #[.int .i64 i] 2)).heap.size := by rw [World.size_alloc]; omega
        have hbX := hide (hb.out.alloc hzr (.cells #[.int .i64 i] 2))
        go_upto_region 23 with fail
        go_wp2_with (first | (at_builtin; (with_reducible refine wpList_app rfl (.tmp 75) (.tmp 77) rfl hE.out flat_iv rfl hOa.out rfl hlitM.out ?c1 hzb ?_); rotate_right; intro A9 c9 w10 hown9 hgr9 hb10 hat9))
        case c1 => omega
        rw [← hta.out] at hown9
        have hFb := hide (hFa.out.kept hgr9 (by
         cases e : (Value.slice A2 m2 c2).ownBlock with
         | none => exact .inl rfl
         | some g => exact .inr fun e2 => hne.out g e2.symm e))
        have hneF : Hid (∀ g, (Value.slice A9 (k + 1) c9).ownBlock = some g → (Value.slice A2 m2 c2).ownBlock ≠ some g) := fun g e e2 => by
         rcases hat9 with h1 | h1
         ·exact hne.out g (by rw [← h1]; exact e) e2
         ·rw [h1] at e
          injection e with e
          have := (hF.out.lt g e2).2
          rw [World.size_alloc] at e
          omega
        have hbF := hide (hbX.out.trans hb10)
        go_wp2_with fail
        go_roundw
        case rel => exact ⟨k + 1, m2, c2, c9, A2, A9, by omega, by omega, by go_num, rfl, rfl, hown9, hFb.out, hneF.out, hbF.out⟩
        case measure => simp [intOf]; omega
      ·obtain rfl : k = N := by omega
       have hPs := hP.out.sl flat_iv
       rw [List.take_of_length_le (by rw [normF_len, hTl]; exact Nat.le_refl _)] at hPs
       have hF := hide (hPs.more (Nat.zero_le _) (Nat.le_refl _))
       have hbF := hide (hbK.out.trans (hb.out.mono hzK))
       have hTh := hide hTl
       have i1 : ¬ (k : Int) < (k : Int) := by omega
       clear hP hPs hTl
       go_wp2_with fail
       go_ret
       exact ⟨A3, ⟨c3, rfl⟩, _, hF.out, by have := normF_partW T; rw [hTh.out] at this; exact this, hbF.out⟩
  ·have g1 : (x == 1) = false := beq_eq_false_iff_ne.2 x1
   have hQF := hide (hQ4.out.more (Nat.zero_le _) (Nat.le_refl _))
   clear b0
   go_wp2_with fail
   go_ret
   exact ⟨Q, cQ, p, rfl, hQF.out, hpp.out, hbel.out⟩
end Go.Proofs.YtnhomkmfbngmgaaGreatDoor
