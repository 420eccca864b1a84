/-
  What is blocked at a pair, by the reference. Conditions: sizes.
-/
import Derived.Test.YtiaclddgllkgpaaGreatDoorBlkS
import Derived.Deep.RegionHeld3
namespace Go.Proofs.YtiaclddgllkgpaaGreatDoor
open Go.ChangeShapes Go.WideShapes Go.ChangeAt Go.RowKit Go.Sort
set_option linter.unusedVariables false
set_option linter.unusedSimpArgs false

/-- A grown list, begun before some other blocks were made. -/
structure OwnC {α : Type} (size : Nat) (f : α → List Value) (t : TypeId) (w1 : World) (BB : Nat) (w : World) (A : Option Addr) (m c : Nat) (l : List α) : Prop where
  own : Own size f w BB t A m c l
  at_ : ∀ g, (Value.slice A m c).ownBlock = some g → g = BB ∨ w1.heap.size ≤ g
  only : Only BB (BB + 1) w1 w
theorem OwnC.below {α : Type} {size : Nat} {f : α → List Value} {t : TypeId} {w1 w w' : World} {BB m c : Nat} {A : Option Addr} {l : List α} (h : OwnC size f t w1 BB w A m c l) (hb : Below w.heap.size w w') : OwnC size f t w1 BB w' A m c l :=
  ⟨h.own.below hb (Nat.le_refl _), h.at_, ⟨hb.os.trans h.only.os, hb.tape.trans h.only.tape, hb.output.trans h.only.output, Nat.le_trans h.only.size hb.size, fun b hb' ho => (hb.block b (Nat.lt_of_lt_of_le hb' h.only.size)).trans (h.only.block b hb' ho)⟩⟩
theorem OwnC.app {α : Type} {size : Nat} {f : α → List Value} {t : TypeId} {w1 w w' : World} {BB m c m' c' : Nat} {A A' : Option Addr} {l l' : List α} (h : OwnC size f t w1 BB w A m c l) (ho : Own size f w' BB t A' m' c' l') (hg : w.grownBy w' (Value.slice A m c).ownBlock)
    (ha : (Value.slice A' m' c').ownBlock = (Value.slice A m c).ownBlock ∨ (Value.slice A' m' c').ownBlock = some w.heap.size) : OwnC size f t w1 BB w' A' m' c' l' := by
  refine ⟨ho, fun g hg' => ?_, ⟨hg.os.trans h.only.os, hg.tape.trans h.only.tape, hg.output.trans h.only.output, Nat.le_trans h.only.size hg.size, fun b hb' hb2 => (hg.block b (Nat.lt_of_lt_of_le hb' h.only.size) fun e => ?_).trans (h.only.block b hb' hb2)⟩⟩
  · rcases ha with ha | ha
    · exact h.at_ g (by rw [← ha]; exact hg')
    · rw [ha] at hg'
      injection hg' with e
      have := h.only.size
      omega
  · have := h.at_ b e.symm
    omega

def blkE (p s : DL) (y : Int) (l : List Ed) : List Int := (l.filter fun e => !(aloOk s y (labE p.2.2.1 e))).map (·.2.1)
def blkL (p s : DL) (x y : Int) : List Int := blkE p s y (outE p.2.2.2 x)
theorem blkE_succ {p s : DL} {y : Int} {l : List Ed} {k : Nat} {e : Ed} (hx : l[k]? = some e) : blkE p s y (l.take (k + 1)) = blkE p s y (l.take k) ++ (if aloOk s y (labE p.2.2.1 e) = true then [] else [e.2.1]) := by
  unfold blkE
  rw [List.take_add_one, hx, List.filter_append, List.map_append]
  congr 1
  cases h : aloOk s y (labE p.2.2.1 e) <;> simp [h]
theorem blkE_lab (p s : DL) (y : Int) (l : List Ed) : (blkE p s y l).map (fun k => (p.2.2.1[k.toNat]?).getD ⟨#[]⟩) = prvE p s y l := by
  unfold blkE prvE
  rw [List.map_map]
  rfl

set_option maxRecDepth 100000 in
set_option maxHeartbeats 1600000 in
theorem blocked_calls (bx bp bd : Nat) (xp xs : CL) (p0 p1 : Int) (ls : List ByteArray) (es : List Ed) (ds : DL) (Ar : Option Addr) (nr cr : Nat) (R : List (Hd × List Int)) (k0 : Nat) (hd0 : Hd) (x y : Int) (w : World) (lo hi : Nat)
    (hbx : bx < w.heap.size) (c0 : w.cell? ⟨bx, 0, none⟩ = some (.pointer (some ⟨bp, 0, none⟩))) (c1 : w.cell? ⟨bx, 1, none⟩ = some (.pointer (some ⟨bd, 0, none⟩))) (c2 : w.cell? ⟨bx, 2, none⟩ = some (.slice Ar nr cr))
    (hp : LtsAt w bp xp (p0, p1, ls, es)) (hs : LtsAt w bd xs ds) (hR : Nest 1 iv w lo hi Ar nr R) (hk : R[k0]? = some (hd0, [x, y])) (hnr : nr ≤ 1048576) (hv : detV (p0, p1, ls, es) = true) (hvs : detV ds = true) :
    Calls Tryz.prog 137 #[.pointer (some ⟨bx, 0, none⟩), .int .i64 (k0 : Int)] w fun e w' => ∃ A n c, e = .returned (.slice A n c) ∧ SlI w' w.heap.size w'.heap.size A n (blkL (p0, p1, ls, es) ds x y) ∧ Below w.heap.size w w' := by
  have hE := hide elem_int
  have hlt0 : k0 < nr := by rw [← hR.len]; exact (List.getElem?_eq_some_iff.1 hk).1
  obtain ⟨br, or_, Ah, nh, ch, s, rfl, -, -, hbr, hr, pr, -, hsr, -⟩ := hR.get hlt0
  rw [hk] at hr
  obtain ⟨rfl, rfl⟩ : hd0 = (Ah, nh, ch) ∧ [x, y] = s := by injection hr with e; injection e with e1 e2; exact ⟨e1, e2⟩
  have hn2 : nh = 2 := hsr.len.symm
  subst hn2
  obtain ⟨bq, oq, vx, rfl, -, -, hbq, hx, px, -⟩ := SlI.get hsr (show 0 < 2 by omega)
  obtain ⟨bq2, oq2, vy, eB, -, -, -, hy, py, -⟩ := SlI.get hsr (show 1 < 2 by omega)
  obtain ⟨rfl, rfl⟩ : bq = bq2 ∧ oq = oq2 := by injection eB with e; injection e with e1 e2; exact ⟨e1, e2⟩
  simp at hx hy
  subst hx hy
  simp only [Nat.add_zero] at px
  obtain ⟨⟨-, -, ⟨A2, n2, k2, e2, -, -, t2⟩, -⟩, -, hbp, -, -, d2, -⟩ := id hp
  try dsimp only at e2
  rw [e2] at d2
  have hI0 : (0 : Int) ≤ (k0 : Int) := by omega
  have hI1 : (k0 : Int) < (nr : Int) := by omega
  have hA : Below w.heap.size w (w.alloc (.cells #[] 2)) := (Below.refl _ _).alloc (Nat.le_refl _) _
  have hO0 := Own.made (f := iv) (size := 1) w 2 (Nat.le_refl w.heap.size)
  have hOB : Hid (w.heap.size + 1 ≤ (w.alloc (.cells #[] 2)).heap.size) := by show _ ≤ _; rw [World.size_alloc]; exact Nat.le_refl _
  have f0 := (hA.cell (p := ⟨bx, 0, none⟩) hbx).trans c0
  have f1 := (hA.cell (p := ⟨bx, 1, none⟩) hbx).trans c1
  have f2 := (hA.cell (p := ⟨bx, 2, none⟩) hbx).trans c2
  have f3 := (hA.cell (p := ⟨bp, 2, none⟩) hbp).trans d2
  have f4 := (hA.cell (p := ⟨br, or_ + k0, none⟩) hbr).trans pr
  have f5 := (hA.cell (p := ⟨bq, oq, none⟩) hbq).trans px
  have f6 := (hA.cell (p := ⟨bq, oq + 1, none⟩) hbq).trans py
  have hbxA : bx < (w.alloc (.cells #[] 2)).heap.size := Nat.lt_of_lt_of_le hbx hA.size
  have hbrA : br < (w.alloc (.cells #[] 2)).heap.size := Nat.lt_of_lt_of_le hbr hA.size
  have hbqA : bq < (w.alloc (.cells #[] 2)).heap.size := Nat.lt_of_lt_of_le hbq hA.size
  have qo := hide (l11Out_calls bp xp (p0, p1, ls, es) x (w.alloc (.cells #[] 2)).drew (hp.below (hA.trans ((Below.refl (w.alloc (.cells #[] 2)).heap.size _).drew.mono hA.size)) (Nat.le_refl _)))
  have qg := hide fun (lab : ByteArray) W (hW : Below w.heap.size w W) => l29Go_calls bd xs ds y lab W (hs.below hW (Nat.le_refl _)) hvs
  replace t2 := hide t2
  replace hA := hide hA
  replace hO0 := hide hO0
  have c0' := hide c0
  have c1' := hide c1
  have c2' := hide c2
  have d2' := hide d2
  have pr' := hide pr
  have py' := hide py
  clear hk hR hsr hr eB c0 c1 c2 d2 pr px py
  go_enter Tryz.func137, Tryz.ntmps137
  go_upto_region 2 with fail
  go_cut [6] (fun l wx => ∃ (Ao : Option Addr) (no co : Nat), l = .slice Ao no co ∧ SlE wx (w.alloc (.cells #[] 2)).heap.size wx.heap.size Ao no (outE es x) ∧ Below (w.alloc (.cells #[] 2)).heap.size (w.alloc (.cells #[] 2)) wx)
  case first =>
    go_region_held3 (fun w' => w'.cell? ⟨bx, 0, none⟩ = some (.pointer (some ⟨bp, 0, none⟩)) ∧ w'.cell? ⟨bx, 2, none⟩ = some (.slice (some ⟨br, or_, none⟩) nr cr) ∧ w'.cell? ⟨br, or_ + k0, none⟩ = some (.slice (some ⟨bq, oq, none⟩) 2 ch) ∧ w'.cell? ⟨bq, oq, none⟩ = some (.int .i64 x)) (first | exact ⟨f0, f2, f4, f5⟩ | exact ⟨g0, g2, g4, g5⟩ | go_keep)
      (first | (go_at_call 87; (with_reducible refine qo.out.mono ?_); rintro e w5 ⟨Ao, no, co, rfl, ho, hno, hb5⟩; have g0 := (hb5.cell (p := ⟨bx, 0, none⟩) hbxA).trans f0; have g2 := (hb5.cell (p := ⟨bx, 2, none⟩) hbxA).trans f2; have g4 := (hb5.cell (p := ⟨br, or_ + k0, none⟩) hbrA).trans f4; have g5 := (hb5.cell (p := ⟨bq, oq, none⟩) hbqA).trans f5; replace ho := hide ho; replace hb5 := hide hb5))
    all_goals (go_wp2_with fail; go_meet)
    all_goals exact ⟨Ao, no, co, rfl, ho.out, (Below.refl _ _).drew.trans hb5.out⟩
  case rest =>
  obtain ⟨Ao, no, co, rfl, ho, hb1⟩ := hcut
  generalize wc = w1 at *
  have hlen := ho.len
  have hfew := out_few hv x
  rw [hlen] at hfew
  have hmemE : ∀ e ∈ outE es x, e ∈ es := fun e he => (List.mem_filter.1 he).1
  have hlab : ∀ e ∈ outE es x, ls[e.2.1.toNat]? = some (labE ls e) := fun e he => labE_at hv (hmemE e he)
  have hlr : ∀ e ∈ outE es x, 0 ≤ e.2.1 ∧ e.2.1 < (n2 : Int) := fun e he => by
    have := det_first hv e (hmemE e he)
    have h9 : ls.length = n2 := t2.out.len
    omega
  have hstart : Hid (OwnC 1 iv 2 w1 w.heap.size w1 (some ⟨w.heap.size, 0, none⟩) 0 0 []) := ⟨hO0.out.below hb1 (Nat.le_refl _), fun g hg' => by injection hg' with e; exact .inl e.symm, Only.refl _ _ _⟩
  have hbw1 := hide (hA.out.trans (hb1.mono hA.out.size))
  have hOW : Hid ((w.alloc (.cells #[] 2)).heap.size ≤ w1.heap.size) := hb1.size
  replace hlen := hide hlen
  replace ho := hide ho
  replace hlab := hide hlab
  replace hlr := hide hlr
  clear hb1 hO0 qo hmemE f0 f1 f2 f3 f4 f5 f6
  generalize (w.alloc (.cells #[] 2)) = wA at *
  go_upto_region 4 with fail
  go_loopg [5, 7] no (fun G v i wr => ∃ (j m c : Nat) (A : Option Addr), j ≤ no ∧ m ≤ j ∧ v = .slice A m c ∧ i = .int .i64 (j : Nat) ∧ Hid (OwnC 1 iv 2 w1 w.heap.size wr A m c (blkE (p0, p1, ls, es) ds y ((outE es x).take j))) ∧ Hid (no - j ≤ G))
  case atStart => exact ⟨0, 0, 0, _, Nat.zero_le _, Nat.le_refl _, rfl, rfl, hstart, by show _ ≤ _; omega⟩
  case round =>
    clear hstart
    obtain ⟨j, m, c', A', hj, hmj, rfl, rfl, hown, hG2⟩ := hrel
    have hbx2 := Only.below hbw1.out hown.out.only (Nat.le_refl _) hbw1.out.size
    by_cases hlt : j < no
    · obtain ⟨G3, rfl⟩ : ∃ G3, gk = G3 + 1 := ⟨gk - 1, by have := hG2.out; omega⟩
      have hG3 : Hid (no - (j + 1) ≤ G3) := by have := hG2.out; show _ ≤ _; omega
      obtain ⟨b5, o5, f, lb, tg, rfl, -, -, g5, hx, a0, a1, a2, -, -, -⟩ := SlE.get (Sl.only ho.out hown.out.only (.inr hOB.out)) hlt
      have hl1 := hlab.out _ (List.mem_of_getElem? hx)
      have hl2 := hlr.out _ (List.mem_of_getElem? hx)
      dsimp only at hl1 hl2
      have hsu := blkE_succ (p := (p0, p1, ls, es)) (s := ds) (y := y) hx
      dsimp only at hsu
      generalize labE ls (f, lb, tg) = lab at *
      have hln : lb.toNat < n2 := by omega
      have hl0 : (0 : Int) ≤ lb := hl2.1
      have hl9 : lb < (n2 : Int) := hl2.2
      obtain ⟨b6, o6, r6, rfl, -, -, g6, hr6, p6, -⟩ := SlS.get (t2.out.below hbx2 (.inr (by omega))) hln
      rw [hl1] at hr6
      obtain rfl := Option.some.inj hr6
      have x0 := (hbx2.cell (p := ⟨bx, 0, none⟩) hbx).trans c0'.out
      have x1 := (hbx2.cell (p := ⟨bx, 1, none⟩) hbx).trans c1'.out
      have x2 := (hbx2.cell (p := ⟨bx, 2, none⟩) hbx).trans c2'.out
      have x3 := (hbx2.cell (p := ⟨bp, 2, none⟩) (by omega)).trans d2'.out
      have x4 := (hbx2.cell (p := ⟨br, or_ + k0, none⟩) (by omega)).trans pr'.out
      have x6 := (hbx2.cell (p := ⟨bq, oq + 1, none⟩) (by omega)).trans py'.out
      have hJ0 : (0 : Int) ≤ (j : Int) := by omega
      have hJ1 : (j : Int) < (no : Int) := by omega
      have qd := hide (qg.out lab _ hbx2.drew)
      have gbx : bx < wr.heap.size := Nat.lt_of_lt_of_le hbx hbx2.size
      have gbp : bp < wr.heap.size := Nat.lt_of_lt_of_le hbp hbx2.size
      have gbr : br < wr.heap.size := Nat.lt_of_lt_of_le hbr hbx2.size
      have gbq : bq < wr.heap.size := Nat.lt_of_lt_of_le hbq hbx2.size
      have hbs := hbx2.size
      replace hbx2 := hide hbx2
      clear hx hl1 hl2 hr6
      go_upto_region 6 with fail
      go_cut [8, 9] (fun a b wx => ∃ v : Int, a = .int .i64 v ∧ b = .bool (aloOk ds y lab) ∧ Below wr.heap.size wr wx)
      case first =>
        go_region_held3 (fun w' => w'.cell? ⟨bx, 0, none⟩ = some (.pointer (some ⟨bp, 0, none⟩)) ∧ w'.cell? ⟨bx, 1, none⟩ = some (.pointer (some ⟨bd, 0, none⟩)) ∧ w'.cell? ⟨bx, 2, none⟩ = some (.slice (some ⟨br, or_, none⟩) nr cr) ∧ w'.cell? ⟨bp, 2, none⟩ = some (.slice (some ⟨b6, o6, none⟩) n2 k2) ∧ w'.cell? ⟨br, or_ + k0, none⟩ = some (.slice (some ⟨bq, oq, none⟩) 2 ch) ∧ w'.cell? ⟨bq, oq + 1, none⟩ = some (.int .i64 y) ∧ w'.cell? ⟨b5, o5 + j * 3 + 1, none⟩ = some (.int .i64 lb) ∧ w'.cell? ⟨b6, o6 + lb.toNat, none⟩ = some (.string lab)) (first | exact ⟨x0, x1, x2, x3, x4, x6, a1, p6⟩ | exact ⟨v0, v1, v2, v3, v4, v6, u1, u6⟩ | go_keep)
          (first | (go_at_call 86; (with_reducible refine qd.out.mono ?_); rintro e w6 ⟨va, rfl, -, hb6⟩; have v0 := (hb6.cell (p := ⟨bx, 0, none⟩) gbx).trans x0; have v1 := (hb6.cell (p := ⟨bx, 1, none⟩) gbx).trans x1; have v2 := (hb6.cell (p := ⟨bx, 2, none⟩) gbx).trans x2; have v3 := (hb6.cell (p := ⟨bp, 2, none⟩) gbp).trans x3; have v4 := (hb6.cell (p := ⟨br, or_ + k0, none⟩) gbr).trans x4; have v6 := (hb6.cell (p := ⟨bq, oq + 1, none⟩) gbq).trans x6; have u1 := (hb6.cell (p := ⟨b5, o5 + j * 3 + 1, none⟩) g5).trans a1; have u6 := (hb6.cell (p := ⟨b6, o6 + lb.toNat, none⟩) g6).trans p6; replace hb6 := hide hb6))
        all_goals (go_wp2_with fail; go_meet)
        all_goals exact ⟨va, rfl, rfl, (Below.refl wr.heap.size wr).drew.trans hb6.out⟩
      case rest =>
      obtain ⟨va, rfl, rfl, hb6⟩ := hcut
      generalize wc = w6 at *
      have hown4 := hide (hown.out.below hb6)
      have y1 := (hb6.cell (p := ⟨_, _, none⟩) g5).trans a1
      clear hown qd hb6 a0 a1 a2 p6 x0 x1 x2 x3 x4 x6
      cases hok : aloOk ds y lab with
      | true =>
        rw [hok, if_pos rfl, List.append_nil] at hsu
        replace hsu := hide hsu
        clear hok
        have hown5 : Hid (OwnC 1 iv 2 w1 w.heap.size w6 A' m c' (blkE (p0, p1, ls, es) ds y ((outE es x).take (j + 1)))) := by show OwnC _ _ _ _ _ _ _ _ _ _; rw [hsu.out]; exact hown4.out
        clear hown4
        go_wp2_with fail
        go_roundg G3
        case measure => omega
        case rel => exact ⟨j + 1, m, c', A', by omega, by omega, rfl, by go_num, hown5, hG3⟩
      | false =>
        rw [hok, if_neg (by decide)] at hsu
        replace hsu := hide hsu
        clear hok
        have hownA := hown4.out.below ((Below.refl _ _).alloc (Nat.le_refl _) (.cells #[.int .i64 lb] 2))
        have hza : w.heap.size ≤ (w6.alloc (.cells #[.int .i64 lb] 2)).heap.size := by have h1 := hown4.out.only.size; have h2 := hOB.out; have h3 := hOW.out; rw [World.size_alloc]; omega
        replace hownA := hide hownA
        clear hown4
        go_wp2_with (first | (at_builtin; (with_reducible refine wpList_app rfl (.tmp 67) (.tmp 73) rfl hE.out flat_iv rfl hownA.out.own rfl (Sl.lit1' w6 2 lb _ rfl 1 _ ?c0) ?c1 hza ?_); rotate_right; intro A7 c7 w7 hown7 hgr7 hb7 hat7))
        case c0 => rfl
        case c1 => omega
        have hown8 := hownA.out.app hown7 hgr7 hat7
        replace hown8 : Hid (OwnC 1 iv 2 w1 w.heap.size w7 A7 (m + 1) c7 (blkE (p0, p1, ls, es) ds y ((outE es x).take (j + 1)))) := by show OwnC _ _ _ _ _ _ _ _ _ _; rw [hsu.out]; exact hown8
        clear hown7 hgr7 hb7 hat7 hownA
        go_roundg G3
        case measure => omega
        case rel => exact ⟨j + 1, m + 1, c7, A7, by omega, by omega, rfl, by go_num, hown8, hG3⟩
    · have hjn : j = no := by omega
      subst hjn
      have hall : (outE es x).take j = outE es x := List.take_of_length_le (by rw [hlen.out]; exact Nat.le_refl _)
      rw [hall] at hown
      have hsl := hide (hown.out.own.sl flat_iv)
      replace hbx2 := hide hbx2
      clear hown hall
      go_wp2_with fail
      go_ret
      exact ⟨A', m, c', rfl, hsl.out, hbx2.out⟩

end Go.Proofs.YtiaclddgllkgpaaGreatDoor
