/-
  Several texts in one:
  The system that is least for branching bisimulation, by the
  MinimalBranching as a valid system. Conditions: sizes.
  The least system for branching bisimilarity has no more
  A choice between two that an input makes at its place 40.
  Bytes as an argument of a law. Conditions: none.
  The law FnBranching returns true for every input: the classes
  Monitors as arguments of a law: words, sizes, copying,
  What the rows' condition on the library's variables gives a
  Closed facts of the whole program, and the rows' condition in
-/
import Derived.Test.YtnhomkmfbngmgaaGreatDoorBaseA
import Derived.Test.YtnhomkmfbngmgaaGreatDoorBaseB
import Derived.Test.YtnhomkmfbngmgaaGreatDoorBaseC
import Derived.Test.YtnhomkmfbngmgaaGreatDoorBaseD
import Derived.Test.YtnhomkmfbngmgaaGreatDoorBaseJ
import Derived.Test.YtnhomkmfbngmgaaGreatDoorBaseK
import Derived.Test.YtnhomkmfbngmgaaGreatDoorBaseN
import Derived.Test.YtnhomkmfbngmgaaGreatDoorBaseP
import Derived.Deep.CutBlock
import Derived.Test.YtnhomkmfbngmgaaGreatDoorTie
import Derived.Test.YtnhomkmfbngmgaaGreatDoorCards
set_option linter.unusedSimpArgs false
set_option linter.unusedVariables false
namespace Go.Proofs.YtnhomkmfbngmgaaGreatDoor
open Go.ChangeShapes Go.WideShapes Go.ChangeAt Go.RowKit Go.Sort Go.Lib
set_option linter.unusedVariables false
set_option linter.unusedSimpArgs false

set_option maxRecDepth 100000 in
set_option maxHeartbeats 6400000 in
theorem minimalB_calls {w : World} {N ini : Nat} {A : Option Addr} {n : Nat} {B : Option Addr} {m : Nat} {ls : List ByteArray} {es : List Ed} (h : SysA w N ini A n B m ls es) (c d : Nat) (dv : Bool) (R : List Int) (hR : R = reachF N es (ini : Int)) (hiR : (ini : Int) ∈ R) :
  Calls Tryz.prog 105 #[.agg #[.int .i64 (N : Int), .int .i64 (ini : Int), .slice A n c, .slice B m d], .bool dv] w fun e w' => ∃ r A2 c2 A3 n3 c3, LastG (refB (partF R es) R.length dv) R.length r ∧ e = .returned (.agg #[.int .i64 ((numB (itP (refB (partF R es) R.length dv) R.length r) : Nat) : Int), .int .i64 (pv (itP (refB (partF R es) R.length dv) R.length r) (posZ R (ini : Int))), .slice A2 n c2, .slice A3 n3 c3]) ∧ SlS w' w.heap.size w'.heap.size A2 n ls ∧ SlE w' w.heap.size w'.heap.size A3 n3 (quoB (partF R es) R.length dv (itP (refB (partF R es) R.length dv) R.length r)) ∧ Below w.heap.size w w' := by
 obtain ⟨hm, hn12, hn1, hle, hll⟩ := h.many
 obtain ⟨⟨hN1, hN2⟩, hini⟩ := h.bounds
 obtain ⟨E1, hE1⟩ : ∃ E1, E1 = partF R es := ⟨_, rfl⟩
 have hRn : R.Nodup := by rw [hR]; exact reach_nodup
 obtain ⟨wB, hwB⟩ : ∃ wB, wB = w.alloc (ltsC N ini A n c B m d) := ⟨_, rfl⟩
 have zB : wB.heap.size = w.heap.size + 1 := by rw [hwB]; exact World.size_alloc _ _
 have bB : Below w.heap.size w wB := by rw [hwB]; exact (Below.refl w.heap.size w).alloc (Nat.le_refl _) _
 have xB : LtsBox wB w.heap.size (N : Int) (ini : Int) A n c B m d := by rw [hwB]; exact heap_alloc_new w _
 obtain ⟨w1, hw1⟩ : ∃ w1, w1 = wB.alloc (.cells #[.int .i64 0, .int .i64 0, .slice none 0 0, .slice none 0 0] 27) := ⟨_, rfl⟩
 have hbel1 : Below wB.heap.size wB w1 := by rw [hw1]; exact (Below.refl _ _).alloc (Nat.le_refl _) _
 have hr1 : LtsBox w1 wB.heap.size 0 0 none 0 0 none 0 0 := by rw [hw1]; exact heap_alloc_new wB _
 have hAll : ∀ wx, Below wB.heap.size wB wx → SysA wx N ini A n B m ls es ∧ LtsBox wx w.heap.size (N : Int) (ini : Int) A n c B m d ∧ Below w.heap.size w wx := fun wx hx =>
  ⟨h.below (bB.trans (hx.mono bB.size)) (Nat.le_refl _), xB.below hx (by omega), bB.trans (hx.mono bB.size)⟩
 replace hAll := hide hAll
 replace zB := hide zB
 replace hbel1 := hide hbel1
 replace hr1 := hide hr1
 replace hE1 := hide hE1
 replace hR := hide hR
 have hbBh := hide bB
 clear bB xB h
 go_enter Tryz.func105, Tryz.ntmps105
 go_upto_region 1 with fail
 rw [show ((w.alloc (.cells #[.int .i64 (N : Int), .int .i64 (ini : Int), .slice A n c, .slice B m d] 27)).alloc (.cells #[.int .i64 0, .int .i64 0, .slice none 0 0, .slice none 0 0] 27)) = w1 from by rw [hw1, hwB]]
 replace hw1 := hide hw1
 replace hwB := hide hwB
 obtain ⟨w2, rfl⟩ : ∃ w2 : World, w2 = w1 := ⟨_, rfl⟩
 have hbB2 := hbel1
 have hr2 := hr1
 have hSS : Hid (∀ wx, Below w2.heap.size w2 wx → wx.cell? ⟨w.heap.size, 0, none⟩ = some (.int .i64 (N : Int)) ∧ wx.cell? ⟨w.heap.size, 1, none⟩ = some (.int .i64 (ini : Int)) ∧ wx.cell? ⟨w.heap.size, 2, none⟩ = some (.slice A n c) ∧ wx.cell? ⟨w.heap.size, 3, none⟩ = some (.slice B m d)) := fun wx hx => by
  obtain ⟨-, y, -⟩ := hAll.out wx (hbB2.out.trans (hx.mono hbB2.out.size))
  exact ⟨y.c0, y.c1, y.c2, y.c3⟩
 have hRe : Hid (∀ wx, Below w2.heap.size w2 wx → Calls Tryz.prog 58 #[.agg #[.int .i64 (N : Int), .int .i64 (ini : Int), .slice A n c, .slice B m d]] wx fun e w' => ∃ A m c, e = .returned (.slice A m c) ∧ SlI w' wx.heap.size w'.heap.size A m R ∧ Below wx.heap.size wx w') := fun wx hx => by
  obtain ⟨y, -, -⟩ := hAll.out wx (hbB2.out.trans (hx.mono hbB2.out.size))
  refine (reachable_calls N ini _ B m d es wx _ _ y.se (by omega) hN1 hN2 hini ⟨_, _, _, rfl⟩ y.ends).mono ?_
  rintro e w' ⟨A, m, c, rfl, h1, -, -, h2⟩
  rw [← hR.out] at h1
  exact ⟨A, m, c, rfl, h1, h2⟩
 have hRl : R.length ≤ 40 := by
  rw [hR.out]
  unfold reachF
  rw [List.length_map]
  exact Nat.le_trans (List.length_filter_le _ _) (by rw [List.length_range]; exact hN2)
 have hPa : Hid (∀ wx AR mR cR, Below w2.heap.size w2 wx → SlI wx 0 wx.heap.size AR mR R → Calls Tryz.prog 59 #[.agg #[.int .i64 (N : Int), .int .i64 (ini : Int), .slice A n c, .slice B m d], .slice AR mR cR] wx fun e w' => ∃ A2 c2 A3 n3 c3, e = .returned (.agg #[.int .i64 (mR : Int), .int .i64 (posZ R (ini : Int)), .slice A2 n c2, .slice A3 n3 c3]) ∧ SlS w' wx.heap.size w'.heap.size A2 n ls ∧ SlE w' wx.heap.size w'.heap.size A3 n3 E1 ∧ Below wx.heap.size wx w') := fun wx AR mR cR hx hs => by
  obtain ⟨y, -, -⟩ := hAll.out wx (hbB2.out.trans (hx.mono hbB2.out.size))
  rw [hE1.out]
  have := hs.len
  exact part_calls y c d AR mR cR _ _ R hs (Nat.le_refl _) (by omega) hRn
 go_cut [5] (fun v4 wx => ∃ b A2 c2 A3 n3 c3 mR, v4 = .pointer (some ⟨b, 0, none⟩) ∧ R.length = mR ∧ Hid (MinF w2 wx ls E1 b (mR : Int) (posZ R (ini : Int)) A2 n c2 A3 n3 c3))
 case first =>
  refine lateT_begin (S := fun w' => w'.cell? ⟨w.heap.size, 0, none⟩ = some (.int .i64 (N : Int)) ∧ w'.cell? ⟨w.heap.size, 1, none⟩ = some (.int .i64 (ini : Int)) ∧ w'.cell? ⟨w.heap.size, 2, none⟩ = some (.slice A n c) ∧ w'.cell? ⟨w.heap.size, 3, none⟩ = some (.slice B m d)) (st := 5) (by kernel_rfl) ?_
  have hD := (MinW.start w2 ls R E1).drew
  generalize w2.drew = wA at *
  have hS0 := hSS.out _ hD.below
  refine tkA ?_ 0 [5] rfl (Or.inl ⟨by rfl, ?hy⟩) hS0 ?_
  case hy => (intro w9 hSw; obtain ⟨s0, s1, s2, s3⟩ := hSw; go_simp <;> with_reducible rfl)
  (try simp only [Act.put, sA, sB, sC])
  refine tkA ?_ 1 [5] rfl (Or.inl ⟨by rfl, ?hy⟩) hS0 ?_
  case hy => (intro w9 hSw; obtain ⟨s0, s1, s2, s3⟩ := hSw; go_simp <;> with_reducible rfl)
  (try simp only [Act.put, sA, sB, sC])
  refine lateT_two (i := 2) (j := 4) (by kernel_rfl) rfl rfl (fun K hK => ?_) (fun K hK => ?_)
  ·go_simp
   go_at_call 58; (with_reducible refine (hRe.out _ hD.below).mono ?_); rintro e wA ⟨AR, mR, cR, rfl, hR6, hb6⟩
   replace hD := hD.reach hb6 hR6
   clear hR6 hb6
   (try go_wp2_with fail)
   refine hK.out _ _ (fun _ => hSS.out _ hD.below) ?_
   clear hK K
   (try simp only [Act.put, sA, sB, sC])
   refine lateT_two (i := 3) (j := 4) (by kernel_rfl) rfl rfl (fun K hK => ?_) (fun K hK => ?_)
   ·go_simp
    have hqP := hPa.out _ AR mR cR hD.below (hD.rch _ rfl)
    go_at_call 59; (with_reducible refine hqP.mono ?_); rintro e wA ⟨A2, c2, A3, n3, c3, rfl, hS6, hE6, hb6⟩
    replace hD := hD.part (c := c2) (d := c3) hb6 hS6 hE6
    clear hS6 hE6 hb6 hqP
    (try go_wp2_with fail)
    refine hK.out _ _ (fun _ => hSS.out _ hD.below) ?_
    clear hK K
    (try simp only [Act.put, sA, sB, sC])
    refine lateT_step (i := 4) (by kernel_rfl) rfl (fun K hK => ?_)
    go_simp
    replace hD := hD.alloc
    refine hK.out _ _ (fun _ => hSS.out _ hD.below) ?_
    clear hK K
    (try simp only [Act.put, sA, sB, sC])
    generalize wA.alloc (.cells #[.int .i64 0, .int .i64 0, .slice none 0 0, .slice none 0 0] 27) = wA at *
    refine lateT_step (i := 5) (by kernel_rfl) rfl (fun K hK => ?_)
    have hbx := (hD.box _ rfl).2
    have z0 := hbx.c0
    have z1 := hbx.c1
    have z2 := hbx.c2
    have z3 := hbx.c3
    have f0 := hbx.f0
    have f1 := hbx.f1
    have f2 := hbx.f2
    have f3 := hbx.f3
    go_simp
    refine hK.out _ _ (fun h => absurd rfl h) ?_
    clear hK K
    (try simp only [Act.put, sA, sB, sC])
    refine lateT_done (by kernel_rfl) ?_ _
    have hM := hD.fill (mR : Int) (posZ R (ini : Int))
    have hmR := (hD.rch _ rfl).len
    go_wp2_with fail
    go_meet
    exact ⟨_, _, _, _, _, _, _, rfl, hmR, hide hM⟩
   ·go_simp
    replace hD := hD.alloc
    refine hK.out _ _ (fun _ => hSS.out _ hD.below) ?_
    clear hK K
    (try simp only [Act.put, sA, sB, sC])
    generalize wA.alloc (.cells #[.int .i64 0, .int .i64 0, .slice none 0 0, .slice none 0 0] 27) = wA at *
    refine lateT_step (i := 3) (by kernel_rfl) rfl (fun K hK => ?_)
    go_simp
    have hqP := hPa.out _ AR mR cR hD.below (hD.rch _ rfl)
    go_at_call 59; (with_reducible refine hqP.mono ?_); rintro e wA ⟨A2, c2, A3, n3, c3, rfl, hS6, hE6, hb6⟩
    replace hD := hD.part (c := c2) (d := c3) hb6 hS6 hE6
    clear hS6 hE6 hb6 hqP
    (try go_wp2_with fail)
    refine hK.out _ _ (fun _ => hSS.out _ hD.below) ?_
    clear hK K
    (try simp only [Act.put, sA, sB, sC])
    refine lateT_step (i := 5) (by kernel_rfl) rfl (fun K hK => ?_)
    have hbx := (hD.box _ rfl).2
    have z0 := hbx.c0
    have z1 := hbx.c1
    have z2 := hbx.c2
    have z3 := hbx.c3
    have f0 := hbx.f0
    have f1 := hbx.f1
    have f2 := hbx.f2
    have f3 := hbx.f3
    go_simp
    refine hK.out _ _ (fun h => absurd rfl h) ?_
    clear hK K
    (try simp only [Act.put, sA, sB, sC])
    refine lateT_done (by kernel_rfl) ?_ _
    have hM := hD.fill (mR : Int) (posZ R (ini : Int))
    have hmR := (hD.rch _ rfl).len
    go_wp2_with fail
    go_meet
    exact ⟨_, _, _, _, _, _, _, rfl, hmR, hide hM⟩
  ·go_simp
   replace hD := hD.alloc
   refine hK.out _ _ (fun _ => hSS.out _ hD.below) ?_
   clear hK K
   (try simp only [Act.put, sA, sB, sC])
   generalize wA.alloc (.cells #[.int .i64 0, .int .i64 0, .slice none 0 0, .slice none 0 0] 27) = wA at *
   refine lateT_step (i := 2) (by kernel_rfl) rfl (fun K hK => ?_)
   go_simp
   go_at_call 58; (with_reducible refine (hRe.out _ hD.below).mono ?_); rintro e wA ⟨AR, mR, cR, rfl, hR6, hb6⟩
   replace hD := hD.reach hb6 hR6
   clear hR6 hb6
   (try go_wp2_with fail)
   refine hK.out _ _ (fun _ => hSS.out _ hD.below) ?_
   clear hK K
   (try simp only [Act.put, sA, sB, sC])
   refine lateT_step (i := 3) (by kernel_rfl) rfl (fun K hK => ?_)
   go_simp
   have hqP := hPa.out _ AR mR cR hD.below (hD.rch _ rfl)
   go_at_call 59; (with_reducible refine hqP.mono ?_); rintro e wA ⟨A2, c2, A3, n3, c3, rfl, hS6, hE6, hb6⟩
   replace hD := hD.part (c := c2) (d := c3) hb6 hS6 hE6
   clear hS6 hE6 hb6 hqP
   (try go_wp2_with fail)
   refine hK.out _ _ (fun _ => hSS.out _ hD.below) ?_
   clear hK K
   (try simp only [Act.put, sA, sB, sC])
   refine lateT_step (i := 5) (by kernel_rfl) rfl (fun K hK => ?_)
   have hbx := (hD.box _ rfl).2
   have z0 := hbx.c0
   have z1 := hbx.c1
   have z2 := hbx.c2
   have z3 := hbx.c3
   have f0 := hbx.f0
   have f1 := hbx.f1
   have f2 := hbx.f2
   have f3 := hbx.f3
   go_simp
   refine hK.out _ _ (fun h => absurd rfl h) ?_
   clear hK K
   (try simp only [Act.put, sA, sB, sC])
   refine lateT_done (by kernel_rfl) ?_ _
   have hM := hD.fill (mR : Int) (posZ R (ini : Int))
   have hmR := (hD.rch _ rfl).len
   go_wp2_with fail
   go_meet
   exact ⟨_, _, _, _, _, _, _, rfl, hmR, hide hM⟩
 case rest =>
  obtain ⟨b, A2, c2, A3, n3, c3, mR, rfl, hmR, hF⟩ := hcut
  have hbBc := hbB2.out.trans (hF.out.below.mono hbB2.out.size)
  have hW := (hAll.out _ hbBc).1
  obtain ⟨hpv, hp0⟩ := part_valid (S := R) hW.ok hRn hRl hiR
  obtain ⟨iR, hiRe⟩ : ∃ iR : Nat, posZ R (ini : Int) = (iR : Int) := ⟨(posZ R (ini : Int)).toNat, by omega⟩
  rw [hiRe, ← hE1.out, hmR] at hpv
  rw [hiRe] at hF
  have hSc : SysA wc mR iR A2 n A3 n3 ls E1 := ⟨hF.out.ss, hF.out.se, hpv, hW.sz⟩
  obtain ⟨wD, hwD⟩ : ∃ wD, wD = wc.drew := ⟨_, rfl⟩
  have hbD : Below wc.heap.size wc wD := by rw [hwD]; exact (Below.refl _ _).drew
  have hSy : Hid (∀ wx, Below wD.heap.size wD wx → SysA wx mR iR A2 n A3 n3 ls E1) := fun wx hx => hSc.below (hbD.trans (hx.mono hbD.size)) (Nat.le_refl _)
  have hSD : Hid (∀ wx, Below wD.heap.size wD wx → wx.cell? ⟨b, 0, none⟩ = some (.int .i64 (mR : Int)) ∧ wx.cell? ⟨b, 1, none⟩ = some (.int .i64 (iR : Int)) ∧ wx.cell? ⟨b, 2, none⟩ = some (.slice A2 n c2) ∧ wx.cell? ⟨b, 3, none⟩ = some (.slice A3 n3 c3)) := fun wx hx => by
   have y := hF.out.box.below (hbD.trans (hx.mono hbD.size)) hF.out.box.lt
   exact ⟨y.c0, y.c1, y.c2, y.c3⟩
  have hrD : Hid (LtsBox wD (w.heap.size + 1) 0 0 none 0 0 none 0 0) := by
   show LtsBox _ _ _ _ _ _ _ _ _ _
   have y := hr2.out.below hF.out.below hr2.out.lt
   have y2 := y.below hbD y.lt
   rwa [zB.out] at y2
  have hbne : b ≠ w.heap.size + 1 := by
   have := hF.out.base
   have := hr2.out.lt
   have := zB.out
   omega
  have hmb := (hSy.out _ (Below.refl _ _)).bounds
  have hqS := hide (branching_calls (hSy.out _ (Below.refl _ _)) c2 c3 dv)
  have hbwD := hide (hbBh.out.trans ((hbBc.trans (hbD.mono hbBc.size)).mono hbBh.out.size))
  replace hwD := hide hwD
  replace hmR := hide hmR
  replace hiRe := hide hiRe
  clear hSS hRe hPa hF hSc hbD hbBc hW hpv hp0
  go_upto_region 2 with fail
  refine lateT_begin (S := fun w' => w'.cell? ⟨b, 0, none⟩ = some (.int .i64 (mR : Int)) ∧ w'.cell? ⟨b, 1, none⟩ = some (.int .i64 (iR : Int)) ∧ w'.cell? ⟨b, 2, none⟩ = some (.slice A2 n c2) ∧ w'.cell? ⟨b, 3, none⟩ = some (.slice A3 n3 c3)) (st := 6) (by kernel_rfl) ?_
  rw [← show wD = _ from hwD.out]
  have hS0 : (fun w' : World => w'.cell? ⟨b, 0, none⟩ = some (.int .i64 (mR : Int)) ∧ w'.cell? ⟨b, 1, none⟩ = some (.int .i64 (iR : Int)) ∧ w'.cell? ⟨b, 2, none⟩ = some (.slice A2 n c2) ∧ w'.cell? ⟨b, 3, none⟩ = some (.slice A3 n3 c3)) wD := hSD.out _ (Below.refl _ _)
  refine tkA ?_ 0 [6] rfl (Or.inl ⟨by rfl, ?hy⟩) hS0 ?_
  case hy => intro w hSw; (try dsimp only at hSw); go_simp <;> with_reducible rfl
  (try simp only [Act.put, sA, sB, sC])
  refine tkA ?_ 1 [6] rfl (Or.inl ⟨by rfl, ?hy⟩) hS0 ?_
  case hy => intro w hSw; (try dsimp only at hSw); go_simp <;> with_reducible rfl
  (try simp only [Act.put, sA, sB, sC])
  refine tkA ?_ 2 [6] rfl (Or.inl ⟨by rfl, ?hy⟩) hS0 ?_
  case hy => intro w hSw; (try dsimp only at hSw); go_simp <;> with_reducible rfl
  (try simp only [Act.put, sA, sB, sC])
  refine tkA ?_ 4 [6] rfl (Or.inl ⟨by rfl, ?hy⟩) hS0 ?_
  case hy => intro w hSw; (try dsimp only at hSw); go_simp <;> with_reducible rfl
  (try simp only [Act.put, sA, sB, sC])
  refine lateT_step (i := 3) (by kernel_rfl) rfl (fun K hK => ?_)
  go_simp
  go_at_call 107
  (with_reducible refine hqS.out.mono ?_)
  rintro e w5 ⟨r, P, cP, rfl, hLr, hP5, hb5, -⟩
  have hpn := itP_part (refB_ref (d := dv) (hSy.out _ (Below.refl _ _)).edges) r
  have hqQ := hide (quotientBranching_calls (hSy.out _ hb5) c2 c3 P cP (itP (refB E1 mR dv) mR r) hP5.here' hpn dv)
  have hb5h := hide hb5
  replace hLr := hide hLr
  replace hpn := hide hpn
  clear hP5 hb5
  (try go_wp2_with fail)
  refine hK.out _ _ (fun _ => hSD.out _ hb5h.out) ?_
  clear hK K
  (try simp only [Act.put, sA, sB, sC])
  refine lateT_step (i := 5) (by kernel_rfl) rfl (fun K hK => ?_)
  go_simp
  go_at_call 197
  (with_reducible refine hqQ.out.mono ?_)
  rintro e w6 ⟨A4, c4, A5, n5, c5, rfl, hS6, hE6, hb6⟩
  have hb56 := hide (hb5h.out.trans (hb6.mono hb5h.out.size))
  have hS6 := hide hS6
  have hE6 := hide hE6
  have hb6 := hide hb6
  have hr6 := hrD.out.below hb56.out hrD.out.lt
  have r0 := hr6.c0
  have r1 := hr6.c1
  have r2 := hr6.c2
  have r3 := hr6.c3
  have v0 := hr6.f0
  have v1 := hr6.f1
  have v2 := hr6.f2
  have v3 := hr6.f3
  (try go_wp2_with fail)
  refine hK.out _ _ (fun _ => hSD.out _ hb56.out) ?_
  clear hK K
  (try simp only [Act.put, sA, sB, sC])
  refine lateT_step (i := 6) (by kernel_rfl) rfl (fun K hK => ?_)
  go_simp
  refine hK.out _ _ (fun h => absurd rfl h) ?_
  clear hK K
  (try simp only [Act.put, sA, sB, sC])
  refine lateT_done (by kernel_rfl) ?_ _
  go_wp2_with fail
  (try simp only [Exit.inBlock, Exit.then])
  refine bodyPost_ret_by (v := .agg #[.int .i64 ((numB (itP (refB E1 mR dv) mR r) : Nat) : Int), .int .i64 (pv (itP (refB E1 mR dv) mR r) (iR : Int)), .slice A4 n c4, .slice A5 n5 c5]) ?_ rfl ?_
  focus
   rw [results_cell1 rfl]
   go_simp
  rw [hmR.out, hiRe.out, ← hE1.out]
  have hZs := put4_size w6 (w.heap.size + 1) (.int .i64 ((numB (itP (refB E1 mR dv) mR r) : Nat) : Int)) (.int .i64 (pv (itP (refB E1 mR dv) mR r) (iR : Int))) (.slice A4 n c4) (.slice A5 n5 c5)
  have hz6 := hb6.out.size
  have hz5 := hb5h.out.size
  have hzD := hbwD.out.size
  have hzr := hrD.out.lt
  have hf : ∀ q, q ≠ w.heap.size + 1 → (put4 w6 (w.heap.size + 1) (.int .i64 ((numB (itP (refB E1 mR dv) mR r) : Nat) : Int)) (.int .i64 (pv (itP (refB E1 mR dv) mR r) (iR : Int))) (.slice A4 n c4) (.slice A5 n5 c5)).heap[q]? = w6.heap[q]? := fun q hq => put4_other _ _ _ _ _ _ hq
  have hbF := hbwD.out.trans (hb56.out.mono hzD)
  refine ⟨r, A4, c4, A5, n5, c5, hLr.out, rfl, ?_, ?_, ?_⟩
  ·change SlS (put4 w6 (w.heap.size + 1) _ _ _ _) _ (put4 w6 (w.heap.size + 1) _ _ _ _).heap.size _ _ _
   exact (Sl.keep hS6.out (by omega) fun q h1 h2 h3 => hf q (by omega)).more (by omega) (by omega)
  ·change SlE (put4 w6 (w.heap.size + 1) _ _ _ _) _ (put4 w6 (w.heap.size + 1) _ _ _ _).heap.size _ _ _
   exact (Sl.keep hE6.out (by omega) fun q h1 h2 h3 => hf q (by omega)).more (by omega) (by omega)
  ·change Below _ _ (put4 w6 (w.heap.size + 1) _ _ _ _)
   exact ⟨hbF.os, hbF.tape, hbF.output, by omega, fun q hq => (hf q (by omega)).trans (hbF.block q hq)⟩
end Go.Proofs.YtnhomkmfbngmgaaGreatDoor

namespace Go.Proofs.YtnhomkmfbngmgaaGreatDoor
open Go.ChangeShapes Go.WideShapes Go.ChangeAt Go.RowKit Go.Sort Go.Lib
set_option linter.unusedVariables false
set_option linter.unusedSimpArgs false

noncomputable def mbP (N ini r : Nat) (dv : Bool) (es : List Ed) : List Int := itP (refB (partF (reachF N es (ini : Int)) es) (reachF N es (ini : Int)).length dv) (reachF N es (ini : Int)).length r
noncomputable def mbE (N ini r : Nat) (dv : Bool) (es : List Ed) : List Ed := quoB (partF (reachF N es (ini : Int)) es) (reachF N es (ini : Int)).length dv (mbP N ini r dv es)
structure MinB (w w' : World) (N ini : Nat) (n : Nat) (ls : List ByteArray) (es : List Ed) (dv : Bool) (r c0 i0 : Nat) (A2 : Option Addr) (A3 : Option Addr) (n3 : Nat) : Prop where
 ss : SlS w' w.heap.size w'.heap.size A2 n ls
 se : SlE w' w.heap.size w'.heap.size A3 n3 (mbE N ini r dv es)
 ok : ltsV ((numB (mbP N ini r dv es) : Int), (c0 : Int), ls, mbE N ini r dv es) = true
 sz : totS ls ≤ 100000
 last : LastG (refB (partF (reachF N es (ini : Int)) es) (reachF N es (ini : Int)).length dv) (reachF N es (ini : Int)).length r
 at0 : (reachF N es (ini : Int))[i0]? = some (ini : Int)
 blk : (mbP N ini r dv es)[i0]? = some (c0 : Int)
 lab : ∀ e, e ∈ mbE N ini r dv es → 0 ≤ e.2.1 ∧ e.2.1 < (ls.length : Int)
 few : numB (mbP N ini r dv es) ≤ N
 bel : Below w.heap.size w w'
theorem MinB.sys {w w' : World} {N ini n : Nat} {ls : List ByteArray} {es : List Ed} {dv : Bool} {r c0 i0 : Nat} {A2 A3 : Option Addr} {n3 : Nat} (h : MinB w w' N ini n ls es dv r c0 i0 A2 A3 n3) : SysA w' (numB (mbP N ini r dv es)) c0 A2 n A3 n3 ls (mbE N ini r dv es) := ⟨h.ss.here', h.se.here', h.ok, h.sz⟩
section
variable {w : World} {N ini : Nat} {A : Option Addr} {n : Nat} {B : Option Addr} {m : Nat} {ls : List ByteArray} {es : List Ed}
set_option maxRecDepth 100000 in
theorem minimalBr_calls (h : SysA w N ini A n B m ls es) (c d : Nat) (dv : Bool) (hE : m + N ≤ 300) :
  Calls Tryz.prog 105 #[.agg #[.int .i64 (N : Int), .int .i64 (ini : Int), .slice A n c, .slice B m d], .bool dv] w fun e w' => ∃ (r c0 i0 : Nat) (A2 : Option Addr) (c2 : Nat) (A3 : Option Addr) (n3 d3 : Nat), e = .returned (.agg #[.int .i64 ((numB (mbP N ini r dv es) : Nat) : Int), .int .i64 (c0 : Int), .slice A2 n c2, .slice A3 n3 d3]) ∧ MinB w w' N ini n ls es dv r c0 i0 A2 A3 n3 := by
 have hini := h.bounds.2
 have hiR := reach_ini (es := es) hini
 have hRN := reach_len (N := N) (es := es) (ini := (ini : Int))
 have hRl := Nat.le_trans hRN h.bounds.1.2
 obtain ⟨hv1, hv0⟩ := part_valid h.ok reach_nodup hRl hiR
 obtain ⟨i0, hi0⟩ : ∃ k : Nat, posZ (reachF N es (ini : Int)) (ini : Int) = (k : Int) := ⟨(posZ (reachF N es (ini : Int)) (ini : Int)).toNat, by omega⟩
 rw [hi0] at hv1
 have hat := (posZ_at (reach_nodup (N := N) (es := es) (ini := (ini : Int)))).1 hi0
 have hlen := h.many
 have hpl := partF_len (S := reachF N es (ini : Int)) (es := es)
 have heR := part_in h.edges (reach_nodup (N := N) (es := es) (ini := (ini : Int)))
 refine (minimalB_calls h c d dv _ rfl hiR).mono ?_
 rintro e w' ⟨r, A2, c2, A3, n3, c3, hL, rfl, hS, hQ, hb⟩
 have hp : PartN (reachF N es (ini : Int)).length (mbP N ini r dv es) := itP_part (refB_ref heR) r
 obtain ⟨c0, h1, h2, h3, h4, h5⟩ := quoB_valid (dv := dv) hv1 hp (by omega)
 have hNB := numB_le (mbP N ini r dv es)
 rw [hp.len] at hNB
 refine ⟨r, c0, i0, A2, c2, A3, n3, c3, ?_, ⟨hS, hQ, h4, h.sz, hL, hat, h2, h5, by omega, hb⟩⟩
 rw [hi0]
 show _ = _
 have h1 : pv (itP (refB (partF (reachF N es (ini : Int)) es) (reachF N es (ini : Int)).length dv) (reachF N es (ini : Int)).length r) (i0 : Int) = (c0 : Int) := h1
 rw [h1]
 rfl
set_option maxRecDepth 100000 in
set_option maxHeartbeats 1600000 in
theorem minimalBranching_calls (h : SysA w N ini A n B m ls es) (c d : Nat) (he : Env w) (dv : Bool) (hE : m + N ≤ 300) :
  Calls Tryz.prog 41 #[.agg #[.int .i64 (N : Int), .int .i64 (ini : Int), .slice A n c, .slice B m d], .bool dv] w fun e w' => ∃ (r c0 i0 : Nat) (A2 : Option Addr) (c2 : Nat) (A3 : Option Addr) (n3 d3 : Nat), e = .returned (.tuple #[.agg #[.int .i64 ((numB (mbP N ini r dv es) : Nat) : Int), .int .i64 (c0 : Int), .slice A2 n c2, .slice A3 n3 d3], .int .i64 0]) ∧ MinB w w' N ini n ls es dv r c0 i0 A2 A3 n3 := by
 obtain ⟨wB, hwB⟩ : ∃ wB, wB = w.alloc (ltsC N ini A n c B m d) := ⟨_, rfl⟩
 have zB : wB.heap.size = w.heap.size + 1 := by rw [hwB]; exact World.size_alloc _ _
 obtain ⟨w1, hw1⟩ : ∃ w1, w1 = wB.alloc (.cells #[.int .i64 0, .int .i64 0, .slice none 0 0, .slice none 0 0] 27) := ⟨_, rfl⟩
 have hB := h.box (c := c) (d := d)
 rw [← hwB] at hB
 have hbB1 : Below wB.heap.size wB w1 := by rw [hw1]; exact (Below.refl _ _).alloc (Nat.le_refl _) _
 have hB1 := hB.below hbB1
 have kR : w1.heap[w.heap.size + 1]? = some (.cells #[.int .i64 0, .int .i64 0, .slice none 0 0, .slice none 0 0] 27 (0, 0)) := by
  have := heap_alloc_new wB (.cells #[.int .i64 0, .int .i64 0, .slice none 0 0, .slice none 0 0] 27)
  rw [zB] at this
  rw [hw1]; exact this
 have hkl : w.heap.size + 1 < w1.heap.size := (Array.getElem?_eq_some_iff.1 kR).1
 have q1 := hide (hB1.sys.valid c d (he.below hB1.bel (Nat.le_refl _)))
 have b0 := hB1.box.c0
 have b1 := hB1.box.c1
 have b2 := hB1.box.c2
 have b3 := hB1.box.c3
 replace hB1 := hide hB1
 replace kR := hide kR
 clear h hB hbB1 he
 go_enter Tryz.func41, Tryz.ntmps41
 go_upto_region 1 with fail
 rw [show ((w.alloc (.cells #[.int .i64 (N : Int), .int .i64 (ini : Int), .slice A n c, .slice B m d] 27)).alloc (.cells #[.int .i64 0, .int .i64 0, .slice none 0 0, .slice none 0 0] 27)) = w1 from by rw [hw1, hwB]]
 replace hw1 := hide hw1
 replace hwB := hide hwB
 go_wp2_with fail
 refine q1.out.mono ?_
 rintro e w2 ⟨rfl, hb2⟩
 have hB2 := hide (hB1.out.below hb2)
 have kR2 := hide ((hb2.block _ hkl).trans kR.out)
 have hz12 := hb2.size
 clear q1 b0 b1 b2 b3 hb2
 have b0 := hB2.out.box.c0
 have b1 := hB2.out.box.c1
 have b2 := hB2.out.box.c2
 have b3 := hB2.out.box.c3
 have q2 := hide (minimalBr_calls hB2.out.sys c d dv hE)
 have hz2 := hB2.out.bel.size
 go_wp2_with fail
 refine q2.out.mono ?_
 rintro e w4 ⟨r, c0, i0, A2, c2, A3, n3, d3, rfl, hM⟩
 have h8 : w4.heap[w.heap.size + 1]? = _ := (hM.bel.block _ (by omega)).trans kR2.out
 have a0 : w4.cell? ⟨w.heap.size + 1, 0, none⟩ = some (.int .i64 0) := (cell_of_row _ _ 0 _ _ (0, 0) h8).trans rfl
 have a1 : w4.cell? ⟨w.heap.size + 1, 1, none⟩ = some (.int .i64 0) := (cell_of_row _ _ 1 _ _ (0, 0) h8).trans rfl
 have a2 : w4.cell? ⟨w.heap.size + 1, 2, none⟩ = some (.slice none 0 0) := (cell_of_row _ _ 2 _ _ (0, 0) h8).trans rfl
 have a3 : w4.cell? ⟨w.heap.size + 1, 3, none⟩ = some (.slice none 0 0) := (cell_of_row _ _ 3 _ _ (0, 0) h8).trans rfl
 have y0 : w4.frozen? ⟨w.heap.size + 1, 0, none⟩ = false := frozen_of_row _ _ 0 _ _ h8
 have y1 : w4.frozen? ⟨w.heap.size + 1, 1, none⟩ = false := frozen_of_row _ _ 1 _ _ h8
 have y2 : w4.frozen? ⟨w.heap.size + 1, 2, none⟩ = false := frozen_of_row _ _ 2 _ _ h8
 have y3 : w4.frozen? ⟨w.heap.size + 1, 3, none⟩ = false := frozen_of_row _ _ 3 _ _ h8
 have hbF := hide (hB2.out.bel.trans (hM.bel.mono hz2))
 have hz4 := hM.bel.size
 have hkl2 : w.heap.size + 1 < w2.heap.size := by omega
 replace hM := hide hM
 replace h8 := hide h8
 obtain ⟨NM, hNM⟩ : ∃ NM, NM = numB (mbP N ini r dv es) := ⟨_, rfl⟩
 rw [← hNM]
 replace hNM := hide hNM
 clear q2 b0 b1 b2 b3
 go_wp2_with fail
 (try simp only [Exit.inBlock, Exit.then])
 refine bodyPost_ret_by (v := .tuple #[.agg #[.int .i64 (NM : Int), .int .i64 (c0 : Int), .slice A2 n c2, .slice A3 n3 d3], .int .i64 0]) ?_ rfl ?_
 focus
  rw [results_cs rfl]
  go_simp
 have hZs := put4_size w4 (w.heap.size + 1) (.int .i64 (NM : Int)) (.int .i64 (c0 : Int)) (.slice A2 n c2) (.slice A3 n3 d3)
 have hf : ∀ q, q ≠ w.heap.size + 1 → (put4 w4 (w.heap.size + 1) (.int .i64 (NM : Int)) (.int .i64 (c0 : Int)) (.slice A2 n c2) (.slice A3 n3 d3)).heap[q]? = w4.heap[q]? := fun q hq => put4_other _ _ _ _ _ _ hq
 rw [hNM.out]
 refine ⟨r, c0, i0, A2, c2, A3, n3, d3, rfl, ?_⟩
 rw [← hNM.out]
 change MinB w (put4 w4 (w.heap.size + 1) (.int .i64 (NM : Int)) (.int .i64 (c0 : Int)) (.slice A2 n c2) (.slice A3 n3 d3)) _ _ _ _ _ _ _ _ _ _ _ _
 refine ⟨?_, ?_, hM.out.ok, hM.out.sz, hM.out.last, hM.out.at0, hM.out.blk, hM.out.lab, hM.out.few, ?_⟩
 ·exact (Sl.keep hM.out.ss (Nat.le_of_eq hZs.symm) fun q h1 h2 h3 => hf q (by omega)).more (by omega) (Nat.le_of_eq hZs.symm)
 ·exact (Sl.keep hM.out.se (Nat.le_of_eq hZs.symm) fun q h1 h2 h3 => hf q (by omega)).more (by omega) (Nat.le_of_eq hZs.symm)
 ·exact ⟨hbF.out.os, hbF.out.tape, hbF.out.output, Nat.le_trans hbF.out.size (Nat.le_of_eq hZs.symm), fun q hq => (hf q (by omega)).trans (hbF.out.block q hq)⟩
end
end Go.Proofs.YtnhomkmfbngmgaaGreatDoor

namespace Go.Proofs.YtnhomkmfbngmgaaGreatDoor
open Go.Sort
set_option linter.unusedVariables false
set_option linter.unusedSimpArgs false

theorem strong_pq {N : Nat} {es : List Ed} {q : List Int} (he : EdIn N es) (hq : PartN N q) (hs : refF es N q = q) (d : Prop) : Stb (nE es) (0 : Int) d (pq q) := by
 refine strong_stb fun x y l x' hxy h => ?_
 obtain ⟨hx, hx'⟩ := nE_in he h
 have hy := (pq_in hq.len hxy).1 hx
 have h1 := (ref_same he hq.len hq.range hx hy).1 (by rw [hs]; exact hxy)
 obtain ⟨b, hb⟩ : ∃ b, q[x']? = some b := ⟨_, List.getElem?_eq_getElem (by rw [hq.len]; exact hx')⟩
 obtain ⟨y', g1, g2⟩ := (canS_nE he).1 ((h1.2 l b).1 ((canS_nE he).2 ⟨x', h, hb⟩))
 exact ⟨y', g1, by unfold pq; rw [hb, g2]⟩
theorem mb_few {N ini r r3 : Nat} {es : List Ed} {dv : Bool} (he : EdIn N es) (hL3 : LastR (partF (reachF N es (ini : Int)) es) (reachF N es (ini : Int)).length r3) : numB (mbP N ini r dv es) ≤ numB (minP N ini r3 es) := by
 have heR := part_in he (reach_nodup (N := N) (es := es) (ini := (ini : Int)))
 have hp : PartN (reachF N es (ini : Int)).length (mbP N ini r dv es) := itP_part (refB_ref heR) r
 have hq : PartN (reachF N es (ini : Int)).length (minP N ini r3 es) := rnd_part r3
 have hs := strong_pq heR hq hL3.1 (dv = true)
 exact (numB_fine (p := mbP N ini r dv es) (q := minP N ini r3 es) (by rw [hp.len, hq.len]) fun i j hi hj h => stb_rnd heR hs (fun x y e => pq_in hq.len e) r (by rw [hp.len] at hi; exact hi) (by rw [hp.len] at hj; exact hj) h).1
theorem stable_fineB {N : Nat} {es : List Ed} {d : Bool} {q : List Int} (he : EdIn N es) (hq : PartN N q) (hs : refB es N d q = q) (r : Nat) {i j : Nat} (hi : i < N) (hj : j < N) (h : q[i]? = q[j]?) : (itP (refB es N d) N r)[i]? = (itP (refB es N d) N r)[j]? :=
 stb_rnd he (stable_stb he hq hs) (fun x y e => pq_in hq.len e) r hi hj h
end Go.Proofs.YtnhomkmfbngmgaaGreatDoor

namespace Go.Proofs.YtnhomkmfbngmgaaGreatDoor
open Go.ChangeShapes Go.WideShapes Go.ChangeAt Go.RowKit
set_option linter.unusedVariables false
set_option linter.unusedSimpArgs false

theorem r8At40_calls (B : Option Addr) (m d : Nat) (more : List Int) (w : World) (lo hi : Nat) (h : SlU w lo hi B m more) (hc : ∀ x, x ∈ more → 0 ≤ x ∧ x ≤ 255) (hm : m ≤ maxLen) :
  Calls Tryz.prog 36 #[.slice B m d, .int .i64 40, .int .i64 2] w fun e w' => ∃ p : Int, e = .returned (.int .i64 p) ∧ (p = 0 ∨ p = 1) ∧ w = w' := by
 have hm' : m ≤ 9223372036854775807 := by unfold maxLen at hm; omega
 clear hm
 by_cases h0 : 40 < m
 ·obtain ⟨b, off, rfl, g1, g2, g3, hcell⟩ := h.at_ (by omega)
  have hlen := h.len
  obtain ⟨x, hx⟩ : ∃ x, more[40]? = some x := ⟨more[40]'(by omega), List.getElem?_eq_getElem (by omega)⟩
  obtain ⟨hx0, hx1⟩ := hc x (List.mem_of_getElem? hx)
  have cx := (hcell 40 x hx 0 _ rfl).1
  simp only [Nat.mul_one, Nat.add_zero] at cx
  have m1 : ¬ (40 : Int) ≥ (m : Int) := by omega
  have m2 : (40 : Int) < (m : Int) := by omega
  have m3 : ¬ (m : Int) ≤ 40 := by omega
  clear h hc hcell hx
  go_enter Tryz.func36, Tryz.ntmps36
  go_wp2_with fail
  go_ret
  exact ⟨x % 2, rfl, by omega, rfl⟩
 ·clear h hc
  have m1 : (40 : Int) ≥ (m : Int) := by omega
  have m2 : ¬ (40 : Int) < (m : Int) := by omega
  have m3 : (m : Int) ≤ 40 := by omega
  go_enter Tryz.func36, Tryz.ntmps36
  go_wp2_with fail
  go_ret
  exact ⟨0, rfl, .inl rfl, rfl⟩
end Go.Proofs.YtnhomkmfbngmgaaGreatDoor

namespace Go.Proofs.YtnhomkmfbngmgaaGreatDoor
open Go.ChangeShapes Go.WideShapes Go.Deep Go.RowKit
set_option linter.unusedVariables false

theorem u8_wf {n : Int} (h : (Lit.int .u8 n).wf = true) : 0 ≤ n ∧ n ≤ 255 := by
 simp [Lit.wf, IntKind.min, IntKind.max, IntKind.signed, IntKind.bits] at h
 omega
section
variable {H : Type} {enc : TypeId × Value → H} {P : Program} {w : World} {base : Nat} {spare : Nat → Bool} {held : Bool}
theorem open_SlU {t e : TypeId} (ht : P.underlying t = some (.slice e)) (hC : P.cellsOf e = 1) (hi : P.underlying e = some (.int .u8)) {v : Value} {d : DataW H} {p : List MemPlace} (h : DataW.Trod enc P w base spare held t v d p)
  {n' c' : Nat} {A' : Option Addr} (hv : v = .slice A' n' c') (hz : ∀ b off, MemPlace.cell b off ∈ p → w.frozen? ⟨b, off, none⟩ = false) : ∃ A n c l, v = .slice A n c ∧ n ≤ maxLen ∧ SlU w base w.heap.size A n l ∧ ∀ x, x ∈ l → 0 ≤ x ∧ x ≤ 255 := by
 obtain ⟨fuel, hf⟩ := h
 have key := open_flat (w := w) (base := base) (spare := spare) (held := held) (fun x : {n : Int // 0 ≤ n ∧ n ≤ 255} => byv x.1) ht hC (by omega) (fun fuel cs y hy hl => by
  obtain ⟨a, ea, _, hw⟩ := DataW.trod_int hi hy
  exact ⟨⟨a, u8_wf hw⟩, ea⟩) hf hz
 obtain ⟨A, n, c, l, e1, e2, e3⟩ := key
 subst hv
 simp [Value.cells] at e1
 refine ⟨A, n, c, l.map Subtype.val, by simp [e1], e2, ⟨by rw [List.length_map]; exact e3.1, fun hn => ?_⟩, fun x hx => ?_⟩
 ·obtain ⟨b, off, q1, q2, q3, q4, q5⟩ := e3.2 hn
  refine ⟨b, off, q1, q2, q3, q4, fun k x hx j u hu => ?_⟩
  rw [List.getElem?_map] at hx
  cases hk : l[k]? with
  | none => rw [hk] at hx; cases hx
  | some y =>
   rw [hk] at hx
   cases hx
   exact q5 k y hk j u hu
 ·obtain ⟨y, -, rfl⟩ := List.mem_map.1 hx
  exact y.2
end

end Go.Proofs.YtnhomkmfbngmgaaGreatDoor

namespace Go.Proofs.YtnhomkmfbngmgaaGreatDoor.lawFnBranching
open Go.ChangeShapes Go.WideShapes Go.ChangeAt Go.RowKit
set_option linter.unusedVariables false
set_option linter.unusedSimpArgs false

set_option maxRecDepth 100000 in
set_option maxHeartbeats 12800000 in
theorem walk (A B : Option Addr) (n m c d : Nat) (code more : List Int) (w : World) (he : Env w) (h1 : SlU w 0 w.heap.size A n code) (r1 : ∀ x, x ∈ code → 0 ≤ x ∧ x ≤ 255) (hn : n ≤ maxLen) (h2 : SlU w 0 w.heap.size B m more) (r2 : ∀ x, x ∈ more → 0 ≤ x ∧ x ≤ 255) (hm : m ≤ maxLen) :
  Calls Tryz.prog 8 #[.slice A n c, .slice B m d] w fun e w' => e = .returned (.bool true) ∧ Below w.heap.size w w' := by
 by_cases big : 1048576 < n ∨ 1048576 < m
 ·have q := hide (fun W => r8Long_yes A B n m c d W big)
  go_enter Tryz.func8, Tryz.ntmps8
  go_wp2_with (first | (go_at_call 10; (with_reducible refine (q.out _).mono ?_); rintro e w' ⟨rfl, rfl⟩))
  go_ret
  exact ⟨rfl, Below.refl _ _⟩
 have q0 := hide (fun W => r8Long_no A B n m c d W (by omega) (by omega))
 have q1 := hide (R8Lts_calls A n c code w h1 r1 hn)
 replace he := hide he
 replace h2 := hide h2
 clear h1
 go_enter Tryz.func8, Tryz.ntmps8
 go_upto_region 3 with (first | (go_at_call 10; (with_reducible refine (q0.out _).mono ?_); rintro e w' ⟨rfl, rfl⟩))
 clear q0
 go_wp2_with fail
 refine q1.out.mono ?_
 rintro e w1 ⟨N, ini, A2, n2, c2, B2, m2, d2, ls, es, rfl, hsys, hN7, hn7, hm64, hnam, hb1⟩
 have h2T := hide h2.out
 have hbT := hide (fun (wx : World) (hx : Below w.heap.size w wx) => hx)
 have he1 := he.out.below hb1 (Nat.le_refl _)
 have hB := hsys.box (c := c2) (d := d2)
 obtain ⟨w2, hw2⟩ : ∃ w2, w2 = w1.alloc (ltsC N ini A2 n2 c2 B2 m2 d2) := ⟨_, rfl⟩
 rw [← hw2] at hB
 have he2 := hide (he1.below hB.bel (Nat.le_refl _))
 have b0 := hB.box.c0
 have b1 := hB.box.c1
 have b2 := hB.box.c2
 have b3 := hB.box.c3
 obtain ⟨⟨hN1, -⟩, hini⟩ := hsys.bounds
 have h22 := hide ((h2.out.below (hb1.trans (hB.bel.mono hb1.size)) (.inl (Nat.le_refl _))).here')
 have q1a := hide (r8At40_calls B m d more w2 _ _ h22.out r2 hm)
 have hed := hide hsys.edges
 have hthr := hide hsys.three
 have hman := hsys.many
 have hnms := hide (ltsV_names hsys.ok).1
 have hbl0 := hide (hb1.trans (hB.bel.mono hb1.size))
 replace hB := hide hB
 replace hb1 := hide hb1
 replace hnam := hide hnam
 clear q1 hsys he1 h2
 go_upto_region 4 with fail
 rw [← show w2 = w1.alloc (.cells #[.int .i64 (N : Int), .int .i64 (ini : Int), .slice A2 n2 c2, .slice B2 m2 d2] 27) from hw2]
 replace hw2 := hide hw2
 go_wp2_with fail
 refine q1a.out.mono ?_
 rintro e w3 ⟨pd, rfl, hpd, rfl⟩
 go_upto_region 5 with fail
 generalize (pd == 1) = dv
 clear hpd q1a
 have q2 := hide (minimalBranching_calls hB.out.sys c2 d2 he2.out dv (by omega))
 go_wp2_with fail
 refine q2.out.mono ?_
 rintro e w7 ⟨r3, c0, iR, A4, c4, A5, n5, d5, rfl, hMB⟩
 have hsM := hMB.sys
 have hb7 := hMB.bel
 have hb3l := hsM.bounds
 have hNM : numB (mbP N ini r3 dv es) ≤ 7 := by
  have := hMB.few
  omega
 obtain ⟨NM, hNMe⟩ : ∃ NM, NM = numB (mbP N ini r3 dv es) := ⟨_, rfl⟩
 have hsM0 := hsM
 have hthM := hsM.three
 have hmnM := hsM.many
 have hlenM : (mbE N ini r3 dv es).length ≤ 64 + 7 := by
  have h1 := quoB_len (es := partF (reachF N es (ini : Int)) es) (N := (reachF N es (ini : Int)).length) (dv := dv) (p := mbP N ini r3 dv es)
  have h2 := partF_len (S := reachF N es (ini : Int)) (es := es)
  have h3 := reach_len (N := N) (es := es) (ini := (ini : Int))
  unfold mbE
  omega
 rw [← hNMe] at hsM hNM hb3l hthM
 have hBM := hsM.box (c := c4) (d := d5)
 obtain ⟨w8, hw8⟩ : ∃ w8, w8 = w7.alloc (ltsC NM c0 A4 n2 c4 A5 n5 d5) := ⟨_, rfl⟩
 rw [← hw8] at hBM
 have hB7 := hide ((hB.out.below hb7).below hBM.bel)
 have hb7z := hb7.size
 have he8 := hide ((he2.out.below hb7 (Nat.le_refl _)).below hBM.bel (Nat.le_refl _))
 have hbl8 := hide (hbl0.out.trans ((hb7.trans (hBM.bel.mono hb7.size)).mono hbl0.out.size))
 have huv := uni_valid (ia := ini) hnam.out hnam.out (by omega) (by omega) hthr.out hthM hini (show N + NM ≤ 40 by omega) (show es.length + (mbE N ini r3 dv es).length ≤ 300 by omega)
 have q7 := hide (areBranching_calls hB7.out.sys hBM.sys c2 d2 c4 d5 he8.out (by omega) dv huv.1 huv.2)
 have q8 := hide (fun (w9 : World) (hb9 : Below w8.heap.size w8 w9) => branchingClassesP_calls (hBM.sys.below hb9 (Nat.le_refl _)) c4 d5 (he8.out.below hb9 (Nat.le_refl _)) dv)
 obtain ⟨bM, hbM⟩ : ∃ bM, bM = w7.heap.size := ⟨_, rfl⟩
 have hMx := hide (fun (w9 : World) (hb9 : Below w8.heap.size w8 w9) => (show LtsBox w9 bM (NM : Int) (c0 : Int) A4 n2 c4 A5 n5 d5 by rw [hbM]; exact (hBM.below hb9).box))
 have hbMl : bM < w8.heap.size := by rw [hbM]; exact hBM.lt
 have hNMh := hide hNMe
 replace hMB := hide hMB
 replace hthM := hide hthM
 clear q2 b0 b1 b2 b3 hb7 hsM hsM0 hBM huv
 have b0 := hB7.out.box.c0
 have b1 := hB7.out.box.c1
 have b2 := hB7.out.box.c2
 have b3 := hB7.out.box.c3
 obtain ⟨m0, m1, m2', m3⟩ : w8.cell? ⟨bM, 0, none⟩ = some (.int .i64 (NM : Int)) ∧ w8.cell? ⟨bM, 1, none⟩ = some (.int .i64 (c0 : Int)) ∧ w8.cell? ⟨bM, 2, none⟩ = some (.slice A4 n2 c4) ∧ w8.cell? ⟨bM, 3, none⟩ = some (.slice A5 n5 d5) := by
  have := hMx.out w8 (Below.refl _ _)
  exact ⟨this.c0, this.c1, this.c2, this.c3⟩
 go_upto_region 6 with fail
 rw [← hNMe]
 clear hNMe
 rw [← show w8 = w7.alloc (.cells #[.int .i64 (NM : Int), .int .i64 (c0 : Int), .slice A4 n2 c4, .slice A5 n5 d5] 27) from hw8, ← hbM]
 replace hw8 := hide hw8
 replace hbM := hide hbM
 go_wp2_with fail
 refine q7.out.mono ?_
 rintro e w9 ⟨r4, rfl, hL4, hb9⟩
 have hyes : decide ((itP (refB (uniE ls es ls (mbE N ini r3 dv es) N) (N + NM) dv) (N + NM) r4)[ini]? = (itP (refB (uniE ls es ls (mbE N ini r3 dv es) N) (N + NM) dv) (N + NM) r4)[N + c0]?) = true := by
  rw [hNMh.out]
  have heR := part_in hed.out (reach_nodup (N := N) (es := es) (ini := (ini : Int)))
  exact decide_eq_true (minB_alike (by omega) (labs_nodup hnms.out) (labs_zero hnms.out) hthr.out hed.out rfl hMB.out.at0 hMB.out.last (quoB_is heR (itP_part (refB_ref heR) r3)) hMB.out.lab hMB.out.blk r4)
 rw [hyes]
 have q8' := hide (q8.out w9 hb9)
 have hbl9 := hide (hbl8.out.trans (hb9.mono hbl8.out.size))
 have hB9 := hide (hB7.out.below hb9)
 have he9 := hide (he8.out.below hb9 (Nat.le_refl _))
 obtain ⟨n0, n1, n2', n3⟩ : w9.cell? ⟨bM, 0, none⟩ = some (.int .i64 (NM : Int)) ∧ w9.cell? ⟨bM, 1, none⟩ = some (.int .i64 (c0 : Int)) ∧ w9.cell? ⟨bM, 2, none⟩ = some (.slice A4 n2 c4) ∧ w9.cell? ⟨bM, 3, none⟩ = some (.slice A5 n5 d5) := by
  have := hMx.out w9 hb9
  exact ⟨this.c0, this.c1, this.c2, this.c3⟩
 replace hb9 := hide hb9
 clear q7 q8 hL4 hyes b0 b1 b2 b3 m0 m1 m2' m3
 go_upto_region 7 with fail
 go_wp2_with fail
 refine q8'.out.mono ?_
 rintro e w10 ⟨r5, Q5, c5, rfl, hL5, hQ5, hb10, hc5⟩
 have hz9 := hb9.out.size
 have hsing : numB (itP (refB (mbE N ini r3 dv es) NM dv) NM r5) = NM := by
  have heR := part_in hed.out (reach_nodup (N := N) (es := es) (ini := (ini : Int)))
  rw [hNMh.out] at hL5 ⊢
  exact minB_single heR hMB.out.last (quoB_is heR (itP_part (refB_ref heR) r3)) hL5
 have hb810 := hide (hb9.out.trans (hb10.mono hz9))
 have hB10 := hide (hB9.out.below hb10)
 have he10 := hide (he9.out.below hb10 (Nat.le_refl _))
 have hbl10 := hide (hbl9.out.trans (hb10.mono hbl9.out.size))
 have hQ5h := hide hQ5.here'
 have q3 := hide (minimalS_calls hB10.out.sys c2 d2 he10.out)
 replace hb10 := hide hb10
 replace hsing := hide hsing
 clear q8' n0 n1 n2' n3 hL5 hQ5
 have b0 := hB10.out.box.c0
 have b1 := hB10.out.box.c1
 have b2 := hB10.out.box.c2
 have b3 := hB10.out.box.c3
 go_upto_region 8 with fail
 go_wp2_with fail
 refine q3.out.mono ?_
 rintro e w12 ⟨r6, c6, iS, A6, k6, A7, n7, d7, rfl, hsS, hL6, -, -, hb12⟩
 have hfew := mb_few (N := N) (ini := ini) (r := r3) (dv := dv) hed.out hL6
 rw [← hNMh.out] at hfew
 have hBS := hsS.box (c := k6) (d := d7)
 obtain ⟨NS, hNSe⟩ : ∃ NS, NS = numB (minP N ini r6 es) := ⟨_, rfl⟩
 rw [← hNSe] at hBS hfew
 obtain ⟨w13, hw13⟩ : ∃ w13, w13 = w12.alloc (ltsC NS c6 A6 n2 k6 A7 n7 d7) := ⟨_, rfl⟩
 rw [← hw13] at hBS
 have hz12 := hb12.size
 have hb1013 := hb12.trans (hBS.bel.mono hz12)
 have hB13 := hide (hB10.out.below hb1013)
 have he13 := hide (he10.out.below hb1013 (Nat.le_refl _))
 have hbl13 := hide (hbl10.out.trans (hb1013.mono hbl10.out.size))
 have hb813 := hide (hb810.out.trans (hb1013.mono hb810.out.size))
 have hQ13 := hide ((hQ5h.out.below hb1013 (.inr (Nat.le_refl _))).here')
 have q4 := hide (branchingClassesP_calls hB13.out.sys c2 d2 he13.out dv)
 obtain ⟨bS, hbS⟩ : ∃ bS, bS = w12.heap.size := ⟨_, rfl⟩
 have hSx := hide (fun (w9 : World) (hb9 : Below w13.heap.size w13 w9) => (show LtsBox w9 bS (NS : Int) (c6 : Int) A6 n2 k6 A7 n7 d7 by rw [hbS]; exact (hBS.below hb9).box))
 have hbSl : bS < w13.heap.size := by rw [hbS]; exact hBS.lt
 clear q3 b0 b1 b2 b3 hsS hL6 hBS hb1013
 replace hb12 := hide hb12
 have b0 := hB13.out.box.c0
 have b1 := hB13.out.box.c1
 have b2 := hB13.out.box.c2
 have b3 := hB13.out.box.c3
 go_upto_region 9 with fail
 rw [← hNSe]
 replace hNSe := hide hNSe
 rw [← show w13 = w12.alloc (.cells #[.int .i64 (NS : Int), .int .i64 (c6 : Int), .slice A6 n2 k6, .slice A7 n7 d7] 27) from hw13, ← hbS]
 replace hw13 := hide hw13
 replace hbS := hide hbS
 go_wp2_with fail
 refine q4.out.mono ?_
 rintro e w14 ⟨r, P, cP, rfl, hL, hP, hb14, -⟩
 have hz13 := hb14.size
 have heP := refB_ref (d := dv) hed.out
 have hpp := itP_part heP r
 have hst : refB es N dv (itP (refB es N dv) N r) = itP (refB es N dv) N r := hL.1
 obtain ⟨p, hpe⟩ : ∃ p, p = itP (refB es N dv) N r := ⟨_, rfl⟩
 rw [← hpe] at hpp hP hst
 obtain ⟨wD, hwD⟩ : ∃ wD, wD = w14.drew := ⟨_, rfl⟩
 have hbD : Below w14.heap.size w14 wD := by rw [hwD]; exact (Below.refl _ _).drew
 have hb1D := hb14.trans (hbD.mono hz13)
 have q9 := r8Blocks_calls Q5 NM c5 _ wD _ _ (hQ13.out.below hb1D (.inr (Nat.le_refl _))) hc5 (by omega)
 rw [hsing.out] at q9
 replace q9 := hide q9
 have hSS : Hid (∀ wx, Below wD.heap.size wD wx → wx.cell? ⟨bM, 0, none⟩ = some (.int .i64 (NM : Int)) ∧ wx.cell? ⟨bS, 0, none⟩ = some (.int .i64 (NS : Int))) := fun wx hx => ⟨(hMx.out wx (hb813.out.trans ((hb1D.trans (hx.mono (Nat.le_trans hz13 hbD.size))).mono hb813.out.size))).c0, (hSx.out wx (hb1D.trans (hx.mono (Nat.le_trans hz13 hbD.size)))).c0⟩
 have hblD := hide (hbl13.out.trans (hb1D.mono hbl13.out.size))
 have hBD := hide (hB13.out.below hb1D)
 have heD := hide (he13.out.below hb1D (Nat.le_refl _))
 have hPD := hide ((hP.below hbD (.inr (Nat.le_refl _))).here')
 have g1 : ((NM : Int) != (NM : Int)) = false := by simp
 have g2 : ¬ (NM : Int) > (NS : Int) := by omega
 have g3 : decide ((NM : Int) > (NS : Int)) = false := decide_eq_false g2
 replace hwD := hide hwD
 replace hbD := hide hbD
 replace hb1D := hide hb1D
 replace hb14 := hide hb14
 replace hpp := hide hpp
 replace hst := hide hst
 replace hpe := hide hpe
 replace heP := hide heP
 clear q4 hL hP b0 b1 b2 b3
 go_upto_region 10 with fail
 refine lateT_begin (S := fun w' => w'.cell? ⟨bM, 0, none⟩ = some (.int .i64 (NM : Int)) ∧ w'.cell? ⟨bS, 0, none⟩ = some (.int .i64 (NS : Int))) (st := 35) (by kernel_rfl) ?_
 rw [← show wD = _ from hwD.out]
 have hS0 : (fun w' : World => w'.cell? ⟨bM, 0, none⟩ = some (.int .i64 (NM : Int)) ∧ w'.cell? ⟨bS, 0, none⟩ = some (.int .i64 (NS : Int))) wD := hSS.out wD (Below.refl _ _)
 refine tkA ?_ 0 [1,2,6,10,14,18,22,24,29,35] rfl (Or.inl ⟨by kernel_rfl, ?hy⟩) hS0 ?_
 case hy => intro w hSw; (try dsimp only at hSw); go_simp <;> with_reducible rfl
 (try simp only [Act.put, sA, sB, sC])
 refine tkA ?_ 1 [2,6,10,14,18,22,24,29,35] rfl (Or.inl ⟨by kernel_rfl, ?hy⟩) hS0 ?_
 case hy => intro w hSw; (try dsimp only at hSw); go_simp <;> with_reducible rfl
 (try simp only [Act.put, sA, sB, sC])
 refine tkA ?_ 2 [6,10,14,18,22,24,29,35] rfl (Or.inl ⟨by kernel_rfl, ?hy⟩) hS0 ?_
 case hy => intro w hSw; (try dsimp only at hSw); go_simp <;> with_reducible rfl
 (try simp only [Act.put, sA, sB, sC])
 refine tkA ?_ 3 [4,5,6,10,14,18,22,24,29,35] rfl (Or.inl ⟨by kernel_rfl, ?hy⟩) hS0 ?_
 case hy => intro w hSw; (try dsimp only at hSw); go_simp <;> with_reducible rfl
 (try simp only [Act.put, sA, sB, sC])
 refine tkA ?_ 4 [5,6,10,14,18,22,24,29,35] rfl (Or.inl ⟨by kernel_rfl, ?hy⟩) hS0 ?_
 case hy => intro w hSw; (try dsimp only at hSw); go_simp <;> with_reducible rfl
 (try simp only [Act.put, sA, sB, sC])
 refine tkA ?_ 5 [6,10,14,18,22,24,29,35] rfl (Or.inl ⟨by kernel_rfl, ?hy⟩) hS0 ?_
 case hy => intro w hSw; (try dsimp only at hSw); go_simp <;> with_reducible rfl
 (try simp only [Act.put, sA, sB, sC])
 refine tkA ?_ 6 [10,14,18,22,24,29,35] rfl (Or.inl ⟨by kernel_rfl, ?hy⟩) hS0 ?_
 case hy => intro w hSw; (try dsimp only at hSw); go_simp <;> with_reducible rfl
 (try simp only [Act.put, sA, sB, sC])
 refine tkA ?_ 7 [8,9,10,14,18,22,24,29,35] rfl (Or.inl ⟨by kernel_rfl, ?hy⟩) hS0 ?_
 case hy => intro w hSw; (try dsimp only at hSw); go_simp <;> with_reducible rfl
 (try simp only [Act.put, sA, sB, sC])
 refine tkA ?_ 8 [9,10,14,18,22,24,29,35] rfl (Or.inl ⟨by kernel_rfl, ?hy⟩) hS0 ?_
 case hy => intro w hSw; (try dsimp only at hSw); go_simp <;> with_reducible rfl
 (try simp only [Act.put, sA, sB, sC])
 refine tkA ?_ 9 [10,14,18,22,24,29,35] rfl (Or.inl ⟨by kernel_rfl, ?hy⟩) hS0 ?_
 case hy => intro w hSw; (try dsimp only at hSw); go_simp <;> with_reducible rfl
 (try simp only [Act.put, sA, sB, sC])
 refine tkA ?_ 10 [14,18,22,24,29,35] rfl (Or.inl ⟨by kernel_rfl, ?hy⟩) hS0 ?_
 case hy => intro w hSw; (try dsimp only at hSw); go_simp <;> with_reducible rfl
 (try simp only [Act.put, sA, sB, sC])
 refine tkA ?_ 11 [12,13,14,18,22,24,29,35] rfl (Or.inl ⟨by kernel_rfl, ?hy⟩) hS0 ?_
 case hy => intro w hSw; (try dsimp only at hSw); go_simp <;> with_reducible rfl
 (try simp only [Act.put, sA, sB, sC])
 refine tkA ?_ 12 [13,14,18,22,24,29,35] rfl (Or.inl ⟨by kernel_rfl, ?hy⟩) hS0 ?_
 case hy => intro w hSw; (try dsimp only at hSw); go_simp <;> with_reducible rfl
 (try simp only [Act.put, sA, sB, sC])
 refine tkA ?_ 13 [14,18,22,24,29,35] rfl (Or.inl ⟨by kernel_rfl, ?hy⟩) hS0 ?_
 case hy => intro w hSw; (try dsimp only at hSw); go_simp <;> with_reducible rfl
 (try simp only [Act.put, sA, sB, sC])
 refine tkA ?_ 14 [18,22,24,29,35] rfl (Or.inl ⟨by kernel_rfl, ?hy⟩) hS0 ?_
 case hy => intro w hSw; (try dsimp only at hSw); go_simp <;> with_reducible rfl
 (try simp only [Act.put, sA, sB, sC])
 refine tkA ?_ 15 [16,17,18,22,24,29,35] rfl (Or.inl ⟨by kernel_rfl, ?hy⟩) hS0 ?_
 case hy => intro w hSw; (try dsimp only at hSw); go_simp <;> with_reducible rfl
 (try simp only [Act.put, sA, sB, sC])
 refine tkA ?_ 16 [17,18,22,24,29,35] rfl (Or.inl ⟨by kernel_rfl, ?hy⟩) hS0 ?_
 case hy => intro w hSw; (try dsimp only at hSw); go_simp <;> with_reducible rfl
 (try simp only [Act.put, sA, sB, sC])
 refine tkA ?_ 17 [18,22,24,29,35] rfl (Or.inl ⟨by kernel_rfl, ?hy⟩) hS0 ?_
 case hy => intro w hSw; (try dsimp only at hSw); go_simp <;> with_reducible rfl
 (try simp only [Act.put, sA, sB, sC])
 refine tkA ?_ 18 [22,24,29,35] rfl (Or.inl ⟨by kernel_rfl, ?hy⟩) hS0 ?_
 case hy => intro w hSw; (try dsimp only at hSw); go_simp <;> with_reducible rfl
 (try simp only [Act.put, sA, sB, sC])
 refine tkA ?_ 19 [20,21,22,24,29,35] rfl (Or.inl ⟨by kernel_rfl, ?hy⟩) hS0 ?_
 case hy => intro w hSw; (try dsimp only at hSw); go_simp <;> with_reducible rfl
 (try simp only [Act.put, sA, sB, sC])
 refine tkA ?_ 20 [21,22,24,29,35] rfl (Or.inl ⟨by kernel_rfl, ?hy⟩) hS0 ?_
 case hy => intro w hSw; (try dsimp only at hSw); go_simp <;> with_reducible rfl
 (try simp only [Act.put, sA, sB, sC])
 refine tkA ?_ 21 [22,24,29,35] rfl (Or.inl ⟨by kernel_rfl, ?hy⟩) hS0 ?_
 case hy => intro w hSw; (try dsimp only at hSw); go_simp <;> with_reducible rfl
 (try simp only [Act.put, sA, sB, sC])
 refine tkA ?_ 22 [24,29,35] rfl (Or.inl ⟨by kernel_rfl, ?hy⟩) hS0 ?_
 case hy => intro w hSw; (try dsimp only at hSw); go_simp <;> with_reducible rfl
 (try simp only [Act.put, sA, sB, sC])
 refine tkA ?_ 23 [24,29,35] rfl (Or.inl ⟨by kernel_rfl, ?hy⟩) hS0 ?_
 case hy => intro w hSw; (try dsimp only at hSw); go_simp <;> with_reducible rfl
 (try simp only [Act.put, sA, sB, sC])
 refine tkA ?_ 25 [26,27,28,29,35] rfl (Or.inl ⟨by kernel_rfl, ?hy⟩) hS0 ?_
 case hy => intro w hSw; (try dsimp only at hSw); go_simp <;> with_reducible rfl
 (try simp only [Act.put, sA, sB, sC])
 refine tkA ?_ 26 [27,28,29,35] rfl (Or.inl ⟨by kernel_rfl, ?hy⟩) hS0 ?_
 case hy => intro w hSw; (try dsimp only at hSw); go_simp <;> with_reducible rfl
 (try simp only [Act.put, sA, sB, sC])
 refine lateT_step (i := 24) (by kernel_rfl) rfl (fun K hK => ?_)
 (try go_simp)
 go_at_call 33
 (with_reducible refine q9.out.mono ?_)
 rintro e w11 ⟨rfl, hb11⟩
 (try go_wp2_with fail)
 have hS1 := hSS.out w11 hb11
 refine hK.out _ _ (fun _ => hS1) ?_
 clear hK K
 (try simp only [Act.put, sA, sB, sC])
 refine tkA ?_ 27 [28,29,35] rfl (Or.inl ⟨by kernel_rfl, ?hy⟩) hS1 ?_
 case hy => intro w hSw; (try dsimp only at hSw); go_simp <;> with_reducible rfl
 (try simp only [Act.put, sA, sB, sC])
 refine tkA ?_ 28 [29,35] rfl (Or.inl ⟨by kernel_rfl, ?hy⟩) hS1 ?_
 case hy => intro w hSw; (try dsimp only at hSw); go_simp <;> with_reducible rfl
 (try simp only [Act.put, sA, sB, sC])
 refine tkA ?_ 29 [35] rfl (Or.inl ⟨by kernel_rfl, ?hy⟩) hS1 ?_
 case hy => intro w hSw; (try dsimp only at hSw); go_simp <;> with_reducible rfl
 (try simp only [Act.put, sA, sB, sC])
 refine tkA ?_ 30 [31,34,35] rfl (Or.inl ⟨by kernel_rfl, ?hy⟩) hS1 ?_
 case hy => intro w hSw; (try dsimp only at hSw); go_simp <;> with_reducible rfl
 (try simp only [Act.put, sA, sB, sC])
 refine tkA ?_ 31 [34,35] rfl (Or.inl ⟨by kernel_rfl, ?hy⟩) hS1 ?_
 case hy => intro w hSw; (try dsimp only at hSw); go_simp <;> with_reducible rfl
 (try simp only [Act.put, sA, sB, sC])
 refine tkA ?_ 32 [33,34,35] rfl (Or.inl ⟨by kernel_rfl, ?hy⟩) hS1 ?_
 case hy => intro w hSw; (try dsimp only at hSw); go_simp <;> with_reducible rfl
 (try simp only [Act.put, sA, sB, sC])
 refine tkA ?_ 33 [34,35] rfl (Or.inl ⟨by kernel_rfl, ?hy⟩) hS1 ?_
 case hy => intro w hSw; (try dsimp only at hSw); go_simp <;> with_reducible rfl
 (try simp only [Act.put, sA, sB, sC])
 refine tkA ?_ 34 [35] rfl (Or.inl ⟨by kernel_rfl, ?hy⟩) hS1 ?_
 case hy => intro w hSw; (try dsimp only at hSw); go_simp <;> with_reducible rfl
 (try simp only [Act.put, sA, sB, sC])
 refine lateT_step (i := 35) (by kernel_rfl) rfl (fun K hK => ?_)
 go_simp
 refine hK.out _ _ (fun h => absurd rfl h) ?_
 clear hK K
 (try simp only [Act.put, sA, sB, sC])
 refine lateT_done (by kernel_rfl) ?_ _
 have hB11 := hide (hBD.out.below hb11)
 have he11 := hide (heD.out.below hb11 (Nat.le_refl _))
 have hbl11 := hide (hblD.out.trans (hb11.mono hblD.out.size))
 have hP11 := hide ((hPD.out.below hb11 (.inr (Nat.le_refl _))).here')
 have h24 := hide ((h2T.out.below (hbT.out w11 hbl11.out) (.inr (Nat.le_refl _))).here')
 have q5 := hide (R8PartW_calls hB11.out.sys c2 d2 B m d more h24.out r2 hm dv)
 replace hb11 := hide hb11
 clear q9 g1 g2 g3
 have b0 := hB11.out.box.c0
 have b1 := hB11.out.box.c1
 have b2 := hB11.out.box.c2
 have b3 := hB11.out.box.c3
 go_upto_region 12 with fail
 go_wp2_with fail
 refine q5.out.mono ?_
 rintro e w15 ⟨Q, cQ, q, rfl, hQ, hqp, hb15⟩
 have hB15 := hide (hB11.out.below hb15)
 have he15 := hide (he11.out.below hb15 (Nat.le_refl _))
 have hP15 := hide ((hP11.out.below hb15 (.inr (Nat.le_refl _))).here')
 have hbl15 := hide (hbl11.out.trans (hb15.mono hbl11.out.size))
 have hQ15 := hide hQ
 have q6 := hide (isBranchingStable_calls hB15.out.sys c2 d2 he15.out P cP p hP15.out hpp.out dv)
 replace hqp := hide hqp
 replace hb15 := hide hb15
 have hNN : ((N : Int) != (N : Int)) = false := by simp
 clear q5 b0 b1 b2 b3 hQ
 have b0 := hB15.out.box.c0
 have b1 := hB15.out.box.c1
 have b2 := hB15.out.box.c2
 have b3 := hB15.out.box.c3
 go_upto_region 13 with fail
 go_wp2_with fail
 refine q6.out.mono ?_
 rintro e w16 ⟨v, rfl, hv, hb16⟩
 obtain rfl : v = true := hv.2 hst.out
 have hB16 := hide (hB15.out.below hb16)
 have he16 := hide (he15.out.below hb16 (Nat.le_refl _))
 have hP16 := hide ((hP15.out.below hb16 (.inr (Nat.le_refl _))).here')
 have hQ16 := hide ((hQ15.out.below hb16 (.inr (Nat.le_refl _))).here')
 have hbl16 := hide (hbl15.out.trans (hb16.mono hbl15.out.size))
 have q10 := hide (isBranchingStable_calls hB16.out.sys c2 d2 he16.out Q cQ q hQ16.out hqp.out dv)
 replace hb16 := hide hb16
 replace hv := hide hv
 clear q6 b0 b1 b2 b3
 have b0 := hB16.out.box.c0
 have b1 := hB16.out.box.c1
 have b2 := hB16.out.box.c2
 have b3 := hB16.out.box.c3
 go_upto_region 15 with fail
 go_wp2_with fail
 refine q10.out.mono ?_
 rintro e w17 ⟨v, rfl, hv, hb17⟩
 have hb17h := hide hb17
 clear q10 b0 b1 b2 b3
 cases v with
 | false =>
  have hbF := hide (hbl16.out.trans (hb17.mono hbl16.out.size))
  replace hv := hide hv
  replace hb17 := hide hb17
  go_wp2_with fail
  go_ret
  exact ⟨rfl, hbF.out⟩
 | true =>
  have hqs := hv.1 rfl
  have hfine : Hid (∀ i j, i < N → j < N → q[i]? = q[j]? → p[i]? = p[j]?) := fun i j hi hj hs => by
   rw [hpe.out]
   exact stable_fineB hed.out hqp.out hqs r hi hj hs
  replace hqs := hide hqs
  replace hv := hide hv
  replace hb17 := hide hb17
  go_wp2_with fail
  go_loopw [18] (fun v9 wr => ∃ i : Nat, i ≤ N ∧ v9 = .int .i64 (i : Nat) ∧ Hid (Below w16.heap.size w16 wr)) (fun v _ => N - (intOf v).toNat)
  case atStart => exact ⟨0, Nat.zero_le _, rfl, hb17h.out⟩
  case round =>
   obtain ⟨i, hi, rfl, hb⟩ := hrel
   by_cases hlt : i < N
   ·have i0 : (0 : Int) ≤ (i : Int) := by omega
    have i1 : (i : Int) < (N : Int) := by omega
    obtain ⟨wO, rfl⟩ : ∃ wO : World, wO = wr := ⟨_, rfl⟩
    have hbO := hb
    clear hb
    go_wp2_with fail
    go_loopw [19] (fun v10 wr => ∃ k : Nat, k ≤ i ∧ v10 = .int .i64 (k : Nat) ∧ Hid (Below w16.heap.size w16 wr)) (fun v _ => i - (intOf v).toNat)
    case atStart => exact ⟨0, Nat.zero_le _, rfl, hbO.out⟩
    case round =>
     obtain ⟨k, hk, rfl, hb⟩ := hrel
     by_cases hki : k < i
     ·have k0 : (0 : Int) ≤ (k : Int) := by omega
      have k1 : (k : Int) < (i : Int) := by omega
      have k2 : (k : Int) < (N : Int) := by omega
      obtain ⟨gQ, oQ, qi, rfl, -, -, hgQ, hqi, cqi, -⟩ := SlI.get hQ16.out hlt
      obtain ⟨gQ2, oQ2, qk, e2, -, -, -, hqk, cqk, -⟩ := SlI.get hQ16.out (show k < N by omega)
      cases e2
      obtain ⟨gP, oP, pi, rfl, -, -, hgP, hpi, cpi, -⟩ := SlI.get hP16.out hlt
      obtain ⟨gP2, oP2, pk, e2, -, -, -, hpk, cpk, -⟩ := SlI.get hP16.out (show k < N by omega)
      cases e2
      replace cqi := (hb.out.cell (p := ⟨gQ, oQ + i, none⟩) hgQ).trans cqi
      replace cqk := (hb.out.cell (p := ⟨gQ, oQ + k, none⟩) hgQ).trans cqk
      replace cpi := (hb.out.cell (p := ⟨gP, oP + i, none⟩) hgP).trans cpi
      replace cpk := (hb.out.cell (p := ⟨gP, oP + k, none⟩) hgP).trans cpk
      have hfi := hfine.out i k hlt (by omega)
      rw [hqi, hqk, hpi, hpk] at hfi
      replace hqi := hide hqi
      replace hqk := hide hqk
      replace hpi := hide hpi
      replace hpk := hide hpk
      have hzr := hb.out.size
      by_cases hqq : qi = qk
      ·have hpq : pi = pk := Option.some.inj (hfi (by rw [hqq]))
       subst hqq
       subst hpq
       have g1 : (qi == qi) = true := by simp
       have g2 : (pi != pi) = false := by simp
       replace hfi := hide hfi
       go_upto_region 22 with fail
       go_quiet (fail)
       go_wp2_with fail
       go_roundw
       case rel => exact ⟨k + 1, by omega, by go_num, hb.out.trans ((below_drewN wr nq).mono hzr)⟩
       case measure => simp [intOf]; omega
      ·have g1 : (qi == qk) = false := beq_eq_false_iff_ne.2 hqq
       replace hfi := hide hfi
       replace hqq := hide hqq
       go_upto_region 22 with fail
       go_quiet (fail)
       go_wp2_with fail
       go_roundw
       case rel => exact ⟨k + 1, by omega, by go_num, hb.out.trans ((below_drewN wr nq).mono hzr)⟩
       case measure => simp [intOf]; omega
     ·obtain rfl : k = i := by omega
      have k1 : ¬ (k : Int) < (k : Int) := by omega
      go_wp2_with fail
      go_roundw
      case rel => exact ⟨k + 1, by omega, by go_num, hb.out⟩
      case measure => simp [intOf]; omega
   ·have i1 : ¬ (i : Int) < (N : Int) := by omega
    have hbF := hide (hbl16.out.trans (hb.out.mono hbl16.out.size))
    go_wp2_with fail
    go_ret
    exact ⟨rfl, hbF.out⟩

end Go.Proofs.YtnhomkmfbngmgaaGreatDoor.lawFnBranching

namespace Go.Proofs.YtnhomkmfbngmgaaGreatDoor
open Go.ChangeShapes Go.WideShapes Go.ChangeAt Go.RowKit Go.Deep
set_option linter.unusedVariables false

abbrev DM := DL × List Int
instance decDM : DecidableEq DM := inferInstanceAs (DecidableEq (DL × List Int))
section
variable {w w' : World} {lo hi lo' hi' B : Nat} {v : Value} {d : DM}
end

end Go.Proofs.YtnhomkmfbngmgaaGreatDoor

namespace Go.Proofs.YtnhomkmfbngmgaaGreatDoor
open Go.ChangeShapes Go.WideShapes Go.ChangeAt Go.RowKit Go.Deep
set_option linter.unusedVariables false

abbrev laidL : List (String × DataW Unit) := Rows.fnLtsRow.laid
theorem pow_data : (Rows.laid_internal_strconv_uint64pow10 : DataW Unit) = Lib.tabData .u64 Lib.pow10Tab := by kernel_rfl
theorem good_of {W : World} (h : laidMet Tryz.prog laidL W) (hS : W.ShapedOpen Tryz.prog) : Good W := by
 have h3 : laidMet Tryz.prog (("internal/strconv.uint64pow10", Lib.tabData .u64 Lib.pow10Tab) :: [("unicode/utf8.acceptRanges", Rows.laid_unicode_utf8_acceptRanges), ("strconv.ErrRange", Rows.laid_strconv_ErrRange), ("strconv.ErrSyntax", Rows.laid_strconv_ErrSyntax), ("unicode/utf8.first", Rows.laid_unicode_utf8_first)]) W := by
  rw [← pow_data]
  exact h.tail.tail
 have h6 : laidMet Tryz.prog (("strconv.ErrSyntax", Rows.laid_strconv_ErrSyntax) :: [("unicode/utf8.first", Rows.laid_unicode_utf8_first)]) W := h3.tail.tail.tail
 refine ⟨hS, Lib.tabIs_of_head (g := 1) (t := 324) (e := 137) (n := 20) (by kernel_rfl) (by kernel_rfl) Tryz.underlying324 Tryz.underlying137 (by kernel_rfl) (by kernel_rfl) h3, ?_⟩
 obtain ⟨ps, ⟨g0, t0, cs0, f0, p0, q0, hg0, ht0, hv0, hd0, _, e0⟩, _, hrows⟩ := h6
 have hg : Tryz.prog.globalNamed "strconv.ErrSyntax" = some 4 := by kernel_rfl
 have ht : (Tryz.prog.globals[4]?).map (·.type) = some 224 := by kernel_rfl
 obtain rfl := Option.some.inj (hg.symm.trans hg0)
 obtain rfl := Option.some.inj (ht.symm.trans ht0)
 obtain ⟨l0⟩ := cs0
 obtain ⟨_, u, v, e1, _, _⟩ := iface_of_trod Tryz.underlying224 hd0
 have e2 : l0 = [.iface u v] := e1
 subst e2
 exact ⟨u, v, hv0⟩

section
variable {H : Type} {enc : TypeId × Value → H} {P : Program} {w : World} {base : Nat} {spare : Nat → Bool} {held : Bool}
end

end Go.Proofs.YtnhomkmfbngmgaaGreatDoor

namespace Go.Proofs.YtnhomkmfbngmgaaGreatDoor
open Go.ChangeShapes Go.WideShapes Go.ChangeAt Go.RowKit
set_option linter.unusedVariables false

theorem fact_laid : laidOutB Tryz.pinned.checked.prog = true := by kernel_rfl
theorem fact_maps : mapsRowed Tryz.pinned.checked.prog = true := by kernel_rfl
theorem fact_heard : Tryz.pinned.checked.prog.stopsHeard = true := by kernel_rfl
theorem fact_enter : Tryz.pinned.checked.prog.mayEnter = true := by kernel_rfl
theorem fact_lifts : Tryz.pinned.checked.prog.liftsFinal = Rows.fnLtsRow.lifted := by kernel_rfl
theorem fact_make : Tryz.pinned.checked.prog.make = some Rows.fnLtsRow.make := by kernel_rfl
theorem fact_main : Tryz.pinned.checked.prog.mainIs = some (true, "908aadf79a3911da7d4960582ae04b5fb7cbc5fbb004ba15854af102615e9df1".toList) := by kernel_rfl
theorem fact_looks : true = Tryz.pinned.checked.prog.looks [] := by kernel_rfl
theorem plain_laid : (laidL.filter fun x => x.2.handleName?.isSome) = [] := by kernel_rfl
theorem pre_laid {H : Type} {enc : TypeId × Value → H} {P : Program} {f : Func} {s : OpenSpec} {c : OpenClaim} (hl : c.laid = laidL) :
  c.pre enc P f s = fun w args => (s.pre enc P f c.domain c.apart w args ∧ laidMet P laidL w) ∧ sizedMet enc P f s c.apart w args := by
 obtain ⟨x, r, e⟩ : ∃ x r, laidL = x :: r := ⟨_, _, rfl⟩
 have hp := plain_laid
 funext w args
 unfold OpenClaim.pre OpenClaim.preLaid
 rw [hl]
 rw [e] at hp ⊢
 show ((_ ∧ laidMetH P (x :: r) w) ∧ _) = _
 unfold laidMetH
 rw [hp]

end Go.Proofs.YtnhomkmfbngmgaaGreatDoor
