/-
  Several texts in one:
  (Lts).quotient: the system of the blocks. Conditions: sizes.
  Bisimulation, and the last round of refinement as the
  A part of a system and the system of the blocks of a stable
  Validity of systems whose edges were sorted; part and
  The part and the quotient of a valid system are valid.
  Rows of bools that grow, and the reference's table of pairs.
  A system with those edges alone that a function keeps, by the
  Branching bisimulation by signatures, with or without
  Rounds of any refinement of partitions: they end. Plain.
  Partitions refined by what states offer behind inert steps:
-/
import Derived.Test.YtnhomkmfbngmgaaGreatDoorBaseA
import Derived.Test.YtnhomkmfbngmgaaGreatDoorBaseB
import Derived.Test.YtnhomkmfbngmgaaGreatDoorBaseC
import Derived.Test.YtnhomkmfbngmgaaGreatDoorBaseD
import Derived.Test.YtnhomkmfbngmgaaGreatDoorBaseG
import Derived.Test.YtnhomkmfbngmgaaGreatDoorBaseI
set_option linter.unusedSimpArgs false
set_option linter.unusedVariables false
namespace Go.Proofs.YtnhomkmfbngmgaaGreatDoor
open Go.ChangeShapes Go.WideShapes Go.ChangeAt Go.RowKit Go.Sort Go.Lib
set_option linter.unusedVariables false
set_option linter.unusedSimpArgs false

def pv (p : List Int) (x : Int) : Int := p[x.toNat]?.getD 0
def quoO (p : List Int) (e : Ed) : Ed := (pv p e.1, e.2.1, pv p e.2.2)
def quoF (p : List Int) (G : Ed → Bool) (es : List Ed) : List Ed := Lib.compact (sortE ((es.filter G).map (quoO p)))
theorem maxL_ex : ∀ l : List Int, l ≠ [] → ∃ M, MaxL l M
 | [], h => absurd rfl h
 | [x], _ => ⟨x, List.mem_singleton.2 rfl, fun y hy => by have := List.mem_singleton.1 hy; omega⟩
 | x :: y :: r, _ => by
  obtain ⟨M, h1, h2⟩ := maxL_ex (y :: r) (by simp)
  by_cases c : M < x
  ·refine ⟨x, List.mem_cons_self, fun z hz => ?_⟩
   rcases List.mem_cons.1 hz with rfl | g
   ·omega
   ·have := h2 z g; omega
  ·refine ⟨M, List.mem_cons_of_mem _ h1, fun z hz => ?_⟩
   rcases List.mem_cons.1 hz with rfl | g
   ·omega
   ·exact h2 z g
set_option maxRecDepth 100000 in
set_option maxHeartbeats 6400000 in
theorem quotient_calls {w : World} {N ini : Nat} {A : Option Addr} {n : Nat} {B : Option Addr} {m : Nat} {ls : List ByteArray} {es : List Ed} (h : SysA w N ini A n B m ls es) (c d : Nat) (P : Option Addr) (cP : Nat) (p : List Int) (hP : SlI w 0 w.heap.size P N p) (hp : ∀ x, x ∈ p → 0 ≤ x ∧ x ≤ 1000000) (F : FuncId) (caps : Array Value) (G : Ed → Bool)
  (hF : ∀ (v : Value) (W : World), Sem.run Tryz.prog (callFunc F (#[v] ++ caps)) W = .ok (.enter F (#[v] ++ caps)) W)
  (hcl : ∀ (e : Ed) (W : World), e ∈ es → Below w.heap.size w W → Calls Tryz.prog F (#[.agg #[.int .i64 e.1, .int .i64 e.2.1, .int .i64 e.2.2]] ++ caps) W (Says (G e) W)) :
  Calls Tryz.prog 88 #[.agg #[.int .i64 (N : Int), .int .i64 (ini : Int), .slice A n c, .slice B m d], .slice P N cP, .func (.func F) #[] caps] w fun e w' => ∃ M A2 c2 A3 n3 c3, MaxL p M ∧ e = .returned (.agg #[.int .i64 (M + 1), .int .i64 (pv p (ini : Int)), .slice A2 n c2, .slice A3 n3 c3]) ∧ SlS w' w.heap.size w'.heap.size A2 n ls ∧ SlE w' w.heap.size w'.heap.size A3 n3 (quoF p G es) ∧ Below w.heap.size w w' ∧ Own 1 strv w' w.heap.size 9 A2 n c2 ls ∧ Own 3 ev w' w.heap.size 84 A3 n3 c3 (quoF p G es) := by
 have hEe := hide elem_edge
 obtain ⟨hm, hn12, hn1, hle, hll⟩ := h.many
 obtain ⟨⟨hN1, hN2⟩, hini⟩ := h.bounds
 have hlab3 := h.three
 obtain ⟨gP, oP, pini, rfl, -, -, hgP, hpx, cp, -⟩ := SlI.get hP hini
 have hpini : pini = pv p (ini : Int) := by unfold pv; rw [Int.toNat_natCast, hpx]; rfl
 obtain ⟨wB, hwB⟩ : ∃ wB, wB = w.alloc (ltsC N ini A n c B m d) := ⟨_, rfl⟩
 have zB : wB.heap.size = w.heap.size + 1 := by rw [hwB]; exact World.size_alloc _ _
 have bB : Below w.heap.size w wB := by rw [hwB]; exact (Below.refl w.heap.size w).alloc (Nat.le_refl _) _
 have xB : LtsBox wB w.heap.size (N : Int) (ini : Int) A n c B m d := by rw [hwB]; exact heap_alloc_new w _
 obtain ⟨w1, hw1⟩ : ∃ w1, w1 = wB.alloc (.cells #[.int .i64 0, .int .i64 0, .slice none 0 0, .slice none 0 0] 27) := ⟨_, rfl⟩
 have hbel1 : Hid (Below wB.heap.size wB w1) := by show Below _ _ _; rw [hw1]; exact (Below.refl _ _).alloc (Nat.le_refl _) _
 have hr1 : Hid (LtsBox w1 wB.heap.size 0 0 none 0 0 none 0 0) := by show LtsBox _ _ _ _ _ _ _ _ _ _; rw [hw1]; exact heap_alloc_new wB _
 have hz1 : Hid (wB.heap.size + 1 ≤ w1.heap.size) := hr1.out.lt
 have hAll : ∀ wx, Below wB.heap.size wB wx → SysA wx N ini A n B m ls es ∧ LtsBox wx w.heap.size (N : Int) (ini : Int) A n c B m d ∧ SlI wx 0 w.heap.size (some ⟨gP, oP, none⟩) N p ∧ Below w.heap.size w wx := fun wx hx =>
  ⟨h.below (bB.trans (hx.mono bB.size)) (Nat.le_refl _), xB.below hx (by omega), hP.below (bB.trans (hx.mono bB.size)) (.inl (Nat.le_refl _)), bB.trans (hx.mono bB.size)⟩
 obtain ⟨M, hM, hPos⟩ : ∃ M, MaxL p M ∧ Hid (∀ wx, Below w1.heap.size w1 wx → Calls Tryz.prog 168 #[.slice (some ⟨gP, oP, none⟩) N cP] wx fun e w' => e = .returned (.int .i64 (M + 1)) ∧ w' = wx) := by
  obtain ⟨M, hM⟩ : ∃ M, MaxL p M := maxL_ex p (fun e => by rw [e] at hpx; cases hpx)
  refine ⟨M, hM, fun wx hx => ?_⟩
  obtain ⟨-, -, y, -⟩ := hAll wx (hbel1.out.trans (hx.mono hbel1.out.size))
  refine (blockCount_calls _ _ _ _ _ _ _ y (by omega) (by omega) hp).mono ?_
  rintro e w' ⟨M', rfl, h1, h2⟩
  have : M' = M := Int.le_antisymm (hM.2 _ h1.1) (h1.2 _ hM.1)
  subst this
  exact ⟨rfl, h2⟩
 have hSS : Hid (∀ wx, Below w1.heap.size w1 wx → wx.cell? ⟨w.heap.size, 1, none⟩ = some (.int .i64 (ini : Int)) ∧ wx.cell? ⟨w.heap.size, 2, none⟩ = some (.slice A n c) ∧ wx.cell? ⟨gP, oP + ini, none⟩ = some (.int .i64 pini)) := fun wx hx => by
  obtain ⟨-, y, -, z⟩ := hAll wx (hbel1.out.trans (hx.mono hbel1.out.size))
  exact ⟨y.c1, y.c2, (z.cell (p := ⟨gP, oP + ini, none⟩) hgP).trans cp⟩
 have hCl : Hid (∀ wx, Below w1.heap.size w1 wx → Calls Tryz.prog 131 #[.slice A n c] wx fun e w' => ∃ A' c', e = .returned (.slice A' n c') ∧ Own 1 strv w' wx.heap.size 9 A' n c' ls ∧ Below wx.heap.size wx w') := fun wx hx => by
  obtain ⟨y, -, -, -⟩ := hAll wx (hbel1.out.trans (hx.mono hbel1.out.size))
  exact cloneS_calls _ _ _ _ _ _ _ y.ss (by omega)
 have i0 : (0 : Int) ≤ (ini : Int) := by omega
 have i1 : (ini : Int) < (N : Int) := by omega
 replace hAll := hide hAll
 replace zB := hide zB
 replace hcl := hide hcl
 replace hpini := hide hpini
 replace hlab3 := hide hlab3
 have hbBh := hide bB
 clear bB xB h hP cp hpx
 go_enter Tryz.func88, Tryz.ntmps88
 go_upto_region 1 with fail
 rw [show ((w.alloc (.cells #[.int .i64 (N : Int), .int .i64 (ini : Int), .slice A n c, .slice B m d] 27)).alloc (.cells #[.int .i64 0, .int .i64 0, .slice none 0 0, .slice none 0 0] 27)) = w1 from by rw [hw1, hwB]]
 replace hw1 := hide hw1
 replace hwB := hide hwB
 go_cut [7] (fun v7 wx => ∃ g9 e9 A1 c1, v7 = .pointer (some ⟨g9, 0, none⟩) ∧ Hid (LtmP wB wx g9 e9 (M + 1) pini A1 n c1 ls none 0 0 []))
 case first =>
  refine lateT_begin (S := fun w' => w'.cell? ⟨w.heap.size, 1, none⟩ = some (.int .i64 (ini : Int)) ∧ w'.cell? ⟨w.heap.size, 2, none⟩ = some (.slice A n c) ∧ w'.cell? ⟨gP, oP + ini, none⟩ = some (.int .i64 pini)) (st := 12) (by kernel_rfl) ?_
  have hD := (AlcW.start w1 ls).drew
  generalize w1.drew = wA at *
  have hS0 := hSS.out _ hD.below
  refine tkA ?_ 0 [12] rfl (Or.inl ⟨by rfl, ?hy⟩) hS0 ?_
  case hy => (intro w9 hSw; obtain ⟨s0, s1, s2⟩ := hSw; go_simp <;> with_reducible rfl)
  (try simp only [Act.put, sA, sB, sC])
  refine tkA ?_ 2 [12] rfl (Or.inl ⟨by rfl, ?hy⟩) hS0 ?_
  case hy => (intro w9 hSw; obtain ⟨s0, s1, s2⟩ := hSw; go_simp <;> with_reducible rfl)
  (try simp only [Act.put, sA, sB, sC])
  refine tkA ?_ 3 [12] rfl (Or.inl ⟨by rfl, ?hy⟩) hS0 ?_
  case hy => (intro w9 hSw; obtain ⟨s0, s1, s2⟩ := hSw; go_simp <;> with_reducible rfl)
  (try simp only [Act.put, sA, sB, sC])
  refine tkA ?_ 4 [12] rfl (Or.inl ⟨by rfl, ?hy⟩) hS0 ?_
  case hy => (intro w9 hSw; obtain ⟨s0, s1, s2⟩ := hSw; go_simp <;> with_reducible rfl)
  (try simp only [Act.put, sA, sB, sC])
  refine tkA ?_ 5 [12] rfl (Or.inl ⟨by rfl, ?hy⟩) hS0 ?_
  case hy => (intro w9 hSw; obtain ⟨s0, s1, s2⟩ := hSw; go_simp <;> with_reducible rfl)
  (try simp only [Act.put, sA, sB, sC])
  refine tkA ?_ 6 [12] rfl (Or.inl ⟨by rfl, ?hy⟩) hS0 ?_
  case hy => (intro w9 hSw; obtain ⟨s0, s1, s2⟩ := hSw; go_simp <;> with_reducible rfl)
  (try simp only [Act.put, sA, sB, sC])
  refine tkA ?_ 7 [12] rfl (Or.inl ⟨by rfl, ?hy⟩) hS0 ?_
  case hy => (intro w9 hSw; obtain ⟨s0, s1, s2⟩ := hSw; go_simp <;> with_reducible rfl)
  (try simp only [Act.put, sA, sB, sC])
  refine tkA ?_ 8 [12] rfl (Or.inl ⟨by rfl, ?hy⟩) hS0 ?_
  case hy => (intro w9 hSw; obtain ⟨s0, s1, s2⟩ := hSw; go_simp <;> with_reducible rfl)
  (try simp only [Act.put, sA, sB, sC])
  refine lateT_two (i := 1) (j := 11) (by kernel_rfl) rfl rfl (fun K hK => ?_) (fun K hK => ?_)
  ·go_simp
   go_at_call 168; (with_reducible refine (hPos.out _ hD.below).mono ?_); rintro e w6 ⟨rfl, e6⟩; rw [e6]; clear e6 w6
   (try go_wp2_with fail)
   refine hK.out _ _ (fun _ => hSS.out _ hD.below) ?_
   clear hK K
   (try simp only [Act.put, sA, sB, sC])
   refine lateT_two (i := 9) (j := 11) (by kernel_rfl) rfl rfl (fun K hK => ?_) (fun K hK => ?_)
   ·go_simp
    go_at_call 131; (with_reducible refine (hCl.out _ hD.below).mono ?_); rintro e wA ⟨A1, c1, rfl, hO6, hb6⟩
    replace hD := hD.clone hb6 hO6
    clear hO6 hb6
    (try go_wp2_with fail)
    refine hK.out _ _ (fun _ => hSS.out _ hD.below) ?_
    clear hK K
    (try simp only [Act.put, sA, sB, sC])
    refine lateT_two (i := 10) (j := 11) (by kernel_rfl) rfl rfl (fun K hK => ?_) (fun K hK => ?_)
    ·go_simp
     refine hK.out _ _ (fun _ => hSS.out _ hD.below) ?_
     clear hK K
     (try simp only [Act.put, sA, sB, sC])
     refine lateT_step (i := 11) (by kernel_rfl) rfl (fun K hK => ?_)
     go_simp
     replace hD := hD.alloc
     refine hK.out _ _ (fun _ => hSS.out _ hD.below) ?_
     clear hK K
     (try simp only [Act.put, sA, sB, sC])
     generalize wA.alloc (.cells #[.int .i64 0, .int .i64 0, .slice none 0 0, .slice none 0 0] 27) = wA at *
     refine lateT_step (i := 12) (by kernel_rfl) rfl (fun K hK => ?_)
     have hbx := (hD.box _ rfl).2
     have z0 := hbx.c0
     have z1 := hbx.c1
     have z2 := hbx.c2
     have z3 := hbx.c3
     have f0 := hbx.f0
     have f1 := hbx.f1
     have f2 := hbx.f2
     have f3 := hbx.f3
     go_simp
     refine hK.out _ _ (fun h => absurd rfl h) ?_
     clear hK K
     (try simp only [Act.put, sA, sB, sC])
     refine lateT_done (by kernel_rfl) ?_ _
     have hM := hD.fill hr1.out hz1.out hbel1.out (M + 1) pini rfl
     go_wp2_with fail
     go_meet
     exact ⟨_, _, _, _, rfl, hide hM⟩
    ·go_simp
     replace hD := hD.alloc
     refine hK.out _ _ (fun _ => hSS.out _ hD.below) ?_
     clear hK K
     (try simp only [Act.put, sA, sB, sC])
     generalize wA.alloc (.cells #[.int .i64 0, .int .i64 0, .slice none 0 0, .slice none 0 0] 27) = wA at *
     refine lateT_step (i := 10) (by kernel_rfl) rfl (fun K hK => ?_)
     go_simp
     refine hK.out _ _ (fun _ => hSS.out _ hD.below) ?_
     clear hK K
     (try simp only [Act.put, sA, sB, sC])
     refine lateT_step (i := 12) (by kernel_rfl) rfl (fun K hK => ?_)
     have hbx := (hD.box _ rfl).2
     have z0 := hbx.c0
     have z1 := hbx.c1
     have z2 := hbx.c2
     have z3 := hbx.c3
     have f0 := hbx.f0
     have f1 := hbx.f1
     have f2 := hbx.f2
     have f3 := hbx.f3
     go_simp
     refine hK.out _ _ (fun h => absurd rfl h) ?_
     clear hK K
     (try simp only [Act.put, sA, sB, sC])
     refine lateT_done (by kernel_rfl) ?_ _
     have hM := hD.fill hr1.out hz1.out hbel1.out (M + 1) pini rfl
     go_wp2_with fail
     go_meet
     exact ⟨_, _, _, _, rfl, hide hM⟩
   ·go_simp
    replace hD := hD.alloc
    refine hK.out _ _ (fun _ => hSS.out _ hD.below) ?_
    clear hK K
    (try simp only [Act.put, sA, sB, sC])
    generalize wA.alloc (.cells #[.int .i64 0, .int .i64 0, .slice none 0 0, .slice none 0 0] 27) = wA at *
    refine lateT_step (i := 9) (by kernel_rfl) rfl (fun K hK => ?_)
    go_simp
    go_at_call 131; (with_reducible refine (hCl.out _ hD.below).mono ?_); rintro e wA ⟨A1, c1, rfl, hO6, hb6⟩
    replace hD := hD.clone hb6 hO6
    clear hO6 hb6
    (try go_wp2_with fail)
    refine hK.out _ _ (fun _ => hSS.out _ hD.below) ?_
    clear hK K
    (try simp only [Act.put, sA, sB, sC])
    refine lateT_step (i := 10) (by kernel_rfl) rfl (fun K hK => ?_)
    go_simp
    refine hK.out _ _ (fun _ => hSS.out _ hD.below) ?_
    clear hK K
    (try simp only [Act.put, sA, sB, sC])
    refine lateT_step (i := 12) (by kernel_rfl) rfl (fun K hK => ?_)
    have hbx := (hD.box _ rfl).2
    have z0 := hbx.c0
    have z1 := hbx.c1
    have z2 := hbx.c2
    have z3 := hbx.c3
    have f0 := hbx.f0
    have f1 := hbx.f1
    have f2 := hbx.f2
    have f3 := hbx.f3
    go_simp
    refine hK.out _ _ (fun h => absurd rfl h) ?_
    clear hK K
    (try simp only [Act.put, sA, sB, sC])
    refine lateT_done (by kernel_rfl) ?_ _
    have hM := hD.fill hr1.out hz1.out hbel1.out (M + 1) pini rfl
    go_wp2_with fail
    go_meet
    exact ⟨_, _, _, _, rfl, hide hM⟩
  ·go_simp
   replace hD := hD.alloc
   refine hK.out _ _ (fun _ => hSS.out _ hD.below) ?_
   clear hK K
   (try simp only [Act.put, sA, sB, sC])
   generalize wA.alloc (.cells #[.int .i64 0, .int .i64 0, .slice none 0 0, .slice none 0 0] 27) = wA at *
   refine lateT_step (i := 1) (by kernel_rfl) rfl (fun K hK => ?_)
   go_simp
   go_at_call 168; (with_reducible refine (hPos.out _ hD.below).mono ?_); rintro e w6 ⟨rfl, e6⟩; rw [e6]; clear e6 w6
   (try go_wp2_with fail)
   refine hK.out _ _ (fun _ => hSS.out _ hD.below) ?_
   clear hK K
   (try simp only [Act.put, sA, sB, sC])
   refine lateT_step (i := 9) (by kernel_rfl) rfl (fun K hK => ?_)
   go_simp
   go_at_call 131; (with_reducible refine (hCl.out _ hD.below).mono ?_); rintro e wA ⟨A1, c1, rfl, hO6, hb6⟩
   replace hD := hD.clone hb6 hO6
   clear hO6 hb6
   (try go_wp2_with fail)
   refine hK.out _ _ (fun _ => hSS.out _ hD.below) ?_
   clear hK K
   (try simp only [Act.put, sA, sB, sC])
   refine lateT_step (i := 10) (by kernel_rfl) rfl (fun K hK => ?_)
   go_simp
   refine hK.out _ _ (fun _ => hSS.out _ hD.below) ?_
   clear hK K
   (try simp only [Act.put, sA, sB, sC])
   refine lateT_step (i := 12) (by kernel_rfl) rfl (fun K hK => ?_)
   have hbx := (hD.box _ rfl).2
   have z0 := hbx.c0
   have z1 := hbx.c1
   have z2 := hbx.c2
   have z3 := hbx.c3
   have f0 := hbx.f0
   have f1 := hbx.f1
   have f2 := hbx.f2
   have f3 := hbx.f3
   go_simp
   refine hK.out _ _ (fun h => absurd rfl h) ?_
   clear hK K
   (try simp only [Act.put, sA, sB, sC])
   refine lateT_done (by kernel_rfl) ?_ _
   have hM := hD.fill hr1.out hz1.out hbel1.out (M + 1) pini rfl
   go_wp2_with fail
   go_meet
   exact ⟨_, _, _, _, rfl, hide hM⟩
 case rest =>
  obtain ⟨g9, e9, A1, c1, rfl, hL0⟩ := hcut
  have b3 := (hAll.out wc hL0.out.bel).2.1.c3
  clear hSS hPos hCl hbel1 hr1 hz1
  go_wp2_with fail
  go_loopw [24] (fun v24 wr => ∃ (k k3 : Nat) (A3 : Option Addr) (c3 : Nat), k ≤ m ∧ v24 = .int .i64 (k : Nat) ∧ k3 ≤ k ∧ Hid (LtmP wB wr g9 e9 (M + 1) pini A1 n c1 ls A3 k3 c3 (((es.take k).filter G).map (quoO p)))) (fun v _ => m - (intOf v).toNat)
  case atStart => exact ⟨0, 0, none, 0, Nat.zero_le _, rfl, Nat.le_refl _, hL0.out⟩
  case round =>
   clear hL0 b3
   obtain ⟨k, k3, A3, c3, hk, rfl, hk3, hL⟩ := hrel
   by_cases hlt : k < m
   ·obtain ⟨hSy, -, -, hbw⟩ := hAll.out wr hL.out.bel
    obtain ⟨gB, oB, f, l, t, rfl, -, -, hgB, hx, x0, x1, x2, -⟩ := SlE.get hSy.se hlt
    have hmem := List.mem_of_getElem? hx
    have h3 := hlab3.out _ hmem
    (try dsimp only at h3)
    have k0 : (0 : Int) ≤ (k : Int) := by omega
    have k1 : (k : Int) < (m : Int) := by omega
    have hstep : Hid (((es.take (k + 1)).filter G).map (quoO p) = ((es.take k).filter G).map (quoO p) ++ if G (f, l, t) = true then [quoO p (f, l, t)] else []) := by
     show _ = _
     rw [List.take_add_one, hx, List.filter_append, List.map_append]
     congr 1
     show List.map (quoO p) (List.filter G [(f, l, t)]) = _
     by_cases c : G (f, l, t) = true
     ·rw [List.filter_cons_of_pos c, if_pos c]
      rfl
     ·rw [List.filter_cons_of_neg c, if_neg c]
      rfl
    obtain ⟨bA, hbA⟩ : ∃ bA, bA = wr.heap.size := ⟨_, rfl⟩
    obtain ⟨wA, hwA⟩ : ∃ wA, wA = wr.alloc (.cells #[.int .i64 f, .int .i64 l, .int .i64 t] 84) := ⟨_, rfl⟩
    have ka : wA.heap[bA]? = some (.cells #[.int .i64 f, .int .i64 l, .int .i64 t] 84 (0, 0)) := by rw [hwA, hbA]; exact heap_alloc_new wr _
    have hbAA : Below wr.heap.size wr wA := by rw [hwA]; exact (Below.refl _ _).alloc (Nat.le_refl _) _
    have hLA := hL.out.below hbAA
    have e0 := (cell_of_row _ _ 0 _ _ (0, 0) ka).trans (show _ = some (Value.int .i64 f) from rfl)
    have e1 := (cell_of_row _ _ 1 _ _ (0, 0) ka).trans (show _ = some (Value.int .i64 l) from rfl)
    have e2 := (cell_of_row _ _ 2 _ _ (0, 0) ka).trans (show _ = some (Value.int .i64 t) from rfl)
    have hcx := hide (hcl.out (f, l, t) wA hmem (hAll.out wA hLA.bel).2.2.2)
    have hnAr : some bA ≠ (Value.slice A3 k3 c3).ownBlock := fun e => by have := (hL.out.eds.lt bA e.symm).2; omega
    replace hx := hide hx
    clear hmem hSy hbw hbAA
    go_upto_region 5 with fail
    rw [← show bA = _ from hbA]
    rw [← show wA = _ from hwA]
    replace hwA := hide hwA
    replace hbA := hide hbA
    clear x0 x1 x2
    go_wp2_with fail
    refine hcx.out.mono ?_
    rintro e w5 ⟨rfl, hb5⟩
    have hL5 := hide (hLA.below hb5)
    have k5 : w5.heap[bA]? = some (.cells #[.int .i64 f, .int .i64 l, .int .i64 t] 84 (0, 0)) := (hb5.block bA (Array.getElem?_eq_some_iff.1 ka).1).trans ka
    clear e0 e1 e2 hcx hLA ka hb5
    cases hG : G (f, l, t) with
    | false =>
     have hs2 := hstep.out
     rw [hG, if_neg Bool.false_ne_true, List.append_nil] at hs2
     have hL9 := hL5.out
     rw [← hs2] at hL9
     replace hL9 := hide hL9
     replace hG := hide hG
     clear hs2 hstep hL hL5
     go_wp2_with fail
     go_roundw
     case rel => exact ⟨k + 1, k3, A3, c3, by omega, by go_num, by omega, hL9.out⟩
     case measure => simp [intOf]; omega
    | true =>
     have hs2 := hstep.out
     rw [hG, if_pos rfl] at hs2
     obtain ⟨wD, hwD⟩ : ∃ wD, wD = w5.drew := ⟨_, rfl⟩
     have hLD := hide (hL5.out.below (w' := wD) (by rw [hwD]; exact (Below.refl _ _).drew))
     have kd : wD.heap[bA]? = some (.cells #[.int .i64 f, .int .i64 l, .int .i64 t] 84 (0, 0)) := by rw [hwD]; exact k5
     have hbD : bA < wD.heap.size := (Array.getElem?_eq_some_iff.1 kd).1
     have b3 := hLD.out.box.c3
     have e0 := (cell_of_row _ _ 0 _ _ (0, 0) kd).trans (show _ = some (Value.int .i64 f) from rfl)
     have e1 := (cell_of_row _ _ 1 _ _ (0, 0) kd).trans (show _ = some (Value.int .i64 l) from rfl)
     have e2 := (cell_of_row _ _ 2 _ _ (0, 0) kd).trans (show _ = some (Value.int .i64 t) from rfl)
     obtain ⟨-, -, hSp, hbwD⟩ := hAll.out wD hLD.out.bel
     obtain ⟨g1, o1, pf, ee, -, -, hg1, hpf, cf, -⟩ := SlI.get hSp (show f.toNat < N by omega)
     cases ee
     obtain ⟨g2, o2, pt, ee, -, -, hg2, hpt, ct, -⟩ := SlI.get hSp (show t.toNat < N by omega)
     cases ee
     have hq : quoO p (f, l, t) = (pf, l, pt) := by
      show (pv p f, l, pv p t) = _
      unfold pv
      rw [hpf, hpt]
      rfl
     rw [hq] at hs2
     replace hs2 := hide hs2
     obtain ⟨f0, f1⟩ := h3.1
     obtain ⟨t0, t1⟩ := h3.2.2
     obtain ⟨wL, hwL⟩ : ∃ wL, wL = wD.alloc (.cells #[.int .i64 pf, .int .i64 l, .int .i64 pt] 84) := ⟨_, rfl⟩
     have hbl : Below wD.heap.size wD wL := by rw [hwL]; exact (Below.refl _ _).alloc (Nat.le_refl _) _
     have hLL := hide (hLD.out.below hbl)
     have hOL := hide hLL.out.eds
     have a3 := hLL.out.box.c3
     have a0 := (hbl.cell (p := ⟨bA, 0, none⟩) hbD).trans e0
     have a1 := (hbl.cell (p := ⟨bA, 1, none⟩) hbD).trans e1
     have a2 := (hbl.cell (p := ⟨bA, 2, none⟩) hbD).trans e2
     have af := (hbl.cell (p := ⟨gP, oP + f.toNat, none⟩) hg1).trans cf
     have at_ := (hbl.cell (p := ⟨gP, oP + t.toNat, none⟩) hg1).trans ct
     have hzbl := hbl.size
     have hbL : bA < wL.heap.size := by omega
     have hgPL : gP < wL.heap.size := by omega
     have hnA := hnAr
     have hzB := zB.out
     have hnP : some gP ≠ (Value.slice A3 k3 c3).ownBlock := fun e => by
      have h1 := (hLD.out.eds.lt gP e.symm).1
      have h2 := hLD.out.base
      omega
     have hlit : Hid (Sl 3 ev wL 0 (wD.heap.size + 1) (some ⟨wD.heap.size, 0, none⟩) 1 [(pf, l, pt)]) := by
      rw [hwL]
      exact Sl.lit1' (f := ev) wD 84 (pf, l, pt) #[.int .i64 pf, .int .i64 l, .int .i64 pt] rfl 3 _ rfl
     have hsz : (k3 + 1) * 24 ≤ 140737488355328 := by omega
     have hza := hLL.out.top
     replace hwL := hide hwL
     replace hG := hide hG
     replace hzB := hide hzB
     replace hpf := hide hpf
     replace hpt := hide hpt
     clear hstep hL hbl kd k5 hSp hbwD hzbl hq
     go_upto_region 6 with fail
     replace hwD := hide hwD
     refine lateT_begin (S := fun w' => w'.cell? ⟨g9, 3, none⟩ = some (.slice A3 k3 c3) ∧ w'.cell? ⟨bA, 0, none⟩ = some (.int .i64 f) ∧ w'.cell? ⟨bA, 1, none⟩ = some (.int .i64 l) ∧ w'.cell? ⟨bA, 2, none⟩ = some (.int .i64 t) ∧ w'.cell? ⟨gP, oP + f.toNat, none⟩ = some (.int .i64 pf) ∧ w'.cell? ⟨gP, oP + t.toNat, none⟩ = some (.int .i64 pt)) (st := 18) (by kernel_rfl) ?_
     rw [← show wD = _ from hwD.out]
     have hS0 : (fun w' : World => w'.cell? ⟨g9, 3, none⟩ = some (.slice A3 k3 c3) ∧ w'.cell? ⟨bA, 0, none⟩ = some (.int .i64 f) ∧ w'.cell? ⟨bA, 1, none⟩ = some (.int .i64 l) ∧ w'.cell? ⟨bA, 2, none⟩ = some (.int .i64 t) ∧ w'.cell? ⟨gP, oP + f.toNat, none⟩ = some (.int .i64 pf) ∧ w'.cell? ⟨gP, oP + t.toNat, none⟩ = some (.int .i64 pt)) wD := ⟨b3, e0, e1, e2, cf, ct⟩
     refine tkA ?_ 0 [18] rfl (Or.inl ⟨by rfl, ?hy⟩) hS0 ?_
     case hy => intro w hSw; (try dsimp only at hSw); go_simp <;> with_reducible rfl
     (try simp only [Act.put, sA, sB, sC])
     refine tkA ?_ 1 [18] rfl (Or.inl ⟨by rfl, ?hy⟩) hS0 ?_
     case hy => intro w hSw; (try dsimp only at hSw); go_simp <;> with_reducible rfl
     (try simp only [Act.put, sA, sB, sC])
     refine tkA ?_ 2 [18] rfl (Or.inl ⟨by rfl, ?hy⟩) hS0 ?_
     case hy => intro w hSw; (try dsimp only at hSw); go_simp <;> with_reducible rfl
     (try simp only [Act.put, sA, sB, sC])
     refine tkA ?_ 3 [18] rfl (Or.inl ⟨by rfl, ?hy⟩) hS0 ?_
     case hy => intro w hSw; (try dsimp only at hSw); go_simp <;> with_reducible rfl
     (try simp only [Act.put, sA, sB, sC])
     refine tkA ?_ 4 [18] rfl (Or.inl ⟨by rfl, ?hy⟩) hS0 ?_
     case hy => intro w hSw; (try dsimp only at hSw); go_simp <;> with_reducible rfl
     (try simp only [Act.put, sA, sB, sC])
     refine tkA ?_ 5 [18] rfl (Or.inl ⟨by rfl, ?hy⟩) hS0 ?_
     case hy => intro w hSw; (try dsimp only at hSw); go_simp <;> with_reducible rfl
     (try simp only [Act.put, sA, sB, sC])
     refine tkA ?_ 6 [18] rfl (Or.inl ⟨by rfl, ?hy⟩) hS0 ?_
     case hy => intro w hSw; (try dsimp only at hSw); go_simp <;> with_reducible rfl
     (try simp only [Act.put, sA, sB, sC])
     refine tkA ?_ 7 [18] rfl (Or.inl ⟨by rfl, ?hy⟩) hS0 ?_
     case hy => intro w hSw; (try dsimp only at hSw); go_simp <;> with_reducible rfl
     (try simp only [Act.put, sA, sB, sC])
     refine tkA ?_ 8 [18] rfl (Or.inl ⟨by rfl, ?hy⟩) hS0 ?_
     case hy => intro w hSw; (try dsimp only at hSw); go_simp <;> with_reducible rfl
     (try simp only [Act.put, sA, sB, sC])
     refine tkA ?_ 9 [18] rfl (Or.inl ⟨by rfl, ?hy⟩) hS0 ?_
     case hy => intro w hSw; (try dsimp only at hSw); go_simp <;> with_reducible rfl
     (try simp only [Act.put, sA, sB, sC])
     refine tkA ?_ 10 [18] rfl (Or.inl ⟨by rfl, ?hy⟩) hS0 ?_
     case hy => intro w hSw; (try dsimp only at hSw); go_simp <;> with_reducible rfl
     (try simp only [Act.put, sA, sB, sC])
     refine tkA ?_ 11 [18] rfl (Or.inl ⟨by rfl, ?hy⟩) hS0 ?_
     case hy => intro w hSw; (try dsimp only at hSw); go_simp <;> with_reducible rfl
     (try simp only [Act.put, sA, sB, sC])
     refine tkA ?_ 12 [18] rfl (Or.inl ⟨by rfl, ?hy⟩) hS0 ?_
     case hy => intro w hSw; (try dsimp only at hSw); go_simp <;> with_reducible rfl
     (try simp only [Act.put, sA, sB, sC])
     refine tkA ?_ 13 [18] rfl (Or.inl ⟨by rfl, ?hy⟩) hS0 ?_
     case hy => intro w hSw; (try dsimp only at hSw); go_simp <;> with_reducible rfl
     (try simp only [Act.put, sA, sB, sC])
     refine tkA ?_ 14 [18] rfl (Or.inl ⟨by rfl, ?hy⟩) hS0 ?_
     case hy => intro w hSw; (try dsimp only at hSw); go_simp <;> with_reducible rfl
     (try simp only [Act.put, sA, sB, sC])
     refine lateT_step (i := 15) (by kernel_rfl) rfl (fun K hK => ?_)
     go_simp
     rw [← show wL = _ from hwL.out]
     refine hK.out _ _ (fun _ => ⟨a3, a0, a1, a2, af, at_⟩) ?_
     clear hK K
     (try simp only [Act.put, sA, sB, sC])
     refine lateT_step (i := 16) (by kernel_rfl) rfl (fun K hK => ?_)
     refine step_appL (m := 1) (d := 1) (by rfl) (.tmp 32) (.tmp 46) (by rfl) hEe.out flat_ev (by go_simp) hOL.out (by go_simp) hlit.out hsz hza ?_
     intro A7 c7 w7 hown7 hgr7 hb7 hat7
     obtain ⟨hbx7, hL8⟩ := hLL.out.grown hgr7 hown7
     have d3 := hbx7.c3
     have df := hbx7.f3
     have d4 := grown_cell8 hgr7 hbL hnA a0
     have d5 := grown_cell8 hgr7 hbL hnA a1
     have d6 := grown_cell8 hgr7 hbL hnA a2
     have d7 := grown_cell8 hgr7 hgPL hnP af
     have d8 := grown_cell8 hgr7 hgPL hnP at_
     refine hK.out _ _ (fun _ => ⟨d3, d4, d5, d6, d7, d8⟩) ?_
     clear hK K
     (try simp only [Act.put, sA, sB, sC])
     refine lateT_step (i := 17) (by kernel_rfl) rfl (fun K hK => ?_)
     go_simp
     refine hK.out _ _ (fun _ => ⟨d3, d4, d5, d6, d7, d8⟩) ?_
     clear hK K
     (try simp only [Act.put, sA, sB, sC])
     refine lateT_step (i := 18) (by kernel_rfl) rfl (fun K hK => ?_)
     go_simp
     refine hK.out _ _ (fun h => absurd rfl h) ?_
     clear hK K
     (try simp only [Act.put, sA, sB, sC])
     refine lateT_done (by kernel_rfl) ?_ _
     have hL9 := hL8
     rw [← hs2.out] at hL9
     replace hL9 := hide hL9
     clear hL8 hown7 hgr7 hb7 hat7 hbx7
     go_wp2_with fail
     go_roundw
     case rel => exact ⟨k + 1, k3 + 1, A7, c7, by omega, by go_num, by omega, hL9.out⟩
     case measure => simp [intOf]; omega
   ·have hkm : k = m := by omega
    subst hkm
    have hLm := hL.out
    rw [List.take_of_length_le (by omega)] at hLm
    have hqT := hide (tidy_calls hLm (by omega))
    clear hL hLm
    go_upto_region 9 with (first | (go_at_call 169; (with_reducible refine hqT.out.mono ?_); rintro e w6 ⟨n3, rfl, hL6⟩))
    have hres : LtsBox w6 (w.heap.size + 1) 0 0 none 0 0 none 0 0 := by rw [← zB.out]; exact hL6.res
    have y0 := hL6.box.c0
    have y1 := hL6.box.c1
    have y2 := hL6.box.c2
    have y3 := hL6.box.c3
    have r0 := hres.c0
    have r1 := hres.c1
    have r2 := hres.c2
    have r3 := hres.c3
    have v0 := hres.f0
    have v1 := hres.f1
    have v2 := hres.f2
    have v3 := hres.f3
    replace hL6 := hide hL6
    clear hqT hres
    go_wp2_with fail
    (try simp only [Exit.inBlock, Exit.then])
    refine bodyPost_ret_by (v := .agg #[.int .i64 (M + 1), .int .i64 pini, .slice A1 n c1, .slice A3 n3 c3]) ?_ rfl ?_
    focus
     rw [results_cell1 rfl]
     go_simp
    obtain ⟨f1, f2, f3⟩ := hL6.out.done (.int .i64 (M + 1)) (.int .i64 pini) (.slice A1 n c1) (.slice A3 n3 c3) (by rw [zB.out])
    have f4 := hL6.out.doneL (.int .i64 (M + 1)) (.int .i64 pini) (.slice A1 n c1) (.slice A3 n3 c3) (by rw [zB.out])
    have hzB := zB.out
    exact ⟨M, A1, c1, A3, n3, c3, hM, by rw [← hpini.out], f1.more (by omega) (Nat.le_refl _), (f2.sl flat_ev).more (by omega) (Nat.le_refl _), hbBh.out.trans (f3.mono (by omega)), f4.sink (by omega), f2.sink (by omega)⟩
end Go.Proofs.YtnhomkmfbngmgaaGreatDoor

namespace Go.Proofs.YtnhomkmfbngmgaaGreatDoor
set_option linter.unusedVariables false

structure BisR {L : Type} (A B : Nat → L → Nat → Prop) (R : Nat → Nat → Prop) : Prop where
 fwd : ∀ x y s x', R x y → A x s x' → ∃ y', B y s y' ∧ R x' y'
 bwd : ∀ x y s y', R x y → B y s y' → ∃ x', A x s x' ∧ R x' y'
def Bis {L : Type} (A B : Nat → L → Nat → Prop) (a b : Nat) : Prop := ∃ R, BisR A B R ∧ R a b
section
variable {L : Type} {A B C : Nat → L → Nat → Prop} {a b c : Nat}
theorem Bis.symm (h : Bis A B a b) : Bis B A b a := by
 obtain ⟨R, h1, h2⟩ := h
 exact ⟨fun x y => R y x, ⟨fun x y s x' e g => h1.bwd y x s x' e g, fun x y s y' e g => h1.fwd y x s y' e g⟩, h2⟩
end

def nE (es : List Ed) (x : Nat) (l : Int) (y : Nat) : Prop := ((x : Int), l, (y : Int)) ∈ es
section
variable {es : List Ed} {N r : Nat}
theorem nE_in (he : EdIn N es) {x y : Nat} {l : Int} (h : nE es x l y) : x < N ∧ y < N := by
 have := he _ h
 simp only at this
 omega
theorem canS_nE (he : EdIn N es) {p : List Int} {k : Nat} {l b : Int} : canS es p k l b ↔ ∃ y, nE es k l y ∧ p[y]? = some b := by
 constructor
 ·rintro ⟨⟨f, l', t⟩, h1, h2, h3, h4⟩
  have := he _ h1
  simp only at this h2 h3 h4
  refine ⟨t.toNat, ?_, h4⟩
  unfold nE
  rw [← h2, ← h3, show ((t.toNat : Nat) : Int) = t by omega]
  exact h1
 ·rintro ⟨y, h1, h2⟩
  exact ⟨_, h1, rfl, rfl, by simpa using h2⟩
end

def tE (ls : List ByteArray) (es : List Ed) (x : Nat) (s : ByteArray) (y : Nat) : Prop := ∃ l : Nat, nE es x (l : Int) y ∧ ls[l]? = some s
def sumE {L : Type} (n : Nat) (A B : Nat → L → Nat → Prop) (x : Nat) (s : L) (y : Nat) : Prop := (x < n ∧ y < n ∧ A x s y) ∨ (∃ x' y', x = n + x' ∧ y = n + y' ∧ B x' s y')
end Go.Proofs.YtnhomkmfbngmgaaGreatDoor

namespace Go.Proofs.YtnhomkmfbngmgaaGreatDoor
set_option linter.unusedVariables false

def PartE (S : List Int) (es es2 : List Ed) : Prop := ∀ f l t, (f, l, t) ∈ es2 ↔ ∃ (i j : Nat) (a b : Int), f = (i : Int) ∧ t = (j : Int) ∧ S[i]? = some a ∧ S[j]? = some b ∧ (a, l, b) ∈ es
def QuoE (p : List Int) (es es2 : List Ed) : Prop := ∀ f l t, (f, l, t) ∈ es2 ↔ ∃ e, e ∈ es ∧ p[e.1.toNat]? = some f ∧ e.2.1 = l ∧ p[e.2.2.toNat]? = some t
section
variable {es es2 : List Ed} {N r : Nat} {p : List Int}
end
theorem part_mem {N : Nat} {p : List Int} (h : PartN N p) {c : Nat} (hc : c < numB p) : (c : Int) ∈ p := by
 have h1 := firsts_of_norm h.norm
 have : (c : Int) ∈ firsts [] p := by
  rw [h1]
  unfold selfL
  exact List.mem_map.2 ⟨c, List.mem_range.2 hc, rfl⟩
 exact (firsts_mem.1 this).resolve_left List.not_mem_nil
theorem part_lt {N : Nat} {p : List Int} (h : PartN N p) {x : Int} (hx : x ∈ p) : 0 ≤ x ∧ x < (numB p : Int) := by
 have h1 := firsts_of_norm h.norm
 have : x ∈ firsts [] p := firsts_mem.2 (.inr hx)
 rw [h1] at this
 obtain ⟨c, hc, rfl⟩ := List.mem_map.1 this
 have := List.mem_range.1 hc
 exact ⟨by show (0 : Int) ≤ (c : Int); omega, by show (c : Int) < _; omega⟩
theorem numB_single {p : List Int} (h : ∀ i j, i < p.length → j < p.length → sameB p i j → i = j) : numB p = p.length := by
 have hn : p.Nodup := by
  refine List.pairwise_iff_getElem.2 fun i j hi hj hij e => ?_
  have := h i j hi hj (by unfold sameB; rw [List.getElem?_eq_getElem hi, List.getElem?_eq_getElem hj, e])
  omega
 have h1 : p.length ≤ (firsts [] p).length := sub_len hn fun y hy => firsts_mem.2 (.inr hy)
 have h2 := numB_le p
 unfold numB at *
 omega
end Go.Proofs.YtnhomkmfbngmgaaGreatDoor

namespace Go.Proofs.YtnhomkmfbngmgaaGreatDoor
open Go.ChangeShapes Go.WideShapes Go.ChangeAt Go.RowKit Go.Sort Go.Lib
set_option linter.unusedVariables false
set_option linter.unusedSimpArgs false

theorem compactE_rise {l : List Ed} (h : l.Pairwise fun x y => edLess y x = false) : RisE (Lib.compact l) := by
 unfold RisE Lib.compact Lib.compactUpTo
 rw [List.pairwise_map]
 refine List.Pairwise.imp_of_mem (fun {p q} hp hq hpq => ?_) (List.Pairwise.filter _ (List.pairwise_lt_range (n := l.length)))
 obtain ⟨hp1, -⟩ := List.mem_filter.1 hp
 obtain ⟨hq1, hq2⟩ := List.mem_filter.1 hq
 have hp1 := List.mem_range.1 hp1
 have hq1 := List.mem_range.1 hq1
 unfold Lib.keeps at hq2
 rw [decide_eq_true_eq] at hq2
 have hne : l.toArray[q]! ≠ l.toArray[q - 1]! := hq2.resolve_left (by omega)
 rw [getElem!_pos _ q (by simpa using hq1), getElem!_pos _ (q - 1) (by simp; omega)] at hne
 rw [getElem!_pos _ p (by simpa using hp1), getElem!_pos _ q (by simpa using hq1)]
 simp only [List.getElem_toArray] at hne ⊢
 have h1 := List.pairwise_iff_getElem.1 h (q - 1) q (by omega) hq1 (by omega)
 have h2 : edLess l[q - 1] l[q] = true := by
  rcases edLess_total (fun e => hne e.symm) with g | g
  ·exact g
  ·rw [h1] at g; cases g
 by_cases e : p = q - 1
 ·subst e; exact h2
 ·have h3 := List.pairwise_iff_getElem.1 h p (q - 1) hp1 (by omega) (by omega)
  by_cases e2 : l[p] = l[q - 1]
  ·rw [e2]; exact h2
  ·rcases edLess_total e2 with g | g
   ·exact edLess_trans g h2
   ·rw [h3] at g; cases g
theorem sortE_rise {l : List Ed} (hn : l.Nodup) : RisE (sortE l) := by
 have h1 := sortE_le l
 have h2 : (sortE l).Nodup := (List.mergeSort_perm l _).nodup_iff.2 hn
 refine List.pairwise_iff_getElem.2 fun i j hi hj hij => ?_
 have h3 := List.pairwise_iff_getElem.1 h1 i j hi hj hij
 have h4 := List.pairwise_iff_getElem.1 h2 i j hi hj hij
 rcases edLess_total h4 with g | g
 ·exact g
 ·rw [h3] at g; cases g
theorem rise_nodup {l : List Ed} (h : RisE l) : l.Nodup := h.imp fun {a b} g e => by rw [e, edLess_irr] at g; cases g
theorem ltsV_of {st ini : Int} {ls : List ByteArray} {es : List Ed} (h1 : 1 ≤ st ∧ st ≤ 40) (h2 : 0 ≤ ini ∧ ini < st) (hn : namesB ls = true) (hes : es.length ≤ 300) (hr : RisE es)
  (he : ∀ e, e ∈ es → (0 ≤ e.1 ∧ e.1 < st) ∧ (0 ≤ e.2.1 ∧ e.2.1 < (ls.length : Int)) ∧ 0 ≤ e.2.2 ∧ e.2.2 < st) : ltsV (st, ini, ls, es) = true := by
 rw [ltsV_eq]
 simp only [Bool.and_eq_true, decide_eq_true_eq]
 refine ⟨⟨inB_true.2 (by omega), inB_true.2 (by omega), hn, hes⟩, allK_good fun k hk => ?_⟩
 obtain ⟨⟨f, lb, t⟩, hx⟩ : ∃ x, es[k]? = some x := ⟨_, List.getElem?_eq_getElem hk⟩
 have hb := he _ (List.mem_of_getElem? hx)
 (try dsimp only at hb)
 have b1 : inB f 0 (st - 1) = true := inB_true.2 (by omega)
 have b2 : inB t 0 (st - 1) = true := inB_true.2 (by omega)
 have b3 : inB lb 0 ((ls.length : Int) - 1) = true := inB_true.2 (by omega)
 by_cases k0 : k = 0
 ·subst k0
  have := okE_zero (st := st) (m := ls.length) hx
  rw [this, b1, b2, b3]; rfl
 ·obtain ⟨r, hrr⟩ : ∃ r, es[k - 1]? = some r := ⟨_, List.getElem?_eq_getElem (by omega)⟩
  have := okE_at (st := st) (m := ls.length) hx (by omega) hrr
  rw [this, b1, b2, b3]
  have p := List.pairwise_iff_getElem.1 hr (k - 1) k (by omega) hk (by omega)
  rw [(List.getElem?_eq_some_iff.1 hrr).2, (List.getElem?_eq_some_iff.1 hx).2] at p
  rw [p]; rfl
theorem ltsV_names {st ini : Int} {ls : List ByteArray} {es : List Ed} (h : ltsV (st, ini, ls, es) = true) : namesB ls = true ∧ es.length ≤ 300 := by
 rw [ltsV_eq] at h
 simp only [Bool.and_eq_true, decide_eq_true_eq] at h
 exact ⟨h.1.2.2.1, h.1.2.2.2⟩
theorem rise_near {es : List Ed} (h : ∀ k r e, 0 < k → es[k - 1]? = some r → es[k]? = some e → edLess r e = true) : RisE es := by
 have key : ∀ d i (hi : i < es.length) (hj : i + 1 + d < es.length), edLess es[i] es[i + 1 + d] = true := by
  intro d
  induction d with
  | zero => exact fun i hi hj => h (i + 1) _ _ (by omega) (List.getElem?_eq_getElem hi) (List.getElem?_eq_getElem hj)
  | succ d ih => exact fun i hi hj => edLess_trans (ih i hi (by omega)) (h (i + 1 + (d + 1)) _ _ (by omega) (List.getElem?_eq_getElem (show i + 1 + (d + 1) - 1 < es.length by omega)) (List.getElem?_eq_getElem hj))
 refine List.pairwise_iff_getElem.2 fun i j hi hj hij => ?_
 have := key (j - i - 1) i hi (by omega)
 have e : i + 1 + (j - i - 1) = j := by omega
 simpa only [e] using this
theorem ltsV_rise {st ini : Int} {ls : List ByteArray} {es : List Ed} (h : ltsV (st, ini, ls, es) = true) : RisE es := by
 rw [ltsV_eq] at h
 simp only [Bool.and_eq_true] at h
 refine rise_near fun k r e hk hr he => ?_
 obtain ⟨f, lb, t⟩ := e
 have h1 := allK_get h.2 (List.getElem?_eq_some_iff.1 he).1
 rw [okE_at he hk hr] at h1
 simp only [Bool.and_eq_true] at h1
 exact h1.2
theorem partF_part {S : List Int} {es : List Ed} (hn : S.Nodup) : PartE S es (partF S es) := by
 intro f l t
 unfold partF
 rw [sortE_mem, List.mem_filterMap]
 constructor
 ·rintro ⟨⟨a, l', b⟩, he, h⟩
  unfold partO at h
  dsimp only at h
  by_cases c : 0 ≤ posZ S a ∧ 0 ≤ posZ S b
  ·rw [if_pos c] at h
   injection h with h
   injection h with h1 h2
   injection h2 with h2 h3
   obtain ⟨i, hi⟩ : ∃ i : Nat, posZ S a = (i : Int) := ⟨(posZ S a).toNat, by omega⟩
   obtain ⟨j, hj⟩ : ∃ j : Nat, posZ S b = (j : Int) := ⟨(posZ S b).toNat, by omega⟩
   exact ⟨i, j, a, b, by omega, by omega, (posZ_at hn).1 hi, (posZ_at hn).1 hj, h2 ▸ he⟩
  ·rw [if_neg c] at h
   cases h
 ·rintro ⟨i, j, a, b, rfl, rfl, hi, hj, he⟩
  refine ⟨(a, l, b), he, ?_⟩
  have h1 := (posZ_at hn).2 hi
  have h2 := (posZ_at hn).2 hj
  unfold partO
  dsimp only
  rw [h1, h2, if_pos ⟨by omega, by omega⟩]
theorem quoF_quo {p : List Int} {es : List Ed} (hb : ∀ e, e ∈ es → e.1.toNat < p.length ∧ e.2.2.toNat < p.length) : QuoE p es (quoF p (fun _ => true) es) := by
 intro f l t
 unfold quoF
 rw [compactE_mem, sortE_mem, List.filter_eq_self.2 (fun _ _ => rfl), List.mem_map]
 constructor
 ·rintro ⟨e, he, h⟩
  unfold quoO pv at h
  injection h with h1 h2
  injection h2 with h2 h3
  have hh := hb e he
  rw [List.getElem?_eq_getElem hh.1, Option.getD_some] at h1
  rw [List.getElem?_eq_getElem hh.2, Option.getD_some] at h3
  exact ⟨e, he, by rw [List.getElem?_eq_getElem hh.1, h1], h2, by rw [List.getElem?_eq_getElem hh.2, h3]⟩
 ·rintro ⟨e, he, h1, h2, h3⟩
  refine ⟨e, he, ?_⟩
  unfold quoO pv
  rw [h1, h3, h2]
  rfl
end Go.Proofs.YtnhomkmfbngmgaaGreatDoor

namespace Go.Proofs.YtnhomkmfbngmgaaGreatDoor
open Go.ChangeShapes Go.WideShapes Go.ChangeAt Go.RowKit Go.Sort Go.Lib
set_option linter.unusedVariables false
set_option linter.unusedSimpArgs false

theorem posZ_inj {l : List Int} {u v : Int} (h : posZ l u = posZ l v) (h0 : 0 ≤ posZ l u) : u = v := by
 unfold posZ at h h0
 by_cases hu : u ∈ l
 ·by_cases hv : v ∈ l
  ·rw [if_pos hu, if_pos hv] at h
   have h2 : l.idxOf u < l.length := List.idxOf_lt_length_iff.2 hu
   have h3 : l.idxOf v < l.length := List.idxOf_lt_length_iff.2 hv
   have e : l.idxOf u = l.idxOf v := by omega
   have g1 : l[l.idxOf u] = u := List.getElem_idxOf h2
   have g2 : l[l.idxOf v] = v := List.getElem_idxOf h3
   rw [← g1, ← g2]
   congr 1
  ·rw [if_pos hu, if_neg hv] at h
   omega
 ·rw [if_neg hu] at h0
  omega
theorem filterMap_nodup {α β : Type} {f : α → Option β} (hf : ∀ a b c, f a = some c → f b = some c → a = b) : ∀ {l : List α}, l.Nodup → (l.filterMap f).Nodup
 | [], _ => List.nodup_nil
 | a :: r, h => by
  obtain ⟨h1, h2⟩ := List.nodup_cons.1 h
  cases hfa : f a with
  | none => rw [List.filterMap_cons_none hfa]; exact filterMap_nodup hf h2
  | some c =>
   rw [List.filterMap_cons_some hfa]
   refine List.nodup_cons.2 ⟨fun hm => ?_, filterMap_nodup hf h2⟩
   obtain ⟨b, hb, e⟩ := List.mem_filterMap.1 hm
   exact h1 (hf a b c hfa e ▸ hb)
theorem partF_rise {S : List Int} {es : List Ed} (h : RisE es) : RisE (partF S es) := by
 unfold partF
 refine sortE_rise (filterMap_nodup (fun a b c ha hb => ?_) (rise_nodup h))
 unfold partO at ha hb
 by_cases c1 : 0 ≤ posZ S a.1 ∧ 0 ≤ posZ S a.2.2
 ·by_cases c2 : 0 ≤ posZ S b.1 ∧ 0 ≤ posZ S b.2.2
  ·rw [if_pos c1] at ha
   rw [if_pos c2] at hb
   have e := Option.some.inj (ha.trans hb.symm)
   injection e with e1 e2
   injection e2 with e2 e3
   have g1 := posZ_inj e1 c1.1
   have g3 := posZ_inj e3 c1.2
   obtain ⟨x, y, z⟩ := a
   obtain ⟨x', y', z'⟩ := b
   simp only at g1 g3 e2
   rw [g1, g3, e2]
  ·rw [if_neg c2] at hb; cases hb
 ·rw [if_neg c1] at ha; cases ha
theorem partF_len {S : List Int} {es : List Ed} : (partF S es).length ≤ es.length := by
 unfold partF
 rw [sortE_len]
 exact List.length_filterMap_le _ _
theorem quoF_rise {p : List Int} {G : Ed → Bool} {es : List Ed} : RisE (quoF p G es) := compactE_rise (sortE_le _)
theorem quoF_len {p : List Int} {G : Ed → Bool} {es : List Ed} : (quoF p G es).length ≤ es.length := by
 unfold quoF
 refine Nat.le_trans (compactE_len _) ?_
 rw [sortE_len, List.length_map]
 exact List.length_filter_le _ _
theorem part_valid {N ini : Nat} {ls : List ByteArray} {es : List Ed} {S : List Int} (h : ltsV ((N : Int), (ini : Int), ls, es) = true) (hn : S.Nodup) (hS : S.length ≤ 40) (hi : (ini : Int) ∈ S) :
  ltsV ((S.length : Int), posZ S (ini : Int), ls, partF S es) = true ∧ 0 ≤ posZ S (ini : Int) := by
 have h2 : S.idxOf (ini : Int) < S.length := List.idxOf_lt_length_iff.2 hi
 have hp : posZ S (ini : Int) = ((S.idxOf (ini : Int) : Nat) : Int) := by unfold posZ; rw [if_pos hi]
 have hnm := ltsV_names h
 have hl := partF_len (S := S) (es := es)
 refine ⟨ltsV_of (by omega) (by omega) hnm.1 (by omega) (partF_rise (ltsV_rise h)) fun e he => ?_, by omega⟩
 obtain ⟨f, l, t⟩ := e
 obtain ⟨i, j, a, b, rfl, rfl, hi, hj, hm⟩ := (partF_part hn f l t).1 he
 have h1 := (List.getElem?_eq_some_iff.1 hi).1
 have h3 := (List.getElem?_eq_some_iff.1 hj).1
 have h4 := ((ltsV_edge h).1 _ hm).2.1
 dsimp only at h4 ⊢
 omega
theorem max_numB {N : Nat} {p : List Int} {M : Int} (hp : PartN N p) (hM : MaxL p M) : M + 1 = (numB p : Int) := by
 have h1 := part_lt hp hM.1
 have h2 : 0 < numB p := by omega
 have h3 := hM.2 _ (part_mem hp (show numB p - 1 < numB p by omega))
 omega
theorem quo_valid {N ini : Nat} {ls : List ByteArray} {es : List Ed} {p : List Int} {M : Int} (h : ltsV ((N : Int), (ini : Int), ls, es) = true) (hp : PartN N p) (hM : MaxL p M) :
  ltsV (M + 1, pv p (ini : Int), ls, quoF p (fun _ => true) es) = true ∧ 0 ≤ pv p (ini : Int) := by
 have hed := ltsV_edge h
 have hb : ∀ e, e ∈ es → e.1.toNat < p.length ∧ e.2.2.toNat < p.length := fun e he => by
  have := hed.1 e he
  rw [hp.len]
  omega
 have hnm := ltsV_names h
 have hl := quoF_len (p := p) (G := fun _ => true) (es := es)
 have hnb := max_numB hp hM
 have hle : numB p ≤ N := by
  have h1 := numB_le p
  rw [hp.len] at h1
  exact h1
 have hpi : (pv p (ini : Int)) ∈ p := by
  unfold pv
  rw [Int.toNat_natCast, List.getElem?_eq_getElem (show ini < p.length by rw [hp.len]; omega), Option.getD_some]
  exact List.getElem_mem _
 have hr := part_lt hp hpi
 refine ⟨ltsV_of (by omega) (by omega) hnm.1 (by omega) quoF_rise fun e he => ?_, hr.1⟩
 obtain ⟨f, l, t⟩ := e
 obtain ⟨e, hm, h1, h2, h3⟩ := (quoF_quo hb f l t).1 he
 have g1 := part_lt hp (List.mem_of_getElem? h1)
 have g3 := part_lt hp (List.mem_of_getElem? h3)
 have g2 := (hed.1 e hm).2.1
 dsimp only
 omega
end Go.Proofs.YtnhomkmfbngmgaaGreatDoor

namespace Go.Proofs.YtnhomkmfbngmgaaGreatDoor
open Go.ChangeShapes Go.WideShapes Go.ChangeAt Go.RowKit Go.Sort
set_option linter.unusedVariables false
set_option linter.unusedSimpArgs false

section
variable {α : Type} {size : Nat} {f : α → List Value} {w w' : World} {base n c : Nat} {e : TypeId} {A : Option Addr} {l : List α}
theorem Own.typedT (h : Own size f w base e A n c l) {g : Nat} (hg : (Value.slice A n c).ownBlock = some g) : base ≤ g ∧ g < w.heap.size ∧ ∃ cur, w.heap[g]? = some (.cells cur e (0, 0)) := by
 refine ⟨(h.lt g hg).1, (h.lt g hg).2, ?_⟩
 rcases h.2.2 with ⟨hv, _⟩ | ⟨b, cap, cur, hv, _, hb, _⟩
 ·rw [hv] at hg; cases hg
 ·rw [hv] at hg
  obtain rfl : b = g := by injection hg
  exact ⟨cur, hb⟩
theorem Own.otherT (h : Own size f w base e A n c l) {b : Nat} {cur : Array Value} {t : TypeId} {z : Nat × Nat} (hb : w.heap[b]? = some (.cells cur t z)) (ht : t ≠ e) : some b ≠ (Value.slice A n c).ownBlock := fun e1 => by
 obtain ⟨-, -, cu, h1⟩ := h.typedT e1.symm
 rw [hb] at h1
 injection h1 with h1
 injection h1 with _ h1
 exact ht h1
theorem grown_blockT {row : Option Nat} (hg : w.grownBy w' row) {b : Nat} {o : Obj} (hb : w.heap[b]? = some o) (hne : some b ≠ row) : w'.heap[b]? = some o :=
 (hg.block b (Array.getElem?_eq_some_iff.1 hb).1 hne).trans hb
end

section
variable {w w' : World} {base n c : Nat} {A : Option Addr} {H : List (Hd × List Bool)}
end

section
variable {w w' : World} {base bt ba bb n c : Nat} {K : Int} {A : Option Addr} {H : List (Hd × List Bool)}
end

end Go.Proofs.YtnhomkmfbngmgaaGreatDoor

namespace Go.Proofs.YtnhomkmfbngmgaaGreatDoor
open Go.ChangeShapes Go.WideShapes Go.ChangeAt Go.RowKit Go.Sort
set_option linter.unusedVariables false
set_option linter.unusedSimpArgs false

structure OnlS (w wr : World) (s0 s1 : Int) (A2 : Option Addr) (n2 k2 : Nat) (A : Option Addr) (m c : Nat) (l : List Ed) : Prop where
 kR : wr.heap[w.heap.size + 1]? = some (.cells #[.int .i64 0, .int .i64 0, .slice none 0 0, .slice none 0 0] 27 (0, 0))
 kO : wr.heap[w.heap.size + 1 + 1]? = some (.cells #[.int .i64 s0, .int .i64 s1, .slice A2 n2 k2, .slice A m c] 27 (0, 0))
 own : Own 3 ev wr w.heap.size 84 A m c l
 bel : Below w.heap.size w wr
theorem OnlS.below {w wr wx : World} {s0 s1 : Int} {A2 : Option Addr} {n2 k2 : Nat} {A : Option Addr} {m c : Nat} {l : List Ed} (h : OnlS w wr s0 s1 A2 n2 k2 A m c l) (hb : Below wr.heap.size wr wx) : OnlS w wx s0 s1 A2 n2 k2 A m c l :=
 ⟨(hb.block _ (Array.getElem?_eq_some_iff.1 h.kR).1).trans h.kR, (hb.block _ (Array.getElem?_eq_some_iff.1 h.kO).1).trans h.kO, h.own.below hb (Nat.le_refl _), h.bel.trans (hb.mono h.bel.size)⟩
theorem OnlS.mid {w wr wx : World} {s0 s1 : Int} {A2 : Option Addr} {n2 k2 : Nat} {A : Option Addr} {m c : Nat} {l : List Ed} (h : OnlS w wr s0 s1 A2 n2 k2 A m c l) {o : Obj} (hg : (wr.alloc o).grownBy wx (Value.slice A m c).ownBlock) : wx.heap[w.heap.size + 1 + 1]? = some (.cells #[.int .i64 s0, .int .i64 s1, .slice A2 n2 k2, .slice A m c] 27 (0, 0)) :=
 grown_blockT hg ((Below.heap_alloc _ _ _ (Array.getElem?_eq_some_iff.1 h.kO).1).trans h.kO) (h.own.otherT h.kO (by decide))
theorem OnlS.next {w wr wx : World} {s0 s1 : Int} {A2 : Option Addr} {n2 k2 : Nat} {A : Option Addr} {m c : Nat} {l : List Ed} (h : OnlS w wr s0 s1 A2 n2 k2 A m c l) {o : Obj} (hg : (wr.alloc o).grownBy wx (Value.slice A m c).ownBlock) (hb : Below w.heap.size (wr.alloc o) wx)
  {A' : Option Addr} {c' : Nat} {l' : List Ed} (ho : Own 3 ev wx w.heap.size 84 A' (m + 1) c' l') : OnlS w (wx.setCell ⟨w.heap.size + 1 + 1, 3, none⟩ (.slice A' (m + 1) c')) s0 s1 A2 n2 k2 A' (m + 1) c' l' := by
 have k1 := h.mid hg
 have k2 := grown_blockT hg ((Below.heap_alloc _ _ _ (Array.getElem?_eq_some_iff.1 h.kR).1).trans h.kR) (h.own.otherT h.kR (by decide))
 refine ⟨(Below.heap_setCell _ _ _ _ (by show _ ≠ w.heap.size + 1 + 1; omega)).trans k2, heap_setCell_same _ _ 3 _ _ _ k1, ?_, ?_⟩
 ·exact ho.keep fun g hg' => Below.heap_setCell _ _ _ _ fun e => ho.otherT k1 (by decide) (by rw [hg']; exact congrArg some e.symm)
 ·exact ((h.bel.alloc h.bel.size o).trans hb).setCell (by show w.heap.size ≤ w.heap.size + 1 + 1; omega) _

set_option maxRecDepth 100000 in
set_option maxHeartbeats 3200000 in
theorem only_calls (F : FuncId) (caps : Array Value) (G : Ed → Bool) (s0 s1 : Int) (A2 : Option Addr) (n2 k2 : Nat) (A3 : Option Addr) (n3 k3 : Nat) (es : List Ed) (w : World) (lo hi : Nat) (t3 : SlE w lo hi A3 n3 es) (hes : n3 ≤ 1048576)
  (hF : ∀ (v : Value) (W : World), Sem.run Tryz.prog (callFunc F (#[v] ++ caps)) W = .ok (.enter F (#[v] ++ caps)) W)
  (hcl : ∀ (f lb tg : Int), (f, lb, tg) ∈ es → ∀ (W : World), Below w.heap.size w W → Calls Tryz.prog F (#[.agg #[.int .i64 f, .int .i64 lb, .int .i64 tg]] ++ caps) W (Says (G (f, lb, tg)) W)) :
  Calls Tryz.prog 262 #[.agg #[.int .i64 s0, .int .i64 s1, .slice A2 n2 k2, .slice A3 n3 k3], .func (.func F) #[] caps] w fun e w' => ∃ A m c, e = .returned (.agg #[.int .i64 s0, .int .i64 s1, .slice A2 n2 k2, .slice A m c]) ∧ SlE w' w.heap.size w'.heap.size A m (es.filter G) ∧ m ≤ n3 ∧ Below w.heap.size w w' := by
 have l3 := hide t3.len
 have hE := hide elem_edge
 have z1 : (w.alloc (.cells #[.int .i64 s0, .int .i64 s1, .slice A2 n2 k2, .slice A3 n3 k3] 27)).heap.size = w.heap.size + 1 := World.size_alloc _ _
 have z2 : ((w.alloc (.cells #[.int .i64 s0, .int .i64 s1, .slice A2 n2 k2, .slice A3 n3 k3] 27)).alloc (.cells #[.int .i64 0, .int .i64 0, .slice none 0 0, .slice none 0 0] 27)).heap.size = w.heap.size + 1 + 1 := by rw [World.size_alloc, z1]
 have hb1 : Below w.heap.size w ((w.alloc (.cells #[.int .i64 s0, .int .i64 s1, .slice A2 n2 k2, .slice A3 n3 k3] 27)).alloc (.cells #[.int .i64 0, .int .i64 0, .slice none 0 0, .slice none 0 0] 27)) := ((Below.refl _ _).alloc (Nat.le_refl _) _).alloc (by omega) _
 have kE := (Below.heap_alloc (w.alloc (.cells #[.int .i64 s0, .int .i64 s1, .slice A2 n2 k2, .slice A3 n3 k3] 27)) (.cells #[.int .i64 0, .int .i64 0, .slice none 0 0, .slice none 0 0] 27) w.heap.size (by omega)).trans (heap_alloc_new w (.cells #[.int .i64 s0, .int .i64 s1, .slice A2 n2 k2, .slice A3 n3 k3] 27))
 have kR := heap_alloc_new (w.alloc (.cells #[.int .i64 s0, .int .i64 s1, .slice A2 n2 k2, .slice A3 n3 k3] 27)) (.cells #[.int .i64 0, .int .i64 0, .slice none 0 0, .slice none 0 0] 27)
 rw [z1] at kR
 have a0 := (cell_of_row _ _ 0 _ _ (0, 0) kE).trans (show _ = some (Value.int .i64 s0) from rfl)
 have a1 := (cell_of_row _ _ 1 _ _ (0, 0) kE).trans (show _ = some (Value.int .i64 s1) from rfl)
 have a2 := (cell_of_row _ _ 2 _ _ (0, 0) kE).trans (show _ = some (Value.slice A2 n2 k2) from rfl)
 replace t3 := hide t3
 replace hcl := hide hcl
 clear z1
 go_enter Tryz.func262, Tryz.ntmps262
 go_upto_region 1 with fail
 generalize ((w.alloc (.cells #[.int .i64 s0, .int .i64 s1, .slice A2 n2 k2, .slice A3 n3 k3] 27)).alloc (.cells #[.int .i64 0, .int .i64 0, .slice none 0 0, .slice none 0 0] 27)) = W1 at *
 have hzO : (W1.alloc (.cells #[.int .i64 s0, .int .i64 s1, .slice A2 n2 k2, .slice none 0 0] 27)).heap.size = w.heap.size + 1 + 1 + 1 := by rw [World.size_alloc, z2]
 have kO := heap_alloc_new W1 (.cells #[.int .i64 s0, .int .i64 s1, .slice A2 n2 k2, .slice none 0 0] 27)
 rw [z2] at kO
 have hst : Hid (OnlS w (W1.alloc (.cells #[.int .i64 s0, .int .i64 s1, .slice A2 n2 k2, .slice none 0 0] 27)) s0 s1 A2 n2 k2 none 0 0 (List.filter G (es.take 0))) :=
  ⟨(Below.heap_alloc _ _ _ (by omega)).trans kR, kO, Own.nil_ _ _ _, hb1.alloc hb1.size _⟩
 have kB3 := (Below.heap_alloc W1 (.cells #[.int .i64 s0, .int .i64 s1, .slice A2 n2 k2, .slice none 0 0] 27) w.heap.size (by omega)).trans kE
 have a3 := (cell_of_row _ _ 3 _ _ (0, 0) kB3).trans (show _ = some (Value.slice A3 n3 k3) from rfl)
 replace hb1 := hide hb1
 replace kB3 := hide kB3
 clear kE kR kO
 go_upto_region 2 with fail
 clear a0 a1 a2
 generalize (W1.alloc (.cells #[.int .i64 s0, .int .i64 s1, .slice A2 n2 k2, .slice none 0 0] 27)) = W2 at *
 go_upto_region 3 with fail
 clear a3
 go_loopg [18] n3 (fun J i wr => ∃ (k m c : Nat) (A : Option Addr), k ≤ n3 ∧ m ≤ k ∧ i = .int .i64 (k : Nat) ∧ Hid (OnlS w wr s0 s1 A2 n2 k2 A m c (List.filter G (es.take k))) ∧ Hid (n3 - k ≤ J))
 case atStart => exact ⟨0, 0, 0, none, Nat.zero_le _, Nat.le_refl _, rfl, hst, by show _ ≤ _; omega⟩
 case round =>
  clear hst hb1 kB3 hzO z2
  obtain ⟨k, m, c, A, hk, hmk, rfl, hs, hJ⟩ := hrel
  by_cases hlt : k < n3
  ·obtain ⟨J2, rfl⟩ : ∃ J2, gk = J2 + 1 := ⟨gk - 1, by have := hJ.out; omega⟩
   have hJ2 : Hid (n3 - (k + 1) ≤ J2) := by have := hJ.out; show _ ≤ _; omega
   obtain ⟨b, off, f, lb, tg, rfl, g1, g2, g3, hx, a0, a1, a2, -, -, -⟩ := SlE.get t3.out hlt
   have hbr := hs.out.bel
   replace a0 := (hbr.cell g3).trans a0
   replace a1 := (hbr.cell (p := ⟨b, off + k * 3 + 1, none⟩) g3).trans a1
   replace a2 := (hbr.cell (p := ⟨b, off + k * 3 + 2, none⟩) g3).trans a2
   have hsu : List.filter G (es.take (k + 1)) = List.filter G (es.take k) ++ (if G (f, lb, tg) = true then [(f, lb, tg)] else []) := by
    rw [List.take_add_one, hx, List.filter_append]
    congr 1
    cases hG : G (f, lb, tg) <;> simp [hG]
   have hbE : Below wr.heap.size wr (wr.alloc (.cells #[.int .i64 f, .int .i64 lb, .int .i64 tg] 84)) := (Below.refl _ _).alloc (Nat.le_refl _) _
   have kE := heap_alloc_new wr (.cells #[.int .i64 f, .int .i64 lb, .int .i64 tg] 84)
   have y0 : (wr.alloc (.cells #[.int .i64 f, .int .i64 lb, .int .i64 tg] 84)).cell? ⟨wr.heap.size, 0, none⟩ = some (.int .i64 f) := (cell_of_row _ _ 0 _ _ (0, 0) kE).trans rfl
   have y1 : (wr.alloc (.cells #[.int .i64 f, .int .i64 lb, .int .i64 tg] 84)).cell? ⟨wr.heap.size, 1, none⟩ = some (.int .i64 lb) := (cell_of_row _ _ 1 _ _ (0, 0) kE).trans rfl
   have y2 : (wr.alloc (.cells #[.int .i64 f, .int .i64 lb, .int .i64 tg] 84)).cell? ⟨wr.heap.size, 2, none⟩ = some (.int .i64 tg) := (cell_of_row _ _ 2 _ _ (0, 0) kE).trans rfl
   have hsE := hide (hs.out.below hbE)
   have hc := hcl.out f lb tg (List.mem_of_getElem? hx) _ (hbr.trans (hbE.mono hbr.size))
   have hzE : wr.heap.size < (wr.alloc (.cells #[.int .i64 f, .int .i64 lb, .int .i64 tg] 84)).heap.size := by rw [World.size_alloc]; omega
   clear hs hx kE hbE hbr
   go_upto_region 5 with fail
   clear a0 a1 a2
   generalize (wr.alloc (.cells #[.int .i64 f, .int .i64 lb, .int .i64 tg] 84)) = WE at *
   generalize wr.heap.size = bE at *
   cases hG : G (f, lb, tg) with
   | false =>
    rw [hG] at hc hsu
    rw [if_neg (by decide), List.append_nil] at hsu
    replace hsu := hide hsu
    replace hc := hide hc
    clear hG
    go_wp2_with fail
    refine hc.out.mono ?_
    rintro e w1 ⟨rfl, hb1⟩
    have hs1 : Hid (OnlS w w1 s0 s1 A2 n2 k2 A m c (List.filter G (es.take (k + 1)))) := by show OnlS _ _ _ _ _ _ _ _ _ _ _; rw [hsu.out]; exact hsE.out.below hb1
    clear hb1
    go_wp2_with fail
    go_roundg J2
    case measure => omega
    case rel => exact ⟨k + 1, m, c, A, by omega, by omega, by go_num, hs1, hJ2⟩
   | true =>
    rw [hG] at hc hsu
    rw [if_pos rfl] at hsu
    replace hsu := hide hsu
    replace hc := hide hc
    clear hG
    go_wp2_with fail
    refine hc.out.mono ?_
    rintro e w1 ⟨rfl, hb1⟩
    have hs1 := hsE.out.below hb1
    have u0 := (hb1.cell (p := ⟨bE, 0, none⟩) hzE).trans y0
    have u1 := (hb1.cell (p := ⟨bE, 1, none⟩) hzE).trans y1
    have u2 := (hb1.cell (p := ⟨bE, 2, none⟩) hzE).trans y2
    have o3 := (cell_of_row _ _ 3 _ _ (0, 0) hs1.kO).trans (show _ = some (Value.slice A m c) from rfl)
    have hown := hide hs1.own
    have hza : ∀ o, w.heap.size ≤ (w1.alloc o).heap.size := fun o => by rw [World.size_alloc]; have := hs1.bel.size; omega
    replace hs1 := hide hs1
    clear hb1 y0 y1 y2 hsE
    go_wp2_with (first | (at_builtin; (with_reducible refine wpList_app rfl (.tmp 26) (.tmp 28) rfl hE.out flat_ev rfl (hown.out.alloc _) rfl (Sl.lit1' w1 84 (f, lb, tg) _ rfl 3 _ ?c0) ?c1 (hza _) ?_); rotate_right; intro A7 c7 w7 hown7 hgr7 hb7 _; have k7 := hs1.out.mid hgr7; have k7f := frozen_of_row _ _ 3 _ _ k7; have hs7 := hide (hs1.out.next hgr7 hb7 hown7); have k7c := (cell_of_row _ _ 3 _ _ (0, 0) k7).trans (show _ = some (Value.slice A m c) from rfl); clear hgr7 hb7 hown7 k7))
    case c0 => rfl
    case c1 => omega
    rw [← hsu.out] at hs7
    go_roundg J2
    case measure => omega
    case rel => exact ⟨k + 1, m + 1, c7, A7, by omega, by omega, by go_num, hs7, hJ2⟩
  ·have hkn : k = n3 := by omega
   subst hkn
   have hall : es.take k = es := List.take_of_length_le (by rw [l3.out]; exact Nat.le_refl _)
   rw [hall] at hs
   have o0 := (cell_of_row _ _ 0 _ _ (0, 0) hs.out.kO).trans (show _ = some (Value.int .i64 s0) from rfl)
   have o1 := (cell_of_row _ _ 1 _ _ (0, 0) hs.out.kO).trans (show _ = some (Value.int .i64 s1) from rfl)
   have o2 := (cell_of_row _ _ 2 _ _ (0, 0) hs.out.kO).trans (show _ = some (Value.slice A2 n2 k2) from rfl)
   have o3 := (cell_of_row _ _ 3 _ _ (0, 0) hs.out.kO).trans (show _ = some (Value.slice A m c) from rfl)
   have r0 := (cell_of_row _ _ 0 _ _ (0, 0) hs.out.kR).trans (show _ = some (Value.int .i64 0) from rfl)
   have r1 := (cell_of_row _ _ 1 _ _ (0, 0) hs.out.kR).trans (show _ = some (Value.int .i64 0) from rfl)
   have r2 := (cell_of_row _ _ 2 _ _ (0, 0) hs.out.kR).trans (show _ = some (Value.slice none 0 0) from rfl)
   have r3 := (cell_of_row _ _ 3 _ _ (0, 0) hs.out.kR).trans (show _ = some (Value.slice none 0 0) from rfl)
   have f0 := frozen_of_row _ _ 0 _ _ hs.out.kR
   have f1 := frozen_of_row _ _ 1 _ _ hs.out.kR
   have f2 := frozen_of_row _ _ 2 _ _ hs.out.kR
   have f3 := frozen_of_row _ _ 3 _ _ hs.out.kR
   have kF : ((((wr.setCell ⟨w.heap.size + 1, 0, none⟩ (.int .i64 s0)).setCell ⟨w.heap.size + 1, 1, none⟩ (.int .i64 s1)).setCell ⟨w.heap.size + 1, 2, none⟩ (.slice A2 n2 k2)).setCell ⟨w.heap.size + 1, 3, none⟩ (.slice A m c)).heap[w.heap.size + 1]? = some (.cells #[.int .i64 s0, .int .i64 s1, .slice A2 n2 k2, .slice A m c] 27 (0, 0)) := heap_setCell_same _ _ 3 _ _ _ (heap_setCell_same _ _ 2 _ _ _ (heap_setCell_same _ _ 1 _ _ _ (heap_setCell_same _ _ 0 _ _ _ hs.out.kR)))
   have rF0 : ((((wr.setCell ⟨w.heap.size + 1, 0, none⟩ (.int .i64 s0)).setCell ⟨w.heap.size + 1, 1, none⟩ (.int .i64 s1)).setCell ⟨w.heap.size + 1, 2, none⟩ (.slice A2 n2 k2)).setCell ⟨w.heap.size + 1, 3, none⟩ (.slice A m c)).cell? ⟨w.heap.size + 1, 0, none⟩ = some (.int .i64 s0) := (cell_of_row _ _ 0 _ _ (0, 0) kF).trans rfl
   have rF1 : ((((wr.setCell ⟨w.heap.size + 1, 0, none⟩ (.int .i64 s0)).setCell ⟨w.heap.size + 1, 1, none⟩ (.int .i64 s1)).setCell ⟨w.heap.size + 1, 2, none⟩ (.slice A2 n2 k2)).setCell ⟨w.heap.size + 1, 3, none⟩ (.slice A m c)).cell? ⟨w.heap.size + 1, 1, none⟩ = some (.int .i64 s1) := (cell_of_row _ _ 1 _ _ (0, 0) kF).trans rfl
   have rF2 : ((((wr.setCell ⟨w.heap.size + 1, 0, none⟩ (.int .i64 s0)).setCell ⟨w.heap.size + 1, 1, none⟩ (.int .i64 s1)).setCell ⟨w.heap.size + 1, 2, none⟩ (.slice A2 n2 k2)).setCell ⟨w.heap.size + 1, 3, none⟩ (.slice A m c)).cell? ⟨w.heap.size + 1, 2, none⟩ = some (.slice A2 n2 k2) := (cell_of_row _ _ 2 _ _ (0, 0) kF).trans rfl
   have rF3 : ((((wr.setCell ⟨w.heap.size + 1, 0, none⟩ (.int .i64 s0)).setCell ⟨w.heap.size + 1, 1, none⟩ (.int .i64 s1)).setCell ⟨w.heap.size + 1, 2, none⟩ (.slice A2 n2 k2)).setCell ⟨w.heap.size + 1, 3, none⟩ (.slice A m c)).cell? ⟨w.heap.size + 1, 3, none⟩ = some (.slice A m c) := (cell_of_row _ _ 3 _ _ (0, 0) kF).trans rfl
   have hoF : Only (w.heap.size + 1) (w.heap.size + 1 + 1) wr ((((wr.setCell ⟨w.heap.size + 1, 0, none⟩ (.int .i64 s0)).setCell ⟨w.heap.size + 1, 1, none⟩ (.int .i64 s1)).setCell ⟨w.heap.size + 1, 2, none⟩ (.slice A2 n2 k2)).setCell ⟨w.heap.size + 1, 3, none⟩ (.slice A m c)) := ((((Only.refl (w.heap.size + 1) (w.heap.size + 1 + 1) wr).setCell (p := ⟨w.heap.size + 1, 0, none⟩) (Nat.le_refl _) (Nat.lt_succ_self _) _).setCell (p := ⟨w.heap.size + 1, 1, none⟩) (Nat.le_refl _) (Nat.lt_succ_self _) _).setCell (p := ⟨w.heap.size + 1, 2, none⟩) (Nat.le_refl _) (Nat.lt_succ_self _) _).setCell (p := ⟨w.heap.size + 1, 3, none⟩) (Nat.le_refl _) (Nat.lt_succ_self _) _
   have hkR := hs.out.kR
   have hown := hs.out.own
   have hbF : Hid (Below w.heap.size w ((((wr.setCell ⟨w.heap.size + 1, 0, none⟩ (.int .i64 s0)).setCell ⟨w.heap.size + 1, 1, none⟩ (.int .i64 s1)).setCell ⟨w.heap.size + 1, 2, none⟩ (.slice A2 n2 k2)).setCell ⟨w.heap.size + 1, 3, none⟩ (.slice A m c))) := (((hs.out.bel.setCell (by show w.heap.size ≤ w.heap.size + 1; omega) _).setCell (by show w.heap.size ≤ w.heap.size + 1; omega) _).setCell (by show w.heap.size ≤ w.heap.size + 1; omega) _).setCell (by show w.heap.size ≤ w.heap.size + 1; omega) _
   have hsl : Hid (SlE ((((wr.setCell ⟨w.heap.size + 1, 0, none⟩ (.int .i64 s0)).setCell ⟨w.heap.size + 1, 1, none⟩ (.int .i64 s1)).setCell ⟨w.heap.size + 1, 2, none⟩ (.slice A2 n2 k2)).setCell ⟨w.heap.size + 1, 3, none⟩ (.slice A m c)) w.heap.size ((((wr.setCell ⟨w.heap.size + 1, 0, none⟩ (.int .i64 s0)).setCell ⟨w.heap.size + 1, 1, none⟩ (.int .i64 s1)).setCell ⟨w.heap.size + 1, 2, none⟩ (.slice A2 n2 k2)).setCell ⟨w.heap.size + 1, 3, none⟩ (.slice A m c)).heap.size A m (List.filter G es)) := by
    have h1 : Own 3 ev ((((wr.setCell ⟨w.heap.size + 1, 0, none⟩ (.int .i64 s0)).setCell ⟨w.heap.size + 1, 1, none⟩ (.int .i64 s1)).setCell ⟨w.heap.size + 1, 2, none⟩ (.slice A2 n2 k2)).setCell ⟨w.heap.size + 1, 3, none⟩ (.slice A m c)) w.heap.size 84 A m c (List.filter G es) := hown.keep fun g hg => by
     have hne : g ≠ w.heap.size + 1 := fun e => hown.otherT hkR (by decide) (by rw [hg, e])
     rw [Below.heap_setCell _ _ _ _ hne, Below.heap_setCell _ _ _ _ hne, Below.heap_setCell _ _ _ _ hne, Below.heap_setCell _ _ _ _ hne]
    exact h1.sl flat_ev
   clear hall hkR hown hoF kF hs
   go_wp2_with fail
   (try simp only [Exit.inBlock, Exit.then])
   clear o0 o1 o2 o3 r0 r1 r2 r3 f0 f1 f2 f3
   generalize ((((wr.setCell ⟨w.heap.size + 1, 0, none⟩ (.int .i64 s0)).setCell ⟨w.heap.size + 1, 1, none⟩ (.int .i64 s1)).setCell ⟨w.heap.size + 1, 2, none⟩ (.slice A2 n2 k2)).setCell ⟨w.heap.size + 1, 3, none⟩ (.slice A m c)) = wF at *
   refine bodyPost_ret (by simp [results, Tryz.results262, go_sem, rF0, rF1, rF2, rF3]; try rfl) rfl ?_
   exact ⟨A, m, c, rfl, hsl.out, by omega, hbF.out⟩

end Go.Proofs.YtnhomkmfbngmgaaGreatDoor

namespace Go.Proofs.YtnhomkmfbngmgaaGreatDoor
set_option linter.unusedVariables false

inductive StarR (R : Nat → Nat → Prop) : Nat → Nat → Prop
 | refl (x : Nat) : StarR R x x
 | step {x y z : Nat} : R x y → StarR R y z → StarR R x z
theorem StarR.trans {R : Nat → Nat → Prop} {x y z : Nat} (h : StarR R x y) (g : StarR R y z) : StarR R x z := by
 induction h with
 | refl => exact g
 | step e _ ih => exact .step e (ih g)
theorem StarR.snoc {R : Nat → Nat → Prop} {x y z : Nat} (h : StarR R x y) (g : R y z) : StarR R x z := h.trans (.step g (.refl z))
theorem StarR.mono {R S : Nat → Nat → Prop} (hs : ∀ x y, R x y → S x y) {x y : Nat} (h : StarR R x y) : StarR S x y := by
 induction h with
 | refl => exact .refl _
 | step e _ ih => exact .step (hs _ _ e) ih
def Dvg (R : Nat → Nat → Prop) (x : Nat) : Prop := ∃ D : Nat → Prop, D x ∧ ∀ y, D y → ∃ z, R y z ∧ D z
theorem Dvg.next {R : Nat → Nat → Prop} {x : Nat} (h : Dvg R x) : ∃ y, R x y ∧ Dvg R y := by
 obtain ⟨D, h1, h2⟩ := h
 obtain ⟨y, g1, g2⟩ := h2 x h1
 exact ⟨y, g1, D, g2, h2⟩
theorem Dvg.mono {R S : Nat → Nat → Prop} (hs : ∀ x y, R x y → S x y) {x : Nat} (h : Dvg R x) : Dvg S x := by
 obtain ⟨D, h1, h2⟩ := h
 refine ⟨D, h1, fun y hy => ?_⟩
 obtain ⟨z, g1, g2⟩ := h2 y hy
 exact ⟨z, hs _ _ g1, g2⟩

section
variable {L α β : Type} {E : Nat → L → Nat → Prop} {τ : L} {d : Prop} {q : Nat → α} {p : Nat → β} {x y : Nat} {l : L}
def inrt (E : Nat → L → Nat → Prop) (τ : L) (q : Nat → α) (x y : Nat) : Prop := E x τ y ∧ q x = q y
def offr (E : Nat → L → Nat → Prop) (τ : L) (q : Nat → α) (x : Nat) (l : L) (b : α) : Prop := ∃ x' x'', StarR (inrt E τ q) x x' ∧ E x' l x'' ∧ q x'' = b ∧ ¬ (l = τ ∧ q x' = q x'')
structure Stb (E : Nat → L → Nat → Prop) (τ : L) (d : Prop) (q : Nat → α) : Prop where
 off : ∀ x y l b, q x = q y → offr E τ q x l b → offr E τ q y l b
 dvg : d → ∀ x y, q x = q y → Dvg (inrt E τ q) x → Dvg (inrt E τ q) y
theorem star_same (h : StarR (inrt E τ q) x y) : q x = q y := by
 induction h with
 | refl => rfl
 | step e _ ih => exact e.2.trans ih
theorem inrt_mono (hf : ∀ x y, q x = q y → p x = p y) (x y : Nat) (h : inrt E τ q x y) : inrt E τ p x y := ⟨h.1, hf _ _ h.2⟩
theorem Stb.one (h : Stb E τ d q) (hf : ∀ x y, q x = q y → p x = p y) {x' : Nat} (hq : q x = q y) (hs : inrt E τ p x x') : ∃ y', StarR (inrt E τ p) y y' ∧ q x' = q y' := by
 by_cases e : q x = q x'
 ·exact ⟨y, .refl _, e ▸ hq⟩
 ·obtain ⟨y1, y2, g1, g2, g3, -⟩ := h.off x y τ (q x') hq ⟨x, x', .refl _, hs.1, rfl, fun h => e h.2⟩
  exact ⟨y2, (g1.mono (inrt_mono hf)).snoc ⟨g2, by rw [← hf _ _ (star_same g1), ← hf _ _ hq, hf _ _ g3]; exact hs.2⟩, g3.symm⟩
theorem Stb.star (h : Stb E τ d q) (hf : ∀ x y, q x = q y → p x = p y) {x x' : Nat} (hs : StarR (inrt E τ p) x x') : ∀ {y : Nat}, q x = q y → ∃ y', StarR (inrt E τ p) y y' ∧ q x' = q y' := by
 induction hs with
 | refl => intro y hq; exact ⟨y, .refl _, hq⟩
 | step e _ ih =>
  intro y hq
  obtain ⟨y1, g1, g2⟩ := h.one hf hq e
  obtain ⟨y2, g3, g4⟩ := ih g2
  exact ⟨y2, g1.trans g3, g4⟩
theorem Stb.fine_off (h : Stb E τ d q) (hf : ∀ x y, q x = q y → p x = p y) {b : β} (hq : q x = q y) (ho : offr E τ p x l b) : offr E τ p y l b := by
 obtain ⟨x1, x2, g1, g2, g3, g4⟩ := ho
 obtain ⟨y1, k1, k2⟩ := h.star hf g1 hq
 obtain ⟨y2, y3, m1, m2, m3, -⟩ := h.off x1 y1 l (q x2) k2 ⟨x1, x2, .refl _, g2, rfl, fun e => g4 ⟨e.1, hf _ _ e.2⟩⟩
 refine ⟨y2, y3, k1.trans (m1.mono (inrt_mono hf)), m2, by rw [hf _ _ m3]; exact g3, fun e => g4 ⟨e.1, ?_⟩⟩
 rw [hf _ _ k2, hf _ _ (star_same m1), e.2, hf _ _ m3]
theorem dvg_leave (hf : ∀ x y, q x = q y → p x = p y) (h : Dvg (inrt E τ p) x) (hn : ¬ Dvg (inrt E τ q) x) : ∃ x1 x2, StarR (inrt E τ q) x x1 ∧ inrt E τ p x1 x2 ∧ ¬ q x1 = q x2 ∧ Dvg (inrt E τ p) x2 := by
 refine Classical.byContradiction fun hc => hn ⟨fun z => StarR (inrt E τ q) x z ∧ Dvg (inrt E τ p) z, ⟨.refl _, h⟩, fun z hz => ?_⟩
 obtain ⟨z', g1, g2⟩ := hz.2.next
 by_cases e : q z = q z'
 ·exact ⟨z', ⟨g1.1, e⟩, hz.1.snoc ⟨g1.1, e⟩, g2⟩
 ·exact absurd ⟨z, z', hz.1, g1, e, g2⟩ hc
theorem Stb.fine_dvg (h : Stb E τ d q) (hd : d) (hf : ∀ x y, q x = q y → p x = p y) (hq : q x = q y) (hx : Dvg (inrt E τ p) x) : Dvg (inrt E τ p) y := by
 refine ⟨fun y => ∃ x, q x = q y ∧ Dvg (inrt E τ p) x, ⟨x, hq, hx⟩, fun y hy => ?_⟩
 obtain ⟨x, hq, hx⟩ := hy
 by_cases hD : Dvg (inrt E τ q) x
 ·obtain ⟨y', g1, g2⟩ := (h.dvg hd x y hq hD).next
  exact ⟨y', inrt_mono hf _ _ g1, y', rfl, g2.mono (inrt_mono hf)⟩
 ·obtain ⟨x1, x2, k1, k2, k3, k4⟩ := dvg_leave hf hx hD
  obtain ⟨y1, y2, g1, g2, g3, -⟩ := h.off x y τ (q x2) hq ⟨x1, x2, k1, k2.1, rfl, fun e => k3 e.2⟩
  cases g1 with
  | refl => exact ⟨y2, ⟨g2, by rw [← hf _ _ hq, hf _ _ (star_same k1), k2.2, hf _ _ g3]⟩, x2, g3.symm, k4⟩
  | step e _ => exact ⟨_, inrt_mono hf _ _ e, x, hq.trans e.2, hx⟩
theorem strong_stb (hB : ∀ x y l x', q x = q y → E x l x' → ∃ y', E y l y' ∧ q x' = q y') : Stb E τ d q := by
 refine ⟨fun x y l b hq ho => ?_, fun _ x y hq hx => ?_⟩
 ·obtain ⟨x1, x2, g1, g2, g3, g4⟩ := ho
  have hs : ∀ {x x1 : Nat}, StarR (inrt E τ q) x x1 → ∀ {y : Nat}, q x = q y → ∃ y1, StarR (inrt E τ q) y y1 ∧ q x1 = q y1 := by
   intro x x1 h
   induction h with
   | refl => intro y hq; exact ⟨y, .refl _, hq⟩
   | step e _ ih =>
    intro y hq
    obtain ⟨y1, k1, k2⟩ := hB _ _ _ _ hq e.1
    obtain ⟨y2, k3, k4⟩ := ih k2
    exact ⟨y2, .step ⟨k1, by rw [← hq, ← k2]; exact e.2⟩ k3, k4⟩
  obtain ⟨y1, k1, k2⟩ := hs g1 hq
  obtain ⟨y2, k3, k4⟩ := hB _ _ _ _ k2 g2
  exact ⟨y1, y2, k1, k3, by rw [← k4]; exact g3, fun e => g4 ⟨e.1, by rw [k2, k4]; exact e.2⟩⟩
 ·refine ⟨fun y => ∃ x, q x = q y ∧ Dvg (inrt E τ q) x, ⟨x, hq, hx⟩, fun y hy => ?_⟩
  obtain ⟨x, hq, hx⟩ := hy
  obtain ⟨x', g1, g2⟩ := hx.next
  obtain ⟨y', k1, k2⟩ := hB _ _ _ _ hq g1.1
  exact ⟨y', ⟨k1, by rw [← hq, ← k2]; exact g1.2⟩, x', k2, g2⟩
end

section
variable {L α : Type} {E M : Nat → L → Nat → Prop} {τ : L} {d : Prop} {P : Nat → Nat} {x y : Nat} {l : L}
def QuoB (E M : Nat → L → Nat → Prop) (τ : L) (d : Prop) (P : Nat → Nat) : Prop :=
 ∀ b l c, M b l c ↔ (∃ x x', E x l x' ∧ P x = b ∧ P x' = c ∧ ¬ (l = τ ∧ P x = P x')) ∨ (d ∧ l = τ ∧ b = c ∧ ∃ x, P x = b ∧ Dvg (inrt E τ P) x)
theorem star_id {b c : Nat} (h : StarR (inrt M τ fun x => x) b c) : b = c := star_same h
theorem quo_off (h : Stb E τ d P) (hM : QuoB E M τ d P) {c : Nat} : offr E τ P x l c ↔ offr M τ (fun x => x) (P x) l c := by
 constructor
 ·rintro ⟨x1, x2, g1, g2, rfl, g4⟩
  exact ⟨P x1, P x2, by rw [star_same g1]; exact .refl _, (hM _ _ _).2 (.inl ⟨x1, x2, g2, rfl, rfl, g4⟩), rfl, g4⟩
 ·rintro ⟨b1, b2, g1, g2, g3, g4⟩
  have e := star_id g1
  rcases (hM _ _ _).1 g2 with ⟨u, u', k1, k2, k3, k4⟩ | ⟨_, k1, k2, _⟩
  ·exact h.off u x l c (by rw [k2, e]) ⟨u, u', .refl _, k1, by rw [k3]; exact g3, k4⟩
  ·exact absurd ⟨k1, k2⟩ g4
theorem quo_dvg (h : Stb E τ d P) (hM : QuoB E M τ d P) (hd : d) : Dvg (inrt E τ P) x ↔ Dvg (inrt M τ fun x => x) (P x) := by
 constructor
 ·intro hx
  exact ⟨fun b => b = P x, rfl, fun b hb => ⟨b, ⟨(hM _ _ _).2 (.inr ⟨hd, rfl, rfl, x, hb.symm, hx⟩), rfl⟩, hb⟩⟩
 ·intro hx
  obtain ⟨c, ⟨g1, g2⟩, -⟩ := hx.next
  have g2 : P x = c := g2
  rcases (hM _ _ _).1 g1 with ⟨u, u', k1, k2, k3, k4⟩ | ⟨_, _, _, u, k1, k2⟩
  ·exact absurd ⟨rfl, by rw [k2, k3, g2]⟩ k4
  ·exact h.dvg hd u x k1 k2

variable {pm : Nat → α}
theorem star_up (hM : QuoB E M τ d P) (h : StarR (inrt E τ fun x => pm (P x)) x y) : StarR (inrt M τ pm) (P x) (P y) := by
 induction h with
 | refl => exact .refl _
 | @step x y z e _ ih =>
  by_cases c : P x = P y
  ·rw [c]; exact ih
  ·exact .step ⟨(hM _ _ _).2 (.inl ⟨x, y, e.1, rfl, rfl, fun h => c h.2⟩), e.2⟩ ih
theorem one_down (h : Stb E τ d P) (hM : QuoB E M τ d P) {b c : Nat} (hs : M b l c) (hn : ¬ (l = τ ∧ b = c)) (hx : P x = b) : ∃ x1 x2, StarR (inrt E τ P) x x1 ∧ E x1 l x2 ∧ P x2 = c := by
 rcases (hM _ _ _).1 hs with ⟨u, u', k1, k2, k3, k4⟩ | ⟨_, k1, k2, _⟩
 ·obtain ⟨x1, x2, g1, g2, g3, -⟩ := h.off u x l c (by rw [k2, hx]) ⟨u, u', .refl _, k1, k3, k4⟩
  exact ⟨x1, x2, g1, g2, g3⟩
 ·exact absurd ⟨k1, k2⟩ hn
theorem inrt_comp (pm : Nat → α) (x y : Nat) (h : inrt E τ P x y) : inrt E τ (fun x => pm (P x)) x y := ⟨h.1, congrArg pm h.2⟩
theorem star_down (h : Stb E τ d P) (hM : QuoB E M τ d P) {b c : Nat} (hs : StarR (inrt M τ pm) b c) : ∀ {x : Nat}, P x = b → ∃ x', StarR (inrt E τ fun x => pm (P x)) x x' ∧ P x' = c := by
 induction hs with
 | refl => intro x hx; exact ⟨x, .refl _, hx⟩
 | @step b b' c e _ ih =>
  intro x hx
  by_cases hb : b = b'
  ·exact ih (by rw [hx, hb])
  ·obtain ⟨x1, x2, g1, g2, g3⟩ := one_down h hM e.1 (fun h => hb h.2) hx
   obtain ⟨x3, k1, k2⟩ := ih g3
   refine ⟨x3, ((g1.mono (inrt_comp pm)).snoc ⟨g2, ?_⟩).trans k1, k2⟩
   show pm (P x1) = pm (P x2)
   rw [← star_same g1, hx, g3]; exact e.2
theorem comp_off (h : Stb E τ d P) (hM : QuoB E M τ d P) {b : α} : offr E τ (fun x => pm (P x)) x l b ↔ offr M τ pm (P x) l b := by
 constructor
 ·rintro ⟨x1, x2, g1, g2, g3, g4⟩
  exact ⟨P x1, P x2, star_up hM g1, (hM _ _ _).2 (.inl ⟨x1, x2, g2, rfl, rfl, fun e => g4 ⟨e.1, congrArg pm e.2⟩⟩), g3, g4⟩
 ·rintro ⟨b1, b2, g1, g2, g3, g4⟩
  obtain ⟨x1, k1, k2⟩ := star_down h hM g1 rfl
  obtain ⟨x2, x3, m1, m2, m3⟩ := one_down h hM g2 (fun e => g4 ⟨e.1, congrArg pm e.2⟩) k2
  refine ⟨x2, x3, k1.trans (m1.mono (inrt_comp pm)), m2, ?_, fun e => g4 ⟨e.1, ?_⟩⟩
  ·show pm (P x3) = b
   rw [m3]; exact g3
  ·have e2 : pm (P x2) = pm (P x3) := e.2
   rw [← k2, star_same m1, e2, m3]
theorem comp_dvg (h : Stb E τ d P) (hM : QuoB E M τ d P) (hd : d) : Dvg (inrt E τ fun x => pm (P x)) x ↔ Dvg (inrt M τ pm) (P x) := by
 constructor
 ·intro hx
  refine ⟨fun b => ∃ x, P x = b ∧ Dvg (inrt E τ fun x => pm (P x)) x, ⟨x, rfl, hx⟩, fun b hb => ?_⟩
  obtain ⟨x, rfl, hx⟩ := hb
  by_cases hD : Dvg (inrt E τ P) x
  ·exact ⟨P x, ⟨(hM _ _ _).2 (.inr ⟨hd, rfl, rfl, x, rfl, hD⟩), rfl⟩, x, rfl, hx⟩
  ·obtain ⟨x1, x2, k1, k2, k3, k4⟩ := dvg_leave (q := P) (fun x y h => congrArg pm h) hx hD
   refine ⟨P x2, ⟨?_, ?_⟩, x2, rfl, k4⟩
   ·rw [star_same k1]; exact (hM _ _ _).2 (.inl ⟨x1, x2, k2.1, rfl, rfl, fun e => k3 e.2⟩)
   ·rw [star_same k1]; exact k2.2
 ·intro hx
  refine ⟨fun x => Dvg (inrt M τ pm) (P x), hx, fun x hx => ?_⟩
  obtain ⟨c, g1, g2⟩ := hx.next
  by_cases hb : P x = c
  ·have hl := (hM _ _ _).1 g1.1
   rcases hl with ⟨u, u', k1, k2, k3, k4⟩ | ⟨_, _, _, u, k1, k2⟩
   ·exact absurd ⟨rfl, by rw [k2, k3, hb]⟩ k4
   ·obtain ⟨y, m1, -⟩ := (h.dvg hd u x k1 k2).next
    exact ⟨y, inrt_comp pm _ _ m1, by show Dvg (inrt M τ pm) (P y); rw [← m1.2]; exact hx⟩
  ·obtain ⟨x1, x2, m1, m2, m3⟩ := one_down h hM g1.1 (fun e => hb e.2) rfl
   cases m1 with
   | refl => exact ⟨x2, ⟨m2, by show pm (P x) = pm (P x2); rw [m3]; exact g1.2⟩, by show Dvg (inrt M τ pm) (P x2); rw [m3]; exact g2⟩
   | @step _ y _ e _ => exact ⟨y, inrt_comp pm _ _ e, by show Dvg (inrt M τ pm) (P y); rw [← e.2]; exact hx⟩
theorem comp_stb (h : Stb E τ d P) (hM : QuoB E M τ d P) (hp : Stb M τ d pm) : Stb E τ d fun x => pm (P x) :=
 ⟨fun x y l b hq ho => (comp_off h hM).2 (hp.off _ _ l b hq ((comp_off h hM).1 ho)), fun hd x y hq hx => (comp_dvg h hM hd).2 (hp.dvg hd _ _ hq ((comp_dvg h hM hd).1 hx))⟩
end

section
variable {L α β : Type} {E U : Nat → L → Nat → Prop} {τ : L} {d : Prop} {P : Nat → β} {q : Nat → α} {f : Nat → Nat} {g : β → α} {i j : Nat} {l : L}
structure Emb (E U : Nat → L → Nat → Prop) (f : Nat → Nat) : Prop where
 up : ∀ i l j, E i l j → U (f i) l (f j)
 down : ∀ i l y, U (f i) l y → ∃ j, y = f j ∧ E i l j
theorem Emb.inrt_up (h : Emb E U f) (hq : ∀ i, q (f i) = g (P i)) (e : inrt E τ P i j) : inrt U τ q (f i) (f j) := ⟨h.up _ _ _ e.1, by rw [hq, hq, e.2]⟩
theorem Emb.star_up (h : Emb E U f) (hq : ∀ i, q (f i) = g (P i)) (e : StarR (inrt E τ P) i j) : StarR (inrt U τ q) (f i) (f j) := by
 induction e with
 | refl => exact .refl _
 | step e _ ih => exact .step (h.inrt_up hq e) ih
theorem Emb.inrt_down (h : Emb E U f) (hq : ∀ i, q (f i) = g (P i)) (hg : ∀ a b, g a = g b → a = b) {y : Nat} (e : inrt U τ q (f i) y) : ∃ j, y = f j ∧ inrt E τ P i j := by
 obtain ⟨j, rfl, k⟩ := h.down _ _ _ e.1
 refine ⟨j, rfl, k, hg _ _ ?_⟩
 rw [← hq, ← hq]; exact e.2
theorem Emb.star_down (h : Emb E U f) (hq : ∀ i, q (f i) = g (P i)) (hg : ∀ a b, g a = g b → a = b) {u v : Nat} (e : StarR (inrt U τ q) u v) : ∀ {i : Nat}, u = f i → ∃ j, v = f j ∧ StarR (inrt E τ P) i j := by
 induction e with
 | refl => intro i hi; exact ⟨i, hi, .refl _⟩
 | step e _ ih =>
  intro i hi
  subst hi
  obtain ⟨j, rfl, k⟩ := h.inrt_down hq hg e
  obtain ⟨m, rfl, k2⟩ := ih rfl
  exact ⟨m, rfl, .step k k2⟩
theorem Emb.off (h : Emb E U f) (hq : ∀ i, q (f i) = g (P i)) (hg : ∀ a b, g a = g b → a = b) {b : α} : offr U τ q (f i) l b ↔ ∃ c, b = g c ∧ offr E τ P i l c := by
 constructor
 ·rintro ⟨x1, x2, g1, g2, g3, g4⟩
  obtain ⟨j, rfl, k⟩ := h.star_down hq hg g1 rfl
  obtain ⟨m, rfl, k2⟩ := h.down _ _ _ g2
  exact ⟨P m, by rw [← g3, hq], j, m, k, k2, rfl, fun e => g4 ⟨e.1, by rw [hq, hq, e.2]⟩⟩
 ·rintro ⟨c, rfl, j, m, k1, k2, k3, k4⟩
  exact ⟨f j, f m, h.star_up hq k1, h.up _ _ _ k2, by rw [hq, k3], fun e => k4 ⟨e.1, hg _ _ (by rw [← hq, ← hq]; exact e.2)⟩⟩
theorem Emb.dvg (h : Emb E U f) (hq : ∀ i, q (f i) = g (P i)) (hg : ∀ a b, g a = g b → a = b) : Dvg (inrt U τ q) (f i) ↔ Dvg (inrt E τ P) i := by
 constructor
 ·rintro ⟨D, h1, h2⟩
  refine ⟨fun i => D (f i), h1, fun j hj => ?_⟩
  obtain ⟨z, g1, g2⟩ := h2 _ hj
  obtain ⟨m, rfl, k⟩ := h.inrt_down hq hg g1
  exact ⟨m, k, g2⟩
 ·rintro ⟨D, h1, h2⟩
  refine ⟨fun u => ∃ j, u = f j ∧ D j, ⟨i, rfl, h1⟩, fun u hu => ?_⟩
  obtain ⟨j, rfl, hj⟩ := hu
  obtain ⟨m, g1, g2⟩ := h2 j hj
  exact ⟨f m, h.inrt_up hq g1, m, rfl, g2⟩
end
end Go.Proofs.YtnhomkmfbngmgaaGreatDoor

namespace Go.Proofs.YtnhomkmfbngmgaaGreatDoor
set_option linter.unusedVariables false

structure RefG (g : List Int → List Int) (N : Nat) : Prop where
 part : ∀ p, PartN N (g p)
 fine : ∀ p, PartN N p → ∀ i j, i < N → j < N → sameB (g p) i j → sameB p i j
def itP (g : List Int → List Int) (N : Nat) : Nat → List Int
 | 0 => zeroP N
 | n + 1 => g (itP g N n)
def LastG (g : List Int → List Int) (N r : Nat) : Prop := itP g N (r + 1) = itP g N r ∧ ∀ m, m < r → itP g N (m + 1) ≠ itP g N m
section
variable {g : List Int → List Int} {N r s : Nat}
theorem itP_part (h : RefG g N) (n : Nat) : PartN N (itP g N n) := by
 cases n with
 | zero => exact zeroP_part N
 | succ n => exact h.part _
theorem itP_ref (h : RefG g N) {n : Nat} (hne : itP g N (n + 1) ≠ itP g N n) : numB (itP g N n) < numB (itP g N (n + 1)) := by
 have hl : (itP g N n).length = (itP g N (n + 1)).length := by rw [(itP_part h n).len, (itP_part h (n + 1)).len]
 obtain ⟨h1, h2⟩ := numB_fine hl fun i j hi hj hs => h.fine _ (itP_part h n) i j (by rw [(itP_part h n).len] at hi; exact hi) (by rw [(itP_part h n).len] at hj; exact hj) hs
 by_cases e : numB (itP g N n) = numB (itP g N (n + 1))
 ·refine absurd (part_ext (itP_part h (n + 1)) (itP_part h n) fun i j hi hj => ⟨fun hs => h.fine _ (itP_part h n) i j hi hj hs, fun hs => h2 e i j (by rw [(itP_part h n).len]; exact hi) (by rw [(itP_part h n).len]; exact hj) hs⟩) hne
 ·omega
theorem itP_many (h : RefG g N) (hN : 1 ≤ N) {n : Nat} (hn : ∀ m, m < n → itP g N (m + 1) ≠ itP g N m) : n + 1 ≤ numB (itP g N n) := by
 induction n with
 | zero =>
  have hm : (0 : Int) ∈ firsts [] (itP g N 0) := firsts_mem.2 (.inr (by unfold itP zeroP; exact List.mem_replicate.2 ⟨by omega, rfl⟩))
  have := List.length_pos_of_mem hm
  unfold numB; omega
 | succ n ih =>
  have h1 := ih fun m hm => hn m (by omega)
  have h2 := itP_ref h (hn n (by omega))
  omega
theorem itP_bound (h : RefG g N) (hN : 1 ≤ N) {n : Nat} (hn : ∀ m, m < n → itP g N (m + 1) ≠ itP g N m) : n + 1 ≤ N := by
 have h1 := itP_many h hN hn
 have h2 := numB_le (itP g N n)
 rw [(itP_part h n).len] at h2
 omega
end
section
variable {es : List Ed} {N r : Nat}
end
end Go.Proofs.YtnhomkmfbngmgaaGreatDoor

namespace Go.Proofs.YtnhomkmfbngmgaaGreatDoor
open Go.Sort
set_option linter.unusedVariables false

def pq (p : List Int) (x : Nat) : Option Int := p[x]?
def inrE (es : List Ed) (p : List Int) : Nat → Nat → Prop := inrt (nE es) (0 : Int) (pq p)
open Classical in
noncomputable def offL (es : List Ed) (N : Nat) (p : List Int) (k : Nat) : List Int := (es.filter fun e => decide (StarR (inrE es p) k e.1.toNat ∧ ¬ (e.2.1 = 0 ∧ pq p e.1.toNat = pq p e.2.2.toNat))).map (cdE N p)
open Classical in
noncomputable def dvgI (es : List Ed) (d : Bool) (p : List Int) (k : Nat) : Int := if d = true ∧ Dvg (inrE es p) k then 1 else 0
noncomputable def keyB (es : List Ed) (N : Nat) (d : Bool) (p : List Int) (k : Nat) : List Int := [(p[k]?).getD 0, dvgI es d p k] ++ Lib.compact (sortI (offL es N p k))
noncomputable def refB (es : List Ed) (N : Nat) (d : Bool) (p : List Int) : List Int := nkF ((List.range N).map (keyB es N d p))
section
variable {es : List Ed} {N : Nat} {p : List Int} {d : Bool}
open Classical in
theorem offL_mem (he : EdIn N es) (hp : p.length = N) {k : Nat} {c : Int} : c ∈ offL es N p k ↔ ∃ l b, offr (nE es) 0 (pq p) k l (some b) ∧ c = l * (N : Int) + b := by
 unfold offL
 rw [List.mem_map]
 constructor
 ·rintro ⟨e, h1, rfl⟩
  obtain ⟨h1, h2⟩ := List.mem_filter.1 h1
  obtain ⟨h2, h3⟩ := of_decide_eq_true h2
  obtain ⟨b, hb⟩ := to_get he hp h1
  obtain ⟨f, l, t⟩ := e
  have hin := he _ h1
  dsimp only at h2 h3 hb hin
  refine ⟨l, b, ⟨f.toNat, t.toNat, h2, ?_, hb, h3⟩, by unfold cdE; dsimp only; rw [hb]; rfl⟩
  unfold nE
  rw [show ((f.toNat : Nat) : Int) = f by omega, show ((t.toNat : Nat) : Int) = t by omega]
  exact h1
 ·rintro ⟨l, b, ⟨x1, x2, h1, h2, h3, h4⟩, rfl⟩
  refine ⟨_, List.mem_filter.2 ⟨h2, decide_eq_true ?_⟩, ?_⟩
  ·simpa using ⟨h1, fun e => fun g => h4 ⟨e, g⟩⟩
  ·unfold cdE
   have h3 : p[x2]? = some b := h3
   simp [h3]
theorem refB_part (es : List Ed) (N : Nat) (d : Bool) (p : List Int) : PartN N (refB es N d p) := ⟨by unfold refB; rw [nkF_len]; simp, nkF_norm _⟩
theorem refB_same (he : EdIn N es) (hp : p.length = N) (hr : ∀ x, x ∈ p → 0 ≤ x ∧ x < (N : Int)) {i j : Nat} (hi : i < N) (hj : j < N) :
  sameB (refB es N d p) i j ↔ sameB p i j ∧ (d = true → (Dvg (inrE es p) i ↔ Dvg (inrE es p) j)) ∧ ∀ l b, offr (nE es) 0 (pq p) i l (some b) ↔ offr (nE es) 0 (pq p) j l (some b) := by
 have hk : ((List.range N).map (keyB es N d p)).length = N := by simp
 unfold refB
 rw [nk_same (by omega) (by omega), List.getElem?_map, List.getElem?_map, List.getElem?_range hi, List.getElem?_range hj]
 simp only [Option.map_some, Option.some.injEq]
 unfold keyB
 simp only [List.cons_append, List.nil_append, List.cons.injEq]
 rw [set_ext]
 have e1 : (p[i]?).getD 0 = (p[j]?).getD 0 ↔ sameB p i j := by
  unfold sameB
  rw [List.getElem?_eq_getElem (by omega), List.getElem?_eq_getElem (by omega)]
  simp
 have e2 : dvgI es d p i = dvgI es d p j ↔ (d = true → (Dvg (inrE es p) i ↔ Dvg (inrE es p) j)) := by
  unfold dvgI
  by_cases hd : d = true
  ·by_cases h1 : Dvg (inrE es p) i <;> by_cases h2 : Dvg (inrE es p) j <;> simp [hd, h1, h2]
  ·simp [hd]
 have hin : ∀ {k : Nat} {l b : Int}, offr (nE es) 0 (pq p) k l (some b) → 0 ≤ b ∧ b < (N : Int) := fun ⟨_, x2, _, _, hb, _⟩ => hr _ (List.mem_of_getElem? (show p[x2]? = some _ from hb))
 rw [e1, e2]
 refine and_congr_right fun _ => and_congr_right fun _ => ?_
 constructor
 ·intro h l b
  have := h (l * (N : Int) + b)
  rw [offL_mem he hp, offL_mem he hp] at this
  constructor
  ·intro g
   obtain ⟨l2, b2, g2, e⟩ := this.1 ⟨l, b, g, rfl⟩
   obtain ⟨rfl, rfl⟩ := cd_inj (hin g) (hin g2) e
   exact g2
  ·intro g
   obtain ⟨l2, b2, g2, e⟩ := this.2 ⟨l, b, g, rfl⟩
   obtain ⟨rfl, rfl⟩ := cd_inj (hin g) (hin g2) e
   exact g2
 ·intro h c
  rw [offL_mem he hp, offL_mem he hp]
  constructor
  ·rintro ⟨l, b, g, e⟩; exact ⟨l, b, (h l b).1 g, e⟩
  ·rintro ⟨l, b, g, e⟩; exact ⟨l, b, (h l b).2 g, e⟩
theorem refB_ref (he : EdIn N es) : RefG (refB es N d) N := ⟨fun p => refB_part es N d p, fun p hp i j hi hj h => ((refB_same he hp.len hp.range hi hj).1 h).1⟩
theorem offr_some (he : EdIn N es) (hp : p.length = N) {k : Nat} {l : Int} {b : Option Int} (h : offr (nE es) 0 (pq p) k l b) : ∃ c, b = some c := by
 obtain ⟨x1, x2, _, h2, rfl, _⟩ := h
 exact ⟨_, List.getElem?_eq_getElem (show x2 < p.length by rw [hp]; exact (nE_in he h2).2)⟩
theorem isSome_at {α : Type} {l : List α} {i : Nat} : (l[i]?).isSome = true ↔ i < l.length := by
 by_cases h : i < l.length
 ·rw [List.getElem?_eq_getElem h]; simp [h]
 ·rw [List.getElem?_eq_none (by omega)]; simp [h]
theorem pq_in (hp : p.length = N) {x y : Nat} (h : pq p x = pq p y) : x < N ↔ y < N := by
 unfold pq at h
 rw [← hp, ← isSome_at, h, isSome_at]
theorem none_off (he : EdIn N es) {α : Type} {q : Nat → α} {x : Nat} (hx : ¬ x < N) {l : Int} {b : α} : ¬ offr (nE es) 0 q x l b := by
 rintro ⟨x1, x2, h1, h2, _⟩
 cases h1 with
 | refl => exact hx (nE_in he h2).1
 | step e _ => exact hx (nE_in he e.1).1
theorem none_dvg (he : EdIn N es) {α : Type} {q : Nat → α} {x : Nat} (hx : ¬ x < N) : ¬ Dvg (inrt (nE es) (0 : Int) q) x := fun h => by
 obtain ⟨y, h1, _⟩ := h.next
 exact hx (nE_in he h1.1).1
theorem stable_stb (he : EdIn N es) (hp : PartN N p) (hs : refB es N d p = p) : Stb (nE es) (0 : Int) (d = true) (pq p) := by
 have key : ∀ {x y : Nat}, pq p x = pq p y → x < N → (d = true → (Dvg (inrE es p) x ↔ Dvg (inrE es p) y)) ∧ ∀ l b, offr (nE es) 0 (pq p) x l (some b) ↔ offr (nE es) 0 (pq p) y l (some b) := fun {x y} hxy hx => by
  have hy := (pq_in hp.len hxy).1 hx
  have hxy : sameB p x y := hxy
  rw [← hs] at hxy
  exact ((refB_same he hp.len hp.range hx hy).1 hxy).2
 refine ⟨fun x y l b hq ho => ?_, fun hd x y hq hx => ?_⟩
 ·by_cases h : x < N
  ·obtain ⟨c, rfl⟩ := offr_some he hp.len ho
   exact ((key hq h).2 l c).1 ho
  ·exact absurd ho (none_off he h)
 ·by_cases h : x < N
  ·exact ((key hq h).1 hd).1 hx
  ·exact absurd hx (none_dvg he h)
theorem stb_rnd (he : EdIn N es) {α : Type} {q : Nat → α} (hq : Stb (nE es) (0 : Int) (d = true) q) (hr : ∀ x y, q x = q y → (x < N ↔ y < N)) : ∀ (n : Nat) {x y : Nat}, x < N → y < N → q x = q y → sameB (itP (refB es N d) N n) x y
 | 0, x, y, hx, hy, _ => rnd_zero (es := es) hx hy
 | n + 1, x, y, hx, hy, h => by
  have hP := itP_part (refB_ref (d := d) he) n
  have hf : ∀ x y, q x = q y → pq (itP (refB es N d) N n) x = pq (itP (refB es N d) N n) y := fun x y e => by
   by_cases hx : x < N
   ·exact stb_rnd he hq hr n hx ((hr x y e).1 hx) e
   ·have hy : ¬ y < N := fun g => hx ((hr x y e).2 g)
    unfold pq
    rw [List.getElem?_eq_none (by rw [hP.len]; omega), List.getElem?_eq_none (by rw [hP.len]; omega)]
  refine (refB_same he hP.len hP.range hx hy).2 ⟨hf x y h, fun hd => ⟨fun g => hq.fine_dvg hd hf h g, fun g => hq.fine_dvg hd hf h.symm g⟩, fun l b => ⟨fun g => hq.fine_off hf h g, fun g => hq.fine_off hf h.symm g⟩⟩
end
end Go.Proofs.YtnhomkmfbngmgaaGreatDoor
