/-
  Several texts in one:
  MinimalStrong. Conditions: sizes.
  The system of the inert edges, by the program. Conditions:
  The states from which an endless path of internal edges
  The union's steps by texts are the two systems' steps side by
  A system and its minimal one are bisimilar. Conditions: none.
  AreBisimilar says yes of a system and its minimal one.
  laws.r8Has, laws.r8Blocks. Conditions: sizes.
  Ascending lists with the same members: plain. Conditions:
  A number put to its place among ascending ones: plain.
  A number put to its place among ascending ones, by the
  spec.l13Sign: the signature of a state. Conditions: sizes.
-/
import Derived.Test.YtnhomkmfbngmgaaGreatDoorBaseA
import Derived.Test.YtnhomkmfbngmgaaGreatDoorBaseC
import Derived.Test.YtnhomkmfbngmgaaGreatDoorBaseE
import Derived.Test.YtnhomkmfbngmgaaGreatDoorBaseG
import Derived.Test.YtnhomkmfbngmgaaGreatDoorBaseH
import Derived.Test.YtnhomkmfbngmgaaGreatDoorBaseI
import Derived.Test.YtnhomkmfbngmgaaGreatDoorBaseJ
import Derived.Deep.LoopGhost
import Derived.Deep.RegionLaw
import Derived.StillTailTactics
set_option linter.unusedSimpArgs false
set_option linter.unusedVariables false
namespace Go.Proofs.YtnhomkmfbngmgaaGreatDoor
open Go.ChangeShapes Go.WideShapes Go.ChangeAt Go.RowKit Go.Sort Go.Lib
set_option linter.unusedVariables false
set_option linter.unusedSimpArgs false

structure MinW (wb w : World) (J : List ByteArray) (R : List Int) (E : List Ed) (g : Option Nat) (r : Option (Option Addr × Nat)) (q : Option ((Option Addr × Nat × Nat) × (Option Addr × Nat × Nat))) : Prop where
 below : Below wb.heap.size wb w
 box : ∀ b, g = some b → wb.heap.size ≤ b ∧ LtsBox w b 0 0 none 0 0 none 0 0
 rch : ∀ h, r = some h → SlI w 0 w.heap.size h.1 h.2 R
 prt : ∀ h, q = some h → ∃ lo hi, SlS w lo hi h.1.1 h.1.2.1 J ∧ SlE w lo hi h.2.1 h.2.2.1 E ∧ wb.heap.size ≤ lo ∧ hi ≤ w.heap.size ∧ ∀ b, g = some b → b < lo ∨ hi ≤ b
section
variable {wb w w' : World} {J : List ByteArray} {R : List Int} {E : List Ed} {g : Option Nat} {r : Option (Option Addr × Nat)} {q : Option ((Option Addr × Nat × Nat) × (Option Addr × Nat × Nat))}
theorem MinW.start (wb : World) (J : List ByteArray) (R : List Int) (E : List Ed) : MinW wb wb J R E none none none := ⟨Below.refl _ _, fun b e => (by cases e), fun h e => (by cases e), fun h e => (by cases e)⟩
theorem MinW.keep (h : MinW wb w J R E g r q) (hb : Below w.heap.size w w') : MinW wb w' J R E g r q where
 below := h.below.trans (hb.mono h.below.size)
 box := fun b e => ⟨(h.box b e).1, (h.box b e).2.below hb (h.box b e).2.lt⟩
 rch := fun k e => ((h.rch k e).below hb (.inr (Nat.le_refl _))).here'
 prt := fun k e => by
  obtain ⟨lo, hi, h1, h2, h3, h4, h5⟩ := h.prt k e
  exact ⟨lo, hi, h1.below hb (.inl h4), h2.below hb (.inl h4), h3, Nat.le_trans h4 hb.size, h5⟩
theorem MinW.drew (h : MinW wb w J R E g r q) : MinW wb w.drew J R E g r q := h.keep (Below.refl _ _).drew
theorem MinW.alloc (h : MinW wb w J R E none r q) : MinW wb (w.alloc (.cells #[.int .i64 0, .int .i64 0, .slice none 0 0, .slice none 0 0] 27)) J R E (some w.heap.size) r q := by
 have hb : Below w.heap.size w (w.alloc (.cells #[.int .i64 0, .int .i64 0, .slice none 0 0, .slice none 0 0] 27)) := (Below.refl _ _).alloc (Nat.le_refl _) _
 have h1 := h.keep hb
 refine ⟨h1.below, fun b e => ?_, h1.rch, fun k e => ?_⟩
 ·cases e
  exact ⟨h.below.size, heap_alloc_new w _⟩
 ·obtain ⟨lo, hi, g1, g2, g3, g4, g5⟩ := h.prt k e
  exact ⟨lo, hi, g1.below hb (.inl g4), g2.below hb (.inl g4), g3, Nat.le_trans g4 hb.size, fun b e2 => by cases e2; exact .inr g4⟩
theorem MinW.reach (h : MinW wb w J R E g none none) {A : Option Addr} {n : Nat} (hb : Below w.heap.size w w') (ho : SlI w' w.heap.size w'.heap.size A n R) : MinW wb w' J R E g (some (A, n)) none :=
 ⟨(h.keep hb).below, (h.keep hb).box, fun k e => by cases e; exact ho.here', fun k e => by cases e⟩
theorem MinW.part (h : MinW wb w J R E g r none) {A B : Option Addr} {n c m d : Nat} (hb : Below w.heap.size w w') (hs : SlS w' w.heap.size w'.heap.size A n J) (he : SlE w' w.heap.size w'.heap.size B m E) : MinW wb w' J R E g r (some ((A, n, c), (B, m, d))) :=
 ⟨(h.keep hb).below, (h.keep hb).box, (h.keep hb).rch, fun k e => by
  cases e
  exact ⟨_, _, hs, he, h.below.size, Nat.le_refl _, fun b e2 => .inl (h.box b e2).2.lt⟩⟩
structure MinF (wb wf : World) (J : List ByteArray) (E : List Ed) (b : Nat) (s i : Int) (A : Option Addr) (n c : Nat) (B : Option Addr) (m d : Nat) : Prop where
 below : Below wb.heap.size wb wf
 box : LtsBox wf b s i A n c B m d
 base : wb.heap.size ≤ b
 ss : SlS wf 0 wf.heap.size A n J
 se : SlE wf 0 wf.heap.size B m E
theorem MinW.fill {A B : Option Addr} {n c m d b : Nat} (h : MinW wb w J R E (some b) r (some ((A, n, c), (B, m, d)))) (s i : Int) :
  MinF wb ((((w.setCell ⟨b, 0, none⟩ (.int .i64 s)).setCell ⟨b, 1, none⟩ (.int .i64 i)).setCell ⟨b, 2, none⟩ (.slice A n c)).setCell ⟨b, 3, none⟩ (.slice B m d)) J E b s i A n c B m d := by
 obtain ⟨hg, hx⟩ := h.box b rfl
 obtain ⟨lo, hi, g1, g2, g3, g4, g5⟩ := h.prt _ rfl
 have g5 := g5 b rfl
 have x0 : (w.setCell ⟨b, 0, none⟩ (.int .i64 s)).heap[b]? = _ := heap_setCell_same w b 0 _ _ _ hx
 have x1 := heap_setCell_same _ b 1 _ _ (.int .i64 i) x0
 have x2 := heap_setCell_same _ b 2 _ _ (.slice A n c) x1
 have x3 := heap_setCell_same _ b 3 _ _ (.slice B m d) x2
 have o1 := (Only.refl b (b + 1) w).setCell (p := ⟨b, 0, none⟩) (Nat.le_refl _) (Nat.lt_succ_self _) (.int .i64 s)
 have o2 := o1.setCell (p := ⟨b, 1, none⟩) (Nat.le_refl _) (Nat.lt_succ_self _) (.int .i64 i)
 have o3 := o2.setCell (p := ⟨b, 2, none⟩) (Nat.le_refl _) (Nat.lt_succ_self _) (.slice A n c)
 have o4 := o3.setCell (p := ⟨b, 3, none⟩) (Nat.le_refl _) (Nat.lt_succ_self _) (.slice B m d)
 exact ⟨Only.below h.below o4 hg h.below.size, x3, hg, (g1.only o4 (by omega)).here', (g2.only o4 (by omega)).here'⟩
end
theorem reach_nodup {N : Nat} {es : List Ed} {ini : Int} : (reachF N es ini).Nodup := by
 unfold reachF
 exact List.Pairwise.map Int.ofNat (fun a b h e => h (Int.ofNat.inj e)) (List.Pairwise.filter _ List.nodup_range)
theorem results_cs {fn : Func} {p q : Tmp} {ty : TypeId} (h : fn.results = #[.cell p ty, .tmp q]) (tmps : Array Value) (P : Program) (w : World) :
  (results fn tmps).run P w = ((asAddr (tmps.getD p undef)).run P w).andThen fun a w₁ => ((loadVar ty a).run P w₁).andThen fun v w₂ => .ok (.tuple #[v, tmps.getD q undef]) w₂ := by
 simp only [results, h]
 simp [Sem.run_bind, Result.andThen]
theorem put4_cell (w : World) (g : Nat) (v0 v1 v2 v3 : Value) {q i : Nat} {v : Value} (h : q ≠ g) (hc : w.cell? ⟨q, i, none⟩ = some v) : (put4 w g v0 v1 v2 v3).cell? ⟨q, i, none⟩ = some v :=
 (World.cell?_of_block (w := w) (by simpa using put4_other w g v0 v1 v2 v3 h)).trans hc
set_option maxRecDepth 100000 in
theorem minS1_calls (e : Ed) (W : World) : Calls Tryz.prog 89 (#[.agg #[.int .i64 e.1, .int .i64 e.2.1, .int .i64 e.2.2]] ++ #[]) W (Says true W) := by
 obtain ⟨f, l, t⟩ := e
 go_enter Tryz.func89, Tryz.ntmps89
 go_wp2_with fail
 go_ret
 exact ⟨rfl, (Below.refl _ _).alloc (Nat.le_refl _) _⟩
set_option maxRecDepth 100000 in
set_option maxHeartbeats 6400000 in
theorem minimalStrong_calls {w : World} {N ini : Nat} {A : Option Addr} {n : Nat} {B : Option Addr} {m : Nat} {ls : List ByteArray} {es : List Ed} (h : SysA w N ini A n B m ls es) (c d : Nat) (he : Env w) (R : List Int) (hR : R = reachF N es (ini : Int)) (hiR : (ini : Int) ∈ R) :
  Calls Tryz.prog 32 #[.agg #[.int .i64 (N : Int), .int .i64 (ini : Int), .slice A n c, .slice B m d]] w fun e w' => ∃ r M A2 c2 A3 n3 c3, LastR (partF R es) R.length r ∧ MaxL (rndP (partF R es) R.length r) M ∧ e = .returned (.tuple #[.agg #[.int .i64 (M + 1), .int .i64 (pv (rndP (partF R es) R.length r) (posZ R (ini : Int))), .slice A2 n c2, .slice A3 n3 c3], .int .i64 0]) ∧ SlS w' w.heap.size w'.heap.size A2 n ls ∧ SlE w' w.heap.size w'.heap.size A3 n3 (quoF (rndP (partF R es) R.length r) (fun _ => true) (partF R es)) ∧ Below w.heap.size w w' := by
 obtain ⟨hm, hn12, hn1, hle, hll⟩ := h.many
 obtain ⟨⟨hN1, hN2⟩, hini⟩ := h.bounds
 obtain ⟨E1, hE1⟩ : ∃ E1, E1 = partF R es := ⟨_, rfl⟩
 have hRn : R.Nodup := by rw [hR]; exact reach_nodup
 obtain ⟨wB, hwB⟩ : ∃ wB, wB = w.alloc (ltsC N ini A n c B m d) := ⟨_, rfl⟩
 have zB : wB.heap.size = w.heap.size + 1 := by rw [hwB]; exact World.size_alloc _ _
 have bB : Below w.heap.size w wB := by rw [hwB]; exact (Below.refl w.heap.size w).alloc (Nat.le_refl _) _
 have xB : LtsBox wB w.heap.size (N : Int) (ini : Int) A n c B m d := by rw [hwB]; exact heap_alloc_new w _
 obtain ⟨w1, hw1⟩ : ∃ w1, w1 = wB.alloc (.cells #[.int .i64 0, .int .i64 0, .slice none 0 0, .slice none 0 0] 27) := ⟨_, rfl⟩
 have hbel1 : Below wB.heap.size wB w1 := by rw [hw1]; exact (Below.refl _ _).alloc (Nat.le_refl _) _
 have hr1 : LtsBox w1 wB.heap.size 0 0 none 0 0 none 0 0 := by rw [hw1]; exact heap_alloc_new wB _
 have hAll : ∀ wx, Below wB.heap.size wB wx → SysA wx N ini A n B m ls es ∧ LtsBox wx w.heap.size (N : Int) (ini : Int) A n c B m d ∧ Below w.heap.size w wx := fun wx hx =>
  ⟨h.below (bB.trans (hx.mono bB.size)) (Nat.le_refl _), xB.below hx (by omega), bB.trans (hx.mono bB.size)⟩
 have hq1 := hide ((hAll w1 hbel1).1.valid c d (he.below (bB.trans (hbel1.mono bB.size)) (Nat.le_refl _)))
 have b0 := (hAll w1 hbel1).2.1.c0
 have b1 := (hAll w1 hbel1).2.1.c1
 have b2 := (hAll w1 hbel1).2.1.c2
 have b3 := (hAll w1 hbel1).2.1.c3
 replace hAll := hide hAll
 replace zB := hide zB
 replace hbel1 := hide hbel1
 replace hr1 := hide hr1
 replace hE1 := hide hE1
 replace hR := hide hR
 have hbBh := hide bB
 clear bB xB h he
 go_enter Tryz.func32, Tryz.ntmps32
 go_upto_region 1 with fail
 rw [show ((w.alloc (.cells #[.int .i64 (N : Int), .int .i64 (ini : Int), .slice A n c, .slice B m d] 27)).alloc (.cells #[.int .i64 0, .int .i64 0, .slice none 0 0, .slice none 0 0] 27)) = w1 from by rw [hw1, hwB]]
 replace hw1 := hide hw1
 replace hwB := hide hwB
 go_wp2_with fail
 refine hq1.out.mono ?_
 rintro e w2 ⟨rfl, hb2⟩
 have hbB2 := hide (hbel1.out.trans (hb2.mono hbel1.out.size))
 have hr2 := hide (hr1.out.below hb2 hr1.out.lt)
 clear b0 b1 b2 b3 hq1 hb2
 have hSS : Hid (∀ wx, Below w2.heap.size w2 wx → wx.cell? ⟨w.heap.size, 0, none⟩ = some (.int .i64 (N : Int)) ∧ wx.cell? ⟨w.heap.size, 1, none⟩ = some (.int .i64 (ini : Int)) ∧ wx.cell? ⟨w.heap.size, 2, none⟩ = some (.slice A n c) ∧ wx.cell? ⟨w.heap.size, 3, none⟩ = some (.slice B m d)) := fun wx hx => by
  obtain ⟨-, y, -⟩ := hAll.out wx (hbB2.out.trans (hx.mono hbB2.out.size))
  exact ⟨y.c0, y.c1, y.c2, y.c3⟩
 have hRe : Hid (∀ wx, Below w2.heap.size w2 wx → Calls Tryz.prog 58 #[.agg #[.int .i64 (N : Int), .int .i64 (ini : Int), .slice A n c, .slice B m d]] wx fun e w' => ∃ A m c, e = .returned (.slice A m c) ∧ SlI w' wx.heap.size w'.heap.size A m R ∧ Below wx.heap.size wx w') := fun wx hx => by
  obtain ⟨y, -, -⟩ := hAll.out wx (hbB2.out.trans (hx.mono hbB2.out.size))
  refine (reachable_calls N ini _ B m d es wx _ _ y.se (by omega) hN1 hN2 hini ⟨_, _, _, rfl⟩ y.ends).mono ?_
  rintro e w' ⟨A, m, c, rfl, h1, -, -, h2⟩
  rw [← hR.out] at h1
  exact ⟨A, m, c, rfl, h1, h2⟩
 have hRl : R.length ≤ 40 := by
  rw [hR.out]
  unfold reachF
  rw [List.length_map]
  exact Nat.le_trans (List.length_filter_le _ _) (by rw [List.length_range]; exact hN2)
 have hPa : Hid (∀ wx AR mR cR, Below w2.heap.size w2 wx → SlI wx 0 wx.heap.size AR mR R → Calls Tryz.prog 59 #[.agg #[.int .i64 (N : Int), .int .i64 (ini : Int), .slice A n c, .slice B m d], .slice AR mR cR] wx fun e w' => ∃ A2 c2 A3 n3 c3, e = .returned (.agg #[.int .i64 (mR : Int), .int .i64 (posZ R (ini : Int)), .slice A2 n c2, .slice A3 n3 c3]) ∧ SlS w' wx.heap.size w'.heap.size A2 n ls ∧ SlE w' wx.heap.size w'.heap.size A3 n3 E1 ∧ Below wx.heap.size wx w') := fun wx AR mR cR hx hs => by
  obtain ⟨y, -, -⟩ := hAll.out wx (hbB2.out.trans (hx.mono hbB2.out.size))
  rw [hE1.out]
  have := hs.len
  exact part_calls y c d AR mR cR _ _ R hs (Nat.le_refl _) (by omega) hRn
 go_upto_region 3 with fail
 go_cut [4] (fun v4 wx => ∃ b A2 c2 A3 n3 c3 mR, v4 = .pointer (some ⟨b, 0, none⟩) ∧ R.length = mR ∧ Hid (MinF w2 wx ls E1 b (mR : Int) (posZ R (ini : Int)) A2 n c2 A3 n3 c3))
 case first =>
  refine lateT_begin (S := fun w' => w'.cell? ⟨w.heap.size, 0, none⟩ = some (.int .i64 (N : Int)) ∧ w'.cell? ⟨w.heap.size, 1, none⟩ = some (.int .i64 (ini : Int)) ∧ w'.cell? ⟨w.heap.size, 2, none⟩ = some (.slice A n c) ∧ w'.cell? ⟨w.heap.size, 3, none⟩ = some (.slice B m d)) (st := 5) (by kernel_rfl) ?_
  have hD := (MinW.start w2 ls R E1).drew
  generalize w2.drew = wA at *
  have hS0 := hSS.out _ hD.below
  refine tkA ?_ 0 [5] rfl (Or.inl ⟨by rfl, ?hy⟩) hS0 ?_
  case hy => (intro w9 hSw; obtain ⟨s0, s1, s2, s3⟩ := hSw; go_simp <;> with_reducible rfl)
  (try simp only [Act.put, sA, sB, sC])
  refine tkA ?_ 1 [5] rfl (Or.inl ⟨by rfl, ?hy⟩) hS0 ?_
  case hy => (intro w9 hSw; obtain ⟨s0, s1, s2, s3⟩ := hSw; go_simp <;> with_reducible rfl)
  (try simp only [Act.put, sA, sB, sC])
  refine lateT_two (i := 2) (j := 4) (by kernel_rfl) rfl rfl (fun K hK => ?_) (fun K hK => ?_)
  ·go_simp
   go_at_call 58; (with_reducible refine (hRe.out _ hD.below).mono ?_); rintro e wA ⟨AR, mR, cR, rfl, hR6, hb6⟩
   replace hD := hD.reach hb6 hR6
   clear hR6 hb6
   (try go_wp2_with fail)
   refine hK.out _ _ (fun _ => hSS.out _ hD.below) ?_
   clear hK K
   (try simp only [Act.put, sA, sB, sC])
   refine lateT_two (i := 3) (j := 4) (by kernel_rfl) rfl rfl (fun K hK => ?_) (fun K hK => ?_)
   ·go_simp
    have hqP := hPa.out _ AR mR cR hD.below (hD.rch _ rfl)
    go_at_call 59; (with_reducible refine hqP.mono ?_); rintro e wA ⟨A2, c2, A3, n3, c3, rfl, hS6, hE6, hb6⟩
    replace hD := hD.part (c := c2) (d := c3) hb6 hS6 hE6
    clear hS6 hE6 hb6 hqP
    (try go_wp2_with fail)
    refine hK.out _ _ (fun _ => hSS.out _ hD.below) ?_
    clear hK K
    (try simp only [Act.put, sA, sB, sC])
    refine lateT_step (i := 4) (by kernel_rfl) rfl (fun K hK => ?_)
    go_simp
    replace hD := hD.alloc
    refine hK.out _ _ (fun _ => hSS.out _ hD.below) ?_
    clear hK K
    (try simp only [Act.put, sA, sB, sC])
    generalize wA.alloc (.cells #[.int .i64 0, .int .i64 0, .slice none 0 0, .slice none 0 0] 27) = wA at *
    refine lateT_step (i := 5) (by kernel_rfl) rfl (fun K hK => ?_)
    have hbx := (hD.box _ rfl).2
    have z0 := hbx.c0
    have z1 := hbx.c1
    have z2 := hbx.c2
    have z3 := hbx.c3
    have f0 := hbx.f0
    have f1 := hbx.f1
    have f2 := hbx.f2
    have f3 := hbx.f3
    go_simp
    refine hK.out _ _ (fun h => absurd rfl h) ?_
    clear hK K
    (try simp only [Act.put, sA, sB, sC])
    refine lateT_done (by kernel_rfl) ?_ _
    have hM := hD.fill (mR : Int) (posZ R (ini : Int))
    have hmR := (hD.rch _ rfl).len
    go_wp2_with fail
    go_meet
    exact ⟨_, _, _, _, _, _, _, rfl, hmR, hide hM⟩
   ·go_simp
    replace hD := hD.alloc
    refine hK.out _ _ (fun _ => hSS.out _ hD.below) ?_
    clear hK K
    (try simp only [Act.put, sA, sB, sC])
    generalize wA.alloc (.cells #[.int .i64 0, .int .i64 0, .slice none 0 0, .slice none 0 0] 27) = wA at *
    refine lateT_step (i := 3) (by kernel_rfl) rfl (fun K hK => ?_)
    go_simp
    have hqP := hPa.out _ AR mR cR hD.below (hD.rch _ rfl)
    go_at_call 59; (with_reducible refine hqP.mono ?_); rintro e wA ⟨A2, c2, A3, n3, c3, rfl, hS6, hE6, hb6⟩
    replace hD := hD.part (c := c2) (d := c3) hb6 hS6 hE6
    clear hS6 hE6 hb6 hqP
    (try go_wp2_with fail)
    refine hK.out _ _ (fun _ => hSS.out _ hD.below) ?_
    clear hK K
    (try simp only [Act.put, sA, sB, sC])
    refine lateT_step (i := 5) (by kernel_rfl) rfl (fun K hK => ?_)
    have hbx := (hD.box _ rfl).2
    have z0 := hbx.c0
    have z1 := hbx.c1
    have z2 := hbx.c2
    have z3 := hbx.c3
    have f0 := hbx.f0
    have f1 := hbx.f1
    have f2 := hbx.f2
    have f3 := hbx.f3
    go_simp
    refine hK.out _ _ (fun h => absurd rfl h) ?_
    clear hK K
    (try simp only [Act.put, sA, sB, sC])
    refine lateT_done (by kernel_rfl) ?_ _
    have hM := hD.fill (mR : Int) (posZ R (ini : Int))
    have hmR := (hD.rch _ rfl).len
    go_wp2_with fail
    go_meet
    exact ⟨_, _, _, _, _, _, _, rfl, hmR, hide hM⟩
  ·go_simp
   replace hD := hD.alloc
   refine hK.out _ _ (fun _ => hSS.out _ hD.below) ?_
   clear hK K
   (try simp only [Act.put, sA, sB, sC])
   generalize wA.alloc (.cells #[.int .i64 0, .int .i64 0, .slice none 0 0, .slice none 0 0] 27) = wA at *
   refine lateT_step (i := 2) (by kernel_rfl) rfl (fun K hK => ?_)
   go_simp
   go_at_call 58; (with_reducible refine (hRe.out _ hD.below).mono ?_); rintro e wA ⟨AR, mR, cR, rfl, hR6, hb6⟩
   replace hD := hD.reach hb6 hR6
   clear hR6 hb6
   (try go_wp2_with fail)
   refine hK.out _ _ (fun _ => hSS.out _ hD.below) ?_
   clear hK K
   (try simp only [Act.put, sA, sB, sC])
   refine lateT_step (i := 3) (by kernel_rfl) rfl (fun K hK => ?_)
   go_simp
   have hqP := hPa.out _ AR mR cR hD.below (hD.rch _ rfl)
   go_at_call 59; (with_reducible refine hqP.mono ?_); rintro e wA ⟨A2, c2, A3, n3, c3, rfl, hS6, hE6, hb6⟩
   replace hD := hD.part (c := c2) (d := c3) hb6 hS6 hE6
   clear hS6 hE6 hb6 hqP
   (try go_wp2_with fail)
   refine hK.out _ _ (fun _ => hSS.out _ hD.below) ?_
   clear hK K
   (try simp only [Act.put, sA, sB, sC])
   refine lateT_step (i := 5) (by kernel_rfl) rfl (fun K hK => ?_)
   have hbx := (hD.box _ rfl).2
   have z0 := hbx.c0
   have z1 := hbx.c1
   have z2 := hbx.c2
   have z3 := hbx.c3
   have f0 := hbx.f0
   have f1 := hbx.f1
   have f2 := hbx.f2
   have f3 := hbx.f3
   go_simp
   refine hK.out _ _ (fun h => absurd rfl h) ?_
   clear hK K
   (try simp only [Act.put, sA, sB, sC])
   refine lateT_done (by kernel_rfl) ?_ _
   have hM := hD.fill (mR : Int) (posZ R (ini : Int))
   have hmR := (hD.rch _ rfl).len
   go_wp2_with fail
   go_meet
   exact ⟨_, _, _, _, _, _, _, rfl, hmR, hide hM⟩
 case rest =>
  obtain ⟨b, A2, c2, A3, n3, c3, mR, rfl, hmR, hF⟩ := hcut
  have hbBc := hbB2.out.trans (hF.out.below.mono hbB2.out.size)
  have hW := (hAll.out _ hbBc).1
  obtain ⟨hpv, hp0⟩ := part_valid (S := R) hW.ok hRn hRl hiR
  obtain ⟨iR, hiRe⟩ : ∃ iR : Nat, posZ R (ini : Int) = (iR : Int) := ⟨(posZ R (ini : Int)).toNat, by omega⟩
  rw [hiRe, ← hE1.out, hmR] at hpv
  rw [hiRe] at hF
  have hSc : SysA wc mR iR A2 n A3 n3 ls E1 := ⟨hF.out.ss, hF.out.se, hpv, hW.sz⟩
  obtain ⟨wD, hwD⟩ : ∃ wD, wD = wc.drew := ⟨_, rfl⟩
  have hbD : Below wc.heap.size wc wD := by rw [hwD]; exact (Below.refl _ _).drew
  have hSy : Hid (∀ wx, Below wD.heap.size wD wx → SysA wx mR iR A2 n A3 n3 ls E1) := fun wx hx => hSc.below (hbD.trans (hx.mono hbD.size)) (Nat.le_refl _)
  have hSD : Hid (∀ wx, Below wD.heap.size wD wx → wx.cell? ⟨b, 0, none⟩ = some (.int .i64 (mR : Int)) ∧ wx.cell? ⟨b, 1, none⟩ = some (.int .i64 (iR : Int)) ∧ wx.cell? ⟨b, 2, none⟩ = some (.slice A2 n c2) ∧ wx.cell? ⟨b, 3, none⟩ = some (.slice A3 n3 c3)) := fun wx hx => by
   have y := hF.out.box.below (hbD.trans (hx.mono hbD.size)) hF.out.box.lt
   exact ⟨y.c0, y.c1, y.c2, y.c3⟩
  have hrD : Hid (LtsBox wD (w.heap.size + 1) 0 0 none 0 0 none 0 0) := by
   show LtsBox _ _ _ _ _ _ _ _ _ _
   have y := hr2.out.below hF.out.below hr2.out.lt
   have y2 := y.below hbD y.lt
   rwa [zB.out] at y2
  have hbne : b ≠ w.heap.size + 1 := by
   have := hF.out.base
   have := hr2.out.lt
   have := zB.out
   omega
  have hSPa : ∀ (wx : World) (u0 u1 u2 u3 : Value), (wx.cell? ⟨b, 0, none⟩ = some (.int .i64 (mR : Int)) ∧ wx.cell? ⟨b, 1, none⟩ = some (.int .i64 (iR : Int)) ∧ wx.cell? ⟨b, 2, none⟩ = some (.slice A2 n c2) ∧ wx.cell? ⟨b, 3, none⟩ = some (.slice A3 n3 c3)) → ((put4 wx (w.heap.size + 1) u0 u1 u2 u3).cell? ⟨b, 0, none⟩ = some (.int .i64 (mR : Int)) ∧ (put4 wx (w.heap.size + 1) u0 u1 u2 u3).cell? ⟨b, 1, none⟩ = some (.int .i64 (iR : Int)) ∧ (put4 wx (w.heap.size + 1) u0 u1 u2 u3).cell? ⟨b, 2, none⟩ = some (.slice A2 n c2) ∧ (put4 wx (w.heap.size + 1) u0 u1 u2 u3).cell? ⟨b, 3, none⟩ = some (.slice A3 n3 c3)) := fun wx u0 u1 u2 u3 hs =>
   ⟨put4_cell _ _ _ _ _ _ hbne hs.1, put4_cell _ _ _ _ _ _ hbne hs.2.1, put4_cell _ _ _ _ _ _ hbne hs.2.2.1, put4_cell _ _ _ _ _ _ hbne hs.2.2.2⟩
  have hmb := (hSy.out _ (Below.refl _ _)).bounds
  have hqS := hide (strong_calls (hSy.out _ (Below.refl _ _)) c2 c3)
  have hbwD := hide (hbBh.out.trans ((hbBc.trans (hbD.mono hbBc.size)).mono hbBh.out.size))
  replace hwD := hide hwD
  replace hmR := hide hmR
  replace hiRe := hide hiRe
  clear hSS hRe hPa hF hSc hbD hbBc hW hpv hp0
  go_upto_region 4 with fail
  refine lateT_begin (S := fun w' => w'.cell? ⟨b, 0, none⟩ = some (.int .i64 (mR : Int)) ∧ w'.cell? ⟨b, 1, none⟩ = some (.int .i64 (iR : Int)) ∧ w'.cell? ⟨b, 2, none⟩ = some (.slice A2 n c2) ∧ w'.cell? ⟨b, 3, none⟩ = some (.slice A3 n3 c3)) (st := 5) (by kernel_rfl) ?_
  rw [← show wD = _ from hwD.out]
  have hS0 : (fun w' : World => w'.cell? ⟨b, 0, none⟩ = some (.int .i64 (mR : Int)) ∧ w'.cell? ⟨b, 1, none⟩ = some (.int .i64 (iR : Int)) ∧ w'.cell? ⟨b, 2, none⟩ = some (.slice A2 n c2) ∧ w'.cell? ⟨b, 3, none⟩ = some (.slice A3 n3 c3)) wD := hSD.out _ (Below.refl _ _)
  refine tkA ?_ 0 [5] rfl (Or.inl ⟨by rfl, ?hy⟩) hS0 ?_
  case hy => (intro w9 hSw; obtain ⟨s0, s1, s2, s3⟩ := hSw; go_simp <;> with_reducible rfl)
  (try simp only [Act.put, sA, sB, sC])
  refine tkA ?_ 1 [5] rfl (Or.inl ⟨by rfl, ?hy⟩) hS0 ?_
  case hy => (intro w9 hSw; obtain ⟨s0, s1, s2, s3⟩ := hSw; go_simp <;> with_reducible rfl)
  (try simp only [Act.put, sA, sB, sC])
  refine lateT_step (i := 2) (by kernel_rfl) rfl (fun K hK => ?_)
  go_simp
  go_at_call 64
  (with_reducible refine hqS.out.mono ?_)
  rintro e w5 ⟨r, P, cP, rfl, hLr, hP5, hb5, -⟩
  have hqQ := hide (quotient_calls (hSy.out _ hb5) c2 c3 P cP (rndP E1 mR r) hP5.here' (fun x hx => by have := (rnd_part r).range x hx; omega) 89 #[] (fun _ => true) (fun v W => by kernel_rfl) (fun e W _ _ => minS1_calls e W))
  have hb5h := hide hb5
  replace hLr := hide hLr
  clear hP5 hb5
  (try go_wp2_with fail)
  refine hK.out _ _ (fun _ => hSD.out _ hb5h.out) ?_
  clear hK K
  (try simp only [Act.put, sA, sB, sC])
  refine lateT_step (i := 3) (by kernel_rfl) rfl (fun K hK => ?_)
  go_simp
  go_at_call 88
  (with_reducible refine hqQ.out.mono ?_)
  rintro e w6 ⟨M, A4, c4, A5, n5, c5, hM, rfl, hS6, hE6, hb6, -, -⟩
  have hb56 := hide (hb5h.out.trans (hb6.mono hb5h.out.size))
  have hS6 := hide hS6
  have hE6 := hide hE6
  have hb6 := hide hb6
  have hr6 := hrD.out.below hb56.out hrD.out.lt
  have r0 := hr6.c0
  have r1 := hr6.c1
  have r2 := hr6.c2
  have r3 := hr6.c3
  have v0 := hr6.f0
  have v1 := hr6.f1
  have v2 := hr6.f2
  have v3 := hr6.f3
  have hSP := hide (hSPa w6 (.int .i64 (M + 1)) (.int .i64 (pv (rndP E1 mR r) (iR : Int))) (.slice A4 n c4) (.slice A5 n5 c5) (hSD.out _ hb56.out))
  (try go_wp2_with fail)
  refine hK.out _ _ (fun _ => hSD.out _ hb56.out) ?_
  clear hK K
  (try simp only [Act.put, sA, sB, sC])
  refine lateT_step (i := 4) (by kernel_rfl) rfl (fun K hK => ?_)
  go_simp
  refine hK.out _ _ (fun _ => hSP.out) ?_
  clear hK K
  (try simp only [Act.put, sA, sB, sC])
  refine lateT_step (i := 5) (by kernel_rfl) rfl (fun K hK => ?_)
  go_simp
  refine hK.out _ _ (fun h => absurd rfl h) ?_
  clear hK K
  (try simp only [Act.put, sA, sB, sC])
  refine lateT_done (by kernel_rfl) ?_ _
  go_wp2_with fail
  (try simp only [Exit.inBlock, Exit.then])
  refine bodyPost_ret_by (v := .tuple #[.agg #[.int .i64 (M + 1), .int .i64 (pv (rndP E1 mR r) (iR : Int)), .slice A4 n c4, .slice A5 n5 c5], .int .i64 0]) ?_ rfl ?_
  focus
   rw [results_cs rfl]
   go_simp
  rw [hmR.out, hiRe.out, ← hE1.out]
  have hZs := put4_size w6 (w.heap.size + 1) (.int .i64 (M + 1)) (.int .i64 (pv (rndP E1 mR r) (iR : Int))) (.slice A4 n c4) (.slice A5 n5 c5)
  have hz6 := hb6.out.size
  have hz5 := hb5h.out.size
  have hzD := hbwD.out.size
  have hzr := hrD.out.lt
  have hf : ∀ q, q ≠ w.heap.size + 1 → (put4 w6 (w.heap.size + 1) (.int .i64 (M + 1)) (.int .i64 (pv (rndP E1 mR r) (iR : Int))) (.slice A4 n c4) (.slice A5 n5 c5)).heap[q]? = w6.heap[q]? := fun q hq => put4_other _ _ _ _ _ _ hq
  have hbF := hbwD.out.trans (hb56.out.mono hzD)
  refine ⟨r, M, A4, c4, A5, n5, c5, hLr.out, hM, rfl, ?_, ?_, ?_⟩
  ·change SlS (put4 w6 (w.heap.size + 1) _ _ _ _) _ (put4 w6 (w.heap.size + 1) _ _ _ _).heap.size _ _ _
   exact (Sl.keep hS6.out (by omega) fun q h1 h2 h3 => hf q (by omega)).more (by omega) (by omega)
  ·change SlE (put4 w6 (w.heap.size + 1) _ _ _ _) _ (put4 w6 (w.heap.size + 1) _ _ _ _).heap.size _ _ _
   exact (Sl.keep hE6.out (by omega) fun q h1 h2 h3 => hf q (by omega)).more (by omega) (by omega)
  ·change Below _ _ (put4 w6 (w.heap.size + 1) _ _ _ _)
   exact ⟨hbF.os, hbF.tape, hbF.output, by omega, fun q hq => (hf q (by omega)).trans (hbF.block q hq)⟩
end Go.Proofs.YtnhomkmfbngmgaaGreatDoor

namespace Go.Proofs.YtnhomkmfbngmgaaGreatDoor
open Go.ChangeShapes Go.WideShapes Go.ChangeAt Go.RowKit Go.Sort
set_option linter.unusedVariables false
set_option linter.unusedSimpArgs false

def inG (p : List Int) (e : Ed) : Bool := decide (e.2.1 = 0) && decide (p[e.1.toNat]? = p[e.2.2.toNat]?)
theorem inG_true {p : List Int} {e : Ed} : inG p e = true ↔ e.2.1 = 0 ∧ p[e.1.toNat]? = p[e.2.2.toNat]? := by unfold inG; simp
set_option maxRecDepth 100000 in
set_option maxHeartbeats 1600000 in
theorem inert1_calls (N : Nat) (P : Option Addr) (cP : Nat) (p : List Int) (bP : Nat) (f l t : Int) (w : World) (lo hi : Nat) (hP : SlI w lo hi P N p) (hbl : bP < w.heap.size) (hb : w.cell? ⟨bP, 0, none⟩ = some (.slice P N cP)) (hf : 0 ≤ f ∧ f < (N : Int)) (ht : 0 ≤ t ∧ t < (N : Int)) :
  Calls Tryz.prog 263 #[.agg #[.int .i64 f, .int .i64 l, .int .i64 t], .pointer (some ⟨bP, 0, none⟩)] w (Says (inG p (f, l, t)) w) := by
 obtain ⟨f, rfl⟩ : ∃ k : Nat, f = (k : Int) := ⟨f.toNat, by omega⟩
 obtain ⟨t, rfl⟩ : ∃ k : Nat, t = (k : Int) := ⟨t.toNat, by omega⟩
 obtain ⟨gP, oP, pf, rfl, -, -, hgP, hpf, cf, -⟩ := SlI.get hP (show f < N by omega)
 obtain ⟨gP2, oP2, pt, e2, -, -, -, hpt, ct, -⟩ := SlI.get hP (show t < N by omega)
 cases e2
 have hval : Hid (inG p ((f : Int), l, (t : Int)) = ((l == 0) && (pf == pt))) := by
  show _ = _
  unfold inG
  simp only [Int.toNat_natCast, hpf, hpt]
  by_cases h1 : l = 0 <;> by_cases h2 : pf = pt <;> simp [h1, h2]
 have hb1 : Below w.heap.size w (w.alloc (.cells #[.int .i64 (f : Int), .int .i64 l, .int .i64 (t : Int)] 84)) := (Below.refl _ _).alloc (Nat.le_refl _) _
 have k8 := heap_alloc_new w (.cells #[.int .i64 (f : Int), .int .i64 l, .int .i64 (t : Int)] 84)
 obtain ⟨w1, hw1⟩ : ∃ w1, w1 = w.alloc (.cells #[.int .i64 (f : Int), .int .i64 l, .int .i64 (t : Int)] 84) := ⟨_, rfl⟩
 rw [← hw1] at hb1 k8
 have c0 := (hb1.cell (p := ⟨bP, 0, none⟩) hbl).trans hb
 replace cf := (hb1.cell (p := ⟨gP, oP + f, none⟩) hgP).trans cf
 replace ct := (hb1.cell (p := ⟨gP, oP + t, none⟩) hgP).trans ct
 have e0 : w1.cell? ⟨w.heap.size, 0, none⟩ = some (.int .i64 (f : Int)) := (cell_of_row _ _ 0 _ _ (0, 0) k8).trans rfl
 have e1 : w1.cell? ⟨w.heap.size, 1, none⟩ = some (.int .i64 l) := (cell_of_row _ _ 1 _ _ (0, 0) k8).trans rfl
 have e2 : w1.cell? ⟨w.heap.size, 2, none⟩ = some (.int .i64 (t : Int)) := (cell_of_row _ _ 2 _ _ (0, 0) k8).trans rfl
 have f0 : (0 : Int) ≤ (f : Int) := by omega
 have f1 : (f : Int) < (N : Int) := by omega
 have t0 : (0 : Int) ≤ (t : Int) := by omega
 have t1 : (t : Int) < (N : Int) := by omega
 replace hb1 := hide hb1
 replace hpf := hide hpf
 replace hpt := hide hpt
 clear hP hb k8 hf ht
 by_cases hl : l = 0
 ·subst hl
  have g1 : ((0 : Int) == 0) = true := rfl
  go_enter Tryz.func263, Tryz.ntmps263
  go_upto_region 1 with fail
  rw [← hw1]
  replace hw1 := hide hw1
  go_quiet (fail)
  go_wp2_with fail
  go_ret
  exact ⟨by rw [hval.out]; rfl, hb1.out.trans (below_drewN _ _ |>.mono hb1.out.size)⟩
 ·have g1 : (l == 0) = false := beq_eq_false_iff_ne.2 hl
  go_enter Tryz.func263, Tryz.ntmps263
  go_upto_region 1 with fail
  rw [← hw1]
  replace hw1 := hide hw1
  go_quiet (fail)
  go_wp2_with fail
  go_ret
  exact ⟨by rw [hval.out, g1]; rfl, hb1.out.trans (below_drewN _ _ |>.mono hb1.out.size)⟩
set_option maxRecDepth 100000 in
set_option maxHeartbeats 3200000 in
theorem inertOnly_calls {w : World} {N ini : Nat} {A : Option Addr} {n : Nat} {B : Option Addr} {m : Nat} {ls : List ByteArray} {es : List Ed} (h : SysA w N ini A n B m ls es) (c d : Nat) (P : Option Addr) (cP : Nat) (p : List Int) (hP : SlI w 0 w.heap.size P N p) :
  Calls Tryz.prog 200 #[.agg #[.int .i64 (N : Int), .int .i64 (ini : Int), .slice A n c, .slice B m d], .slice P N cP] w fun e w' => ∃ A' m' c', e = .returned (.agg #[.int .i64 (N : Int), .int .i64 (ini : Int), .slice A n c, .slice A' m' c']) ∧ SlE w' w.heap.size w'.heap.size A' m' (es.filter (inG p)) ∧ m' ≤ m ∧ Below w.heap.size w w' := by
 have hm := h.many
 have hB := h.box (c := c) (d := d)
 obtain ⟨w3, hw3⟩ : ∃ w3, w3 = ((w.alloc (ltsC N ini A n c B m d)).alloc (.cells #[.slice P N cP] 32)).alloc (.cells #[.int .i64 0, .int .i64 0, .slice none 0 0, .slice none 0 0] 27) := ⟨_, rfl⟩
 have z1 : (w.alloc (ltsC N ini A n c B m d)).heap.size = w.heap.size + 1 := World.size_alloc _ _
 have hb2 : Below (w.heap.size + 1) (w.alloc (ltsC N ini A n c B m d)) w3 := by
  rw [hw3]
  exact ((Below.refl _ _).alloc (by rw [z1]; exact Nat.le_refl _) _).alloc (by rw [World.size_alloc, z1]; omega) _
 have hBw := hB.below (by rw [z1]; exact hb2)
 have z3 : w3.heap.size = w.heap.size + 3 := by rw [hw3, World.size_alloc, World.size_alloc, z1]
 have kP : w3.heap[w.heap.size + 1]? = some (.cells #[.slice P N cP] 32 (0, 0)) := by
  rw [hw3]
  refine (Below.heap_alloc _ _ _ (by rw [World.size_alloc, z1]; omega)).trans ?_
  have := heap_alloc_new (w.alloc (ltsC N ini A n c B m d)) (.cells #[.slice P N cP] 32)
  rw [z1] at this
  exact this
 have kR : w3.heap[w.heap.size + 2]? = some (.cells #[.int .i64 0, .int .i64 0, .slice none 0 0, .slice none 0 0] 27 (0, 0)) := by
  rw [hw3]
  have := heap_alloc_new ((w.alloc (ltsC N ini A n c B m d)).alloc (.cells #[.slice P N cP] 32)) (.cells #[.int .i64 0, .int .i64 0, .slice none 0 0, .slice none 0 0] 27)
  rw [World.size_alloc, z1] at this
  exact this
 have hP3 := (hP.below hBw.bel (.inr (Nat.le_refl _))).here'
 have hends := hide h.ends
 have qO := hide (only_calls 263 #[.pointer (some ⟨w.heap.size + 1, 0, none⟩)] (inG p) (N : Int) (ini : Int) A n c B m d es w3 _ _ hBw.sys.se (by omega) (fun v W => by kernel_rfl) fun f lb tg hx W hW =>
  inert1_calls N P cP p (w.heap.size + 1) f lb tg W _ _ (hP3.below hW (.inr (Nat.le_refl _))) (by have := hW.size; omega) ((cell_of_row _ _ 0 _ _ (0, 0) ((hW.block _ (by omega)).trans kP)).trans rfl) (hends.out _ hx).1 (hends.out _ hx).2)
 have b0 := hBw.box.c0
 have b1 := hBw.box.c1
 have b2 := hBw.box.c2
 have b3 := hBw.box.c3
 have zz : w.heap.size + 2 < w3.heap.size := by omega
 have zz2 : w.heap.size ≤ w3.heap.size := by omega
 replace kR := hide kR
 replace kP := hide kP
 have hbel := hide hBw.bel
 replace z3 := hide z3
 clear h hB hb2 hP hP3 hBw z1
 go_enter Tryz.func200, Tryz.ntmps200
 go_upto_region 1 with fail
 rw [← show w3 = _ from hw3]
 replace hw3 := hide hw3
 go_wp2_with fail
 refine qO.out.mono ?_
 rintro e w4 ⟨A', m', c', rfl, hO, hm', hb4⟩
 have h8 : w4.heap[w.heap.size + 2]? = _ := (hb4.block _ zz).trans kR.out
 have a0 : w4.cell? ⟨w.heap.size + 2, 0, none⟩ = some (.int .i64 0) := (cell_of_row _ _ 0 _ _ (0, 0) h8).trans rfl
 have a1 : w4.cell? ⟨w.heap.size + 2, 1, none⟩ = some (.int .i64 0) := (cell_of_row _ _ 1 _ _ (0, 0) h8).trans rfl
 have a2 : w4.cell? ⟨w.heap.size + 2, 2, none⟩ = some (.slice none 0 0) := (cell_of_row _ _ 2 _ _ (0, 0) h8).trans rfl
 have a3 : w4.cell? ⟨w.heap.size + 2, 3, none⟩ = some (.slice none 0 0) := (cell_of_row _ _ 3 _ _ (0, 0) h8).trans rfl
 have y0 : w4.frozen? ⟨w.heap.size + 2, 0, none⟩ = false := frozen_of_row _ _ 0 _ _ h8
 have y1 : w4.frozen? ⟨w.heap.size + 2, 1, none⟩ = false := frozen_of_row _ _ 1 _ _ h8
 have y2 : w4.frozen? ⟨w.heap.size + 2, 2, none⟩ = false := frozen_of_row _ _ 2 _ _ h8
 have y3 : w4.frozen? ⟨w.heap.size + 2, 3, none⟩ = false := frozen_of_row _ _ 3 _ _ h8
 have hbF := hide (hbel.out.trans (hb4.mono zz2))
 replace hb4 := hide hb4
 replace h8 := hide h8
 replace hO := hide hO
 clear qO b0 b1 b2 b3
 go_wp2_with fail
 (try simp only [Exit.inBlock, Exit.then])
 refine bodyPost_ret_by (v := .agg #[.int .i64 (N : Int), .int .i64 (ini : Int), .slice A n c, .slice A' m' c']) ?_ rfl ?_
 focus
  rw [results_cell1 rfl]
  go_simp
 change ∃ A9 m9 c9, _ ∧ SlE (put4 w4 (w.heap.size + 2) _ _ _ _) _ _ _ _ _ ∧ _ ∧ Below _ _ (put4 w4 (w.heap.size + 2) _ _ _ _)
 have hZs := put4_size w4 (w.heap.size + 2) (.int .i64 (N : Int)) (.int .i64 (ini : Int)) (.slice A n c) (.slice A' m' c')
 have hz4 := hb4.out.size
 refine ⟨A', m', c', rfl, ?_, hm', ?_⟩
 ·exact (Sl.keep hO.out (by omega) fun q h1 h2 h3 => put4_other _ _ _ _ _ _ (by have := z3.out; omega)).more (by omega) (Nat.le_of_eq hZs.symm)
 ·exact ⟨hbF.out.os, hbF.out.tape, hbF.out.output, Nat.le_trans hbF.out.size (Nat.le_of_eq hZs.symm), fun q hq => (put4_other _ _ _ _ _ _ (by omega)).trans (hbF.out.block q hq)⟩
end Go.Proofs.YtnhomkmfbngmgaaGreatDoor

namespace Go.Proofs.YtnhomkmfbngmgaaGreatDoor
open Go.ChangeShapes Go.WideShapes Go.ChangeAt Go.RowKit Go.Sort
set_option linter.unusedVariables false
set_option linter.unusedSimpArgs false

def tauE (es : List Ed) (x y : Nat) : Prop := nE es x 0 y
open Classical in
noncomputable def dvgL (es : List Ed) (N : Nat) : List Bool := setOf N fun k => decide (Dvg (tauE es) k)
theorem inS_dvgL {es : List Ed} {N k : Nat} (hk : k < N) : inS (dvgL es N) k = true ↔ Dvg (tauE es) k := by
 unfold dvgL
 rw [inS_setOf]
 simp [hk]
def goD (b : List Bool) (e : Ed) : Bool := decide (e.2.1 = 0) && inS b e.2.2.toNat
theorem goD_any {N : Nat} {es : List Ed} (he : EdIn N es) {b : List Bool} {k : Nat} : (outE es (k : Int)).any (goD b) = true ↔ ∃ t, tauE es k t ∧ inS b t = true := by
 rw [List.any_eq_true]
 constructor
 ·rintro ⟨⟨f, l, t⟩, h1, h2⟩
  obtain ⟨h3, h4⟩ := List.mem_filter.1 h1
  have h4 := of_decide_eq_true h4
  unfold goD at h2
  rw [Bool.and_eq_true] at h2
  have h5 := of_decide_eq_true h2.1
  have h6 := h2.2
  have hin := he _ h3
  dsimp only at h4 h5 h6 hin
  refine ⟨t.toNat, ?_, h6⟩
  unfold tauE nE
  rw [← h4, ← h5, show ((t.toNat : Nat) : Int) = t by omega]
  exact h3
 ·rintro ⟨t, h1, h2⟩
  exact ⟨_, List.mem_filter.2 ⟨h1, by simp⟩, by unfold goD; simpa using h2⟩
theorem numBR_off {s : List Bool} {v : Nat} (hv : v < s.length) (hs : inS s v = true) : numBR (s.set v false) + 1 = numBR s := by
 have h1 := numBR_set (s := s.set v false) (v := v) (by rw [List.length_set]; exact hv) (by rw [inS_set hv, if_pos rfl])
 rw [List.set_set] at h1
 have h2 : s.set v true = s := by
  refine List.ext_getElem (by simp) fun i h3 h4 => ?_
  rw [List.getElem_set]
  split
  ·rename_i e
   subst e
   unfold inS at hs
   rw [List.getElem?_eq_getElem hv] at hs
   exact hs.symm
  ·rfl
 rw [h2] at h1
 omega
structure DvO (N : Nat) (es : List Ed) (b : List Bool) (ag : Bool) : Prop where
 len : b.length = N
 sup : ∀ k, k < N → Dvg (tauE es) k → inS b k = true
 cls : ag = false → ∀ k, k < N → inS b k = true → ∃ t, tauE es k t ∧ inS b t = true
structure DvI (N : Nat) (es : List Ed) (b0 b : List Bool) (j : Nat) (ag : Bool) : Prop where
 len : b.length = N
 sup : ∀ k, k < N → Dvg (tauE es) k → inS b k = true
 same : ag = false → b = b0 ∧ ∀ k, k < j → inS b0 k = true → ∃ t, tauE es k t ∧ inS b0 t = true
 drop : ag = true → numBR b < numBR b0
theorem DvO.start (N : Nat) (es : List Ed) : DvO N es (List.replicate N true) true := ⟨by simp, fun k hk _ => by unfold inS; rw [List.getElem?_replicate, if_pos hk]; rfl, fun h => by cases h⟩
theorem DvO.begin {N : Nat} {es : List Ed} {b : List Bool} {ag : Bool} (h : DvO N es b ag) : DvI N es b b 0 false := ⟨h.len, h.sup, fun _ => ⟨rfl, fun k hk => absurd hk (Nat.not_lt_zero k)⟩, fun h => by cases h⟩
theorem DvI.done {N : Nat} {es : List Ed} {b0 b : List Bool} {ag : Bool} (h : DvI N es b0 b N ag) : DvO N es b ag := ⟨h.len, h.sup, fun e k hk hb => by
 obtain ⟨e1, e2⟩ := h.same e
 rw [e1] at hb ⊢
 exact e2 k hk hb⟩
theorem DvI.keep {N : Nat} {es : List Ed} {b0 b : List Bool} {j : Nat} {ag : Bool} (h : DvI N es b0 b j ag) (hj : inS b j = true → ∃ t, tauE es j t ∧ inS b t = true) : DvI N es b0 b (j + 1) ag := ⟨h.len, h.sup, fun e => by
 obtain ⟨e1, e2⟩ := h.same e
 refine ⟨e1, fun k hk hb => ?_⟩
 by_cases c : k < j
 ·exact e2 k c hb
 ·obtain rfl : k = j := by omega
  rw [e1] at hj
  exact hj hb, h.drop⟩
theorem DvI.off {N : Nat} {es : List Ed} {b0 b : List Bool} {j : Nat} {ag : Bool} (h : DvI N es b0 b j ag) (he : EdIn N es) (hj : j < N) (hb : inS b j = true) (hn : ¬ ∃ t, tauE es j t ∧ inS b t = true) : DvI N es b0 (b.set j false) (j + 1) true := by
 have hl : j < b.length := by rw [h.len]; exact hj
 refine ⟨by rw [List.length_set]; exact h.len, fun k hk hd => ?_, fun e => (by cases e), fun _ => ?_⟩
 ·rw [inS_set hl]
  split
  ·rename_i e
   subst e
   obtain ⟨t, h1, h2⟩ := hd.next
   exact absurd ⟨t, h1, h.sup t (nE_in he h1).2 h2⟩ hn
  ·exact h.sup k hk hd
 ·have h1 := numBR_off hl hb
  cases hag : ag with
  | true => have := h.drop hag; omega
  | false => rw [← (h.same hag).1]; omega
theorem DvO.last {N : Nat} {es : List Ed} {b : List Bool} (h : DvO N es b false) (he : EdIn N es) : b = dvgL es N := by
 have hD : ∀ k, k < N → (inS b k = true ↔ Dvg (tauE es) k) := fun k hk => ⟨fun hb => ⟨fun k => k < N ∧ inS b k = true, ⟨hk, hb⟩, fun k hk => by
  obtain ⟨t, h1, h2⟩ := h.cls rfl k hk.1 hk.2
  exact ⟨t, h1, (nE_in he h1).2, h2⟩⟩, h.sup k hk⟩
 refine List.ext_getElem (by rw [h.len]; simp [dvgL, setOf]) fun i h1 h2 => ?_
 have hi : i < N := by rw [← h.len]; exact h1
 have e1 : inS b i = b[i] := by unfold inS; rw [List.getElem?_eq_getElem h1]; rfl
 have e2 : inS (dvgL es N) i = (dvgL es N)[i] := by unfold inS; rw [List.getElem?_eq_getElem h2]; rfl
 rw [← e1, ← e2]
 have := (hD i hi).trans (inS_dvgL hi).symm
 cases h3 : inS b i <;> cases h4 : inS (dvgL es N) i <;> simp [h3, h4] at this ⊢
theorem dvgL_inert {N : Nat} {es : List Ed} {p : List Int} (he : EdIn N es) {k : Nat} : Dvg (tauE (es.filter (inG p))) k ↔ Dvg (inrE es p) k := by
 have key : ∀ x y, tauE (es.filter (inG p)) x y ↔ inrE es p x y := fun x y => by
  unfold tauE nE inrE inrt pq nE
  rw [List.mem_filter, inG_true]
  simp
 exact ⟨Dvg.mono fun x y => (key x y).1, Dvg.mono fun x y => (key x y).2⟩

set_option maxRecDepth 100000 in
set_option maxHeartbeats 1600000 in
theorem div1_calls (N : Nat) (A : Option Addr) (cA : Nat) (b : List Bool) (bO : Nat) (f l t : Int) (w : World) (lo hi : Nat) (hP : SlB w lo hi A N b) (hbl : bO < w.heap.size) (hb : w.cell? ⟨bO, 0, none⟩ = some (.slice A N cA)) (ht : 0 ≤ t ∧ t < (N : Int)) :
  Calls Tryz.prog 208 #[.agg #[.int .i64 f, .int .i64 l, .int .i64 t], .pointer (some ⟨bO, 0, none⟩)] w (Says (goD b (f, l, t)) w) := by
 obtain ⟨t, rfl⟩ : ∃ k : Nat, t = (k : Int) := ⟨t.toNat, by omega⟩
 obtain ⟨gP, oP, rfl, -, -, hgP, -, ct, -⟩ := SlB.get hP (show t < N by omega)
 obtain ⟨x, hx⟩ : ∃ x, x = inS b t := ⟨_, rfl⟩
 rw [← hx] at ct
 have hval : Hid (goD b (f, l, (t : Int)) = ((l == 0) && x)) := by
  show _ = _
  unfold goD
  simp only [Int.toNat_natCast, hx]
  by_cases h1 : l = 0 <;> simp [h1]
 have hb1 : Below w.heap.size w (w.alloc (.cells #[.int .i64 f, .int .i64 l, .int .i64 (t : Int)] 84)) := (Below.refl _ _).alloc (Nat.le_refl _) _
 have k8 := heap_alloc_new w (.cells #[.int .i64 f, .int .i64 l, .int .i64 (t : Int)] 84)
 obtain ⟨w1, hw1⟩ : ∃ w1, w1 = w.alloc (.cells #[.int .i64 f, .int .i64 l, .int .i64 (t : Int)] 84) := ⟨_, rfl⟩
 rw [← hw1] at hb1 k8
 have c0 := (hb1.cell (p := ⟨bO, 0, none⟩) hbl).trans hb
 replace ct := (hb1.cell (p := ⟨gP, oP + t, none⟩) hgP).trans ct
 have e1 : w1.cell? ⟨w.heap.size, 1, none⟩ = some (.int .i64 l) := (cell_of_row _ _ 1 _ _ (0, 0) k8).trans rfl
 have e2 : w1.cell? ⟨w.heap.size, 2, none⟩ = some (.int .i64 (t : Int)) := (cell_of_row _ _ 2 _ _ (0, 0) k8).trans rfl
 have t0 : (0 : Int) ≤ (t : Int) := by omega
 have t1 : (t : Int) < (N : Int) := by omega
 replace hb1 := hide hb1
 replace hx := hide hx
 clear hP hb k8 ht
 by_cases hl : l = 0
 ·subst hl
  have g1 : ((0 : Int) == 0) = true := rfl
  go_enter Tryz.func208, Tryz.ntmps208
  go_upto_region 1 with fail
  rw [← hw1]
  replace hw1 := hide hw1
  go_wp2_with fail
  go_ret
  exact ⟨by rw [hval.out]; rfl, hb1.out⟩
 ·have g1 : (l == 0) = false := beq_eq_false_iff_ne.2 hl
  go_enter Tryz.func208, Tryz.ntmps208
  go_upto_region 1 with fail
  rw [← hw1]
  replace hw1 := hide hw1
  go_wp2_with fail
  go_ret
  exact ⟨by rw [hval.out, g1]; rfl, hb1.out⟩
structure DvW (w1 wr : World) (bO gA oA N cA : Nat) (b : List Bool) : Prop where
 row : SlB wr w1.heap.size wr.heap.size (some ⟨gA, oA, none⟩) N b
 box : wr.heap[bO]? = some (.cells #[.slice (some ⟨gA, oA, none⟩) N cA] 135 (0, 0))
 bel : Below w1.heap.size w1 wr
 ge : w1.heap.size ≤ bO
theorem DvW.below {w1 wr wx : World} {bO gA oA N cA : Nat} {b : List Bool} (h : DvW w1 wr bO gA oA N cA b) (hb : Below wr.heap.size wr wx) : DvW w1 wx bO gA oA N cA b :=
 ⟨(h.row.below hb (.inr (Nat.le_refl _))).more (Nat.le_refl _) hb.size, (hb.block _ (Array.getElem?_eq_some_iff.1 h.box).1).trans h.box, h.bel.trans (hb.mono h.bel.size), h.ge⟩
theorem DvW.put {w1 wr : World} {bO gA oA N cA : Nat} {b : List Bool} (h : DvW w1 wr bO gA oA N cA b) {k : Nat} (hk : k < N) (hne : gA ≠ bO) (x : Bool) : DvW w1 (wr.setCell ⟨gA, oA + k, none⟩ (.bool x)) bO gA oA N cA (b.set k x) := by
 obtain ⟨-, -, g1, -, -⟩ := h.row.cell' hk
 have hz : (wr.setCell ⟨gA, oA + k, none⟩ (.bool x)).heap.size = wr.heap.size := World.size_setCell _ _ _
 exact ⟨by rw [hz]; exact h.row.put hk x, (Below.heap_setCell _ _ _ _ (by show bO ≠ gA; omega)).trans h.box, h.bel.setCell g1 _, h.ge⟩
set_option maxRecDepth 100000 in
set_option maxHeartbeats 6400000 in
theorem divergent_calls (N ini : Nat) (A : Option Addr) (n c : Nat) (B : Option Addr) (m d : Nat) (es : List Ed) (w : World) (hes : SlE w 0 w.heap.size B m es) (hm : m ≤ 1000) (hN1 : 1 ≤ N) (hN2 : N ≤ 40) (he : EdIn N es) :
  Calls Tryz.prog 112 #[.agg #[.int .i64 (N : Int), .int .i64 (ini : Int), .slice A n c, .slice B m d]] w fun e w' => ∃ A' c', e = .returned (.slice A' N c') ∧ SlB w' w.heap.size w'.heap.size A' N (dvgL es N) ∧ Below w.heap.size w w' := by
 obtain ⟨w1, hw1⟩ : ∃ w1, w1 = w.alloc (ltsC N ini A n c B m d) := ⟨_, rfl⟩
 have hb1 : Below w.heap.size w w1 := by rw [hw1]; exact (Below.refl _ _).alloc (Nat.le_refl _) _
 have kT : LtsBox w1 w.heap.size (N : Int) (ini : Int) A n c B m d := by rw [hw1]; exact heap_alloc_new w _
 obtain ⟨wL, hwL⟩ : ∃ wL, wL = w1.alloc (.cells #[.bool true] 4) := ⟨_, rfl⟩
 have hbL : Below w1.heap.size w1 wL := by rw [hwL]; exact (Below.refl _ _).alloc (Nat.le_refl _) _
 have hlit : SlB wL w1.heap.size (w1.heap.size + 1) (some ⟨w1.heap.size, 0, none⟩) 1 [true] := by rw [hwL]; exact Sl.lit1 (f := fun b => [.bool b]) w1 4 true #[.bool true] rfl 1 _ (Nat.le_refl _)
 have qR := hide (repeatB_calls (some ⟨w1.heap.size, 0, none⟩) 1 true N wL _ _ hlit (by omega) (by omega))
 have b0 := kT.c0
 have hAll := hide (fun (wx : World) (hx : Below w1.heap.size w1 wx) => And.intro (kT.below hx kT.lt) ((hes.below (hb1.trans (hx.mono hb1.size)) (.inr (Nat.le_refl _)))))
 have he' := hide he
 have hzT := kT.lt
 replace hb1 := hide hb1
 replace hbL := hide hbL
 clear hes hlit he kT
 go_enter Tryz.func112, Tryz.ntmps112
 go_upto_region 1 with fail
 rw [← show w1 = w.alloc (.cells #[.int .i64 (N : Int), .int .i64 (ini : Int), .slice A n c, .slice B m d] 27) from hw1]
 have hwL' := hide hwL
 replace hw1 := hide hw1
 go_wp2_with (first | (rw [← hwL]; go_at_call 207; (with_reducible refine qR.out.mono ?_); rintro e w3 ⟨AR, rfl, hR, hbR⟩))
 obtain ⟨gA, oA, rfl, gA1, -, gA2, -⟩ := hR.at_ hN1
 have hzL := hbL.out.size
 have hz3 := hbR.size
 have hD0 : Hid (DvW w1 (w3.alloc (.cells #[.slice (some ⟨gA, oA, none⟩) N N] 135)) w3.heap.size gA oA N N (List.replicate N true)) := by
  have hba : Below w3.heap.size w3 (w3.alloc (.cells #[.slice (some ⟨gA, oA, none⟩) N N] 135)) := (Below.refl _ _).alloc (Nat.le_refl _) _
  exact ⟨(hR.below hba (.inr (Nat.le_refl _))).more hzL hba.size, heap_alloc_new w3 _, (hbL.out.trans (hbR.mono hzL)).trans (hba.mono (by omega)), by omega⟩
 obtain ⟨bO, hbO⟩ : ∃ bO, bO = w3.heap.size := ⟨_, rfl⟩
 rw [← hbO] at hD0 ⊢
 have hne : gA ≠ bO := by omega
 have hge : w1.heap.size ≤ bO := by omega
 replace hbO := hide hbO
 replace hR := hide hR
 replace hbR := hide hbR
 clear b0 qR hwL hwL'
 go_loopg [4] (N + 1) (fun G v4 wr => ∃ (b : List Bool) (ag : Bool), v4 = .bool ag ∧ Hid (DvW w1 wr bO gA oA N N b) ∧ Hid (DvO N es b ag) ∧ Hid (numBR b + (if ag = true then 1 else 0) ≤ G))
 case atStart => exact ⟨_, true, rfl, hD0.out, DvO.start N es, by show _ ≤ _; rw [if_pos rfl]; have := numBR_le (List.replicate N true); simp only [List.length_replicate] at this; omega⟩
 case round =>
  clear hD0
  obtain ⟨b, ag, rfl, hW, hO, hG⟩ := hrel
  have c0 := (cell_of_row _ _ 0 _ _ (0, 0) hW.out.box).trans (show _ = some (Value.slice (some ⟨gA, oA, none⟩) N N) from rfl)
  cases ag with
  | false =>
   have hlast := hO.out.last he'.out
   have hrow := hW.out.row
   rw [hlast] at hrow
   have hz1 := hb1.out.size
   have hF := hide (hrow.more hz1 (Nat.le_refl _))
   have hbF := hide (hb1.out.trans (hW.out.bel.mono hz1))
   clear hlast hrow
   go_wp2_with fail
   go_ret
   exact ⟨_, N, rfl, hF.out, hbF.out⟩
  | true =>
   have hg1 := hG.out
   rw [if_pos rfl] at hg1
   obtain ⟨G2, rfl⟩ : ∃ G2, gk = G2 + 1 := ⟨gk - 1, by omega⟩
   have hbeg := hide hO.out.begin
   have hW0 := hW
   obtain ⟨wo, rfl⟩ : ∃ wo : World, wo = wr := ⟨_, rfl⟩
   clear hO hG hW
   go_wp2_with fail
   go_loopw [4, 14] (fun v4 v14 wr => ∃ (j : Nat) (ag : Bool) (b2 : List Bool), j ≤ N ∧ v14 = .int .i64 (j : Nat) ∧ v4 = .bool ag ∧ Hid (DvW w1 wr bO gA oA N N b2) ∧ Hid (DvI N es b b2 j ag)) (fun _ v _ => N - (intOf v).toNat)
   case atStart => exact ⟨0, false, b, Nat.zero_le _, rfl, rfl, hW0.out, hbeg.out⟩
   case round =>
    clear hW0 hbeg c0
    obtain ⟨j, ag, b2, hj, rfl, rfl, hW, hI⟩ := hrel
    by_cases hlt : j < N
    ·have j0 : (0 : Int) ≤ (j : Int) := by omega
     have j1 : (j : Int) < (N : Int) := by omega
     obtain ⟨kT, hse⟩ := hAll.out wr hW.out.bel
     have b0 := kT.c0
     have b1 := kT.c1
     have b2' := kT.c2
     have b3 := kT.c3
     have qO := hide (out_calls (N : Int) (ini : Int) (.slice A n c) B m d (j : Int) es wr _ _ hse (by omega) ⟨_, _, _, rfl⟩)
     clear kT hse
     go_upto_region 8 with fail
     go_wp2_with fail
     refine qO.out.mono ?_
     rintro e w5 ⟨Ao, no, co, rfl, hOe, hno, hb5⟩
     have hW5 := hide (hW.out.below hb5)
     have qC := hide (containsFuncEd_calls 208 #[.pointer (some ⟨bO, 0, none⟩)] (goD b2) Ao no co (outE es (j : Int)) w5 _ _ hOe hno (fun v W => by kernel_rfl) fun x y z W hx hWb => by
      have hW6 := hW5.out.below hWb
      have hin := he'.out _ (List.mem_filter.1 hx).1
      exact div1_calls N (some ⟨gA, oA, none⟩) N b2 bO x y z W _ _ hW6.row (Array.getElem?_eq_some_iff.1 hW6.box).1 ((cell_of_row _ _ 0 _ _ (0, 0) hW6.box).trans rfl) ⟨hin.2.2.1, hin.2.2.2⟩)
     have hgo := goD_any (b := b2) (k := j) he'.out
     generalize (outE es (j : Int)).any (goD b2) = go at qC hgo
     replace hgo := hide hgo
     clear qO b0 b1 b2' b3 hOe hb5 hW
     go_wp2_with fail
     refine qC.out.mono ?_
     rintro e w6 ⟨rfl, hb6⟩
     have hW6 := hide (hW5.out.below hb6)
     have c1 := (cell_of_row _ _ 0 _ _ (0, 0) hW6.out.box).trans (show _ = some (Value.slice (some ⟨gA, oA, none⟩) N N) from rfl)
     obtain ⟨d0, f0, -, -, dlt⟩ := hW6.out.row.cell' hlt
     clear qC hb6 hW5
     by_cases hbj : inS b2 j = true
     ·rw [hbj] at d0
      cases go with
      | true =>
       have hI2 := hide (hI.out.keep fun _ => hgo.out.1 rfl)
       replace hbj := hide hbj
       go_wp2_with fail
       go_roundw
       case rel => exact ⟨j + 1, ag, b2, by omega, by go_num, rfl, hW6.out, hI2.out⟩
       case measure => simp [intOf]; omega
      | false =>
       have hI2 := hide (hI.out.off he'.out hlt hbj fun hx => by have := hgo.out.2 hx; cases this)
       have hW7 := hide (hW6.out.put hlt hne false)
       replace hbj := hide hbj
       go_wp2_with fail
       go_roundw
       case rel => exact ⟨j + 1, true, b2.set j false, by omega, by go_num, rfl, hW7.out, hI2.out⟩
       case measure => simp [intOf]; omega
     ·have hbf : inS b2 j = false := Bool.eq_false_iff.2 hbj
      rw [hbf] at d0
      have hI2 := hide (hI.out.keep fun hx => absurd hx hbj)
      replace hbj := hide hbj
      replace hbf := hide hbf
      go_wp2_with fail
      go_roundw
      case rel => exact ⟨j + 1, ag, b2, by omega, by go_num, rfl, hW6.out, hI2.out⟩
      case measure => simp [intOf]; omega
    ·obtain rfl : j = N := by omega
     have hDo := hide hI.out.done
     have hG3 : Hid (numBR b2 + (if ag = true then 1 else 0) ≤ G2) := by
      show _ ≤ _
      cases hag : ag with
      | true => rw [if_pos rfl]; have := hI.out.drop hag; omega
      | false => rw [if_neg (by decide), (hI.out.same hag).1]; omega
     have j1 : ¬ (j : Int) < (j : Int) := by omega
     go_wp2_with fail
     go_roundg G2
     case rel => exact ⟨b2, ag, rfl, hW.out, hDo.out, hG3.out⟩
     case measure => exact Nat.lt_succ_self _
end Go.Proofs.YtnhomkmfbngmgaaGreatDoor

namespace Go.Proofs.YtnhomkmfbngmgaaGreatDoor
open Go.ChangeShapes Go.WideShapes Go.ChangeAt Go.RowKit Go.Sort Go.Lib
set_option linter.unusedVariables false
set_option linter.unusedSimpArgs false

theorem arc_step {J ls : List ByteArray} {es : List Ed} (hJ : ∀ s, s ∈ ls → s ∈ J) (hl : ∀ e, e ∈ es → 0 ≤ e.2.1 ∧ e.2.1 < (ls.length : Int)) {f t : Int} {s : ByteArray} :
  (∃ l : Nat, (∃ a, a ∈ es.map (arcOf ls) ∧ (f, (l : Int), t) = arcD J a) ∧ J[l]? = some s) ↔ ∃ l : Nat, (f, (l : Int), t) ∈ es ∧ ls[l]? = some s := by
 constructor
 ·rintro ⟨l, ⟨a, ha, e⟩, hs⟩
  obtain ⟨x, hx, rfl⟩ := List.mem_map.1 ha
  have hlx := hl x hx
  unfold arcD at e
  injection e with e1 e2
  injection e2 with e2 e3
  obtain ⟨k, h1, h2⟩ := idxZ_get (hJ _ (arcOf_mem (la := ls) (e := x) hlx))
  have : k = l := by omega
  subst this
  rw [hs] at h2
  have h3 := Option.some.inj h2
  unfold arcOf at h3 e1 e3
  simp only at h3 e1 e3
  rw [List.getElem?_eq_getElem (show x.2.1.toNat < ls.length by omega), Option.getD_some] at h3
  refine ⟨x.2.1.toNat, ?_, by rw [h3]; exact List.getElem?_eq_getElem _⟩
  rw [show ((x.2.1.toNat : Nat) : Int) = x.2.1 by omega, e1, e3]
  exact hx
 ·rintro ⟨l, hx, hs⟩
  have hms := List.mem_of_getElem? hs
  obtain ⟨k, h1, h2⟩ := idxZ_get (hJ s hms)
  refine ⟨k, ⟨arcOf ls (f, (l : Int), t), List.mem_map.2 ⟨_, hx, rfl⟩, ?_⟩, h2⟩
  rw [arcOf_at hs]
  unfold arcD
  simp only
  rw [h1]
theorem uni_tE {la : List ByteArray} {ea : List Ed} {lb : List ByteArray} {eb : List Ed} {Na : Nat}
  (ha : ∀ e, e ∈ ea → (0 ≤ e.1 ∧ e.1 < (Na : Int)) ∧ (0 ≤ e.2.1 ∧ e.2.1 < (la.length : Int)) ∧ (0 ≤ e.2.2 ∧ e.2.2 < (Na : Int)))
  (hb : ∀ e, e ∈ eb → 0 ≤ e.1 ∧ (0 ≤ e.2.1 ∧ e.2.1 < (lb.length : Int)) ∧ 0 ≤ e.2.2) {x y : Nat} {s : ByteArray} :
  tE (joiF (la ++ lb)) (uniE la ea lb eb Na) x s y ↔ sumE Na (tE la ea) (tE lb eb) x s y := by
 have hJa : ∀ s, s ∈ la → s ∈ joiF (la ++ lb) := fun s hs => (joi_mem_iff _ _).2 (.inr (List.mem_append_left _ hs))
 have hJb : ∀ s, s ∈ lb → s ∈ joiF (la ++ lb) := fun s hs => (joi_mem_iff _ _).2 (.inr (List.mem_append_right _ hs))
 have ka := fun (f t : Int) (s : ByteArray) => arc_step (es := ea) (f := f) (t := t) (s := s) hJa fun e he => (ha e he).2.1
 have kb := fun (f t : Int) (s : ByteArray) => arc_step (es := eb) (f := f) (t := t) (s := s) hJb fun e he => (hb e he).2.1
 unfold tE sumE nE
 constructor
 ·rintro ⟨l, he, hs⟩
  unfold uniE at he
  obtain ⟨a, hm, e⟩ := ltsEs_mem.1 he
  unfold uniA at hm
  rcases List.mem_append.1 hm with h | h
  ·obtain ⟨l', h1, h2⟩ := (ka (x : Int) (y : Int) s).1 ⟨l, ⟨a, h, e⟩, hs⟩
   have := ha _ h1
   dsimp only at this
   exact .inl ⟨by omega, by omega, l', h1, h2⟩
  ·obtain ⟨b, hb', rfl⟩ := List.mem_map.1 h
   have hbx := hb'
   obtain ⟨z, hz, hzb⟩ := List.mem_map.1 hb'
   have hz2 := hb z hz
   have e0 := e
   unfold arcD shiftA at e
   injection e with e1 e2
   injection e2 with e2 e3
   simp only at e1 e2 e3
   have b1 : b.1 = z.1 := by rw [← hzb]; rfl
   have b2 : b.2.2 = z.2.2 := by rw [← hzb]; rfl
   obtain ⟨l', h1, h2⟩ := (kb b.1 b.2.2 s).1 ⟨l, ⟨b, hbx, by unfold arcD; rw [e2]⟩, hs⟩
   refine .inr ⟨b.1.toNat, b.2.2.toNat, by omega, by omega, l', ?_, h2⟩
   rw [show ((b.1.toNat : Nat) : Int) = b.1 by omega, show ((b.2.2.toNat : Nat) : Int) = b.2.2 by omega]
   exact h1
 ·rintro (⟨-, -, l, h1, h2⟩ | ⟨x', y', rfl, rfl, l, h1, h2⟩)
  ·obtain ⟨k, ⟨a, hm, e⟩, hs⟩ := (ka (x : Int) (y : Int) s).2 ⟨l, h1, h2⟩
   exact ⟨k, ltsEs_mem.2 ⟨a, List.mem_append_left _ hm, e⟩, hs⟩
  ·obtain ⟨k, ⟨a, hm, e⟩, hs⟩ := (kb (x' : Int) (y' : Int) s).2 ⟨l, h1, h2⟩
   refine ⟨k, ltsEs_mem.2 ⟨shiftA Na a, List.mem_append_right _ (List.mem_map.2 ⟨a, hm, rfl⟩), ?_⟩, hs⟩
   unfold arcD at e
   injection e with e1 e2
   injection e2 with e2 e3
   unfold arcD shiftA
   simp only
   rw [← e1, ← e2, ← e3]
   congr 1
   ·omega
   ·congr 1
    omega
end Go.Proofs.YtnhomkmfbngmgaaGreatDoor

namespace Go.Proofs.YtnhomkmfbngmgaaGreatDoor
open Go.ChangeShapes Go.WideShapes Go.ChangeAt Go.RowKit Go.Sort Go.Lib
set_option linter.unusedVariables false
set_option linter.unusedSimpArgs false

theorem reach_mem {N : Nat} {es : List Ed} {ini a : Int} : a ∈ reachF N es ini ↔ ∃ k : Nat, a = (k : Int) ∧ k < N ∧ ReachE es ini k := by
 unfold reachF
 rw [List.mem_map]
 constructor
 ·rintro ⟨k, hk, rfl⟩
  obtain ⟨h1, h2⟩ := List.mem_filter.1 hk
  exact ⟨k, rfl, List.mem_range.1 h1, reachB_true.1 h2⟩
 ·rintro ⟨k, rfl, h1, h2⟩
  exact ⟨k, List.mem_filter.2 ⟨List.mem_range.2 h1, reachB_true.2 h2⟩, rfl⟩
theorem reach_ini {N ini : Nat} {es : List Ed} (h : ini < N) : (ini : Int) ∈ reachF N es (ini : Int) :=
 reach_mem.2 ⟨ini, rfl, h, 0, by simp [lay, srcE]⟩
theorem reach_closed {N : Nat} {es : List Ed} {ini : Int} (he : EdIn N es) (a l b : Int) (ha : a ∈ reachF N es ini) (h : (a, l, b) ∈ es) : b ∈ reachF N es ini := by
 obtain ⟨k, rfl, h1, h2⟩ := reach_mem.1 ha
 have h3 := he _ h
 dsimp only at h3
 obtain ⟨j, rfl⟩ : ∃ j : Nat, b = (j : Int) := ⟨b.toNat, by omega⟩
 exact reach_mem.2 ⟨j, rfl, by omega, h2.step ⟨_, h, by simp⟩⟩
theorem part_in {N : Nat} {es : List Ed} {S : List Int} (he : EdIn N es) (hn : S.Nodup) : EdIn S.length (partF S es) := by
 rintro ⟨f, l, t⟩ hm
 obtain ⟨i, j, a, b, rfl, rfl, hi, hj, hx⟩ := (partF_part hn f l t).1 hm
 have h1 := (List.getElem?_eq_some_iff.1 hi).1
 have h2 := (List.getElem?_eq_some_iff.1 hj).1
 have h3 := he _ hx
 dsimp only at h3 ⊢
 omega
end Go.Proofs.YtnhomkmfbngmgaaGreatDoor

namespace Go.Proofs.YtnhomkmfbngmgaaGreatDoor
open Go.ChangeShapes Go.WideShapes Go.ChangeAt Go.RowKit Go.Sort Go.Lib
set_option linter.unusedVariables false
set_option linter.unusedSimpArgs false

theorem joi_nodup (l : List ByteArray) : (joiF l).Nodup := by
 unfold joiF
 refine List.Pairwise.map ofL (fun a b h e => ?_) (compact_rise (sortL_rise _))
 have : a = b := by rw [← toL_ofL a, ← toL_ofL b, e]
 rw [this, ltL_irr] at h
 cases h
theorem uni_lab {la : List ByteArray} {ea : List Ed} {lb : List ByteArray} {eb : List Ed} {Na : Nat}
  (ha : ∀ e, e ∈ ea → 0 ≤ e.2.1 ∧ e.2.1 < (la.length : Int)) (hb : ∀ e, e ∈ eb → 0 ≤ e.2.1 ∧ e.2.1 < (lb.length : Int)) :
  ∀ e, e ∈ uniE la ea lb eb Na → 0 ≤ e.2.1 ∧ e.2.1 < ((joiF (la ++ lb)).length : Int) := by
 intro e he
 obtain ⟨a, hm, rfl⟩ := ltsEs_mem.1 he
 have lab : ∀ s, s ∈ la ++ lb → 0 ≤ idxZ (joiF (la ++ lb)) s ∧ idxZ (joiF (la ++ lb)) s < ((joiF (la ++ lb)).length : Int) := fun s hs => by
  obtain ⟨k, h1, h2⟩ := idxZ_get ((joi_mem_iff (la ++ lb) s).2 (.inr hs))
  have := (List.getElem?_eq_some_iff.1 h2).1
  omega
 unfold uniA at hm
 rcases List.mem_append.1 hm with h | h
 ·obtain ⟨x, hx, rfl⟩ := List.mem_map.1 h
  exact lab _ (List.mem_append_left lb (arcOf_mem (ha x hx)))
 ·obtain ⟨y, hy, rfl⟩ := List.mem_map.1 h
  obtain ⟨x, hx, rfl⟩ := List.mem_map.1 hy
  exact lab _ (List.mem_append_right la (arcOf_mem (hb x hx)))
end Go.Proofs.YtnhomkmfbngmgaaGreatDoor

namespace Go.Proofs.YtnhomkmfbngmgaaGreatDoor
open Go.ChangeShapes Go.WideShapes Go.ChangeAt Go.RowKit Go.Sort Go.Lib
set_option linter.unusedVariables false
set_option linter.unusedSimpArgs false

set_option maxRecDepth 100000 in
set_option maxHeartbeats 1600000 in
theorem r8Has_calls (v : Int) (A : Option Addr) (n c : Nat) (l : List Int) (w : World) (lo hi : Nat) (h : SlI w lo hi A n l) (hn : n ≤ 1048576) :
  Calls Tryz.prog 47 #[.slice A n c, .int .i64 v] w fun e w' => e = .returned (.bool (decide (v ∈ l))) ∧ w' = w := by
 have hlen := hide h.len
 go_enter Tryz.func47, Tryz.ntmps47
 go_wp2_with fail
 go_loopw [5] (fun i wr => ∃ k : Nat, k ≤ n ∧ i = .int .i64 (k : Nat) ∧ Hid (v ∉ l.take k) ∧ wr = w) (fun i _ => n - (intOf i).toNat)
 case atStart => exact ⟨0, Nat.zero_le _, rfl, (by show ¬ _; rw [List.take_zero]; exact List.not_mem_nil), rfl⟩
 case round =>
  obtain ⟨k, hk, rfl, ha, rfl⟩ := hrel
  by_cases hlt : k < n
  ·obtain ⟨b, off, x, rfl, g1, g2, g3, hx, c0, -⟩ := SlI.get h hlt
   have k0 : (0 : Int) ≤ (k : Int) := by omega
   have k1 : (k : Int) < (n : Int) := by omega
   clear h
   by_cases hq : x = v
   ·subst hq
    have hm : Hid (decide (x ∈ l) = true) := decide_eq_true (List.mem_of_getElem? hx)
    have hself : (x == x) = true := by simp
    replace hx := hide hx
    go_wp2_with fail
    go_ret
    exact ⟨ret_b hm.out, rfl⟩
   ·have hy : Hid (v ∉ l.take (k + 1)) := by
     show ¬ _
     rw [List.take_add_one, hx, List.mem_append]
     rintro (h1 | h1)
     ·exact ha.out h1
     ·exact hq (List.mem_singleton.1 h1).symm
    have hne : (x == v) = false := by rw [beq_eq_false_iff_ne]; exact hq
    replace hx := hide hx
    clear hq
    go_wp2_with fail
    go_roundw
    case rel => exact ⟨k + 1, by omega, by go_num, hy.out, trivial⟩
    case measure => simp [intOf]; omega
  ·obtain rfl : k = n := by omega
   have hm := ha.out
   rw [List.take_of_length_le (by rw [hlen.out]; exact Nat.le_refl _)] at hm
   have hm2 : Hid (decide (v ∈ l) = false) := decide_eq_false hm
   clear h hm
   go_wp2_with fail
   go_ret
   exact ⟨ret_b hm2.out, rfl⟩
theorem firsts_step {l : List Int} {k : Nat} {x : Int} (hx : l[k]? = some x) : firsts [] (l.take (k + 1)) = if x ∈ l.take k then firsts [] (l.take k) else firsts [] (l.take k) ++ [x] := by
 rw [List.take_add_one, hx, firsts_two]
 show firsts (firsts [] (l.take k)) [x] = _
 rw [firsts_one]
 have : x ∈ firsts [] (l.take k) ↔ x ∈ l.take k := by rw [firsts_mem]; simp
 by_cases c : x ∈ l.take k
 ·rw [if_pos c, if_pos (this.2 c)]
 ·rw [if_neg c, if_neg (fun h => c (this.1 h))]
set_option maxRecDepth 100000 in
set_option maxHeartbeats 3200000 in
theorem r8Blocks_calls (A : Option Addr) (n c : Nat) (l : List Int) (w : World) (lo hi : Nat) (h : SlI w lo hi A n l) (hnc : n ≤ c) (hn : n ≤ 1000) :
  Calls Tryz.prog 33 #[.slice A n c] w fun e w' => e = .returned (.int .i64 (numB l : Int)) ∧ Below w.heap.size w w' := by
 have hlen := hide h.len
 have hEi := hide elem_int
 go_enter Tryz.func33, Tryz.ntmps33
 go_wp2_with fail
 go_loopw [3, 4] (fun v3 v4 wr => ∃ k z : Nat, k ≤ n ∧ v4 = .int .i64 (k : Nat) ∧ v3 = .int .i64 (z : Nat) ∧ Hid (z = (firsts [] (l.take k)).length) ∧ z ≤ k ∧ Hid (Below w.heap.size w wr)) (fun _ i _ => n - (intOf i).toNat)
 case atStart => exact ⟨0, 0, Nat.zero_le _, rfl, rfl, rfl, Nat.le_refl _, Below.refl _ _⟩
 case round =>
  obtain ⟨k, z, hk, rfl, rfl, hz, hzk, hb⟩ := hrel
  by_cases hlt : k < n
  ·obtain ⟨wD, hwD⟩ : ∃ wD, wD = wr.drew := ⟨_, rfl⟩
   have hbD := hide (hb.out.trans ((show Below wr.heap.size wr wD by rw [hwD]; exact (Below.refl _ _).drew).mono hb.out.size))
   have hS := h.below hbD.out (.inr (Nat.le_refl _))
   obtain ⟨b, off, x, rfl, -, -, -, hx, c0, -⟩ := SlI.get hS hlt
   have hq := hide (r8Has_calls x (some ⟨b, off, none⟩) k c (l.take k) wD _ _ (hS.take hk) (by omega))
   have hcut := fun W => run_head hEi.out (some ⟨b, off, none⟩) n c k (by omega) W
   have hst := hide (firsts_step hx)
   have k0 : (0 : Int) ≤ (k : Int) := by omega
   have k1 : (k : Int) < (n : Int) := by omega
   have k2 : (k : Int) ≤ (c : Int) := by omega
   replace hwD := hide hwD
   replace hx := hide hx
   clear hS h
   go_upto_region 5 with fail
   by_cases hm : x ∈ l.take k
   ·have hz2 : Hid (z = (firsts [] (l.take (k + 1))).length) := by show _ = _; rw [hst.out, if_pos hm]; exact hz.out
    have hq2 := hq.out
    rw [show decide (x ∈ l.take k) = true from decide_eq_true hm] at hq2
    replace hq := hide hq2
    clear hq2
    replace hm := hide hm
    refine lateT_begin (S := fun w' => w'.cell? ⟨b, off + k, none⟩ = some (.int .i64 x)) (st := 8) (by kernel_rfl) ?_
    rw [← show wD = _ from hwD.out]
    have hS0 : (fun w' : World => w'.cell? ⟨b, off + k, none⟩ = some (.int .i64 x)) wD := c0
    refine tkA ?_ 0 [2,7,8] rfl (Or.inl ⟨by rfl, ?hy⟩) hS0 ?_
    case hy => intro w hSw; (try dsimp only at hSw); go_simp <;> with_reducible rfl
    (try simp only [Act.put, sA, sB, sC])
    refine tkA ?_ 1 [2,7,8] rfl (Or.inl ⟨by rfl, ?hy⟩) hS0 ?_
    case hy => intro w hSw; (try dsimp only at hSw); go_simp <;> with_reducible rfl
    (try simp only [Act.put, sA, sB, sC])
    refine tkA ?_ 2 [7,8] rfl (Or.inl ⟨by rfl, ?hy⟩) hS0 ?_
    case hy => intro w hSw; (try dsimp only at hSw); go_simp <;> with_reducible rfl
    (try simp only [Act.put, sA, sB, sC])
    refine tkA ?_ 3 [5,6,7,8] rfl (Or.inl ⟨by rfl, ?hy⟩) hS0 ?_
    case hy => intro w hSw; (try dsimp only at hSw); go_simp <;> with_reducible rfl
    (try simp only [Act.put, sA, sB, sC])
    refine tkA ?_ 4 [5,6,7,8] rfl (Or.inl ⟨by rfl, ?hy⟩) hS0 ?_
    case hy => intro w hSw; (try dsimp only at hSw); go_simp <;> with_reducible rfl
    (try simp only [Act.put, sA, sB, sC])
    refine tkA ?_ 5 [6,7,8] rfl (Or.inl ⟨by rfl, ?hy⟩) hS0 ?_
    case hy => intro w hSw; (try dsimp only at hSw); go_simp <;> with_reducible rfl
    (try simp only [Act.put, sA, sB, sC])
    refine tkA ?_ 6 [7,8] rfl (Or.inl ⟨by rfl, ?hy⟩) hS0 ?_
    case hy => intro w hSw; (try dsimp only at hSw); go_simp <;> with_reducible rfl
    (try simp only [Act.put, sA, sB, sC])
    refine lateT_step (i := 7) (by kernel_rfl) rfl (fun K hK => ?_)
    go_simp
    go_at_call 47
    (with_reducible refine hq.out.mono ?_)
    rintro e w6 ⟨rfl, e6⟩
    rw [e6]
    clear e6 w6
    (try go_wp2_with fail)
    refine hK.out _ _ (fun _ => c0) ?_
    clear hK K
    (try simp only [Act.put, sA, sB, sC])
    refine lateT_step (i := 8) (by kernel_rfl) rfl (fun K hK => ?_)
    go_simp
    refine hK.out _ _ (fun h => absurd rfl h) ?_
    clear hK K
    (try simp only [Act.put, sA, sB, sC])
    refine lateT_done (by kernel_rfl) ?_ _
    clear hq hst hcut
    go_wp2_with fail
    go_roundw
    case rel => exact ⟨k + 1, z, by omega, by go_num, rfl, hz2.out, by omega, hbD.out⟩
    case measure => simp [intOf]; omega
   ·have hz2 : Hid (z + 1 = (firsts [] (l.take (k + 1))).length) := by show _ = _; rw [hst.out, if_neg hm, List.length_append, ← hz.out]; rfl
    have hq2 := hq.out
    rw [show decide (x ∈ l.take k) = false from decide_eq_false hm] at hq2
    replace hq := hide hq2
    clear hq2
    replace hm := hide hm
    refine lateT_begin (S := fun w' => w'.cell? ⟨b, off + k, none⟩ = some (.int .i64 x)) (st := 8) (by kernel_rfl) ?_
    rw [← show wD = _ from hwD.out]
    have hS0 : (fun w' : World => w'.cell? ⟨b, off + k, none⟩ = some (.int .i64 x)) wD := c0
    refine tkA ?_ 0 [2,7,8] rfl (Or.inl ⟨by rfl, ?hy⟩) hS0 ?_
    case hy => intro w hSw; (try dsimp only at hSw); go_simp <;> with_reducible rfl
    (try simp only [Act.put, sA, sB, sC])
    refine tkA ?_ 1 [2,7,8] rfl (Or.inl ⟨by rfl, ?hy⟩) hS0 ?_
    case hy => intro w hSw; (try dsimp only at hSw); go_simp <;> with_reducible rfl
    (try simp only [Act.put, sA, sB, sC])
    refine tkA ?_ 2 [7,8] rfl (Or.inl ⟨by rfl, ?hy⟩) hS0 ?_
    case hy => intro w hSw; (try dsimp only at hSw); go_simp <;> with_reducible rfl
    (try simp only [Act.put, sA, sB, sC])
    refine tkA ?_ 3 [5,6,7,8] rfl (Or.inl ⟨by rfl, ?hy⟩) hS0 ?_
    case hy => intro w hSw; (try dsimp only at hSw); go_simp <;> with_reducible rfl
    (try simp only [Act.put, sA, sB, sC])
    refine tkA ?_ 4 [5,6,7,8] rfl (Or.inl ⟨by rfl, ?hy⟩) hS0 ?_
    case hy => intro w hSw; (try dsimp only at hSw); go_simp <;> with_reducible rfl
    (try simp only [Act.put, sA, sB, sC])
    refine tkA ?_ 5 [6,7,8] rfl (Or.inl ⟨by rfl, ?hy⟩) hS0 ?_
    case hy => intro w hSw; (try dsimp only at hSw); go_simp <;> with_reducible rfl
    (try simp only [Act.put, sA, sB, sC])
    refine tkA ?_ 6 [7,8] rfl (Or.inl ⟨by rfl, ?hy⟩) hS0 ?_
    case hy => intro w hSw; (try dsimp only at hSw); go_simp <;> with_reducible rfl
    (try simp only [Act.put, sA, sB, sC])
    refine lateT_step (i := 7) (by kernel_rfl) rfl (fun K hK => ?_)
    go_simp
    go_at_call 47
    (with_reducible refine hq.out.mono ?_)
    rintro e w6 ⟨rfl, e6⟩
    rw [e6]
    clear e6 w6
    (try go_wp2_with fail)
    refine hK.out _ _ (fun _ => c0) ?_
    clear hK K
    (try simp only [Act.put, sA, sB, sC])
    refine lateT_step (i := 8) (by kernel_rfl) rfl (fun K hK => ?_)
    go_simp
    refine hK.out _ _ (fun h => absurd rfl h) ?_
    clear hK K
    (try simp only [Act.put, sA, sB, sC])
    refine lateT_done (by kernel_rfl) ?_ _
    clear hq hst hcut
    go_wp2_with fail
    go_roundw
    case rel => exact ⟨k + 1, z + 1, by omega, by go_num, by go_num, hz2.out, by omega, hbD.out⟩
    case measure => simp [intOf]; omega
  ·obtain rfl : k = n := by omega
   have hF := hz.out
   rw [List.take_of_length_le (by rw [hlen.out]; exact Nat.le_refl _)] at hF
   have hF2 : Hid (numB l = z) := hF.symm
   clear hF hz
   go_wp2_with fail
   go_ret
   exact ⟨ret_i (by rw [hF2.out]), hb.out⟩
end Go.Proofs.YtnhomkmfbngmgaaGreatDoor

namespace Go.Proofs.YtnhomkmfbngmgaaGreatDoor
set_option linter.unusedVariables false
set_option linter.unusedSimpArgs false

theorem asc_one : ∀ {A B : List Int}, A.Pairwise (· < ·) → B.Pairwise (· < ·) → (∀ x, x ∈ A ↔ x ∈ B) → A = B
 | [], [], _, _, _ => rfl
 | [], b :: B, _, _, h => absurd ((h b).2 (List.mem_cons_self ..)) (List.not_mem_nil)
 | a :: A, [], _, _, h => absurd ((h a).1 (List.mem_cons_self ..)) (List.not_mem_nil)
 | a :: A, b :: B, hA, hB, h => by
  obtain ⟨ha, hA'⟩ := List.pairwise_cons.1 hA
  obtain ⟨hb, hB'⟩ := List.pairwise_cons.1 hB
  have e : a = b := by
   rcases List.mem_cons.1 ((h a).1 (List.mem_cons_self ..)) with e | h1
   ·exact e
   ·rcases List.mem_cons.1 ((h b).2 (List.mem_cons_self ..)) with e | h2
    ·exact e.symm
    ·have := hb a h1
     have := ha b h2
     omega
  subst e
  congr 1
  refine asc_one hA' hB' fun x => ?_
  constructor
  ·intro hx
   rcases List.mem_cons.1 ((h x).1 (List.mem_cons_of_mem _ hx)) with rfl | g
   ·have := ha _ hx; omega
   ·exact g
  ·intro hx
   rcases List.mem_cons.1 ((h x).2 (List.mem_cons_of_mem _ hx)) with rfl | g
   ·have := hb _ hx; omega
   ·exact g

end Go.Proofs.YtnhomkmfbngmgaaGreatDoor

namespace Go.Proofs.YtnhomkmfbngmgaaGreatDoor
set_option linter.unusedVariables false
set_option linter.unusedSimpArgs false

def putI (l : List Int) (n : Int) : List Int := (l.filter fun x => decide (x < n)) ++ n :: l.filter fun x => decide (n < x)
theorem putI_mem {l : List Int} {n x : Int} : x ∈ putI l n ↔ x ∈ l ∨ x = n := by
 unfold putI
 rw [List.mem_append, List.mem_cons, List.mem_filter, List.mem_filter, decide_eq_true_eq, decide_eq_true_eq]
 constructor
 ·rintro (h | h | h)
  ·exact .inl h.1
  ·exact .inr h
  ·exact .inl h.1
 ·rintro (h | h)
  ·by_cases h1 : x < n
   ·exact .inl ⟨h, h1⟩
   ·by_cases h2 : n < x
    ·exact .inr (.inr ⟨h, h2⟩)
    ·exact .inr (.inl (by omega))
  ·exact .inr (.inl h)
theorem putI_asc {l : List Int} {n : Int} (h : l.Pairwise (· < ·)) : (putI l n).Pairwise (· < ·) := by
 refine List.pairwise_append.2 ⟨h.filter _, List.pairwise_cons.2 ⟨fun x hx => of_decide_eq_true (List.mem_filter.1 hx).2, h.filter _⟩, ?_⟩
 intro a ha b hb
 have h1 := of_decide_eq_true (List.mem_filter.1 ha).2
 rcases List.mem_cons.1 hb with rfl | hb
 ·exact h1
 ·have := of_decide_eq_true (List.mem_filter.1 hb).2
  omega
theorem putI_of {l k : List Int} {n : Int} (h : l.Pairwise (· < ·)) (hk : k.Pairwise (· < ·)) (hm : ∀ x, x ∈ k ↔ x ∈ l ∨ x = n) : putI l n = k :=
 asc_one (putI_asc h) hk fun x => by rw [putI_mem, hm]
def doneI (l : List Int) (n : Int) (i : Nat) : Bool := (l.take i).any fun x => decide (n ≤ x)
def outI (l : List Int) (n : Int) (i : Nat) : List Int := if doneI l n i then putI (l.take i) n else l.take i
section
variable {l : List Int} {n x : Int} {i : Nat}
theorem doneI_succ (hx : l[i]? = some x) : doneI l n (i + 1) = (doneI l n i || decide (n ≤ x)) := by
 unfold doneI
 rw [List.take_add_one, hx, List.any_append]
 simp
theorem asc_snoc (h : l.Pairwise (· < ·)) (hx : l[i]? = some x) : ∀ y, y ∈ l.take i → y < x := by
 intro y hy
 obtain ⟨hi, e⟩ := List.getElem?_eq_some_iff.1 hx
 obtain ⟨j, hj, rfl⟩ := List.getElem_of_mem hy
 rw [List.length_take] at hj
 rw [List.getElem_take]
 have := List.pairwise_iff_getElem.1 h j i (by omega) hi (by omega)
 omega
theorem asc_take (h : l.Pairwise (· < ·)) (k : Nat) : (l.take k).Pairwise (· < ·) := h.sublist (List.take_sublist _ _)
theorem asc_app {k : List Int} (h : k.Pairwise (· < ·)) (hy : ∀ y, y ∈ k → y < x) : (k ++ [x]).Pairwise (· < ·) :=
 List.pairwise_append.2 ⟨h, by simp, fun a ha b hb => by rw [List.mem_singleton.1 hb]; exact hy a ha⟩
theorem outI_succ (h : l.Pairwise (· < ·)) (hx : l[i]? = some x) :
  outI l n (i + 1) = (if doneI l n i = false ∧ n ≤ x ∧ n < x then outI l n i ++ [n] else outI l n i) ++ [x] := by
 have ht : l.take (i + 1) = l.take i ++ [x] := by rw [List.take_add_one, hx]; rfl
 have hlt := asc_snoc h hx
 have hta := asc_take h i
 unfold outI
 rw [doneI_succ hx]
 cases hd : doneI l n i with
 | true =>
  rw [Bool.true_or, if_pos rfl, if_neg (by simp), if_pos rfl]
  obtain ⟨y, hy, hyn⟩ := List.any_eq_true.1 hd
  have hyn := of_decide_eq_true hyn
  have hyx := hlt y hy
  refine putI_of (asc_take h (i + 1)) (asc_app (putI_asc hta) fun z hz => ?_) fun z => ?_
  ·rcases putI_mem.1 hz with hz | rfl
   ·exact hlt z hz
   ·omega
  ·rw [ht]
   simp only [List.mem_append, List.mem_singleton, putI_mem]
   constructor
   ·rintro ((a | a) | a)
    ·exact .inl (.inl a)
    ·exact .inr a
    ·exact .inl (.inr a)
   ·rintro ((a | a) | a)
    ·exact .inl (.inl a)
    ·exact .inr a
    ·exact .inl (.inr a)
 | false =>
  rw [Bool.false_or, if_neg Bool.false_ne_true]
  have hall : ∀ y, y ∈ l.take i → y < n := fun y hy => by
   have := List.any_eq_false.1 hd y hy
   rw [decide_eq_true_eq] at this
   omega
  by_cases hn : n ≤ x
  ·rw [decide_eq_true hn, if_pos rfl]
   by_cases hnx : n < x
   ·rw [if_pos ⟨rfl, hn, hnx⟩]
    refine putI_of (asc_take h (i + 1)) (asc_app (asc_app hta hall) fun z hz => ?_) fun z => ?_
    ·rcases List.mem_append.1 hz with hz | hz
     ·exact hlt z hz
     ·rw [List.mem_singleton.1 hz]; exact hnx
    ·rw [ht]
     simp only [List.mem_append, List.mem_singleton]
     constructor
     ·rintro ((a | a) | a)
      ·exact .inl (.inl a)
      ·exact .inr a
      ·exact .inl (.inr a)
     ·rintro ((a | a) | a)
      ·exact .inl (.inl a)
      ·exact .inr a
      ·exact .inl (.inr a)
   ·rw [if_neg (by omega)]
    obtain rfl : n = x := by omega
    refine putI_of (asc_take h (i + 1)) (asc_app hta hlt) fun z => ?_
    rw [ht]
    simp only [List.mem_append, List.mem_singleton, or_assoc, or_self]
  ·rw [decide_eq_false hn, if_neg Bool.false_ne_true, if_neg (by omega), ht]
theorem outI_end (h : l.Pairwise (· < ·)) : (if doneI l n l.length then outI l n l.length else outI l n l.length ++ [n]) = putI l n := by
 unfold outI
 rw [List.take_length]
 cases hd : doneI l n l.length with
 | true => rfl
 | false =>
  rw [if_neg Bool.false_ne_true, if_neg Bool.false_ne_true]
  symm
  refine putI_of h (asc_app h fun y hy => ?_) fun z => by simp
  unfold doneI at hd
  rw [List.take_length] at hd
  have := List.any_eq_false.1 hd y hy
  rw [decide_eq_true_eq] at this
  omega
end
end Go.Proofs.YtnhomkmfbngmgaaGreatDoor

namespace Go.Proofs.YtnhomkmfbngmgaaGreatDoor
open Go.ChangeShapes Go.WideShapes Go.ChangeAt Go.RowKit
set_option linter.unusedVariables false
set_option linter.unusedSimpArgs false

set_option maxRecDepth 100000 in
set_option maxHeartbeats 1600000 in
theorem l00Put_calls (A : Option Addr) (n c : Nat) (l : List Int) (x : Int) (w : World) (lo hi : Nat) (h : SlI w lo hi A n l) (hasc : l.Pairwise (· < ·)) (hn : n ≤ 1048000) :
  Calls Tryz.prog 256 #[.slice A n c, .int .i64 x] w fun e w' => ∃ A' n' c', e = .returned (.slice A' n' c') ∧ Own 1 iv w' w.heap.size 2 A' n' c' (putI l x) ∧ n' ≤ n + 1 ∧ Below w.heap.size w w' := by
 have hE := hide elem_int64
 have hlen := h.len
 replace h := hide h.top
 replace hasc := hide hasc
 go_enter Tryz.func256, Tryz.ntmps256
 go_wp2_with fail
 go_loopw [5, 6, 7] (fun v dn i wr => ∃ (k m : Nat) (Ao : Option Addr) (co : Nat), k ≤ n ∧ m ≤ k + 1 ∧ i = .int .i64 (k : Nat) ∧ v = .slice Ao m co ∧ dn = .bool (doneI l x k) ∧ Hid (Own 1 iv wr w.heap.size 2 Ao m co (outI l x k)) ∧ Below w.heap.size w wr) (fun _ _ i _ => n - (intOf i).toNat)
 case atStart => exact ⟨0, 0, _, 0, Nat.zero_le _, Nat.zero_le _, rfl, rfl, rfl, Own.made _ _ (Nat.le_refl _), (Below.refl _ _).alloc (Nat.le_refl _) _⟩
 case round =>
  obtain ⟨k, m, Ao, co, hk, hm, rfl, rfl, rfl, hown, hb⟩ := hrel
  by_cases hlt : k < n
  ·have hz := hb.size
   have hza : ∀ o, w.heap.size ≤ (wr.alloc o).heap.size := fun o => by rw [World.size_alloc]; omega
   obtain ⟨b, off, y, rfl, g1, g2, g3, hy, c0, -⟩ := SlI.get h.out hlt
   replace c0 := (hb.cell (p := ⟨b, off + k, none⟩) g3).trans c0
   have hd := doneI_succ (n := x) hy
   have ho := outI_succ (n := x) hasc.out hy
   have k0 : (0 : Int) ≤ (k : Int) := by omega
   have k1 : (k : Int) < (n : Int) := by omega
   replace hy := hide hy
   replace hb := hide hb
   by_cases one : doneI l x k = false ∧ x < y
   ·obtain ⟨d0, hxy⟩ := one
    have hm2 : m ≤ k := by
     have h1 := hown.out.len
     have h2 : outI l x k = l.take k := by unfold outI; rw [d0]; rfl
     rw [h2, List.length_take] at h1
     omega
    have e1 : Hid (outI l x (k + 1) = outI l x k ++ [x] ++ [y]) := by show _ = _; rw [ho, if_pos ⟨d0, by omega, hxy⟩]
    have e2 : Hid (doneI l x (k + 1) = true) := by show _ = _; rw [hd, d0, decide_eq_true (show x ≤ y by omega)]; rfl
    have hge : decide (y ≥ x) = true := decide_eq_true (by omega)
    have hge2 : y ≥ x := by omega
    have hgt : y > x := hxy
    rw [d0]
    clear hd ho d0
    have c0a : ∀ o, (wr.alloc o).cell? ⟨b, off + k, none⟩ = some (.int .i64 y) := fun o => (((Below.refl wr.heap.size wr).alloc (Nat.le_refl _) o).cell (p := ⟨b, off + k, none⟩) (by show b < wr.heap.size; omega)).trans c0
    have e4 := hide (show ∀ o, Below w.heap.size w (wr.alloc o) from fun o => hb.out.alloc hz o)
    go_wp2_with (first
     | (at_builtin; (with_reducible refine wpList_app rfl (.tmp 31) (.tmp 33) rfl hE.out flat_iv rfl (hown.out.alloc _) rfl (Sl.lit1' wr 2 x _ rfl 1 _ ?c0) ?c1 (hza _) ?_); rotate_right; intro A5 c5 w5 hown5 hgr5 hb5 _; have c5' := (hb5.cell (p := ⟨b, off + k, none⟩) g3).trans (c0a _); have hz5 := hb5.size; have hza5 : ∀ o, w.heap.size ≤ (w5.alloc o).heap.size := fun o => (by rw [World.size_alloc]; rw [World.size_alloc] at hz5; omega); have hz5' := Nat.le_trans (hza _) hz5; replace hown5 := hide hown5; replace hb5 := hide hb5; clear hgr5)
     | (at_builtin; (with_reducible refine wpList_app rfl (.tmp 35) (.tmp 40) rfl hE.out flat_iv rfl (hown5.out.alloc _) rfl (Sl.lit1' w5 2 y _ rfl 1 _ ?d0) ?d1 (hza5 _) ?_); rotate_right; intro A6 c6 w6 hown6 hgr6 hb6 _))
    case d0 => rfl
    case d1 => omega
    case c0 => rfl
    case c1 => omega
    have hb7 := hide ((e4.out _).trans (hb5.out.trans ((Below.refl _ _).alloc hz5' _ |>.trans hb6)))
    rw [← e1.out] at hown6
    go_roundw
    case rel => exact ⟨k + 1, m + 1 + 1, A6, c6, by omega, by omega, by go_num, rfl, by rw [e2.out], hown6, hb7.out⟩
    case measure => simp [intOf]; omega
   ·have e1 : Hid (outI l x (k + 1) = outI l x k ++ [y]) := by show _ = _; rw [ho, if_neg (fun c => one ⟨c.1, c.2.2⟩)]
    replace hd := hide hd
    clear ho
    have e4 := hide (show ∀ o, Below w.heap.size w (wr.alloc o) from fun o => hb.out.alloc hz o)
    cases d0 : doneI l x k with
    | true =>
     have e2 : Hid (doneI l x (k + 1) = true) := by show _ = _; rw [hd.out, d0]; rfl
     clear hd d0 one
     go_wp2_with (first
      | (at_builtin; (with_reducible refine wpList_app rfl (.tmp 35) (.tmp 40) rfl hE.out flat_iv rfl (hown.out.alloc _) rfl (Sl.lit1' wr 2 y _ rfl 1 _ ?d0) ?d1 (hza _) ?_); rotate_right; intro A6 c6 w6 hown6 hgr6 hb6 _))
     case d0 => rfl
     case d1 => omega
     have hb7 := hide ((e4.out _).trans hb6)
     rw [← e1.out] at hown6
     go_roundw
     case rel => exact ⟨k + 1, m + 1, A6, c6, by omega, by omega, by go_num, rfl, by rw [e2.out], hown6, hb7.out⟩
     case measure => simp [intOf]; omega
    | false =>
     by_cases hxy : x ≤ y
     ·have e2 : Hid (doneI l x (k + 1) = true) := by show _ = _; rw [hd.out, d0, decide_eq_true hxy]; rfl
      have hge : decide (y ≥ x) = true := decide_eq_true (by omega)
      have hge2 : y ≥ x := by omega
      have hgt : ¬ y > x := fun c => one ⟨d0, c⟩
      clear hd d0 one
      go_wp2_with (first
       | (at_builtin; (with_reducible refine wpList_app rfl (.tmp 35) (.tmp 40) rfl hE.out flat_iv rfl (hown.out.alloc _) rfl (Sl.lit1' wr 2 y _ rfl 1 _ ?d0) ?d1 (hza _) ?_); rotate_right; intro A6 c6 w6 hown6 hgr6 hb6 _))
      case d0 => rfl
      case d1 => omega
      have hb7 := hide ((e4.out _).trans hb6)
      rw [← e1.out] at hown6
      go_roundw
      case rel => exact ⟨k + 1, m + 1, A6, c6, by omega, by omega, by go_num, rfl, by rw [e2.out], hown6, hb7.out⟩
      case measure => simp [intOf]; omega
     ·have e2 : Hid (doneI l x (k + 1) = false) := by show _ = _; rw [hd.out, d0, decide_eq_false hxy]; rfl
      have hge : decide (y ≥ x) = false := decide_eq_false (by omega)
      have hge2 : ¬ y ≥ x := by omega
      clear hd d0 one
      go_wp2_with (first
       | (at_builtin; (with_reducible refine wpList_app rfl (.tmp 35) (.tmp 40) rfl hE.out flat_iv rfl (hown.out.alloc _) rfl (Sl.lit1' wr 2 y _ rfl 1 _ ?d0) ?d1 (hza _) ?_); rotate_right; intro A6 c6 w6 hown6 hgr6 hb6 _))
      case d0 => rfl
      case d1 => omega
      have hb7 := hide ((e4.out _).trans hb6)
      rw [← e1.out] at hown6
      go_roundw
      case rel => exact ⟨k + 1, m + 1, A6, c6, by omega, by omega, by go_num, rfl, by rw [e2.out], hown6, hb7.out⟩
      case measure => simp [intOf]; omega
  ·obtain rfl : k = n := by omega
   have hend := outI_end (n := x) hasc.out
   rw [hlen] at hend
   have hz := hb.size
   replace hb := hide hb
   cases d0 : doneI l x k with
   | true =>
    rw [d0, if_pos rfl] at hend
    rw [hend] at hown
    clear hend
    go_wp2_with fail
    go_ret
    exact ⟨_, _, _, rfl, hown.out, by omega, hb.out⟩
   | false =>
    rw [d0, if_neg Bool.false_ne_true] at hend
    replace hend := hide hend
    have hza : ∀ o, w.heap.size ≤ (wr.alloc o).heap.size := fun o => by rw [World.size_alloc]; omega
    have hm2 : m ≤ k := by
     have h1 := hown.out.len
     have h2 : outI l x k = l.take k := by unfold outI; rw [d0]; rfl
     rw [h2, List.length_take] at h1
     omega
    have e4 := hide (show ∀ o, Below w.heap.size w (wr.alloc o) from fun o => hb.out.alloc hz o)
    go_wp2_with (first
     | (at_builtin; (with_reducible refine wpList_app rfl (.tmp 44) (.tmp 46) rfl hE.out flat_iv rfl (hown.out.alloc _) rfl (Sl.lit1' wr 2 x _ rfl 1 _ ?d0) ?d1 (hza _) ?_); rotate_right; intro A6 c6 w6 hown6 hgr6 hb6 _))
    case d0 => rfl
    case d1 => omega
    have hb7 := hide ((e4.out _).trans hb6)
    rw [hend.out] at hown6
    go_wp2_with fail
    go_ret
    exact ⟨_, _, _, rfl, hown6, by omega, hb7.out⟩

end Go.Proofs.YtnhomkmfbngmgaaGreatDoor

namespace Go.Proofs.YtnhomkmfbngmgaaGreatDoor
open Go.ChangeShapes Go.WideShapes Go.ChangeAt Go.RowKit Go.Sort Go.Lib
set_option linter.unusedVariables false
set_option linter.unusedSimpArgs false

def sgS (N : Nat) (p : List Int) (x : Int) (s : List Int) (e : Ed) : List Int := if e.1 = x then putI s (e.2.1 * (N : Int) + pv p e.2.2) else s
def sgF (N : Nat) (p : List Int) (es : List Ed) (x : Int) : List Int := es.foldl (sgS N p x) []
theorem sg_asc {N : Nat} {p : List Int} {x : Int} : ∀ (l : List Ed) (s : List Int), s.Pairwise (· < ·) → (l.foldl (sgS N p x) s).Pairwise (· < ·)
 | [], s, h => h
 | e :: l, s, h => sg_asc l _ (by
  unfold sgS
  by_cases c : e.1 = x
  ·rw [if_pos c]; exact putI_asc h
  ·rw [if_neg c]; exact h)
set_option maxRecDepth 100000 in
set_option maxHeartbeats 6400000 in
theorem l13Sign_calls {w : World} {N ini : Nat} {A : Option Addr} {n : Nat} {B : Option Addr} {m : Nat} {ls : List ByteArray} {es : List Ed} (h : SysA w N ini A n B m ls es) (c d bx : Nat) (hbx : LtsBox w bx (N : Int) (ini : Int) A n c B m d) (P : Option Addr) (cP : Nat) (p : List Int) (hP : SlI w 0 w.heap.size P N p) (hp : ∀ x, x ∈ p → 0 ≤ x ∧ x ≤ 1000) (x : Int) :
  Calls Tryz.prog 244 #[.pointer (some ⟨bx, 0, none⟩), .slice P N cP, .int .i64 x] w fun e w' => ∃ A' n' c', e = .returned (.slice A' n' c') ∧ SlI w' w.heap.size w'.heap.size A' n' (sgF N p es x) ∧ n' ≤ 300 ∧ Below w.heap.size w w' := by
 obtain ⟨hm, hn12, hn1, hle, hll⟩ := h.many
 obtain ⟨⟨hN1, hN2⟩, hini⟩ := h.bounds
 have hAll : ∀ wx, Below w.heap.size w wx → SysA wx N ini A n B m ls es ∧ LtsBox wx bx (N : Int) (ini : Int) A n c B m d ∧ SlI wx 0 w.heap.size P N p := fun wx hx => ⟨h.below hx (Nat.le_refl _), hbx.below hx hbx.lt, hP.below hx (.inl (Nat.le_refl _))⟩
 have hth := hide h.three
 replace hAll := hide hAll
 have hbl := hbx.lt
 clear h hP hbx
 go_enter Tryz.func244, Tryz.ntmps244
 obtain ⟨w1, hw1⟩ : ∃ w1, w1 = w.alloc (.cells #[] 2) := ⟨_, rfl⟩
 have hb1 : Hid (Below w.heap.size w w1) := by show Below _ _ _; rw [hw1]; exact (Below.refl _ _).alloc (Nat.le_refl _) _
 have hst : Hid (SlI w1 w.heap.size w1.heap.size (some ⟨w.heap.size, 0, none⟩) 0 []) := ⟨rfl, fun h => absurd h (Nat.lt_irrefl 0)⟩
 go_upto_region 2 with fail
 rw [← show w1 = _ from hw1]
 replace hw1 := hide hw1
 go_wp2_with fail
 go_loopw [7, 8] (fun v7 v8 wr => ∃ (k n5 c5 : Nat) (A5 : Option Addr), k ≤ m ∧ v8 = .int .i64 (k : Nat) ∧ v7 = .slice A5 n5 c5 ∧ Hid (SlI wr w.heap.size wr.heap.size A5 n5 ((es.take k).foldl (sgS N p x) [])) ∧ n5 ≤ k ∧ Hid (Below w.heap.size w wr)) (fun _ v _ => m - (intOf v).toNat)
 case atStart => exact ⟨0, 0, 0, _, Nat.zero_le _, rfl, rfl, hst.out, Nat.le_refl _, hb1.out⟩
 case round =>
  clear hst hb1
  obtain ⟨k, n5, c5, A5, hk, rfl, rfl, hO, hn5, hb⟩ := hrel
  obtain ⟨-, hBr, -⟩ := hAll.out wr hb.out
  have z3 := hBr.c3
  by_cases hlt : k < m
  ·obtain ⟨hSy, -, hPr⟩ := hAll.out wr hb.out
   obtain ⟨gB, oB, f, l, t, rfl, -, -, hgB, hx, x0, x1, x2, -⟩ := SlE.get hSy.se hlt
   have h3 := hth.out _ (List.mem_of_getElem? hx)
   (try dsimp only at h3)
   obtain ⟨⟨f0, f1⟩, ⟨l0, l1⟩, t0, t1⟩ := h3
   obtain ⟨gP, oP, pt, rfl, -, -, hgP, hpt, cp, -⟩ := SlI.get hPr (show t.toNat < N by omega)
   have hpb := hp _ (List.mem_of_getElem? hpt)
   have hpv : pv p t = pt := by unfold pv; rw [hpt]; rfl
   have hstep : (es.take (k + 1)).foldl (sgS N p x) [] = sgS N p x ((es.take k).foldl (sgS N p x) []) (f, l, t) := by
    rw [List.take_add_one, hx, List.foldl_append]; rfl
   have k0 : (0 : Int) ≤ (k : Int) := by omega
   have k1 : (k : Int) < (m : Int) := by omega
   by_cases hfx : f = x
   ·subst hfx
    have hs2 : Hid ((es.take (k + 1)).foldl (sgS N p f) [] = putI ((es.take k).foldl (sgS N p f) []) (l * (N : Int) + pt)) := by
     show _ = _
     rw [hstep, ← hpv]
     unfold sgS
     rw [if_pos rfl]
    have g1 : (f == f) = true := by simp
    have hlN0 : 0 ≤ l * (N : Int) := Int.mul_nonneg l0 (by omega)
    have hlN1 : l * (N : Int) ≤ 12 * 40 := Int.mul_le_mul (by omega) (by omega) (by omega) (by omega)
    have hm1 : IntKind.i64.wrap (l * (N : Int)) = l * (N : Int) := IntWalk.i64_in _ (by omega)
    have hm2 : IntKind.i64.wrap (l * (N : Int) + pt) = l * (N : Int) + pt := IntWalk.i64_in _ (by omega)
    obtain ⟨wD, hwD⟩ : ∃ wD, wD = wr.drew := ⟨_, rfl⟩
    have hbD := hide (hb.out.trans ((show Below wr.heap.size wr wD by rw [hwD]; exact (Below.refl _ _).drew).mono hb.out.size))
    have hOD := hO.out.below (show Below wr.heap.size wr wD by rw [hwD]; exact (Below.refl _ _).drew) (.inr (Nat.le_refl _))
    have hq := hide (l00Put_calls A5 n5 c5 _ (l * (N : Int) + pt) wD _ _ hOD (sg_asc _ _ List.Pairwise.nil) (by omega))
    have hSS : Hid (∀ wx, Below wD.heap.size wD wx → wx.cell? ⟨bx, 3, none⟩ = some (.slice (some ⟨gB, oB, none⟩) m d) ∧ wx.cell? ⟨gB, oB + k * 3 + 1, none⟩ = some (.int .i64 l) ∧ wx.cell? ⟨gB, oB + k * 3 + 2, none⟩ = some (.int .i64 t) ∧ wx.cell? ⟨gP, oP + t.toNat, none⟩ = some (.int .i64 pt)) := fun wx hx2 => by
     obtain ⟨q1, q2, q3⟩ := hAll.out wx (hbD.out.trans (hx2.mono hbD.out.size))
     obtain ⟨g5, o5, f5, l5, t5, e5, -, -, -, hx5, -, z1, z2, -⟩ := SlE.get q1.se hlt
     cases e5
     obtain ⟨g6, o6, v6, e6, -, -, -, hx6, z4, -⟩ := SlI.get q3 (show t.toNat < N by omega)
     cases e6
     rw [hx] at hx5
     cases hx5
     rw [hpt] at hx6
     cases hx6
     exact ⟨q2.c3, z1, z2, z4⟩
    replace hwD := hide hwD
    replace hx := hide hx
    replace hpt := hide hpt
    clear hstep hO hOD hSy hPr hBr
    go_upto_region 6 with fail
    refine lateT_begin (S := fun w' => w'.cell? ⟨bx, 3, none⟩ = some (.slice (some ⟨gB, oB, none⟩) m d) ∧ w'.cell? ⟨gB, oB + k * 3 + 1, none⟩ = some (.int .i64 l) ∧ w'.cell? ⟨gB, oB + k * 3 + 2, none⟩ = some (.int .i64 t) ∧ w'.cell? ⟨gP, oP + t.toNat, none⟩ = some (.int .i64 pt)) (st := 25) (by kernel_rfl) ?_
    rw [← show wD = _ from hwD.out]
    have hS0 : (fun w' : World => w'.cell? ⟨bx, 3, none⟩ = some (.slice (some ⟨gB, oB, none⟩) m d) ∧ w'.cell? ⟨gB, oB + k * 3 + 1, none⟩ = some (.int .i64 l) ∧ w'.cell? ⟨gB, oB + k * 3 + 2, none⟩ = some (.int .i64 t) ∧ w'.cell? ⟨gP, oP + t.toNat, none⟩ = some (.int .i64 pt)) wD := hSS.out wD (Below.refl _ _)
    refine tkA ?_ 0 [25] rfl (Or.inl ⟨by rfl, ?hy⟩) hS0 ?_
    case hy => intro w hSw; (try dsimp only at hSw); go_simp <;> with_reducible rfl
    (try simp only [Act.put, sA, sB, sC])
    refine tkA ?_ 1 [25] rfl (Or.inl ⟨by rfl, ?hy⟩) hS0 ?_
    case hy => intro w hSw; (try dsimp only at hSw); go_simp <;> with_reducible rfl
    (try simp only [Act.put, sA, sB, sC])
    refine tkA ?_ 2 [25] rfl (Or.inl ⟨by rfl, ?hy⟩) hS0 ?_
    case hy => intro w hSw; (try dsimp only at hSw); go_simp <;> with_reducible rfl
    (try simp only [Act.put, sA, sB, sC])
    refine tkA ?_ 3 [25] rfl (Or.inl ⟨by rfl, ?hy⟩) hS0 ?_
    case hy => intro w hSw; (try dsimp only at hSw); go_simp <;> with_reducible rfl
    (try simp only [Act.put, sA, sB, sC])
    refine tkA ?_ 4 [25] rfl (Or.inl ⟨by rfl, ?hy⟩) hS0 ?_
    case hy => intro w hSw; (try dsimp only at hSw); go_simp <;> with_reducible rfl
    (try simp only [Act.put, sA, sB, sC])
    refine tkA ?_ 5 [25] rfl (Or.inl ⟨by rfl, ?hy⟩) hS0 ?_
    case hy => intro w hSw; (try dsimp only at hSw); go_simp <;> with_reducible rfl
    (try simp only [Act.put, sA, sB, sC])
    refine tkA ?_ 6 [25] rfl (Or.inl ⟨by rfl, ?hy⟩) hS0 ?_
    case hy => intro w hSw; (try dsimp only at hSw); go_simp <;> with_reducible rfl
    (try simp only [Act.put, sA, sB, sC])
    refine tkA ?_ 7 [25] rfl (Or.inl ⟨by rfl, ?hy⟩) hS0 ?_
    case hy => intro w hSw; (try dsimp only at hSw); go_simp <;> with_reducible rfl
    (try simp only [Act.put, sA, sB, sC])
    refine tkA ?_ 8 [25] rfl (Or.inl ⟨by rfl, ?hy⟩) hS0 ?_
    case hy => intro w hSw; (try dsimp only at hSw); go_simp <;> with_reducible rfl
    (try simp only [Act.put, sA, sB, sC])
    refine tkA ?_ 9 [25] rfl (Or.inl ⟨by rfl, ?hy⟩) hS0 ?_
    case hy => intro w hSw; (try dsimp only at hSw); go_simp <;> with_reducible rfl
    (try simp only [Act.put, sA, sB, sC])
    refine tkA ?_ 12 [25] rfl (Or.inl ⟨by rfl, ?hy⟩) hS0 ?_
    case hy => intro w hSw; (try dsimp only at hSw); go_simp <;> with_reducible rfl
    (try simp only [Act.put, sA, sB, sC])
    refine tkA ?_ 13 [25] rfl (Or.inl ⟨by rfl, ?hy⟩) hS0 ?_
    case hy => intro w hSw; (try dsimp only at hSw); go_simp <;> with_reducible rfl
    (try simp only [Act.put, sA, sB, sC])
    refine tkA ?_ 14 [25] rfl (Or.inl ⟨by rfl, ?hy⟩) hS0 ?_
    case hy => intro w hSw; (try dsimp only at hSw); go_simp <;> with_reducible rfl
    (try simp only [Act.put, sA, sB, sC])
    refine tkA ?_ 15 [25] rfl (Or.inl ⟨by rfl, ?hy⟩) hS0 ?_
    case hy => intro w hSw; (try dsimp only at hSw); go_simp <;> with_reducible rfl
    (try simp only [Act.put, sA, sB, sC])
    refine tkA ?_ 16 [25] rfl (Or.inl ⟨by rfl, ?hy⟩) hS0 ?_
    case hy => intro w hSw; (try dsimp only at hSw); go_simp <;> with_reducible rfl
    (try simp only [Act.put, sA, sB, sC])
    refine tkA ?_ 17 [25] rfl (Or.inl ⟨by rfl, ?hy⟩) hS0 ?_
    case hy => intro w hSw; (try dsimp only at hSw); go_simp <;> with_reducible rfl
    (try simp only [Act.put, sA, sB, sC])
    refine tkA ?_ 18 [25] rfl (Or.inl ⟨by rfl, ?hy⟩) hS0 ?_
    case hy => intro w hSw; (try dsimp only at hSw); go_simp <;> with_reducible rfl
    (try simp only [Act.put, sA, sB, sC])
    refine tkA ?_ 19 [25] rfl (Or.inl ⟨by rfl, ?hy⟩) hS0 ?_
    case hy => intro w hSw; (try dsimp only at hSw); go_simp <;> with_reducible rfl
    (try simp only [Act.put, sA, sB, sC])
    refine tkA ?_ 20 [25] rfl (Or.inl ⟨by rfl, ?hy⟩) hS0 ?_
    case hy => intro w hSw; (try dsimp only at hSw); go_simp <;> with_reducible rfl
    (try simp only [Act.put, sA, sB, sC])
    refine tkA ?_ 21 [25] rfl (Or.inl ⟨by rfl, ?hy⟩) hS0 ?_
    case hy => intro w hSw; (try dsimp only at hSw); go_simp <;> with_reducible rfl
    (try simp only [Act.put, sA, sB, sC])
    refine tkA ?_ 22 [25] rfl (Or.inl ⟨by rfl, ?hy⟩) hS0 ?_
    case hy => intro w hSw; (try dsimp only at hSw); go_simp <;> with_reducible rfl
    (try simp only [Act.put, sA, sB, sC])
    refine lateT_step (i := 10) (by kernel_rfl) rfl (fun K hK => ?_)
    go_simp
    refine hK.out _ _ (fun _ => hSS.out wD (Below.refl _ _)) ?_
    clear hK K
    (try simp only [Act.put, sA, sB, sC])
    refine lateT_step (i := 11) (by kernel_rfl) rfl (fun K hK => ?_)
    go_simp
    refine hK.out _ _ (fun _ => hSS.out wD (Below.refl _ _)) ?_
    clear hK K
    (try simp only [Act.put, sA, sB, sC])
    refine lateT_step (i := 23) (by kernel_rfl) rfl (fun K hK => ?_)
    go_simp
    refine hK.out _ _ (fun _ => hSS.out wD (Below.refl _ _)) ?_
    clear hK K
    (try simp only [Act.put, sA, sB, sC])
    refine lateT_step (i := 24) (by kernel_rfl) rfl (fun K hK => ?_)
    go_simp
    go_at_call 256
    (with_reducible refine hq.out.mono ?_)
    rintro e w6 ⟨A7, n7, c7, rfl, hO7, hn7, hb7⟩
    have hS7 := hide (hSS.out w6 hb7)
    have hb7h := hide hb7
    have hO7h := hide hO7
    clear hO7 hb7
    (try go_wp2_with fail)
    refine hK.out _ _ (fun _ => hS7.out) ?_
    clear hK K
    (try simp only [Act.put, sA, sB, sC])
    refine lateT_step (i := 25) (by kernel_rfl) rfl (fun K hK => ?_)
    go_simp
    refine hK.out _ _ (fun h => absurd rfl h) ?_
    clear hK K
    (try simp only [Act.put, sA, sB, sC])
    refine lateT_done (by kernel_rfl) ?_ _
    have hsF := hO7h.out.sl flat_iv
    rw [← hs2.out] at hsF
    have hzD := hbD.out.size
    replace hsF := hide (hsF.more hzD (Nat.le_refl _))
    have hbF := hide (hbD.out.trans (hb7h.out.mono hzD))
    clear hO7h
    go_wp2_with fail
    go_roundw
    case rel => exact ⟨k + 1, n7, c7, A7, by omega, by go_num, rfl, hsF.out, by omega, hbF.out⟩
    case measure => simp [intOf]; omega
   ·have hs2 : (es.take (k + 1)).foldl (sgS N p x) [] = (es.take k).foldl (sgS N p x) [] := by
     rw [hstep]
     unfold sgS
     rw [if_neg hfx]
    have hO9 := hO.out
    rw [← hs2] at hO9
    replace hO9 := hide hO9
    have g1 : (f == x) = false := by rw [beq_eq_false_iff_ne]; exact hfx
    replace hx := hide hx
    replace hpt := hide hpt
    clear hstep hs2 hO hSy hPr hfx hBr
    go_wp2_with fail
    go_roundw
    case rel => exact ⟨k + 1, n5, c5, A5, by omega, by go_num, rfl, hO9.out, by omega, hb.out⟩
    case measure => simp [intOf]; omega
  ·obtain rfl : k = m := by omega
   have hF := hO.out
   rw [List.take_of_length_le (by omega)] at hF
   replace hF := hide hF
   clear hBr
   go_wp2_with fail
   go_ret
   exact ⟨A5, n5, c5, rfl, hF.out, by omega, hb.out⟩
end Go.Proofs.YtnhomkmfbngmgaaGreatDoor
