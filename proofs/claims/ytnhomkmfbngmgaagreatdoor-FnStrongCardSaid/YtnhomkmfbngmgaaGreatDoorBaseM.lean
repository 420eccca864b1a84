/-
  Several texts in one:
  MinimalStrong. Conditions: sizes.
  IsStablePartition on a list that is a partition. Conditions: sizes.
  MinimalStrong as a valid system, and AreBisimilar's answer on it. Conditions: sizes.
  Bytes as an argument of a law. Conditions: none.
  The law FnStrong returns true for every input: the classes of strong bisimilarity are stable, every stable partition refines them, and the least system is bisimilar and has no two states in one class. Conditions: none.
  Monitors as arguments of a law: words, sizes, copying, comparing. Conditions: sizes.
  What the rows' condition on the library's variables gives a walk; opening of systems as arguments. Conditions: none.
  Closed facts of the whole program, and the rows' condition in one form. Conditions: none.
-/
import Derived.Test.YtnhomkmfbngmgaaGreatDoorBaseA
import Derived.Test.YtnhomkmfbngmgaaGreatDoorBaseB
import Derived.Test.YtnhomkmfbngmgaaGreatDoorBaseC
import Derived.Test.YtnhomkmfbngmgaaGreatDoorBaseD
import Derived.Test.YtnhomkmfbngmgaaGreatDoorBaseI
import Derived.Test.YtnhomkmfbngmgaaGreatDoorBaseK
import Derived.Test.YtnhomkmfbngmgaaGreatDoorBaseL
import Derived.Deep.CutBlock
import Derived.Test.YtnhomkmfbngmgaaGreatDoorTie
import Derived.Test.YtnhomkmfbngmgaaGreatDoorCards
set_option linter.unusedSimpArgs false
set_option linter.unusedVariables false
namespace Go.Proofs.YtnhomkmfbngmgaaGreatDoor
open Go.ChangeShapes Go.WideShapes Go.ChangeAt Go.RowKit Go.Sort Go.Lib
set_option linter.unusedVariables false
set_option linter.unusedSimpArgs false

/-- Between a base and now: a box, a list of states and a part may have been made. -/
structure MinW (wb w : World) (J : List ByteArray) (R : List Int) (E : List Ed) (g : Option Nat) (r : Option (Option Addr × Nat)) (q : Option ((Option Addr × Nat × Nat) × (Option Addr × Nat × Nat))) : Prop where
  below : Below wb.heap.size wb w
  box : ∀ b, g = some b → wb.heap.size ≤ b ∧ LtsBox w b 0 0 none 0 0 none 0 0
  rch : ∀ h, r = some h → SlI w 0 w.heap.size h.1 h.2 R
  prt : ∀ h, q = some h → ∃ lo hi, SlS w lo hi h.1.1 h.1.2.1 J ∧ SlE w lo hi h.2.1 h.2.2.1 E ∧ wb.heap.size ≤ lo ∧ hi ≤ w.heap.size ∧ ∀ b, g = some b → b < lo ∨ hi ≤ b
section
variable {wb w w' : World} {J : List ByteArray} {R : List Int} {E : List Ed} {g : Option Nat} {r : Option (Option Addr × Nat)} {q : Option ((Option Addr × Nat × Nat) × (Option Addr × Nat × Nat))}
theorem MinW.start (wb : World) (J : List ByteArray) (R : List Int) (E : List Ed) : MinW wb wb J R E none none none := ⟨Below.refl _ _, fun b e => (by cases e), fun h e => (by cases e), fun h e => (by cases e)⟩
theorem MinW.keep (h : MinW wb w J R E g r q) (hb : Below w.heap.size w w') : MinW wb w' J R E g r q where
  below := h.below.trans (hb.mono h.below.size)
  box := fun b e => ⟨(h.box b e).1, (h.box b e).2.below hb (h.box b e).2.lt⟩
  rch := fun k e => ((h.rch k e).below hb (.inr (Nat.le_refl _))).here'
  prt := fun k e => by
    obtain ⟨lo, hi, h1, h2, h3, h4, h5⟩ := h.prt k e
    exact ⟨lo, hi, h1.below hb (.inl h4), h2.below hb (.inl h4), h3, Nat.le_trans h4 hb.size, h5⟩
theorem MinW.drew (h : MinW wb w J R E g r q) : MinW wb w.drew J R E g r q := h.keep (Below.refl _ _).drew
theorem MinW.alloc (h : MinW wb w J R E none r q) : MinW wb (w.alloc (.cells #[.int .i64 0, .int .i64 0, .slice none 0 0, .slice none 0 0] 27)) J R E (some w.heap.size) r q := by
  have hb : Below w.heap.size w (w.alloc (.cells #[.int .i64 0, .int .i64 0, .slice none 0 0, .slice none 0 0] 27)) := (Below.refl _ _).alloc (Nat.le_refl _) _
  have h1 := h.keep hb
  refine ⟨h1.below, fun b e => ?_, h1.rch, fun k e => ?_⟩
  · cases e
    exact ⟨h.below.size, heap_alloc_new w _⟩
  · obtain ⟨lo, hi, g1, g2, g3, g4, g5⟩ := h.prt k e
    exact ⟨lo, hi, g1.below hb (.inl g4), g2.below hb (.inl g4), g3, Nat.le_trans g4 hb.size, fun b e2 => by cases e2; exact .inr g4⟩
theorem MinW.reach (h : MinW wb w J R E g none none) {A : Option Addr} {n : Nat} (hb : Below w.heap.size w w') (ho : SlI w' w.heap.size w'.heap.size A n R) : MinW wb w' J R E g (some (A, n)) none :=
  ⟨(h.keep hb).below, (h.keep hb).box, fun k e => by cases e; exact ho.here', fun k e => by cases e⟩
theorem MinW.part (h : MinW wb w J R E g r none) {A B : Option Addr} {n c m d : Nat} (hb : Below w.heap.size w w') (hs : SlS w' w.heap.size w'.heap.size A n J) (he : SlE w' w.heap.size w'.heap.size B m E) : MinW wb w' J R E g r (some ((A, n, c), (B, m, d))) :=
  ⟨(h.keep hb).below, (h.keep hb).box, (h.keep hb).rch, fun k e => by
    cases e
    exact ⟨_, _, hs, he, h.below.size, Nat.le_refl _, fun b e2 => .inl (h.box b e2).2.lt⟩⟩
/-- The box filled. -/
structure MinF (wb wf : World) (J : List ByteArray) (E : List Ed) (b : Nat) (s i : Int) (A : Option Addr) (n c : Nat) (B : Option Addr) (m d : Nat) : Prop where
  below : Below wb.heap.size wb wf
  box : LtsBox wf b s i A n c B m d
  base : wb.heap.size ≤ b
  ss : SlS wf 0 wf.heap.size A n J
  se : SlE wf 0 wf.heap.size B m E
theorem MinW.fill {A B : Option Addr} {n c m d b : Nat} (h : MinW wb w J R E (some b) r (some ((A, n, c), (B, m, d)))) (s i : Int) :
    MinF wb ((((w.setCell ⟨b, 0, none⟩ (.int .i64 s)).setCell ⟨b, 1, none⟩ (.int .i64 i)).setCell ⟨b, 2, none⟩ (.slice A n c)).setCell ⟨b, 3, none⟩ (.slice B m d)) J E b s i A n c B m d := by
  obtain ⟨hg, hx⟩ := h.box b rfl
  obtain ⟨lo, hi, g1, g2, g3, g4, g5⟩ := h.prt _ rfl
  have g5 := g5 b rfl
  have x0 : (w.setCell ⟨b, 0, none⟩ (.int .i64 s)).heap[b]? = _ := heap_setCell_same w b 0 _ _ _ hx
  have x1 := heap_setCell_same _ b 1 _ _ (.int .i64 i) x0
  have x2 := heap_setCell_same _ b 2 _ _ (.slice A n c) x1
  have x3 := heap_setCell_same _ b 3 _ _ (.slice B m d) x2
  have o1 := (Only.refl b (b + 1) w).setCell (p := ⟨b, 0, none⟩) (Nat.le_refl _) (Nat.lt_succ_self _) (.int .i64 s)
  have o2 := o1.setCell (p := ⟨b, 1, none⟩) (Nat.le_refl _) (Nat.lt_succ_self _) (.int .i64 i)
  have o3 := o2.setCell (p := ⟨b, 2, none⟩) (Nat.le_refl _) (Nat.lt_succ_self _) (.slice A n c)
  have o4 := o3.setCell (p := ⟨b, 3, none⟩) (Nat.le_refl _) (Nat.lt_succ_self _) (.slice B m d)
  exact ⟨Only.below h.below o4 hg h.below.size, x3, hg, (g1.only o4 (by omega)).here', (g2.only o4 (by omega)).here'⟩
end
theorem reach_nodup {N : Nat} {es : List Ed} {ini : Int} : (reachF N es ini).Nodup := by
  unfold reachF
  exact List.Pairwise.map Int.ofNat (fun a b h e => h (Int.ofNat.inj e)) (List.Pairwise.filter _ List.nodup_range)
theorem results_cs {fn : Func} {p q : Tmp} {ty : TypeId} (h : fn.results = #[.cell p ty, .tmp q]) (tmps : Array Value) (P : Program) (w : World) :
    (results fn tmps).run P w = ((asAddr (tmps.getD p undef)).run P w).andThen fun a w₁ => ((loadVar ty a).run P w₁).andThen fun v w₂ => .ok (.tuple #[v, tmps.getD q undef]) w₂ := by
  simp only [results, h]
  simp [Sem.run_bind, Result.andThen]
theorem put4_cell (w : World) (g : Nat) (v0 v1 v2 v3 : Value) {q i : Nat} {v : Value} (h : q ≠ g) (hc : w.cell? ⟨q, i, none⟩ = some v) : (put4 w g v0 v1 v2 v3).cell? ⟨q, i, none⟩ = some v :=
  (World.cell?_of_block (w := w) (by simpa using put4_other w g v0 v1 v2 v3 h)).trans hc
set_option maxRecDepth 100000 in
theorem minS1_calls (e : Ed) (W : World) : Calls Tryz.prog 89 (#[.agg #[.int .i64 e.1, .int .i64 e.2.1, .int .i64 e.2.2]] ++ #[]) W (Says true W) := by
  obtain ⟨f, l, t⟩ := e
  go_enter Tryz.func89, Tryz.ntmps89
  go_wp2_with fail
  go_ret
  exact ⟨rfl, (Below.refl _ _).alloc (Nat.le_refl _) _⟩
set_option maxRecDepth 100000 in
set_option maxHeartbeats 6400000 in
theorem minimalStrong_calls {w : World} {N ini : Nat} {A : Option Addr} {n : Nat} {B : Option Addr} {m : Nat} {ls : List ByteArray} {es : List Ed} (h : SysA w N ini A n B m ls es) (c d : Nat) (he : Env w) (R : List Int) (hR : R = reachF N es (ini : Int)) (hiR : (ini : Int) ∈ R) :
    Calls Tryz.prog 32 #[.agg #[.int .i64 (N : Int), .int .i64 (ini : Int), .slice A n c, .slice B m d]] w fun e w' => ∃ r M A2 c2 A3 n3 c3, LastR (partF R es) R.length r ∧ MaxL (rndP (partF R es) R.length r) M ∧ e = .returned (.tuple #[.agg #[.int .i64 (M + 1), .int .i64 (pv (rndP (partF R es) R.length r) (posZ R (ini : Int))), .slice A2 n c2, .slice A3 n3 c3], .int .i64 0]) ∧ SlS w' w.heap.size w'.heap.size A2 n ls ∧ SlE w' w.heap.size w'.heap.size A3 n3 (quoF (rndP (partF R es) R.length r) (fun _ => true) (partF R es)) ∧ Below w.heap.size w w' := by
  obtain ⟨hm, hn12, hn1, hle, hll⟩ := h.many
  obtain ⟨⟨hN1, hN2⟩, hini⟩ := h.bounds
  obtain ⟨E1, hE1⟩ : ∃ E1, E1 = partF R es := ⟨_, rfl⟩
  have hRn : R.Nodup := by rw [hR]; exact reach_nodup
  obtain ⟨wB, hwB⟩ : ∃ wB, wB = w.alloc (ltsC N ini A n c B m d) := ⟨_, rfl⟩
  have zB : wB.heap.size = w.heap.size + 1 := by rw [hwB]; exact World.size_alloc _ _
  have bB : Below w.heap.size w wB := by rw [hwB]; exact (Below.refl w.heap.size w).alloc (Nat.le_refl _) _
  have xB : LtsBox wB w.heap.size (N : Int) (ini : Int) A n c B m d := by rw [hwB]; exact heap_alloc_new w _
  obtain ⟨w1, hw1⟩ : ∃ w1, w1 = wB.alloc (.cells #[.int .i64 0, .int .i64 0, .slice none 0 0, .slice none 0 0] 27) := ⟨_, rfl⟩
  have hbel1 : Below wB.heap.size wB w1 := by rw [hw1]; exact (Below.refl _ _).alloc (Nat.le_refl _) _
  have hr1 : LtsBox w1 wB.heap.size 0 0 none 0 0 none 0 0 := by rw [hw1]; exact heap_alloc_new wB _
  have hAll : ∀ wx, Below wB.heap.size wB wx → SysA wx N ini A n B m ls es ∧ LtsBox wx w.heap.size (N : Int) (ini : Int) A n c B m d ∧ Below w.heap.size w wx := fun wx hx =>
    ⟨h.below (bB.trans (hx.mono bB.size)) (Nat.le_refl _), xB.below hx (by omega), bB.trans (hx.mono bB.size)⟩
  have hq1 := hide ((hAll w1 hbel1).1.valid c d (he.below (bB.trans (hbel1.mono bB.size)) (Nat.le_refl _)))
  have b0 := (hAll w1 hbel1).2.1.c0
  have b1 := (hAll w1 hbel1).2.1.c1
  have b2 := (hAll w1 hbel1).2.1.c2
  have b3 := (hAll w1 hbel1).2.1.c3
  replace hAll := hide hAll
  replace zB := hide zB
  replace hbel1 := hide hbel1
  replace hr1 := hide hr1
  replace hE1 := hide hE1
  replace hR := hide hR
  have hbBh := hide bB
  clear bB xB h he
  go_enter Tryz.func32, Tryz.ntmps32
  go_upto_region 1 with fail
  rw [show ((w.alloc (.cells #[.int .i64 (N : Int), .int .i64 (ini : Int), .slice A n c, .slice B m d] 27)).alloc (.cells #[.int .i64 0, .int .i64 0, .slice none 0 0, .slice none 0 0] 27)) = w1 from by rw [hw1, hwB]]
  replace hw1 := hide hw1
  replace hwB := hide hwB
  go_wp2_with fail
  refine hq1.out.mono ?_
  rintro e w2 ⟨rfl, hb2⟩
  have hbB2 := hide (hbel1.out.trans (hb2.mono hbel1.out.size))
  have hr2 := hide (hr1.out.below hb2 hr1.out.lt)
  clear b0 b1 b2 b3 hq1 hb2
  have hSS : Hid (∀ wx, Below w2.heap.size w2 wx → wx.cell? ⟨w.heap.size, 0, none⟩ = some (.int .i64 (N : Int)) ∧ wx.cell? ⟨w.heap.size, 1, none⟩ = some (.int .i64 (ini : Int)) ∧ wx.cell? ⟨w.heap.size, 2, none⟩ = some (.slice A n c) ∧ wx.cell? ⟨w.heap.size, 3, none⟩ = some (.slice B m d)) := fun wx hx => by
    obtain ⟨-, y, -⟩ := hAll.out wx (hbB2.out.trans (hx.mono hbB2.out.size))
    exact ⟨y.c0, y.c1, y.c2, y.c3⟩
  have hRe : Hid (∀ wx, Below w2.heap.size w2 wx → Calls Tryz.prog 58 #[.agg #[.int .i64 (N : Int), .int .i64 (ini : Int), .slice A n c, .slice B m d]] wx fun e w' => ∃ A m c, e = .returned (.slice A m c) ∧ SlI w' wx.heap.size w'.heap.size A m R ∧ Below wx.heap.size wx w') := fun wx hx => by
    obtain ⟨y, -, -⟩ := hAll.out wx (hbB2.out.trans (hx.mono hbB2.out.size))
    refine (reachable_calls N ini _ B m d es wx _ _ y.se (by omega) hN1 hN2 hini ⟨_, _, _, rfl⟩ y.ends).mono ?_
    rintro e w' ⟨A, m, c, rfl, h1, -, -, h2⟩
    rw [← hR.out] at h1
    exact ⟨A, m, c, rfl, h1, h2⟩
  have hRl : R.length ≤ 40 := by
    rw [hR.out]
    unfold reachF
    rw [List.length_map]
    exact Nat.le_trans (List.length_filter_le _ _) (by rw [List.length_range]; exact hN2)
  have hPa : Hid (∀ wx AR mR cR, Below w2.heap.size w2 wx → SlI wx 0 wx.heap.size AR mR R → Calls Tryz.prog 59 #[.agg #[.int .i64 (N : Int), .int .i64 (ini : Int), .slice A n c, .slice B m d], .slice AR mR cR] wx fun e w' => ∃ A2 c2 A3 n3 c3, e = .returned (.agg #[.int .i64 (mR : Int), .int .i64 (posZ R (ini : Int)), .slice A2 n c2, .slice A3 n3 c3]) ∧ SlS w' wx.heap.size w'.heap.size A2 n ls ∧ SlE w' wx.heap.size w'.heap.size A3 n3 E1 ∧ Below wx.heap.size wx w') := fun wx AR mR cR hx hs => by
    obtain ⟨y, -, -⟩ := hAll.out wx (hbB2.out.trans (hx.mono hbB2.out.size))
    rw [hE1.out]
    have := hs.len
    exact part_calls y c d AR mR cR _ _ R hs (Nat.le_refl _) (by omega) hRn
  go_upto_region 3 with fail
  go_cut [4] (fun v4 wx => ∃ b A2 c2 A3 n3 c3 mR, v4 = .pointer (some ⟨b, 0, none⟩) ∧ R.length = mR ∧ Hid (MinF w2 wx ls E1 b (mR : Int) (posZ R (ini : Int)) A2 n c2 A3 n3 c3))
  case first =>
    refine lateT_begin (S := fun w' => w'.cell? ⟨w.heap.size, 0, none⟩ = some (.int .i64 (N : Int)) ∧ w'.cell? ⟨w.heap.size, 1, none⟩ = some (.int .i64 (ini : Int)) ∧ w'.cell? ⟨w.heap.size, 2, none⟩ = some (.slice A n c) ∧ w'.cell? ⟨w.heap.size, 3, none⟩ = some (.slice B m d)) (st := 5) (by kernel_rfl) ?_
    have hD := (MinW.start w2 ls R E1).drew
    generalize w2.drew = wA at *
    have hS0 := hSS.out _ hD.below
    refine lateT_take (i := 0) (oi := _) (v := ?_) [5] rfl (by kernel_rfl) (by kernel_rfl) (by kernel_rfl) (by kernel_rfl) (fun _ _ _ h => h) (Or.inl ⟨by rfl, ?hy⟩) hS0 ?_
    case hy => (intro w9 hSw; obtain ⟨s0, s1, s2, s3⟩ := hSw; go_simp <;> with_reducible rfl)
    (try simp only [Act.put, List.setIfInBounds_toArray, List.set_cons_zero, List.set_cons_succ])
    refine lateT_take (i := 1) (oi := _) (v := ?_) [5] rfl (by kernel_rfl) (by kernel_rfl) (by kernel_rfl) (by kernel_rfl) (fun _ _ _ h => h) (Or.inl ⟨by rfl, ?hy⟩) hS0 ?_
    case hy => (intro w9 hSw; obtain ⟨s0, s1, s2, s3⟩ := hSw; go_simp <;> with_reducible rfl)
    (try simp only [Act.put, List.setIfInBounds_toArray, List.set_cons_zero, List.set_cons_succ])
    refine lateT_two (i := 2) (j := 4) (by kernel_rfl) rfl rfl (fun K hK => ?_) (fun K hK => ?_)
    · go_simp
      go_at_call 58; (with_reducible refine (hRe.out _ hD.below).mono ?_); rintro e wA ⟨AR, mR, cR, rfl, hR6, hb6⟩
      replace hD := hD.reach hb6 hR6
      clear hR6 hb6
      (try go_wp2_with fail)
      refine hK.out _ _ (fun _ => hSS.out _ hD.below) ?_
      clear hK K
      (try simp only [Act.put, List.setIfInBounds_toArray, List.set_cons_zero, List.set_cons_succ])
      refine lateT_two (i := 3) (j := 4) (by kernel_rfl) rfl rfl (fun K hK => ?_) (fun K hK => ?_)
      · go_simp
        have hqP := hPa.out _ AR mR cR hD.below (hD.rch _ rfl)
        go_at_call 59; (with_reducible refine hqP.mono ?_); rintro e wA ⟨A2, c2, A3, n3, c3, rfl, hS6, hE6, hb6⟩
        replace hD := hD.part (c := c2) (d := c3) hb6 hS6 hE6
        clear hS6 hE6 hb6 hqP
        (try go_wp2_with fail)
        refine hK.out _ _ (fun _ => hSS.out _ hD.below) ?_
        clear hK K
        (try simp only [Act.put, List.setIfInBounds_toArray, List.set_cons_zero, List.set_cons_succ])
        refine lateT_step (i := 4) (by kernel_rfl) rfl (fun K hK => ?_)
        go_simp
        replace hD := hD.alloc
        refine hK.out _ _ (fun _ => hSS.out _ hD.below) ?_
        clear hK K
        (try simp only [Act.put, List.setIfInBounds_toArray, List.set_cons_zero, List.set_cons_succ])
        generalize wA.alloc (.cells #[.int .i64 0, .int .i64 0, .slice none 0 0, .slice none 0 0] 27) = wA at *
        refine lateT_step (i := 5) (by kernel_rfl) rfl (fun K hK => ?_)
        have hbx := (hD.box _ rfl).2
        have z0 := hbx.c0
        have z1 := hbx.c1
        have z2 := hbx.c2
        have z3 := hbx.c3
        have f0 := hbx.f0
        have f1 := hbx.f1
        have f2 := hbx.f2
        have f3 := hbx.f3
        go_simp
        refine hK.out _ _ (fun h => absurd rfl h) ?_
        clear hK K
        (try simp only [Act.put, List.setIfInBounds_toArray, List.set_cons_zero, List.set_cons_succ])
        refine lateT_done (by kernel_rfl) ?_ _
        have hM := hD.fill (mR : Int) (posZ R (ini : Int))
        have hmR := (hD.rch _ rfl).len
        go_wp2_with fail
        go_meet
        exact ⟨_, _, _, _, _, _, _, rfl, hmR, hide hM⟩
      · go_simp
        replace hD := hD.alloc
        refine hK.out _ _ (fun _ => hSS.out _ hD.below) ?_
        clear hK K
        (try simp only [Act.put, List.setIfInBounds_toArray, List.set_cons_zero, List.set_cons_succ])
        generalize wA.alloc (.cells #[.int .i64 0, .int .i64 0, .slice none 0 0, .slice none 0 0] 27) = wA at *
        refine lateT_step (i := 3) (by kernel_rfl) rfl (fun K hK => ?_)
        go_simp
        have hqP := hPa.out _ AR mR cR hD.below (hD.rch _ rfl)
        go_at_call 59; (with_reducible refine hqP.mono ?_); rintro e wA ⟨A2, c2, A3, n3, c3, rfl, hS6, hE6, hb6⟩
        replace hD := hD.part (c := c2) (d := c3) hb6 hS6 hE6
        clear hS6 hE6 hb6 hqP
        (try go_wp2_with fail)
        refine hK.out _ _ (fun _ => hSS.out _ hD.below) ?_
        clear hK K
        (try simp only [Act.put, List.setIfInBounds_toArray, List.set_cons_zero, List.set_cons_succ])
        refine lateT_step (i := 5) (by kernel_rfl) rfl (fun K hK => ?_)
        have hbx := (hD.box _ rfl).2
        have z0 := hbx.c0
        have z1 := hbx.c1
        have z2 := hbx.c2
        have z3 := hbx.c3
        have f0 := hbx.f0
        have f1 := hbx.f1
        have f2 := hbx.f2
        have f3 := hbx.f3
        go_simp
        refine hK.out _ _ (fun h => absurd rfl h) ?_
        clear hK K
        (try simp only [Act.put, List.setIfInBounds_toArray, List.set_cons_zero, List.set_cons_succ])
        refine lateT_done (by kernel_rfl) ?_ _
        have hM := hD.fill (mR : Int) (posZ R (ini : Int))
        have hmR := (hD.rch _ rfl).len
        go_wp2_with fail
        go_meet
        exact ⟨_, _, _, _, _, _, _, rfl, hmR, hide hM⟩
    · go_simp
      replace hD := hD.alloc
      refine hK.out _ _ (fun _ => hSS.out _ hD.below) ?_
      clear hK K
      (try simp only [Act.put, List.setIfInBounds_toArray, List.set_cons_zero, List.set_cons_succ])
      generalize wA.alloc (.cells #[.int .i64 0, .int .i64 0, .slice none 0 0, .slice none 0 0] 27) = wA at *
      refine lateT_step (i := 2) (by kernel_rfl) rfl (fun K hK => ?_)
      go_simp
      go_at_call 58; (with_reducible refine (hRe.out _ hD.below).mono ?_); rintro e wA ⟨AR, mR, cR, rfl, hR6, hb6⟩
      replace hD := hD.reach hb6 hR6
      clear hR6 hb6
      (try go_wp2_with fail)
      refine hK.out _ _ (fun _ => hSS.out _ hD.below) ?_
      clear hK K
      (try simp only [Act.put, List.setIfInBounds_toArray, List.set_cons_zero, List.set_cons_succ])
      refine lateT_step (i := 3) (by kernel_rfl) rfl (fun K hK => ?_)
      go_simp
      have hqP := hPa.out _ AR mR cR hD.below (hD.rch _ rfl)
      go_at_call 59; (with_reducible refine hqP.mono ?_); rintro e wA ⟨A2, c2, A3, n3, c3, rfl, hS6, hE6, hb6⟩
      replace hD := hD.part (c := c2) (d := c3) hb6 hS6 hE6
      clear hS6 hE6 hb6 hqP
      (try go_wp2_with fail)
      refine hK.out _ _ (fun _ => hSS.out _ hD.below) ?_
      clear hK K
      (try simp only [Act.put, List.setIfInBounds_toArray, List.set_cons_zero, List.set_cons_succ])
      refine lateT_step (i := 5) (by kernel_rfl) rfl (fun K hK => ?_)
      have hbx := (hD.box _ rfl).2
      have z0 := hbx.c0
      have z1 := hbx.c1
      have z2 := hbx.c2
      have z3 := hbx.c3
      have f0 := hbx.f0
      have f1 := hbx.f1
      have f2 := hbx.f2
      have f3 := hbx.f3
      go_simp
      refine hK.out _ _ (fun h => absurd rfl h) ?_
      clear hK K
      (try simp only [Act.put, List.setIfInBounds_toArray, List.set_cons_zero, List.set_cons_succ])
      refine lateT_done (by kernel_rfl) ?_ _
      have hM := hD.fill (mR : Int) (posZ R (ini : Int))
      have hmR := (hD.rch _ rfl).len
      go_wp2_with fail
      go_meet
      exact ⟨_, _, _, _, _, _, _, rfl, hmR, hide hM⟩
  case rest =>
    obtain ⟨b, A2, c2, A3, n3, c3, mR, rfl, hmR, hF⟩ := hcut
    have hbBc := hbB2.out.trans (hF.out.below.mono hbB2.out.size)
    have hW := (hAll.out _ hbBc).1
    obtain ⟨hpv, hp0⟩ := part_valid (S := R) hW.ok hRn hRl hiR
    obtain ⟨iR, hiRe⟩ : ∃ iR : Nat, posZ R (ini : Int) = (iR : Int) := ⟨(posZ R (ini : Int)).toNat, by omega⟩
    rw [hiRe, ← hE1.out, hmR] at hpv
    rw [hiRe] at hF
    have hSc : SysA wc mR iR A2 n A3 n3 ls E1 := ⟨hF.out.ss, hF.out.se, hpv, hW.sz⟩
    obtain ⟨wD, hwD⟩ : ∃ wD, wD = wc.drew := ⟨_, rfl⟩
    have hbD : Below wc.heap.size wc wD := by rw [hwD]; exact (Below.refl _ _).drew
    have hSy : Hid (∀ wx, Below wD.heap.size wD wx → SysA wx mR iR A2 n A3 n3 ls E1) := fun wx hx => hSc.below (hbD.trans (hx.mono hbD.size)) (Nat.le_refl _)
    have hSD : Hid (∀ wx, Below wD.heap.size wD wx → wx.cell? ⟨b, 0, none⟩ = some (.int .i64 (mR : Int)) ∧ wx.cell? ⟨b, 1, none⟩ = some (.int .i64 (iR : Int)) ∧ wx.cell? ⟨b, 2, none⟩ = some (.slice A2 n c2) ∧ wx.cell? ⟨b, 3, none⟩ = some (.slice A3 n3 c3)) := fun wx hx => by
      have y := hF.out.box.below (hbD.trans (hx.mono hbD.size)) hF.out.box.lt
      exact ⟨y.c0, y.c1, y.c2, y.c3⟩
    have hrD : Hid (LtsBox wD (w.heap.size + 1) 0 0 none 0 0 none 0 0) := by
      show LtsBox _ _ _ _ _ _ _ _ _ _
      have y := hr2.out.below hF.out.below hr2.out.lt
      have y2 := y.below hbD y.lt
      rwa [zB.out] at y2
    have hbne : b ≠ w.heap.size + 1 := by
      have := hF.out.base
      have := hr2.out.lt
      have := zB.out
      omega
    have hSPa : ∀ (wx : World) (u0 u1 u2 u3 : Value), (wx.cell? ⟨b, 0, none⟩ = some (.int .i64 (mR : Int)) ∧ wx.cell? ⟨b, 1, none⟩ = some (.int .i64 (iR : Int)) ∧ wx.cell? ⟨b, 2, none⟩ = some (.slice A2 n c2) ∧ wx.cell? ⟨b, 3, none⟩ = some (.slice A3 n3 c3)) → ((put4 wx (w.heap.size + 1) u0 u1 u2 u3).cell? ⟨b, 0, none⟩ = some (.int .i64 (mR : Int)) ∧ (put4 wx (w.heap.size + 1) u0 u1 u2 u3).cell? ⟨b, 1, none⟩ = some (.int .i64 (iR : Int)) ∧ (put4 wx (w.heap.size + 1) u0 u1 u2 u3).cell? ⟨b, 2, none⟩ = some (.slice A2 n c2) ∧ (put4 wx (w.heap.size + 1) u0 u1 u2 u3).cell? ⟨b, 3, none⟩ = some (.slice A3 n3 c3)) := fun wx u0 u1 u2 u3 hs =>
      ⟨put4_cell _ _ _ _ _ _ hbne hs.1, put4_cell _ _ _ _ _ _ hbne hs.2.1, put4_cell _ _ _ _ _ _ hbne hs.2.2.1, put4_cell _ _ _ _ _ _ hbne hs.2.2.2⟩
    have hmb := (hSy.out _ (Below.refl _ _)).bounds
    have hqS := hide (strong_calls (hSy.out _ (Below.refl _ _)) c2 c3)
    have hbwD := hide (hbBh.out.trans ((hbBc.trans (hbD.mono hbBc.size)).mono hbBh.out.size))
    replace hwD := hide hwD
    replace hmR := hide hmR
    replace hiRe := hide hiRe
    clear hSS hRe hPa hF hSc hbD hbBc hW hpv hp0
    go_upto_region 4 with fail
    refine lateT_begin (S := fun w' => w'.cell? ⟨b, 0, none⟩ = some (.int .i64 (mR : Int)) ∧ w'.cell? ⟨b, 1, none⟩ = some (.int .i64 (iR : Int)) ∧ w'.cell? ⟨b, 2, none⟩ = some (.slice A2 n c2) ∧ w'.cell? ⟨b, 3, none⟩ = some (.slice A3 n3 c3)) (st := 5) (by kernel_rfl) ?_
    rw [← show wD = _ from hwD.out]
    have hS0 : (fun w' : World => w'.cell? ⟨b, 0, none⟩ = some (.int .i64 (mR : Int)) ∧ w'.cell? ⟨b, 1, none⟩ = some (.int .i64 (iR : Int)) ∧ w'.cell? ⟨b, 2, none⟩ = some (.slice A2 n c2) ∧ w'.cell? ⟨b, 3, none⟩ = some (.slice A3 n3 c3)) wD := hSD.out _ (Below.refl _ _)
    refine lateT_take (i := 0) (oi := _) (v := ?_) [5] rfl (by kernel_rfl) (by kernel_rfl) (by kernel_rfl) (by kernel_rfl) (fun _ _ _ h => h) (Or.inl ⟨by rfl, ?hy⟩) hS0 ?_
    case hy => (intro w9 hSw; obtain ⟨s0, s1, s2, s3⟩ := hSw; go_simp <;> with_reducible rfl)
    (try simp only [Act.put, List.setIfInBounds_toArray, List.set_cons_zero, List.set_cons_succ])
    refine lateT_take (i := 1) (oi := _) (v := ?_) [5] rfl (by kernel_rfl) (by kernel_rfl) (by kernel_rfl) (by kernel_rfl) (fun _ _ _ h => h) (Or.inl ⟨by rfl, ?hy⟩) hS0 ?_
    case hy => (intro w9 hSw; obtain ⟨s0, s1, s2, s3⟩ := hSw; go_simp <;> with_reducible rfl)
    (try simp only [Act.put, List.setIfInBounds_toArray, List.set_cons_zero, List.set_cons_succ])
    refine lateT_step (i := 2) (by kernel_rfl) rfl (fun K hK => ?_)
    go_simp
    go_at_call 64
    (with_reducible refine hqS.out.mono ?_)
    rintro e w5 ⟨r, P, cP, rfl, hLr, hP5, hb5, -⟩
    have hqQ := hide (quotient_calls (hSy.out _ hb5) c2 c3 P cP (rndP E1 mR r) hP5.here' (fun x hx => by have := (rnd_part r).range x hx; omega) 89 #[] (fun _ => true) (fun v W => by kernel_rfl) (fun e W _ _ => minS1_calls e W))
    have hb5h := hide hb5
    replace hLr := hide hLr
    clear hP5 hb5
    (try go_wp2_with fail)
    refine hK.out _ _ (fun _ => hSD.out _ hb5h.out) ?_
    clear hK K
    (try simp only [Act.put, List.setIfInBounds_toArray, List.set_cons_zero, List.set_cons_succ])
    refine lateT_step (i := 3) (by kernel_rfl) rfl (fun K hK => ?_)
    go_simp
    go_at_call 88
    (with_reducible refine hqQ.out.mono ?_)
    rintro e w6 ⟨M, A4, c4, A5, n5, c5, hM, rfl, hS6, hE6, hb6⟩
    have hb56 := hide (hb5h.out.trans (hb6.mono hb5h.out.size))
    have hS6 := hide hS6
    have hE6 := hide hE6
    have hb6 := hide hb6
    have hr6 := hrD.out.below hb56.out hrD.out.lt
    have r0 := hr6.c0
    have r1 := hr6.c1
    have r2 := hr6.c2
    have r3 := hr6.c3
    have v0 := hr6.f0
    have v1 := hr6.f1
    have v2 := hr6.f2
    have v3 := hr6.f3
    have hSP := hide (hSPa w6 (.int .i64 (M + 1)) (.int .i64 (pv (rndP E1 mR r) (iR : Int))) (.slice A4 n c4) (.slice A5 n5 c5) (hSD.out _ hb56.out))
    (try go_wp2_with fail)
    refine hK.out _ _ (fun _ => hSD.out _ hb56.out) ?_
    clear hK K
    (try simp only [Act.put, List.setIfInBounds_toArray, List.set_cons_zero, List.set_cons_succ])
    refine lateT_step (i := 4) (by kernel_rfl) rfl (fun K hK => ?_)
    go_simp
    refine hK.out _ _ (fun _ => hSP.out) ?_
    clear hK K
    (try simp only [Act.put, List.setIfInBounds_toArray, List.set_cons_zero, List.set_cons_succ])
    refine lateT_step (i := 5) (by kernel_rfl) rfl (fun K hK => ?_)
    go_simp
    refine hK.out _ _ (fun h => absurd rfl h) ?_
    clear hK K
    (try simp only [Act.put, List.setIfInBounds_toArray, List.set_cons_zero, List.set_cons_succ])
    refine lateT_done (by kernel_rfl) ?_ _
    go_wp2_with fail
    (try simp only [Exit.inBlock, Exit.then])
    refine bodyPost_ret_by (v := .tuple #[.agg #[.int .i64 (M + 1), .int .i64 (pv (rndP E1 mR r) (iR : Int)), .slice A4 n c4, .slice A5 n5 c5], .int .i64 0]) ?_ rfl ?_
    focus
      rw [results_cs rfl]
      go_simp
    rw [hmR.out, hiRe.out, ← hE1.out]
    have hZs := put4_size w6 (w.heap.size + 1) (.int .i64 (M + 1)) (.int .i64 (pv (rndP E1 mR r) (iR : Int))) (.slice A4 n c4) (.slice A5 n5 c5)
    have hz6 := hb6.out.size
    have hz5 := hb5h.out.size
    have hzD := hbwD.out.size
    have hzr := hrD.out.lt
    have hf : ∀ q, q ≠ w.heap.size + 1 → (put4 w6 (w.heap.size + 1) (.int .i64 (M + 1)) (.int .i64 (pv (rndP E1 mR r) (iR : Int))) (.slice A4 n c4) (.slice A5 n5 c5)).heap[q]? = w6.heap[q]? := fun q hq => put4_other _ _ _ _ _ _ hq
    have hbF := hbwD.out.trans (hb56.out.mono hzD)
    refine ⟨r, M, A4, c4, A5, n5, c5, hLr.out, hM, rfl, ?_, ?_, ?_⟩
    · change SlS (put4 w6 (w.heap.size + 1) _ _ _ _) _ (put4 w6 (w.heap.size + 1) _ _ _ _).heap.size _ _ _
      exact (Sl.keep hS6.out (by omega) fun q h1 h2 h3 => hf q (by omega)).more (by omega) (by omega)
    · change SlE (put4 w6 (w.heap.size + 1) _ _ _ _) _ (put4 w6 (w.heap.size + 1) _ _ _ _).heap.size _ _ _
      exact (Sl.keep hE6.out (by omega) fun q h1 h2 h3 => hf q (by omega)).more (by omega) (by omega)
    · change Below _ _ (put4 w6 (w.heap.size + 1) _ _ _ _)
      exact ⟨hbF.os, hbF.tape, hbF.output, by omega, fun q hq => (hf q (by omega)).trans (hbF.block q hq)⟩
end Go.Proofs.YtnhomkmfbngmgaaGreatDoor

namespace Go.Proofs.YtnhomkmfbngmgaaGreatDoor
open Go.ChangeShapes Go.WideShapes Go.ChangeAt Go.RowKit Go.Sort Go.Lib
set_option linter.unusedVariables false
set_option linter.unusedSimpArgs false

set_option maxRecDepth 100000 in
set_option maxHeartbeats 1600000 in
theorem isStableP_calls {w : World} {N ini : Nat} {A : Option Addr} {n : Nat} {B : Option Addr} {m : Nat} {ls : List ByteArray} {es : List Ed} (h : SysA w N ini A n B m ls es) (c d : Nat) (he : Env w) (P : Option Addr) (cp : Nat) (p : List Int) (hP : SlI w 0 w.heap.size P N p) (hp : PartN N p) :
    Calls Tryz.prog 30 #[.agg #[.int .i64 (N : Int), .int .i64 (ini : Int), .slice A n c, .slice B m d], .slice P N cp] w fun e w' => e = .returned (.bool (decide (refF es N p = p))) ∧ Below w.heap.size w w' := by
  have hB := h.box (c := c) (d := d)
  obtain ⟨w1, hw1⟩ : ∃ w1, w1 = w.alloc (ltsC N ini A n c B m d) := ⟨_, rfl⟩
  rw [← hw1] at hB
  have hP1 := (hP.below hB.bel (.inr (Nat.le_refl _))).here'
  have q1 := hide (ltsPartition_calls hB.sys c d (he.below hB.bel (Nat.le_refl _)) P cp p hP1 hp)
  have b0 := hB.box.c0
  have b1 := hB.box.c1
  have b2 := hB.box.c2
  have b3 := hB.box.c3
  obtain ⟨hm, hn12, hn1, hle, hll⟩ := h.many
  replace hB := hide hB
  replace hP1 := hide hP1
  clear h he hP
  go_enter Tryz.func30, Tryz.ntmps30
  go_upto_region 1 with fail
  rw [← show w1 = w.alloc (.cells #[.int .i64 (N : Int), .int .i64 (ini : Int), .slice A n c, .slice B m d] 27) from hw1]
  replace hw1 := hide hw1
  go_wp2_with fail
  refine q1.out.mono ?_
  rintro e w2 ⟨rfl, hb2⟩
  have hB2 := hide (hB.out.below hb2)
  have hP2 := hide ((hP1.out.below hb2 (.inr (Nat.le_refl _))).here')
  clear q1 b0 b1 b2 b3 hb2
  have b0 := hB2.out.box.c0
  have b1 := hB2.out.box.c1
  have b2 := hB2.out.box.c2
  have b3 := hB2.out.box.c3
  have hbo := hB2.out.sys.bounds
  have q2 := hide (refine_calls N ini A n c B m d P cp es p w2 _ _ _ _ hB2.out.sys.se hP2.out (by omega) hbo.1.1 hbo.1.2 hB2.out.sys.edges hB2.out.sys.fewL hp.range)
  have hz2 := hB2.out.bel.size
  go_wp2_with fail
  refine q2.out.mono ?_
  rintro e w3 ⟨Q, rfl, hQ, hb3⟩
  have q3 := hide (equalI_calls (some ⟨Q, 0, none⟩) P N N N cp (refF es N p) p w3 _ _ _ _ hQ (hP2.out.below hb3 (.inr (Nat.le_refl _))) (by omega) (by omega))
  have hbF := hide (hB2.out.bel.trans (hb3.mono hz2))
  clear q2 b0 b1 b2 b3 hQ hb3
  go_wp2_with fail
  refine q3.out.mono ?_
  rintro e w4 ⟨rfl, hb4⟩
  have hbG := hide (hbF.out.trans (hb4.mono hbF.out.size))
  clear q3 hb4
  go_wp2_with fail
  go_ret
  exact ⟨rfl, hbG.out⟩
end Go.Proofs.YtnhomkmfbngmgaaGreatDoor

namespace Go.Proofs.YtnhomkmfbngmgaaGreatDoor
open Go.ChangeShapes Go.WideShapes Go.ChangeAt Go.RowKit Go.Sort Go.Lib
set_option linter.unusedVariables false
set_option linter.unusedSimpArgs false

/-- The last round's partition of the reachable part. -/
noncomputable def minP (N ini r : Nat) (es : List Ed) : List Int := rndP (partF (reachF N es (ini : Int)) es) (reachF N es (ini : Int)).length r
noncomputable def minE (N ini r : Nat) (es : List Ed) : List Ed := quoF (minP N ini r es) (fun _ => true) (partF (reachF N es (ini : Int)) es)
theorem reach_len {N : Nat} {es : List Ed} {ini : Int} : (reachF N es ini).length ≤ N := by
  unfold reachF
  rw [List.length_map]
  exact Nat.le_trans (List.length_filter_le _ _) (by simp)
set_option maxRecDepth 100000 in
theorem minimalS_calls {w : World} {N ini : Nat} {A : Option Addr} {n : Nat} {B : Option Addr} {m : Nat} {ls : List ByteArray} {es : List Ed} (h : SysA w N ini A n B m ls es) (c d : Nat) (he : Env w) :
    Calls Tryz.prog 32 #[.agg #[.int .i64 (N : Int), .int .i64 (ini : Int), .slice A n c, .slice B m d]] w fun e w' => ∃ (r c0 iR : Nat) (A2 : Option Addr) (c2 : Nat) (A3 : Option Addr) (n3 d3 : Nat),
      e = .returned (.tuple #[.agg #[.int .i64 ((numB (minP N ini r es) : Nat) : Int), .int .i64 (c0 : Int), .slice A2 n c2, .slice A3 n3 d3], .int .i64 0]) ∧ SysA w' (numB (minP N ini r es)) c0 A2 n A3 n3 ls (minE N ini r es) ∧
      LastR (partF (reachF N es (ini : Int)) es) (reachF N es (ini : Int)).length r ∧ posZ (reachF N es (ini : Int)) (ini : Int) = (iR : Int) ∧ pv (minP N ini r es) (iR : Int) = (c0 : Int) ∧ Below w.heap.size w w' := by
  have hini := h.bounds.2
  have hiR := reach_ini (es := es) hini
  have hRl := Nat.le_trans (reach_len (N := N) (es := es) (ini := (ini : Int))) h.bounds.1.2
  obtain ⟨hv1, hv0⟩ := part_valid h.ok reach_nodup hRl hiR
  obtain ⟨iR, hiRe⟩ : ∃ k : Nat, posZ (reachF N es (ini : Int)) (ini : Int) = (k : Int) := ⟨(posZ (reachF N es (ini : Int)) (ini : Int)).toNat, by omega⟩
  rw [hiRe] at hv1
  refine (minimalStrong_calls h c d he _ rfl hiR).mono ?_
  rintro e w' ⟨r, M, A2, c2, A3, n3, c3, hL, hM, rfl, hS, hE, hb⟩
  have hp := rnd_part (es := partF (reachF N es (ini : Int)) es) (N := (reachF N es (ini : Int)).length) r
  have hMn := max_numB hp hM
  obtain ⟨hv2, hv3⟩ := quo_valid hv1 hp hM
  rw [hiRe]
  obtain ⟨c0, hc0⟩ : ∃ k : Nat, pv (rndP (partF (reachF N es (ini : Int)) es) (reachF N es (ini : Int)).length r) (iR : Int) = (k : Int) := ⟨(pv (rndP (partF (reachF N es (ini : Int)) es) (reachF N es (ini : Int)).length r) (iR : Int)).toNat, by omega⟩
  rw [hMn, hc0] at hv2
  refine ⟨r, c0, iR, A2, c2, A3, n3, c3, by rw [hMn, hc0]; rfl, ⟨hS.here', hE.here', hv2, h.sz⟩, hL, rfl, hc0, hb⟩
/-- AreBisimilar says yes of a system and its minimal one. -/
theorem alike_min {N ini r c0 iR r2 : Nat} {ls : List ByteArray} {es : List Ed} (hls : ls.length ≤ 100)
    (ha : ∀ e, e ∈ es → (0 ≤ e.1 ∧ e.1 < (N : Int)) ∧ (0 ≤ e.2.1 ∧ e.2.1 < (ls.length : Int)) ∧ (0 ≤ e.2.2 ∧ e.2.2 < (N : Int)))
    (hb : ∀ e, e ∈ minE N ini r es → (0 ≤ e.1 ∧ e.1 < (numB (minP N ini r es) : Int)) ∧ (0 ≤ e.2.1 ∧ e.2.1 < (ls.length : Int)) ∧ (0 ≤ e.2.2 ∧ e.2.2 < (numB (minP N ini r es) : Int)))
    (he : EdIn N es) (hini : ini < N) (hc : c0 < numB (minP N ini r es)) (hL : LastR (partF (reachF N es (ini : Int)) es) (reachF N es (ini : Int)).length r) (hi : posZ (reachF N es (ini : Int)) (ini : Int) = (iR : Int)) (hp : pv (minP N ini r es) (iR : Int) = (c0 : Int))
    (hL2 : LastR (uniE ls es ls (minE N ini r es) N) (N + numB (minP N ini r es)) r2) :
    (rndP (uniE ls es ls (minE N ini r es) N) (N + numB (minP N ini r es)) r2)[ini]? = (rndP (uniE ls es ls (minE N ini r es) N) (N + numB (minP N ini r es)) r2)[N + c0]? :=
  (uni_alike hls hls ha hb hL2 hini hc).2 (bis_tE (min_bis he rfl reach_nodup hini hL hi hp))
end Go.Proofs.YtnhomkmfbngmgaaGreatDoor

namespace Go.Proofs.YtnhomkmfbngmgaaGreatDoor
open Go.ChangeShapes Go.WideShapes Go.Deep Go.RowKit
set_option linter.unusedVariables false

theorem u8_wf {n : Int} (h : (Lit.int .u8 n).wf = true) : 0 ≤ n ∧ n ≤ 255 := by
  simp [Lit.wf, IntKind.min, IntKind.max, IntKind.signed, IntKind.bits] at h
  omega
section
variable {H : Type} {enc : TypeId × Value → H} {P : Program} {w : World} {base : Nat} {spare : Nat → Bool} {held : Bool}
theorem open_SlU {t e : TypeId} (ht : P.underlying t = some (.slice e)) (hC : P.cellsOf e = 1) (hi : P.underlying e = some (.int .u8)) {v : Value} {d : DataW H} {p : List MemPlace} (h : DataW.Trod enc P w base spare held t v d p)
    {n' c' : Nat} {A' : Option Addr} (hv : v = .slice A' n' c') (hz : ∀ b off, MemPlace.cell b off ∈ p → w.frozen? ⟨b, off, none⟩ = false) : ∃ A n c l, v = .slice A n c ∧ n ≤ maxLen ∧ SlU w base w.heap.size A n l ∧ ∀ x, x ∈ l → 0 ≤ x ∧ x ≤ 255 := by
  obtain ⟨fuel, hf⟩ := h
  have key := open_flat (w := w) (base := base) (spare := spare) (held := held) (fun x : {n : Int // 0 ≤ n ∧ n ≤ 255} => byv x.1) ht hC (by omega) (fun fuel cs y hy hl => by
    obtain ⟨a, ea, _, hw⟩ := DataW.trod_int hi hy
    exact ⟨⟨a, u8_wf hw⟩, ea⟩) hf hz
  obtain ⟨A, n, c, l, e1, e2, e3⟩ := key
  subst hv
  simp [Value.cells] at e1
  refine ⟨A, n, c, l.map Subtype.val, by simp [e1], e2, ⟨by rw [List.length_map]; exact e3.1, fun hn => ?_⟩, fun x hx => ?_⟩
  · obtain ⟨b, off, q1, q2, q3, q4, q5⟩ := e3.2 hn
    refine ⟨b, off, q1, q2, q3, q4, fun k x hx j u hu => ?_⟩
    rw [List.getElem?_map] at hx
    cases hk : l[k]? with
    | none => rw [hk] at hx; cases hx
    | some y =>
      rw [hk] at hx
      cases hx
      exact q5 k y hk j u hu
  · obtain ⟨y, -, rfl⟩ := List.mem_map.1 hx
    exact y.2
end

end Go.Proofs.YtnhomkmfbngmgaaGreatDoor

namespace Go.Proofs.YtnhomkmfbngmgaaGreatDoor.lawFnStrong
open Go.ChangeShapes Go.WideShapes Go.ChangeAt Go.RowKit
set_option linter.unusedVariables false
set_option linter.unusedSimpArgs false

set_option maxRecDepth 100000 in
set_option maxHeartbeats 12800000 in
theorem walk (A B : Option Addr) (n m c d : Nat) (code more : List Int) (w : World) (he : Env w) (h1 : SlU w 0 w.heap.size A n code) (r1 : ∀ x, x ∈ code → 0 ≤ x ∧ x ≤ 255) (hn : n ≤ maxLen) (h2 : SlU w 0 w.heap.size B m more) (r2 : ∀ x, x ∈ more → 0 ≤ x ∧ x ≤ 255) (hm : m ≤ maxLen) :
    Calls Tryz.prog 5 #[.slice A n c, .slice B m d] w fun e w' => e = .returned (.bool true) ∧ Below w.heap.size w w' := by
  by_cases big : 1048576 < n ∨ 1048576 < m
  · have q := hide (fun W => r8Long_yes A B n m c d W big)
    go_enter Tryz.func5, Tryz.ntmps5
    go_wp2_with (first | (go_at_call 10; (with_reducible refine (q.out _).mono ?_); rintro e w' ⟨rfl, rfl⟩))
    go_ret
    exact ⟨rfl, Below.refl _ _⟩
  have q0 := hide (fun W => r8Long_no A B n m c d W (by omega) (by omega))
  have q1 := hide (R8Lts_calls A n c code w h1 r1 hn)
  replace he := hide he
  replace h2 := hide h2
  clear h1
  go_enter Tryz.func5, Tryz.ntmps5
  go_upto_region 3 with (first | (go_at_call 10; (with_reducible refine (q0.out _).mono ?_); rintro e w' ⟨rfl, rfl⟩))
  clear q0
  go_wp2_with fail
  refine q1.out.mono ?_
  rintro e w1 ⟨N, ini, A2, n2, c2, B2, m2, d2, ls, es, rfl, hsys, hN7, hn7, hm64, hnam, hb1⟩
  have he1 := he.out.below hb1 (Nat.le_refl _)
  have hB := hsys.box (c := c2) (d := d2)
  obtain ⟨w2, hw2⟩ : ∃ w2, w2 = w1.alloc (ltsC N ini A2 n2 c2 B2 m2 d2) := ⟨_, rfl⟩
  rw [← hw2] at hB
  have he2 := hide (he1.below hB.bel (Nat.le_refl _))
  have q2 := hide (strongClasses_calls hB.sys c2 d2 he2.out)
  have b0 := hB.box.c0
  have b1 := hB.box.c1
  have b2 := hB.box.c2
  have b3 := hB.box.c3
  obtain ⟨⟨hN1, -⟩, hini⟩ := hsys.bounds
  have h22 := hide ((h2.out.below (hb1.trans (hB.bel.mono hb1.size)) (.inl (Nat.le_refl _))).here')
  have hed := hide hsys.edges
  have hthr := hide hsys.three
  have hman := hsys.many
  have hbl0 := hide (hb1.trans (hB.bel.mono hb1.size))
  replace hB := hide hB
  replace hb1 := hide hb1
  replace hnam := hide hnam
  clear q1 hsys he1 h2
  go_upto_region 4 with fail
  rw [← show w2 = w1.alloc (.cells #[.int .i64 (N : Int), .int .i64 (ini : Int), .slice A2 n2 c2, .slice B2 m2 d2] 27) from hw2]
  replace hw2 := hide hw2
  go_wp2_with fail
  refine q2.out.mono ?_
  rintro e w3 ⟨r, P, cP, rfl, hL, hP, hb3, -⟩
  have hB3 := hide (hB.out.below hb3)
  have he3 := hide (he2.out.below hb3 (Nat.le_refl _))
  have h23 := hide ((h22.out.below hb3 (.inr (Nat.le_refl _))).here')
  have hbl3 := hide (hbl0.out.trans (hb3.mono hbl0.out.size))
  have hP3 := hide hP.here'
  have hpp := rnd_part (es := es) (N := N) r
  have q3 := isStableP_calls hB3.out.sys c2 d2 he3.out P cP (rndP es N r) hP3.out hpp
  rw [decide_eq_true (show refF es N (rndP es N r) = rndP es N r from hL.1)] at q3
  obtain ⟨p, hpe⟩ : ∃ p, p = rndP es N r := ⟨_, rfl⟩
  rw [← hpe] at hpp hP3
  replace q3 := hide q3
  replace hL := hide hL
  replace hpp := hide hpp
  replace hpe := hide hpe
  clear q2 b0 b1 b2 b3 hb3 hP
  have b0 := hB3.out.box.c0
  have b1 := hB3.out.box.c1
  have b2 := hB3.out.box.c2
  have b3 := hB3.out.box.c3
  have hNN : ((N : Int) != (N : Int)) = false := by simp
  go_wp2_with fail
  refine q3.out.mono ?_
  rintro e w4 ⟨rfl, hb4⟩
  have hB4 := hide (hB3.out.below hb4)
  have he4 := hide (he3.out.below hb4 (Nat.le_refl _))
  have h24 := hide ((h23.out.below hb4 (.inr (Nat.le_refl _))).here')
  have hP4 := hide ((hP3.out.below hb4 (.inr (Nat.le_refl _))).here')
  have hbl4 := hide (hbl3.out.trans (hb4.mono hbl3.out.size))
  have q4 := hide (R8Part_calls hB4.out.sys c2 d2 B m d more h24.out r2 hm)
  clear q3 b0 b1 b2 b3 hb4
  have b0 := hB4.out.box.c0
  have b1 := hB4.out.box.c1
  have b2 := hB4.out.box.c2
  have b3 := hB4.out.box.c3
  go_wp2_with fail
  refine q4.out.mono ?_
  rintro e w5 ⟨Q, cQ, q, rfl, hQ, hqp, hb5⟩
  have hB5 := hide (hB4.out.below hb5)
  have he5 := hide (he4.out.below hb5 (Nat.le_refl _))
  have hP5 := hide ((hP4.out.below hb5 (.inr (Nat.le_refl _))).here')
  have hbl5 := hide (hbl4.out.trans (hb5.mono hbl4.out.size))
  have q5 := hide (isStableP_calls hB5.out.sys c2 d2 he5.out Q cQ q hQ hqp)
  replace hQ := hide hQ
  replace hqp := hide hqp
  clear q4 b0 b1 b2 b3 hb5
  have b0 := hB5.out.box.c0
  have b1 := hB5.out.box.c1
  have b2 := hB5.out.box.c2
  have b3 := hB5.out.box.c3
  go_upto_region 8 with fail
  go_upto_if 47 with (first | (go_at_call 30; (with_reducible refine q5.out.mono ?_); rintro e w6 ⟨rfl, hb6⟩; replace hb6 := hide hb6))
  go_cut [] (fun wx => Hid (Below w5.heap.size w5 wx))
  case first =>
    clear q5 b0 b1 b2 b3
    by_cases hst : refF es N q = q
    · rw [decide_eq_true hst]
      have hfine : Hid (∀ i j, i < N → j < N → q[i]? = q[j]? → p[i]? = p[j]?) := fun i j hi hj hs => by
        rw [hpe.out]
        exact stable_fine hed.out hqp.out hst r hi hj hs
      replace hst := hide hst
      go_wp2_with fail
      go_loopw [9] (fun v9 wr => ∃ i : Nat, i ≤ N ∧ v9 = .int .i64 (i : Nat) ∧ Hid (Below w5.heap.size w5 wr)) (fun v _ => N - (intOf v).toNat)
      case atStart => exact ⟨0, Nat.zero_le _, rfl, hb6.out⟩
      case round =>
        obtain ⟨i, hi, rfl, hb⟩ := hrel
        have hqlen := hqp.out.len
        have hql := hide hqlen
        clear hqlen
        by_cases hlt : i < N
        · have i0 : (0 : Int) ≤ (i : Int) := by omega
          have i1 : (i : Int) < (N : Int) := by omega
          obtain ⟨wO, rfl⟩ : ∃ wO : World, wO = wr := ⟨_, rfl⟩
          have hbO := hb
          clear hb
          go_wp2_with fail
          go_loopw [10] (fun v10 wr => ∃ k : Nat, k ≤ i ∧ v10 = .int .i64 (k : Nat) ∧ Hid (Below w5.heap.size w5 wr)) (fun v _ => i - (intOf v).toNat)
          case atStart => exact ⟨0, Nat.zero_le _, rfl, hbO.out⟩
          case round =>
            obtain ⟨k, hk, rfl, hb⟩ := hrel
            by_cases hki : k < i
            · have k0 : (0 : Int) ≤ (k : Int) := by omega
              have k1 : (k : Int) < (i : Int) := by omega
              have k2 : (k : Int) < (N : Int) := by omega
              obtain ⟨gQ, oQ, qi, rfl, -, -, hgQ, hqi, cqi, -⟩ := SlI.get hQ.out hlt
              obtain ⟨gQ2, oQ2, qk, e2, -, -, -, hqk, cqk, -⟩ := SlI.get hQ.out (show k < N by omega)
              cases e2
              obtain ⟨gP, oP, pi, rfl, -, -, hgP, hpi, cpi, -⟩ := SlI.get hP5.out hlt
              obtain ⟨gP2, oP2, pk, e2, -, -, -, hpk, cpk, -⟩ := SlI.get hP5.out (show k < N by omega)
              cases e2
              replace cqi := (hb.out.cell (p := ⟨gQ, oQ + i, none⟩) hgQ).trans cqi
              replace cqk := (hb.out.cell (p := ⟨gQ, oQ + k, none⟩) hgQ).trans cqk
              replace cpi := (hb.out.cell (p := ⟨gP, oP + i, none⟩) hgP).trans cpi
              replace cpk := (hb.out.cell (p := ⟨gP, oP + k, none⟩) hgP).trans cpk
              have hfi := hfine.out i k hlt (by omega)
              rw [hqi, hqk, hpi, hpk] at hfi
              replace hqi := hide hqi
              replace hqk := hide hqk
              replace hpi := hide hpi
              replace hpk := hide hpk
              have hzr := hb.out.size
              by_cases hqq : qi = qk
              · have hpq : pi = pk := Option.some.inj (hfi (by rw [hqq]))
                subst hqq
                subst hpq
                have g1 : (qi == qi) = true := by simp
                have g2 : (pi != pi) = false := by simp
                replace hfi := hide hfi
                go_upto_region 15 with fail
                go_quiet (fail)
                go_wp2_with fail
                go_roundw
                case rel => exact ⟨k + 1, by omega, by go_num, hb.out.trans ((below_drewN wr nq).mono hzr)⟩
                case measure => simp [intOf]; omega
              · have g1 : (qi == qk) = false := beq_eq_false_iff_ne.2 hqq
                replace hfi := hide hfi
                replace hqq := hide hqq
                go_upto_region 15 with fail
                go_quiet (fail)
                go_wp2_with fail
                go_roundw
                case rel => exact ⟨k + 1, by omega, by go_num, hb.out.trans ((below_drewN wr nq).mono hzr)⟩
                case measure => simp [intOf]; omega
            · obtain rfl : k = i := by omega
              have k1 : ¬ (k : Int) < (k : Int) := by omega
              go_wp2_with fail
              go_roundw
              case rel => exact ⟨k + 1, by omega, by go_num, hb.out⟩
              case measure => simp [intOf]; omega
        · have i1 : ¬ (i : Int) < (N : Int) := by omega
          go_wp2_with fail
          go_meet
          exact hb.out
    · rw [decide_eq_false hst]
      replace hst := hide hst
      go_wp2_with fail
      go_meet
      exact hb6.out
  case rest =>
  have hbc := hcut
  have hBc := hide (hB5.out.below hbc.out)
  have hec := hide (he5.out.below hbc.out (Nat.le_refl _))
  have hblc := hide (hbl5.out.trans (hbc.out.mono hbl5.out.size))
  have q6 := hide (minimalS_calls hBc.out.sys c2 d2 hec.out)
  clear q5 b0 b1 b2 b3
  have b0 := hBc.out.box.c0
  have b1 := hBc.out.box.c1
  have b2 := hBc.out.box.c2
  have b3 := hBc.out.box.c3
  go_upto_region 17 with fail
  go_wp2_with fail
  refine q6.out.mono ?_
  rintro e w7 ⟨r3, c0, iR, A4, c4, A5, n5, d5, rfl, hsM, hL3, hiR, hc0, hb7⟩
  have hb3l := hsM.bounds
  have hNM : numB (minP N ini r3 es) ≤ 7 := by
    have h1 := numB_le (minP N ini r3 es)
    have h2 : (minP N ini r3 es).length = (reachF N es (ini : Int)).length := (rnd_part r3).len
    have h3 := reach_len (N := N) (es := es) (ini := (ini : Int))
    omega
  obtain ⟨NM, hNMe⟩ : ∃ NM, NM = numB (minP N ini r3 es) := ⟨_, rfl⟩
  have hsM0 := hsM
  have hthM := hsM.three
  rw [← hNMe] at hsM hNM hb3l hthM
  have hBM := hsM.box (c := c4) (d := d5)
  obtain ⟨w8, hw8⟩ : ∃ w8, w8 = w7.alloc (ltsC NM c0 A4 n2 c4 A5 n5 d5) := ⟨_, rfl⟩
  rw [← hw8] at hBM
  have hB7 := hide ((hBc.out.below hb7).below hBM.bel)
  have hb7z := hb7.size
  have he8 := hide ((hec.out.below hb7 (Nat.le_refl _)).below hBM.bel (Nat.le_refl _))
  have hbl8 := hide (hblc.out.trans ((hb7.trans (hBM.bel.mono hb7.size)).mono hblc.out.size))
  have q7 := hide (areBis_calls hB7.out.sys hBM.sys c2 d2 c4 d5 he8.out (by omega))
  have q8 := hide (fun (w9 : World) (hb9 : Below w8.heap.size w8 w9) => strongClasses_calls (hBM.sys.below hb9 (Nat.le_refl _)) c4 d5 (he8.out.below hb9 (Nat.le_refl _)))
  obtain ⟨bM, hbM⟩ : ∃ bM, bM = w7.heap.size := ⟨_, rfl⟩
  have hMx := hide (fun (w9 : World) (hb9 : Below w8.heap.size w8 w9) => (show LtsBox w9 bM (NM : Int) (c0 : Int) A4 n2 c4 A5 n5 d5 by rw [hbM]; exact (hBM.below hb9).box))
  have hbMl : bM < w8.heap.size := by rw [hbM]; exact hBM.lt
  have hNMh := hide hNMe
  replace hL3 := hide hL3
  replace hiR := hide hiR
  replace hc0 := hide hc0
  replace hthM := hide hthM
  clear q6 b0 b1 b2 b3 hb7 hsM hsM0 hBM
  have b0 := hB7.out.box.c0
  have b1 := hB7.out.box.c1
  have b2 := hB7.out.box.c2
  have b3 := hB7.out.box.c3
  obtain ⟨m0, m1, m2', m3⟩ : w8.cell? ⟨bM, 0, none⟩ = some (.int .i64 (NM : Int)) ∧ w8.cell? ⟨bM, 1, none⟩ = some (.int .i64 (c0 : Int)) ∧ w8.cell? ⟨bM, 2, none⟩ = some (.slice A4 n2 c4) ∧ w8.cell? ⟨bM, 3, none⟩ = some (.slice A5 n5 d5) := by
    have := hMx.out w8 (Below.refl _ _)
    exact ⟨this.c0, this.c1, this.c2, this.c3⟩
  go_upto_region 18 with fail
  rw [← hNMe]
  clear hNMe
  rw [← show w8 = w7.alloc (.cells #[.int .i64 (NM : Int), .int .i64 (c0 : Int), .slice A4 n2 c4, .slice A5 n5 d5] 27) from hw8, ← hbM]
  replace hw8 := hide hw8
  replace hbM := hide hbM
  go_wp2_with fail
  refine q7.out.mono ?_
  rintro e w9 ⟨r4, rfl, hL4, hb9⟩
  have hyes : decide ((rndP (uniE ls es ls (minE N ini r3 es) N) (N + NM) r4)[ini]? = (rndP (uniE ls es ls (minE N ini r3 es) N) (N + NM) r4)[N + c0]?) = true := by
    have hthM2 := hthM.out
    rw [hNMh.out] at hL4 hthM2 ⊢
    exact decide_eq_true (alike_min (by omega) hthr.out hthM2 hed.out hini (by rw [← hNMh.out]; exact hb3l.2) hL3.out hiR.out hc0.out hL4)
  rw [hyes]
  have q8' := hide (q8.out w9 hb9)
  have hbl9 := hide (hbl8.out.trans (hb9.mono hbl8.out.size))
  obtain ⟨n0, n1, n2', n3⟩ : w9.cell? ⟨bM, 0, none⟩ = some (.int .i64 (NM : Int)) ∧ w9.cell? ⟨bM, 1, none⟩ = some (.int .i64 (c0 : Int)) ∧ w9.cell? ⟨bM, 2, none⟩ = some (.slice A4 n2 c4) ∧ w9.cell? ⟨bM, 3, none⟩ = some (.slice A5 n5 d5) := by
    have := hMx.out w9 hb9
    exact ⟨this.c0, this.c1, this.c2, this.c3⟩
  replace hb9 := hide hb9
  clear q7 q8 hL4 hyes b0 b1 b2 b3 m0 m1 m2' m3
  go_wp2_with fail
  refine q8'.out.mono ?_
  rintro e w10 ⟨r5, Q5, c5, rfl, hL5, hQ5, hb10, hc5⟩
  have hz9 := hb9.out.size
  have hsing : numB (rndP (minE N ini r3 es) NM r5) = NM := by
    have hR := part_in hed.out (reach_nodup (N := N) (es := es) (ini := (ini : Int)))
    rw [hNMh.out] at hL5 ⊢
    exact min_single hR hL3.out hL5
  obtain ⟨wD, hwD⟩ : ∃ wD, wD = w10.drew := ⟨_, rfl⟩
  have hbD : Below w10.heap.size w10 wD := by rw [hwD]; exact (Below.refl _ _).drew
  have q9 := r8Blocks_calls Q5 NM c5 _ wD _ _ (hQ5.below hbD (.inr (Nat.le_refl _))) hc5 (by omega)
  rw [hsing] at q9
  replace q9 := hide q9
  have hSS : Hid (∀ wx, Below wD.heap.size wD wx → wx.cell? ⟨bM, 0, none⟩ = some (.int .i64 (NM : Int))) := fun wx hx => (hMx.out wx (hb9.out.trans ((hb10.trans (hbD.trans (hx.mono hbD.size) |>.mono (Nat.le_refl _) |>.mono hb10.size)).mono hz9))).c0
  have hbl10 := hide (hbl9.out.trans ((hb10.trans (hbD.mono hb10.size)).mono hbl9.out.size))
  have g1 : ((NM : Int) == (NM : Int)) = true := by simp
  replace hwD := hide hwD
  replace hbD := hide hbD
  replace hb10 := hide hb10
  replace hQ5 := hide hQ5
  clear q8' n0 n1 n2' n3 hL5 hsing
  go_upto_region 20 with fail
  refine lateT_begin (S := fun w' => w'.cell? ⟨bM, 0, none⟩ = some (.int .i64 (NM : Int))) (st := 20) (by kernel_rfl) ?_
  rw [← show wD = _ from hwD.out]
  have hS0 : (fun w' : World => w'.cell? ⟨bM, 0, none⟩ = some (.int .i64 (NM : Int))) wD := hSS.out wD (Below.refl _ _)
  refine lateT_take (i := 0) (oi := _) (v := ?_) [20] rfl (by kernel_rfl) (by kernel_rfl) (by kernel_rfl) (by kernel_rfl) (fun _ _ _ h => h) (Or.inl ⟨by kernel_rfl, ?hy⟩) hS0 ?_
  case hy => (intro w' hSw; (try dsimp only at hSw); go_simp <;> with_reducible rfl)
  (try simp only [Act.put, List.setIfInBounds_toArray, List.set_cons_zero, List.set_cons_succ])
  refine lateT_take (i := 1) (oi := _) (v := ?_) [20] rfl (by kernel_rfl) (by kernel_rfl) (by kernel_rfl) (by kernel_rfl) (fun _ _ _ h => h) (Or.inl ⟨by kernel_rfl, ?hy⟩) hS0 ?_
  case hy => (intro w' hSw; (try dsimp only at hSw); go_simp <;> with_reducible rfl)
  (try simp only [Act.put, List.setIfInBounds_toArray, List.set_cons_zero, List.set_cons_succ])
  refine lateT_take (i := 2) (oi := _) (v := ?_) [20] rfl (by kernel_rfl) (by kernel_rfl) (by kernel_rfl) (by kernel_rfl) (fun _ _ _ h => h) (Or.inl ⟨by kernel_rfl, ?hy⟩) hS0 ?_
  case hy => (intro w' hSw; (try dsimp only at hSw); go_simp <;> with_reducible rfl)
  (try simp only [Act.put, List.setIfInBounds_toArray, List.set_cons_zero, List.set_cons_succ])
  refine lateT_take (i := 3) (oi := _) (v := ?_) [20] rfl (by kernel_rfl) (by kernel_rfl) (by kernel_rfl) (by kernel_rfl) (fun _ _ _ h => h) (Or.inl ⟨by kernel_rfl, ?hy⟩) hS0 ?_
  case hy => (intro w' hSw; (try dsimp only at hSw); go_simp <;> with_reducible rfl)
  (try simp only [Act.put, List.setIfInBounds_toArray, List.set_cons_zero, List.set_cons_succ])
  refine lateT_take (i := 4) (oi := _) (v := ?_) [20] rfl (by kernel_rfl) (by kernel_rfl) (by kernel_rfl) (by kernel_rfl) (fun _ _ _ h => h) (Or.inl ⟨by kernel_rfl, ?hy⟩) hS0 ?_
  case hy => (intro w' hSw; (try dsimp only at hSw); go_simp <;> with_reducible rfl)
  (try simp only [Act.put, List.setIfInBounds_toArray, List.set_cons_zero, List.set_cons_succ])
  refine lateT_take (i := 5) (oi := _) (v := ?_) [20] rfl (by kernel_rfl) (by kernel_rfl) (by kernel_rfl) (by kernel_rfl) (fun _ _ _ h => h) (Or.inl ⟨by kernel_rfl, ?hy⟩) hS0 ?_
  case hy => (intro w' hSw; (try dsimp only at hSw); go_simp <;> with_reducible rfl)
  (try simp only [Act.put, List.setIfInBounds_toArray, List.set_cons_zero, List.set_cons_succ])
  refine lateT_take (i := 6) (oi := _) (v := ?_) [20] rfl (by kernel_rfl) (by kernel_rfl) (by kernel_rfl) (by kernel_rfl) (fun _ _ _ h => h) (Or.inl ⟨by kernel_rfl, ?hy⟩) hS0 ?_
  case hy => (intro w' hSw; (try dsimp only at hSw); go_simp <;> with_reducible rfl)
  (try simp only [Act.put, List.setIfInBounds_toArray, List.set_cons_zero, List.set_cons_succ])
  refine lateT_take (i := 7) (oi := _) (v := ?_) [20] rfl (by kernel_rfl) (by kernel_rfl) (by kernel_rfl) (by kernel_rfl) (fun _ _ _ h => h) (Or.inl ⟨by kernel_rfl, ?hy⟩) hS0 ?_
  case hy => (intro w' hSw; (try dsimp only at hSw); go_simp <;> with_reducible rfl)
  (try simp only [Act.put, List.setIfInBounds_toArray, List.set_cons_zero, List.set_cons_succ])
  refine lateT_take (i := 8) (oi := _) (v := ?_) [20] rfl (by kernel_rfl) (by kernel_rfl) (by kernel_rfl) (by kernel_rfl) (fun _ _ _ h => h) (Or.inl ⟨by kernel_rfl, ?hy⟩) hS0 ?_
  case hy => (intro w' hSw; (try dsimp only at hSw); go_simp <;> with_reducible rfl)
  (try simp only [Act.put, List.setIfInBounds_toArray, List.set_cons_zero, List.set_cons_succ])
  refine lateT_take (i := 9) (oi := _) (v := ?_) [20] rfl (by kernel_rfl) (by kernel_rfl) (by kernel_rfl) (by kernel_rfl) (fun _ _ _ h => h) (Or.inl ⟨by kernel_rfl, ?hy⟩) hS0 ?_
  case hy => (intro w' hSw; (try dsimp only at hSw); go_simp <;> with_reducible rfl)
  (try simp only [Act.put, List.setIfInBounds_toArray, List.set_cons_zero, List.set_cons_succ])
  refine lateT_take (i := 10) (oi := _) (v := ?_) [20] rfl (by kernel_rfl) (by kernel_rfl) (by kernel_rfl) (by kernel_rfl) (fun _ _ _ h => h) (Or.inl ⟨by kernel_rfl, ?hy⟩) hS0 ?_
  case hy => (intro w' hSw; (try dsimp only at hSw); go_simp <;> with_reducible rfl)
  (try simp only [Act.put, List.setIfInBounds_toArray, List.set_cons_zero, List.set_cons_succ])
  refine lateT_take (i := 11) (oi := _) (v := ?_) [20] rfl (by kernel_rfl) (by kernel_rfl) (by kernel_rfl) (by kernel_rfl) (fun _ _ _ h => h) (Or.inl ⟨by kernel_rfl, ?hy⟩) hS0 ?_
  case hy => (intro w' hSw; (try dsimp only at hSw); go_simp <;> with_reducible rfl)
  (try simp only [Act.put, List.setIfInBounds_toArray, List.set_cons_zero, List.set_cons_succ])
  refine lateT_take (i := 12) (oi := _) (v := ?_) [20] rfl (by kernel_rfl) (by kernel_rfl) (by kernel_rfl) (by kernel_rfl) (fun _ _ _ h => h) (Or.inl ⟨by kernel_rfl, ?hy⟩) hS0 ?_
  case hy => (intro w' hSw; (try dsimp only at hSw); go_simp <;> with_reducible rfl)
  (try simp only [Act.put, List.setIfInBounds_toArray, List.set_cons_zero, List.set_cons_succ])
  refine lateT_take (i := 13) (oi := _) (v := ?_) [20] rfl (by kernel_rfl) (by kernel_rfl) (by kernel_rfl) (by kernel_rfl) (fun _ _ _ h => h) (Or.inl ⟨by kernel_rfl, ?hy⟩) hS0 ?_
  case hy => (intro w' hSw; (try dsimp only at hSw); go_simp <;> with_reducible rfl)
  (try simp only [Act.put, List.setIfInBounds_toArray, List.set_cons_zero, List.set_cons_succ])
  refine lateT_take (i := 14) (oi := _) (v := ?_) [20] rfl (by kernel_rfl) (by kernel_rfl) (by kernel_rfl) (by kernel_rfl) (fun _ _ _ h => h) (Or.inl ⟨by kernel_rfl, ?hy⟩) hS0 ?_
  case hy => (intro w' hSw; (try dsimp only at hSw); go_simp <;> with_reducible rfl)
  (try simp only [Act.put, List.setIfInBounds_toArray, List.set_cons_zero, List.set_cons_succ])
  refine lateT_take (i := 16) (oi := _) (v := ?_) [20] rfl (by kernel_rfl) (by kernel_rfl) (by kernel_rfl) (by kernel_rfl) (fun _ _ _ h => h) (Or.inl ⟨by kernel_rfl, ?hy⟩) hS0 ?_
  case hy => (intro w' hSw; (try dsimp only at hSw); go_simp <;> with_reducible rfl)
  (try simp only [Act.put, List.setIfInBounds_toArray, List.set_cons_zero, List.set_cons_succ])
  refine lateT_take (i := 17) (oi := _) (v := ?_) [20] rfl (by kernel_rfl) (by kernel_rfl) (by kernel_rfl) (by kernel_rfl) (fun _ _ _ h => h) (Or.inl ⟨by kernel_rfl, ?hy⟩) hS0 ?_
  case hy => (intro w' hSw; (try dsimp only at hSw); go_simp <;> with_reducible rfl)
  (try simp only [Act.put, List.setIfInBounds_toArray, List.set_cons_zero, List.set_cons_succ])
  refine lateT_step (i := 15) (by kernel_rfl) rfl (fun K hK => ?_)
  (try go_simp)
  go_at_call 33
  (with_reducible refine q9.out.mono ?_)
  rintro e w11 ⟨rfl, hb11⟩
  (try go_wp2_with fail)
  have hS1 := hSS.out w11 hb11
  refine hK.out _ _ (fun _ => hS1) ?_
  clear hK K
  (try simp only [Act.put, List.setIfInBounds_toArray, List.set_cons_zero, List.set_cons_succ])
  refine lateT_take (i := 18) (oi := _) (v := ?_) [20] rfl (by kernel_rfl) (by kernel_rfl) (by kernel_rfl) (by kernel_rfl) (fun _ _ _ h => h) (Or.inl ⟨by kernel_rfl, ?hy⟩) hS1 ?_
  case hy => (intro w' hSw; (try dsimp only at hSw); go_simp <;> with_reducible rfl)
  (try simp only [Act.put, List.setIfInBounds_toArray, List.set_cons_zero, List.set_cons_succ])
  refine lateT_take (i := 19) (oi := _) (v := ?_) [20] rfl (by kernel_rfl) (by kernel_rfl) (by kernel_rfl) (by kernel_rfl) (fun _ _ _ h => h) (Or.inl ⟨by kernel_rfl, ?hy⟩) hS1 ?_
  case hy => (intro w' hSw; (try dsimp only at hSw); go_simp <;> with_reducible rfl)
  (try simp only [Act.put, List.setIfInBounds_toArray, List.set_cons_zero, List.set_cons_succ])
  refine lateT_step (i := 20) (by kernel_rfl) rfl (fun K hK => ?_)
  go_simp
  refine hK.out _ _ (fun h => absurd rfl h) ?_
  clear hK K
  (try simp only [Act.put, List.setIfInBounds_toArray, List.set_cons_zero, List.set_cons_succ])
  refine lateT_done (by kernel_rfl) ?_ _
  have hbF := hide (hbl10.out.trans (hb11.mono hbl10.out.size))
  go_wp2_with fail
  go_ret
  exact ⟨rfl, hbF.out⟩

end Go.Proofs.YtnhomkmfbngmgaaGreatDoor.lawFnStrong

namespace Go.Proofs.YtnhomkmfbngmgaaGreatDoor
open Go.ChangeShapes Go.WideShapes Go.ChangeAt Go.RowKit Go.Deep
set_option linter.unusedVariables false

abbrev DM := DL × List Int
instance decDM : DecidableEq DM := inferInstanceAs (DecidableEq (DL × List Int))
def ArgM (w : World) (lo hi : Nat) (v : Value) (d : DM) : Prop := ∃ (x : CL) (v4 : Value), v = .agg #[.int .i64 x.1, .int .i64 x.2.1, x.2.2.1, x.2.2.2, v4] ∧ ReadL w lo hi x d.1 ∧ ArgI w lo hi v4 d.2
def totM (d : DM) : Nat := totL d.1 + d.2.length
def FreshM (w : World) (lo hi : Nat) (v : Value) (d : DM) : Prop := ArgM w lo hi v d ∧ totM d ≤ 1048576
section
variable {w w' : World} {lo hi lo' hi' B : Nat} {v : Value} {d : DM}
theorem ArgM.below (h : ArgM w lo hi v d) (hb : Below B w w') (hB : hi ≤ B ∨ w.heap.size ≤ B) : ArgM w' lo hi v d := by
  obtain ⟨x, v4, e, h1, a0⟩ := h
  exact ⟨x, v4, e, h1.below hb hB, a0.below hb hB⟩
theorem FreshM.below (h : FreshM w lo hi v d) (hb : Below B w w') (hB : hi ≤ B ∨ w.heap.size ≤ B) : FreshM w' lo hi v d := ⟨h.1.below hb hB, h.2⟩
end

end Go.Proofs.YtnhomkmfbngmgaaGreatDoor

namespace Go.Proofs.YtnhomkmfbngmgaaGreatDoor
open Go.ChangeShapes Go.WideShapes Go.ChangeAt Go.RowKit Go.Deep
set_option linter.unusedVariables false

abbrev laidL : List (String × DataW Unit) := Rows.fnLtsRow.laid
theorem pow_data : (Rows.laid_internal_strconv_uint64pow10 : DataW Unit) = Lib.tabData .u64 Lib.pow10Tab := by kernel_rfl
theorem good_of {W : World} (h : laidMet Tryz.prog laidL W) (hS : W.ShapedOpen Tryz.prog) : Good W := by
  have h3 : laidMet Tryz.prog (("internal/strconv.uint64pow10", Lib.tabData .u64 Lib.pow10Tab) :: [("unicode/utf8.acceptRanges", Rows.laid_unicode_utf8_acceptRanges), ("strconv.ErrRange", Rows.laid_strconv_ErrRange), ("strconv.ErrSyntax", Rows.laid_strconv_ErrSyntax), ("unicode/utf8.first", Rows.laid_unicode_utf8_first)]) W := by
    rw [← pow_data]
    exact h.tail.tail
  have h6 : laidMet Tryz.prog (("strconv.ErrSyntax", Rows.laid_strconv_ErrSyntax) :: [("unicode/utf8.first", Rows.laid_unicode_utf8_first)]) W := h3.tail.tail.tail
  refine ⟨hS, Lib.tabIs_of_head (g := 1) (t := 324) (e := 137) (n := 20) (by kernel_rfl) (by kernel_rfl) Tryz.underlying324 Tryz.underlying137 (by kernel_rfl) (by kernel_rfl) h3, ?_⟩
  obtain ⟨ps, ⟨g0, t0, cs0, f0, p0, q0, hg0, ht0, hv0, hd0, _, e0⟩, _, hrows⟩ := h6
  have hg : Tryz.prog.globalNamed "strconv.ErrSyntax" = some 4 := by kernel_rfl
  have ht : (Tryz.prog.globals[4]?).map (·.type) = some 224 := by kernel_rfl
  obtain rfl := Option.some.inj (hg.symm.trans hg0)
  obtain rfl := Option.some.inj (ht.symm.trans ht0)
  obtain ⟨l0⟩ := cs0
  obtain ⟨_, u, v, e1, _, _⟩ := iface_of_trod Tryz.underlying224 hd0
  have e2 : l0 = [.iface u v] := e1
  subst e2
  exact ⟨u, v, hv0⟩

section
variable {H : Type} {enc : TypeId × Value → H} {P : Program} {w : World} {base : Nat} {spare : Nat → Bool} {held : Bool}
end

end Go.Proofs.YtnhomkmfbngmgaaGreatDoor

namespace Go.Proofs.YtnhomkmfbngmgaaGreatDoor
open Go.ChangeShapes Go.WideShapes Go.ChangeAt Go.RowKit
set_option linter.unusedVariables false

theorem fact_laid : laidOutB Tryz.pinned.checked.prog = true := by kernel_rfl
theorem fact_maps : mapsRowed Tryz.pinned.checked.prog = true := by kernel_rfl
theorem fact_heard : Tryz.pinned.checked.prog.stopsHeard = true := by kernel_rfl
theorem fact_enter : Tryz.pinned.checked.prog.mayEnter = true := by kernel_rfl
theorem fact_lifts : Tryz.pinned.checked.prog.liftsFinal = Rows.fnLtsRow.lifted := by kernel_rfl
theorem fact_make : Tryz.pinned.checked.prog.make = some Rows.fnLtsRow.make := by kernel_rfl
theorem fact_main : Tryz.pinned.checked.prog.mainIs = some (true, "908aadf79a3911da7d4960582ae04b5fb7cbc5fbb004ba15854af102615e9df1".toList) := by kernel_rfl
theorem fact_looks : true = Tryz.pinned.checked.prog.looks [] := by kernel_rfl
theorem plain_laid : (laidL.filter fun x => x.2.handleName?.isSome) = [] := by kernel_rfl
theorem pre_laid {H : Type} {enc : TypeId × Value → H} {P : Program} {f : Func} {s : OpenSpec} {c : OpenClaim} (hl : c.laid = laidL) :
    c.pre enc P f s = fun w args => (s.pre enc P f c.domain c.apart w args ∧ laidMet P laidL w) ∧ sizedMet enc P f s c.apart w args := by
  obtain ⟨x, r, e⟩ : ∃ x r, laidL = x :: r := ⟨_, _, rfl⟩
  have hp := plain_laid
  funext w args
  unfold OpenClaim.pre OpenClaim.preLaid
  rw [hl]
  rw [e] at hp ⊢
  show ((_ ∧ laidMetH P (x :: r) w) ∧ _) = _
  unfold laidMetH
  rw [hp]

end Go.Proofs.YtnhomkmfbngmgaaGreatDoor
