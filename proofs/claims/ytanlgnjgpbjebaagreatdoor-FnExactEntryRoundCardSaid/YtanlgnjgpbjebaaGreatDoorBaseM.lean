/-
  Several texts in one:
  Where a part of a formula holds, by the program. Conditions: the formula and the system are valid.
  slices.ContainsFunc on lists of formulas. Conditions: at most 1048576 elements.
  Which formulas are valid: by the program. Conditions: sizes.
  Which formulas are valid: by the program (2). Conditions: sizes.
  What the program asks of formulas and a system. Conditions: none.
  A formula and a boxed system in memory: what the program asks of them and where they hold; the states at which a formula holds. Conditions: none.
  Closed facts of the whole program, and the rows' condition in one form. Conditions: none.
-/
import Derived.Test.YtanlgnjgpbjebaaGreatDoorBaseE
import Derived.Test.YtanlgnjgpbjebaaGreatDoorBaseF
import Derived.Test.YtanlgnjgpbjebaaGreatDoorBaseG
import Derived.Test.YtanlgnjgpbjebaaGreatDoorBaseJ
import Derived.Test.YtanlgnjgpbjebaaGreatDoorBaseK
import Derived.Test.YtanlgnjgpbjebaaGreatDoorBaseL
import Derived.Test.YtanlgnjgpbjebaaGreatDoorTie
import Derived.Test.YtanlgnjgpbjebaaGreatDoorCards
namespace Go.Proofs.YtanlgnjgpbjebaaGreatDoor
open Go.ChangeShapes Go.WideShapes Go.ChangeAt Go.RowKit
set_option linter.unusedVariables false
set_option linter.unusedSimpArgs false

/-- Where the vertices of a node are won. -/
noncomputable def wonS (f : DN) (d : DL) (set : Option (List Bool)) (k : Nat) : List Bool := setOf d.1.toNat fun x => decide (wonI (gameF f d set) (k * d.1.toNat + x) = 0)
theorem setOf_self {l : List Bool} {n : Nat} (h : l.length = n) {p : Nat → Bool} (hp : ∀ x, x < n → p x = inS l x) : setOf n p = l := by
  refine inS_ext (by rw [setOf_len, h]) fun x hx => ?_
  rw [setOf_len] at hx
  rw [inS_setOf, decide_eq_true hx, Bool.true_and, hp x hx]
theorem sysOk_of {N : Nat} {ini : Int} {ls : List ByteArray} {es : List Ed} (h : ltsV ((N : Int), ini, ls, es) = true) : SysOk ((N : Int), ini, ls, es) := by
  refine ⟨(lts_boundsB h).1, fun e he => ?_⟩
  obtain ⟨i, hi⟩ := List.getElem?_of_mem he
  have := (edge_of h (f := e.1) (lb := e.2.1) (tg := e.2.2) hi).2.1
  dsimp only
  omega
theorem wonS_none {f : DN} {N : Nat} {ini : Int} {ls : List ByteArray} {es : List Ed} (hv : ValF f) (h : ltsV ((N : Int), ini, ls, es) = true) {k : Nat} (hk : k < f.length) : wonS f ((N : Int), ini, ls, es) none k = semP f ((N : Int), ini, ls, es) k := by
  refine setOf_self (semP_len k) fun x hx => ?_
  rw [won_none hv (sysOk_of h) hk hx]
  cases inS (semP f ((N : Int), ini, ls, es) k) x <;> rfl
set_option maxRecDepth 100000 in
set_option maxHeartbeats 3200000 in
theorem semantics_calls (A : Option Addr) (n c : Nat) (f : DN) (N : Nat) (ini : Int) (A2 : Option Addr) (n2 k2 : Nat) (A3 : Option Addr) (n3 k3 : Nat) (ls : List ByteArray) (es : List Ed) (vs : Value) (set : Option (List Bool)) (k : Nat) (w : World)
    (h : SlN w 0 w.heap.size A n f) (htf : totN f ≤ 1048576) (hv : ValF f) (he : Env w) (t2 : SlS w 0 w.heap.size A2 n2 ls) (t3 : SlE w 0 w.heap.size A3 n3 es) (htl : totL ((N : Int), ini, ls, es) ≤ 1048576) (hlv : ltsV ((N : Int), ini, ls, es) = true) (hset : SetV w vs set N) (hk : k < n) :
    Calls Tryz.prog 51 #[.slice A n c, .agg #[.int .i64 (N : Nat), .int .i64 ini, .slice A2 n2 k2, .slice A3 n3 k3], vs, .int .i64 (k : Nat)] w fun e w' => ∃ A' c', e = .returned (.slice A' N c') ∧ SlB w' w.heap.size w'.heap.size A' N (wonS f ((N : Int), ini, ls, es) set k) ∧ Below w.heap.size w w' := by
  have hlen := h.len
  have hb40 := (lts_boundsB hlv).1
  have hN40 : 1 ≤ N ∧ N ≤ 40 := by omega
  have hn30 := hv.len.2
  have hmk := run_make_bool N (by omega)
  obtain ⟨WT, hWT⟩ : ∃ W', W' = w.alloc (.cells #[.int .i64 (N : Nat), .int .i64 ini, .slice A2 n2 k2, .slice A3 n3 k3] 35) := ⟨_, rfl⟩
  have hbT : Below w.heap.size w WT := by rw [hWT]; exact (Below.refl _ _).alloc (Nat.le_refl _) _
  have kT : WT.heap[w.heap.size]? = some (.cells #[.int .i64 (N : Nat), .int .i64 ini, .slice A2 n2 k2, .slice A3 n3 k3] 35 (0, 0)) := by rw [hWT]; exact heap_alloc_new w _
  have hzT : WT.heap.size = w.heap.size + 1 := by rw [hWT]; simp
  obtain ⟨W1, hW1⟩ : ∃ W', W' = WT.alloc (.cells (madeCells #[.bool false] N) 4) := ⟨_, rfl⟩
  have hb1 : Below WT.heap.size WT W1 := by rw [hW1]; exact (Below.refl _ _).alloc (Nat.le_refl _) _
  have hm1 : SlB W1 WT.heap.size (WT.heap.size + 1) (some ⟨WT.heap.size, 0, none⟩) N (setOf N fun _ => false) := by rw [hW1]; exact SlB.made WT N
  have hz1 : W1.heap.size = WT.heap.size + 1 := by rw [hW1]; simp
  have hb01 := hbT.trans (hb1.mono (by omega))
  have kT1 := (hb1.block _ (by omega)).trans kT
  have b0 : W1.cell? ⟨w.heap.size, 0, none⟩ = some (.int .i64 (N : Nat)) := (cell_of_row _ _ 0 _ _ (0, 0) kT1).trans rfl
  have b1 : W1.cell? ⟨w.heap.size, 1, none⟩ = some (.int .i64 ini) := (cell_of_row _ _ 1 _ _ (0, 0) kT1).trans rfl
  have b2 : W1.cell? ⟨w.heap.size, 2, none⟩ = some (.slice A2 n2 k2) := (cell_of_row _ _ 2 _ _ (0, 0) kT1).trans rfl
  have b3 : W1.cell? ⟨w.heap.size, 3, none⟩ = some (.slice A3 n3 k3) := (cell_of_row _ _ 3 _ _ (0, 0) kT1).trans rfl
  have bT0 : WT.cell? ⟨w.heap.size, 0, none⟩ = some (.int .i64 (N : Nat)) := (cell_of_row _ _ 0 _ _ (0, 0) kT).trans rfl
  have hset1 : SetV W1 vs set N := by
    cases set with
    | none => exact hset
    | some s =>
      obtain ⟨a, c, e, hs⟩ := hset
      exact ⟨a, c, e, (hs.below hb01 (.inr (Nat.le_refl _))).more (Nat.le_refl _) hb01.size⟩
  have qG := formulaGame_calls A n c f N ini A2 n2 k2 A3 n3 k3 ls es vs set W1 ((h.below hb01 (.inr (Nat.le_refl _))).more (Nat.le_refl _) hb01.size) htf hv (he.below hb01 (Nat.le_refl _)) ((t2.below hb01 (.inr (Nat.le_refl _))).more (Nat.le_refl _) hb01.size) ((t3.below hb01 (.inr (Nat.le_refl _))).more (Nat.le_refl _) hb01.size) htl hlv hset1
  have hgl : (gameF f ((N : Int), ini, ls, es) set).length = n * N := by rw [gameF_len, hlen]; rfl
  have hbig := game_big hv (sysOk_of hlv) set
  have hwat := hide (fun (x : Nat) (hx : x < n * N) => winnersF_at (g := gameF f ((N : Int), ini, ls, es) set) (v := x) (by rw [hgl]; exact hx))
  obtain ⟨G, hG⟩ : ∃ G, n * N = G := ⟨_, rfl⟩
  rw [hG] at qG hgl hwat
  obtain ⟨M, hM⟩ : ∃ M, k * N = M := ⟨_, rfl⟩
  have hMG : M + N ≤ G := by
    have := Nat.mul_le_mul_right N (show k + 1 ≤ n by omega)
    rw [Nat.add_mul] at this
    omega
  have hG2 : G ≤ 1200 := by
    have := Nat.mul_le_mul (show n ≤ 30 by omega) hN40.2
    omega
  have hM2 : (k : Int) * (N : Int) = (M : Int) := by rw [← hM, Int.natCast_mul]
  have hw1 : IntKind.i64.wrap ((k : Int) * (N : Int)) = (M : Int) := by rw [IntWalk.i64_in _ (by omega)]; exact hM2
  generalize hgg : gameF f ((N : Int), ini, ls, es) set = g at *
  obtain ⟨p, hp⟩ : ∃ p : Nat → Bool, ∀ x, p x = decide (wonI g (M + x) = 0) := ⟨_, fun _ => rfl⟩
  have hval : Hid (wonS f ((N : Int), ini, ls, es) set k = setOf N p) := by
    show _ = _
    unfold wonS
    rw [hgg]
    show setOf N (fun x => decide (wonI g (k * N + x) = 0)) = _
    rw [hM, show p = fun x => decide (wonI g (M + x) = 0) from funext hp]
  have qW := hide (fun (A' : Option Addr) (c' : Nat) (W : World) (hW : GameAt W A' G g) => winners_calls A' c' g W (by rw [hgl]; exact hW) hbig)
  rw [hgl] at qW
  replace hp := hide hp
  replace qG := hide qG
  replace hm1 := hide hm1
  replace hb01 := hide hb01
  have hkN1 : (0 : Int) ≤ (N : Int) := by omega
  have hzT1 : w.heap.size < WT.heap.size := by omega
  have hz11 : WT.heap.size + 1 ≤ W1.heap.size := by omega
  clear hzT hz1
  clear h htf hv he t2 t3 htl hlv hset hset1 hgg hbig hgl hG hM hM2 kT kT1 hb1 hbT hlen hb40
  go_enter Tryz.func51, Tryz.ntmps51
  go_upto_region 1 with fail
  rw [← hWT]
  clear hWT
  go_upto_region 2 with fail
  rw [← hW1]
  clear hW1 bT0
  go_wp2_with (first
    | (go_at_call 94; (with_reducible refine qG.out.mono ?_); rintro e w2 ⟨Ag, cg, rfl, hg2, hb2⟩; have qW2 := hide (qW.out Ag cg w2 hg2); replace hb2 := hide hb2; clear hg2) | (go_at_call 93; (with_reducible refine qW2.out.mono ?_); rintro e w3 ⟨Aw, cw, rfl, hs3, hb3⟩; replace hs3 := hide hs3; replace hb3 := hide hb3))
  have hb13 := hide (hb2.out.trans (hb3.out.mono hb2.out.size))
  have hz2 := hb2.out.size
  have hz3 := hb13.out.size
  have hbt3 : w3.cell? ⟨w.heap.size, 0, none⟩ = some (.int .i64 (N : Nat)) := (hb13.out.cell (p := ⟨w.heap.size, 0, none⟩) (by show w.heap.size < _; omega)).trans b0
  have hm3 := hide (hm1.out.below hb13.out (.inl (by omega)))
  replace hbt3 := hide hbt3
  clear b0 b1 b2 b3 qW qW2 qG
  go_loopw [22] (fun i wr => ∃ j : Nat, j ≤ N ∧ i = .int .i64 (j : Nat) ∧ Hid (SlB wr WT.heap.size (WT.heap.size + 1) (some ⟨WT.heap.size, 0, none⟩) N (setOf N fun x => decide (x < j) && p x)) ∧ Hid (But (fun b => b = WT.heap.size) w3 wr)) (fun i _ => N - (intOf i).toNat)
  case atStart =>
    refine ⟨0, Nat.zero_le _, rfl, ?_, But.refl _ _⟩
    show SlB _ _ _ _ _ _
    rw [show (fun x => decide (x < 0) && p x) = fun _ => false from funext fun x => by simp]
    exact hm3.out
  case round =>
    clear hm3
    obtain ⟨j, hj, rfl, hs, hbu⟩ := hrel
    by_cases hlt : j < N
    · obtain ⟨bb, oo, hbb, -, -, gg, -, o0, of⟩ := SlB.get hs.out hlt
      cases hbb
      have hbt4 := hbu.out.cell hbt3.out (by show w.heap.size < _; omega) (by show ¬ w.heap.size = _; omega)
      obtain ⟨V, hV⟩ : ∃ V, M + j = V := ⟨_, rfl⟩
      obtain ⟨b5, o5, z, rfl, g51, -, g53, hz, c5, -⟩ := SlI.get hs3.out (show V < G by omega)
      have c6 := hbu.out.cell c5 g53 (by show ¬ b5 = _; omega)
      rw [hwat.out V (by omega)] at hz
      obtain rfl := Option.some.inj hz
      have hw2 : IntKind.i64.wrap ((M : Int) + (j : Int)) = (V : Int) := by rw [IntWalk.i64_in _ (by omega)]; omega
      have hj0 : (0 : Int) ≤ (j : Int) := by omega
      have hj1 : (j : Int) < (N : Int) := by omega
      have hV0 : (0 : Int) ≤ (V : Int) := by omega
      have hV1 : (V : Int) < (G : Int) := by omega
      have hpj := hp.out j
      rw [hV] at hpj
      have hs6 := hide (fun (b : Bool) (hb : p j = b) => (SlB.put hs.out hlt b : SlB (wr.setCell ⟨WT.heap.size, 0 + j, none⟩ (.bool b)) _ _ _ _ _))
      have hput := hide (fun (b : Bool) (hb : p j = b) => setOf_put (n := N) (k := j) (p := fun x => decide (x < j) && p x) (p' := fun x => decide (x < j + 1) && p x) (b := b) hlt (fun x hx => by
        by_cases e : x = j
        · subst e; rw [if_pos rfl, hb]; simp
        · rw [if_neg e]
          congr 1
          exact decide_eq_decide.2 (by omega)))
      have hbu6 := hide (fun (b : Bool) => hbu.out.trans (But.set wr ⟨WT.heap.size, 0 + j, none⟩ (.bool b) rfl))
      rw [Nat.zero_add] at o0 of
      clear hz c5 hV
      generalize wonI g V = z at *
      by_cases hz0 : z = 0
      · have hzb : (z == 0) = true := by rw [hz0]; rfl
        have hpt : p j = true := by rw [hpj]; exact decide_eq_true hz0
        have hs7 := hs6.out true hpt
        rw [hput.out true hpt, Nat.zero_add] at hs7
        have hbu7 := hbu6.out true
        rw [Nat.zero_add] at hbu7
        replace hs7 := hide hs7
        replace hbu7 := hide hbu7
        clear hs6 hput hbu6 hpj hpt hz0
        go_wp2_with fail
        go_roundw
        case rel => exact ⟨j + 1, by omega, by go_num, hs7, hbu7⟩
        case measure => simp [intOf]; omega
      · have hzb : (z == 0) = false := by rw [beq_eq_false_iff_ne]; exact hz0
        have hpt : p j = false := by rw [hpj]; exact decide_eq_false hz0
        have hs7 := hs6.out false hpt
        rw [hput.out false hpt, Nat.zero_add] at hs7
        have hbu7 := hbu6.out false
        rw [Nat.zero_add] at hbu7
        replace hs7 := hide hs7
        replace hbu7 := hide hbu7
        clear hs6 hput hbu6 hpj hpt hz0
        go_wp2_with fail
        go_roundw
        case rel => exact ⟨j + 1, by omega, by go_num, hs7, hbu7⟩
        case measure => simp [intOf]; omega
    · have hjN : j = N := by omega
      subst hjN
      have hfin : Hid (setOf j (fun x => decide (x < j) && p x) = setOf j p) := by
        refine inS_ext (by rw [setOf_len, setOf_len]) fun x hx => ?_
        rw [setOf_len] at hx
        rw [inS_setOf, inS_setOf]
        simp [hx]
      have hzw := hbu.out.size
      clear hw1
      go_wp2_with fail
      go_ret
      have hB : Below w.heap.size w wr := hb01.out.trans ((hb13.out.mono (by omega)).trans ((hbu.out.below (fun x e => by rw [e]; exact Nat.le_refl _) (show WT.heap.size ≤ _ by omega)).mono (by omega)))
      refine ⟨_, _, rfl, ?_, hB⟩
      rw [hval.out, ← hfin.out]
      exact hs.out.more (by omega) (by omega)

end Go.Proofs.YtanlgnjgpbjebaaGreatDoor

namespace Go.Proofs.YtanlgnjgpbjebaaGreatDoor
open Go.ChangeShapes Go.WideShapes Go.ChangeAt Go.RowKit
set_option linter.unusedVariables false

/-- A slice of formulas: the handles with what they hold. -/
def SlNN (w : World) (lo hi : Nat) (A : Option Addr) (n : Nat) (R : List ((Option Addr × Nat × Nat) × DN)) : Prop :=
  Sl 1 sv w lo hi A n (R.map (·.1)) ∧ ∀ r ∈ R, SlN w lo hi r.1.1 r.1.2.1 r.2 ∧ totN r.2 ≤ 1048576

theorem SlNN.below {w w' : World} {lo hi n B : Nat} {A : Option Addr} {R : List ((Option Addr × Nat × Nat) × DN)} (h : SlNN w lo hi A n R) (hb : Below B w w') (hB : hi ≤ B ∨ w.heap.size ≤ B) : SlNN w' lo hi A n R :=
  ⟨h.1.below hb hB, fun r hr => ⟨(h.2 r hr).1.below hb hB, (h.2 r hr).2⟩⟩
theorem SlNN.get {w : World} {lo hi n k : Nat} {A : Option Addr} {R : List ((Option Addr × Nat × Nat) × DN)} (h : SlNN w lo hi A n R) (hk : k < n) :
    ∃ b off Ah nh ch s, A = some ⟨b, off, none⟩ ∧ lo ≤ b ∧ b < hi ∧ b < w.heap.size ∧ R[k]? = some ((Ah, nh, ch), s) ∧ w.cell? ⟨b, off + k, none⟩ = some (.slice Ah nh ch) ∧ SlN w lo hi Ah nh s ∧ totN s ≤ 1048576 := by
  obtain ⟨b, off, e, g1, g2, g3, hc⟩ := h.1.at_ (by omega)
  have hl := h.1.len
  rw [List.length_map] at hl
  have hkl : k < R.length := by omega
  obtain ⟨⟨⟨Ah, nh, ch⟩, s⟩, hr⟩ : ∃ r, R[k]? = some r := ⟨_, List.getElem?_eq_getElem hkl⟩
  have h0 := (hc k (Ah, nh, ch) (by rw [List.getElem?_map, hr]; rfl) 0 _ rfl).1
  simp only [Nat.mul_one, Nat.add_zero] at h0
  have h1 := h.2 _ (List.mem_of_getElem? hr)
  exact ⟨b, off, Ah, nh, ch, s, e, g1, g2, g3, hr, h0, h1.1, h1.2⟩

set_option maxRecDepth 100000 in
theorem indexFuncNN_calls (F : FuncId) (caps : Array Value) (G : DN → Bool) (A : Option Addr) (n c : Nat) (R : List ((Option Addr × Nat × Nat) × DN)) (w : World) (lo hi : Nat) (h : SlNN w lo hi A n R) (hn : n ≤ 1048576)
    (hF : ∀ (v : Value) (W : World), Sem.run Tryz.prog (callFunc F (#[v] ++ caps)) W = .ok (.enter F (#[v] ++ caps)) W)
    (hcl : ∀ (A : Option Addr) (m d : Nat) (l : DN) (W : World), Below w.heap.size w W → SlN W lo hi A m l → totN l ≤ 1048576 → Calls Tryz.prog F (#[.slice A m d] ++ caps) W (Says (G l) W)) :
    Calls Tryz.prog 110 #[.slice A n c, .func (.func F) #[] caps] w fun e w' => ∃ i : Int, e = .returned (.int .i64 i) ∧ decide (0 ≤ i) = (R.map (·.2)).any G ∧ Below w.heap.size w w' := by
  have hlen := hide h.1.len
  replace hcl := hide hcl
  replace h := hide h
  go_enter Tryz.func110, Tryz.ntmps110
  go_wp2
  go_loopw [8] (fun i wr => ∃ k : Nat, k ≤ n ∧ i = .int .i64 k ∧ Below w.heap.size w wr ∧ Hid (((R.map (·.2)).take k).any G = false)) (fun i _ => n - (intOf i).toNat)
  case atStart => exact ⟨0, Nat.zero_le _, rfl, Below.refl _ _, rfl⟩
  case round =>
    obtain ⟨k, hk, rfl, hb, ha⟩ := hrel
    by_cases hlt : k < n
    · obtain ⟨b, off, Ah, nh, ch, s, hA, g1, g2, g3, hx, c0, hs, hnh⟩ := (h.out.below hb (.inr (Nat.le_refl _))).get hlt
      subst hA
      have hc := hcl.out Ah nh ch s wr hb hs hnh
      have hx2 : (R.map (·.2))[k]? = some s := by rw [List.getElem?_map, hx]; rfl
      replace hx2 := hide hx2
      clear h hcl hx hs
      by_cases hg : G s = true
      · rw [hg] at hc
        replace hc := hide hc
        have hy := hide (any_hit hx2.out hg)
        clear hg
        go_wp2_with fail
        refine hc.out.mono ?_
        rintro e w1 ⟨rfl, hb1⟩
        go_wp2_with fail
        go_ret
        exact ⟨_, rfl, by rw [hy.out]; simp, hb.trans (hb1.mono hb.size)⟩
      · replace hg := Bool.eq_false_iff.2 hg
        rw [hg] at hc
        replace hc := hide hc
        have hy := hide (any_take_succ ha.out hx2.out hg)
        clear hg
        go_wp2_with fail
        refine hc.out.mono ?_
        rintro e w1 ⟨rfl, hb1⟩
        go_wp2_with fail
        go_roundw
        case rel => exact ⟨k + 1, by omega, by go_num, hb.trans (hb1.mono hb.size), hy⟩
        case measure => simp [intOf]; omega
    · have hkn : k = n := by omega
      subst hkn
      clear hcl
      go_wp2
      go_ret
      have hy := ha.out
      rw [List.take_of_length_le (by have := hlen.out; rw [List.length_map] at this ⊢; omega)] at hy
      exact ⟨_, rfl, by rw [hy]; decide, hb⟩

theorem containsFuncNN_calls (F : FuncId) (caps : Array Value) (G : DN → Bool) (A : Option Addr) (n c : Nat) (R : List ((Option Addr × Nat × Nat) × DN)) (w : World) (lo hi : Nat) (h : SlNN w lo hi A n R) (hn : n ≤ 1048576)
    (hF : ∀ (v : Value) (W : World), Sem.run Tryz.prog (callFunc F (#[v] ++ caps)) W = .ok (.enter F (#[v] ++ caps)) W)
    (hcl : ∀ (A : Option Addr) (m d : Nat) (l : DN) (W : World), Below w.heap.size w W → SlN W lo hi A m l → totN l ≤ 1048576 → Calls Tryz.prog F (#[.slice A m d] ++ caps) W (Says (G l) W)) :
    Calls Tryz.prog 90 #[.slice A n c, .func (.func F) #[] caps] w (Says ((R.map (·.2)).any G) w) := by
  have q := hide (indexFuncNN_calls F caps G A n c R w lo hi h hn hF hcl)
  clear h hF hcl
  go_enter Tryz.func90, Tryz.ntmps90
  go_wp2_with fail
  refine q.out.mono ?_
  rintro e w1 ⟨i, rfl, hi, hb⟩
  replace hi := hide hi
  go_wp2_with fail
  go_ret
  exact ⟨ret_b hi.out.symm, hb⟩

end Go.Proofs.YtanlgnjgpbjebaaGreatDoor

namespace Go.Proofs.YtanlgnjgpbjebaaGreatDoor
open Go.ChangeShapes Go.WideShapes Go.ChangeAt Go.RowKit
set_option linter.unusedVariables false
set_option linter.unusedSimpArgs false

open Classical in
noncomputable def shpB (f : DN) : Bool := decide (ShapeF f)
open Classical in
theorem shpB_no {f : DN} (h : ¬ ShapeF f) : shpB f = false := decide_eq_false h
open Classical in
theorem shpB_yes {f : DN} (h : ShapeF f) : shpB f = true := decide_eq_true h
set_option maxRecDepth 100000 in
set_option maxHeartbeats 3200000 in
theorem shapeOk_calls (A : Option Addr) (n c : Nat) (f : DN) (w : World) (lo hi : Nat) (h : SlN w lo hi A n f) (hn : n ≤ 30) :
    Calls Tryz.prog 111 #[.slice A n c] w fun e w' => e = .returned (.bool (shpB f)) ∧ Below w.heap.size w w' := by
  have hlen := h.len
  have hzer := hide (fun (j : Nat) (hj : j < n) (hb : ndI (qF f) j = 0) => shpB_no (f := f) fun c => c.2 j (by omega) hb)
  have hend := hide (fun (hs : ∀ i, i < n → ndI (qF f) i ≠ 0) => (show shpB f = decide (ndI (qF f) n = 0) by
    by_cases e : ndI (qF f) n = 0
    · rw [decide_eq_true e]
      exact shpB_yes ⟨by rw [hlen]; exact e, fun i hi => hs i (by omega)⟩
    · rw [decide_eq_false e]
      exact shpB_no fun c => e (by have := c.1; rwa [hlen] at this)))
  have hndI := hide (fun (j : Nat) => (show ndI (qF f) (j + 1) = ndI (qF f) j + (arityQ (qF f j) : Int) - 1 from rfl))
  replace hlen := hide hlen
  go_enter Tryz.func111, Tryz.ntmps111
  go_wp2
  go_loopw [3, 8] (fun u i wr => ∃ (j : Nat), j ≤ n ∧ i = .int .i64 (j : Nat) ∧ u = .int .i64 (ndI (qF f) j) ∧ 0 ≤ ndI (qF f) j ∧ ndI (qF f) j ≤ j + 1 ∧ Hid (∀ i, i < j → ndI (qF f) i ≠ 0) ∧ Below w.heap.size w wr) (fun _ i _ => n - (intOf i).toNat)
  case atStart => exact ⟨0, Nat.zero_le _, rfl, rfl, by show (0 : Int) ≤ 1; decide, by show (1 : Int) ≤ _; decide, fun i hi => by omega, Below.refl _ _⟩
  case round =>
    obtain ⟨j, hj, rfl, rfl, hg0, hg1, hsp, hb⟩ := hrel
    by_cases hlt : j < n
    · obtain ⟨b, off, x, y, s, z, rfl, -, -, g3, hx, c0, c1, c2, c3⟩ := SlN.get h hlt
      replace c0 := (hb.cell (p := ⟨b, off + j * 4, none⟩) g3).trans c0
      replace c1 := (hb.cell (p := ⟨b, off + j * 4 + 1, none⟩) g3).trans c1
      replace c2 := (hb.cell (p := ⟨b, off + j * 4 + 2, none⟩) g3).trans c2
      replace c3 := (hb.cell (p := ⟨b, off + j * 4 + 3, none⟩) g3).trans c3
      have hj0 : (0 : Int) ≤ (j : Int) := by omega
      have hj1 : (j : Int) < (n : Int) := by omega
      have hnd := hndI.out j
      rw [qF_at hx] at hnd
      dsimp only at hnd
      have zer1 := hzer.out j hlt
      have qO := hide (fun W => operands_calls x y s z W)
      have hA := hide hnd
      have hbn := hide ((Below.refl wr.heap.size wr).alloc (Nat.le_refl _) (.cells #[.int .i64 x, .int .i64 y, .string s, .bool z] 67))
      have hnx : Hid (ndI (qF f) j ≠ 0 → ∀ i, i < j + 1 → ndI (qF f) i ≠ 0) := fun h0 i hi => by
        by_cases e : i = j
        · rw [e]; exact h0
        · exact hsp.out i (by omega)
      generalize ndI (qF f) j = u at *
      have har : arityQ x ≤ 2 := by
        unfold arityQ
        split
        · omega
        · split <;> omega
      replace hb := hide hb
      clear hx h g3 hndI hzer hend hsp
      by_cases hu : u = 0
      · have hv := hide (zer1 hu)
        subst hu
        clear zer1 hnd hnx
        go_wp2_with fail
        go_ret
        exact ⟨ret_b hv.out, hb.out.trans (hbn.out.mono hb.out.size)⟩
      · have hn2 := hide (hnx.out hu)
        have hun : (u == 0) = false := by rw [beq_eq_false_iff_ne]; exact hu
        have hu2a : Hid (0 ≤ ndI (qF f) (j + 1)) := by show _ ≤ _; omega
        have hu2b : Hid (ndI (qF f) (j + 1) ≤ ((j + 1 : Nat) : Int) + 1) := by show _ ≤ _; omega
        clear zer1 hnd hnx
        go_wp2_with (first | (go_at_call 139; (with_reducible refine (qO.out _).mono ?_); rintro e w1 ⟨rfl, hb1⟩))
        go_roundw
        case rel => exact ⟨j + 1, by omega, by go_num, by rw [hA.out]; go_num, hu2a.out, hu2b.out, hn2, hb.out.trans ((hbn.out.trans (hb1.mono hbn.out.size)).mono hb.out.size)⟩
        case measure => simp [intOf]; omega
    · have hjn : j = n := by omega
      subst hjn
      have hv := hide (hend.out hsp.out)
      generalize ndI (qF f) j = u at *
      have hub : (u == 0) = decide (u = 0) := by rw [Bool.eq_iff_iff]; simp
      clear h hndI hzer hend hsp
      go_wp2_with fail
      go_ret
      rw [hv.out]
      exact ⟨by simp, hb⟩

end Go.Proofs.YtanlgnjgpbjebaaGreatDoor

namespace Go.Proofs.YtanlgnjgpbjebaaGreatDoor
open Go.ChangeShapes Go.WideShapes Go.ChangeAt Go.RowKit
set_option linter.unusedVariables false
set_option linter.unusedSimpArgs false

structure VlP (f : DN) (j : Nat) : Prop where
  node : ∀ (i : Nat) (x : Nd), i < j → f[i]? = some x → nodB x = true
  bnd : ∀ i, i < j → qF f i = 6 → bindF f i ≠ none
theorem VlP.next {f : DN} {j : Nat} {x : Nd} (h : VlP f j) (hx : f[j]? = some x) (h1 : nodB x = true) (h2 : x.1 = 6 → bindF f j ≠ none) : VlP f (j + 1) :=
  ⟨fun i y hi hy => by
    by_cases e : i = j
    · subst e; rw [hx] at hy; cases hy; exact h1
    · exact h.node i y (by omega) hy, fun i hi => by
    by_cases e : i = j
    · subst e; rw [qF_at hx]; exact h2
    · exact h.bnd i (by omega)⟩
set_option maxRecDepth 100000 in
set_option maxHeartbeats 6400000 in
theorem validFormula_calls (A : Option Addr) (n c : Nat) (f : DN) (w : World) (lo hi : Nat) (he : Env w) (h : SlN w lo hi A n f) (ht : totN f ≤ 1048576) :
    Calls Tryz.prog 92 #[.slice A n c] w fun e w' => e = .returned (.bool (isB f)) ∧ Below w.heap.size w w' := by
  have hlen := h.len
  cases hin : inB (n : Int) 1 30 with
  | false =>
    have hv := hide (isB_no (f := f) fun c => by have := c.len; have : inB (n : Int) 1 30 = true := inB_true.2 (by omega); rw [hin] at this; cases this)
    have qW0 := fun W => within_calls (n : Int) 1 30 W
    rw [hin] at qW0
    replace qW0 := hide qW0
    clear h ht hin
    go_enter Tryz.func92, Tryz.ntmps92
    go_wp2_with (first | (go_at_call 87; (with_reducible refine (qW0.out _).mono ?_); rintro e w1 ⟨rfl, rfl⟩))
    go_ret
    exact ⟨ret_b hv.out, Below.refl _ _⟩
  | true =>
    have hn := inB_true.1 hin
    have qW0 := fun W => within_calls (n : Int) 1 30 W
    rw [hin] at qW0
    replace qW0 := hide qW0
    have qS := shapeOk_calls A n c f w lo hi h (by omega)
    cases hsh : shpB f with
    | false =>
      have hv := hide (isB_no (f := f) fun c => by have := shpB_yes c.shape; rw [hsh] at this; cases this)
      rw [hsh] at qS
      replace qS := hide qS
      clear h ht hin hsh
      go_enter Tryz.func92, Tryz.ntmps92
      go_wp2_with (first | (go_at_call 87; (with_reducible refine (qW0.out _).mono ?_); rintro e w1 ⟨rfl, rfl⟩) | (go_at_call 111; (with_reducible refine qS.out.mono ?_); rintro e w2 ⟨rfl, hb2⟩))
      go_ret
      exact ⟨ret_b hv.out, hb2⟩
    | true =>
      have hS : ShapeF f := Classical.byContradiction fun c => by have := shpB_no c; rw [hsh] at this; cases this
      rw [hsh] at qS
      replace qS := hide qS
      have hbad := hide (fun (j : Nat) (x : Nd) (hx : f[j]? = some x) (hb : nodB x = false) => isB_no (f := f) fun c => by
        have := c.node x (List.mem_of_getElem? hx)
        rw [hb] at this
        cases this)
      have hbnd := hide (fun (j : Nat) (hj : j < n) (hq : qF f j = 6) (hb : bindF f j = none) => isB_no (f := f) fun c => c.bound j (by omega) hq hb)
      have hend := hide (fun (hs : VlP f n) => isB_yes (f := f) ⟨by omega, hS, fun x hx => by
        obtain ⟨i, hi, e⟩ := List.getElem_of_mem hx
        exact hs.node i x (by omega) (by rw [List.getElem?_eq_getElem hi, e]), fun k hk => hs.bnd k (by omega)⟩)
      have hB := hide (fun (j : Nat) (hj : j < n) W (hW : Below w.heap.size w W) => binder_calls A n c f j W lo hi (h.below hW (.inr (Nat.le_refl _))) hS (by omega) hj)
      have hlab := hide (fun (j : Nat) (q y : Int) (s : ByteArray) (z : Bool) (hx : f[j]? = some (q, y, s, z)) => (show s.size ≤ 1048576 by
        have hs := lab_le (List.mem_of_getElem? hx)
        unfold totN at ht
        dsimp only at hs
        omega))
      replace hlen := hide hlen
      have hE0 := hide he
      clear hin hsh ht hS he
      go_enter Tryz.func92, Tryz.ntmps92
      go_wp2_with (first | (go_at_call 87; (with_reducible refine (qW0.out _).mono ?_); rintro e w1 ⟨rfl, rfl⟩) | (go_at_call 111; (with_reducible refine qS.out.mono ?_); rintro e w2 ⟨rfl, hb0⟩))
      go_loopw [16] (fun i wr => ∃ (j : Nat), j ≤ n ∧ i = .int .i64 (j : Nat) ∧ Hid (VlP f j) ∧ Below w.heap.size w wr) (fun i _ => n - (intOf i).toNat)
      case atStart => exact ⟨0, Nat.zero_le _, rfl, ⟨fun i x hi => by omega, fun i hi => by omega⟩, hb0⟩
      case round =>
        clear hb0
        obtain ⟨j, hj, rfl, hsp, hb⟩ := hrel
        by_cases hlt : j < n
        · obtain ⟨b, off, x, y, s, z, rfl, -, -, g3, hx, c0, c1, c2, c3⟩ := SlN.get h hlt
          replace c0 := (hb.cell (p := ⟨b, off + j * 4, none⟩) g3).trans c0
          replace c1 := (hb.cell (p := ⟨b, off + j * 4 + 1, none⟩) g3).trans c1
          replace c2 := (hb.cell (p := ⟨b, off + j * 4 + 2, none⟩) g3).trans c2
          replace c3 := (hb.cell (p := ⟨b, off + j * 4 + 3, none⟩) g3).trans c3
          have hj0 : (0 : Int) ≤ (j : Int) := by omega
          have hj1 : (j : Int) < (n : Int) := by omega
          have bad1 := hbad.out j _ hx
          have bnd1 := hbnd.out j hlt
          rw [qF_at hx] at bnd1
          have nxt := hide (fun h1 h2 => hsp.out.next hx h1 h2)
          have hbn := hide ((Below.refl wr.heap.size wr).alloc (Nat.le_refl _) (.cells #[.int .i64 x, .int .i64 y, .string s, .bool z] 67))
          have k0 := heap_alloc_new wr (.cells #[.int .i64 x, .int .i64 y, .string s, .bool z] 67)
          have hsz : wr.heap.size < (wr.alloc (.cells #[.int .i64 x, .int .i64 y, .string s, .bool z] 67)).heap.size := by simp
          have heW := hide (hE0.out.below (hb.trans (hbn.out.mono hb.size)) (Nat.le_refl _))
          have qW := fun W => within_calls x 0 8 W
          have qF := fun W hW => fieldsOk_calls x y s z W (hlab.out j x y s z hx) hW
          have qO := fun W => boundOk_calls x y s z W
          have qB := hide (fun W (hW : Below wr.heap.size wr W) => hB.out j hlt W (hb.trans (hW.mono hb.size)))
          replace hb := hide hb
          have hsplit := nodB_split (x, y, s, z)
          dsimp only at hsplit
          clear hx h g3 hbad hbnd hend hsp hB hlab
          cases hk : inB x 0 8 with
          | false =>
            have hv := hide (bad1 (by cases hnb : nodB (x, y, s, z) with | false => rfl | true => have := (hsplit.1 hnb).1.1; rw [hk] at this; cases this))
            rw [hk] at qW
            replace qW := hide qW
            clear bad1 bnd1 nxt hsplit hk qF qO qB
            go_wp2_with (first | (go_at_call 87; (with_reducible refine (qW.out _).mono ?_); rintro e w1 ⟨rfl, rfl⟩))
            go_ret
            exact ⟨ret_b hv.out, hb.out.trans (hbn.out.mono hb.out.size)⟩
          | true =>
            rw [hk] at qW
            replace qW := hide qW
            cases hfl : fldB (x, y, s, z) with
            | false =>
              have hv := hide (bad1 (by cases hnb : nodB (x, y, s, z) with | false => rfl | true => have := (hsplit.1 hnb).1.2; rw [hfl] at this; cases this))
              rw [hfl] at qF
              replace qF := hide qF
              clear bad1 bnd1 nxt hsplit hk hfl qO qB
              go_wp2_with (first | (go_at_call 87; (with_reducible refine (qW.out _).mono ?_); rintro e w1 ⟨rfl, rfl⟩) | (go_at_call 112; (with_reducible refine (qF.out _ heW.out).mono ?_); rintro e w1 ⟨rfl, hb1⟩; have k1 := (hb1.block _ hsz).trans k0; have m0 := (cell_of_row _ _ 0 _ _ (0, 0) k1).trans (show _ = some (Value.int .i64 x) from rfl); have m1 := (cell_of_row _ _ 1 _ _ (0, 0) k1).trans (show _ = some (Value.int .i64 y) from rfl); have m2 := (cell_of_row _ _ 2 _ _ (0, 0) k1).trans (show _ = some (Value.string s) from rfl); have m3 := (cell_of_row _ _ 3 _ _ (0, 0) k1).trans (show _ = some (Value.bool z) from rfl); have hsz1 := Nat.lt_of_lt_of_le hsz hb1.size; replace hb1 := hide hb1))
              go_ret
              exact ⟨ret_b hv.out, hb.out.trans ((hbn.out.trans (hb1.out.mono hbn.out.size)).mono hb.out.size)⟩
            | true =>
              rw [hfl] at qF
              replace qF := hide qF
              cases hbo : bouB (x, y, s, z) with
              | false =>
                have hv := hide (bad1 (by cases hnb : nodB (x, y, s, z) with | false => rfl | true => have := (hsplit.1 hnb).2; rw [hbo] at this; cases this))
                rw [hbo] at qO
                replace qO := hide qO
                clear bad1 bnd1 nxt hsplit hk hfl hbo
                go_wp2_with (first | (go_at_call 87; (with_reducible refine (qW.out _).mono ?_); rintro e w1 ⟨rfl, rfl⟩) | (go_at_call 112; (with_reducible refine (qF.out _ heW.out).mono ?_); rintro e w1 ⟨rfl, hb1⟩; have k1 := (hb1.block _ hsz).trans k0; have m0 := (cell_of_row _ _ 0 _ _ (0, 0) k1).trans (show _ = some (Value.int .i64 x) from rfl); have m1 := (cell_of_row _ _ 1 _ _ (0, 0) k1).trans (show _ = some (Value.int .i64 y) from rfl); have m2 := (cell_of_row _ _ 2 _ _ (0, 0) k1).trans (show _ = some (Value.string s) from rfl); have m3 := (cell_of_row _ _ 3 _ _ (0, 0) k1).trans (show _ = some (Value.bool z) from rfl); have hsz1 := Nat.lt_of_lt_of_le hsz hb1.size; replace hb1 := hide hb1) | (go_at_call 113; (with_reducible refine (qO.out _).mono ?_); rintro e w2 ⟨rfl, hb2⟩; have k2 := (hb2.block _ hsz1).trans k1; have p0 := (cell_of_row _ _ 0 _ _ (0, 0) k2).trans (show _ = some (Value.int .i64 x) from rfl); have p1 := (cell_of_row _ _ 1 _ _ (0, 0) k2).trans (show _ = some (Value.int .i64 y) from rfl); have p2 := (cell_of_row _ _ 2 _ _ (0, 0) k2).trans (show _ = some (Value.string s) from rfl); have p3 := (cell_of_row _ _ 3 _ _ (0, 0) k2).trans (show _ = some (Value.bool z) from rfl); have qB2 := hide (qB.out w2 (hbn.out.trans ((hb1.out.trans (hb2.mono hb1.out.size)).mono hbn.out.size))); replace hb2 := hide hb2))
                go_ret
                exact ⟨ret_b hv.out, hb.out.trans ((hbn.out.trans ((hb1.out.trans (hb2.out.mono hb1.out.size)).mono hbn.out.size)).mono hb.out.size)⟩
              | true =>
                have hnb := hsplit.2 ⟨⟨hk, hfl⟩, hbo⟩
                rw [hbo] at qO
                replace qO := hide qO
                by_cases h6 : x = 6
                · subst h6
                  cases hbf : bindF f j with
                  | none =>
                    have hv := hide (bnd1 rfl hbf)
                    rw [hbf] at qB
                    have qC : Hid (∀ W, Below wr.heap.size wr W → Calls Tryz.prog 114 #[.slice (some ⟨b, off, none⟩) n c, .int .i64 (j : Nat)] W fun e w' => e = .returned (.int .i64 (-1)) ∧ Below W.heap.size W w') := qB
                    replace qB := qC
                    clear bad1 bnd1 nxt hsplit hk hfl hbo hbf hnb qC
                    go_wp2_with (first | (go_at_call 87; (with_reducible refine (qW.out _).mono ?_); rintro e w1 ⟨rfl, rfl⟩) | (go_at_call 112; (with_reducible refine (qF.out _ heW.out).mono ?_); rintro e w1 ⟨rfl, hb1⟩; have k1 := (hb1.block _ hsz).trans k0; have m0 := (cell_of_row _ _ 0 _ _ (0, 0) k1).trans (show _ = some (Value.int .i64 6) from rfl); have m1 := (cell_of_row _ _ 1 _ _ (0, 0) k1).trans (show _ = some (Value.int .i64 y) from rfl); have m2 := (cell_of_row _ _ 2 _ _ (0, 0) k1).trans (show _ = some (Value.string s) from rfl); have m3 := (cell_of_row _ _ 3 _ _ (0, 0) k1).trans (show _ = some (Value.bool z) from rfl); have hsz1 := Nat.lt_of_lt_of_le hsz hb1.size; replace hb1 := hide hb1) | (go_at_call 113; (with_reducible refine (qO.out _).mono ?_); rintro e w2 ⟨rfl, hb2⟩; have k2 := (hb2.block _ hsz1).trans k1; have p0 := (cell_of_row _ _ 0 _ _ (0, 0) k2).trans (show _ = some (Value.int .i64 6) from rfl); have p1 := (cell_of_row _ _ 1 _ _ (0, 0) k2).trans (show _ = some (Value.int .i64 y) from rfl); have p2 := (cell_of_row _ _ 2 _ _ (0, 0) k2).trans (show _ = some (Value.string s) from rfl); have p3 := (cell_of_row _ _ 3 _ _ (0, 0) k2).trans (show _ = some (Value.bool z) from rfl); have qB2 := hide (qB.out w2 (hbn.out.trans ((hb1.out.trans (hb2.mono hb1.out.size)).mono hbn.out.size))); replace hb2 := hide hb2) | (go_at_call 114; (with_reducible refine qB2.out.mono ?_); rintro e w3 ⟨rfl, hb3⟩; replace hb3 := hide hb3))
                    go_ret
                    exact ⟨ret_b hv.out, hb.out.trans ((hbn.out.trans ((hb1.out.trans ((hb2.out.trans (hb3.out.mono hb2.out.size)).mono hb1.out.size)).mono hbn.out.size)).mono hb.out.size)⟩
                  | some i =>
                    have hn2 := hide (nxt.out hnb (fun e => by rw [hbf]; intro c; cases c))
                    rw [hbf] at qB
                    have qC : Hid (∀ W, Below wr.heap.size wr W → Calls Tryz.prog 114 #[.slice (some ⟨b, off, none⟩) n c, .int .i64 (j : Nat)] W fun e w' => e = .returned (.int .i64 (i : Nat)) ∧ Below W.heap.size W w') := qB
                    replace qB := qC
                    clear bad1 bnd1 nxt hsplit hk hfl hbo hbf hnb qC
                    go_wp2_with (first | (go_at_call 87; (with_reducible refine (qW.out _).mono ?_); rintro e w1 ⟨rfl, rfl⟩) | (go_at_call 112; (with_reducible refine (qF.out _ heW.out).mono ?_); rintro e w1 ⟨rfl, hb1⟩; have k1 := (hb1.block _ hsz).trans k0; have m0 := (cell_of_row _ _ 0 _ _ (0, 0) k1).trans (show _ = some (Value.int .i64 6) from rfl); have m1 := (cell_of_row _ _ 1 _ _ (0, 0) k1).trans (show _ = some (Value.int .i64 y) from rfl); have m2 := (cell_of_row _ _ 2 _ _ (0, 0) k1).trans (show _ = some (Value.string s) from rfl); have m3 := (cell_of_row _ _ 3 _ _ (0, 0) k1).trans (show _ = some (Value.bool z) from rfl); have hsz1 := Nat.lt_of_lt_of_le hsz hb1.size; replace hb1 := hide hb1) | (go_at_call 113; (with_reducible refine (qO.out _).mono ?_); rintro e w2 ⟨rfl, hb2⟩; have k2 := (hb2.block _ hsz1).trans k1; have p0 := (cell_of_row _ _ 0 _ _ (0, 0) k2).trans (show _ = some (Value.int .i64 6) from rfl); have p1 := (cell_of_row _ _ 1 _ _ (0, 0) k2).trans (show _ = some (Value.int .i64 y) from rfl); have p2 := (cell_of_row _ _ 2 _ _ (0, 0) k2).trans (show _ = some (Value.string s) from rfl); have p3 := (cell_of_row _ _ 3 _ _ (0, 0) k2).trans (show _ = some (Value.bool z) from rfl); have qB2 := hide (qB.out w2 (hbn.out.trans ((hb1.out.trans (hb2.mono hb1.out.size)).mono hbn.out.size))); replace hb2 := hide hb2) | (go_at_call 114; (with_reducible refine qB2.out.mono ?_); rintro e w3 ⟨rfl, hb3⟩; replace hb3 := hide hb3))
                    go_roundw
                    case rel => exact ⟨j + 1, by omega, by go_num, hn2, hb.out.trans ((hbn.out.trans ((hb1.out.trans ((hb2.out.trans (hb3.out.mono hb2.out.size)).mono hb1.out.size)).mono hbn.out.size)).mono hb.out.size)⟩
                    case measure => simp [intOf]; omega
                · have hn6 : (x == 6) = false := by rw [beq_eq_false_iff_ne]; exact h6
                  have hn2 := hide (nxt.out hnb (fun e => absurd e h6))
                  clear bad1 bnd1 nxt hsplit hk hfl hbo hnb
                  go_wp2_with (first | (go_at_call 87; (with_reducible refine (qW.out _).mono ?_); rintro e w1 ⟨rfl, rfl⟩) | (go_at_call 112; (with_reducible refine (qF.out _ heW.out).mono ?_); rintro e w1 ⟨rfl, hb1⟩; have k1 := (hb1.block _ hsz).trans k0; have m0 := (cell_of_row _ _ 0 _ _ (0, 0) k1).trans (show _ = some (Value.int .i64 x) from rfl); have m1 := (cell_of_row _ _ 1 _ _ (0, 0) k1).trans (show _ = some (Value.int .i64 y) from rfl); have m2 := (cell_of_row _ _ 2 _ _ (0, 0) k1).trans (show _ = some (Value.string s) from rfl); have m3 := (cell_of_row _ _ 3 _ _ (0, 0) k1).trans (show _ = some (Value.bool z) from rfl); have hsz1 := Nat.lt_of_lt_of_le hsz hb1.size; replace hb1 := hide hb1) | (go_at_call 113; (with_reducible refine (qO.out _).mono ?_); rintro e w2 ⟨rfl, hb2⟩; have k2 := (hb2.block _ hsz1).trans k1; have p0 := (cell_of_row _ _ 0 _ _ (0, 0) k2).trans (show _ = some (Value.int .i64 x) from rfl); have p1 := (cell_of_row _ _ 1 _ _ (0, 0) k2).trans (show _ = some (Value.int .i64 y) from rfl); have p2 := (cell_of_row _ _ 2 _ _ (0, 0) k2).trans (show _ = some (Value.string s) from rfl); have p3 := (cell_of_row _ _ 3 _ _ (0, 0) k2).trans (show _ = some (Value.bool z) from rfl); have qB2 := hide (qB.out w2 (hbn.out.trans ((hb1.out.trans (hb2.mono hb1.out.size)).mono hbn.out.size))); replace hb2 := hide hb2))
                  go_roundw
                  case rel => exact ⟨j + 1, by omega, by go_num, hn2, hb.out.trans ((hbn.out.trans ((hb1.out.trans (hb2.out.mono hb1.out.size)).mono hbn.out.size)).mono hb.out.size)⟩
                  case measure => simp [intOf]; omega
        · have hjn : j = n := by omega
          subst hjn
          have hv := hide (hend.out hsp.out)
          clear h hbad hbnd hend hsp hB hlab
          go_wp2_with fail
          go_ret
          exact ⟨ret_b hv.out, hb⟩

end Go.Proofs.YtanlgnjgpbjebaaGreatDoor

namespace Go.Proofs.YtanlgnjgpbjebaaGreatDoor
open Go.ChangeShapes Go.WideShapes Go.ChangeAt Go.RowKit
set_option linter.unusedVariables false
set_option linter.unusedSimpArgs false

theorem formulaCode1_calls (A : Option Addr) (n c : Nat) (f : DN) (w : World) (lo hi : Nat) (he : Env w) (h : SlN w lo hi A n f) (ht : totN f ≤ 1048576) :
    Calls Tryz.prog 91 #[.slice A n c] w (Says (!isB f) w) := by
  have q := validFormula_calls A n c f w lo hi he h ht
  cases hv : isB f
  all_goals
    rw [hv] at q
    replace q := hide q
    clear hv h he ht
    go_enter Tryz.func91, Tryz.ntmps91
    go_wp2_with fail
    refine q.out.mono ?_
    rintro e w1 ⟨rfl, hb1⟩
    go_wp2_with fail
    go_ret
    exact ⟨rfl, hb1⟩
/-- What is said of a list of formulas and a system. -/
noncomputable def codC (fs : List DN) (d : DL) : Int := if (ltsV d && fs.all isB) = true then 0 else 1
theorem any_all {fs : List DN} : fs.any (fun f => !isB f) = !(fs.all isB) := by
  induction fs with
  | nil => rfl
  | cons f fs ih => simp only [List.any_cons, List.all_cons, ih, Bool.not_and]
set_option maxRecDepth 100000 in
theorem formulaCode_calls (x : CL) (d : DL) (B : Option Addr) (m c : Nat) (R : List (Hd × DN)) (w : World) (lo hi lo' hi' : Nat) (he : Env w) (hl : ReadL w lo hi x d) (ht : totL d ≤ 1048576) (h : SlNN w lo' hi' B m R) (hm : m ≤ 1048576) :
    Calls Tryz.prog 50 #[.agg #[.int .i64 x.1, .int .i64 x.2.1, x.2.2.1, x.2.2.2], .slice B m c] w fun e w' => e = .returned (.int .i64 (codC (R.map (·.2)) d)) ∧ Below w.heap.size w w' := by
  obtain ⟨s0, s1, v2, v3⟩ := x
  have hb0 : Below w.heap.size w (w.alloc (.cells #[.int .i64 s0, .int .i64 s1, v2, v3] 35)) := (Below.refl _ _).alloc (Nat.le_refl _) _
  have k0 := heap_alloc_new w (.cells #[.int .i64 s0, .int .i64 s1, v2, v3] 35)
  have x0 := (cell_of_row _ _ 0 _ _ (0, 0) k0).trans (show _ = some (Value.int .i64 s0) from rfl)
  have x1 := (cell_of_row _ _ 1 _ _ (0, 0) k0).trans (show _ = some (Value.int .i64 s1) from rfl)
  have x2 := (cell_of_row _ _ 2 _ _ (0, 0) k0).trans (show _ = some v2 from rfl)
  have x3 := (cell_of_row _ _ 3 _ _ (0, 0) k0).trans (show _ = some v3 from rfl)
  have hz0 := hb0.size
  replace he := he.below hb0 (Nat.le_refl _)
  replace hl := hl.below hb0 (.inr (Nat.le_refl _))
  replace h := h.below hb0 (.inr (Nat.le_refl _))
  replace hb0 := hide hb0
  clear k0
  have q1 := validLts_calls (s0, s1, v2, v3) d _ lo hi hl ht he
  go_enter Tryz.func50, Tryz.ntmps50
  go_upto_region 1 with fail
  generalize (w.alloc (.cells #[.int .i64 s0, .int .i64 s1, v2, v3] 35)) = W0 at *
  cases hv : ltsV d with
  | false =>
    have hval : Hid (codC (R.map (·.2)) d = 1) := by show _ = _; unfold codC; rw [hv]; rfl
    rw [hv] at q1
    replace q1 := hide q1
    clear hv hl he ht h
    go_wp2_with (first | (go_at_call 89; (with_reducible refine q1.out.mono ?_); rintro e w1 ⟨rfl, hb1⟩))
    go_ret
    exact ⟨by rw [hval.out]; rfl, hb0.out.trans (hb1.mono hz0)⟩
  | true =>
    rw [hv] at q1
    have q2 := fun (W : World) (hW : Below W0.heap.size W0 W) => containsFuncNN_calls 91 #[] (fun f => !isB f) B m c R W lo' hi' (h.below hW (.inr (Nat.le_refl _))) hm (fun _ _ => by kernel_rfl) (fun A m d l W' hW' hl' hm' => formulaCode1_calls A m d l W' lo' hi' ((he.below hW (Nat.le_refl _)).below hW' (Nat.le_refl _)) hl' hm')
    rw [any_all] at q2
    replace q1 := hide q1
    have hval : Hid (codC (R.map (·.2)) d = if (R.map (·.2)).all isB = true then 0 else 1) := by show _ = _; unfold codC; rw [hv, Bool.true_and]
    cases ha : (R.map (·.2)).all isB
    all_goals
      rw [ha] at hval q2
      replace q2 := hide q2
      clear ha hv hl he ht h
      go_wp2_with (first | (go_at_call 89; (with_reducible refine q1.out.mono ?_); rintro e w1 ⟨rfl, hb1⟩; have q3 := hide (q2.out w1 hb1)) | (go_at_call 90; (with_reducible refine q3.out.mono ?_); rintro e w2 ⟨rfl, hb2⟩))
      go_ret
      exact ⟨by rw [hval.out]; rfl, hb0.out.trans ((hb1.trans (hb2.mono hb1.size)).mono hz0)⟩

end Go.Proofs.YtanlgnjgpbjebaaGreatDoor

namespace Go.Proofs.YtanlgnjgpbjebaaGreatDoor
open Go.ChangeShapes Go.WideShapes Go.ChangeAt Go.RowKit
set_option linter.unusedVariables false
set_option linter.unusedSimpArgs false

/-- A boxed system in memory. -/
structure SysAt (w : World) (bt : Nat) (s0 ini : Int) (A2 : Option Addr) (n2 k2 : Nat) (A3 : Option Addr) (n3 k3 : Nat) (ls : List ByteArray) (es : List Ed) : Prop where
  cells : w.heap[bt]? = some (.cells #[.int .i64 s0, .int .i64 ini, .slice A2 n2 k2, .slice A3 n3 k3] 35 (0, 0))
  env : Env w
  ar : ReadL w 0 w.heap.size (s0, ini, .slice A2 n2 k2, .slice A3 n3 k3) (s0, ini, ls, es)
  tot : totL (s0, ini, ls, es) ≤ 1048576
/-- A formula in memory. -/
def FrmAt (w : World) (A : Option Addr) (n : Nat) (f : DN) : Prop := SlN w 0 w.heap.size A n f ∧ totN f ≤ 1048576
section
variable {w w' : World} {bt : Nat} {s0 ini : Int} {A A2 A3 : Option Addr} {n n2 k2 n3 k3 : Nat} {ls : List ByteArray} {es : List Ed} {f : DN}
theorem FrmAt.below (h : FrmAt w A n f) (hb : Below w.heap.size w w') : FrmAt w' A n f := ⟨(h.1.below hb (.inr (Nat.le_refl _))).more (Nat.le_refl _) hb.size, h.2⟩
theorem SysAt.lt (h : SysAt w bt s0 ini A2 n2 k2 A3 n3 k3 ls es) : bt < w.heap.size := (Array.getElem?_eq_some_iff.1 h.cells).1
theorem SysAt.below (h : SysAt w bt s0 ini A2 n2 k2 A3 n3 k3 ls es) (hb : Below w.heap.size w w') : SysAt w' bt s0 ini A2 n2 k2 A3 n3 k3 ls es :=
  ⟨(hb.block bt h.lt).trans h.cells, h.env.below hb (Nat.le_refl _), (h.ar.below hb (.inr (Nat.le_refl _))).more (Nat.le_refl _) hb.size, h.tot⟩
theorem SysAt.facts (h : SysAt w bt s0 ini A2 n2 k2 A3 n3 k3 ls es) : w.cell? ⟨bt, 0, none⟩ = some (.int .i64 s0) ∧ w.cell? ⟨bt, 1, none⟩ = some (.int .i64 ini) ∧ w.cell? ⟨bt, 2, none⟩ = some (.slice A2 n2 k2) ∧ w.cell? ⟨bt, 3, none⟩ = some (.slice A3 n3 k3) :=
  ⟨(cell_of_row _ _ 0 _ _ (0, 0) h.cells).trans rfl, (cell_of_row _ _ 1 _ _ (0, 0) h.cells).trans rfl, (cell_of_row _ _ 2 _ _ (0, 0) h.cells).trans rfl, (cell_of_row _ _ 3 _ _ (0, 0) h.cells).trans rfl⟩
/-- The arguments of a call, the system boxed. -/
theorem SysAt.box {v : Value} {d : DL} {lo hi : Nat} (he : Env w) (h : FreshL w lo hi v d) (hh : hi ≤ w.heap.size) : ∃ A2 n2 k2 A3 n3 k3, v = .agg #[.int .i64 d.1, .int .i64 d.2.1, .slice A2 n2 k2, .slice A3 n3 k3] ∧
    SysAt (w.alloc (.cells #[.int .i64 d.1, .int .i64 d.2.1, .slice A2 n2 k2, .slice A3 n3 k3] 35)) w.heap.size d.1 d.2.1 A2 n2 k2 A3 n3 k3 d.2.2.1 d.2.2.2 := by
  obtain ⟨⟨⟨s0, s1, v2, v3⟩, rfl, hL⟩, ht⟩ := h
  obtain ⟨st, ini, ls, es⟩ := d
  have hL' := hL
  obtain ⟨e0, e1, ⟨A2, n2, k2, e2, -⟩, ⟨A3, n3, k3, e3, -⟩⟩ := hL
  dsimp only at e0 e1 e2 e3
  subst e0 e1 e2 e3
  have hb : Below w.heap.size w (w.alloc (.cells #[.int .i64 s0, .int .i64 s1, .slice A2 n2 k2, .slice A3 n3 k3] 35)) := (Below.refl _ _).alloc (Nat.le_refl _) _
  exact ⟨A2, n2, k2, A3, n3, k3, rfl, heap_alloc_new w _, he.below hb (Nat.le_refl _), (hL'.below hb (.inr (Nat.le_refl _))).more (Nat.zero_le _) (Nat.le_trans hh hb.size), ht⟩
theorem FrmAt.of {u : Value} {lo hi : Nat} (g : FreshN w lo hi u f) (gh : hi ≤ w.heap.size) : ∃ A n, u = .slice A n n ∧ FrmAt w A n f := by
  obtain ⟨A, n, rfl, gs, gt⟩ := g
  exact ⟨A, n, rfl, gs.more (Nat.zero_le _) gh, gt⟩
theorem codC_one {d : DL} : codC [f] d = frmC f d := by
  unfold codC frmC
  simp only [List.all_cons, List.all_nil, Bool.and_true]
  rw [Bool.and_comm]
/-- What is asked of one formula: the list of formulas is the newest block. -/
theorem code1_calls (h : SysAt w bt s0 ini A2 n2 k2 A3 n3 k3 ls es) (g : FrmAt w A n f) {c : Nat} :
    Calls Tryz.prog 50 #[.agg #[.int .i64 s0, .int .i64 ini, .slice A2 n2 k2, .slice A3 n3 k3], .slice (some ⟨w.heap.size, 0, none⟩) 1 1] (w.alloc (.cells #[.slice A n c] 31)) fun e w' => e = .returned (.int .i64 (frmC f (s0, ini, ls, es))) ∧ Below w.heap.size w w' := by
  have hb : Below w.heap.size w (w.alloc (.cells #[.slice A n c] 31)) := (Below.refl _ _).alloc (Nat.le_refl _) _
  have h1 := h.below hb
  have g1 := g.below hb
  have hN : SlNN (w.alloc (.cells #[.slice A n c] 31)) 0 (w.alloc (.cells #[.slice A n c] 31)).heap.size (some ⟨w.heap.size, 0, none⟩) 1 [((A, n, c), f)] := by
    refine ⟨(Sl.lit1' w 31 ((A, n, c) : Hd) _ rfl 1 w.heap.size rfl).more (Nat.le_refl _) (by simp), fun r hr => ?_⟩
    obtain rfl := List.mem_singleton.1 hr
    exact ⟨g1.1, g1.2⟩
  have q := formulaCode_calls (s0, ini, .slice A2 n2 k2, .slice A3 n3 k3) (s0, ini, ls, es) (some ⟨w.heap.size, 0, none⟩) 1 1 _ _ 0 _ 0 _ h1.env h1.ar h1.tot hN (by omega)
  refine q.mono ?_
  rintro e w' ⟨rfl, hb2⟩
  exact ⟨by rw [← codC_one]; rfl, hb.trans (hb2.mono hb.size)⟩
/-- Where a part holds. -/
theorem SysAt.sem {N : Nat} (h : SysAt w bt (N : Int) ini A2 n2 k2 A3 n3 k3 ls es) (g : FrmAt w A n f) (hv : ValF f) (hlv : ltsV ((N : Int), ini, ls, es) = true) {vs : Value} {set : Option (List Bool)} (hset : SetV w vs set N) {k : Nat} (hk : k < n) {c : Nat} :
    Calls Tryz.prog 51 #[.slice A n c, .agg #[.int .i64 (N : Nat), .int .i64 ini, .slice A2 n2 k2, .slice A3 n3 k3], vs, .int .i64 (k : Nat)] w fun e w' => ∃ A' c', e = .returned (.slice A' N c') ∧ SlB w' w.heap.size w'.heap.size A' N (wonS f ((N : Int), ini, ls, es) set k) ∧ Below w.heap.size w w' := by
  obtain ⟨-, -, ⟨A2', n2', k2', e2, -, -, t2⟩, ⟨A3', n3', k3', e3, -, t3⟩⟩ := h.ar
  cases e2
  cases e3
  exact semantics_calls A n c f N ini A2 n2 k2 A3 n3 k3 ls es vs set k w g.1 g.2 hv h.env t2 t3 h.tot hlv hset hk
end
theorem semP_zero {f : DN} {d : DL} : semP f d 0 = semF f d := by unfold semP semF; rw [subT_self, envT_self]
set_option maxRecDepth 100000 in
set_option maxHeartbeats 3200000 in
theorem implFormulaStates_u {v u : Value} {f : DN} {d : DL} {w : World} {lo hi lo' hi' : Nat} (he : Env w) (g : FreshN w lo' hi' u f) (gh : hi' ≤ w.heap.size) (h : FreshL w lo hi v d) (hh : hi ≤ w.heap.size) :
    Calls Tryz.prog 31 #[u, v] w fun e w' => ∃ o, e = .returned (.tuple #[o, .int .i64 (frmF f d).2]) ∧ ResI w' w.heap.size w'.heap.size o (frmF f d).1 ∧ Below w.heap.size w w' := by
  obtain ⟨A2, n2, k2, A3, n3, k3, rfl, hS⟩ := SysAt.box he h hh
  obtain ⟨A, n, rfl, hF⟩ := FrmAt.of g gh
  obtain ⟨st, ini, ls, es⟩ := d
  dsimp only at hS ⊢
  obtain ⟨W0, hW0⟩ : ∃ W', W' = w.alloc (.cells #[.int .i64 st, .int .i64 ini, .slice A2 n2 k2, .slice A3 n3 k3] 35) := ⟨_, rfl⟩
  have hb0 : Below w.heap.size w W0 := by rw [hW0]; exact (Below.refl _ _).alloc (Nat.le_refl _) _
  rw [← hW0] at hS
  replace hF := hF.below hb0
  have hz0 := hb0.size
  have q1 := code1_calls hS hF (c := n)
  obtain ⟨b0, b1, b2, b3⟩ := hS.facts
  replace hb0 := hide hb0
  clear he g h
  go_enter Tryz.func31, Tryz.ntmps31
  go_upto_region 1 with fail
  rw [← hW0]
  clear hW0
  by_cases hc : frmC f (st, ini, ls, es) = 0
  case neg =>
    have hval : Hid (frmF f (st, ini, ls, es) = ([], frmC f (st, ini, ls, es))) := by show _ = _; unfold frmF; rw [if_neg hc]
    generalize frmC f (st, ini, ls, es) = oc at *
    replace q1 := hide q1
    have hcb : (oc != 0) = true := by simpa using hc
    clear hS hF
    go_wp2_with (first | (go_at_call 50; (with_reducible refine q1.out.mono ?_); rintro e w5 ⟨rfl, hb5⟩; replace hb5 := hide hb5))
    go_ret2
    exact ⟨.slice none 0 0, by rw [hval.out]; rfl, by rw [hval.out]; exact ⟨none, 0, 0, rfl, by omega, Sl.nil_⟩, hb0.out.trans (hb5.out.mono hz0)⟩
  obtain ⟨hV, hlv⟩ := frmC_ok hc
  have hval : Hid (frmF f (st, ini, ls, es) = (idxOf (semF f (st, ini, ls, es)), 0)) := by show _ = _; unfold frmF; rw [if_pos hc]
  rw [hc] at q1
  replace q1 := hide q1
  have hb40 := (lts_boundsB hlv).1
  obtain ⟨N, rfl⟩ : ∃ N : Nat, st = (N : Int) := ⟨st.toNat, by omega⟩
  have hN40 : N ≤ 40 := by omega
  have hn0 : 0 < n := by have := hV.len; have := hF.1.len; omega
  have hwon : wonS f ((N : Int), ini, ls, es) none 0 = semF f ((N : Int), ini, ls, es) := by rw [wonS_none hV hlv (by have := hV.len; omega), semP_zero]
  have q2 := fun (W : World) (hW : Below W0.heap.size W0 W) => (hS.below hW).sem (hF.below hW) hV hlv (vs := .slice none 0 0) (set := none) rfl hn0 (c := n)
  rw [hwon, show ((0 : Nat) : Int) = 0 from rfl] at q2
  replace q2 := hide q2
  have hS' := hide hS
  clear hc hS hF hV hlv hwon
  go_wp2_with (first | (go_at_call 50; (with_reducible refine q1.out.mono ?_); rintro e w5 ⟨rfl, hb5⟩; have q3 := hide (q2.out w5 hb5); obtain ⟨d0, d1, d2, d3⟩ := (hS'.out.below hb5).facts; replace hb5 := hide hb5; clear q1) | (go_at_call 51; (with_reducible refine q3.out.mono ?_); rintro e w6 ⟨A6, c6, rfl, hs6, hb6⟩; have q4 := hide (trueAt_calls A6 N c6 _ w6 _ _ hs6 (by omega)); replace hb6 := hide hb6; clear hs6) | (go_at_call 75; (with_reducible refine q4.out.mono ?_); rintro e w7 ⟨A7, c7, rfl, ho7, hb7⟩; replace ho7 := hide ho7; replace hb7 := hide hb7))
  go_ret2
  have hb6w := hb0.out.trans ((hb5.out.trans (hb6.out.mono hb5.out.size)).mono hz0)
  have hbw := hb6w.trans (hb7.out.mono hb6w.size)
  have hle : (idxOf (semF f ((N : Int), ini, ls, es))).length ≤ 40 := by
    have h1 := List.length_filter_le (inS (semF f ((N : Int), ini, ls, es))) (List.range (semF f ((N : Int), ini, ls, es)).length)
    rw [List.length_range, semF_len] at h1
    unfold idxOf
    rw [List.length_map, semF_len]
    exact Nat.le_trans h1 hN40
  exact ⟨.slice A7 _ c7, by rw [hval.out]; rfl, by rw [hval.out]; exact ⟨A7, _, c7, rfl, by omega, (ho7.out.sl flat_iv).more hb6w.size (Nat.le_refl _)⟩, hbw⟩

end Go.Proofs.YtanlgnjgpbjebaaGreatDoor

namespace Go.Proofs.YtanlgnjgpbjebaaGreatDoor
open Go.ChangeShapes Go.WideShapes Go.ChangeAt Go.RowKit
set_option linter.unusedVariables false

theorem fact_laid : laidOutB Tryz.pinned.checked.prog = true := by kernel_rfl
theorem fact_maps : mapsRowed Tryz.pinned.checked.prog = true := by kernel_rfl
theorem fact_heard : Tryz.pinned.checked.prog.stopsHeard = true := by kernel_rfl
theorem fact_enter : Tryz.pinned.checked.prog.mayEnter = true := by kernel_rfl
theorem fact_lifts : Tryz.pinned.checked.prog.liftsFinal = Rows.fnExactFormulaHoldsRow.lifted := by kernel_rfl
theorem fact_make : Tryz.pinned.checked.prog.make = some Rows.fnExactFormulaHoldsRow.make := by kernel_rfl
theorem fact_main : Tryz.pinned.checked.prog.mainIs = some (true, "bfc252992bf6c1113b275f27b620619f35e36127a813af0a44b0b9f500c36f45".toList) := by kernel_rfl
theorem fact_looks : true = Tryz.pinned.checked.prog.looks [] := by kernel_rfl
theorem plain_laid : (laidL.filter fun x => x.2.handleName?.isSome) = [] := by kernel_rfl
theorem pre_laid {H : Type} {enc : TypeId × Value → H} {P : Program} {f : Func} {s : OpenSpec} {c : OpenClaim} (hl : c.laid = laidL) :
    c.pre enc P f s = fun w args => (s.pre enc P f c.domain c.apart w args ∧ laidMet P laidL w) ∧ sizedMet enc P f s c.apart w args := by
  obtain ⟨x, r, e⟩ : ∃ x r, laidL = x :: r := ⟨_, _, rfl⟩
  have hp := plain_laid
  funext w args
  unfold OpenClaim.pre OpenClaim.preLaid
  rw [hl]
  rw [e] at hp ⊢
  show ((_ ∧ laidMetH P (x :: r) w) ∧ _) = _
  unfold laidMetH
  rw [hp]

end Go.Proofs.YtanlgnjgpbjebaaGreatDoor
