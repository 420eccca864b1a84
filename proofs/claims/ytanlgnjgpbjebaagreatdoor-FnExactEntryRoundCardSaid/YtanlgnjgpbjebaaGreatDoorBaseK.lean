/-
  Several texts in one:
  The operands of a node, by the program. Conditions: the formula's shape.
  What a node selects, by the program. Conditions: sizes; the label is one.
  The game of a formula as it grows. Conditions: none.
  The game of a formula and a system, by the program. Conditions: both are valid.
  The reference's recursive computation of winners. Conditions: valid games.
  slices.Repeat of one element. Conditions: at most 1048576 copies.
  Arenas in memory (a game, who may move where, the vertices that are left), and the functions on them that only read: marked, exits. Conditions: valid games.
  Arenas: without some vertices. Conditions: valid games.
  A queue of numbers (a slice of the call's own that is cut at its head and appended to at its end), and maps from numbers to counts that the call has made. Conditions: short queues.
-/
import Derived.Test.YtanlgnjgpbjebaaGreatDoorBaseB
import Derived.Test.YtanlgnjgpbjebaaGreatDoorBaseG
import Derived.Test.YtanlgnjgpbjebaaGreatDoorBaseH
import Derived.Test.YtanlgnjgpbjebaaGreatDoorBaseJ
import Derived.Laws.Cover3
import Derived.Deep.DeepCutAuto
import Derived.Deep.CutBlock
import Derived.Deep.RegionHeld3
import Derived.Laws.CopyOwn
import Derived.Laws.Bits64b
import Derived.StillTailTactics
import Derived.Deep.RegionLaw
import Derived.Deep.LoopGhost
import Derived.Maps.OwnSet
import Derived.Maps.Views
import Derived.ArgAppend
set_option linter.unusedSimpArgs false
set_option linter.unusedVariables false
namespace Go.Proofs.YtanlgnjgpbjebaaGreatDoor
open Go.ChangeShapes Go.WideShapes Go.ChangeAt Go.RowKit
set_option linter.unusedVariables false
set_option linter.unusedSimpArgs false

theorem elem_intT : Elem Tryz.prog 141 3 1 8 := Elem.of (z := .int .i64 0) Tryz.underlying141 (by kernel_rfl) rfl (by omega) (by omega)
/-- The first j operands as numbers. -/
noncomputable def opsI (f : DN) (k j : Nat) : List Int := ((opsF f k).take j).map fun (a : Nat) => (a : Int)
theorem opsI_next {f : DN} {k j : Nat} (h : j < arityQ (qF f k)) : opsI f k (j + 1) = opsI f k j ++ [(opN f k j : Int)] := by
  unfold opsI
  rw [List.take_add_one, ops_get h, List.map_append]
  rfl
set_option maxRecDepth 100000 in
theorem operandsOf_calls (A : Option Addr) (n c : Nat) (f : DN) (k : Nat) (w : World) (lo hi : Nat) (h : SlN w lo hi A n f) (hs : ShapeF f) (hn : n ≤ 30) (hk : k < n) :
    Calls Tryz.prog 123 #[.slice A n c, .int .i64 (k : Nat)] w fun e w' => ∃ A' c', e = .returned (.slice A' (arityQ (qF f k)) c') ∧ SlI w' w.heap.size w'.heap.size A' (arityQ (qF f k)) (opsI f k (arityQ (qF f k))) ∧ Below w.heap.size w w' := by
  have hlen := h.len
  have qE := hide (fun (i : Nat) (hi' : i < n) W (hW : Below w.heap.size w W) => formulaEnd_calls A n c f i W lo hi (h.below hW (.inr (Nat.le_refl _))) hs hn hi')
  have hop := hide fun (i : Nat) (hi' : i < arityQ (qF f k)) => op_lt hs (k := k) (by omega) hi'
  have hnx := hide fun (i : Nat) (hi' : i < arityQ (qF f k)) => opsI_next hi'
  have h2 := arity_le (qF f k)
  have h00 : opsI f k 0 = [] := by unfold opsI; rw [List.take_zero]; rfl
  have hE := hide elem_intT
  have hendA : Hid (∀ i, i + 1 < arityQ (qF f k) → endF f (opN f k i) = opN f k (i + 1)) := fun i hi' => by
    have : i = 0 := by omega
    subst this
    rfl
  obtain ⟨b, off, x, y, s, z, rfl, -, -, g3, hx, c0, c1, c2, c3⟩ := SlN.get h hk
  have hq := qF_at hx
  dsimp only at hq
  have qO := fun W => operands_calls x y s z W
  rw [show arityQ x = arityQ (qF f k) by rw [hq]] at qO
  have hop0 : Hid (0 < arityQ (qF f k) → k + 1 = opN f k 0) := fun _ => rfl
  replace qO := hide qO
  have hlen' := hide hlen
  generalize arityQ (qF f k) = ar at *
  have hk0 : (0 : Int) ≤ (k : Int) := by omega
  have hk1 : (k : Int) < (n : Int) := by omega
  clear hs hx hq h hlen
  go_enter Tryz.func123, Tryz.ntmps123
  go_wp2_with (first | (go_at_call 139; (with_reducible refine (qO.out _).mono ?_); rintro e w1 ⟨rfl, hb1⟩))
  have h0w : Hid (Own 1 iv w1 w.heap.size 3 none 0 0 (opsI f k 0)) := by show Own _ _ _ _ _ _ _ _ _; rw [h00]; exact Own.nil_ _ _ _
  go_loopw [5, 6, 14] (fun o a i wr => ∃ (j : Nat) (Ao : Option Addr) (co q : Nat), j ≤ ar ∧ i = .int .i64 (j : Nat) ∧ o = .slice Ao j co ∧ a = .int .i64 (q : Nat) ∧ Hid (Own 1 iv wr w.heap.size 3 Ao j co (opsI f k j)) ∧ Hid (j < ar → q = opN f k j) ∧ Below w.heap.size w wr) (fun _ _ i _ => ar - (intOf i).toNat)
  case atStart => exact ⟨0, none, 0, k + 1, Nat.zero_le _, rfl, rfl, by go_num, h0w, hop0, hb1⟩
  case round =>
    obtain ⟨j, Ao, co, q, hj, rfl, rfl, rfl, hown, hq, hb⟩ := hrel
    clear h0w
    by_cases hlt : j < ar
    · obtain rfl := hq.out hlt
      have hq1 := hop.out j hlt
      rw [hlen'.out] at hq1
      have hz := hb.size
      have hza : ∀ o, w.heap.size ≤ (wr.alloc o).heap.size := fun o => by rw [World.size_alloc]; omega
      have hnx1 := hide (hnx.out j hlt)
      have hen := hide (hendA.out j)
      generalize opN f k j = q at *
      have qE1 := hide (fun (W : World) (hW : Below w.heap.size w W) => qE.out q (by omega) W hW)
      generalize endF f q = E at *
      replace hb := hide hb
      go_wp2_with (first
        | (at_builtin; (with_reducible refine wpList_app rfl (.tmp 16) (.tmp 18) rfl hE.out flat_iv rfl (hown.out.alloc _) rfl (Sl.lit1' wr 3 (q : Int) _ rfl 1 _ ?c0) ?c1 (hza _) ?_); rotate_right; intro A5 c5 w5 hown5 hgr5 hb5 _; have hbA := (hb.out.trans ((Below.refl w.heap.size wr).alloc hz _)).trans hb5)
        | (go_at_call 141; (with_reducible refine (qE1.out _ hbA).mono ?_); rintro e w2 ⟨rfl, hb2⟩))
      case c0 => rfl
      case c1 => omega
      go_roundw
      case rel => exact ⟨j + 1, A5, c5, E, by omega, by go_num, rfl, rfl, by show Own _ _ _ _ _ _ _ _ _; rw [hnx1.out]; exact hown5.below hb2 (Nat.le_refl _), hen.out, hbA.trans (hb2.mono hbA.size)⟩
      case measure => simp [intOf]; omega
    · have hjk : j = ar := by omega
      subst hjk
      clear hq
      go_wp2
      go_ret
      exact ⟨Ao, co, rfl, (hown.out.sl flat_iv), hb⟩

end Go.Proofs.YtanlgnjgpbjebaaGreatDoor

namespace Go.Proofs.YtanlgnjgpbjebaaGreatDoor
open Go.ChangeShapes Go.WideShapes Go.ChangeAt Go.RowKit
set_option linter.unusedVariables false
set_option linter.unusedSimpArgs false

set_option maxRecDepth 100000 in
set_option maxHeartbeats 1600000 in
theorem selects_calls (x y : Int) (p : ByteArray) (no : Bool) (l : ByteArray) (w : World) (hp : p.size ≤ 1048576) (hl : l.size ≤ 1048576) (he : Env w) (hlab : labS l = true) :
    Calls Tryz.prog 127 #[.agg #[.int .i64 x, .int .i64 y, .string p, .bool no], .string l] w fun e w' => e = .returned (.bool (selB p no l)) ∧ Below w.heap.size w w' := by
  have hb0 : Below w.heap.size w (w.alloc (.cells #[.int .i64 x, .int .i64 y, .string p, .bool no] 67)) := (Below.refl w.heap.size w).alloc (Nat.le_refl _) _
  have heW := he.below hb0 (Nat.le_refl _)
  have qc := fun W => cutSuffix_calls p W hp
  have qn := fun W hW => labelName_calls l W hl hW hlab
  have hnst := lab_star hlab
  have hb1 := hb0.size
  have kB := heap_alloc_new w (.cells #[.int .i64 x, .int .i64 y, .string p, .bool no] 67)
  have hlt0 : w.heap.size < (w.alloc (.cells #[.int .i64 x, .int .i64 y, .string p, .bool no] 67)).heap.size := by simp
  have n3 := fun W (hW : Below (w.alloc (.cells #[.int .i64 x, .int .i64 y, .string p, .bool no] 67)).heap.size (w.alloc (.cells #[.int .i64 x, .int .i64 y, .string p, .bool no] 67)) W) => (cell_of_row _ _ 3 _ _ (0, 0) ((hW.block _ hlt0).trans kB)).trans (show _ = some (Value.bool no) from rfl)
  replace n3 := hide n3
  clear kB
  replace heW := hide heW
  replace hb0 := hide hb0
  by_cases h0 : p.size = 0
  · have hv : Hid (selB p no l = !no) := by show _ = _; unfold selB; simp [h0]
    obtain rfl : p = ⟨#[]⟩ := size_zero h0
    generalize cutV ⟨#[]⟩ = cv at *
    generalize starB ⟨#[]⟩ = st at *
    replace qc := hide qc
    clear qn
    cases no
    all_goals
      go_enter Tryz.func127, Tryz.ntmps127
      go_wp2_with (first | (go_at_call 149; (with_reducible refine (qc.out _).mono ?_); rintro e w1 ⟨rfl, rfl⟩))
      go_ret
      exact ⟨ret_b hv.out, hb0.out⟩
  · have hne : ¬ p.toList = [] := fun c => h0 (by rw [ba_ext (a := p) (b := ⟨#[]⟩) (by rw [c]; exact (ByteArray.toList_mk _).symm)]; rfl)
    have hne2 : (p.toList == []) = false := by simpa using hne
    by_cases hpl : p = l
    · have hv : Hid (selB p no l = !no) := by show _ = _; unfold selB; simp [hpl]
      subst hpl
      generalize cutV p = cv at *
      generalize starB p = st at *
      replace qc := hide qc
      clear qn hlab hnst
      cases no
      all_goals
        go_enter Tryz.func127, Tryz.ntmps127
        go_wp2_with (first | (go_at_call 149; (with_reducible refine (qc.out _).mono ?_); rintro e w1 ⟨rfl, rfl⟩))
        go_ret
        exact ⟨ret_b hv.out, hb0.out⟩
    · have hpl2 := str_neq hpl
      cases hst : starB p with
      | false =>
        have hv : Hid (selB p no l = no) := by show _ = _; unfold selB; simp [h0, hpl, hst]
        rw [hst] at qc
        generalize cutV p = cv at *
        replace qc := hide qc
        clear qn hlab hnst hst h0
        cases no
        all_goals
          go_enter Tryz.func127, Tryz.ntmps127
          go_wp2_with (first | (go_at_call 149; (with_reducible refine (qc.out _).mono ?_); rintro e w1 ⟨rfl, rfl⟩))
          go_ret
          exact ⟨ret_b hv.out, hb0.out⟩
      | true =>
        have hcv : cutV p = cutB p := by unfold cutV; rw [hst]; rfl
        have hv : Hid (selB p no l = (decide (namS l = cutV p) != no)) := by show _ = _; unfold selB; rw [hcv]; simp [h0, hpl, hst]
        rw [hst] at qc
        generalize cutV p = cv at *
        generalize namS l = nm at *
        replace qc := hide qc
        have qn2 := hide fun W (hW : Below (w.alloc (.cells #[.int .i64 x, .int .i64 y, .string p, .bool no] 67)).heap.size (w.alloc (.cells #[.int .i64 x, .int .i64 y, .string p, .bool no] 67)) W) => qn W (heW.out.below hW (Nat.le_refl _))
        clear qn hlab hnst hst h0 hcv
        by_cases heq : nm = cv
        · have heq2 : (nm.toList == cv.toList) = true := by rw [heq]; simp
          rw [decide_eq_true heq] at hv
          clear heq
          cases no
          all_goals
            go_enter Tryz.func127, Tryz.ntmps127
            go_wp2_with (first | (go_at_call 149; (with_reducible refine (qc.out _).mono ?_); rintro e w1 ⟨rfl, rfl⟩) | (go_at_call 150; (with_reducible refine (qn2.out _ (Below.refl _ _)).mono ?_); rintro e w2 ⟨rfl, hb2⟩; have n3' := n3.out _ hb2))
            go_ret
            exact ⟨ret_b hv.out, hb0.out.trans (hb2.mono hb1)⟩
        · have heq2 := str_neq heq
          rw [decide_eq_false heq] at hv
          clear heq
          cases no
          all_goals
            go_enter Tryz.func127, Tryz.ntmps127
            go_wp2_with (first | (go_at_call 149; (with_reducible refine (qc.out _).mono ?_); rintro e w1 ⟨rfl, rfl⟩) | (go_at_call 150; (with_reducible refine (qn2.out _ (Below.refl _ _)).mono ?_); rintro e w2 ⟨rfl, hb2⟩; have n3' := n3.out _ hb2))
            go_ret
            exact ⟨ret_b hv.out, hb0.out.trans (hb2.mono hb1)⟩

end Go.Proofs.YtanlgnjgpbjebaaGreatDoor

namespace Go.Proofs.YtanlgnjgpbjebaaGreatDoor
open Go.ChangeShapes Go.WideShapes Go.ChangeAt Go.RowKit
set_option linter.unusedVariables false
set_option linter.unusedSimpArgs false

theorem GrowV.below {w w' : World} {base n c : Nat} {A : Option Addr} {R : List (CV × List Int)} (h : GrowV w base A n c R) (hb : Below w.heap.size w w') : GrowV w' base A n c R :=
  ⟨h.own.below hb (Nat.le_refl _), fun r hr => ⟨((h.rows r hr).1.below hb (.inr (Nat.le_refl _))).more (Nat.le_refl _) hb.size, (h.rows r hr).2⟩, h.off⟩
/-- The vertices made so far; since the world w1 only the blocks of T have changed. -/
structure OutW (W0 w1 : World) (T : Nat → Prop) (w : World) (A : Option Addr) (n c : Nat) (R : List (CV × List Int)) : Prop where
  grow : GrowV w W0.heap.size A n c R
  at_ : ∀ g, (Value.slice A n c).ownBlock = some g → T g ∨ w1.heap.size ≤ g
  but : But T w1 w
theorem OutW.start {W0 w w1 : World} {A : Option Addr} {n c : Nat} {R : List (CV × List Int)} (h : GrowV w W0.heap.size A n c R) (hb : Below w.heap.size w w1) : OutW W0 w1 (fun b => (Value.slice A n c).ownBlock = some b) w1 A n c R :=
  ⟨h.below hb, fun g hg => .inl hg, But.refl _ _⟩
theorem OutW.begin {W0 w w1 : World} {A : Option Addr} {n c : Nat} {R : List (CV × List Int)} (h : GrowV w W0.heap.size A n c R) (hb : Below w.heap.size w w1) : ∃ T : Nat → Prop, (∀ b, T b → W0.heap.size ≤ b ∧ b < w.heap.size) ∧ OutW W0 w1 T w1 A n c R :=
  ⟨fun b => (Value.slice A n c).ownBlock = some b, fun b hb' => h.own.lt b hb', OutW.start h hb⟩
theorem OutW.push {W0 w1 w w4 w5 : World} {T : Nat → Prop} {A : Option Addr} {n c : Nat} {R : List (CV × List Int)} (h : OutW W0 w1 T w A n c R) (hW : W0.heap.size ≤ w.heap.size) (hb : Below w.heap.size w w4) {o p : Int} {Ah : Option Addr} {nh ch : Nat} {s : List Int} (hs : SlI w4 w.heap.size w4.heap.size Ah nh s) (hnh : nh ≤ 1048576)
    {A5 : Option Addr} {c5 : Nat} (hown : Own 3 gV w5 W0.heap.size 137 A5 (n + 1) c5 (R.map (·.1) ++ [(o, p, Ah, nh, ch)])) (hgr : w4.grownBy w5 (Value.slice A n c).ownBlock)
    (hat : (Value.slice A5 (n + 1) c5).ownBlock = (Value.slice A n c).ownBlock ∨ (Value.slice A5 (n + 1) c5).ownBlock = some w4.heap.size) :
    OutW W0 w1 T w5 A5 (n + 1) c5 (R ++ [((o, p, Ah, nh, ch), s)]) := by
  have hz := h.but.size
  have hz4 := hb.size
  have hz5 := hgr.size
  refine ⟨h.grow.push hb hW hs hnh hown hgr hat, fun g hg => ?_, ⟨(hgr.os.trans hb.os).trans h.but.os, (hgr.tape.trans hb.tape).trans h.but.tape, (hgr.output.trans hb.output).trans h.but.output, by omega, fun b hb1 hn => ?_⟩⟩
  · rcases hat with e | e
    · exact h.at_ g (e ▸ hg)
    · rw [e] at hg
      cases hg
      exact .inr (by omega)
  · refine (hgr.block b (by omega) fun e => ?_).trans ((hb.block b (by omega)).trans (h.but.block b hb1 hn))
    rcases h.at_ b e.symm with e1 | e1
    · exact hn e1
    · omega
/-- A vertex that was begun in the world WV. -/
theorem ToAt.belowV {WV w : World} {bv m c : Nat} {o p : Int} {A : Option Addr} {l : List Int} (h : ToAt WV w bv o p A m c l) : Below bv WV w := h.but.below (fun x e => by rw [e]; exact Nat.le_refl _) (Nat.le_of_lt h.lt)
theorem ToAt.lower {WV W1 w : World} {bv m c m0 c0 : Nat} {o p o0 p0 : Int} {A A0 : Option Addr} {l l0 : List Int} (h0 : ToAt WV W1 bv o0 p0 A0 m0 c0 l0) (h : ToAt W1 w bv o p A m c l) : ToAt WV w bv o p A m c l :=
  ⟨h0.but.trans h.but, h.cells, h.own.lower h0.size, h0.lt⟩
theorem ToAt.new {wx : World} {p : Int} : ToAt (wx.alloc (.cells #[.int .i64 0, .int .i64 p, .slice none 0 0] 137)) (wx.alloc (.cells #[.int .i64 0, .int .i64 p, .slice none 0 0] 137)) wx.heap.size 0 p none 0 0 [] :=
  ToAt.start (heap_alloc_new wx _)
/-- The player of a vertex. -/
def ownQ (q : Int) : Int := if q = 0 ∨ q = 2 ∨ q = 5 then 1 else 0
theorem own_plain {f : DN} {set : Option (List Bool)} {k x : Nat} (h : ¬ (set.isSome = true ∧ qF f k = 6 ∧ bindF f k = some 0)) : ownF f set k x = ownQ (qF f k) := by
  unfold ownF ownQ
  cases set with
  | none => rfl
  | some s =>
    dsimp only
    rw [if_neg fun c => h ⟨rfl, c.1, c.2⟩]
theorem own_set {f : DN} {s : List Bool} {k x : Nat} (h6 : qF f k = 6) (h0 : bindF f k = some 0) : ownF f (some s) k x = if inS s x then 1 else 0 := by
  unfold ownF
  dsimp only
  rw [if_pos ⟨h6, h0⟩]
theorem truth_1 (w : World) : Calls Tryz.prog 122 #[.bool true] w fun e w' => e = .returned (.int .i64 1) ∧ w = w' := truth_calls true w
theorem truth_0 (w : World) : Calls Tryz.prog 122 #[.bool false] w fun e w' => e = .returned (.int .i64 0) ∧ w = w' := truth_calls false w
/-- The set that a game is made with. -/
def SetV (w : World) (v : Value) (set : Option (List Bool)) (N : Nat) : Prop := match set with | none => v = .slice none 0 0 | some s => ∃ a c, v = .slice (some a) N c ∧ SlB w 0 w.heap.size (some a) N s

end Go.Proofs.YtanlgnjgpbjebaaGreatDoor

namespace Go.Proofs.YtanlgnjgpbjebaaGreatDoor
open Go.ChangeShapes Go.WideShapes Go.ChangeAt Go.RowKit
set_option linter.unusedVariables false
set_option linter.unusedSimpArgs false

set_option maxRecDepth 100000 in
set_option maxHeartbeats 6400000 in
theorem formulaGame_calls (A : Option Addr) (n c : Nat) (f : DN) (N : Nat) (ini : Int) (A2 : Option Addr) (n2 k2 : Nat) (A3 : Option Addr) (n3 k3 : Nat) (ls : List ByteArray) (es : List Ed) (vs : Value) (set : Option (List Bool)) (w : World)
    (h : SlN w 0 w.heap.size A n f) (htf : totN f ≤ 1048576) (hv : ValF f) (he : Env w) (t2 : SlS w 0 w.heap.size A2 n2 ls) (t3 : SlE w 0 w.heap.size A3 n3 es) (htl : totL ((N : Int), ini, ls, es) ≤ 1048576) (hlv : ltsV ((N : Int), ini, ls, es) = true) (hset : SetV w vs set N) :
    Calls Tryz.prog 94 #[.slice A n c, .agg #[.int .i64 (N : Nat), .int .i64 ini, .slice A2 n2 k2, .slice A3 n3 k3], vs] w fun e w' => ∃ A' c', e = .returned (.slice A' (n * N) c') ∧ GameAt w' A' (n * N) (gameF f ((N : Int), ini, ls, es) set) ∧ Below w.heap.size w w' := by
  have hlen := h.len
  have hn30 := hv.len.2
  have hb40 := (lts_boundsB hlv).1
  have hN40 : 1 ≤ N ∧ N ≤ 40 := by omega
  have hbT : Below w.heap.size w (w.alloc (.cells #[.int .i64 (N : Nat), .int .i64 ini, .slice A2 n2 k2, .slice A3 n3 k3] 35)) := (Below.refl _ _).alloc (Nat.le_refl _) _
  have kT := heap_alloc_new w (.cells #[.int .i64 (N : Nat), .int .i64 ini, .slice A2 n2 k2, .slice A3 n3 k3] 35)
  have hzT : (w.alloc (.cells #[.int .i64 (N : Nat), .int .i64 ini, .slice A2 n2 k2, .slice A3 n3 k3] 35)).heap.size = w.heap.size + 1 := by simp
  replace h := h.below hbT (.inr (Nat.le_refl _))
  replace t2 := t2.below hbT (.inr (Nat.le_refl _))
  replace t3 := t3.below hbT (.inr (Nat.le_refl _))
  replace he := he.below hbT (Nat.le_refl _)
  have hset1 : SetV (w.alloc (.cells #[.int .i64 (N : Nat), .int .i64 ini, .slice A2 n2 k2, .slice A3 n3 k3] 35)) vs set N := by
    cases set with
    | none => exact hset
    | some s =>
      obtain ⟨a, c, e, hs⟩ := hset
      exact ⟨a, c, e, (hs.below hbT (.inr (Nat.le_refl _))).more (Nat.le_refl _) hbT.size⟩
  clear hset
  replace hbT := hide hbT
  go_enter Tryz.func94, Tryz.ntmps94
  go_upto_region 1 with fail
  generalize (w.alloc (.cells #[.int .i64 (N : Nat), .int .i64 ini, .slice A2 n2 k2, .slice A3 n3 k3] 35)) = W0 at *
  have hbtW : w.heap.size < W0.heap.size := by omega
  generalize hbt : w.heap.size = bt at *
  have hE := hide elem_vertex
  have hgl := hide (gameF_len (f := f) (d := ((N : Int), ini, ls, es)) (set := set))
  replace h := hide h
  replace t2 := hide t2
  replace t3 := hide t3
  replace he := hide he
  replace hv := hide hv
  replace hlv := hide hlv
  replace hset1 := hide hset1
  replace hlen := hide hlen
  replace kT := hide kT
  replace htl := hide htl
  replace htf := hide htf
  have hn30' : n ≤ 30 := by rw [← hlen.out]; exact hn30
  clear hb40 hn30
  go_wp2_with fail
  go_loopw [7, 20] (fun o i wr => ∃ (k : Nat) (Ao : Option Addr) (co : Nat) (R : List (CV × List Int)), k ≤ n ∧ i = .int .i64 (k : Nat) ∧ o = .slice Ao (k * N) co ∧ Hid (GrowV wr W0.heap.size Ao (k * N) co R) ∧ Hid (R.map dV = (gameF f ((N : Int), ini, ls, es) set).take (k * N)) ∧ Hid (Below W0.heap.size W0 wr)) (fun _ i _ => n - (intOf i).toNat)
  case atStart => exact ⟨0, none, 0, [], Nat.zero_le _, rfl, by rw [Nat.zero_mul], by show GrowV _ _ _ _ _ _; rw [Nat.zero_mul]; exact GrowV.nil_ _ _, by show _ = _; rw [Nat.zero_mul]; rfl, Below.refl _ _⟩
  case round =>
    obtain ⟨k, Ao, co, R, hk, rfl, rfl, hG, hR, hb⟩ := hrel
    by_cases hlt : k < n
    · have hz := hb.out.size
      obtain ⟨bf, of, q, vv, sl, no, hA, -, -, g3, hx, c0, c1, c2, c3⟩ := SlN.get (h.out.below hb.out (.inr (Nat.le_refl _))) hlt
      have g3W : bf < W0.heap.size := by
        obtain ⟨bf', of', q', vv', sl', no', hA', -, -, g3', -⟩ := SlN.get h.out hlt
        rw [hA] at hA'
        cases hA'
        exact g3'
      have hk0 : (0 : Int) ≤ (k : Int) := by omega
      have hk1 : (k : Int) < (n : Int) := by omega
      have hbN : Below wr.heap.size wr (wr.alloc (.cells #[.int .i64 q, .int .i64 vv, .string sl, .bool no] 67)) := (Below.refl _ _).alloc (Nat.le_refl _) _
      have kN := heap_alloc_new wr (.cells #[.int .i64 q, .int .i64 vv, .string sl, .bool no] 67)
      have hzN : (wr.alloc (.cells #[.int .i64 q, .int .i64 vv, .string sl, .bool no] 67)).heap.size = wr.heap.size + 1 := by simp
      have hb2 := hb.out.trans (hbN.mono hz)
      have hqO := hide (operandsOf_calls A n c f k (wr.alloc (.cells #[.int .i64 q, .int .i64 vv, .string sl, .bool no] 67)) _ _ (h.out.below hb2 (.inr (Nat.le_refl _))) hv.out.shape hn30' hlt)
      have hq : Hid (qF f k = q) := qF_at hx
      have hnd : Hid (ndA f k = (q, vv, sl, no)) := ndA_at hx
      have hmem : Hid ((q, vv, sl, no) ∈ f) := List.mem_of_getElem? hx
      subst hA
      replace hbN := hide hbN
      replace kN := hide kN
      clear hx hb2
      go_upto_region 5 with fail
      generalize hWN : (wr.alloc (.cells #[.int .i64 q, .int .i64 vv, .string sl, .bool no] 67)) = WN at *
      clear c0 c1 c2 c3 hWN
      have hyt : Hid (∀ W, Below WN.heap.size WN W → W.cell? ⟨bt, 0, none⟩ = some (.int .i64 (N : Nat))) := fun W hW => by
        have h1 := (hb.out.block bt hbtW).trans kT.out
        have h2 := (hbN.out.block bt (by omega)).trans h1
        exact (cell_of_row _ _ 0 _ _ (0, 0) ((hW.block bt (by omega)).trans h2)).trans rfl
      go_wp2_with (first | (go_at_call 123; (with_reducible refine hqO.out.mono ?_); rintro e w1 ⟨A1, c1, rfl, ha1, hb1⟩; have yt := hyt.out w1 hb1; replace ha1 := hide ha1; replace hb1 := hide hb1))
      have hz1 := hb1.out.size
      obtain ⟨T, hT, hOst⟩ := OutW.begin hG.out ((hbN.out.mono (Nat.le_refl _)).trans (hb1.out.mono (by omega)))
      have hW1 := hide (hb.out.trans ((hbN.out.mono hz).trans (hb1.out.mono (by omega))))
      have hW1z : W0.heap.size ≤ w1.heap.size := hW1.out.size
      have kN1 := hide ((hb1.out.block wr.heap.size (by omega)).trans kN.out)
      replace hT := hide hT
      replace hOst := hide hOst
      clear hbN kN hb hqO hyt
      generalize hwo : wr = wo at *
      clear hwo
      go_loopw [7, 30] (fun o i wr => ∃ (x : Nat) (Ao : Option Addr) (co : Nat) (R : List (CV × List Int)), x ≤ N ∧ i = .int .i64 (x : Nat) ∧ o = .slice Ao (k * N + x) co ∧ Hid (OutW W0 w1 T wr Ao (k * N + x) co R) ∧ Hid (R.map dV = (gameF f ((N : Int), ini, ls, es) set).take (k * N + x))) (fun _ i _ => N - (intOf i).toNat)
      case atStart => exact ⟨0, Ao, co, R, Nat.zero_le _, rfl, rfl, hOst, hR⟩
      case round =>
        clear hOst hR hG yt
        obtain ⟨x, Ao, co, R, hx, rfl, rfl, hO, hR⟩ := hrel
        have hzx := hO.out.but.size
        have hWx := hide (hW1.out.trans (hO.out.but.below (fun b hb' => (hT.out b hb').1) hW1z))
        have kNx := hide (hO.out.but.kept kN1.out (fun ht => by have := (hT.out _ ht).2; omega))
        have hax := hide (ha1.out.but hO.out.but (fun b hb' => .inl (by have := (hT.out b hb').2; omega)))
        by_cases hlx : x < N
        · -- a vertex
          generalize hwx : wr = wx at *
          clear hwx
          obtain ⟨WV, hWVe⟩ : ∃ W', W' = wx.alloc (.cells #[.int .i64 0, .int .i64 1000, .slice none 0 0] 137) := ⟨_, rfl⟩
          have hV : Hid (ToAt WV WV wx.heap.size 0 1000 none 0 0 []) := by show ToAt _ _ _ _ _ _ _ _ _; rw [hWVe]; exact ToAt.new
          have hbV : Hid (Below wx.heap.size wx WV) := by show Below _ _ _; rw [hWVe]; exact (Below.refl _ _).alloc (Nat.le_refl _) _
          have hzV : WV.heap.size = wx.heap.size + 1 := by rw [hWVe]; simp
          have hWV := hide (hWx.out.trans (hbV.out.mono (by omega)))
          have kNV := hide (fun (W : World) (hW : Below wx.heap.size WV W) => (hW.block wo.heap.size (by omega)).trans ((hbV.out.block wo.heap.size (by omega)).trans kNx.out))
          have haV := hide (fun (W : World) (hW : Below wx.heap.size WV W) => ((hax.out.top.below hbV.out (.inl (by omega))).below hW (.inl (by omega))))
          have hWW := hide (fun (W : World) (hW : Below wx.heap.size WV W) => hWV.out.trans (hW.mono (by omega)))
          have hyV := hide (fun (W : World) (hW : Below wx.heap.size WV W) => (cell_of_row _ _ 0 _ _ (0, 0) (((hWW.out W hW).block bt hbtW).trans kT.out)).trans (show _ = some (Value.int .i64 (N : Nat)) from rfl))
          clear hax kNx
          go_upto_region 11 with fail
          rw [← hWVe]
          clear hWVe
          go_cut [] (fun wy => Hid (ToAt WV wy wx.heap.size (ownQ q) 1000 none 0 0 []))
          case first =>
            have kn := kNV.out WV (Below.refl _ _)
            have m0 : WV.cell? ⟨wo.heap.size, 0, none⟩ = some (.int .i64 q) := (cell_of_row _ _ 0 _ _ (0, 0) kn).trans rfl
            obtain ⟨y0, -, -, z0, -, -⟩ := hV.out.facts
            have hs1 := hide (hV.out.setO 1)
            have hs0 := hide (hV.out.setO 0)
            clear kn hV hyV hWW haV kNV hWV hR hO hWx
            by_cases q0 : q = 0
            · have e0 : (q == 0) = true := by rw [q0]; rfl
              have ho : Hid (ownQ q = 1) := by show _ = _; rw [q0]; rfl
              clear q0
              go_wp2_with (first | (go_at_call 122; (with_reducible refine (truth_1 _).mono ?_); rintro e w' ⟨rfl, rfl⟩))
              go_meet
              rw [ho.out]; exact hs1
            · have e0 : (q == 0) = false := by rw [beq_eq_false_iff_ne]; exact q0
              by_cases q2 : q = 2
              · have e2 : (q == 2) = true := by rw [q2]; rfl
                have ho : Hid (ownQ q = 1) := by show _ = _; rw [q2]; rfl
                clear q0 q2
                go_wp2_with (first | (go_at_call 122; (with_reducible refine (truth_1 _).mono ?_); rintro e w' ⟨rfl, rfl⟩))
                go_meet
                rw [ho.out]; exact hs1
              · have e2 : (q == 2) = false := by rw [beq_eq_false_iff_ne]; exact q2
                by_cases q5 : q = 5
                · have e5 : (q == 5) = true := by rw [q5]; rfl
                  have ho : Hid (ownQ q = 1) := by show _ = _; rw [q5]; rfl
                  clear q0 q2 q5
                  go_wp2_with (first | (go_at_call 122; (with_reducible refine (truth_1 _).mono ?_); rintro e w' ⟨rfl, rfl⟩))
                  go_meet
                  rw [ho.out]; exact hs1
                · have e5 : (q == 5) = false := by rw [beq_eq_false_iff_ne]; exact q5
                  have ho : Hid (ownQ q = 0) := by show _ = _; unfold ownQ; rw [if_neg (by omega)]
                  clear q0 q2 q5
                  go_wp2_with (first | (go_at_call 122; (with_reducible refine (truth_0 _).mono ?_); rintro e w' ⟨rfl, rfl⟩))
                  go_meet
                  rw [ho.out]; exact hs0
          case rest =>
            clear hV
            have kn := kNV.out wc hcut.out.belowV
            have m0 : wc.cell? ⟨wo.heap.size, 0, none⟩ = some (.int .i64 q) := (cell_of_row _ _ 0 _ _ (0, 0) kn).trans rfl
            have m1 : wc.cell? ⟨wo.heap.size, 1, none⟩ = some (.int .i64 vv) := (cell_of_row _ _ 1 _ _ (0, 0) kn).trans rfl
            have m2 : wc.cell? ⟨wo.heap.size, 2, none⟩ = some (.string sl) := (cell_of_row _ _ 2 _ _ (0, 0) kn).trans rfl
            have m3 : wc.cell? ⟨wo.heap.size, 3, none⟩ = some (.bool no) := (cell_of_row _ _ 3 _ _ (0, 0) kn).trans rfl
            clear kn
            have qM := fun W => isModality_calls q vv sl no W
            go_upto_block 4 with fail
            go_cut [] (fun wy => ∃ (Ay : Option Addr) (my cy : Nat), Hid (ToAt WV wy wx.heap.size (ownF f set k x) 1000 Ay my cy (rawF f ((N : Int), ini, ls, es) set k x)) ∧ my ≤ 400)
            case first =>
              have hbz : wx.heap.size < wc.heap.size := (Array.getElem?_eq_some_iff.1 hcut.out.cells).1
              have hq6 := own_plain (f := f) (set := set) (k := k) (x := x)
              rw [hq.out] at hq6
              replace hq6 := hide hq6
              cases hm : isMod q with
              | true =>
                simp only [hm] at qM
                replace qM := hide qM
                have hW3 := hide (fun (W : World) (hW : Below wc.heap.size wc W) => hWW.out W (hcut.out.below hW).belowV)
                have hT3 := hide (fun (W : World) (hW : Below wc.heap.size wc W) => hcut.out.below hW)
                have hbt3 := hide (fun (W : World) (hW : Below wc.heap.size wc W) => ((hW3.out W hW).block bt hbtW).trans kT.out)
                have hes : n3 ≤ 300 := by
                  have h1 := hlv.out
                  rw [ltsV_eq] at h1
                  simp only [Bool.and_eq_true] at h1
                  have h2 := of_decide_eq_true h1.1.2.2.2
                  rw [← t3.out.len]
                  exact h2
                have qOut := hide (fun (W : World) (hW : Below wc.heap.size wc W) => out_calls (N : Int) ini (.slice A2 n2 k2) A3 n3 k3 (x : Int) es W 0 bt (t3.out.below (hW3.out W hW) (.inl (by omega))) (by omega) ⟨_, _, _, rfl⟩)
                have hol : (outE es (x : Int)).length ≤ 300 := by
                  have h1 := List.length_filter_le (fun e : Ed => decide (e.1 = (x : Int))) es
                  have h2 := t3.out.len
                  unfold outE
                  omega
                go_wp2_with (first
                  | (go_at_call 125; (with_reducible refine (qM.out _).mono ?_); rintro e w2 ⟨rfl, hb2⟩; have kb := hbt3.out w2 hb2; have b0 : w2.cell? ⟨bt, 0, none⟩ = some (.int .i64 (N : Nat)) := (cell_of_row _ _ 0 _ _ (0, 0) kb).trans rfl; have b1 : w2.cell? ⟨bt, 1, none⟩ = some (.int .i64 ini) := (cell_of_row _ _ 1 _ _ (0, 0) kb).trans rfl; have b2 : w2.cell? ⟨bt, 2, none⟩ = some (.slice A2 n2 k2) := (cell_of_row _ _ 2 _ _ (0, 0) kb).trans rfl; have b3 : w2.cell? ⟨bt, 3, none⟩ = some (.slice A3 n3 k3) := (cell_of_row _ _ 3 _ _ (0, 0) kb).trans rfl; have qO2 := hide (qOut.out w2 hb2); replace hb2 := hide hb2; clear kb) | (go_at_call 126; (with_reducible refine qO2.out.mono ?_); rintro e w3 ⟨Ao3, no3, co3, rfl, hso, -, hb3⟩; replace hso := hide hso; replace hb3 := hide hb3))
                have hb23 := hb2.out.trans (hb3.out.mono hb2.out.size)
                have hT30 := hide (hT3.out w3 hb23)
                have hbz2 := hb2.out.size
                have hbz3 := hb3.out.size
                have hno := hide hso.out.len
                have hno300 : no3 ≤ 300 := by rw [← hno.out]; exact hol
                have har : Hid (arityQ (qF f k) = 1) := by
                  show _ = _
                  rw [hq.out]
                  unfold isMod at hm
                  simp only [Bool.or_eq_true, decide_eq_true_eq] at hm
                  rcases hm with e | e <;> rw [e] <;> rfl
                have hsl20 : sl.size ≤ 1048576 := by
                  have h1 := lab_le hmem.out
                  have h2 := htf.out
                  unfold totN at h2
                  dsimp only at h1
                  omega
                clear qO2 qOut hT3 hbt3 b0 b1 b2 b3 qM m0 m1 m2 m3
                go_loopw [68] (fun i wr => ∃ (j : Nat) (Aj : Option Addr) (mj cj : Nat), j ≤ no3 ∧ i = .int .i64 (j : Nat) ∧ mj ≤ j ∧ Hid (ToAt w3 wr wx.heap.size (ownQ q) 1000 Aj mj cj (rawM (q, vv, sl, no) ls (outE es (x : Int)) k (N : Int) j))) (fun i _ => no3 - (intOf i).toNat)
                case atStart => exact ⟨0, none, 0, 0, Nat.zero_le _, rfl, Nat.le_refl _, hT30.out.again⟩
                case round =>
                  obtain ⟨j, Aj, mj, cj, hj, rfl, hmj, hTj⟩ := hrel
                  have hLj := hide (hT30.out.lower hTj.out)
                  by_cases hltj : j < no3
                  · obtain ⟨be, oe, ef, elb, etg, hAo, g1e, -, g3e, hxe, a0, a1, a2, -, -, -⟩ := SlE.get hso.out hltj
                    subst hAo
                    have hne : ¬ be = wx.heap.size := by omega
                    replace a0 := hTj.out.but.cell (p := ⟨be, oe + j * 3, none⟩) a0 g3e hne
                    replace a1 := hTj.out.but.cell (p := ⟨be, oe + j * 3 + 1, none⟩) a1 g3e hne
                    replace a2 := hTj.out.but.cell (p := ⟨be, oe + j * 3 + 2, none⟩) a2 g3e hne
                    have hin : (ef, elb, etg) ∈ es := (List.mem_filter.1 (List.mem_of_getElem? hxe)).1
                    obtain ⟨ie, hie⟩ := List.getElem?_of_mem hin
                    obtain ⟨-, hetg, hl0, hl1⟩ := edge_of hlv.out hie
                    have hn2 := t2.out.len
                    obtain ⟨L, rfl⟩ : ∃ L : Nat, elb = (L : Int) := ⟨elb.toNat, by omega⟩
                    obtain ⟨bl, ol, sE, hA2, -, -, gl3, hxl, cl, -⟩ := SlS.get t2.out (show L < n2 by omega)
                    subst hA2
                    have hlabE : labE ls (ef, (L : Int), etg) = sE := by unfold labE; rw [show ((L : Int)).toNat = L from rfl, hxl]; rfl
                    have hmE := List.mem_of_getElem? hxl
                    have hsE : sE.size ≤ 1048576 := by
                      have h1 := totS_memN hmE
                      have h2 := htl.out
                      unfold totL at h2
                      dsimp only at h2
                      omega
                    have hlabv := lts_lab hlv.out hmE
                    have hnx := rawM_next (nd := (q, vv, sl, no)) (ls := ls) (k := k) (N := (N : Int)) hxe
                    rw [hlabE] at hnx
                    obtain ⟨WE, hWE⟩ : ∃ W', W' = wr.alloc (.cells #[.int .i64 ef, .int .i64 (L : Int), .int .i64 etg] 108) := ⟨_, rfl⟩
                    have hbE : Below wr.heap.size wr WE := by rw [hWE]; exact (Below.refl _ _).alloc (Nat.le_refl _) _
                    have kE : WE.heap[wr.heap.size]? = some (.cells #[.int .i64 ef, .int .i64 (L : Int), .int .i64 etg] 108 (0, 0)) := by rw [hWE]; exact heap_alloc_new wr _
                    have hzE : WE.heap.size = wr.heap.size + 1 := by rw [hWE]; simp
                    have hzr := hTj.out.size
                    have hTE := hTj.out.below hbE
                    have hLE := hLj.out.below hbE
                    have hWE0 := hWW.out WE hLE.belowV
                    have hS := hide (fun (W : World) (hW : Below WE.heap.size WE W) => (⟨(cell_of_row _ _ 0 _ _ (0, 0) (kNV.out W (hLE.below hW).belowV)).trans rfl, (cell_of_row _ _ 1 _ _ (0, 0) (kNV.out W (hLE.below hW).belowV)).trans rfl, (cell_of_row _ _ 2 _ _ (0, 0) (kNV.out W (hLE.below hW).belowV)).trans rfl, (cell_of_row _ _ 3 _ _ (0, 0) (kNV.out W (hLE.below hW).belowV)).trans rfl, (cell_of_row _ _ 2 _ _ (0, 0) (((hWW.out W (hLE.below hW).belowV).block bt hbtW).trans kT.out)).trans rfl, (cell_of_row _ _ 1 _ _ (0, 0) ((hW.block _ (by omega)).trans kE)).trans rfl, ((hWW.out W (hLE.below hW).belowV).cell (p := ⟨bl, ol + L, none⟩) gl3).trans cl⟩ : W.cell? ⟨wo.heap.size, 0, none⟩ = some (.int .i64 q) ∧ W.cell? ⟨wo.heap.size, 1, none⟩ = some (.int .i64 vv) ∧ W.cell? ⟨wo.heap.size, 2, none⟩ = some (.string sl) ∧ W.cell? ⟨wo.heap.size, 3, none⟩ = some (.bool no) ∧ W.cell? ⟨bt, 2, none⟩ = some (.slice (some ⟨bl, ol, none⟩) n2 k2) ∧ W.cell? ⟨wr.heap.size, 1, none⟩ = some (.int .i64 (L : Int)) ∧ W.cell? ⟨bl, ol + L, none⟩ = some (.string sE)))
                    have hSE := hS.out WE (Below.refl _ _)
                    have hL0 : (0 : Int) ≤ (L : Int) := by omega
                    have hL1 : (L : Int) < (n2 : Int) := by omega
                    have qS := selects_calls q vv sl no sE WE.drew hsl20 hsE (he.out.below hWE0.drew (Nat.le_refl _)) hlabv
                    have hq22 := hide (fun (W : World) (hW : Below WE.heap.size WE W) => hW)
                    replace hTE := hide hTE
                    replace hLE := hide hLE
                    replace hWE0 := hide hWE0
                    replace hbE := hide hbE
                    replace kE := hide kE
                    replace hnx := hide hnx
                    clear hxe hin hie hxl hmE hlabv hlabE cl
                    go_upto_region 21 with fail
                    rw [← hWE]
                    clear hWE a0 a1 a2
                    cases hsel : selB sl no sE with
                    | false =>
                      simp only [hsel] at qS
                      replace qS := hide qS
                      go_region_held3 (fun w' => w'.cell? ⟨wo.heap.size, 0, none⟩ = some (.int .i64 q) ∧ w'.cell? ⟨wo.heap.size, 1, none⟩ = some (.int .i64 vv) ∧ w'.cell? ⟨wo.heap.size, 2, none⟩ = some (.string sl) ∧ w'.cell? ⟨wo.heap.size, 3, none⟩ = some (.bool no) ∧ w'.cell? ⟨bt, 2, none⟩ = some (.slice (some ⟨bl, ol, none⟩) n2 k2) ∧ w'.cell? ⟨wr.heap.size, 1, none⟩ = some (.int .i64 (L : Int)) ∧ w'.cell? ⟨bl, ol + L, none⟩ = some (.string sE)) (first | exact hSE | exact hS5 | go_keep)
                        (first | (go_at_call 127; (with_reducible refine qS.out.mono ?_); rintro e w5 ⟨rfl, hb5'⟩; have hb5 := ((Below.refl WE.heap.size WE).drew).trans hb5'; have hS5 := hS.out w5 hb5; clear hb5'))
                      have hT6 : Hid (ToAt w3 w5 wx.heap.size (ownQ q) 1000 Aj mj cj (rawM (q, vv, sl, no) ls (outE es (x : Int)) k (N : Int) (j + 1))) := by
                        have h1 := hnx.out
                        rw [show selN (q, vv, sl, no) sE = false from hsel] at h1
                        show ToAt _ _ _ _ _ _ _ _ _
                        rw [h1]
                        simpa using hTE.out.below hb5
                      clear hSE hS5 hsel
                      go_wp2_with fail
                      go_roundw
                      case rel => exact ⟨j + 1, Aj, mj, cj, by omega, by go_num, by omega, hT6⟩
                      case measure => simp [intOf]; omega
                    | true =>
                      simp only [hsel] at qS
                      replace qS := hide qS
                      go_region_held3 (fun w' => w'.cell? ⟨wo.heap.size, 0, none⟩ = some (.int .i64 q) ∧ w'.cell? ⟨wo.heap.size, 1, none⟩ = some (.int .i64 vv) ∧ w'.cell? ⟨wo.heap.size, 2, none⟩ = some (.string sl) ∧ w'.cell? ⟨wo.heap.size, 3, none⟩ = some (.bool no) ∧ w'.cell? ⟨bt, 2, none⟩ = some (.slice (some ⟨bl, ol, none⟩) n2 k2) ∧ w'.cell? ⟨wr.heap.size, 1, none⟩ = some (.int .i64 (L : Int)) ∧ w'.cell? ⟨bl, ol + L, none⟩ = some (.string sE)) (first | exact hSE | exact hS5 | go_keep)
                        (first | (go_at_call 127; (with_reducible refine qS.out.mono ?_); rintro e w5 ⟨rfl, hb5'⟩; have hb5 := ((Below.refl WE.heap.size WE).drew).trans hb5'; have hS5 := hS.out w5 hb5; clear hb5'))
                      have hT5 := (hTE.out.below hb5).below (Below.refl w5.heap.size w5).drew
                      have hL5 := (hLE.out.below hb5).below (Below.refl w5.heap.size w5).drew
                      have hT6 : Hid (rawM (q, vv, sl, no) ls (outE es (x : Int)) k (N : Int) (j + 1) = rawM (q, vv, sl, no) ls (outE es (x : Int)) k (N : Int) j ++ [((k : Int) + 1) * (N : Int) + etg]) := by
                        have h1 := hnx.out
                        rw [show selN (q, vv, sl, no) sE = true from hsel] at h1
                        exact h1
                      obtain ⟨P, hP⟩ : ∃ P : Int, ((k : Int) + 1) * (N : Int) = P := ⟨_, rfl⟩
                      have hPb : 0 ≤ P ∧ P ≤ 1240 := by
                        have h1 := Nat.mul_le_mul (show k + 1 ≤ 31 by omega) hN40.2
                        have h2 : (((k + 1) * N : Nat) : Int) = P := by rw [Int.natCast_mul, Int.natCast_add]; exact hP
                        omega
                      rw [hP] at hT6
                      have hargs := haV.out w5.drew hL5.belowV
                      obtain ⟨ba, oa, hA1, ga1, ga2, ga3, hca⟩ := hargs.at_ (by rw [har.out]; omega)
                      have hop0 : (opsI f k (arityQ (qF f k)))[0]? = some ((k : Int) + 1) := by
                        unfold opsI
                        rw [List.getElem?_map, List.getElem?_take_of_lt (by rw [har.out]; omega), ops_get (by rw [har.out]; omega)]
                        rfl
                      have ca : w5.drew.cell? ⟨ba, oa, none⟩ = some (.int .i64 ((k : Int) + 1)) := by simpa using (hca 0 _ hop0 0 _ rfl).1
                      have ce : w5.drew.cell? ⟨wr.heap.size, 2, none⟩ = some (.int .i64 etg) := (cell_of_row _ _ 2 _ _ (0, 0) ((hb5.drew.block _ (by omega)).trans kE.out)).trans rfl
                      have cb : w5.drew.cell? ⟨bt, 0, none⟩ = some (.int .i64 (N : Nat)) := hyV.out w5.drew hL5.belowV
                      have hargN : 0 < arityQ (qF f k) := by rw [har.out]; omega
                      have hargn : (0 : Int) < ((arityQ (qF f k) : Nat) : Int) := by rw [har.out]; omega
                      have qT := hide (to_calls w3 w5.drew wx.heap.size bt (ownQ q) 1000 Aj mj cj _ (N : Int) ((k : Int) + 1) etg P hT5 cb (by omega) hP (by omega) (by omega))
                      have hzE5 := hb5.size
                      have hA10 : (⟨ba, oa, none⟩ : Addr).block < w5.drew.heap.size := ga3
                      have hA11 : ¬ ((⟨ba, oa, none⟩ : Addr).block = wx.heap.size ∨ (Value.slice Aj mj cj).ownBlock = some (⟨ba, oa, none⟩ : Addr).block) := fun e => by
                        rcases e with e | e
                        · dsimp only at e; omega
                        · have := (hTj.out.own.lt _ e).1; dsimp only at this; omega
                      have hE10 : (⟨wr.heap.size, 2, none⟩ : Addr).block < w5.drew.heap.size := by show wr.heap.size < w5.heap.size; omega
                      have hE11 : ¬ ((⟨wr.heap.size, 2, none⟩ : Addr).block = wx.heap.size ∨ (Value.slice Aj mj cj).ownBlock = some (⟨wr.heap.size, 2, none⟩ : Addr).block) := fun e => by
                        rcases e with e | e
                        · dsimp only at e; omega
                        · have := (hTj.out.own.lt _ e).2; dsimp only at this; omega
                      subst hA1
                      clear hSE hS5 hsel hP hca hargs hop0 hT5
                      go_upto_region 22 with fail
                      go_region_held3 (fun w' => w'.cell? ⟨ba, oa, none⟩ = some (.int .i64 ((k : Int) + 1)) ∧ w'.cell? ⟨wr.heap.size, 2, none⟩ = some (.int .i64 etg)) (first | exact ⟨ca, ce⟩ | exact ⟨ca6, ce6⟩ | go_keep)
                        (first | (go_at_call 124; (with_reducible refine qT.out.mono ?_); rintro e w6 ⟨A6, c6, rfl, hT7, hbu⟩; have ca6 := hbu.cell ca hA10 hA11; have ce6 := hbu.cell ce hE10 hE11; replace hT7 := hide hT7))
                      have hT8 : Hid (ToAt w3 w6 wx.heap.size (ownQ q) 1000 A6 (mj + 1) c6 (rawM (q, vv, sl, no) ls (outE es (x : Int)) k (N : Int) (j + 1))) := by
                        show ToAt _ _ _ _ _ _ _ _ _
                        rw [hT6.out]
                        exact hT7.out
                      clear hT6 ca ce ca6 ce6 cb
                      go_wp2_with fail
                      go_roundw
                      case rel => exact ⟨j + 1, A6, mj + 1, c6, by omega, by go_num, by omega, hT8⟩
                      case measure => simp [intOf]; omega
                  · have hjn : j = no3 := by omega
                    subst hjn
                    have hfin : Hid (ToAt WV wr wx.heap.size (ownF f set k x) 1000 Aj mj cj (rawF f ((N : Int), ini, ls, es) set k x)) := by
                      have h6 : q ≠ 6 := fun e => by rw [e] at hm; cases hm
                      have h1 := rawM_all (f := f) (d := ((N : Int), ini, ls, es)) (set := set) (k := k) (x := x) (n := j) (by rw [hq.out]; exact hm) hno.out.symm
                      rw [hnd.out] at h1
                      show ToAt _ _ _ _ _ _ _ _ _
                      rw [← h1, hq6.out (fun c => h6 c.2.1)]
                      exact hLj.out
                    have hm4 : mj ≤ 400 := by have := hno.out; omega
                    clear hm
                    go_wp2_with fail
                    go_meet
                    exact ⟨Aj, mj, cj, hfin, hm4⟩
              | false =>
                simp only [hm] at qM
                replace qM := hide qM
                have hm0 := hide (fun (W : World) (hW : Below wc.heap.size wc W) => (cell_of_row _ _ 0 _ _ (0, 0) (kNV.out W (hcut.out.below hW).belowV)).trans (show _ = some (Value.int .i64 q) from rfl))
                have hx0 : (0 : Int) ≤ (x : Int) := by omega
                have hx1 : (x : Int) < (N : Int) := by omega
                by_cases q6 : q = 6
                · have e6 : (q == 6) = true := by rw [q6]; rfl
                  have h6 : qF f k = 6 := by rw [hq.out]; exact q6
                  have hbd := hv.out.bound k (by rw [hlen.out]; exact hlt) h6
                  obtain ⟨i, hi⟩ : ∃ i, bindF f k = some i := by
                    cases hb : bindF f k with
                    | none => exact absurd hb hbd
                    | some i => exact ⟨i, rfl⟩
                  have hik : i < k := by have := (lastP_some hi).2.1; omega
                  have qB := fun (W : World) (hW : Below wc.heap.size wc W) => binder_calls (some ⟨bf, of, none⟩) n c f k W 0 bt (h.out.below (hWW.out W (hcut.out.below hW).belowV) (.inl (by omega))) hv.out.shape hn30' hlt
                  have hoi : optI (bindF f k) = (i : Int) := by rw [hi]; rfl
                  simp only [hoi] at qB
                  replace qB := hide qB
                  obtain ⟨P, hP⟩ : ∃ P : Int, (i : Int) * (N : Int) = P := ⟨_, rfl⟩
                  have hPb : 0 ≤ P ∧ P ≤ 1200 := by
                    have h1 := Nat.mul_le_mul (show i ≤ 30 by omega) hN40.2
                    have h2 : ((i * N : Nat) : Int) = P := by rw [Int.natCast_mul]; exact hP
                    omega
                  have qTo := hide (fun (W : World) (hW : Below wc.heap.size wc W) => to_calls WV W wx.heap.size bt (ownQ q) 1000 none 0 0 [] (N : Int) (i : Int) (x : Int) P (hcut.out.below hW) (hyV.out W (hcut.out.below hW).belowV) (by omega) hP (by omega) (by omega))
                  have hraw := raw_var (d := ((N : Int), ini, ls, es)) (set := set) (x := x) h6 hi
                  rw [show ((N : Int), ini, ls, es).1 = (N : Int) from rfl, hP] at hraw
                  replace hraw := hide hraw
                  replace hi := hide hi
                  replace h6 := hide h6
                  have q6' := hide q6
                  clear q6 hoi hbd hm
                  cases set with
                  | none =>
                    obtain rfl : vs = .slice none 0 0 := hset1.out
                    have hnil : ∀ W : World, (binOp .neq 65 (.slice none 0 0) (.slice none 0 0)).run Tryz.prog W = .ok (.bool false) W := fun W => run_neq_slice_nil W _ _ none 0 0 Tryz.underlying65
                    go_wp2_with (first
                      | (go_at_call 125; (with_reducible refine (qM.out _).mono ?_); rintro e w2 ⟨rfl, hb2⟩; have m0' := hm0.out w2 hb2; have qB2 := hide (qB.out w2 hb2)) | (go_at_call 114; (with_reducible refine qB2.out.mono ?_); rintro e w3 ⟨rfl, hb3⟩; have qT := hide (qTo.out w3 (hb2.trans (hb3.mono hb2.size)))) | (go_at_call 124; (with_reducible refine qT.out.mono ?_); rintro e w4 ⟨A4, c4, rfl, hT4, -⟩))
                    go_meet
                    refine ⟨A4, 1, c4, ?_, by omega⟩
                    show ToAt _ _ _ _ _ _ _ _ _
                    rw [hq6.out (by rintro ⟨e, -⟩; cases e), hraw.out (by rintro ⟨e, -⟩; cases e)]
                    exact hT4
                  | some s =>
                    obtain ⟨aS, cS, rfl, hss⟩ := hset1.out
                    have hnil : ∀ W : World, (binOp .neq 65 (.slice (some aS) N cS) (.slice none 0 0)).run Tryz.prog W = .ok (.bool true) W := fun W => run_neq_slice_nil W _ _ (some aS) N cS Tryz.underlying65
                    by_cases hi0 : i = 0
                    · subst hi0
                      obtain ⟨bs, os, has, -, -, gs3, -, cs0, -⟩ := SlB.get hss hlx
                      cases has
                      have hcs := hide (fun (W : World) (hW : Below wc.heap.size wc W) => ((hWW.out W (hcut.out.below hW).belowV).cell (p := ⟨bs, os + x, none⟩) gs3).trans cs0)
                      have how := hide (own_set (f := f) (s := s) (x := x) h6.out hi.out)
                      have hra := hide (raw_set (f := f) (d := ((N : Int), ini, ls, es)) (s := s) (x := x) h6.out hi.out)
                      cases hin : inS s x
                      all_goals
                        simp only [hin] at hcs how
                        clear hss cs0 hin hraw
                        go_wp2_with (first
                          | (go_at_call 125; (with_reducible refine (qM.out _).mono ?_); rintro e w2 ⟨rfl, hb2⟩; have m0' := hm0.out w2 hb2; have qB2 := hide (qB.out w2 hb2)) | (go_at_call 114; (with_reducible refine qB2.out.mono ?_); rintro e w3 ⟨rfl, hb3⟩; have hb23 := hb2.trans (hb3.mono hb2.size); have hT3 := hcut.out.below hb23; obtain ⟨y0, -, -, z0, -, -⟩ := hT3.facts; have cs3 := hcs.out w3 hb23) | (go_at_call 122; (first | (with_reducible refine (truth_1 _).mono ?_) | (with_reducible refine (truth_0 _).mono ?_)); rintro e w' ⟨rfl, rfl⟩))
                        go_meet
                        refine ⟨none, 0, 0, ?_, by omega⟩
                        show ToAt _ _ _ _ _ _ _ _ _
                        rw [how.out, hra.out]
                        exact hT3.setO _
                    · have hi1 : ((i : Int) == 0) = false := by rw [beq_eq_false_iff_ne]; omega
                      have hne : ¬ ((some s : Option (List Bool)).isSome = true ∧ i = 0) := fun e => hi0 e.2
                      have hne2 : ¬ ((some s : Option (List Bool)).isSome = true ∧ q = 6 ∧ bindF f k = some 0) := fun e => by
                        have := e.2.2
                        rw [hi.out] at this
                        injection this with this
                        exact hi0 this
                      replace hne := hide hne
                      replace hne2 := hide hne2
                      clear hi0 hss
                      go_wp2_with (first
                        | (go_at_call 125; (with_reducible refine (qM.out _).mono ?_); rintro e w2 ⟨rfl, hb2⟩; have m0' := hm0.out w2 hb2; have qB2 := hide (qB.out w2 hb2)) | (go_at_call 114; (with_reducible refine qB2.out.mono ?_); rintro e w3 ⟨rfl, hb3⟩; have hb23 := hb2.trans (hb3.mono hb2.size); have m0'' := hm0.out w3 hb23; have qB3 := hide (qB.out w3 hb23)) | (go_at_call 114; (with_reducible refine qB3.out.mono ?_); rintro e w4 ⟨rfl, hb4⟩; have qT := hide (qTo.out w4 (hb23.trans (hb4.mono hb23.size)))) | (go_at_call 124; (with_reducible refine qT.out.mono ?_); rintro e w5 ⟨A4, c4, rfl, hT4, -⟩))
                      go_meet
                      refine ⟨A4, 1, c4, ?_, by omega⟩
                      show ToAt _ _ _ _ _ _ _ _ _
                      rw [hq6.out hne2.out, hraw.out hne.out]
                      exact hT4
                · have e6 : (q == 6) = false := by rw [beq_eq_false_iff_ne]; exact q6
                  have hops := hide (fun (j : Nat) (hj : j < arityQ (qF f k)) => op_lt hv.out.shape (k := k) (by rw [hlen.out]; exact hlt) hj)
                  have hfin := hide (rawO_all (f := f) (d := ((N : Int), ini, ls, es)) (set := set) (k := k) (x := x) (n := arityQ (qF f k)) (by rw [hq.out]; exact hm) (by rw [hq.out]; exact q6) ops_len.symm)
                  have hown := hide (hq6.out (fun e => q6 e.2.1))
                  have har2 := arity_le (qF f k)
                  have h00 : rawO f k (N : Int) x 0 = [] := by unfold rawO; rw [List.take_zero]; rfl
                  replace h00 := hide h00
                  clear hm q6
                  go_wp2_with (first
                    | (go_at_call 125; (with_reducible refine (qM.out _).mono ?_); rintro e w2 ⟨rfl, hb2⟩; have m0' := hm0.out w2 hb2; have hT2 := hide (hcut.out.below hb2)))
                  clear m0'
                  go_loopw [52] (fun i wr => ∃ (j : Nat) (Aj : Option Addr) (cj : Nat), j ≤ arityQ (qF f k) ∧ i = .int .i64 (j : Nat) ∧ Hid (ToAt WV wr wx.heap.size (ownQ q) 1000 Aj j cj (rawO f k (N : Int) x j))) (fun i _ => arityQ (qF f k) - (intOf i).toNat)
                  case atStart => exact ⟨0, none, 0, Nat.zero_le _, rfl, by show ToAt _ _ _ _ _ _ _ _ _; rw [h00.out]; exact hT2.out⟩
                  case round =>
                    obtain ⟨j, Aj, cj, hj, rfl, hTj⟩ := hrel
                    by_cases hltj : j < arityQ (qF f k)
                    · obtain ⟨ba, oa, xx, hA1, -, -, ga3, hxx, ca, -⟩ := SlI.get (haV.out wr hTj.out.belowV) hltj
                      have hop : (opsI f k (arityQ (qF f k)))[j]? = some ((opN f k j : Nat) : Int) := by
                        unfold opsI
                        rw [List.getElem?_map, List.getElem?_take_of_lt hltj, ops_get hltj]
                        rfl
                      rw [hop] at hxx
                      obtain rfl := Option.some.inj hxx
                      have hol := (hops.out j hltj).1
                      rw [hlen.out] at hol
                      have hrn := rawO_next (x := x) (N := (N : Int)) (ops_get hltj)
                      generalize opN f k j = a at *
                      obtain ⟨P, hP⟩ : ∃ P : Int, (a : Int) * (N : Int) = P := ⟨_, rfl⟩
                      rw [hP] at hrn
                      have hPb : 0 ≤ P ∧ P ≤ 1200 := by
                        have h1 := Nat.mul_le_mul (show a ≤ 30 by omega) hN40.2
                        have h2 : ((a * N : Nat) : Int) = P := by rw [Int.natCast_mul]; exact hP
                        omega
                      have qT := hide (to_calls WV wr wx.heap.size bt (ownQ q) 1000 Aj j cj _ (N : Int) (a : Int) (x : Int) P hTj.out (hyV.out wr hTj.out.belowV) (by omega) hP (by omega) (by omega))
                      have hj0 : (0 : Int) ≤ (j : Int) := by omega
                      have hj1 : (j : Int) < ((arityQ (qF f k) : Nat) : Int) := by omega
                      replace hrn := hide hrn
                      subst hA1
                      clear hP hop hxx
                      go_wp2_with (first
                        | (go_at_call 124; (with_reducible refine qT.out.mono ?_); rintro e w4 ⟨A4, c4, rfl, hT4, -⟩))
                      go_roundw
                      case rel => exact ⟨j + 1, A4, c4, by omega, by go_num, by show ToAt _ _ _ _ _ _ _ _ _; rw [hrn.out]; exact hT4⟩
                      case measure => simp [intOf]; omega
                    · have hjn : j = arityQ (qF f k) := by omega
                      have hT9 : Hid (ToAt WV wr wx.heap.size (ownF f set k x) 1000 Aj j cj (rawF f ((N : Int), ini, ls, es) set k x)) := by
                        show ToAt _ _ _ _ _ _ _ _ _
                        rw [hown.out, ← hfin.out, ← hjn]
                        exact hTj.out
                      have hjn4 : j ≤ 400 := by omega
                      have hnlt : ¬ (j : Int) < ((arityQ (qF f k) : Nat) : Int) := by omega
                      replace hjn := hide hjn
                      go_wp2_with fail
                      go_meet
                      exact ⟨Aj, j, cj, hT9, hjn4⟩
            case rest =>
              clear m0 m1 m2 m3 qM
              obtain ⟨Ay, my, cy, hcut, hmy⟩ := hcut
              have kn := kNV.out wc hcut.out.belowV
              have m0 : wc.cell? ⟨wo.heap.size, 0, none⟩ = some (.int .i64 q) := (cell_of_row _ _ 0 _ _ (0, 0) kn).trans rfl
              have m1 : wc.cell? ⟨wo.heap.size, 1, none⟩ = some (.int .i64 vv) := (cell_of_row _ _ 1 _ _ (0, 0) kn).trans rfl
              have m2 : wc.cell? ⟨wo.heap.size, 2, none⟩ = some (.string sl) := (cell_of_row _ _ 2 _ _ (0, 0) kn).trans rfl
              have m3 : wc.cell? ⟨wo.heap.size, 3, none⟩ = some (.bool no) := (cell_of_row _ _ 3 _ _ (0, 0) kn).trans rfl
              clear kn
              have qX := hide (fun W => isFixed_calls q vv sl no W)
              go_upto_if 119 with (first | (go_at_call 102; (with_reducible refine (qX.out _).mono ?_); rintro e w2 ⟨rfl, hb2⟩; have hT2 := hide (hcut.out.below hb2); clear hb2))
              go_cut [] (fun wy => Hid (ToAt WV wy wx.heap.size (ownF f set k x) (priF f k) Ay my cy (rawF f ((N : Int), ini, ls, es) set k x)))
              case first =>
                cases hf : isFx q with
                | false =>
                  have hp : Hid (priF f k = 1000) := by show _ = _; unfold priF; rw [hq.out, hf]; rfl
                  clear hf
                  go_wp2_with fail
                  go_meet
                  rw [hp.out]; exact hT2
                | true =>
                  have kn2 := kNV.out w2 hT2.out.belowV
                  have hWW2 := hWW.out w2 hT2.out.belowV
                  have hbz : wx.heap.size < w2.heap.size := (Array.getElem?_eq_some_iff.1 hT2.out.cells).1
                  have c0a : w2.cell? ⟨wo.heap.size, 0, none⟩ = some (.int .i64 q) := (cell_of_row _ _ 0 _ _ (0, 0) kn2).trans rfl
                  have qN := hide (nesting_calls (some ⟨bf, of, none⟩) n c f k w2.drew 0 bt (h.out.below hWW2.drew (.inl (by omega))) hv.out.shape hn30' hlt)
                  have hp : Hid (priF f k = 2 * (nestF f k : Int) + (if q = 7 then 1 else 0)) := by show _ = _; unfold priF; rw [hq.out, hf]; rfl
                  have hnl := nest_le hv.out (j := k) (by rw [hlen.out]; exact hlt)
                  have hnl2 : nestF f k ≤ 30 := by omega
                  have hsP := hide (fun (w3 : World) (hb3 : Below w2.drew.heap.size w2.drew w3) (v : Int) => ((hT2.out.below (Below.refl _ _).drew).below hb3).setP v)
                  have hzo : wo.heap.size < w2.heap.size := by omega
                  have hne : wo.heap.size ≠ wx.heap.size := by omega
                  clear kn2 hWW2 hf hnl
                  generalize nestF f k = m at *
                  have hw1 : IntKind.i64.wrap (2 * (m : Int)) = 2 * (m : Int) := IntWalk.i64_in _ (by omega)
                  by_cases q7 : q = 7
                  · have e7 : (q == 7) = true := by rw [q7]; rfl
                    rw [if_pos q7] at hp
                    have hw2 : IntKind.i64.wrap (2 * (m : Int) + 1) = 2 * (m : Int) + 1 := IntWalk.i64_in _ (by omega)
                    clear q7
                    go_wp2_with fail
                    go_region_held3 (fun w' => w'.cell? ⟨wo.heap.size, 0, none⟩ = some (.int .i64 q)) (first | exact c0a | exact c0b | exact c0c | go_keep)
                      (first
                        | (go_at_call 128; (with_reducible refine qN.out.mono ?_); rintro e w3 ⟨rfl, hb3⟩; have c0b := (hb3.cell (p := ⟨wo.heap.size, 0, none⟩) hzo).trans c0a; have hs3 := hide (hsP.out w3 hb3 (2 * (m : Int) + 1)); obtain ⟨-, y3, -, -, zf3, -⟩ := (hT2.out.below ((Below.refl _ _).drew.trans hb3)).facts; have c0c : (w3.setCell ⟨wx.heap.size, 1, none⟩ (.int .i64 (2 * (m : Int) + 1))).cell? ⟨wo.heap.size, 0, none⟩ = some (.int .i64 q) := (World.cell?_of_block (w := w3) (by simpa using Below.heap_setCell _ _ _ _ hne)).trans c0b; clear hb3)
                        | (go_at_call 122; (with_reducible refine (truth_1 _).mono ?_); rintro e w' ⟨rfl, rfl⟩))
                    all_goals go_wp2_with fail
                    all_goals go_meet
                    all_goals (rw [hp.out]; exact hs3)
                  · have e7 : (q == 7) = false := by rw [beq_eq_false_iff_ne]; exact q7
                    rw [if_neg q7] at hp
                    have hw2 : IntKind.i64.wrap (2 * (m : Int) + 0) = 2 * (m : Int) + 0 := IntWalk.i64_in _ (by omega)
                    clear q7
                    go_wp2_with fail
                    go_region_held3 (fun w' => w'.cell? ⟨wo.heap.size, 0, none⟩ = some (.int .i64 q)) (first | exact c0a | exact c0b | exact c0c | go_keep)
                      (first
                        | (go_at_call 128; (with_reducible refine qN.out.mono ?_); rintro e w3 ⟨rfl, hb3⟩; have c0b := (hb3.cell (p := ⟨wo.heap.size, 0, none⟩) hzo).trans c0a; have hs3 := hide (hsP.out w3 hb3 (2 * (m : Int) + 0)); obtain ⟨-, y3, -, -, zf3, -⟩ := (hT2.out.below ((Below.refl _ _).drew.trans hb3)).facts; have c0c : (w3.setCell ⟨wx.heap.size, 1, none⟩ (.int .i64 (2 * (m : Int) + 0))).cell? ⟨wo.heap.size, 0, none⟩ = some (.int .i64 q) := (World.cell?_of_block (w := w3) (by simpa using Below.heap_setCell _ _ _ _ hne)).trans c0b; clear hb3)
                        | (go_at_call 122; (with_reducible refine (truth_0 _).mono ?_); rintro e w' ⟨rfl, rfl⟩))
                    all_goals go_wp2_with fail
                    all_goals go_meet
                    all_goals (rw [hp.out]; exact hs3)
              case rest =>
                have hT5 := hcut
                obtain ⟨y0, y1, y2, -, -, -⟩ := hT5.out.facts
                have hsl := hT5.out.own.sl flat_iv
                have qS := hide (sortedSet_calls Ay my cy _ wc _ _ hsl (by omega))
                have hbz : wx.heap.size < wc.heap.size := (Array.getElem?_eq_some_iff.1 hT5.out.cells).1
                have hzO := hWx.out.size
                have hgx := hide (gameF_at (f := f) (d := ((N : Int), ini, ls, es)) (set := set) (j := k) (x := x) (by rw [hlen.out]; exact hlt) hlx)
                have hkN : k * N + x < 1200 := by
                  have := Nat.mul_le_mul (show k + 1 ≤ 30 by omega) hN40.2
                  rw [Nat.add_mul] at this
                  omega
                have hs4 := hide (fun (w3 : World) (hb3 : Below wc.heap.size wc w3) (v : Value) => (hbV.out.trans ((hT5.out.below hb3).belowV.setCell (p := ⟨wx.heap.size, 2, none⟩) (Nat.le_refl _) v)))
                clear m0 m1 m2 m3 hsl
                go_wp2_with (first
                  | (go_at_call 129; (with_reducible refine qS.out.mono ?_); rintro e w3 ⟨A4, n4, c4, rfl, ho4, hn4, hb3⟩; obtain ⟨v0, v1, v2, -, -, zf2⟩ := (hT5.out.below hb3).facts; have hB4 := hide (hs4.out w3 hb3 (.slice A4 n4 c4)); have hz3 := hb3.size; have hown4 := hide (hO.out.grow.own.below hB4.out (Nat.le_refl _)); have hza : ∀ o, W0.heap.size ≤ ((w3.setCell ⟨wx.heap.size, 2, none⟩ (.slice A4 n4 c4)).alloc o).heap.size := (fun o => by rw [World.size_alloc, World.size_setCell]; omega); replace ho4 := hide ho4; clear hb3) | (at_builtin; (with_reducible refine wpList_app rfl (.tmp 134) (.tmp 136) rfl hE.out flat_gV rfl (hown4.out.alloc _) rfl (Sl.lit1' _ 137 (ownF f set k x, priF f k, A4, n4, c4) _ rfl 3 _ ?c0) ?c1 (hza _) ?_); rotate_right; intro A5 c5 w5 hown5 hgr5 hb5 hat5))
                case c0 => simp [World.size_setCell]
                case c1 => omega
                have hB5 := hB4.out.alloc hB4.out.size (.cells #[.int .i64 (ownF f set k x), .int .i64 (priF f k), .slice A4 n4 c4] 137)
                have hs5 : SlI ((w3.setCell ⟨wx.heap.size, 2, none⟩ (.slice A4 n4 c4)).alloc (.cells #[.int .i64 (ownF f set k x), .int .i64 (priF f k), .slice A4 n4 c4] 137)) wx.heap.size ((w3.setCell ⟨wx.heap.size, 2, none⟩ (.slice A4 n4 c4)).alloc (.cells #[.int .i64 (ownF f set k x), .int .i64 (priF f k), .slice A4 n4 c4] 137)).heap.size A4 n4 (Lib.compact (sortI (rawF f ((N : Int), ini, ls, es) set k x))) := by
                  have h1 := ho4.out.keep (w' := w3.setCell ⟨wx.heap.size, 2, none⟩ (.slice A4 n4 c4)) fun g hg => Below.heap_setCell _ _ _ _ (by have := (ho4.out.lt g hg).1; intro e; (try dsimp only at e); omega)
                  exact ((h1.alloc _).sl flat_iv).more (by omega) (Nat.le_refl _)
                have hO5 := hide (hO.out.push hzO hB5 hs5 (by omega) hown5 hgr5 hat5)
                have hR5 : Hid ((R ++ [((ownF f set k x, priF f k, A4, n4, c4), Lib.compact (sortI (rawF f ((N : Int), ini, ls, es) set k x)))]).map dV = (gameF f ((N : Int), ini, ls, es) set).take (k * N + x + 1)) := by
                  show _ = _
                  rw [List.map_append, hR.out, List.take_add_one]
                  have := hgx.out
                  rw [show ((N : Int), ini, ls, es).1.toNat = N from rfl] at this
                  rw [this]
                  rfl
                go_roundw
                case rel => exact ⟨x + 1, A5, c5, _, by omega, by go_num, rfl, hO5, hR5⟩
                case measure => simp [intOf]; omega
        · have hxN : x = N := by omega
          subst hxN
          go_wp2_with fail
          go_roundw
          case rel => exact ⟨k + 1, Ao, co, R, by omega, by go_num, by rw [Nat.add_mul, Nat.one_mul], by show GrowV _ _ _ _ _ _; rw [Nat.add_mul, Nat.one_mul]; exact hO.out.grow, by show _ = _; rw [Nat.add_mul, Nat.one_mul]; exact hR.out, hWx⟩
          case measure => simp [intOf]; omega
    · have hkn : k = n := by omega
      subst hkn
      go_wp2
      go_ret
      have hR' := hR.out
      have hle : (gameF f ((N : Int), ini, ls, es) set).length = k * N := by rw [hgl.out, hlen.out]; rfl
      rw [List.take_of_length_le (by rw [hle]; exact Nat.le_refl _)] at hR'
      exact ⟨Ao, co, rfl, by rw [← hR']; exact hG.out.game, by rw [hbt]; exact hbT.out.trans (hb.out.mono (Nat.le_of_lt hbtW))⟩

end Go.Proofs.YtanlgnjgpbjebaaGreatDoor

namespace Go.Proofs.YtanlgnjgpbjebaaGreatDoor
open Go.ChangeShapes Go.WideShapes Go.ChangeAt Go.RowKit
set_option linter.unusedVariables false

/-- A set of the call's own is handed back. -/
def GotB (w : World) (n : Nat) (s : List Bool) (e : Ending) (w' : World) : Prop := ∃ A c, e = .returned (.slice A n c) ∧ SlB w' w.heap.size w'.heap.size A n s ∧ Below w.heap.size w w'

end Go.Proofs.YtanlgnjgpbjebaaGreatDoor

namespace Go.Proofs.YtanlgnjgpbjebaaGreatDoor
open Go.ChangeShapes Go.WideShapes Go.ChangeAt Go.RowKit
set_option linter.unusedVariables false

set_option maxHeartbeats 800000 in
theorem mul64_one (n : Nat) (hn : n ≤ 1048576) (w : World) : Calls Tryz.prog 157 #[.int .u64 1, .int .u64 n] w fun e w' => e = .returned (.tuple #[.int .u64 0, .int .u64 n]) ∧ w = w' := by
  have m1 : bits .and .u64 (1 : Int) 4294967295 = 1 := bits_and_u64_nat 1 4294967295 (by omega) (by omega)
  have m2 : bits .and .u64 (n : Int) 4294967295 = n := by
    have h := bits_and_u64_nat n 4294967295 (by omega) (by omega)
    have e : n &&& 4294967295 = n := by
      rw [Nat.and_two_pow_sub_one_eq_mod n 32]
      omega
    rw [e] at h
    exact h
  have d1 : (n : Int) / 4294967296 = 0 := by omega
  have m0 : bits .and .u64 (0 : Int) 4294967295 = 0 := bits_and_u64_nat 0 4294967295 (by omega) (by omega)
  go_enter Tryz.func157, Tryz.ntmps157
  go_wp2
  go_ret2
  exact ⟨by simp [m1, m2, d1, m0], rfl⟩

theorem mul_one' (n : Nat) (hn : n ≤ 1048576) (w : World) : Calls Tryz.prog 132 #[.int .u64 1, .int .u64 n] w fun e w' => e = .returned (.tuple #[.int .u64 0, .int .u64 n]) ∧ w = w' := by
  have q := hide (mul64_one n hn w)
  go_enter Tryz.func132, Tryz.ntmps132
  go_wp2_with (go_at_call 157; refine q.out.mono ?_; rintro e w' ⟨rfl, rfl⟩)
  go_ret2
  exact ⟨rfl, rfl⟩

/-- A row of which the first m cells hold v, the others z. -/
def rowR (v z : Value) (m n : Nat) : List Value := List.replicate m v ++ List.replicate (n - m) z
theorem rowR_len (v z : Value) {m n : Nat} (h : m ≤ n) : (rowR v z m n).length = n := by unfold rowR; simp; omega
theorem rowR_get (v z : Value) {m n j : Nat} (h : j < m) : (rowR v z m n)[j]? = some v := by
  unfold rowR
  rw [List.getElem?_append_left (by simpa using h)]
  simp [h]
theorem rowR_splice (v z : Value) {m k n : Nat} (h : m + k ≤ n) : splice (rowR v z m n) m (List.replicate k v) = rowR v z (m + k) n := by
  unfold splice rowR
  rw [List.take_left' (by simp), List.drop_append, List.length_replicate, List.drop_replicate, List.drop_replicate, List.length_replicate]
  have e1 : m - (m + k) = 0 := by omega
  have e2 : n - m - (m + k - m) = n - (m + k) := by omega
  rw [e1, e2, List.replicate_zero, List.nil_append, ← List.append_assoc, List.replicate_append_replicate]

set_option maxHeartbeats 1600000 in
set_option maxRecDepth 100000 in
theorem repeatB_calls (A : Option Addr) (c : Nat) (b : Bool) (n : Nat) (w : World) (lo hi : Nat) (h : SlB w lo hi A 1 [b]) (hn0 : 0 < n) (hn : n ≤ 1048576) :
    Calls Tryz.prog 103 #[.slice A 1 c, .int .i64 n] w fun e w' => ∃ A', e = .returned (.slice A' n n) ∧ SlB w' w.heap.size w'.heap.size A' n (List.replicate n b) ∧ Below w.heap.size w w' := by
  have hmk := run_make_bool n hn
  obtain ⟨b1, o1, rfl, g1, g2, g3, hc⟩ := h.at_ (by omega)
  have c0 := (hc 0 b rfl 0 _ rfl).1
  simp only [Nat.zero_mul, Nat.add_zero] at c0
  have hsz : (Tryz.prog.info? 4).map (·.size) = some 1 := by kernel_rfl
  have hb0 : Below w.heap.size w (w.alloc (.cells (madeCells #[.bool false] n) 4)) := (Below.refl _ _).alloc (Nat.le_refl _) _
  have c1 := (hb0.cell (p := ⟨b1, o1, none⟩) g3).trans c0
  have hrow : (w.alloc (.cells (madeCells #[.bool false] n) 4)).heap[w.heap.size]? = some (.cells (rowR (.bool b) (.bool false) 0 n).toArray 4 (0, 0)) := by
    rw [heap_alloc_new]
    congr 2
    apply Array.ext'
    rw [toList_madeCells_one]
    simp [rowR]
  replace hrow := hide hrow
  replace hb0 := hide hb0
  replace c1 := hide c1
  replace hsz := hide hsz
  have hE := hide elem_bool
  clear hc h
  go_enter Tryz.func103, Tryz.ntmps103
  go_wp2_with (first | (go_at_call 132; (with_reducible refine (mul_one' n hn _).mono ?_); rintro e w' ⟨rfl, rfl⟩) | (with_reducible refine wpList_copy_splice rfl (.tmp 31) (.tmp 32) 65 65 rfl 4 Tryz.underlying65 hsz.out (some ⟨w.heap.size, 0, none⟩) (some ⟨b1, o1, none⟩) n n 1 c rfl rfl w.heap.size 0 (rowR (.bool b) (.bool false) 0 n) 4 hrow.out [.bool b] ?k1 (fun _ => ⟨rfl, ⟨b1, o1, none⟩, rfl, ?k2⟩) ?k3 ?k4 w.heap.size w hb0.out (Nat.le_refl _) ?_))
  case k1 => show 1 = min 1 n; omega
  case k2 =>
    intro j v hj
    match j, hj with
    | 0, hj => simp at hj; subst hj; simpa [Addr.add] using c1.out
  case k3 => rw [rowR_len _ _ (Nat.zero_le _)]; simp; omega
  case k4 => intro v hv; simp at hv; subst hv; rfl
  rintro w1 hr1 hb1
  have hr1' : Hid (w1.heap[w.heap.size]? = some (.cells (rowR (.bool b) (.bool false) 1 n).toArray 4 (0, 0))) := by
    have := rowR_splice (.bool b) (.bool false) (m := 0) (k := 1) (n := n) (by omega)
    rw [List.replicate_one, Nat.zero_add] at this
    show _ = _
    rw [← this]
    exact hr1.out
  clear hr1 hrow hb0 c1 hmk
  go_wp2
  go_loopg [8] n (fun N m wr => ∃ k : Nat, 1 ≤ k ∧ k ≤ n ∧ m = .int .i64 k ∧ Hid (wr.heap[w.heap.size]? = some (.cells (rowR (.bool b) (.bool false) k n).toArray 4 (0, 0))) ∧ Below w.heap.size w wr ∧ Hid (n - k ≤ N))
  case atStart => exact ⟨1, Nat.le_refl _, hn0, rfl, hr1', hb1, by show _ ≤ _; omega⟩
  case round =>
    obtain ⟨k, hk1, hk, rfl, hr, hb, hN⟩ := hrel
    clear hr1' hb1
    by_cases hlt : k < n
    · have hcut : ∀ W : World, (Instr.slice 65 (.slice (some ⟨w.heap.size, 0, none⟩) n n) (some (.int .i64 (k : Int))) none none).run Tryz.prog W = .ok (.slice (some ⟨w.heap.size, k, none⟩) (n - k) (n - k)) W := fun W => by
        rw [run_cut elem_bool (some ⟨w.heap.size, 0, none⟩) n n k hk W]
        unfold cutA
        rw [if_neg (by omega), Option.map_some, addr_add, Nat.zero_add, Nat.mul_one]
      have hhead : ∀ W : World, (Instr.slice 65 (.slice (some ⟨w.heap.size, 0, none⟩) n n) none (some (.int .i64 (k : Int))) none).run Tryz.prog W = .ok (.slice (some ⟨w.heap.size, 0, none⟩) k n) W := fun W => run_head elem_bool (some ⟨w.heap.size, 0, none⟩) n n k hk W
      have hzw := hide ((Array.getElem?_eq_some_iff.1 hr.out).1)
      have i1 : (0 : Int) ≤ (k : Int) := by omega
      have i2 : (k : Int) ≤ (n : Int) := by omega
      obtain ⟨N2, rfl⟩ : ∃ N2, gk = N2 + 1 := ⟨gk - 1, by have := hN.out; omega⟩
      have k2 : Hid (∀ j v, (List.replicate (Nat.min k (n - k)) (Value.bool b))[j]? = some v → wr.drew.cell? ((⟨w.heap.size, 0, none⟩ : Addr).add j) = some v) := by
        intro j v hj
        have hjk : j < Nat.min k (n - k) := by
          have := (List.getElem?_eq_some_iff.1 hj).1
          simpa using this
        have hjk2 : j < k := Nat.lt_of_lt_of_le hjk (Nat.min_le_left _ _)
        have hv : v = .bool b := List.eq_of_mem_replicate (List.mem_of_getElem? hj)
        subst hv
        rw [addr_add, Nat.zero_add]
        refine (cell_of_row _ _ _ _ _ (0, 0) (show wr.drew.heap[w.heap.size]? = _ from hr.out)).trans ?_
        simpa using rowR_get _ _ hjk2
      have k3 : Hid (k + (List.replicate (Nat.min k (n - k)) (Value.bool b)).length ≤ (rowR (.bool b) (.bool false) k n).length) := by
        show _ ≤ _
        rw [rowR_len _ _ hk, List.length_replicate]; have : Nat.min k (n - k) ≤ n - k := Nat.min_le_right k (n - k); omega
      have k4 : Hid (∀ v, v ∈ List.replicate (Nat.min k (n - k)) (Value.bool b) → v.oneCell' = true) := fun v hv => by rw [List.eq_of_mem_replicate hv]; rfl
      have k5 : Hid (wr.drew.heap[w.heap.size]? = some (.cells (rowR (.bool b) (.bool false) k n).toArray 4 (0, 0))) := hr.out
      have k6 := hide hb.drew
      go_wp2
      go_region_law (refine step_copy_splice (by rfl) (.tmp 41) (.tmp 44) 65 65 (by rfl) 4 Tryz.underlying65 hsz.out (some ⟨w.heap.size, k, none⟩) (some ⟨w.heap.size, 0, none⟩) (n - k) (n - k) k n (by go_simp) (by go_simp) w.heap.size k (rowR (.bool b) (.bool false) k n) 4 k5.out (List.replicate (Nat.min k (n - k)) (.bool b)) (List.length_replicate ..) (fun _ => ⟨rfl, ⟨w.heap.size, 0, none⟩, rfl, k2.out⟩) k3.out k4.out w.heap.size w k6.out (Nat.le_refl _) ?_; intro w2 hr2 hb2)
      have hmn : k + Nat.min k (n - k) ≤ n := by have : Nat.min k (n - k) ≤ n - k := Nat.min_le_right k (n - k); omega
      have hmp : 1 ≤ Nat.min k (n - k) := by show 1 ≤ min k (n - k); omega
      have hr2' : Hid (w2.heap[w.heap.size]? = some (.cells (rowR (.bool b) (.bool false) (k + Nat.min k (n - k)) n).toArray 4 (0, 0))) := by
        show _ = _
        rw [← rowR_splice (.bool b) (.bool false) hmn]
        exact hr2.out
      clear hr2 hcut hhead
      try simp only [List.length_replicate, goInt]
      generalize Nat.min k (n - k) = q at *
      go_wp2
      go_roundg N2
      case measure => omega
      case rel => exact ⟨k + q, by omega, hmn, by rw [IntWalk.i64_in _ (by omega)]; go_num, hr2', hb2, by show _ ≤ _; have := hN.out; omega⟩
    · have hkn : k = n := by omega
      subst hkn
      have hzw := (Array.getElem?_eq_some_iff.1 hr.out).1
      go_wp2
      go_ret
      refine ⟨_, rfl, ⟨by simp, fun _ => ⟨w.heap.size, 0, rfl, Nat.le_refl _, hzw, hzw, fun i x hx j u hu => ?_⟩⟩, hb⟩
      have hik : i < k := by
        have := (List.getElem?_eq_some_iff.1 hx).1
        simpa using this
      have hxb : x = b := List.eq_of_mem_replicate (List.mem_of_getElem? hx)
      subst hxb
      have hj : j = 0 := by
        have := (List.getElem?_eq_some_iff.1 hu).1
        simp [bv] at this
        exact this
      subst hj
      simp [bv] at hu
      subst hu
      refine ⟨(cell_of_row _ _ _ _ _ (0, 0) hr.out).trans ?_, frozen_of_row _ _ _ _ _ hr.out⟩
      have := rowR_get (.bool x) (.bool false) (m := k) (n := k) hik
      simpa using this

theorem replicate_set (n : Nat) (b : Bool) : List.replicate n b = setOf n fun _ => b := by
  refine inS_ext (by rw [setOf_len, List.length_replicate]) fun v hv => ?_
  rw [List.length_replicate] at hv
  rw [inS_setOf, inS_some (b := b) (by simp [hv])]
  simp [hv]

end Go.Proofs.YtanlgnjgpbjebaaGreatDoor

namespace Go.Proofs.YtanlgnjgpbjebaaGreatDoor
open Go.ChangeShapes Go.WideShapes Go.ChangeAt Go.RowKit
set_option linter.unusedVariables false

theorem Only.drewN {lo hi : Nat} {a w : World} (h : Only lo hi a w) (k : Nat) : Only lo hi a (w.drewN k) := ⟨h.os, h.tape, h.output, h.size, h.block⟩

/-- Which vertices may move to a vertex. -/
def BackOk (g : DV) (L : List (List Int)) : Prop := L.length = g.length ∧ ∀ (k : Nat) (row : List Int), L[k]? = some row → row.Nodup ∧ ∀ b : Int, b ∈ row ↔ ∃ v : Nat, b = v ∧ k ∈ gNxt g v
abbrev RowsI (most : Nat) := RowsG (id : Hd → Hd) 1 sv 1 iv most

/-- An arena. -/
def ArenaAt (w : World) (b : Nat) (g : DV) (alive : List Bool) : Prop :=
  ∃ Ag cg Ab cb Ai ci Q, w.heap[b]? = some (.cells #[.slice Ag g.length cg, .slice Ab g.length cb, .slice Ai g.length ci] 158 (0, 0)) ∧ GameAt w Ag g.length g ∧ RowsI 1048576 w 0 w.heap.size Ab g.length Q ∧ BackOk g (Q.map (·.2)) ∧ SetAt w Ai g.length alive

section
variable {w w' : World} {b B : Nat} {g : DV} {alive : List Bool}
theorem ArenaAt.below (h : ArenaAt w b g alive) (hb : Below B w w') (hB : w.heap.size ≤ B) : ArenaAt w' b g alive := by
  obtain ⟨Ag, cg, Ab, cb, Ai, ci, Q, h1, h2, h3, h4, h5⟩ := h
  have hlt := (Array.getElem?_eq_some_iff.1 h1).1
  exact ⟨Ag, cg, Ab, cb, Ai, ci, Q, (hb.block b (by omega)).trans h1, h2.below hb hB, (h3.below hb (.inl hB)).more (Nat.le_refl _) hb.size, h4, h5.below hb hB⟩
theorem ArenaAt.lt (h : ArenaAt w b g alive) : b < w.heap.size := by
  obtain ⟨Ag, cg, Ab, cb, Ai, ci, Q, h1, _⟩ := h
  exact (Array.getElem?_eq_some_iff.1 h1).1
/-- The fields, at addresses that are known. -/
theorem ArenaAt.open_ (h : ArenaAt w b g alive) (ok : GameBig g) : ∃ b1 o1 cg b2 o2 cb b3 o3 ci Q, w.cell? ⟨b, 0, none⟩ = some (.slice (some ⟨b1, o1, none⟩) g.length cg) ∧ w.cell? ⟨b, 1, none⟩ = some (.slice (some ⟨b2, o2, none⟩) g.length cb) ∧ w.cell? ⟨b, 2, none⟩ = some (.slice (some ⟨b3, o3, none⟩) g.length ci) ∧
    GameAt w (some ⟨b1, o1, none⟩) g.length g ∧ RowsI 1048576 w 0 w.heap.size (some ⟨b2, o2, none⟩) g.length Q ∧ BackOk g (Q.map (·.2)) ∧ SetAt w (some ⟨b3, o3, none⟩) g.length alive ∧ b < w.heap.size ∧ 0 < g.length ∧ g.length ≤ 1200 := by
  obtain ⟨Ag, cg, Ab, cb, Ai, ci, Q, h1, h2, h3, h4, h5⟩ := h
  have hn : 0 < g.length := ok.1.1
  obtain ⟨b1, o1, rfl, _⟩ := h2.addr hn
  obtain ⟨b2, o2, rfl, _⟩ := h3.outer.at_ hn
  obtain ⟨b3, o3, rfl, _⟩ := h5.addr hn
  exact ⟨b1, o1, cg, b2, o2, cb, b3, o3, ci, Q, (cell_of_row _ _ 0 _ _ (0, 0) h1).trans rfl, (cell_of_row _ _ 1 _ _ (0, 0) h1).trans rfl, (cell_of_row _ _ 2 _ _ (0, 0) h1).trans rfl, h2, h3, h4, h5, (Array.getElem?_eq_some_iff.1 h1).1, hn, ok.1.2⟩
end

set_option maxHeartbeats 800000 in
set_option maxRecDepth 100000 in
theorem marked_calls (F : FuncId) (caps : Array Value) (G : Nat → Bool) (b : Nat) (g : DV) (alive : List Bool) (w : World) (h : ArenaAt w b g alive) (ok : GameBig g)
    (hF : ∀ (v : Value) (W : World), Sem.run Tryz.prog (callFunc F (#[v] ++ caps)) W = .ok (.enter F (#[v] ++ caps)) W)
    (hcl : ∀ (k : Nat) (W : World), k < g.length → inS alive k = true → Below w.heap.size w W → Calls Tryz.prog F (#[.int .i64 (k : Int)] ++ caps) W fun e W' => e = .returned (.bool (G k)) ∧ ∃ N, W' = W.drewN N) :
    Calls Tryz.prog 117 #[.pointer (some ⟨b, 0, none⟩), .func (.func F) #[] caps] w (GotB w g.length (setOf g.length fun v => inS alive v && G v)) := by
  obtain ⟨b1, o1, cg, b2, o2, cb, b3, o3, ci, Q, c0, c1, c2, -, -, -, ha, hbl, hn0, hn1⟩ := h.open_ ok
  have hmk := run_make_bool g.length (by omega)
  have hstart := SlB.made w g.length
  rw [← setK_zero g.length (fun v => inS alive v && G v)] at hstart
  replace hstart := hide hstart
  replace ha := hide ha
  replace hcl := hide hcl
  clear h ok
  generalize hgl : g.length = n at *
  clear hgl
  go_enter Tryz.func117, Tryz.ntmps117
  go_wp2
  go_loopw [19] (fun i wr => ∃ k : Nat, k ≤ n ∧ i = .int .i64 k ∧ SlB wr w.heap.size (w.heap.size + 1) (some ⟨w.heap.size, 0, none⟩) n (setK n k fun v => inS alive v && G v) ∧ Below w.heap.size w wr ∧ w.heap.size < wr.heap.size) (fun i _ => n - (intOf i).toNat)
  case atStart => exact ⟨0, Nat.zero_le _, rfl, hstart.out, (Below.refl _ _).alloc (Nat.le_refl _) _, by simp⟩
  case round =>
    obtain ⟨k, hk, rfl, hs, hb, hz⟩ := hrel
    clear hmk hstart
    by_cases hlt : k < n
    · have a0 := (ha.out.below hb (Nat.le_refl _)).cell hlt
      have hfin : ∀ v W, SlB W w.heap.size (w.heap.size + 1) (some ⟨w.heap.size, 0, none⟩) n (setK n k fun v => inS alive v && G v) → v = (inS alive k && G k) → SlB (W.setCell ⟨w.heap.size, k, none⟩ (.bool v)) w.heap.size (w.heap.size + 1) (some ⟨w.heap.size, 0, none⟩) n (setK n (k + 1) fun v => inS alive v && G v) := fun v W hsW hv => by
        have := SlB.put hsW hlt v
        rwa [setK_step hlt hv, Nat.zero_add] at this
      by_cases z1 : inS alive k = true
      · have hc := hide (hcl.out k wr hlt z1 hb)
        have hnext := hide (fun N => hfin (G k) (wr.drewN N) (hs.drewN N) (by rw [z1]; rfl))
        have hcell := hide (fun N => (SlB.cell (hs.drewN N) hlt))
        have hbN := hide (fun N => hb.trans ((below_drewN wr N).mono hb.size))
        rw [z1] at a0
        clear z1 hfin hs ha hcl c0 c1
        generalize G k = gk' at *
        go_wp2_with fail
        refine hc.out.mono ?_
        rintro e w1 ⟨rfl, N, rfl⟩
        obtain ⟨s0, z0, -, -, -⟩ := hcell.out N
        rw [Nat.zero_add] at s0 z0
        go_wp2_with fail
        go_roundw
        case rel => exact ⟨k + 1, by omega, by go_num, hnext.out N, (hbN.out N).setCell (Nat.le_refl _) _, by rw [World.size_setCell]; exact hz⟩
        case measure => simp [intOf]; omega
      · replace z1 := Bool.eq_false_iff.2 z1
        have hnext := hide (hfin false wr hs (by rw [z1]; rfl))
        obtain ⟨s0, z0, -, -, -⟩ := SlB.cell hs hlt
        rw [Nat.zero_add] at s0 z0
        rw [z1] at a0
        clear z1 hfin hs ha hcl c0 c1
        go_wp2_with fail
        go_roundw
        case rel => exact ⟨k + 1, by omega, by go_num, hnext.out, hb.setCell (Nat.le_refl _) _, by rw [World.size_setCell]; exact hz⟩
        case measure => simp [intOf]; omega
    · have hkn : k = n := by omega
      subst hkn
      rw [setK_all] at hs
      replace hs := hide hs
      go_wp2
      go_ret
      exact ⟨_, _, rfl, hs.out.more (Nat.le_refl _) hz, hb⟩

/-- The ways left, as the walk counts them. -/
theorem exits_step {g : DV} {alive : List Bool} {l : List Int} {k : Nat} {x : Int} (hx : l[k]? = some x) :
    (((l.take (k + 1)).map Int.toNat).filter (inS alive)).length = (((l.take k).map Int.toNat).filter (inS alive)).length + if inS alive x.toNat then 1 else 0 := by
  rw [List.take_add_one, hx, List.map_append, List.filter_append, List.length_append]
  by_cases h : inS alive x.toNat = true <;> simp [List.filter_cons, h]

set_option maxHeartbeats 800000 in
theorem exits_calls (b : Nat) (g : DV) (alive : List Bool) (v : Nat) (w : World) (h : ArenaAt w b g alive) (ok : GameBig g) (hv : v < g.length) :
    Calls Tryz.prog 143 #[.pointer (some ⟨b, 0, none⟩), .int .i64 (v : Int)] w fun e w' => e = .returned (.int .i64 (exitsF g alive v)) ∧ w = w' := by
  obtain ⟨b1, o1, cg, b2, o2, cb, b3, o3, ci, Q, c0, c1, c2, hg, -, -, ha, hbl, hn0, hn1⟩ := h.open_ ok
  obtain ⟨o, p, l, Ah, nh, ch, hx, d0, d1, d2, hl, hnh, -, -, hinc⟩ := hg.cell ok hv
  have hnx := hide (gNxt_at hx)
  have hlen := hide hl.len
  replace hl := hide hl
  replace ha := hide ha
  replace hinc := hide hinc
  clear h ok hg hx
  generalize g.length = n at *
  go_enter Tryz.func143, Tryz.ntmps143
  go_wp2
  go_loop [5, 17] (fun s i => ∃ (k m : Nat), k ≤ nh ∧ i = .int .i64 k ∧ s = .int .i64 m ∧ Hid (m = (((l.take k).map Int.toNat).filter (inS alive)).length) ∧ m ≤ k) (fun _ i => nh - (intOf i).toNat)
  case atStart => exact ⟨0, 0, Nat.zero_le _, rfl, rfl, rfl, Nat.le_refl _⟩
  case round =>
    obtain ⟨k, m, hk, rfl, rfl, hm, hmk⟩ := hrel
    by_cases hlt : k < nh
    · obtain ⟨bh, oh, eAh, -⟩ := hl.out.at_ (show 0 < nh by omega)
      have hl2 := hl.out
      rw [eAh] at hl2
      obtain ⟨x, hx, e0, -⟩ := hl2.cell hlt
      have hxb := hinc.out.at_ hx
      have hx0 := hxb.1
      have hx1 := hxb.2
      have al0 := ha.out.cell (show x.toNat < n by omega)
      have hst := exits_step (g := g) (alive := alive) hx
      rw [← hm.out] at hst
      subst eAh
      clear hl2 hl hx hxb ha
      by_cases z1 : inS alive x.toNat = true
      · rw [if_pos z1] at hst
        rw [z1] at al0
        replace hst := hide hst
        clear z1
        go_wp2
        go_round
        case rel => exact ⟨k + 1, m + 1, by omega, by go_num, by go_num, hst.out.symm, by omega⟩
        case measure => simp [intOf]; omega
      · rw [if_neg z1] at hst
        rw [Bool.eq_false_iff.2 z1] at al0
        replace hst := hide hst
        clear z1
        go_wp2
        go_round
        case rel => exact ⟨k + 1, m, by omega, by go_num, rfl, hst.out.symm, by omega⟩
        case measure => simp [intOf]; omega
    · have hkn : k = nh := by omega
      subst hkn
      have hm' := hm.out
      rw [List.take_of_length_le (by rw [hlen.out]; exact Nat.le_refl _), ← hnx.out] at hm'
      replace hm' := hide hm'
      clear hl ha
      go_wp2
      go_ret
      exact ⟨by unfold exitsF; rw [← hm'.out]; rfl, rfl⟩

end Go.Proofs.YtanlgnjgpbjebaaGreatDoor

namespace Go.Proofs.YtanlgnjgpbjebaaGreatDoor
open Go.ChangeShapes Go.WideShapes Go.ChangeAt Go.RowKit
set_option linter.unusedVariables false

set_option maxHeartbeats 1600000 in
set_option maxRecDepth 100000 in
theorem without_calls (b : Nat) (g : DV) (alive gone : List Bool) (C : Option Addr) (d : Nat) (w : World) (h : ArenaAt w b g alive) (ok : GameBig g) (hg2 : SetAt w C g.length gone) :
    Calls Tryz.prog 120 #[.pointer (some ⟨b, 0, none⟩), .slice C g.length d] w fun e w' => ∃ b', e = .returned (.pointer (some ⟨b', 0, none⟩)) ∧ ArenaAt w' b' g (setOf g.length fun v => inS alive v && !inS gone v) ∧ Below w.heap.size w w' := by
  obtain ⟨b1, o1, cg, b2, o2, cb, b3, o3, ci, Q, c0, c1, c2, hg, hbk, hbo, ha, hbl, hn0, hn1⟩ := h.open_ ok
  have hal := hide ha.len
  obtain ⟨b4, o4, rfl, -⟩ := hg2.addr hn0
  have q := hide (cloneB_calls (some ⟨b3, o3, none⟩) g.length ci alive w.drew 0 _ ha.sl (by omega))
  replace hg2 := hide hg2
  replace ha := hide ha
  replace hg := hide hg
  replace hbk := hide hbk
  replace hbo := hide hbo
  clear h ok
  generalize hgl : g.length = n at *
  replace hgl := hide hgl
  go_enter Tryz.func120, Tryz.ntmps120
  go_wp2
  go_region_held3 (fun w' => w'.cell? ⟨b, 0, none⟩ = some (.slice (some ⟨b1, o1, none⟩) n cg) ∧ w'.cell? ⟨b, 1, none⟩ = some (.slice (some ⟨b2, o2, none⟩) n cb) ∧ w'.cell? ⟨b, 2, none⟩ = some (.slice (some ⟨b3, o3, none⟩) n ci)) (first | exact ⟨k0, k1, k2⟩ | go_keep)
    (first | (go_at_call 142; (refine q.out.mono ?_); rintro e w1 ⟨A1, k, rfl, hs1, hb1⟩; have k0 := (hb1.cell (p := ⟨b, 0, none⟩) hbl).trans c0; have k1 := (hb1.cell (p := ⟨b, 1, none⟩) hbl).trans c1; have k2 := (hb1.cell (p := ⟨b, 2, none⟩) hbl).trans c2; replace hs1 := hide hs1))
  have hs1' := hs1.out
  obtain ⟨bi, oi, rfl, hi1, hi2, hi3, -⟩ := hs1'.at_ hn0
  have bel1 : Below w.heap.size w w1 := (Below.refl _ _).drew.trans hb1
  have hz1 : w.heap.size ≤ w1.heap.size := bel1.size
  have bel2 := bel1.alloc hz1 (.cells #[.slice (some ⟨b1, o1, none⟩) n cg, .slice (some ⟨b2, o2, none⟩) n cb, .slice (some ⟨bi, oi, none⟩) n k] 158)
  have hblk := heap_alloc_new w1 (.cells #[.slice (some ⟨b1, o1, none⟩) n cg, .slice (some ⟨b2, o2, none⟩) n cb, .slice (some ⟨bi, oi, none⟩) n k] 158)
  have hs2 := (Sl.below hs1' ((Below.refl w1.heap.size w1).alloc (Nat.le_refl _) (.cells #[.slice (some ⟨b1, o1, none⟩) n cg, .slice (some ⟨b2, o2, none⟩) n cb, .slice (some ⟨bi, oi, none⟩) n k] 158)) (.inr (Nat.le_refl _))).tight' hn0
  have hz2 : w1.heap.size < (w1.alloc (.cells #[.slice (some ⟨b1, o1, none⟩) n cg, .slice (some ⟨b2, o2, none⟩) n cb, .slice (some ⟨bi, oi, none⟩) n k] 158)).heap.size := by simp
  generalize hW2 : (w1.alloc (.cells #[.slice (some ⟨b1, o1, none⟩) n cg, .slice (some ⟨b2, o2, none⟩) n cb, .slice (some ⟨bi, oi, none⟩) n k] 158)) = W2 at *
  have hi1 : w.heap.size ≤ bi := hi1
  replace hblk := hide hblk
  replace hs2 := hide hs2
  replace bel2 := hide bel2
  clear hs1' hs1 hb1 k0 k1 k2 hi3
  go_wp2_with fail
  try rw [hW2]
  clear hW2
  generalize w1.heap.size = B at *
  go_loopw [25] (fun i wr => ∃ j : Nat, j ≤ n ∧ i = .int .i64 j ∧ SlB wr bi (bi + 1) (some ⟨bi, oi, none⟩) n (setM alive j fun v => inS alive v && !inS gone v) ∧ Only bi (bi + 1) W2 wr) (fun i _ => n - (intOf i).toNat)
  case atStart => exact ⟨0, Nat.zero_le _, rfl, by rw [setM_zero]; exact hs2.out, Only.refl _ _ _⟩
  case round =>
    obtain ⟨j, hj, rfl, hs, ho⟩ := hrel
    clear hs2
    have hbW := Only.below bel2.out ho hi1 bel2.out.size
    have hblkr := (ho.block B hz2 (.inr (by omega))).trans hblk.out
    by_cases hlt : j < n
    · have y0 := (cell_of_row _ _ 0 _ _ (0, 0) hblkr).trans rfl
      have y1 := (cell_of_row _ _ 1 _ _ (0, 0) hblkr).trans rfl
      have y2 := (cell_of_row _ _ 2 _ _ (0, 0) hblkr).trans rfl
      obtain ⟨s0, z0, -, -, -⟩ := SlB.cell hs hlt
      rw [inS_setM (by rw [hal.out]; exact hlt)] at s0
      have g0 := (hg2.out.below hbW (Nat.le_refl _)).cell hlt
      have hput : ∀ v, v = (inS alive j && !inS gone j) → SlB (wr.setCell ⟨bi, oi + j, none⟩ (.bool v)) bi (bi + 1) (some ⟨bi, oi, none⟩) n (setM alive (j + 1) fun v => inS alive v && !inS gone v) := fun v hv => by
        have := hs.put hlt v
        rwa [setM_step (by rw [hal.out]; exact hlt) hv] at this
      replace hput := hide hput
      have hi0 : (0 : Int) ≤ (j : Int) := by omega
      have hi9 : (j : Int) < (n : Int) := by omega
      clear hs hblkr hg2 c0 c1 c2
      by_cases z1 : inS alive j = true
      · rw [z1] at s0
        have hnext := hide (hput.out (!inS gone j) (by rw [z1]; rfl))
        clear z1 hput
        generalize inS gone j = gj at *
        go_wp2
        go_still_tail 17, (by kernel_rfl)
        change wpList _ _ _ _ _ wr.drew
        go_wp2
        go_roundw
        case rel => exact ⟨j + 1, by omega, by go_num, hnext.out.drewN 1, (ho.setCell (p := ⟨bi, oi + j, none⟩) (Nat.le_refl _) (Nat.lt_succ_self _) _).drewN 1⟩
        case measure => simp [intOf]; omega
      · replace z1 := Bool.eq_false_iff.2 z1
        rw [z1] at s0
        have hnext := hide (hput.out false (by rw [z1]; rfl))
        clear z1 hput
        generalize inS gone j = gj at *
        go_wp2
        go_still_tail 17, (by kernel_rfl)
        change wpList _ _ _ _ _ wr.drew
        go_wp2
        go_roundw
        case rel => exact ⟨j + 1, by omega, by go_num, hnext.out.drewN 1, (ho.setCell (p := ⟨bi, oi + j, none⟩) (Nat.le_refl _) (Nat.lt_succ_self _) _).drewN 1⟩
        case measure => simp [intOf]; omega
    · have hjn : j = n := by omega
      subst hjn
      rw [setM_all _ hal.out] at hs
      replace hs := hide hs
      replace hblkr := hide hblkr
      replace hbW := hide hbW
      clear c0 c1 c2
      go_wp2
      go_ret
      refine ⟨B, rfl, ⟨some ⟨b1, o1, none⟩, cg, some ⟨b2, o2, none⟩, cb, some ⟨bi, oi, none⟩, k, Q, ?_, ?_, ?_, hbo.out, ?_⟩, hbW.out⟩
      · rw [hgl.out]; exact hblkr.out
      · rw [hgl.out]; exact hg.out.below hbW.out (Nat.le_refl _)
      · rw [hgl.out]; exact (hbk.out.below hbW.out (.inl (Nat.le_refl _))).more (Nat.le_refl _) hbW.out.size
      · rw [hgl.out]; exact SlB.at_set hs.out

end Go.Proofs.YtanlgnjgpbjebaaGreatDoor

namespace Go.Proofs.YtanlgnjgpbjebaaGreatDoor
open Go.ChangeShapes Go.WideShapes Go.ChangeAt Go.RowKit
open Go.Maps (Keyed keyOf_int_mk)
set_option linter.unusedVariables false

/-- The slice value `.slice A n c` is the call's own (a block from base on, at whatever offset), and holds l. -/
def OwnQ (w : World) (base : Nat) (A : Option Addr) (n c : Nat) (l : List Int) : Prop :=
  l.length = n ∧ ((A = none ∧ n = 0 ∧ c = 0) ∨ ∃ g off cur, A = some ⟨g, off, none⟩ ∧ base ≤ g ∧ w.heap[g]? = some (.cells cur 2 (0, 0)) ∧ n ≤ c ∧ c ≤ maxLen ∧ off + c ≤ cur.size ∧ ∀ (i : Nat) (x : Int), l[i]? = some x → cur[off + i]? = some (.int .i64 x))

section
variable {w w' : World} {base n c : Nat} {A : Option Addr} {l : List Int}
theorem OwnQ.len (h : OwnQ w base A n c l) : l.length = n := h.1
theorem OwnQ.of (h : Own 1 iv w base 2 A n c l) : OwnQ w base A n c l := by
  refine ⟨h.1, ?_⟩
  rcases h.2.2 with ⟨hv, h0⟩ | ⟨g, cap, cur, hv, hb, hg, hnc, hcm, hcs, htake⟩
  · injection hv with h1 _ h3
    exact .inl ⟨h1, h0, h3⟩
  · injection hv with h1 _ h3
    subst h1 h3
    refine .inr ⟨g, 0, cur, rfl, hb, hg, hnc, hcm, by omega, fun i x hx => ?_⟩
    have h1 := flat_at flat_iv l i x hx 0 _ rfl
    rw [← htake] at h1
    rw [List.getElem?_take] at h1
    split at h1
    · simpa using h1
    · cases h1
theorem OwnQ.keep (h : OwnQ w base A n c l) (hk : ∀ g, base ≤ g → (Value.slice A n c).ownBlock = some g → w'.heap[g]? = w.heap[g]?) : OwnQ w' base A n c l := by
  refine ⟨h.1, ?_⟩
  rcases h.2 with hn | ⟨g, off, cur, rfl, hb, hg, rest⟩
  · exact .inl hn
  · exact .inr ⟨g, off, cur, rfl, hb, (hk g hb rfl).trans hg, rest⟩
theorem OwnQ.lt (h : OwnQ w base A n c l) : ∀ g, (Value.slice A n c).ownBlock = some g → base ≤ g ∧ g < w.heap.size := by
  intro g hg
  rcases h.2 with ⟨rfl, _⟩ | ⟨g', off, cur, rfl, hb, hg', rest⟩
  · cases hg
  · cases hg
    exact ⟨hb, (Array.getElem?_eq_some_iff.1 hg').1⟩
theorem OwnQ.kept {row : Option Nat} (h : OwnQ w base A n c l) (hg : w.grownBy w' row) (hne : (Value.slice A n c).ownBlock = none ∨ (Value.slice A n c).ownBlock ≠ row) : OwnQ w' base A n c l :=
  h.keep fun g _ e => hg.block g (h.lt g e).2 (by
    rcases hne with hne | hne
    · rw [e] at hne; cases hne
    · rw [e] at hne; exact hne)
theorem OwnQ.alloc (h : OwnQ w base A n c l) (o : Obj) : OwnQ (w.alloc o) base A n c l := h.kept (World.grownBy_alloc w o none) (by cases (Value.slice A n c).ownBlock <;> simp)
theorem OwnQ.drewN (h : OwnQ w base A n c l) (k : Nat) : OwnQ (w.drewN k) base A n c l := h
/-- The first element. -/
theorem OwnQ.head {x : Int} {r : List Int} (h : OwnQ w base A n c (x :: r)) : ∃ g off, A = some ⟨g, off, none⟩ ∧ w.cell? ⟨g, off, none⟩ = some (.int .i64 x) ∧ 0 < n ∧ n ≤ c := by
  have hl := h.1
  simp at hl
  rcases h.2 with ⟨rfl, h0, _⟩ | ⟨g, off, cur, rfl, hb, hg, h1, h2, h3, h4⟩
  · omega
  · refine ⟨g, off, rfl, (cell_of_row w g off cur _ (0, 0) hg).trans ?_, by omega, h1⟩
    have := h4 0 x rfl
    simpa using this
/-- `q[1:]`. -/
theorem OwnQ.cut {x : Int} {r : List Int} (h : OwnQ w base A n c (x :: r)) : OwnQ w base (cutA A 1 c 1) (n - 1) (c - 1) r := by
  have hl := h.1
  simp at hl
  rcases h.2 with ⟨rfl, h0, _⟩ | ⟨g, off, cur, rfl, hb, hg, h1, h2, h3, h4⟩
  · omega
  · refine ⟨by omega, .inr ?_⟩
    by_cases hc : c = 1
    · subst hc
      refine ⟨g, off, cur, by simp [cutA], hb, hg, by omega, by unfold maxLen; omega, by omega, fun i y hy => ?_⟩
      have hr : r = [] := List.eq_nil_of_length_eq_zero (by omega)
      subst hr
      simp at hy
    · refine ⟨g, off + 1, cur, by unfold cutA; rw [if_neg hc, Option.map_some, addr_add], hb, hg, by omega, by omega, by omega, fun i y hy => ?_⟩
      have := h4 (i + 1) y (by simpa using hy)
      rw [show off + 1 + i = off + (i + 1) by omega]
      exact this
end

/-- append of one number to a queue. -/
theorem run_appQ (w : World) (ty : TypeId) {base n c : Nat} {A : Option Addr} {l : List Int} (h : OwnQ w base A n c l) (ad : Addr) (d : Nat) (x : Int) (hx : w.cell? ad = some (.int .i64 x)) (hn : n + 1 ≤ 1048576) (hbase : base ≤ w.heap.size) :
    ∃ A' c' w', (Builtin.append_ #[46, 46] ty #[.slice A n c, .slice (some ad) 1 d]).run Tryz.prog w = .ok (.slice A' (n + 1) c') w' ∧ OwnQ w' base A' (n + 1) c' (l ++ [x]) ∧ w.grownBy w' (Value.slice A n c).ownBlock ∧
      ((Value.slice A' (n + 1) c').ownBlock = (Value.slice A n c).ownBlock ∨ (Value.slice A' (n + 1) c').ownBlock = some w.heap.size) := by
  obtain ⟨i, hi, hz, hs, hby⟩ := info_parts info_int64
  have ht := Tryz.underlying46
  have hnews : ∀ j u, ([Value.int .i64 x] : List Value)[j]? = some u → w.cell? (ad.add j) = some u := by
    intro j u hj
    match j, hj with
    | 0, hj => simp at hj; subst hj; simpa [Addr.add] using hx
  have hzc : (Value.int .i64 0).cells.size = 1 := rfl
  have grown : ∀ (old : Nat) (olds : List Value), olds = l.map (Value.int .i64) → old < n + 1 → ∀ row : Option Nat,
      OwnQ (w.drew.alloc (.cells (olds.toArray ++ [Value.int .i64 x].toArray ++ Builtin.zeroCells (Value.int .i64 0).cells (grownCap w (n + 1) old 2 - (n + 1))) 2)) base (some ⟨w.heap.size, 0, none⟩) (n + 1) (grownCap w (n + 1) old 2) (l ++ [x]) ∧
      w.grownBy (w.drew.alloc (.cells (olds.toArray ++ [Value.int .i64 x].toArray ++ Builtin.zeroCells (Value.int .i64 0).cells (grownCap w (n + 1) old 2 - (n + 1))) 2)) row := by
    intro old olds hol ho row
    have hge := grownCap_ge w (n + 1) old 2
    have hcm : grownCap w (n + 1) old 2 ≤ maxLen := grownCap_le_maxLen w (n + 1) old 2 (by unfold maxLen; omega)
    refine ⟨⟨by rw [List.length_append, h.1]; rfl, .inr ⟨w.heap.size, 0, _, rfl, hbase, heap_alloc_new w.drew _, hge, hcm, ?_, fun i y hy => ?_⟩⟩, ⟨rfl, rfl, rfl, by simp, fun k hk _ => Below.heap_alloc w.drew _ k hk⟩⟩
    · simp only [Array.size_append, List.size_toArray, size_zeroCells, hzc, hol, List.length_map, h.1, List.length_singleton]
      omega
    · have hil : i < n + 1 := by
        have := (List.getElem?_eq_some_iff.1 hy).1
        rw [List.length_append, h.1] at this
        simpa using this
      have e1 : (olds.toArray ++ [Value.int .i64 x].toArray : Array Value) = ((l ++ [x]).map (Value.int .i64)).toArray := by rw [hol]; simp
      rw [Nat.zero_add, Array.getElem?_append_left (by rw [e1]; simp [h.1]; omega), e1]
      simp only [List.getElem?_toArray, List.getElem?_map, hy, Option.map_some]
  rcases h.2 with ⟨rfl, rfl, rfl⟩ | ⟨g, off, cur, rfl, hb, hg, hnc, hcm, hcs, hcur⟩
  · have hl : l = [] := List.eq_nil_of_length_eq_zero h.1
    subst hl
    have hr := run_append_nil (P := Tryz.prog) w 46 ty 2 i _ ht hi hz ad 1 d [.int .i64 x] (by rw [hs]; rfl) hnews (by omega) (by omega) (by rw [hby]; omega)
    obtain ⟨g1, g2⟩ := grown 0 [] rfl (by omega) (Value.ownBlock (.slice none 0 0))
    simp only [Nat.zero_add, Array.empty_append] at g1 g2 ⊢
    exact ⟨_, _, _, hr, g1, g2, .inr rfl⟩
  · by_cases hroom : n + 1 ≤ c
    · have hcell : (w.cell? ⟨g, off + n, none⟩).isSome = true := by
        rw [cell_of_row w g _ cur _ (0, 0) hg, Array.getElem?_eq_getElem (by omega)]
        rfl
      have hr := run_append_room_cells (P := Tryz.prog) w 46 ty 2 i ht hi g off n c ad 1 d [.int .i64 x] (by rw [hs]; rfl) hnews (by intro u hu; simp at hu; subst hu; rfl) hroom
        (fun j hj => by
          simp at hj
          subst hj
          rw [hs, Nat.mul_one, Nat.add_zero]
          exact hcell) (fun j hj => frozen_of_row w g _ cur _ hg)
      refine ⟨_, _, _, hr, ?_, ?_, .inl rfl⟩
      · rw [hs, Nat.mul_one]
        show OwnQ (w.setCell ⟨g, off + n, none⟩ (.int .i64 x)) base _ _ _ _
        refine ⟨by rw [List.length_append, h.1]; rfl, .inr ⟨g, off, cur.setIfInBounds (off + n) (.int .i64 x), rfl, hb, heap_setCell_same w g _ cur _ _ hg, hroom, hcm, by simpa using hcs, fun i y hy => ?_⟩⟩
        by_cases hin : i < n
        · rw [Array.getElem?_setIfInBounds_ne (by omega)]
          rw [List.getElem?_append_left (by rw [h.1]; exact hin)] at hy
          exact hcur i y hy
        · have : i = n := by
            have := (List.getElem?_eq_some_iff.1 hy).1
            rw [List.length_append, h.1] at this
            simp at this
            omega
          subst this
          rw [List.getElem?_append_right (by rw [h.1]; exact Nat.le_refl _), h.1, Nat.sub_self] at hy
          simp at hy
          subst hy
          simp [Array.getElem?_setIfInBounds]
          omega
      · rw [hs, Nat.mul_one]
        show w.grownBy (w.setCell ⟨g, off + n, none⟩ (.int .i64 x)) _
        exact ⟨rfl, rfl, rfl, by rw [World.size_setCell]; exact Nat.le_refl _, fun k hk hne => Below.heap_setCell w _ _ k (fun e => hne (by rw [e]; rfl))⟩
    · have holds : ∀ j u, (l.map (Value.int .i64))[j]? = some u → w.cell? ((⟨g, off, none⟩ : Addr).add j) = some u := by
        intro j u hj
        rw [List.getElem?_map] at hj
        obtain ⟨y, hy, rfl⟩ := Option.map_eq_some_iff.1 hj
        rw [addr_add, cell_of_row w g _ cur _ (0, 0) hg]
        exact hcur j y hy
      have hr := run_append_grow (P := Tryz.prog) w 46 ty 2 i _ ht hi hz ⟨g, off, none⟩ n c (l.map (Value.int .i64)) (by rw [List.length_map, h.1, hs, Nat.mul_one]) holds ad 1 d [.int .i64 x] (by rw [hs]; rfl) hnews (by omega) (by omega) (growslice_fits (by omega) (by rw [hby]; omega))
      obtain ⟨g1, g2⟩ := grown c _ rfl (by omega) (Value.ownBlock (.slice (some ⟨g, off, none⟩) n c))
      exact ⟨_, _, _, hr, g1, g2, .inr rfl⟩

/-- .. at the walk's operation. -/
theorem wpList_appQ {w : World} {ops : Array Oper} {rest : List Oper} {o : Oper} {a : Act} {Q : Exit → Act → World → Prop} (hgd : o.guard = none) (s x : Operand)
    (ho : o.op = .call { callee := .builtin .append, args := #[s, x], argTypes := #[46, 46] })
    {base n c : Nat} {A : Option Addr} {l : List Int} (hs : a.eval s = .slice A n c) (h : OwnQ w base A n c l) (ad : Addr) (d : Nat) (y : Int) (hx : a.eval x = .slice (some ad) 1 d) (hy : w.cell? ad = some (.int .i64 y)) (hn : n + 1 ≤ 1048576) (hbase : base ≤ w.heap.size)
    (hK : ∀ A' c' w', OwnQ w' base A' (n + 1) c' (l ++ [y]) → w.grownBy w' (Value.slice A n c).ownBlock → Below base w w' →
      ((Value.slice A' (n + 1) c').ownBlock = (Value.slice A n c).ownBlock ∨ (Value.slice A' (n + 1) c').ownBlock = some w.heap.size) → wpList Tryz.prog ops Q rest (a.put o.dst (.slice A' (n + 1) c')) w') : wpList Tryz.prog ops Q (o :: rest) a w := by
  refine wpList_plain hgd fun K hK' => ?_
  obtain ⟨A', c', w', h1, h2, h3, h4⟩ := run_appQ w o.type h ad d y hy hn hbase
  unfold Oper.wp execOp
  simp only [ho, resolve, invoke, builtin, Sem.run_bind, Sem.run_pure, Result.andThen_ok, List.map_toArray, List.map_cons, List.map_nil, hs, hx, h1]
  exact hK' _ _ (hK A' c' w' h2 h3 ((Below.refl _ _).grown h3 hbase fun k hk => (h.lt k hk).1) h4)

/-- Block b is a map of at most n entries that answers as f. -/
def MapQ (w : World) (b n : Nat) (f : Int → Option Int) : Prop :=
  ∃ D : DataW Unit, w.ownsMap Tryz.prog 2 (plainElem Tryz.prog 3) b n D ∧ ∀ k : Int, (Lit.int .i64 k).wf = true → Maps.has D (.int .i64 k) = (f k).isSome ∧ ∀ c, f k = some c → D.atKey (.int .i64 k) (.lit (.int .i64 0)) = .lit (.int .i64 c)

theorem keyedQ : Keyed Tryz.prog 2 := Go.Maps.int_keyed Tryz.underlying2
theorem zeroQ (w : World) : (zeroValue 3).run Tryz.prog w = .ok (.int .i64 0) w := by kernel_rfl

section
variable {w w' : World} {b n : Nat} {f : Int → Option Int}
theorem MapQ.made (w : World) : MapQ (w.alloc (.map #[] 0)) w.heap.size 0 (fun _ => none) :=
  ⟨.map [], World.ownsMap_made _ _ _ _, fun k _ => ⟨rfl, fun c h => by cases h⟩⟩
theorem MapQ.lt (h : MapQ w b n f) : b < w.heap.size := by obtain ⟨D, h1, _⟩ := h; exact h1.lt
theorem MapQ.kept {row : Option Nat} (h : MapQ w b n f) (hg : w.grownBy w' row) (hne : some b ≠ row) : MapQ w' b n f := by
  obtain ⟨D, h1, h2⟩ := h
  exact ⟨D, h1.kept hg hne, h2⟩
theorem MapQ.keep (h : MapQ w b n f) (hs : w.heap.size ≤ w'.heap.size) (hb : w'.heap[b]? = w.heap[b]?) : MapQ w' b n f := by
  obtain ⟨D, ⟨es, clock, h1, r⟩, h2⟩ := h
  exact ⟨D, ⟨es, clock, hb.trans h1, r⟩, h2⟩
set_option maxRecDepth 100000 in
theorem MapQ.lookOk (h : MapQ w b n f) {k : Int} (hk : (Lit.int .i64 k).wf = true) : ∃ c : Int, (Instr.lookup 160 (.map (some b)) (.int .i64 k) true).run Tryz.prog w = .ok (.tuple #[.int .i64 c, .bool (f k).isSome]) w ∧ ∀ c', f k = some c' → c = c' := by
  obtain ⟨D, h1, h2⟩ := h
  obtain ⟨h3, h4⟩ := h2 k hk
  obtain ⟨v, ps, hr, hv⟩ := h1.look_ok keyedQ Tryz.underlying160 (zeroQ w) (plainElem_int Tryz.underlying3 (by decide)) (keyOf_int_mk Tryz.underlying2 hk)
  obtain ⟨c, rfl, hc, hw⟩ := plainElem_int_inv Tryz.underlying3 hv
  simp only [Prod.mk.injEq] at hc
  rw [h3] at hr
  refine ⟨c, hr, fun c' hc' => ?_⟩
  rw [h4 c' hc'] at hc
  have := hc.1
  injection this with e
  injection e with _ e
  exact e.symm
set_option maxRecDepth 100000 in
theorem MapQ.look (h : MapQ w b n f) {k c : Int} (hk : (Lit.int .i64 k).wf = true) (hc : f k = some c) : (Instr.lookup 160 (.map (some b)) (.int .i64 k) false).run Tryz.prog w = .ok (.int .i64 c) w := by
  obtain ⟨D, h1, h2⟩ := h
  obtain ⟨h3, h4⟩ := h2 k hk
  obtain ⟨c', hr, hat, _⟩ := h1.lookup_int keyedQ Tryz.underlying160 Tryz.underlying3 (zeroQ w) (keyOf_int_mk Tryz.underlying2 hk)
  rw [h4 c hc] at hat
  injection hat with e
  injection e with _ e
  rw [e]
  exact hr
theorem MapQ.update (h : MapQ w b n f) (hn : n < maxLen) {k c : Int} (hk : (Lit.int .i64 k).wf = true) (hc : (Lit.int .i64 c).wf = true) :
    ∃ w', (Instr.mapUpdate 160 (.map (some b)) (.int .i64 k) (.int .i64 c)).run Tryz.prog w = .ok () w' ∧ MapQ w' b (n + 1) (fun i => if i = k then some c else f i) ∧ w.grownBy w' (some b) := by
  obtain ⟨D, h1, h2⟩ := h
  have hm := h1.isMap
  obtain ⟨w', hr, h3, h4⟩ := h1.update keyedQ Tryz.underlying160 hn (keyOf_int_mk Tryz.underlying2 hk) (plainElem_int Tryz.underlying3 hc)
  refine ⟨w', hr, ⟨_, h3, fun i hi => ?_⟩, h4⟩
  by_cases e : i = k
  · subst e
    simp only [if_true]
    refine ⟨Go.Maps.has_true_of_atKey fun z => Go.Maps.atKey_put_same hm (by trivial) _ z, fun c' hc' => ?_⟩
    cases hc'
    exact Go.Maps.atKey_put_same hm (by trivial) _ _
  · simp only [if_neg e]
    have hne : (Lit.int .i64 i) ≠ (Lit.int .i64 k) := fun h => e (by injection h)
    obtain ⟨h5, h6⟩ := h2 i hi
    refine ⟨?_, fun c' hc' => by rw [Go.Maps.atKey_put_other hne]; exact h6 c' hc'⟩
    rw [← h5]
    exact Go.Maps.has_put_other hne _
end

end Go.Proofs.YtanlgnjgpbjebaaGreatDoor
