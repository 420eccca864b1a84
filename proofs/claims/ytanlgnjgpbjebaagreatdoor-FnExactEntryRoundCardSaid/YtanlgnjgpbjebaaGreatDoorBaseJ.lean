/-
  Several texts in one:
  Which formulas are valid: by the reference (2). Conditions: none.
  Where a formula holds: by the reference. Conditions: a valid formula, a valid system.
  What the reference asks of a formula and a system. Conditions: none.
  Lists of int64 as results of a law: the helpers' contracts in one shape. Conditions: none.
  Transition systems as arguments of a law, in the printer's shape. Conditions: sizes.
  The states at which a formula holds, and whether it holds: by the reference. Conditions: none.
  How the game of a formula is made, vertex by vertex: plain. Conditions: none.
  Copies of lists of numbers, and lists of vertices that grow in the call's own memory. Conditions: at most 1048576 elements.
  The states to which edges with a label lead from some states, by the program. Conditions: sizes.
  Copies of lists of numbers, and lists as ascending sets, by the program. Conditions: at most 1048576 elements.
  A vertex in a block of its own whose list of successors grows. Conditions: none.
  A vertex gets one more successor, by the program. Conditions: sizes.
  Small tests on a node, by the program. Conditions: sizes.
  Where a part of a formula ends, what binds a variable: by the program. Conditions: the formula's shape.
  How deep a node stands, and its operands: by the program. Conditions: the formula's shape.
-/
import Derived.Test.YtanlgnjgpbjebaaGreatDoorBaseC
import Derived.Test.YtanlgnjgpbjebaaGreatDoorBaseF
import Derived.Test.YtanlgnjgpbjebaaGreatDoorBaseG
import Derived.Test.YtanlgnjgpbjebaaGreatDoorBaseH
import Derived.Test.YtanlgnjgpbjebaaGreatDoorBaseI
import Derived.StillTailTactics
import Derived.Deep.DeepCutAuto
namespace Go.Proofs.YtanlgnjgpbjebaaGreatDoor
open Go.ChangeShapes Go.WideShapes Go.ChangeAt Go.RowKit
set_option linter.unusedVariables false
set_option linter.unusedSimpArgs false

open Classical in
noncomputable def isB (f : DN) : Bool := decide (ValF f)
open Classical in
theorem isB_no {f : DN} (h : ¬ ValF f) : isB f = false := decide_eq_false h
open Classical in
theorem isB_yes {f : DN} (h : ValF f) : isB f = true := decide_eq_true h
open Classical in
theorem isB_val {f : DN} (h : isB f = true) : ValF f := of_decide_eq_true h
open Classical in
theorem shB_val {f : DN} (h : shB f = true) : ShV f := of_decide_eq_true h
theorem ShV.shp {f : DN} (h : ShV f) : Shp f := ⟨h.shape, fun k hk => by
  have h1 := (h.node k _ (List.getElem?_eq_getElem hk)).1
  rw [qF_at (List.getElem?_eq_getElem hk)]
  exact inB_true.1 h1, h.len.2⟩
theorem nodB_split (x : Nd) : nodB x = true ↔ (inB x.1 0 8 = true ∧ fldB x = true) ∧ bouB x = true := by unfold nodB; simp [Bool.and_eq_true, and_assoc]
theorem ValF.shv {f : DN} (h : ValF f) : ShV f := ⟨h.len, h.shape, fun i x hx => ((nodB_split x).1 (h.node x (List.mem_of_getElem? hx))).1⟩
structure IsP (f : DN) (j : Nat) : Prop where
  bou : ∀ (i : Nat) (x : Nd), i < j → f[i]? = some x → bouB x = true
  bnd : ∀ i, i < j → qF f i = 6 → bindF f i ≠ none
theorem IsP.next {f : DN} {j : Nat} {x : Nd} (h : IsP f j) (hx : f[j]? = some x) (h1 : bouB x = true) (h2 : x.1 = 6 → bindF f j ≠ none) : IsP f (j + 1) :=
  ⟨fun i y hi hy => by
    by_cases e : i = j
    · subst e; rw [hx] at hy; cases hy; exact h1
    · exact h.bou i y (by omega) hy, fun i hi => by
    by_cases e : i = j
    · subst e; rw [qF_at hx]; exact h2
    · exact h.bnd i (by omega)⟩
theorem IsP.done {f : DN} (hv : ShV f) (h : IsP f f.length) : ValF f :=
  ⟨hv.len, hv.shape, fun x hx => by
    obtain ⟨i, hi, e⟩ := List.getElem_of_mem hx
    have hg : f[i]? = some x := by rw [List.getElem?_eq_getElem hi, e]
    exact (nodB_split x).2 ⟨hv.node i x hg, h.bou i x hi hg⟩, fun k hk => h.bnd k hk⟩
set_option maxRecDepth 100000 in
set_option maxHeartbeats 3200000 in
theorem l19Is_calls (A : Option Addr) (n c : Nat) (f : DN) (w : World) (lo hi : Nat) (h : SlN w lo hi A n f) (ht : totN f ≤ 1048576) :
    Calls Tryz.prog 55 #[.slice A n c] w fun e w' => e = .returned (.bool (isB f)) ∧ Below w.heap.size w w' := by
  have hlen := h.len
  have qS := l14Shape_calls A n c f w lo hi h ht
  cases hsh : shB f with
  | false =>
    have hv := hide (isB_no (f := f) fun hV => by have := shB_yes hV.shv; rw [hsh] at this; cases this)
    rw [hsh] at qS
    replace qS := hide qS
    clear h ht hsh
    go_enter Tryz.func55, Tryz.ntmps55
    go_wp2_with (first | (go_at_call 96; (with_reducible refine qS.out.mono ?_); rintro e w1 ⟨rfl, hb1⟩))
    go_ret
    exact ⟨ret_b hv.out, hb1⟩
  | true =>
    have hV := shB_val hsh
    rw [hsh] at qS
    replace qS := hide qS
    have hbad := hide (fun (j : Nat) (x : Nd) (hx : f[j]? = some x) (hb : bouB x = false) => isB_no (f := f) fun c => by
      have := ((nodB_split x).1 (c.node x (List.mem_of_getElem? hx))).2
      rw [hb] at this
      cases this)
    have hbnd := hide (fun (j : Nat) (hj : j < n) (hq : qF f j = 6) (hb : bindF f j = none) => isB_no (f := f) fun c => c.bound j (by omega) hq hb)
    have hend := hide (fun (hs : IsP f n) => isB_yes (f := f) (IsP.done hV (by rw [hlen]; exact hs)))
    have hn30 : n ≤ 30 := by have := hV.len; omega
    have hB := hide (fun (j : Nat) (hj : j < n) W (hW : Below w.heap.size w W) => l19Binder_calls A n c f j W lo hi (h.below hW (.inr (Nat.le_refl _))) hV.shp hj)
    replace hlen := hide hlen
    clear hsh ht hV
    go_enter Tryz.func55, Tryz.ntmps55
    go_wp2_with (first | (go_at_call 96; (with_reducible refine qS.out.mono ?_); rintro e w1 ⟨rfl, hb1⟩))
    go_loopw [3] (fun i wr => ∃ (j : Nat), j ≤ n ∧ i = .int .i64 (j : Nat) ∧ Hid (IsP f j) ∧ Below w.heap.size w wr) (fun i _ => n - (intOf i).toNat)
    case atStart => exact ⟨0, Nat.zero_le _, rfl, ⟨fun i x hi => by omega, fun i hi => by omega⟩, hb1⟩
    case round =>
      clear hb1
      obtain ⟨j, hj, rfl, hsp, hb⟩ := hrel
      by_cases hlt : j < n
      · obtain ⟨b, off, x, y, s, z, rfl, -, -, g3, hx, c0, c1, -, -⟩ := SlN.get h hlt
        replace c0 := (hb.cell (p := ⟨b, off + j * 4, none⟩) g3).trans c0
        replace c1 := (hb.cell (p := ⟨b, off + j * 4 + 1, none⟩) g3).trans c1
        have hj0 : (0 : Int) ≤ (j : Int) := by omega
        have hj1 : (j : Int) < (n : Int) := by omega
        have bad1 := hbad.out j _ hx
        have bnd1 := hbnd.out j hlt
        rw [qF_at hx] at bnd1
        have nxt := hide (fun h1 h2 => hsp.out.next hx h1 h2)
        have qI := l00In_calls y 0 2
        have qF := l19Fixed_calls b (off + j * 4) x wr c0
        have qB := hide (hB.out j hlt wr hb)
        replace hb := hide hb
        clear hx h g3 hbad hbnd hend hsp hB
        cases hf : isFx x with
        | true =>
          rw [hf] at qF
          replace qF := hide qF
          have h78 : x = 7 ∨ x = 8 := by unfold isFx at hf; simpa using hf
          have hn6 : (x == 6) = false := by rw [beq_eq_false_iff_ne]; omega
          have hfl : bouB (x, y, s, z) = inB y 0 2 := by unfold bouB; simp [hf]
          rw [hfl] at bad1 nxt
          cases hi2 : inB y 0 2 with
          | false =>
            have hv := hide (bad1 hi2)
            rw [hi2] at qI
            replace qI := hide qI
            clear bad1 bnd1 nxt hf hfl hi2 h78 qB
            go_wp2_with (first | (go_at_call 80; (with_reducible refine qF.out.mono ?_); rintro e w1 ⟨rfl, rfl⟩) | (go_at_call 79; (with_reducible refine (qI.out _).mono ?_); rintro e w1 ⟨rfl, rfl⟩) | (go_at_call 97; (with_reducible refine qB.out.mono ?_); rintro e w1 ⟨rfl, nq, rfl⟩))
            go_ret
            exact ⟨ret_b hv.out, hb.out⟩
          | true =>
            have hn := hide (nxt.out hi2 (fun e => by dsimp only at e; omega))
            rw [hi2] at qI
            replace qI := hide qI
            clear bad1 bnd1 nxt hf hfl hi2 h78 qB
            go_wp2_with (first | (go_at_call 80; (with_reducible refine qF.out.mono ?_); rintro e w1 ⟨rfl, rfl⟩) | (go_at_call 79; (with_reducible refine (qI.out _).mono ?_); rintro e w1 ⟨rfl, rfl⟩) | (go_at_call 97; (with_reducible refine qB.out.mono ?_); rintro e w1 ⟨rfl, nq, rfl⟩))
            go_roundw
            case rel => exact ⟨j + 1, by omega, by go_num, hn, hb.out⟩
            case measure => simp [intOf]; omega
        | false =>
          rw [hf] at qF
          replace qF := hide qF
          by_cases h6 : x = 6
          · subst h6
            have hfl : bouB (6, y, s, z) = inB y 0 2 := by unfold bouB; simp
            rw [hfl] at bad1 nxt
            cases hi2 : inB y 0 2 with
            | false =>
              have hv := hide (bad1 hi2)
              rw [hi2] at qI
              replace qI := hide qI
              clear bad1 bnd1 nxt hf hfl hi2 qB
              go_wp2_with (first | (go_at_call 80; (with_reducible refine qF.out.mono ?_); rintro e w1 ⟨rfl, rfl⟩) | (go_at_call 79; (with_reducible refine (qI.out _).mono ?_); rintro e w1 ⟨rfl, rfl⟩) | (go_at_call 97; (with_reducible refine qB.out.mono ?_); rintro e w1 ⟨rfl, nq, rfl⟩))
              go_ret
              exact ⟨ret_b hv.out, hb.out⟩
            | true =>
              rw [hi2] at qI
              replace qI := hide qI
              cases hbf : bindF f j with
              | none =>
                have hv := hide (bnd1 rfl hbf)
                rw [hbf] at qB
                have qB2 : Hid (Calls Tryz.prog 97 #[.slice (some ⟨b, off, none⟩) n c, .int .i64 (j : Nat)] wr fun e w' => e = .returned (.int .i64 (-1)) ∧ ∃ N, w' = wr.drewN N) := qB
                replace qB := qB2
                clear bad1 bnd1 nxt hf hfl hi2 hbf qB2
                go_wp2_with (first | (go_at_call 80; (with_reducible refine qF.out.mono ?_); rintro e w1 ⟨rfl, rfl⟩) | (go_at_call 79; (with_reducible refine (qI.out _).mono ?_); rintro e w1 ⟨rfl, rfl⟩) | (go_at_call 97; (with_reducible refine qB.out.mono ?_); rintro e w1 ⟨rfl, nq, rfl⟩))
                go_ret
                exact ⟨ret_b hv.out, hb.out.trans ((below_drewN _ _).mono hb.out.size)⟩
              | some i =>
                have hn := hide (nxt.out hi2 (fun e => by rw [hbf]; intro c; cases c))
                rw [hbf] at qB
                have qB2 : Hid (Calls Tryz.prog 97 #[.slice (some ⟨b, off, none⟩) n c, .int .i64 (j : Nat)] wr fun e w' => e = .returned (.int .i64 (i : Nat)) ∧ ∃ N, w' = wr.drewN N) := qB
                replace qB := qB2
                clear bad1 bnd1 nxt hf hfl hi2 hbf qB2
                go_wp2_with (first | (go_at_call 80; (with_reducible refine qF.out.mono ?_); rintro e w1 ⟨rfl, rfl⟩) | (go_at_call 79; (with_reducible refine (qI.out _).mono ?_); rintro e w1 ⟨rfl, rfl⟩) | (go_at_call 97; (with_reducible refine qB.out.mono ?_); rintro e w1 ⟨rfl, nq, rfl⟩))
                go_roundw
                case rel => exact ⟨j + 1, by omega, by go_num, hn, hb.out.trans ((below_drewN _ _).mono hb.out.size)⟩
                case measure => simp [intOf]; omega
          · have hn6 : (x == 6) = false := by rw [beq_eq_false_iff_ne]; exact h6
            have hfl : bouB (x, y, s, z) = decide (y = 0) := by unfold bouB; simp [hf, h6]
            rw [hfl] at bad1 nxt
            replace qI := hide qI
            by_cases hy : y = 0
            · have hn := hide (nxt.out (decide_eq_true hy) (fun e => absurd e h6))
              subst hy
              clear bad1 bnd1 nxt hf hfl qB
              go_wp2_with (first | (go_at_call 80; (with_reducible refine qF.out.mono ?_); rintro e w1 ⟨rfl, rfl⟩) | (go_at_call 79; (with_reducible refine (qI.out _).mono ?_); rintro e w1 ⟨rfl, rfl⟩) | (go_at_call 97; (with_reducible refine qB.out.mono ?_); rintro e w1 ⟨rfl, nq, rfl⟩))
              go_roundw
              case rel => exact ⟨j + 1, by omega, by go_num, hn, hb.out⟩
              case measure => simp [intOf]; omega
            · have hv := hide (bad1 (decide_eq_false hy))
              have hyb : (y != 0) = true := by simpa using hy
              clear bad1 bnd1 nxt hf hfl qB
              go_wp2_with (first | (go_at_call 80; (with_reducible refine qF.out.mono ?_); rintro e w1 ⟨rfl, rfl⟩) | (go_at_call 79; (with_reducible refine (qI.out _).mono ?_); rintro e w1 ⟨rfl, rfl⟩) | (go_at_call 97; (with_reducible refine qB.out.mono ?_); rintro e w1 ⟨rfl, nq, rfl⟩))
              go_ret
              exact ⟨ret_b hv.out, hb.out⟩
      · have hjn : j = n := by omega
        subst hjn
        have hv := hide (hend.out hsp.out)
        clear h hbad hbnd hend hsp hB
        go_wp2_with fail
        go_ret
        exact ⟨ret_b hv.out, hb⟩

end Go.Proofs.YtanlgnjgpbjebaaGreatDoor

namespace Go.Proofs.YtanlgnjgpbjebaaGreatDoor
open Go.ChangeShapes Go.WideShapes Go.ChangeAt Go.RowKit
set_option linter.unusedVariables false
set_option linter.unusedSimpArgs false

theorem sem_empty (M : Sy) (T : Tr) (k : Nat) : sem M T k (fun _ => setOf M.N fun _ => false) = sem M T k (fun _ => []) := by
  refine leS_anti (b := true) (by rw [sem_len, sem_len]) ?_ ?_
  · exact sem_mono M T k fun u x hx => by
      simp only [if_true] at hx ⊢
      rw [inS_setOf] at hx
      simp at hx
  · exact sem_mono M T k fun u x hx => by
      simp only [if_true] at hx ⊢
      simp [inS] at hx
/-- Where a formula holds. -/
noncomputable def semF (f : DN) (d : DL) : List Bool := sem (sysF f d) (treeF f) 0 (fun _ => [])
theorem semF_len (f : DN) (d : DL) : (semF f d).length = d.1.toNat := sem_len _ _ _ _
theorem whole_part {f : DN} (hv : ValF f) : PartF f (treeF f) 0 := ⟨by have := hv.len; omega, subT_self _ _⟩
set_option maxRecDepth 100000 in
set_option maxHeartbeats 3200000 in
theorem l21Holds_calls (Af : Option Addr) (n cf bt N : Nat) (f : DN) (x : CL) (ini : Int) (ls : List ByteArray) (es : List Ed) (w : World) (h : SlN w 0 w.heap.size Af n f) (ht : totN f ≤ 1048576) (hv : ValF f) (hl : LtsAt w bt x ((N : Int), ini, ls, es)) (hlv : ltsV ((N : Int), ini, ls, es) = true) :
    Calls Tryz.prog 46 #[.slice Af n cf, .pointer (some ⟨bt, 0, none⟩)] w fun e w' => ∃ A' c', e = .returned (.slice A' N c') ∧ SlB w' w.heap.size w'.heap.size A' N (semF f ((N : Int), ini, ls, es)) ∧ Below w.heap.size w w' := by
  have hlen := h.len
  subst hlen
  have hD : RunD w Af f bt x N ini ls es := ⟨h, ht, hv, hl, hlv⟩
  have hN := hD.N40
  have qB := hide (l21Begin_calls Af f.length cf bt N f x ini ls es w rfl hv.len (by omega) hl)
  have hsem : Hid (sem (sysF f ((N : Int), ini, ls, es)) (treeF f) 0 (fun _ => setOf N fun _ => false) = semF f ((N : Int), ini, ls, es)) := sem_empty (sysF f ((N : Int), ini, ls, es)) (treeF f) 0
  replace hD := hide hD
  clear h ht hl hlv
  go_enter Tryz.func46, Tryz.ntmps46
  go_wp2_with (first | (go_at_call 70; (with_reducible refine qB.out.mono ?_); rintro e w1 ⟨br, bE, bS, bC, cE, rfl, hr, hb1, hba⟩; have qA := at_calls hD.out hba (treeF f) 0 (whole_part hv) (fun _ => False) _ _ _ w1 hb1 hr (PreR.start fun j => ⟨rfl, rfl⟩); rw [show ((0 : Nat) : Int) = 0 from rfl] at qA; replace qA := hide qA; replace hr := hide hr; replace hb1 := hide hb1; replace hba := hide hba) | (go_at_call 82; (with_reducible refine qA.out.mono ?_); rintro e w2 ⟨A2, c2, sv2, cl2, rfl, h2, r2, p2, b2⟩))
  go_ret
  have hh := h2
  rw [hsem.out] at hh
  exact ⟨A2, c2, rfl, hh.more hb1.out.size (Nat.le_refl _), hb1.out.trans (b2.below hba.out hb1.out.size)⟩

end Go.Proofs.YtanlgnjgpbjebaaGreatDoor

namespace Go.Proofs.YtanlgnjgpbjebaaGreatDoor
open Go.ChangeShapes Go.WideShapes Go.ChangeAt Go.RowKit
set_option linter.unusedVariables false
set_option linter.unusedSimpArgs false

noncomputable def frmC (f : DN) (d : DL) : Int := if (isB f && ltsV d) = true then 0 else 1
theorem frmC_ok {f : DN} {d : DL} (h : frmC f d = 0) : ValF f ∧ ltsV d = true := by
  unfold frmC at h
  split at h
  · rename_i e
    rw [Bool.and_eq_true] at e
    exact ⟨isB_val e.1, e.2⟩
  · cases h
theorem l21Ask_calls (Af : Option Addr) (n cf bt : Nat) (f : DN) (x : CL) (d : DL) (w : World) (h : SlN w 0 w.heap.size Af n f) (ht : totN f ≤ 1048576) (hl : LtsAt w bt x d) :
    Calls Tryz.prog 45 #[.slice Af n cf, .pointer (some ⟨bt, 0, none⟩)] w fun e w' => e = .returned (.int .i64 (frmC f d)) ∧ Below w.heap.size w w' := by
  have q1 := l19Is_calls Af n cf f w 0 w.heap.size h ht
  cases h1 : isB f with
  | false =>
    have hv : Hid (frmC f d = 1) := by show _ = _; unfold frmC; rw [h1]; rfl
    rw [h1] at q1
    replace q1 := hide q1
    rw [hv.out]
    clear h hl h1 hv
    go_enter Tryz.func45, Tryz.ntmps45
    go_wp2_with (first | (go_at_call 55; (with_reducible refine q1.out.mono ?_); rintro e w1 ⟨rfl, hb1⟩))
    go_ret
    exact ⟨rfl, hb1⟩
  | true =>
    rw [h1] at q1
    replace q1 := hide q1
    have q2 := fun W (hW : Below w.heap.size w W) => l11Is_calls bt x d W (hl.below hW (Nat.le_refl _))
    cases h2 : ltsV d with
    | false =>
      have hv : Hid (frmC f d = 1) := by show _ = _; unfold frmC; rw [h1, h2]; rfl
      rw [h2] at q2
      replace q2 := hide q2
      rw [hv.out]
      clear h hl h1 h2 hv
      go_enter Tryz.func45, Tryz.ntmps45
      go_wp2_with (first | (go_at_call 55; (with_reducible refine q1.out.mono ?_); rintro e w1 ⟨rfl, hb1⟩; have q3 := hide (q2.out w1 hb1)) | (go_at_call 56; (with_reducible refine q3.out.mono ?_); rintro e w2 ⟨rfl, hb2⟩))
      go_ret
      exact ⟨rfl, hb1.trans (hb2.mono hb1.size)⟩
    | true =>
      have hv : Hid (frmC f d = 0) := by show _ = _; unfold frmC; rw [h1, h2]; rfl
      rw [h2] at q2
      replace q2 := hide q2
      rw [hv.out]
      clear h hl h1 h2 hv
      go_enter Tryz.func45, Tryz.ntmps45
      go_wp2_with (first | (go_at_call 55; (with_reducible refine q1.out.mono ?_); rintro e w1 ⟨rfl, hb1⟩; have q3 := hide (q2.out w1 hb1)) | (go_at_call 56; (with_reducible refine q3.out.mono ?_); rintro e w2 ⟨rfl, hb2⟩))
      go_ret
      exact ⟨rfl, hb1.trans (hb2.mono hb1.size)⟩

end Go.Proofs.YtanlgnjgpbjebaaGreatDoor

namespace Go.Proofs.YtanlgnjgpbjebaaGreatDoor
open Go.ChangeShapes Go.WideShapes Go.ChangeAt Go.RowKit
set_option linter.unusedVariables false

def ResI (w : World) (lo hi : Nat) (v : Value) (d : List Int) : Prop := ∃ A n c, v = .slice A n c ∧ n ≤ 1048576 ∧ SlI w lo hi A n d
def HeldI (m : Int) (d : List Int) (m' : Int) : Prop := 0 ≤ m ∧ m ≤ 1099511627776 ∧ m' = m + (d.length : Int) ∧ ∀ i, i < d.length → d[i]? = some (m + (i : Int))
theorem ResI.below {w w' : World} {lo hi B : Nat} {v : Value} {d : List Int} (h : ResI w lo hi v d) (hb : Below B w w') (hB : hi ≤ B ∨ w.heap.size ≤ B) : ResI w' lo hi v d := by
  obtain ⟨A, n, c, h1, h2, h3⟩ := h
  exact ⟨A, n, c, h1, h2, h3.below hb hB⟩
theorem ResI.only {w w' : World} {lo hi lo' hi' : Nat} {v : Value} {d : List Int} (h : ResI w lo hi v d) (g : Only lo' hi' w w') (hd : hi ≤ lo' ∨ hi' ≤ lo) : ResI w' lo hi v d := by
  obtain ⟨A, n, c, h1, h2, h3⟩ := h
  exact ⟨A, n, c, h1, h2, h3.only g hd⟩
theorem eqInt64S_u {v u : Value} {d e : List Int} {w : World} {lo hi lo' hi' : Nat} (h : ResI w lo hi v d) (g : ResI w lo' hi' u e) :
    Calls Tryz.prog 29 #[v, u] w fun r w' => r = .returned (.bool (decide (d = e))) ∧ Below w.heap.size w w' := by
  obtain ⟨A, n, c, rfl, h1, h2⟩ := h
  obtain ⟨B, m, b, rfl, g1, g2⟩ := g
  exact eqInt64S_calls A B n m c b d e w lo hi lo' hi' h2 g2 (by unfold maxLen; omega) (by unfold maxLen; omega)
theorem markInt64S_u {v : Value} {d : List Int} {m : Int} {w : World} {lo hi : Nat} (h : ResI w lo hi v d) (h0 : 0 ≤ m) (h1 : m ≤ 549755813888) :
    Calls Tryz.prog 34 #[v, .int .i64 m] w fun e w' => ∃ m' d', e = .returned (.int .i64 m') ∧ m ≤ m' ∧ m' ≤ m + 8388608 ∧ Only lo hi w w' ∧ ResI w' lo hi v d' ∧ HeldI m d' m' := by
  obtain ⟨A, n, c, rfl, h2, h3⟩ := h
  have hl := h3.len
  refine (markInt64S_calls A n c d m w lo hi h3 h2 h0 (by omega)).mono ?_
  rintro e w' ⟨rfl, hs, ho⟩
  refine ⟨_, _, rfl, by omega, by omega, ho, ⟨A, n, c, rfl, h2, hs⟩, h0, by omega, by rw [markI_len, hl], fun i hi => ?_⟩
  rw [markI_len] at hi
  rw [markI_get _ _ _ i (by omega) hi]
theorem heldInt64S_u {v : Value} {d : List Int} {m m' : Int} {w : World} {lo hi : Nat} (h : ResI w lo hi v d) (hh : HeldI m d m') :
    Calls Tryz.prog 35 #[v, .int .i64 m] w fun e w' => e = .returned (.int .i64 m') ∧ w = w' := by
  obtain ⟨A, n, c, rfl, h2, h3⟩ := h
  obtain ⟨k0, k1, rfl, k2⟩ := hh
  have hl := h3.len
  rw [hl]
  exact heldInt64S_calls A n c d m w lo hi h3 h2 k0 k1 (fun i hi => k2 i (by omega))

end Go.Proofs.YtanlgnjgpbjebaaGreatDoor

namespace Go.Proofs.YtanlgnjgpbjebaaGreatDoor
open Go.ChangeShapes Go.WideShapes Go.ChangeAt Go.RowKit Go.Deep
set_option linter.unusedVariables false

def ArgL (w : World) (lo hi : Nat) (v : Value) (d : DL) : Prop := ∃ x : CL, v = .agg #[.int .i64 x.1, .int .i64 x.2.1, x.2.2.1, x.2.2.2] ∧ ReadL w lo hi x d
def FreshL (w : World) (lo hi : Nat) (v : Value) (d : DL) : Prop := ArgL w lo hi v d ∧ totL d ≤ 1048576
section
variable {w w' : World} {lo hi lo' hi' B : Nat} {v u : Value} {d e : DL}
theorem ArgL.below (h : ArgL w lo hi v d) (hb : Below B w w') (hB : hi ≤ B ∨ w.heap.size ≤ B) : ArgL w' lo hi v d := by
  obtain ⟨x, e, h⟩ := h
  exact ⟨x, e, h.below hb hB⟩
theorem ArgL.only (h : ArgL w lo hi v d) (g : Only lo' hi' w w') (hd : hi ≤ lo' ∨ hi' ≤ lo) : ArgL w' lo hi v d := by
  obtain ⟨x, e, h⟩ := h
  exact ⟨x, e, h.only g hd⟩
theorem FreshL.below (h : FreshL w lo hi v d) (hb : Below B w w') (hB : hi ≤ B ∨ w.heap.size ≤ B) : FreshL w' lo hi v d := ⟨h.1.below hb hB, h.2⟩
theorem FreshL.only (h : FreshL w lo hi v d) (g : Only lo' hi' w w') (hd : hi ≤ lo' ∨ hi' ≤ lo) : FreshL w' lo hi v d := ⟨h.1.only g hd, h.2⟩
theorem szLts_u {left : Int} (h : ArgL w lo hi v d) (h0 : 0 ≤ left) (h1 : left ≤ 1048576) :
    Calls Tryz.prog 13 #[v, .int .i64 left] w fun e w' => e = .returned (.int .i64 (szLeft left (totL d))) ∧ Below w.heap.size w w' := by
  obtain ⟨x, rfl, h⟩ := h
  exact szLts_b h h0 h1
theorem toLts_u (h : ArgL w lo hi v d) (ht : totL d ≤ 1048576) :
    Calls Tryz.prog 16 #[v] w fun e w' => ∃ v', e = .returned v' ∧ FreshL w' w.heap.size w'.heap.size v' d ∧ Below w.heap.size w w' := by
  obtain ⟨x, rfl, h⟩ := h
  refine (toLts_a h ht).mono ?_
  rintro e w' ⟨y, rfl, hr, hb⟩
  exact ⟨_, rfl, ⟨⟨y, rfl, hr⟩, ht⟩, hb⟩
theorem eqLts_u (h : FreshL w lo hi v d) (g : FreshL w lo' hi' u e) :
    Calls Tryz.prog 19 #[v, u] w fun r w' => r = .returned (.bool (decide (d = e))) ∧ Below w.heap.size w w' := by
  obtain ⟨⟨x, rfl, h⟩, hs⟩ := h
  obtain ⟨⟨y, rfl, g⟩, gs⟩ := g
  exact eqLts_a h g hs gs
theorem markLts_u {m : Int} (h : FreshL w lo hi v d) (hh : hi ≤ w.heap.size) (h0 : 0 < m) (h1 : m ≤ 549747425280) :
    Calls Tryz.prog 33 #[v, .int .i64 m] w fun e w' => ∃ m', e = .returned (.int .i64 m') ∧ m ≤ m' ∧ m' ≤ m + 8388608 ∧ Only lo hi w w' := by
  obtain ⟨⟨x, rfl, h⟩, ht⟩ := h
  obtain ⟨hn2, hn3⟩ := wr_total ht
  obtain ⟨m, rfl⟩ : ∃ k : Nat, m = (k : Int) := ⟨m.toNat, by omega⟩
  refine (markLts_wr _ _ _ _ _ _ m w lo hi (WrL.of h) hn2 hn3 hh (by omega) (by omega)).mono ?_
  rintro e w' ⟨rfl, ho⟩
  exact ⟨_, rfl, by omega, by omega, ho.only⟩
end
set_option maxRecDepth 100000 in
theorem open_L {H : Type} {enc : TypeId × Value → H} {w : World} {base wbase : Nat} {spare : Nat → Bool} {held : Bool} {v : Value} {d : DataW H} {p : List MemPlace} {w0 : World} {r0 : Reach} (hw : Value.okWide Tryz.prog w0 r0 wbase 26 v)
    (h : DataW.Trod enc Tryz.prog w base spare held 26 v d p) (hz : ∀ b off, MemPlace.cell b off ∈ p → w.frozen? ⟨b, off, none⟩ = false) : ∃ x, ArgL w base w.heap.size v x := by
  obtain ⟨cs, rfl, hsz⟩ := okWide_struct Tryz.underlying26 hw
  obtain ⟨fuel, hf⟩ := h
  have hsz4 : cs.size = 4 := hsz
  have hf' : DataW.trod enc Tryz.prog w base spare held fuel 26 cs.toList = some (d, p) := hf
  obtain ⟨cs⟩ := cs
  match cs, hsz4 with
  | [k0, k1, k2, k3], _ =>
    obtain ⟨x, d0, ex, r0⟩ := read_L hf' hz
    injection ex with ex0 ex
    injection ex with ex1 ex
    injection ex with ex2 ex
    injection ex with ex3 ex
    subst ex0 ex1 ex2 ex3
    exact ⟨d0, x, rfl, r0⟩

end Go.Proofs.YtanlgnjgpbjebaaGreatDoor

namespace Go.Proofs.YtanlgnjgpbjebaaGreatDoor
open Go.ChangeShapes Go.WideShapes Go.ChangeAt Go.RowKit
set_option linter.unusedVariables false
set_option linter.unusedSimpArgs false

/-- A boxed system. -/
theorem LtsAt.box {w : World} {lo hi : Nat} {s0 s1 : Int} {v2 v3 : Value} {d : DL} (h : ReadL w lo hi (s0, s1, v2, v3) d) (hh : hi ≤ w.heap.size) (ht : totL d ≤ 1048576) :
    LtsAt (w.alloc (.cells #[.int .i64 s0, .int .i64 s1, v2, v3] 35)) w.heap.size (s0, s1, v2, v3) d := by
  have hb0 : Below w.heap.size w (w.alloc (.cells #[.int .i64 s0, .int .i64 s1, v2, v3] 35)) := (Below.refl _ _).alloc (Nat.le_refl _) _
  have k0 := heap_alloc_new w (.cells #[.int .i64 s0, .int .i64 s1, v2, v3] 35)
  exact ⟨(h.below hb0 (.inr (Nat.le_refl _))).more (Nat.zero_le _) (Nat.le_trans hh hb0.size), ht, (Array.getElem?_eq_some_iff.1 k0).1, (cell_of_row _ _ 0 _ _ (0, 0) k0).trans rfl, (cell_of_row _ _ 1 _ _ (0, 0) k0).trans rfl, (cell_of_row _ _ 2 _ _ (0, 0) k0).trans rfl, (cell_of_row _ _ 3 _ _ (0, 0) k0).trans rfl⟩

noncomputable def frmF (f : DN) (d : DL) : List Int × Int := if frmC f d = 0 then (idxOf (semF f d), 0) else ([], frmC f d)
set_option maxRecDepth 100000 in
set_option maxHeartbeats 3200000 in
theorem specFormulaStates_u {v u : Value} {f : DN} {d : DL} {w : World} {lo hi lo' hi' : Nat} (he : Env w) (g : FreshN w lo' hi' u f) (gh : hi' ≤ w.heap.size) (h : FreshL w lo hi v d) (hh : hi ≤ w.heap.size) :
    Calls Tryz.prog 30 #[u, v] w fun e w' => ∃ o, e = .returned (.tuple #[o, .int .i64 (frmF f d).2]) ∧ ResI w' w.heap.size w'.heap.size o (frmF f d).1 ∧ Below w.heap.size w w' := by
  obtain ⟨⟨⟨s0, s1, v2, v3⟩, rfl, hL⟩, ht⟩ := h
  obtain ⟨A, n, rfl, gs, gt⟩ := g
  obtain ⟨st, ini, ls, es⟩ := d
  have hAt := LtsAt.box hL hh ht
  have hb0 : Below w.heap.size w (w.alloc (.cells #[.int .i64 s0, .int .i64 s1, v2, v3] 35)) := (Below.refl _ _).alloc (Nat.le_refl _) _
  have gs0 : SlN (w.alloc (.cells #[.int .i64 s0, .int .i64 s1, v2, v3] 35)) 0 w.heap.size A n f := (gs.below hb0 (.inr (Nat.le_refl _))).more (Nat.zero_le _) gh
  have hzs := hb0.size
  replace hb0 := hide hb0
  clear hL he gs
  go_enter Tryz.func30, Tryz.ntmps30
  go_upto_region 1 with fail
  generalize (w.alloc (.cells #[.int .i64 s0, .int .i64 s1, v2, v3] 35)) = W0 at *
  have gs1 : SlN W0 0 W0.heap.size A n f := gs0.more (Nat.le_refl _) hzs
  have q1 := l21Ask_calls A n n w.heap.size f _ (st, ini, ls, es) W0 gs1 gt hAt
  by_cases hc : frmC f (st, ini, ls, es) = 0
  case neg =>
    have hval : Hid (frmF f (st, ini, ls, es) = ([], frmC f (st, ini, ls, es))) := by show _ = _; unfold frmF; rw [if_neg hc]
    generalize frmC f (st, ini, ls, es) = oc at *
    replace q1 := hide q1
    have hcb : (oc != 0) = true := by simpa using hc
    clear hAt gs0 gs1
    go_wp2_with (first | (go_at_call 45; (with_reducible refine q1.out.mono ?_); rintro e w5 ⟨rfl, hb5⟩; replace hb5 := hide hb5))
    go_ret2
    exact ⟨.slice none 0 0, by rw [hval.out]; rfl, by rw [hval.out]; exact ⟨none, 0, 0, rfl, by omega, Sl.nil_⟩, hb0.out.trans (hb5.out.mono hzs)⟩
  obtain ⟨hV, hlv⟩ := frmC_ok hc
  have hval : Hid (frmF f (st, ini, ls, es) = (idxOf (semF f (st, ini, ls, es)), 0)) := by show _ = _; unfold frmF; rw [if_pos hc]
  rw [hc] at q1
  replace q1 := hide q1
  have hb40 := (lts_boundsB hlv).1
  obtain ⟨N, rfl⟩ : ∃ N : Nat, st = (N : Int) := ⟨st.toNat, by omega⟩
  have hN40 : N ≤ 40 := by omega
  have q2 := hide fun (W : World) (hW : Below W0.heap.size W0 W) => l21Holds_calls A n n w.heap.size N f _ ini ls es W ((gs1.below hW (.inr (Nat.le_refl _))).more (Nat.le_refl _) hW.size) gt hV (hAt.below hW (Nat.le_refl _)) hlv
  clear hc hAt gs0 gs1 hV hlv
  go_wp2_with (first | (go_at_call 45; (with_reducible refine q1.out.mono ?_); rintro e w5 ⟨rfl, hb5⟩; have q3 := hide (q2.out w5 hb5); replace hb5 := hide hb5; clear q1) | (go_at_call 46; (with_reducible refine q3.out.mono ?_); rintro e w6 ⟨A6, c6, rfl, hs6, hb6⟩; have q4 := hide (l15True_calls A6 N c6 _ w6 _ _ hs6 (by omega)); replace hb6 := hide hb6; clear hs6) | (go_at_call 74; (with_reducible refine q4.out.mono ?_); rintro e w7 ⟨A7, c7, rfl, ho7, hb7⟩; replace ho7 := hide ho7; replace hb7 := hide hb7))
  go_ret2
  have hb6w := hb0.out.trans ((hb5.out.trans (hb6.out.mono hb5.out.size)).mono hzs)
  have hbw := hb6w.trans (hb7.out.mono hb6w.size)
  have hle : (idxOf (semF f ((N : Int), ini, ls, es))).length ≤ 40 := by
    have h1 := List.length_filter_le (inS (semF f ((N : Int), ini, ls, es))) (List.range (semF f ((N : Int), ini, ls, es)).length)
    rw [List.length_range, semF_len] at h1
    unfold idxOf
    rw [List.length_map, semF_len]
    exact Nat.le_trans h1 hN40
  exact ⟨.slice A7 _ c7, by rw [hval.out]; rfl, by rw [hval.out]; exact ⟨A7, _, c7, rfl, by omega, (ho7.out.sl flat_iv).more hb6w.size (Nat.le_refl _)⟩, hbw⟩

end Go.Proofs.YtanlgnjgpbjebaaGreatDoor

namespace Go.Proofs.YtanlgnjgpbjebaaGreatDoor
set_option linter.unusedVariables false
set_option linter.unusedSimpArgs false

theorem tgt_out {x : Nd} {ls : List ByteArray} {es : List Ed} {s : Int} : tgtN x ls es s = ((outE es s).filter fun e => selN x (labE ls e)).map (·.2.2) := by
  unfold tgtN outE
  rw [List.filter_filter]
  congr 2
  funext e
  unfold hitN
  rw [Bool.and_comm]
/-- Where a modality leads, after the first j edges. -/
def rawM (nd : Nd) (ls : List ByteArray) (l : List Ed) (k : Nat) (N : Int) (j : Nat) : List Int := ((l.take j).filter fun e => selN nd (labE ls e)).map fun e => ((k : Int) + 1) * N + e.2.2
theorem rawM_next {nd : Nd} {ls : List ByteArray} {l : List Ed} {k : Nat} {N : Int} {j : Nat} {e : Ed} (h : l[j]? = some e) : rawM nd ls l k N (j + 1) = rawM nd ls l k N j ++ if selN nd (labE ls e) then [((k : Int) + 1) * N + e.2.2] else [] := by
  unfold rawM
  rw [List.take_add_one, h, List.filter_append, List.map_append]
  congr 1
  show List.map _ (List.filter _ [e]) = _
  rw [List.filter_cons]
  split
  · rfl
  · rfl
theorem rawM_all {f : DN} {d : DL} {set : Option (List Bool)} {k x n : Nat} (hm : isMod (qF f k) = true) (hn : n = (outE d.2.2.2 (x : Int)).length) : rawM (ndA f k) d.2.2.1 (outE d.2.2.2 (x : Int)) k d.1 n = rawF f d set k x := by
  unfold rawM rawF
  rw [if_pos hm, tgt_out, List.map_map, hn, List.take_length]
  rfl
/-- Where another node leads, after the first j operands. -/
noncomputable def rawO (f : DN) (k : Nat) (N : Int) (x : Nat) (j : Nat) : List Int := ((opsF f k).take j).map fun (a : Nat) => (a : Int) * N + x
theorem rawO_next {f : DN} {k x j : Nat} {N : Int} {a : Nat} (h : (opsF f k)[j]? = some a) : rawO f k N x (j + 1) = rawO f k N x j ++ [(a : Int) * N + x] := by
  unfold rawO
  rw [List.take_add_one, h, List.map_append]
  rfl
theorem rawO_all {f : DN} {d : DL} {set : Option (List Bool)} {k x n : Nat} (hm : isMod (qF f k) = false) (h6 : qF f k ≠ 6) (hn : n = (opsF f k).length) : rawO f k d.1 x n = rawF f d set k x := by
  unfold rawO rawF
  rw [if_neg (by rw [hm]; decide), if_neg h6, hn, List.take_length]
theorem raw_var {f : DN} {d : DL} {set : Option (List Bool)} {k x i : Nat} (h6 : qF f k = 6) (hb : bindF f k = some i) (h : ¬ (set.isSome = true ∧ i = 0)) : rawF f d set k x = [(i : Int) * d.1 + x] := by
  unfold rawF
  rw [if_neg (by unfold isMod; rw [h6]; decide), if_pos h6, hb]
  rw [if_neg (by rintro ⟨c1, c2⟩; injection c2 with c2; exact h ⟨c1, c2⟩)]
theorem raw_set {f : DN} {d : DL} {s : List Bool} {k x : Nat} (h6 : qF f k = 6) (hb : bindF f k = some 0) : rawF f d (some s) k x = [] := by
  unfold rawF
  rw [if_neg (by unfold isMod; rw [h6]; decide), if_pos h6, if_pos ⟨rfl, hb⟩]
/-- The operands of a node. -/
noncomputable def opN (f : DN) (k : Nat) (i : Nat) : Nat := if i = 0 then k + 1 else endF f (k + 1)
theorem opsF_range {f : DN} {k : Nat} : opsF f k = (List.range (arityQ (qF f k))).map (opN f k) := by
  unfold opsF
  by_cases h2 : qF f k = 2 ∨ qF f k = 3
  · rw [if_pos h2, show arityQ (qF f k) = 2 by unfold arityQ; rw [if_pos h2]]
    rfl
  · rw [if_neg h2]
    by_cases h1 : arityQ (qF f k) = 1
    · rw [if_pos h1, h1]; rfl
    · rw [if_neg h1]
      have : arityQ (qF f k) = 0 := by
        unfold arityQ at h1 ⊢
        rw [if_neg h2] at h1 ⊢
        split at h1
        · exact absurd rfl h1
        · rename_i h3; rw [if_neg h3]
      rw [this]; rfl
theorem arity_le (q : Int) : arityQ q ≤ 2 := by
  unfold arityQ
  split
  · omega
  · split <;> omega
theorem ops_len {f : DN} {k : Nat} : (opsF f k).length = arityQ (qF f k) := by rw [opsF_range]; simp
theorem ops_get {f : DN} {k i : Nat} (h : i < arityQ (qF f k)) : (opsF f k)[i]? = some (opN f k i) := by
  rw [opsF_range, List.getElem?_map, List.getElem?_range h]; rfl
theorem op_lt {f : DN} (hs : ShapeF f) {k i : Nat} (hk : k < f.length) (h : i < arityQ (qF f k)) : opN f k i < f.length ∧ k < opN f k i := by
  obtain ⟨hA, hz⟩ := treeF_is hs
  have h4 := hA.sub (Nat.zero_le k) (by omega)
  have h5 := sub_range (T := treeF f) (k := 0) (j := k) (Nat.zero_le _) (by omega)
  have ha := arity_le (qF f k)
  unfold opN
  by_cases h0 : i = 0
  · rw [if_pos h0]
    generalize subT (treeF f) 0 k = Tj at *
    cases Tj with
    | leaf => rw [show arityQ (qF f k) = 0 from h4] at h; omega
    | one a => have := a.size_pos; simp only [Tr.size] at h5; omega
    | two a b => have := a.size_pos; simp only [Tr.size] at h5; omega
  · rw [if_neg h0]
    have h2 : arityQ (qF f k) = 2 := by omega
    have hq : qF f k = 2 ∨ qF f k = 3 := by
      unfold arityQ at h2
      split at h2
      · assumption
      · split at h2 <;> omega
    rw [← sec_end hs hk hq]
    unfold secT
    generalize subT (treeF f) 0 k = Tj at *
    cases Tj with
    | leaf => rw [show arityQ (qF f k) = 0 from h4] at h2; cases h2
    | one a => rw [show arityQ (qF f k) = 1 from h4.1] at h2; cases h2
    | two a b => have := b.size_pos; have := a.size_pos; simp only [Tr.size] at h5; dsimp only; omega

end Go.Proofs.YtanlgnjgpbjebaaGreatDoor

namespace Go.Proofs.YtanlgnjgpbjebaaGreatDoor
open Go.ChangeShapes Go.WideShapes Go.ChangeAt Go.RowKit
set_option linter.unusedVariables false

theorem flat_gV : Flat gV 3 := ⟨fun _ => rfl, fun x u h => by simp [gV] at h; rcases h with rfl | rfl | rfl <;> rfl⟩
/-- A list of vertices in a row of the call's own, the lists in it in other blocks. -/
structure GrowV (w : World) (base : Nat) (A : Option Addr) (n c : Nat) (R : List (CV × List Int)) : Prop where
  own : Own 3 gV w base 137 A n c (R.map (·.1))
  rows : ∀ r ∈ R, SlI w base w.heap.size (hdV r.1).1 (hdV r.1).2.1 r.2 ∧ (hdV r.1).2.1 ≤ 1048576
  off : ∀ r ∈ R, 0 < (hdV r.1).2.1 → ∀ b off, (hdV r.1).1 = some ⟨b, off, none⟩ → (Value.slice A n c).ownBlock ≠ some b

section
variable {w w4 w5 : World} {base n c : Nat} {A : Option Addr} {R : List (CV × List Int)}
theorem GrowV.nil_ (w : World) (base : Nat) : GrowV w base none 0 0 [] := ⟨Own.nil_ _ _ _, fun _ h => (List.not_mem_nil h).elim, fun _ h => (List.not_mem_nil h).elim⟩
theorem GrowV.made (w : World) (base : Nat) (hb : base ≤ w.heap.size) : GrowV (w.alloc (.cells #[] 137)) base (some ⟨w.heap.size, 0, none⟩) 0 0 [] := ⟨Own.made w _ hb, fun _ h => (List.not_mem_nil h).elim, fun _ h => (List.not_mem_nil h).elim⟩
theorem GrowV.push (h : GrowV w base A n c R) (hb : Below w.heap.size w w4) (hbase : base ≤ w.heap.size) {o p : Int} {Ah : Option Addr} {nh ch : Nat} {s : List Int} (hs : SlI w4 w.heap.size w4.heap.size Ah nh s) (hnh : nh ≤ 1048576)
    {A5 : Option Addr} {c5 : Nat} (hown : Own 3 gV w5 base 137 A5 (n + 1) c5 (R.map (·.1) ++ [(o, p, Ah, nh, ch)])) (hgr : w4.grownBy w5 (Value.slice A n c).ownBlock)
    (hat : (Value.slice A5 (n + 1) c5).ownBlock = (Value.slice A n c).ownBlock ∨ (Value.slice A5 (n + 1) c5).ownBlock = some w4.heap.size) :
    GrowV w5 base A5 (n + 1) c5 (R ++ [((o, p, Ah, nh, ch), s)]) := by
  have hz4 := hb.size
  have hz5 := hgr.size
  have keepS : ∀ (B : Option Addr) (m lo hi : Nat) (l : List Int), SlI w4 lo hi B m l → (∀ b off, 0 < m → B = some ⟨b, off, none⟩ → (Value.slice A n c).ownBlock ≠ some b) → SlI w5 lo w5.heap.size B m l := by
    intro B m lo hi l hl hne
    refine ⟨hl.1, fun hm => ?_⟩
    obtain ⟨b, off, rfl, g1, g2, g3, hc⟩ := hl.2 hm
    have hk := hgr.block b g3 (fun e => hne b off hm rfl e.symm)
    refine ⟨b, off, rfl, g1, by omega, by omega, fun k x hx j u hu => ?_⟩
    obtain ⟨h1, h2⟩ := hc k x hx j u hu
    exact ⟨(World.cell?_of_block (w := w4) (by simpa using hk)).trans h1, (World.frozen?_of_block (w := w4) (by simpa using hk)).trans h2⟩
  have hold : ∀ r ∈ R, SlI w4 base w.heap.size (hdV r.1).1 (hdV r.1).2.1 r.2 := fun r hr => (h.rows r hr).1.below hb (.inr (Nat.le_refl _))
  refine ⟨by rw [List.map_append]; exact hown, fun r hr => ?_, fun r hr hm b off e => ?_⟩
  · rcases List.mem_append.1 hr with hr | hr
    · exact ⟨keepS _ _ _ _ _ (hold r hr) (fun b off hm e => h.off r hr hm b off e), (h.rows r hr).2⟩
    · have := List.mem_singleton.1 hr
      subst this
      refine ⟨(keepS _ _ _ _ _ hs (fun b off hm e => ?_)).more hbase (Nat.le_refl _), hnh⟩
      obtain ⟨b', off', e', g1, -⟩ := hs.at_ hm
      rw [e] at e'
      cases e'
      intro e2
      have := (h.own.lt b e2).2
      omega
  · rcases List.mem_append.1 hr with hr | hr
    · obtain ⟨b', off', e', g1, g2, g3, -⟩ := (hold r hr).at_ hm
      rw [e] at e'
      cases e'
      rcases hat with h1 | h1
      · rw [h1]; exact h.off r hr hm b off e
      · rw [h1]
        intro e2
        injection e2 with e2
        omega
    · have := List.mem_singleton.1 hr
      subst this
      obtain ⟨b', off', e', g1, g2, g3, -⟩ := hs.at_ hm
      have e : Ah = _ := e
      rw [e] at e'
      cases e'
      rcases hat with h1 | h1
      · rw [h1]
        intro e2
        have := (h.own.lt b e2).2
        omega
      · rw [h1]
        intro e2
        injection e2 with e2
        omega
theorem GrowV.game (h : GrowV w base A n c R) : GameAt w A n (R.map dV) :=
  ⟨R, ⟨(h.own.sl flat_gV).more (Nat.zero_le _) (Nat.le_refl _), fun r hr => ⟨(h.rows r hr).1.more (Nat.zero_le _) (Nat.le_refl _), (h.rows r hr).2⟩⟩, rfl, by have := h.own.len; rw [List.length_map] at this; rw [List.length_map]; exact this.symm⟩
end


theorem info_impV : (Tryz.prog.info? 137).map (fun i => (i.zero, i.size, i.bytes)) = some (some (.agg #[.int .i64 0, .int .i64 0, .slice none 0 0]), 3, 40) := by kernel_rfl
theorem elem_vertex : Elem Tryz.prog 115 137 3 40 := Elem.of Tryz.underlying115 info_impV rfl (by omega) (by omega)

end Go.Proofs.YtanlgnjgpbjebaaGreatDoor

namespace Go.Proofs.YtanlgnjgpbjebaaGreatDoor
open Go.ChangeShapes Go.WideShapes Go.ChangeAt Go.RowKit Go.Sort
set_option linter.unusedVariables false
set_option linter.unusedSimpArgs false

theorem Own.grown_below {α : Type} {size : Nat} {f : α → List Value} {w w' : World} {base n c B : Nat} {e : TypeId} {A : Option Addr} {l : List α} (h : Own size f w base e A n c l) (hg : w.grownBy w' (Value.slice A n c).ownBlock) (hB : B ≤ base) (hb : base ≤ w.heap.size) : Below B w w' :=
  (Below.refl _ _).grown hg (by omega) fun k hk => Nat.le_trans hB (h.lt k hk).1

end Go.Proofs.YtanlgnjgpbjebaaGreatDoor

namespace Go.Proofs.YtanlgnjgpbjebaaGreatDoor
open Go.ChangeShapes Go.WideShapes Go.ChangeAt Go.RowKit
set_option linter.unusedVariables false
set_option linter.unusedSimpArgs false

theorem cloneOwn_calls (A : Option Addr) (n c : Nat) (l : List Int) (w : World) (lo hi : Nat) (h : SlI w lo hi A n l) (hn : n ≤ 1048576) :
    Calls Tryz.prog 151 #[.slice A n c] w fun e w' => ∃ A' c', e = .returned (.slice A' n c') ∧ Own 1 iv w' w.heap.size 2 A' n c' l ∧ Below w.heap.size w w' := by
  have hnil : ∀ (W : World) (a : Option Addr) (m d : Nat), (binOp .eql 46 (.slice a m d) (.slice none 0 0)).run Tryz.prog W = .ok (.bool a.isNone) W := fun W a m d => Lib.run_eql_slice_nil W 46 _ a m d 0 0 Tryz.underlying46
  have hE := hide elem_int64
  cases A with
  | none =>
    have hn0 : n = 0 := by
      rcases Nat.eq_zero_or_pos n with h0 | h0
      · exact h0
      · obtain ⟨b, off, e, _⟩ := h.at_ h0
        cases e
    subst hn0
    have hl := List.eq_nil_of_length_eq_zero h.len
    subst hl
    go_enter Tryz.func151, Tryz.ntmps151
    go_wp2_with fail
    go_ret
    exact ⟨none, 0, rfl, Own.nil_ _ _ _, Below.refl _ _⟩
  | some a =>
    have hs := hide (h.below ((Below.refl w.heap.size w).alloc (Nat.le_refl _) (.cells #[] 2)) (.inr (Nat.le_refl _)))
    have hz : w.heap.size ≤ (w.alloc (.cells #[] 2)).heap.size := by simp
    clear h
    go_enter Tryz.func151, Tryz.ntmps151
    go_wp2_with (first | (at_builtin; (with_reducible refine wpList_app rfl (.tmp 5) (.tmp 6) rfl hE.out flat_iv rfl (Own.made w 2 (Nat.le_refl _)) rfl hs.out ?c1 hz ?_); rotate_right; intro A2 c2 w2 hown2 hgr2 hb2 _))
    case c1 => omega
    go_ret
    rw [Nat.zero_add, List.nil_append] at hown2
    exact ⟨_, _, rfl, hown2, ((Below.refl _ _).alloc (Nat.le_refl _) _).trans hb2⟩
/-- A list as an ascending set. -/
theorem sortedSet_calls (A : Option Addr) (n c : Nat) (l : List Int) (w : World) (lo hi : Nat) (h : SlI w lo hi A n l) (hn : n ≤ 1048576) :
    Calls Tryz.prog 129 #[.slice A n c] w fun e w' => ∃ A' n' c', e = .returned (.slice A' n' c') ∧ Own 1 iv w' w.heap.size 2 A' n' c' (Lib.compact (sortI l)) ∧ n' ≤ n ∧ Below w.heap.size w w' := by
  have q0 := hide (cloneOwn_calls A n c l w lo hi h hn)
  have hlen := h.len
  clear h
  go_enter Tryz.func129, Tryz.ntmps129
  go_wp2_with fail
  refine q0.out.mono ?_
  rintro e w0 ⟨A0, c0, rfl, hown, hb0⟩
  have q1 := hide (sortI_calls hown (by omega))
  have hz0 := hb0.size
  go_wp2_with fail
  refine q1.out.mono ?_
  rintro e w1 ⟨rfl, hs1, hg1⟩
  have hbs1 := hown.grown_below hg1 (Nat.le_refl _) hz0
  have q2 := hide (compactI_calls hs1 (by omega))
  have hw1 : w.heap.size ≤ w1.heap.size := Nat.le_trans hz0 hbs1.size
  have hl2 : (Lib.compact (sortI l)).length ≤ n := by
    have h1 := compact_len (sortI l)
    rw [sortI_len] at h1
    omega
  replace hs1 := hide hs1
  replace hbs1 := hide hbs1
  clear hg1
  go_wp2_with fail
  refine q2.out.mono ?_
  rintro e w2 ⟨rfl, hs2, hg2⟩
  have hbs2 := hide (hs1.out.grown_below hg2 (Nat.le_refl _) hw1)
  replace hs2 := hide hs2
  clear hg2
  go_wp2_with fail
  go_ret
  exact ⟨_, _, _, rfl, hs2.out, hl2, (hb0.trans hbs1.out).trans hbs2.out⟩

end Go.Proofs.YtanlgnjgpbjebaaGreatDoor

namespace Go.Proofs.YtanlgnjgpbjebaaGreatDoor
open Go.ChangeShapes Go.WideShapes Go.ChangeAt Go.RowKit
set_option linter.unusedVariables false
set_option linter.unusedSimpArgs false

/-- Since the world W1, the vertex in block bv has got the list l. -/
structure ToAt (W1 w : World) (bv : Nat) (o p : Int) (A : Option Addr) (m c : Nat) (l : List Int) : Prop where
  but : But (fun b => b = bv) W1 w
  cells : w.heap[bv]? = some (.cells #[.int .i64 o, .int .i64 p, .slice A m c] 137 (0, 0))
  own : Own 1 iv w W1.heap.size 2 A m c l
  lt : bv < W1.heap.size
section
variable {W1 w w' : World} {bv m c : Nat} {o p : Int} {A : Option Addr} {l : List Int}
theorem ToAt.start (h : W1.heap[bv]? = some (.cells #[.int .i64 o, .int .i64 p, .slice none 0 0] 137 (0, 0))) : ToAt W1 W1 bv o p none 0 0 [] :=
  ⟨But.refl _ _, h, Own.nil_ _ _ _, (Array.getElem?_eq_some_iff.1 h).1⟩
theorem ToAt.size (h : ToAt W1 w bv o p A m c l) : W1.heap.size ≤ w.heap.size := h.but.size
theorem ToAt.below (h : ToAt W1 w bv o p A m c l) (hb : Below w.heap.size w w') : ToAt W1 w' bv o p A m c l :=
  ⟨h.but.trans (But.of_below hb), (hb.block bv (Array.getElem?_eq_some_iff.1 h.cells).1).trans h.cells, h.own.below hb (Nat.le_refl _), h.lt⟩
/-- Another base: nothing has been appended so far. -/
theorem ToAt.again (h : ToAt W1 w bv o p none 0 0 []) : ToAt w w bv o p none 0 0 [] := ToAt.start h.cells
theorem ToAt.own_ne (h : ToAt W1 w bv o p A m c l) : ∀ g, (Value.slice A m c).ownBlock = some g → W1.heap.size ≤ g ∧ g < w.heap.size ∧ g ≠ bv := fun g hg => by
  have := h.own.lt g hg
  have := h.lt
  omega
theorem ToAt.setO (h : ToAt W1 w bv o p A m c l) (o' : Int) : ToAt W1 (w.setCell ⟨bv, 0, none⟩ (.int .i64 o')) bv o' p A m c l :=
  ⟨h.but.trans (But.set w ⟨bv, 0, none⟩ _ rfl), heap_setCell_same _ _ _ _ _ _ h.cells, h.own.keep fun g hg => Below.heap_setCell _ _ _ _ (h.own_ne g hg).2.2, h.lt⟩
theorem ToAt.setP (h : ToAt W1 w bv o p A m c l) (p' : Int) : ToAt W1 (w.setCell ⟨bv, 1, none⟩ (.int .i64 p')) bv o p' A m c l :=
  ⟨h.but.trans (But.set w ⟨bv, 1, none⟩ _ rfl), heap_setCell_same _ _ _ _ _ _ h.cells, h.own.keep fun g hg => Below.heap_setCell _ _ _ _ (h.own_ne g hg).2.2, h.lt⟩
/-- An old block but the vertex' stays. -/
theorem ToAt.block (h : ToAt W1 w bv o p A m c l) {b : Nat} (hb : b < W1.heap.size) (hne : b ≠ bv) : w.heap[b]? = W1.heap[b]? := h.but.block b hb hne
/-- One more. -/
theorem ToAt.app (h : ToAt W1 w bv o p A m c l) {w4 w6 : World} {lx : List Int} {m' c' : Nat} {A' : Option Addr} (h4 : Below w.heap.size w w4)
    (ho : Own 1 iv w6 W1.heap.size 2 A' m' c' lx) (hg : w4.grownBy w6 (Value.slice A m c).ownBlock) :
    ToAt W1 (w6.setCell ⟨bv, 2, none⟩ (.slice A' m' c')) bv o p A' m' c' lx := by
  have hz := h.but.size
  have h4z := h4.size
  have hlt := h.lt
  have hbv : bv < w.heap.size := (Array.getElem?_eq_some_iff.1 h.cells).1
  have hk : ∀ b, b < W1.heap.size → w6.heap[b]? = w.heap[b]? := fun b hb => (hg.block b (by omega) fun e => by have := (h.own.lt b e.symm).1; omega).trans (h4.block b (by omega))
  have hbut : But (fun b => b = bv) W1 w6 := ⟨(hg.os.trans h4.os).trans h.but.os, (hg.tape.trans h4.tape).trans h.but.tape, (hg.output.trans h4.output).trans h.but.output, by have := hg.size; omega, fun b hb hn => (hk b hb).trans (h.but.block b hb hn)⟩
  exact ⟨hbut.trans (But.set w6 ⟨bv, 2, none⟩ _ rfl), heap_setCell_same _ _ _ _ _ _ ((hk bv hlt).trans h.cells), ho.keep fun g hg' => Below.heap_setCell _ _ _ _ (by have := (ho.lt g hg').1; intro e; (try dsimp only at e); omega), hlt⟩
end

end Go.Proofs.YtanlgnjgpbjebaaGreatDoor

namespace Go.Proofs.YtanlgnjgpbjebaaGreatDoor
open Go.ChangeShapes Go.WideShapes Go.ChangeAt Go.RowKit
set_option linter.unusedVariables false
set_option linter.unusedSimpArgs false

theorem ToAt.facts {W1 w : World} {bv m c : Nat} {o p : Int} {A : Option Addr} {l : List Int} (h : ToAt W1 w bv o p A m c l) : w.cell? ⟨bv, 0, none⟩ = some (.int .i64 o) ∧ w.cell? ⟨bv, 1, none⟩ = some (.int .i64 p) ∧ w.cell? ⟨bv, 2, none⟩ = some (.slice A m c) ∧
    w.frozen? ⟨bv, 0, none⟩ = false ∧ w.frozen? ⟨bv, 1, none⟩ = false ∧ w.frozen? ⟨bv, 2, none⟩ = false :=
  ⟨(cell_of_row _ _ 0 _ _ (0, 0) h.cells).trans rfl, (cell_of_row _ _ 1 _ _ (0, 0) h.cells).trans rfl, (cell_of_row _ _ 2 _ _ (0, 0) h.cells).trans rfl, frozen_of_row _ _ _ _ _ h.cells, frozen_of_row _ _ _ _ _ h.cells, frozen_of_row _ _ _ _ _ h.cells⟩
set_option maxRecDepth 100000 in
theorem to_calls (W1 w : World) (bv bt : Nat) (o p : Int) (A : Option Addr) (m c : Nat) (l : List Int) (N node st P : Int) (h : ToAt W1 w bv o p A m c l) (ht : w.cell? ⟨bt, 0, none⟩ = some (.int .i64 N)) (hm : m ≤ 100000) (hP : node * N = P) (hP0 : -1000 ≤ P ∧ P ≤ 1000000) (hst : 0 ≤ st ∧ st ≤ 1000000) :
    Calls Tryz.prog 124 #[.int .i64 node, .int .i64 st, .pointer (some ⟨bv, 0, none⟩), .pointer (some ⟨bt, 0, none⟩)] w fun e w' => ∃ A' c', e = .returned (.tuple #[]) ∧ ToAt W1 w' bv o p A' (m + 1) c' (l ++ [P + st]) ∧ But (fun b => b = bv ∨ (Value.slice A m c).ownBlock = some b) w w' := by
  obtain ⟨-, -, y2, -, -, -⟩ := h.facts
  have hw1 : IntKind.i64.wrap (node * N) = P := by rw [IntWalk.i64_in _ (by omega)]; exact hP
  have hw2 : IntKind.i64.wrap (P + st) = P + st := IntWalk.i64_in _ (by omega)
  have hE := hide elem_int64
  have hz := h.size
  have hza : ∀ o, W1.heap.size ≤ (w.alloc o).heap.size := fun o => by rw [World.size_alloc]; omega
  have hbA := (Below.refl w.heap.size w).alloc (Nat.le_refl _) (.cells #[.int .i64 (P + st)] 2)
  have hlt : bv < w.heap.size := (Array.getElem?_eq_some_iff.1 h.cells).1
  have hne : some bv ≠ (Value.slice A m c).ownBlock := fun e => by
    have := (h.own.lt bv e.symm).1
    have := h.lt
    omega
  have hk4 := (hbA.block bv hlt).trans h.cells
  replace h := hide h
  go_enter Tryz.func124, Tryz.ntmps124
  go_wp2_with (first
    | (at_builtin; (with_reducible refine wpList_app rfl (.tmp 7) (.tmp 14) rfl hE.out flat_iv rfl (h.out.own.alloc _) rfl (Sl.lit1' w 2 (P + st) _ rfl 1 _ ?c0) ?c1 (hza _) ?_); rotate_right; intro A6 c6 w6 hown6 hgr6 hb6 _; have hk6 := (hgr6.block bv (by rw [World.size_alloc]; omega) hne).trans hk4; have y6 : w6.cell? ⟨bv, 2, none⟩ = some (.slice A m c) := (cell_of_row _ _ 2 _ _ (0, 0) hk6).trans rfl; have zf : w6.frozen? ⟨bv, 2, none⟩ = false := frozen_of_row _ _ _ _ _ hk6))
  case c0 => rfl
  case c1 => omega
  go_end0
  refine ⟨A6, c6, rfl, h.out.app hbA hown6 hgr6, ?_⟩
  have hz6 := hgr6.size
  rw [World.size_alloc] at hz6
  exact But.trans ⟨hgr6.os, hgr6.tape, hgr6.output, by omega, fun b hb hn => (hgr6.block b (by rw [World.size_alloc]; omega) fun e => hn (.inr e.symm)).trans (hbA.block b hb)⟩ (But.set w6 ⟨bv, 2, none⟩ _ (.inl rfl))

end Go.Proofs.YtanlgnjgpbjebaaGreatDoor

namespace Go.Proofs.YtanlgnjgpbjebaaGreatDoor
open Go.ChangeShapes Go.WideShapes Go.ChangeAt Go.RowKit
set_option linter.unusedVariables false
set_option linter.unusedSimpArgs false

theorem isFixed_calls (x y : Int) (s : ByteArray) (z : Bool) (w : World) : Calls Tryz.prog 102 #[.agg #[.int .i64 x, .int .i64 y, .string s, .bool z]] w fun e w' => e = .returned (.bool (isFx x)) ∧ Below w.heap.size w w' := by
  by_cases h7 : x = 7
  · subst h7
    go_enter Tryz.func102, Tryz.ntmps102
    go_wp2
    go_returns
    refine ⟨rfl, ?_⟩
    go_grown
  · by_cases h8 : x = 8
    · subst h8
      go_enter Tryz.func102, Tryz.ntmps102
      go_wp2
      go_returns
      refine ⟨rfl, ?_⟩
      go_grown
    · have hv : Hid (isFx x = false) := by show _ = _; unfold isFx; simp [h7, h8]
      have e7 : (x == 7) = false := by simpa using h7
      have e8 : (x == 8) = false := by simpa using h8
      go_enter Tryz.func102, Tryz.ntmps102
      go_wp2
      go_returns
      refine ⟨ret_b hv.out, ?_⟩
      go_grown
theorem isModality_calls (x y : Int) (s : ByteArray) (z : Bool) (w : World) : Calls Tryz.prog 125 #[.agg #[.int .i64 x, .int .i64 y, .string s, .bool z]] w fun e w' => e = .returned (.bool (isMod x)) ∧ Below w.heap.size w w' := by
  by_cases h7 : x = 4
  · subst h7
    go_enter Tryz.func125, Tryz.ntmps125
    go_wp2
    go_returns
    refine ⟨rfl, ?_⟩
    go_grown
  · by_cases h8 : x = 5
    · subst h8
      go_enter Tryz.func125, Tryz.ntmps125
      go_wp2
      go_returns
      refine ⟨rfl, ?_⟩
      go_grown
    · have hv : Hid (isMod x = false) := by show _ = _; unfold isMod; simp [h7, h8]
      have e7 : (x == 4) = false := by simpa using h7
      have e8 : (x == 5) = false := by simpa using h8
      go_enter Tryz.func125, Tryz.ntmps125
      go_wp2
      go_returns
      refine ⟨ret_b hv.out, ?_⟩
      go_grown
theorem operands_calls (x y : Int) (s : ByteArray) (z : Bool) (w : World) : Calls Tryz.prog 139 #[.agg #[.int .i64 x, .int .i64 y, .string s, .bool z]] w fun e w' => e = .returned (.int .i64 (arityQ x : Nat)) ∧ Below w.heap.size w w' := by
  by_cases hx : x = 2 ∨ x = 3 ∨ x = 4 ∨ x = 5 ∨ x = 7 ∨ x = 8
  · rcases hx with rfl | rfl | rfl | rfl | rfl | rfl
    all_goals
      go_enter Tryz.func139, Tryz.ntmps139
      go_wp2
      go_returns
      refine ⟨rfl, ?_⟩
      go_grown
  · have hv : Hid (((arityQ x : Nat) : Int) = 0) := by show _ = _; unfold arityQ; rw [if_neg (by omega), if_neg (by omega)]; rfl
    have e2 : (x == 2) = false := by rw [beq_eq_false_iff_ne]; omega
    have e3 : (x == 3) = false := by rw [beq_eq_false_iff_ne]; omega
    have e4 : (x == 4) = false := by rw [beq_eq_false_iff_ne]; omega
    have e5 : (x == 5) = false := by rw [beq_eq_false_iff_ne]; omega
    have e7 : (x == 7) = false := by rw [beq_eq_false_iff_ne]; omega
    have e8 : (x == 8) = false := by rw [beq_eq_false_iff_ne]; omega
    clear hx
    go_enter Tryz.func139, Tryz.ntmps139
    go_wp2
    go_returns
    refine ⟨ret_i hv.out, ?_⟩
    go_grown

end Go.Proofs.YtanlgnjgpbjebaaGreatDoor

namespace Go.Proofs.YtanlgnjgpbjebaaGreatDoor
open Go.ChangeShapes Go.WideShapes Go.ChangeAt Go.RowKit
set_option linter.unusedVariables false
set_option linter.unusedSimpArgs false

theorem boundOk_calls (x y : Int) (s : ByteArray) (z : Bool) (w : World) : Calls Tryz.prog 113 #[.agg #[.int .i64 x, .int .i64 y, .string s, .bool z]] w fun e w' => e = .returned (.bool (bouB (x, y, s, z))) ∧ Below w.heap.size w w' := by
  have qF := fun W => isFixed_calls x y s z W
  have qW := hide (fun W => within_calls y 0 2 W)
  have hb0 := hide ((Below.refl w.heap.size w).alloc (Nat.le_refl _) (.cells #[.int .i64 x, .int .i64 y, .string s, .bool z] 67))
  cases hf : isFx x with
  | true =>
    rw [hf] at qF
    replace qF := hide qF
    have hv : Hid (bouB (x, y, s, z) = inB y 0 2) := by show _ = _; unfold bouB; simp [hf]
    rw [hv.out]
    generalize inB y 0 2 = B at *
    clear hf
    go_enter Tryz.func113, Tryz.ntmps113
    go_wp2_with (first | (go_at_call 102; (with_reducible refine (qF.out _).mono ?_); rintro e w1 ⟨rfl, hb1⟩; have k1 := (hb1.block _ (by simp)).trans (heap_alloc_new w (.cells #[.int .i64 x, .int .i64 y, .string s, .bool z] 67)); have d0 : w1.cell? ⟨w.heap.size, 0, none⟩ = some (.int .i64 x) := (cell_of_row _ _ 0 _ _ (0, 0) k1).trans rfl; have d1 : w1.cell? ⟨w.heap.size, 1, none⟩ = some (.int .i64 y) := (cell_of_row _ _ 1 _ _ (0, 0) k1).trans rfl; clear k1) | (go_at_call 87; (with_reducible refine (qW.out _).mono ?_); rintro e w2 ⟨rfl, rfl⟩))
    go_ret
    exact ⟨rfl, hb0.out.trans (hb1.mono hb0.out.size)⟩
  | false =>
    rw [hf] at qF
    replace qF := hide qF
    by_cases h6 : x = 6
    · have hv : Hid (bouB (x, y, s, z) = inB y 0 2) := by show _ = _; unfold bouB; simp [h6]
      have h6b : (x == 6) = true := by simpa using h6
      rw [hv.out]
      generalize inB y 0 2 = B at *
      clear hf h6
      go_enter Tryz.func113, Tryz.ntmps113
      go_wp2_with (first | (go_at_call 102; (with_reducible refine (qF.out _).mono ?_); rintro e w1 ⟨rfl, hb1⟩; have k1 := (hb1.block _ (by simp)).trans (heap_alloc_new w (.cells #[.int .i64 x, .int .i64 y, .string s, .bool z] 67)); have d0 : w1.cell? ⟨w.heap.size, 0, none⟩ = some (.int .i64 x) := (cell_of_row _ _ 0 _ _ (0, 0) k1).trans rfl; have d1 : w1.cell? ⟨w.heap.size, 1, none⟩ = some (.int .i64 y) := (cell_of_row _ _ 1 _ _ (0, 0) k1).trans rfl; clear k1) | (go_at_call 87; (with_reducible refine (qW.out _).mono ?_); rintro e w2 ⟨rfl, rfl⟩))
      go_ret
      exact ⟨rfl, hb0.out.trans (hb1.mono hb0.out.size)⟩
    · have hv : Hid (bouB (x, y, s, z) = (y == 0)) := by show _ = _; unfold bouB; simp [hf, h6]; rw [Bool.eq_iff_iff]; simp
      have h6b : (x == 6) = false := by simpa using h6
      rw [hv.out]
      clear hf h6 qW
      go_enter Tryz.func113, Tryz.ntmps113
      go_wp2_with (first | (go_at_call 102; (with_reducible refine (qF.out _).mono ?_); rintro e w1 ⟨rfl, hb1⟩; have k1 := (hb1.block _ (by simp)).trans (heap_alloc_new w (.cells #[.int .i64 x, .int .i64 y, .string s, .bool z] 67)); have d0 : w1.cell? ⟨w.heap.size, 0, none⟩ = some (.int .i64 x) := (cell_of_row _ _ 0 _ _ (0, 0) k1).trans rfl; have d1 : w1.cell? ⟨w.heap.size, 1, none⟩ = some (.int .i64 y) := (cell_of_row _ _ 1 _ _ (0, 0) k1).trans rfl; clear k1))
      all_goals go_ret
      all_goals exact ⟨by simp [*], hb0.out.trans (hb1.mono hb0.out.size)⟩
set_option maxRecDepth 100000 in
theorem fieldsOk_calls (x y : Int) (s : ByteArray) (z : Bool) (w : World) (hs : s.size ≤ 1048576) (he : Env w) : Calls Tryz.prog 112 #[.agg #[.int .i64 x, .int .i64 y, .string s, .bool z]] w fun e w' => e = .returned (.bool (fldB (x, y, s, z))) ∧ Below w.heap.size w w' := by
  have qF := fun W => isModality_calls x y s z W
  have hb0 := hide ((Below.refl w.heap.size w).alloc (Nat.le_refl _) (.cells #[.int .i64 x, .int .i64 y, .string s, .bool z] 67))
  have heW := hide (he.below hb0.out (Nat.le_refl _))
  have qP := hide (fun W hW => isPattern_calls s W hs hW)
  clear he
  cases hf : isMod x with
  | true =>
    rw [hf] at qF
    replace qF := hide qF
    have hv : Hid (fldB (x, y, s, z) = patB s) := by show _ = _; unfold fldB; simp [hf]
    rw [hv.out]
    generalize patB s = B at *
    clear hf
    go_enter Tryz.func112, Tryz.ntmps112
    go_wp2_with (first | (go_at_call 125; (with_reducible refine (qF.out _).mono ?_); rintro e w1 ⟨rfl, hb1⟩; have k1 := (hb1.block _ (by simp)).trans (heap_alloc_new w (.cells #[.int .i64 x, .int .i64 y, .string s, .bool z] 67)); have d0 : w1.cell? ⟨w.heap.size, 0, none⟩ = some (.int .i64 x) := (cell_of_row _ _ 0 _ _ (0, 0) k1).trans rfl; have d1 : w1.cell? ⟨w.heap.size, 1, none⟩ = some (.int .i64 y) := (cell_of_row _ _ 1 _ _ (0, 0) k1).trans rfl; have d2 : w1.cell? ⟨w.heap.size, 2, none⟩ = some (.string s) := (cell_of_row _ _ 2 _ _ (0, 0) k1).trans rfl; have d3 : w1.cell? ⟨w.heap.size, 3, none⟩ = some (.bool z) := (cell_of_row _ _ 3 _ _ (0, 0) k1).trans rfl; clear k1) | (go_at_call 140; (with_reducible refine (qP.out _ (heW.out.below hb1 (Nat.le_refl _))).mono ?_); rintro e w2 ⟨rfl, hb2⟩))
    go_ret
    exact ⟨rfl, hb0.out.trans ((hb1.trans (hb2.mono hb1.size)).mono hb0.out.size)⟩
  | false =>
    rw [hf] at qF
    replace qF := hide qF
    by_cases h0 : s.size = 0
    · have hv : Hid (fldB (x, y, s, z) = !z) := by show _ = _; unfold fldB; simp [hf, h0]
      have hs0 := size_zero h0
      have hl2 : s.toList = [] := by rw [hs0]; exact ByteArray.toList_mk _
      have hl : (s.toList == []) = true := by rw [hl2]; rfl
      rw [hv.out]
      clear hf h0 hs0 qP heW
      go_enter Tryz.func112, Tryz.ntmps112
      go_wp2_with (first | (go_at_call 125; (with_reducible refine (qF.out _).mono ?_); rintro e w1 ⟨rfl, hb1⟩; have k1 := (hb1.block _ (by simp)).trans (heap_alloc_new w (.cells #[.int .i64 x, .int .i64 y, .string s, .bool z] 67)); have d0 : w1.cell? ⟨w.heap.size, 0, none⟩ = some (.int .i64 x) := (cell_of_row _ _ 0 _ _ (0, 0) k1).trans rfl; have d1 : w1.cell? ⟨w.heap.size, 1, none⟩ = some (.int .i64 y) := (cell_of_row _ _ 1 _ _ (0, 0) k1).trans rfl; have d2 : w1.cell? ⟨w.heap.size, 2, none⟩ = some (.string s) := (cell_of_row _ _ 2 _ _ (0, 0) k1).trans rfl; have d3 : w1.cell? ⟨w.heap.size, 3, none⟩ = some (.bool z) := (cell_of_row _ _ 3 _ _ (0, 0) k1).trans rfl; clear k1))
      all_goals go_ret
      all_goals exact ⟨by simp [*], hb0.out.trans (hb1.mono hb0.out.size)⟩
    · have hv : Hid (fldB (x, y, s, z) = false) := by show _ = _; unfold fldB; simp [hf, h0]
      have hne : ¬ s.toList = [] := fun c => h0 (by rw [ba_ext (a := s) (b := ⟨#[]⟩) (by rw [c]; exact (ByteArray.toList_mk _).symm)]; rfl)
      have hne2 : (s.toList == []) = false := by simpa using hne
      clear hf h0 qP heW
      go_enter Tryz.func112, Tryz.ntmps112
      go_wp2_with (first | (go_at_call 125; (with_reducible refine (qF.out _).mono ?_); rintro e w1 ⟨rfl, hb1⟩; have k1 := (hb1.block _ (by simp)).trans (heap_alloc_new w (.cells #[.int .i64 x, .int .i64 y, .string s, .bool z] 67)); have d0 : w1.cell? ⟨w.heap.size, 0, none⟩ = some (.int .i64 x) := (cell_of_row _ _ 0 _ _ (0, 0) k1).trans rfl; have d1 : w1.cell? ⟨w.heap.size, 1, none⟩ = some (.int .i64 y) := (cell_of_row _ _ 1 _ _ (0, 0) k1).trans rfl; have d2 : w1.cell? ⟨w.heap.size, 2, none⟩ = some (.string s) := (cell_of_row _ _ 2 _ _ (0, 0) k1).trans rfl; have d3 : w1.cell? ⟨w.heap.size, 3, none⟩ = some (.bool z) := (cell_of_row _ _ 3 _ _ (0, 0) k1).trans rfl; clear k1))
      all_goals go_ret
      all_goals exact ⟨ret_b hv.out, hb0.out.trans (hb1.mono hb0.out.size)⟩

set_option maxRecDepth 100000 in
theorem formulaEnd_calls (A : Option Addr) (n c : Nat) (f : DN) (k : Nat) (w : World) (lo hi : Nat) (h : SlN w lo hi A n f) (hs : ShapeF f) (hn : n ≤ 30) (hk : k < n) :
    Calls Tryz.prog 141 #[.slice A n c, .int .i64 (k : Nat)] w fun e w' => e = .returned (.int .i64 (endF f k : Nat)) ∧ Below w.heap.size w w' := by
  have hlen := h.len
  obtain ⟨e1, e2, e3, e4⟩ := end_need hs (k := k) (by omega)
  have hE : endF f k ≤ n := by omega
  have hNd : Hid (∀ i, k ≤ i → i < endF f k → ndI (qF f) k ≤ ndI (qF f) i) := e4
  have hEnd : Hid (ndI (qF f) (endF f k) = ndI (qF f) k - 1) := e3
  have hB := hide (ndI_bounds (qF f))
  generalize endF f k = E at *
  replace hlen := hide hlen
  clear e3 e4 hs
  go_enter Tryz.func141, Tryz.ntmps141
  go_wp2
  go_loopw [1, 5] (fun kk s wr => ∃ (i : Nat) (z : Int), k ≤ i ∧ i ≤ E ∧ kk = .int .i64 (i : Nat) ∧ s = .int .i64 z ∧ Hid (z = ndI (qF f) i - ndI (qF f) k + 1) ∧ Below w.heap.size w wr) (fun kk _ _ => E - (intOf kk).toNat)
  case atStart => exact ⟨k, 1, Nat.le_refl _, by omega, rfl, rfl, by show _ = _; omega, Below.refl _ _⟩
  case round =>
    obtain ⟨i, z, hi1, hi2, rfl, rfl, hz, hb⟩ := hrel
    have hb1 := hB.out i
    have hb2 := hB.out k
    by_cases hlt : i < E
    · obtain ⟨b, off, x, y, s, t, rfl, g1, g2, g3, hx, c0, c1, c2, c3⟩ := SlN.get h (show i < n by omega)
      replace c0 := (hb.cell (p := ⟨b, off + i * 4, none⟩) g3).trans c0
      replace c1 := (hb.cell (p := ⟨b, off + i * 4 + 1, none⟩) g3).trans c1
      replace c2 := (hb.cell (p := ⟨b, off + i * 4 + 2, none⟩) g3).trans c2
      replace c3 := (hb.cell (p := ⟨b, off + i * 4 + 3, none⟩) g3).trans c3
      have hqi : qF f i = x := qF_at hx
      have hq2 := hide (operands_calls x y s t wr)
      have hzp : 0 < z := by have := hNd.out i hi1 hlt; have := hz.out; omega
      have hzb : -100 ≤ z ∧ z ≤ 100 := by have := hz.out; omega
      have hstep : ndI (qF f) (i + 1) = ndI (qF f) i + (arityQ x : Int) - 1 := by rw [← hqi]; rfl
      have hz2 : Hid (z + ((arityQ x : Int) - 1) = ndI (qF f) (i + 1) - ndI (qF f) k + 1) := by have := hz.out; show _ = _; omega
      have ha : arityQ x ≤ 2 := by
        unfold arityQ
        split
        · omega
        · split <;> omega
      replace hb := hide hb
      clear hx hqi hstep hb1 hb2 hz h g1 g2 g3
      generalize arityQ x = ar at *
      go_wp2_with (first | (go_at_call 139; (with_reducible refine hq2.out.mono ?_); rintro e w1 ⟨rfl, hb1⟩))
      go_roundw
      case rel => exact ⟨i + 1, _, by omega, by omega, by go_num, by go_num, hz2, hb.out.trans (hb1.mono hb.out.size)⟩
      case measure => simp [intOf]; omega
    · have hiE : i = E := by omega
      subst hiE
      have hz0 : z = 0 := by have := hz.out; have := hEnd.out; omega
      subst hz0
      clear hz hb1 hb2
      go_wp2
      go_ret
      exact ⟨rfl, hb⟩

set_option maxRecDepth 100000 in
set_option maxHeartbeats 25600000 in
theorem binder_calls (A : Option Addr) (n c : Nat) (f : DN) (k : Nat) (w : World) (lo hi : Nat) (h : SlN w lo hi A n f) (hs : ShapeF f) (hn : n ≤ 30) (hk : k < n) :
    Calls Tryz.prog 114 #[.slice A n c, .int .i64 (k : Nat)] w fun e w' => e = .returned (.int .i64 (optI (bindF f k))) ∧ Below w.heap.size w w' := by
  have hlen := h.len
  have qE := hide (fun (i : Nat) (hi' : i < n) W (hW : Below w.heap.size w W) => formulaEnd_calls A n c f i W lo hi (h.below hW (.inr (Nat.le_refl _))) hs hn hi')
  replace hlen := hide hlen
  clear hs
  go_enter Tryz.func114, Tryz.ntmps114
  go_wp2
  go_loopg [5] (k + 1) (fun G s wr => ∃ (j : Nat), j ≤ k ∧ s = .int .i64 ((j : Int) - 1) ∧ Hid (bindF f k = lastP (bindP f k) 0 j) ∧ Below w.heap.size w wr ∧ j ≤ G)
  case atStart => exact ⟨k, Nat.le_refl _, by go_num, rfl, Below.refl _ _, by omega⟩
  case round =>
    obtain ⟨j, hj, rfl, hb, hbw, hG⟩ := hrel
    cases j with
    | zero =>
      have hv : Hid (optI (bindF f k) = -1) := by show _ = _; rw [hb.out]; rfl
      replace hbw := hide hbw
      clear hb h
      rw [show ((0 : Nat) : Int) - 1 = -1 from rfl]
      go_wp2
      go_ret
      exact ⟨ret_i hv.out, hbw.out⟩
    | succ m =>
      obtain ⟨G2, rfl⟩ : ∃ G2, gk = G2 + 1 := ⟨gk - 1, by omega⟩
      obtain ⟨b, off, x, y, s, z, rfl, -, -, g3, hx, c0, c1, c2, c3⟩ := SlN.get h (show m < n by omega)
      obtain ⟨b', off', x', y', s', z', e', -, -, -, hx', -, d1, -, -⟩ := SlN.get h hk
      cases e'
      have gz : b < wr.heap.size := Nat.lt_of_lt_of_le g3 hbw.size
      replace c0 := (hbw.cell (p := ⟨b, off + m * 4, none⟩) g3).trans c0
      replace c1 := (hbw.cell (p := ⟨b, off + m * 4 + 1, none⟩) g3).trans c1
      replace c2 := (hbw.cell (p := ⟨b, off + m * 4 + 2, none⟩) g3).trans c2
      replace c3 := (hbw.cell (p := ⟨b, off + m * 4 + 3, none⟩) g3).trans c3
      replace d1 := (hbw.cell (p := ⟨b, off + k * 4 + 1, none⟩) g3).trans d1
      have hp := bindP_eq f k m
      rw [qF_at hx, vF_at hx, vF_at hx'] at hp
      dsimp only at hp
      have hm1 : ((m + 1 : Nat) : Int) - 1 = (m : Int) := by omega
      rw [hm1]
      have hi0 : (0 : Int) ≤ (m : Int) := by omega
      have hi1 : (m : Int) < (n : Int) := by omega
      have hk0 : (0 : Int) ≤ (k : Int) := by omega
      have hk1 : (k : Int) < (n : Int) := by omega
      have qF1 := fun W => isFixed_calls x y s z W
      have qE1 := hide (fun W (hW : Below wr.heap.size wr W) => qE.out m (by omega) W (hbw.trans (hW.mono hbw.size)))
      have hrec : bindP f k m = false → Hid (bindF f k = lastP (bindP f k) 0 m) := fun hf => by
        show _ = _
        rw [hb.out]
        conv => lhs; unfold lastP
        rw [Nat.zero_add, hf]
        rfl
      have hhit : bindP f k m = true → Hid (optI (bindF f k) = (m : Int)) := fun hf => by
        show _ = _
        rw [hb.out]
        conv => lhs; unfold lastP
        rw [Nat.zero_add, hf]
        rfl
      generalize endF f m = E at *
      have hgz := hide gz
      replace hbw := hide hbw
      clear hx hx' h hb g3 gz
      go_upto_region 4 with fail
      go_cut [36] (fun a wx => a = .bool (bindP f k m) ∧ Below wr.heap.size wr wx)
      case first =>
        cases hf : isFx x with
        | false =>
          rw [hf] at qF1 hp
          replace qF1 := hide qF1
          have hpb : Hid (bindP f k m = false) := by show _ = _; rw [hp]; rfl
          clear hp hrec hhit
          -- SCRIPT A
          refine lateT_begin (S := fun w' => Below wr.heap.size wr w') (st := 24) (by kernel_rfl) ?_
          have hS0 := (Below.refl wr.heap.size wr).drew
          refine lateT_take (i := 0) (oi := _) (v := ?_) [2, 3, 4, 5, 18, 24] rfl (by kernel_rfl) (by kernel_rfl) (by kernel_rfl) (by kernel_rfl) (fun _ _ _ h => h) (Or.inl ⟨by kernel_rfl, ?hy⟩) hS0 ?_
          case hy => (intro w' hSw; (try dsimp only at hSw); go_simp <;> with_reducible rfl)
          (try simp only [Act.put, List.setIfInBounds_toArray, List.set_cons_zero, List.set_cons_succ])
          refine lateT_take (i := 1) (oi := _) (v := ?_) [2, 3, 4, 5, 18, 24] rfl (by kernel_rfl) (by kernel_rfl) (by kernel_rfl) (by kernel_rfl) (fun _ _ _ h => h) (Or.inl ⟨by kernel_rfl, ?hy⟩) hS0 ?_
          case hy => (intro w' hSw; (try dsimp only at hSw); go_simp <;> with_reducible rfl)
          (try simp only [Act.put, List.setIfInBounds_toArray, List.set_cons_zero, List.set_cons_succ])
          refine lateT_take (i := 2) (oi := _) (v := ?_) [3, 4, 5, 18, 24] rfl (by kernel_rfl) (by kernel_rfl) (by kernel_rfl) (by kernel_rfl) (fun _ _ _ h => h) (Or.inl ⟨by kernel_rfl, ?hy⟩) hS0 ?_
          case hy => (intro w' hSw; (try dsimp only at hSw); go_simp <;> with_reducible rfl)
          (try simp only [Act.put, List.setIfInBounds_toArray, List.set_cons_zero, List.set_cons_succ])
          refine lateT_take (i := 3) (oi := _) (v := ?_) [4, 5, 18, 24] rfl (by kernel_rfl) (by kernel_rfl) (by kernel_rfl) (by kernel_rfl) (fun _ _ _ h => h) (Or.inl ⟨by kernel_rfl, ?hy⟩) hS0 ?_
          case hy => (intro w' hSw; (try dsimp only at hSw); have f0 := (Below.cell hSw (p := ⟨b, off + m * 4, none⟩) hgz.out).trans c0; have f1 := (Below.cell hSw (p := ⟨b, off + m * 4 + 1, none⟩) hgz.out).trans c1; have f2 := (Below.cell hSw (p := ⟨b, off + m * 4 + 2, none⟩) hgz.out).trans c2; have f3 := (Below.cell hSw (p := ⟨b, off + m * 4 + 3, none⟩) hgz.out).trans c3; have f4 := (Below.cell hSw (p := ⟨b, off + k * 4 + 1, none⟩) hgz.out).trans d1; go_simp <;> with_reducible rfl)
          (try simp only [Act.put, List.setIfInBounds_toArray, List.set_cons_zero, List.set_cons_succ])
          refine lateT_step (i := 4) (by kernel_rfl) rfl (fun K hK => ?_)
          (go_simp; go_at_call 102; (with_reducible refine (qF1.out _).mono ?_); rintro e w1 ⟨rfl, hb1d⟩)
          have hS1 := (Below.refl wr.heap.size wr).drew.trans hb1d
          refine hK.out _ _ (fun _ => hS1) ?_
          clear hK K
          (try simp only [Act.put, List.setIfInBounds_toArray, List.set_cons_zero, List.set_cons_succ])
          refine lateT_take (i := 5) (oi := _) (v := ?_) [18, 24] rfl (by kernel_rfl) (by kernel_rfl) (by kernel_rfl) (by kernel_rfl) (fun _ _ _ h => h) (Or.inl ⟨by kernel_rfl, ?hy⟩) hS1 ?_
          case hy => (intro w' hSw; (try dsimp only at hSw); go_simp <;> with_reducible rfl)
          (try simp only [Act.put, List.setIfInBounds_toArray, List.set_cons_zero, List.set_cons_succ])
          refine lateT_take (i := 6) (oi := _) (v := undef) [8, 9, 10, 16, 17, 18, 24] rfl (by kernel_rfl) (by kernel_rfl) (by kernel_rfl) (by kernel_rfl) (fun _ _ _ h => h) (Or.inr ⟨by kernel_rfl, rfl⟩) hS1 ?_
          (try simp only [Act.put, List.setIfInBounds_toArray, List.set_cons_zero, List.set_cons_succ])
          refine lateT_take (i := 7) (oi := _) (v := undef) [8, 9, 10, 16, 17, 18, 24] rfl (by kernel_rfl) (by kernel_rfl) (by kernel_rfl) (by kernel_rfl) (fun _ _ _ h => h) (Or.inr ⟨by kernel_rfl, rfl⟩) hS1 ?_
          (try simp only [Act.put, List.setIfInBounds_toArray, List.set_cons_zero, List.set_cons_succ])
          refine lateT_take (i := 8) (oi := _) (v := undef) [9, 10, 16, 17, 18, 24] rfl (by kernel_rfl) (by kernel_rfl) (by kernel_rfl) (by kernel_rfl) (fun _ _ _ h => h) (Or.inr ⟨by kernel_rfl, rfl⟩) hS1 ?_
          (try simp only [Act.put, List.setIfInBounds_toArray, List.set_cons_zero, List.set_cons_succ])
          refine lateT_take (i := 9) (oi := _) (v := undef) [10, 16, 17, 18, 24] rfl (by kernel_rfl) (by kernel_rfl) (by kernel_rfl) (by kernel_rfl) (fun _ _ _ h => h) (Or.inr ⟨by kernel_rfl, rfl⟩) hS1 ?_
          (try simp only [Act.put, List.setIfInBounds_toArray, List.set_cons_zero, List.set_cons_succ])
          refine lateT_take (i := 10) (oi := _) (v := undef) [16, 17, 18, 24] rfl (by kernel_rfl) (by kernel_rfl) (by kernel_rfl) (by kernel_rfl) (fun _ _ _ h => h) (Or.inr ⟨by kernel_rfl, rfl⟩) hS1 ?_
          (try simp only [Act.put, List.setIfInBounds_toArray, List.set_cons_zero, List.set_cons_succ])
          refine lateT_take (i := 11) (oi := _) (v := undef) [13, 14, 15, 16, 17, 18, 24] rfl (by kernel_rfl) (by kernel_rfl) (by kernel_rfl) (by kernel_rfl) (fun _ _ _ h => h) (Or.inr ⟨by kernel_rfl, rfl⟩) hS1 ?_
          (try simp only [Act.put, List.setIfInBounds_toArray, List.set_cons_zero, List.set_cons_succ])
          refine lateT_take (i := 12) (oi := _) (v := undef) [13, 14, 15, 16, 17, 18, 24] rfl (by kernel_rfl) (by kernel_rfl) (by kernel_rfl) (by kernel_rfl) (fun _ _ _ h => h) (Or.inr ⟨by kernel_rfl, rfl⟩) hS1 ?_
          (try simp only [Act.put, List.setIfInBounds_toArray, List.set_cons_zero, List.set_cons_succ])
          refine lateT_take (i := 13) (oi := _) (v := undef) [14, 15, 16, 17, 18, 24] rfl (by kernel_rfl) (by kernel_rfl) (by kernel_rfl) (by kernel_rfl) (fun _ _ _ h => h) (Or.inr ⟨by kernel_rfl, rfl⟩) hS1 ?_
          (try simp only [Act.put, List.setIfInBounds_toArray, List.set_cons_zero, List.set_cons_succ])
          refine lateT_take (i := 14) (oi := _) (v := undef) [15, 16, 17, 18, 24] rfl (by kernel_rfl) (by kernel_rfl) (by kernel_rfl) (by kernel_rfl) (fun _ _ _ h => h) (Or.inr ⟨by kernel_rfl, rfl⟩) hS1 ?_
          (try simp only [Act.put, List.setIfInBounds_toArray, List.set_cons_zero, List.set_cons_succ])
          refine lateT_take (i := 15) (oi := _) (v := undef) [16, 17, 18, 24] rfl (by kernel_rfl) (by kernel_rfl) (by kernel_rfl) (by kernel_rfl) (fun _ _ _ h => h) (Or.inr ⟨by kernel_rfl, rfl⟩) hS1 ?_
          (try simp only [Act.put, List.setIfInBounds_toArray, List.set_cons_zero, List.set_cons_succ])
          refine lateT_take (i := 16) (oi := _) (v := undef) [17, 18, 24] rfl (by kernel_rfl) (by kernel_rfl) (by kernel_rfl) (by kernel_rfl) (fun _ _ _ h => h) (Or.inr ⟨by kernel_rfl, rfl⟩) hS1 ?_
          (try simp only [Act.put, List.setIfInBounds_toArray, List.set_cons_zero, List.set_cons_succ])
          refine lateT_take (i := 17) (oi := _) (v := ?_) [18, 24] rfl (by kernel_rfl) (by kernel_rfl) (by kernel_rfl) (by kernel_rfl) (fun _ _ _ h => h) (Or.inl ⟨by kernel_rfl, ?hy⟩) hS1 ?_
          case hy => (intro w' hSw; (try dsimp only at hSw); go_simp <;> with_reducible rfl)
          (try simp only [Act.put, List.setIfInBounds_toArray, List.set_cons_zero, List.set_cons_succ])
          refine lateT_take (i := 18) (oi := _) (v := ?_) [24] rfl (by kernel_rfl) (by kernel_rfl) (by kernel_rfl) (by kernel_rfl) (fun _ _ _ h => h) (Or.inl ⟨by kernel_rfl, ?hy⟩) hS1 ?_
          case hy => (intro w' hSw; (try dsimp only at hSw); go_simp <;> with_reducible rfl)
          (try simp only [Act.put, List.setIfInBounds_toArray, List.set_cons_zero, List.set_cons_succ])
          refine lateT_take (i := 19) (oi := _) (v := undef) [23, 24] rfl (by kernel_rfl) (by kernel_rfl) (by kernel_rfl) (by kernel_rfl) (fun _ _ _ h => h) (Or.inr ⟨by kernel_rfl, rfl⟩) hS1 ?_
          (try simp only [Act.put, List.setIfInBounds_toArray, List.set_cons_zero, List.set_cons_succ])
          refine lateT_take (i := 20) (oi := _) (v := undef) [22, 23, 24] rfl (by kernel_rfl) (by kernel_rfl) (by kernel_rfl) (by kernel_rfl) (fun _ _ _ h => h) (Or.inr ⟨by kernel_rfl, rfl⟩) hS1 ?_
          (try simp only [Act.put, List.setIfInBounds_toArray, List.set_cons_zero, List.set_cons_succ])
          refine lateT_take (i := 21) (oi := _) (v := undef) [22, 23, 24] rfl (by kernel_rfl) (by kernel_rfl) (by kernel_rfl) (by kernel_rfl) (fun _ _ _ h => h) (Or.inr ⟨by kernel_rfl, rfl⟩) hS1 ?_
          (try simp only [Act.put, List.setIfInBounds_toArray, List.set_cons_zero, List.set_cons_succ])
          refine lateT_take (i := 22) (oi := _) (v := undef) [23, 24] rfl (by kernel_rfl) (by kernel_rfl) (by kernel_rfl) (by kernel_rfl) (fun _ _ _ h => h) (Or.inr ⟨by kernel_rfl, rfl⟩) hS1 ?_
          (try simp only [Act.put, List.setIfInBounds_toArray, List.set_cons_zero, List.set_cons_succ])
          refine lateT_take (i := 23) (oi := _) (v := undef) [24] rfl (by kernel_rfl) (by kernel_rfl) (by kernel_rfl) (by kernel_rfl) (fun _ _ _ h => h) (Or.inr ⟨by kernel_rfl, rfl⟩) hS1 ?_
          (try simp only [Act.put, List.setIfInBounds_toArray, List.set_cons_zero, List.set_cons_succ])
          refine lateT_step (i := 24) (by kernel_rfl) rfl (fun K hK => ?_)
          go_simp
          refine hK.out _ _ (fun h => absurd rfl h) ?_
          clear hK K
          (try simp only [Act.put, List.setIfInBounds_toArray, List.set_cons_zero, List.set_cons_succ])
          refine lateT_done (by kernel_rfl) ?_ _
          -- END A
          all_goals (go_wp2_with fail; go_meet)
          all_goals exact ⟨congrArg Value.bool hpb.out.symm, hS1⟩
        | true =>
          rw [hf] at qF1 hp
          replace qF1 := hide qF1
          by_cases hvv : y = y'
          · have hvb : (y == y') = true := by simpa using hvv
            have hpb : Hid (bindP f k m = decide (k < E)) := by show _ = _; rw [hp, Bool.eq_iff_iff]; simp [hvv]
            clear hp hrec hhit hvv
            -- SCRIPT C
            refine lateT_begin (S := fun w' => Below wr.heap.size wr w') (st := 24) (by kernel_rfl) ?_
            have hS0 := (Below.refl wr.heap.size wr).drew
            refine lateT_take (i := 0) (oi := _) (v := ?_) [2, 3, 4, 5, 18, 24] rfl (by kernel_rfl) (by kernel_rfl) (by kernel_rfl) (by kernel_rfl) (fun _ _ _ h => h) (Or.inl ⟨by kernel_rfl, ?hy⟩) hS0 ?_
            case hy => (intro w' hSw; (try dsimp only at hSw); go_simp <;> with_reducible rfl)
            (try simp only [Act.put, List.setIfInBounds_toArray, List.set_cons_zero, List.set_cons_succ])
            refine lateT_take (i := 1) (oi := _) (v := ?_) [2, 3, 4, 5, 18, 24] rfl (by kernel_rfl) (by kernel_rfl) (by kernel_rfl) (by kernel_rfl) (fun _ _ _ h => h) (Or.inl ⟨by kernel_rfl, ?hy⟩) hS0 ?_
            case hy => (intro w' hSw; (try dsimp only at hSw); go_simp <;> with_reducible rfl)
            (try simp only [Act.put, List.setIfInBounds_toArray, List.set_cons_zero, List.set_cons_succ])
            refine lateT_take (i := 2) (oi := _) (v := ?_) [3, 4, 5, 18, 24] rfl (by kernel_rfl) (by kernel_rfl) (by kernel_rfl) (by kernel_rfl) (fun _ _ _ h => h) (Or.inl ⟨by kernel_rfl, ?hy⟩) hS0 ?_
            case hy => (intro w' hSw; (try dsimp only at hSw); go_simp <;> with_reducible rfl)
            (try simp only [Act.put, List.setIfInBounds_toArray, List.set_cons_zero, List.set_cons_succ])
            refine lateT_take (i := 3) (oi := _) (v := ?_) [4, 5, 18, 24] rfl (by kernel_rfl) (by kernel_rfl) (by kernel_rfl) (by kernel_rfl) (fun _ _ _ h => h) (Or.inl ⟨by kernel_rfl, ?hy⟩) hS0 ?_
            case hy => (intro w' hSw; (try dsimp only at hSw); have f0 := (Below.cell hSw (p := ⟨b, off + m * 4, none⟩) hgz.out).trans c0; have f1 := (Below.cell hSw (p := ⟨b, off + m * 4 + 1, none⟩) hgz.out).trans c1; have f2 := (Below.cell hSw (p := ⟨b, off + m * 4 + 2, none⟩) hgz.out).trans c2; have f3 := (Below.cell hSw (p := ⟨b, off + m * 4 + 3, none⟩) hgz.out).trans c3; have f4 := (Below.cell hSw (p := ⟨b, off + k * 4 + 1, none⟩) hgz.out).trans d1; go_simp <;> with_reducible rfl)
            (try simp only [Act.put, List.setIfInBounds_toArray, List.set_cons_zero, List.set_cons_succ])
            refine lateT_step (i := 4) (by kernel_rfl) rfl (fun K hK => ?_)
            (go_simp; go_at_call 102; (with_reducible refine (qF1.out _).mono ?_); rintro e w1 ⟨rfl, hb1d⟩)
            have hS1 := (Below.refl wr.heap.size wr).drew.trans hb1d
            refine hK.out _ _ (fun _ => hS1) ?_
            clear hK K
            (try simp only [Act.put, List.setIfInBounds_toArray, List.set_cons_zero, List.set_cons_succ])
            refine lateT_take (i := 5) (oi := _) (v := ?_) [18, 24] rfl (by kernel_rfl) (by kernel_rfl) (by kernel_rfl) (by kernel_rfl) (fun _ _ _ h => h) (Or.inl ⟨by kernel_rfl, ?hy⟩) hS1 ?_
            case hy => (intro w' hSw; (try dsimp only at hSw); go_simp <;> with_reducible rfl)
            (try simp only [Act.put, List.setIfInBounds_toArray, List.set_cons_zero, List.set_cons_succ])
            refine lateT_take (i := 6) (oi := _) (v := ?_) [8, 9, 10, 16, 17, 18, 24] rfl (by kernel_rfl) (by kernel_rfl) (by kernel_rfl) (by kernel_rfl) (fun _ _ _ h => h) (Or.inl ⟨by kernel_rfl, ?hy⟩) hS1 ?_
            case hy => (intro w' hSw; (try dsimp only at hSw); go_simp <;> with_reducible rfl)
            (try simp only [Act.put, List.setIfInBounds_toArray, List.set_cons_zero, List.set_cons_succ])
            refine lateT_take (i := 7) (oi := _) (v := ?_) [8, 9, 10, 16, 17, 18, 24] rfl (by kernel_rfl) (by kernel_rfl) (by kernel_rfl) (by kernel_rfl) (fun _ _ _ h => h) (Or.inl ⟨by kernel_rfl, ?hy⟩) hS1 ?_
            case hy => (intro w' hSw; (try dsimp only at hSw); go_simp <;> with_reducible rfl)
            (try simp only [Act.put, List.setIfInBounds_toArray, List.set_cons_zero, List.set_cons_succ])
            refine lateT_take (i := 8) (oi := _) (v := ?_) [9, 10, 16, 17, 18, 24] rfl (by kernel_rfl) (by kernel_rfl) (by kernel_rfl) (by kernel_rfl) (fun _ _ _ h => h) (Or.inl ⟨by kernel_rfl, ?hy⟩) hS1 ?_
            case hy => (intro w' hSw; (try dsimp only at hSw); go_simp <;> with_reducible rfl)
            (try simp only [Act.put, List.setIfInBounds_toArray, List.set_cons_zero, List.set_cons_succ])
            refine lateT_take (i := 9) (oi := _) (v := ?_) [10, 16, 17, 18, 24] rfl (by kernel_rfl) (by kernel_rfl) (by kernel_rfl) (by kernel_rfl) (fun _ _ _ h => h) (Or.inl ⟨by kernel_rfl, ?hy⟩) hS1 ?_
            case hy => (intro w' hSw; (try dsimp only at hSw); go_simp <;> with_reducible rfl)
            (try simp only [Act.put, List.setIfInBounds_toArray, List.set_cons_zero, List.set_cons_succ])
            refine lateT_take (i := 10) (oi := _) (v := ?_) [16, 17, 18, 24] rfl (by kernel_rfl) (by kernel_rfl) (by kernel_rfl) (by kernel_rfl) (fun _ _ _ h => h) (Or.inl ⟨by kernel_rfl, ?hy⟩) hS1 ?_
            case hy => (intro w' hSw; (try dsimp only at hSw); have f0 := (Below.cell hSw (p := ⟨b, off + m * 4, none⟩) hgz.out).trans c0; have f1 := (Below.cell hSw (p := ⟨b, off + m * 4 + 1, none⟩) hgz.out).trans c1; have f2 := (Below.cell hSw (p := ⟨b, off + m * 4 + 2, none⟩) hgz.out).trans c2; have f3 := (Below.cell hSw (p := ⟨b, off + m * 4 + 3, none⟩) hgz.out).trans c3; have f4 := (Below.cell hSw (p := ⟨b, off + k * 4 + 1, none⟩) hgz.out).trans d1; go_simp <;> with_reducible rfl)
            (try simp only [Act.put, List.setIfInBounds_toArray, List.set_cons_zero, List.set_cons_succ])
            refine lateT_take (i := 11) (oi := _) (v := ?_) [13, 14, 15, 16, 17, 18, 24] rfl (by kernel_rfl) (by kernel_rfl) (by kernel_rfl) (by kernel_rfl) (fun _ _ _ h => h) (Or.inl ⟨by kernel_rfl, ?hy⟩) hS1 ?_
            case hy => (intro w' hSw; (try dsimp only at hSw); go_simp <;> with_reducible rfl)
            (try simp only [Act.put, List.setIfInBounds_toArray, List.set_cons_zero, List.set_cons_succ])
            refine lateT_take (i := 12) (oi := _) (v := ?_) [13, 14, 15, 16, 17, 18, 24] rfl (by kernel_rfl) (by kernel_rfl) (by kernel_rfl) (by kernel_rfl) (fun _ _ _ h => h) (Or.inl ⟨by kernel_rfl, ?hy⟩) hS1 ?_
            case hy => (intro w' hSw; (try dsimp only at hSw); go_simp <;> with_reducible rfl)
            (try simp only [Act.put, List.setIfInBounds_toArray, List.set_cons_zero, List.set_cons_succ])
            refine lateT_take (i := 13) (oi := _) (v := ?_) [14, 15, 16, 17, 18, 24] rfl (by kernel_rfl) (by kernel_rfl) (by kernel_rfl) (by kernel_rfl) (fun _ _ _ h => h) (Or.inl ⟨by kernel_rfl, ?hy⟩) hS1 ?_
            case hy => (intro w' hSw; (try dsimp only at hSw); go_simp <;> with_reducible rfl)
            (try simp only [Act.put, List.setIfInBounds_toArray, List.set_cons_zero, List.set_cons_succ])
            refine lateT_take (i := 14) (oi := _) (v := ?_) [15, 16, 17, 18, 24] rfl (by kernel_rfl) (by kernel_rfl) (by kernel_rfl) (by kernel_rfl) (fun _ _ _ h => h) (Or.inl ⟨by kernel_rfl, ?hy⟩) hS1 ?_
            case hy => (intro w' hSw; (try dsimp only at hSw); go_simp <;> with_reducible rfl)
            (try simp only [Act.put, List.setIfInBounds_toArray, List.set_cons_zero, List.set_cons_succ])
            refine lateT_take (i := 15) (oi := _) (v := ?_) [16, 17, 18, 24] rfl (by kernel_rfl) (by kernel_rfl) (by kernel_rfl) (by kernel_rfl) (fun _ _ _ h => h) (Or.inl ⟨by kernel_rfl, ?hy⟩) hS1 ?_
            case hy => (intro w' hSw; (try dsimp only at hSw); have f0 := (Below.cell hSw (p := ⟨b, off + m * 4, none⟩) hgz.out).trans c0; have f1 := (Below.cell hSw (p := ⟨b, off + m * 4 + 1, none⟩) hgz.out).trans c1; have f2 := (Below.cell hSw (p := ⟨b, off + m * 4 + 2, none⟩) hgz.out).trans c2; have f3 := (Below.cell hSw (p := ⟨b, off + m * 4 + 3, none⟩) hgz.out).trans c3; have f4 := (Below.cell hSw (p := ⟨b, off + k * 4 + 1, none⟩) hgz.out).trans d1; go_simp <;> with_reducible rfl)
            (try simp only [Act.put, List.setIfInBounds_toArray, List.set_cons_zero, List.set_cons_succ])
            refine lateT_take (i := 16) (oi := _) (v := ?_) [17, 18, 24] rfl (by kernel_rfl) (by kernel_rfl) (by kernel_rfl) (by kernel_rfl) (fun _ _ _ h => h) (Or.inl ⟨by kernel_rfl, ?hy⟩) hS1 ?_
            case hy => (intro w' hSw; (try dsimp only at hSw); go_simp <;> with_reducible rfl)
            (try simp only [Act.put, List.setIfInBounds_toArray, List.set_cons_zero, List.set_cons_succ])
            refine lateT_take (i := 17) (oi := _) (v := ?_) [18, 24] rfl (by kernel_rfl) (by kernel_rfl) (by kernel_rfl) (by kernel_rfl) (fun _ _ _ h => h) (Or.inl ⟨by kernel_rfl, ?hy⟩) hS1 ?_
            case hy => (intro w' hSw; (try dsimp only at hSw); go_simp <;> with_reducible rfl)
            (try simp only [Act.put, List.setIfInBounds_toArray, List.set_cons_zero, List.set_cons_succ])
            refine lateT_take (i := 18) (oi := _) (v := ?_) [24] rfl (by kernel_rfl) (by kernel_rfl) (by kernel_rfl) (by kernel_rfl) (fun _ _ _ h => h) (Or.inl ⟨by kernel_rfl, ?hy⟩) hS1 ?_
            case hy => (intro w' hSw; (try dsimp only at hSw); go_simp <;> with_reducible rfl)
            (try simp only [Act.put, List.setIfInBounds_toArray, List.set_cons_zero, List.set_cons_succ])
            refine lateT_take (i := 19) (oi := _) (v := ?_) [23, 24] rfl (by kernel_rfl) (by kernel_rfl) (by kernel_rfl) (by kernel_rfl) (fun _ _ _ h => h) (Or.inl ⟨by kernel_rfl, ?hy⟩) hS1 ?_
            case hy => (intro w' hSw; (try dsimp only at hSw); go_simp <;> with_reducible rfl)
            (try simp only [Act.put, List.setIfInBounds_toArray, List.set_cons_zero, List.set_cons_succ])
            refine lateT_take (i := 20) (oi := _) (v := ?_) [22, 23, 24] rfl (by kernel_rfl) (by kernel_rfl) (by kernel_rfl) (by kernel_rfl) (fun _ _ _ h => h) (Or.inl ⟨by kernel_rfl, ?hy⟩) hS1 ?_
            case hy => (intro w' hSw; (try dsimp only at hSw); go_simp <;> with_reducible rfl)
            (try simp only [Act.put, List.setIfInBounds_toArray, List.set_cons_zero, List.set_cons_succ])
            refine lateT_take (i := 21) (oi := _) (v := ?_) [22, 23, 24] rfl (by kernel_rfl) (by kernel_rfl) (by kernel_rfl) (by kernel_rfl) (fun _ _ _ h => h) (Or.inl ⟨by kernel_rfl, ?hy⟩) hS1 ?_
            case hy => (intro w' hSw; (try dsimp only at hSw); go_simp <;> with_reducible rfl)
            (try simp only [Act.put, List.setIfInBounds_toArray, List.set_cons_zero, List.set_cons_succ])
            refine lateT_step (i := 22) (by kernel_rfl) rfl (fun K hK => ?_)
            (go_simp; go_at_call 141; (with_reducible refine (qE1.out w1 hS1).mono ?_); rintro e w2 ⟨rfl, hb2⟩)
            have hS2 := hS1.trans (hb2.mono hS1.size)
            refine hK.out _ _ (fun _ => hS2) ?_
            clear hK K
            (try simp only [Act.put, List.setIfInBounds_toArray, List.set_cons_zero, List.set_cons_succ])
            refine lateT_take (i := 23) (oi := _) (v := ?_) [24] rfl (by kernel_rfl) (by kernel_rfl) (by kernel_rfl) (by kernel_rfl) (fun _ _ _ h => h) (Or.inl ⟨by kernel_rfl, ?hy⟩) hS2 ?_
            case hy => (intro w' hSw; (try dsimp only at hSw); go_simp <;> with_reducible rfl)
            (try simp only [Act.put, List.setIfInBounds_toArray, List.set_cons_zero, List.set_cons_succ])
            refine lateT_step (i := 24) (by kernel_rfl) rfl (fun K hK => ?_)
            go_simp
            refine hK.out _ _ (fun h => absurd rfl h) ?_
            clear hK K
            (try simp only [Act.put, List.setIfInBounds_toArray, List.set_cons_zero, List.set_cons_succ])
            refine lateT_done (by kernel_rfl) ?_ _
            -- END C
            all_goals (go_wp2_with fail; go_meet)
            all_goals exact ⟨congrArg Value.bool hpb.out.symm, hS2⟩
          · have hvb : (y == y') = false := by simpa using hvv
            have hpb : Hid (bindP f k m = false) := by show _ = _; rw [hp]; simp [hvv]
            clear hp hrec hhit hvv
            -- SCRIPT B
            refine lateT_begin (S := fun w' => Below wr.heap.size wr w') (st := 24) (by kernel_rfl) ?_
            have hS0 := (Below.refl wr.heap.size wr).drew
            refine lateT_take (i := 0) (oi := _) (v := ?_) [2, 3, 4, 5, 18, 24] rfl (by kernel_rfl) (by kernel_rfl) (by kernel_rfl) (by kernel_rfl) (fun _ _ _ h => h) (Or.inl ⟨by kernel_rfl, ?hy⟩) hS0 ?_
            case hy => (intro w' hSw; (try dsimp only at hSw); go_simp <;> with_reducible rfl)
            (try simp only [Act.put, List.setIfInBounds_toArray, List.set_cons_zero, List.set_cons_succ])
            refine lateT_take (i := 1) (oi := _) (v := ?_) [2, 3, 4, 5, 18, 24] rfl (by kernel_rfl) (by kernel_rfl) (by kernel_rfl) (by kernel_rfl) (fun _ _ _ h => h) (Or.inl ⟨by kernel_rfl, ?hy⟩) hS0 ?_
            case hy => (intro w' hSw; (try dsimp only at hSw); go_simp <;> with_reducible rfl)
            (try simp only [Act.put, List.setIfInBounds_toArray, List.set_cons_zero, List.set_cons_succ])
            refine lateT_take (i := 2) (oi := _) (v := ?_) [3, 4, 5, 18, 24] rfl (by kernel_rfl) (by kernel_rfl) (by kernel_rfl) (by kernel_rfl) (fun _ _ _ h => h) (Or.inl ⟨by kernel_rfl, ?hy⟩) hS0 ?_
            case hy => (intro w' hSw; (try dsimp only at hSw); go_simp <;> with_reducible rfl)
            (try simp only [Act.put, List.setIfInBounds_toArray, List.set_cons_zero, List.set_cons_succ])
            refine lateT_take (i := 3) (oi := _) (v := ?_) [4, 5, 18, 24] rfl (by kernel_rfl) (by kernel_rfl) (by kernel_rfl) (by kernel_rfl) (fun _ _ _ h => h) (Or.inl ⟨by kernel_rfl, ?hy⟩) hS0 ?_
            case hy => (intro w' hSw; (try dsimp only at hSw); have f0 := (Below.cell hSw (p := ⟨b, off + m * 4, none⟩) hgz.out).trans c0; have f1 := (Below.cell hSw (p := ⟨b, off + m * 4 + 1, none⟩) hgz.out).trans c1; have f2 := (Below.cell hSw (p := ⟨b, off + m * 4 + 2, none⟩) hgz.out).trans c2; have f3 := (Below.cell hSw (p := ⟨b, off + m * 4 + 3, none⟩) hgz.out).trans c3; have f4 := (Below.cell hSw (p := ⟨b, off + k * 4 + 1, none⟩) hgz.out).trans d1; go_simp <;> with_reducible rfl)
            (try simp only [Act.put, List.setIfInBounds_toArray, List.set_cons_zero, List.set_cons_succ])
            refine lateT_step (i := 4) (by kernel_rfl) rfl (fun K hK => ?_)
            (go_simp; go_at_call 102; (with_reducible refine (qF1.out _).mono ?_); rintro e w1 ⟨rfl, hb1d⟩)
            have hS1 := (Below.refl wr.heap.size wr).drew.trans hb1d
            refine hK.out _ _ (fun _ => hS1) ?_
            clear hK K
            (try simp only [Act.put, List.setIfInBounds_toArray, List.set_cons_zero, List.set_cons_succ])
            refine lateT_take (i := 5) (oi := _) (v := ?_) [18, 24] rfl (by kernel_rfl) (by kernel_rfl) (by kernel_rfl) (by kernel_rfl) (fun _ _ _ h => h) (Or.inl ⟨by kernel_rfl, ?hy⟩) hS1 ?_
            case hy => (intro w' hSw; (try dsimp only at hSw); go_simp <;> with_reducible rfl)
            (try simp only [Act.put, List.setIfInBounds_toArray, List.set_cons_zero, List.set_cons_succ])
            refine lateT_take (i := 6) (oi := _) (v := ?_) [8, 9, 10, 16, 17, 18, 24] rfl (by kernel_rfl) (by kernel_rfl) (by kernel_rfl) (by kernel_rfl) (fun _ _ _ h => h) (Or.inl ⟨by kernel_rfl, ?hy⟩) hS1 ?_
            case hy => (intro w' hSw; (try dsimp only at hSw); go_simp <;> with_reducible rfl)
            (try simp only [Act.put, List.setIfInBounds_toArray, List.set_cons_zero, List.set_cons_succ])
            refine lateT_take (i := 7) (oi := _) (v := ?_) [8, 9, 10, 16, 17, 18, 24] rfl (by kernel_rfl) (by kernel_rfl) (by kernel_rfl) (by kernel_rfl) (fun _ _ _ h => h) (Or.inl ⟨by kernel_rfl, ?hy⟩) hS1 ?_
            case hy => (intro w' hSw; (try dsimp only at hSw); go_simp <;> with_reducible rfl)
            (try simp only [Act.put, List.setIfInBounds_toArray, List.set_cons_zero, List.set_cons_succ])
            refine lateT_take (i := 8) (oi := _) (v := ?_) [9, 10, 16, 17, 18, 24] rfl (by kernel_rfl) (by kernel_rfl) (by kernel_rfl) (by kernel_rfl) (fun _ _ _ h => h) (Or.inl ⟨by kernel_rfl, ?hy⟩) hS1 ?_
            case hy => (intro w' hSw; (try dsimp only at hSw); go_simp <;> with_reducible rfl)
            (try simp only [Act.put, List.setIfInBounds_toArray, List.set_cons_zero, List.set_cons_succ])
            refine lateT_take (i := 9) (oi := _) (v := ?_) [10, 16, 17, 18, 24] rfl (by kernel_rfl) (by kernel_rfl) (by kernel_rfl) (by kernel_rfl) (fun _ _ _ h => h) (Or.inl ⟨by kernel_rfl, ?hy⟩) hS1 ?_
            case hy => (intro w' hSw; (try dsimp only at hSw); go_simp <;> with_reducible rfl)
            (try simp only [Act.put, List.setIfInBounds_toArray, List.set_cons_zero, List.set_cons_succ])
            refine lateT_take (i := 10) (oi := _) (v := ?_) [16, 17, 18, 24] rfl (by kernel_rfl) (by kernel_rfl) (by kernel_rfl) (by kernel_rfl) (fun _ _ _ h => h) (Or.inl ⟨by kernel_rfl, ?hy⟩) hS1 ?_
            case hy => (intro w' hSw; (try dsimp only at hSw); have f0 := (Below.cell hSw (p := ⟨b, off + m * 4, none⟩) hgz.out).trans c0; have f1 := (Below.cell hSw (p := ⟨b, off + m * 4 + 1, none⟩) hgz.out).trans c1; have f2 := (Below.cell hSw (p := ⟨b, off + m * 4 + 2, none⟩) hgz.out).trans c2; have f3 := (Below.cell hSw (p := ⟨b, off + m * 4 + 3, none⟩) hgz.out).trans c3; have f4 := (Below.cell hSw (p := ⟨b, off + k * 4 + 1, none⟩) hgz.out).trans d1; go_simp <;> with_reducible rfl)
            (try simp only [Act.put, List.setIfInBounds_toArray, List.set_cons_zero, List.set_cons_succ])
            refine lateT_take (i := 11) (oi := _) (v := ?_) [13, 14, 15, 16, 17, 18, 24] rfl (by kernel_rfl) (by kernel_rfl) (by kernel_rfl) (by kernel_rfl) (fun _ _ _ h => h) (Or.inl ⟨by kernel_rfl, ?hy⟩) hS1 ?_
            case hy => (intro w' hSw; (try dsimp only at hSw); go_simp <;> with_reducible rfl)
            (try simp only [Act.put, List.setIfInBounds_toArray, List.set_cons_zero, List.set_cons_succ])
            refine lateT_take (i := 12) (oi := _) (v := ?_) [13, 14, 15, 16, 17, 18, 24] rfl (by kernel_rfl) (by kernel_rfl) (by kernel_rfl) (by kernel_rfl) (fun _ _ _ h => h) (Or.inl ⟨by kernel_rfl, ?hy⟩) hS1 ?_
            case hy => (intro w' hSw; (try dsimp only at hSw); go_simp <;> with_reducible rfl)
            (try simp only [Act.put, List.setIfInBounds_toArray, List.set_cons_zero, List.set_cons_succ])
            refine lateT_take (i := 13) (oi := _) (v := ?_) [14, 15, 16, 17, 18, 24] rfl (by kernel_rfl) (by kernel_rfl) (by kernel_rfl) (by kernel_rfl) (fun _ _ _ h => h) (Or.inl ⟨by kernel_rfl, ?hy⟩) hS1 ?_
            case hy => (intro w' hSw; (try dsimp only at hSw); go_simp <;> with_reducible rfl)
            (try simp only [Act.put, List.setIfInBounds_toArray, List.set_cons_zero, List.set_cons_succ])
            refine lateT_take (i := 14) (oi := _) (v := ?_) [15, 16, 17, 18, 24] rfl (by kernel_rfl) (by kernel_rfl) (by kernel_rfl) (by kernel_rfl) (fun _ _ _ h => h) (Or.inl ⟨by kernel_rfl, ?hy⟩) hS1 ?_
            case hy => (intro w' hSw; (try dsimp only at hSw); go_simp <;> with_reducible rfl)
            (try simp only [Act.put, List.setIfInBounds_toArray, List.set_cons_zero, List.set_cons_succ])
            refine lateT_take (i := 15) (oi := _) (v := ?_) [16, 17, 18, 24] rfl (by kernel_rfl) (by kernel_rfl) (by kernel_rfl) (by kernel_rfl) (fun _ _ _ h => h) (Or.inl ⟨by kernel_rfl, ?hy⟩) hS1 ?_
            case hy => (intro w' hSw; (try dsimp only at hSw); have f0 := (Below.cell hSw (p := ⟨b, off + m * 4, none⟩) hgz.out).trans c0; have f1 := (Below.cell hSw (p := ⟨b, off + m * 4 + 1, none⟩) hgz.out).trans c1; have f2 := (Below.cell hSw (p := ⟨b, off + m * 4 + 2, none⟩) hgz.out).trans c2; have f3 := (Below.cell hSw (p := ⟨b, off + m * 4 + 3, none⟩) hgz.out).trans c3; have f4 := (Below.cell hSw (p := ⟨b, off + k * 4 + 1, none⟩) hgz.out).trans d1; go_simp <;> with_reducible rfl)
            (try simp only [Act.put, List.setIfInBounds_toArray, List.set_cons_zero, List.set_cons_succ])
            refine lateT_take (i := 16) (oi := _) (v := ?_) [17, 18, 24] rfl (by kernel_rfl) (by kernel_rfl) (by kernel_rfl) (by kernel_rfl) (fun _ _ _ h => h) (Or.inl ⟨by kernel_rfl, ?hy⟩) hS1 ?_
            case hy => (intro w' hSw; (try dsimp only at hSw); go_simp <;> with_reducible rfl)
            (try simp only [Act.put, List.setIfInBounds_toArray, List.set_cons_zero, List.set_cons_succ])
            refine lateT_take (i := 17) (oi := _) (v := ?_) [18, 24] rfl (by kernel_rfl) (by kernel_rfl) (by kernel_rfl) (by kernel_rfl) (fun _ _ _ h => h) (Or.inl ⟨by kernel_rfl, ?hy⟩) hS1 ?_
            case hy => (intro w' hSw; (try dsimp only at hSw); go_simp <;> with_reducible rfl)
            (try simp only [Act.put, List.setIfInBounds_toArray, List.set_cons_zero, List.set_cons_succ])
            refine lateT_take (i := 18) (oi := _) (v := ?_) [24] rfl (by kernel_rfl) (by kernel_rfl) (by kernel_rfl) (by kernel_rfl) (fun _ _ _ h => h) (Or.inl ⟨by kernel_rfl, ?hy⟩) hS1 ?_
            case hy => (intro w' hSw; (try dsimp only at hSw); go_simp <;> with_reducible rfl)
            (try simp only [Act.put, List.setIfInBounds_toArray, List.set_cons_zero, List.set_cons_succ])
            refine lateT_take (i := 19) (oi := _) (v := undef) [23, 24] rfl (by kernel_rfl) (by kernel_rfl) (by kernel_rfl) (by kernel_rfl) (fun _ _ _ h => h) (Or.inr ⟨by kernel_rfl, rfl⟩) hS1 ?_
            (try simp only [Act.put, List.setIfInBounds_toArray, List.set_cons_zero, List.set_cons_succ])
            refine lateT_take (i := 20) (oi := _) (v := undef) [22, 23, 24] rfl (by kernel_rfl) (by kernel_rfl) (by kernel_rfl) (by kernel_rfl) (fun _ _ _ h => h) (Or.inr ⟨by kernel_rfl, rfl⟩) hS1 ?_
            (try simp only [Act.put, List.setIfInBounds_toArray, List.set_cons_zero, List.set_cons_succ])
            refine lateT_take (i := 21) (oi := _) (v := undef) [22, 23, 24] rfl (by kernel_rfl) (by kernel_rfl) (by kernel_rfl) (by kernel_rfl) (fun _ _ _ h => h) (Or.inr ⟨by kernel_rfl, rfl⟩) hS1 ?_
            (try simp only [Act.put, List.setIfInBounds_toArray, List.set_cons_zero, List.set_cons_succ])
            refine lateT_take (i := 22) (oi := _) (v := undef) [23, 24] rfl (by kernel_rfl) (by kernel_rfl) (by kernel_rfl) (by kernel_rfl) (fun _ _ _ h => h) (Or.inr ⟨by kernel_rfl, rfl⟩) hS1 ?_
            (try simp only [Act.put, List.setIfInBounds_toArray, List.set_cons_zero, List.set_cons_succ])
            refine lateT_take (i := 23) (oi := _) (v := undef) [24] rfl (by kernel_rfl) (by kernel_rfl) (by kernel_rfl) (by kernel_rfl) (fun _ _ _ h => h) (Or.inr ⟨by kernel_rfl, rfl⟩) hS1 ?_
            (try simp only [Act.put, List.setIfInBounds_toArray, List.set_cons_zero, List.set_cons_succ])
            refine lateT_step (i := 24) (by kernel_rfl) rfl (fun K hK => ?_)
            go_simp
            refine hK.out _ _ (fun h => absurd rfl h) ?_
            clear hK K
            (try simp only [Act.put, List.setIfInBounds_toArray, List.set_cons_zero, List.set_cons_succ])
            refine lateT_done (by kernel_rfl) ?_ _
            -- END B
            all_goals (go_wp2_with fail; go_meet)
            all_goals exact ⟨congrArg Value.bool hpb.out.symm, hS1⟩
      case rest =>
        obtain ⟨rfl, hbc⟩ := hcut
        have hb5 := hide (hbw.out.trans (hbc.mono hbw.out.size))
        clear hp qF1 qE1 c0 c1 c2 c3 d1
        cases hpp : bindP f k m with
        | true =>
          have hh := hhit hpp
          clear hrec hhit hpp
          go_wp2
          go_ret
          exact ⟨ret_i hh.out, hb5.out⟩
        | false =>
          have hh := hrec hpp
          clear hrec hhit hpp
          go_wp2
          go_roundg G2
          case measure => omega
          case rel => exact ⟨m, by omega, by go_num, hh, hb5.out, by omega⟩

end Go.Proofs.YtanlgnjgpbjebaaGreatDoor

namespace Go.Proofs.YtanlgnjgpbjebaaGreatDoor
open Go.ChangeShapes Go.WideShapes Go.ChangeAt Go.RowKit
set_option linter.unusedVariables false
set_option linter.unusedSimpArgs false

set_option maxRecDepth 100000 in
theorem nesting_calls (A : Option Addr) (n c : Nat) (f : DN) (k : Nat) (w : World) (lo hi : Nat) (h : SlN w lo hi A n f) (hs : ShapeF f) (hn : n ≤ 30) (hk : k < n) :
    Calls Tryz.prog 128 #[.slice A n c, .int .i64 (k : Nat)] w fun e w' => e = .returned (.int .i64 (nestF f k : Nat)) ∧ Below w.heap.size w w' := by
  have hlen := h.len
  have qE := hide (fun (i : Nat) (hi' : i < n) W (hW : Below w.heap.size w W) => formulaEnd_calls A n c f i W lo hi (h.below hW (.inr (Nat.le_refl _))) hs hn hi')
  have hdef : Hid (nestF f k = cntP (fixP f k) 0 k) := rfl
  replace hlen := hide hlen
  clear hs
  go_enter Tryz.func128, Tryz.ntmps128
  go_wp2
  go_loopw [5, 8] (fun s i wr => ∃ (j q : Nat), j ≤ k ∧ i = .int .i64 (j : Nat) ∧ s = .int .i64 (q : Nat) ∧ q ≤ j ∧ Hid (q = cntP (fixP f k) 0 j) ∧ Below w.heap.size w wr) (fun _ i _ => k - (intOf i).toNat)
  case atStart => exact ⟨0, 0, Nat.zero_le _, rfl, rfl, Nat.le_refl _, rfl, Below.refl _ _⟩
  case round =>
    obtain ⟨j, q, hj, rfl, rfl, hqj, hq, hb⟩ := hrel
    by_cases hlt : j < k
    · obtain ⟨b, off, x, y, s, z, rfl, -, -, g3, hx, c0, c1, c2, c3⟩ := SlN.get h (show j < n by omega)
      replace c0 := (hb.cell (p := ⟨b, off + j * 4, none⟩) g3).trans c0
      replace c1 := (hb.cell (p := ⟨b, off + j * 4 + 1, none⟩) g3).trans c1
      replace c2 := (hb.cell (p := ⟨b, off + j * 4 + 2, none⟩) g3).trans c2
      replace c3 := (hb.cell (p := ⟨b, off + j * 4 + 3, none⟩) g3).trans c3
      have hp := fixP_eq f k j
      rw [qF_at hx] at hp
      dsimp only at hp
      have hj0 : (0 : Int) ≤ (j : Int) := by omega
      have hj1 : (j : Int) < (n : Int) := by omega
      have qF1 := fun W => isFixed_calls x y s z W
      have qE1 := hide (fun W (hW : Below wr.heap.size wr W) => qE.out j (by omega) W (hb.trans (hW.mono hb.size)))
      have hstep : Hid (cntP (fixP f k) 0 (j + 1) = q + if fixP f k j then 1 else 0) := by
        show _ = _
        rw [hq.out]
        conv => lhs; unfold cntP
        rw [Nat.zero_add]
      generalize endF f j = E at *
      replace hb := hide hb
      clear hx h g3 hq
      cases hf : isFx x with
      | false =>
        rw [hf] at qF1 hp
        replace qF1 := hide qF1
        have hnext : Hid (q = cntP (fixP f k) 0 (j + 1)) := by show _ = _; rw [hstep.out, hp]; rfl
        clear hp hstep hf
        go_wp2_with (first | (go_at_call 102; (with_reducible refine (qF1.out _).mono ?_); rintro e w1 ⟨rfl, hb1⟩) | (go_at_call 141; (with_reducible refine (qE1.out _ hb1).mono ?_); rintro e w2 ⟨rfl, hb2⟩))
        go_roundw
        case rel => exact ⟨j + 1, q, by omega, by go_num, rfl, by omega, hnext, hb.out.trans (hb1.mono hb.out.size)⟩
        case measure => simp [intOf]; omega
      | true =>
        rw [hf] at qF1 hp
        replace qF1 := hide qF1
        by_cases hE : k < E
        · have hE2 : (k : Int) < (E : Int) := by omega
          have hnext : Hid (q + 1 = cntP (fixP f k) 0 (j + 1)) := by show _ = _; rw [hstep.out, hp]; simp [hE]
          clear hp hstep hf hE
          go_wp2_with (first | (go_at_call 102; (with_reducible refine (qF1.out _).mono ?_); rintro e w1 ⟨rfl, hb1⟩) | (go_at_call 141; (with_reducible refine (qE1.out _ hb1).mono ?_); rintro e w2 ⟨rfl, hb2⟩))
          go_roundw
          case rel => exact ⟨j + 1, q + 1, by omega, by go_num, by go_num, by omega, hnext, hb.out.trans ((hb1.trans (hb2.mono hb1.size)).mono hb.out.size)⟩
          case measure => simp [intOf]; omega
        · have hE2 : ¬ (k : Int) < (E : Int) := by omega
          have hnext : Hid (q = cntP (fixP f k) 0 (j + 1)) := by show _ = _; rw [hstep.out, hp]; simp [hE]
          clear hp hstep hf hE
          go_wp2_with (first | (go_at_call 102; (with_reducible refine (qF1.out _).mono ?_); rintro e w1 ⟨rfl, hb1⟩) | (go_at_call 141; (with_reducible refine (qE1.out _ hb1).mono ?_); rintro e w2 ⟨rfl, hb2⟩))
          go_roundw
          case rel => exact ⟨j + 1, q, by omega, by go_num, by go_num, by omega, hnext, hb.out.trans ((hb1.trans (hb2.mono hb1.size)).mono hb.out.size)⟩
          case measure => simp [intOf]; omega
    · have hjk : j = k := by omega
      subst hjk
      have hv : Hid (((nestF f j : Nat) : Int) = (q : Int)) := by show _ = _; rw [hdef.out, hq.out]
      clear h hq
      replace hb := hide hb
      go_wp2
      go_ret
      exact ⟨ret_i hv.out, hb.out⟩

end Go.Proofs.YtanlgnjgpbjebaaGreatDoor
