/-
  Several texts in one:
  The reference's evaluation of one fixed point. Conditions: the parts within are evaluated rightly.
  The reference's evaluation of a part of a formula. Conditions: a valid formula, a valid system.
  The reference's evaluation of a modality and of a fixed point's node. Conditions: the part within is evaluated rightly.
  The reference's evaluation of a fixed point's node and of a node with two operands, and of each part. Conditions: a valid formula, a valid system.
  How the reference's evaluation begins. Conditions: a valid formula, a valid system.
  A region that draws its order and ends in a store to a cell that it loads: reads are taken first, what is known of the world need not hold behind the last store. Conditions: none.
  How the reference's evaluation begins (2). Conditions: a valid formula, a valid system.
  Which formulas are valid: by the reference. Conditions: none.
-/
import Derived.Test.YtanlgnjgpbjebaaGreatDoorBaseH
import Derived.RegionTactic
import Derived.ChangeAlike
import Derived.StillTail
import Derived.OrdersHeld
import Derived.Deep.RegionHeld3
namespace Go.Proofs.YtanlgnjgpbjebaaGreatDoor
open Go.ChangeShapes Go.WideShapes Go.ChangeAt Go.RowKit
set_option linter.unusedVariables false
set_option linter.unusedSimpArgs false

section
variable {w0 : World} {P : Nat → Prop} {br bE bS bC cE : Nat} {Af : Option Addr} {cf : Nat} {f : DN} {bt N : Nat} {x : CL} {ini : Int} {ls : List ByteArray} {es : List Ed}
theorem alloc_cell {w : World} {o : Obj} {a : Addr} {v : Value} (h : w.cell? a = some v) : (w.alloc o).cell? a = some v := (World.cell?_alloc_some w a o (by rw [h]; rfl)).trans h
/-- Behind a fixed point's loop. -/
structure LoopW (w0 w wx : World) (P : Nat → Prop) (br bE bS bC cE : Nat) (Af : Option Addr) (cf : Nat) (f : DN) (bt N : Nat) (ini : Int) (ls : List ByteArray) (es : List Ed) (ρ : EnvS) (sv cl : Tab) (a : Tr) (k : Nat) (sv' cl' : Tab) : Prop where
  run : RunAt wx P br bE bS bC cE Af cf f bt N ρ sv' cl'
  loop : LoopR (sysF f ((N : Int), ini, ls, es)) sv cl sv' cl' a k ρ
  but : But (RunT bE bS bC) w wx
theorem RunAt.drewN {w : World} {ρ : EnvS} {sv cl : Tab} (h : RunAt w P br bE bS bC cE Af cf f bt N ρ sv cl) (n : Nat) : RunAt (w.drewN n) P br bE bS bC cE Af cf f bt N ρ sv cl := h.below (below_drewN w n)
theorem But.drewN {T : Nat → Prop} {w w' : World} (h : But T w w') (n : Nat) : But T w (w'.drewN n) := h.trans (But.of_below (below_drewN w' n))
/-- Whether a fixed point begins anew. -/
noncomputable def newB (f : DN) (sv : Tab) (k : Nat) : Bool := decide (arK f k ≠ qF f k) || decide (sv k = [])

open Classical in
theorem clo_free (hv : ValF f) {d : DL} {a : Tr} {k : Nat} (hP : PartF f (.one a) k) (hc : cloF f k = true) (u : Int) : ¬ free (sysF f d) (.one a) k u := by
  obtain ⟨hA, hz⟩ := treeF_is hv.shape
  have hk := hP.lt
  unfold cloF at hc
  have hc := of_decide_eq_true hc
  have := closed_free (M := sysF f d) (T := treeF f) (k := 0) (j := k) hA (Nat.zero_le _) (by omega) (fun i h1 h2 h3 h4 h5 => by
    have he := sub_range (T := treeF f) (k := 0) (j := k) (Nat.zero_le _) (by omega)
    have hi : i < f.length := by unfold endP at h2; omega
    have hki := hv.kind i hi
    have h6 : qF f i = 6 := by
      rcases arity_zero h3 hki.1 hki.2 with e | e | e
      · exact absurd e h4
      · exact absurd e h5
      · exact e
    rw [bnd_bind hv.shape (sysF f d) rfl rfl hi]
    exact hc i h1 h2 h6) u
  rwa [hP.sub] at this

set_option maxRecDepth 100000 in
set_option maxHeartbeats 12800000 in
theorem fixed_calls (hD : RunD w0 Af f bt x N ini ls es) {a : Tr} {k : Nat} (hP : PartF f (.one a) k) (hf : isFx (qF f k) = true) (IH : AtOk w0 br bE bS bC cE Af cf f bt N ini ls es a (k + 1))
    (hbase : ∀ b, RunT bE bS bC b → w0.heap.size ≤ b) (ρ : EnvS) (sv cl : Tab) (w : World) (hw : Below w0.heap.size w0 w) (hr : RunAt w P br bE bS bC cE Af cf f bt N ρ sv cl)
    (hpre : PreR (sysF f ((N : Int), ini, ls, es)) sv cl (.one a) k ρ (arK f k)) :
    Calls Tryz.prog 107 #[.pointer (some ⟨br, 0, none⟩), .int .i64 (k : Nat)] w fun e w' => ∃ A' c' sv' cl', e = .returned (.slice A' N c') ∧ SlB w' w.heap.size w'.heap.size A' N (sem (sysF f ((N : Int), ini, ls, es)) (.one a) k ρ) ∧
      RunAt w' (AddP P A') br bE bS bC cE Af cf f bt N ρ sv' cl' ∧ PostR (sysF f ((N : Int), ini, ls, es)) sv cl sv' cl' (.one a) k ρ (arK f k) ∧ But (RunT bE bS bC) w w' := by
  have hk := hP.lt
  have hN := hD.N40
  have hlen := hD.val.len
  have hk0 : (0 : Int) ≤ (k : Int) := by omega
  have hk1 : (k : Int) < (f.length : Int) := by omega
  obtain ⟨r0, r1, r2, r3, r4⟩ := hr.facts
  obtain ⟨Ac, mc, cc, ec, fc, hmc, sc, hc⟩ := hr.clo.get hk
  have hlc : (cl k).length = mc := Sl.len sc
  by_cases hcl : cl k = []
  · rw [hcl] at hlc
    subst hlc
    have qA := hide (l21Around_calls Af f.length cf f k w 0 w0.heap.size (hD.fs.below hw (.inr (Nat.le_refl _))) hD.val.shp hk)
    obtain ⟨bf, of, y, s, z, hAf, gf3, hx, hy, hsz, c0, -, -, -⟩ := hD.node hw hk
    obtain ⟨As, ms, cs, es_, fs_, hms, ss, hss⟩ := hr.sav.get hk
    have hls : (sv k).length = ms := Sl.len ss
    have hsv : (sv k = []) ↔ ms = 0 := by rw [← hls]; exact List.length_eq_zero_iff.symm
    have hnode := fun (i : Nat) (hi : i < f.length) => hD.node hw hi
    have hai : ∀ i, arouF f k = some i → i < k := fun i hi => by have := lastP_some hi; omega
    have hq78 : qF f k = 7 ∨ qF f k = 8 := by unfold isFx at hf; simpa using hf
    have hkdef : Hid (arK f k = match arouF f k with | some i => qF f i | none => 0) := rfl
    have hhW := hide hr.high2
    have hw' := hide hw
    replace hr := hide hr
    replace hpre := hide hpre
    clear sc hc hss ss fs_ fc hmc
    subst hAf
    generalize hB : optI (arouF f k) = B at *
    go_enter Tryz.func107, Tryz.ntmps107
    go_upto_region 4 with (first | (go_at_call 134; (with_reducible refine qA.out.mono ?_); rintro e w1 ⟨rfl, rfl⟩))
    go_cut [63] (fun t wx => t = .bool (newB f sv k) ∧ ∃ nq, wx = w.drewN nq)
    case first =>
      cases har : arouF f k with
      | none =>
        have hR : Hid (newB f sv k = true) := by
          show _ = _
          unfold newB
          rw [show arK f k = 0 by rw [hkdef.out, har]]
          rw [decide_eq_true (show (0 : Int) ≠ qF f k by omega), Bool.true_or]
        rw [har] at hB
        have hBn : B < 0 := by rw [← hB]; decide
        have hBb : decide (B < 0) = true := decide_eq_true hBn
        clear hnode hai hB
        go_quiet (fail)
        go_wp2_with fail
        go_meet
        exact ⟨congrArg Value.bool hR.out.symm, _, rfl⟩
      | some i =>
        have hik := hai i har
        obtain ⟨bi, oi, yi, si, zi, hAi, -, hxi, -, -, i0, -, -, -⟩ := hnode i (by omega)
        cases hAi
        rw [har] at hB
        have hBi : B = (i : Int) := hB.symm
        have hi0 : 0 ≤ B := by omega
        have hi1 : B < (f.length : Int) := by omega
        have hin : ¬ B < 0 := by omega
        have hinb : decide (B < 0) = false := decide_eq_false hin
        rw [show of + i * 4 = of + B.toNat * 4 by rw [hBi]; rfl] at i0
        clear hB hBi
        have hkk : arK f k = qF f i := by rw [hkdef.out, har]
        clear hnode hai hx hy hxi
        by_cases hqq : qF f i = qF f k
        · have hqb : (qF f i != qF f k) = false := by simp [hqq]
          by_cases hs0 : ms = 0
          · subst hs0
            have hR : Hid (newB f sv k = true) := by show _ = _; unfold newB; rw [decide_eq_true (hsv.2 rfl), Bool.or_true]
            clear hsv hkk hqq har hkdef
            generalize qF f i = qi at *
            generalize qF f k = qk at *
            go_quiet (fail)
            go_wp2_with fail
            go_meet
            exact ⟨congrArg Value.bool hR.out.symm, _, rfl⟩
          · have hR : Hid (newB f sv k = false) := by show _ = _; unfold newB; rw [decide_eq_false (fun c => hs0 (hsv.1 c)), decide_eq_false (fun c => c (by rw [hkk, hqq]))]; rfl
            have hmb : ((ms : Int) == 0) = false := by rw [beq_eq_false_iff_ne]; omega
            clear hsv hkk hqq har hkdef
            generalize qF f i = qi at *
            generalize qF f k = qk at *
            go_quiet (fail)
            go_wp2_with fail
            go_meet
            exact ⟨congrArg Value.bool hR.out.symm, _, rfl⟩
        · have hqb : (qF f i != qF f k) = true := by simpa using hqq
          have hR : Hid (newB f sv k = true) := by show _ = _; unfold newB; rw [decide_eq_true (show arK f k ≠ qF f k by rw [hkk]; exact hqq), Bool.true_or]
          clear hsv hkk hqq har hkdef
          generalize qF f i = qi at *
          generalize qF f k = qk at *
          go_quiet (fail)
          go_wp2_with fail
          go_meet
          exact ⟨congrArg Value.bool hR.out.symm, _, rfl⟩
    case rest =>
      obtain ⟨rfl, nq, hwc⟩ := hcut
      have hrC : Hid (RunAt wc P br bE bS bC cE (some ⟨bf, of, none⟩) cf f bt N ρ sv cl) := by rw [hwc]; exact hr.out.drewN nq
      have hwC : Below w0.heap.size w0 wc := by rw [hwc]; exact hw.trans ((below_drewN w nq).mono hw.size)
      have hbC : But (RunT bE bS bC) w wc := by rw [hwc]; exact (But.refl _ _).drewN nq
      have hszC : wc.heap.size = w.heap.size := by rw [hwc]; rfl
      clear hwc hr hw c0 r0 r1 r2 r3 r4 es_ hms hls hsv hnode hai hkdef qA hB
      replace hbC := hide hbC
      go_upto_if 63 with fail
      go_cut [] (fun wx => ∃ sv', LoopW w0 w wx P br bE bS bC cE (some ⟨bf, of, none⟩) cf f bt N ini ls es ρ sv cl a k sv' cl)
      case first =>
        cases hR : newB f sv k with
        | false =>
          unfold newB at hR
          rw [Bool.or_eq_false_iff] at hR
          have h1 : arK f k = qF f k := by simpa using hR.1
          have h2 : sv k ≠ [] := by simpa using hR.2
          have hL : LoopW w0 w wc P br bE bS bC cE (some ⟨bf, of, none⟩) cf f bt N ini ls es ρ sv cl a k sv cl := ⟨hrC.out, LoopR.again hpre.out hf hcl h1 h2 ((hrC.out.sl k hk).resolve_left h2), hbC.out⟩
          clear hR
          go_wp2_with fail
          go_meet
          exact ⟨sv, hL⟩
        | true =>
          clear hR
          have hLw := hD.lt.below (hwC.trans ((Below.refl wc.heap.size wc).drew.mono hwC.size)) (Nat.le_refl _)
          have qW := hide (l21Whole_calls bt x N ini ls es (qF f k == 8) wc.drew hLw (by omega))
          have qE := hide (fun W (hW : Below w0.heap.size w0 W) => l19End_calls (some ⟨bf, of, none⟩) f.length cf f k W 0 w0.heap.size (hD.fs.below hW (.inr (Nat.le_refl _))) hD.val.shp hk)
          have hEnd := hP.endF_
          simp only [Tr.size] at hEnd
          have hEn := hP.end_ hD.val.shape
          simp only [Tr.size] at hEn
          rw [hEnd] at qE
          have h78 : (qF f k == 8) = !decide (qF f k = 7) := by rcases hq78 with e | e <;> rw [e] <;> rfl
          obtain ⟨y0, y1, -, y3, -⟩ := hrC.out.facts
          obtain ⟨bf', of', yy, ss', zz, hAf', -, -, -, -, yk, -, -, -⟩ := hD.node hwC hk
          cases hAf'
          have hhigh := hide hrC.out.high2
          have hst8 : Hid (whlS N (qF f k == 8) = whlS N (!decide (qF f k = 7))) := by show _ = _; rw [h78]
          have hbrz : br < wc.heap.size := (Array.getElem?_eq_some_iff.1 hrC.out.cells).1
          have hbfz : bf < wc.heap.size := Nat.lt_of_lt_of_le gf3 hwC.size
          generalize hq8 : (qF f k == 8) = b8 at *
          replace hwC := hide hwC
          clear hEnd h78 hx hy hsz hLw ec hq78
          generalize hqk : qF f k = qk at yk
          rw [hqk] at hq8
          go_upto_region 5 with fail
          go_region_held3 (fun w' => w'.cell? ⟨br, 3, none⟩ = some (.slice (some ⟨bS, 0, none⟩) f.length f.length) ∧ w'.cell? ⟨br, 1, none⟩ = some (.pointer (some ⟨bt, 0, none⟩)) ∧ w'.cell? ⟨br, 0, none⟩ = some (.slice (some ⟨bf, of, none⟩) f.length cf) ∧ w'.cell? ⟨bf, of + k * 4, none⟩ = some (.int .i64 qk)) (first | exact ⟨y3, y1, y0, yk⟩ | exact ⟨u3, u1, u0, uk⟩ | exact ⟨v3, v1, v0, vk⟩ | go_keep)
            (first | (go_at_call 101; (with_reducible refine qW.out.mono ?_); rintro e w5 ⟨A5, rfl, h5, hb5⟩; have hbw : Below wc.heap.size wc w5 := (Below.refl _ _).drew.trans hb5; have hr5 := hrC.out.below hbw; obtain ⟨u0, u1, -, u3, -⟩ := hr5.facts; have uk := (hbw.cell (p := ⟨bf, of + k * 4, none⟩) hbfz).trans yk; obtain ⟨As5, ms5, cs5, es5, fs5, -, -, -⟩ := hr5.sav.get hk; have hH5 : HasB (RunP P bE bS bC) w5 (.slice A5 N N) (whlS N b8) := HasB.of h5 (by omega) (by omega) hhigh.out; have hr6 := hr5.setS (k := k) hH5 (.inr (whlS_len _ _)); obtain ⟨v0, v1, -, v3, -⟩ := hr6.facts; have hbut6 : But (RunT bE bS bC) w5 (w5.setCell ⟨bS, k, none⟩ (.slice A5 N N)) := But.set w5 ⟨bS, k, none⟩ _ (.inr (.inl rfl)); have vk := hbut6.cell (p := ⟨bf, of + k * 4, none⟩) uk (Nat.lt_of_lt_of_le hbfz hbw.size) (fun ht => by have := hbase _ ht; dsimp only at this; omega); replace hr6 := hide hr6; replace hbut6 := hide hbut6; replace hbw := hide hbw; clear hr5 hH5 hb5 h5))
          have hb6 := hide ((hbC.out.trans (But.of_below hbw.out)).trans hbut6.out)
          have hw6 : Hid (Below w0.heap.size w0 (w5.setCell ⟨bS, k, none⟩ (.slice A5 N N))) := (hwC.out.trans (hbw.out.mono hwC.out.size)).trans (hbut6.out.below hbase (by have := hbw.out.size; have := hwC.out.size; omega))
          clear hrC hwC hbC hszC y0 y1 y3 yk u0 u1 u3 uk v0 v1 v3 vk es5 fs5 hhigh qW hbw hbut6 hbrz hbfz
          generalize w5.setCell ⟨bS, k, none⟩ (.slice A5 N N) = w6 at *
          go_wp2_with fail
          go_loopw [6] (fun i wr => ∃ (j : Nat) (sv' : Tab), k + 1 ≤ j ∧ j ≤ k + (a.size + 1) ∧ i = .int .i64 (j : Nat) ∧ Hid (RunAt wr P br bE bS bC cE (some ⟨bf, of, none⟩) cf f bt N ρ sv' cl) ∧ Hid (sv' k = whlS N b8 ∧ (∀ i, k < i → i < j → sv' i = []) ∧ ∀ i, ¬ (k ≤ i ∧ i < k + (a.size + 1)) → sv' i = sv i) ∧ Hid (But (RunT bE bS bC) w wr) ∧ Hid (Below w0.heap.size w0 wr)) (fun i _ => k + (a.size + 1) - (intOf i).toNat)
          case atStart => exact ⟨k + 1, _, Nat.le_refl _, by have := a.size_pos; omega, by go_num, hr6, ⟨if_pos rfl, fun i h1 h2 => by omega, fun i hi => if_neg fun e => hi ⟨by omega, by omega⟩⟩, hb6, hw6⟩
          case round =>
            clear hr6 hb6 hw6
            obtain ⟨j, sv1, hj1, hj2, rfl, hr1, hs1, hb1, hw1⟩ := hrel
            obtain ⟨y0, -, -, y3, -⟩ := hr1.out.facts
            have q := hide (qE.out wr hw1.out)
            by_cases hlt : j < k + (a.size + 1)
            · have hjf : j < f.length := by omega
              obtain ⟨As6, ms6, cs6, es6, fs6, -, -, -⟩ := hr1.out.sav.get hjf
              have hbA : Below wr.heap.size wr (wr.alloc (.cells #[] 4)) := (Below.refl _ _).alloc (Nat.le_refl _) _
              have y0a := alloc_cell (o := .cells #[] 4) y0
              have y3a := alloc_cell (o := .cells #[] 4) y3
              have es6a := alloc_cell (o := .cells #[] 4) es6
              have fs6a : (wr.alloc (.cells #[] 4)).frozen? ⟨bS, j, none⟩ = false := (hbA.frozen (p := ⟨bS, j, none⟩) hr1.out.sav.lt).trans fs6
              have hrA := hr1.out.below hbA
              have hHA : HasB (RunP P bE bS bC) (wr.alloc (.cells #[] 4)) (.slice (some ⟨wr.heap.size, 0, none⟩) 0 0) [] := ⟨_, 0, 0, rfl, Nat.zero_le _, Sl.nil_, fun a _ h0 _ => absurd h0 (Nat.lt_irrefl _)⟩
              have hrN := hide (hrA.setS (k := j) hHA (.inl rfl))
              have hbutN : But (RunT bE bS bC) (wr.alloc (.cells #[] 4)) ((wr.alloc (.cells #[] 4)).setCell ⟨bS, j, none⟩ (.slice (some ⟨wr.heap.size, 0, none⟩) 0 0)) := But.set _ ⟨bS, j, none⟩ _ (.inr (.inl rfl))
              have hbN := hide ((hb1.out.trans (But.of_below hbA)).trans hbutN)
              have hwN := hide ((hw1.out.trans (hbA.mono hw1.out.size)).trans (hbutN.below hbase (by have := hw1.out.size; have := hbA.size; omega)))
              have hsN : Hid ((fun i => if i = j then [] else sv1 i) k = whlS N b8 ∧ (∀ i, k < i → i < j + 1 → (fun i => if i = j then [] else sv1 i) i = []) ∧ ∀ i, ¬ (k ≤ i ∧ i < k + (a.size + 1)) → (fun i => if i = j then [] else sv1 i) i = sv i) := by
                obtain ⟨z1, z2, z3⟩ := hs1.out
                refine ⟨?_, fun i h1 h2 => ?_, fun i hi => ?_⟩
                · dsimp only; rw [if_neg (by omega)]; exact z1
                · dsimp only
                  by_cases e : i = j
                  · rw [if_pos e]
                  · rw [if_neg e]; exact z2 i h1 (by omega)
                · dsimp only; rw [if_neg (by rintro rfl; exact hi ⟨by omega, by omega⟩)]; exact z3 i hi
              have hj0 : (0 : Int) ≤ (j : Int) := by omega
              have hj3 : (j : Int) < (f.length : Int) := by omega
              have hjE : (j : Int) < ((k + (a.size + 1) : Nat) : Int) := by omega
              clear hr1 hs1 hb1 hw1 hbA hrA hHA hbutN es6 fs6
              go_wp2_with (first | (go_at_call 81; (with_reducible refine q.out.mono ?_); rintro e w7 ⟨rfl, rfl⟩))
              go_roundw
              case rel => exact ⟨j + 1, _, by omega, by omega, by go_num, hrN, hsN, hbN, hwN⟩
              case measure => simp [intOf]; omega
            · have hjE : j = k + (a.size + 1) := by omega
              have hjn : ¬ (j : Int) < ((k + (a.size + 1) : Nat) : Int) := by omega
              have hL : LoopW w0 w wr P br bE bS bC cE (some ⟨bf, of, none⟩) cf f bt N ini ls es ρ sv cl a k sv1 cl := by
                obtain ⟨z1, z2, z3⟩ := hs1.out
                rw [hjE] at z2
                exact ⟨hr1.out, LoopR.start hpre.out hcl (z1.trans hst8.out) z2 z3, hb1.out⟩
              clear hr1 hs1 hb1 hw1
              go_wp2_with (first | (go_at_call 81; (with_reducible refine q.out.mono ?_); rintro e w7 ⟨rfl, rfl⟩))
              go_meet
              exact ⟨sv1, hL⟩
      case rest =>
        obtain ⟨svL, hLW⟩ := hcut
        replace hLW := hide hLW
        have hw0 : Below w0.heap.size w0 w := hw'.out
        have hcs : (qF f k == 7) = decide (qF f k = 7) := by rw [Bool.eq_iff_iff]; simp
        have hlow : ∀ b, RunP P bE bS bC b → b < w.heap.size := hhW.out
        clear hrC hwC hbC hszC ec hx hy hsz
        go_wp2_with fail
        go_loopg [7] (N + 1) (fun G nx wr => ∃ (sv1 cl1 : Tab), Hid (LoopW w0 w wr P br bE bS bC cE (some ⟨bf, of, none⟩) cf f bt N ini ls es ρ sv cl a k sv1 cl1) ∧ Hid (N - cntS (decide (qF f k = 7)) (sv1 k) < G))
        case atStart => exact ⟨svL, cl, hLW, by show _ < _; omega⟩
        case round =>
          clear hLW
          obtain ⟨sv1, cl1, hl, hG⟩ := hrel
          obtain ⟨G2, rfl⟩ : ∃ G2, gk = G2 + 1 := ⟨gk - 1, by have := hG.out; omega⟩
          have hwr : Below w0.heap.size w0 wr := hw0.trans (hl.out.but.below hbase hw0.size)
          obtain ⟨y0, y1, -, y3, -⟩ := hl.out.run.facts
          obtain ⟨A1, m1, c1, e1, f1, hm1, s1, hs1⟩ := hl.out.run.sav.get hk
          have hX : (sv1 k).length = N := hl.out.loop.len
          obtain rfl : m1 = N := by rw [← Sl.len s1]; exact hX
          have q := hide (body_calls hD hP hf IH hbase ρ sv1 cl1 A1 c1 (sv1 k) wr hwr hl.out.run hs1 hX hl.out.loop.pre)
          clear s1 hs1 f1 hm1
          go_upto_region 11 with (first | (go_at_call 71; (with_reducible refine q.out.mono ?_); rintro e w2 ⟨A2, c2, sv2, cl2, rfl, h2, r2, p2, b2⟩; replace r2 := r2.weak))
          have hk2 : sv2 k = sv1 k := (p2.out k (by omega)).1
          obtain ⟨z0, z1, -, z3, z4⟩ := r2.facts
          obtain ⟨A3, m3, c3, e3, f3, hm3, s3, -⟩ := r2.sav.get hk
          rw [hk2] at s3
          obtain rfl : m3 = m1 := by rw [← Sl.len s3]; exact hX
          have qq := l21Equal_calls A2 A3 m3 c2 c3 _ _ w2 _ _ _ _ h2 s3 (by omega)
          have hw2 : Below w0.heap.size w0 w2 := hwr.trans (b2.below hbase hwr.size)
          have hwz : w.heap.size ≤ wr.heap.size := hl.out.but.size
          have hbw2 := hide (hl.out.but.trans b2)
          by_cases heq : bodyF (sysF f ((m3 : Int), ini, ls, es)) a k ρ (sv1 k) = sv1 k
          · -- the fixed point is reached
            rw [decide_eq_true heq] at qq
            replace qq := hide qq
            obtain ⟨hsem, hpost⟩ := hl.out.loop.done (q := arK f k) hf p2 heq
            replace hpost := hide hpost
            replace r2 := hide r2
            have hsm : (sv2 k).length = m3 := by rw [hk2]; exact hX
            clear hl q heq h2 s3 p2 b2 e1 y0 y1 y3 hwr
            have qC := hide (fun W (hW : Below w0.heap.size w0 W) => l21Closed_calls (some ⟨bf, of, none⟩) f.length cf f k W 0 w0.heap.size (hD.fs.below hW (.inr (Nat.le_refl _))) hD.val.shp hk)
            cases hcf : cloF f k with
            | false =>
              rw [hcf] at qC
              go_upto_region 15 with (first | (go_at_call 69; (with_reducible refine qq.out.mono ?_); rintro e w3 ⟨rfl, nq, rfl⟩; have Z0 : (w2.drewN nq).cell? ⟨br, 0, none⟩ = _ := z0; have qC2 := hide (qC.out (w2.drewN nq) (hw2.trans ((below_drewN w2 nq).mono hw2.size)))) | (go_at_call 135; (with_reducible refine qC2.out.mono ?_); rintro e w4 ⟨rfl, nn, rfl⟩))
              have r4 : Hid (RunAt (w2.drewN (nq + nn)) P br bE bS bC cE (some ⟨bf, of, none⟩) cf f bt m3 ρ sv2 cl2) := r2.out.drewN (nq + nn)
              have b4 : Hid (But (RunT bE bS bC) w (w2.drewN (nq + nn))) := hbw2.out.drewN (nq + nn)
              have hp4 := hpost
              have hzW : w.heap.size ≤ (w2.drewN (nq + nn)).heap.size := b4.out.size
              clear r2 hpost qq qC qC2 z0 z1 z3 z4 e3 f3 hbw2 Z0
              generalize w2.drewN (nq + nn) = W4 at *
              obtain ⟨-, -, -, g3', -⟩ := r4.out.facts
              obtain ⟨A5, m5, c5, e5, -, -, s5, -⟩ := r4.out.sav.get hk
              obtain rfl : m5 = m3 := by rw [← Sl.len s5]; exact hsm
              have hE := hide elem_bool
              have hs5 := hide (s5.below ((Below.refl W4.heap.size W4).alloc (Nat.le_refl _) (.cells #[] 4)) (.inr (Nat.le_refl _)))
              have hz5 : W4.heap.size ≤ (W4.alloc (.cells #[] 4)).heap.size := by simp
              have b5 := hide ((Below.refl W4.heap.size W4).alloc (Nat.le_refl _) (.cells #[] 4))
              have g3a : (W4.alloc (.cells #[] 4)).cell? ⟨br, 3, none⟩ = _ := alloc_cell g3'
              have e5a : (W4.alloc (.cells #[] 4)).cell? ⟨bS, k, none⟩ = _ := alloc_cell e5
              clear s5
              go_wp2_with (first | (at_builtin; (with_reducible refine wpList_app rfl (.tmp 150) (.tmp 157) rfl hE.out flat_bv rfl (Own.made W4 4 (Nat.le_refl _)) rfl hs5.out ?c1 hz5 ?_); rotate_right; intro A6 c6 w6 hown6 hgr6 hb6 _))
              case c1 => omega
              go_ret
              rw [Nat.zero_add, List.nil_append] at hown6
              have hb7 := b5.out.trans hb6
              have hres := hown6.sl flat_bv
              rw [hsem] at hres
              exact ⟨A6, c6, _, _, rfl, hres.more hzW (Nat.le_refl _), r4.out.wide hb7 hres (by omega), hp4.out, b4.out.trans (But.of_below hb7)⟩
            | true =>
              rw [hcf] at qC
              have hfree := hide (fun u => clo_free (d := ((m3 : Int), ini, ls, es)) hD.val hP hcf u)
              go_upto_region 14 with (first | (go_at_call 69; (with_reducible refine qq.out.mono ?_); rintro e w3 ⟨rfl, nq, rfl⟩; have Z0 : (w2.drewN nq).cell? ⟨br, 0, none⟩ = _ := z0; have qC2 := hide (qC.out (w2.drewN nq) (hw2.trans ((below_drewN w2 nq).mono hw2.size)))) | (go_at_call 135; (with_reducible refine qC2.out.mono ?_); rintro e w4 ⟨rfl, nn, rfl⟩))
              have r4 : Hid (RunAt (w2.drewN (nq + nn)) P br bE bS bC cE (some ⟨bf, of, none⟩) cf f bt m3 ρ sv2 cl2) := r2.out.drewN (nq + nn)
              have b4 : Hid (But (RunT bE bS bC) w (w2.drewN (nq + nn))) := hbw2.out.drewN (nq + nn)
              clear r2 qq qC qC2 z0 z1 z3 z4 e3 f3 hbw2 Z0
              generalize w2.drewN (nq + nn) = W3 at *
              obtain ⟨-, -, -, g3', g4'⟩ := r4.out.facts
              obtain ⟨A5, m5, c5, e5, -, -, s5, -⟩ := r4.out.sav.get hk
              obtain rfl : m5 = m3 := by rw [← Sl.len s5]; exact hsm
              have hE := hide elem_bool
              have hbA : Below W3.heap.size W3 (W3.alloc (.cells #[] 4)) := (Below.refl _ _).alloc (Nat.le_refl _) _
              have hs5 : Hid (SlB (W3.alloc (.cells #[] 4)).drew 0 W3.heap.size A5 m5 (sv2 k)) := s5.below hbA.drew (.inr (Nat.le_refl _))
              have hown : Hid (Own 1 bv (W3.alloc (.cells #[] 4)).drew W3.heap.size 4 (some ⟨W3.heap.size, 0, none⟩) 0 0 ([] : List Bool)) := Own.made W3 4 (Nat.le_refl _)
              have hz5 : W3.heap.size ≤ (W3.alloc (.cells #[] 4)).drew.heap.size := by show _ ≤ (W3.alloc _).heap.size; simp
              have x4 : (W3.alloc (.cells #[] 4)).drew.cell? ⟨br, 4, none⟩ = some (.slice (some ⟨bC, 0, none⟩) f.length f.length) := alloc_cell g4'
              have x3 : (W3.alloc (.cells #[] 4)).drew.cell? ⟨br, 3, none⟩ = some (.slice (some ⟨bS, 0, none⟩) f.length f.length) := alloc_cell g3'
              have x5 : (W3.alloc (.cells #[] 4)).drew.cell? ⟨bS, k, none⟩ = some (.slice A5 m5 c5) := alloc_cell e5
              have hszb : (0 + m5) * 1 ≤ 140737488355328 := by omega
              have hhi := hide r4.out.high2
              clear s5
              go_region_held3 (fun w' => w'.cell? ⟨br, 4, none⟩ = some (.slice (some ⟨bC, 0, none⟩) f.length f.length) ∧ w'.cell? ⟨br, 3, none⟩ = some (.slice (some ⟨bS, 0, none⟩) f.length f.length) ∧ w'.cell? ⟨bS, k, none⟩ = some (.slice A5 m5 c5)) (first | exact ⟨g4', g3', e5⟩ | exact ⟨x4, x3, x5⟩ | exact ⟨u4, u3, u5⟩ | exact ⟨v4, v3, v5⟩ | go_keep)
                (first | (refine step_appL (d := c5) (by rfl) (.tmp 140) (.tmp 147) (by rfl) hE.out flat_bv (by go_simp) hown.out (by go_simp) hs5.out hszb hz5 ?_; intro A6 c6 w6 hown6 hgr6 hb6 _; have hbw : Below W3.heap.size W3 w6 := hbA.drew.trans hb6; have r6 := r4.out.below hbw; obtain ⟨-, -, -, u3, u4⟩ := r6.facts; have u5 := (hbw.cell (p := ⟨bS, k, none⟩) r4.out.sav.lt).trans e5; obtain ⟨A7, m7, c7, e7, f7, -, -, -⟩ := r6.clo.get hk; rw [Nat.zero_add, List.nil_append] at hown6; have hH6 : HasB (RunP P bE bS bC) w6 (.slice A6 m5 c6) (sv2 k) := HasB.of (hown6.sl flat_bv) (by omega) (by omega) hhi.out; have r7 := r6.setC (k := k) hH6 (.inr hsm); obtain ⟨-, -, -, v3, v4⟩ := r7.facts; have hbut7 : But (RunT bE bS bC) w6 (w6.setCell ⟨bC, k, none⟩ (.slice A6 m5 c6)) := But.set w6 ⟨bC, k, none⟩ _ (.inr (.inr rfl)); have v5 := (World.cell?_of_block (w := w6) (by simpa using Below.heap_setCell w6 ⟨bC, k, none⟩ (.slice A6 m5 c6) bS (show bS ≠ bC from r6.ne.2.2.1))).trans u5; replace hbut7 := hide hbut7; replace r7 := hide r7; replace hbw := hide hbw; clear r6 hH6 hown6 hgr6 hb6))
              have hc3 := hide (PostR.close (cl2 := fun i => if i = k then sv2 k else cl2 i) hpost.out (hP.at_ hD.val.shape) hf hfree.out hsem (if_pos rfl) (fun j hj => if_neg hj))
              have b7 := hide ((b4.out.trans (But.of_below hbw.out)).trans hbut7.out)
              have hzW : w.heap.size ≤ (w6.setCell ⟨bC, k, none⟩ (.slice A6 m5 c6)).heap.size := b7.out.size
              clear r4 b4 hpost hbw hbut7 g3' g4' e5 x3 x4 x5 u3 u4 u5 v3 v4 v5 e7 f7 hs5 hown hz5 hbA hhi
              generalize w6.setCell ⟨bC, k, none⟩ (.slice A6 m5 c6) = W4 at *
              obtain ⟨-, -, -, g3', -⟩ := r7.out.facts
              obtain ⟨A8, m8, c8, e8, -, -, s5, -⟩ := r7.out.sav.get hk
              obtain rfl : m8 = m5 := by rw [← Sl.len s5]; exact hsm
              have hE := hide elem_bool
              have hs5 := hide (s5.below ((Below.refl W4.heap.size W4).alloc (Nat.le_refl _) (.cells #[] 4)) (.inr (Nat.le_refl _)))
              have hz5 : W4.heap.size ≤ (W4.alloc (.cells #[] 4)).heap.size := by simp
              have b5 := hide ((Below.refl W4.heap.size W4).alloc (Nat.le_refl _) (.cells #[] 4))
              have g3a : (W4.alloc (.cells #[] 4)).cell? ⟨br, 3, none⟩ = _ := alloc_cell g3'
              have e8a : (W4.alloc (.cells #[] 4)).cell? ⟨bS, k, none⟩ = _ := alloc_cell e8
              clear s5
              go_wp2_with (first | (at_builtin; (with_reducible refine wpList_app rfl (.tmp 150) (.tmp 157) rfl hE.out flat_bv rfl (Own.made W4 4 (Nat.le_refl _)) rfl hs5.out ?c1 hz5 ?_); rotate_right; intro A6 c6 w6 hown6 hgr6 hb6 _))
              case c1 => omega
              go_ret
              rw [Nat.zero_add, List.nil_append] at hown6
              have hb7 := b5.out.trans hb6
              have hres := hown6.sl flat_bv
              rw [hsem] at hres
              exact ⟨A6, c6, _, _, rfl, hres.more hzW (Nat.le_refl _), r7.out.wide hb7 hres (by omega), hc3.out, b7.out.trans (But.of_below hb7)⟩
          · rw [decide_eq_false heq] at qq
            replace qq := hide qq
            have hlt : cntS (decide (qF f k = 7)) (sv1 k) < cntS (decide (qF f k = 7)) (bodyF (sysF f ((m3 : Int), ini, ls, es)) a k ρ (sv1 k)) := cntS_lt (by rw [hX, bodyF_len]; rfl) hl.out.loop.up (fun e => heq e.symm)
            have hle := cntS_le (decide (qF f k = 7)) (bodyF (sysF f ((m3 : Int), ini, ls, es)) a k ρ (sv1 k))
            have hbl : (bodyF (sysF f ((m3 : Int), ini, ls, es)) a k ρ (sv1 k)).length = m3 := bodyF_len _ _ _ _ _
            have hG2 : Hid (m3 - cntS (decide (qF f k = 7)) (bodyF (sysF f ((m3 : Int), ini, ls, es)) a k ρ (sv1 k)) < G2) := by have := hG.out; show _ < _; omega
            have hnx := hide (hl.out.loop.next (sv2 := fun i => if i = k then bodyF (sysF f ((m3 : Int), ini, ls, es)) a k ρ (sv1 k) else sv2 i) p2 (if_pos rfl) (fun j hj => if_neg hj))
            have hH := hide (HasB.of h2 (by omega) (by omega) (c := c2) (T := RunP P bE bS bC) fun b hb => Nat.lt_of_lt_of_le (hlow b hb) hwz)
            replace r2 := hide r2
            clear hl q heq h2 s3 p2 b2 e1 y0 y1 y3 hwr hlt hle hG z0 z1 z4
            go_wp2_with (first | (go_at_call 69; (with_reducible refine qq.out.mono ?_); rintro e w3 ⟨rfl, nq, rfl⟩; have Z3 : (w2.drewN nq).cell? ⟨br, 3, none⟩ = _ := z3; have E3 : (w2.drewN nq).cell? ⟨bS, k, none⟩ = _ := e3; have F3 : (w2.drewN nq).frozen? ⟨bS, k, none⟩ = _ := f3))
            go_roundg G2
            case measure => omega
            case rel =>
              have hbut : But (RunT bE bS bC) (w2.drewN nq) ((w2.drewN nq).setCell ⟨bS, k, none⟩ (.slice A2 m3 c2)) := But.set _ ⟨bS, k, none⟩ _ (.inr (.inl rfl))
              refine ⟨_, cl2, ⟨(r2.out.drewN nq).setS (k := k) (hH.out.but (But.of_below (below_drewN w2 nq))) (.inr hbl), hnx.out, (hbw2.out.drewN nq).trans hbut⟩, ?_⟩
              show _ < _
              try dsimp only
              rw [if_pos rfl]
              exact hG2.out
  · have hmN : mc = N := by
      rw [← hlc]
      exact (hr.kl k hk).resolve_left hcl
    subst hmN
    obtain ⟨hsem, hpost⟩ := hpre.known hf hcl
    have hm0 : (0 : Int) < (mc : Int) := by omega
    have hE := hide elem_bool
    have hs := hide (sc.below ((Below.refl w.heap.size w).alloc (Nat.le_refl _) (.cells #[] 4)) (.inr (Nat.le_refl _)))
    have hz : w.heap.size ≤ (w.alloc (.cells #[] 4)).heap.size := by simp
    have hb0 := hide ((Below.refl w.heap.size w).alloc (Nat.le_refl _) (.cells #[] 4))
    rw [hsem] at hs
    have r4a : (w.alloc (.cells #[] 4)).cell? ⟨br, 4, none⟩ = _ := alloc_cell r4
    have eca : (w.alloc (.cells #[] 4)).cell? ⟨bC, k, none⟩ = _ := alloc_cell ec
    clear hpre IH sc hc hcl hlc hD hw
    replace hr := hide hr
    replace hpost := hide hpost
    go_enter Tryz.func107, Tryz.ntmps107
    go_wp2_with (first | (at_builtin; (with_reducible refine wpList_app rfl (.tmp 17) (.tmp 24) rfl hE.out flat_bv rfl (Own.made w 4 (Nat.le_refl _)) rfl hs.out ?c1 hz ?_); rotate_right; intro A2 c2 w2 hown2 hgr2 hb2 _))
    case c1 => omega
    go_ret
    rw [Nat.zero_add, List.nil_append] at hown2
    have hb3 := hb0.out.trans hb2
    exact ⟨A2, c2, sv, cl, rfl, hown2.sl flat_bv, hr.out.wide hb3 (hown2.sl flat_bv) (by omega), hpost.out, But.of_below hb3⟩
end

end Go.Proofs.YtanlgnjgpbjebaaGreatDoor

namespace Go.Proofs.YtanlgnjgpbjebaaGreatDoor
open Go.ChangeShapes Go.WideShapes Go.ChangeAt Go.RowKit
set_option linter.unusedVariables false
set_option linter.unusedSimpArgs false

section
variable {w0 : World} {P : Nat → Prop} {br bE bS bC cE : Nat} {Af : Option Addr} {cf : Nat} {f : DN} {bt N : Nat} {x : CL} {ini : Int} {ls : List ByteArray} {es : List Ed}
/-- How each evaluation begins: the node is copied. -/
theorem at_begin (hD : RunD w0 Af f bt x N ini ls es) {k : Nat} (hk : k < f.length) {ρ : EnvS} {sv cl : Tab} {w : World} (hw : Below w0.heap.size w0 w) (hr : RunAt w P br bE bS bC cE Af cf f bt N ρ sv cl) :
    ∃ b off q y s z, Af = some ⟨b, off, none⟩ ∧ qF f k = q ∧ f[k]? = some (q, y, s, z) ∧ vF f k = y ∧ s.size ≤ 1048576 ∧ w.cell? ⟨b, off + k * 4, none⟩ = some (.int .i64 q) ∧ w.cell? ⟨b, off + k * 4 + 1, none⟩ = some (.int .i64 y) ∧ w.cell? ⟨b, off + k * 4 + 2, none⟩ = some (.string s) ∧ w.cell? ⟨b, off + k * 4 + 3, none⟩ = some (.bool z) ∧
      Below w.heap.size w (w.alloc (.cells #[.int .i64 q, .int .i64 y, .string s, .bool z] 67)) ∧
      RunAt (w.alloc (.cells #[.int .i64 q, .int .i64 y, .string s, .bool z] 67)) P br bE bS bC cE Af cf f bt N ρ sv cl ∧
      (w.alloc (.cells #[.int .i64 q, .int .i64 y, .string s, .bool z] 67)).heap[w.heap.size]? = some (.cells #[.int .i64 q, .int .i64 y, .string s, .bool z] 67 (0, 0)) := by
  obtain ⟨b, off, y, s, z, h1, -, h2, h3, h4, c0, c1, c2, c3⟩ := hD.node hw hk
  have hb : Below w.heap.size w (w.alloc (.cells #[.int .i64 (qF f k), .int .i64 y, .string s, .bool z] 67)) := (Below.refl _ _).alloc (Nat.le_refl _) _
  exact ⟨b, off, _, y, s, z, h1, rfl, h2, h3, h4, c0, c1, c2, c3, hb, hr.below hb, heap_alloc_new w _⟩
set_option maxRecDepth 100000 in
set_option maxHeartbeats 6400000 in
theorem at_leaf (hD : RunD w0 Af f bt x N ini ls es) {k : Nat} (hP : PartF f .leaf k) : AtOk w0 br bE bS bC cE Af cf f bt N ini ls es .leaf k := by
  intro P ρ sv cl w hw hr hpre
  have hk := hP.lt
  have hN := hD.N40
  have hlen := hD.val.len
  have hki := hD.val.kind k hk
  have hq3 := arity_zero (hP.at_ hD.val.shape) hki.1 hki.2
  obtain ⟨b, off, q, y, s, z, rfl, hqk, hx, hy, hs, c0, c1, c2, c3, hb, hr1, hnew⟩ := at_begin hD hk hw hr
  obtain ⟨r0, r1, r2, r3, r4⟩ := hr.facts
  have hk0 : (0 : Int) ≤ (k : Int) := by omega
  have hk1 : (k : Int) < (f.length : Int) := by omega
  have hw1 : Below w0.heap.size w0 (w.alloc (.cells #[.int .i64 q, .int .i64 y, .string s, .bool z] 67)) := hw.trans (hb.mono hw.size)
  have hpost : Hid (PostR (sysF f ((N : Int), ini, ls, es)) sv cl sv cl .leaf k ρ (arK f k)) := PostR.leaf
  obtain ⟨t0, t1, t2, t3, t4⟩ := hr1.facts
  have n0 := (cell_of_row _ _ 0 _ _ (0, 0) hnew).trans (show _ = some (Value.int .i64 q) from rfl)
  have n1 := (cell_of_row _ _ 1 _ _ (0, 0) hnew).trans (show _ = some (Value.int .i64 y) from rfl)
  rcases hq3 with hq | hq | hq
  · have hsem : Hid (sem (sysF f ((N : Int), ini, ls, es)) .leaf k ρ = whlS N true) := by show _ = _; unfold sem; rw [if_pos (show (sysF f ((N : Int), ini, ls, es)).q k = 0 from hq)]; rfl
    obtain rfl := hqk.symm.trans hq
    have qW := hide (l21Whole_calls bt x N ini ls es true _ (hD.lt.below hw1 (Nat.le_refl _)) (by omega))
    replace hr1 := hide hr1
    replace hb := hide hb
    clear hr hnew hD hP hpre hw hw1 hx hy
    go_enter Tryz.func82, Tryz.ntmps82
    go_wp2_with (first | (go_at_call 101; (with_reducible refine qW.out.mono ?_); rintro e w5 ⟨A5, rfl, h5, hb5⟩))
    go_ret
    have hbw := hb.out.trans (hb5.mono hb.out.size)
    rw [hsem.out]
    exact ⟨A5, N, sv, cl, rfl, h5.more hb.out.size (Nat.le_refl _), hr1.out.wide hb5 h5 (by omega), hpost.out, But.of_below hbw⟩
  · have hsem : Hid (sem (sysF f ((N : Int), ini, ls, es)) .leaf k ρ = whlS N false) := by show _ = _; unfold sem; rw [if_neg (show ¬ (sysF f ((N : Int), ini, ls, es)).q k = 0 by show ¬ qF f k = 0; omega), if_pos (show (sysF f ((N : Int), ini, ls, es)).q k = 1 from hq)]; rfl
    obtain rfl := hqk.symm.trans hq
    have qW := hide (l21Whole_calls bt x N ini ls es false _ (hD.lt.below hw1 (Nat.le_refl _)) (by omega))
    replace hr1 := hide hr1
    replace hb := hide hb
    clear hr hnew hD hP hpre hw hw1 hx hy
    go_enter Tryz.func82, Tryz.ntmps82
    go_wp2_with (first | (go_at_call 101; (with_reducible refine qW.out.mono ?_); rintro e w5 ⟨A5, rfl, h5, hb5⟩))
    go_ret
    have hbw := hb.out.trans (hb5.mono hb.out.size)
    rw [hsem.out]
    exact ⟨A5, N, sv, cl, rfl, h5.more hb.out.size (Nat.le_refl _), hr1.out.wide hb5 h5 (by omega), hpost.out, But.of_below hbw⟩
  · obtain rfl := hqk.symm.trans hq
    obtain ⟨v, hv3, hv⟩ := hD.var hk (.inr hq)
    obtain rfl : y = (v : Int) := hy.symm.trans hv
    obtain ⟨Ao, mo, co, eo, fo, -, so, ho⟩ := hr1.env.get hv3
    have hXl := hr1.el v hv3
    obtain rfl : mo = N := by rw [← Sl.len so]; exact hXl
    have hsem : Hid (sem (sysF f ((mo : Int), ini, ls, es)) .leaf k ρ = ρ (v : Int)) := by
      show _ = _
      unfold sem
      rw [if_neg (show ¬ (sysF f ((mo : Int), ini, ls, es)).q k = 0 by show ¬ qF f k = 0; omega), if_neg (show ¬ (sysF f ((mo : Int), ini, ls, es)).q k = 1 by show ¬ qF f k = 1; omega)]
      rw [show (sysF f ((mo : Int), ini, ls, es)).v k = (v : Int) from hv]
      exact setOf_inS hXl
    have hv0 : (0 : Int) ≤ (v : Int) := by omega
    have hv1 : (v : Int) < 3 := by omega
    have hE1 := hr1.env.lt
    replace hr1 := hide hr1
    replace hb := hide hb
    replace hD := hide hD
    clear hr hnew hP hpre hx hy r1 r2 r3 r4 fo ho t0 t1 t3 t4 n0 hXl hv hqk
    go_enter Tryz.func82, Tryz.ntmps82
    go_upto_region 8 with fail
    have hzw : (w.alloc (.cells #[.int .i64 6, .int .i64 (v : Nat), .string s, .bool z] 67)).heap.size = w.heap.size + 1 := by simp
    generalize w.alloc (.cells #[.int .i64 6, .int .i64 (v : Nat), .string s, .bool z] 67) = W at *
    have hE := hide elem_bool
    have hbA : Below W.heap.size W (W.alloc (.cells #[] 4)) := (Below.refl _ _).alloc (Nat.le_refl _) _
    have hs5 : Hid (SlB (W.alloc (.cells #[] 4)).drew 0 W.heap.size Ao mo (ρ (v : Int))) := so.below hbA.drew (.inr (Nat.le_refl _))
    have hown : Hid (Own 1 bv (W.alloc (.cells #[] 4)).drew W.heap.size 4 (some ⟨W.heap.size, 0, none⟩) 0 0 ([] : List Bool)) := Own.made W 4 (Nat.le_refl _)
    have hz5 : W.heap.size ≤ (W.alloc (.cells #[] 4)).drew.heap.size := by show _ ≤ (W.alloc _).heap.size; simp
    have x2 : (W.alloc (.cells #[] 4)).drew.cell? ⟨br, 2, none⟩ = some (.slice (some ⟨bE, 0, none⟩) 3 cE) := alloc_cell t2
    have x1 : (W.alloc (.cells #[] 4)).drew.cell? ⟨w.heap.size, 1, none⟩ = some (.int .i64 (v : Nat)) := alloc_cell n1
    have xe : (W.alloc (.cells #[] 4)).drew.cell? ⟨bE, v, none⟩ = some (.slice Ao mo co) := alloc_cell eo
    have hszb : (0 + mo) * 1 ≤ 140737488355328 := by omega
    clear so hw hw1
    go_region_held3 (fun w' => w'.cell? ⟨br, 2, none⟩ = some (.slice (some ⟨bE, 0, none⟩) 3 cE) ∧ w'.cell? ⟨w.heap.size, 1, none⟩ = some (.int .i64 (v : Nat)) ∧ w'.cell? ⟨bE, v, none⟩ = some (.slice Ao mo co)) (first | exact ⟨t2, n1, eo⟩ | exact ⟨x2, x1, xe⟩ | exact ⟨u2, u1, ue⟩ | go_keep)
      (first | (refine step_appL (d := co) (by rfl) (.tmp 34) (.tmp 42) (by rfl) hE.out flat_bv (by go_simp) hown.out (by go_simp) hs5.out hszb hz5 ?_; intro A6 c6 w6 hown6 hgr6 hb6 _; have hbw : Below W.heap.size W w6 := hbA.drew.trans hb6; have r6 := hr1.out.below hbw; obtain ⟨-, -, u2, -, -⟩ := r6.facts; have u1 := (hbw.cell (p := ⟨w.heap.size, 1, none⟩) (by show w.heap.size < _; omega)).trans n1; have ue := (hbw.cell (p := ⟨bE, v, none⟩) hE1).trans eo; rw [Nat.zero_add, List.nil_append] at hown6; replace hbw := hide hbw; replace r6 := hide r6; replace hown6 := hide hown6))
    go_wp2_with fail
    go_ret
    have hres := hown6.out.sl flat_bv
    have hh := hres
    rw [← hsem.out] at hres
    exact ⟨A6, c6, sv, cl, rfl, hres.more (by omega) (Nat.le_refl _), hr1.out.wide hbw.out hh (by have := hD.out.N40; omega), hpost.out, But.of_below (hb.out.trans (hbw.out.mono (by omega)))⟩

end
end Go.Proofs.YtanlgnjgpbjebaaGreatDoor

namespace Go.Proofs.YtanlgnjgpbjebaaGreatDoor
open Go.ChangeShapes Go.WideShapes Go.ChangeAt Go.RowKit
set_option linter.unusedVariables false
set_option linter.unusedSimpArgs false

section
variable {w0 : World} {br bE bS bC cE : Nat} {Af : Option Addr} {cf : Nat} {f : DN} {bt N : Nat} {x : CL} {ini : Int} {ls : List ByteArray} {es : List Ed}
set_option maxRecDepth 100000 in
set_option maxHeartbeats 6400000 in
theorem at_mod (hD : RunD w0 Af f bt x N ini ls es) {a : Tr} {k : Nat} (hP : PartF f (.one a) k) (hq : qF f k = 4 ∨ qF f k = 5) (IH : AtOk w0 br bE bS bC cE Af cf f bt N ini ls es a (k + 1))
    (hbase : ∀ b, RunT bE bS bC b → w0.heap.size ≤ b) : AtOk w0 br bE bS bC cE Af cf f bt N ini ls es (.one a) k := by
  intro P ρ sv cl w hw hr hpre
  have hk := hP.lt
  have hN := hD.N40
  have hlen := hD.val.len
  have hf : isFx (qF f k) = false := by unfold isFx; rcases hq with e | e <;> rw [e] <;> rfl
  obtain ⟨b, off, q, y, s, z, rfl, hqk, hx, hy, hsz, c0, c1, c2, c3, hb, hr1, hnew⟩ := at_begin hD hk hw hr
  have hk0 : (0 : Int) ≤ (k : Int) := by omega
  have hk1 : (k : Int) < (f.length : Int) := by omega
  have hsem : Hid (stpV (q, y, s, z) ((N : Int), ini, ls, es) (sem (sysF f ((N : Int), ini, ls, es)) a (k + 1) ρ) = sem (sysF f ((N : Int), ini, ls, es)) (.one a) k ρ) := by
    have hsc : ∀ j, (sysF f ((N : Int), ini, ls, es)).sc k j = (tgtN (q, y, s, z) ls es (j : Int)).map Int.toNat := fun j => by
      show (tgtN (ndA f k) ls es (j : Int)).map Int.toNat = _
      rw [ndA_at hx]
    show _ = _
    conv => rhs; unfold sem
    unfold stpV
    rcases hq with e | e
    · have e4 : q = 4 := hqk.symm.trans e
      rw [if_pos (show (sysF f ((N : Int), ini, ls, es)).q k = 4 from e)]
      refine setOf_congr fun j _ => ?_
      rw [hsc]
      show stpB _ ls es _ es.length j = _
      rw [stp_any, if_neg (by dsimp only; omega)]
    · have e5 : q = 5 := hqk.symm.trans e
      rw [if_neg (show ¬ (sysF f ((N : Int), ini, ls, es)).q k = 4 by show ¬ qF f k = 4; omega), if_pos (show (sysF f ((N : Int), ini, ls, es)).q k = 5 from e)]
      refine setOf_congr fun j _ => ?_
      rw [hsc]
      show stpB _ ls es _ es.length j = _
      rw [stp_any, if_pos e5]
  have hq45 : q = 4 ∨ q = 5 := by rw [← hqk]; exact hq
  have hnk : isFx (qF f k) = true → False := fun e => by rw [hf] at e; cases e
  obtain ⟨hPa, -, hark⟩ := hP.one hD.val.shape
  have har := hark hf
  have hpre1 := hpre.modal (M := sysF f ((N : Int), ini, ls, es)) hf
  rw [← har] at hpre1
  have hzw : (w.alloc (.cells #[.int .i64 q, .int .i64 y, .string s, .bool z] 67)).heap.size = w.heap.size + 1 := by simp
  have n0 := (cell_of_row _ _ 0 _ _ (0, 0) hnew).trans (show _ = some (Value.int .i64 q) from rfl)
  have n2 := (cell_of_row _ _ 2 _ _ (0, 0) hnew).trans (show _ = some (Value.string s) from rfl)
  have n3 := (cell_of_row _ _ 3 _ _ (0, 0) hnew).trans (show _ = some (Value.bool z) from rfl)
  obtain ⟨r0, r1, r2, r3, r4⟩ := hr.facts
  have hwn : w.heap.size < (w.alloc (.cells #[.int .i64 q, .int .i64 y, .string s, .bool z] 67)).heap.size := by rw [hzw]; exact Nat.lt_succ_self _
  have hwW := hw.trans (hb.mono hw.size)
  have hrt := hr.high
  have hW : Hid (∃ W, W = w.alloc (.cells #[.int .i64 q, .int .i64 y, .string s, .bool z] 67)) := ⟨_, rfl⟩
  replace hark := hide hark
  replace hD := hide hD
  replace hnew := hide hnew
  replace hsem := hide hsem
  replace hpre1 := hide hpre1
  replace hr1 := hide hr1
  replace hb := hide hb
  replace hwW := hide hwW
  replace hrt := hide hrt
  clear hpre hr hw hW
  have n0' := n0
  have hqa : (q == 0) = false := by rw [beq_eq_false_iff_ne]; omega
  have hqb : (q == 1) = false := by rw [beq_eq_false_iff_ne]; omega
  have hqc : (q == 6) = false := by rw [beq_eq_false_iff_ne]; omega
  have tail : ∀ W, W = w.alloc (.cells #[.int .i64 q, .int .i64 y, .string s, .bool z] 67) → True := fun _ _ => trivial
  clear tail
  rcases hq45 with rfl | rfl
  · go_enter Tryz.func82, Tryz.ntmps82
    go_upto_region 11 with fail
    generalize w.alloc (.cells #[.int .i64 4, .int .i64 y, .string s, .bool z] 67) = W at *
    have hrD := hr1.out.below (Below.refl W.heap.size W).drew
    have q1 := IH P ρ sv cl W.drew (hwW.out.trans ((Below.refl W.heap.size W).drew.mono hwW.out.size)) hrD hpre1.out
    rw [show ((k + 1 : Nat) : Int) = IntKind.i64.wrap ((k : Int) + 1) by rw [IntWalk.i64_in _ (by omega)]; omega] at q1
    replace q1 := hide q1
    obtain ⟨-, t1, -, -, -⟩ := hr1.out.facts
    clear hrD
    go_region_held3 (fun w' => w'.cell? ⟨br, 1, none⟩ = some (.pointer (some ⟨bt, 0, none⟩))) (first | exact t1 | exact u1 | exact v1 | go_keep)
      (first | (go_at_call 82; (with_reducible refine q1.out.mono ?_); rintro e w2 ⟨A2, c2, sv2, cl2, rfl, h2, r2, p2, b2⟩; obtain ⟨-, u1, -, -, -⟩ := r2.facts; have hz2 : W.heap.size ≤ w2.heap.size := b2.size; have hw2 : Below w0.heap.size w0 w2 := hwW.out.trans (((Below.refl W.heap.size W).drew.mono hwW.out.size).trans (b2.below hbase (show w0.heap.size ≤ W.drew.heap.size from hwW.out.size))); have hnT : ¬ RunT bE bS bC w.heap.size := fun ht => (by have := hrt.out _ ht; omega); have m0 := b2.cell (p := ⟨w.heap.size, 0, none⟩) n0 hwn hnT; have m2 := b2.cell (p := ⟨w.heap.size, 2, none⟩) n2 hwn hnT; have m3 := b2.cell (p := ⟨w.heap.size, 3, none⟩) n3 hwn hnT; have qS := hide (l14Step_calls w.heap.size 0 _ y s z bt x N ini ls es A2 c2 _ w2 (hD.out.lt.below hw2 (Nat.le_refl _)) hD.out.lv m0 m2 m3 (by omega) hsz (by omega) _ _ h2); replace h2 := hide h2; replace r2 := hide r2; replace p2 := hide p2; replace b2 := hide b2; replace hw2 := hide hw2; clear m0 m2 m3 hnT) | (go_at_call 106; (with_reducible refine qS.out.mono ?_); rintro e w5 ⟨A5, rfl, h5, hb5⟩; have hr5 := r2.out.weak.wide hb5 h5 (by omega); obtain ⟨-, v1, -, -, -⟩ := hr5.facts; replace hr5 := hide hr5; replace h5 := hide h5; replace hb5 := hide hb5))
    go_wp2_with fail
    go_ret
    have hh := h5.out
    rw [hsem.out.out] at hh
    have p3 := p2.out
    rw [har] at p3
    exact ⟨A5, N, sv2, cl2, rfl, hh.more (by have := b2.out.size; have : W.drew.heap.size = W.heap.size := rfl; omega) (Nat.le_refl _), hr5.out, PostR.modal p3 hf, ((But.of_below (hb.out.trans (((Below.refl W.heap.size W).drew).mono (by omega)))).trans b2.out).trans (But.of_below hb5.out)⟩
  · go_enter Tryz.func82, Tryz.ntmps82
    go_upto_region 11 with fail
    generalize w.alloc (.cells #[.int .i64 5, .int .i64 y, .string s, .bool z] 67) = W at *
    have hrD := hr1.out.below (Below.refl W.heap.size W).drew
    have q1 := IH P ρ sv cl W.drew (hwW.out.trans ((Below.refl W.heap.size W).drew.mono hwW.out.size)) hrD hpre1.out
    rw [show ((k + 1 : Nat) : Int) = IntKind.i64.wrap ((k : Int) + 1) by rw [IntWalk.i64_in _ (by omega)]; omega] at q1
    replace q1 := hide q1
    obtain ⟨-, t1, -, -, -⟩ := hr1.out.facts
    clear hrD
    go_region_held3 (fun w' => w'.cell? ⟨br, 1, none⟩ = some (.pointer (some ⟨bt, 0, none⟩))) (first | exact t1 | exact u1 | exact v1 | go_keep)
      (first | (go_at_call 82; (with_reducible refine q1.out.mono ?_); rintro e w2 ⟨A2, c2, sv2, cl2, rfl, h2, r2, p2, b2⟩; obtain ⟨-, u1, -, -, -⟩ := r2.facts; have hz2 : W.heap.size ≤ w2.heap.size := b2.size; have hw2 : Below w0.heap.size w0 w2 := hwW.out.trans (((Below.refl W.heap.size W).drew.mono hwW.out.size).trans (b2.below hbase (show w0.heap.size ≤ W.drew.heap.size from hwW.out.size))); have hnT : ¬ RunT bE bS bC w.heap.size := fun ht => (by have := hrt.out _ ht; omega); have m0 := b2.cell (p := ⟨w.heap.size, 0, none⟩) n0 hwn hnT; have m2 := b2.cell (p := ⟨w.heap.size, 2, none⟩) n2 hwn hnT; have m3 := b2.cell (p := ⟨w.heap.size, 3, none⟩) n3 hwn hnT; have qS := hide (l14Step_calls w.heap.size 0 _ y s z bt x N ini ls es A2 c2 _ w2 (hD.out.lt.below hw2 (Nat.le_refl _)) hD.out.lv m0 m2 m3 (by omega) hsz (by omega) _ _ h2); replace h2 := hide h2; replace r2 := hide r2; replace p2 := hide p2; replace b2 := hide b2; replace hw2 := hide hw2; clear m0 m2 m3 hnT) | (go_at_call 106; (with_reducible refine qS.out.mono ?_); rintro e w5 ⟨A5, rfl, h5, hb5⟩; have hr5 := r2.out.weak.wide hb5 h5 (by omega); obtain ⟨-, v1, -, -, -⟩ := hr5.facts; replace hr5 := hide hr5; replace h5 := hide h5; replace hb5 := hide hb5))
    go_wp2_with fail
    go_ret
    have hh := h5.out
    rw [hsem.out.out] at hh
    have p3 := p2.out
    rw [har] at p3
    exact ⟨A5, N, sv2, cl2, rfl, hh.more (by have := b2.out.size; have : W.drew.heap.size = W.heap.size := rfl; omega) (Nat.le_refl _), hr5.out, PostR.modal p3 hf, ((But.of_below (hb.out.trans (((Below.refl W.heap.size W).drew).mono (by omega)))).trans b2.out).trans (But.of_below hb5.out)⟩

end
end Go.Proofs.YtanlgnjgpbjebaaGreatDoor

namespace Go.Proofs.YtanlgnjgpbjebaaGreatDoor
open Go.ChangeShapes Go.WideShapes Go.ChangeAt Go.RowKit
set_option linter.unusedVariables false
set_option linter.unusedSimpArgs false

theorem But.fresh {T : Nat → Prop} {a b c : World} {x : Nat} (h : But T a b) (g : But (fun y => y = x) b c) (hx : a.heap.size ≤ x) : But T a c :=
  ⟨g.os.trans h.os, g.tape.trans h.tape, g.output.trans h.output, Nat.le_trans h.size g.size, fun y hy hn => (g.block y (Nat.lt_of_lt_of_le hy h.size) (by show ¬ y = x; omega)).trans (h.block y hy hn)⟩
def cmbQ (q : Int) (u v : Bool) : Bool := if q = 2 then u && v else u || v
section
variable {w0 : World} {br bE bS bC cE : Nat} {Af : Option Addr} {cf : Nat} {f : DN} {bt N : Nat} {x : CL} {ini : Int} {ls : List ByteArray} {es : List Ed}
set_option maxRecDepth 100000 in
set_option maxHeartbeats 6400000 in
theorem at_fx (hD : RunD w0 Af f bt x N ini ls es) {a : Tr} {k : Nat} (hP : PartF f (.one a) k) (hq : qF f k = 7 ∨ qF f k = 8) (IH : AtOk w0 br bE bS bC cE Af cf f bt N ini ls es a (k + 1))
    (hbase : ∀ b, RunT bE bS bC b → w0.heap.size ≤ b) : AtOk w0 br bE bS bC cE Af cf f bt N ini ls es (.one a) k := by
  intro P ρ sv cl w hw hr hpre
  have hk := hP.lt
  have hlen := hD.val.len
  have hf : isFx (qF f k) = true := by unfold isFx; rcases hq with e | e <;> rw [e] <;> rfl
  obtain ⟨b, off, q, y, s, z, rfl, hqk, hx, hy, hsz, c0, c1, c2, c3, hb, hr1, hnew⟩ := at_begin hD hk hw hr
  have hk0 : (0 : Int) ≤ (k : Int) := by omega
  have hk1 : (k : Int) < (f.length : Int) := by omega
  have hzw : w.heap.size ≤ (w.alloc (.cells #[.int .i64 q, .int .i64 y, .string s, .bool z] 67)).heap.size := by simp
  have n0 := (cell_of_row _ _ 0 _ _ (0, 0) hnew).trans (show _ = some (Value.int .i64 q) from rfl)
  obtain ⟨r0, r1, r2, r3, r4⟩ := hr.facts
  have q1 := hide (fixed_calls hD hP hf IH hbase (P := P) ρ sv cl _ (hw.trans (hb.mono hw.size)) hr1 hpre)
  have hq78 : q = 7 ∨ q = 8 := by rw [← hqk]; exact hq
  replace hb := hide hb
  clear hr hnew hD hP hpre hw hx hy hr1 IH r1 r2 r3 r4 hf hqk hq
  rcases hq78 with rfl | rfl
  all_goals
    go_enter Tryz.func82, Tryz.ntmps82
    go_wp2_with (first | (go_at_call 107; (with_reducible refine q1.out.mono ?_); rintro e w2 ⟨A2, c2', sv2, cl2, rfl, h2, r2, p2, b2⟩))
    go_ret
    exact ⟨A2, c2', sv2, cl2, rfl, h2.more hzw (Nat.le_refl _), r2, p2, (But.of_below hb.out).trans b2⟩

set_option maxRecDepth 100000 in
set_option maxHeartbeats 12800000 in
theorem at_two (hD : RunD w0 Af f bt x N ini ls es) {a b' : Tr} {k : Nat} (hP : PartF f (.two a b') k) (hq : qF f k = 2 ∨ qF f k = 3) (IHa : AtOk w0 br bE bS bC cE Af cf f bt N ini ls es a (k + 1)) (IHb : AtOk w0 br bE bS bC cE Af cf f bt N ini ls es b' (k + 1 + a.size))
    (hbase : ∀ b, RunT bE bS bC b → w0.heap.size ≤ b) : AtOk w0 br bE bS bC cE Af cf f bt N ini ls es (.two a b') k := by
  intro P ρ sv cl w hw hr hpre
  have hk := hP.lt
  have hN := hD.N40
  have hlen := hD.val.len
  obtain ⟨b, off, q, y, s, z, rfl, hqk, hx, hy, hsz, c0, c1, c2, c3, hb, hr1, hnew⟩ := at_begin hD hk hw hr
  have hk0 : (0 : Int) ≤ (k : Int) := by omega
  have hk1 : (k : Int) < (f.length : Int) := by omega
  have hzw : (w.alloc (.cells #[.int .i64 q, .int .i64 y, .string s, .bool z] 67)).heap.size = w.heap.size + 1 := by simp
  have n0 := (cell_of_row _ _ 0 _ _ (0, 0) hnew).trans (show _ = some (Value.int .i64 q) from rfl)
  obtain ⟨r0, r1, r2, r3, r4⟩ := hr.facts
  obtain ⟨hPa, hPb, ar1, ar2⟩ := hP.two hD.val.shape
  have hka := hPa.lt
  have hEnd := hPa.endF_
  have hwW := hw.trans (hb.mono hw.size)
  have hrt := hr.high
  have hsem : Hid (sem (sysF f ((N : Int), ini, ls, es)) (.two a b') k ρ = setOf N fun j => cmbQ q (inS (sem (sysF f ((N : Int), ini, ls, es)) a (k + 1) ρ) j) (inS (sem (sysF f ((N : Int), ini, ls, es)) b' (k + 1 + a.size) ρ) j)) := by
    show _ = _
    conv => lhs; unfold sem
    by_cases e : q = 2
    · rw [if_pos (show (sysF f ((N : Int), ini, ls, es)).q k = 2 from hqk.trans e)]
      exact setOf_congr fun j _ => (if_pos e).symm
    · rw [if_neg (show ¬ (sysF f ((N : Int), ini, ls, es)).q k = 2 from fun c => e (hqk.symm.trans c))]
      exact setOf_congr fun j _ => (if_neg e).symm
  have hpl := hpre.left
  rw [← ar1] at hpl
  have q1 := IHa P ρ sv cl _ hwW hr1 hpl
  rw [show ((k + 1 : Nat) : Int) = (k : Int) + 1 by omega] at q1
  replace q1 := hide q1
  have q2 := hide (fun P' sv cl W h1 h2 h3 => IHb P' ρ sv cl W h1 h2 h3)
  have qE := hide (fun W (hW : Below w0.heap.size w0 W) => l19End_calls (some ⟨b, off, none⟩) f.length cf f (k + 1) W 0 w0.heap.size (hD.fs.below hW (.inr (Nat.le_refl _))) hD.val.shp hka)
  have hq23 : q = 2 ∨ q = 3 := by rw [← hqk]; exact hq
  have hXl : Hid ((sem (sysF f ((N : Int), ini, ls, es)) a (k + 1) ρ).length = N) := sem_len _ _ _ _
  generalize hXe : sem (sysF f ((N : Int), ini, ls, es)) a (k + 1) ρ = X at *
  generalize hYe : sem (sysF f ((N : Int), ini, ls, es)) b' (k + 1 + a.size) ρ = Y at *
  replace hb := hide hb
  replace hpre := hide hpre
  replace hrt := hide hrt
  replace hwW := hide hwW
  replace hPa := hide hPa
  have hka0 : (0 : Int) ≤ (k : Int) + 1 := by omega
  have hka1 : (k : Int) + 1 < (f.length : Int) := by omega
  clear hr hnew hD hP hw hx hy hr1 IHa IHb r1 r2 r3 r4 hqk hq hpl hXe hYe
  rcases hq23 with rfl | rfl
  · go_enter Tryz.func82, Tryz.ntmps82
    go_upto_region 16 with (first | (go_at_call 82; (with_reducible refine q1.out.mono ?_); rintro e w2 ⟨A2, c2', sv2, cl2, rfl, h2, r2, p2, b2⟩; clear q1; rw [ar1] at p2; have hpR := hpre.out.right p2; rw [← ar2] at hpR; have hw2 : Below w0.heap.size w0 w2 := hwW.out.trans (b2.below hbase hwW.out.size); obtain ⟨u0, -, -, -, -⟩ := r2.facts; have qE2 := qE.out w2 hw2; rw [hEnd] at qE2; rw [show ((k + 1 : Nat) : Int) = (k : Int) + 1 by omega] at qE2; replace qE2 := hide qE2; have q3 := q2.out _ sv2 cl2 w2 hw2 r2 hpR; rw [show ((k + 1 + a.size : Nat) : Int) = (k : Int) + 1 + (a.size : Int) by omega] at q3; replace q3 := hide q3; replace h2 := hide h2; replace p2 := hide p2; replace b2 := hide b2; replace hw2 := hide hw2; clear qE q2 r2 hpR) | (go_at_call 81; (with_reducible refine qE2.out.mono ?_); rintro e w4 ⟨rfl, rfl⟩) | (go_at_call 82; (with_reducible refine q3.out.mono ?_); rintro e w3 ⟨A3, c3', sv3, cl3, rfl, h3, r3, p3, b3⟩; clear q3))
    rw [ar2] at p3
    have hpost := hide (PostR.two p2.out p3)
    generalize hWe : w.alloc (.cells #[.int .i64 2, .int .i64 y, .string s, .bool z] 67) = W at *
    have hWs : W.heap.size ≤ w2.heap.size := b2.out.size
    have hnT : ¬ RunT bE bS bC w.heap.size := fun ht => by have := hrt.out _ ht; omega
    have m2 := b2.out.cell (p := ⟨w.heap.size, 0, none⟩) n0 (by show w.heap.size < _; omega) hnT
    have m3 := b3.cell (p := ⟨w.heap.size, 0, none⟩) m2 (by show w.heap.size < _; omega) hnT
    have H2 := h2.out.but b3 (fun t ht => .inl (by have := hrt.out t ht; omega))
    obtain ⟨ba, oa, rfl, ga1, ga2, -⟩ := H2.at_ (show 0 < N by omega)
    obtain ⟨bb, ob, rfl, gb1, gb2, -⟩ := h3.at_ (show 0 < N by omega)
    have hbut3 := hide ((But.of_below hb.out).trans (b2.out.trans b3))
    have hb3s := b3.size
    have r3w := hide r3.weak
    replace h3 := hide h3
    clear h2 p2 p3 b2 b3 r3 m2 n0 u0 hnT qE2 c0 c1 c2 c3 r0 hpre hPa hWe
    have H2' : Hid (SlB w3 W.heap.size w2.heap.size (some ⟨ba, oa, none⟩) N (setOf N fun j => if j < 0 then (inS X j && inS Y j) else inS X j)) := by
      show SlB _ _ _ _ _ _
      rw [setOf_congr (q := inS X) (fun j _ => if_neg (Nat.not_lt_zero j)), setOf_inS hXl.out]
      exact H2
    clear H2
    go_wp2_with fail
    go_loopw [8] (fun i wr => ∃ j : Nat, j ≤ N ∧ i = .int .i64 (j : Nat) ∧ Hid (SlB wr W.heap.size w2.heap.size (some ⟨ba, oa, none⟩) N (setOf N fun t => if t < j then (inS X t && inS Y t) else inS X t)) ∧ Hid (But (fun t => t = ba) w3 wr)) (fun i _ => N - (intOf i).toNat)
    case atStart => exact ⟨0, Nat.zero_le _, rfl, H2', But.refl _ _⟩
    case round =>
      clear H2'
      obtain ⟨j, hj, rfl, hs, hbr⟩ := hrel
      by_cases hlt : j < N
      · obtain ⟨d0, z0, -⟩ := SlB.cell hs.out hlt
        rw [show inS (setOf N fun t => if t < j then (inS X t && inS Y t) else inS X t) j = inS X j by rw [inS_setOf, decide_eq_true hlt, if_neg (Nat.lt_irrefl j), Bool.true_and]] at d0
        obtain ⟨d1, -⟩ := SlB.cell (h3.out.but hbr.out (fun t ht => .inl (by subst ht; exact Nat.lt_of_lt_of_le ga2 (Nat.le_refl _)))) hlt
        have mr := hbr.out.cell (p := ⟨w.heap.size, 0, none⟩) m3 (by show w.heap.size < _; omega) (by show ¬ w.heap.size = ba; omega)
        have hnext := hs.out.put hlt (inS X j && inS Y j)
        rw [setOf_put (p' := fun t => if t < j + 1 then (inS X t && inS Y t) else inS X t) hlt (fun t _ => by
          by_cases e : t = j
          · subst e; rw [if_pos (Nat.lt_succ_self _), if_pos rfl]
          · rw [if_neg e]
            by_cases e2 : t < j
            · rw [if_pos e2, if_pos (by omega)]
            · rw [if_neg e2, if_neg (by omega)])] at hnext
        have hbn := hbr.out.trans (But.set (T := fun t => t = ba) wr ⟨ba, oa + j, none⟩ (.bool (inS X j && inS Y j)) rfl)
        replace hnext := hide hnext
        replace hbn := hide hbn
        have hj0 : (0 : Int) ≤ (j : Int) := by omega
        have hj1 : (j : Int) < (N : Int) := by omega
        clear hs hbr
        generalize inS X j = xj at *
        generalize inS Y j = yj at *
        cases xj <;> cases yj
        all_goals
          go_wp2_with fail
          go_roundw
          case rel => exact ⟨j + 1, by omega, by go_num, hnext, hbn⟩
          case measure => simp [intOf]; omega
      · have hjN : j = N := by omega
        subst hjN
        go_wp2_with fail
        go_ret
        have h32 : ∀ u v : Bool, cmbQ 2 u v = (u && v) := fun u v => by unfold cmbQ; rfl
        have hfin := hs.out
        rw [setOf_congr (q := fun t => (inS X t && inS Y t)) (fun t ht => if_pos ht), ← setOf_congr (p := fun t => cmbQ 2 (inS X t) (inS Y t)) (q := fun t => (inS X t && inS Y t)) (fun t _ => h32 _ _), ← hsem.out] at hfin
        exact ⟨_, c2', sv3, cl3, rfl, hfin.more (by omega) (Nat.le_trans (Nat.le_trans hb3s hbr.out.size) (Nat.le_refl _)), r3w.out.own (hbr.out.more fun t ht => .inr ⟨_, rfl, ht.symm⟩), hpost.out, hbut3.out.fresh hbr.out (by omega)⟩
  · go_enter Tryz.func82, Tryz.ntmps82
    go_upto_region 16 with (first | (go_at_call 82; (with_reducible refine q1.out.mono ?_); rintro e w2 ⟨A2, c2', sv2, cl2, rfl, h2, r2, p2, b2⟩; clear q1; rw [ar1] at p2; have hpR := hpre.out.right p2; rw [← ar2] at hpR; have hw2 : Below w0.heap.size w0 w2 := hwW.out.trans (b2.below hbase hwW.out.size); obtain ⟨u0, -, -, -, -⟩ := r2.facts; have qE2 := qE.out w2 hw2; rw [hEnd] at qE2; rw [show ((k + 1 : Nat) : Int) = (k : Int) + 1 by omega] at qE2; replace qE2 := hide qE2; have q3 := q2.out _ sv2 cl2 w2 hw2 r2 hpR; rw [show ((k + 1 + a.size : Nat) : Int) = (k : Int) + 1 + (a.size : Int) by omega] at q3; replace q3 := hide q3; replace h2 := hide h2; replace p2 := hide p2; replace b2 := hide b2; replace hw2 := hide hw2; clear qE q2 r2 hpR) | (go_at_call 81; (with_reducible refine qE2.out.mono ?_); rintro e w4 ⟨rfl, rfl⟩) | (go_at_call 82; (with_reducible refine q3.out.mono ?_); rintro e w3 ⟨A3, c3', sv3, cl3, rfl, h3, r3, p3, b3⟩; clear q3))
    rw [ar2] at p3
    have hpost := hide (PostR.two p2.out p3)
    generalize hWe : w.alloc (.cells #[.int .i64 3, .int .i64 y, .string s, .bool z] 67) = W at *
    have hWs : W.heap.size ≤ w2.heap.size := b2.out.size
    have hnT : ¬ RunT bE bS bC w.heap.size := fun ht => by have := hrt.out _ ht; omega
    have m2 := b2.out.cell (p := ⟨w.heap.size, 0, none⟩) n0 (by show w.heap.size < _; omega) hnT
    have m3 := b3.cell (p := ⟨w.heap.size, 0, none⟩) m2 (by show w.heap.size < _; omega) hnT
    have H2 := h2.out.but b3 (fun t ht => .inl (by have := hrt.out t ht; omega))
    obtain ⟨ba, oa, rfl, ga1, ga2, -⟩ := H2.at_ (show 0 < N by omega)
    obtain ⟨bb, ob, rfl, gb1, gb2, -⟩ := h3.at_ (show 0 < N by omega)
    have hbut3 := hide ((But.of_below hb.out).trans (b2.out.trans b3))
    have hb3s := b3.size
    have r3w := hide r3.weak
    replace h3 := hide h3
    clear h2 p2 p3 b2 b3 r3 m2 n0 u0 hnT qE2 c0 c1 c2 c3 r0 hpre hPa hWe
    have H2' : Hid (SlB w3 W.heap.size w2.heap.size (some ⟨ba, oa, none⟩) N (setOf N fun j => if j < 0 then (inS X j || inS Y j) else inS X j)) := by
      show SlB _ _ _ _ _ _
      rw [setOf_congr (q := inS X) (fun j _ => if_neg (Nat.not_lt_zero j)), setOf_inS hXl.out]
      exact H2
    clear H2
    go_wp2_with fail
    go_loopw [8] (fun i wr => ∃ j : Nat, j ≤ N ∧ i = .int .i64 (j : Nat) ∧ Hid (SlB wr W.heap.size w2.heap.size (some ⟨ba, oa, none⟩) N (setOf N fun t => if t < j then (inS X t || inS Y t) else inS X t)) ∧ Hid (But (fun t => t = ba) w3 wr)) (fun i _ => N - (intOf i).toNat)
    case atStart => exact ⟨0, Nat.zero_le _, rfl, H2', But.refl _ _⟩
    case round =>
      clear H2'
      obtain ⟨j, hj, rfl, hs, hbr⟩ := hrel
      by_cases hlt : j < N
      · obtain ⟨d0, z0, -⟩ := SlB.cell hs.out hlt
        rw [show inS (setOf N fun t => if t < j then (inS X t || inS Y t) else inS X t) j = inS X j by rw [inS_setOf, decide_eq_true hlt, if_neg (Nat.lt_irrefl j), Bool.true_and]] at d0
        obtain ⟨d1, -⟩ := SlB.cell (h3.out.but hbr.out (fun t ht => .inl (by subst ht; exact Nat.lt_of_lt_of_le ga2 (Nat.le_refl _)))) hlt
        have mr := hbr.out.cell (p := ⟨w.heap.size, 0, none⟩) m3 (by show w.heap.size < _; omega) (by show ¬ w.heap.size = ba; omega)
        have hnext := hs.out.put hlt (inS X j || inS Y j)
        rw [setOf_put (p' := fun t => if t < j + 1 then (inS X t || inS Y t) else inS X t) hlt (fun t _ => by
          by_cases e : t = j
          · subst e; rw [if_pos (Nat.lt_succ_self _), if_pos rfl]
          · rw [if_neg e]
            by_cases e2 : t < j
            · rw [if_pos e2, if_pos (by omega)]
            · rw [if_neg e2, if_neg (by omega)])] at hnext
        have hbn := hbr.out.trans (But.set (T := fun t => t = ba) wr ⟨ba, oa + j, none⟩ (.bool (inS X j || inS Y j)) rfl)
        replace hnext := hide hnext
        replace hbn := hide hbn
        have hj0 : (0 : Int) ≤ (j : Int) := by omega
        have hj1 : (j : Int) < (N : Int) := by omega
        clear hs hbr
        generalize inS X j = xj at *
        generalize inS Y j = yj at *
        cases xj <;> cases yj
        all_goals
          go_wp2_with fail
          go_roundw
          case rel => exact ⟨j + 1, by omega, by go_num, hnext, hbn⟩
          case measure => simp [intOf]; omega
      · have hjN : j = N := by omega
        subst hjN
        go_wp2_with fail
        go_ret
        have h32 : ∀ u v : Bool, cmbQ 3 u v = (u || v) := fun u v => by unfold cmbQ; rfl
        have hfin := hs.out
        rw [setOf_congr (q := fun t => (inS X t || inS Y t)) (fun t ht => if_pos ht), ← setOf_congr (p := fun t => cmbQ 3 (inS X t) (inS Y t)) (q := fun t => (inS X t || inS Y t)) (fun t _ => h32 _ _), ← hsem.out] at hfin
        exact ⟨_, c2', sv3, cl3, rfl, hfin.more (by omega) (Nat.le_trans (Nat.le_trans hb3s hbr.out.size) (Nat.le_refl _)), r3w.out.own (hbr.out.more fun t ht => .inr ⟨_, rfl, ht.symm⟩), hpost.out, hbut3.out.fresh hbr.out (by omega)⟩

theorem at_calls (hD : RunD w0 Af f bt x N ini ls es) (hbase : ∀ b, RunT bE bS bC b → w0.heap.size ≤ b) (T : Tr) : ∀ k, PartF f T k → AtOk w0 br bE bS bC cE Af cf f bt N ini ls es T k := by
  induction T with
  | leaf => exact fun k hP => at_leaf hD hP
  | one a ih =>
    intro k hP
    have hA := (hP.at_ hD.val.shape).1
    have h1 := ih (k + 1) (hP.one hD.val.shape).1
    cases hf : isFx (qF f k) with
    | true => exact at_fx hD hP (by unfold isFx at hf; simpa using hf) h1 hbase
    | false => exact at_mod hD hP (not_fx hA (by rw [hf]; decide)) h1 hbase
  | two a b iha ihb =>
    intro k hP
    have hA := (hP.at_ hD.val.shape).1
    obtain ⟨p1, p2, -⟩ := hP.two hD.val.shape
    refine at_two hD hP ?_ (iha _ p1) (ihb _ p2) hbase
    unfold arityQ at hA
    split at hA
    · assumption
    · split at hA <;> omega

end
end Go.Proofs.YtanlgnjgpbjebaaGreatDoor

namespace Go.Proofs.YtanlgnjgpbjebaaGreatDoor
open Go.ChangeShapes Go.WideShapes Go.ChangeAt Go.RowKit
set_option linter.unusedVariables false
set_option linter.unusedSimpArgs false

theorem info_rowB : (Tryz.prog.info? 65).map (fun i => (i.zero, i.size, i.bytes)) = some (some (.slice none 0 0), 1, 24) := by kernel_rfl
theorem run_make_rowsB (n : Nat) (hn : n ≤ 1048576) (W : World) : (Instr.makeSlice 81 (.int .i64 (n : Int)) (.int .i64 (n : Int))).run Tryz.prog W = .ok (.slice (some ⟨W.heap.size, 0, none⟩) n n) (W.alloc (.cells (madeCells #[.slice none 0 0] n) 65)) := by
  obtain ⟨i0, hi0, hz0, hz1, hz2⟩ := info_parts info_rowB
  have h := make_row (P := Tryz.prog) 81 65 i0 _ _ n Tryz.underlying81 hi0 hz0 hz1 (by rw [hz2]; omega) (by omega) W
  rw [Nat.mul_one] at h
  exact h
/-- The evaluation's memory before its sets of variables. -/
structure BegW (w wx : World) (Af : Option Addr) (n cf bt bS bC : Nat) : Prop where
  below : Below w.heap.size w wx
  size : wx.heap.size = w.heap.size + 1 + 1 + 1
  cells : wx.heap[w.heap.size + 1 + 1]? = some (.cells #[.slice Af n cf, .pointer (some ⟨bt, 0, none⟩), .slice none 0 0, .slice (some ⟨bS, 0, none⟩) n n, .slice (some ⟨bC, 0, none⟩) n n] 103 (0, 0))
  s : wx.heap[bS]? = some (.cells (madeCells #[.slice none 0 0] n) 65 (0, 0))
  c : wx.heap[bC]? = some (.cells (madeCells #[.slice none 0 0] n) 65 (0, 0))
  ne : bS ≠ bC
  lo : w.heap.size ≤ bS ∧ bS < w.heap.size + 1 + 1 ∧ w.heap.size ≤ bC ∧ bC < w.heap.size + 1 + 1
theorem BegW.made (w : World) (Af : Option Addr) (n cf bt bS bC : Nat) (h : (bS = w.heap.size ∧ bC = w.heap.size + 1) ∨ (bS = w.heap.size + 1 ∧ bC = w.heap.size)) :
    BegW w ((((w.alloc (.cells (madeCells #[.slice none 0 0] n) 65)).alloc (.cells (madeCells #[.slice none 0 0] n) 65)).alloc (.cells #[.slice Af n cf, .pointer (some ⟨bt, 0, none⟩), .slice none 0 0, .slice (some ⟨bS, 0, none⟩) n n, .slice (some ⟨bC, 0, none⟩) n n] 103)).drew) Af n cf bt bS bC := by
  have k1 := heap_alloc_new w (.cells (madeCells #[.slice none 0 0] n) 65)
  generalize hR : Obj.cells #[.slice Af n cf, .pointer (some ⟨bt, 0, none⟩), .slice none 0 0, .slice (some ⟨bS, 0, none⟩) n n, .slice (some ⟨bC, 0, none⟩) n n] 103 = R at *
  have hb1 : Below w.heap.size w (w.alloc (.cells (madeCells #[.slice none 0 0] n) 65)) := (Below.refl _ _).alloc (Nat.le_refl _) _
  have z1 : (w.alloc (.cells (madeCells #[.slice none 0 0] n) 65)).heap.size = w.heap.size + 1 := by simp
  generalize w.alloc (.cells (madeCells #[.slice none 0 0] n) 65) = w1 at *
  have k2 := heap_alloc_new w1 (.cells (madeCells #[.slice none 0 0] n) 65)
  have hb2 : Below w1.heap.size w1 (w1.alloc (.cells (madeCells #[.slice none 0 0] n) 65)) := (Below.refl _ _).alloc (Nat.le_refl _) _
  have z2 : (w1.alloc (.cells (madeCells #[.slice none 0 0] n) 65)).heap.size = w1.heap.size + 1 := by simp
  generalize w1.alloc (.cells (madeCells #[.slice none 0 0] n) 65) = w2 at *
  have k3 := heap_alloc_new w2 R
  have hb3 : Below w2.heap.size w2 (w2.alloc R) := (Below.refl _ _).alloc (Nat.le_refl _) _
  have z3 : (w2.alloc R).heap.size = w2.heap.size + 1 := by simp
  generalize w2.alloc R = w3 at *
  have a1 := (hb3.block w.heap.size (by omega)).trans ((hb2.block w.heap.size (by omega)).trans k1)
  have a2 := (hb3.block w1.heap.size (by omega)).trans k2
  rw [z1] at a2
  rw [z2, z1] at k3
  have hbel : Below w.heap.size w w3 := hb1.trans ((hb2.mono (by omega)).trans (hb3.mono (by omega)))
  subst hR
  have hbel2 := hbel.drew
  rcases h with ⟨rfl, rfl⟩ | ⟨rfl, rfl⟩
  · exact ⟨hbel2, by show w3.heap.size = _; omega, k3, a1, a2, by omega, by omega⟩
  · exact ⟨hbel2, by show w3.heap.size = _; omega, k3, a2, a1, by omega, by omega⟩
def rv (N : Nat) (b : Nat) : List Value := [.slice (some ⟨b, 0, none⟩) N N]
theorem flat_rv (N : Nat) : Flat (rv N) 1 := ⟨fun _ => rfl, fun x u h => by simp [rv] at h; subst h; rfl⟩
theorem elem_rowB : Elem Tryz.prog 81 65 1 24 := Elem.of Tryz.underlying81 info_rowB rfl (by omega) (by omega)
/-- The rows made so far: each is a new list of N times false, in a block of its own. -/
structure EnvW (wr : World) (B N j c : Nat) (A : Option Addr) (l : List Nat) : Prop where
  own : Own 1 (rv N) wr B 65 A j c l
  row : ∀ (i b : Nat), l[i]? = some b → SlB wr B wr.heap.size (some ⟨b, 0, none⟩) N (setOf N fun _ => false) ∧ b < wr.heap.size ∧ B ≤ b ∧ ∀ g, (Value.slice A j c).ownBlock = some g → b ≠ g
theorem EnvW.start (wr : World) (B N : Nat) : EnvW wr B N 0 0 none [] := ⟨Own.nil_ _ _ _, fun i v h => by simp at h⟩
/-- What the loop keeps. -/
structure BegL (w wr : World) (Af : Option Addr) (n cf bt bS bC B N j c : Nat) (A : Option Addr) (l : List Nat) : Prop where
  below : Below w.heap.size w wr
  cells : wr.heap[w.heap.size + 1 + 1]? = some (.cells #[.slice Af n cf, .pointer (some ⟨bt, 0, none⟩), .slice A j c, .slice (some ⟨bS, 0, none⟩) n n, .slice (some ⟨bC, 0, none⟩) n n] 103 (0, 0))
  rs : wr.heap[bS]? = some (.cells (madeCells #[.slice none 0 0] n) 65 (0, 0))
  rc : wr.heap[bC]? = some (.cells (madeCells #[.slice none 0 0] n) 65 (0, 0))
  env : EnvW wr B N j c A l
  hb : w.heap.size + 1 + 1 < B ∧ bS < B ∧ bC < B ∧ B ≤ wr.heap.size ∧ bS ≠ w.heap.size + 1 + 1 ∧ bC ≠ w.heap.size + 1 + 1
  lo : w.heap.size ≤ bS ∧ w.heap.size ≤ bC
theorem BegW.start {w wx : World} {Af : Option Addr} {n cf bt bS bC : Nat} (h : BegW w wx Af n cf bt bS bC) (N : Nat) : BegL w wx Af n cf bt bS bC wx.heap.size N 0 0 none [] :=
  ⟨h.below, h.cells, h.s, h.c, EnvW.start _ _ _, by have := h.size; have := h.lo; omega, by have := h.lo; omega⟩
theorem BegL.next {w wr : World} {Af : Option Addr} {n cf bt bS bC B N j c : Nat} {A : Option Addr} {l : List Nat} (h : BegL w wr Af n cf bt bS bC B N j c A l) {A' : Option Addr} {c' : Nat} {w6 : World}
    (ho : Own 1 (rv N) w6 B 65 A' (j + 1) c' (l ++ [wr.heap.size]))
    (hg : ((wr.alloc (.cells (madeCells #[.bool false] N) 4)).alloc (.cells #[.slice (some ⟨wr.heap.size, 0, none⟩) N N] 65)).drew.grownBy w6 (Value.slice A j c).ownBlock)
    (hb : Below B ((wr.alloc (.cells (madeCells #[.bool false] N) 4)).alloc (.cells #[.slice (some ⟨wr.heap.size, 0, none⟩) N N] 65)).drew w6)
    (hat : (Value.slice A' (j + 1) c').ownBlock = (Value.slice A j c).ownBlock ∨ (Value.slice A' (j + 1) c').ownBlock = some ((wr.alloc (.cells (madeCells #[.bool false] N) 4)).alloc (.cells #[.slice (some ⟨wr.heap.size, 0, none⟩) N N] 65)).drew.heap.size) :
    BegL w (w6.setCell ⟨w.heap.size + 1 + 1, 2, none⟩ (.slice A' (j + 1) c')) Af n cf bt bS bC B N (j + 1) c' A' (l ++ [wr.heap.size]) := by
  obtain ⟨hbel, hcells, hs, hc, henv, ⟨b0, b1, b2, b3, b4, b5⟩, hlo⟩ := h
  have hbA : Below wr.heap.size wr (wr.alloc (.cells (madeCells #[.bool false] N) 4)) := (Below.refl _ _).alloc (Nat.le_refl _) _
  have hmade := SlB.made wr N
  have z1 : (wr.alloc (.cells (madeCells #[.bool false] N) 4)).heap.size = wr.heap.size + 1 := by simp
  generalize wr.alloc (.cells (madeCells #[.bool false] N) 4) = w1 at *
  have hbB : Below w1.heap.size w1 (w1.alloc (.cells #[.slice (some ⟨wr.heap.size, 0, none⟩) N N] 65)) := (Below.refl _ _).alloc (Nat.le_refl _) _
  have z2 : (w1.alloc (.cells #[.slice (some ⟨wr.heap.size, 0, none⟩) N N] 65)).heap.size = w1.heap.size + 1 := by simp
  have hbC := hbB.drew
  have z3 : (w1.alloc (.cells #[.slice (some ⟨wr.heap.size, 0, none⟩) N N] 65)).drew.heap.size = w1.heap.size + 1 := z2
  generalize (w1.alloc (.cells #[.slice (some ⟨wr.heap.size, 0, none⟩) N N] 65)).drew = w2 at *
  have hA2 : Below wr.heap.size wr w2 := hbA.trans (hbC.mono (by omega))
  have hz6 := hb.size
  have keep6 : ∀ b, b < B → w6.heap[b]? = wr.heap[b]? := fun b hb' => (hb.block b hb').trans (hA2.block b (by omega))
  have keep7 : ∀ b, b < B → b ≠ w.heap.size + 1 + 1 → (w6.setCell ⟨w.heap.size + 1 + 1, 2, none⟩ (.slice A' (j + 1) c')).heap[b]? = wr.heap[b]? := fun b hb' hne => (Below.heap_setCell _ _ _ _ hne).trans (keep6 b hb')
  have hlt := ho.lt
  have olt := henv.own.lt
  refine ⟨?_, ?_, (keep7 bS b1 b4).trans hs, (keep7 bC b2 b5).trans hc, ⟨?_, ?_⟩, ⟨b0, b1, b2, ?_, b4, b5⟩, hlo⟩
  · exact hbel.trans (((hA2.mono hbel.size).trans (hb.mono (by omega))).trans ((Below.refl _ _).setCell (by show w.heap.size ≤ w.heap.size + 1 + 1; omega) _))
  · exact heap_setCell_same _ _ _ _ _ _ ((keep6 _ b0).trans hcells)
  · exact ho.keep fun g hg' => Below.heap_setCell _ _ _ _ (by have := (hlt g hg').1; intro e; (try dsimp only at e); omega)
  · intro i b hv
    rw [List.getElem?_append] at hv
    split at hv
    · obtain ⟨hS, g1, g2, g3⟩ := henv.row i b hv
      have hkb : w6.heap[b]? = wr.heap[b]? := (hg.block b (by omega) (fun e => g3 b e.symm rfl)).trans (hA2.block b g1)
      refine ⟨(hS.keepB (by rw [World.size_setCell]; omega) (fun b' off h0 e _ _ => by cases e; exact (Below.heap_setCell _ _ _ _ (by intro e; (try dsimp only at e); omega)).trans hkb)).more (Nat.le_refl _) (by rw [World.size_setCell]; omega), by rw [World.size_setCell]; omega, g2, fun g hg' => ?_⟩
      rcases hat with e | e
      · exact g3 g (e ▸ hg')
      · rw [e] at hg'; cases hg'; omega
    · have hbe : b = wr.heap.size := by
        rcases hq : i - l.length with _ | q
        · rw [hq] at hv; simpa using hv.symm
        · rw [hq] at hv; simp at hv
      subst hbe
      have hkb : w6.heap[wr.heap.size]? = w1.heap[wr.heap.size]? := (hg.block _ (by omega) (fun e => by have := (olt _ e.symm).2; omega)).trans (hbC.block _ (by omega))
      refine ⟨(hmade.keepB (by rw [World.size_setCell]; omega) (fun b' off h0 e _ _ => by cases e; exact (Below.heap_setCell _ _ _ _ (by intro e; (try dsimp only at e); omega)).trans hkb)).more (by omega) (by rw [World.size_setCell]; omega), by rw [World.size_setCell]; omega, b3, fun g hg' => ?_⟩
      rcases hat with e | e
      · rw [e] at hg'
        have := (olt g hg').2
        omega
      · rw [e] at hg'; cases hg'; omega
  · rw [World.size_setCell]; omega

end Go.Proofs.YtanlgnjgpbjebaaGreatDoor

namespace Go.Proofs.YtanlgnjgpbjebaaGreatDoor
open Go
set_option linter.unusedVariables false

section
variable {P : Program} {ops : Array Oper} {Q : Exit → Act → World → Prop} {md : Region.Mode} {S : World → Prop} {st : Nat}

/-- Any order from here on; S holds behind each operation but number st. -/
def lateT (P : Program) (md : Region.Mode) (ops : Array Oper) (Q : Exit → Act → World → Prop) (S : World → Prop) (st : Nat) : Nat → Array Bool → Act → World → Prop
  | 0, got, a, w => Region.ready md ops got = [] ∧ Q .normal a w
  | m + 1, got, a, w => (Region.ready md ops got = [] → Q .normal a w) ∧
    ∀ i ∈ Region.ready md ops got, wpOp P ops Q i (fun a' w' => (i ≠ st → S w') ∧ lateT P md ops Q S st m (got.setIfInBounds i true) a' w') a w
theorem lateT.any : ∀ (m : Nat) (got : Array Bool) (a : Act) (w : World), lateT P md ops Q S st m got a w → wpAny P md ops Q m got a w
  | 0, _, _, _, h => h
  | m + 1, got, _, _, h => ⟨h.1, fun i hi => wpOp_mono (fun a' w' k => lateT.any m _ a' w' k.2) (h.2 i hi)⟩

/-- Each of these waits for the one ahead of it. -/
def chainW (md : Region.Mode) (ops : Array Oper) : Nat → List Nat → Bool
  | _, [] => true
  | i, d :: ds => Region.waitsFor md ops d i && chainW md ops d ds
def openW (got : Array Bool) (ds : List Nat) : Bool := ds.all fun d => !got.getD d true
theorem openW_mem {got : Array Bool} {ds : List Nat} (h : openW got ds = true) {d : Nat} (hd : d ∈ ds) : got.getD d true = false := by
  unfold openW at h
  have := List.all_eq_true.1 h d hd
  simpa using this
theorem chainW_shut {got : Array Bool} : ∀ (ds : List Nat) (i : Nat), chainW md ops i ds = true → got.getD i true = false → openW got ds = true → ∀ d ∈ ds, d ∉ Region.ready md ops got
  | [], _, _, _, _, d, hd => by cases hd
  | e :: ds, i, h, hi, ho, d, hd => by
    unfold chainW at h
    rw [Bool.and_eq_true] at h
    have he : got.getD e true = false := openW_mem ho (by simp)
    rcases List.mem_cons.1 hd with rfl | hd
    · intro hr
      obtain ⟨oj, h1, x, hx, hb, hon⟩ := Region.waitsFor_spec h.1
      obtain ⟨-, o, h2, h3⟩ := mem_ready.1 hr
      rw [h1] at h2
      obtain rfl := Option.some.inj h2
      have := h3 x hx hb
      rw [hon, getD_both hi] at this
      cases this
    · exact chainW_shut ds e h.2 he (by unfold openW at ho ⊢; rw [List.all_cons, Bool.and_eq_true] at ho; exact ho.2) d hd

theorem lateT_first {i : Nat} {oi : Oper} {v : Value} {ds : List Nat} (hi : ops[i]? = some oi) (hsel : Region.noSelect ops = true) (hc : chainW md ops i ds = true) (hst : st ∈ ds)
    (hQ : ∀ c a w, Q (.panic c) (a.put oi.dst v) w → Q (.panic c) a w) : ∀ (m : Nat) (got : Array Bool) (a : Act) (w : World),
      (∀ j oj, ops[j]? = some oj → j ≠ i → got.getD j true = false → (∀ e ∈ oj.after, Region.binds md e = true → e.on ≠ i) → oi.apart ops oj = true) →
      i ∈ Region.ready md ops got → openW got ds = true → YieldsIf P ops S oi v a → S w →
      lateT P md ops Q S st m (got.setIfInBounds i true) (a.put oi.dst v) w → lateT P md ops Q S st (m + 1) got a w
  | 0, got, a, w, _, hr, _, hy, hS, H => by
    refine ⟨fun h => (by rw [h] at hr; cases hr), fun j hj => ?_⟩
    by_cases hji : j = i
    · subst hji; exact hy.wpOp hi hS ⟨fun _ => hS, H⟩
    · have := ready_mono hj hji
      rw [H.1] at this
      cases this
  | m + 1, got, a, w, hfree, hr, ho, hy, hS, H => by
    refine ⟨fun h => (by rw [h] at hr; cases hr), fun j hj => ?_⟩
    by_cases hji : j = i
    · subst hji; exact hy.wpOp hi hS ⟨fun _ => hS, H⟩
    · have h1 := H.2 j (ready_mono hj hji)
      obtain ⟨hjun, oj, hoj, hall⟩ := mem_ready.1 hj
      have hi0 := (mem_ready.1 hr).1
      have hjd : j ∉ ds := fun hm => chainW_shut ds i hc hi0 ho j hm hj
      have hjst : j ≠ st := fun e => hjd (e ▸ hst)
      have hnot : ∀ e ∈ oj.after, Region.binds md e = true → e.on ≠ i := fun e he hb heq => by
        have h2 := hall e he hb
        rw [heq, getD_both hi0] at h2
        cases h2
      have h2 := wpOp_putIf hoj (hfree j oj hoj hji hjun hnot) (fun cs b => Region.noSelect_spec hsel i oi cs b hi) (fun cs b => Region.noSelect_spec hsel j oj cs b hoj) hQ hy h1
      refine wpOp_mono (fun a' w' h3 => ⟨h3.2.1, lateT_first hi hsel hc hst hQ m (got.setIfInBounds j true) a' w' (fun k ok hk hki hun hno => ?_) (ready_mono hr (Ne.symm hji)) ?_ h3.1 (h3.2.1 hjst) ?_⟩) h2
      · refine hfree k ok hk hki ?_ hno
        by_cases hjk : j = k
        · subst hjk; exact hjun
        · rw [getD_set_ne true hjk] at hun; exact hun
      · unfold openW
        rw [List.all_eq_true]
        intro d hd
        rw [getD_set_ne true (fun e : j = d => hjd (by rw [e]; exact hd)), openW_mem ho hd]
        rfl
      · rw [Array.setIfInBounds_comm _ _ hji]
        exact h3.2.2
/-- A read, an address, a copy is taken first. -/
theorem lateT_take {i : Nat} {oi : Oper} {v : Value} {m : Nat} {got : Array Bool} {a : Act} {w : World} (ds : List Nat) (hi : ops[i]? = some oi) (hsel : Region.noSelect ops = true) (hf : Region.free md ops got i = true)
    (hr : (Region.ready md ops got).contains i = true) (hc : (chainW md ops i ds && openW got ds && ds.contains st) = true) (hQ : ∀ c a w, Q (.panic c) (a.put oi.dst v) w → Q (.panic c) a w) (hy : YieldsIf P ops S oi v a) (hS : S w)
    (h : lateT P md ops Q S st m (got.setIfInBounds i true) (a.put oi.dst v) w) : lateT P md ops Q S st (m + 1) got a w := by
  rw [Bool.and_eq_true, Bool.and_eq_true] at hc
  exact lateT_first hi hsel hc.1.1 (by simpa using hc.2) hQ m got a w (Region.free_spec hi hf) (by simpa using hr) hc.1.2 hy hS h
/-- The only operation that may come. -/
theorem lateT_step {i : Nat} {o : Oper} {m : Nat} {got : Array Bool} {a : Act} {w : World} (hr : Region.ready md ops got = [i]) (ho : ops[i]? = some o)
    (h : ∀ K : Act → World → Prop, Shut (∀ a w, (i ≠ st → S w) → lateT P md ops Q S st m (got.setIfInBounds i true) a w → K a w) → if Region.wanted o (yielded ops a.tmps) = true then Oper.wp P o a w K Q else K (a.put o.dst undef) w) : lateT P md ops Q S st (m + 1) got a w := by
  refine ⟨fun h0 => (by rw [hr] at h0; cases h0), fun j hj => ?_⟩
  rw [hr] at hj
  obtain rfl := List.mem_singleton.1 hj
  exact wpOp_step ho fun K hK => h K fun a w hS hl => hK a w ⟨hS, hl⟩
theorem lateT_done {got : Array Bool} {a : Act} {w : World} (hr : Region.ready md ops got = []) (h : Q .normal a w) : ∀ m, lateT P md ops Q S st m got a w
  | 0 => ⟨hr, h⟩
  | _ + 1 => ⟨fun _ => h, by rw [hr]; simp⟩
theorem lateT_begin {id : Nat} {a : Act} {w : World} (hm : P.follows .mixedOrders = true) (h : lateT P .any ops Q S st ops.size (Array.replicate ops.size false) a w.drew) : (Code.region id ops true).wp P Q a w :=
  wp_region_any hm (lateT.any _ _ _ _ h)
end

end Go.Proofs.YtanlgnjgpbjebaaGreatDoor

namespace Go.Proofs.YtanlgnjgpbjebaaGreatDoor
open Go.ChangeShapes Go.WideShapes Go.ChangeAt Go.RowKit
set_option linter.unusedVariables false
set_option linter.unusedSimpArgs false

theorem Own.litR (w : World) (e : TypeId) (N b : Nat) {base : Nat} (hb : base ≤ w.heap.size) : Own 1 (rv N) (w.alloc (.cells #[.slice (some ⟨b, 0, none⟩) N N] e)) base e (some ⟨w.heap.size, 0, none⟩) 1 1 [b] :=
  ⟨rfl, by simp [rv], .inr ⟨w.heap.size, 1, #[.slice (some ⟨b, 0, none⟩) N N], rfl, hb, heap_alloc_new w _, Nat.le_refl _, by decide, rfl, rfl⟩⟩
/-- The evaluation's memory at its start. -/
theorem BegL.run {w wr : World} {Af : Option Addr} {n cf bt bS bC B N c : Nat} {A : Option Addr} {l : List Nat} {f : DN} (h : BegL w wr Af n cf bt bS bC B N 3 c A l) (hf : f.length = n) (hN : 0 < N ∧ N ≤ 40) (hne : bS ≠ bC) :
    ∃ bE cE, RunAt wr (fun _ => False) (w.heap.size + 1 + 1) bE bS bC cE Af cf f bt N (fun _ => setOf N fun _ => false) (fun _ => []) (fun _ => []) ∧ w.heap.size ≤ bE := by
  obtain ⟨hbel, hcells, hs, hc, henv, ⟨b0, b1, b2, b3, b4, b5⟩, hlo⟩ := h
  subst hf
  obtain ⟨hll, hl2, hcase⟩ := henv.own
  rcases hcase with ⟨-, e⟩ | ⟨g, cap, cur, e, hg, hheap, hcap, hmax, hsz, htake⟩
  · cases e
  · cases e
    have hne : ∀ x, x = g → x ≠ bS ∧ x ≠ bC ∧ x ≠ w.heap.size + 1 + 1 := fun x e => by omega
    have hT : ∀ b, B ≤ b → b ≠ g → ¬ RunP (fun _ => False) g bS bC b := fun b h1 h2 h3 => by
      rcases h3 with e | e | e | e
      · exact e
      · exact h2 e
      · omega
      · omega
    refine ⟨g, c, ⟨hcells, ?_, ?_, ?_, fun j hj => setOf_len _ _, fun j hj => .inl rfl, fun j hj => .inl rfl, fun b hb => hb.elim, ⟨id, id, id, id⟩, by omega⟩, by have := hbel.size; omega⟩
    · refine ⟨cur, hheap, by omega, fun j hj => ?_⟩
      have hjl : j < l.length := by omega
      have hlj : l[j]? = some l[j] := List.getElem?_eq_getElem hjl
      obtain ⟨hS, g1, g2, g3⟩ := henv.row j _ hlj
      refine ⟨.slice (some ⟨l[j], 0, none⟩) N N, ?_, _, _, _, rfl, by omega, hS.more (Nat.zero_le _) (Nat.le_refl _), fun a ha _ => by cases ha; exact hT _ g2 (g3 g rfl)⟩
      have h1 := flat_at (flat_rv N) l j _ hlj 0 (.slice (some ⟨l[j], 0, none⟩) N N) rfl
      rw [← htake, List.getElem?_take] at h1
      split at h1
      · simpa using h1
      · cases h1
    · exact ⟨_, hs, by simp [madeCells], fun j hj => ⟨.slice none 0 0, by simp [madeCells, Value.cells, hj, Nat.mod_one], HasB.nil_ _ _⟩⟩
    · exact ⟨_, hc, by simp [madeCells], fun j hj => ⟨.slice none 0 0, by simp [madeCells, Value.cells, hj, Nat.mod_one], HasB.nil_ _ _⟩⟩
set_option maxRecDepth 100000 in
set_option maxHeartbeats 3200000 in
theorem l21Begin_calls (Af : Option Addr) (n cf bt N : Nat) (f : DN) (x : CL) (ini : Int) (ls : List ByteArray) (es : List Ed) (w : World) (hf : f.length = n) (hn : 1 ≤ n ∧ n ≤ 30) (hN : 0 < N ∧ N ≤ 40) (h : LtsAt w bt x ((N : Int), ini, ls, es)) :
    Calls Tryz.prog 70 #[.slice Af n cf, .pointer (some ⟨bt, 0, none⟩)] w fun e w' => ∃ br bE bS bC cE, e = .returned (.pointer (some ⟨br, 0, none⟩)) ∧ RunAt w' (fun _ => False) br bE bS bC cE Af cf f bt N (fun _ => setOf N fun _ => false) (fun _ => []) (fun _ => []) ∧ Below w.heap.size w w' ∧ ∀ b, RunT bE bS bC b → w.heap.size ≤ b := by
  have hmk := run_make_rowsB n (by omega)
  have hL := hide h
  obtain ⟨⟨hr0, -⟩, -, hbt, l0, -⟩ := h
  dsimp only at hr0
  rw [hr0] at l0
  clear hr0
  have hE := hide elem_rowB
  go_enter Tryz.func70, Tryz.ntmps70
  go_wp2_with fail
  go_cut [5] (fun t wx => t = .pointer (some ⟨w.heap.size + 1 + 1, 0, none⟩) ∧ ∃ bS bC, BegW w wx Af n cf bt bS bC)
  case first =>
    go_region
    · go_wp2_with fail
      go_meet
      exact ⟨rfl, _, _, BegW.made w Af n cf bt _ _ (.inl ⟨rfl, rfl⟩)⟩
    · go_wp2_with fail
      go_meet
      exact ⟨rfl, _, _, BegW.made w Af n cf bt _ _ (.inr ⟨rfl, rfl⟩)⟩
  case rest =>
    obtain ⟨rfl, bS, bC, hbw⟩ := hcut
    have hne := hbw.ne
    have hst := hide (hbw.start N)
    generalize wc.heap.size = B at hst
    clear hbw
    replace hmk := run_make_bool N (by omega)
    go_wp2_with fail
    go_loopw [6] (fun i wr => ∃ (j c : Nat) (A : Option Addr) (l : List Nat), j ≤ 3 ∧ i = .int .i64 (j : Nat) ∧ Hid (BegL w wr Af n cf bt bS bC B N j c A l)) (fun i _ => 3 - (intOf i).toNat)
    case atStart => exact ⟨0, 0, none, [], by omega, rfl, hst⟩
    case round =>
      clear hst
      obtain ⟨j, c, A, l, hj, rfl, hb⟩ := hrel
      by_cases hlt : j < 3
      · have y2 := (cell_of_row _ _ 2 _ _ (0, 0) hb.out.cells).trans (show _ = some (Value.slice A j c) from rfl)
        have yt := (hb.out.below.cell (p := ⟨bt, 0, none⟩) hbt).trans l0
        have hB : B ≤ wr.heap.size := hb.out.hb.2.2.2.1
        have hown : Hid (Own 1 (rv N) ((wr.alloc (.cells (madeCells #[.bool false] N) 4)).alloc (.cells #[.slice (some ⟨wr.heap.size, 0, none⟩) N N] 65)).drew B 65 A j c l) := (hb.out.env.own.alloc _).alloc _
        have hlit : Hid (Sl 1 (rv N) ((wr.alloc (.cells (madeCells #[.bool false] N) 4)).alloc (.cells #[.slice (some ⟨wr.heap.size, 0, none⟩) N N] 65)).drew B ((wr.alloc (.cells (madeCells #[.bool false] N) 4)).alloc (.cells #[.slice (some ⟨wr.heap.size, 0, none⟩) N N] 65)).drew.heap.size (some ⟨wr.heap.size + 1, 0, none⟩) 1 [wr.heap.size]) := by
          have := (Own.litR (wr.alloc (.cells (madeCells #[.bool false] N) 4)) 65 N wr.heap.size (base := B) (by simp; omega)).sl (flat_rv N)
          have e : (wr.alloc (.cells (madeCells #[.bool false] N) 4)).heap.size = wr.heap.size + 1 := by simp
          rw [e] at this
          exact this
        have hsz : (j + 1) * 24 ≤ 140737488355328 := by omega
        have hz : B ≤ ((wr.alloc (.cells (madeCells #[.bool false] N) 4)).alloc (.cells #[.slice (some ⟨wr.heap.size, 0, none⟩) N N] 65)).drew.heap.size := by show _ ≤ (World.alloc _ _).heap.size; simp; omega
        have y2a : (wr.alloc (.cells (madeCells #[.bool false] N) 4)).drew.cell? ⟨w.heap.size + 1 + 1, 2, none⟩ = some (.slice A j c) := alloc_cell y2
        have y2b : ((wr.alloc (.cells (madeCells #[.bool false] N) 4)).alloc (.cells #[.slice (some ⟨wr.heap.size, 0, none⟩) N N] 65)).drew.cell? ⟨w.heap.size + 1 + 1, 2, none⟩ = some (.slice A j c) := alloc_cell (alloc_cell y2)
        have yta : (wr.alloc (.cells (madeCells #[.bool false] N) 4)).drew.cell? ⟨bt, 0, none⟩ = some (.int .i64 (N : Nat)) := alloc_cell yt
        have ytb : ((wr.alloc (.cells (madeCells #[.bool false] N) 4)).alloc (.cells #[.slice (some ⟨wr.heap.size, 0, none⟩) N N] 65)).drew.cell? ⟨bt, 0, none⟩ = some (.int .i64 (N : Nat)) := alloc_cell (alloc_cell yt)
        have hrbB := hb.out.hb.1
        have hbtB : bt < B := by have := hb.out.hb.1; omega
        go_upto_region 5 with fail
        refine lateT_begin (S := fun w' => w'.cell? ⟨w.heap.size + 1 + 1, 2, none⟩ = some (.slice A j c) ∧ w'.cell? ⟨bt, 0, none⟩ = some (.int .i64 (N : Nat))) (st := 14) (by kernel_rfl) ?_
        have hS0 := (⟨y2, yt⟩ : (fun w' => w'.cell? ⟨w.heap.size + 1 + 1, 2, none⟩ = some (.slice A j c) ∧ w'.cell? ⟨bt, 0, none⟩ = some (.int .i64 (N : Nat))) wr)
        refine lateT_take (i := 0) (oi := _) (v := ?_) [14] rfl (by kernel_rfl) (by kernel_rfl) (by kernel_rfl) (by kernel_rfl) (fun _ _ _ h => h) (Or.inl ⟨by kernel_rfl, ?hy⟩) hS0 ?_
        case hy => (intro w' hSw; (try dsimp only at hSw); go_simp <;> with_reducible rfl)
        (try simp only [Act.put, List.setIfInBounds_toArray, List.set_cons_zero, List.set_cons_succ])
        refine lateT_take (i := 1) (oi := _) (v := ?_) [14] rfl (by kernel_rfl) (by kernel_rfl) (by kernel_rfl) (by kernel_rfl) (fun _ _ _ h => h) (Or.inl ⟨by kernel_rfl, ?hy⟩) hS0 ?_
        case hy => (intro w' hSw; (try dsimp only at hSw); go_simp <;> with_reducible rfl)
        (try simp only [Act.put, List.setIfInBounds_toArray, List.set_cons_zero, List.set_cons_succ])
        refine lateT_take (i := 2) (oi := _) (v := ?_) [14] rfl (by kernel_rfl) (by kernel_rfl) (by kernel_rfl) (by kernel_rfl) (fun _ _ _ h => h) (Or.inl ⟨by kernel_rfl, ?hy⟩) hS0 ?_
        case hy => (intro w' hSw; (try dsimp only at hSw); go_simp <;> with_reducible rfl)
        (try simp only [Act.put, List.setIfInBounds_toArray, List.set_cons_zero, List.set_cons_succ])
        refine lateT_take (i := 3) (oi := _) (v := ?_) [14] rfl (by kernel_rfl) (by kernel_rfl) (by kernel_rfl) (by kernel_rfl) (fun _ _ _ h => h) (Or.inl ⟨by kernel_rfl, ?hy⟩) hS0 ?_
        case hy => (intro w' hSw; (try dsimp only at hSw); go_simp <;> with_reducible rfl)
        (try simp only [Act.put, List.setIfInBounds_toArray, List.set_cons_zero, List.set_cons_succ])
        refine lateT_take (i := 4) (oi := _) (v := ?_) [14] rfl (by kernel_rfl) (by kernel_rfl) (by kernel_rfl) (by kernel_rfl) (fun _ _ _ h => h) (Or.inl ⟨by kernel_rfl, ?hy⟩) hS0 ?_
        case hy => (intro w' hSw; (try dsimp only at hSw); (obtain ⟨hq1, hq2⟩ := hSw); go_simp <;> with_reducible rfl)
        (try simp only [Act.put, List.setIfInBounds_toArray, List.set_cons_zero, List.set_cons_succ])
        refine lateT_take (i := 5) (oi := _) (v := ?_) [14] rfl (by kernel_rfl) (by kernel_rfl) (by kernel_rfl) (by kernel_rfl) (fun _ _ _ h => h) (Or.inl ⟨by kernel_rfl, ?hy⟩) hS0 ?_
        case hy => (intro w' hSw; (try dsimp only at hSw); go_simp <;> with_reducible rfl)
        (try simp only [Act.put, List.setIfInBounds_toArray, List.set_cons_zero, List.set_cons_succ])
        refine lateT_take (i := 6) (oi := _) (v := ?_) [14] rfl (by kernel_rfl) (by kernel_rfl) (by kernel_rfl) (by kernel_rfl) (fun _ _ _ h => h) (Or.inl ⟨by kernel_rfl, ?hy⟩) hS0 ?_
        case hy => (intro w' hSw; (try dsimp only at hSw); go_simp <;> with_reducible rfl)
        (try simp only [Act.put, List.setIfInBounds_toArray, List.set_cons_zero, List.set_cons_succ])
        refine lateT_take (i := 7) (oi := _) (v := ?_) [14] rfl (by kernel_rfl) (by kernel_rfl) (by kernel_rfl) (by kernel_rfl) (fun _ _ _ h => h) (Or.inl ⟨by kernel_rfl, ?hy⟩) hS0 ?_
        case hy => (intro w' hSw; (try dsimp only at hSw); go_simp <;> with_reducible rfl)
        (try simp only [Act.put, List.setIfInBounds_toArray, List.set_cons_zero, List.set_cons_succ])
        refine lateT_take (i := 8) (oi := _) (v := ?_) [14] rfl (by kernel_rfl) (by kernel_rfl) (by kernel_rfl) (by kernel_rfl) (fun _ _ _ h => h) (Or.inl ⟨by kernel_rfl, ?hy⟩) hS0 ?_
        case hy => (intro w' hSw; (try dsimp only at hSw); (obtain ⟨hq1, hq2⟩ := hSw); go_simp <;> with_reducible rfl)
        (try simp only [Act.put, List.setIfInBounds_toArray, List.set_cons_zero, List.set_cons_succ])
        refine lateT_step (i := 9) (by kernel_rfl) rfl (fun K hK => ?_)
        go_simp
        have hS1 := (⟨y2a, yta⟩ : (fun w' => w'.cell? ⟨w.heap.size + 1 + 1, 2, none⟩ = some (.slice A j c) ∧ w'.cell? ⟨bt, 0, none⟩ = some (.int .i64 (N : Nat))) (wr.alloc (.cells (madeCells #[.bool false] N) 4)).drew)
        refine hK.out _ _ (fun _ => hS1) ?_
        clear hK K
        (try simp only [Act.put, List.setIfInBounds_toArray, List.set_cons_zero, List.set_cons_succ])
        refine lateT_step (i := 10) (by kernel_rfl) rfl (fun K hK => ?_)
        go_simp
        have hS2 := (⟨y2b, ytb⟩ : (fun w' => w'.cell? ⟨w.heap.size + 1 + 1, 2, none⟩ = some (.slice A j c) ∧ w'.cell? ⟨bt, 0, none⟩ = some (.int .i64 (N : Nat))) ((wr.alloc (.cells (madeCells #[.bool false] N) 4)).alloc (.cells #[.slice (some ⟨wr.heap.size, 0, none⟩) N N] 65)).drew)
        refine hK.out _ _ (fun _ => hS2) ?_
        clear hK K
        (try simp only [Act.put, List.setIfInBounds_toArray, List.set_cons_zero, List.set_cons_succ])
        refine lateT_step (i := 11) (by kernel_rfl) rfl (fun K hK => ?_)
        refine step_appL (d := 1) (by rfl) (.tmp 25) (.tmp 31) (by rfl) hE.out (flat_rv N) (by go_simp) hown.out (by go_simp) hlit.out hsz hz ?_
        intro A6 c6 w6 hown6 hgr6 hb6 hat6
        have u2 := (hb6.cell (p := ⟨w.heap.size + 1 + 1, 2, none⟩) hrbB).trans y2b
        have ut := (hb6.cell (p := ⟨bt, 0, none⟩) hbtB).trans ytb
        have hBel2 : Below wr.heap.size wr ((wr.alloc (.cells (madeCells #[.bool false] N) 4)).alloc (.cells #[.slice (some ⟨wr.heap.size, 0, none⟩) N N] 65)).drew := (((Below.refl wr.heap.size wr).alloc (Nat.le_refl _) (.cells (madeCells #[.bool false] N) 4)).alloc (by simp) (.cells #[.slice (some ⟨wr.heap.size, 0, none⟩) N N] 65)).drew
        have zf : w6.frozen? ⟨w.heap.size + 1 + 1, 2, none⟩ = false := (hb6.frozen (p := ⟨w.heap.size + 1 + 1, 2, none⟩) hrbB).trans ((hBel2.frozen (p := ⟨w.heap.size + 1 + 1, 2, none⟩) (by show w.heap.size + 1 + 1 < _; omega)).trans (frozen_of_row _ _ _ _ _ hb.out.cells))
        have hnx := hide (hb.out.next hown6 hgr6 hb6 hat6)
        clear hown6 hgr6 hb6 hat6
        have hS3 := (⟨u2, ut⟩ : (fun w' => w'.cell? ⟨w.heap.size + 1 + 1, 2, none⟩ = some (.slice A j c) ∧ w'.cell? ⟨bt, 0, none⟩ = some (.int .i64 (N : Nat))) w6)
        refine hK.out _ _ (fun _ => hS3) ?_
        clear hK K
        (try simp only [Act.put, List.setIfInBounds_toArray, List.set_cons_zero, List.set_cons_succ])
        refine lateT_take (i := 12) (oi := _) (v := ?_) [13, 14] rfl (by kernel_rfl) (by kernel_rfl) (by kernel_rfl) (by kernel_rfl) (fun _ _ _ h => h) (Or.inl ⟨by kernel_rfl, ?hy⟩) hS3 ?_
        case hy => (intro w' hSw; (try dsimp only at hSw); go_simp <;> with_reducible rfl)
        (try simp only [Act.put, List.setIfInBounds_toArray, List.set_cons_zero, List.set_cons_succ])
        refine lateT_take (i := 13) (oi := _) (v := ?_) [14] rfl (by kernel_rfl) (by kernel_rfl) (by kernel_rfl) (by kernel_rfl) (fun _ _ _ h => h) (Or.inl ⟨by kernel_rfl, ?hy⟩) hS3 ?_
        case hy => (intro w' hSw; (try dsimp only at hSw); go_simp <;> with_reducible rfl)
        (try simp only [Act.put, List.setIfInBounds_toArray, List.set_cons_zero, List.set_cons_succ])
        refine lateT_step (i := 14) (by kernel_rfl) rfl (fun K hK => ?_)
        go_simp
        refine hK.out _ _ (fun h => absurd rfl h) ?_
        clear hK K
        (try simp only [Act.put, List.setIfInBounds_toArray, List.set_cons_zero, List.set_cons_succ])
        refine lateT_done (by kernel_rfl) ?_ _
        go_wp2_with fail
        go_roundw
        case rel => exact ⟨j + 1, _, _, _, by omega, by go_num, hnx⟩
        case measure => simp [intOf]; omega
      · have hj3 : j = 3 := by omega
        subst hj3
        go_wp2_with fail
        go_ret
        obtain ⟨bE, cE, hR, hlo⟩ := hb.out.run hf hN hne
        exact ⟨_, bE, bS, bC, cE, rfl, hR, hb.out.below, fun b hb' => by
          have := hb.out.lo
          rcases hb' with e | e | e <;> omega⟩

end Go.Proofs.YtanlgnjgpbjebaaGreatDoor

namespace Go.Proofs.YtanlgnjgpbjebaaGreatDoor
open Go.ChangeShapes Go.WideShapes Go.ChangeAt Go.RowKit
set_option linter.unusedVariables false
set_option linter.unusedSimpArgs false

/-- The shape and the labels are right. -/
structure ShV (f : DN) : Prop where
  len : 1 ≤ f.length ∧ f.length ≤ 30
  shape : ShapeF f
  node : ∀ (i : Nat) (x : Nd), f[i]? = some x → inB x.1 0 8 = true ∧ fldB x = true
structure ShP (f : DN) (j : Nat) : Prop where
  nz : ∀ i, i < j → ndI (qF f) i ≠ 0
  node : ∀ (i : Nat) (x : Nd), i < j → f[i]? = some x → inB x.1 0 8 = true ∧ fldB x = true
theorem ShP.next {f : DN} {j : Nat} {x : Nd} (h : ShP f j) (hx : f[j]? = some x) (h0 : ndI (qF f) j ≠ 0) (h1 : inB x.1 0 8 = true) (h2 : fldB x = true) : ShP f (j + 1) :=
  ⟨fun i hi => by
    by_cases e : i = j
    · rw [e]; exact h0
    · exact h.nz i (by omega), fun i y hi hy => by
    by_cases e : i = j
    · subst e; rw [hx] at hy; cases hy; exact ⟨h1, h2⟩
    · exact h.node i y (by omega) hy⟩
open Classical in
noncomputable def shB (f : DN) : Bool := decide (ShV f)
open Classical in
theorem shB_no {f : DN} (h : ¬ ShV f) : shB f = false := decide_eq_false h
open Classical in
theorem shB_yes {f : DN} (h : ShV f) : shB f = true := decide_eq_true h
set_option maxRecDepth 100000 in
set_option maxHeartbeats 3200000 in
theorem l14Shape_calls (A : Option Addr) (n c : Nat) (f : DN) (w : World) (lo hi : Nat) (h : SlN w lo hi A n f) (ht : totN f ≤ 1048576) :
    Calls Tryz.prog 96 #[.slice A n c, .int .i64 30, .int .i64 8] w fun e w' => e = .returned (.bool (shB f)) ∧ Below w.heap.size w w' := by
  have hlen := h.len
  by_cases h0 : n < 1
  · have hv : Hid (shB f = false) := by show _ = _; exact shB_no fun c => by have := c.len; omega
    clear h
    go_enter Tryz.func96, Tryz.ntmps96
    go_wp2
    go_ret
    exact ⟨ret_b hv.out, Below.refl _ _⟩
  by_cases h30 : 30 < n
  · have hv : Hid (shB f = false) := by show _ = _; exact shB_no fun c => by have := c.len; omega
    clear h
    go_enter Tryz.func96, Tryz.ntmps96
    go_wp2
    go_ret
    exact ⟨ret_b hv.out, Below.refl _ _⟩
  have hbad := hide (fun (j : Nat) (x : Nd) (hx : f[j]? = some x) (hb : inB x.1 0 8 = false ∨ fldB x = false) => (show shB f = false by
    exact shB_no fun c => by
      have := c.node j x hx
      rcases hb with e | e
      · rw [e] at this; cases this.1
      · rw [e] at this; cases this.2))
  have hzer := hide (fun (j : Nat) (hj : j < n) (hb : ndI (qF f) j = 0) => (show shB f = false by
    exact shB_no fun c => c.shape.2 j (by omega) hb))
  have hend := hide (fun (hs : ShP f n) => (show shB f = decide (ndI (qF f) n = 0) by
    by_cases e : ndI (qF f) n = 0
    · rw [decide_eq_true e]
      exact shB_yes ⟨by omega, ⟨by rw [hlen]; exact e, fun i hi => hs.nz i (by omega)⟩, fun i x hx => hs.node i x (by have := (List.getElem?_eq_some_iff.1 hx).1; omega) hx⟩
    · rw [decide_eq_false e]
      exact shB_no fun c => e (by have := c.shape.1; rwa [hlen] at this)))
  have hndI := hide (fun (j : Nat) => (show ndI (qF f) (j + 1) = ndI (qF f) j + (arityQ (qF f j) : Int) - 1 from rfl))
  have hlab := hide (fun (j : Nat) (q y : Int) (s : ByteArray) (z : Bool) (hx : f[j]? = some (q, y, s, z)) => (show s.size ≤ 1048576 by
    have hs := lab_le (List.mem_of_getElem? hx)
    unfold totN at ht
    dsimp only at hs
    omega))
  replace hlen := hide hlen
  clear ht
  go_enter Tryz.func96, Tryz.ntmps96
  go_wp2
  go_loopw [7, 8] (fun u i wr => ∃ (j : Nat), j ≤ n ∧ i = .int .i64 (j : Nat) ∧ u = .int .i64 (ndI (qF f) j) ∧ 0 ≤ ndI (qF f) j ∧ ndI (qF f) j ≤ j + 1 ∧ Hid (ShP f j) ∧ Below w.heap.size w wr) (fun _ i _ => n - (intOf i).toNat)
  case atStart => exact ⟨0, Nat.zero_le _, rfl, rfl, by show (0 : Int) ≤ 1; decide, by show (1 : Int) ≤ _; decide, ⟨fun i hi => by omega, fun i x hi => by omega⟩, Below.refl _ _⟩
  case round =>
    obtain ⟨j, hj, rfl, rfl, hg0, hg1, hsp, hb⟩ := hrel
    by_cases hlt : j < n
    · obtain ⟨b, off, x, y, s, z, rfl, -, -, g3, hx, c0, c1, c2, c3⟩ := SlN.get h hlt
      replace c0 := (hb.cell (p := ⟨b, off + j * 4, none⟩) g3).trans c0
      replace c2 := (hb.cell (p := ⟨b, off + j * 4 + 2, none⟩) g3).trans c2
      replace c3 := (hb.cell (p := ⟨b, off + j * 4 + 3, none⟩) g3).trans c3
      have hj0 : (0 : Int) ≤ (j : Int) := by omega
      have hj1 : (j : Int) < (n : Int) := by omega
      have hs := hlab.out j x y s z hx
      have hnd := hndI.out j
      rw [qF_at hx] at hnd
      dsimp only at hnd
      have bad1 := hbad.out j _ hx
      have zer1 := hzer.out j hlt
      have nxt := hide (fun h1 h2 h3 => hsp.out.next hx h1 h2 h3)
      have qI := l00In_calls x 0 8
      have qP := hide (fun W => l14Pattern_calls s W hs)
      generalize ndI (qF f) j = u at *
      have hA := hide hnd
      replace hb := hide hb
      clear hx h g3 c1 hlab hndI hbad hzer hend hsp
      by_cases hu : u = 0
      · have hv := hide (zer1 hu)
        subst hu
        replace qI := hide qI
        clear bad1 zer1 nxt hnd
        go_wp2_with fail
        go_ret
        exact ⟨ret_b hv.out, hb.out⟩
      · have hun : (u == 0) = false := by rw [beq_eq_false_iff_ne]; exact hu
        cases hk : inB x 0 8 with
        | false =>
          have hv := hide (bad1 (.inl hk))
          rw [hk] at qI
          replace qI := hide qI
          clear bad1 zer1 nxt hnd hk
          go_wp2_with (first | (go_at_call 79; (with_reducible refine (qI.out _).mono ?_); rintro e w1 ⟨rfl, rfl⟩))
          go_ret
          exact ⟨ret_b hv.out, hb.out⟩
        | true =>
          rw [hk] at qI
          have hx08 := inB_true.1 hk
          have qA := hide (fun W => l14Arity_calls x hx08.1 hx08.2 W)
          have har : arityQ x ≤ 2 := by
            unfold arityQ
            split
            · omega
            · split <;> omega
          have hu2a : Hid (0 ≤ ndI (qF f) (j + 1)) := by show _ ≤ _; omega
          have hu2b : Hid (ndI (qF f) (j + 1) ≤ ((j + 1 : Nat) : Int) + 1) := by show _ ≤ _; omega
          replace qI := hide qI
          cases hm : isMod x with
          | true =>
            have hfl : fldB (x, y, s, z) = patB s := by unfold fldB; simp [hm]
            rw [hfl] at bad1 nxt
            have hx45 : x = 4 ∨ x = 5 := by unfold isMod at hm; simpa using hm
            cases hp : patB s with
            | false =>
              have hv := hide (bad1 (.inr hp))
              rw [hp] at qP
              clear bad1 zer1 nxt hk hm hp hfl hnd
              rcases hx45 with rfl | rfl
              all_goals
                go_wp2_with (first | (go_at_call 79; (with_reducible refine (qI.out _).mono ?_); rintro e w1 ⟨rfl, rfl⟩) | (go_at_call 105; (with_reducible refine (qA.out _).mono ?_); rintro e w1 ⟨rfl, rfl⟩) | (go_at_call 130; (with_reducible refine (qP.out _).mono ?_); rintro e w1 ⟨rfl, hb1⟩))
                go_ret
                exact ⟨ret_b hv.out, hb.out.trans (hb1.mono hb.out.size)⟩
            | true =>
              have hn := hide (nxt.out hu hk hp)
              rw [hp] at qP
              clear bad1 zer1 nxt hk hm hp hfl hnd
              rcases hx45 with rfl | rfl
              all_goals
                go_wp2_with (first | (go_at_call 79; (with_reducible refine (qI.out _).mono ?_); rintro e w1 ⟨rfl, rfl⟩) | (go_at_call 105; (with_reducible refine (qA.out _).mono ?_); rintro e w1 ⟨rfl, rfl⟩) | (go_at_call 130; (with_reducible refine (qP.out _).mono ?_); rintro e w1 ⟨rfl, hb1⟩))
                go_roundw
                case rel => exact ⟨j + 1, by omega, by go_num, by rw [hA.out]; go_num, hu2a.out, hu2b.out, hn, hb.out.trans (hb1.mono hb.out.size)⟩
                case measure => simp [intOf]; omega
          | false =>
            have hn4 : (x == 4) = false := by rw [beq_eq_false_iff_ne]; rintro rfl; cases hm
            have hn5 : (x == 5) = false := by rw [beq_eq_false_iff_ne]; rintro rfl; cases hm
            by_cases hs0 : s.size = 0
            · have hfl : fldB (x, y, s, z) = !z := by unfold fldB; simp [hm, hs0]
              rw [hfl] at bad1 nxt
              have hl2 : s.toList = [] := by rw [size_zero hs0]; exact ByteArray.toList_mk _
              have hl : (s.toList == []) = true := by rw [hl2]; rfl
              have hl3 : (s.toList != []) = false := by rw [hl2]; rfl
              cases z with
              | true =>
                have hv := hide (bad1 (.inr rfl))
                clear bad1 zer1 nxt hk hm hfl hl2 hs0 hnd
                go_wp2_with (first | (go_at_call 79; (with_reducible refine (qI.out _).mono ?_); rintro e w1 ⟨rfl, rfl⟩) | (go_at_call 105; (with_reducible refine (qA.out _).mono ?_); rintro e w1 ⟨rfl, rfl⟩) | (go_at_call 130; (with_reducible refine (qP.out _).mono ?_); rintro e w1 ⟨rfl, hb1⟩))
                go_ret
                exact ⟨ret_b hv.out, hb.out⟩
              | false =>
                have hn := hide (nxt.out hu hk rfl)
                clear bad1 zer1 nxt hk hm hfl hl2 hs0 hnd
                go_wp2_with (first | (go_at_call 79; (with_reducible refine (qI.out _).mono ?_); rintro e w1 ⟨rfl, rfl⟩) | (go_at_call 105; (with_reducible refine (qA.out _).mono ?_); rintro e w1 ⟨rfl, rfl⟩) | (go_at_call 130; (with_reducible refine (qP.out _).mono ?_); rintro e w1 ⟨rfl, hb1⟩))
                go_roundw
                case rel => exact ⟨j + 1, by omega, by go_num, by rw [hA.out]; go_num, hu2a.out, hu2b.out, hn, hb.out⟩
                case measure => simp [intOf]; omega
            · have hfl : fldB (x, y, s, z) = false := by unfold fldB; simp [hm, hs0]
              have hne : ¬ s.toList = [] := fun c => hs0 (by rw [ba_ext (a := s) (b := ⟨#[]⟩) (by rw [c]; exact (ByteArray.toList_mk _).symm)]; rfl)
              have hne2 : (s.toList == []) = false := by simpa using hne
              have hne3 : (s.toList != []) = true := by simpa using hne
              have hv := hide (bad1 (.inr hfl))
              clear bad1 zer1 nxt hk hm hfl hs0 hnd
              go_wp2_with (first | (go_at_call 79; (with_reducible refine (qI.out _).mono ?_); rintro e w1 ⟨rfl, rfl⟩) | (go_at_call 105; (with_reducible refine (qA.out _).mono ?_); rintro e w1 ⟨rfl, rfl⟩) | (go_at_call 130; (with_reducible refine (qP.out _).mono ?_); rintro e w1 ⟨rfl, hb1⟩))
              go_ret
              exact ⟨ret_b hv.out, hb.out⟩
    · have hjn : j = n := by omega
      subst hjn
      have hv := hide (hend.out hsp.out)
      generalize ndI (qF f) j = u at *
      have hub : (u == 0) = decide (u = 0) := by rw [Bool.eq_iff_iff]; simp
      clear h hlab hndI hbad hzer hend hsp
      go_wp2_with fail
      go_ret
      rw [hv.out]
      exact ⟨by simp, hb⟩

end Go.Proofs.YtanlgnjgpbjebaaGreatDoor
