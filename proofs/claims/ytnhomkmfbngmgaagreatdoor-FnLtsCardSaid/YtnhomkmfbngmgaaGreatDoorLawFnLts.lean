/-
  The law FnLts returns true for every input: the text of a system is read back, its reachable part and the system with the labels in use are bisimilar to it. Conditions: none.
-/

import Derived.Test.YtnhomkmfbngmgaaGreatDoorBaseL
namespace Go.Proofs.YtnhomkmfbngmgaaGreatDoor.lawFnLts
open Go.ChangeShapes Go.WideShapes Go.ChangeAt Go.RowKit
set_option linter.unusedVariables false

theorem own : ownKnob Tryz.prog.godebug = none := by kernel_rfl
theorem laidOut : laidOutB Tryz.prog = true := fact_laid


set_option maxRecDepth 100000 in
theorem lifted (os : Os) (started : os.Started) (H : Type) (enc : TypeId × Value → H) :
  ReturnsInHanded {} Tryz.checked os 3 .any (fun w args => (Rows.fnLtsSpec.pre enc Tryz.prog Tryz.f3 Rows.fnLtsRow.domain false w args ∧ laidMet Tryz.prog laidL w) ∧ sizedMet enc Tryz.prog Tryz.f3 (OpenSpec.ofChange Rows.fnLtsSpec) false w args) (Rows.fnLtsSpec.post enc Tryz.prog Tryz.f3 false true false false) := by
 refine returnsInHanded_of_calls (C := Tryz.checked) own started (by kernel_rfl)
  (ChangeSpec.witness_at (enc := enc) (C := Tryz.checked) (os := os) (s := Rows.fnLtsSpec) (conds := Rows.fnLtsRow.domain) (X := fun w _ => laidMet Tryz.prog laidL w) false (laidWorld os) #[.slice none 0 0, .slice none 0 0] 8 rfl (by kernel_rfl) (by kernel_rfl) (by kernel_rfl) (by kernel_rfl) (by kernel_rfl) (laid_met os _)) ?_
 intro w tape i _ hsh _ hok hpre hholds
 obtain ⟨_, _, _, fn', hfn', _, _, _, _, hval0⟩ := hok
 have efn : fn' = Tryz.f3 := Option.some.inj (hfn'.symm.trans Tryz.func3)
 subst efn
 obtain ⟨⟨⟨ds, gs, before, hw0, hc⟩, hlaid⟩, hz⟩ := hpre
 have hW := DataW.Whole.of_heap (w' := w.forCall tape i) (by rfl) hw0
 have he : Env (w.forCall tape i) := Env.of (good_of (laidMet.of_heap (by rfl) hlaid) hsh)
 generalize hWg : w.forCall tape i = W at *
 generalize hag : i.args = args at *
 suffices hcalls : Calls Tryz.prog 3 args W fun e W' => ∃ v, e = .returned v ∧ Rows.fnLtsSpec.post enc Tryz.prog Tryz.f3 false true false false W args v W' by
  refine hcalls.mono fun e W' ⟨v, he, hp⟩ => ?_
  subst he
  exact ChangeSpec.post_blind hp
 have hval : ∀ (j : Nat) t v, Tryz.f3.params[j]? = some t → args[j]? = some v → Value.okWide Tryz.prog W .any w.heap.size t v := hval0
 have hW' := hW
 obtain ⟨p, q, hA0, hV, rfl, hfz, hnd⟩ := hW
 have hA : DataW.TrodAll enc Tryz.prog W 0 (fun _ => true) true Tryz.f3.params.toList args.toList ds p := hA0
 rw [Tryz.params3] at hA hval
 obtain ⟨v0, vs0, d0, ds0, p0, q0, hargs, rfl, rfl, h0, r0⟩ := trodAll_cons hA
 obtain ⟨v1, vs1, d1, ds1, p1, q1, rfl, rfl, rfl, h1, r1⟩ := trodAll_cons r0
 obtain ⟨rfl, rfl, rfl⟩ := trodAll_nil r1
 obtain rfl : args = #[v0, v1] := by cases args; simp_all
 obtain ⟨rfl, rfl⟩ := trodVars_none hV
 have lt0 : ∀ x ∈ p0, x.block < W.heap.size := by obtain ⟨m, hm⟩ := h0; exact DataW.trod_lt m _ _ _ hm
 have lt1 : ∀ x ∈ p1, x.block < W.heap.size := by obtain ⟨m, hm⟩ := h1; exact DataW.trod_lt m _ _ _ hm
 obtain ⟨A0', n0', c0', e0⟩ := okWide_slice Tryz.underlying22 (hval 0 22 v0 rfl rfl)
 obtain ⟨A1', n1', c1', e1⟩ := okWide_slice Tryz.underlying22 (hval 1 22 v1 rfl rfl)
 obtain ⟨A, n, c, x0, rfl, hn0, a0, b0⟩ := open_SlU Tryz.underlying22 (by kernel_rfl) Tryz.underlying5 h0 e0 (fun b off hp => hfz b off (by simp [hp]))
 obtain ⟨B, m, d, x1, rfl, hn1, a1, b1⟩ := open_SlU Tryz.underlying22 (by kernel_rfl) Tryz.underlying5 h1 e1 (fun b off hp => hfz b off (by simp [hp]))
 clear hA0 hval0 hval
 refine (walk A B n m c d x0 x1 W he a0 b0 hn0 a1 b1 hn1).mono fun e W' ⟨he, bel⟩ => ?_
 subst he
 exact ⟨_, rfl, _, _, _, [], _, [], hW', trodAll_mk1 (shut_bool Tryz.underlying4 _), (trodAll_cons_mk (Below.trod laidOut (by kernel_rfl) (of_decide_eq_true (by kernel_rfl)) h0 bel lt0) (trodAll_cons_mk (Below.trod laidOut (by kernel_rfl) (of_decide_eq_true (by kernel_rfl)) h1 bel lt1) trodAll_mk0)), rfl, bel.frame _, fun h => by cases h⟩

theorem c0 : Tryz.pinned.checked.prog.funcNamed "loop.example/g01075/laws.FnLts" = some 3 := by kernel_rfl
theorem c5 : false = Rows.fnLtsRow.goesBy Tryz.pinned.checked.prog := by kernel_rfl
theorem c1 : Tryz.pinned.checked.prog.inPlace 3 = Rows.fnLtsRow.inPlace := by kernel_rfl
theorem c2 : Tryz.pinned.checked.prog.unfollowed 3 = Rows.fnLtsRow.unfollowed := by kernel_rfl
theorem c3 : Tryz.pinned.checked.prog.recurses 3 = Rows.fnLtsRow.recurses := by kernel_rfl
theorem c4 : Tryz.pinned.checked.prog.varsNamed 3 = Rows.fnLtsRow.named := by kernel_rfl
theorem joined : joinedFacts Tryz.pinned.checked.prog 3 Tryz.f3 Rows.fnLtsSpec Rows.fnLtsRow = true := by
 unfold joinedFacts
 rw [fact_laid, fact_maps, fact_heard, fact_enter, fact_lifts, fact_make, c1, c2, c3, c4]
 kernel_rfl
theorem over : Rows.fnLtsRow.holds Tryz.pinned (OpenSpec.ofChange Rows.fnLtsSpec) :=
 OpenClaim.holds_of_wide 3 Tryz.f3 rfl rfl rfl rfl rfl rfl rfl ⟨rfl, rfl, rfl, rfl, rfl⟩ rfl rfl rfl rfl rfl c0 Tryz.func3 joined
  (of_decide_eq_true (by kernel_rfl)) (by unfold Func.isWrapper; first | (rw [if_pos (by decide +kernel)]; kernel_rfl) | (rw [if_neg (by decide +kernel)]; exact ⟨rfl, rfl⟩))
  (fun os started H enc _ => by
   rw [pre_laid (c := Rows.fnLtsRow) rfl]
   exact lifted os started H enc)

theorem tied : Rows.FnLtsCardSaid :=
 Claim7.holds_tied_plain_at .later [] [.data, .data, .data, .data, .sentinel, .sentinel, .pinned] true (true, "908aadf79a3911da7d4960582ae04b5fb7cbc5fbb004ba15854af102615e9df1") true
  over (fun _ h => by cases h) (by kernel_rfl) (fun _ h => by cases h) fnLts_row_tie rfl ⟨rfl, rfl⟩ fact_main rfl
  (fun f fn hf hfn => by
   obtain rfl : f = 3 := (Option.some.inj (c0.symm.trans hf)).symm
   obtain rfl : fn = Tryz.f3 := (Option.some.inj (Tryz.func3.symm.trans hfn)).symm
   exact ⟨fact_looks, fun j t ht => by
    rw [Tryz.params3] at ht
    rcases j with _ | j
    ·obtain rfl : t = 22 := by simpa using ht.symm
     exact (show Tryz.prog.wantsStandIn 22 = false by kernel_rfl)
    rcases j with _ | j
    ·obtain rfl : t = 22 := by simpa using ht.symm
     exact (show Tryz.prog.wantsStandIn 22 = false by kernel_rfl)
    simp at ht⟩)
  c5

end Go.Proofs.YtnhomkmfbngmgaaGreatDoor.lawFnLts

namespace Go.Proofs.YtnhomkmfbngmgaaGreatDoor
theorem fnLts_holds : Rows.FnLtsCardSaid := lawFnLts.tied
end Go.Proofs.YtnhomkmfbngmgaaGreatDoor

