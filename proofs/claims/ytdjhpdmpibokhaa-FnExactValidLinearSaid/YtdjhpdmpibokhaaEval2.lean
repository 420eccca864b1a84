/-
  Evaluation of expressions, by trees and by places. Conditions: valid expressions, values from 0 to 63.
-/
import Derived.Test.YtdjhpdmpibokhaaEval
namespace Go.Proofs.Ytdjhpdmpibokhaa
open Go.ChangeShapes Go.WideShapes Go.ChangeAt Go.RowKit
set_option linter.unusedVariables false

theorem okTerm_kind {t : Int × Int} {v : Int} (h : okTerm t v = true) : t.1 = 0 ∨ t.1 = 1 ∨ t.1 = 2 ∨ t.1 = 3 := by
  unfold okTerm at h
  by_cases h0 : t.1 = 0
  · exact .inl h0
  · by_cases h1 : t.1 = 1
    · exact .inr (.inl h1)
    · by_cases h2 : t.1 = 2
      · exact .inr (.inr (.inl h2))
      · by_cases h3 : t.1 = 3
        · exact .inr (.inr (.inr h3))
        · simp [h0, h1, h2, h3] at h

theorem quiet_left {P : Program} {f : FuncId} {args : Array Value} {w : World} {n : Nat} {v : Value} (h : Calls P f args (w.drewN n) fun e w' => e = .returned v ∧ w.drewN n = w') :
    Calls P f args (w.drewN n) fun e w'' => e = .returned v ∧ ∃ m, w'' = w.drewN m := h.mono fun _ _ ⟨he, hm⟩ => ⟨he, n, hm.symm⟩

set_option maxHeartbeats 800000 in
set_option maxRecDepth 100000 in
theorem value_calls (d : Nat) : ∀ (p : Nat) (e0 : List (Int × Int)) (A : Option Addr) (n c : Nat) (vals : List Int) (w : World) (lo hi : Nat), TreeAt 111 d w (fun _ => True) p e0 →
    SlI w lo hi A n vals → n ≤ 1048576 → (∀ t ∈ e0, okTerm t n = true) → (∀ x ∈ vals, 0 ≤ x ∧ x ≤ 63) →
    Calls Try.prog 80 #[.pointer (some ⟨p, 0, none⟩), .slice A n c] w fun e w' => e = .returned (.int .i64 (valOf vals e0)) ∧ ∃ k, w' = w.drewN k := by
  induction d with
  | zero => intro p e0 A n c vals w lo hi h; exact h.elim
  | succ d ih =>
    intro p e0 A n c vals w lo hi h hv hn hok hvb
    have hseg := h.seg
    obtain ⟨t, ps, B, m, cm, rfl, hm, hpb, hp, hr, hch⟩ := h
    obtain ⟨t1, t2⟩ := t
    have y0 := cell_of_row _ _ 0 _ _ _ hp
    have y1 := cell_of_row _ _ 1 _ _ _ hp
    have y2 := cell_of_row _ _ 2 _ _ _ hp
    simp at y0 y1 y2
    have ht := hok (t1, t2) (List.mem_cons_self ..)
    have hpsl := hr.1
    rw [List.length_map] at hpsl
    have hsegs : ∀ s ∈ ps.map (·.2), Seg d s := fun s hs => by
      obtain ⟨x, hx, rfl⟩ := List.mem_map.1 hs
      exact (hch x hx).seg
    have hnode : Hid (valOf vals ((t1, t2) :: (ps.map (·.2)).flatten) = fval vals (t1, t2) ((ps.map (·.2)).map (valOf vals))) := hide (valOf_node (by rw [List.length_map]; omega) hsegs)
    have hvl := hv.len
    have hsub : ∀ s ∈ ps, ∀ t ∈ s.2, okTerm t n = true := fun s hs t ht => hok t (List.mem_cons_of_mem _ (List.mem_flatten.2 ⟨s.2, List.mem_map.2 ⟨s, hs, rfl⟩, ht⟩))
    have hbd : Hid (∀ s ∈ ps, 0 ≤ valOf vals s.2 ∧ valOf vals s.2 ≤ 63) := fun s hs => val_bd hvb d s.2 (hch s hs).seg (by rw [hvl]; exact hsub s hs)
    have hcall : Hid (∀ s ∈ ps, ∀ k, Calls Try.prog 80 #[.pointer (some ⟨s.1, 0, none⟩), .slice A n c] (w.drewN k) fun e w' => e = .returned (.int .i64 (valOf vals s.2)) ∧ ∃ k', w' = (w.drewN k).drewN k') := fun s hs k => ih s.1 s.2 A n c vals (w.drewN k) lo hi ((hch s hs).keep (Nat.le_refl _) fun b h1 h2 => ⟨rfl, h1⟩) (hv.drewN k) hn (hsub s hs) hvb
    have hk := okTerm_kind ht
    dsimp only at hk
    clear ih hch hsegs hseg hok hsub
    rcases hk with rfl | rfl | rfl | rfl
    · have hr0 : Hid (fval vals (0, t2) ((ps.map (·.2)).map (valOf vals)) = t2) := rfl
      clear hv hvb hr hcall hbd hp
      go_enter Try.func80, Try.ntmps80
      go_wp2_with fail
      go_ret
      exact ⟨ret_i (by rw [hnode.out, hr0.out]), 0, rfl⟩
    · have ht2 : 0 ≤ t2 ∧ t2 ≤ n - 1 := by simpa [okTerm, inB] using ht
      obtain ⟨u, rfl⟩ := Int.eq_ofNat_of_zero_le ht2.1
      have hun : u < n := by omega
      obtain ⟨b, off, x, rfl, g1, g2, g3, hx, c0, -⟩ := hv.get hun
      have hr0 : Hid (fval vals (1, (u : Int)) ((ps.map (·.2)).map (valOf vals)) = x) := hide (by
        show vals.getD ((u : Int).toNat) 0 = x
        rw [Int.toNat_natCast, List.getD_eq_getElem?_getD, hx]
        rfl)
      clear hv hvb hr hcall hbd hp hx ht2 ht
      go_enter Try.func80, Try.ntmps80
      go_wp2_with fail
      go_ret
      exact ⟨ret_i (by rw [hnode.out, hr0.out]), 0, rfl⟩
    · have hm2 : m = 2 := by have : arity ((2 : Int), t2) = 2 := rfl; omega
      subst hm2
      obtain ⟨s1, s2, rfl⟩ : ∃ s1 s2, ps = [s1, s2] := by
        match ps, hpsl with
        | [s1, s2], _ => exact ⟨s1, s2, rfl⟩
      obtain ⟨b, off, rfl, _, g2, hc⟩ := hr.2 (by omega)
      have c0 := hc 0 s1.1 rfl
      have c1 := hc 1 s2.1 rfl
      rw [Nat.add_zero] at c0
      have hv1 := hbd.out s1 (by simp)
      have hv2 := hbd.out s2 (by simp)
      have hc1 := hide (hcall.out s1 (by simp))
      have hc2 := hide (hcall.out s2 (by simp))
      have hr0 : Hid (fval vals (2, t2) (([s1, s2].map (·.2)).map (valOf vals)) = opF t2 (valOf vals s1.2) (valOf vals s2.2)) := rfl
      generalize s1.1 = p1 at *
      generalize s2.1 = p2 at *
      generalize valOf vals s1.2 = a1 at *
      generalize valOf vals s2.2 = a2 at *
      have hop := hide (fun W => operate_calls t2 a1 a2 W hv1 hv2)
      clear hv hvb hr hcall hbd hp hc ht hv1 hv2
      go_enter Try.func80, Try.ntmps80
      go_wp2_with fail
      go_quiet ((first | (go_at_call 80; with_reducible exact Calls.quiet_of (hc1.out _)) | (go_at_call 80; with_reducible exact Calls.quiet_of (hc2.out _)) | (go_at_call 108; with_reducible exact quiet_left (hop.out _))))
      go_wp2_with fail
      go_ret
      exact ⟨ret_i (by rw [hnode.out, hr0.out]), _, rfl⟩
    · have hm1 : m = 1 := by have : arity ((3 : Int), t2) = 1 := rfl; omega
      subst hm1
      obtain ⟨s1, rfl⟩ : ∃ s1, ps = [s1] := by
        match ps, hpsl with
        | [s1], _ => exact ⟨s1, rfl⟩
      obtain ⟨b, off, rfl, _, g2, hc⟩ := hr.2 (by omega)
      have c0 := hc 0 s1.1 rfl
      rw [Nat.add_zero] at c0
      have hc1 : Hid (Calls Try.prog 80 #[.pointer (some ⟨s1.1, 0, none⟩), .slice A n c] w fun e w' => e = .returned (.int .i64 (valOf vals s1.2)) ∧ ∃ k', w' = w.drewN k') := hcall.out s1 (by simp) 0
      have hr0 : Hid (fval vals (3, t2) (([s1].map (·.2)).map (valOf vals)) = tr (valOf vals s1.2 == 0)) := rfl
      generalize s1.1 = p1 at *
      generalize valOf vals s1.2 = a1 at *
      clear hv hvb hr hcall hbd hp hc ht
      go_enter Try.func80, Try.ntmps80
      go_wp2_with fail
      refine hc1.out.mono ?_
      rintro e w1 ⟨rfl, k1, rfl⟩
      go_wp2_with ((go_at_call 107; (with_reducible refine (truth_calls _ _).mono ?_); rintro e w' ⟨rfl, rfl⟩))
      go_ret
      exact ⟨ret_i (by rw [hnode.out, hr0.out]), _, rfl⟩

theorem evaluate_calls (A B : Option Addr) (n m d : Nat) (l : List (Int × Int)) (vals : List Int) (w : World) (lo hi lo' hi' : Nat) (h : SlT w lo hi A n l) (g : SlI w lo' hi' B m vals) (hm : m ≤ 29) (hl : isTerms l m 60 = true)
    (hd : dataOk vals = true) :
    Calls Try.prog 74 #[.slice A n n, .slice B m d] w fun e w' => e = .returned (.int .i64 (valOf vals l)) ∧ Below w.heap.size w w' := by
  have hl29 : isTerms l 29 60 = true := by
    rw [isTerms_covered (by omega)] at hl
    simp only [Bool.and_eq_true] at hl
    exact hl.1
  have q1 := hide (tree_calls A n n l w lo hi h (Nat.le_refl _) hl29)
  have hok := hide (isTerms_ok hl)
  have hvb := hide (dataOk_bd hd)
  replace g := hide g
  clear h hl hl29 hd
  go_enter Try.func74, Try.ntmps74
  go_wp2_with fail
  refine q1.out.mono ?_
  rintro e w1 ⟨p, rfl, ht, hb⟩
  have q2 := hide (value_calls 60 p l B m d vals w1 _ _ (ht.keep (Nat.le_refl _) fun _ _ _ => ⟨rfl, trivial⟩) (g.out.below hb (.inr (Nat.le_refl _))) (by omega) hok.out hvb.out)
  clear ht
  go_wp2_with fail
  refine q2.out.mono ?_
  rintro e w2 ⟨rfl, k, rfl⟩
  go_wp2_with fail
  go_ret
  exact ⟨rfl, ⟨hb.os, hb.tape, hb.output, hb.size, hb.block⟩⟩

end Go.Proofs.Ytdjhpdmpibokhaa
