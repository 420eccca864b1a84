/-
  Evaluate, on both sides. Conditions: none beyond 1048576 terms and values.
-/
import Derived.Test.YtdjhpdmpibokhaaEval2
namespace Go.Proofs.Ytdjhpdmpibokhaa
open Go.ChangeShapes Go.WideShapes Go.ChangeAt Go.RowKit
set_option linter.unusedVariables false

theorem drop_head {α : Type} {l r : List α} {k : Nat} {x : α} (h : l.drop k = x :: r) : l[k]? = some x ∧ l.drop (k + 1) = r := by
  constructor
  · have h1 := List.getElem?_drop (xs := l) (i := k) (j := 0)
    rw [h] at h1
    simpa using h1.symm
  · rw [← List.drop_drop, h]
    rfl

theorem flat_ge {β : Type} : ∀ (S : List (List β)), (∀ s ∈ S, 0 < s.length) → S.length ≤ S.flatten.length := by
  intro S
  induction S with
  | nil => intro _; simp
  | cons s S ih =>
    intro h
    rw [List.flatten_cons, List.length_cons, List.length_append]
    have h1 := h s (List.mem_cons_self ..)
    have h2 := ih fun s hs => h s (List.mem_cons_of_mem _ hs)
    omega

theorem l03End_calls (A : Option Addr) (n c : Nat) (l : List (Int × Int)) (k : Nat) (ki : Int) (d : Nat) (s r : List (Int × Int)) (w : World) (lo hi : Nat) (h : SlT w lo hi A n l) (hn : n ≤ 60) (hki : ki = (k : Int)) (hd : l.drop k = s ++ r) (hs : Seg d s) :
    Calls Try.prog 121 #[.slice A n c, .int .i64 ki] w fun e w' => e = .returned (.int .i64 ((k : Int) + (s.length : Int))) ∧ w = w' := by
  subst hki
  have hlen := hide h.len
  obtain ⟨E, hE⟩ : ∃ E : Nat, E = k + s.length := ⟨_, rfl⟩
  have hE2 : Hid ((k : Int) + (s.length : Int) = (E : Int)) := hide (by omega)
  have hEn : E ≤ n := by
    have h1 := congrArg List.length hd
    rw [List.length_drop, List.length_append, hlen.out] at h1
    by_cases hkn : k ≤ n
    · omega
    · have := hs.pos; omega
  replace hE := hide hE
  replace hd := hide hd
  go_enter Try.func121, Try.ntmps121
  go_wp2_with fail
  go_loop [1, 5] (fun i q => ∃ (j m : Nat) (segs : List (List (Int × Int))), i = .int .i64 j ∧ q = .int .i64 m ∧ j ≤ E ∧ m ≤ 60 ∧ Hid (segs.length = m) ∧ Hid (l.drop j = segs.flatten ++ r) ∧ Hid (j + segs.flatten.length = E) ∧ Hid (∀ s ∈ segs, Seg d s)) (fun i _ => E - (intOf i).toNat)
  case atStart => exact ⟨k, 1, [s], rfl, rfl, by have := hE.out; omega, by omega, rfl, hide (by simpa using hd.out), hide (by have := hE.out; simpa using this.symm), fun x hx => by rw [List.mem_singleton.1 hx]; exact hs⟩
  case round =>
    obtain ⟨j, m, segs, rfl, rfl, hj, hm6, hm, hdj, hjE, hsg⟩ := hrel
    match segs, hm, hdj, hjE, hsg with
    | [], hm, hdj, hjE, hsg =>
      have hm0 := hm.out
      simp at hm0
      subst hm0
      have hj2 := hjE.out
      simp at hj2
      subst hj2
      clear hdj hsg hm hjE h
      go_wp2_with fail
      go_ret
      exact ⟨ret_i hE2.out, rfl⟩
    | s0 :: rest, hm, hdj, hjE, hsg =>
      cases d with
      | zero => exact (hsg.out s0 (List.mem_cons_self ..)).elim
      | succ d =>
        obtain ⟨t, ss, rfl, hl, hss⟩ := hsg.out s0 (List.mem_cons_self ..)
        have hdj2 : l.drop j = t :: (ss.flatten ++ rest.flatten ++ r) := by rw [hdj.out]; simp
        obtain ⟨hx, hdn⟩ := drop_head hdj2
        have hjn : j < n := by rw [← hlen.out]; exact (List.getElem?_eq_some_iff.1 hx).1
        obtain ⟨b, off, x1, x2, rfl, g1, g2, g3, hx', c0, c1, -, -⟩ := h.get hjn
        rw [hx'] at hx
        injection hx with hx
        subst hx
        have hm1 := hm.out
        rw [List.length_cons] at hm1
        have hjE1 := hjE.out
        simp only [List.flatten_cons, List.length_append, List.length_cons] at hjE1
        have hle : rest.length ≤ rest.flatten.length := flat_ge rest fun s hs' => (hsg.out s (List.mem_cons_of_mem _ hs')).pos
        have hle2 : ss.length ≤ ss.flatten.length := flat_ge ss fun s hs' => (hss s hs').pos
        have hq : Hid ((ss ++ rest).length = m + ss.length - 1) := hide (by rw [List.length_append]; omega)
        have hfl : Hid (l.drop (j + 1) = (ss ++ rest).flatten ++ r) := hide (by rw [hdn]; simp)
        have hjE3 : Hid (j + 1 + (ss ++ rest).flatten.length = E) := hide (by rw [List.flatten_append, List.length_append]; omega)
        have hsg2 : Hid (∀ s ∈ ss ++ rest, Seg (d + 1) s) := fun s hs' => by
          rcases List.mem_append.1 hs' with h1 | h1
          · exact (hss s h1).mono _ (by omega)
          · exact hsg.out s (List.mem_cons_of_mem _ h1)
        have har := l03Arity_calls b (off + j * 2) x1 x2 w c0
        rw [← hl] at har
        replace har := hide har
        have hmp : 1 ≤ m := by omega
        clear hdj hjE hsg hm h hx' hdn hdj2 hss hl hs
        go_wp2_with (go_at_call 57; (with_reducible refine har.out.mono ?_); rintro e w' ⟨rfl, rfl⟩)
        go_round
        case rel => exact ⟨j + 1, m + ss.length - 1, ss ++ rest, by go_num, by go_num, by omega, by omega, hq, hfl, hjE3, hsg2⟩
        case measure => simp [intOf]; omega

set_option maxHeartbeats 800000 in
theorem l03At_calls (d : Nat) : ∀ (A : Option Addr) (n c : Nat) (l : List (Int × Int)) (B : Option Addr) (m e : Nat) (vals : List Int) (k : Nat) (ki : Int) (s r : List (Int × Int)) (w : World) (lo hi lo' hi' : Nat), SlT w lo hi A n l → n ≤ 60 → SlI w lo' hi' B m vals → m ≤ 1048576 →
    ki = (k : Int) → l.drop k = s ++ r → Seg d s → (∀ t ∈ s, okTerm t m = true) → (∀ x ∈ vals, 0 ≤ x ∧ x ≤ 63) →
    Calls Try.prog 101 #[.slice A n c, .slice B m e, .int .i64 ki] w fun e w' => e = .returned (.int .i64 (valOf vals s)) ∧ w = w' := by
  induction d with
  | zero => intro A n c l B m e vals k ki s r w lo hi lo' hi' h hn g hm hk hd hs; exact hs.elim
  | succ d ih =>
    intro A n c l B m e vals k ki s r w lo hi lo' hi' h hn g hm hk hd hs hok hvb
    subst hk
    obtain ⟨t, ss, rfl, hl, hss⟩ := hs
    have hnode : Hid (valOf vals (t :: ss.flatten) = fval vals t (ss.map (valOf vals))) := valOf_node hl hss
    have hd2 : l.drop k = t :: (ss.flatten ++ r) := by rw [hd]; simp
    obtain ⟨hx, hdn⟩ := drop_head hd2
    have hkn : k < n := by rw [← h.len]; exact (List.getElem?_eq_some_iff.1 hx).1
    obtain ⟨b, off, x1, x2, hA, g1, g2, g3, hx', c0, c1, -, -⟩ := h.get hkn
    rw [hx'] at hx
    injection hx with hx
    subst hx
    have ht := hok (x1, x2) (List.mem_cons_self ..)
    have hvl := g.len
    have hsub : ∀ s ∈ ss, ∀ t ∈ s, okTerm t m = true := fun s hs t ht => hok t (List.mem_cons_of_mem _ (List.mem_flatten.2 ⟨s, hs, ht⟩))
    have hbd : Hid (∀ s ∈ ss, 0 ≤ valOf vals s ∧ valOf vals s ≤ 63) := fun s hs => val_bd hvb d s (hss s hs) (by rw [hvl]; exact hsub s hs)
    have hk := okTerm_kind ht
    dsimp only at hk
    rcases hk with rfl | rfl | rfl | rfl
    · have hr0 : Hid (fval vals (0, x2) (ss.map (valOf vals)) = x2) := rfl
      subst hA
      clear h g hvb hbd ih hsub hss hl hok hd hd2 hdn hx'
      go_enter Try.func101, Try.ntmps101
      go_wp2_with fail
      go_ret
      exact ⟨ret_i (by rw [hnode.out, hr0.out]), rfl⟩
    · have ht2 : 0 ≤ x2 ∧ x2 ≤ m - 1 := by simpa [okTerm, inB] using ht
      obtain ⟨u, rfl⟩ := Int.eq_ofNat_of_zero_le ht2.1
      have hun : u < m := by omega
      obtain ⟨b', off', x, rfl, g1', g2', g3', hxv, d0, -⟩ := g.get hun
      have hr0 : Hid (fval vals (1, (u : Int)) (ss.map (valOf vals)) = x) := hide (by
        show vals.getD ((u : Int).toNat) 0 = x
        rw [Int.toNat_natCast, List.getD_eq_getElem?_getD, hxv]
        rfl)
      subst hA
      clear h g hvb hbd ih hsub hss hl hok hd hd2 hdn hx' hxv ht ht2
      go_enter Try.func101, Try.ntmps101
      go_wp2_with fail
      go_ret
      exact ⟨ret_i (by rw [hnode.out, hr0.out]), rfl⟩
    · obtain ⟨s1, s2, rfl⟩ : ∃ s1 s2, ss = [s1, s2] := by
        have h2 : (ss.length : Int) = 2 := hl
        match ss, h2 with
        | [s1, s2], _ => exact ⟨s1, s2, rfl⟩
      have hdn1 : l.drop (k + 1) = s1 ++ (s2 ++ r) := by rw [hdn]; simp
      have hdn2 : l.drop (k + 1 + s1.length) = s2 ++ r := by rw [← List.drop_drop, hdn1, List.drop_left]
      have q1 := hide (ih A n c l B m e vals (k + 1) ((k : Int) + 1) s1 (s2 ++ r) w lo hi lo' hi' h hn g hm (by omega) hdn1 (hss s1 (by simp)) (hsub s1 (by simp)) hvb)
      have q2 := l03End_calls A n c l (k + 1) ((k : Int) + 1) d s1 (s2 ++ r) w lo hi h hn (by omega) hdn1 (hss s1 (by simp))
      have q3 := ih A n c l B m e vals (k + 1 + s1.length) (((k + 1 : Nat) : Int) + (s1.length : Int)) s2 r w lo hi lo' hi' h hn g hm (by omega) hdn2 (hss s2 (by simp)) (hsub s2 (by simp)) hvb
      generalize (((k + 1 : Nat) : Int) + (s1.length : Int)) = K at q2 q3
      replace q2 := hide q2
      replace q3 := hide q3
      have hv1 := hbd.out s1 (by simp)
      have hv2 := hbd.out s2 (by simp)
      have hr0 : Hid (fval vals (2, x2) ([s1, s2].map (valOf vals)) = opF x2 (valOf vals s1) (valOf vals s2)) := rfl
      have hop := hide (fun W => l03Op_calls x2 (valOf vals s1) (valOf vals s2) W hv1 hv2)
      generalize valOf vals s1 = a1 at *
      generalize valOf vals s2 = a2 at *
      subst hA
      clear h g hvb hbd ih hsub hss hl hok hd hd2 hdn hdn1 hdn2 hx' ht hv1 hv2
      go_enter Try.func101, Try.ntmps101
      go_wp2_with fail
      refine q1.out.mono ?_
      rintro e1 w1 ⟨rfl, rfl⟩
      go_wp2_with fail
      refine q2.out.mono ?_
      rintro e1 w1 ⟨rfl, rfl⟩
      go_wp2_with fail
      refine q3.out.mono ?_
      rintro e1 w1 ⟨rfl, rfl⟩
      go_wp2_with fail
      refine (hop.out _).mono ?_
      rintro e1 w1 ⟨rfl, rfl⟩
      go_wp2_with fail
      go_ret
      exact ⟨ret_i (by rw [hnode.out, hr0.out]), rfl⟩
    · obtain ⟨s1, rfl⟩ : ∃ s1, ss = [s1] := by
        have h2 : (ss.length : Int) = 1 := hl
        match ss, h2 with
        | [s1], _ => exact ⟨s1, rfl⟩
      have hdn1 : l.drop (k + 1) = s1 ++ r := by rw [hdn]; simp
      have q1 := hide (ih A n c l B m e vals (k + 1) ((k : Int) + 1) s1 r w lo hi lo' hi' h hn g hm (by omega) hdn1 (hss s1 (by simp)) (hsub s1 (by simp)) hvb)
      have hr0 : Hid (fval vals (3, x2) ([s1].map (valOf vals)) = tr (valOf vals s1 == 0)) := rfl
      generalize valOf vals s1 = a1 at *
      subst hA
      clear h g hvb hbd ih hsub hss hl hok hd hd2 hdn hdn1 hx' ht
      go_enter Try.func101, Try.ntmps101
      go_wp2_with fail
      refine q1.out.mono ?_
      rintro e1 w1 ⟨rfl, rfl⟩
      go_wp2_with ((go_at_call 120; (with_reducible refine (l03Truth_calls _ _).mono ?_); rintro e w' ⟨rfl, rfl⟩))
      go_ret
      exact ⟨ret_i (by rw [hnode.out, hr0.out]), rfl⟩

theorem l03Eval_calls (A B : Option Addr) (n c m e : Nat) (l : List (Int × Int)) (vals : List Int) (w : World) (lo hi lo' hi' : Nat) (h : SlT w lo hi A n l) (g : SlI w lo' hi' B m vals) (hm : m ≤ 1048576) (hl : isTerms l 29 60 = true) (hok : ∀ t ∈ l, okTerm t m = true)
    (hd : ∀ x ∈ vals, 0 ≤ x ∧ x ≤ 63) :
    Calls Try.prog 71 #[.slice A n c, .slice B m e] w fun e w' => e = .returned (.int .i64 (valOf vals l)) ∧ w = w' := by
  have hn := isTerms_len hl
  rw [h.len] at hn
  have q1 := hide (l03At_calls 60 A n c l B m e vals 0 0 l [] w lo hi lo' hi' h (by omega) g hm rfl (by simp) (isTerms_seg hl) hok hd)
  clear h g hd hl hok
  go_enter Try.func71, Try.ntmps71
  go_wp2_with fail
  refine q1.out.mono ?_
  rintro e1 w1 ⟨rfl, rfl⟩
  go_wp2_with fail
  go_ret
  exact ⟨rfl, rfl⟩

end Go.Proofs.Ytdjhpdmpibokhaa
