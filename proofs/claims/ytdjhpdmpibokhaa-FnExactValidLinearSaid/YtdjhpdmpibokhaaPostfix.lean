/-
  What PostfixOf computes, on both sides. Conditions: none beyond 1048576 terms.
-/
import Derived.Test.YtdjhpdmpibokhaaTree
namespace Go.Proofs.Ytdjhpdmpibokhaa
open Go.ChangeShapes Go.WideShapes Go.ChangeAt Go.RowKit
set_option linter.unusedVariables false

set_option maxRecDepth 100000 in
theorem postfix_calls (d : Nat) : ∀ (p : Nat) (e0 : List (Int × Int)) (A : Option Addr) (n c : Nat) (out : List (Int × Int)) (base : Nat) (w : World), TreeAt 111 d w (fun b => b < base) p e0 →
    Own 2 tv w base 72 A n c out → base ≤ w.heap.size → n + e0.length ≤ 1048576 →
    Calls Try.prog 60 #[.pointer (some ⟨p, 0, none⟩), .slice A n c] w fun e w' => ∃ A' c', e = .returned (.slice A' (n + e0.length) c') ∧ Own 2 tv w' base 72 A' (n + e0.length) c' (out ++ postOf e0) ∧ Below base w w' := by
  induction d with
  | zero => intro p e0 A n c out base w h; exact h.elim
  | succ d ih =>
    intro p e0 A n c out base w h hown hbase hsz
    have hseg := h.seg
    obtain ⟨t, ps, B, m, cm, rfl, hm, hpb, hp, hr, hch⟩ := h
    obtain ⟨t1, t2⟩ := t
    have hpl := lt_of_block hp
    have y0 := cell_of_row _ _ 0 _ _ _ hp
    have y1 := cell_of_row _ _ 1 _ _ _ hp
    have y2 := cell_of_row _ _ 2 _ _ _ hp
    simp at y0 y1 y2
    have hE := hide elem_implTerm
    have hpsl := hr.1
    rw [List.length_map] at hpsl
    have hsegs : ∀ s ∈ ps.map (·.2), Seg d s := fun s hs => by
      obtain ⟨x, hx, rfl⟩ := List.mem_map.1 hs
      exact (hch x hx).seg
    have hnode : Hid (postOf ((t1, t2) :: (ps.map (·.2)).flatten) = ((ps.map (·.2)).map postOf).flatten ++ [(t1, t2)]) := hide (postOf_node (by rw [List.length_map]; omega) hsegs)
    have hlens := hide (fun k => flat_map_len (P := postOf) (ps.map (·.2)) k (fun s hs => post_len d s (hsegs s hs)))
    have hlene := hide (flat_map_len_eq (P := postOf) (ps.map (·.2)) (fun s hs => post_len d s (hsegs s hs)))
    have hpos := hide (fun (s : Nat × List (Int × Int)) (hs : s ∈ ps) => post_len d s.2 (hch s hs).seg)
    rw [List.length_cons] at hsz
    have hm2 : m ≤ 2 := by have := arity_bd (t1, t2); omega
    obtain ⟨L, hL⟩ : ∃ L, L = (ps.map (·.2)).flatten.length := ⟨_, rfl⟩
    have hel : ((t1, t2) :: (ps.map (·.2)).flatten).length = L + 1 := by rw [hL]; rfl
    rw [hel]
    rw [← hL] at hsz hlene
    have hlens2 : Hid (∀ k, (((ps.map (·.2)).take k).map postOf).flatten.length ≤ L) := by rw [hL]; exact hlens.out
    replace hpsl := hide hpsl
    replace hch := hide hch
    replace hr := hide hr
    replace ih := hide ih
    have hown0 := hide hown
    clear hseg hsegs hlens hel hL hm hp
    go_enter Try.func60, Try.ntmps60
    go_wp2_with fail
    go_loopw [1, 12] (fun s i wr => ∃ (k q : Nat) (A2 : Option Addr) (c2 : Nat), k ≤ m ∧ i = .int .i64 k ∧ s = .slice A2 q c2 ∧ q ≤ n + L ∧ Own 2 tv wr base 72 A2 q c2 (out ++ (((ps.map (·.2)).take k).map postOf).flatten) ∧ Below base w wr) (fun _ i _ => m - (intOf i).toNat)
    case atStart => exact ⟨0, n, A, c, Nat.zero_le _, rfl, rfl, by omega, by simpa using hown, Below.refl _ _⟩
    case round =>
      obtain ⟨k, q, A2, c2, hk, rfl, rfl, hq, hown2, hb⟩ := hrel
      have hsz2 := hb.size
      have hsz2' : base ≤ wr.heap.size := by omega
      clear hown
      by_cases hlt : k < m
      · obtain ⟨b, off, rfl, g1, g2, hcl⟩ := hr.out.2 (by omega)
        have hkl : k < ps.length := by rw [hpsl.out]; exact hlt
        have hmem := List.getElem_mem hkl
        have hc0 := (hb.cell (p := ⟨b, off + k, none⟩) g1).trans (hcl k (ps[k]).1 (by rw [List.getElem?_map, List.getElem?_eq_getElem hkl]; rfl))
        have htk := (hch.out _ hmem).keep hsz2 (fun b h1 h2 => ⟨hb.block b h1, h1⟩)
        have hstep := hide (flat_take_succ (P := postOf) (segs := ps.map (·.2)) (k := k) (s := (ps[k]).2) (by rw [List.getElem?_map, List.getElem?_eq_getElem hkl]; rfl))
        have hF := hlens2.out (k + 1)
        have hql := hown2.len
        have hn0 := hown0.out.len
        rw [hstep.out, List.length_append, hpos.out _ hmem] at hF
        rw [List.length_append, hn0] at hql
        generalize (ps[k]).1 = p1 at *
        generalize (ps[k]).2 = e1 at *
        have hcall := hide (ih.out p1 e1 A2 q c2 _ base wr htk hown2 (by omega) (by omega))
        have hq2 : q + e1.length ≤ n + L := by omega
        clear htk hF hql hn0 hcl hmem hown2 ih hch hr hpos hlens2
        go_wp2_with fail
        refine hcall.out.mono ?_
        rintro e w1 ⟨A3, c3, rfl, hown3, hb1⟩
        replace hown3 := hide hown3
        go_wp2_with fail
        go_roundw
        case rel => exact ⟨k + 1, _, A3, c3, by omega, by go_num, rfl, by omega, by rw [hstep.out, ← List.append_assoc]; exact hown3.out, hb.trans hb1⟩
        case measure => simp [intOf]; omega
      · have hkm : k = m := by omega
        subst hkm
        have z0 := (hb.cell (p := ⟨p, 0, none⟩) hpb).trans y0
        have z1 := (hb.cell (p := ⟨p, 1, none⟩) hpb).trans y1
        have hall : Hid ((ps.map (·.2)).take k = ps.map (·.2)) := List.take_of_length_le (by rw [List.length_map, hpsl.out]; exact Nat.le_refl _)
        have hql := hown2.len
        rw [hall.out, List.length_append, hlene.out, hown0.out.len] at hql
        subst hql
        rw [hall.out] at hown2
        have hz : base ≤ (wr.alloc (.cells #[.int .i64 t1, .int .i64 t2] 72)).heap.size := by simp; omega
        clear ih hch hr hpos hlens2 y0 y1 y2
        go_wp2_with (first | (at_builtin; (with_reducible refine wpList_app rfl (.tmp 20) (.tmp 25) rfl hE.out flat_tv rfl (hown2.alloc _) rfl (Sl.lit1' wr 72 (t1, t2) _ rfl 2 _ ?c0) ?c1 hz ?_); rotate_right; intro A5 c5 w5 hown5 hgr5 hb5 hat5))
        case c0 => rfl
        case c1 => omega
        go_ret
        exact ⟨A5, c5, rfl, by rw [hnode.out, ← List.append_assoc]; exact hown5, (hb.alloc hsz2' _).trans hb5⟩


theorem elem_termRows : Elem Try.prog 39 25 1 24 :=
  Elem.of (z := .slice none 0 0) Try.underlying39 (by kernel_rfl) rfl (by omega) (by omega)

/-- The rows of a stack. -/
def Rows2 (w : World) (base : Nat) (R : List ((Option Addr × Nat × Nat) × List (Int × Int))) : Prop := ∀ r ∈ R, Own 2 tv w base 72 r.1.1 r.1.2.1 r.1.2.2 r.2

set_option maxRecDepth 100000 in
theorem specPostfixOf_std (w : World) (A : Option Addr) (n : Nat) (l : List (Int × Int)) (lo hi : Nat) (h : SlT w lo hi A n l) (hn : n ≤ 1048576) :
    Calls Try.prog 17 #[.slice A n n] w fun e w' => ∃ A' q c', e = .returned (.tuple #[.slice A' q c', .int .i64 (postfixOfF l).2]) ∧ q ≤ 1048576 ∧ SlT w' w.heap.size w'.heap.size A' q (postfixOfF l).1 ∧ Below w.heap.size w w' := by
  have q1 := l03Any_calls A n n l w lo hi h hn
  by_cases c1 : isTerms l 29 60 = true
  · rw [c1] at q1
    replace q1 := hide q1
    have hlen := h.len
    have hn2 := isTerms_len c1
    rw [hlen] at hn2
    have hl1 : Hid (isLoop l 29 1 = true) := by
      have h1 := c1
      unfold isTerms at h1
      split at h1
      · cases h1
      · exact h1
    have hs : Hid (postfixOfF l = (postOf l, 0)) := if_pos c1
    have hE := hide elem_implTerm
    have hER := hide elem_termRows
    replace hlen := hide hlen
    clear c1
    go_enter Try.func17, Try.ntmps17
    go_wp2_with (first | (go_at_call 56; (with_reducible refine q1.out.mono ?_); rintro e w' ⟨rfl, rfl⟩))
    clear q1
    go_loopw [4, 5] (fun s i wr => ∃ (j np cp : Nat) (Ap : Option Addr) (R : List ((Option Addr × Nat × Nat) × List (Int × Int))), j ≤ n ∧ i = .int .i64 ((j : Int) - 1) ∧ s = .slice Ap np cp ∧ np ≤ 60 ∧ Own 1 sv wr w.heap.size 25 Ap np cp (R.map (·.1)).reverse ∧ Hid (R.map (·.2) = stk fpost (l.drop j)) ∧ Rows2 wr w.heap.size R ∧ Below w.heap.size w wr) (fun _ i _ => (intOf i + 1).toNat)
    case atStart => exact ⟨n, 0, 0, _, [], Nat.le_refl _, rfl, rfl, by omega, Own.made _ _ (Nat.le_refl _), hide (by rw [List.drop_eq_nil_of_le (by rw [hlen.out]; exact Nat.le_refl _)]; rfl), (fun r hr => absurd hr (by simp)), (Below.refl _ _).alloc (Nat.le_refl _) _⟩
    case round =>
      obtain ⟨j, np, cp, Ap, R, hj, rfl, rfl, hnp, hown, hR, hrows, hb⟩ := hrel
      have hsz := hb.size
      by_cases hlt : j = 0
      · subst hlt
        have hst : Hid (R.map (·.2) = [postOf l]) := by
          have h1 := hR.out
          rw [List.drop_zero] at h1
          have h2 := stk_len fpost l 1 hl1.out (by omega)
          have h3 : stk fpost l = [postOf l] := by
            match hq : stk fpost l with
            | [] => rw [hq] at h2; simp at h2
            | [x] => unfold postOf sval; rw [hq]; rfl
            | x :: y :: r => rw [hq] at h2; simp at h2; omega
          exact h1.trans h3
        match R, hst with
        | [], hst => exact absurd hst.out (by simp)
        | r :: r2 :: R, hst => exact absurd hst.out (by simp)
        | [((Ar, nr, cr), s0)], hst =>
          have hs0 : s0 = postOf l := by have := hst.out; simpa using this
          subst hs0
          have hr := hrows _ (List.mem_singleton.2 rfl)
          have hrl := hr.len
          have hnp1 : np = 1 := by have := hown.len; simpa using this.symm
          subst hnp1
          obtain ⟨bp, op, rfl, _, _, _, hcp⟩ := (hown.sl flat_sv).at_ (by omega)
          have hcu := (hcp 0 _ rfl 0 _ rfl).1
          simp only [Nat.mul_one, Nat.add_zero] at hcu
          have hnr : nr ≤ 60 := by
            dsimp only at hrl
            have h1 := stk_post_len l
            have h2 := hR.out
            rw [List.drop_zero] at h2
            rw [← h2] at h1
            simp at h1
            have := hlen.out
            omega
          replace hr := hide (hr.sl flat_tv)
          clear hcp hown hrows h hrl
          go_wp2
          go_ret2
          exact ⟨Ar, nr, ⟨cr, by rw [hs.out]; rfl⟩, by omega, by rw [hs.out]; exact hr.out, hb⟩
      · obtain ⟨j, rfl⟩ : ∃ j', j = j' + 1 := ⟨j - 1, by omega⟩
        obtain ⟨b, off, x1, x2, rfl, g1, g2, g3, hx, c0, c1, -, -⟩ := h.get (k := j) (by omega)
        replace c0 := (hb.cell g3).trans c0
        replace c1 := (hb.cell (p := ⟨b, off + j * 2 + 1, none⟩) g3).trans c1
        have hst := stk_at hl1.out hx
        rw [← hR.out] at hst
        obtain ⟨hst1, hst2⟩ := hst
        have hab := arity_bd (x1, x2)
        obtain ⟨m, hm⟩ : ∃ m : Nat, arity (x1, x2) = (m : Int) := ⟨(arity (x1, x2)).toNat, by omega⟩
        rw [hm] at hst1 hst2 hab
        rw [Int.toNat_natCast] at hst1
        have hRl : R.length = np := by have := hown.len; simpa using this
        rw [List.length_map, hRl] at hst2
        have htot : (R.map (·.2)).flatten.length ≤ 60 := by
          rw [hR.out, stk_post_len, List.length_drop, hlen.out]
          omega
        have har := l03Arity_calls b (off + j * 2) x1 x2 (wr.alloc (.cells #[] 72)) ((World.cell?_of_block (w := wr) (Below.heap_alloc _ _ _ (by show b < _; omega))).trans c0)
        rw [hm] at har
        replace har := hide har
        have ej : (((j + 1 : Nat) : Int) - 1) = (j : Int) := by omega
        have hmade := Own.made (size := 2) (f := tv) wr 72 (Nat.le_refl _)
        replace hst1 := hide hst1
        replace hm := hide hm
        replace hrows := hide hrows
        replace hRl := hide hRl
        replace htot := hide htot
        replace hx := hide hx
        replace hown := hide hown
        rw [ej]
        clear h ej
        go_wp2_with fail
        refine har.out.mono ?_
        rintro e w' ⟨rfl, rfl⟩
        go_wp2_with fail
        obtain ⟨wo, rfl⟩ : ∃ wo : World, wo = wr := ⟨_, rfl⟩
        go_loopw [4, 6, 7] (fun s x kk w2 => ∃ (a nx cx : Nat) (Ax : Option Addr), a ≤ m ∧ kk = .int .i64 ((m : Int) - a) ∧ s = .slice Ap (np - a) cp ∧ x = .slice Ax nx cx ∧ nx ≤ 60 ∧ Own 2 tv w2 wo.heap.size 72 Ax nx cx ((R.map (·.2)).take a).flatten ∧ Below wo.heap.size wo w2) (fun _ _ kk _ => (intOf kk).toNat)
        case atStart => exact ⟨0, 0, 0, _, Nat.zero_le _, by go_num, rfl, rfl, by omega, hmade, (Below.refl _ _).alloc (Nat.le_refl _) _⟩
        case round =>
          obtain ⟨a, nx, cx, Ax, ham, rfl, rfl, rfl, hnx, hX, hbX⟩ := hrel
          clear hmade
          have hszX := hbX.size
          by_cases hlt2 : a < m
          · obtain ⟨u, hu⟩ : ∃ u, np - a = u + 1 := ⟨np - a - 1, by omega⟩
            have hu2 : np - (a + 1) = u := by omega
            have hal : a < R.length := by rw [hRl.out]; omega
            obtain ⟨r, hr⟩ : ∃ r, R[a]? = some r := ⟨_, List.getElem?_eq_getElem hal⟩
            have hmem : r ∈ R := List.mem_of_getElem? hr
            obtain ⟨⟨Ah, nh, ch⟩, s0⟩ := r
            have hrev : (R.map (·.1)).reverse[u]? = some (Ah, nh, ch) := by
              rw [List.getElem?_reverse (by rw [List.length_map, hRl.out]; omega), List.length_map, hRl.out, show np - 1 - u = a from by omega, List.getElem?_map, hr]
              rfl
            have hpl := (hown.out.below hbX (Nat.le_refl _)).sl flat_sv
            obtain ⟨bp, op, rfl, _, _, _, hcp⟩ := hpl.at_ (by omega)
            have hcu := (hcp u _ hrev 0 _ rfl).1
            simp only [Nat.mul_one, Nat.add_zero] at hcu
            have hrow0 := hrows.out _ hmem
            have hs0 : s0 ∈ R.map (·.2) := List.mem_map.2 ⟨_, hmem, rfl⟩
            have hnh := flatten_mem_len _ _ hs0
            have hrl0 := hrow0.len
            dsimp only at hrow0 hrl0
            rw [hrl0] at hnh
            have htt := htot.out
            have hrow := hide ((hrow0.below hbX (Nat.le_refl _)).sl flat_tv)
            have hhead : ∀ W, (Instr.slice 39 (.slice (some ⟨bp, op, none⟩) (u + 1) cp) none (some (.int .i64 (u : Int))) none).run Try.prog W = .ok (.slice (some ⟨bp, op, none⟩) u cp) W := fun W => run_head hER.out _ _ _ _ (by have := hown.out.cap; omega) W
            have hnext : Hid (((R.map (·.2)).take (a + 1)).flatten = ((R.map (·.2)).take a).flatten ++ s0) := by
              rw [List.take_add_one, List.getElem?_map, hr]
              exact hide (by simp)
            have hnx2 : nx + nh ≤ 60 := by
              have h1 := flatten_take_len (R.map (·.2)) (a + 1)
              have h2 := hX.len
              rw [hnext.out, List.length_append, h2, hrl0] at h1
              omega
            clear hpl hcp hrev hrow0 hs0 hmem hr hal hrl0 hnh htt
            rw [hu]
            go_wp2_with (first | (at_builtin; (with_reducible refine wpList_app rfl (.tmp 32) (.tmp 36) rfl hE.out flat_tv rfl hX rfl hrow.out ?c3 hszX ?_); rotate_right; intro A5 c5 w5 hown5 hgr5 hb5 hat5))
            case c3 => omega
            go_roundw
            case rel => exact ⟨a + 1, nx + nh, c5, A5, by omega, by go_num, by rw [hu2], rfl, hnx2, by rw [hnext.out]; exact hown5, hbX.trans hb5⟩
            case measure => simp [intOf]; omega
          · have ha : a = m := by omega
            subst ha
            have d0 := (hbX.cell (p := ⟨b, off + j * 2, none⟩) (by show b < _; omega)).trans c0
            have d1 := (hbX.cell (p := ⟨b, off + j * 2 + 1, none⟩) (by show b < _; omega)).trans c1
            have htake : Hid ((R.map (·.1)).reverse.take (np - a) = ((R.drop a).map (·.1)).reverse) := by
              have h1 : (R.map (·.1)).reverse = ((R.drop a).map (·.1)).reverse ++ ((R.take a).map (·.1)).reverse := by
                rw [← List.reverse_append, ← List.map_append, List.take_append_drop]
              have h2 : (((R.drop a).map (·.1)).reverse).length = np - a := by simp [hRl.out]
              rw [h1, ← h2, List.take_left]
              exact rfl
            have hparts : Hid (∀ W, Below wo.heap.size wo W → Own 1 sv W w.heap.size 25 Ap (np - a) cp ((R.drop a).map (·.1)).reverse) := fun W hW => by
              have h1 := (hown.out.below hW (Nat.le_refl _)).take flat_sv (k := np - a) (by omega)
              rw [htake.out] at h1
              exact h1
            have hb2 : Below wo.heap.size wo (wr.alloc (.cells #[.int .i64 x1, .int .i64 x2] 72)) := hbX.alloc hszX _
            have hz2 := hb2.size
            clear c0 c1
            go_wp2_with (first | (at_builtin; (with_reducible refine wpList_app rfl (.tmp 41) (.tmp 46) rfl hE.out flat_tv rfl (hX.alloc _) rfl (Sl.lit1' wr 72 (x1, x2) _ rfl 2 _ ?c5) ?c6 hz2 ?_); rotate_right; intro A5 c5 w5 hown5 hgr5 hb5 hat5; have hb6 := hb2.trans hb5; have hz6 : w.heap.size ≤ (w5.alloc (.cells #[.slice A5 (nx + 1) c5] 25)).heap.size := (by have := hb6.size; rw [World.size_alloc]; omega)) | (at_builtin; (with_reducible refine wpList_app rfl (.tmp 48) (.tmp 50) rfl hER.out flat_sv rfl ((hparts.out w5 hb6).alloc _) rfl (Sl.lit1' w5 25 (A5, nx + 1, c5) _ rfl 1 _ ?c7) ?c8 hz6 ?_); rotate_right; intro A7 c7 w7 hown7 hgr7 hb7 hat7))
            case c5 => rfl
            case c6 => omega
            case c7 => rfl
            case c8 => omega
            have hb8 := hb6.alloc hb6.size (.cells #[.slice A5 (nx + 1) c5] 25)
            have hb9 : Below w.heap.size w w7 := (hb.trans (hb8.mono hsz)).trans hb7
            have hp5 := (hparts.out w5 hb6).alloc (.cells #[.slice A5 (nx + 1) c5] 25)
            have hnew : Own 2 tv w7 w.heap.size 72 A5 (nx + 1) c5 (((R.map (·.2)).take a).flatten ++ [(x1, x2)]) := by
              have h1 := (hown5.lower hsz).alloc (.cells #[.slice A5 (nx + 1) c5] 25)
              exact h1.kept hgr7 (h1.apart hp5 (by decide))
            have hRR : Hid (R.map (·.2) = stk fpost (l.drop (j + 1))) := hR
            go_roundw
            case rel =>
              refine ⟨j, _, c7, A7, ((A5, nx + 1, c5), ((R.map (·.2)).take a).flatten ++ [(x1, x2)]) :: R.drop a, by omega, rfl, rfl, ?_, ?_, ?_, ?_, hb9⟩
              · have h1 := stk_le fpost (l.drop j)
                rw [hst1.out, List.length_cons, List.length_drop, List.length_map, hRl.out, List.length_drop, hlen.out] at h1
                omega
              · rw [List.map_cons, List.reverse_cons]
                exact hown7
              · refine hide ?_
                rw [List.map_cons, hst1.out, List.map_drop]
                rfl
              · intro r hr
                rcases List.mem_cons.1 hr with rfl | hr
                · exact hnew
                · have h1 := ((hrows.out r (List.mem_of_mem_drop hr)).below hb6 (Nat.le_refl _)).alloc (.cells #[.slice A5 (nx + 1) c5] 25)
                  exact h1.kept hgr7 (h1.apart hp5 (by decide))
            case measure => simp [intOf]
  · replace c1 := Bool.eq_false_iff.2 c1
    rw [c1] at q1
    replace q1 := hide q1
    have hs : Hid (postfixOfF l = ([], 1)) := if_neg (by simp [c1])
    clear c1 h
    go_enter Try.func17, Try.ntmps17
    go_wp2_with (first | (go_at_call 56; (with_reducible refine q1.out.mono ?_); rintro e w' ⟨rfl, rfl⟩))
    go_ret2
    exact ⟨_, _, _, by rw [hs.out]; rfl, by omega, by rw [hs.out]; exact Sl.nil_, Below.refl _ _⟩

theorem implPostfixOf_std (w : World) (A : Option Addr) (n : Nat) (l : List (Int × Int)) (lo hi : Nat) (h : SlT w lo hi A n l) (hn : n ≤ 1048576) :
    Calls Try.prog 18 #[.slice A n n] w fun e w' => ∃ A' q c', e = .returned (.tuple #[.slice A' q c', .int .i64 (postfixOfF l).2]) ∧ q ≤ 1048576 ∧ SlT w' w.heap.size w'.heap.size A' q (postfixOfF l).1 ∧ Below w.heap.size w w' := by
  have q1 := termsOk_calls A n n l w lo hi h hn
  by_cases c1 : isTerms l 29 60 = true
  · rw [c1] at q1
    replace q1 := hide q1
    have hn2 := isTerms_len c1
    have hlen := h.len
    rw [hlen] at hn2
    have hs : Hid (postfixOfF l = (postOf l, 0)) := if_pos c1
    have q2 := hide (fun W (hW : Below w.heap.size w W) => tree_calls A n n l W _ _ (h.below hW (.inr (Nat.le_refl _))) (Nat.le_refl _) c1)
    clear c1 h
    go_enter Try.func18, Try.ntmps18
    go_wp2_with (first | (go_at_call 58; (with_reducible refine q1.out.mono ?_); rintro e w1 ⟨rfl, hb1⟩))
    refine (q2.out _ hb1).mono ?_
    rintro e w2 ⟨p, rfl, ht, hb2⟩
    have hlb : ∀ b, b < w2.heap.size → b < w2.heap.size := fun _ h => h
    have q3 := hide (postfix_calls 60 p l none 0 0 [] w2.heap.size w2 (ht.keep (Nat.le_refl _) fun b _ h2 => ⟨rfl, h2⟩) (Own.nil_ _ _ _) (Nat.le_refl _) (by rw [hlen]; omega))
    have hb := hb1.trans (hb2.mono hb1.size)
    clear ht hb1 hb2
    go_wp2_with fail
    refine q3.out.mono ?_
    rintro e w3 ⟨A3, c3, rfl, hown, hb3⟩
    have hz := hb.size
    have hsl := (hown.sl flat_tv).more hz (Nat.le_refl _)
    rw [Nat.zero_add, hlen, List.nil_append] at hsl
    replace hsl := hide hsl
    replace hb := hb.trans (hb3.mono hz)
    clear hown hb3
    go_wp2_with fail
    go_ret2
    exact ⟨A3, _, c3, by rw [hs.out]; rfl, hn, by rw [hs.out]; exact hsl.out, hb⟩
  · replace c1 := Bool.eq_false_iff.2 c1
    rw [c1] at q1
    replace q1 := hide q1
    have hs : Hid (postfixOfF l = ([], 1)) := if_neg (by simp [c1])
    clear c1 h
    go_enter Try.func18, Try.ntmps18
    go_wp2_with (first | (go_at_call 58; (with_reducible refine q1.out.mono ?_); rintro e w1 ⟨rfl, hb1⟩))
    go_ret2
    exact ⟨_, _, _, by rw [hs.out]; rfl, by omega, by rw [hs.out]; exact Sl.nil_, hb1⟩

end Go.Proofs.Ytdjhpdmpibokhaa
