/-
  SolutionsOf, the reference's side. Conditions: none beyond 1048576 terms and bounds.
-/
import Derived.Test.YtdjhpdmpibokhaaSols2
namespace Go.Proofs.Ytdjhpdmpibokhaa
open Go.ChangeShapes Go.WideShapes Go.ChangeAt Go.RowKit
set_option linter.unusedVariables false

/-- Nothing of the rows lies in block V. -/
def offV {α : Type} (V : Nat) (A : Option Addr) (n c : Nat) (R : List (Hd × List α)) : Prop := (∀ g, (Value.slice A n c).ownBlock = some g → g ≠ V) ∧ ∀ r ∈ R, offS (spanOf r.1) (V, V + 1)

theorem NestO.onlyV {α : Type} {size : Nat} {f : α → List Value} {w w' : World} {base n c V : Nat} {e : TypeId} {A : Option Addr} {R : List (Hd × List α)} (h : NestO size f w base e A n c R) (ho : Only V (V + 1) w w') (hV : offV V A n c R) : NestO size f w' base e A n c R :=
  ⟨h.outer.keep fun g hg => ho.block g (h.outer.lt g hg).2 (by have := hV.1 g hg; omega), fun r hr => ⟨((h.rows r hr).1.onlyS (x := (V, V + 1)) (c := r.1.2.2) ho (hV.2 r hr)).more (Nat.le_refl _) ho.size, (h.rows r hr).2⟩, h.apart, h.away⟩

theorem offV.push {α : Type} {V n c n' c' nh ch b lo hi size : Nat} {f : α → List Value} {w : World} {A A' Ah : Option Addr} {R : List (Hd × List α)} {s : List α} (h : offV V A n c R) (hb : V < b)
    (hne : (Value.slice A' n' c').ownBlock = (Value.slice A n c).ownBlock ∨ (Value.slice A' n' c').ownBlock = some b) (x : Sl size f w lo hi Ah nh s) (hlo : V < lo) : offV V A' n' c' (R ++ [((Ah, nh, ch), s)]) := by
  refine ⟨fun g hg => ?_, fun r hr => ?_⟩
  · rcases hne with e | e
    · exact h.1 g (by rw [← e]; exact hg)
    · rw [e] at hg; injection hg with hg; omega
  · rcases List.mem_append.1 hr with hr | hr
    · exact h.2 r hr
    · rw [List.mem_singleton.1 hr]
      rcases x.span ch with h1 | h1
      · rw [h1]; exact .inl (Nat.zero_le _)
      · exact .inr (by show V + 1 ≤ (spanOf (Ah, nh, ch)).1; omega)

theorem l00Own_calls (A : Option Addr) (n c : Nat) (l : List Int) (w : World) (lo hi : Nat) (h : SlI w lo hi A n l) (hn : n ≤ 1048576) :
    Calls Try.prog 82 #[.slice A n c] w fun e w' => ∃ A' c', e = .returned (.slice A' n c') ∧ SlI w' w.heap.size w'.heap.size A' n l ∧ Below w.heap.size w w' := by
  have hE := hide elem_int64
  have hs := hide (h.below ((Below.refl w.heap.size w).alloc (Nat.le_refl _) (.cells #[] 2)) (.inr (Nat.le_refl _)))
  have hz : w.heap.size ≤ (w.alloc (.cells #[] 2)).heap.size := by simp
  clear h
  go_enter Try.func82, Try.ntmps82
  go_wp2_with (first | (at_builtin; (with_reducible refine wpList_app rfl (.tmp 3) (.tmp 4) rfl hE.out flat_iv rfl (Own.made w 2 (Nat.le_refl _)) rfl hs.out ?c1 hz ?_); rotate_right; intro A2 c2 w2 hown2 hgr2 hb2 _))
  case c1 => omega
  go_ret
  rw [Nat.zero_add, List.nil_append] at hown2
  exact ⟨_, _, rfl, hown2.sl flat_iv, ((Below.refl _ _).alloc (Nat.le_refl _) _).trans hb2⟩

theorem pre_rows {R : List (Hd × List Int)} {j m : Nat} (h : ∀ r ∈ R, r.1.2.1 = j) (hj : j ≤ 1048576) (hm : m ≤ 4096) : preH (R.map (·.1)) m ≤ 549755813888 := by
  have h1 := preH_le (R.map (·.1)) 1048576 (fun x hx => by
    obtain ⟨r, hr, rfl⟩ := List.mem_map.1 hx
    rw [h r hr]
    exact hj) m
  omega

set_option maxHeartbeats 1600000 in
set_option maxRecDepth 100000 in
theorem specSolutions_tail (w : World) (A : Option Addr) (n : Nat) (a : List (Int × Int)) (lo hi : Nat) (h : SlT w lo hi A n a) (hn : n ≤ 1048576)
    (D : Option Addr) (q : Nat) (bs : List Int) (lo2 hi2 : Nat) (k : SlI w lo2 hi2 D q bs) (hq : q ≤ 1048576) (hkl : bs.length = q)
    (q1 : Hid (Calls Try.prog 56 #[.slice A n n] w fun e w' => e = .returned (.bool true) ∧ w = w')) (q3 : Calls Try.prog 70 #[.slice D q q] w fun e w' => e = .returned (.bool (dataOk bs)) ∧ w = w')
    (c1 : isTerms a 29 60 = true) (c4 : a.any (uncov q) = false)
    (hcase : ((q : Int) < 29 ∧ Hid (Calls Try.prog 50 #[.slice A n n, .int .i64 q, .int .i64 60] w fun e w' => e = .returned (.bool true) ∧ w = w')) ∨ 29 ≤ (q : Int)) :
    Calls Try.prog 39 #[.slice A n n, .slice D q q] w fun e w' => ∃ A' r c' R, e = .returned (.tuple #[.slice A' r c', .int .i64 (solutionsOfF a bs).2]) ∧ r ≤ 1048576 ∧ preH (R.map (·.1)) r ≤ 549755813888 ∧ R.map (·.2) = (solutionsOfF a bs).1 ∧ NestI w' w.heap.size w'.heap.size A' r R ∧ Below w.heap.size w w' := by
  have hsb : boundsF bs [a] = if dataOk bs = false then 2 else if overF bs 1 = true then 5 else 0 := by
    unfold boundsF
    rw [hkl]
    simp only [List.any_cons, List.any_nil, Bool.or_false, c4, Bool.false_eq_true, or_false]
  have hsF : boundsF bs [a] ≠ 0 → solutionsOfF a bs = ([], boundsF bs [a]) := fun h0 => by
    unfold solutionsOfF
    rw [if_neg (by rw [c1]; simp), if_pos h0]
  by_cases c3 : dataOk bs = true
  · rw [c3] at q3
    replace q3 := hide q3
    have hsb2 : boundsF bs [a] = if overF bs 1 = true then 5 else 0 := by rw [hsb, if_neg (by rw [c3]; simp)]
    have hs5 : Hid (overF bs 1 = true → solutionsOfF a bs = ([], 5)) := fun h0 => by
      have h2 : boundsF bs [a] = 5 := by rw [hsb2, if_pos h0]
      rw [hsF (by rw [h2]; omega), h2]
    have hs0 : Hid (overF bs 1 = false → solutionsOfF a bs = (solsF a bs q, 0)) := fun h0 => by
      have h2 : boundsF bs [a] = 0 := by rw [hsb2, if_neg (by rw [h0]; decide)]
      unfold solutionsOfF
      rw [if_neg (by rw [c1]; simp), if_neg (by rw [h2]; simp), hkl]
    have hoa := hide (okTerm_of c1 c4)
    have hbb := hide (dataOk_bd c3)
    have hc1 := hide c1
    replace hkl := hide hkl
    clear c1 c3 c4 hsb hsF hsb2
    obtain ⟨i0, hi0, hz0, hz1, hz2⟩ := info_parts info_int64
    have hmk : ∀ W, (Instr.makeSlice 44 (.int .i64 (q : Int)) (.int .i64 (q : Int))).run Try.prog W = .ok (.slice (some ⟨W.heap.size, 0, none⟩) q q) (W.alloc (.cells (madeCells #[.int .i64 0] q) 2)) := fun W => by
      have h := make_row (P := Try.prog) 44 2 i0 _ _ q Try.underlying44 hi0 hz0 hz1 (by rw [hz2]; omega) (by omega) W
      rw [Nat.mul_one] at h
      exact h
    clear hi0 hz0 hz1 hz2
    have hE := hide elem_int64S
    replace h := hide h
    rcases hcase with ⟨hq29, q4⟩ | hq29
    all_goals (
      go_enter Try.func39, Try.ntmps39
      go_wp2_with (first | (go_at_call 56; (with_reducible refine q1.out.mono ?_); rintro e w' ⟨rfl, rfl⟩) | (go_at_call 70; (with_reducible refine q3.out.mono ?_); rintro e w' ⟨rfl, rfl⟩) | (go_at_call 50; (with_reducible refine q4.out.mono ?_); rintro e w' ⟨rfl, rfl⟩))
      clear q1 q3
      go_loop [6, 7] (fun s i => ∃ (j : Nat) (z : Int), j ≤ q ∧ i = .int .i64 j ∧ s = .int .i64 z ∧ 1 ≤ z ∧ z ≤ 4096 ∧ Hid (overF bs 1 = overF (bs.drop j) z)) (fun _ i => q - (intOf i).toNat)
      case atStart => exact ⟨0, 1, Nat.zero_le _, rfl, rfl, by omega, by omega, rfl⟩
      case round =>
        obtain ⟨j, z, hj, rfl, rfl, hz0, hz1, ho⟩ := hrel
        by_cases hlt : j < q
        · obtain ⟨b', off, x, hA, p1, p2, p3, hx, c0, -⟩ := SlI.get k hlt
          subst hA
          have hxb := hbb.out x (List.mem_of_getElem? hx)
          have hm2 := mul_bd2 hz0 hz1 hxb.1 hxb.2
          have hm3 := hm2.1
          have hm4 := hm2.2
          have hx0 := hxb.1
          have hx1 := hxb.2
          by_cases hov : 4096 < z * (x + 1)
          · have hr := hide (hs5.out (ho.out.trans (over_hit hx hov)))
            clear k hx hxb hm2 hmk
            go_wp2_with fail
            go_ret2
            exact ⟨none, 0, ⟨0, by rw [hr.out]; rfl⟩, by omega, [], Nat.zero_le _, by rw [hr.out]; rfl, Nest.nil_, Below.refl _ _⟩
          · have hr := hide (ho.out.trans (over_step hx hov))
            have hov' : z * (x + 1) ≤ 4096 := by omega
            clear k hx hxb hm2 hov hmk
            go_wp2_with fail
            go_round
            case rel => exact ⟨j + 1, z * (x + 1), by omega, by go_num, rfl, hm3, hov', hr⟩
            case measure => simp [intOf]; omega
        · have hjq : j = q := by omega
          subst hjq
          have hov : overF bs 1 = false := by rw [ho.out, List.drop_eq_nil_of_le (by rw [hkl.out]; exact Nat.le_refl _)]; simp [overF]
          have hr := hide (hs0.out hov)
          have hrest := hide (rest_le (q := j) (fun b hb => (hbb.out b hb).1) hov)
          clear ho hs0 hs5 hov
          have hba : Below w.heap.size w (w.alloc (.cells #[] 44)) := (Below.refl _ _).alloc (Nat.le_refl _) _
          have hO0 : NestO 1 iv (w.alloc (.cells #[] 44)) w.heap.size 44 (some ⟨w.heap.size, 0, none⟩) 0 0 [] := NestO.made w _ (Nat.le_refl _)
          have hz0' := made_zero (w.alloc (.cells #[] 44)) j
          rw [World.size_alloc] at hz0'
          have hb0 : Below w.heap.size w ((w.alloc (.cells #[] 44)).alloc (.cells (madeCells #[.int .i64 0] j) 2)) := hba.alloc (by rw [World.size_alloc]; omega) _
          have hO1 := hO0.below ((Below.refl (w.alloc (.cells #[] 44)).heap.size (w.alloc (.cells #[] 44))).alloc (Nat.le_refl _) (.cells (madeCells #[.int .i64 0] j) 2)) (Nat.le_refl _)
          have hgt0 : w.heap.size + 1 < ((w.alloc (.cells #[] 44)).alloc (.cells (madeCells #[.int .i64 0] j) 2)).heap.size := by rw [World.size_alloc, World.size_alloc]; omega
          have hzero : Hid (okV (List.replicate j 0) bs) := by
            have h1 := okV_zero bs (fun x hx => (hbb.out x hx).1)
            rw [hkl.out] at h1
            exact h1
          have hV0 : offV (w.heap.size + 1) (some ⟨w.heap.size, 0, none⟩) 0 0 ([] : List (Hd × List Int)) := ⟨fun g hg => by injection hg with hg; dsimp only at hg; omega, fun _ h => (List.not_mem_nil h).elim⟩
          have hfl := iterS_len a (fun _ => true) bs (restV (List.replicate j 0) bs) (List.replicate j 0) []
          obtain ⟨fin, hfin⟩ : ∃ fin, fin = solsF a bs j := ⟨_, rfl⟩
          rw [← hfin] at hr
          have hfl2 : fin.length ≤ 4096 := by rw [hfin]; have := hrest.out; simp at hfl; exact Nat.le_trans hfl this
          replace hfin := hide hfin
          replace k := hide k
          clear hfl hO0
          go_wp2_with fail
          go_loopg [8] (restV (List.replicate j 0) bs) (fun N x wr => ∃ (v : List Int) (s : List (List Int)) (A' : Option Addr) (c' : Nat) (R : List (Hd × List Int)), x = .slice A' s.length c' ∧ Hid (N = restV v bs) ∧ Hid (okV v bs) ∧ SlI wr (w.heap.size + 1) ((w.heap.size + 1) + 1) (some ⟨(w.heap.size + 1), 0, none⟩) j v ∧ Below w.heap.size w wr ∧ (w.heap.size + 1) < wr.heap.size ∧ Hid (fin = iterN (updS a) (fun _ => true) bs N v s) ∧ Hid (R.map (·.2) = s) ∧ Hid (NestO 1 iv wr w.heap.size 44 A' s.length c' R) ∧ Hid (offV (w.heap.size + 1) A' s.length c' R) ∧ Hid (∀ r ∈ R, r.1.2.1 = j) ∧ s.length + N ≤ 4096)
          case atStart => exact ⟨List.replicate j 0, [], _, 0, [], rfl, rfl, hzero, hz0', hb0, hgt0, hfin, rfl, hO1, hV0, fun _ h => (List.not_mem_nil h).elim, by have := hrest.out; simpa using this⟩
          case round =>
            obtain ⟨v, s, A', c', R, rfl, hN, hok, hv, hb, hgt, hf, hR, hO, hV, hrn, hlen⟩ := hrel
            have hpos := rest_pos hok.out
            rw [← hN.out] at hpos
            have hvb := okV_mem hok.out (fun x hx => (hbb.out x hx).2)
            have r1 := hide (l03Eval_calls A _ n n j j a v wr _ _ _ _ (h.out.below hb (.inr (Nat.le_refl _))) hv hq hc1.out hoa.out hvb)
            by_cases he : (valOf v a != 0) = true
            · have hup : Hid (updS a s v = s ++ [v]) := if_pos he
              have hl : Hid ((s ++ [v]).length = s.length + 1) := by simp [Hid]
              generalize valOf v a = va at r1 he
              go_wp2_with fail
              refine r1.out.mono ?_
              rintro e w1 ⟨rfl, rfl⟩
              have r2 := hide (l00Own_calls _ j j v wr _ _ hv hq)
              replace hv := hide hv
              go_wp2_with fail
              refine r2.out.mono ?_
              rintro e w2 ⟨A1, c1, rfl, hA1, hb1⟩
              have hz2 := hb1.size
              have hb2 : Below wr.heap.size wr (w2.alloc (.cells #[.slice A1 j c1] 44)) := hb1.alloc hz2 _
              have hz3 := hb2.size
              have hz4 := hb.size
              have hbase : w.heap.size ≤ (w2.alloc (.cells #[.slice A1 j c1] 44)).heap.size := by omega
              have hOa := hide (hO.out.below hb2 (Nat.le_refl _))
              have hA2 := hide ((hA1.below ((Below.refl w2.heap.size w2).alloc (Nat.le_refl _) (.cells #[.slice A1 j c1] 44)) (.inr (Nat.le_refl _))).more (hi' := (w2.alloc (.cells #[.slice A1 j c1] 44)).heap.size) (Nat.le_refl _) (by simp))
              clear hA1
              go_wp2_with (first | (at_builtin; (with_reducible refine wpList_app rfl (.tmp 51) (.tmp 54) rfl hE.out flat_sv rfl hOa.out.outer rfl (Sl.lit1' w2 44 (A1, j, c1) _ rfl 1 _ ?c0) ?c1 hbase ?_); rotate_right; intro A5 c5 w5 hown5 hgr5 hb5 hat5))
              case c0 => rfl
              case c1 => omega
              have hO5 := hide (NestO.push hO.out hb2 hA2.out hq hown5 hgr5 hat5 hz4)
              have hV5 := hide (offV.push hV.out (by omega) hat5 hA2.out (by omega) : offV (w.heap.size + 1) A5 (s.length + 1) c5 (R ++ [((A1, j, c1), v)]))
              have hb5' : Below w.heap.size w w5 := (hb.trans (hb2.mono hz4)).trans hb5
              have hgt5 : (w.heap.size + 1) < w5.heap.size := by have := hgr5.size; omega
              have hv5 := hide ((hv.out.below hb2 (.inr (Nat.le_refl _))).keepB hgr5.size fun b off _ e1 hlo hb => hgr5.block b hb fun e2 => by
                injection e1 with e1
                injection e1 with e1
                exact hV.out.1 b e2.symm e1.symm)
              have hR5 : Hid ((R ++ [((A1, j, c1), v)]).map (·.2) = s ++ [v]) := by rw [List.map_append, hR.out]; exact rfl
              have hrn5 : Hid (∀ r ∈ R ++ [((A1, j, c1), v)], r.1.2.1 = j) := fun r hr => by
                rcases List.mem_append.1 hr with hr | hr
                · exact hrn.out r hr
                · rw [List.mem_singleton.1 hr]
              have hr3 := hide (l03Next_calls (some ⟨(w.heap.size + 1), 0, none⟩) D j j j v bs w5 _ _ _ _ hv5.out (k.out.top.below hb5' (.inr (Nat.le_refl _))) (.inr (by omega)) hq hvb)
              clear hvb hv r1
              cases hnx : nextV v bs with
              | none =>
                have hres : Hid (fin = s ++ [v]) := by
                  have h1 := hf.out.trans (iter_last hpos hnx)
                  rw [hup.out] at h1
                  exact h1
                rw [hnx] at hr3
                replace hnx := hide hnx
                refine hr3.out.mono ?_
                rintro e w6 ⟨rfl, _, ho⟩
                have hO6 := hide (hO5.out.onlyV ho hV5.out)
                have hbf := Only.belowV hb5' ho (by omega) hb5'.size
                clear ho
                go_wp2_with fail
                go_ret2
                exact ⟨A5, _, _, R ++ [((A1, j, c1), v)], by rw [hr.out]; rfl, by omega, pre_rows hrn5.out hq (by omega), by rw [hr.out, hres.out]; exact hR5.out, hO6.out.nest, hbf⟩
              | some v' =>
                obtain ⟨hok2, hre2⟩ := next_ok hok.out hnx
                obtain ⟨N2, rfl⟩ : ∃ N2, gk = N2 + 1 := ⟨gk - 1, by omega⟩
                have hres : Hid (fin = iterN (updS a) (fun _ => true) bs N2 v' (s ++ [v])) := by
                  have h1 := hf.out.trans (iter_next rfl hnx)
                  rw [hup.out] at h1
                  exact h1
                have hN2 : Hid (N2 = restV v' bs) := hide (by have := hN.out; omega)
                replace hok2 := hide hok2
                rw [hnx] at hr3
                replace hnx := hide hnx
                refine hr3.out.mono ?_
                rintro e w6 ⟨rfl, hv6, ho⟩
                have hO6 := hide (hO5.out.onlyV ho hV5.out)
                have hbf := Only.belowV hb5' ho (by omega) hb5'.size
                have hgt6 : (w.heap.size + 1) < w6.heap.size := Nat.lt_of_lt_of_le hgt5 ho.size
                replace hv6 := hide hv6
                clear ho
                go_wp2_with fail
                go_roundg N2
                case measure => omega
                case rel => exact ⟨v', s ++ [v], A5, c5, R ++ [((A1, j, c1), v)], by rw [hl.out], hN2, hok2, hv6.out, hbf, hgt6, hres, hR5, by rw [hl.out]; exact hO6, by rw [hl.out]; exact hV5, hrn5, by rw [hl.out]; omega⟩
            · replace he := Bool.eq_false_iff.2 he
              have hup : Hid (updS a s v = s) := if_neg (by rw [he]; decide)
              generalize valOf v a = va at r1 he
              go_wp2_with fail
              refine r1.out.mono ?_
              rintro e w1 ⟨rfl, rfl⟩
              have hv5 := hide hv
              have hb5' := hb
              have hO5 := hO
              have hV5 := hV
              have hR5 := hR
              have hrn5 := hrn
              have hgt5 := hgt
              go_wp2_with fail
              have hr3 := hide (l03Next_calls (some ⟨(w.heap.size + 1), 0, none⟩) D j j j v bs wr _ _ _ _ hv5.out (k.out.top.below hb5' (.inr (Nat.le_refl _))) (.inr (by omega)) hq hvb)
              clear hvb hv r1
              cases hnx : nextV v bs with
              | none =>
                have hres : Hid (fin = s) := by
                  have h1 := hf.out.trans (iter_last hpos hnx)
                  rw [hup.out] at h1
                  exact h1
                rw [hnx] at hr3
                replace hnx := hide hnx
                refine hr3.out.mono ?_
                rintro e w6 ⟨rfl, _, ho⟩
                have hO6 := hide (hO5.out.onlyV ho hV5.out)
                have hbf := Only.belowV hb5' ho (by omega) hb5'.size
                clear ho
                go_wp2_with fail
                go_ret2
                exact ⟨A', _, _, R, by rw [hr.out]; rfl, by omega, pre_rows hrn5.out hq (by omega), by rw [hr.out, hres.out]; exact hR5.out, hO6.out.nest, hbf⟩
              | some v' =>
                obtain ⟨hok2, hre2⟩ := next_ok hok.out hnx
                obtain ⟨N2, rfl⟩ : ∃ N2, gk = N2 + 1 := ⟨gk - 1, by omega⟩
                have hres : Hid (fin = iterN (updS a) (fun _ => true) bs N2 v' (s)) := by
                  have h1 := hf.out.trans (iter_next rfl hnx)
                  rw [hup.out] at h1
                  exact h1
                have hN2 : Hid (N2 = restV v' bs) := hide (by have := hN.out; omega)
                replace hok2 := hide hok2
                rw [hnx] at hr3
                replace hnx := hide hnx
                refine hr3.out.mono ?_
                rintro e w6 ⟨rfl, hv6, ho⟩
                have hO6 := hide (hO5.out.onlyV ho hV5.out)
                have hbf := Only.belowV hb5' ho (by omega) hb5'.size
                have hgt6 : (w.heap.size + 1) < w6.heap.size := Nat.lt_of_lt_of_le hgt5 ho.size
                replace hv6 := hide hv6
                clear ho
                go_wp2_with fail
                go_roundg N2
                case measure => omega
                case rel => exact ⟨v', s, A', c', R, rfl, hN2, hok2, hv6.out, hbf, hgt6, hres, hR5, hO6, hV5, hrn5, by omega⟩)
  · replace c3 := Bool.eq_false_iff.2 c3
    have hs : Hid (solutionsOfF a bs = ([], 2)) := by
      have h2 : boundsF bs [a] = 2 := by rw [hsb, if_pos c3]
      rw [hsF (by rw [h2]; omega), h2]
      exact rfl
    rw [c3] at q3
    replace q3 := hide q3
    clear c1 c3 c4 h k hkl hsb hsF
    rcases hcase with ⟨hq29, q4⟩ | hq29
    all_goals (
      go_enter Try.func39, Try.ntmps39
      go_wp2_with (first | (go_at_call 56; (with_reducible refine q1.out.mono ?_); rintro e w' ⟨rfl, rfl⟩) | (go_at_call 70; (with_reducible refine q3.out.mono ?_); rintro e w' ⟨rfl, rfl⟩) | (go_at_call 50; (with_reducible refine q4.out.mono ?_); rintro e w' ⟨rfl, rfl⟩))
      go_ret2
      exact ⟨_, _, _, [], by rw [hs.out]; rfl, by omega, Nat.zero_le _, by rw [hs.out]; rfl, Nest.nil_, Below.refl _ _⟩)

set_option maxHeartbeats 1600000 in
set_option maxRecDepth 100000 in
theorem specSolutionsOf_std (w : World) (A : Option Addr) (n : Nat) (a : List (Int × Int)) (lo hi : Nat) (h : SlT w lo hi A n a) (hn : n ≤ 1048576)
    (D : Option Addr) (q : Nat) (bs : List Int) (lo2 hi2 : Nat) (k : SlI w lo2 hi2 D q bs) (hq : q ≤ 1048576) :
    Calls Try.prog 39 #[.slice A n n, .slice D q q] w fun e w' => ∃ A' r c' R, e = .returned (.tuple #[.slice A' r c', .int .i64 (solutionsOfF a bs).2]) ∧ r ≤ 1048576 ∧ preH (R.map (·.1)) r ≤ 549755813888 ∧ R.map (·.2) = (solutionsOfF a bs).1 ∧ NestI w' w.heap.size w'.heap.size A' r R ∧ Below w.heap.size w w' := by
  have hkl := k.len
  have q1 := l03Any_calls A n n a w _ _ h hn
  have q3 := l03Data_calls D q q bs w _ _ k hq
  by_cases c1 : isTerms a 29 60 = true
  · rw [c1] at q1
    replace q1 := hide q1
    have q4 := l03Is_calls A n n a (q : Int) 60 w _ _ h hn (by omega) (by omega)
    have hun := uncov_min (n := (q : Int)) c1
    have hsb : boundsF bs [a] = if dataOk bs = false ∨ a.any (uncov q) = true then 2 else if overF bs 1 = true then 5 else 0 := by
      unfold boundsF
      rw [hkl]
      simp only [List.any_cons, List.any_nil, Bool.or_false]
    have hsF : boundsF bs [a] ≠ 0 → solutionsOfF a bs = ([], boundsF bs [a]) := fun h0 => by
      unfold solutionsOfF
      rw [if_neg (by rw [c1]; simp), if_pos h0]
    -- what the second test comes to
    by_cases c4 : a.any (uncov q) = true
    · have hs : Hid (solutionsOfF a bs = ([], 2)) := by
        have h2 : boundsF bs [a] = 2 := by rw [hsb, if_pos (.inr c4)]
        rw [hsF (by rw [h2]; omega), h2]
        exact rfl
      have hq29 : (q : Int) < 29 := by
        by_cases hlt : (q : Int) < 29
        · exact hlt
        · rw [if_neg hlt, c4] at hun
          rw [hun] at c1
          simp at c1
      rw [if_pos hq29, c4] at hun
      rw [hun] at q4
      replace q4 := hide q4
      clear c1 c4 h k hkl hsb hsF q3 hun
      go_enter Try.func39, Try.ntmps39
      go_wp2_with (first | (go_at_call 56; (with_reducible refine q1.out.mono ?_); rintro e w' ⟨rfl, rfl⟩) | (go_at_call 50; (with_reducible refine q4.out.mono ?_); rintro e w' ⟨rfl, rfl⟩))
      go_ret2
      exact ⟨_, _, _, [], by rw [hs.out]; rfl, by omega, Nat.zero_le _, by rw [hs.out]; rfl, Nest.nil_, Below.refl _ _⟩
    · replace c4 := Bool.eq_false_iff.2 c4
      have hq4 : (q : Int) < 29 → isTerms a q 60 = true := fun hlt => by
        rw [if_pos hlt, c4] at hun
        simpa using hun
      by_cases hq29 : (q : Int) < 29
      · rw [hq4 hq29] at q4
        exact specSolutions_tail w A n a lo hi h hn D q bs lo2 hi2 k hq hkl (hide q1.out) q3 c1 c4 (.inl ⟨hq29, hide q4⟩)
      · exact specSolutions_tail w A n a lo hi h hn D q bs lo2 hi2 k hq hkl (hide q1.out) q3 c1 c4 (.inr (by omega))
  · replace c1 := Bool.eq_false_iff.2 c1
    rw [c1] at q1
    replace q1 := hide q1
    have hs : Hid (solutionsOfF a bs = ([], 1)) := if_pos c1
    clear c1 h k hkl q3
    go_enter Try.func39, Try.ntmps39
    go_wp2_with (first | (go_at_call 56; (with_reducible refine q1.out.mono ?_); rintro e w' ⟨rfl, rfl⟩))
    go_ret2
    exact ⟨_, _, _, [], by rw [hs.out]; rfl, by omega, Nat.zero_le _, by rw [hs.out]; rfl, Nest.nil_, Below.refl _ _⟩

end Go.Proofs.Ytdjhpdmpibokhaa
