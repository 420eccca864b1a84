/-
  The reference's first winning choices: the walk. Conditions: valid games.
-/
import Derived.Test.YtbnneahjjcamlaaStratR
import Derived.Test.YtbnneahjjcamlaaWinS
namespace Go.Proofs.Ytbnneahjjcamlaa
open Go.ChangeShapes Go.WideShapes Go.ChangeAt Go.RowKit
set_option linter.unusedVariables false

/-- Where the search for a choice stands. -/
def InnerK (w : World) (b n : Nat) (L : DV) (k : Nat) (l : List Int) (row : Option Nat) (i : Nat) (ch : Int) : Prop :=
  (ch = -1 ∧ (l.take i).find? (keeps (winnersF L) L k) = none ∧ ∃ X, GameR w b 0 n (putN L k X) row) ∨ (0 ≤ ch ∧ pickF L k = some ch ∧ GameR w b 0 n (putN L k [ch]) row)
theorem InnerK.game {w : World} {b n : Nat} {L : DV} {k : Nat} {l : List Int} {row : Option Nat} {i : Nat} {ch : Int} (h : InnerK w b n L k l row i ch) : ∃ X, GameR w b 0 n (putN L k X) row := by
  rcases h with ⟨_, _, h⟩ | ⟨_, _, h⟩
  · exact h
  · exact ⟨_, h⟩
theorem GameR.cellN {w : World} {b n k : Nat} {g : DV} {row : Option Nat} (h : GameR w b 0 n g row) (hk : k < n) : (∃ Ah nh ch, w.cell? ⟨b, k * 3 + 2, none⟩ = some (.slice Ah nh ch)) ∧ w.frozen? ⟨b, k * 3 + 2, none⟩ = false ∧ b < w.heap.size := by
  obtain ⟨R, h1, _, _⟩ := h.gw
  obtain ⟨b', off', x, s, e, g1, g2, g3, hr, hc, hs, hn⟩ := h1.get hk
  cases e
  have h2 := hc 2 _ rfl
  rw [Nat.zero_add] at h2
  exact ⟨⟨_, _, _, h2.1⟩, h2.2, g3⟩
theorem GameR.drewN {w : World} {b n : Nat} {g : DV} {row : Option Nat} (h : GameR w b 0 n g row) (N : Nat) : GameR (w.drewN N) b 0 n g row := h.below (below_drewN w N) (Nat.le_refl _)
/-- A move fixed: a new list of one, stored. -/
theorem GameR.fix {w : World} {b n k : Nat} {L : DV} {X : List Int} {row : Option Nat} (h : GameR w b 0 n (putN L k X) row) (hk : k < n) (x : Int) (hrow : ∀ q, row = some q → q < w.heap.size) :
    GameR ((w.setCell ⟨b, k * 3 + 2, none⟩ (.slice (some ⟨w.heap.size, 0, none⟩) 1 1)).alloc (.cells #[.int .i64 x] 2)) b 0 n (putN L k [x]) row := by
  have hb : b < w.heap.size := (h.cellN hk).2.2
  have h1 := h.below ((Below.refl w.heap.size w).alloc (Nat.le_refl _) (.cells #[.int .i64 x] 2)) (Nat.le_refl _)
  have hs : SlI (w.alloc (.cells #[.int .i64 x] 2)) 0 (w.alloc (.cells #[.int .i64 x] 2)).heap.size (some ⟨w.heap.size, 0, none⟩) 1 [x] := (Sl.lit1' w 2 x _ rfl 1 w.heap.size rfl).more (Nat.le_refl _) (by simp)
  have h2 := h1.put (c2 := 1) hk hs (by omega) (fun _ b' o' e => by
    injection e with e
    injection e with e _ _
    subst e
    exact ⟨by omega, fun e2 => by have := hrow _ e2.symm; omega⟩)
  rw [putN_put] at h2
  simp only [Nat.zero_add] at h2
  rwa [World.setCell_alloc_past _ _ _ _ hb] at h2

theorem only_cell {lo hi q i : Nat} {w w' : World} {v : Value} (h : Only lo hi w w') (hq : q < w.heap.size) (hc : q < lo ∨ hi ≤ q) (hv : w.cell? ⟨q, i, none⟩ = some v) : w'.cell? ⟨q, i, none⟩ = some v :=
  (World.cell?_of_block (w := w) (by simpa using h.block q hq hc)).trans hv
theorem alloc_frozen {w : World} {o : Obj} {q i : Nat} (hq : q < w.heap.size) (hc : w.frozen? ⟨q, i, none⟩ = false) : (w.alloc o).frozen? ⟨q, i, none⟩ = false :=
  (World.frozen?_of_block (w := w) (by simpa using Below.heap_alloc w o q hq)).trans hc
theorem app_end {V w5 : World} {b n k : Nat} {L : DV} {Ao A5 : Option Addr} {co c5 : Nat} {obj : Obj} (hG : GameR V b 0 n L (Value.slice Ao k co).ownBlock) (hgr : (V.alloc obj).grownBy w5 (Value.slice Ao k co).ownBlock)
    (hat : (Value.slice A5 (k + 1) c5).ownBlock = (Value.slice Ao k co).ownBlock ∨ (Value.slice A5 (k + 1) c5).ownBlock = some (V.alloc obj).heap.size) (hn : 0 < n) : GameR w5 b 0 n L (Value.slice A5 (k + 1) c5).ownBlock :=
  (hG.below ((Below.refl V.heap.size V).alloc (Nat.le_refl _) obj) (Nat.le_refl _)).turn hgr.size (fun q hq hne => hgr.block q hq hne) (hat.imp id fun e q e2 => by rw [e] at e2; injection e2 with e2; omega) hn
theorem only_end {w2 V w5 : World} {b : Nat} {obj : Obj} (ho : Only b (b + 1) w2 V) (hb : Below w2.heap.size (V.alloc obj) w5) : Only b (b + 1) w2 w5 :=
  ho.trans (Below.only (lo := b) (hi := b + 1) ((Below.refl V.heap.size V).alloc (Nat.le_refl _) obj) (Nat.le_refl _)) |> fun h => ⟨hb.os.trans h.os, hb.tape.trans h.tape, hb.output.trans h.output, Nat.le_trans h.size hb.size, fun q hq hc => (hb.block q hq).trans (h.block q hq hc)⟩
theorem stepF_some {s : DV × List Int} {k : Nat} {n : Int} (h : pickF s.1 k = some n) : stepF s k = (putN s.1 k [n], s.2 ++ [n]) := by unfold stepF; rw [h]
theorem stepF_none {s : DV × List Int} {k : Nat} (h : pickF s.1 k = none) : stepF s k = (s.1, s.2 ++ [-1]) := by unfold stepF; rw [h]

set_option maxHeartbeats 3200000 in
set_option maxRecDepth 100000 in
theorem l23Solve_calls (A : Option Addr) (n c : Nat) (g : DV) (w : World) (h : GameAt w A n g) (ok : GameOk g) :
    Calls Try.prog 46 #[.slice A n c] w fun e w' => ∃ v A' c', e = .returned (.tuple #[v, .slice A' n c']) ∧ SlI w' w.heap.size w'.heap.size A' n (stratF g) ∧ Below w.heap.size w w' := by
  have hgl := h.len
  obtain ⟨hn0, hn1⟩ : 0 < n ∧ n ≤ 120 := by have := ok.1; omega
  have hst := hide (fun k (hk : k ≤ n) => stateK_ok ok k (by rw [← hgl]; exact hk))
  obtain ⟨ba, oa, rfl, hba⟩ := h.addr hn0
  have q1 := hide (l23Winners_calls _ n c g w h ok)
  replace h := hide h
  replace ok := hide ok
  replace hgl := hide hgl
  have hE := hide elem_int64
  go_enter Try.func46, Try.ntmps46
  go_wp2_with fail
  refine q1.out.mono ?_
  rintro e w1 ⟨A1, k1, rfl, hs1, hb1⟩
  obtain ⟨b1, o1, rfl, g11, g12, g13, -⟩ := hs1.at_ hn0
  have q2 := hide (l23Own_calls _ n c g w1 (h.out.below hb1 (Nat.le_refl _)) ok.out)
  have hz1 := hb1.size
  replace hs1 := hide hs1
  clear q1
  go_wp2_with fail
  refine q2.out.mono ?_
  rintro e w2 ⟨b, c2, rfl, hG2, hbb, hb2⟩
  have hz2 := hb2.size
  have hbl : b < w2.heap.size := (hG2.frozen hn0).2
  have bel2 := hide (hb1.trans (hb2.mono hz1))
  have hs2 := hide (hs1.out.below hb2 (.inr (Nat.le_refl _)))
  have hW0 : Hid (GameR (w2.alloc (.cells #[] 2)) b 0 n (stateK g 0).1 (some w2.heap.size)) := (hG2.withRow hn0 (fun q e => by injection e with e; omega)).below ((Below.refl w2.heap.size w2).alloc (Nat.le_refl _) _) (Nat.le_refl _)
  clear q2 hs1 hb1 hb2 hG2
  go_wp2_with fail
  go_loopw [6, 7] (fun v i wr => ∃ (k : Nat) (Ao : Option Addr) (co : Nat), k ≤ n ∧ i = .int .i64 k ∧ v = .slice Ao k co ∧ Hid (Own 1 iv wr w2.heap.size 2 Ao k co (stateK g k).2) ∧ Hid (GameR wr b 0 n (stateK g k).1 (Value.slice Ao k co).ownBlock) ∧ Hid (Only b (b + 1) w2 wr)) (fun _ i _ => n - (intOf i).toNat)
  case atStart => exact ⟨0, _, 0, Nat.zero_le _, rfl, rfl, Own.made w2 _ (Nat.le_refl _), hW0, Below.only ((Below.refl w2.heap.size w2).alloc (Nat.le_refl _) _) (Nat.le_refl _)⟩
  case round =>
    obtain ⟨k, Ao, co, hk, rfl, rfl, hown, hGR, ho⟩ := hrel
    clear hW0
    have S := hst.out k hk
    have hsucc := stateK_succ g k
    by_cases hlt : k < n
    · have hlt' : k < g.length := by have := hgl.out; omega
      generalize stateK g k = st at *
      have belr : Below w.heap.size w wr := Only.below bel2.out ho.out (Nat.le_trans hz1 hbb) (Nat.le_trans hz1 hz2)
      have hzr := ho.out.size
      obtain ⟨o, p, l, Ah, nh, ch, hx, c0, c1', c2', hl, hnh, -⟩ := hGR.out.gw.at.cell S.ok hlt
      simp only [Nat.zero_add] at c0 c1' c2'
      obtain ⟨o9, p9, l9, Ah9, nh9, ch9, hx9, d0, -⟩ := (h.out.below belr (Nat.le_refl _)).cell ok.out hlt
      have hsame := S.later k (Nat.le_refl _)
      rw [hx, hx9] at hsame
      injection hsame with hsame
      injection hsame with e1 e2
      injection e2 with e2 e3
      subst e1 e2 e3
      have hoL : gOwn st.1 k = o := gOwn_at hx
      have hog : gOwn g k = o := gOwn_at hx9
      have hraw : gRaw st.1 k = l := gRaw_at hx
      have hwonL : wonI st.1 k = wonI g k := wonI_eq S.win S.len (by rw [S.len]; exact hlt')
      have hlen := hl.len
      have hrow : ∀ q, (Value.slice Ao k co).ownBlock = some q → q < wr.heap.size := fun q e => (hown.out.lt q e).2
      have q3 := hide (l00Own_calls Ah nh ch l wr _ _ hl hnh)
      have hbr : b < wr.heap.size := by omega
      have i1 : (0 : Int) ≤ (k : Int) := by omega
      have i2 : (k : Int) < (n : Int) := by omega
      replace hst := hide hst
      have hx9' := hide hx9
      replace hsucc := hide hsucc
      replace S := hide S
      replace hoL := hide hoL
      replace hog := hide hog
      replace hraw := hide hraw
      replace hwonL := hide hwonL
      replace hrow := hide hrow
      replace hlen := hide hlen
      clear hx hx9 hl
      go_wp2_with fail
      refine q3.out.mono ?_
      rintro e w3 ⟨A3, c3, rfl, hs3, hb3⟩
      have hz3 := hb3.size
      have ho3 := hide (ho.out.trans (Below.only (lo := b) (hi := b + 1) hb3 (Nat.le_refl _)))
      have hown3 := hide (hown.out.below hb3 (Nat.le_refl _))
      have hGR3 := hide (hGR.out.below hb3 (Nat.le_refl _))
      have belw3 := hide (belr.trans (hb3.mono belr.size))
      have hs23 := hide (hs2.out.only ho3.out (.inl hbb))
      obtain ⟨x0, hx0, m0, -⟩ := SlI.cell hs23.out hlt
      rw [winnersF_at hlt'] at hx0
      injection hx0 with hx0
      have d0' : w3.cell? ⟨ba, oa + k * 3, none⟩ = some (.int .i64 o) := (hb3.cell (p := ⟨ba, oa + k * 3, none⟩) (by show ba < _; have := belr.size; omega)).trans d0
      replace hs3 := hide hs3
      replace belr := hide belr
      have hrow3 : Hid (∀ q, (Value.slice Ao k co).ownBlock = some q → q < w3.heap.size) := fun q e => Nat.lt_of_lt_of_le (hrow.out q e) hz3
      obtain ⟨⟨Ah4, nh4, ch4, n2⟩, z2, hbl3⟩ := hGR3.out.cellN hlt
      have hnew : Hid (0 < nh → ∀ b' o', A3 = some ⟨b', o', none⟩ → b' ≠ b ∧ some b' ≠ (Value.slice Ao k co).ownBlock) := fun h0 b' o' e => by
        obtain ⟨b9, o9, e9, h9, -⟩ := hs3.out.at_ h0
        rw [e] at e9
        cases e9
        exact ⟨by omega, fun e2 => by have := hrow.out _ e2.symm; omega⟩
      clear q3 hGR hown hb3 c0 c1' c2' d0 hrow
      by_cases hw : o = wonI g k
      · obtain ⟨nn, hpk, -, -⟩ := pick_is S.out.ok (by rw [S.out.len]; exact hlt') (by rw [hoL.out, hwonL.out]; exact hw)
        replace hpk := hide hpk
        have heq : (x0 == o) = true := by rw [beq_iff_eq, ← hx0]; exact hw.symm
        have hpf : Hid (pickF st.1 k = l.find? (keeps (winnersF st.1) st.1 k)) := by show _ = _; unfold pickF; rw [if_pos (by rw [hoL.out, hwonL.out]; exact hw), hraw.out]
        have hinc : Hid (∀ x, x ∈ l → 0 ≤ x ∧ x < st.1.length) := fun x hx => (S.out.ok.raw (v := k) (by rw [hraw.out]; exact hx)).2
        have hraw' : Hid (putN st.1 k l = st.1) := by show _ = _; rw [← hraw.out]; exact putN_raw (by rw [S.out.len]; exact hlt')
        clear hw hwonL
        go_wp2_with fail
        go_loopw [8, 10] (fun cv iv' wi => ∃ (i : Nat) (cc : Int), i ≤ nh ∧ iv' = .int .i64 i ∧ cv = .int .i64 cc ∧ Hid (InnerK wi b n st.1 k l (Value.slice Ao k co).ownBlock i cc) ∧ Hid (Only b (b + 1) w3 wi)) (fun _ iv' _ => nh - (intOf iv').toNat)
        case atStart => exact ⟨0, -1, Nat.zero_le _, rfl, rfl, .inl ⟨rfl, rfl, l, by rw [hraw'.out]; exact hGR3.out⟩, Only.refl _ _ _⟩
        case round =>
          obtain ⟨i, cc, hi, rfl, rfl, hK, hoi⟩ := hrel
          obtain ⟨X, hX⟩ := hK.out.game
          have m1 := only_cell hoi.out (show b1 < w3.heap.size by omega) (.inl (show b1 < b by omega)) m0
          have e1 := only_cell hoi.out (show ba < w3.heap.size by omega) (.inl (show ba < b by omega)) d0'
          have hi0 : (0 : Int) ≤ (i : Int) := by omega
          have hzi := hoi.out.size
          clear m0 d0' n2 z2
          by_cases hcn : cc < 0
          · obtain ⟨hcc, hfind, -⟩ := hK.out.resolve_right (fun h => by have := h.1; omega)
            subst hcc
            by_cases hil : i < nh
            · have hs3i := hs3.out.only hoi.out (.inr (show b + 1 ≤ _ from hbr))
              obtain ⟨b3, o3, x, rfl, q1, q2, q3, hx, p0, -⟩ := SlI.get hs3i hil
              have hxb := hinc.out x (List.mem_of_getElem? hx)
              have okx := hide (S.out.ok.putN (v := k) (by rw [S.out.len]; exact hlt') hxb)
              have j1 : decide ((-1 : Int) < 0) = true := rfl
              have j2 : decide ((i : Int) < (nh : Int)) = true := decide_eq_true (by omega)
              have hi1 : (i : Int) < (nh : Int) := by omega
              have hrowi : Hid (∀ q, (Value.slice Ao k co).ownBlock = some q → q < wr.heap.size) := fun q e => Nat.lt_of_lt_of_le (hrow3.out q e) hzi
              replace hfind := hide hfind
              replace hx := hide hx
              replace hX := hide hX
              clear hs3i hK
              go_wp2
              go_quiet (fail)
              have hXV := hX.out.drewN nq
              have hF := hide (hXV.fix hlt x (fun q e => hrowi.out q e))
              obtain ⟨⟨Ah5, nh5, ch5, n5⟩, z5, hbl5⟩ := hXV.cellN hlt
              have p0V : (wr.drewN nq).cell? ⟨b3, o3 + i, none⟩ = some (.int .i64 x) := p0
              have hoV := hide (hoi.out.trans (Below.only (lo := b) (hi := b + 1) (below_drewN wr nq) (Nat.le_refl _)))
              clear hXV p0 hX hrowi m1 e1 j2 q3 hoi
              generalize wr.drewN nq = V at *
              have n5a := alloc_cell (o := .cells #[.int .i64 x] 2) hbl5 n5
              have z5a := alloc_frozen (o := .cells #[.int .i64 x] 2) hbl5 z5
              have q4 := hide (l23Winners_calls (some ⟨b, 0, none⟩) n c2 (putN st.1 k [x]) _ (hF.out.gw.at) okx.out)
              have hoW := hide ((hoV.out.setCell (p := ⟨b, k * 3 + 2, none⟩) (Nat.le_refl _) (Nat.lt_succ_self _) (.slice (some ⟨V.heap.size, 0, none⟩) 1 1)).trans (Below.only (lo := b) (hi := b + 1) ((Below.refl _ (V.setCell ⟨b, k * 3 + 2, none⟩ (.slice (some ⟨V.heap.size, 0, none⟩) 1 1))).alloc (Nat.le_refl _) (.cells #[.int .i64 x] 2)) (Nat.le_refl _)))
              go_wp2_with fail
              refine q4.out.mono ?_
              rintro e w4 ⟨A4, c4, rfl, hs4, hb4⟩
              have ho4 := hide (hoW.out.trans (Below.only (lo := b) (hi := b + 1) hb4 (Nat.le_refl _)))
              have hG4 := hide (hF.out.below hb4 (Nat.le_refl _))
              have hsW4 := hs23.out.only ho4.out (.inl hbb)
              have q5 := l00Same_calls A4 (some ⟨b1, o1, none⟩) n n c4 k1 _ _ w4 _ _ _ _ hs4 hsW4 (by omega) (by omega)
              rw [← S.out.win] at q5
              clear q4 hs4 hb4 hsW4 n5 z5 n5a z5a p0V hoV hoW
              by_cases hkx : keeps (winnersF st.1) st.1 k x = true
              · rw [show decide (winnersF (putN st.1 k [x]) = winnersF st.1) = true from hkx] at q5
                replace q5 := hide q5
                have hhit := hide (hpf.out.trans (find_hit hfind.out hx.out hkx))
                clear hkx
                go_wp2_with fail
                refine q5.out.mono ?_
                rintro e w5 ⟨rfl, hb5⟩
                have ho5 := hide (ho4.out.trans (Below.only (lo := b) (hi := b + 1) hb5 (Nat.le_refl _)))
                obtain ⟨x9, hx9, p5, -⟩ := SlI.cell (hs3.out.only ho5.out (.inr (show b + 1 ≤ _ from hbr))) hil
                rw [hx.out] at hx9
                injection hx9 with hx9
                subst hx9
                have hK5 : Hid (InnerK w5 b n st.1 k l (Value.slice Ao k co).ownBlock (i + 1) x) := .inr ⟨hxb.1, hhit.out, hG4.out.below hb5 (Nat.le_refl _)⟩
                clear hb5
                go_wp2_with fail
                go_roundw
                case rel => exact ⟨i + 1, x, by omega, by go_num, rfl, hK5, ho5⟩
                case measure => simp [intOf]; omega
              · rw [show decide (winnersF (putN st.1 k [x]) = winnersF st.1) = false from Bool.eq_false_iff.2 hkx] at q5
                replace q5 := hide q5
                have hmiss := hide (find_take_step hfind.out hx.out (Bool.eq_false_iff.2 hkx))
                clear hkx
                go_wp2_with fail
                refine q5.out.mono ?_
                rintro e w5 ⟨rfl, hb5⟩
                have ho5 := hide (ho4.out.trans (Below.only (lo := b) (hi := b + 1) hb5 (Nat.le_refl _)))
                have hK5 : Hid (InnerK w5 b n st.1 k l (Value.slice Ao k co).ownBlock (i + 1) (-1)) := .inl ⟨rfl, hmiss.out, [x], hG4.out.below hb5 (Nat.le_refl _)⟩
                clear hb5
                go_wp2_with fail
                go_roundw
                case rel => exact ⟨i + 1, -1, by omega, by go_num, rfl, hK5, ho5⟩
                case measure => simp [intOf]; omega
            · exfalso
              have : i = nh := by omega
              subst this
              have h8 := hpf.out.symm.trans hpk.out
              rw [List.take_of_length_le (by rw [hlen.out]; exact Nat.le_refl _), h8] at hfind
              cases hfind
          · obtain ⟨-, hpc, hGc⟩ := hK.out.resolve_left (fun h => by have := h.1; omega)
            have hstep : Hid (stateK g (k + 1) = (putN st.1 k [cc], st.2 ++ [cc])) := hsucc.out.trans (stepF_some hpc)
            have j1 : decide (cc < 0) = false := decide_eq_false hcn
            have hOi := hide (hown3.out.only hoi.out hbl)
            have hoo := hide (ho3.out.trans hoi.out)
            replace hGc := hide hGc
            clear hK hpc hX
            by_cases hil : i < nh
            · have j2 : decide ((i : Int) < (nh : Int)) = true := decide_eq_true (by omega)
              have hi1 : (i : Int) < (nh : Int) := by omega
              go_wp2
              go_quiet (fail)
              have hGV := hide (hGc.out.drewN nq)
              have hOV := hide (hOi.out.below (below_drewN wr nq) (Nat.le_refl _))
              have hoV := hide (hoo.out.trans (Below.only (lo := b) (hi := b + 1) (below_drewN wr nq) (Nat.le_refl _)))
              have hzV := hoV.out.size
              clear m1 e1 j1 j2 hoi hOi hoo hGc
              generalize wr.drewN nq = V at *
              go_wp2_with (first | (at_builtin; (with_reducible refine wpList_app rfl (.tmp 74) (.tmp 76) rfl hE.out flat_iv rfl (hOV.out.alloc _) rfl (Sl.lit1' _ 2 cc _ rfl 1 _ ?c0) ?c1 (le_alloc hzV) ?_); rotate_right; intro A5 c5 w5 hown5 hgr5 hb5 hat5))
              case c0 => first | rfl | simp
              case c1 => omega
              have hG6 := hide (app_end hGV.out hgr5 hat5 hn0)
              have ho6 := hide (only_end hoV.out hb5)
              replace hown5 := hide hown5
              clear hgr5 hat5 hb5
              go_roundw
              case rel => exact ⟨k + 1, A5, c5, by omega, by go_num, rfl, by rw [hstep.out]; exact hown5.out, by rw [hstep.out]; exact hG6.out, ho6.out⟩
              case measure => simp [intOf]; omega
            · have j2 : decide ((i : Int) < (nh : Int)) = false := decide_eq_false (by omega)
              go_wp2
              go_quiet (fail)
              have hGV := hide (hGc.out.drewN nq)
              have hOV := hide (hOi.out.below (below_drewN wr nq) (Nat.le_refl _))
              have hoV := hide (hoo.out.trans (Below.only (lo := b) (hi := b + 1) (below_drewN wr nq) (Nat.le_refl _)))
              have hzV := hoV.out.size
              clear m1 e1 j1 j2 hoi hOi hoo hGc
              generalize wr.drewN nq = V at *
              go_wp2_with (first | (at_builtin; (with_reducible refine wpList_app rfl (.tmp 74) (.tmp 76) rfl hE.out flat_iv rfl (hOV.out.alloc _) rfl (Sl.lit1' _ 2 cc _ rfl 1 _ ?c0) ?c1 (le_alloc hzV) ?_); rotate_right; intro A5 c5 w5 hown5 hgr5 hb5 hat5))
              case c0 => first | rfl | simp
              case c1 => omega
              have hG6 := hide (app_end hGV.out hgr5 hat5 hn0)
              have ho6 := hide (only_end hoV.out hb5)
              replace hown5 := hide hown5
              clear hgr5 hat5 hb5
              go_roundw
              case rel => exact ⟨k + 1, A5, c5, by omega, by go_num, rfl, by rw [hstep.out]; exact hown5.out, by rw [hstep.out]; exact hG6.out, ho6.out⟩
              case measure => simp [intOf]; omega
      · have hpk : Hid (pickF st.1 k = none) := by show _ = _; unfold pickF; rw [if_neg (by rw [hoL.out, hwonL.out]; exact hw)]
        have hne : (x0 == o) = false := by rw [beq_eq_false_iff_ne, ← hx0]; exact fun e => hw e.symm
        have hstep : Hid (stateK g (k + 1) = (st.1, st.2 ++ [-1])) := hsucc.out.trans (stepF_none hpk.out)
        have hraw' : Hid (putN st.1 k l = st.1) := by show _ = _; rw [← hraw.out]; exact putN_raw (by rw [S.out.len]; exact hlt')
        have hGN : Hid (∀ N, GameR (w3.drewN N) b 0 n st.1 (Value.slice Ao k co).ownBlock) := fun N => hGR3.out.drewN N
        have hON : Hid (∀ N, Own 1 iv (w3.drewN N) w2.heap.size 2 Ao k co st.2) := fun N => hown3.out.below (below_drewN _ N) (Nat.le_refl _)
        have hoN : Hid (∀ N, Only b (b + 1) w2 (w3.drewN N)) := fun N => ho3.out.trans (Below.only (below_drewN w3 N) (Nat.le_refl _))
        have hsN : Hid (∀ N, SlI (w3.drewN N) wr.heap.size w3.heap.size A3 nh l) := fun N => hs3.out.drewN N
        have hzN : Hid (∀ N, w2.heap.size ≤ (w3.drewN N).heap.size) := fun N => (hoN.out N).size
        have j1 : decide ((-1 : Int) < 0) = true := rfl
        clear hpk hw hwonL
        go_wp2_with fail
        go_loopw [8, 10] (fun cv iv' wi => cv = .int .i64 (-1) ∧ iv' = .int .i64 0 ∧ wi = w3) (fun _ _ _ => 0)
        case atStart => exact ⟨rfl, rfl, rfl⟩
        case round =>
          obtain ⟨rfl, rfl, rfl⟩ := hrel
          by_cases hnh0 : 0 < nh
          · have j2 : decide ((0 : Int) < (nh : Int)) = true := decide_eq_true (by omega)
            go_wp2
            go_quiet (fail)
            have hGV := (hGN.out nq).put (c2 := c3) hlt ((hsN.out nq).top.more (Nat.zero_le _) (Nat.le_refl _)) hnh hnew.out
            simp only [Nat.zero_add] at hGV
            rw [hraw'.out] at hGV
            replace hGV := hide hGV
            have hOV := hide ((hON.out nq).only ((Only.refl b (b + 1) (wr.drewN nq)).setCell (p := ⟨b, k * 3 + 2, none⟩) (Nat.le_refl _) (Nat.lt_succ_self _) (.slice A3 nh c3)) hbl)
            have hoV := hide ((hoN.out nq).setCell (p := ⟨b, k * 3 + 2, none⟩) (Nat.le_refl _) (Nat.lt_succ_self _) (.slice A3 nh c3))
            have hzV := hoV.out.size
            obtain ⟨⟨Ah5, nh5, ch5, m2⟩, y2, hbl5⟩ := (hGN.out nq).cellN hlt
            generalize wr.drewN nq = V at *
            clear n2 z2 m0 d0'
            go_wp2_with (first | (at_builtin; (with_reducible refine wpList_app rfl (.tmp 74) (.tmp 76) rfl hE.out flat_iv rfl (hOV.out.alloc _) rfl (Sl.lit1' _ 2 (-1 : Int) _ rfl 1 _ ?c0) ?c1 (le_alloc hzV) ?_); rotate_right; intro A5 c5 w5 hown5 hgr5 hb5 hat5))
            case c0 => first | rfl | simp
            case c1 => omega
            have hG6 := hide (app_end hGV.out hgr5 hat5 hn0)
            have ho6 := hide (only_end hoV.out hb5)
            replace hown5 := hide hown5
            clear hgr5 hat5 hb5
            go_roundw
            case rel => exact ⟨k + 1, A5, c5, by omega, by go_num, rfl, by rw [hstep.out]; exact hown5.out, by rw [hstep.out]; exact hG6.out, ho6.out⟩
            case measure => simp [intOf]; omega
          · have j2 : decide ((0 : Int) < (nh : Int)) = false := decide_eq_false (by omega)
            go_wp2
            go_quiet (fail)
            have hGV := (hGN.out nq).put (c2 := c3) hlt ((hsN.out nq).top.more (Nat.zero_le _) (Nat.le_refl _)) hnh hnew.out
            simp only [Nat.zero_add] at hGV
            rw [hraw'.out] at hGV
            replace hGV := hide hGV
            have hOV := hide ((hON.out nq).only ((Only.refl b (b + 1) (wr.drewN nq)).setCell (p := ⟨b, k * 3 + 2, none⟩) (Nat.le_refl _) (Nat.lt_succ_self _) (.slice A3 nh c3)) hbl)
            have hoV := hide ((hoN.out nq).setCell (p := ⟨b, k * 3 + 2, none⟩) (Nat.le_refl _) (Nat.lt_succ_self _) (.slice A3 nh c3))
            have hzV := hoV.out.size
            obtain ⟨⟨Ah5, nh5, ch5, m2⟩, y2, hbl5⟩ := (hGN.out nq).cellN hlt
            generalize wr.drewN nq = V at *
            clear n2 z2 m0 d0'
            go_wp2_with (first | (at_builtin; (with_reducible refine wpList_app rfl (.tmp 74) (.tmp 76) rfl hE.out flat_iv rfl (hOV.out.alloc _) rfl (Sl.lit1' _ 2 (-1 : Int) _ rfl 1 _ ?c0) ?c1 (le_alloc hzV) ?_); rotate_right; intro A5 c5 w5 hown5 hgr5 hb5 hat5))
            case c0 => first | rfl | simp
            case c1 => omega
            have hG6 := hide (app_end hGV.out hgr5 hat5 hn0)
            have ho6 := hide (only_end hoV.out hb5)
            replace hown5 := hide hown5
            clear hgr5 hat5 hb5
            go_roundw
            case rel => exact ⟨k + 1, A5, c5, by omega, by go_num, rfl, by rw [hstep.out]; exact hown5.out, by rw [hstep.out]; exact hG6.out, ho6.out⟩
            case measure => simp [intOf]; omega
    · have hkn : k = n := by omega
      subst hkn
      have hfin : Hid (stratF g = (stateK g k).2) := by show _ = _; unfold stratF; rw [← hgl.out]
      clear h hst hsucc S
      go_wp2_with fail
      go_ret2
      exact ⟨_, _, _, rfl, by rw [hfin.out]; exact (hown.out.sl flat_iv).more (by omega) (Nat.le_refl _), Only.below bel2.out ho.out (Nat.le_trans hz1 hbb) (Nat.le_trans hz1 hz2)⟩

end Go.Proofs.Ytbnneahjjcamlaa
