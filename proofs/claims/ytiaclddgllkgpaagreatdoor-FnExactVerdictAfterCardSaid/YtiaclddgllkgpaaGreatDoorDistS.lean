/-
  Distances to marked states, by the reference. Conditions: sizes.
-/
import Derived.Test.YtiaclddgllkgpaaGreatDoorDistEd
import Derived.Test.YtiaclddgllkgpaaGreatDoorSets
import Derived.Test.YtiaclddgllkgpaaGreatDoorBaseE
import Derived.StillTailTactics
import Derived.Deep.LoopGhost
namespace Go.Proofs.YtiaclddgllkgpaaGreatDoor
open Go.ChangeShapes Go.WideShapes Go.ChangeAt Go.RowKit Go.Sort
set_option linter.unusedVariables false
set_option linter.unusedSimpArgs false

set_option maxRecDepth 100000 in
theorem l00Has_calls (v : Int) (A : Option Addr) (n c : Nat) (l : List Int) (w : World) (lo hi : Nat) (h : SlI w lo hi A n l) (hn : n ≤ 1048576) :
    Calls Tryz.prog 108 #[.slice A n c, .int .i64 v] w fun e w' => e = .returned (.bool (l.any (fun x => decide (x = v)))) ∧ w = w' := by
  have hlen := hide h.len
  go_enter Tryz.func108, Tryz.ntmps108
  go_wp2
  go_loop [5] (fun i => ∃ k : Nat, k ≤ n ∧ i = .int .i64 k ∧ Hid ((l.take k).any (fun x => decide (x = v)) = false)) (fun i => n - (intOf i).toNat)
  case atStart => exact ⟨0, Nat.zero_le _, rfl, rfl⟩
  case round =>
    obtain ⟨k, hk, rfl, ha⟩ := hrel
    by_cases hlt : k < n
    · obtain ⟨b, off, x, rfl, g1, g2, g3, hx, c0, -⟩ := SlI.get h hlt
      clear h
      by_cases hq : x = v
      · have hy := hide (any_hit (G := fun x => decide (x = v)) hx (decide_eq_true hq))
        subst hq
        clear hx
        go_wp2
        go_ret
        exact ⟨ret_b (by rw [hy.out]), rfl⟩
      · have hy := hide (any_take_succ ha.out hx (decide_eq_false hq))
        have hne : (x == v) = false := by rw [beq_eq_false_iff_ne]; exact hq
        clear hx hq
        go_wp2
        go_round
        case rel => exact ⟨k + 1, by omega, by go_num, hy⟩
        case measure => simp [intOf]; omega
    · have hkn : k = n := by omega
      subst hkn
      clear h
      have hy := ha.out
      rw [List.take_of_length_le (by rw [hlen.out]; exact Nat.le_refl _)] at hy
      replace hy := hide hy
      clear ha
      go_wp2
      go_ret
      exact ⟨ret_b (by rw [hy.out]), rfl⟩

theorem lts_bounds {st ini : Int} {ls : List ByteArray} {es : List Ed} (h : ltsV (st, ini, ls, es) = true) : (1 ≤ st ∧ st ≤ 40) ∧ (0 ≤ ini ∧ ini ≤ st - 1) := by
  unfold ltsV ltsB at h
  simp only [Bool.and_eq_true] at h
  exact ⟨inB_true.1 h.1.1.1.1, inB_true.1 h.1.1.1.2⟩
theorem wrap_small {y : Int} (h0 : -1 ≤ y) (h1 : y ≤ 1048576) : IntKind.i64.wrap (y + 1) = y + 1 := IntWalk.i64_in _ (by omega)

set_option maxRecDepth 100000 in
set_option maxHeartbeats 3200000 in
theorem l29Distances_calls (bm : Nat) (x : CL) (A4 : Option Addr) (n4 k4 : Nat) (d : DL) (vs : List Int) (w : World) (h : LtsAt w bm x d) (hc4 : w.cell? ⟨bm, 4, none⟩ = some (.slice A4 n4 k4)) (t4 : SlI w 0 w.heap.size A4 n4 vs) (hn4 : n4 ≤ 1048576)
    (hval : ltsV d = true) (hin : ∀ v ∈ vs, 0 ≤ v ∧ v < d.1) :
    Calls Tryz.prog 68 #[.pointer (some ⟨bm, 0, none⟩)] w fun e w' => ∃ A n c, e = .returned (.slice A n c) ∧ SlI w' w.heap.size w'.heap.size A n (distF false d.1.toNat d.2.2.2 vs) ∧ DistIs (srcE vs) (arcE false d.2.2.2) d.1.toNat (distF false d.1.toNat d.2.2.2 vs) ∧ Below w.heap.size w w' := by
  obtain ⟨s0, s1, v2, v3⟩ := x
  obtain ⟨st, ini, ls, es⟩ := d
  have hst := (lts_bounds hval).1
  obtain ⟨⟨e0, e1, ⟨A2, n2, k2, e2, hn2, hs2, t2⟩, ⟨A3, n3, k3, e3, hn3, t3⟩⟩, htot, hbt, c0, -, c2, c3⟩ := h
  dsimp only at *
  subst e0 e1 e2 e3
  obtain ⟨N, rfl⟩ : ∃ N : Nat, s0 = (N : Int) := ⟨s0.toNat, by omega⟩
  rw [Int.toNat_natCast]
  have hN1 : 1 ≤ N := by omega
  have hN2 : N ≤ 40 := by omega
  have l3 := t3.len
  have hes : n3 ≤ 1048576 := by rw [← l3]; exact Nat.le_trans (totL_edg ((N : Int), s1, ls, es)) htot
  have hedge : ∀ e ∈ es, (0 ≤ e.1 ∧ e.1 < (N : Int)) ∧ (0 ≤ e.2.2 ∧ e.2.2 < (N : Int)) := by
    rintro ⟨f, lb, tg⟩ he
    obtain ⟨k, hk⟩ := List.getElem?_of_mem he
    have := edge_of hval hk
    have h1 := this.1
    have h2 := this.2.1
    exact ⟨by dsimp only at *; omega, by dsimp only at *; omega⟩
  have harc := fun a k => arcE_in (es := es) (N := N) hedge (fw := false) a k
  have hsrc : ∀ k, srcE vs k → k < N := fun k hk => by have := hin k hk; omega
  replace hedge := hide hedge
  replace harc := hide harc
  replace hsrc := hide hsrc
  replace l3 := hide l3
  have hE := hide elem_int64
  have qh := fun (v : Int) (W : World) (hW : Below w.heap.size w W) => l00Has_calls v A4 n4 k4 vs W 0 _ (t4.below hW (.inr (Nat.le_refl _))) hn4
  replace qh := hide qh
  replace t3 := hide t3
  clear htot hs2 hn2 hn3 t2 t4 hval hst hin c2
  go_enter Tryz.func68, Tryz.ntmps68
  go_wp2
  go_loopw [3, 4] (fun v i wr => ∃ (k : Nat) (A : Option Addr) (m c : Nat), k ≤ N ∧ i = .int .i64 (k : Nat) ∧ v = .slice A m c ∧ Hid (Own 1 iv wr w.heap.size 2 A m c (startL vs k)) ∧ Below w.heap.size w wr) (fun _ i _ => N - (intOf i).toNat)
  case atStart => exact ⟨0, _, 0, 0, Nat.zero_le _, rfl, rfl, Own.made w _ (Nat.le_refl _), (Below.refl _ _).alloc (Nat.le_refl _) _⟩
  case round =>
    obtain ⟨k, A, m, c, hk, rfl, rfl, hown, hb⟩ := hrel
    have y0 := (hb.cell (p := ⟨bm, 0, none⟩) hbt).trans c0
    have y3 := (hb.cell (p := ⟨bm, 3, none⟩) hbt).trans c3
    have y4 := (hb.cell (p := ⟨bm, 4, none⟩) hbt).trans hc4
    have hm : m = k := by rw [← hown.out.len, startL_len]
    subst hm
    by_cases hlt : m < N
    · have hz := hb.size
      have q := hide (qh.out (m : Int) wr hb)
      have hsu := startL_succ vs m
      have hza : ∀ o, w.heap.size ≤ (wr.alloc o).heap.size := fun o => by rw [World.size_alloc]; omega
      by_cases hv : (vs.any (fun x => decide (x = (m : Int)))) = true
      · rw [if_pos hv] at hsu
        rw [hv] at q
        replace hsu := hide hsu
        replace hb := hide hb
        clear hv qh c0 c3 hc4 y3
        go_wp2_with (first
          | (go_at_call 108; (with_reducible refine q.out.mono ?_); rintro e w' ⟨rfl, rfl⟩)
          | (at_builtin; (with_reducible refine wpList_app rfl (.tmp 25) (.tmp 26) rfl hE.out flat_iv rfl (hown.out.alloc _) rfl (Sl.lit1' wr 2 (0 : Int) _ rfl 1 _ ?c0) ?c1 (hza _) ?_); rotate_right; intro A5 c5 w5 hown5 hgr5 hb5 _))
        case c0 => rfl
        case c1 => omega
        have hb6 := (hb.out.alloc hz (.cells #[.int .i64 0] 2)).trans hb5
        go_roundw
        case rel => exact ⟨m + 1, A5, m + 1, c5, by omega, by go_num, rfl, by rw [hsu.out]; exact hown5, hb6⟩
        case measure => simp [intOf]; omega
      · rw [if_neg hv] at hsu
        rw [Bool.eq_false_iff.2 hv] at q
        replace hsu := hide hsu
        replace hb := hide hb
        clear hv qh c0 c3 hc4 y3
        go_wp2_with (first
          | (go_at_call 108; (with_reducible refine q.out.mono ?_); rintro e w' ⟨rfl, rfl⟩)
          | (at_builtin; (with_reducible refine wpList_app rfl (.tmp 28) (.tmp 29) rfl hE.out flat_iv rfl (hown.out.alloc _) rfl (Sl.lit1' wr 2 (-1 : Int) _ rfl 1 _ ?c0) ?c1 (hza _) ?_); rotate_right; intro A5 c5 w5 hown5 hgr5 hb5 _))
        case c0 => rfl
        case c1 => omega
        have hb6 := (hb.out.alloc hz (.cells #[.int .i64 (-1)] 2)).trans hb5
        go_roundw
        case rel => exact ⟨m + 1, A5, m + 1, c5, by omega, by go_num, rfl, by rw [hsu.out]; exact hown5, hb6⟩
        case measure => simp [intOf]; omega
    · have hmN : m = N := by omega
      subst hmN
      have hr0 : Hid (RoundIs (srcE vs) (arcE false es) m 0 (startL vs m)) := RoundIs.start _ _ (startL_len _ _) startL_get
      have hsl := hide ((hown.out.sl flat_iv).more (Nat.le_refl _) (Nat.le_refl _))
      have hng := negs_le (startL vs m)
      rw [startL_len] at hng
      replace hb := hide hb
      clear hown qh c0 hc4 y4 y3
      go_wp2
      go_loopg [3, 5] (m + 1) (fun G v b wr => ∃ (rd : Nat) (out : List Int) (A : Option Addr) (c : Nat) (more : Bool), v = .slice A m c ∧ b = .bool more ∧ SlI wr w.heap.size wr.heap.size A m out ∧ Hid (RoundIs (srcE vs) (arcE false es) m rd out) ∧ Hid (more = false → MidIs m rd (arcE false es) out out) ∧ Below w.heap.size w wr ∧ Hid (negs out + (if more = true then 1 else 0) ≤ G ∧ (more = true → negs out + rd ≤ m)))
      case atStart => exact ⟨0, _, A, c, true, rfl, rfl, hsl.out, hr0, (fun h => by cases h), hb.out, by show (_ + (if (true = true) then 1 else 0) ≤ _) ∧ _; rw [if_pos rfl]; exact ⟨by omega, fun _ => by omega⟩⟩
      case round =>
        obtain ⟨wo, rfl⟩ : ∃ wo : World, wo = wr := ⟨_, rfl⟩
        clear hsl hr0 hb hng
        obtain ⟨rd, out, A, c, more, rfl, rfl, hs, hR, hstop, hb1, hG⟩ := hrel
        cases more with
        | false =>
          have hd := RoundIs.done _ _ hR.out (fun a k h => harc.out a k h) hsrc.out (mid_stop (hstop.out rfl))
          have hf := hide (distF_of hd)
          replace hd := hide hd
          replace hs := hide hs
          replace hb1 := hide hb1
          clear hR hstop hG c3
          go_wp2
          go_ret
          exact ⟨A, m, c, rfl, by rw [hf.out]; exact hs.out, by rw [hf.out]; exact hd.out, hb1.out⟩
        | true =>
          obtain ⟨hg1, hg2⟩ := hG.out
          rw [if_pos rfl] at hg1
          have hg3 := hg2 rfl
          obtain ⟨G2, rfl⟩ : ∃ G2, gk = G2 + 1 := ⟨gk - 1, by omega⟩
          have hol := hR.out.1
          have q := hide (l00Own_calls A m c out wo _ _ hs (by omega))
          replace hs := hide hs
          replace hb1 := hide hb1
          replace hol := hide hol
          have hb1s := hb1.out.size
          clear hG hstop hg2
          go_wp2_with fail
          refine q.out.mono ?_
          rintro e w1 ⟨A', c', rfl, hn1, hb2⟩
          obtain ⟨bn, on, rfl, hbn1, -, -, -⟩ := hn1.at_ hN1
          have hmid := hide (mid_zero (src := srcE vs) (arc := arcE false es) (n := rd) hol.out (es := es))
          replace hn1 := hide hn1
          replace hb2 := hide hb2
          clear q
          go_upto_region 13 with fail
          go_loopw [5, 7] (fun b i wx => ∃ (j : Nat) (mo : Bool) (nx : List Int), j ≤ n3 ∧ b = .bool mo ∧ i = .int .i64 (j : Nat) ∧ SlI wx wo.heap.size wx.heap.size (some ⟨bn, on, none⟩) m nx ∧ Hid (MidIs m rd (seenE es j) out nx) ∧ Hid ((mo = false → nx = out) ∧ (mo = true → negs nx < negs out)) ∧ Below wo.heap.size wo wx) (fun _ i _ => n3 - (intOf i).toNat)
          case atStart => exact ⟨0, false, out, Nat.zero_le _, rfl, rfl, hn1.out, hmid, ⟨fun _ => rfl, fun h => by cases h⟩, hb2.out⟩
          case round =>
            clear hn1 hmid hb2
            obtain ⟨j, mo, nx, hj, rfl, rfl, hn, hM, hmo, hbx⟩ := hrel
            have hwx := hb1.out.trans (hbx.mono hb1s)
            have y3 := (hwx.cell (p := ⟨bm, 3, none⟩) hbt).trans c3
            by_cases hlt : j < n3
            · obtain ⟨b, off, f, lb, tg, rfl, -, -, g3, hx, p0, p1, p2, -, -, -⟩ := SlE.get t3.out hlt
              replace p0 := (hwx.cell g3).trans p0
              replace p1 := (hwx.cell (p := ⟨b, off + j * 3 + 1, none⟩) g3).trans p1
              replace p2 := (hwx.cell (p := ⟨b, off + j * 3 + 2, none⟩) g3).trans p2
              have hed := hedge.out _ (List.mem_of_getElem? hx)
              dsimp only at hed
              obtain ⟨fn, rfl⟩ : ∃ fn : Nat, f = (fn : Int) := ⟨f.toNat, by omega⟩
              obtain ⟨tn, rfl⟩ : ∃ tn : Nat, tg = (tn : Int) := ⟨tg.toNat, by omega⟩
              have hfn : fn < m := by omega
              have htn : tn < m := by omega
              have hfI : (fn : Int) < (m : Int) := by omega
              have htI : (tn : Int) < (m : Int) := by omega
              have hf0 : (0 : Int) ≤ (fn : Int) := by omega
              have ht0 : (0 : Int) ≤ (tn : Int) := by omega
              have hsO := hs.out.below hbx (.inl (Nat.le_refl _))
              obtain ⟨b5, o5, y, rfl, -, -, -, hy, cy, -⟩ := SlI.get hsO htn
              obtain ⟨b6, o6, z, e6, -, -, -, hz, cz, fz⟩ := SlI.get hn hfn
              cases e6
              have hI0 : (0 : Int) ≤ (j : Int) := by omega
              have hI1 : (j : Int) < (n3 : Int) := by omega
              have hbE : Below wr.heap.size wr (wr.alloc (.cells #[.int .i64 (fn : Int), .int .i64 lb, .int .i64 (tn : Int)] 86)) := (Below.refl _ _).alloc (Nat.le_refl _) _
              have kE := heap_alloc_new wr (.cells #[.int .i64 (fn : Int), .int .i64 lb, .int .i64 (tn : Int)] 86)
              have hzE : wo.heap.size ≤ (wr.alloc (.cells #[.int .i64 (fn : Int), .int .i64 lb, .int .i64 (tn : Int)] 86)).heap.size := Nat.le_trans hbx.size hbE.size
              have hbB := hbx.trans (hbE.mono hbx.size)
              have hnE := Sl.below hn hbE (.inr (Nat.le_refl _))
              have cyE := (hbE.cell (p := ⟨b5, o5 + tn, none⟩) (by obtain ⟨_, _, e9, _, _, h9, _⟩ := hsO.at_ (show 0 < m by omega); cases e9; exact h9)).trans cy
              have hbnl : bn < wr.heap.size := by obtain ⟨_, _, e9, _, _, h9, _⟩ := hn.at_ (show 0 < m by omega); cases e9; exact h9
              have czE := (hbE.cell (p := ⟨bn, on + fn, none⟩) hbnl).trans cz
              have z0 : (wr.alloc (.cells #[.int .i64 (fn : Int), .int .i64 lb, .int .i64 (tn : Int)] 86)).cell? ⟨wr.heap.size, 0, none⟩ = some (.int .i64 (fn : Int)) := (cell_of_row _ _ 0 _ _ (0, 0) kE).trans rfl
              have z2 : (wr.alloc (.cells #[.int .i64 (fn : Int), .int .i64 lb, .int .i64 (tn : Int)] 86)).cell? ⟨wr.heap.size, 2, none⟩ = some (.int .i64 (tn : Int)) := (cell_of_row _ _ 2 _ _ (0, 0) kE).trans rfl
              have fzE : (wr.alloc (.cells #[.int .i64 (fn : Int), .int .i64 lb, .int .i64 (tn : Int)] 86)).frozen? ⟨bn, on + fn, none⟩ = false := by
                obtain ⟨b9, o9, x9, e9, _, _, _, _, _, h9⟩ := SlI.get hnE hfn
                cases e9
                exact h9
              replace hbB := hide hbB
              replace hnE := hide hnE
              go_upto_region 16 with fail
              clear p0 p1 p2 y3 cy cz fz kE
              have hbez := hbE.size
              generalize (wr.alloc (.cells #[.int .i64 (fn : Int), .int .i64 lb, .int .i64 (tn : Int)] 86)) = WE at *
              generalize wr.heap.size = be at *
              have harcE : arcE false es tn fn := ⟨_, List.mem_of_getElem? hx, by simp⟩
              obtain ⟨xo, _, hxo, -⟩ := mid_get hM.out hol.out hfn
              by_cases hy0 : 0 ≤ y
              · by_cases hz0 : z < 0
                · have hxo0 : xo < 0 := by
                    rcases Int.lt_or_le xo 0 with h1 | h1
                    · exact h1
                    · have := (hM.out.2 fn xo hxo).1 h1
                      rw [hz] at this
                      have := Option.some.inj this
                      omega
                  obtain rfl : y = (rd : Int) := round_from hR.out harcE hy hy0 hxo hxo0
                  have hset := hide (mid_set hM.out hx rfl rfl hy hy0 hz hz0)
                  have hnegs := negs_set (v := (rd : Int) + 1) hz hz0 (by omega)
                  have hlt' : negs (nx.set fn ((rd : Int) + 1)) < negs out := by
                    cases mo with
                    | false => rw [hmo.out.1 rfl] at hnegs ⊢; omega
                    | true => have := hmo.out.2 rfl; omega
                  replace hlt' := hide hlt'
                  have hput := hide (SlI.put' hnE.out hfn ((rd : Int) + 1))
                  have hw := wrap_small (y := (rd : Int)) (by omega) (by omega)
                  have d1 : decide ((0 : Int) ≤ (rd : Int)) = true := decide_eq_true (by omega)
                  have d2 : decide (z < (0 : Int)) = true := decide_eq_true hz0
                  clear hx hz hy hM hmo hxo harcE hnegs hn hsO hbx hwx hbE hy0 hz0 hxo0 hed
                  go_quiet (fail)
                  go_wp2
                  have q0 : (WE.drewN nq).cell? ⟨be, 0, none⟩ = some (.int .i64 (fn : Int)) := z0
                  have q2 : (WE.drewN nq).cell? ⟨be, 2, none⟩ = some (.int .i64 (tn : Int)) := z2
                  have q3 : (WE.drewN nq).cell? ⟨b5, o5 + tn, none⟩ = some (.int .i64 (rd : Int)) := cyE
                  have q4 : (WE.drewN nq).frozen? ⟨bn, on + fn, none⟩ = false := fzE
                  have q5 : Hid (SlI ((WE.drewN nq).setCell ⟨bn, on + fn, none⟩ (.int .i64 ((rd : Int) + 1))) wo.heap.size be (some ⟨bn, on, none⟩) m (nx.set fn ((rd : Int) + 1))) := hput.out
                  have q6 : Hid (Below wo.heap.size wo (WE.drewN nq)) := ⟨hbB.out.os, hbB.out.tape, hbB.out.output, hbB.out.size, hbB.out.block⟩
                  have q7 : be ≤ (WE.drewN nq).heap.size := hbez
                  have q8 : (WE.drewN nq).cell? ⟨bn, on + fn, none⟩ = some (.int .i64 z) := czE
                  clear z0 z2 cyE fzE hput hbB czE hnE hbez
                  generalize WE.drewN nq = wq at *
                  go_still_tail 10, (by kernel_rfl)
                  change wpList _ _ _ _ _ wq.drew
                  go_wp2
                  go_roundw
                  case rel => exact ⟨j + 1, true, _, by omega, rfl, by go_num, (q5.out.drewN 1).more (Nat.le_refl _) (by show be ≤ (wq.setCell _ _).heap.size; rw [World.size_setCell]; exact q7), hset, ⟨(fun h => by cases h), fun _ => hlt'.out⟩, (q6.out.setCell hbn1 _).drew⟩
                  case measure => simp [intOf]; omega
                · have hznear : z ≤ y + 1 := by
                    rcases mid_val hM.out hxo hz (by omega) with ⟨h1, h2⟩ | ⟨h1, h2⟩
                    · have := round_near hR.out harcE hy hy0 hxo h1
                      omega
                    · have := round_from hR.out harcE hy hy0 hxo h1
                      omega
                  have hkn := hide (mid_known hM.out hx rfl hz (by omega) (fun x hx' hx0 => by
                    rcases mid_val hM.out hx' hz (by omega) with ⟨h1, h2⟩ | ⟨h1, h2⟩
                    · omega
                    · exact h2))
                  have hyb : y ≤ rd := ((hR.out.2 tn y hy).1 hy0).2
                  have hw := wrap_small (y := y) (by omega) (by omega)
                  have d1 : decide ((0 : Int) ≤ y) = true := decide_eq_true (by omega)
                  have d2 : decide (z < (0 : Int)) = false := decide_eq_false hz0
                  have d3 : decide (y + 1 < z) = false := decide_eq_false (by omega)
                  clear hx hz hy hM hxo harcE hn hsO hbx hwx hbE hy0 hz0 hznear hyb hed
                  go_quiet (fail)
                  go_wp2
                  go_roundw
                  case rel => exact ⟨j + 1, mo, nx, by omega, rfl, by go_num, (hnE.out.more (Nat.le_refl _) hbez).drewN _, hkn, hmo, ⟨hbB.out.os, hbB.out.tape, hbB.out.output, hbB.out.size, hbB.out.block⟩⟩
                  case measure => simp [intOf]; omega
              · have hsk := hide (mid_skip hM.out hx rfl hy (by omega))
                have d1 : decide ((0 : Int) ≤ y) = false := decide_eq_false hy0
                clear hx hz hy hM hxo harcE hn hsO hbx hwx hbE hy0 hed
                go_quiet (fail)
                go_wp2
                go_roundw
                case rel => exact ⟨j + 1, mo, nx, by omega, rfl, by go_num, (hnE.out.more (Nat.le_refl _) hbez).drewN _, hsk, hmo, ⟨hbB.out.os, hbB.out.tape, hbB.out.output, hbB.out.size, hbB.out.block⟩⟩
                case measure => simp [intOf]; omega
            · have hjn : j = n3 := by omega
              subst hjn
              have hall : Hid (MidIs m rd (arcE false es) out nx) := by show MidIs _ _ _ _ _; rw [← seenE_all (es := es) (i := j) (by rw [l3.out]; exact Nat.le_refl _)]; exact hM.out
              have hrn := hide (MidIs.round _ _ hR.out hall.out (fun a k h => harc.out a k h))
              have hnt := hn.more hb1s (Nat.le_refl _)
              have hstop' : Hid (mo = false → MidIs m (rd + 1) (arcE false es) nx nx) := fun h => by
                have e9 := hmo.out.1 h
                have h9 := hall.out
                rw [e9] at h9 ⊢
                refine ⟨h9.1, fun k x hk => ⟨fun _ => hk, fun hneg => ⟨fun hs => ?_, fun _ => hk⟩⟩⟩
                have := ((h9.2 k x hk).2 hneg).1 hs
                rw [hk] at this
                have := Option.some.inj this
                omega
              have hG' : Hid (negs nx + (if mo = true then 1 else 0) ≤ G2 ∧ (mo = true → negs nx + (rd + 1) ≤ m)) := by
                show _ ∧ _
                cases mo with
                | false => rw [hmo.out.1 rfl, if_neg (by decide)]; exact ⟨by omega, (fun h => by cases h)⟩
                | true => have := hmo.out.2 rfl; rw [if_pos rfl]; exact ⟨by omega, fun _ => by omega⟩
              replace hnt := hide hnt
              replace hwx := hide hwx
              clear hn hM hall hbx
              go_wp2
              go_roundg G2
              case measure => omega
              case rel => exact ⟨rd + 1, nx, _, _, mo, rfl, rfl, hnt.out, hrn, hstop', hwx.out, hG'⟩


end Go.Proofs.YtiaclddgllkgpaaGreatDoor
