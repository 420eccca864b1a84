/-
  LittleBrothers by the program. Conditions: sizes.
-/
import Derived.Test.YthlaoedpjloloaaGreatDoorLitI
import Derived.Test.YthlaoedpjloloaaGreatDoorOnlI
import Derived.Test.YthlaoedpjloloaaGreatDoorKindLu
import Derived.Test.YthlaoedpjloloaaGreatDoorMarkE
import Derived.Deep.RegionHeld3
namespace Go.Proofs.YthlaoedpjloloaaGreatDoor
open Go.ChangeShapes Go.WideShapes Go.ChangeAt Go.RowKit Go.Sort
set_option linter.unusedVariables false
set_option linter.unusedSimpArgs false

set_option maxRecDepth 100000 in
set_option maxHeartbeats 1600000 in
theorem lit2_calls (bt bm m : Nat) (S : List PQ2) (s0 s1 : Int) (A2 : Option Addr) (n2 k2 : Nat) (A3 : Option Addr) (n3 k3 : Nat) (es : List Ed) (ef el et : Int) (w : World) (lo hi : Nat)
    (kT : w.heap[bt]? = some (.cells #[.int .i64 s0, .int .i64 s1, .slice A2 n2 k2, .slice A3 n3 k3] 31 (0, 0))) (hM : MapIn w bm m S) (t3 : SlE w lo hi A3 n3 es) (hes : n3 ≤ 1048576) (hfit : ∀ f ∈ es, fitP (et, f.2.2) ∧ fitP (f.2.2, et)) :
    Calls Tryz.prog 98 #[.agg #[.int .i64 ef, .int .i64 el, .int .i64 et], .pointer (some ⟨bt, 0, none⟩), .pointer (some ⟨bm, 0, none⟩)] w (Says (es.any (litP S (ef, el, et))) w) := by
  have hb0 : Below w.heap.size w (w.alloc (.cells #[.int .i64 ef, .int .i64 el, .int .i64 et] 99)) := (Below.refl _ _).alloc (Nat.le_refl _) _
  have kE := heap_alloc_new w (.cells #[.int .i64 ef, .int .i64 el, .int .i64 et] 99)
  have kT0 := (hb0.block _ (Array.getElem?_eq_some_iff.1 kT).1).trans kT
  have hM0 := hM.below hb0
  have t30 := t3.below hb0 (.inr (Nat.le_refl _))
  have c3 := (cell_of_row _ _ 3 _ _ (0, 0) kT0).trans (show _ = some (Value.slice A3 n3 k3) from rfl)
  have hze := (Array.getElem?_eq_some_iff.1 kE).1
  have q := hide (containsFuncE_calls 99 #[.pointer (some ⟨w.heap.size, 0, none⟩), .pointer (some ⟨bm, 0, none⟩)] (litP S (ef, el, et)) A3 n3 k3 es _ _ _ t30 hes (fun v W => rfl) fun f lb tg hmem W hW =>
    lit1_calls w.heap.size bm m S ef el et f lb tg W ((hW.block _ hze).trans kE) (hM0.below hW) (hfit _ hmem).1 (hfit _ hmem).2)
  have hzs := hb0.size
  replace hb0 := hide hb0
  clear kE kT kT0 hM hM0 t3 t30 hfit hze
  go_enter Tryz.func98, Tryz.ntmps98
  go_upto_region 1 with fail
  generalize (w.alloc (.cells #[.int .i64 ef, .int .i64 el, .int .i64 et] 99)) = W0 at *
  go_wp2_with (first | (go_at_call 85; (with_reducible refine q.out.mono ?_); rintro e w5 ⟨rfl, hb5⟩; replace hb5 := hide hb5))
  go_ret
  exact ⟨rfl, hb0.out.trans (hb5.out.mono hzs)⟩

set_option maxRecDepth 100000 in
set_option maxHeartbeats 1600000 in
theorem littleB_calls (n : Nat) (s0 s1 : Int) (A2 : Option Addr) (n2 k2 : Nat) (A3 : Option Addr) (n3 k3 : Nat) (ls : List ByteArray) (es : List Ed) (w : World) (hD : SimD w w.heap.size s0 s1 A2 n2 k2 A3 n3 k3 s0 s1 A2 n2 k2 A3 n3 k3 ls es ls es) (hns : s0 = (n : Int)) :
    Calls Tryz.prog 61 #[.agg #[.int .i64 s0, .int .i64 s1, .slice A2 n2 k2, .slice A3 n3 k3]] w fun e w' => ∃ bt bm m S, e = .returned (.func (.func 98) #[] #[.pointer (some ⟨bt, 0, none⟩), .pointer (some ⟨bm, 0, none⟩)]) ∧ w'.heap[bt]? = some (.cells #[.int .i64 s0, .int .i64 s1, .slice A2 n2 k2, .slice A3 n3 k3] 31 (0, 0)) ∧ MapIn w' bm m S ∧ (∀ x y, (x, y) ∈ S ↔ selfR s0 es ls x y) ∧ Below w.heap.size w w' := by
  have hb0 : Below w.heap.size w (w.alloc (.cells #[.int .i64 s0, .int .i64 s1, .slice A2 n2 k2, .slice A3 n3 k3] 31)) := (Below.refl _ _).alloc (Nat.le_refl _) _
  have k0 := heap_alloc_new w (.cells #[.int .i64 s0, .int .i64 s1, .slice A2 n2 k2, .slice A3 n3 k3] 31)
  have hD0 := hD.below hb0 (Nat.le_refl _)
  have q := hide (below_calls n s0 s1 A2 n2 k2 A3 n3 k3 ls es (w.alloc (.cells #[.int .i64 s0, .int .i64 s1, .slice A2 n2 k2, .slice A3 n3 k3] 31)) ⟨hD0.t2.more (Nat.le_refl _) hb0.size, hD0.t3.more (Nat.le_refl _) hb0.size, hD0.u2.more (Nat.le_refl _) hb0.size, hD0.u3.more (Nat.le_refl _) hb0.size, hD0.hes, hD0.hfs, hD0.ht, hD0.hp⟩ hns)
  have a0 := (cell_of_row _ _ 0 _ _ (0, 0) k0).trans (show _ = some (Value.int .i64 s0) from rfl)
  have a1 := (cell_of_row _ _ 1 _ _ (0, 0) k0).trans (show _ = some (Value.int .i64 s1) from rfl)
  have a2 := (cell_of_row _ _ 2 _ _ (0, 0) k0).trans (show _ = some (Value.slice A2 n2 k2) from rfl)
  have a3 := (cell_of_row _ _ 3 _ _ (0, 0) k0).trans (show _ = some (Value.slice A3 n3 k3) from rfl)
  have hzs := hb0.size
  have hk0 := (Array.getElem?_eq_some_iff.1 k0).1
  replace hb0 := hide hb0
  replace k0 := hide k0
  clear hD hD0 hns
  go_enter Tryz.func61, Tryz.ntmps61
  go_upto_region 1 with fail
  generalize (w.alloc (.cells #[.int .i64 s0, .int .i64 s1, .slice A2 n2 k2, .slice A3 n3 k3] 31)) = W0 at *
  go_wp2_with (first | (go_at_call 97; (with_reducible refine q.out.mono ?_); rintro e w5 ⟨m5, S5, rfl, hs5, hl5, hr5, -, hb5⟩; replace hs5 := hide hs5; replace hr5 := hide hr5; replace hb5 := hide hb5))
  go_ret
  have hbA : Below w5.heap.size w5 (w5.alloc (.cells #[.map (some m5)] 76)) := (Below.refl _ _).alloc (Nat.le_refl _) _
  exact ⟨w.heap.size, w5.heap.size, m5, S5, rfl, (hbA.block _ (Nat.lt_of_lt_of_le hk0 hb5.out.size)).trans ((hb5.out.block _ hk0).trans k0.out), ⟨heap_alloc_new _ _, hs5.out.below hbA⟩, hr5.out, hb0.out.trans ((hb5.out.mono hzs).trans (hbA.mono (Nat.le_trans hzs hb5.out.size)))⟩

theorem lit_eq {S : List PQ2} {R : Rel2} (h : ∀ x y, (x, y) ∈ S ↔ R x y) (es : List Ed) (e : Ed) : es.any (litP S e) = litB R es e := by
  classical
  unfold litB litP
  congr 1
  funext f
  congr 1
  · congr 1
    exact decide_eq_decide.2 (h _ _)
  · congr 1
    exact decide_eq_decide.2 (h _ _)

set_option maxRecDepth 100000 in
theorem run_fieldE (s0 s1 : Int) (A2 : Option Addr) (n2 k2 : Nat) (A m c) (W : World) : (Instr.field 31 (.agg #[.int .i64 s0, .int .i64 s1, .slice A2 n2 k2, .slice A m c]) 3).run Tryz.prog W = .ok (.slice A m c) W := by
  first
  | rfl
  | (simp [Instr.field, run_underlying Tryz.underlying31, go_sem]; done)
  | (simp [Instr.field, run_underlying Tryz.underlying31, go_sem]; rfl)

set_option maxRecDepth 100000 in
set_option maxHeartbeats 3200000 in
theorem implLittleBrothers_u {v : Value} {d : DL} {w : World} {lo hi : Nat} (he : Env w) (h : FreshL w lo hi v d) (hh : hi ≤ w.heap.size) :
    Calls Tryz.prog 28 #[v] w fun e w' => ∃ u, e = .returned (.tuple #[u, .int .i64 (litF d).2]) ∧ ResEd w' w.heap.size w'.heap.size u (litF d).1 ∧ Below w.heap.size w w' := by
  obtain ⟨⟨⟨s0, s1, v2, v3⟩, rfl, hL⟩, ht⟩ := h
  obtain ⟨st, ini, ls, es⟩ := d
  have hL' := hL
  obtain ⟨e0, e1, ⟨A2, n2, k2, e2, hn2, hs2, t2⟩, ⟨A3, n3, k3, e3, hn3, t3⟩⟩ := hL
  dsimp only at *
  subst e0 e1 e2 e3
  have hes : n3 ≤ 1048576 := by rw [← t3.len]; exact Nat.le_trans (totL_edg (s0, s1, ls, es)) ht
  have hb0 : Below w.heap.size w (w.alloc (.cells #[.int .i64 s0, .int .i64 s1, .slice A2 n2 k2, .slice A3 n3 k3] 31)) := (Below.refl _ _).alloc (Nat.le_refl _) _
  have k0 := heap_alloc_new w (.cells #[.int .i64 s0, .int .i64 s1, .slice A2 n2 k2, .slice A3 n3 k3] 31)
  have hk0 := (Array.getElem?_eq_some_iff.1 k0).1
  have q1 := validLts_calls _ (s0, s1, ls, es) _ lo hi (hL'.below hb0 (.inr (Nat.le_refl _))) ht (he.below hb0 (Nat.le_refl _))
  dsimp only at q1
  have a0 := (cell_of_row _ _ 0 _ _ (0, 0) k0).trans (show _ = some (Value.int .i64 s0) from rfl)
  have a1 := (cell_of_row _ _ 1 _ _ (0, 0) k0).trans (show _ = some (Value.int .i64 s1) from rfl)
  have a2 := (cell_of_row _ _ 2 _ _ (0, 0) k0).trans (show _ = some (Value.slice A2 n2 k2) from rfl)
  have a3 := (cell_of_row _ _ 3 _ _ (0, 0) k0).trans (show _ = some (Value.slice A3 n3 k3) from rfl)
  have hzs := hb0.size
  clear hL' hs2 he hn2 hn3
  cases hv : ltsV (s0, s1, ls, es) with
  | false =>
    rw [hv] at q1
    replace q1 := hide q1
    have hval : Hid (litF (s0, s1, ls, es) = ([], 1)) := by show _ = _; unfold litF; rw [hv]; rfl
    replace hb0 := hide hb0
    clear hv t2 t3 k0
    go_enter Tryz.func28, Tryz.ntmps28
    go_upto_region 1 with fail
    generalize (w.alloc (.cells #[.int .i64 s0, .int .i64 s1, .slice A2 n2 k2, .slice A3 n3 k3] 31)) = W0 at *
    go_wp2_with (first | (go_at_call 59; (with_reducible refine q1.out.mono ?_); rintro e w5 ⟨rfl, hb5⟩; replace hb5 := hide hb5))
    go_ret2
    exact ⟨.slice none 0 0, by rw [hval.out]; rfl, by rw [hval.out]; exact ⟨none, 0, 0, rfl, by omega, Sl.nil_⟩, hb0.out.trans (hb5.out.mono hzs)⟩
  | true =>
    rw [hv] at q1
    replace q1 := hide q1
    have hb40 := (lts_boundsB hv).1
    obtain ⟨n, hn⟩ : ∃ n : Nat, s0 = (n : Int) := ⟨s0.toNat, by omega⟩
    have hD : SimD w w.heap.size s0 s1 A2 n2 k2 A3 n3 k3 s0 s1 A2 n2 k2 A3 n3 k3 ls es ls es := ⟨t2.more (Nat.zero_le _) hh, t3.more (Nat.zero_le _) hh, t2.more (Nat.zero_le _) hh, t3.more (Nat.zero_le _) hh, hes, hes, hv, hv⟩
    have hfit : ∀ e ∈ es, ∀ f ∈ es, fitP (e.2.2, f.2.2) := fun e he f hf => by
      obtain ⟨j, hj⟩ := List.getElem?_of_mem he
      obtain ⟨k, hk⟩ := List.getElem?_of_mem hf
      obtain ⟨ef, el, et⟩ := e
      obtain ⟨ff, fl, ft⟩ := f
      have h1 := (edge_of hv hj).2.1
      have h2 := (edge_of hv hk).2.1
      exact fit_of (by dsimp only; omega) (by dsimp only; omega) (by dsimp only; omega) (by dsimp only; omega)
    have hval : Hid (litF (s0, s1, ls, es) = (es.filter (fun e => litB (selfR s0 es ls) es e), 0)) := by show _ = _; unfold litF; rw [if_pos hv]
    have qb := hide fun (W : World) (hW : Below w.heap.size w W) (hs : w.heap.size ≤ W.heap.size) => littleB_calls n s0 s1 A2 n2 k2 A3 n3 k3 ls es W ⟨(hD.below hW (Nat.le_refl _)).t2.more (Nat.le_refl _) hs, (hD.below hW (Nat.le_refl _)).t3.more (Nat.le_refl _) hs, (hD.below hW (Nat.le_refl _)).u2.more (Nat.le_refl _) hs, (hD.below hW (Nat.le_refl _)).u3.more (Nat.le_refl _) hs, hes, hes, hv, hv⟩ hn
    have qo := hide fun (bt bm m : Nat) (S : List PQ2) (W : World) (hW : Below w.heap.size w W) (kT : W.heap[bt]? = some (.cells #[.int .i64 s0, .int .i64 s1, .slice A2 n2 k2, .slice A3 n3 k3] 31 (0, 0))) (hM : MapIn W bm m S) =>
      only_calls 98 #[.pointer (some ⟨bt, 0, none⟩), .pointer (some ⟨bm, 0, none⟩)] (fun e => es.any (litP S e)) s0 s1 A2 n2 k2 A3 n3 k3 es W 0 w.heap.size (hD.t3.below hW (.inl (Nat.le_refl _))) hes (fun v W => rfl) fun f lb tg hmem W' hW' =>
        lit2_calls bt bm m S s0 s1 A2 n2 k2 A3 n3 k3 es f lb tg W' 0 w.heap.size ((hW'.block _ (Array.getElem?_eq_some_iff.1 kT).1).trans kT) (hM.below hW') ((hD.t3.below hW (.inl (Nat.le_refl _))).below hW' (.inl hW.size)) hes fun g hg => ⟨hfit _ hmem g hg, hfit g hg _ hmem⟩
    replace hb0 := hide hb0
    replace k0 := hide k0
    clear hv t2 t3 hD hfit hn hb40
    go_enter Tryz.func28, Tryz.ntmps28
    go_upto_region 1 with fail
    generalize (w.alloc (.cells #[.int .i64 s0, .int .i64 s1, .slice A2 n2 k2, .slice A3 n3 k3] 31)) = W0 at *
    go_upto_region 3 with (first | (go_at_call 59; (with_reducible refine q1.out.mono ?_); rintro e w5 ⟨rfl, hb5⟩))
    have d0 := (hb5.cell (p := ⟨w.heap.size, 0, none⟩) hk0).trans a0
    have d1 := (hb5.cell (p := ⟨w.heap.size, 1, none⟩) hk0).trans a1
    have d2 := (hb5.cell (p := ⟨w.heap.size, 2, none⟩) hk0).trans a2
    have d3 := (hb5.cell (p := ⟨w.heap.size, 3, none⟩) hk0).trans a3
    have hbw := hide (hb0.out.trans (hb5.mono hzs))
    have hk5 := Nat.lt_of_lt_of_le hk0 hb5.size
    have q2 := hide (qb.out w5.drew hbw.out.drew hbw.out.size)
    clear q1 qb a0 a1 a2 a3 hb5
    go_region_law
      (first
        | (go_simp; go_at_call 61; (with_reducible refine q2.out.mono ?_); rintro e w6 ⟨bt, bm, m6, S6, rfl, kT6, hM6, hi6, hb6d⟩; have hb6 : Below w5.heap.size w5 w6 := ((Below.refl _ _).drew).trans hb6d; have x0 := (hb6.cell (p := ⟨w.heap.size, 0, none⟩) hk5).trans d0; have x1 := (hb6.cell (p := ⟨w.heap.size, 1, none⟩) hk5).trans d1; have x2 := (hb6.cell (p := ⟨w.heap.size, 2, none⟩) hk5).trans d2; have x3 := (hb6.cell (p := ⟨w.heap.size, 3, none⟩) hk5).trans d3; have hbw6 := hide (hbw.out.trans (hb6.mono hbw.out.size)); have hk6 := Nat.lt_of_lt_of_le hk5 hb6.size; have q3 := hide (qo.out bt bm m6 S6 w6 hbw6.out kT6 hM6); replace hi6 := hide hi6; clear q2 kT6 hM6 hb6d hb6)
        | (go_simp; go_at_call 60; (with_reducible refine q3.out.mono ?_); rintro e w7 ⟨A7, m7, c7, rfl, hs7, hm7, hb7⟩; have y0 := (hb7.cell (p := ⟨w.heap.size, 0, none⟩) hk6).trans x0; have y1 := (hb7.cell (p := ⟨w.heap.size, 1, none⟩) hk6).trans x1; have y2 := (hb7.cell (p := ⟨w.heap.size, 2, none⟩) hk6).trans x2; have y3 := (hb7.cell (p := ⟨w.heap.size, 3, none⟩) hk6).trans x3; have hfd := run_fieldE s0 s1 A2 n2 k2 A7 m7 c7 w7; have hbw7 := hide (hbw6.out.trans (hb7.mono hbw6.out.size)); replace hs7 := hide (hs7.more hbw6.out.size (Nat.le_refl _)); clear hb7))
    all_goals (
      have hfe : Hid (es.filter (fun e => es.any (litP S6 e)) = es.filter (fun e => litB (selfR s0 es ls) es e)) := by
        show _ = _
        congr 1
        funext e
        exact lit_eq hi6.out es e
      rw [hfe.out] at hs7
      go_wp2_with fail
      go_ret2
      exact ⟨.slice A7 m7 c7, by rw [hval.out]; rfl, by rw [hval.out]; exact ⟨A7, m7, c7, rfl, by omega, hs7.out⟩, hbw7.out⟩)

end Go.Proofs.YthlaoedpjloloaaGreatDoor
