/-
  LittleBrothers by the reference, in the law's shape. Conditions: sizes.
-/
import Derived.Test.YthlaoedpjloloaaGreatDoorBroS
import Derived.Test.YthlaoedpjloloaaGreatDoorLitJ
namespace Go.Proofs.YthlaoedpjloloaaGreatDoor
open Go.ChangeShapes Go.WideShapes Go.ChangeAt Go.RowKit Go.Sort
set_option linter.unusedVariables false
set_option linter.unusedSimpArgs false

/-- A boxed system. -/
theorem LtsAt.box {w : World} {lo hi : Nat} {s0 s1 : Int} {v2 v3 : Value} {d : DL} (h : ReadL w lo hi (s0, s1, v2, v3) d) (hh : hi ≤ w.heap.size) (ht : totL d ≤ 1048576) :
    LtsAt (w.alloc (.cells #[.int .i64 s0, .int .i64 s1, v2, v3] 31)) w.heap.size (s0, s1, v2, v3) d := by
  have hb0 : Below w.heap.size w (w.alloc (.cells #[.int .i64 s0, .int .i64 s1, v2, v3] 31)) := (Below.refl _ _).alloc (Nat.le_refl _) _
  have k0 := heap_alloc_new w (.cells #[.int .i64 s0, .int .i64 s1, v2, v3] 31)
  exact ⟨(h.below hb0 (.inr (Nat.le_refl _))).more (Nat.zero_le _) (Nat.le_trans hh hb0.size), ht, (Array.getElem?_eq_some_iff.1 k0).1, (cell_of_row _ _ 0 _ _ (0, 0) k0).trans rfl, (cell_of_row _ _ 1 _ _ (0, 0) k0).trans rfl, (cell_of_row _ _ 2 _ _ (0, 0) k0).trans rfl, (cell_of_row _ _ 3 _ _ (0, 0) k0).trans rfl⟩

set_option maxRecDepth 100000 in
set_option maxHeartbeats 1600000 in
theorem specLittleBrothers_u {v : Value} {d : DL} {w : World} {lo hi : Nat} (he : Env w) (h : FreshL w lo hi v d) (hh : hi ≤ w.heap.size) :
    Calls Tryz.prog 27 #[v] w fun e w' => ∃ u, e = .returned (.tuple #[u, .int .i64 (litF d).2]) ∧ ResEd w' w.heap.size w'.heap.size u (litF d).1 ∧ Below w.heap.size w w' := by
  obtain ⟨⟨⟨s0, s1, v2, v3⟩, rfl, hL⟩, ht⟩ := h
  obtain ⟨st, ini, ls, es⟩ := d
  have hAt := LtsAt.box hL hh ht
  have hb0 : Below w.heap.size w (w.alloc (.cells #[.int .i64 s0, .int .i64 s1, v2, v3] 31)) := (Below.refl _ _).alloc (Nat.le_refl _) _
  have hzs := hb0.size
  replace hb0 := hide hb0
  clear hL he
  go_enter Tryz.func27, Tryz.ntmps27
  go_upto_region 1 with fail
  generalize (w.alloc (.cells #[.int .i64 s0, .int .i64 s1, v2, v3] 31)) = W0 at *
  have q1 := l11Is_calls w.heap.size _ (st, ini, ls, es) W0 hAt
  cases hv : ltsV (st, ini, ls, es) with
  | false =>
    rw [hv] at q1
    replace q1 := hide q1
    have hval : Hid (litF (st, ini, ls, es) = ([], 1)) := by show _ = _; unfold litF; rw [hv]; rfl
    clear hv hAt
    go_wp2_with (first | (go_at_call 57; (with_reducible refine q1.out.mono ?_); rintro e w5 ⟨rfl, hb5⟩; replace hb5 := hide hb5))
    go_ret2
    exact ⟨.slice none 0 0, by rw [hval.out]; rfl, by rw [hval.out]; exact ⟨none, 0, 0, rfl, by omega, Sl.nil_⟩, hb0.out.trans (hb5.out.mono hzs)⟩
  | true =>
    rw [hv] at q1
    replace q1 := hide q1
    have hb40 := (lts_boundsB hv).1
    obtain ⟨n, rfl⟩ : ∃ n : Nat, st = (n : Int) := ⟨st.toNat, by omega⟩
    have hval : Hid (litF ((n : Int), ini, ls, es) = (es.filter (fun e => litB (gsR 0 n n es ls es ls) es e), 0)) := by show _ = _; unfold litF; rw [if_pos hv]
    have q2 := hide fun (W : World) (hW : Below W0.heap.size W0 W) => l17Brothers_calls w.heap.size _ n ini ls es W (hAt.below hW (Nat.le_refl _)) hv
    clear hv hAt hb40
    go_wp2_with (first | (go_at_call 57; (with_reducible refine q1.out.mono ?_); rintro e w5 ⟨rfl, hb5⟩; have q3 := hide (q2.out w5 hb5); replace hb5 := hide hb5; clear q1) | (go_at_call 58; (with_reducible refine q3.out.mono ?_); rintro e w6 ⟨A6, m6, c6, v6, rfl, hs6, hm6, hb6⟩; replace hs6 := hide hs6; replace hb6 := hide hb6))
    go_ret2
    have hbw := hb0.out.trans (hb5.out.mono hzs)
    exact ⟨.slice A6 m6 c6, by rw [hval.out]; rfl, by rw [hval.out]; exact ⟨A6, m6, c6, rfl, hm6, hs6.out.more hbw.size (Nat.le_refl _)⟩, hbw.trans (hb6.out.mono hbw.size)⟩

end Go.Proofs.YthlaoedpjloloaaGreatDoor
