/-
  The simulation of a system by itself, and whether an edge is a little brother, by the program. Conditions: sizes.
-/
import Derived.Test.YthlaoedpjloloaaGreatDoorSimN
import Derived.Test.YthlaoedpjloloaaGreatDoorBaseF
import Derived.Test.YthlaoedpjloloaaGreatDoorFuncsE
namespace Go.Proofs.YthlaoedpjloloaaGreatDoor
open Go.ChangeShapes Go.WideShapes Go.ChangeAt Go.RowKit Go.Sort
set_option linter.unusedVariables false
set_option linter.unusedSimpArgs false

/-- The greatest simulation of a system by itself. -/
abbrev selfR (s0 : Int) (es : List Ed) (ls : List ByteArray) : Rel2 := gsR 0 s0 s0 es ls es ls

set_option maxRecDepth 100000 in
set_option maxHeartbeats 1600000 in
theorem below_calls (n : Nat) (s0 s1 : Int) (A2 : Option Addr) (n2 k2 : Nat) (A3 : Option Addr) (n3 k3 : Nat) (ls : List ByteArray) (es : List Ed) (w : World) (hD : SimD w w.heap.size s0 s1 A2 n2 k2 A3 n3 k3 s0 s1 A2 n2 k2 A3 n3 k3 ls es ls es) (hns : s0 = (n : Int)) :
    Calls Tryz.prog 97 #[.agg #[.int .i64 s0, .int .i64 s1, .slice A2 n2 k2, .slice A3 n3 k3]] w fun e w' => ∃ m S, e = .returned (.map (some m)) ∧ PSet w' m S ∧ w.heap.size ≤ m ∧ (∀ x y, (x, y) ∈ S ↔ selfR s0 es ls x y) ∧ (∃ r, ∀ x y, simR 0 s0 s0 es ls es ls r x y → simR 0 s0 s0 es ls es ls (r + 1) x y) ∧ Below w.heap.size w w' := by
  have hb0 : Below w.heap.size w (w.alloc (.cells #[.int .i64 s0, .int .i64 s1, .slice A2 n2 k2, .slice A3 n3 k3] 31)) := (Below.refl _ _).alloc (Nat.le_refl _) _
  have k0 := heap_alloc_new w (.cells #[.int .i64 s0, .int .i64 s1, .slice A2 n2 k2, .slice A3 n3 k3] 31)
  have hD0 := hD.below hb0 (Nat.le_refl _)
  have q := hide (simulation_calls n n s0 s1 A2 n2 k2 A3 n3 k3 s0 s1 A2 n2 k2 A3 n3 k3 ls es ls es 0 (w.alloc (.cells #[.int .i64 s0, .int .i64 s1, .slice A2 n2 k2, .slice A3 n3 k3] 31)) ⟨hD0.t2.more (Nat.le_refl _) hb0.size, hD0.t3.more (Nat.le_refl _) hb0.size, hD0.u2.more (Nat.le_refl _) hb0.size, hD0.u3.more (Nat.le_refl _) hb0.size, hD0.hes, hD0.hfs, hD0.ht, hD0.hp⟩ hns hns (by decide))
  have a0 := (cell_of_row _ _ 0 _ _ (0, 0) k0).trans (show _ = some (Value.int .i64 s0) from rfl)
  have a1 := (cell_of_row _ _ 1 _ _ (0, 0) k0).trans (show _ = some (Value.int .i64 s1) from rfl)
  have a2 := (cell_of_row _ _ 2 _ _ (0, 0) k0).trans (show _ = some (Value.slice A2 n2 k2) from rfl)
  have a3 := (cell_of_row _ _ 3 _ _ (0, 0) k0).trans (show _ = some (Value.slice A3 n3 k3) from rfl)
  have hzs := hb0.size
  replace hb0 := hide hb0
  clear hD hD0 k0 hns
  go_enter Tryz.func97, Tryz.ntmps97
  go_upto_region 1 with fail
  generalize (w.alloc (.cells #[.int .i64 s0, .int .i64 s1, .slice A2 n2 k2, .slice A3 n3 k3] 31)) = W0 at *
  go_wp2_with (first | (go_at_call 46; (with_reducible refine q.out.mono ?_); rintro e w5 ⟨m5, S5, mis, rfl, hs5, hl5, ⟨r5, hr5, hst5⟩, hm5, hb5⟩; replace hs5 := hide hs5; replace hr5 := hide hr5; replace hm5 := hide hm5; replace hst5 := hide hst5; replace hb5 := hide hb5))
  go_ret
  exact ⟨m5, S5, rfl, hs5.out, by omega, fun x y => (hr5.out x y).trans (gsR_of_stay hst5.out x y), ⟨r5, hst5.out⟩, hb0.out.trans (hb5.out.mono hzs)⟩

/-- The map as the program's variable holds it. -/
structure MapIn (w : World) (bm m : Nat) (S : List PQ2) : Prop where
  kM : w.heap[bm]? = some (.cells #[.map (some m)] 76 (0, 0))
  set : PSet w m S
theorem MapIn.below {w w' : World} {bm m : Nat} {S : List PQ2} (h : MapIn w bm m S) (hb : Below w.heap.size w w') : MapIn w' bm m S := ⟨(hb.block _ (Array.getElem?_eq_some_iff.1 h.kM).1).trans h.kM, h.set.below hb⟩

def litP (S : List PQ2) (e f : Ed) : Bool := decide (f.1 = e.1) && decide (f.2.1 = e.2.1) && decide ((e.2.2, f.2.2) ∈ S) && !decide ((f.2.2, e.2.2) ∈ S)
set_option maxRecDepth 100000 in
set_option maxHeartbeats 1600000 in
theorem lit1_calls (be bm m : Nat) (S : List PQ2) (ef el et of ol ot : Int) (w : World) (kE : w.heap[be]? = some (.cells #[.int .i64 ef, .int .i64 el, .int .i64 et] 99 (0, 0))) (hM : MapIn w bm m S) (h1 : fitP (et, ot)) (h2 : fitP (ot, et)) :
    Calls Tryz.prog 99 #[.agg #[.int .i64 of, .int .i64 ol, .int .i64 ot], .pointer (some ⟨be, 0, none⟩), .pointer (some ⟨bm, 0, none⟩)] w (Says (litP S (ef, el, et) (of, ol, ot)) w) := by
  have hb0 : Below w.heap.size w (w.alloc (.cells #[.int .i64 of, .int .i64 ol, .int .i64 ot] 99)) := (Below.refl _ _).alloc (Nat.le_refl _) _
  have kO := heap_alloc_new w (.cells #[.int .i64 of, .int .i64 ol, .int .i64 ot] 99)
  have kE0 := (hb0.block _ (Array.getElem?_eq_some_iff.1 kE).1).trans kE
  have hM0 := hM.below hb0
  have a0 := (cell_of_row _ _ 0 _ _ (0, 0) kE0).trans (show _ = some (Value.int .i64 ef) from rfl)
  have a1 := (cell_of_row _ _ 1 _ _ (0, 0) kE0).trans (show _ = some (Value.int .i64 el) from rfl)
  have a2 := (cell_of_row _ _ 2 _ _ (0, 0) kE0).trans (show _ = some (Value.int .i64 et) from rfl)
  have b0 := (cell_of_row _ _ 0 _ _ (0, 0) kO).trans (show _ = some (Value.int .i64 of) from rfl)
  have b1 := (cell_of_row _ _ 1 _ _ (0, 0) kO).trans (show _ = some (Value.int .i64 ol) from rfl)
  have b2 := (cell_of_row _ _ 2 _ _ (0, 0) kO).trans (show _ = some (Value.int .i64 ot) from rfl)
  have cm := (cell_of_row _ _ 0 _ _ (0, 0) hM0.kM).trans (show _ = some (Value.map (some m)) from rfl)
  have hl1 : (Instr.lookup 76 (.map (some m)) (.agg #[.int .i64 et, .int .i64 ot]) false).run Tryz.prog (w.alloc (.cells #[.int .i64 of, .int .i64 ol, .int .i64 ot] 99)) = .ok (.bool (decide ((et, ot) ∈ S))) (w.alloc (.cells #[.int .i64 of, .int .i64 ol, .int .i64 ot] 99)) := hM0.set.look h1
  have hl2 : (Instr.lookup 76 (.map (some m)) (.agg #[.int .i64 ot, .int .i64 et]) false).run Tryz.prog (w.alloc (.cells #[.int .i64 of, .int .i64 ol, .int .i64 ot] 99)) = .ok (.bool (decide ((ot, et) ∈ S))) (w.alloc (.cells #[.int .i64 of, .int .i64 ol, .int .i64 ot] 99)) := hM0.set.look h2
  have hv : litP S (ef, el, et) (of, ol, ot) = (decide (of = ef) && decide (ol = el) && decide ((et, ot) ∈ S) && !decide ((ot, et) ∈ S)) := rfl
  generalize litP S (ef, el, et) (of, ol, ot) = v at *
  generalize decide ((et, ot) ∈ S) = x1 at *
  generalize decide ((ot, et) ∈ S) = x2 at *
  replace hb0 := hide hb0
  clear kE kO kE0 hM hM0 h1 h2
  go_enter Tryz.func99, Tryz.ntmps99
  go_upto_region 1 with fail
  generalize (w.alloc (.cells #[.int .i64 of, .int .i64 ol, .int .i64 ot] 99)) = W0 at *
  by_cases hf : of = ef
  · by_cases hl : ol = el
    · rw [decide_eq_true hf, decide_eq_true hl] at hv
      replace hv := hide hv
      subst hf hl
      cases x1 with
      | true =>
        go_wp2_with fail
        go_ret
        exact ⟨ret_b (by rw [hv.out]; rfl), hb0.out⟩
      | false =>
        go_wp2_with fail
        go_ret
        exact ⟨ret_b (by rw [hv.out]; rfl), hb0.out⟩
    · rw [decide_eq_true hf, decide_eq_false hl] at hv
      replace hv := hide hv
      have hl' : (ol == el) = false := by rw [beq_eq_false_iff_ne]; exact hl
      subst hf
      clear hl
      go_wp2_with fail
      go_ret
      exact ⟨ret_b (by rw [hv.out]; rfl), hb0.out⟩
  · rw [decide_eq_false hf] at hv
    replace hv := hide hv
    have hf' : (of == ef) = false := by rw [beq_eq_false_iff_ne]; exact hf
    clear hf
    go_wp2_with fail
    go_ret
    exact ⟨ret_b (by rw [hv.out]; rfl), hb0.out⟩

end Go.Proofs.YthlaoedpjloloaaGreatDoor
