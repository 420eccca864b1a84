/-
  Several texts in one:
  slices.ContainsFunc at a function value that is asked of the list's own elements. Conditions: at most 1048576 elements.
  Distances, shortest paths and their ends, by the program, on a valid system. Conditions: valid systems.
  slices.ContainsFunc on texts. Conditions: at most 1048576 elements.
  Sorting and compacting lists of at most one number; finding a number in a list. Conditions: sizes.
  The states to which edges with a label lead from some states, by the program. Conditions: sizes.
  The end of a path, its labels, and what its labels lead to, by the program, on a valid system. Conditions: valid systems, paths of at most 1000 edges.
  The labels of a path and what they lead to, by the program, on a valid system. Conditions: valid systems, paths of at most 1000 edges.
  What the laws over a drawn system begin with: bytes that are too many, the system drawn from bytes, numbers in a list. Conditions: none.
  Bytes as an argument of a law. Conditions: none.
  The law FnPaths returns true for every input: the shortest path to a state is as long as its distance and ends there, and its labels lead there. Conditions: none.
  A world that meets the rows' condition on the library's variables, and what the condition gives. Conditions: none.
  Monitors as arguments of a law: words, sizes, copying, comparing. Conditions: sizes.
  What the rows' condition on the library's variables gives a walk; opening of systems as arguments. Conditions: none.
  Closed facts of the whole program, and the rows' condition in one form. Conditions: none.
-/
import Derived.Test.YtcdhgabcajehnaaGreatDoorBaseA
import Derived.Test.YtcdhgabcajehnaaGreatDoorBaseB
import Derived.Test.YtcdhgabcajehnaaGreatDoorBaseC
import Derived.Test.YtcdhgabcajehnaaGreatDoorBaseD
import Derived.Test.YtcdhgabcajehnaaGreatDoorBaseF
import Derived.LaidMore
import Derived.LaidLaws
import Derived.HandedShaped
import Derived.Stop.LaidErr
import Derived.Lib.LaidTab
import Derived.Test.YtcdhgabcajehnaaGreatDoorTie
import Derived.Test.YtcdhgabcajehnaaGreatDoorCards
set_option linter.unusedSimpArgs false
set_option linter.unusedVariables false
namespace Go.Proofs.YtcdhgabcajehnaaGreatDoor
open Go.ChangeShapes Go.WideShapes Go.ChangeAt Go.RowKit
set_option linter.unusedVariables false

set_option maxRecDepth 100000 in
theorem indexFuncM_calls (F : FuncId) (caps : Array Value) (G : Int → Bool) (A : Option Addr) (n c : Nat) (l : List Int) (w : World) (lo hi : Nat) (h : SlI w lo hi A n l) (hn : n ≤ 1048576)
    (hF : ∀ (v : Value) (W : World), Sem.run Tryz.prog (callFunc F (#[v] ++ caps)) W = .ok (.enter F (#[v] ++ caps)) W)
    (hcl : ∀ (v : Int), v ∈ l → ∀ (W : World), Below w.heap.size w W → Calls Tryz.prog F (#[.int .i64 v] ++ caps) W (Says (G v) W)) :
    Calls Tryz.prog 78 #[.slice A n c, .func (.func F) #[] caps] w fun e w' => ∃ i : Int, e = .returned (.int .i64 i) ∧ decide (0 ≤ i) = l.any G ∧ Below w.heap.size w w' := by
  have hlen := hide h.len
  replace hcl := hide hcl
  go_enter Tryz.func78, Tryz.ntmps78
  go_wp2
  go_loopw [8] (fun i wr => ∃ k : Nat, k ≤ n ∧ i = .int .i64 k ∧ Below w.heap.size w wr ∧ Hid ((l.take k).any G = false)) (fun i _ => n - (intOf i).toNat)
  case atStart => exact ⟨0, Nat.zero_le _, rfl, Below.refl _ _, rfl⟩
  case round =>
    obtain ⟨k, hk, rfl, hb, ha⟩ := hrel
    by_cases hlt : k < n
    · obtain ⟨b, off, x, rfl, g1, g2, g3, hx, c0, -⟩ := h.get hlt
      replace c0 := (hb.cell (p := ⟨b, off + k, none⟩) g3).trans c0
      have hc := hcl.out x (List.mem_of_getElem? hx) wr hb
      replace hx := hide hx
      clear h hcl
      by_cases hg : G x = true
      · rw [hg] at hc
        replace hc := hide hc
        have hy := hide (any_hit hx.out hg)
        clear hg
        go_wp2_with fail
        refine hc.out.mono ?_
        rintro e w1 ⟨rfl, hb1⟩
        go_wp2_with fail
        go_ret
        exact ⟨_, rfl, by rw [hy.out]; simp, hb.trans (hb1.mono hb.size)⟩
      · replace hg := Bool.eq_false_iff.2 hg
        rw [hg] at hc
        replace hc := hide hc
        have hy := hide (any_take_succ ha.out hx.out hg)
        clear hg
        go_wp2_with fail
        refine hc.out.mono ?_
        rintro e w1 ⟨rfl, hb1⟩
        go_wp2_with fail
        go_roundw
        case rel => exact ⟨k + 1, by omega, by go_num, hb.trans (hb1.mono hb.size), hy⟩
        case measure => simp [intOf]; omega
    · have hkn : k = n := by omega
      subst hkn
      clear hcl
      go_wp2
      go_ret
      have hy := ha.out
      rw [List.take_of_length_le (by rw [hlen.out]; exact Nat.le_refl _)] at hy
      exact ⟨_, rfl, by rw [hy]; decide, hb⟩

theorem containsFuncM_calls (F : FuncId) (caps : Array Value) (G : Int → Bool) (A : Option Addr) (n c : Nat) (l : List Int) (w : World) (lo hi : Nat) (h : SlI w lo hi A n l) (hn : n ≤ 1048576)
    (hF : ∀ (v : Value) (W : World), Sem.run Tryz.prog (callFunc F (#[v] ++ caps)) W = .ok (.enter F (#[v] ++ caps)) W)
    (hcl : ∀ (v : Int), v ∈ l → ∀ (W : World), Below w.heap.size w W → Calls Tryz.prog F (#[.int .i64 v] ++ caps) W (Says (G v) W)) :
    Calls Tryz.prog 39 #[.slice A n c, .func (.func F) #[] caps] w (Says (l.any G) w) := by
  have q := hide (indexFuncM_calls F caps G A n c l w lo hi h hn hF hcl)
  clear h hF hcl
  go_enter Tryz.func39, Tryz.ntmps39
  go_wp2_with fail
  refine q.out.mono ?_
  rintro e w1 ⟨i, rfl, hi, hb⟩
  replace hi := hide hi
  go_wp2_with fail
  go_ret
  exact ⟨ret_b hi.out.symm, hb⟩

end Go.Proofs.YtcdhgabcajehnaaGreatDoor

namespace Go.Proofs.YtcdhgabcajehnaaGreatDoor
open Go.ChangeShapes Go.WideShapes Go.ChangeAt Go.RowKit
set_option linter.unusedVariables false
set_option linter.unusedSimpArgs false

theorem lay_in {N y : Nat} {fw : Bool} {es : List Ed} (hin : ∀ a k, arcE fw es a k → a < N ∧ k < N) (hy : y < N) : ∀ {n k : Nat}, lay (srcE [(y : Int)]) (arcE fw es) n k → k < N
  | 0, k, h => by
    have h : (k : Int) ∈ [(y : Int)] := h
    have := List.mem_singleton.1 h
    omega
  | n + 1, k, h => by
    rcases h with h | ⟨a, _, h⟩
    · exact lay_in hin hy h
    · exact (hin _ _ h).2
theorem dist_top {es : List Ed} {N y : Nat} {fw : Bool} {left : List Int} (hl : DistIs (srcE [(y : Int)]) (arcE fw es) N left) (he : ∀ e ∈ es, (0 ≤ e.1 ∧ e.1 < (N : Int)) ∧ (0 ≤ e.2.2 ∧ e.2.2 < (N : Int))) (hy : y < N) {d : Int} (hd : d ∈ left) : d < (N : Int) := by
  by_cases h0 : d < 0
  · omega
  obtain ⟨k, hk⟩ := List.getElem?_of_mem hd
  have h1 := (hl.2 k d hk).1 (by omega)
  have hin := arcE_in he (fw := fw)
  have key : ∀ i j, i + j = d.toNat → ∃ s, least (srcE [(y : Int)]) (arcE fw es) j s := by
    intro i
    induction i with
    | zero => intro j hj; obtain rfl : j = d.toNat := (by omega); exact ⟨k, h1⟩
    | succ i ih =>
      intro j hj
      obtain ⟨s, hs⟩ := ih (j + 1) (by omega)
      obtain ⟨a, ha, _⟩ := least_pred _ _ hs
      exact ⟨a, ha⟩
  have hf : ∀ j, ∃ s : Nat, j ≤ d.toNat → least (srcE [(y : Int)]) (arcE fw es) j s := fun j => by
    by_cases h : j ≤ d.toNat
    · obtain ⟨s, hs⟩ := key (d.toNat - j) j (by omega)
      exact ⟨s, fun _ => hs⟩
    · exact ⟨0, fun g => absurd g h⟩
  have hf2 : ∃ f : Nat → Nat, ∀ j, j ≤ d.toNat → least (srcE [(y : Int)]) (arcE fw es) j (f j) := ⟨fun j => (hf j).choose, fun j => (hf j).choose_spec⟩
  obtain ⟨f, hf⟩ := hf2
  have hnd : ((List.range (d.toNat + 1)).map fun j => (f j : Int)).Nodup := by
    unfold List.Nodup
    rw [List.pairwise_map]
    refine List.Pairwise.imp_of_mem ?_ (List.pairwise_lt_range (n := d.toNat + 1))
    intro a b ha hb hab e
    have ha := List.mem_range.1 ha
    have hb := List.mem_range.1 hb
    have e : f a = f b := by omega
    have := least_uniq _ _ (hf a (by omega)) (e ▸ hf b (by omega))
    omega
  have hsub := sub_len hnd (M := (List.range N).map Int.ofNat) fun z hz => by
    obtain ⟨j, hj, rfl⟩ := List.mem_map.1 hz
    have hj := List.mem_range.1 hj
    exact List.mem_map.2 ⟨f j, List.mem_range.2 (lay_in hin hy (hf j (by omega)).1), rfl⟩
  simp only [List.length_map, List.length_range] at hsub
  omega
abbrev ltsC (N ini : Nat) (A : Option Addr) (n c : Nat) (B : Option Addr) (m d : Nat) : Obj := .cells #[.int .i64 (N : Int), .int .i64 (ini : Int), .slice A n c, .slice B m d] 27
/-- A boxed system: the box, the system, all below as it was. -/
structure BoxA (w w1 : World) (N ini : Nat) (A : Option Addr) (n c : Nat) (B : Option Addr) (m d : Nat) (ls : List ByteArray) (es : List Ed) : Prop where
  box : LtsBox w1 w.heap.size (N : Int) (ini : Int) A n c B m d
  sys : SysA w1 N ini A n B m ls es
  bel : Below w.heap.size w w1
theorem SysA.box {w : World} {N ini : Nat} {A : Option Addr} {n c : Nat} {B : Option Addr} {m d : Nat} {ls : List ByteArray} {es : List Ed} (h : SysA w N ini A n B m ls es) : BoxA w (w.alloc (ltsC N ini A n c B m d)) N ini A n c B m d ls es := by
  have hb := (Below.refl w.heap.size w).alloc (Nat.le_refl _) (ltsC N ini A n c B m d)
  exact ⟨heap_alloc_new w _, h.below hb (Nat.le_refl _), hb⟩
section
variable {w w1 w2 : World} {N ini : Nat} {A : Option Addr} {n c : Nat} {B : Option Addr} {m d : Nat} {ls : List ByteArray} {es : List Ed}
theorem BoxA.below (h : BoxA w w1 N ini A n c B m d ls es) (hb : Below w1.heap.size w1 w2) : BoxA w w2 N ini A n c B m d ls es :=
  ⟨h.box.below hb h.box.lt, h.sys.below hb (Nat.le_refl _), h.bel.trans (hb.mono h.bel.size)⟩
theorem BoxA.lt (h : BoxA w w1 N ini A n c B m d ls es) : w.heap.size < w1.heap.size := h.box.lt
end

section
variable {w : World} {N ini : Nat} {A : Option Addr} {n : Nat} {B : Option Addr} {m : Nat} {ls : List ByteArray} {es : List Ed}
set_option maxRecDepth 100000 in
set_option maxHeartbeats 1600000 in
theorem distancesOf_calls (h : SysA w N ini A n B m ls es) (c d : Nat) (he : Env w) :
    Calls Tryz.prog 16 #[.agg #[.int .i64 (N : Int), .int .i64 (ini : Int), .slice A n c, .slice B m d]] w fun e w' => ∃ D cD far, e = .returned (.tuple #[.slice D N cD, .int .i64 0]) ∧ SlI w' w.heap.size w'.heap.size D N far ∧ DistIs (srcE [(ini : Int)]) (arcE true es) N far ∧ Below w.heap.size w w' := by
  have hB := h.box (c := c) (d := d)
  obtain ⟨w1, hw1⟩ : ∃ w1, w1 = w.alloc (ltsC N ini A n c B m d) := ⟨_, rfl⟩
  rw [← hw1] at hB
  have he1 := he.below hB.bel (Nat.le_refl _)
  have q1 := hide (hB.sys.valid c d he1)
  have b0 := hB.box.c0
  have b1 := hB.box.c1
  have b2 := hB.box.c2
  have b3 := hB.box.c3
  replace hB := hide hB
  clear h he he1
  go_enter Tryz.func16, Tryz.ntmps16
  go_upto_region 1 with fail
  rw [← show w1 = w.alloc (.cells #[.int .i64 (N : Int), .int .i64 (ini : Int), .slice A n c, .slice B m d] 27) from hw1]
  replace hw1 := hide hw1
  go_wp2_with fail
  refine q1.out.mono ?_
  rintro e w2 ⟨rfl, hb2⟩
  have hB2 := hide (hB.out.below hb2)
  clear q1 b0 b1 b2 b3 hb2
  have b0 := hB2.out.box.c0
  have b1 := hB2.out.box.c1
  have b2 := hB2.out.box.c2
  have b3 := hB2.out.box.c3
  obtain ⟨⟨hN1, hN2⟩, hini⟩ := hB2.out.sys.bounds
  have hm := hB2.out.sys.many.1
  have hbA := (Below.refl w2.heap.size w2).alloc (Nat.le_refl _) (.cells #[.int .i64 (ini : Int)] 2)
  have hS3 := hB2.out.sys.below hbA (Nat.le_refl _)
  have q2 := hide (distancesF_calls N (ini : Int) (.slice A n c) B m d (some ⟨w2.heap.size, 0, none⟩) 1 1 es [(ini : Int)] (w2.alloc (.cells #[.int .i64 (ini : Int)] 2)) _ _ _ _ hS3.se (Sl.lit1' (f := iv) w2 2 (ini : Int) #[.int .i64 (ini : Int)] rfl 1 _ rfl) (by omega) (by omega) hN1 hN2 hB2.out.sys.ends (fun v hv => by rw [List.mem_singleton.1 hv]; omega))
  have hbB := hide (hB2.out.bel.trans (hbA.mono hB2.out.bel.size))
  clear hbA hS3
  go_wp2_with fail
  refine q2.out.mono ?_
  rintro e w3 ⟨D, cD, rfl, hD, hdist, hb3⟩
  have hbF := hide (hbB.out.trans (hb3.mono hbB.out.size))
  have hD3 := hide (hD.more hbB.out.size (Nat.le_refl _))
  replace hdist := hide hdist
  clear q2 hD hb3
  go_wp2_with fail
  go_ret2
  exact ⟨D, cD, _, rfl, hD3.out, hdist.out, hbF.out⟩

set_option maxRecDepth 100000 in
theorem isStateA_calls (N : Nat) (s1 : Int) (A : Option Addr) (n c : Nat) (B : Option Addr) (m d : Nat) (k : Int) (hN : N ≤ 1000) (w : World) :
    Calls Tryz.prog 62 #[.agg #[.int .i64 (N : Nat), .int .i64 s1, .slice A n c, .slice B m d], .int .i64 k] w fun e w' => e = .returned (.bool (inB k 0 ((N : Int) - 1))) ∧ Below w.heap.size w w' := by
  have q := hide (fun W => within_calls k 0 ((N : Int) - 1) W)
  have hb : Below w.heap.size w (w.alloc (.cells #[.int .i64 (N : Nat), .int .i64 s1, .slice A n c, .slice B m d] 27)) := (Below.refl _ _).alloc (Nat.le_refl _) _
  have hw : IntKind.i64.wrap ((N : Int) - 1) = (N : Int) - 1 := IntWalk.i64_in _ (by omega)
  replace hb := hide hb
  go_enter Tryz.func62, Tryz.ntmps62
  go_wp2_with (first | (go_at_call 61; (with_reducible refine (q.out _).mono ?_); rintro e w' ⟨rfl, rfl⟩))
  go_ret
  exact ⟨rfl, hb.out⟩

set_option maxRecDepth 100000 in
set_option maxHeartbeats 1600000 in
theorem statesOk_calls (h : SysA w N ini A n B m ls es) (c d : Nat) (T : Option Addr) (cT y : Nat) (hT : SlI w 0 w.heap.size T 1 [(y : Int)]) (hy : y < N) :
    Calls Tryz.prog 37 #[.agg #[.int .i64 (N : Int), .int .i64 (ini : Int), .slice A n c, .slice B m d], .slice T 1 cT] w fun e w' => e = .returned (.bool true) ∧ Below w.heap.size w w' := by
  have hB := h.box (c := c) (d := d)
  obtain ⟨w1, hw1⟩ : ∃ w1, w1 = w.alloc (ltsC N ini A n c B m d) := ⟨_, rfl⟩
  rw [← hw1] at hB
  have hbn := hB.sys.bounds
  have hT1 := hide (hT.below hB.bel (.inr (Nat.le_refl _)))
  replace hB := hide hB
  have hz1 := hB.out.bel.size
  clear h hT
  go_enter Tryz.func37, Tryz.ntmps37
  go_upto_region 1 with fail
  rw [← show w1 = w.alloc (.cells #[.int .i64 (N : Int), .int .i64 (ini : Int), .slice A n c, .slice B m d] 27) from hw1]
  replace hw1 := hide hw1
  go_wp2_with fail
  go_loopw [9] (fun i wr => ∃ k : Nat, k ≤ 1 ∧ i = .int .i64 (k : Nat) ∧ Hid (Below w1.heap.size w1 wr)) (fun i _ => 1 - (intOf i).toNat)
  case atStart => exact ⟨0, Nat.zero_le _, rfl, Below.refl _ _⟩
  case round =>
    obtain ⟨k, hk, rfl, hb⟩ := hrel
    by_cases hlt : k < 1
    · obtain rfl : k = 0 := by omega
      obtain ⟨gT, oT, x, rfl, -, -, -, hx, cx, -⟩ := SlI.get (hT1.out.below hb.out (.inr (Nat.le_refl _))) hlt
      obtain rfl : (y : Int) = x := by simpa using hx
      rw [Nat.add_zero] at cx
      have hBr := hide (hB.out.below hb.out)
      have b0 := hBr.out.box.c0
      have b1 := hBr.out.box.c1
      have b2 := hBr.out.box.c2
      have b3 := hBr.out.box.c3
      have qI := isStateA_calls N (ini : Int) A n c B m d (y : Int) (by omega) wr
      rw [inB_true.2 (show (0 : Int) ≤ (y : Int) ∧ (y : Int) ≤ (N : Int) - 1 by omega)] at qI
      replace qI := hide qI
      clear hx
      go_wp2_with fail
      refine qI.out.mono ?_
      rintro e w2 ⟨rfl, hb2⟩
      have hb2' := hide (hb.out.trans (hb2.mono hb.out.size))
      replace hb2 := hide hb2
      clear qI b0 b1 b2 b3 cx
      go_wp2_with fail
      go_roundw
      case rel => exact ⟨1, Nat.le_refl _, by go_num, hb2'.out⟩
      case measure => simp [intOf]
    · obtain rfl : k = 1 := by omega
      have hbF := hide (hB.out.bel.trans (hb.out.mono hz1))
      go_wp2_with fail
      go_ret
      exact ⟨rfl, hbF.out⟩

set_option maxRecDepth 100000 in
set_option maxHeartbeats 1600000 in
theorem shortestPath_calls (h : SysA w N ini A n B m ls es) (c d : Nat) (he : Env w) (T : Option Addr) (cT y : Nat) (hT : SlI w 0 w.heap.size T 1 [(y : Int)]) (hy : y < N) :
    Calls Tryz.prog 17 #[.agg #[.int .i64 (N : Int), .int .i64 (ini : Int), .slice A n c, .slice B m d], .slice T 1 cT] w fun e w' => ∃ (dd : Int) (left : List Int), DistIs (srcE [(y : Int)]) (arcE false es) N left ∧ left[ini]? = some dd ∧ Below w.heap.size w w' ∧
      ((dd < 0 ∧ e = .returned (.tuple #[.slice none 0 0, .int .i64 3])) ∨ (0 ≤ dd ∧ ∃ Q q cq p, e = .returned (.tuple #[.slice Q q cq, .int .i64 0]) ∧ SlI w' w.heap.size w'.heap.size Q q p ∧ (q : Int) = dd ∧ WayE es ini p y)) := by
  have hB := h.box (c := c) (d := d)
  obtain ⟨w1, hw1⟩ : ∃ w1, w1 = w.alloc (ltsC N ini A n c B m d) := ⟨_, rfl⟩
  rw [← hw1] at hB
  have he1 := he.below hB.bel (Nat.le_refl _)
  have q1 := hide (hB.sys.valid c d he1)
  have hT1 := hide (hT.below hB.bel (.inr (Nat.le_refl _)))
  have b0 := hB.box.c0
  have b1 := hB.box.c1
  have b2 := hB.box.c2
  have b3 := hB.box.c3
  obtain ⟨⟨hN1, hN2⟩, hini⟩ := hB.sys.bounds
  have hm := hB.sys.many.1
  replace hB := hide hB
  clear h he he1 hT
  go_enter Tryz.func17, Tryz.ntmps17
  go_upto_region 1 with fail
  rw [← show w1 = w.alloc (.cells #[.int .i64 (N : Int), .int .i64 (ini : Int), .slice A n c, .slice B m d] 27) from hw1]
  replace hw1 := hide hw1
  go_wp2_with fail
  refine q1.out.mono ?_
  rintro e w2 ⟨rfl, hb2⟩
  have hB2 := hide (hB.out.below hb2)
  have hT2 := hide ((hT1.out.below hb2 (.inr (Nat.le_refl _))).here')
  replace hb2 := hide hb2
  clear q1 b0 b1 b2 b3
  have b0 := hB2.out.box.c0
  have b1 := hB2.out.box.c1
  have b2 := hB2.out.box.c2
  have b3 := hB2.out.box.c3
  have q2 := hide (statesOk_calls hB2.out.sys c d T cT y hT2.out hy)
  go_wp2_with fail
  refine q2.out.mono ?_
  rintro e w3 ⟨rfl, hb3⟩
  have hB3 := hide (hB2.out.below hb3)
  have hT3 := hide ((hT2.out.below hb3 (.inr (Nat.le_refl _))).here')
  replace hb3 := hide hb3
  clear q2 b0 b1 b2 b3
  have b0 := hB3.out.box.c0
  have b1 := hB3.out.box.c1
  have b2 := hB3.out.box.c2
  have b3 := hB3.out.box.c3
  have q3 := hide (shortest_calls N ini A n c B m d T cT es y w3 _ _ _ _ hB3.out.sys.se hT3.out (by omega) hN1 hN2 hini hy hB3.out.sys.ends (fun left hl => by
    intro dd hdd
    have := dist_top hl hB3.out.sys.ends hy hdd
    omega))
  go_wp2_with fail
  refine q3.out.mono ?_
  rintro e w4 ⟨dd, left, hdist, hdd, hb4, hc⟩
  have hbF := hide (hB3.out.bel.trans (hb4.mono hB3.out.bel.size))
  have hzF := hB3.out.bel.size
  rcases hc with ⟨hneg, rfl⟩ | ⟨hpos, Q, q, cq, p, rfl, hp, hq, hW⟩
  · replace hdist := hide hdist
    replace hdd := hide hdd
    replace hneg := hide hneg
    clear q3 hb4
    go_wp2_with fail
    go_ret2
    exact ⟨dd, left, hdist.out, hdd.out, hbF.out, .inl ⟨hneg.out, rfl⟩⟩
  · have hp2 := hide (hp.more hzF (Nat.le_refl _))
    replace hdist := hide hdist
    replace hdd := hide hdd
    replace hpos := hide hpos
    replace hq := hide hq
    replace hW := hide hW
    clear q3 hb4 hp
    go_wp2_with fail
    go_ret2
    exact ⟨dd, left, hdist.out, hdd.out, hbF.out, .inr ⟨hpos.out, Q, q, cq, p, rfl, hp2.out, hq.out, hW.out⟩⟩
end
end Go.Proofs.YtcdhgabcajehnaaGreatDoor

namespace Go.Proofs.YtcdhgabcajehnaaGreatDoor
open Go.ChangeShapes Go.WideShapes Go.ChangeAt Go.RowKit
set_option linter.unusedVariables false

set_option maxRecDepth 100000 in
theorem indexFuncS_calls (F : FuncId) (caps : Array Value) (G : ByteArray → Bool) (A : Option Addr) (n c : Nat) (l : List ByteArray) (w : World) (lo hi : Nat) (h : SlS w lo hi A n l) (hn : n ≤ 1048576)
    (hF : ∀ (v : Value) (W : World), Sem.run Tryz.prog (callFunc F (#[v] ++ caps)) W = .ok (.enter F (#[v] ++ caps)) W)
    (hcl : ∀ (v : ByteArray) (W : World), v ∈ l → Below w.heap.size w W → Calls Tryz.prog F (#[.string v] ++ caps) W (Says (G v) W)) :
    Calls Tryz.prog 111 #[.slice A n c, .func (.func F) #[] caps] w fun e w' => ∃ i : Int, e = .returned (.int .i64 i) ∧ decide (0 ≤ i) = l.any G ∧ Below w.heap.size w w' := by
  have hlen := hide h.len
  replace hcl := hide hcl
  go_enter Tryz.func111, Tryz.ntmps111
  go_wp2
  go_loopw [8] (fun i wr => ∃ k : Nat, k ≤ n ∧ i = .int .i64 k ∧ Below w.heap.size w wr ∧ Hid ((l.take k).any G = false)) (fun i _ => n - (intOf i).toNat)
  case atStart => exact ⟨0, Nat.zero_le _, rfl, Below.refl _ _, rfl⟩
  case round =>
    obtain ⟨k, hk, rfl, hb, ha⟩ := hrel
    by_cases hlt : k < n
    · obtain ⟨b, off, x, rfl, g1, g2, g3, hx, c0, -⟩ := SlS.get h hlt
      replace c0 := (hb.cell (p := ⟨b, off + k, none⟩) g3).trans c0
      have hc := hcl.out x wr (List.mem_of_getElem? hx) hb
      replace hx := hide hx
      clear h hcl
      by_cases hg : G x = true
      · rw [hg] at hc
        replace hc := hide hc
        have hy := hide (any_hit hx.out hg)
        clear hg
        go_wp2_with fail
        refine hc.out.mono ?_
        rintro e w1 ⟨rfl, hb1⟩
        go_wp2_with fail
        go_ret
        exact ⟨_, rfl, by rw [hy.out]; simp, hb.trans (hb1.mono hb.size)⟩
      · replace hg := Bool.eq_false_iff.2 hg
        rw [hg] at hc
        replace hc := hide hc
        have hy := hide (any_take_succ ha.out hx.out hg)
        clear hg
        go_wp2_with fail
        refine hc.out.mono ?_
        rintro e w1 ⟨rfl, hb1⟩
        go_wp2_with fail
        go_roundw
        case rel => exact ⟨k + 1, by omega, by go_num, hb.trans (hb1.mono hb.size), hy⟩
        case measure => simp [intOf]; omega
    · have hkn : k = n := by omega
      subst hkn
      clear hcl
      go_wp2
      go_ret
      have hy := ha.out
      rw [List.take_of_length_le (by rw [hlen.out]; exact Nat.le_refl _)] at hy
      exact ⟨_, rfl, by rw [hy]; decide, hb⟩

theorem containsFuncS_calls (F : FuncId) (caps : Array Value) (G : ByteArray → Bool) (A : Option Addr) (n c : Nat) (l : List ByteArray) (w : World) (lo hi : Nat) (h : SlS w lo hi A n l) (hn : n ≤ 1048576)
    (hF : ∀ (v : Value) (W : World), Sem.run Tryz.prog (callFunc F (#[v] ++ caps)) W = .ok (.enter F (#[v] ++ caps)) W)
    (hcl : ∀ (v : ByteArray) (W : World), v ∈ l → Below w.heap.size w W → Calls Tryz.prog F (#[.string v] ++ caps) W (Says (G v) W)) :
    Calls Tryz.prog 79 #[.slice A n c, .func (.func F) #[] caps] w (Says (l.any G) w) := by
  have q := hide (indexFuncS_calls F caps G A n c l w lo hi h hn hF hcl)
  clear h hF hcl
  go_enter Tryz.func79, Tryz.ntmps79
  go_wp2_with fail
  refine q.out.mono ?_
  rintro e w1 ⟨i, rfl, hi, hb⟩
  replace hi := hide hi
  go_wp2_with fail
  go_ret
  exact ⟨ret_b hi.out.symm, hb⟩

end Go.Proofs.YtcdhgabcajehnaaGreatDoor

namespace Go.Proofs.YtcdhgabcajehnaaGreatDoor
open Go.ChangeShapes Go.WideShapes Go.ChangeAt Go.RowKit Go.Sort
set_option linter.unusedVariables false

set_option maxRecDepth 100000 in
theorem indexI_calls (v : Int) (A : Option Addr) (n c : Nat) (l : List Int) (w : World) (lo hi : Nat) (h : SlI w lo hi A n l) (hn : n ≤ 1048576) :
    Calls Tryz.prog 88 #[.slice A n c, .int .i64 v] w fun e w' => ∃ i : Int, e = .returned (.int .i64 i) ∧ decide (0 ≤ i) = l.any (fun x => decide (x = v)) ∧ w = w' := by
  have hlen := hide h.len
  go_enter Tryz.func88, Tryz.ntmps88
  go_wp2
  go_loop [8] (fun i => ∃ k : Nat, k ≤ n ∧ i = .int .i64 k ∧ Hid ((l.take k).any (fun x => decide (x = v)) = false)) (fun i => n - (intOf i).toNat)
  case atStart => exact ⟨0, Nat.zero_le _, rfl, rfl⟩
  case round =>
    obtain ⟨k, hk, rfl, ha⟩ := hrel
    by_cases hlt : k < n
    · obtain ⟨b, off, x, rfl, g1, g2, g3, hx, c0, -⟩ := SlI.get h hlt
      clear h
      by_cases hq : x = v
      · have hy := hide (any_hit (G := fun x => decide (x = v)) hx (decide_eq_true hq))
        subst hq
        clear hx
        go_wp2
        go_ret
        exact ⟨_, rfl, by rw [hy.out]; simp, rfl⟩
      · have hy := hide (any_take_succ ha.out hx (decide_eq_false hq))
        have hne : (v == x) = false := by rw [beq_eq_false_iff_ne]; exact fun e => hq e.symm
        clear hx hq
        go_wp2
        go_round
        case rel => exact ⟨k + 1, by omega, by go_num, hy⟩
        case measure => simp [intOf]; omega
    · have hkn : k = n := by omega
      subst hkn
      clear h
      go_wp2
      go_ret
      have hy := ha.out
      rw [List.take_of_length_le (by rw [hlen.out]; exact Nat.le_refl _)] at hy
      exact ⟨_, rfl, by rw [hy]; decide, rfl⟩
theorem containsI_calls (v : Int) (A : Option Addr) (n c : Nat) (l : List Int) (w : World) (lo hi : Nat) (h : SlI w lo hi A n l) (hn : n ≤ 1048576) :
    Calls Tryz.prog 81 #[.slice A n c, .int .i64 v] w fun e w' => e = .returned (.bool (l.any (fun x => decide (x = v)))) ∧ w = w' := by
  have q := hide (indexI_calls v A n c l w lo hi h hn)
  clear h
  go_enter Tryz.func81, Tryz.ntmps81
  go_wp2_with fail
  refine q.out.mono ?_
  rintro e w1 ⟨i, rfl, hi, rfl⟩
  replace hi := hide hi
  go_wp2_with fail
  go_ret
  exact ⟨ret_b hi.out.symm, rfl⟩

end Go.Proofs.YtcdhgabcajehnaaGreatDoor

namespace Go.Proofs.YtcdhgabcajehnaaGreatDoor
open Go.ChangeShapes Go.WideShapes Go.ChangeAt Go.RowKit Go.Sort
set_option linter.unusedVariables false
set_option linter.unusedSimpArgs false

theorem str_list_ne2 {a b : ByteArray} (h : ¬ a = b) : (b.toList == a.toList) = false ∧ ¬ b.toList = a.toList := by
  have h1 := str_neq (a := b) (b := a) (fun e => h e.symm)
  exact ⟨h1, fun e => by rw [e] at h1; simp at h1⟩

/-- The edge leads from one of the states by the label. -/
def hitS (ls : List ByteArray) (lab : ByteArray) (S : List Int) (e : Ed) : Bool := S.any (fun x => decide (x = e.1)) && (match ls[e.2.1.toNat]? with | some r => decide (r = lab) | none => false)
def folS (es : List Ed) (ls : List ByteArray) (lab : ByteArray) (S : List Int) : List Int := (es.filter (hitS ls lab S)).map (·.2.2)
def folV (es : List Ed) (ls : List ByteArray) (lab : ByteArray) (S : List Int) : List Int := Lib.compact (sortI (folS es ls lab S))
theorem hitS_at {ls : List ByteArray} {lab r : ByteArray} {S : List Int} {f lb tg : Int} (hr : ls[lb.toNat]? = some r) : hitS ls lab S (f, lb, tg) = (S.any (fun x => decide (x = f)) && decide (r = lab)) := by
  unfold hitS
  simp only [hr]
theorem folS_succ {es : List Ed} {k : Nat} {e : Ed} {ls : List ByteArray} {lab : ByteArray} {S : List Int} (hx : es[k]? = some e) : folS (es.take (k + 1)) ls lab S = folS (es.take k) ls lab S ++ (if hitS ls lab S e then [e.2.2] else []) := by
  unfold folS
  rw [List.take_add_one, hx, List.filter_append, List.map_append]
  congr 1
  by_cases h : hitS ls lab S e = true <;> simp [h]
theorem folS_len (es : List Ed) (ls : List ByteArray) (lab : ByteArray) (S : List Int) : (folS es ls lab S).length ≤ es.length := by
  unfold folS
  rw [List.length_map]
  exact List.length_filter_le _ _
theorem folV_len (es : List Ed) (ls : List ByteArray) (lab : ByteArray) (S : List Int) : (folV es ls lab S).length ≤ es.length :=
  Nat.le_trans (compact_len _) (by rw [sortI_len]; exact folS_len es ls lab S)
theorem folV_mem {es : List Ed} {ls : List ByteArray} {lab : ByteArray} {S : List Int} {v : Int} : v ∈ folV es ls lab S ↔ ∃ e ∈ es, e.1 ∈ S ∧ ls[e.2.1.toNat]? = some lab ∧ e.2.2 = v := by
  unfold folV
  rw [compact_mem, sortI_mem]
  unfold folS
  rw [List.mem_map]
  constructor
  · rintro ⟨e, he, rfl⟩
    obtain ⟨h1, h2⟩ := List.mem_filter.1 he
    unfold hitS at h2
    rw [Bool.and_eq_true, List.any_eq_true] at h2
    obtain ⟨⟨x, hx, hxe⟩, h3⟩ := h2
    refine ⟨e, h1, by rw [← of_decide_eq_true hxe]; exact hx, ?_, rfl⟩
    revert h3
    cases ls[e.2.1.toNat]? with
    | none => intro h; cases h
    | some r => intro h; rw [of_decide_eq_true h]
  · rintro ⟨e, h1, h2, h3, rfl⟩
    refine ⟨e, List.mem_filter.2 ⟨h1, ?_⟩, rfl⟩
    unfold hitS
    rw [Bool.and_eq_true, List.any_eq_true, h3]
    exact ⟨⟨e.1, h2, decide_eq_true rfl⟩, decide_eq_true rfl⟩

theorem Own.grown_below {α : Type} {size : Nat} {f : α → List Value} {w w' : World} {base n c B : Nat} {e : TypeId} {A : Option Addr} {l : List α} (h : Own size f w base e A n c l) (hg : w.grownBy w' (Value.slice A n c).ownBlock) (hB : B ≤ base) (hb : base ≤ w.heap.size) : Below B w w' :=
  (Below.refl _ _).grown hg (by omega) fun k hk => Nat.le_trans hB (h.lt k hk).1

set_option maxRecDepth 100000 in
set_option maxHeartbeats 3200000 in
theorem followS_calls (s0 s1 : Int) (A2 : Option Addr) (n2 k2 : Nat) (A3 : Option Addr) (n3 k3 : Nat) (A1 : Option Addr) (n1 c1 : Nat) (S : List Int) (lab : ByteArray) (ls : List ByteArray) (es : List Ed) (w : World) (lo hi lo1 hi1 : Nat)
    (t2 : SlS w lo hi A2 n2 ls) (t3 : SlE w lo hi A3 n3 es) (t1 : SlI w lo1 hi1 A1 n1 S) (hS : n1 ≤ 1048576) (hes : n3 ≤ 1048576) (hval : ltsV (s0, s1, ls, es) = true) :
    Calls Tryz.prog 44 #[.agg #[.int .i64 s0, .int .i64 s1, .slice A2 n2 k2, .slice A3 n3 k3], .slice A1 n1 c1, .string lab] w fun e w' => ∃ A n c, e = .returned (.slice A n c) ∧ Own 1 iv w' w.heap.size 2 A n c (folV es ls lab S) ∧ Below w.heap.size w w' := by
  have l2 := hide t2.len
  have l3 := hide t3.len
  have hlts := hide hval
  have hW0 := hide (show Below w.heap.size w (w.alloc (.cells #[.int .i64 s0, .int .i64 s1, .slice A2 n2 k2, .slice A3 n3 k3] 27)) from (Below.refl _ _).alloc (Nat.le_refl _) _)
  have kE := heap_alloc_new w (.cells #[.int .i64 s0, .int .i64 s1, .slice A2 n2 k2, .slice A3 n3 k3] 27)
  have hbt : w.heap.size < (w.alloc (.cells #[.int .i64 s0, .int .i64 s1, .slice A2 n2 k2, .slice A3 n3 k3] 27)).heap.size := by rw [World.size_alloc]; omega
  have hE := hide elem_int
  replace t1 := hide t1
  replace t2 := hide t2
  replace t3 := hide t3
  clear hval
  go_enter Tryz.func44, Tryz.ntmps44
  go_upto_region 3 with fail
  have c2 : (w.alloc (.cells #[.int .i64 s0, .int .i64 s1, .slice A2 n2 k2, .slice A3 n3 k3] 27)).cell? ⟨w.heap.size, 2, none⟩ = some (.slice A2 n2 k2) := (cell_of_row _ _ 2 _ _ (0, 0) kE).trans rfl
  have c3 : (w.alloc (.cells #[.int .i64 s0, .int .i64 s1, .slice A2 n2 k2, .slice A3 n3 k3] 27)).cell? ⟨w.heap.size, 3, none⟩ = some (.slice A3 n3 k3) := (cell_of_row _ _ 3 _ _ (0, 0) kE).trans rfl
  clear kE
  generalize hWW : (w.alloc (.cells #[.int .i64 s0, .int .i64 s1, .slice A2 n2 k2, .slice A3 n3 k3] 27)) = W0 at *
  clear hWW
  have hbt1 : w.heap.size + 1 ≤ W0.heap.size := hbt
  go_loopw [7, 13] (fun o i wr => ∃ k m c A, k ≤ n3 ∧ m ≤ k ∧ o = .slice A m c ∧ i = .int .i64 (k : Nat) ∧ Hid (Own 1 iv wr W0.heap.size 2 A m c (folS (es.take k) ls lab S)) ∧ Below W0.heap.size W0 wr) (fun _ i _ => n3 - (intOf i).toNat)
  case atStart => exact ⟨0, 0, 0, none, Nat.zero_le _, Nat.zero_le _, rfl, rfl, Own.nil_ _ _ _, Below.refl _ _⟩
  case round =>
    obtain ⟨k, m, c, A, hk, hm, rfl, rfl, hown, hb⟩ := hrel
    have hz := hb.size
    have hwb := hW0.out.trans (hb.mono (by omega))
    have y2 := (hb.cell (p := ⟨w.heap.size, 2, none⟩) hbt).trans c2
    have y3 := (hb.cell (p := ⟨w.heap.size, 3, none⟩) hbt).trans c3
    clear c2 c3
    by_cases hlt : k < n3
    · obtain ⟨b, off, f, lb, tg, rfl, -, -, g3, hx, p0, p1, p2, -, -, -⟩ := SlE.get t3.out hlt
      replace p0 := (hwb.cell g3).trans p0
      replace p1 := (hwb.cell (p := ⟨b, off + k * 3 + 1, none⟩) g3).trans p1
      replace p2 := (hwb.cell (p := ⟨b, off + k * 3 + 2, none⟩) g3).trans p2
      have hed := edge_of hlts.out hx
      have hl0 : (0 : Int) ≤ lb := hed.2.2.1
      have hl1 : lb < (n2 : Int) := by have := hed.2.2.2; have := l2.out; omega
      obtain ⟨b2, off2, r, rfl, -, -, g32, hr, p3, -⟩ := SlS.get t2.out (show lb.toNat < n2 by omega)
      have hh := hitS_at (lab := lab) (S := S) (f := f) (tg := tg) hr
      have hsu := folS_succ (ls := ls) (lab := lab) (S := S) hx
      have hbE : Below wr.heap.size wr (wr.alloc (.cells #[.int .i64 f, .int .i64 lb, .int .i64 tg] 70)) := (Below.refl _ _).alloc (Nat.le_refl _) _
      have kE := heap_alloc_new wr (.cells #[.int .i64 f, .int .i64 lb, .int .i64 tg] 70)
      have hgw : w.heap.size < wr.heap.size := by omega
      have x2 := (hbE.cell (p := ⟨w.heap.size, 2, none⟩) hgw).trans y2
      have x3 := (hbE.cell (p := ⟨w.heap.size, 3, none⟩) hgw).trans y3
      have z0 : (wr.alloc (.cells #[.int .i64 f, .int .i64 lb, .int .i64 tg] 70)).cell? ⟨wr.heap.size, 0, none⟩ = some (.int .i64 f) := (cell_of_row _ _ 0 _ _ (0, 0) kE).trans rfl
      have z1 : (wr.alloc (.cells #[.int .i64 f, .int .i64 lb, .int .i64 tg] 70)).cell? ⟨wr.heap.size, 1, none⟩ = some (.int .i64 lb) := (cell_of_row _ _ 1 _ _ (0, 0) kE).trans rfl
      have z2 : (wr.alloc (.cells #[.int .i64 f, .int .i64 lb, .int .i64 tg] 70)).cell? ⟨wr.heap.size, 2, none⟩ = some (.int .i64 tg) := (cell_of_row _ _ 2 _ _ (0, 0) kE).trans rfl
      have hbw : Below w.heap.size w (wr.alloc (.cells #[.int .i64 f, .int .i64 lb, .int .i64 tg] 70)) := hwb.trans (hbE.mono hwb.size)
      have p3' := (hbw.cell (p := ⟨b2, off2 + lb.toNat, none⟩) g32).trans p3
      have hbB := hb.trans (hbE.mono hz)
      have hzB := hbB.size
      have qc := containsI_calls f A1 n1 c1 S _ lo1 hi1 (t1.out.below hbw (.inr (Nat.le_refl _))) hS
      replace hown := hide (hown.out.alloc (.cells #[.int .i64 f, .int .i64 lb, .int .i64 tg] 70))
      have hI0 : (0 : Int) ≤ (k : Int) := by omega
      have hI1 : (k : Int) < (n3 : Int) := by omega
      replace hbB := hide hbB
      clear hed t1 t2 t3 hwb hb hbE kE p3 hz hbw
      generalize hany : S.any (fun x => decide (x = f)) = an at *
      clear hany
      replace qc := hide qc
      go_upto_region 5 with fail
      clear p0 p1 p2 y2 y3 x3
      generalize hWE : (wr.alloc (.cells #[.int .i64 f, .int .i64 lb, .int .i64 tg] 70)) = WE at *
      generalize hbE : wr.heap.size = bE at *
      clear hWE hbE
      have hza : ∀ o, W0.heap.size ≤ (WE.alloc o).heap.size := fun o => by rw [World.size_alloc]; omega
      by_cases hrl : r = lab
      · subst hrl
        have hself : (r.toList == r.toList) = true := beq_self_eq_true _
        rw [hh, decide_eq_true rfl, Bool.and_true] at hsu
        cases an with
        | true =>
          rw [if_pos rfl] at hsu
          replace hsu := hide hsu
          clear hx hr hh
          go_wp2_with (first
            | (go_at_call 81; (with_reducible refine qc.out.mono ?_); rintro e w' ⟨rfl, rfl⟩)
            | (at_builtin; (with_reducible refine wpList_app rfl (.tmp 31) (.tmp 34) rfl hE.out flat_iv rfl (hown.out.alloc _) rfl (Sl.lit1' _ 2 tg _ rfl 1 _ ?c0) ?c1 (hza _) ?_); rotate_right; intro A5 c5 w5 hown5 hgr5 hb5 _))
          case c0 => rfl
          case c1 => omega
          have hb6 := (hbB.out.alloc hzB (.cells #[.int .i64 tg] 2)).trans hb5
          replace hown5 : Hid (Own 1 iv w5 W0.heap.size 2 A5 (m + 1) c5 (folS (es.take (k + 1)) ls r S)) := by show Own _ _ _ _ _ _ _ _ _; rw [hsu.out]; exact hown5
          go_roundw
          case rel => exact ⟨k + 1, m + 1, c5, A5, by omega, by omega, rfl, by go_num, hown5, hb6⟩
          case measure => simp [intOf]; omega
        | false =>
          replace hown : Hid (Own 1 iv WE W0.heap.size 2 A m c (folS (es.take (k + 1)) ls r S)) := by show Own _ _ _ _ _ _ _ _ _; rw [hsu]; simpa using hown.out
          clear hx hr hh hsu
          go_wp2_with (first
            | (go_at_call 81; (with_reducible refine qc.out.mono ?_); rintro e w' ⟨rfl, rfl⟩))
          go_roundw
          case rel => exact ⟨k + 1, m, c, A, by omega, by omega, rfl, by go_num, hown, hbB.out⟩
          case measure => simp [intOf]; omega
      · obtain ⟨hne1, hne2⟩ := str_list_ne2 (a := lab) (b := r) (fun e => hrl e.symm)
        rw [hh, decide_eq_false hrl, Bool.and_false] at hsu
        replace hown : Hid (Own 1 iv WE W0.heap.size 2 A m c (folS (es.take (k + 1)) ls lab S)) := by show Own _ _ _ _ _ _ _ _ _; rw [hsu]; simpa using hown.out
        clear hx hr hh hsu hrl
        go_wp2_with fail
        go_roundw
        case rel => exact ⟨k + 1, m, c, A, by omega, by omega, rfl, by go_num, hown, hbB.out⟩
        case measure => simp [intOf]; omega
    · have hkn : k = n3 := by omega
      have hall : es.take k = es := List.take_of_length_le (by rw [l3.out, hkn]; exact Nat.le_refl _)
      rw [hall] at hown
      have hf := folS_len es ls lab S
      have hm9 : m ≤ 1000000000 := by omega
      have q1 := hide (sortI_calls hown.out hm9)
      have hwz : W0.heap.size ≤ wr.heap.size := hz
      replace hb := hide hb
      replace hwb := hide hwb
      clear t1 t2 t3
      go_wp2_with fail
      refine q1.out.mono ?_
      rintro e w1 ⟨rfl, hs1, hg1⟩
      have hbs1 := hown.out.grown_below hg1 (Nat.le_refl _) hwz
      have q2 := hide (compactI_calls hs1 hm9)
      have hw1 : W0.heap.size ≤ w1.heap.size := Nat.le_trans hwz hbs1.size
      replace hs1 := hide hs1
      replace hbs1 := hide hbs1
      clear hg1
      go_wp2_with fail
      refine q2.out.mono ?_
      rintro e w2 ⟨rfl, hs2, hg2⟩
      have hbs2 := hide (hs1.out.grown_below hg2 (Nat.le_refl _) hw1)
      replace hs2 := hide hs2
      clear hg2
      go_wp2_with fail
      go_ret
      exact ⟨_, _, _, rfl, hs2.out.lower (by omega), hW0.out.trans (((hb.out.trans hbs1.out).trans hbs2.out).mono (by omega))⟩

end Go.Proofs.YtcdhgabcajehnaaGreatDoor

namespace Go.Proofs.YtcdhgabcajehnaaGreatDoor
open Go.ChangeShapes Go.WideShapes Go.ChangeAt Go.RowKit
set_option linter.unusedVariables false
set_option linter.unusedSimpArgs false

theorem grown_cell8 {w w' : World} {row : Option Nat} {q i : Nat} {v : Value} (h : w.grownBy w' row) (hq : q < w.heap.size) (hne : some q ≠ row) (hc : w.cell? ⟨q, i, none⟩ = some v) : w'.cell? ⟨q, i, none⟩ = some v :=
  (World.cell?_of_block (w := w) (by simpa using h.block q hq hne)).trans hc
section
variable {w : World} {N ini : Nat} {A : Option Addr} {n : Nat} {B : Option Addr} {m : Nat} {ls : List ByteArray} {es : List Ed}
set_option maxRecDepth 100000 in
theorem endOf1_calls (v : Int) (bt : Nat) (st ini : Int) (A : Option Addr) (n c : Nat) (B : Option Addr) (m d : Nat) (w : World) (hb : LtsBox w bt st ini A n c B m d) (hm : m ≤ 1000) :
    Calls Tryz.prog 40 #[.int .i64 v, .pointer (some ⟨bt, 0, none⟩)] w (Says (!inB v 0 ((m : Int) - 1)) w) := by
  have q := hide fun W => index_calls v m (by omega) W
  have b3 := hb.c3
  clear hb
  go_enter Tryz.func40, Tryz.ntmps40
  go_wp2_with (first | (go_at_call 41; (with_reducible refine (q.out _).mono ?_); rintro e w2 ⟨rfl, hb2⟩))
  go_ret
  exact ⟨rfl, by first | exact hb2 | (subst hb2; exact Below.refl _ _)⟩

set_option maxRecDepth 100000 in
set_option maxHeartbeats 3200000 in
theorem endOfPath_calls (h : SysA w N ini A n B m ls es) (c d : Nat) (he : Env w) (P : Option Addr) (q cp y : Nat) (p : List Int) (hP : SlI w 0 w.heap.size P q p) (hq : q ≤ 1000) (hW : WayE es ini p y) :
    Calls Tryz.prog 18 #[.agg #[.int .i64 (N : Int), .int .i64 (ini : Int), .slice A n c, .slice B m d], .slice P q cp] w fun e w' => e = .returned (.tuple #[.int .i64 (y : Int), .int .i64 0]) ∧ Below w.heap.size w w' := by
  have hB := h.box (c := c) (d := d)
  obtain ⟨w1, hw1⟩ : ∃ w1, w1 = w.alloc (ltsC N ini A n c B m d) := ⟨_, rfl⟩
  rw [← hw1] at hB
  have he1 := he.below hB.bel (Nat.le_refl _)
  have q1 := hide (hB.sys.valid c d he1)
  have hP1 := hide (hP.below hB.bel (.inr (Nat.le_refl _)))
  have hlp := hP.len
  have b0 := hB.box.c0
  have b1 := hB.box.c1
  have b2 := hB.box.c2
  have b3 := hB.box.c3
  obtain ⟨hm, -, -, hle, -⟩ := hB.sys.many
  have hrange := hide hW.range
  replace hB := hide hB
  replace hW := hide hW
  clear h he he1 hP
  go_enter Tryz.func18, Tryz.ntmps18
  go_upto_region 1 with fail
  rw [← show w1 = w.alloc (.cells #[.int .i64 (N : Int), .int .i64 (ini : Int), .slice A n c, .slice B m d] 27) from hw1]
  replace hw1 := hide hw1
  go_wp2_with fail
  refine q1.out.mono ?_
  rintro e w2 ⟨rfl, hb2⟩
  have hB2 := hide (hB.out.below hb2)
  have hP2 := hide ((hP1.out.below hb2 (.inr (Nat.le_refl _))).here')
  replace hb2 := hide hb2
  clear q1 b0 b1 b2 b3
  have qC := containsFuncM_calls 40 #[.pointer (some ⟨w.heap.size, 0, none⟩)] (fun v => !inB v 0 ((m : Int) - 1)) P q cp p w2 _ _ hP2.out (by omega)
    (fun v W => by kernel_rfl)
    (fun v hv W hWb => endOf1_calls v w.heap.size (N : Int) (ini : Int) A n c B m d W (hB2.out.below hWb).box (by omega))
  rw [show p.any (fun v => !inB v 0 ((m : Int) - 1)) = false from by
    rw [List.any_eq_false]
    intro v hv
    have := hrange.out v hv
    rw [inB_true.2 (by omega)]
    decide] at qC
  replace qC := hide qC
  go_wp2_with fail
  refine qC.out.mono ?_
  rintro e w3 ⟨rfl, hb3⟩
  have hB3 := hide (hB2.out.below hb3)
  have hP3 := hide ((hP2.out.below hb3 (.inr (Nat.le_refl _))).here')
  replace hb3 := hide hb3
  clear qC
  have b1 := hB3.out.box.c1
  go_wp2_with fail
  clear b1
  go_loopw [6, 21] (fun v6 v21 wr => ∃ (k x : Nat), k ≤ q ∧ v21 = .int .i64 (k : Nat) ∧ v6 = .int .i64 (x : Nat) ∧ Hid (WayE es x (p.drop k) y) ∧ Hid (Below w3.heap.size w3 wr)) (fun _ v _ => q - (intOf v).toNat)
  case atStart => exact ⟨0, ini, Nat.zero_le _, rfl, rfl, hW.out, Below.refl _ _⟩
  case round =>
    obtain ⟨k, x, hk, rfl, rfl, hWk, hb⟩ := hrel
    by_cases hlt : k < q
    · obtain ⟨gP, oP, i, rfl, -, -, -, hi, ci, -⟩ := SlI.get (hP3.out.below hb.out (.inr (Nat.le_refl _))) hlt
      obtain ⟨⟨f, lb, tg⟩, z, h0, hei, h1, h2, hW2⟩ := hWk.out.step hi
      (try dsimp only at h1 h2)
      subst h1 h2
      obtain ⟨i, rfl⟩ : ∃ j : Nat, i = (j : Int) := ⟨i.toNat, by omega⟩
      rw [Int.toNat_natCast] at hei
      have him : i < m := by have := (List.getElem?_eq_some_iff.1 hei).1; omega
      have hBr := hide (hB3.out.below hb.out)
      obtain ⟨gB, oB, f', lb', t', rfl, -, -, -, hx, x0, x1, x2, -⟩ := SlE.get hBr.out.sys.se him
      rw [hei] at hx
      cases hx
      have b3 := hBr.out.box.c3
      have k0 : (0 : Int) ≤ (k : Int) := by omega
      have k1 : (k : Int) < (q : Int) := by omega
      have i0 : (0 : Int) ≤ (i : Int) := by omega
      have i1 : (i : Int) < (m : Int) := by omega
      have g1 : ((x : Int) == (x : Int)) = true := by simp
      replace hei := hide hei
      replace hi := hide hi
      replace hW2 := hide hW2
      clear hWk
      go_wp2_with fail
      go_roundw
      case rel => exact ⟨k + 1, z, by omega, by go_num, rfl, hW2.out, hb.out⟩
      case measure => simp [intOf]; omega
    · obtain rfl : k = q := by omega
      have hxy := hWk.out.done (by omega)
      subst hxy
      have hbF := hide (hB3.out.bel.trans (hb.out.mono hB3.out.bel.size))
      go_wp2_with fail
      go_ret2
      exact ⟨rfl, hbF.out⟩

theorem plab_len (es : List Ed) (ls : List ByteArray) (l : List Int) : (plabF es ls l).length = l.length := by simp [plabF]
theorem plab_succ {es : List Ed} {ls : List ByteArray} {l : List Int} {k i : Nat} {f lb t : Int} {s : ByteArray} (hi : l[k]? = some (i : Int)) (he : es[i]? = some (f, lb, t)) (hs : ls[lb.toNat]? = some s) : plabF es ls (l.take (k + 1)) = plabF es ls (l.take k) ++ [s] := by
  unfold plabF
  rw [List.take_add_one, hi, List.map_append]
  congr 1
  show [_] = [s]
  simp only [Int.toNat_natCast, he, hs, Option.getD_some]
set_option maxRecDepth 100000 in
set_option maxHeartbeats 6400000 in
theorem pathLabels1_calls (h : SysA w N ini A n B m ls es) (c d : Nat) (P : Option Addr) (q cp y : Nat) (p : List Int) (hP : SlI w 0 w.heap.size P q p) (hq : q ≤ 1000) (hr : ∀ i, i ∈ p → 0 ≤ i ∧ i < (es.length : Int)) :
    Calls Tryz.prog 42 #[.agg #[.int .i64 (N : Int), .int .i64 (ini : Int), .slice A n c, .slice B m d], .slice P q cp] w fun e w' => ∃ Q cq, e = .returned (.slice Q q cq) ∧ SlS w' w.heap.size w'.heap.size Q q (plabF es ls p) ∧ Below w.heap.size w w' := by
  have hEs := hide elem_str
  have hB := h.box (c := c) (d := d)
  obtain ⟨w1, hw1⟩ : ∃ w1, w1 = w.alloc (ltsC N ini A n c B m d) := ⟨_, rfl⟩
  rw [← hw1] at hB
  obtain ⟨hm, hn12, hn1, hle, hll⟩ := hB.sys.many
  obtain ⟨gA, oA, rfl, -, hgA, -⟩ := h.ss.at_ hn1
  have hP1 := hide (hP.below hB.bel (.inr (Nat.le_refl _)))
  have hlp := hP.len
  have hlt0 := hB.lt
  have hseT := h.se
  replace hB := hide hB
  clear hP
  go_enter Tryz.func42, Tryz.ntmps42
  go_upto_region 1 with fail
  rw [← show w1 = w.alloc (.cells #[.int .i64 (N : Int), .int .i64 (ini : Int), .slice (some ⟨gA, oA, none⟩) n c, .slice B m d] 27) from hw1]
  replace hw1 := hide hw1
  go_wp2_with fail
  go_loopw [5, 10] (fun v5 v10 wr => ∃ (k : Nat) (A5 : Option Addr) (c5 : Nat), k ≤ q ∧ v10 = .int .i64 (k : Nat) ∧ v5 = .slice A5 k c5 ∧ Hid (Own 1 strv wr w1.heap.size 9 A5 k c5 (plabF es ls (p.take k))) ∧ Hid (Below w1.heap.size w1 wr)) (fun _ v _ => q - (intOf v).toNat)
  case atStart => exact ⟨0, none, 0, Nat.zero_le _, rfl, rfl, Own.nil_ _ _ _, Below.refl _ _⟩
  case round =>
    obtain ⟨k, A5, c5, hk, rfl, rfl, hO, hb⟩ := hrel
    by_cases hlt : k < q
    · obtain ⟨gP, oP, i, rfl, -, -, -, hi, ci, -⟩ := SlI.get (hP1.out.below hb.out (.inr (Nat.le_refl _))) hlt
      have hir := hr i (List.mem_of_getElem? hi)
      obtain ⟨i, rfl⟩ : ∃ j : Nat, i = (j : Int) := ⟨i.toNat, by omega⟩
      have him : i < m := by omega
      have hBr := hide (hB.out.below hb.out)
      obtain ⟨gB, oB, f, l, t, rfl, -, -, hgBs, hx, x0, x1, x2, -⟩ := SlE.get hBr.out.sys.se him
      obtain ⟨gB2, oB2, eB, -, hgB, -⟩ := hseT.at_ (show 0 < m by omega)
      cases eB
      have hlab := hBr.out.sys.labs _ (List.mem_of_getElem? hx)
      (try dsimp only at hlab)
      obtain ⟨l, rfl⟩ : ∃ j : Nat, l = (j : Int) := ⟨l.toNat, by omega⟩
      have hln : l < n := by omega
      obtain ⟨gA2, oA2, s, eA, -, -, -, hs, cs, -⟩ := SlS.get hBr.out.sys.ss hln
      cases eA
      have hplab := hide (plab_succ (ls := ls) (s := s) hi hx (by rw [Int.toNat_natCast]; exact hs))
      have hzr := hb.out.size
      have k0 : (0 : Int) ≤ (k : Int) := by omega
      have k1 : (k : Int) < (q : Int) := by omega
      have i0 : (0 : Int) ≤ (i : Int) := by omega
      have i1 : (i : Int) < (m : Int) := by omega
      have l0 : (0 : Int) ≤ (l : Int) := by omega
      have l1 : (l : Int) < (n : Int) := by omega
      go_upto_region 5 with fail
      obtain ⟨wD, hwD⟩ : ∃ wD, wD = wr.drew := ⟨_, rfl⟩
      have hBD := hBr.out.below (w2 := wD) (by rw [hwD]; exact (Below.refl _ _).drew)
      have b2 := hBD.box.c2
      have b3 := hBD.box.c3
      have hzD : wD.heap.size = wr.heap.size := by rw [hwD]; rfl
      replace x1 : wD.cell? ⟨gB, oB + i * 3 + 1, none⟩ = some (.int .i64 (l : Int)) := by rw [hwD]; exact x1
      replace cs : wD.cell? ⟨gA, oA + l, none⟩ = some (.string s) := by rw [hwD]; exact cs
      have hOD : Own 1 strv wD w1.heap.size 9 A5 k c5 (plabF es ls (p.take k)) := by rw [hwD]; exact hO.out
      have hbA := (Below.refl wD.heap.size wD).alloc (Nat.le_refl _) (.cells #[.string s] 9)
      have hOa := hide (hOD.alloc (.cells #[.string s] 9))
      have hzA : (wD.alloc (.cells #[.string s] 9)).heap.size = wD.heap.size + 1 := World.size_alloc _ _
      have a2 := (hbA.cell (p := ⟨w.heap.size, 2, none⟩) (by show w.heap.size < _; omega)).trans b2
      have a3 := (hbA.cell (p := ⟨w.heap.size, 3, none⟩) (by show w.heap.size < _; omega)).trans b3
      have a4 := (hbA.cell (p := ⟨gB, oB + i * 3 + 1, none⟩) (by show gB < _; omega)).trans x1
      have a5 := (hbA.cell (p := ⟨gA, oA + l, none⟩) (by show gA < _; omega)).trans cs
      have hlit := hide (Sl.lit1' (f := strv) wD 9 s #[.string s] rfl 1 _ rfl)
      have hsz : (k + 1) * 16 ≤ 140737488355328 := by omega
      have hza : w1.heap.size ≤ (wD.alloc (.cells #[.string s] 9)).heap.size := by omega
      have hne : ∀ g, g < w1.heap.size → some g ≠ (Value.slice A5 k c5).ownBlock := fun g hg e => by
        have := (hOa.out.lt g e.symm).1
        omega
      have hbel := hide ((hb.out.trans ((show Below wr.heap.size wr wD by rw [hwD]; exact (Below.refl _ _).drew).mono hzr)).alloc (by omega) (.cells #[.string s] 9))
      replace hwD := hide hwD
      replace hi := hide hi
      replace hx := hide hx
      replace hs := hide hs
      clear x0 x2 ci hOD hO hb hBD hbA
      refine lateT_begin (S := fun w' => w'.cell? ⟨w.heap.size, 2, none⟩ = some (.slice (some ⟨gA, oA, none⟩) n c) ∧ w'.cell? ⟨w.heap.size, 3, none⟩ = some (.slice (some ⟨gB, oB, none⟩) m d) ∧ w'.cell? ⟨gB, oB + i * 3 + 1, none⟩ = some (.int .i64 (l : Int)) ∧ w'.cell? ⟨gA, oA + l, none⟩ = some (.string s)) (st := 13) (by kernel_rfl) ?_
      rw [← show wD = _ from hwD.out]
      have hS0 : (fun w' : World => w'.cell? ⟨w.heap.size, 2, none⟩ = some (.slice (some ⟨gA, oA, none⟩) n c) ∧ w'.cell? ⟨w.heap.size, 3, none⟩ = some (.slice (some ⟨gB, oB, none⟩) m d) ∧ w'.cell? ⟨gB, oB + i * 3 + 1, none⟩ = some (.int .i64 (l : Int)) ∧ w'.cell? ⟨gA, oA + l, none⟩ = some (.string s)) wD := ⟨b2, b3, x1, cs⟩
      refine lateT_take (i := 0) (oi := _) (v := ?_) [13] rfl (by kernel_rfl) (by kernel_rfl) (by kernel_rfl) (by kernel_rfl) (fun _ _ _ h => h) (Or.inl ⟨by rfl, ?hy⟩) hS0 ?_
      case hy => (intro w hSw; (try dsimp only at hSw); go_simp <;> with_reducible rfl)
      (try simp only [Act.put, List.setIfInBounds_toArray, List.set_cons_zero, List.set_cons_succ])
      refine lateT_take (i := 1) (oi := _) (v := ?_) [13] rfl (by kernel_rfl) (by kernel_rfl) (by kernel_rfl) (by kernel_rfl) (fun _ _ _ h => h) (Or.inl ⟨by rfl, ?hy⟩) hS0 ?_
      case hy => (intro w hSw; (try dsimp only at hSw); go_simp <;> with_reducible rfl)
      (try simp only [Act.put, List.setIfInBounds_toArray, List.set_cons_zero, List.set_cons_succ])
      refine lateT_take (i := 2) (oi := _) (v := ?_) [13] rfl (by kernel_rfl) (by kernel_rfl) (by kernel_rfl) (by kernel_rfl) (fun _ _ _ h => h) (Or.inl ⟨by rfl, ?hy⟩) hS0 ?_
      case hy => (intro w hSw; (try dsimp only at hSw); go_simp <;> with_reducible rfl)
      (try simp only [Act.put, List.setIfInBounds_toArray, List.set_cons_zero, List.set_cons_succ])
      refine lateT_take (i := 3) (oi := _) (v := ?_) [13] rfl (by kernel_rfl) (by kernel_rfl) (by kernel_rfl) (by kernel_rfl) (fun _ _ _ h => h) (Or.inl ⟨by rfl, ?hy⟩) hS0 ?_
      case hy => (intro w hSw; (try dsimp only at hSw); go_simp <;> with_reducible rfl)
      (try simp only [Act.put, List.setIfInBounds_toArray, List.set_cons_zero, List.set_cons_succ])
      refine lateT_take (i := 4) (oi := _) (v := ?_) [13] rfl (by kernel_rfl) (by kernel_rfl) (by kernel_rfl) (by kernel_rfl) (fun _ _ _ h => h) (Or.inl ⟨by rfl, ?hy⟩) hS0 ?_
      case hy => (intro w hSw; (try dsimp only at hSw); go_simp <;> with_reducible rfl)
      (try simp only [Act.put, List.setIfInBounds_toArray, List.set_cons_zero, List.set_cons_succ])
      refine lateT_take (i := 5) (oi := _) (v := ?_) [13] rfl (by kernel_rfl) (by kernel_rfl) (by kernel_rfl) (by kernel_rfl) (fun _ _ _ h => h) (Or.inl ⟨by rfl, ?hy⟩) hS0 ?_
      case hy => (intro w hSw; (try dsimp only at hSw); go_simp <;> with_reducible rfl)
      (try simp only [Act.put, List.setIfInBounds_toArray, List.set_cons_zero, List.set_cons_succ])
      refine lateT_take (i := 6) (oi := _) (v := ?_) [13] rfl (by kernel_rfl) (by kernel_rfl) (by kernel_rfl) (by kernel_rfl) (fun _ _ _ h => h) (Or.inl ⟨by rfl, ?hy⟩) hS0 ?_
      case hy => (intro w hSw; (try dsimp only at hSw); go_simp <;> with_reducible rfl)
      (try simp only [Act.put, List.setIfInBounds_toArray, List.set_cons_zero, List.set_cons_succ])
      refine lateT_take (i := 7) (oi := _) (v := ?_) [13] rfl (by kernel_rfl) (by kernel_rfl) (by kernel_rfl) (by kernel_rfl) (fun _ _ _ h => h) (Or.inl ⟨by rfl, ?hy⟩) hS0 ?_
      case hy => (intro w hSw; (try dsimp only at hSw); go_simp <;> with_reducible rfl)
      (try simp only [Act.put, List.setIfInBounds_toArray, List.set_cons_zero, List.set_cons_succ])
      refine lateT_take (i := 8) (oi := _) (v := ?_) [13] rfl (by kernel_rfl) (by kernel_rfl) (by kernel_rfl) (by kernel_rfl) (fun _ _ _ h => h) (Or.inl ⟨by rfl, ?hy⟩) hS0 ?_
      case hy => (intro w hSw; (try dsimp only at hSw); go_simp <;> with_reducible rfl)
      (try simp only [Act.put, List.setIfInBounds_toArray, List.set_cons_zero, List.set_cons_succ])
      refine lateT_take (i := 9) (oi := _) (v := ?_) [13] rfl (by kernel_rfl) (by kernel_rfl) (by kernel_rfl) (by kernel_rfl) (fun _ _ _ h => h) (Or.inl ⟨by rfl, ?hy⟩) hS0 ?_
      case hy => (intro w hSw; (try dsimp only at hSw); go_simp <;> with_reducible rfl)
      (try simp only [Act.put, List.setIfInBounds_toArray, List.set_cons_zero, List.set_cons_succ])
      refine lateT_take (i := 10) (oi := _) (v := ?_) [13] rfl (by kernel_rfl) (by kernel_rfl) (by kernel_rfl) (by kernel_rfl) (fun _ _ _ h => h) (Or.inl ⟨by rfl, ?hy⟩) hS0 ?_
      case hy => (intro w hSw; (try dsimp only at hSw); go_simp <;> with_reducible rfl)
      (try simp only [Act.put, List.setIfInBounds_toArray, List.set_cons_zero, List.set_cons_succ])
      refine lateT_step (i := 11) (by kernel_rfl) rfl (fun K hK => ?_)
      go_simp
      refine hK.out _ _ (fun _ => ⟨a2, a3, a4, a5⟩) ?_
      clear hK K
      (try simp only [Act.put, List.setIfInBounds_toArray, List.set_cons_zero, List.set_cons_succ])
      refine lateT_step (i := 12) (by kernel_rfl) rfl (fun K hK => ?_)
      refine step_appL (m := 1) (d := 1) (by rfl) (.tmp 14) (.tmp 25) (by rfl) hEs.out flat_strv (by go_simp) hOa.out (by go_simp) hlit.out hsz hza ?_
      intro A7 c7 w7 hown7 hgr7 hb7 hat7
      have d2 := grown_cell8 hgr7 (by omega) (hne w.heap.size (by omega)) a2
      have d3 := grown_cell8 hgr7 (by omega) (hne w.heap.size (by omega)) a3
      have d4 := grown_cell8 hgr7 (by omega) (hne gB (by omega)) a4
      have d5 := grown_cell8 hgr7 (by omega) (hne gA (by omega)) a5
      refine hK.out _ _ (fun _ => ⟨d2, d3, d4, d5⟩) ?_
      clear hK K
      (try simp only [Act.put, List.setIfInBounds_toArray, List.set_cons_zero, List.set_cons_succ])
      refine lateT_step (i := 13) (by kernel_rfl) rfl (fun K hK => ?_)
      go_simp
      refine hK.out _ _ (fun h => absurd rfl h) ?_
      clear hK K
      (try simp only [Act.put, List.setIfInBounds_toArray, List.set_cons_zero, List.set_cons_succ])
      refine lateT_done (by kernel_rfl) ?_ _
      have hown8 := hown7
      rw [← hplab.out] at hown8
      replace hown8 := hide hown8
      have hb8 := hide (hbel.out.grown hgr7 hza (fun q e => by have := (hOa.out.lt q e).1; omega))
      clear hown7 hgr7 hb7 hat7
      go_wp2_with fail
      go_roundw
      case rel => exact ⟨k + 1, A7, c7, by omega, by go_num, rfl, hown8.out, hb8.out⟩
      case measure => simp [intOf]; omega
    · obtain rfl : k = q := by omega
      have hsl := hide ((hO.out.sl flat_strv).more (show w.heap.size ≤ w1.heap.size by omega) (Nat.le_refl _))
      have hbF := hide (hB.out.bel.trans (hb.out.mono (by omega)))
      have htk : p.take k = p := List.take_of_length_le (by omega)
      rw [htk] at hsl
      clear hO
      go_wp2_with fail
      go_ret
      exact ⟨A5, c5, rfl, hsl.out, hbF.out⟩
end
end Go.Proofs.YtcdhgabcajehnaaGreatDoor

namespace Go.Proofs.YtcdhgabcajehnaaGreatDoor
open Go.ChangeShapes Go.WideShapes Go.ChangeAt Go.RowKit
set_option linter.unusedVariables false
set_option linter.unusedSimpArgs false

section
variable {w : World} {N ini : Nat} {A : Option Addr} {n : Nat} {B : Option Addr} {m : Nat} {ls : List ByteArray} {es : List Ed}
set_option maxRecDepth 100000 in
set_option maxHeartbeats 1600000 in
theorem pathLabels_calls (h : SysA w N ini A n B m ls es) (c d : Nat) (he : Env w) (P : Option Addr) (q cp y : Nat) (p : List Int) (hP : SlI w 0 w.heap.size P q p) (hq : q ≤ 1000) (hW : WayE es ini p y) :
    Calls Tryz.prog 19 #[.agg #[.int .i64 (N : Int), .int .i64 (ini : Int), .slice A n c, .slice B m d], .slice P q cp] w fun e w' => ∃ Q cq, e = .returned (.tuple #[.slice Q q cq, .int .i64 0]) ∧ SlS w' w.heap.size w'.heap.size Q q (plabF es ls p) ∧ Below w.heap.size w w' := by
  have hB := h.box (c := c) (d := d)
  obtain ⟨w1, hw1⟩ : ∃ w1, w1 = w.alloc (ltsC N ini A n c B m d) := ⟨_, rfl⟩
  rw [← hw1] at hB
  have he1 := he.below hB.bel (Nat.le_refl _)
  have hP1 := (hP.below hB.bel (.inr (Nat.le_refl _))).here'
  have q1 := hide (endOfPath_calls hB.sys c d he1 P q cp y p hP1 hq hW)
  have b0 := hB.box.c0
  have b1 := hB.box.c1
  have b2 := hB.box.c2
  have b3 := hB.box.c3
  have hrange := hW.range
  replace hB := hide hB
  replace hP1 := hide hP1
  clear h he he1 hP hW
  go_enter Tryz.func19, Tryz.ntmps19
  go_upto_region 1 with fail
  rw [← show w1 = w.alloc (.cells #[.int .i64 (N : Int), .int .i64 (ini : Int), .slice A n c, .slice B m d] 27) from hw1]
  replace hw1 := hide hw1
  go_wp2_with fail
  refine q1.out.mono ?_
  rintro e w2 ⟨rfl, hb2⟩
  have hB2 := hide (hB.out.below hb2)
  have hP2 := hide ((hP1.out.below hb2 (.inr (Nat.le_refl _))).here')
  replace hb2 := hide hb2
  clear q1 b0 b1 b2 b3
  have b0 := hB2.out.box.c0
  have b1 := hB2.out.box.c1
  have b2 := hB2.out.box.c2
  have b3 := hB2.out.box.c3
  have q2 := hide (pathLabels1_calls hB2.out.sys c d P q cp y p hP2.out hq hrange)
  have hz2 := hB2.out.bel.size
  go_wp2_with fail
  refine q2.out.mono ?_
  rintro e w3 ⟨Q, cq, rfl, hQ, hb3⟩
  have hQ3 := hide (hQ.more hz2 (Nat.le_refl _))
  have hbF := hide (hB2.out.bel.trans (hb3.mono hz2))
  clear q2 hQ hb3
  go_wp2_with fail
  go_ret2
  exact ⟨Q, cq, rfl, hQ3.out, hbF.out⟩

set_option maxRecDepth 100000 in
theorem areLabels1_calls (s : ByteArray) (w : World) (hs : s.size ≤ 1048576) (he : Env w) :
    Calls Tryz.prog 80 #[.string s] w (Says (!labS s) w) := by
  have q := hide (isLabel_calls s w hs he)
  clear he
  go_enter Tryz.func80, Tryz.ntmps80
  go_wp2_with fail
  refine q.out.mono ?_
  rintro e w1 ⟨rfl, hb⟩
  replace hb := hide hb
  go_wp2_with fail
  go_ret
  exact ⟨rfl, hb.out⟩
set_option maxRecDepth 100000 in
theorem areLabels_calls (P : Option Addr) (q cp : Nat) (ts : List ByteArray) (w : World) (lo hi : Nat) (he : Env w) (hP : SlS w lo hi P q ts) (hq : q ≤ 1000) (ht : ∀ s, s ∈ ts → labS s = true ∧ s.size ≤ 1048576) :
    Calls Tryz.prog 43 #[.slice P q cp] w fun e w' => e = .returned (.bool true) ∧ Below w.heap.size w w' := by
  have qC := containsFuncS_calls 80 #[] (fun s => !labS s) P q cp ts w _ _ hP (by omega)
    (fun v W => by kernel_rfl)
    (fun s W hs hW => areLabels1_calls s W (ht s hs).2 (he.below hW (Nat.le_refl _)))
  rw [show ts.any (fun s => !labS s) = false from by
    rw [List.any_eq_false]
    intro s hs
    rw [(ht s hs).1]
    decide] at qC
  replace qC := hide qC
  clear he hP ht
  go_enter Tryz.func43, Tryz.ntmps43
  go_wp2_with fail
  refine qC.out.mono ?_
  rintro e w1 ⟨rfl, hb⟩
  replace hb := hide hb
  go_wp2_with fail
  go_ret
  exact ⟨rfl, hb.out⟩

theorem plab_at {l : List Int} {k i : Nat} {f lb t : Int} {s : ByteArray} (hi : l[k]? = some (i : Int)) (he : es[i]? = some (f, lb, t)) (hs : ls[lb.toNat]? = some s) : (plabF es ls l)[k]? = some s := by
  unfold plabF
  rw [List.getElem?_map, hi]
  simp only [Option.map_some, Int.toNat_natCast, he, hs, Option.getD_some]
theorem SysA.labOk (h : SysA w N ini A n B m ls es) : ∀ s, s ∈ ls → labS s = true ∧ s.size ≤ 1048576 := fun s hs => by
  have hz := h.sz
  have h1 : s.size ≤ (ls.map (·.size)).sum := mem_sum (List.mem_map_of_mem hs)
  unfold totS at hz
  refine ⟨?_, by omega⟩
  have h1 := h.ok
  rw [ltsV_eq] at h1
  simp only [Bool.and_eq_true, decide_eq_true_eq] at h1
  obtain ⟨⟨-, -, h3, -⟩, -⟩ := h1
  unfold namesB at h3
  rw [Bool.and_eq_true] at h3
  obtain ⟨k, hk⟩ := List.getElem?_of_mem hs
  have hkl := (List.getElem?_eq_some_iff.1 hk).1
  have h4 := allK_get h3.2 hkl
  by_cases e : labS s = true
  · exact e
  · rw [okL_bad hk (Bool.eq_false_iff.2 e)] at h4
    cases h4
theorem plab_lab (h : SysA w N ini A n B m ls es) {p : List Int} (hr : ∀ i, i ∈ p → 0 ≤ i ∧ i < (es.length : Int)) : ∀ s, s ∈ plabF es ls p → labS s = true ∧ s.size ≤ 1048576 := fun s hs => by
  obtain ⟨i, hi, rfl⟩ := List.mem_map.1 hs
  have hir := hr i hi
  obtain ⟨e, he⟩ : ∃ e, es[i.toNat]? = some e := ⟨_, List.getElem?_eq_getElem (by omega)⟩
  have hlab := h.labs e (List.mem_of_getElem? he)
  obtain ⟨t, ht⟩ : ∃ t, ls[e.2.1.toNat]? = some t := ⟨_, List.getElem?_eq_getElem (by omega)⟩
  simp only [he, ht, Option.getD_some]
  exact h.labOk t (List.mem_of_getElem? ht)

set_option maxRecDepth 100000 in
set_option maxHeartbeats 3200000 in
theorem replayLabels_calls (h : SysA w N ini A n B m ls es) (c d : Nat) (he : Env w) (P : Option Addr) (q cp y : Nat) (p : List Int) (hP : SlS w 0 w.heap.size P q (plabF es ls p)) (hq : q ≤ 1000) (hW : WayE es ini p y) :
    Calls Tryz.prog 20 #[.agg #[.int .i64 (N : Int), .int .i64 (ini : Int), .slice A n c, .slice B m d], .slice P q cp] w fun e w' => ∃ Q j cq S, e = .returned (.tuple #[.slice Q j cq, .int .i64 0]) ∧ SlI w' 0 w'.heap.size Q j S ∧ (y : Int) ∈ S ∧ j ≤ 1000 ∧ Below w.heap.size w w' := by
  have hB := h.box (c := c) (d := d)
  obtain ⟨w1, hw1⟩ : ∃ w1, w1 = w.alloc (ltsC N ini A n c B m d) := ⟨_, rfl⟩
  rw [← hw1] at hB
  have he1 := he.below hB.bel (Nat.le_refl _)
  have q1 := hide (hB.sys.valid c d he1)
  have hP1 := hide (hP.below hB.bel (.inr (Nat.le_refl _)))
  have hlp := hP.len
  rw [plab_len] at hlp
  have b0 := hB.box.c0
  have b1 := hB.box.c1
  have b2 := hB.box.c2
  have b3 := hB.box.c3
  obtain ⟨hm, -, -, hle, hll⟩ := hB.sys.many
  have hlab := hide (plab_lab hB.sys hW.range)
  replace hB := hide hB
  replace hW := hide hW
  replace he1 := hide he1
  clear h he hP
  go_enter Tryz.func20, Tryz.ntmps20
  go_upto_region 1 with fail
  rw [← show w1 = w.alloc (.cells #[.int .i64 (N : Int), .int .i64 (ini : Int), .slice A n c, .slice B m d] 27) from hw1]
  replace hw1 := hide hw1
  go_wp2_with fail
  refine q1.out.mono ?_
  rintro e w2 ⟨rfl, hb2⟩
  have hB2 := hide (hB.out.below hb2)
  have hP2 := hide ((hP1.out.below hb2 (.inr (Nat.le_refl _))).here')
  have qA := hide (areLabels_calls P q cp _ w2 _ _ (he1.out.below hb2 (Nat.le_refl _)) hP2.out hq hlab.out)
  replace hb2 := hide hb2
  clear q1 b0 b1 b2 b3
  go_wp2_with fail
  refine qA.out.mono ?_
  rintro e w3 ⟨rfl, hb3⟩
  have hB3 := hide (hB2.out.below hb3)
  have hP3 := hide ((hP2.out.below hb3 (.inr (Nat.le_refl _))).here')
  replace hb3 := hide hb3
  clear qA
  have b1 := hB3.out.box.c1
  have hz3 := hB3.out.bel.size
  have hbA := (Below.refl w3.heap.size w3).alloc (Nat.le_refl _) (.cells #[.int .i64 (ini : Int)] 2)
  have hs0 : Hid (SlI (w3.alloc (.cells #[.int .i64 (ini : Int)] 2)) 0 (w3.alloc (.cells #[.int .i64 (ini : Int)] 2)).heap.size (some ⟨w3.heap.size, 0, none⟩) 1 [(ini : Int)]) := (Sl.lit1' (f := iv) w3 2 (ini : Int) #[.int .i64 (ini : Int)] rfl 1 _ rfl).more (Nat.le_refl _) (by rw [World.size_alloc]; exact Nat.le_refl _)
  replace hbA := hide hbA
  go_wp2_with fail
  clear b1
  go_loopw [6, 22] (fun v6 v22 wr => ∃ (k x : Nat) (Q : Option Addr) (j cq : Nat) (S : List Int), k ≤ q ∧ v22 = .int .i64 (k : Nat) ∧ v6 = .slice Q j cq ∧ j ≤ 1000 ∧ Hid (SlI wr 0 wr.heap.size Q j S) ∧ Hid ((x : Int) ∈ S) ∧ Hid (WayE es x (p.drop k) y) ∧ Hid (Below w3.heap.size w3 wr)) (fun _ v _ => q - (intOf v).toNat)
  case atStart => exact ⟨0, ini, _, 1, 1, _, Nat.zero_le _, rfl, rfl, by omega, hs0.out, List.mem_singleton.2 rfl, hW.out, hbA.out⟩
  case round =>
    clear hs0 hbA
    obtain ⟨k, x, Q, j, cq, S, hk, rfl, rfl, hj, hS, hxS, hWk, hb⟩ := hrel
    by_cases hlt : k < q
    · obtain ⟨i, hi⟩ : ∃ i, p[k]? = some i := ⟨_, List.getElem?_eq_getElem (by omega)⟩
      obtain ⟨⟨f, lb, tg⟩, z, h0, hei, h1, h2, hW2⟩ := hWk.out.step hi
      (try dsimp only at h1 h2)
      subst h1 h2
      obtain ⟨i, rfl⟩ : ∃ j : Nat, i = (j : Int) := ⟨i.toNat, by omega⟩
      rw [Int.toNat_natCast] at hei
      have hBr := hide (hB3.out.below hb.out)
      have hlb := hBr.out.sys.labs _ (List.mem_of_getElem? hei)
      (try dsimp only at hlb)
      obtain ⟨s, hs⟩ : ∃ s, ls[lb.toNat]? = some s := ⟨_, List.getElem?_eq_getElem (by omega)⟩
      obtain ⟨gP, oP, s2, rfl, -, -, -, hs2, ci, -⟩ := SlS.get (hP3.out.below hb.out (.inr (Nat.le_refl _))) hlt
      rw [plab_at hi hei hs] at hs2
      cases hs2
      have b0 := hBr.out.box.c0
      have b1 := hBr.out.box.c1
      have b2 := hBr.out.box.c2
      have b3 := hBr.out.box.c3
      have qF := hide (followS_calls (N : Int) (ini : Int) A n c B m d Q j cq S s ls es wr _ _ _ _ hBr.out.sys.ss hBr.out.sys.se hS.out (by omega) (by omega) hBr.out.sys.ok)
      have hmem : Hid ((z : Int) ∈ folV es ls s S) := folV_mem.2 ⟨_, List.mem_of_getElem? hei, hxS.out, hs, rfl⟩
      have hfl := folV_len es ls s S
      have k0 : (0 : Int) ≤ (k : Int) := by omega
      have k1 : (k : Int) < (q : Int) := by omega
      have hzr := hb.out.size
      replace hei := hide hei
      replace hi := hide hi
      replace hs := hide hs
      replace hW2 := hide hW2
      clear hWk hxS hlb
      go_wp2_with fail
      refine qF.out.mono ?_
      rintro e w4 ⟨Q4, j4, c4, rfl, hO4, hb4⟩
      have hl4 := hO4.len
      have hS4 := hide ((hO4.sl flat_iv).more (Nat.zero_le _) (Nat.le_refl _))
      have hb4' := hide (hb.out.trans (hb4.mono hzr))
      have hj4 : j4 ≤ 1000 := by omega
      clear qF hO4 hb4 b0 b1 b2 b3 ci hl4 hfl hS
      go_wp2_with fail
      go_roundw
      case rel => exact ⟨k + 1, z, Q4, j4, c4, _, by omega, by go_num, rfl, hj4, hS4.out, hmem.out, hW2.out, hb4'.out⟩
      case measure => simp [intOf]; omega
    · obtain rfl : k = q := by omega
      have hxy := hWk.out.done (by omega)
      subst hxy
      have hbF := hide (hB3.out.bel.trans (hb.out.mono hz3))
      have hSF := hide hS.out
      have hj1 : ¬ (j : Int) = 0 := by
        have := List.length_pos_of_mem hxS.out
        rw [hS.out.len] at this
        omega
      have hj2 : ((j : Int) == 0) = false := by rw [beq_eq_false_iff_ne]; exact hj1
      go_wp2_with fail
      go_ret2
      exact ⟨Q, j, cq, S, rfl, hSF.out, hxS.out, hj, hbF.out⟩
end
end Go.Proofs.YtcdhgabcajehnaaGreatDoor

namespace Go.Proofs.YtcdhgabcajehnaaGreatDoor
open Go.ChangeShapes Go.WideShapes Go.ChangeAt Go.RowKit
set_option linter.unusedVariables false
set_option linter.unusedSimpArgs false

set_option maxRecDepth 100000 in
theorem b10Long_calls (A : Option Addr) (n c : Nat) (hn : n ≤ maxLen) (w : World) :
    Calls Tryz.prog 14 #[.slice A n c] w fun e w' => e = .returned (.bool (decide (1048576 < n))) ∧ w = w' := by
  by_cases h : 1048576 < n
  · have h1 : (1048576 : Int) < (n : Int) := by omega
    rw [decide_eq_true h]
    go_enter Tryz.func14, Tryz.ntmps14
    go_wp2_with fail
    go_ret
    exact ⟨rfl, rfl⟩
  · have h1 : ¬ (1048576 : Int) < (n : Int) := by omega
    rw [decide_eq_false h]
    go_enter Tryz.func14, Tryz.ntmps14
    go_wp2_with fail
    go_ret
    exact ⟨rfl, rfl⟩

/-- A system that is drawn: valid, at most seven states. -/
def SysD (w : World) (e : Ending) (w' : World) : Prop := ∃ (st ini : Nat) (A : Option Addr) (n c : Nat) (B : Option Addr) (m d : Nat) (ls : List ByteArray) (es : List Ed),
  e = .returned (.agg #[.int .i64 (st : Int), .int .i64 (ini : Int), .slice A n c, .slice B m d]) ∧ SysA w' st ini A n B m ls es ∧ st ≤ 7 ∧ n ≤ 7 ∧ m ≤ 64 ∧ NamD ls ∧ Below w.heap.size w w'
set_option maxRecDepth 100000 in
set_option maxHeartbeats 1600000 in
theorem B10Lts_calls (A : Option Addr) (n c : Nat) (code : List Int) (w : World) (h : SlU w 0 w.heap.size A n code) (hc : ∀ x, x ∈ code → 0 ≤ x ∧ x ≤ 255) (hn : n ≤ maxLen) :
    Calls Tryz.prog 15 #[.slice A n c] w (SysD w) := by
  have hb1 := (Below.refl w.heap.size w).alloc (Nat.le_refl _) (.cells #[.int .i64 0, .int .i64 0, .slice none 0 0, .slice none 0 0] 27)
  have k8 := heap_alloc_new w (.cells #[.int .i64 0, .int .i64 0, .slice none 0 0, .slice none 0 0] 27)
  have hz1 : w.heap.size < (w.alloc (.cells #[.int .i64 0, .int .i64 0, .slice none 0 0, .slice none 0 0] 27)).heap.size := by simp
  obtain ⟨w1, hw1⟩ : ∃ w1, w1 = w.alloc (.cells #[.int .i64 0, .int .i64 0, .slice none 0 0, .slice none 0 0] 27) := ⟨_, rfl⟩
  rw [← hw1] at hb1 k8 hz1
  have q1 := hide (l00From_calls A n c code w1 ((h.below hb1 (.inl (Nat.le_refl _))).more (Nat.le_refl _) hb1.size) hc hn)
  replace hb1 := hide hb1
  replace k8 := hide k8
  clear h hc
  go_enter Tryz.func15, Tryz.ntmps15
  go_upto_region 1 with fail
  rw [← hw1]
  replace hw1 := hide hw1
  go_wp2_with fail
  refine q1.out.mono ?_
  rintro e w2 ⟨rfl, hS, hb2, hz2⟩
  have q2 := hide (l15DrawOk_calls w1.heap.size 0 w2 hS (by omega))
  have hlt1 : w1.heap.size < w2.heap.size := hS.lt
  replace hb2 := hide hb2
  replace hz2 := hide hz2
  clear q1 hS
  go_wp2_with fail
  refine q2.out.mono ?_
  rintro e w3 hd
  obtain ⟨st, ini, A2, n2, c2, B2, m2, d2, ls, es, rfl, hsys, h7, h64, hn7, hnam, -, hon, hA, hB⟩ := hd.sys (by omega)
  have hb3 := hide (show Below w1.heap.size w1 w3 from ⟨hon.os.trans hb2.out.os, hon.tape.trans hb2.out.tape, hon.output.trans hb2.out.output, Nat.le_trans hb2.out.size hon.size, fun q hq => (hon.block q (by omega) (by omega)).trans (hb2.out.block q hq)⟩)
  have h8 : w3.heap[w.heap.size]? = _ := (hb3.out.block w.heap.size hz1).trans k8.out
  have a0 : w3.cell? ⟨w.heap.size, 0, none⟩ = some (.int .i64 0) := (cell_of_row _ _ 0 _ _ (0, 0) h8).trans rfl
  have a1 : w3.cell? ⟨w.heap.size, 1, none⟩ = some (.int .i64 0) := (cell_of_row _ _ 1 _ _ (0, 0) h8).trans rfl
  have a2 : w3.cell? ⟨w.heap.size, 2, none⟩ = some (.slice none 0 0) := (cell_of_row _ _ 2 _ _ (0, 0) h8).trans rfl
  have a3 : w3.cell? ⟨w.heap.size, 3, none⟩ = some (.slice none 0 0) := (cell_of_row _ _ 3 _ _ (0, 0) h8).trans rfl
  have z0 : w3.frozen? ⟨w.heap.size, 0, none⟩ = false := frozen_of_row _ _ 0 _ _ h8
  have z1 : w3.frozen? ⟨w.heap.size, 1, none⟩ = false := frozen_of_row _ _ 1 _ _ h8
  have z2 : w3.frozen? ⟨w.heap.size, 2, none⟩ = false := frozen_of_row _ _ 2 _ _ h8
  have z3 : w3.frozen? ⟨w.heap.size, 3, none⟩ = false := frozen_of_row _ _ 3 _ _ h8
  replace h8 := hide h8
  have hm64 : m2 ≤ 64 := by have := hsys.se.len; omega
  replace hA := hide hA
  replace hB := hide hB
  replace hsys := hide hsys
  replace hd := hide hd
  replace hnam := hide hnam
  replace hon := hide hon
  clear q2
  go_wp2_with fail
  (try simp only [Exit.inBlock, Exit.then])
  refine bodyPost_ret_by (v := .agg #[.int .i64 (st : Int), .int .i64 (ini : Int), .slice A2 n2 c2, .slice B2 m2 d2]) ?_ rfl ?_
  focus
    rw [results_cell1 rfl]
    go_simp
  change SysD w _ (put4 w3 w.heap.size _ _ _ _)
  have hZs := put4_size w3 w.heap.size (.int .i64 (st : Int)) (.int .i64 (ini : Int)) (.slice A2 n2 c2) (.slice B2 m2 d2)
  have hz3 := hb3.out.size
  have hz23 := hon.out.size
  refine ⟨st, ini, A2, n2, c2, B2, m2, d2, ls, es, rfl, ⟨?_, ?_, hsys.out.ok, hsys.out.sz⟩, h7, hn7, hm64, hnam.out, ?_⟩
  · exact (Sl.keep hA.out (by omega) fun q h1 h2 h3 => put4_other _ _ _ _ _ _ (by omega)).here'
  · exact (Sl.keep hB.out (by omega) fun q h1 h2 h3 => put4_other _ _ _ _ _ _ (by omega)).here'
  · have h1 := hb1.out.trans (hb3.out.mono (by omega))
    exact ⟨h1.os, h1.tape, h1.output, by omega, fun q hq => (put4_other _ _ _ _ _ _ (by omega)).trans (h1.block q hq)⟩
set_option maxRecDepth 100000 in
theorem b10Has_calls (A : Option Addr) (n c : Nat) (l : List Int) (x : Int) (w : World) (lo hi : Nat) (h : SlI w lo hi A n l) (hn : n ≤ 1048576) :
    Calls Tryz.prog 21 #[.slice A n c, .int .i64 x] w fun e w' => e = .returned (.bool (l.any fun y => decide (y = x))) ∧ w = w' := by
  have hlen := hide h.len
  go_enter Tryz.func21, Tryz.ntmps21
  go_wp2
  go_loopw [5] (fun i wr => ∃ k : Nat, k ≤ n ∧ i = .int .i64 k ∧ wr = w ∧ Hid ((l.take k).any (fun y => decide (y = x)) = false)) (fun i _ => n - (intOf i).toNat)
  case atStart => exact ⟨0, Nat.zero_le _, rfl, rfl, rfl⟩
  case round =>
    obtain ⟨k, hk, rfl, rfl, ha⟩ := hrel
    by_cases hlt : k < n
    · obtain ⟨b, off, y, rfl, g1, g2, g3, hx, c0, -⟩ := h.get hlt
      have k0 : (0 : Int) ≤ (k : Int) := by omega
      have k1 : (k : Int) < (n : Int) := by omega
      by_cases hg : y = x
      · subst hg
        have hy := hide (any_hit (G := fun z => decide (z = y)) hx (decide_eq_true rfl))
        have g1 : (y == y) = true := by simp
        replace hx := hide hx
        go_wp2_with fail
        go_ret
        exact ⟨ret_b hy.out, rfl⟩
      · have hy := hide (any_take_succ (G := fun z => decide (z = x)) ha.out hx (decide_eq_false hg))
        have g1 : (y == x) = false := by rw [beq_eq_false_iff_ne]; exact hg
        replace hx := hide hx
        go_wp2_with fail
        go_roundw
        case rel => exact ⟨k + 1, by omega, by go_num, by trivial, hy⟩
        case measure => simp [intOf]; omega
    · obtain rfl : k = n := by omega
      have hy := ha.out
      rw [List.take_of_length_le (by rw [hlen.out]; exact Nat.le_refl _)] at hy
      replace hy := hide hy
      go_wp2_with fail
      go_ret
      exact ⟨ret_b hy.out, rfl⟩
end Go.Proofs.YtcdhgabcajehnaaGreatDoor

namespace Go.Proofs.YtcdhgabcajehnaaGreatDoor
open Go.ChangeShapes Go.WideShapes Go.Deep Go.RowKit
set_option linter.unusedVariables false

theorem u8_wf {n : Int} (h : (Lit.int .u8 n).wf = true) : 0 ≤ n ∧ n ≤ 255 := by
  simp [Lit.wf, IntKind.min, IntKind.max, IntKind.signed, IntKind.bits] at h
  omega
section
variable {H : Type} {enc : TypeId × Value → H} {P : Program} {w : World} {base : Nat} {spare : Nat → Bool} {held : Bool}
theorem open_SlU {t e : TypeId} (ht : P.underlying t = some (.slice e)) (hC : P.cellsOf e = 1) (hi : P.underlying e = some (.int .u8)) {v : Value} {d : DataW H} {p : List MemPlace} (h : DataW.Trod enc P w base spare held t v d p)
    {n' c' : Nat} {A' : Option Addr} (hv : v = .slice A' n' c') (hz : ∀ b off, MemPlace.cell b off ∈ p → w.frozen? ⟨b, off, none⟩ = false) : ∃ A n c l, v = .slice A n c ∧ n ≤ maxLen ∧ SlU w base w.heap.size A n l ∧ ∀ x, x ∈ l → 0 ≤ x ∧ x ≤ 255 := by
  obtain ⟨fuel, hf⟩ := h
  have key := open_flat (w := w) (base := base) (spare := spare) (held := held) (fun x : {n : Int // 0 ≤ n ∧ n ≤ 255} => byv x.1) ht hC (by omega) (fun fuel cs y hy hl => by
    obtain ⟨a, ea, _, hw⟩ := DataW.trod_int hi hy
    exact ⟨⟨a, u8_wf hw⟩, ea⟩) hf hz
  obtain ⟨A, n, c, l, e1, e2, e3⟩ := key
  subst hv
  simp [Value.cells] at e1
  refine ⟨A, n, c, l.map Subtype.val, by simp [e1], e2, ⟨by rw [List.length_map]; exact e3.1, fun hn => ?_⟩, fun x hx => ?_⟩
  · obtain ⟨b, off, q1, q2, q3, q4, q5⟩ := e3.2 hn
    refine ⟨b, off, q1, q2, q3, q4, fun k x hx j u hu => ?_⟩
    rw [List.getElem?_map] at hx
    cases hk : l[k]? with
    | none => rw [hk] at hx; cases hx
    | some y =>
      rw [hk] at hx
      cases hx
      exact q5 k y hk j u hu
  · obtain ⟨y, -, rfl⟩ := List.mem_map.1 hx
    exact y.2
end

end Go.Proofs.YtcdhgabcajehnaaGreatDoor

namespace Go.Proofs.YtcdhgabcajehnaaGreatDoor.lawFnPaths
open Go.ChangeShapes Go.WideShapes Go.ChangeAt Go.RowKit
set_option linter.unusedVariables false
set_option linter.unusedSimpArgs false

set_option maxRecDepth 100000 in
set_option maxHeartbeats 6400000 in
theorem walk (A : Option Addr) (n c : Nat) (code : List Int) (w : World) (he : Env w) (h1 : SlU w 0 w.heap.size A n code) (r1 : ∀ x, x ∈ code → 0 ≤ x ∧ x ≤ 255) (hn : n ≤ maxLen) :
    Calls Tryz.prog 4 #[.slice A n c] w fun e w' => e = .returned (.bool true) ∧ Below w.heap.size w w' := by
  have q0 := b10Long_calls A n c hn w
  by_cases big : 1048576 < n
  · rw [decide_eq_true big] at q0
    replace q0 := hide q0
    go_enter Tryz.func4, Tryz.ntmps4
    go_wp2_with (first | (go_at_call 14; (with_reducible refine q0.out.mono ?_); rintro e w' ⟨rfl, rfl⟩))
    go_ret
    exact ⟨rfl, Below.refl _ _⟩
  rw [decide_eq_false big] at q0
  replace q0 := hide q0
  have q1 := hide (B10Lts_calls A n c code w h1 r1 hn)
  replace he := hide he
  clear h1
  go_enter Tryz.func4, Tryz.ntmps4
  go_upto_region 3 with (first | (go_at_call 14; (with_reducible refine q0.out.mono ?_); rintro e w' ⟨rfl, rfl⟩))
  clear q0
  go_wp2_with fail
  refine q1.out.mono ?_
  rintro e w1 ⟨N, ini, A2, n2, c2, B2, m2, d2, ls, es, rfl, hsys, hN7, hn7, hm64, hnam, hb1⟩
  have he1 := he.out.below hb1 (Nat.le_refl _)
  have hB := hsys.box (c := c2) (d := d2)
  obtain ⟨w2, hw2⟩ : ∃ w2, w2 = w1.alloc (ltsC N ini A2 n2 c2 B2 m2 d2) := ⟨_, rfl⟩
  rw [← hw2] at hB
  have he2 := hide (he1.below hB.bel (Nat.le_refl _))
  have q2 := hide (distancesOf_calls hB.sys c2 d2 he2.out)
  have b0 := hB.box.c0
  have b1 := hB.box.c1
  have b2 := hB.box.c2
  have b3 := hB.box.c3
  obtain ⟨⟨hN1, -⟩, hini⟩ := hsys.bounds
  replace hB := hide hB
  replace hb1 := hide hb1
  replace hnam := hide hnam
  clear q1 hsys he1
  go_upto_region 4 with fail
  rw [← show w2 = w1.alloc (.cells #[.int .i64 (N : Int), .int .i64 (ini : Int), .slice A2 n2 c2, .slice B2 m2 d2] 27) from hw2]
  replace hw2 := hide hw2
  go_wp2_with fail
  refine q2.out.mono ?_
  rintro e w3 ⟨D, cD, far, rfl, hD, hdist, hb3⟩
  have hB3 := hide (hB.out.below hb3)
  have he3 := hide (he2.out.below hb3 (Nat.le_refl _))
  have hD3 := hide hD.here'
  have hlD := hdist.1
  have hz3 := hB3.out.bel.size
  replace hdist := hide hdist
  clear q2 b0 b1 b2 b3 hD hb3
  have b0 := hB3.out.box.c0
  have hNN : ((N : Int) == (N : Int)) = true := by simp
  go_wp2_with fail
  clear b0 hNN
  go_loopw [6] (fun v wr => ∃ k : Nat, k ≤ N ∧ v = .int .i64 (k : Nat) ∧ Hid (Below w3.heap.size w3 wr)) (fun v _ => N - (intOf v).toNat)
  case atStart => exact ⟨0, Nat.zero_le _, rfl, Below.refl _ _⟩
  case round =>
    obtain ⟨k, hk, rfl, hb⟩ := hrel
    have hBr := hide (hB3.out.below hb.out)
    have b0 := hBr.out.box.c0
    by_cases hlt : k < N
    · have k0 : (0 : Int) ≤ (k : Int) := by omega
      have k1 : (k : Int) < (N : Int) := by omega
      -- the list of one target
      have hbT := (Below.refl wr.heap.size wr).alloc (Nat.le_refl _) (.cells #[.int .i64 (k : Int)] 2)
      have hBT := hBr.out.below hbT
      have heT := (he3.out.below hb.out (Nat.le_refl _)).below hbT (Nat.le_refl _)
      have hlit := (Sl.lit1' (f := iv) wr 2 (k : Int) #[.int .i64 (k : Int)] rfl 1 _ rfl).here'
      obtain ⟨wT, hwT⟩ : ∃ wT, wT = wr.alloc (.cells #[.int .i64 (k : Int)] 2) := ⟨_, rfl⟩
      rw [← hwT] at hbT hBT heT hlit
      have q3 := hide (shortestPath_calls hBT.sys c2 d2 heT (some ⟨wr.heap.size, 0, none⟩) 1 k hlit hlt)
      have t0 := hBr.out.box.c0
      have t1 := hBr.out.box.c1
      have t2 := hBr.out.box.c2
      have t3 := hBr.out.box.c3
      obtain ⟨gD, oD, fk, rfl, -, -, -, hfk, cf, -⟩ := SlI.get (hD3.out.below hb.out (.inr (Nat.le_refl _))) hlt
      have hzr := hb.out.size
      have hbT3 := hide (hb.out.trans (hbT.mono hzr))
      replace hBT := hide hBT
      replace heT := hide heT
      clear hbT hlit b0 cf
      subst hwT
      go_wp2_with fail
      refine q3.out.mono ?_
      rintro e w5 ⟨dd, left, hdl, hdd, hb5, hcase⟩
      have hfd : fk = dd := dist_flip hdist.out hdl hfk hdd
      subst hfd
      have hb5' := hide (hbT3.out.trans (hb5.mono hbT3.out.size))
      have hB5 := hide (hBT.out.below hb5)
      have he5 := hide (heT.out.below hb5 (Nat.le_refl _))
      obtain ⟨gD2, oD2, fk2, eD, -, -, -, hfk2, cf, -⟩ := SlI.get (hD3.out.below hb5'.out (.inr (Nat.le_refl _))) hlt
      cases eD
      rw [hfk] at hfk2
      cases hfk2
      replace hdl := hide hdl
      replace hdd := hide hdd
      replace hfk := hide hfk
      clear q3 t0 t1 t2 t3 hb5 hbT3
      rcases hcase with ⟨hneg, rfl⟩ | ⟨hpos, Q, q, cq, p, rfl, hp, hq, hW⟩
      · have g1 : ((3 : Int) == 3) = true := by simp
        go_wp2_with fail
        go_roundw
        case rel => exact ⟨k + 1, by omega, by go_num, hb5'.out⟩
        case measure => simp [intOf]; omega
      · subst hq
        have hq1000 : q ≤ 1000 := by
          have := dist_top hdl.out hB5.out.sys.ends hlt (List.mem_of_getElem? hdd.out)
          omega
        have hp5 := hide hp.here'
        have q4 := hide (endOfPath_calls hB5.out.sys c2 d2 he5.out Q q cq k p hp5.out hq1000 hW)
        have t0 := hB5.out.box.c0
        have t1 := hB5.out.box.c1
        have t2 := hB5.out.box.c2
        have t3 := hB5.out.box.c3
        have g1 : ¬ (q : Int) < 0 := by omega
        have hrange := hide hW.range
        replace hW := hide hW
        clear hp hpos
        go_wp2_with fail
        refine q4.out.mono ?_
        rintro e w6 ⟨rfl, hb6⟩
        have hB6 := hide (hB5.out.below hb6)
        have he6 := hide (he5.out.below hb6 (Nat.le_refl _))
        have hp6 := hide (hp5.out.below hb6 (.inr (Nat.le_refl _))).here'
        have hb6' := hide (hb5'.out.trans (hb6.mono hb5'.out.size))
        have q5 := hide (pathLabels_calls hB6.out.sys c2 d2 he6.out Q q cq k p hp6.out hq1000 hW.out)
        clear q4 t0 t1 t2 t3 hb6 hb5' cf
        have t0 := hB6.out.box.c0
        have t1 := hB6.out.box.c1
        have t2 := hB6.out.box.c2
        have t3 := hB6.out.box.c3
        go_wp2_with fail
        refine q5.out.mono ?_
        rintro e w7 ⟨L, cL, rfl, hL, hb7⟩
        have hB7 := hide (hB6.out.below hb7)
        have he7 := hide (he6.out.below hb7 (Nat.le_refl _))
        have hL7 := hide hL.here'
        have hb7' := hide (hb6'.out.trans (hb7.mono hb6'.out.size))
        have q6 := hide (replayLabels_calls hB7.out.sys c2 d2 he7.out L q cL k p hL7.out hq1000 hW.out)
        clear q5 t0 t1 t2 t3 hb7 hb6' hL
        have t0 := hB7.out.box.c0
        have t1 := hB7.out.box.c1
        have t2 := hB7.out.box.c2
        have t3 := hB7.out.box.c3
        go_wp2_with fail
        refine q6.out.mono ?_
        rintro e w8 ⟨E, j, cE, S, rfl, hS, hkS, hj, hb8⟩
        have hb8' := hide (hb7'.out.trans (hb8.mono hb7'.out.size))
        obtain ⟨gD2, oD2, fk2, eD, -, -, -, hfk2, cf, -⟩ := SlI.get (hD3.out.below hb8'.out (.inr (Nat.le_refl _))) hlt
        cases eD
        rw [hfk.out] at hfk2
        cases hfk2
        have q7 := b10Has_calls E j cE S (k : Int) w8 _ _ hS (by omega)
        rw [any_hit (G := fun y => decide (y = (k : Int))) (List.getElem?_of_mem hkS).choose_spec (decide_eq_true rfl)] at q7
        have q7' := hide (fun (W : World) (hW : ∃ nq, W = w8.drewN nq) => (show Calls Tryz.prog 21 #[.slice E j cE, .int .i64 (k : Int)] W fun e w' => e = .returned (.bool true) ∧ W = w' from by
          obtain ⟨nq, rfl⟩ := hW
          have q := b10Has_calls E j cE S (k : Int) (w8.drewN nq) _ _ (hS.drewN nq) (by omega)
          rw [any_hit (G := fun y => decide (y = (k : Int))) (List.getElem?_of_mem hkS).choose_spec (decide_eq_true rfl)] at q
          exact q))
        replace q7 := hide q7
        replace hkS := hide hkS
        replace hS := hide hS
        have gq : ((q : Int) == (q : Int)) = true := by simp
        have gk : ((k : Int) == (k : Int)) = true := by simp
        clear q6 t0 t1 t2 t3 hb8 hb7'
        go_wp2_with (first | (go_at_call 21; (with_reducible refine q7.out.mono ?_); rintro e w' ⟨rfl, rfl⟩))
        go_roundw
        case rel => exact ⟨k + 1, by omega, by go_num, hb8'.out⟩
        case measure => simp [intOf]; omega
    · obtain rfl : k = N := by omega
      have k1 : ¬ (k : Int) < (k : Int) := by omega
      have hbF := hide (hb1.out.trans (hBr.out.bel.mono hb1.out.size))
      go_wp2_with fail
      go_ret
      exact ⟨rfl, hbF.out⟩

end Go.Proofs.YtcdhgabcajehnaaGreatDoor.lawFnPaths

namespace Go.Proofs.YtcdhgabcajehnaaGreatDoor
open Go.ChangeShapes Go.WideShapes Go.ChangeAt Go.RowKit Go.Lib
set_option linter.unusedVariables false

def cellsD : DataW Unit → List Value
  | .agg l => l.flatMap fun x => match x with
    | .lit (.int k z) => [.int k z]
    | _ => []
  | _ => []
noncomputable def laidWorld (os : Os) : World :=
  let w0 := World.doorLaid Tryz.prog 400 os
  { w0 with heap := w0.heap.modify 3 fun
      | .cells _ t f => .cells (cellsD Rows.laid_unicode_utf8_first).toArray t f
      | o => o }
theorem laid_met (os : Os) (args : Array Value) : laidMet Tryz.prog Rows.fnRoundsRow.laid ((laidWorld os).forCall (fun _ _ => 0) ⟨#[], args, []⟩).memory :=
  laidMet_of_run' 8 (by kernel_rfl) (by kernel_rfl)

end Go.Proofs.YtcdhgabcajehnaaGreatDoor

namespace Go.Proofs.YtcdhgabcajehnaaGreatDoor
open Go.ChangeShapes Go.WideShapes Go.ChangeAt Go.RowKit Go.Deep
set_option linter.unusedVariables false

abbrev DM := DL × List Int
instance decDM : DecidableEq DM := inferInstanceAs (DecidableEq (DL × List Int))
def ArgM (w : World) (lo hi : Nat) (v : Value) (d : DM) : Prop := ∃ (x : CL) (v4 : Value), v = .agg #[.int .i64 x.1, .int .i64 x.2.1, x.2.2.1, x.2.2.2, v4] ∧ ReadL w lo hi x d.1 ∧ ArgI w lo hi v4 d.2
def totM (d : DM) : Nat := totL d.1 + d.2.length
def FreshM (w : World) (lo hi : Nat) (v : Value) (d : DM) : Prop := ArgM w lo hi v d ∧ totM d ≤ 1048576
section
variable {w w' : World} {lo hi lo' hi' B : Nat} {v : Value} {d : DM}
theorem ArgM.below (h : ArgM w lo hi v d) (hb : Below B w w') (hB : hi ≤ B ∨ w.heap.size ≤ B) : ArgM w' lo hi v d := by
  obtain ⟨x, v4, e, h1, a0⟩ := h
  exact ⟨x, v4, e, h1.below hb hB, a0.below hb hB⟩
theorem FreshM.below (h : FreshM w lo hi v d) (hb : Below B w w') (hB : hi ≤ B ∨ w.heap.size ≤ B) : FreshM w' lo hi v d := ⟨h.1.below hb hB, h.2⟩
end

end Go.Proofs.YtcdhgabcajehnaaGreatDoor

namespace Go.Proofs.YtcdhgabcajehnaaGreatDoor
open Go.ChangeShapes Go.WideShapes Go.ChangeAt Go.RowKit Go.Deep
set_option linter.unusedVariables false

abbrev laidL : List (String × DataW Unit) := Rows.fnRoundsRow.laid
theorem pow_data : (Rows.laid_internal_strconv_uint64pow10 : DataW Unit) = Lib.tabData .u64 Lib.pow10Tab := by kernel_rfl
theorem good_of {W : World} (h : laidMet Tryz.prog laidL W) (hS : W.ShapedOpen Tryz.prog) : Good W := by
  have h3 : laidMet Tryz.prog (("internal/strconv.uint64pow10", Lib.tabData .u64 Lib.pow10Tab) :: [("unicode/utf8.acceptRanges", Rows.laid_unicode_utf8_acceptRanges), ("strconv.ErrRange", Rows.laid_strconv_ErrRange), ("strconv.ErrSyntax", Rows.laid_strconv_ErrSyntax), ("unicode/utf8.first", Rows.laid_unicode_utf8_first)]) W := by
    rw [← pow_data]
    exact h.tail.tail
  have h6 : laidMet Tryz.prog (("strconv.ErrSyntax", Rows.laid_strconv_ErrSyntax) :: [("unicode/utf8.first", Rows.laid_unicode_utf8_first)]) W := h3.tail.tail.tail
  refine ⟨hS, Lib.tabIs_of_head (g := 5) (t := 253) (e := 86) (n := 20) (by kernel_rfl) (by kernel_rfl) Tryz.underlying253 Tryz.underlying86 (by kernel_rfl) (by kernel_rfl) h3, ?_⟩
  obtain ⟨ps, ⟨g0, t0, cs0, f0, p0, q0, hg0, ht0, hv0, hd0, _, e0⟩, _, hrows⟩ := h6
  have hg : Tryz.prog.globalNamed "strconv.ErrSyntax" = some 1 := by kernel_rfl
  have ht : (Tryz.prog.globals[1]?).map (·.type) = some 189 := by kernel_rfl
  obtain rfl := Option.some.inj (hg.symm.trans hg0)
  obtain rfl := Option.some.inj (ht.symm.trans ht0)
  obtain ⟨l0⟩ := cs0
  obtain ⟨_, u, v, e1, _, _⟩ := iface_of_trod Tryz.underlying189 hd0
  have e2 : l0 = [.iface u v] := e1
  subst e2
  exact ⟨u, v, hv0⟩

section
variable {H : Type} {enc : TypeId × Value → H} {P : Program} {w : World} {base : Nat} {spare : Nat → Bool} {held : Bool}
end

end Go.Proofs.YtcdhgabcajehnaaGreatDoor

namespace Go.Proofs.YtcdhgabcajehnaaGreatDoor
open Go.ChangeShapes Go.WideShapes Go.ChangeAt Go.RowKit
set_option linter.unusedVariables false

theorem fact_laid : laidOutB Tryz.pinned.checked.prog = true := by kernel_rfl
theorem fact_maps : mapsRowed Tryz.pinned.checked.prog = true := by kernel_rfl
theorem fact_heard : Tryz.pinned.checked.prog.stopsHeard = true := by kernel_rfl
theorem fact_enter : Tryz.pinned.checked.prog.mayEnter = true := by kernel_rfl
theorem fact_lifts : Tryz.pinned.checked.prog.liftsFinal = Rows.fnRoundsRow.lifted := by kernel_rfl
theorem fact_make : Tryz.pinned.checked.prog.make = some Rows.fnRoundsRow.make := by kernel_rfl
theorem fact_main : Tryz.pinned.checked.prog.mainIs = some (true, "9430849eaac93190a30c850d3d6f92376b2bc0d88c2dabef361d0035d0567ce4".toList) := by kernel_rfl
theorem fact_looks : true = Tryz.pinned.checked.prog.looks [] := by kernel_rfl
theorem plain_laid : (laidL.filter fun x => x.2.handleName?.isSome) = [] := by kernel_rfl
theorem pre_laid {H : Type} {enc : TypeId × Value → H} {P : Program} {f : Func} {s : OpenSpec} {c : OpenClaim} (hl : c.laid = laidL) :
    c.pre enc P f s = fun w args => (s.pre enc P f c.domain c.apart w args ∧ laidMet P laidL w) ∧ sizedMet enc P f s c.apart w args := by
  obtain ⟨x, r, e⟩ : ∃ x r, laidL = x :: r := ⟨_, _, rfl⟩
  have hp := plain_laid
  funext w args
  unfold OpenClaim.pre OpenClaim.preLaid
  rw [hl]
  rw [e] at hp ⊢
  show ((_ ∧ laidMetH P (x :: r) w) ∧ _) = _
  unfold laidMetH
  rw [hp]

end Go.Proofs.YtcdhgabcajehnaaGreatDoor
