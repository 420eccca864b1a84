/-
  Several texts in one:
  slices.ContainsFunc at a function value that is asked of the list's own elements. Conditions: at most 1048576 elements.
  Distances, shortest paths and their ends, by the program, on a valid system. Conditions: valid systems.
  Partitions of a valid system by rounds of refinement, by the program: the last round, the classes, the round that tells two states apart, one round more. Conditions: valid systems.
  SplitRound, RefineOnce and the test of a partition, by the program; what the laws ask of lists and bytes. Conditions: valid systems.
  What the laws over a drawn system begin with: bytes that are too many, the system drawn from bytes, numbers in a list. Conditions: none.
  Bytes as an argument of a law. Conditions: none.
  The law FnRounds returns true for every input: two states are told apart first in the round that is named, which is at most the last one, and in none exactly if they are in one class. Conditions: none.
  A world that meets the rows' condition on the library's variables, and what the condition gives. Conditions: none.
  Monitors as arguments of a law: words, sizes, copying, comparing. Conditions: sizes.
  What the rows' condition on the library's variables gives a walk; opening of systems as arguments. Conditions: none.
  Closed facts of the whole program, and the rows' condition in one form. Conditions: none.
-/
import Derived.Test.YtcdhgabcajehnaaGreatDoorBaseA
import Derived.Test.YtcdhgabcajehnaaGreatDoorBaseB
import Derived.Test.YtcdhgabcajehnaaGreatDoorBaseC
import Derived.Test.YtcdhgabcajehnaaGreatDoorBaseD
import Derived.Test.YtcdhgabcajehnaaGreatDoorBaseF
import Derived.LaidMore
import Derived.LaidLaws
import Derived.HandedShaped
import Derived.Stop.LaidErr
import Derived.Lib.LaidTab
import Derived.Test.YtcdhgabcajehnaaGreatDoorTie
import Derived.Test.YtcdhgabcajehnaaGreatDoorCards
set_option linter.unusedSimpArgs false
set_option linter.unusedVariables false
namespace Go.Proofs.YtcdhgabcajehnaaGreatDoor
open Go.ChangeShapes Go.WideShapes Go.ChangeAt Go.RowKit
set_option linter.unusedVariables false

set_option maxRecDepth 100000 in
theorem indexFuncM_calls (F : FuncId) (caps : Array Value) (G : Int → Bool) (A : Option Addr) (n c : Nat) (l : List Int) (w : World) (lo hi : Nat) (h : SlI w lo hi A n l) (hn : n ≤ 1048576)
    (hF : ∀ (v : Value) (W : World), Sem.run Tryz.prog (callFunc F (#[v] ++ caps)) W = .ok (.enter F (#[v] ++ caps)) W)
    (hcl : ∀ (v : Int), v ∈ l → ∀ (W : World), Below w.heap.size w W → Calls Tryz.prog F (#[.int .i64 v] ++ caps) W (Says (G v) W)) :
    Calls Tryz.prog 78 #[.slice A n c, .func (.func F) #[] caps] w fun e w' => ∃ i : Int, e = .returned (.int .i64 i) ∧ decide (0 ≤ i) = l.any G ∧ Below w.heap.size w w' := by
  have hlen := hide h.len
  replace hcl := hide hcl
  go_enter Tryz.func78, Tryz.ntmps78
  go_wp2
  go_loopw [8] (fun i wr => ∃ k : Nat, k ≤ n ∧ i = .int .i64 k ∧ Below w.heap.size w wr ∧ Hid ((l.take k).any G = false)) (fun i _ => n - (intOf i).toNat)
  case atStart => exact ⟨0, Nat.zero_le _, rfl, Below.refl _ _, rfl⟩
  case round =>
    obtain ⟨k, hk, rfl, hb, ha⟩ := hrel
    by_cases hlt : k < n
    · obtain ⟨b, off, x, rfl, g1, g2, g3, hx, c0, -⟩ := h.get hlt
      replace c0 := (hb.cell (p := ⟨b, off + k, none⟩) g3).trans c0
      have hc := hcl.out x (List.mem_of_getElem? hx) wr hb
      replace hx := hide hx
      clear h hcl
      by_cases hg : G x = true
      · rw [hg] at hc
        replace hc := hide hc
        have hy := hide (any_hit hx.out hg)
        clear hg
        go_wp2_with fail
        refine hc.out.mono ?_
        rintro e w1 ⟨rfl, hb1⟩
        go_wp2_with fail
        go_ret
        exact ⟨_, rfl, by rw [hy.out]; simp, hb.trans (hb1.mono hb.size)⟩
      · replace hg := Bool.eq_false_iff.2 hg
        rw [hg] at hc
        replace hc := hide hc
        have hy := hide (any_take_succ ha.out hx.out hg)
        clear hg
        go_wp2_with fail
        refine hc.out.mono ?_
        rintro e w1 ⟨rfl, hb1⟩
        go_wp2_with fail
        go_roundw
        case rel => exact ⟨k + 1, by omega, by go_num, hb.trans (hb1.mono hb.size), hy⟩
        case measure => simp [intOf]; omega
    · have hkn : k = n := by omega
      subst hkn
      clear hcl
      go_wp2
      go_ret
      have hy := ha.out
      rw [List.take_of_length_le (by rw [hlen.out]; exact Nat.le_refl _)] at hy
      exact ⟨_, rfl, by rw [hy]; decide, hb⟩

theorem containsFuncM_calls (F : FuncId) (caps : Array Value) (G : Int → Bool) (A : Option Addr) (n c : Nat) (l : List Int) (w : World) (lo hi : Nat) (h : SlI w lo hi A n l) (hn : n ≤ 1048576)
    (hF : ∀ (v : Value) (W : World), Sem.run Tryz.prog (callFunc F (#[v] ++ caps)) W = .ok (.enter F (#[v] ++ caps)) W)
    (hcl : ∀ (v : Int), v ∈ l → ∀ (W : World), Below w.heap.size w W → Calls Tryz.prog F (#[.int .i64 v] ++ caps) W (Says (G v) W)) :
    Calls Tryz.prog 39 #[.slice A n c, .func (.func F) #[] caps] w (Says (l.any G) w) := by
  have q := hide (indexFuncM_calls F caps G A n c l w lo hi h hn hF hcl)
  clear h hF hcl
  go_enter Tryz.func39, Tryz.ntmps39
  go_wp2_with fail
  refine q.out.mono ?_
  rintro e w1 ⟨i, rfl, hi, hb⟩
  replace hi := hide hi
  go_wp2_with fail
  go_ret
  exact ⟨ret_b hi.out.symm, hb⟩

end Go.Proofs.YtcdhgabcajehnaaGreatDoor

namespace Go.Proofs.YtcdhgabcajehnaaGreatDoor
open Go.ChangeShapes Go.WideShapes Go.ChangeAt Go.RowKit
set_option linter.unusedVariables false
set_option linter.unusedSimpArgs false

abbrev ltsC (N ini : Nat) (A : Option Addr) (n c : Nat) (B : Option Addr) (m d : Nat) : Obj := .cells #[.int .i64 (N : Int), .int .i64 (ini : Int), .slice A n c, .slice B m d] 27
/-- A boxed system: the box, the system, all below as it was. -/
structure BoxA (w w1 : World) (N ini : Nat) (A : Option Addr) (n c : Nat) (B : Option Addr) (m d : Nat) (ls : List ByteArray) (es : List Ed) : Prop where
  box : LtsBox w1 w.heap.size (N : Int) (ini : Int) A n c B m d
  sys : SysA w1 N ini A n B m ls es
  bel : Below w.heap.size w w1
theorem SysA.box {w : World} {N ini : Nat} {A : Option Addr} {n c : Nat} {B : Option Addr} {m d : Nat} {ls : List ByteArray} {es : List Ed} (h : SysA w N ini A n B m ls es) : BoxA w (w.alloc (ltsC N ini A n c B m d)) N ini A n c B m d ls es := by
  have hb := (Below.refl w.heap.size w).alloc (Nat.le_refl _) (ltsC N ini A n c B m d)
  exact ⟨heap_alloc_new w _, h.below hb (Nat.le_refl _), hb⟩
section
variable {w w1 w2 : World} {N ini : Nat} {A : Option Addr} {n c : Nat} {B : Option Addr} {m d : Nat} {ls : List ByteArray} {es : List Ed}
theorem BoxA.below (h : BoxA w w1 N ini A n c B m d ls es) (hb : Below w1.heap.size w1 w2) : BoxA w w2 N ini A n c B m d ls es :=
  ⟨h.box.below hb h.box.lt, h.sys.below hb (Nat.le_refl _), h.bel.trans (hb.mono h.bel.size)⟩
theorem BoxA.lt (h : BoxA w w1 N ini A n c B m d ls es) : w.heap.size < w1.heap.size := h.box.lt
end

section
variable {w : World} {N ini : Nat} {A : Option Addr} {n : Nat} {B : Option Addr} {m : Nat} {ls : List ByteArray} {es : List Ed}
set_option maxRecDepth 100000 in
theorem isStateA_calls (N : Nat) (s1 : Int) (A : Option Addr) (n c : Nat) (B : Option Addr) (m d : Nat) (k : Int) (hN : N ≤ 1000) (w : World) :
    Calls Tryz.prog 62 #[.agg #[.int .i64 (N : Nat), .int .i64 s1, .slice A n c, .slice B m d], .int .i64 k] w fun e w' => e = .returned (.bool (inB k 0 ((N : Int) - 1))) ∧ Below w.heap.size w w' := by
  have q := hide (fun W => within_calls k 0 ((N : Int) - 1) W)
  have hb : Below w.heap.size w (w.alloc (.cells #[.int .i64 (N : Nat), .int .i64 s1, .slice A n c, .slice B m d] 27)) := (Below.refl _ _).alloc (Nat.le_refl _) _
  have hw : IntKind.i64.wrap ((N : Int) - 1) = (N : Int) - 1 := IntWalk.i64_in _ (by omega)
  replace hb := hide hb
  go_enter Tryz.func62, Tryz.ntmps62
  go_wp2_with (first | (go_at_call 61; (with_reducible refine (q.out _).mono ?_); rintro e w' ⟨rfl, rfl⟩))
  go_ret
  exact ⟨rfl, hb.out⟩

end
end Go.Proofs.YtcdhgabcajehnaaGreatDoor

namespace Go.Proofs.YtcdhgabcajehnaaGreatDoor
open Go.ChangeShapes Go.WideShapes Go.ChangeAt Go.RowKit
set_option linter.unusedVariables false
set_option linter.unusedSimpArgs false

section
variable {w : World} {N ini : Nat} {A : Option Addr} {n : Nat} {B : Option Addr} {m : Nat} {ls : List ByteArray} {es : List Ed}
theorem SysA.fewL (h : SysA w N ini A n B m ls es) : ∀ e, e ∈ es → e.2.1 ≤ 1000 := fun e he => by
  have h1 := h.labs e he
  have h2 := h.many
  omega
/-- refine gives the next round. -/
theorem SysA.next (h : SysA w N ini A n B m ls es) (c d : Nat) : NextOk es N 31 #[.agg #[.int .i64 (N : Int), .int .i64 (ini : Int), .slice A n c, .slice B m d]] w := by
  intro k P cP W lo hi hW hP
  have hm := h.many
  have hb := h.bounds
  have hS := h.below hW (Nat.le_refl _)
  have q := refine_calls N ini A n c B m d P cP es (rndP es N k) W _ _ lo hi hS.se hP (by omega) hb.1.1 hb.1.2 h.edges h.fewL (rnd_part k).range
  refine q.mono ?_
  rintro e W' ⟨Bq, rfl, h1, h2⟩
  exact ⟨_, _, rfl, h1, h2⟩
theorem SysA.rounds (h : SysA w N ini A n B m ls es) (c d : Nat) :
    Calls Tryz.prog 30 #[.int .i64 (N : Int), .func (.func 31) #[.agg #[.int .i64 (N : Int), .int .i64 (ini : Int), .slice A n c, .slice B m d]] #[]] w fun e w' => ∃ r A c R, e = .returned (.slice A (r + 1) c) ∧ LastR es N r ∧ RouW w w' es N r A c R :=
  rounds_calls es N h.bounds.1.1 h.bounds.1.2 h.edges _ _ w (h.next c d) (fun v W => by kernel_rfl)

set_option maxRecDepth 100000 in
set_option maxHeartbeats 1600000 in
theorem strongRounds_calls (h : SysA w N ini A n B m ls es) (c d : Nat) (he : Env w) :
    Calls Tryz.prog 8 #[.agg #[.int .i64 (N : Int), .int .i64 (ini : Int), .slice A n c, .slice B m d]] w fun e w' => ∃ r : Nat, e = .returned (.tuple #[.int .i64 (r : Int), .int .i64 0]) ∧ LastR es N r ∧ Below w.heap.size w w' := by
  have hB := h.box (c := c) (d := d)
  obtain ⟨w1, hw1⟩ : ∃ w1, w1 = w.alloc (ltsC N ini A n c B m d) := ⟨_, rfl⟩
  rw [← hw1] at hB
  have he1 := he.below hB.bel (Nat.le_refl _)
  have q1 := hide (hB.sys.valid c d he1)
  have b0 := hB.box.c0
  have b1 := hB.box.c1
  have b2 := hB.box.c2
  have b3 := hB.box.c3
  replace hB := hide hB
  clear h he he1
  go_enter Tryz.func8, Tryz.ntmps8
  go_upto_region 1 with fail
  rw [← show w1 = w.alloc (.cells #[.int .i64 (N : Int), .int .i64 (ini : Int), .slice A n c, .slice B m d] 27) from hw1]
  replace hw1 := hide hw1
  go_wp2_with fail
  refine q1.out.mono ?_
  rintro e w2 ⟨rfl, hb2⟩
  have hB2 := hide (hB.out.below hb2)
  clear q1 b0 b1 b2 b3 hb2
  have b0 := hB2.out.box.c0
  have b1 := hB2.out.box.c1
  have b2 := hB2.out.box.c2
  have b3 := hB2.out.box.c3
  have q2 := hide (hB2.out.sys.rounds c d)
  have hz2 := hB2.out.bel.size
  have hbn := hB2.out.sys.bounds
  have hed := hide hB2.out.sys.edges
  go_wp2_with fail
  refine q2.out.mono ?_
  rintro e w3 ⟨r, A3, c3, R, rfl, hL, hR⟩
  have hbF := hide (hB2.out.bel.trans (hR.below.mono hz2))
  have hr1 := rnd_bound hed.out hbn.1.1 hL.2
  have hi2 : ((r + 1 : Nat) : Int) - 1 = (r : Int) := by omega
  replace hL := hide hL
  replace hR := hide hR
  clear q2 b0 b1 b2 b3
  go_wp2_with fail
  go_ret2
  exact ⟨r, by simp, hL.out, hbF.out⟩

set_option maxRecDepth 100000 in
set_option maxHeartbeats 1600000 in
theorem strong_calls (h : SysA w N ini A n B m ls es) (c d : Nat) :
    Calls Tryz.prog 32 #[.agg #[.int .i64 (N : Int), .int .i64 (ini : Int), .slice A n c, .slice B m d]] w fun e w' => ∃ r P cP, e = .returned (.slice P N cP) ∧ LastR es N r ∧ SlI w' w.heap.size w'.heap.size P N (rndP es N r) ∧ Below w.heap.size w w' := by
  have hB := h.box (c := c) (d := d)
  obtain ⟨w1, hw1⟩ : ∃ w1, w1 = w.alloc (ltsC N ini A n c B m d) := ⟨_, rfl⟩
  rw [← hw1] at hB
  have b0 := hB.box.c0
  have b1 := hB.box.c1
  have b2 := hB.box.c2
  have b3 := hB.box.c3
  have q2 := hide (hB.sys.rounds c d)
  have hbn := hB.sys.bounds
  have hed := hide hB.sys.edges
  have hz1 := hB.bel.size
  replace hB := hide hB
  clear h
  go_enter Tryz.func32, Tryz.ntmps32
  go_upto_region 1 with fail
  rw [← show w1 = w.alloc (.cells #[.int .i64 (N : Int), .int .i64 (ini : Int), .slice A n c, .slice B m d] 27) from hw1]
  replace hw1 := hide hw1
  go_wp2_with fail
  refine q2.out.mono ?_
  rintro e w3 ⟨r, A3, c3, R, rfl, hL, hR⟩
  have hbF := hide (hB.out.bel.trans (hR.below.mono hz1))
  have hr1 := rnd_bound hed.out hbn.1.1 hL.2
  obtain ⟨bo, oo, Ah, ch, s, rfl, go1, go2, hrj, co, hsj, hoff⟩ := hR.grow.get (show r < r + 1 by omega)
  have hs : s = rndP es N r := by
    have h1 : (R.map (·.2))[r]? = some s := by rw [List.getElem?_map, hrj]; rfl
    rw [hR.vals, List.getElem?_map, List.getElem?_range (by omega)] at h1
    exact (Option.some.inj h1).symm
  subst hs
  have q3 := hide (lastR_calls _ _ N r c3 R w3 hR.grow (by omega) hrj)
  have hsF := hide (hsj.more hz1 (Nat.le_refl _))
  replace hL := hide hL
  replace hR := hide hR
  replace hsj := hide hsj
  clear q2 b0 b1 b2 b3 co hrj hoff
  go_wp2_with fail
  refine q3.out.mono ?_
  rintro e w4 ⟨rfl, rfl⟩
  go_wp2_with fail
  go_ret
  exact ⟨r, Ah, ch, rfl, hL.out, hsF.out, hbF.out⟩

set_option maxRecDepth 100000 in
set_option maxHeartbeats 1600000 in
theorem strongClasses_calls (h : SysA w N ini A n B m ls es) (c d : Nat) (he : Env w) :
    Calls Tryz.prog 9 #[.agg #[.int .i64 (N : Int), .int .i64 (ini : Int), .slice A n c, .slice B m d]] w fun e w' => ∃ r P cP, e = .returned (.tuple #[.slice P N cP, .int .i64 0]) ∧ LastR es N r ∧ SlI w' w.heap.size w'.heap.size P N (rndP es N r) ∧ Below w.heap.size w w' := by
  have hB := h.box (c := c) (d := d)
  obtain ⟨w1, hw1⟩ : ∃ w1, w1 = w.alloc (ltsC N ini A n c B m d) := ⟨_, rfl⟩
  rw [← hw1] at hB
  have he1 := he.below hB.bel (Nat.le_refl _)
  have q1 := hide (hB.sys.valid c d he1)
  have b0 := hB.box.c0
  have b1 := hB.box.c1
  have b2 := hB.box.c2
  have b3 := hB.box.c3
  replace hB := hide hB
  clear h he he1
  go_enter Tryz.func9, Tryz.ntmps9
  go_upto_region 1 with fail
  rw [← show w1 = w.alloc (.cells #[.int .i64 (N : Int), .int .i64 (ini : Int), .slice A n c, .slice B m d] 27) from hw1]
  replace hw1 := hide hw1
  go_wp2_with fail
  refine q1.out.mono ?_
  rintro e w2 ⟨rfl, hb2⟩
  have hB2 := hide (hB.out.below hb2)
  clear q1 b0 b1 b2 b3 hb2
  have b0 := hB2.out.box.c0
  have b1 := hB2.out.box.c1
  have b2 := hB2.out.box.c2
  have b3 := hB2.out.box.c3
  have q2 := hide (strong_calls hB2.out.sys c d)
  have hz2 := hB2.out.bel.size
  go_wp2_with fail
  refine q2.out.mono ?_
  rintro e w3 ⟨r, P, cP, rfl, hL, hP, hb3⟩
  have hbF := hide (hB2.out.bel.trans (hb3.mono hz2))
  have hPF := hide (hP.more hz2 (Nat.le_refl _))
  replace hL := hide hL
  clear q2 b0 b1 b2 b3 hP hb3
  go_wp2_with fail
  go_ret2
  exact ⟨r, P, cP, rfl, hL.out, hPF.out, hbF.out⟩

set_option maxRecDepth 100000 in
theorem splitRound1_calls (P : Option Addr) (cP : Nat) (p : List Int) (k j : Nat) (bk bj : Nat) (w : World) (lo hi : Nat) (h : SlI w lo hi P N p) (hk : k < N) (hj : j < N) (ck : w.cell? ⟨bk, 0, none⟩ = some (.int .i64 (k : Int))) (cj : w.cell? ⟨bj, 0, none⟩ = some (.int .i64 (j : Int))) :
    Calls Tryz.prog 72 #[.slice P N cP, .pointer (some ⟨bk, 0, none⟩), .pointer (some ⟨bj, 0, none⟩)] w (Says (!decide (p[k]? = p[j]?)) w) := by
  obtain ⟨gP, oP, x, rfl, -, -, -, hx, cx, -⟩ := SlI.get h hk
  obtain ⟨gP2, oP2, y, e2, -, -, -, hy, cy, -⟩ := SlI.get h hj
  cases e2
  rw [hx, hy]
  have k0 : (0 : Int) ≤ (k : Int) := by omega
  have k1 : (k : Int) < (N : Int) := by omega
  have j0 : (0 : Int) ≤ (j : Int) := by omega
  have j1 : (j : Int) < (N : Int) := by omega
  clear h hx hy hk hj
  by_cases e : x = y
  · subst e
    have g1 : (x == x) = true := by simp
    go_enter Tryz.func72, Tryz.ntmps72
    go_wp2_with fail
    go_quiet (fail)
    go_wp2_with fail
    go_ret
    exact ⟨by simp, below_drewN _ _⟩
  · have g1 : (x == y) = false := by rw [beq_eq_false_iff_ne]; exact e
    have hv : (!decide (some x = some y)) = true := by simp [e]
    have g2 : (x != y) = true := by rw [bne_iff_ne]; exact e
    rw [hv]
    go_enter Tryz.func72, Tryz.ntmps72
    go_wp2_with fail
    go_quiet (fail)
    go_wp2_with fail
    go_ret
    exact ⟨rfl, below_drewN _ _⟩
/-- The first round in which two states are apart, or -1. -/
def SplitA (es : List Ed) (N r k j : Nat) (i : Int) : Prop := (i = -1 ∧ (rndP es N r)[k]? = (rndP es N r)[j]?) ∨ ∃ q : Nat, i = q ∧ q ≤ r ∧ (∀ s, s < q → (rndP es N s)[k]? = (rndP es N s)[j]?) ∧ (rndP es N q)[k]? ≠ (rndP es N q)[j]?
theorem split_of {es : List Ed} {N r k j : Nat} {i : Int} (h : fstG (fun p : List Int => !decide (p[k]? = p[j]?)) ((List.range (r + 1)).map (rndP es N)) i) : SplitA es N r k j i := by
  have all : ∀ q, q ≤ r + 1 → (((List.range (r + 1)).map (rndP es N)).take q).any (fun p : List Int => !decide (p[k]? = p[j]?)) = false → ∀ s, s < q → (rndP es N s)[k]? = (rndP es N s)[j]? := fun q hq ha s hs => by
    rw [List.any_eq_false] at ha
    have := ha (rndP es N s) (List.mem_of_getElem? (i := s) (by
      rw [List.getElem?_take, if_pos hs, List.getElem?_map, List.getElem?_range (by omega)]; rfl))
    simpa using this
  rcases h with ⟨rfl, ha⟩ | ⟨q, rfl, hq, ha, p, hp, hg⟩
  · refine .inl ⟨rfl, all (r + 1) (Nat.le_refl _) ?_ r (by omega)⟩
    rw [List.take_of_length_le (by simp)]
    exact ha
  · rw [List.length_map, List.length_range] at hq
    rw [List.getElem?_map, List.getElem?_range hq] at hp
    have hp := Option.some.inj hp
    subst hp
    exact .inr ⟨q, rfl, by omega, all q (by omega) ha, by simpa using hg⟩

set_option maxRecDepth 100000 in
set_option maxHeartbeats 3200000 in
theorem splitRound_calls (h : SysA w N ini A n B m ls es) (c d : Nat) (k j : Nat) (hk : k < N) (hj : j < N) :
    Calls Tryz.prog 34 #[.agg #[.int .i64 (N : Int), .int .i64 (ini : Int), .slice A n c, .slice B m d], .int .i64 (k : Int), .int .i64 (j : Int)] w fun e w' => ∃ (r : Nat) (i : Int), e = .returned (.int .i64 i) ∧ LastR es N r ∧ SplitA es N r k j i ∧ Below w.heap.size w w' := by
  have hB := h.box (c := c) (d := d)
  obtain ⟨w1, hw1⟩ : ∃ w1, w1 = w.alloc (ltsC N ini A n c B m d) := ⟨_, rfl⟩
  rw [← hw1] at hB
  have hbA := (Below.refl w1.heap.size w1).alloc (Nat.le_refl _) (.cells #[.int .i64 (k : Int)] 2)
  have kA := heap_alloc_new w1 (.cells #[.int .i64 (k : Int)] 2)
  obtain ⟨wA, hwA⟩ : ∃ wA, wA = w1.alloc (.cells #[.int .i64 (k : Int)] 2) := ⟨_, rfl⟩
  rw [← hwA] at hbA kA
  have hbB := (Below.refl wA.heap.size wA).alloc (Nat.le_refl _) (.cells #[.int .i64 (j : Int)] 2)
  have kB := heap_alloc_new wA (.cells #[.int .i64 (j : Int)] 2)
  obtain ⟨wB, hwB⟩ : ∃ wB, wB = wA.alloc (.cells #[.int .i64 (j : Int)] 2) := ⟨_, rfl⟩
  rw [← hwB] at hbB kB
  have hz1 := hB.bel.size
  have hA1 : w1.heap.size < wA.heap.size := (Array.getElem?_eq_some_iff.1 kA).1
  have hA2 : wA.heap.size < wB.heap.size := (Array.getElem?_eq_some_iff.1 kB).1
  have kA2 : wB.heap[w1.heap.size]? = _ := (hbB.block w1.heap.size hA1).trans kA
  have hBB := (hB.below hbA).below hbB
  obtain ⟨bk, hbk⟩ : ∃ bk, bk = w.heap.size + 1 := ⟨_, rfl⟩
  obtain ⟨bj, hbj⟩ : ∃ bj, bj = w.heap.size + 1 + 1 := ⟨_, rfl⟩
  have ek : w1.heap.size = bk := by rw [hw1, World.size_alloc, hbk]
  have ej : wA.heap.size = bj := by rw [hwA, World.size_alloc, ek, hbj, hbk]
  have hbkl : bk < wB.heap.size := by omega
  have hbjl : bj < wB.heap.size := by omega
  rw [ek] at kA2
  rw [ej] at kB
  have q2 := hide (hBB.sys.rounds c d)
  have b0 := hBB.box.c0
  have b1 := hBB.box.c1
  have b2 := hBB.box.c2
  have b3 := hBB.box.c3
  have hbn := hBB.sys.bounds
  have hed := hide hBB.sys.edges
  have hzB := hBB.bel.size
  replace hBB := hide hBB
  replace kA := hide kA
  replace hB := hide hB
  replace kA2 := hide kA2
  replace kB := hide kB
  clear h hbA hbB
  go_enter Tryz.func34, Tryz.ntmps34
  go_upto_region 1 with fail
  rw [← show w1 = w.alloc (.cells #[.int .i64 (N : Int), .int .i64 (ini : Int), .slice A n c, .slice B m d] 27) from hw1, ← hwA, ← hwB, ← hbj, ← hbk]
  replace ek := hide ek
  replace ej := hide ej
  replace hw1 := hide hw1
  replace hwA := hide hwA
  replace hwB := hide hwB
  replace hbk := hide hbk
  replace hbj := hide hbj
  go_wp2_with fail
  refine q2.out.mono ?_
  rintro e w3 ⟨r, A3, c3, R, rfl, hL, hR⟩
  have hb3 := hide (hBB.out.bel.trans (hR.below.mono hzB))
  have hr1 := rnd_bound hed.out hbn.1.1 hL.2
  have hz3 := hb3.out.size
  have qI := indexFuncR_calls 72 #[.pointer (some ⟨bk, 0, none⟩), .pointer (some ⟨bj, 0, none⟩)] (fun p : List Int => !decide (p[k]? = p[j]?)) A3 (r + 1) c3 _ w3 _ _ (hR.grow.rowsI (by omega)) (by omega)
    (fun v W => by kernel_rfl)
    (fun A4 m4 d4 l4 W hm hW hs hm4 => by
      obtain ⟨x, hx, ex⟩ := List.mem_map.1 hm
      have hmN : N = m4 := by
        have := congrArg (fun z : Hd × List Int => z.1.2.1) ex
        exact this
      subst hmN
      exact splitRound1_calls A4 d4 l4 k j bk bj W _ _ hs hk hj
        ((cell_of_row _ _ 0 _ _ (0, 0) ((hW.block bk (Nat.lt_of_lt_of_le hbkl hR.below.size)).trans ((hR.below.block bk hbkl).trans kA2.out))).trans rfl)
        ((cell_of_row _ _ 0 _ _ (0, 0) ((hW.block bj (Nat.lt_of_lt_of_le hbjl hR.below.size)).trans ((hR.below.block bj hbjl).trans kB.out))).trans rfl))
  rw [show (R.map fun r => (((r.1.1, N, r.1.2) : Hd), r.2)).map (·.2) = (List.range (r + 1)).map (rndP es N) from by rw [List.map_map]; exact hR.vals] at qI
  replace qI := hide qI
  replace hL := hide hL
  replace hR := hide hR
  clear q2 b0 b1 b2 b3
  go_wp2_with fail
  refine qI.out.mono ?_
  rintro e w4 ⟨i, rfl, hf, hb4⟩
  have hsp := hide (split_of hf)
  have hbF := hide (hb3.out.trans (hb4.mono hz3))
  clear qI hf hb4
  go_wp2_with fail
  go_ret
  exact ⟨r, i, rfl, hL.out, hsp.out, hbF.out⟩
end
end Go.Proofs.YtcdhgabcajehnaaGreatDoor

namespace Go.Proofs.YtcdhgabcajehnaaGreatDoor
open Go.ChangeShapes Go.WideShapes Go.ChangeAt Go.RowKit
set_option linter.unusedVariables false
set_option linter.unusedSimpArgs false

theorem Sl.litJ (w : World) (t : TypeId) (l : List Int) (cs : Array Value) (h : cs.toList = l.map (Value.int .i64)) : SlI (w.alloc (.cells cs t)) w.heap.size (w.heap.size + 1) (some ⟨w.heap.size, 0, none⟩) l.length l := by
  refine ⟨rfl, fun _ => ⟨w.heap.size, 0, rfl, Nat.le_refl _, by omega, by simp, fun k y hy j u hu => ?_⟩⟩
  have hj : j = 0 := by have := (List.getElem?_eq_some_iff.1 hu).1; simp [iv] at this; exact this
  subst hj
  simp [iv] at hu
  subst hu
  simp only [Nat.mul_one, Nat.add_zero, Nat.zero_add]
  have hg := heap_alloc_new w (.cells cs t)
  refine ⟨(cell_of_row _ _ _ cs t (0, 0) hg).trans ?_, frozen_of_row _ _ _ cs t hg⟩
  rw [← Array.getElem?_toList, h, List.getElem?_map, hy]; rfl

theorem r8Long_no (A B : Option Addr) (n m c d : Nat) (w : World) (hn : n ≤ 1048576) (hm : m ≤ 1048576) :
    Calls Tryz.prog 6 #[.slice A n c, .slice B m d] w fun e w' => e = .returned (.bool false) ∧ w = w' := by
  have h1 : ¬ (1048576 : Int) < (n : Int) := by omega
  have h2 : ¬ (1048576 : Int) < (m : Int) := by omega
  go_enter Tryz.func6, Tryz.ntmps6
  go_wp2_with fail
  go_ret
  exact ⟨rfl, rfl⟩
theorem r8Long_yes (A B : Option Addr) (n m c d : Nat) (w : World) (h : 1048576 < n ∨ 1048576 < m) :
    Calls Tryz.prog 6 #[.slice A n c, .slice B m d] w fun e w' => e = .returned (.bool true) ∧ w = w' := by
  by_cases h1 : (1048576 : Int) < (n : Int)
  · go_enter Tryz.func6, Tryz.ntmps6
    go_wp2_with fail
    go_ret
    exact ⟨rfl, rfl⟩
  · have h2 : (1048576 : Int) < (m : Int) := by omega
    go_enter Tryz.func6, Tryz.ntmps6
    go_wp2_with fail
    go_ret
    exact ⟨rfl, rfl⟩
set_option maxRecDepth 100000 in
theorem r8Same_calls (A B : Option Addr) (n m c d : Nat) (l r : List Int) (w : World) (lo hi lo' hi' : Nat) (h : SlI w lo hi A n l) (g : SlI w lo' hi' B m r) (hn : n ≤ 1048576) (hm : m ≤ 1048576) :
    Calls Tryz.prog 13 #[.slice A n c, .slice B m d] w fun e w' => e = .returned (.bool (decide (l = r))) ∧ Below w.heap.size w w' := by
  have hl := hide h.len
  have hr := hide g.len
  by_cases hnm : n = m
  · subst hnm
    replace h := hide h
    replace g := hide g
    go_enter Tryz.func13, Tryz.ntmps13
    go_wp2
    go_loopw [5] (fun i wr => ∃ k : Nat, k ≤ n ∧ i = .int .i64 k ∧ Below w.heap.size w wr ∧ l.take k = r.take k) (fun i _ => n - (intOf i).toNat)
    case atStart => exact ⟨0, Nat.zero_le _, rfl, (Below.refl _ _), rfl⟩
    case round =>
      obtain ⟨k, hk, rfl, hb, he⟩ := hrel
      replace he := hide he
      by_cases hlt : k < n
      · obtain ⟨b, off, x, rfl, g1, g2, g3, hx, c0, -⟩ := h.out.get hlt
        obtain ⟨b', off', y, rfl, g1', g2', g3', hy, d0, -⟩ := g.out.get hlt
        replace c0 := (hb.cell (p := ⟨b, off + k, none⟩) g3).trans c0
        replace d0 := (hb.cell (p := ⟨b', off' + k, none⟩) g3').trans d0
        replace hx := hide hx
        replace hy := hide hy
        clear h g
        have hk0 : (0 : Int) ≤ (k : Int) := by omega
        have hk1 : (k : Int) < (n : Int) := by omega
        by_cases hxy : x = y
        · subst hxy
          have hq : (x != x) = false := by simp
          go_wp2
          go_quiet (fail)
          go_wp2
          go_roundw
          case rel => exact ⟨k + 1, by omega, by go_num, by first | exact hb | exact ⟨hb.os, hb.tape, hb.output, hb.size, hb.block⟩, take_step he.out hx.out hy.out rfl⟩
          case measure => simp [intOf]; omega
        · have hne := hide (take_stop hx.out hy.out hxy)
          have hq : (x != y) = true := by rw [bne_iff_ne]; exact hxy
          go_wp2
          go_quiet (fail)
          go_wp2
          go_ret
          exact ⟨by simp [hne.out], by first | exact hb | exact ⟨hb.os, hb.tape, hb.output, hb.size, hb.block⟩⟩
      · have hkn : k = n := by omega
        subst hkn
        clear h g
        go_wp2
        go_ret
        exact ⟨by rw [take_all he.out hl.out hr.out]; simp, hb⟩
  · have hne : Hid (l ≠ r) := fun e => hnm (by rw [← hl.out, ← hr.out, e])
    have hb0 : ((n : Int) != (m : Int)) = true := by rw [bne_iff_ne]; omega
    clear h g
    go_enter Tryz.func13, Tryz.ntmps13
    go_wp2
    go_ret
    exact ⟨by simp [hne.out], Below.refl _ _⟩
set_option maxRecDepth 100000 in
theorem r8AtI_calls (B : Option Addr) (m d : Nat) (more : List Int) (i N : Nat) (w : World) (lo hi : Nat) (h : SlU w lo hi B m more) (hc : ∀ x, x ∈ more → 0 ≤ x ∧ x ≤ 255) (hm : m ≤ maxLen) (hi : i ≤ 1000) (hN : 1 ≤ N ∧ N ≤ 1000) :
    Calls Tryz.prog 10 #[.slice B m d, .int .i64 (i : Int), .int .i64 (N : Int)] w fun e w' => ∃ k : Nat, e = .returned (.int .i64 (k : Int)) ∧ k < N ∧ w = w' := by
  have hm' : m ≤ 9223372036854775807 := by unfold maxLen at hm; omega
  clear hm
  have i0 : (0 : Int) ≤ (i : Int) := by omega
  by_cases hN1 : N ≤ 1
  · have n1 : (N : Int) ≤ 1 := by omega
    clear h hc
    go_enter Tryz.func10, Tryz.ntmps10
    go_wp2_with fail
    go_ret
    exact ⟨0, rfl, by omega, rfl⟩
  have n1 : ¬ (N : Int) ≤ 1 := by omega
  have n2 : ¬ (N : Int) = 0 := by omega
  by_cases h0 : i < m
  · obtain ⟨b, off, rfl, g1, g2, g3, hcell⟩ := h.at_ (show 0 < m by omega)
    have hlen := h.len
    obtain ⟨x, hx⟩ : ∃ x, more[i]? = some x := ⟨more[i]'(by omega), List.getElem?_eq_getElem (by omega)⟩
    obtain ⟨hx0, hx1⟩ := hc x (List.mem_of_getElem? hx)
    have cx := (hcell i x hx 0 _ rfl).1
    simp only [Nat.mul_one, Nat.add_zero] at cx
    have m1 : ¬ (m : Int) ≤ (i : Int) := by omega
    have m2 : ¬ (i : Int) ≥ (m : Int) := by omega
    have m3 : (i : Int) < (m : Int) := by omega
    have hr := Int.emod_nonneg x n2
    have hr2 := Int.emod_lt_of_pos x (show (0 : Int) < (N : Int) by omega)
    clear h hc hcell hx
    go_enter Tryz.func10, Tryz.ntmps10
    go_wp2_with fail
    go_ret
    refine ⟨(x % (N : Int)).toNat, ?_, by omega, rfl⟩
    first
      | (rw [Int.toNat_of_nonneg hr]; rfl)
      | (simp; omega)
  · have m1 : (m : Int) ≤ (i : Int) := by omega
    clear h hc
    go_enter Tryz.func10, Tryz.ntmps10
    go_wp2_with fail
    go_ret
    exact ⟨0, rfl, by omega, rfl⟩

section
variable {w : World} {N ini : Nat} {A : Option Addr} {n : Nat} {B : Option Addr} {m : Nat} {ls : List ByteArray} {es : List Ed}
set_option maxRecDepth 100000 in
theorem statesCode1_calls (v : Int) (bt : Nat) (A : Option Addr) (n c : Nat) (B : Option Addr) (m d : Nat) (w : World) (hb : LtsBox w bt (N : Int) (ini : Int) A n c B m d) (hN : N ≤ 1000) :
    Calls Tryz.prog 70 #[.int .i64 v, .pointer (some ⟨bt, 0, none⟩)] w (Says (!inB v 0 ((N : Int) - 1)) w) := by
  have q := hide (isStateA_calls N (ini : Int) A n c B m d v hN w)
  have b0 := hb.c0
  have b1 := hb.c1
  have b2 := hb.c2
  have b3 := hb.c3
  clear hb
  go_enter Tryz.func70, Tryz.ntmps70
  go_wp2_with fail
  refine q.out.mono ?_
  rintro e w2 ⟨rfl, hb2⟩
  replace hb2 := hide hb2
  go_wp2_with fail
  go_ret
  exact ⟨rfl, hb2.out⟩

set_option maxRecDepth 100000 in
set_option maxHeartbeats 1600000 in
theorem statesCode_calls (h : SysA w N ini A n B m ls es) (c d : Nat) (he : Env w) (P : Option Addr) (q cp : Nat) (p : List Int) (hP : SlI w 0 w.heap.size P q p) (hq : q ≤ 1000) (hp : ∀ v, v ∈ p → 0 ≤ v ∧ v < (N : Int)) :
    Calls Tryz.prog 33 #[.agg #[.int .i64 (N : Int), .int .i64 (ini : Int), .slice A n c, .slice B m d], .slice P q cp] w fun e w' => e = .returned (.int .i64 0) ∧ Below w.heap.size w w' := by
  have hB := h.box (c := c) (d := d)
  obtain ⟨w1, hw1⟩ : ∃ w1, w1 = w.alloc (ltsC N ini A n c B m d) := ⟨_, rfl⟩
  rw [← hw1] at hB
  have he1 := he.below hB.bel (Nat.le_refl _)
  have q1 := hide (hB.sys.valid c d he1)
  have hP1 := hide (hP.below hB.bel (.inr (Nat.le_refl _)))
  have hbn := hB.sys.bounds
  have b0 := hB.box.c0
  have b1 := hB.box.c1
  have b2 := hB.box.c2
  have b3 := hB.box.c3
  replace hB := hide hB
  clear h he he1 hP
  go_enter Tryz.func33, Tryz.ntmps33
  go_upto_region 1 with fail
  rw [← show w1 = w.alloc (.cells #[.int .i64 (N : Int), .int .i64 (ini : Int), .slice A n c, .slice B m d] 27) from hw1]
  replace hw1 := hide hw1
  go_wp2_with fail
  refine q1.out.mono ?_
  rintro e w2 ⟨rfl, hb2⟩
  have hB2 := hide (hB.out.below hb2)
  have hP2 := hide ((hP1.out.below hb2 (.inr (Nat.le_refl _))).here')
  clear q1 b0 b1 b2 b3 hb2
  have qC := containsFuncM_calls 70 #[.pointer (some ⟨w.heap.size, 0, none⟩)] (fun v => !inB v 0 ((N : Int) - 1)) P q cp p w2 _ _ hP2.out (by omega)
    (fun v W => by kernel_rfl)
    (fun v hv W hWb => statesCode1_calls v w.heap.size A n c B m d W (hB2.out.below hWb).box (by omega))
  rw [show p.any (fun v => !inB v 0 ((N : Int) - 1)) = false from by
    rw [List.any_eq_false]
    intro v hv
    have := hp v hv
    rw [inB_true.2 (by omega)]
    decide] at qC
  replace qC := hide qC
  go_wp2_with fail
  refine qC.out.mono ?_
  rintro e w3 ⟨rfl, hb3⟩
  have hbF := hide (hB2.out.bel.trans (hb3.mono hB2.out.bel.size))
  clear qC hb3
  go_wp2_with fail
  go_ret
  exact ⟨rfl, hbF.out⟩

set_option maxRecDepth 100000 in
set_option maxHeartbeats 3200000 in
theorem splitRoundP_calls (h : SysA w N ini A n B m ls es) (c d : Nat) (he : Env w) (k j : Nat) (hk : k < N) (hj : j < N) :
    Calls Tryz.prog 11 #[.agg #[.int .i64 (N : Int), .int .i64 (ini : Int), .slice A n c, .slice B m d], .int .i64 (k : Int), .int .i64 (j : Int)] w fun e w' => ∃ (r : Nat) (i : Int), LastR es N r ∧ SplitA es N r k j i ∧ Below w.heap.size w w' ∧ ((i = -1 ∧ e = .returned (.tuple #[.int .i64 0, .int .i64 3])) ∨ (0 ≤ i ∧ e = .returned (.tuple #[.int .i64 i, .int .i64 0]))) := by
  have hB := h.box (c := c) (d := d)
  obtain ⟨w1, hw1⟩ : ∃ w1, w1 = w.alloc (ltsC N ini A n c B m d) := ⟨_, rfl⟩
  rw [← hw1] at hB
  have he1 := he.below hB.bel (Nat.le_refl _)
  have hbA := (Below.refl w1.heap.size w1).alloc (Nat.le_refl _) (.cells #[.int .i64 (k : Int), .int .i64 (j : Int)] 2)
  have hBA := hB.below hbA
  have hlit : SlI (w1.alloc (.cells #[.int .i64 (k : Int), .int .i64 (j : Int)] 2)) 0 (w1.alloc (.cells #[.int .i64 (k : Int), .int .i64 (j : Int)] 2)).heap.size (some ⟨w1.heap.size, 0, none⟩) 2 [(k : Int), (j : Int)] := (Sl.litJ w1 2 [(k : Int), (j : Int)] #[.int .i64 (k : Int), .int .i64 (j : Int)] rfl).here'
  have q1 := hide (statesCode_calls hBA.sys c d (he1.below hbA (Nat.le_refl _)) (some ⟨w1.heap.size, 0, none⟩) 2 2 _ hlit (by omega) (fun v hv => by
    simp only [List.mem_cons, List.not_mem_nil, or_false] at hv
    rcases hv with rfl | rfl <;> omega))
  have b0 := hB.box.c0
  have b1 := hB.box.c1
  have b2 := hB.box.c2
  have b3 := hB.box.c3
  replace hBA := hide hBA
  have hz1 := hB.bel.size
  replace hB := hide hB
  clear h he he1 hbA hlit
  go_enter Tryz.func11, Tryz.ntmps11
  go_upto_region 1 with fail
  rw [← show w1 = w.alloc (.cells #[.int .i64 (N : Int), .int .i64 (ini : Int), .slice A n c, .slice B m d] 27) from hw1]
  replace hw1 := hide hw1
  go_wp2_with fail
  refine q1.out.mono ?_
  rintro e w2 ⟨rfl, hb2⟩
  have hB2 := hide (hBA.out.below hb2)
  clear q1 b0 b1 b2 b3 hb2
  have b0 := hB2.out.box.c0
  have b1 := hB2.out.box.c1
  have b2 := hB2.out.box.c2
  have b3 := hB2.out.box.c3
  have q2 := hide (splitRound_calls hB2.out.sys c d k j hk hj)
  have hz2 := hB2.out.bel.size
  go_wp2_with fail
  refine q2.out.mono ?_
  rintro e w3 ⟨r, i, rfl, hL, hS, hb3⟩
  have hbF := hide (hB2.out.bel.trans (hb3.mono hz2))
  replace hL := hide hL
  clear q2 b0 b1 b2 b3 hb3
  have hi : i = -1 ∨ 0 ≤ i := by
    rcases hS with ⟨h1, -⟩ | ⟨q, h1, -⟩
    · exact .inl h1
    · right; omega
  replace hS := hide hS
  rcases hi with rfl | hi
  · go_wp2_with fail
    go_ret2
    exact ⟨r, -1, hL.out, hS.out, hbF.out, .inl ⟨rfl, rfl⟩⟩
  · have hi2 : ¬ i < 0 := by omega
    go_wp2_with fail
    go_ret2
    exact ⟨r, i, hL.out, hS.out, hbF.out, .inr ⟨hi, rfl⟩⟩

set_option maxRecDepth 100000 in
theorem itemsOk_calls (k : Int) (w : World) :
    Calls Tryz.prog 137 #[.int .i64 k] w fun e w' => e = .returned (.bool (inB k 1 40)) ∧ w = w' := by
  have q := hide (within_calls k 1 40 w)
  go_enter Tryz.func137, Tryz.ntmps137
  go_wp2_with (first | (go_at_call 61; (with_reducible refine q.out.mono ?_); rintro e w2 ⟨rfl, rfl⟩))
  go_ret
  exact ⟨rfl, rfl⟩
set_option maxRecDepth 100000 in
theorem isPartition_calls (P : Option Addr) (cp : Nat) (p : List Int) (w : World) (lo hi : Nat) (hP : SlI w lo hi P N p) (hN : 1 ≤ N ∧ N ≤ 40) (hp : PartN N p) :
    Calls Tryz.prog 109 #[.slice P N cp] w fun e w' => e = .returned (.bool true) ∧ Below w.heap.size w w' := by
  have q1 := itemsOk_calls (N : Int) w
  rw [inB_true.2 (show (1 : Int) ≤ (N : Int) ∧ (N : Int) ≤ 40 by omega)] at q1
  replace q1 := hide q1
  have q2 := normalF_calls P N cp p w lo hi hP (by omega) (fun x hx => by have := hp.range x hx; omega)
  rw [hp.norm] at q2
  replace q2 := hide q2
  replace hP := hide hP
  clear hp
  go_enter Tryz.func109, Tryz.ntmps109
  go_wp2_with (first | (go_at_call 137; (with_reducible refine q1.out.mono ?_); rintro e w' ⟨rfl, rfl⟩) | fail)
  refine q2.out.mono ?_
  rintro e w2 ⟨Bq, rfl, hB, hb2⟩
  have q3 := equalI_calls P (some ⟨Bq, 0, none⟩) N N cp N p p w2 _ _ _ _ (hP.out.below hb2 (.inr (Nat.le_refl _))) hB (by omega) (by omega)
  rw [decide_eq_true rfl] at q3
  replace q3 := hide q3
  have hz := hb2.size
  replace hb2 := hide hb2
  replace hB := hide hB
  clear q1 q2
  go_wp2_with fail
  refine q3.out.mono ?_
  rintro e w3 ⟨rfl, hb3⟩
  have hbF := hide (hb2.out.trans (hb3.mono hz))
  clear q3 hb3
  go_wp2_with fail
  go_ret
  exact ⟨rfl, hbF.out⟩
set_option maxRecDepth 100000 in
theorem partitionOf_calls (h : SysA w N ini A n B m ls es) (c d : Nat) (P : Option Addr) (cp : Nat) (p : List Int) (hP : SlI w 0 w.heap.size P N p) (hp : PartN N p) :
    Calls Tryz.prog 73 #[.agg #[.int .i64 (N : Int), .int .i64 (ini : Int), .slice A n c, .slice B m d], .slice P N cp] w fun e w' => e = .returned (.bool true) ∧ Below w.heap.size w w' := by
  have hB := h.box (c := c) (d := d)
  obtain ⟨w1, hw1⟩ : ∃ w1, w1 = w.alloc (ltsC N ini A n c B m d) := ⟨_, rfl⟩
  rw [← hw1] at hB
  have hP1 := hP.below hB.bel (.inr (Nat.le_refl _))
  have q1 := hide (isPartition_calls P cp p w1 _ _ hP1 hB.sys.bounds.1 hp)
  have hz1 := hB.bel.size
  have b0 := hB.box.c0
  have b1 := hB.box.c1
  have b2 := hB.box.c2
  have b3 := hB.box.c3
  replace hB := hide hB
  clear h hP hP1
  go_enter Tryz.func73, Tryz.ntmps73
  go_upto_region 1 with fail
  rw [← show w1 = w.alloc (.cells #[.int .i64 (N : Int), .int .i64 (ini : Int), .slice A n c, .slice B m d] 27) from hw1]
  replace hw1 := hide hw1
  go_wp2_with fail
  refine q1.out.mono ?_
  rintro e w2 ⟨rfl, hb2⟩
  have hB2 := hide (hB.out.below hb2)
  clear q1 b0 b1 b2 b3 hb2
  have b0 := hB2.out.box.c0
  have hNN : ((N : Int) == (N : Int)) = true := by simp
  go_wp2_with fail
  go_ret
  exact ⟨by simp, hB2.out.bel⟩

set_option maxRecDepth 100000 in
set_option maxHeartbeats 1600000 in
theorem ltsPartition_calls (h : SysA w N ini A n B m ls es) (c d : Nat) (he : Env w) (P : Option Addr) (cp : Nat) (p : List Int) (hP : SlI w 0 w.heap.size P N p) (hp : PartN N p) :
    Calls Tryz.prog 35 #[.agg #[.int .i64 (N : Int), .int .i64 (ini : Int), .slice A n c, .slice B m d], .slice P N cp] w fun e w' => e = .returned (.int .i64 0) ∧ Below w.heap.size w w' := by
  have hB := h.box (c := c) (d := d)
  obtain ⟨w1, hw1⟩ : ∃ w1, w1 = w.alloc (ltsC N ini A n c B m d) := ⟨_, rfl⟩
  rw [← hw1] at hB
  have he1 := he.below hB.bel (Nat.le_refl _)
  have q1 := hide (hB.sys.valid c d he1)
  have hP1 := hide (hP.below hB.bel (.inr (Nat.le_refl _)))
  have b0 := hB.box.c0
  have b1 := hB.box.c1
  have b2 := hB.box.c2
  have b3 := hB.box.c3
  replace hB := hide hB
  clear h he he1 hP
  go_enter Tryz.func35, Tryz.ntmps35
  go_upto_region 1 with fail
  rw [← show w1 = w.alloc (.cells #[.int .i64 (N : Int), .int .i64 (ini : Int), .slice A n c, .slice B m d] 27) from hw1]
  replace hw1 := hide hw1
  go_wp2_with fail
  refine q1.out.mono ?_
  rintro e w2 ⟨rfl, hb2⟩
  have hB2 := hide (hB.out.below hb2)
  have hP2 := hide ((hP1.out.below hb2 (.inr (Nat.le_refl _))).here')
  clear q1 b0 b1 b2 b3 hb2
  have b0 := hB2.out.box.c0
  have b1 := hB2.out.box.c1
  have b2 := hB2.out.box.c2
  have b3 := hB2.out.box.c3
  have q2 := hide (partitionOf_calls hB2.out.sys c d P cp p hP2.out hp)
  have hz2 := hB2.out.bel.size
  go_wp2_with fail
  refine q2.out.mono ?_
  rintro e w3 ⟨rfl, hb3⟩
  have hbF := hide (hB2.out.bel.trans (hb3.mono hz2))
  clear q2 b0 b1 b2 b3 hb3
  go_wp2_with fail
  go_ret
  exact ⟨rfl, hbF.out⟩

set_option maxRecDepth 100000 in
set_option maxHeartbeats 1600000 in
theorem refineOnce_calls (h : SysA w N ini A n B m ls es) (c d : Nat) (he : Env w) (P : Option Addr) (cp : Nat) (p : List Int) (hP : SlI w 0 w.heap.size P N p) (hp : PartN N p) :
    Calls Tryz.prog 12 #[.agg #[.int .i64 (N : Int), .int .i64 (ini : Int), .slice A n c, .slice B m d], .slice P N cp] w fun e w' => ∃ Q, e = .returned (.tuple #[.slice (some ⟨Q, 0, none⟩) N N, .int .i64 0]) ∧ SlI w' w.heap.size w'.heap.size (some ⟨Q, 0, none⟩) N (refF es N p) ∧ Below w.heap.size w w' := by
  have hB := h.box (c := c) (d := d)
  obtain ⟨w1, hw1⟩ : ∃ w1, w1 = w.alloc (ltsC N ini A n c B m d) := ⟨_, rfl⟩
  rw [← hw1] at hB
  have he1 := he.below hB.bel (Nat.le_refl _)
  have hP1 := (hP.below hB.bel (.inr (Nat.le_refl _))).here'
  have q1 := hide (ltsPartition_calls hB.sys c d he1 P cp p hP1 hp)
  have hm := hB.sys.many
  have b0 := hB.box.c0
  have b1 := hB.box.c1
  have b2 := hB.box.c2
  have b3 := hB.box.c3
  replace hB := hide hB
  replace hP1 := hide hP1
  clear h he he1 hP
  go_enter Tryz.func12, Tryz.ntmps12
  go_upto_region 1 with fail
  rw [← show w1 = w.alloc (.cells #[.int .i64 (N : Int), .int .i64 (ini : Int), .slice A n c, .slice B m d] 27) from hw1]
  replace hw1 := hide hw1
  go_wp2_with fail
  refine q1.out.mono ?_
  rintro e w2 ⟨rfl, hb2⟩
  have hB2 := hide (hB.out.below hb2)
  have hP2 := hide (hP1.out.below hb2 (.inr (Nat.le_refl _)))
  clear q1 b0 b1 b2 b3 hb2
  have b0 := hB2.out.box.c0
  have b1 := hB2.out.box.c1
  have b2 := hB2.out.box.c2
  have b3 := hB2.out.box.c3
  have q2 := hide (refine_calls N ini A n c B m d P cp es p w2 _ _ _ _ hB2.out.sys.se hP2.out (by omega) hB2.out.sys.bounds.1.1 hB2.out.sys.bounds.1.2 hB2.out.sys.edges hB2.out.sys.fewL hp.range)
  have hz2 := hB2.out.bel.size
  go_wp2_with fail
  refine q2.out.mono ?_
  rintro e w3 ⟨Q, rfl, hQ, hb3⟩
  have hbF := hide (hB2.out.bel.trans (hb3.mono hz2))
  have hQ3 := hide (hQ.more hz2 (Nat.le_refl _))
  clear q2 b0 b1 b2 b3 hb3 hQ
  go_wp2_with fail
  go_ret2
  exact ⟨Q, rfl, hQ3.out, hbF.out⟩
end
end Go.Proofs.YtcdhgabcajehnaaGreatDoor

namespace Go.Proofs.YtcdhgabcajehnaaGreatDoor
open Go.ChangeShapes Go.WideShapes Go.ChangeAt Go.RowKit
set_option linter.unusedVariables false
set_option linter.unusedSimpArgs false

/-- A system that is drawn: valid, at most seven states. -/
def SysD (w : World) (e : Ending) (w' : World) : Prop := ∃ (st ini : Nat) (A : Option Addr) (n c : Nat) (B : Option Addr) (m d : Nat) (ls : List ByteArray) (es : List Ed),
  e = .returned (.agg #[.int .i64 (st : Int), .int .i64 (ini : Int), .slice A n c, .slice B m d]) ∧ SysA w' st ini A n B m ls es ∧ st ≤ 7 ∧ n ≤ 7 ∧ m ≤ 64 ∧ NamD ls ∧ Below w.heap.size w w'
set_option maxRecDepth 100000 in
set_option maxHeartbeats 1600000 in
theorem R8Lts_calls (A : Option Addr) (n c : Nat) (code : List Int) (w : World) (h : SlU w 0 w.heap.size A n code) (hc : ∀ x, x ∈ code → 0 ≤ x ∧ x ≤ 255) (hn : n ≤ maxLen) :
    Calls Tryz.prog 7 #[.slice A n c] w (SysD w) := by
  have hb1 := (Below.refl w.heap.size w).alloc (Nat.le_refl _) (.cells #[.int .i64 0, .int .i64 0, .slice none 0 0, .slice none 0 0] 27)
  have k8 := heap_alloc_new w (.cells #[.int .i64 0, .int .i64 0, .slice none 0 0, .slice none 0 0] 27)
  have hz1 : w.heap.size < (w.alloc (.cells #[.int .i64 0, .int .i64 0, .slice none 0 0, .slice none 0 0] 27)).heap.size := by simp
  obtain ⟨w1, hw1⟩ : ∃ w1, w1 = w.alloc (.cells #[.int .i64 0, .int .i64 0, .slice none 0 0, .slice none 0 0] 27) := ⟨_, rfl⟩
  rw [← hw1] at hb1 k8 hz1
  have q1 := hide (l00From_calls A n c code w1 ((h.below hb1 (.inl (Nat.le_refl _))).more (Nat.le_refl _) hb1.size) hc hn)
  replace hb1 := hide hb1
  replace k8 := hide k8
  clear h hc
  go_enter Tryz.func7, Tryz.ntmps7
  go_upto_region 1 with fail
  rw [← hw1]
  replace hw1 := hide hw1
  go_wp2_with fail
  refine q1.out.mono ?_
  rintro e w2 ⟨rfl, hS, hb2, hz2⟩
  have q2 := hide (l15DrawOk_calls w1.heap.size 0 w2 hS (by omega))
  have hlt1 : w1.heap.size < w2.heap.size := hS.lt
  replace hb2 := hide hb2
  replace hz2 := hide hz2
  clear q1 hS
  go_wp2_with fail
  refine q2.out.mono ?_
  rintro e w3 hd
  obtain ⟨st, ini, A2, n2, c2, B2, m2, d2, ls, es, rfl, hsys, h7, h64, hn7, hnam, -, hon, hA, hB⟩ := hd.sys (by omega)
  have hb3 := hide (show Below w1.heap.size w1 w3 from ⟨hon.os.trans hb2.out.os, hon.tape.trans hb2.out.tape, hon.output.trans hb2.out.output, Nat.le_trans hb2.out.size hon.size, fun q hq => (hon.block q (by omega) (by omega)).trans (hb2.out.block q hq)⟩)
  have h8 : w3.heap[w.heap.size]? = _ := (hb3.out.block w.heap.size hz1).trans k8.out
  have a0 : w3.cell? ⟨w.heap.size, 0, none⟩ = some (.int .i64 0) := (cell_of_row _ _ 0 _ _ (0, 0) h8).trans rfl
  have a1 : w3.cell? ⟨w.heap.size, 1, none⟩ = some (.int .i64 0) := (cell_of_row _ _ 1 _ _ (0, 0) h8).trans rfl
  have a2 : w3.cell? ⟨w.heap.size, 2, none⟩ = some (.slice none 0 0) := (cell_of_row _ _ 2 _ _ (0, 0) h8).trans rfl
  have a3 : w3.cell? ⟨w.heap.size, 3, none⟩ = some (.slice none 0 0) := (cell_of_row _ _ 3 _ _ (0, 0) h8).trans rfl
  have z0 : w3.frozen? ⟨w.heap.size, 0, none⟩ = false := frozen_of_row _ _ 0 _ _ h8
  have z1 : w3.frozen? ⟨w.heap.size, 1, none⟩ = false := frozen_of_row _ _ 1 _ _ h8
  have z2 : w3.frozen? ⟨w.heap.size, 2, none⟩ = false := frozen_of_row _ _ 2 _ _ h8
  have z3 : w3.frozen? ⟨w.heap.size, 3, none⟩ = false := frozen_of_row _ _ 3 _ _ h8
  replace h8 := hide h8
  have hm64 : m2 ≤ 64 := by have := hsys.se.len; omega
  replace hA := hide hA
  replace hB := hide hB
  replace hsys := hide hsys
  replace hd := hide hd
  replace hnam := hide hnam
  replace hon := hide hon
  clear q2
  go_wp2_with fail
  (try simp only [Exit.inBlock, Exit.then])
  refine bodyPost_ret_by (v := .agg #[.int .i64 (st : Int), .int .i64 (ini : Int), .slice A2 n2 c2, .slice B2 m2 d2]) ?_ rfl ?_
  focus
    rw [results_cell1 rfl]
    go_simp
  change SysD w _ (put4 w3 w.heap.size _ _ _ _)
  have hZs := put4_size w3 w.heap.size (.int .i64 (st : Int)) (.int .i64 (ini : Int)) (.slice A2 n2 c2) (.slice B2 m2 d2)
  have hz3 := hb3.out.size
  have hz23 := hon.out.size
  refine ⟨st, ini, A2, n2, c2, B2, m2, d2, ls, es, rfl, ⟨?_, ?_, hsys.out.ok, hsys.out.sz⟩, h7, hn7, hm64, hnam.out, ?_⟩
  · exact (Sl.keep hA.out (by omega) fun q h1 h2 h3 => put4_other _ _ _ _ _ _ (by omega)).here'
  · exact (Sl.keep hB.out (by omega) fun q h1 h2 h3 => put4_other _ _ _ _ _ _ (by omega)).here'
  · have h1 := hb1.out.trans (hb3.out.mono (by omega))
    exact ⟨h1.os, h1.tape, h1.output, by omega, fun q hq => (put4_other _ _ _ _ _ _ (by omega)).trans (h1.block q hq)⟩

end Go.Proofs.YtcdhgabcajehnaaGreatDoor

namespace Go.Proofs.YtcdhgabcajehnaaGreatDoor
open Go.ChangeShapes Go.WideShapes Go.Deep Go.RowKit
set_option linter.unusedVariables false

theorem u8_wf {n : Int} (h : (Lit.int .u8 n).wf = true) : 0 ≤ n ∧ n ≤ 255 := by
  simp [Lit.wf, IntKind.min, IntKind.max, IntKind.signed, IntKind.bits] at h
  omega
section
variable {H : Type} {enc : TypeId × Value → H} {P : Program} {w : World} {base : Nat} {spare : Nat → Bool} {held : Bool}
theorem open_SlU {t e : TypeId} (ht : P.underlying t = some (.slice e)) (hC : P.cellsOf e = 1) (hi : P.underlying e = some (.int .u8)) {v : Value} {d : DataW H} {p : List MemPlace} (h : DataW.Trod enc P w base spare held t v d p)
    {n' c' : Nat} {A' : Option Addr} (hv : v = .slice A' n' c') (hz : ∀ b off, MemPlace.cell b off ∈ p → w.frozen? ⟨b, off, none⟩ = false) : ∃ A n c l, v = .slice A n c ∧ n ≤ maxLen ∧ SlU w base w.heap.size A n l ∧ ∀ x, x ∈ l → 0 ≤ x ∧ x ≤ 255 := by
  obtain ⟨fuel, hf⟩ := h
  have key := open_flat (w := w) (base := base) (spare := spare) (held := held) (fun x : {n : Int // 0 ≤ n ∧ n ≤ 255} => byv x.1) ht hC (by omega) (fun fuel cs y hy hl => by
    obtain ⟨a, ea, _, hw⟩ := DataW.trod_int hi hy
    exact ⟨⟨a, u8_wf hw⟩, ea⟩) hf hz
  obtain ⟨A, n, c, l, e1, e2, e3⟩ := key
  subst hv
  simp [Value.cells] at e1
  refine ⟨A, n, c, l.map Subtype.val, by simp [e1], e2, ⟨by rw [List.length_map]; exact e3.1, fun hn => ?_⟩, fun x hx => ?_⟩
  · obtain ⟨b, off, q1, q2, q3, q4, q5⟩ := e3.2 hn
    refine ⟨b, off, q1, q2, q3, q4, fun k x hx j u hu => ?_⟩
    rw [List.getElem?_map] at hx
    cases hk : l[k]? with
    | none => rw [hk] at hx; cases hx
    | some y =>
      rw [hk] at hx
      cases hx
      exact q5 k y hk j u hu
  · obtain ⟨y, -, rfl⟩ := List.mem_map.1 hx
    exact y.2
end

end Go.Proofs.YtcdhgabcajehnaaGreatDoor

namespace Go.Proofs.YtcdhgabcajehnaaGreatDoor.lawFnRounds
open Go.ChangeShapes Go.WideShapes Go.ChangeAt Go.RowKit
set_option linter.unusedVariables false
set_option linter.unusedSimpArgs false

/-- What is known of the round that tells two states apart. -/
structure AskR (es : List Ed) (N r k j : Nat) (n ec : Int) : Prop where
  last : LastR es N r
  code : ec = 0 ∨ ec = 3
  none_ : ec = 3 → (rndP es N r)[k]? = (rndP es N r)[j]?
  some_ : ec = 0 → 1 ≤ n ∧ n ≤ (r : Int) ∧ ∀ s : Nat, s ≤ r → ((rndP es N s)[k]? = (rndP es N s)[j]? ↔ ¬ n ≤ (s : Int))
theorem AskR.of {es : List Ed} {N r r2 k j : Nat} {i : Int} (he : EdIn N es) (hk : k < N) (hj : j < N) (hL : LastR es N r) (hL2 : LastR es N r2) (h : SplitA es N r2 k j i) : (i = -1 → AskR es N r k j 0 3) ∧ (0 ≤ i → AskR es N r k j i 0) := by
  obtain rfl := last_uniq hL2 hL
  refine ⟨fun hi => ⟨hL, .inr rfl, fun _ => ?_, fun h => absurd h (by decide)⟩, fun hi => ⟨hL, .inl rfl, fun h => absurd h (by decide), fun _ => ?_⟩⟩
  · rcases h with ⟨_, h⟩ | ⟨q, h, _⟩
    · exact h
    · omega
  · rcases h with ⟨h, _⟩ | ⟨q, rfl, hq, h1, h2⟩
    · omega
    · have hq1 : 1 ≤ q := by
        by_cases e : q = 0
        · subst e
          exact absurd (rnd_zero hk hj) h2
        · omega
      refine ⟨by omega, by omega, fun s hs => ⟨fun e hle => h2 ?_, fun hle => h1 s (by omega)⟩⟩
      exact rnd_mono he hk hj (show q ≤ s by omega) e
set_option maxRecDepth 100000 in
set_option maxHeartbeats 12800000 in
theorem walk (A B : Option Addr) (n m c d : Nat) (code more : List Int) (w : World) (he : Env w) (h1 : SlU w 0 w.heap.size A n code) (r1 : ∀ x, x ∈ code → 0 ≤ x ∧ x ≤ 255) (hn : n ≤ maxLen) (h2 : SlU w 0 w.heap.size B m more) (r2 : ∀ x, x ∈ more → 0 ≤ x ∧ x ≤ 255) (hm : m ≤ maxLen) :
    Calls Tryz.prog 3 #[.slice A n c, .slice B m d] w fun e w' => e = .returned (.bool true) ∧ Below w.heap.size w w' := by
  by_cases big : 1048576 < n ∨ 1048576 < m
  · have q := hide (fun W => r8Long_yes A B n m c d W big)
    go_enter Tryz.func3, Tryz.ntmps3
    go_wp2_with (first | (go_at_call 6; (with_reducible refine (q.out _).mono ?_); rintro e w' ⟨rfl, rfl⟩))
    go_ret
    exact ⟨rfl, Below.refl _ _⟩
  have q0 := hide (fun W => r8Long_no A B n m c d W (by omega) (by omega))
  have q1 := hide (R8Lts_calls A n c code w h1 r1 hn)
  replace he := hide he
  replace h2 := hide h2
  clear h1
  go_enter Tryz.func3, Tryz.ntmps3
  go_upto_region 3 with (first | (go_at_call 6; (with_reducible refine (q0.out _).mono ?_); rintro e w' ⟨rfl, rfl⟩))
  clear q0
  go_wp2_with fail
  refine q1.out.mono ?_
  rintro e w1 ⟨N, ini, A2, n2, c2, B2, m2, d2, ls, es, rfl, hsys, hN7, hn7, hm64, hnam, hb1⟩
  have he1 := he.out.below hb1 (Nat.le_refl _)
  have hB := hsys.box (c := c2) (d := d2)
  obtain ⟨w2, hw2⟩ : ∃ w2, w2 = w1.alloc (ltsC N ini A2 n2 c2 B2 m2 d2) := ⟨_, rfl⟩
  rw [← hw2] at hB
  have he2 := hide (he1.below hB.bel (Nat.le_refl _))
  have q2 := hide (strongRounds_calls hB.sys c2 d2 he2.out)
  have b0 := hB.box.c0
  have b1 := hB.box.c1
  have b2 := hB.box.c2
  have b3 := hB.box.c3
  obtain ⟨⟨hN1, -⟩, hini⟩ := hsys.bounds
  have h22 := hide ((h2.out.below (hb1.trans (hB.bel.mono hb1.size)) (.inl (Nat.le_refl _))).here')
  have hed := hide hsys.edges
  replace hB := hide hB
  replace hb1 := hide hb1
  replace hnam := hide hnam
  clear q1 hsys he1 h2
  go_upto_region 4 with fail
  rw [← show w2 = w1.alloc (.cells #[.int .i64 (N : Int), .int .i64 (ini : Int), .slice A2 n2 c2, .slice B2 m2 d2] 27) from hw2]
  replace hw2 := hide hw2
  go_wp2_with fail
  refine q2.out.mono ?_
  rintro e w3 ⟨r, rfl, hL, hb3⟩
  have hB3 := hide (hB.out.below hb3)
  have he3 := hide (he2.out.below hb3 (Nat.le_refl _))
  have h23 := hide ((h22.out.below hb3 (.inr (Nat.le_refl _))).here')
  have hrN : r + 1 ≤ N := rnd_bound hed.out hN1 hL.2
  replace hL := hide hL
  clear q2 b0 b1 b2 b3 hb3
  have b0 := hB3.out.box.c0
  have b1 := hB3.out.box.c1
  have b2 := hB3.out.box.c2
  have b3 := hB3.out.box.c3
  have q3 := hide (strongClasses_calls hB3.out.sys c2 d2 he3.out)
  go_wp2_with fail
  refine q3.out.mono ?_
  rintro e w4 ⟨r2', P, cP, rfl, hL2, hP, hb4⟩
  obtain rfl := last_uniq hL2 hL.out
  have hB4 := hide (hB3.out.below hb4)
  have he4 := hide (he3.out.below hb4 (Nat.le_refl _))
  have h24 := hide ((h23.out.below hb4 (.inr (Nat.le_refl _))).here')
  have hP4 := hide hP.here'
  clear q3 b0 b1 b2 b3 hb4 hP hL2
  have b0 := hB4.out.box.c0
  have q4 := hide (r8AtI_calls B m d more 0 N w4 _ _ h24.out r2 hm (by omega) (by omega))
  go_wp2_with fail
  refine q4.out.mono ?_
  rintro e w5 ⟨k, rfl, hk, rfl⟩
  have q5 := hide (r8AtI_calls B m d more 1 N w4 _ _ h24.out r2 hm (by omega) (by omega))
  clear q4
  go_wp2_with fail
  refine q5.out.mono ?_
  rintro e w5 ⟨j, rfl, hj, rfl⟩
  have q6 := hide (splitRoundP_calls hB4.out.sys c2 d2 he4.out k j hk hj)
  clear q5 b0
  have b0 := hB4.out.box.c0
  have b1 := hB4.out.box.c1
  have b2 := hB4.out.box.c2
  have b3 := hB4.out.box.c3
  go_wp2_with fail
  refine q6.out.mono ?_
  rintro e w5 ⟨rs, i, hLs, hS, hb5, hcase⟩
  have hask := AskR.of hed.out hk hj hL.out hLs hS
  have hB5 := hide (hB4.out.below hb5)
  have he5 := hide (he4.out.below hb5 (Nat.le_refl _))
  have hP5 := hide ((hP4.out.below hb5 (.inr (Nat.le_refl _))).here')
  obtain ⟨nn, ec, rfl, hA⟩ : ∃ nn ec : Int, e = .returned (.tuple #[.int .i64 nn, .int .i64 ec]) ∧ AskR es N r2' k j nn ec := by
    rcases hcase with ⟨h, rfl⟩ | ⟨h, rfl⟩
    · exact ⟨0, 3, rfl, hask.1 h⟩
    · exact ⟨i, 0, rfl, hask.2 h⟩
  replace hA := hide hA
  clear q6 b0 b1 b2 b3 hb5 hask hLs hS hcase
  have b0 := hB5.out.box.c0
  obtain ⟨r, rfl⟩ : ∃ r, r = r2' := ⟨_, rfl⟩
  -- the classes of the two states
  obtain ⟨gP, oP, x, rfl, -, -, -, hx, cx, -⟩ := SlI.get hP5.out hk
  obtain ⟨gP2, oP2, y, e2, -, -, -, hy, cy, -⟩ := SlI.get hP5.out hj
  cases e2
  have k0 : (0 : Int) ≤ (k : Int) := by omega
  have k1 : (k : Int) < (N : Int) := by omega
  have j0 : (0 : Int) ≤ (j : Int) := by omega
  have j1 : (j : Int) < (N : Int) := by omega
  have r0 : ¬ (r : Int) < 0 := by omega
  have rN : ¬ (N : Int) < (r : Int) := by omega
  have rN2 : ¬ N < r := by omega
  have rN3 : decide (N < r) = false := decide_eq_false rN2
  have hNN : ((N : Int) == (N : Int)) = true := by simp
  have hz1 := hb1.out.size
  have hz5 := hB5.out.bel.size
  have hmk := run_make_int N (by omega)
  have hLs : Hid (∀ s : Nat, s ≤ r → decide (rndP es N (s + 1) = rndP es N s) = decide (s = r)) := fun s hs => by
    by_cases e : s = r
    · subst e
      rw [decide_eq_true hL.out.1, decide_eq_true rfl]
    · rw [decide_eq_false (hL.out.2 s (by omega)), decide_eq_false e]
  rcases hA.out.code with rfl | rfl
  · have hsome := hA.out.some_ rfl
    obtain ⟨hn1, hn2, hn3⟩ := hsome
    have hxy : ¬ x = y := fun e2 => by
      have := (hn3 r (Nat.le_refl _)).1 (by rw [hx, hy, e2])
      omega
    have g1 : (x == y) = false := beq_eq_false_iff_ne.2 hxy
    replace hxy := hide hxy
    replace hn3 := hide hn3
    replace hx := hide hx
    replace hy := hide hy
    go_upto_region 9 with fail
    go_quiet (fail)
    obtain ⟨wq, hwq⟩ : ∃ wq, wq = w5.drewN nq := ⟨_, rfl⟩
    have hbq : Below w5.heap.size w5 wq := by rw [hwq]; exact below_drewN _ _
    have hBq := hB5.out.below hbq
    have heq := hide (he5.out.below hbq (Nat.le_refl _))
    have hPq := hide ((hP5.out.below hbq (.inr (Nat.le_refl _))).here')
    rw [← hwq]
    have b0 := hBq.box.c0
    have hbz := (Below.refl wq.heap.size wq).alloc (Nat.le_refl _) (.cells (madeCells #[.int .i64 0] N) 2)
    have hz0 : Hid (SlI (wq.alloc (.cells (madeCells #[.int .i64 0] N) 2)) 0 (wq.alloc (.cells (madeCells #[.int .i64 0] N) 2)).heap.size (some ⟨wq.heap.size, 0, none⟩) N (rndP es N 0)) := (made_zeroP wq N).here'
    replace hbz := hide hbz
    replace hBq := hide hBq
    replace hwq := hide hwq
    replace hbq := hide hbq
    clear cx cy
    go_wp2_with fail
    clear b0
    go_loopw [14, 15] (fun v14 v15 wr => ∃ (s : Nat) (Q : Option Addr) (cQ : Nat), s ≤ r + 1 ∧ v15 = .int .i64 (s : Nat) ∧ v14 = .slice Q N cQ ∧ Hid (SlI wr 0 wr.heap.size Q N (rndP es N s)) ∧ Hid (Below wq.heap.size wq wr)) (fun _ v _ => r + 1 - (intOf v).toNat)
    case atStart => exact ⟨0, _, N, Nat.zero_le _, rfl, rfl, hz0.out, hbz.out⟩
    case round =>
      clear hz0 hbz
      obtain ⟨s, Q, cQ, hs, rfl, rfl, hQ, hb⟩ := hrel
      have hzr := hb.out.size
      by_cases hlt : s ≤ r
      · have s1 : (s : Int) ≤ (r : Int) := by omega
        obtain ⟨gQ, oQ, u, rfl, -, -, -, hu, cu, -⟩ := SlI.get hQ.out hk
        obtain ⟨gQ2, oQ2, v, e2, -, -, -, hv, cv, -⟩ := SlI.get hQ.out hj
        cases e2
        have guv : (u != v) = decide (nn ≤ (s : Int)) := by
          have h3 := hn3.out s hlt
          rw [hu, hv] at h3
          by_cases e : u = v
          · have h4 := h3.1 (by rw [e])
            rw [decide_eq_false (by omega), e]; simp
          · have h4 : nn ≤ (s : Int) := by
              by_cases h4 : nn ≤ (s : Int)
              · exact h4
              · exact absurd (Option.some.inj (h3.2 (by omega))) e
            rw [decide_eq_true h4, bne_iff_ne]; exact e
        replace hu := hide hu
        replace hv := hide hv
        go_upto_region 15 with fail
        go_quiet (fail)
        obtain ⟨wt, hwt⟩ : ∃ wt, wt = wr.drewN nq := ⟨_, rfl⟩
        have hbt0 : Below wr.heap.size wr wt := by rw [hwt]; exact below_drewN _ _
        have hbt := hide (hb.out.trans (hbt0.mono hzr))
        have hBt := hBq.out.below hbt.out
        have het := heq.out.below hbt.out (Nat.le_refl _)
        have hQt := (hQ.out.below hbt0 (.inr (Nat.le_refl _))).here'
        rw [← hwt]
        have t0 := hBt.box.c0
        have t1 := hBt.box.c1
        have t2 := hBt.box.c2
        have t3 := hBt.box.c3
        have q7 := hide (refineOnce_calls hBt.sys c2 d2 het (some ⟨gQ, oQ, none⟩) cQ _ hQt (rnd_part s))
        have hzt := hbt.out.size
        replace hBt := hide hBt
        replace hQt := hide hQt
        replace hwt := hide hwt
        replace hbt0 := hide hbt0
        clear cu cv het
        go_upto_region 18 with (first | (go_at_call 12; (with_reducible refine q7.out.mono ?_); rintro e w7 ⟨Q7, rfl, hQ7, hb7⟩))
        have hB7 := hBt.out.below hb7
        have u0 := hB7.box.c0
        have hQ7' := hide hQ7.here'
        have qS := r8Same_calls (some ⟨Q7, 0, none⟩) (some ⟨gQ, oQ, none⟩) N N N cQ (rndP es N (s + 1)) (rndP es N s) w7 _ _ _ _ hQ7 (hQt.out.below hb7 (.inr (Nat.le_refl _))) (by omega) (by omega)
        rw [hLs.out s hlt] at qS
        have hb7' := hide (hbt.out.trans (hb7.mono hzt))
        replace hb7 := hide hb7
        replace hQ7 := hide hQ7
        replace hB7 := hide hB7
        clear q7 t0 t1 t2 t3
        by_cases esr : s = r
        · rw [decide_eq_true esr] at qS
          replace qS := hide qS
          have g2 : ((s : Int) == (r : Int)) = true := by rw [beq_iff_eq]; omega
          replace esr := hide esr
          go_wp2_with (first | (go_at_call 13; (with_reducible refine qS.out.mono ?_); rintro e w8 ⟨rfl, hb8⟩))
          have hb8' := hide (hb7'.out.trans (hb8.mono hb7'.out.size))
          have hQ8 := hide ((hQ7'.out.below hb8 (.inr (Nat.le_refl _))).here')
          go_roundw
          case rel => exact ⟨s + 1, _, N, by omega, by go_num, rfl, hQ8.out, hb8'.out⟩
          case measure => simp [intOf]; omega
        · rw [decide_eq_false esr] at qS
          replace qS := hide qS
          have g2 : ((s : Int) == (r : Int)) = false := beq_eq_false_iff_ne.2 (by omega)
          replace esr := hide esr
          go_wp2_with (first | (go_at_call 13; (with_reducible refine qS.out.mono ?_); rintro e w8 ⟨rfl, hb8⟩))
          have hb8' := hide (hb7'.out.trans (hb8.mono hb7'.out.size))
          have hQ8 := hide ((hQ7'.out.below hb8 (.inr (Nat.le_refl _))).here')
          go_roundw
          case rel => exact ⟨s + 1, _, N, by omega, by go_num, rfl, hQ8.out, hb8'.out⟩
          case measure => simp [intOf]; omega
      · obtain rfl : s = r + 1 := by omega
        have s1 : ¬ ((r + 1 : Nat) : Int) ≤ (r : Int) := by omega
        have qF := r8Same_calls Q (some ⟨gP, oP, none⟩) N N cQ cP _ _ wr _ _ _ _ hQ.out (hPq.out.below hb.out (.inr (Nat.le_refl _))) (by omega) (by omega)
        rw [decide_eq_true hL.out.1] at qF
        replace qF := hide qF
        have hbF := hide (((hb1.out.trans (hB5.out.bel.mono hz1)).trans (hbq.out.mono (by omega))).trans (hb.out.mono (by have := hbq.out.size; omega)))
        have f1 : (1 : Int) ≤ nn := hn1
        have f2 : nn ≤ (r : Int) := hn2
        go_wp2_with fail
        refine qF.out.mono ?_
        rintro e w9 ⟨rfl, hb9⟩
        have hbG := hide (hbF.out.trans (hb9.mono hbF.out.size))
        clear qF hb9
        go_wp2_with fail
        go_ret
        exact ⟨rfl, hbG.out⟩
  · have hnone := hA.out.none_ rfl
    have hxy : x = y := by rw [hx, hy] at hnone; exact Option.some.inj hnone
    subst hxy
    have g1 : (x == x) = true := by simp
    replace hnone := hide hnone
    replace hx := hide hx
    replace hy := hide hy
    go_upto_region 9 with fail
    go_quiet (fail)
    obtain ⟨wq, hwq⟩ : ∃ wq, wq = w5.drewN nq := ⟨_, rfl⟩
    have hbq : Below w5.heap.size w5 wq := by rw [hwq]; exact below_drewN _ _
    have hBq := hB5.out.below hbq
    have heq := hide (he5.out.below hbq (Nat.le_refl _))
    have hPq := hide ((hP5.out.below hbq (.inr (Nat.le_refl _))).here')
    rw [← hwq]
    have b0 := hBq.box.c0
    have hbz := (Below.refl wq.heap.size wq).alloc (Nat.le_refl _) (.cells (madeCells #[.int .i64 0] N) 2)
    have hz0 : Hid (SlI (wq.alloc (.cells (madeCells #[.int .i64 0] N) 2)) 0 (wq.alloc (.cells (madeCells #[.int .i64 0] N) 2)).heap.size (some ⟨wq.heap.size, 0, none⟩) N (rndP es N 0)) := (made_zeroP wq N).here'
    replace hbz := hide hbz
    replace hBq := hide hBq
    replace hwq := hide hwq
    replace hbq := hide hbq
    clear cx cy
    go_wp2_with fail
    clear b0
    go_loopw [14, 15] (fun v14 v15 wr => ∃ (s : Nat) (Q : Option Addr) (cQ : Nat), s ≤ r + 1 ∧ v15 = .int .i64 (s : Nat) ∧ v14 = .slice Q N cQ ∧ Hid (SlI wr 0 wr.heap.size Q N (rndP es N s)) ∧ Hid (Below wq.heap.size wq wr)) (fun _ v _ => r + 1 - (intOf v).toNat)
    case atStart => exact ⟨0, _, N, Nat.zero_le _, rfl, rfl, hz0.out, hbz.out⟩
    case round =>
      clear hz0 hbz
      obtain ⟨s, Q, cQ, hs, rfl, rfl, hQ, hb⟩ := hrel
      have hzr := hb.out.size
      by_cases hlt : s ≤ r
      · have s1 : (s : Int) ≤ (r : Int) := by omega
        obtain ⟨gQ, oQ, u, rfl, -, -, -, hu, cu, -⟩ := SlI.get hQ.out hk
        obtain ⟨gQ2, oQ2, v, e2, -, -, -, hv, cv, -⟩ := SlI.get hQ.out hj
        cases e2
        have guv : u = v := by
          have h3 := rnd_mono hed.out hk hj hlt hnone.out
          unfold sameB at h3
          rw [hu, hv] at h3
          exact Option.some.inj h3
        subst guv
        have guu : (u == u) = true := by simp
        replace hu := hide hu
        replace hv := hide hv
        go_upto_region 15 with fail
        go_quiet (fail)
        obtain ⟨wt, hwt⟩ : ∃ wt, wt = wr.drewN nq := ⟨_, rfl⟩
        have hbt0 : Below wr.heap.size wr wt := by rw [hwt]; exact below_drewN _ _
        have hbt := hide (hb.out.trans (hbt0.mono hzr))
        have hBt := hBq.out.below hbt.out
        have het := heq.out.below hbt.out (Nat.le_refl _)
        have hQt := (hQ.out.below hbt0 (.inr (Nat.le_refl _))).here'
        rw [← hwt]
        have t0 := hBt.box.c0
        have t1 := hBt.box.c1
        have t2 := hBt.box.c2
        have t3 := hBt.box.c3
        have q7 := hide (refineOnce_calls hBt.sys c2 d2 het (some ⟨gQ, oQ, none⟩) cQ _ hQt (rnd_part s))
        have hzt := hbt.out.size
        replace hBt := hide hBt
        replace hQt := hide hQt
        replace hwt := hide hwt
        replace hbt0 := hide hbt0
        clear cu cv het
        go_upto_region 18 with (first | (go_at_call 12; (with_reducible refine q7.out.mono ?_); rintro e w7 ⟨Q7, rfl, hQ7, hb7⟩))
        have hB7 := hBt.out.below hb7
        have u0 := hB7.box.c0
        have hQ7' := hide hQ7.here'
        have qS := r8Same_calls (some ⟨Q7, 0, none⟩) (some ⟨gQ, oQ, none⟩) N N N cQ (rndP es N (s + 1)) (rndP es N s) w7 _ _ _ _ hQ7 (hQt.out.below hb7 (.inr (Nat.le_refl _))) (by omega) (by omega)
        rw [hLs.out s hlt] at qS
        have hb7' := hide (hbt.out.trans (hb7.mono hzt))
        replace hb7 := hide hb7
        replace hQ7 := hide hQ7
        replace hB7 := hide hB7
        clear q7 t0 t1 t2 t3
        by_cases esr : s = r
        · rw [decide_eq_true esr] at qS
          replace qS := hide qS
          have g2 : ((s : Int) == (r : Int)) = true := by rw [beq_iff_eq]; omega
          replace esr := hide esr
          go_wp2_with (first | (go_at_call 13; (with_reducible refine qS.out.mono ?_); rintro e w8 ⟨rfl, hb8⟩))
          have hb8' := hide (hb7'.out.trans (hb8.mono hb7'.out.size))
          have hQ8 := hide ((hQ7'.out.below hb8 (.inr (Nat.le_refl _))).here')
          go_roundw
          case rel => exact ⟨s + 1, _, N, by omega, by go_num, rfl, hQ8.out, hb8'.out⟩
          case measure => simp [intOf]; omega
        · rw [decide_eq_false esr] at qS
          replace qS := hide qS
          have g2 : ((s : Int) == (r : Int)) = false := beq_eq_false_iff_ne.2 (by omega)
          replace esr := hide esr
          go_wp2_with (first | (go_at_call 13; (with_reducible refine qS.out.mono ?_); rintro e w8 ⟨rfl, hb8⟩))
          have hb8' := hide (hb7'.out.trans (hb8.mono hb7'.out.size))
          have hQ8 := hide ((hQ7'.out.below hb8 (.inr (Nat.le_refl _))).here')
          go_roundw
          case rel => exact ⟨s + 1, _, N, by omega, by go_num, rfl, hQ8.out, hb8'.out⟩
          case measure => simp [intOf]; omega
      · obtain rfl : s = r + 1 := by omega
        have s1 : ¬ ((r + 1 : Nat) : Int) ≤ (r : Int) := by omega
        have qF := r8Same_calls Q (some ⟨gP, oP, none⟩) N N cQ cP _ _ wr _ _ _ _ hQ.out (hPq.out.below hb.out (.inr (Nat.le_refl _))) (by omega) (by omega)
        rw [decide_eq_true hL.out.1] at qF
        replace qF := hide qF
        have hbF := hide (((hb1.out.trans (hB5.out.bel.mono hz1)).trans (hbq.out.mono (by omega))).trans (hb.out.mono (by have := hbq.out.size; omega)))
        go_wp2_with fail
        refine qF.out.mono ?_
        rintro e w9 ⟨rfl, hb9⟩
        have hbG := hide (hbF.out.trans (hb9.mono hbF.out.size))
        clear qF hb9
        go_wp2_with fail
        go_ret
        exact ⟨rfl, hbG.out⟩
end Go.Proofs.YtcdhgabcajehnaaGreatDoor.lawFnRounds

namespace Go.Proofs.YtcdhgabcajehnaaGreatDoor
open Go.ChangeShapes Go.WideShapes Go.ChangeAt Go.RowKit Go.Lib
set_option linter.unusedVariables false

def cellsD : DataW Unit → List Value
  | .agg l => l.flatMap fun x => match x with
    | .lit (.int k z) => [.int k z]
    | _ => []
  | _ => []
noncomputable def laidWorld (os : Os) : World :=
  let w0 := World.doorLaid Tryz.prog 400 os
  { w0 with heap := w0.heap.modify 3 fun
      | .cells _ t f => .cells (cellsD Rows.laid_unicode_utf8_first).toArray t f
      | o => o }
theorem laid_met (os : Os) (args : Array Value) : laidMet Tryz.prog Rows.fnRoundsRow.laid ((laidWorld os).forCall (fun _ _ => 0) ⟨#[], args, []⟩).memory :=
  laidMet_of_run' 8 (by kernel_rfl) (by kernel_rfl)

end Go.Proofs.YtcdhgabcajehnaaGreatDoor

namespace Go.Proofs.YtcdhgabcajehnaaGreatDoor
open Go.ChangeShapes Go.WideShapes Go.ChangeAt Go.RowKit Go.Deep
set_option linter.unusedVariables false

abbrev DM := DL × List Int
instance decDM : DecidableEq DM := inferInstanceAs (DecidableEq (DL × List Int))
def ArgM (w : World) (lo hi : Nat) (v : Value) (d : DM) : Prop := ∃ (x : CL) (v4 : Value), v = .agg #[.int .i64 x.1, .int .i64 x.2.1, x.2.2.1, x.2.2.2, v4] ∧ ReadL w lo hi x d.1 ∧ ArgI w lo hi v4 d.2
def totM (d : DM) : Nat := totL d.1 + d.2.length
def FreshM (w : World) (lo hi : Nat) (v : Value) (d : DM) : Prop := ArgM w lo hi v d ∧ totM d ≤ 1048576
section
variable {w w' : World} {lo hi lo' hi' B : Nat} {v : Value} {d : DM}
theorem ArgM.below (h : ArgM w lo hi v d) (hb : Below B w w') (hB : hi ≤ B ∨ w.heap.size ≤ B) : ArgM w' lo hi v d := by
  obtain ⟨x, v4, e, h1, a0⟩ := h
  exact ⟨x, v4, e, h1.below hb hB, a0.below hb hB⟩
theorem FreshM.below (h : FreshM w lo hi v d) (hb : Below B w w') (hB : hi ≤ B ∨ w.heap.size ≤ B) : FreshM w' lo hi v d := ⟨h.1.below hb hB, h.2⟩
end

end Go.Proofs.YtcdhgabcajehnaaGreatDoor

namespace Go.Proofs.YtcdhgabcajehnaaGreatDoor
open Go.ChangeShapes Go.WideShapes Go.ChangeAt Go.RowKit Go.Deep
set_option linter.unusedVariables false

abbrev laidL : List (String × DataW Unit) := Rows.fnRoundsRow.laid
theorem pow_data : (Rows.laid_internal_strconv_uint64pow10 : DataW Unit) = Lib.tabData .u64 Lib.pow10Tab := by kernel_rfl
theorem good_of {W : World} (h : laidMet Tryz.prog laidL W) (hS : W.ShapedOpen Tryz.prog) : Good W := by
  have h3 : laidMet Tryz.prog (("internal/strconv.uint64pow10", Lib.tabData .u64 Lib.pow10Tab) :: [("unicode/utf8.acceptRanges", Rows.laid_unicode_utf8_acceptRanges), ("strconv.ErrRange", Rows.laid_strconv_ErrRange), ("strconv.ErrSyntax", Rows.laid_strconv_ErrSyntax), ("unicode/utf8.first", Rows.laid_unicode_utf8_first)]) W := by
    rw [← pow_data]
    exact h.tail.tail
  have h6 : laidMet Tryz.prog (("strconv.ErrSyntax", Rows.laid_strconv_ErrSyntax) :: [("unicode/utf8.first", Rows.laid_unicode_utf8_first)]) W := h3.tail.tail.tail
  refine ⟨hS, Lib.tabIs_of_head (g := 5) (t := 253) (e := 86) (n := 20) (by kernel_rfl) (by kernel_rfl) Tryz.underlying253 Tryz.underlying86 (by kernel_rfl) (by kernel_rfl) h3, ?_⟩
  obtain ⟨ps, ⟨g0, t0, cs0, f0, p0, q0, hg0, ht0, hv0, hd0, _, e0⟩, _, hrows⟩ := h6
  have hg : Tryz.prog.globalNamed "strconv.ErrSyntax" = some 1 := by kernel_rfl
  have ht : (Tryz.prog.globals[1]?).map (·.type) = some 189 := by kernel_rfl
  obtain rfl := Option.some.inj (hg.symm.trans hg0)
  obtain rfl := Option.some.inj (ht.symm.trans ht0)
  obtain ⟨l0⟩ := cs0
  obtain ⟨_, u, v, e1, _, _⟩ := iface_of_trod Tryz.underlying189 hd0
  have e2 : l0 = [.iface u v] := e1
  subst e2
  exact ⟨u, v, hv0⟩

section
variable {H : Type} {enc : TypeId × Value → H} {P : Program} {w : World} {base : Nat} {spare : Nat → Bool} {held : Bool}
end

end Go.Proofs.YtcdhgabcajehnaaGreatDoor

namespace Go.Proofs.YtcdhgabcajehnaaGreatDoor
open Go.ChangeShapes Go.WideShapes Go.ChangeAt Go.RowKit
set_option linter.unusedVariables false

theorem fact_laid : laidOutB Tryz.pinned.checked.prog = true := by kernel_rfl
theorem fact_maps : mapsRowed Tryz.pinned.checked.prog = true := by kernel_rfl
theorem fact_heard : Tryz.pinned.checked.prog.stopsHeard = true := by kernel_rfl
theorem fact_enter : Tryz.pinned.checked.prog.mayEnter = true := by kernel_rfl
theorem fact_lifts : Tryz.pinned.checked.prog.liftsFinal = Rows.fnRoundsRow.lifted := by kernel_rfl
theorem fact_make : Tryz.pinned.checked.prog.make = some Rows.fnRoundsRow.make := by kernel_rfl
theorem fact_main : Tryz.pinned.checked.prog.mainIs = some (true, "9430849eaac93190a30c850d3d6f92376b2bc0d88c2dabef361d0035d0567ce4".toList) := by kernel_rfl
theorem fact_looks : true = Tryz.pinned.checked.prog.looks [] := by kernel_rfl
theorem plain_laid : (laidL.filter fun x => x.2.handleName?.isSome) = [] := by kernel_rfl
theorem pre_laid {H : Type} {enc : TypeId × Value → H} {P : Program} {f : Func} {s : OpenSpec} {c : OpenClaim} (hl : c.laid = laidL) :
    c.pre enc P f s = fun w args => (s.pre enc P f c.domain c.apart w args ∧ laidMet P laidL w) ∧ sizedMet enc P f s c.apart w args := by
  obtain ⟨x, r, e⟩ : ∃ x r, laidL = x :: r := ⟨_, _, rfl⟩
  have hp := plain_laid
  funext w args
  unfold OpenClaim.pre OpenClaim.preLaid
  rw [hl]
  rw [e] at hp ⊢
  show ((_ ∧ laidMetH P (x :: r) w) ∧ _) = _
  unfold laidMetH
  rw [hp]

end Go.Proofs.YtcdhgabcajehnaaGreatDoor
