/-
  Several texts in one:
  The states that internal edges reach from one, by the reference. Conditions: sizes.
  The states that may answer a label, by the reference: kinds without internal edges. Conditions: sizes.
  The states that may answer a label, by the reference: with internal edges. Conditions: sizes.
  The labels of the edges from a state, by the reference. Conditions: sizes.
  Rows of bools that grow, and the reference's table of pairs. Conditions: none.
  Whether all edges of a pair are answered within a table, by the reference. Conditions: sizes.
  The next round of a table, by the reference. Conditions: sizes.
  The first round of a table, by the reference. Conditions: sizes.
  The greatest simulation, by the reference. Conditions: sizes.
-/
import Derived.Test.YthlaoedpjloloaaGreatDoorBaseF
import Derived.Deep.LoopGhost
import Derived.Deep.DeepCutAuto
import Derived.StillTailTactics
import Derived.Test.YthlaoedpjloloaaGreatDoorBaseA
import Derived.Test.YthlaoedpjloloaaGreatDoorBaseC
import Derived.Deep.RegionHeld3
namespace Go.Proofs.YthlaoedpjloloaaGreatDoor
open Go.ChangeShapes Go.WideShapes Go.ChangeAt Go.RowKit Go.Sort
set_option linter.unusedVariables false
set_option linter.unusedSimpArgs false

/-- A row of zeros. -/
def ZeO (w : World) (O n : Nat) : Prop := O < w.heap.size ∧ ∀ k, k < n → w.cell? ⟨O, k, none⟩ = some (.int .i64 0)
theorem ZeO.below {w w' : World} {O n : Nat} (h : ZeO w O n) {B : Nat} (hb : Below B w w') (hB : O < B) : ZeO w' O n :=
  ⟨Nat.lt_of_lt_of_le h.1 hb.size, fun k hk => (hb.cell (p := ⟨O, k, none⟩) hB).trans (h.2 k hk)⟩
theorem ZeO.made (w : World) (n : Nat) : ZeO (w.alloc (.cells (madeCells #[.int .i64 0] n) 2)) w.heap.size n := by
  refine ⟨by rw [World.size_alloc]; omega, fun k hk => ?_⟩
  have hg := heap_alloc_new w (.cells (madeCells #[.int .i64 0] n) 2)
  refine (cell_of_row _ _ k _ _ (0, 0) hg).trans ?_
  simp [madeCells, hk, Nat.mod_one]

set_option maxRecDepth 100000 in
set_option maxHeartbeats 1600000 in
theorem l15Inert_calls (bE O n : Nat) (lb : Int) (f tg : Nat) (w : World) (z0 : w.cell? ⟨bE, 0, none⟩ = some (.int .i64 (f : Int))) (z1 : w.cell? ⟨bE, 1, none⟩ = some (.int .i64 lb)) (z2 : w.cell? ⟨bE, 2, none⟩ = some (.int .i64 (tg : Int))) (hO : ZeO w O n) (hf : f < n) (ht : tg < n) :
    Calls Tryz.prog 141 #[.pointer (some ⟨bE, 0, none⟩), .slice (some ⟨O, 0, none⟩) n n] w fun e w' => e = .returned (.bool (decide (lb = 0))) ∧ ∃ nq, w' = w.drewN nq := by
  have o0 := hO.2 f hf
  have o1 := hO.2 tg ht
  have hI2 : (0 : Int) ≤ (f : Int) := by omega
  have hI3 : (f : Int) < (n : Int) := by omega
  have hI4 : (0 : Int) ≤ (tg : Int) := by omega
  have hI5 : (tg : Int) < (n : Int) := by omega
  clear hO
  by_cases hl : lb = 0
  · subst hl
    go_enter Tryz.func141, Tryz.ntmps141
    go_wp2
    go_quiet (fail)
    go_wp2
    go_ret
    exact ⟨rfl, _, rfl⟩
  · have hd : Hid (decide (lb = 0) = false) := decide_eq_false hl
    have hl' : (lb == 0) = false := by rw [beq_eq_false_iff_ne]; exact hl
    clear hl
    go_enter Tryz.func141, Tryz.ntmps141
    go_wp2
    go_quiet (fail)
    go_wp2
    go_ret
    exact ⟨ret_b (by rw [hd.out]), _, rfl⟩

set_option maxRecDepth 100000 in
set_option maxHeartbeats 3200000 in
theorem l15Reach_calls (bt : Nat) (x : CL) (n : Nat) (ini : Int) (ls : List ByteArray) (es : List Ed) (O k0 : Nat) (w : World) (h : LtsAt w bt x ((n : Int), ini, ls, es)) (hval : ltsV ((n : Int), ini, ls, es) = true) (hO : ZeO w O n) (hk0 : k0 < n) :
    Calls Tryz.prog 123 #[.pointer (some ⟨bt, 0, none⟩), .slice (some ⟨O, 0, none⟩) n n, .int .i64 (k0 : Int)] w fun e w' => ∃ B l, e = .returned (.slice (some ⟨B, 0, none⟩) n n) ∧ BoB w' B n l ∧ w.heap.size ≤ B ∧ (∀ v : Int, 0 ≤ v → (inS l v.toNat = true ↔ TauC es ls (· = (k0 : Int)) v)) ∧ Below w.heap.size w w' := by
  obtain ⟨s0, s1, v2, v3⟩ := x
  have hb40 := (lts_boundsB hval).1
  obtain ⟨⟨e0, e1, -, ⟨A3, n3, k3, e3, hn3, t3⟩⟩, htot, hbt, c0, -, -, c3⟩ := h
  dsimp only at *
  subst e0 e1 e3
  have l3 := t3.len
  have hes : n3 ≤ 1048576 := by rw [← l3]; exact Nat.le_trans (totL_edg ((n : Int), s1, ls, es)) htot
  have hmk := run_make_bool n (by omega)
  have hw0 : Below w.heap.size w (w.alloc (.cells (madeCells #[.bool false] n) 4)) := (Below.refl _ _).alloc (Nat.le_refl _) _
  have hm0 := BoB.made w n
  obtain ⟨d0, d1, d2, d3⟩ := hm0.get hk0
  have hw1 := hide (hw0.setCell (p := ⟨w.heap.size, k0, none⟩) (Nat.le_refl _) (.bool true))
  have hl0 := hide (d3 true)
  have hlen0 : ((setOf n fun _ => false).set k0 true).length = n := by rw [List.length_set, setOf_len]
  have hbase : Hid (∀ v, TauC es ls (fun u => 0 ≤ u ∧ inS ((setOf n fun _ => false).set k0 true) u.toNat = true) v ↔ TauC es ls (· = (k0 : Int)) v) := fun v => TauC.congr (fun u => by
    rw [inS_set (by rw [setOf_len]; exact hk0), inS_setOf]
    constructor
    · rintro ⟨g1, g2⟩
      split at g2
      · omega
      · simp at g2
    · rintro rfl
      exact ⟨by omega, by rw [Int.toNat_natCast, if_pos rfl]⟩) v
  replace l3 := hide l3
  replace t3 := hide t3
  replace hval := hide hval
  have hst : Hid (CloI es ls ((setOf n fun _ => false).set k0 true) ((setOf n fun _ => false).set k0 true) n n3 true) := ⟨hlen0, fun v hv => .base ⟨by omega, by rw [Int.toNat_natCast]; exact hv⟩, fun v hv => hv, fun e => by cases e⟩
  replace hO := hide hO
  have hI2 : (0 : Int) ≤ (k0 : Int) := by omega
  have hI3 : (k0 : Int) < (n : Int) := by omega
  clear htot hn3 hm0 d3 hw0
  go_enter Tryz.func123, Tryz.ntmps123
  go_upto_region 2 with fail
  generalize (w.alloc (.cells (madeCells #[.bool false] n) 4)) = Wa at *
  go_upto_region 4 with fail
  clear hmk d0 d1 d2 hI2 hI3
  generalize (Wa.setCell ⟨w.heap.size, k0, none⟩ (.bool true)) = W0 at *
  generalize (setOf n fun _ => false).set k0 true = l0 at *
  go_loopg [8] (l0.count false + 1) (fun N m wr => ∃ (l : List Bool) (mm : Bool), m = .bool mm ∧ Hid (CloI es ls l0 l n n3 mm) ∧ Hid (BoB wr w.heap.size n l) ∧ Hid (l.count false + mm.toNat ≤ N) ∧ Hid (Below w.heap.size w wr))
  case atStart => exact ⟨l0, true, rfl, hst, hl0, by show _ ≤ _; simp, hw1⟩
  case round =>
    clear hst hl0 hw1
    obtain ⟨l, mm, rfl, hc, hbo, hN, hsv⟩ := hrel
    cases mm with
    | false =>
      have hfin := hide (fun v hv => (hc.out.done hval.out (by have := l3.out; omega) v hv).trans (hbase.out v))
      clear hc
      go_wp2_with fail
      go_ret
      exact ⟨_, l, rfl, hbo.out, Nat.le_refl _, hfin.out, hsv.out⟩
    | true =>
      obtain ⟨N, rfl⟩ : ∃ N, gk = N + 1 := ⟨gk - 1, by have := hN.out; simp only [Bool.toNat_true] at this; omega⟩
      have hc1 := hide hc.out.again
      have hN1 : Hid (l.count false + false.toNat ≤ N) := by have := hN.out; simp only [Bool.toNat_true] at this; show _ ≤ _; simp; omega
      clear hc hN
      go_upto_region 7 with fail
      go_loopg [8, 9] n3 (fun G m i wr => ∃ (j : Nat) (l : List Bool) (mm : Bool), j ≤ n3 ∧ m = .bool mm ∧ i = .int .i64 (j : Nat) ∧ Hid (CloI es ls l0 l n j mm) ∧ Hid (BoB wr w.heap.size n l) ∧ Hid (l.count false + mm.toNat ≤ N) ∧ Hid (Below w.heap.size w wr) ∧ Hid (n3 - j ≤ G))
      case atStart => exact ⟨0, l, false, Nat.zero_le _, rfl, rfl, hc1, hbo, hN1, hsv, by show _ ≤ _; omega⟩
      case round =>
        clear hc1 hbo hN1 hsv
        obtain ⟨j, l, mm, hj, rfl, rfl, hc, hbo, hN, hsv, hG⟩ := hrel
        have hb9 := hsv.out
        have y3 := (hb9.cell (p := ⟨bt, 3, none⟩) hbt).trans c3
        by_cases hlt : j < n3
        · obtain ⟨G2, rfl⟩ : ∃ G2, gk = G2 + 1 := ⟨gk - 1, by have := hG.out; omega⟩
          have hG2 : Hid (n3 - (j + 1) ≤ G2) := by have := hG.out; show _ ≤ _; omega
          obtain ⟨b, off, f, lb, tg, rfl, -, -, g3, hx, p0, p1, p2, -, -, -⟩ := SlE.get t3.out hlt
          replace p0 := (hb9.cell g3).trans p0
          replace p1 := (hb9.cell (p := ⟨b, off + j * 3 + 1, none⟩) g3).trans p1
          replace p2 := (hb9.cell (p := ⟨b, off + j * 3 + 2, none⟩) g3).trans p2
          have hed := edge_of hval.out hx
          obtain ⟨fn, rfl⟩ : ∃ fn : Nat, f = (fn : Int) := ⟨f.toNat, by omega⟩
          obtain ⟨tn, rfl⟩ : ∃ tn : Nat, tg = (tn : Int) := ⟨tg.toNat, by omega⟩
          have hfn : fn < n := by omega
          have htn : tn < n := by omega
          have hbE : Below wr.heap.size wr (wr.alloc (.cells #[.int .i64 (fn : Int), .int .i64 lb, .int .i64 (tn : Int)] 99)) := (Below.refl _ _).alloc (Nat.le_refl _) _
          have kE := heap_alloc_new wr (.cells #[.int .i64 (fn : Int), .int .i64 lb, .int .i64 (tn : Int)] 99)
          have z0 : (wr.alloc (.cells #[.int .i64 (fn : Int), .int .i64 lb, .int .i64 (tn : Int)] 99)).cell? ⟨wr.heap.size, 0, none⟩ = some (.int .i64 (fn : Int)) := (cell_of_row _ _ 0 _ _ (0, 0) kE).trans rfl
          have z1 : (wr.alloc (.cells #[.int .i64 (fn : Int), .int .i64 lb, .int .i64 (tn : Int)] 99)).cell? ⟨wr.heap.size, 1, none⟩ = some (.int .i64 lb) := (cell_of_row _ _ 1 _ _ (0, 0) kE).trans rfl
          have z2 : (wr.alloc (.cells #[.int .i64 (fn : Int), .int .i64 lb, .int .i64 (tn : Int)] 99)).cell? ⟨wr.heap.size, 2, none⟩ = some (.int .i64 (tn : Int)) := (cell_of_row _ _ 2 _ _ (0, 0) kE).trans rfl
          have hboE := hbo.out.below hbE
          obtain ⟨f0, f1, f2, -⟩ := hboE.get (k := fn) (by omega)
          obtain ⟨m0, m1, -, m3⟩ := hboE.get (k := tn) (by omega)
          have hsE0 := hb9.trans (hbE.mono hb9.size)
          have hsE := hide hsE0
          have qI := hide (l15Inert_calls wr.heap.size O n lb fn tn _ z0 z1 z2 (hO.out.below hsE0 hO.out.1) hfn htn)
          have hI0 : (0 : Int) ≤ (j : Int) := by omega
          have hI1 : (j : Int) < (n3 : Int) := by omega
          have hI2 : (0 : Int) ≤ (fn : Int) := by omega
          have hI3 : (fn : Int) < (n : Int) := by omega
          have hI4 : (0 : Int) ≤ (tn : Int) := by omega
          have hI5 : (tn : Int) < (n : Int) := by omega
          have hmt := hide (m3 true)
          have hboE' := hide hboE
          have hx' := hide hx
          clear kE hbE hbo hb9 hboE hed m3 hsv hx hsE0
          go_upto_region 10 with fail
          clear y3 p0 p1 p2
          generalize (wr.alloc (.cells #[.int .i64 (fn : Int), .int .i64 lb, .int .i64 (tn : Int)] 99)) = WE at *
          cases hf : inS l fn with
          | false =>
            have hc2 := hide (hc.out.skip hx'.out fun _ h1 => by dsimp only at h1; rw [Int.toNat_natCast, hf] at h1; cases h1)
            rw [hf] at f0
            clear hc hf hmt qI
            go_wp2_with fail
            go_roundg G2
            case measure => omega
            case rel => exact ⟨j + 1, l, mm, by omega, rfl, by go_num, hc2, hboE', hN, hsE, hG2⟩
          | true =>
            rw [hf] at f0
            cases ht : inS l tn with
            | true =>
              have hc2 := hide (hc.out.skip hx'.out fun _ _ => by dsimp only; rw [Int.toNat_natCast]; exact ht)
              rw [ht] at m0
              clear hc hf ht hmt qI
              go_wp2_with fail
              go_roundg G2
              case measure => omega
              case rel => exact ⟨j + 1, l, mm, by omega, rfl, by go_num, hc2, hboE', hN, hsE, hG2⟩
            | false =>
              rw [ht] at m0
              by_cases hl : lb = 0
              · have hq : decide (lb = 0) = true := decide_eq_true hl
                rw [hq] at qI
                have hc2 := hide (hc.out.hit hval.out hx'.out hl (by dsimp only; rw [Int.toNat_natCast]; exact hf) (by dsimp only; rw [Int.toNat_natCast]; omega))
                simp only [Int.toNat_natCast] at hc2
                have hcnt : Hid ((l.set tn true).count false + true.toNat ≤ N) := by
                  have h1 := inS_get (s := l) (v := tn) (by rw [hc.out.len]; omega)
                  rw [ht] at h1
                  have h2 := count_set h1
                  have h3 := hN.out
                  simp only [Bool.not_false] at h2
                  show _ ≤ _
                  simp only [Bool.toNat_true]
                  omega
                have hfin := hide fun (nq : Nat) => (show BoB (WE.drewN nq) w.heap.size n l from hboE'.out.below (⟨rfl, rfl, rfl, Nat.le_refl _, fun _ _ => rfl⟩)).get htn
                have hsE2 := hide fun (nq : Nat) => (show Below w.heap.size w (WE.drewN nq) from ⟨hsE.out.os, hsE.out.tape, hsE.out.output, hsE.out.size, hsE.out.block⟩)
                clear hc hf ht hN hl hq hmt
                go_wp2_with (first | (go_at_call 141; (with_reducible refine qI.out.mono ?_); rintro e w5 ⟨rfl, nq, rfl⟩; have y0 : (WE.drewN nq).cell? ⟨wr.heap.size, 2, none⟩ = some (.int .i64 (tn : Int)) := z2; have y1 : (WE.drewN nq).cell? ⟨w.heap.size, tn, none⟩ = some (.bool false) := m0; have y2 : (WE.drewN nq).frozen? ⟨w.heap.size, tn, none⟩ = false := m1; have hbo7 := hide (((hfin.out nq).2.2.2) true); have hs7 := hide ((hsE2.out nq).setCell (p := ⟨w.heap.size, tn, none⟩) (Nat.le_refl _) (.bool true)); clear hfin hsE2 qI; generalize (WE.drewN nq) = wq at *))
                go_roundg G2
                case measure => omega
                case rel => exact ⟨j + 1, _, true, by omega, rfl, by go_num, hc2, hbo7, hcnt, hs7, hG2⟩
              · have hq : decide (lb = 0) = false := decide_eq_false hl
                rw [hq] at qI
                have hc2 := hide (hc.out.skip hx'.out fun h1 => absurd h1 hl)
                have hfin := hide fun (nq : Nat) => (show BoB (WE.drewN nq) w.heap.size n l from hboE'.out.below (⟨rfl, rfl, rfl, Nat.le_refl _, fun _ _ => rfl⟩))
                have hsE2 := hide fun (nq : Nat) => (show Below w.heap.size w (WE.drewN nq) from ⟨hsE.out.os, hsE.out.tape, hsE.out.output, hsE.out.size, hsE.out.block⟩)
                clear hc hmt hl hq hf ht
                go_wp2_with (first | (go_at_call 141; (with_reducible refine qI.out.mono ?_); rintro e w5 ⟨rfl, nq, rfl⟩; have hbo7 := hide (hfin.out nq); have hs7 := hide (hsE2.out nq); clear hfin hsE2 qI; generalize (WE.drewN nq) = wq at *))
                go_roundg G2
                case measure => omega
                case rel => exact ⟨j + 1, l, mm, by omega, rfl, by go_num, hc2, hbo7, hN, hs7, hG2⟩
        · have hjn : j = n3 := by omega
          subst hjn
          go_wp2_with fail
          go_roundg N
          case measure => omega
          case rel => exact ⟨l, mm, rfl, hc, hbo, hN, hsv⟩

end Go.Proofs.YthlaoedpjloloaaGreatDoor

namespace Go.Proofs.YthlaoedpjloloaaGreatDoor
open Go.ChangeShapes Go.WideShapes Go.ChangeAt Go.RowKit Go.Sort
set_option linter.unusedVariables false
set_option linter.unusedSimpArgs false

theorem find_lab {l : List ByteArray} {lab : ByteArray} {i : Int} (h : FindI l lab i) (hn : namesB l = true) {lb : Int} (h0 : 0 ≤ lb) : l[lb.toNat]? = some lab ↔ lb = i := by
  rcases h with ⟨rfl, h⟩ | ⟨k, rfl, hk, -⟩
  · constructor
    · intro e
      unfold anyL at h
      rw [List.any_eq_false] at h
      exact absurd (decide_eq_true rfl) (h lab (List.mem_of_getElem? e))
    · intro e; omega
  · constructor
    · intro e
      have := labs_uniq hn e hk
      omega
    · rintro rfl
      rw [Int.toNat_natCast]
      exact hk
theorem ex_take_succ {α : Type} {es : List α} {j : Nat} {x : α} (hx : es[j]? = some x) {p : α → Prop} : (∃ e ∈ es.take (j + 1), p e) ↔ (∃ e ∈ es.take j, p e) ∨ p x := by
  rw [List.take_add_one, hx]
  constructor
  · rintro ⟨e, he, h⟩
    rcases List.mem_append.1 he with he | he
    · exact .inl ⟨e, he, h⟩
    · have : e = x := by simpa using he
      subst this
      exact .inr h
  · rintro (⟨e, he, h⟩ | h)
    · exact ⟨e, List.mem_append.2 (.inl he), h⟩
    · exact ⟨x, List.mem_append.2 (.inr (by simp)), h⟩

set_option maxRecDepth 100000 in
set_option maxHeartbeats 1600000 in
theorem l17TargetsN_calls (bt : Nat) (x : CL) (n : Nat) (ini : Int) (ls : List ByteArray) (es : List Ed) (y : Int) (lab : ByteArray) (K : Int) (w : World) (h : LtsAt w bt x ((n : Int), ini, ls, es)) (hval : ltsV ((n : Int), ini, ls, es) = true) (hK : K ≠ 2) :
    Calls Tryz.prog 103 #[.pointer (some ⟨bt, 0, none⟩), .int .i64 y, .string lab, .int .i64 K] w fun e w' => ∃ B l, e = .returned (.slice (some ⟨B, 0, none⟩) n n) ∧ BoB w' B n l ∧ (∀ v : Nat, v < n → (inS l v = true ↔ stepW K es ls y lab (v : Int))) ∧ Below w.heap.size w w' := by
  obtain ⟨s0, s1, v2, v3⟩ := x
  have hb40 := (lts_boundsB hval).1
  obtain ⟨⟨e0, e1, ⟨A2, n2, k2, e2, hn2, hs2, t2⟩, ⟨A3, n3, k3, e3, hn3, t3⟩⟩, htot, hbt, c0, -, c2, c3⟩ := h
  dsimp only at *
  subst e0 e1 e2 e3
  have l2 := t2.len
  have l3 := t3.len
  have hls : n2 ≤ 1048576 := by rw [← l2]; exact Nat.le_trans (totL_lab ((n : Int), s1, ls, es)) htot
  have hes : n3 ≤ 1048576 := by rw [← l3]; exact Nat.le_trans (totL_edg ((n : Int), s1, ls, es)) htot
  have hmk := run_make_bool n (by omega)
  have hw0 : Below w.heap.size w (w.alloc (.cells (madeCells #[.bool false] n) 4)) := (Below.refl _ _).alloc (Nat.le_refl _) _
  have hl0 := hide (BoB.made w n)
  have hqf := hide (l11Find_calls lab A2 n2 k2 ls _ _ _ (t2.below hw0 (.inr (Nat.le_refl _))) hls)
  have hstep : Hid (∀ v : Int, stepW K es ls y lab v ↔ ∃ e ∈ es, e.1 = y ∧ ls[e.2.1.toNat]? = some lab ∧ e.2.2 = v) := fun v => by unfold stepW; rw [if_neg hK]
  have hK1 : (K != 2) = true := by simpa using hK
  have hinv : Hid (∀ v : Nat, inS (setOf n fun _ => false) v = true ↔ ∃ e ∈ es.take 0, e.1 = y ∧ ls[e.2.1.toNat]? = some lab ∧ e.2.2 = (v : Int)) := fun v => by rw [inS_setOf]; simp
  have c2' := (hw0.cell (p := ⟨bt, 2, none⟩) hbt).trans c2
  replace hw0 := hide hw0
  replace l3 := hide l3
  replace t3 := hide t3
  replace hval := hide hval
  clear htot hn2 hn3 hs2 t2 l2 hK
  go_enter Tryz.func103, Tryz.ntmps103
  go_upto_region 3 with fail
  clear hmk
  generalize (w.alloc (.cells (madeCells #[.bool false] n) 4)) = W0 at *
  go_upto_region 4 with (first | (go_at_call 111; (with_reducible refine hqf.out.mono ?_); rintro e w1 ⟨i, rfl, hf, rfl⟩; replace hf := hide hf))
  go_upto_region 5 with fail
  clear hqf
  go_loopg [11] n3 (fun G ii wr => ∃ (j : Nat) (l : List Bool), j ≤ n3 ∧ ii = .int .i64 (j : Nat) ∧ Hid (BoB wr w.heap.size n l) ∧ Hid (∀ v : Nat, inS l v = true ↔ ∃ e ∈ es.take j, e.1 = y ∧ ls[e.2.1.toNat]? = some lab ∧ e.2.2 = (v : Int)) ∧ Hid (Below w.heap.size w wr) ∧ Hid (n3 - j ≤ G))
  case atStart => exact ⟨0, _, Nat.zero_le _, rfl, hl0, hinv, hw0, by show _ ≤ _; omega⟩
  case round =>
    clear hl0 hinv hw0 c2'
    obtain ⟨j, l, hj, rfl, hbo, hinv, hsv, hG⟩ := hrel
    have y3 := (hsv.out.cell (p := ⟨bt, 3, none⟩) hbt).trans c3
    by_cases hlt : j < n3
    · obtain ⟨G2, rfl⟩ : ∃ G2, gk = G2 + 1 := ⟨gk - 1, by have := hG.out; omega⟩
      have hG2 : Hid (n3 - (j + 1) ≤ G2) := by have := hG.out; show _ ≤ _; omega
      obtain ⟨b, off, f, lb, tg, rfl, -, -, g3, hx, p0, p1, p2, -, -, -⟩ := SlE.get t3.out hlt
      replace p0 := (hsv.out.cell g3).trans p0
      replace p1 := (hsv.out.cell (p := ⟨b, off + j * 3 + 1, none⟩) g3).trans p1
      replace p2 := (hsv.out.cell (p := ⟨b, off + j * 3 + 2, none⟩) g3).trans p2
      have hed := edge_of hval.out hx
      have hfl := find_lab hf.out (names_of hval.out) hed.2.2.1
      obtain ⟨tn, rfl⟩ : ∃ tn : Nat, tg = (tn : Int) := ⟨tg.toNat, by omega⟩
      have htn : tn < n := by omega
      obtain ⟨m0, m1, -, m3⟩ := hbo.out.get htn
      have hsu := fun v : Nat => ex_take_succ (p := fun e : Ed => e.1 = y ∧ ls[e.2.1.toNat]? = some lab ∧ e.2.2 = (v : Int)) hx
      dsimp only at hsu
      have hI0 : (0 : Int) ≤ (j : Int) := by omega
      have hI1 : (j : Int) < (n3 : Int) := by omega
      have hI4 : (0 : Int) ≤ (tn : Int) := by omega
      have hI5 : (tn : Int) < (n : Int) := by omega
      by_cases hfy : f = y
      · by_cases hl : lb = i
        · have hbo2 := hide (m3 true)
          have hs2 := hide (hsv.out.setCell (p := ⟨w.heap.size, tn, none⟩) (Nat.le_refl _) (.bool true))
          have hinv2 : Hid (∀ v : Nat, inS (l.set tn true) v = true ↔ ∃ e ∈ es.take (j + 1), e.1 = y ∧ ls[e.2.1.toNat]? = some lab ∧ e.2.2 = (v : Int)) := fun v => by
            rw [hsu v, ← hinv.out v, inS_set (by rw [hbo.out.1]; exact htn)]
            split
            · rename_i e; subst e; exact ⟨fun _ => .inr ⟨hfy, hfl.2 hl, rfl⟩, fun _ => rfl⟩
            · rename_i e
              constructor
              · exact .inl
              · rintro (g | g)
                · exact g
                · exact absurd (by have := g.2.2; omega) e
          subst hfy hl
          clear hbo hinv hsv hx hed hfl hsu m3
          go_wp2_with fail
          go_roundg G2
          case measure => omega
          case rel => exact ⟨j + 1, _, by omega, by go_num, hbo2, hinv2, hs2, hG2⟩
        · have hinv2 : Hid (∀ v : Nat, inS l v = true ↔ ∃ e ∈ es.take (j + 1), e.1 = y ∧ ls[e.2.1.toNat]? = some lab ∧ e.2.2 = (v : Int)) := fun v => by
            rw [hsu v, ← hinv.out v]
            exact ⟨.inl, fun g => g.elim id fun g => absurd (hfl.1 g.2.1) hl⟩
          have hl' : (lb == i) = false := by rw [beq_eq_false_iff_ne]; exact hl
          subst hfy
          clear hinv hx hed hfl hsu m3 hl
          go_wp2_with fail
          go_roundg G2
          case measure => omega
          case rel => exact ⟨j + 1, l, by omega, by go_num, hbo, hinv2, hsv, hG2⟩
      · have hinv2 : Hid (∀ v : Nat, inS l v = true ↔ ∃ e ∈ es.take (j + 1), e.1 = y ∧ ls[e.2.1.toNat]? = some lab ∧ e.2.2 = (v : Int)) := fun v => by
          rw [hsu v, ← hinv.out v]
          exact ⟨.inl, fun g => g.elim id fun g => absurd g.1 hfy⟩
        have hf' : (f == y) = false := by rw [beq_eq_false_iff_ne]; exact hfy
        clear hinv hx hed hfl hsu m3 hfy
        go_wp2_with fail
        go_roundg G2
        case measure => omega
        case rel => exact ⟨j + 1, l, by omega, by go_num, hbo, hinv2, hsv, hG2⟩
    · have hjn : j = n3 := by omega
      subst hjn
      have hfin : Hid (∀ v : Nat, inS l v = true ↔ stepW K es ls y lab (v : Int)) := fun v => by
        have := hinv.out v
        rw [List.take_of_length_le (by rw [l3.out]; exact Nat.le_refl _)] at this
        exact this.trans (hstep.out _).symm
      clear hinv
      go_wp2_with fail
      go_ret
      exact ⟨_, l, rfl, hbo.out, fun v _ => hfin.out v, hsv.out⟩

end Go.Proofs.YthlaoedpjloloaaGreatDoor

namespace Go.Proofs.YthlaoedpjloloaaGreatDoor
open Go.ChangeShapes Go.WideShapes Go.ChangeAt Go.RowKit Go.Sort
set_option linter.unusedVariables false
set_option linter.unusedSimpArgs false

theorem vis_ex {es : List Ed} {ls : List ByteArray} {P : Int → Prop} {lab : ByteArray} {v : Int} : VisC es ls P lab v ↔ ∃ e ∈ es, P e.1 ∧ ls[e.2.1.toNat]? = some lab ∧ TauC es ls (· = e.2.2) v := by
  constructor
  · intro h
    unfold VisC at h
    induction h with
    | base h1 =>
      obtain ⟨e, he, h2, h3, h4⟩ := h1
      exact ⟨e, he, h2, h3, .base h4.symm⟩
    | step _ he hl ih =>
      obtain ⟨e2, he2, h2, h3, h4⟩ := ih
      exact ⟨e2, he2, h2, h3, .step h4 he hl⟩
  · rintro ⟨e, he, h2, h3, h4⟩
    exact TauC.imp (fun u hu => ⟨e, he, h2, h3, hu.symm⟩) h4
theorem ZeO.sav {w w' : World} {O n x : Nat} (h : ZeO w O n) (hs : Sav x w w') (hx : O ≠ x) : ZeO w' O n :=
  ⟨Nat.lt_of_lt_of_le h.1 hs.size, fun k hk => hs.cell (h.2 k hk) h.1 hx⟩

set_option maxRecDepth 100000 in
set_option maxHeartbeats 3200000 in
theorem l17TargetsW_calls (bt : Nat) (x : CL) (n : Nat) (ini : Int) (ls : List ByteArray) (es : List Ed) (y : Nat) (lab : ByteArray) (w : World) (h : LtsAt w bt x ((n : Int), ini, ls, es)) (hval : ltsV ((n : Int), ini, ls, es) = true) (hy : y < n) :
    Calls Tryz.prog 103 #[.pointer (some ⟨bt, 0, none⟩), .int .i64 (y : Int), .string lab, .int .i64 2] w fun e w' => ∃ B l, e = .returned (.slice (some ⟨B, 0, none⟩) n n) ∧ BoB w' B n l ∧ (∀ v : Nat, v < n → (inS l v = true ↔ stepW 2 es ls (y : Int) lab (v : Int))) ∧ Below w.heap.size w w' := by
  have h0 := hide h
  obtain ⟨s0, s1, v2, v3⟩ := x
  have hb40 := (lts_boundsB hval).1
  obtain ⟨⟨e0, e1, ⟨A2, n2, k2, e2, hn2, hs2, t2⟩, ⟨A3, n3, k3, e3, hn3, t3⟩⟩, htot, hbt, c0, -, c2, c3⟩ := h
  dsimp only at *
  subst e0 e1 e2 e3
  have l2 := t2.len
  have l3 := t3.len
  have hls : n2 ≤ 1048576 := by rw [← l2]; exact Nat.le_trans (totL_lab ((n : Int), s1, ls, es)) htot
  have hes : n3 ≤ 1048576 := by rw [← l3]; exact Nat.le_trans (totL_edg ((n : Int), s1, ls, es)) htot
  have hmk := run_make_bool n (by omega)
  have hmi := run_make_int n (by omega)
  have zz1 : (w.alloc (.cells (madeCells #[.bool false] n) 4)).heap.size = w.heap.size + 1 := World.size_alloc _ _
  have hw0 : Below w.heap.size w ((w.alloc (.cells (madeCells #[.bool false] n) 4)).alloc (.cells (madeCells #[.int .i64 0] n) 2)) := ((Below.refl _ _).alloc (Nat.le_refl _) _).alloc (by omega) _
  have hw01 : Below (w.alloc (.cells (madeCells #[.bool false] n) 4)).heap.size (w.alloc (.cells (madeCells #[.bool false] n) 4)) ((w.alloc (.cells (madeCells #[.bool false] n) 4)).alloc (.cells (madeCells #[.int .i64 0] n) 2)) := (Below.refl _ _).alloc (Nat.le_refl _) _
  have hl0 := hide ((BoB.made w n).below hw01)
  have hO := ZeO.made (w.alloc (.cells (madeCells #[.bool false] n) 4)) n
  have hzO := World.size_alloc (w.alloc (.cells (madeCells #[.bool false] n) 4)) (.cells (madeCells #[.int .i64 0] n) 2)
  have hq1 := hide (l15Reach_calls bt _ n s1 ls es _ y _ (h0.out.below hw0 (Nat.le_refl _)) hval hO hy)
  have c0' : (w.alloc (.cells (madeCells #[.bool false] n) 4)).cell? ⟨bt, 0, none⟩ = some (.int .i64 (n : Int)) := (((Below.refl w.heap.size w).alloc (Nat.le_refl _) _).cell (p := ⟨bt, 0, none⟩) hbt).trans c0
  rw [zz1] at hzO hO hq1
  replace hO := hide hO
  replace hw0 := hide hw0
  replace l3 := hide l3
  replace t3 := hide t3
  replace t2 := hide t2
  replace l2 := hide l2
  replace hval := hide hval
  have hinv : Hid (∀ v : Nat, inS (setOf n fun _ => false) v = true ↔ ∃ e ∈ es.take 0, TauC es ls (· = (y : Int)) e.1 ∧ ls[e.2.1.toNat]? = some lab ∧ TauC es ls (· = e.2.2) (v : Int)) := fun v => by rw [inS_setOf]; simp
  clear htot hn2 hn3 hs2 hw01
  go_enter Tryz.func103, Tryz.ntmps103
  go_upto_region 10 with fail
  clear hmk
  go_upto_region 11 with fail
  clear hmi c0' zz1
  generalize ((w.alloc (.cells (madeCells #[.bool false] n) 4)).alloc (.cells (madeCells #[.int .i64 0] n) 2)) = W0 at *
  go_upto_region 12 with (first | (go_at_call 123; (with_reducible refine hq1.out.mono ?_); rintro e w2 ⟨B1, l1, rfl, hbo1, hB1, hm1, hb1⟩; replace hbo1 := hide hbo1; replace hm1 := hide hm1; replace hb1 := hide hb1))
  clear hq1
  by_cases ht : lab = tauB
  · subst ht
    have hself : (tauB.toList == [116, 97, 117]) = true := by rw [tau_list]; rfl
    have hst : Hid (∀ v : Int, stepW 2 es ls (y : Int) tauB v ↔ TauC es ls (· = (y : Int)) v) := fun v => by unfold stepW; rw [if_pos rfl, if_pos rfl]
    clear hl0 hinv hO
    go_wp2_with fail
    go_ret
    exact ⟨B1, l1, rfl, hbo1.out, fun v _ => by have := hm1.out (v : Int) (by omega); rw [Int.toNat_natCast] at this; exact this.trans (hst.out _).symm, hw0.out.trans (hb1.out.mono (by omega))⟩
  obtain ⟨hne1, hne2⟩ := str_list_ne3 (a := tauB) (b := lab) (fun e => ht e.symm)
  rw [tau_list] at hne1 hne2
  have hst : Hid (∀ v : Int, stepW 2 es ls (y : Int) lab v ↔ ∃ e ∈ es, TauC es ls (· = (y : Int)) e.1 ∧ ls[e.2.1.toNat]? = some lab ∧ TauC es ls (· = e.2.2) v) := fun v => by unfold stepW; rw [if_pos rfl, if_neg ht]; exact vis_ex
  have hbo0 := hide (hl0.out.below hb1.out)
  have hO2 := hide (hO.out.below hb1.out hO.out.1)
  have hw2 := hide (hw0.out.trans (hb1.out.mono (by omega)))
  have hB1' : w.heap.size + 1 + 1 ≤ B1 := by omega
  have hz2 := hb1.out.size
  clear hl0 ht hO hB1 hw0 hb1
  go_upto_region 15 with fail
  clear hne1 hne2
  go_loopg [14] n3 (fun G ii wr => ∃ (j : Nat) (l : List Bool), j ≤ n3 ∧ ii = .int .i64 (j : Nat) ∧ Hid (BoB wr w.heap.size n l) ∧ Hid (∀ v : Nat, inS l v = true ↔ ∃ e ∈ es.take j, TauC es ls (· = (y : Int)) e.1 ∧ ls[e.2.1.toNat]? = some lab ∧ TauC es ls (· = e.2.2) (v : Int)) ∧ Hid (Sav w.heap.size w2 wr) ∧ Hid (n3 - j ≤ G))
  case atStart => exact ⟨0, _, Nat.zero_le _, rfl, hbo0, hinv, Sav.refl _ _, by show _ ≤ _; omega⟩
  case round =>
    clear hbo0 hinv
    obtain ⟨j, l, hj, rfl, hbo, hinv, hsv, hG⟩ := hrel
    have hsw := hw2.out.trans (hsv.out.below (Nat.le_refl _) (by omega))
    have y3 := (hsw.cell (p := ⟨bt, 3, none⟩) hbt).trans c3
    by_cases hlt : j < n3
    · obtain ⟨G2, rfl⟩ : ∃ G2, gk = G2 + 1 := ⟨gk - 1, by have := hG.out; omega⟩
      have hG2 : Hid (n3 - (j + 1) ≤ G2) := by have := hG.out; show _ ≤ _; omega
      obtain ⟨b, off, f, lb, tg, rfl, -, -, g3, hx, p0, p1, p2, -, -, -⟩ := SlE.get t3.out hlt
      replace p0 := (hsw.cell g3).trans p0
      replace p1 := (hsw.cell (p := ⟨b, off + j * 3 + 1, none⟩) g3).trans p1
      replace p2 := (hsw.cell (p := ⟨b, off + j * 3 + 2, none⟩) g3).trans p2
      have hed := edge_of hval.out hx
      obtain ⟨fn, rfl⟩ : ∃ fn : Nat, f = (fn : Int) := ⟨f.toNat, by omega⟩
      obtain ⟨tn, rfl⟩ : ∃ tn : Nat, tg = (tn : Int) := ⟨tg.toNat, by omega⟩
      obtain ⟨ln, rfl⟩ : ∃ ln : Nat, lb = (ln : Int) := ⟨lb.toNat, by omega⟩
      have hfn : fn < n := by omega
      have htn : tn < n := by omega
      have hln : ln < n2 := by have := l2.out; omega
      obtain ⟨b2, o2, lx, rfl, -, -, g2, hlx, q2, -⟩ := SlS.get t2.out hln
      have hsu := fun v : Nat => ex_take_succ (p := fun e : Ed => TauC es ls (· = (y : Int)) e.1 ∧ ls[e.2.1.toNat]? = some lab ∧ TauC es ls (· = e.2.2) (v : Int)) hx
      dsimp only at hsu
      rw [Int.toNat_natCast, hlx] at hsu
      have hnear := hm1.out (fn : Int) (by omega)
      rw [Int.toNat_natCast] at hnear
      have hbE : Below wr.heap.size wr (wr.alloc (.cells #[.int .i64 (fn : Int), .int .i64 (ln : Int), .int .i64 (tn : Int)] 99)) := (Below.refl _ _).alloc (Nat.le_refl _) _
      have kE := heap_alloc_new wr (.cells #[.int .i64 (fn : Int), .int .i64 (ln : Int), .int .i64 (tn : Int)] 99)
      have z0 : (wr.alloc (.cells #[.int .i64 (fn : Int), .int .i64 (ln : Int), .int .i64 (tn : Int)] 99)).cell? ⟨wr.heap.size, 0, none⟩ = some (.int .i64 (fn : Int)) := (cell_of_row _ _ 0 _ _ (0, 0) kE).trans rfl
      have z1 : (wr.alloc (.cells #[.int .i64 (fn : Int), .int .i64 (ln : Int), .int .i64 (tn : Int)] 99)).cell? ⟨wr.heap.size, 1, none⟩ = some (.int .i64 (ln : Int)) := (cell_of_row _ _ 1 _ _ (0, 0) kE).trans rfl
      have z2 : (wr.alloc (.cells #[.int .i64 (fn : Int), .int .i64 (ln : Int), .int .i64 (tn : Int)] 99)).cell? ⟨wr.heap.size, 2, none⟩ = some (.int .i64 (tn : Int)) := (cell_of_row _ _ 2 _ _ (0, 0) kE).trans rfl
      have hswE := hsw.trans (hbE.mono hsw.size)
      have q2E := (hswE.cell (p := ⟨b2, o2 + ln, none⟩) g2).trans q2
      have c2E := (hswE.cell (p := ⟨bt, 2, none⟩) hbt).trans c2
      have hsE := hide (hsv.out.trans (Sav.of_below hbE))
      obtain ⟨f0, f1, f2, -⟩ := ((hbo1.out.sav hsv.out (by omega)).below hbE).get hfn
      have hboE := hide (hbo.out.below hbE)
      have hI0 : (0 : Int) ≤ (j : Int) := by omega
      have hI1 : (j : Int) < (n3 : Int) := by omega
      have hI2 : (0 : Int) ≤ (fn : Int) := by omega
      have hI3 : (fn : Int) < (n : Int) := by omega
      have hI4 : (0 : Int) ≤ (ln : Int) := by omega
      have hI5 : (ln : Int) < (n2 : Int) := by omega
      clear kE hbE hbo hed hsw hswE hlx hx q2
      go_upto_region 18 with fail
      clear y3 p0 p1 p2
      generalize (wr.alloc (.cells #[.int .i64 (fn : Int), .int .i64 (ln : Int), .int .i64 (tn : Int)] 99)) = WE at *
      have hsE2 := hide fun (nq : Nat) => (show Sav w.heap.size w2 (WE.drewN nq) from ⟨hsE.out.os, hsE.out.tape, hsE.out.output, hsE.out.size, hsE.out.block⟩)
      have hboE2 := hide fun (nq : Nat) => (show BoB (WE.drewN nq) w.heap.size n l from hboE.out.below (⟨rfl, rfl, rfl, Nat.le_refl _, fun _ _ => rfl⟩))
      cases hf : inS l1 fn with
      | false =>
        rw [hf] at f0
        have hinv2 : Hid (∀ v : Nat, inS l v = true ↔ ∃ e ∈ es.take (j + 1), TauC es ls (· = (y : Int)) e.1 ∧ ls[e.2.1.toNat]? = some lab ∧ TauC es ls (· = e.2.2) (v : Int)) := fun v => by
          rw [hsu v, ← hinv.out v]
          exact ⟨.inl, fun g => g.elim id fun g => by have := hnear.2 g.1; rw [hf] at this; cases this⟩
        clear hf hinv hsu hnear hboE hsE
        go_quiet (fail)
        have hsq := hide (hsE2.out nq)
        have hbq := hide (hboE2.out nq)
        generalize (WE.drewN nq) = wq at *
        go_wp2_with fail
        go_roundg G2
        case measure => omega
        case rel => exact ⟨j + 1, l, by omega, by go_num, hbq, hinv2, hsq, hG2⟩
      | true =>
        rw [hf] at f0
        by_cases hlab : lx = lab
        · have hself : (lx.toList != lab.toList) = false := by rw [hlab, bne_self_eq_false]
          have hy2 : Hid (∀ nq : Nat, (WE.drewN nq).cell? ⟨wr.heap.size, 2, none⟩ = some (.int .i64 (tn : Int))) := fun nq => z2
          have hq7 := hide fun (nq : Nat) => l15Reach_calls bt _ n s1 ls es (w.heap.size + 1) tn (WE.drewN nq) (h0.out.below (hw2.out.trans ((hsE2.out nq).below (Nat.le_refl _) (by omega))) (Nat.le_refl _)) hval.out (hO2.out.sav (hsE2.out nq) (by omega)) htn
          clear hboE hsE
          go_quiet (fail)
          clear z0 z1
          replace hq7 := hide (hq7.out nq)
          have hsq := hide (hsE2.out nq)
          have hbq := hide (hboE2.out nq)
          have z2q := hy2.out nq
          clear hsE2 hboE2 hy2 z2 f0 q2E c2E
          generalize (WE.drewN nq) = wq at *
          go_upto_region 20 with (first | (go_at_call 123; (with_reducible refine hq7.out.mono ?_); rintro e w5 ⟨B5, l5, rfl, hbo5, hB5, hm5, hb5⟩; replace hbo5 := hide hbo5; replace hm5 := hide hm5; replace hb5 := hide hb5))
          have hs5 := hide (hsq.out.trans (Sav.of_below hb5.out))
          have hl5 := hide (hbq.out.below hb5.out)
          have hBq := hbq.out.get hy
          have hne5 : B5 ≠ w.heap.size := by have := hBq.2.2.1; omega
          clear hq7 hsq hBq z2q
          go_upto_region 21 with fail
          go_loopg [17] n (fun H ii wr => ∃ (k : Nat) (l' : List Bool), k ≤ n ∧ ii = .int .i64 (k : Nat) ∧ Hid (BoB wr w.heap.size n l') ∧ Hid (∀ v : Nat, inS l' v = true ↔ inS l v = true ∨ (v < k ∧ inS l5 v = true)) ∧ Hid (Sav w.heap.size w5 wr) ∧ Hid (n - k ≤ H))
          case atStart => exact ⟨0, l, Nat.zero_le _, rfl, hl5, (fun v => ⟨.inl, fun g => g.elim id fun g => absurd g.1 (by omega)⟩), Sav.refl _ _, by show _ ≤ _; omega⟩
          case round =>
            clear hl5 hbq
            obtain ⟨k, l', hk, rfl, hbk, hik, hsk, hH⟩ := hrel
            by_cases hkl : k < n
            · obtain ⟨H2, rfl⟩ : ∃ H2, gk = H2 + 1 := ⟨gk - 1, by have := hH.out; omega⟩
              have hH2 : Hid (n - (k + 1) ≤ H2) := by have := hH.out; show _ ≤ _; omega
              obtain ⟨m0, m1, -, m3⟩ := hbk.out.get hkl
              obtain ⟨u0, -, -, -⟩ := (hbo5.out.sav hsk.out hne5).get hkl
              have hJ0 : (0 : Int) ≤ (k : Int) := by omega
              have hJ1 : (k : Int) < (n : Int) := by omega
              have hlk : l'.length = n := hbk.out.1
              cases hv : inS l' k with
              | true =>
                rw [hv] at m0
                have hbn := hide (m3 true)
                have hsn := hide (hsk.out.trans (Sav.set _ ⟨w.heap.size, k, none⟩ (.bool true)))
                have hin : Hid (∀ v : Nat, inS (l'.set k true) v = true ↔ inS l v = true ∨ (v < k + 1 ∧ inS l5 v = true)) := fun v => by
                  rw [inS_set (by omega)]
                  split
                  · rename_i e; subst e
                    refine ⟨fun _ => ?_, fun _ => rfl⟩
                    rcases (hik.out k).1 hv with g | g
                    · exact .inl g
                    · exact .inr ⟨by omega, g.2⟩
                  · rename_i e
                    rw [hik.out v]
                    constructor
                    · rintro (g | g)
                      · exact .inl g
                      · exact .inr ⟨by omega, g.2⟩
                    · rintro (g | g)
                      · exact .inl g
                      · exact .inr ⟨by omega, g.2⟩
                clear hbk hik hsk m3 hv
                go_wp2_with fail
                go_roundg H2
                case measure => omega
                case rel => exact ⟨k + 1, _, by omega, by go_num, hbn, hin, hsn, hH2⟩
              | false =>
                rw [hv] at m0
                have hbn := hide (m3 (inS l5 k))
                have hsn := hide (hsk.out.trans (Sav.set _ ⟨w.heap.size, k, none⟩ (.bool (inS l5 k))))
                have hin : Hid (∀ v : Nat, inS (l'.set k (inS l5 k)) v = true ↔ inS l v = true ∨ (v < k + 1 ∧ inS l5 v = true)) := fun v => by
                  rw [inS_set (by omega)]
                  split
                  · rename_i e; subst e
                    refine ⟨fun g => .inr ⟨by omega, g⟩, fun g => ?_⟩
                    rcases g with g | g
                    · have := (hik.out k).2 (.inl g)
                      rw [hv] at this
                      cases this
                    · exact g.2
                  · rename_i e
                    rw [hik.out v]
                    constructor
                    · rintro (g | g)
                      · exact .inl g
                      · exact .inr ⟨by omega, g.2⟩
                    · rintro (g | g)
                      · exact .inl g
                      · exact .inr ⟨by omega, g.2⟩
                clear hbk hik hsk m3 hv
                generalize inS l5 k = vk at *
                go_wp2_with fail
                go_roundg H2
                case measure => omega
                case rel => exact ⟨k + 1, _, by omega, by go_num, hbn, hin, hsn, hH2⟩
            · have hkn : k = n := by omega
              subst hkn
              have hinv2 : Hid (∀ v : Nat, inS l' v = true ↔ ∃ e ∈ es.take (j + 1), TauC es ls (· = (y : Int)) e.1 ∧ ls[e.2.1.toNat]? = some lab ∧ TauC es ls (· = e.2.2) (v : Int)) := fun v => by
                have g5 := hm5.out (v : Int) (by omega)
                rw [Int.toNat_natCast] at g5
                rw [hsu v, ← hinv.out v, hik.out v, g5.symm]
                constructor
                · rintro (g | g)
                  · exact .inl g
                  · exact .inr ⟨hnear.1 hf, by rw [hlab], g.2⟩
                · rintro (g | g)
                  · exact .inl g
                  · exact .inr ⟨by have := inS_lt g.2.2; rw [hbo5.out.1] at this; exact this, g.2.2⟩
              have hsn := hide (hs5.out.trans hsk.out)
              clear hik hsk hinv hsu hnear hs5
              go_wp2_with fail
              go_roundg G2
              case measure => omega
              case rel => exact ⟨j + 1, l', by omega, by go_num, hbk, hinv2, hsn, hG2⟩
        · have hinv2 : Hid (∀ v : Nat, inS l v = true ↔ ∃ e ∈ es.take (j + 1), TauC es ls (· = (y : Int)) e.1 ∧ ls[e.2.1.toNat]? = some lab ∧ TauC es ls (· = e.2.2) (v : Int)) := fun v => by
            rw [hsu v, ← hinv.out v]
            exact ⟨.inl, fun g => g.elim id fun g => absurd (Option.some.inj g.2.1) hlab⟩
          have hne : (lx.toList != lab.toList) = true := by
            have := (str_list_ne3 (a := lab) (b := lx) (fun e => hlab e.symm)).1
            rw [bne, this]; rfl
          have hne2 := (str_list_ne3 (a := lab) (b := lx) (fun e => hlab e.symm))
          clear hf hinv hsu hnear hboE hsE hlab
          go_quiet (fail)
          have hsq := hide (hsE2.out nq)
          have hbq := hide (hboE2.out nq)
          generalize (WE.drewN nq) = wq at *
          go_wp2_with fail
          go_roundg G2
          case measure => omega
          case rel => exact ⟨j + 1, l, by omega, by go_num, hbq, hinv2, hsq, hG2⟩
    · have hjn : j = n3 := by omega
      subst hjn
      have hfin : Hid (∀ v : Nat, inS l v = true ↔ stepW 2 es ls (y : Int) lab (v : Int)) := fun v => by
        have := hinv.out v
        rw [List.take_of_length_le (by rw [l3.out]; exact Nat.le_refl _)] at this
        exact this.trans (hst.out _).symm
      replace hsw := hide hsw
      clear hinv
      go_wp2_with fail
      go_ret
      exact ⟨_, l, rfl, hbo.out, fun v _ => hfin.out v, hsw.out⟩

theorem l17Targets_calls (bt : Nat) (x : CL) (n : Nat) (ini : Int) (ls : List ByteArray) (es : List Ed) (y : Nat) (lab : ByteArray) (K : Int) (w : World) (h : LtsAt w bt x ((n : Int), ini, ls, es)) (hval : ltsV ((n : Int), ini, ls, es) = true) (hy : y < n) :
    Calls Tryz.prog 103 #[.pointer (some ⟨bt, 0, none⟩), .int .i64 (y : Int), .string lab, .int .i64 K] w fun e w' => ∃ B l, e = .returned (.slice (some ⟨B, 0, none⟩) n n) ∧ BoB w' B n l ∧ (∀ v : Nat, v < n → (inS l v = true ↔ stepW K es ls (y : Int) lab (v : Int))) ∧ Below w.heap.size w w' := by
  by_cases hK : K = 2
  · subst hK
    exact l17TargetsW_calls bt x n ini ls es y lab w h hval hy
  · exact l17TargetsN_calls bt x n ini ls es (y : Int) lab K w h hval hK

end Go.Proofs.YthlaoedpjloloaaGreatDoor

namespace Go.Proofs.YthlaoedpjloloaaGreatDoor
open Go.ChangeShapes Go.WideShapes Go.ChangeAt Go.RowKit Go.Sort
set_option linter.unusedVariables false
set_option linter.unusedSimpArgs false

def rdyT (es : List Ed) (x : Int) (k : Nat) : Bool := es.any fun e => decide (e.1 = x) && decide (e.2.1 = (k : Int))
/-- The labels among the first k. -/
def rdyK (es : List Ed) (ls : List ByteArray) (x : Int) (k : Nat) : List ByteArray := ((List.range k).filter (rdyT es x)).map fun k : Nat => ls[k]?.getD ByteArray.empty
theorem rdyK_all (es : List Ed) (ls : List ByteArray) (x : Int) : rdyK es ls x ls.length = rdyL es ls x := rfl
theorem rdyK_succ {es : List Ed} {ls : List ByteArray} {x : Int} {k : Nat} {s : ByteArray} (h : ls[k]? = some s) : rdyK es ls x (k + 1) = rdyK es ls x k ++ (if rdyT es x k = true then [s] else []) := by
  unfold rdyK
  rw [List.range_succ, List.filter_append, List.map_append]
  congr 1
  cases hr : rdyT es x k <;> simp [hr, h]
theorem nxtE_any (es : List Ed) (x : Int) (k : Nat) : 0 < (nxtE es x (k : Int)).length ↔ rdyT es x k = true := by
  unfold nxtE rdyT
  rw [List.length_map, List.length_pos_iff_exists_mem, List.any_eq_true]
  constructor
  · rintro ⟨e, he⟩
    exact ⟨e, (List.mem_filter.1 he).1, (List.mem_filter.1 he).2⟩
  · rintro ⟨e, he, h⟩
    exact ⟨e, List.mem_filter.2 ⟨he, h⟩⟩

set_option maxRecDepth 100000 in
set_option maxHeartbeats 1600000 in
theorem l17Ready_calls (bt : Nat) (x : CL) (d : DL) (s : Int) (w : World) (h : LtsAt w bt x d) :
    Calls Tryz.prog 67 #[.pointer (some ⟨bt, 0, none⟩), .int .i64 s] w fun e w' => ∃ A n c, e = .returned (.slice A n c) ∧ SlS w' w.heap.size w'.heap.size A n (rdyL d.2.2.2 d.2.2.1 s) ∧ n ≤ 1048576 ∧ Below w.heap.size w w' := by
  have h0 := hide h
  obtain ⟨s0, s1, v2, v3⟩ := x
  obtain ⟨st, ini, ls, es⟩ := d
  obtain ⟨⟨e0, e1, ⟨A2, n2, k2, e2, hn2, hs2, t2⟩, -⟩, htot, hbt, -, -, c2, -⟩ := h
  dsimp only at *
  subst e0 e1 e2
  have l2 := t2.len
  have hls : n2 ≤ 1048576 := by rw [← l2]; exact Nat.le_trans (totL_lab (s0, s1, ls, es)) htot
  have hE := hide elem_str
  have q := hide fun (k : Nat) (W : World) (hW : Below w.heap.size w W) => l11NextG_calls bt _ _ s (k : Int) W (h0.out.below hW (Nat.le_refl _))
  replace l2 := hide l2
  replace t2 := hide t2
  have hst : Hid (Own 1 strv (w.alloc (.cells #[] 9)) w.heap.size 9 (some ⟨w.heap.size, 0, none⟩) 0 0 (rdyK es ls s 0)) := Own.made w _ (Nat.le_refl _)
  have hb0 := hide ((Below.refl w.heap.size w).alloc (Nat.le_refl _) (.cells #[] 9))
  clear htot hs2 hn2 h0
  go_enter Tryz.func67, Tryz.ntmps67
  go_upto_region 3 with fail
  go_loopg [5, 6] n2 (fun G v j wr => ∃ (k m c : Nat) (A : Option Addr), k ≤ n2 ∧ m ≤ k ∧ v = .slice A m c ∧ j = .int .i64 (k : Nat) ∧ Hid (Own 1 strv wr w.heap.size 9 A m c (rdyK es ls s k)) ∧ Hid (Below w.heap.size w wr) ∧ Hid (n2 - k ≤ G))
  case atStart => exact ⟨0, 0, 0, _, Nat.zero_le _, Nat.zero_le _, rfl, rfl, hst, hb0, by show _ ≤ _; omega⟩
  case round =>
    clear hst hb0
    obtain ⟨k, m, c, A, hk, hm, rfl, rfl, hown, hb, hG⟩ := hrel
    have y2 := (hb.out.cell (p := ⟨bt, 2, none⟩) hbt).trans c2
    by_cases hlt : k < n2
    · obtain ⟨G2, rfl⟩ : ∃ G2, gk = G2 + 1 := ⟨gk - 1, by have := hG.out; omega⟩
      have hG2 : Hid (n2 - (k + 1) ≤ G2) := by have := hG.out; show _ ≤ _; omega
      obtain ⟨b, off, lx, rfl, -, -, g3, hx, p0, -⟩ := SlS.get t2.out hlt
      have q1 := hide (q.out k wr hb.out)
      have hsu := rdyK_succ (es := es) (x := s) hx
      have hany := nxtE_any es s k
      have hI0 : (0 : Int) ≤ (k : Int) := by omega
      have hI1 : (k : Int) < (n2 : Int) := by omega
      have hz := hb.out.size
      cases hr : rdyT es s k with
      | false =>
        rw [hr, if_neg (by decide), List.append_nil] at hsu
        have q2 := hide (q1.out.mono (R' := fun e W' => ∃ A c, e = .returned (.slice A 0 c) ∧ Below wr.heap.size wr W') fun e W' hh => by
          obtain ⟨A, n, c, rfl, h2, -, h3⟩ := hh
          have h4 := h2.len
          have : n = 0 := by
            rcases Nat.eq_zero_or_pos n with h5 | h5
            · exact h5
            · have := hany.1 (by omega)
              rw [hr] at this
              cases this
          subst this
          exact ⟨A, c, rfl, h3⟩)
        have hn2 : Hid (rdyK es ls s (k + 1) = rdyK es ls s k) := hsu
        clear hsu hany hr hx q1
        go_wp2_with (first | (go_at_call 102; (with_reducible refine q2.out.mono ?_); rintro e w5 ⟨A5, c5, rfl, hb5⟩; replace hb5 := hide hb5))
        have hown5 : Hid (Own 1 strv w5 w.heap.size 9 A m c (rdyK es ls s (k + 1))) := by show Own _ _ _ _ _ _ _ _ _; rw [hn2.out]; exact hown.out.below hb5.out (Nat.le_refl _)
        have hbw := hide (hb.out.trans (hb5.out.mono hz))
        go_roundg G2
        case measure => omega
        case rel => exact ⟨k + 1, m, c, A, by omega, by omega, rfl, by go_num, hown5, hbw, hG2⟩
      | true =>
        rw [hr, if_pos rfl] at hsu
        have q2 := hide (q1.out.mono (R' := fun e W' => ∃ A n c, e = .returned (.slice A (n + 1) c) ∧ n ≤ 1048576 ∧ Below wr.heap.size wr W') fun e W' hh => by
          obtain ⟨A, n, c, rfl, h2, h2b, h3⟩ := hh
          have h4 := h2.len
          have := hany.2 hr
          obtain ⟨n', rfl⟩ : ∃ n', n = n' + 1 := ⟨n - 1, by omega⟩
          exact ⟨A, n', c, rfl, by omega, h3⟩)
        replace hsu := hide hsu
        clear hany hr hx q1
        have p0' := (hb.out.cell (p := ⟨b, off + k, none⟩) g3).trans p0
        have g3' := Nat.lt_of_lt_of_le g3 hz
        have hbt' := Nat.lt_of_lt_of_le hbt hz
        go_upto_region 6 with (first | (go_at_call 102; (with_reducible refine q2.out.mono ?_); rintro e w5 ⟨A5, n5, c5, rfl, hn5, hb5⟩; have hpos : (0 : Int) < ((n5 + 1 : Nat) : Int) := by omega))
        have z2 := (hb5.cell (p := ⟨bt, 2, none⟩) hbt').trans y2
        have z3 := (hb5.cell (p := ⟨b, off + k, none⟩) g3').trans p0'
        have hown5 := hide (hown.out.below hb5 (Nat.le_refl _))
        have hbw := hide (hb.out.trans (hb5.mono hz))
        have hza : ∀ o, w.heap.size ≤ (w5.alloc o).heap.size := fun o => by rw [World.size_alloc]; have := hbw.out.size; omega
        clear hb5 y2 p0' hown hb
        go_wp2_with (first | (at_builtin; (with_reducible refine wpList_app rfl (.tmp 23) (.tmp 31) rfl hE.out flat_strv rfl (hown5.out.alloc _) rfl (Sl.lit1' w5 9 lx _ rfl 1 _ ?c0) ?c1 (hza _) ?_); rotate_right; intro A7 c7 w7 hown7 hgr7 hb7 _))
        case c0 => rfl
        case c1 => omega
        have hb8 := hide ((hbw.out.alloc hbw.out.size (.cells #[.string lx] 9)).trans hb7)
        replace hown7 : Hid (Own 1 strv w7 w.heap.size 9 A7 (m + 1) c7 (rdyK es ls s (k + 1))) := by show Own _ _ _ _ _ _ _ _ _; rw [hsu.out]; exact hown7
        clear hgr7 hb7
        go_roundg G2
        case measure => omega
        case rel => exact ⟨k + 1, m + 1, c7, A7, by omega, by omega, rfl, by go_num, hown7, hb8, hG2⟩
    · have hkn : k = n2 := by omega
      subst hkn
      have hres := hown.out.sl flat_strv
      have hall : rdyK es ls s k = rdyL es ls s := by rw [← rdyK_all, l2.out]
      rw [hall] at hres
      replace hres := hide hres
      clear hown hall
      go_wp2_with fail
      go_ret
      exact ⟨A, m, c, rfl, hres.out, by omega, hb.out⟩

end Go.Proofs.YthlaoedpjloloaaGreatDoor

namespace Go.Proofs.YthlaoedpjloloaaGreatDoor
open Go.ChangeShapes Go.WideShapes Go.ChangeAt Go.RowKit Go.Sort
set_option linter.unusedVariables false
set_option linter.unusedSimpArgs false

section
variable {α : Type} {size : Nat} {f : α → List Value} {w w' : World} {base n c : Nat} {e : TypeId} {A : Option Addr} {l : List α}
/-- A row that grows lies in a block of its elements' type. -/
theorem Own.typedT (h : Own size f w base e A n c l) {g : Nat} (hg : (Value.slice A n c).ownBlock = some g) : base ≤ g ∧ g < w.heap.size ∧ ∃ cur, w.heap[g]? = some (.cells cur e (0, 0)) := by
  refine ⟨(h.lt g hg).1, (h.lt g hg).2, ?_⟩
  rcases h.2.2 with ⟨hv, _⟩ | ⟨b, cap, cur, hv, _, hb, _⟩
  · rw [hv] at hg; cases hg
  · rw [hv] at hg
    obtain rfl : b = g := by injection hg
    exact ⟨cur, hb⟩
theorem Own.otherT (h : Own size f w base e A n c l) {b : Nat} {cur : Array Value} {t : TypeId} {z : Nat × Nat} (hb : w.heap[b]? = some (.cells cur t z)) (ht : t ≠ e) : some b ≠ (Value.slice A n c).ownBlock := fun e1 => by
  obtain ⟨-, -, cu, h1⟩ := h.typedT e1.symm
  rw [hb] at h1
  injection h1 with h1
  injection h1 with _ h1
  exact ht h1
theorem grown_blockT {row : Option Nat} (hg : w.grownBy w' row) {b : Nat} {o : Obj} (hb : w.heap[b]? = some o) (hne : some b ≠ row) : w'.heap[b]? = some o :=
  (hg.block b (Array.getElem?_eq_some_iff.1 hb).1 hne).trans hb
end

theorem elem_boolS : Elem Tryz.prog 67 66 1 24 := Elem.of (z := .slice none 0 0) Tryz.underlying67 (by kernel_rfl) rfl (by omega) (by omega)

/-- Rows of bools, each a row that was grown. -/
structure RowsB (w : World) (base : Nat) (A : Option Addr) (n c : Nat) (H : List (Hd × List Bool)) : Prop where
  own : Own 1 sv w base 66 A n c (H.map (·.1))
  rows : ∀ r ∈ H, Own 1 bv w base 4 r.1.1 r.1.2.1 r.1.2.2 r.2
section
variable {w w' : World} {base n c : Nat} {A : Option Addr} {H : List (Hd × List Bool)}
theorem RowsB.len (h : RowsB w base A n c H) : H.length = n := by have := h.own.1; rwa [List.length_map] at this
theorem RowsB.kept (h : RowsB w base A n c H) (hk : ∀ b, b < w.heap.size → w'.heap[b]? = w.heap[b]?) : RowsB w' base A n c H :=
  ⟨h.own.keep fun g hg => hk g (h.own.lt g hg).2, fun r hr => (h.rows r hr).keep fun g hg => hk g ((h.rows r hr).lt g hg).2⟩
theorem RowsB.below (h : RowsB w base A n c H) (hb : Below w.heap.size w w') : RowsB w' base A n c H := h.kept hb.block
theorem RowsB.lower {base' : Nat} (h : RowsB w base A n c H) (hb : base' ≤ base) : RowsB w base' A n c H := ⟨h.own.lower hb, fun r hr => (h.rows r hr).lower hb⟩
/-- Another block is written. -/
theorem RowsB.set (h : RowsB w base A n c H) {p : Addr} {cur : Array Value} {t : TypeId} {z : Nat × Nat} (hb : w.heap[p.block]? = some (.cells cur t z)) (h1 : t ≠ 66) (h2 : t ≠ 4) (u : Value) : RowsB (w.setCell p u) base A n c H :=
  ⟨h.own.keep fun g hg => Below.heap_setCell _ _ _ _ fun e => h.own.otherT hb h1 (by rw [hg, e]), fun r hr => (h.rows r hr).keep fun g hg => Below.heap_setCell _ _ _ _ fun e => (h.rows r hr).otherT hb h2 (by rw [hg, e])⟩
theorem RowsB.push (h : RowsB w base A n c H) {r : Hd × List Bool} (hr : Own 1 bv w base 4 r.1.1 r.1.2.1 r.1.2.2 r.2) {A' : Option Addr} {c' : Nat} (ho : Own 1 sv w' base 66 A' (n + 1) c' (H.map (·.1) ++ [r.1])) (hg : w.grownBy w' (Value.slice A n c).ownBlock) : RowsB w' base A' (n + 1) c' (H ++ [r]) :=
  ⟨by rw [List.map_append]; exact ho, fun x hx => by
    rcases List.mem_append.1 hx with hx | hx
    · exact (h.rows x hx).kept hg ((h.rows x hx).apart h.own (by decide))
    · rw [List.mem_singleton.1 hx]
      exact hr.kept hg (hr.apart h.own (by decide))⟩
theorem RowsB.at_ (h : RowsB w base A n c H) {k : Nat} {l : List Bool} (hk : (H.map (·.2))[k]? = some l) : ∃ b off Ah nh ch, A = some ⟨b, off, none⟩ ∧ base ≤ b ∧ b < w.heap.size ∧ k < n ∧ w.cell? ⟨b, off + k, none⟩ = some (.slice Ah nh ch) ∧ Own 1 bv w base 4 Ah nh ch l := by
  rw [List.getElem?_map] at hk
  obtain ⟨⟨⟨Ah, nh, ch⟩, l'⟩, hr, e⟩ := Option.map_eq_some_iff.1 hk
  have e : l' = l := e
  subst e
  have hlt : k < n := by rw [← h.len]; exact (List.getElem?_eq_some_iff.1 hr).1
  obtain ⟨b, off, e1, g1, -, g3, hc⟩ := (h.own.sl flat_sv).at_ (by omega)
  have h0 := hc k (Ah, nh, ch) (by rw [List.getElem?_map, hr]; rfl) 0 _ rfl
  simp only [Nat.mul_one, Nat.add_zero] at h0
  exact ⟨b, off, Ah, nh, ch, e1, g1, g3, hlt, h0.1, h.rows _ (List.mem_of_getElem? hr)⟩
/-- A row and a cell of it, in the walk's spelling. -/
theorem RowsB.get (h : RowsB w base A n c H) {m p : Nat} {S : Rel2} (hM : H.map (·.2) = tabR m p S) {x y : Nat} (hx : x < m) (hy : y < p) :
    ∃ b off b2 off2 c2 v, A = some ⟨b, off, none⟩ ∧ b < w.heap.size ∧ b2 < w.heap.size ∧ x < n ∧ w.cell? ⟨b, off + x, none⟩ = some (.slice (some ⟨b2, off2, none⟩) p c2) ∧ w.cell? ⟨b2, off2 + y, none⟩ = some (.bool v) ∧ (v = true ↔ S (x : Int) (y : Int)) := by
  have hk : (H.map (·.2))[x]? = some (rowR2 p S x) := by rw [hM]; exact tabR_get hx
  obtain ⟨b, off, Ah, nh, ch, e1, g1, g3, hlt, hc, ho⟩ := h.at_ hk
  have hn : nh = p := by rw [← ho.len, rowR2_len]
  subst hn
  obtain ⟨b2, off2, e2, -, -, g5, hv, hc2, -⟩ := SlB.get (ho.sl flat_bv) hy
  subst e2
  rw [rowR2_get hy] at hv
  refine ⟨b, off, b2, off2, ch, _, e1, g3, g5, hlt, hc, hc2, ?_⟩
  rw [← Option.some.inj hv]
  exact @decide_eq_true_iff _ (Classical.propDecidable _)
end

/-- The reference's table: a struct that leads to both systems and to the rows. -/
structure TabS (w : World) (base bt ba bb : Nat) (K : Int) (A : Option Addr) (n c : Nat) (H : List (Hd × List Bool)) : Prop where
  lb : base ≤ bt
  cells : w.heap[bt]? = some (.cells #[.pointer (some ⟨ba, 0, none⟩), .pointer (some ⟨bb, 0, none⟩), .int .i64 K, .slice A n c] 69 (0, 0))
  rows : RowsB w base A n c H
section
variable {w w' : World} {base bt ba bb n c : Nat} {K : Int} {A : Option Addr} {H : List (Hd × List Bool)}
theorem TabS.lt (h : TabS w base bt ba bb K A n c H) : bt < w.heap.size := (Array.getElem?_eq_some_iff.1 h.cells).1
theorem TabS.below (h : TabS w base bt ba bb K A n c H) (hb : Below w.heap.size w w') : TabS w' base bt ba bb K A n c H := ⟨h.lb, (hb.block bt h.lt).trans h.cells, h.rows.below hb⟩
theorem TabS.lower {base' : Nat} (h : TabS w base bt ba bb K A n c H) (hb : base' ≤ base) : TabS w base' bt ba bb K A n c H := ⟨Nat.le_trans hb h.lb, h.cells, h.rows.lower hb⟩
theorem TabS.facts (h : TabS w base bt ba bb K A n c H) : w.cell? ⟨bt, 0, none⟩ = some (.pointer (some ⟨ba, 0, none⟩)) ∧ w.cell? ⟨bt, 1, none⟩ = some (.pointer (some ⟨bb, 0, none⟩)) ∧ w.cell? ⟨bt, 2, none⟩ = some (.int .i64 K) ∧ w.cell? ⟨bt, 3, none⟩ = some (.slice A n c) :=
  ⟨(cell_of_row _ _ 0 _ _ (0, 0) h.cells).trans rfl, (cell_of_row _ _ 1 _ _ (0, 0) h.cells).trans rfl, (cell_of_row _ _ 2 _ _ (0, 0) h.cells).trans rfl, (cell_of_row _ _ 3 _ _ (0, 0) h.cells).trans rfl⟩
/-- A row more: behind the append, with its store. -/
theorem TabS.mid (h : TabS w base bt ba bb K A n c H) {o : Obj} (hgr : (w.alloc o).grownBy w' (Value.slice A n c).ownBlock) : w'.heap[bt]? = some (.cells #[.pointer (some ⟨ba, 0, none⟩), .pointer (some ⟨bb, 0, none⟩), .int .i64 K, .slice A n c] 69 (0, 0)) :=
  grown_blockT hgr ((Below.heap_alloc _ _ _ h.lt).trans h.cells) (h.rows.own.otherT h.cells (by decide))
theorem TabS.row (h : TabS w base bt ba bb K A n c H) {o : Obj} {r : Hd × List Bool} (hr : Own 1 bv w base 4 r.1.1 r.1.2.1 r.1.2.2 r.2)
    {A' : Option Addr} {c' : Nat} (ho : Own 1 sv w' base 66 A' (n + 1) c' (H.map (·.1) ++ [r.1])) (hgr : (w.alloc o).grownBy w' (Value.slice A n c).ownBlock) :
    TabS (w'.setCell ⟨bt, 3, none⟩ (.slice A' (n + 1) c')) base bt ba bb K A' (n + 1) c' (H ++ [r]) := by
  have h2 := h.mid hgr
  have hB : Below w.heap.size w (w.alloc o) := (Below.refl _ _).alloc (Nat.le_refl _) _
  have h3 := (h.rows.below hB).push (hr.below hB (Nat.le_refl _)) ho hgr
  exact ⟨h.lb, heap_setCell_same _ _ 3 _ _ _ h2, h3.set h2 (by decide) (by decide) _⟩
end

end Go.Proofs.YthlaoedpjloloaaGreatDoor

namespace Go.Proofs.YthlaoedpjloloaaGreatDoor
open Go.ChangeShapes Go.WideShapes Go.ChangeAt Go.RowKit Go.Sort
set_option linter.unusedVariables false
set_option linter.unusedSimpArgs false

set_option maxRecDepth 100000 in
set_option maxHeartbeats 3200000 in
theorem l17holds_calls (base bq ba bb : Nat) (xa xb : CL) (n p : Nat) (ia ib : Int) (la lb : List ByteArray) (ea eb : List Ed) (K : Int) (A : Option Addr) (c : Nat) (H : List (Hd × List Bool)) (R : Rel2) (x y : Nat) (w : World)
    (hT : TabS w base bq ba bb K A n c H) (hM : H.map (·.2) = tabR n p R) (hA : LtsAt w ba xa ((n : Int), ia, la, ea)) (hB : LtsAt w bb xb ((p : Int), ib, lb, eb)) (hva : ltsV ((n : Int), ia, la, ea) = true) (hvb : ltsV ((p : Int), ib, lb, eb) = true) (hx : x < n) (hy : y < p) :
    Calls Tryz.prog 68 #[.pointer (some ⟨bq, 0, none⟩), .int .i64 (x : Int), .int .i64 (y : Int)] w fun e w' => ∃ r : Bool, e = .returned (.bool r) ∧ (r = true ↔ simB K ea la eb lb R (x : Int) (y : Int)) ∧ Below w.heap.size w w' := by
  have hp40 := (lts_boundsB hvb).1
  have hq1 := hide (l11Out_calls ba xa ((n : Int), ia, la, ea) (x : Int) w hA)
  have hqt := hide fun (lab : ByteArray) (W : World) (hW : Below w.heap.size w W) => l17Targets_calls bb xb p ib lb eb y lab K W (hB.below hW (Nat.le_refl _)) hvb hy
  have hin := hide fun (lab : ByteArray) (v : Int) (h : stepW K eb lb (y : Int) lab v) => step_in (K := K) hvb (show 0 ≤ (y : Int) ∧ (y : Int) < (p : Int) by omega) h
  obtain ⟨d0, d1, d2, d3⟩ := hT.facts
  have hbq := hT.lt
  obtain ⟨s0, s1, v2, v3⟩ := xa
  obtain ⟨⟨e0, e1, ⟨A2, n2, k2, e2, hn2, hs2, t2⟩, -⟩, htot, hba, -, -, c2, -⟩ := hA
  dsimp only at *
  subst e0 e1 e2
  have l2 := t2.len
  replace hva := hide hva
  replace hT := hide hT
  replace hM := hide hM
  replace t2 := hide t2
  clear htot hn2 hs2 hB hvb
  go_enter Tryz.func68, Tryz.ntmps68
  go_upto_region 2 with (first | (go_at_call 78; (with_reducible refine hq1.out.mono ?_); rintro e w1 ⟨Ao, no, co, rfl, ho, hno, hb1⟩; replace ho := hide ho; replace hb1 := hide hb1))
  clear hq1
  have hol := hide ho.out.len
  have hst : Hid (∀ e ∈ (outE ea (x : Int)).take 0, ∃ v, stepW K eb lb (y : Int) (labE la e) v ∧ R e.2.2 v) := fun e he => by simp at he
  go_upto_region 3 with fail
  go_loopg [8] no (fun G i wr => ∃ k : Nat, k ≤ no ∧ i = .int .i64 (k : Int) ∧ Hid (∀ e ∈ (outE ea (x : Int)).take k, ∃ v, stepW K eb lb (y : Int) (labE la e) v ∧ R e.2.2 v) ∧ Hid (Below w1.heap.size w1 wr) ∧ Hid (no - k ≤ G))
  case atStart => exact ⟨0, Nat.zero_le _, rfl, hst, Below.refl _ _, by show _ ≤ _; omega⟩
  case round =>
    clear hst
    obtain ⟨k, hk, rfl, hal, hbr, hG⟩ := hrel
    have hbw := hide (hb1.out.trans (hbr.out.mono hb1.out.size))
    by_cases hlt : k < no
    · obtain ⟨G2, rfl⟩ : ∃ G2, gk = G2 + 1 := ⟨gk - 1, by have := hG.out; omega⟩
      have hG2 : Hid (no - (k + 1) ≤ G2) := by have := hG.out; show _ ≤ _; omega
      obtain ⟨b, off, f, ln, tn, rfl, -, -, g3, hxe, p0, p1, p2, -, -, -⟩ := SlE.get ho.out hlt
      have hmem : (f, ln, tn) ∈ ea := (List.mem_filter.1 (List.mem_of_getElem? hxe)).1
      have hed : (0 ≤ tn ∧ tn < (n : Int)) ∧ 0 ≤ ln ∧ ln < (la.length : Int) := by
        obtain ⟨j, hj⟩ := List.getElem?_of_mem hmem
        have := edge_of hva.out hj
        omega
      obtain ⟨tn, rfl⟩ : ∃ t : Nat, tn = (t : Int) := ⟨tn.toNat, by omega⟩
      obtain ⟨ln, rfl⟩ : ∃ t : Nat, ln = (t : Int) := ⟨ln.toNat, by omega⟩
      have htn : tn < n := by omega
      obtain ⟨b2, o2, lx, rfl, -, -, g2, hlx, q2, -⟩ := SlS.get t2.out (show ln < n2 by omega)
      have hlab : labE la (f, (ln : Int), (tn : Int)) = lx := by unfold labE; dsimp only; rw [Int.toNat_natCast, hlx]; rfl
      have z0 := (hbw.out.cell (p := ⟨bq, 0, none⟩) hbq).trans d0
      have z1 := (hbw.out.cell (p := ⟨bq, 1, none⟩) hbq).trans d1
      have z2 := (hbw.out.cell (p := ⟨bq, 2, none⟩) hbq).trans d2
      have z3 := (hbw.out.cell (p := ⟨ba, 2, none⟩) hba).trans c2
      have z4 := (hbw.out.cell (p := ⟨b2, o2 + ln, none⟩) g2).trans q2
      have z5 := (hbr.out.cell (p := ⟨b, off + k * 3 + 1, none⟩) g3).trans p1
      have z6 := (hbr.out.cell (p := ⟨b, off + k * 3 + 2, none⟩) g3).trans p2
      have g3r := Nat.lt_of_lt_of_le g3 hbr.out.size
      have g2r := Nat.lt_of_lt_of_le g2 hbw.out.size
      have hbqr := Nat.lt_of_lt_of_le hbq hbw.out.size
      have hbar := Nat.lt_of_lt_of_le hba hbw.out.size
      have hq5 := hide (hqt.out lx wr.drew hbw.out.drew)
      have hI0 : (0 : Int) ≤ (k : Int) := by omega
      have hI1 : (k : Int) < (no : Int) := by omega
      have hI2 : (0 : Int) ≤ (ln : Int) := by omega
      have hI3 : (ln : Int) < (n2 : Int) := by omega
      have hI4 : (0 : Int) ≤ (tn : Int) := by omega
      have hI5 : (tn : Int) < (n : Int) := by omega
      replace hmem := hide hmem
      replace hxe := hide hxe
      replace hlab := hide hlab
      clear hed hlx p0 p1 p2 q2
      go_upto_region 5 with fail
      go_region_held3 (fun w' => w'.cell? ⟨bq, 0, none⟩ = some (.pointer (some ⟨ba, 0, none⟩)) ∧ w'.cell? ⟨bq, 1, none⟩ = some (.pointer (some ⟨bb, 0, none⟩)) ∧ w'.cell? ⟨bq, 2, none⟩ = some (.int .i64 K) ∧ w'.cell? ⟨ba, 2, none⟩ = some (.slice (some ⟨b2, o2, none⟩) n2 k2) ∧ w'.cell? ⟨b2, o2 + ln, none⟩ = some (.string lx) ∧ w'.cell? ⟨b, off + k * 3 + 1, none⟩ = some (.int .i64 (ln : Int)))
        (first | exact ⟨z0, z1, z2, z3, z4, z5⟩ | exact ⟨y0, y1, y2, y3, y4, y5⟩ | go_keep)
        (first | (go_at_call 103; (with_reducible refine hq5.out.mono ?_); rintro e w5 ⟨B5, l5, rfl, hbo5, hm5, hb5d⟩; have hb5 : Below wr.heap.size wr w5 := ((Below.refl _ _).drew).trans hb5d; clear hb5d; have y0 := (hb5.cell (p := ⟨bq, 0, none⟩) hbqr).trans z0; have y1 := (hb5.cell (p := ⟨bq, 1, none⟩) hbqr).trans z1; have y2 := (hb5.cell (p := ⟨bq, 2, none⟩) hbqr).trans z2; have y3 := (hb5.cell (p := ⟨ba, 2, none⟩) hbar).trans z3; have y4 := (hb5.cell (p := ⟨b2, o2 + ln, none⟩) g2r).trans z4; have y5 := (hb5.cell (p := ⟨b, off + k * 3 + 1, none⟩) g3r).trans z5; have y6 := (hb5.cell (p := ⟨b, off + k * 3 + 2, none⟩) g3r).trans z6; replace hbo5 := hide hbo5; replace hm5 := hide hm5; replace hb5 := hide hb5))
      clear hq5 z0 z1 z2 z3 z4 z5 z6 y0 y1 y2 y3 y4 y5
      have hT5 := hide (hT.out.below (hbw.out.trans (hb5.out.mono hbw.out.size)))
      have x3 := hT5.out.facts.2.2.2
      have hf0 : Hid (false = true ↔ ∃ v : Nat, v < 0 ∧ inS l5 v = true ∧ R (tn : Int) (v : Int)) := ⟨fun h => (by cases h), fun ⟨v, h, _⟩ => absurd h (by omega)⟩
      go_upto_region 8 with fail
      go_loopg [10, 11] p (fun G fo i wr => ∃ (u : Nat) (fb : Bool) (nq : Nat), u ≤ p ∧ fo = .bool fb ∧ i = .int .i64 (u : Int) ∧ Hid (fb = true ↔ ∃ v : Nat, v < u ∧ inS l5 v = true ∧ R (tn : Int) (v : Int)) ∧ Hid (wr = w5.drewN nq) ∧ Hid (p - u ≤ G))
      case atStart => exact ⟨0, false, 0, Nat.zero_le _, rfl, rfl, hf0, rfl, by show _ ≤ _; omega⟩
      case round =>
        clear hf0
        obtain ⟨u, fb, nq0, hu, rfl, rfl, hfb, hwr, hJ⟩ := hrel
        by_cases hul : u < p
        · obtain ⟨J2, rfl⟩ : ∃ J2, gk = J2 + 1 := ⟨gk - 1, by have := hJ.out; omega⟩
          have hJ2 : Hid (p - (u + 1) ≤ J2) := by have := hJ.out; show _ ≤ _; omega
          have hK0 : (0 : Int) ≤ (u : Int) := by omega
          have hK1 : (u : Int) < (p : Int) := by omega
          have hnx : ∀ (fb' : Bool), (fb' = true ↔ (fb = true ∨ (inS l5 u = true ∧ R (tn : Int) (u : Int)))) → (fb' = true ↔ ∃ v : Nat, v < u + 1 ∧ inS l5 v = true ∧ R (tn : Int) (v : Int)) := fun fb' h => by
            rw [h, hfb.out]
            constructor
            · rintro (⟨v, h1, h2⟩ | h1)
              · exact ⟨v, by omega, h2⟩
              · exact ⟨u, by omega, h1⟩
            · rintro ⟨v, h1, h2⟩
              rcases Nat.lt_or_ge v u with h3 | h3
              · exact .inl ⟨v, h3, h2⟩
              · obtain rfl : v = u := by omega
                exact .inr h2
          obtain ⟨m0, -, -, -⟩ := hbo5.out.get hul
          have u0 : wr.cell? ⟨B5, u, none⟩ = some (.bool (inS l5 u)) := by rw [hwr.out]; exact m0
          clear m0
          cases fb with
          | true =>
            have hf2 : Hid (true = true ↔ ∃ v : Nat, v < u + 1 ∧ inS l5 v = true ∧ R (tn : Int) (v : Int)) := hnx true (by simp)
            clear hnx hfb
            go_wp2_with fail
            go_quiet (fail)
            go_wp2_with fail
            go_roundg J2
            case measure => omega
            case rel => exact ⟨u + 1, true, _, by omega, rfl, by go_num, ⟨fun _ => hf2.out.1 trivial, fun _ => rfl⟩, (by show _ = _; rw [hwr.out, World.drewN_drewN]), hJ2⟩
          | false =>
            cases hl : inS l5 u with
            | false =>
              rw [hl] at u0
              have hf2 : Hid (false = true ↔ ∃ v : Nat, v < u + 1 ∧ inS l5 v = true ∧ R (tn : Int) (v : Int)) := hnx false (by rw [hl]; simp)
              clear hnx hfb hl
              go_wp2_with fail
              go_quiet (fail)
              go_wp2_with fail
              go_roundg J2
              case measure => omega
              case rel => exact ⟨u + 1, false, _, by omega, rfl, by go_num, hf2, (by show _ = _; rw [hwr.out, World.drewN_drewN]), hJ2⟩
            | true =>
              rw [hl] at u0
              obtain ⟨b3, o3, b4, o4, c4, rv, rfl, -, -, -, r0, r1, hrv⟩ := hT5.out.rows.get hM.out htn hul
              have u1 : wr.cell? ⟨bq, 3, none⟩ = some (.slice (some ⟨b3, o3, none⟩) n c) := by rw [hwr.out]; exact x3
              have u2 : wr.cell? ⟨b, off + k * 3 + 2, none⟩ = some (.int .i64 (tn : Int)) := by rw [hwr.out]; exact y6
              have u3 : wr.cell? ⟨b3, o3 + tn, none⟩ = some (.slice (some ⟨b4, o4, none⟩) p c4) := by rw [hwr.out]; exact r0
              have u4 : wr.cell? ⟨b4, o4 + u, none⟩ = some (.bool rv) := by rw [hwr.out]; exact r1
              have hf2 : Hid (rv = true ↔ ∃ v : Nat, v < u + 1 ∧ inS l5 v = true ∧ R (tn : Int) (v : Int)) := hnx rv (by rw [hl, hrv]; simp)
              clear hnx hfb hl hrv r0 r1 x3 y6
              go_wp2_with fail
              go_quiet (fail)
              go_wp2_with fail
              go_roundg J2
              case measure => omega
              case rel => exact ⟨u + 1, rv, _, by omega, rfl, by go_num, hf2, (by show _ = _; rw [hwr.out, World.drewN_drewN]), hJ2⟩
        · have hup : u = p := by omega
          subst hup
          have hiff : fb = true ↔ ∃ v : Int, stepW K eb lb (y : Int) lx v ∧ R (tn : Int) v := by
            rw [hfb.out]
            constructor
            · rintro ⟨v, h1, h2, h3⟩
              exact ⟨(v : Int), (hm5.out v h1).1 h2, h3⟩
            · rintro ⟨v, h1, h2⟩
              have := hin.out lx v h1
              obtain ⟨v, rfl⟩ : ∃ t : Nat, v = (t : Int) := ⟨v.toNat, by omega⟩
              exact ⟨v, by omega, (hm5.out v (by omega)).2 h1, h2⟩
          have hsu := ex_take_succ (p := fun e : Ed => ¬ ∃ v, stepW K eb lb (y : Int) (labE la e) v ∧ R e.2.2 v) hxe.out
          cases fb with
          | true =>
            have hal2 : Hid (∀ e ∈ (outE ea (x : Int)).take (k + 1), ∃ v, stepW K eb lb (y : Int) (labE la e) v ∧ R e.2.2 v) := fun e he => by
              rw [List.take_add_one, hxe.out] at he
              rcases List.mem_append.1 he with he | he
              · exact hal.out e he
              · have : e = (f, (ln : Int), (tn : Int)) := by simpa using he
                subst this
                rw [hlab.out]
                exact hiff.1 rfl
            have hbr2 : Hid (Below w1.heap.size w1 wr) := by show Below _ _ _; rw [hwr.out]; exact (hbr.out.trans (hb5.out.mono hbr.out.size)).trans ((below_drewN w5 nq0).mono (Nat.le_trans hbr.out.size hb5.out.size))
            clear hiff hsu hal hfb
            go_wp2_with fail
            go_roundg G2
            case measure => omega
            case rel => exact ⟨k + 1, by omega, by go_num, hal2, hbr2, hG2⟩
          | false =>
            have hno' : Hid (¬ simB K ea la eb lb R (x : Int) (y : Int)) := fun h => by
              obtain ⟨v, h1, h2⟩ := h _ (List.mem_of_getElem? hxe.out)
              rw [hlab.out] at h1
              exact absurd (hiff.2 ⟨v, h1, h2⟩) (by decide)
            have hbr2 : Hid (Below w.heap.size w wr) := by show Below _ _ _; rw [hwr.out]; exact (hbw.out.trans (hb5.out.mono hbw.out.size)).trans ((below_drewN w5 nq0).mono (Nat.le_trans hbw.out.size hb5.out.size))
            clear hiff hsu hal hfb
            go_wp2_with fail
            go_ret
            exact ⟨false, rfl, ⟨fun h => (by cases h), fun h => absurd h hno'.out⟩, hbr2.out⟩
    · have hkn : k = no := by omega
      subst hkn
      have hall : Hid (simB K ea la eb lb R (x : Int) (y : Int)) := fun e he => by
        have := hal.out e
        rw [List.take_of_length_le (by rw [hol.out]; exact Nat.le_refl _)] at this
        exact this he
      clear hal
      go_wp2_with fail
      go_ret
      exact ⟨true, rfl, ⟨fun _ => hall.out, fun _ => rfl⟩, hbw.out⟩

end Go.Proofs.YthlaoedpjloloaaGreatDoor

namespace Go.Proofs.YthlaoedpjloloaaGreatDoor
open Go.ChangeShapes Go.WideShapes Go.ChangeAt Go.RowKit Go.Sort
set_option linter.unusedVariables false
set_option linter.unusedSimpArgs false

def nxtR (K : Int) (ea : List Ed) (la : List ByteArray) (eb : List Ed) (lb : List ByteArray) (R : Rel2) : Rel2 := fun x y => R x y ∧ simB K ea la eb lb R x y
/-- A pair ahead of (x, y) has gone. -/
def GonR (R R' : Rel2) (p x y : Nat) : Prop := ∃ u v : Nat, (u < x ∧ v < p ∨ u = x ∧ v < y) ∧ R (u : Int) (v : Int) ∧ ¬ R' (u : Int) (v : Int)
theorem GonR.start (R R' : Rel2) (p : Nat) : ¬ GonR R R' p 0 0 := fun ⟨u, v, h, _⟩ => by omega
theorem GonR.row {R R' : Rel2} {p x : Nat} : GonR R R' p x p ↔ GonR R R' p (x + 1) 0 := by
  constructor
  · rintro ⟨u, v, h, g⟩
    exact ⟨u, v, by omega, g⟩
  · rintro ⟨u, v, h, g⟩
    exact ⟨u, v, by omega, g⟩
theorem GonR.next {R R' : Rel2} {p x y : Nat} : GonR R R' p x (y + 1) ↔ GonR R R' p x y ∨ (R (x : Int) (y : Int) ∧ ¬ R' (x : Int) (y : Int)) := by
  constructor
  · rintro ⟨u, v, h, g⟩
    by_cases e : u = x ∧ v = y
    · obtain ⟨rfl, rfl⟩ := e
      exact .inr g
    · exact .inl ⟨u, v, by omega, g⟩
  · rintro (⟨u, v, h, g⟩ | g)
    · exact ⟨u, v, by omega, g⟩
    · exact ⟨x, y, by omega, g⟩
def ChgI (b : Bool) (R R' : Rel2) (p x y : Nat) : Prop := b = true ↔ GonR R R' p x y

theorem TabS.made (w : World) (ba bb : Nat) (K : Int) : TabS (w.alloc (.cells #[.pointer (some ⟨ba, 0, none⟩), .pointer (some ⟨bb, 0, none⟩), .int .i64 K, .slice none 0 0] 69)) w.heap.size w.heap.size ba bb K none 0 0 [] :=
  ⟨Nat.le_refl _, heap_alloc_new _ _, ⟨Own.nil_ _ _ _, fun r hr => by cases hr⟩⟩
theorem TabS.drew {w : World} {base bt ba bb n c : Nat} {K : Int} {A : Option Addr} {H : List (Hd × List Bool)} (h : TabS w base bt ba bb K A n c H) : TabS w.drew base bt ba bb K A n c H := h.below ((Below.refl _ _).drew)

open Classical in
set_option maxRecDepth 100000 in
set_option maxHeartbeats 3200000 in
theorem l17next_calls (base bq ba bb : Nat) (xa xb : CL) (n p : Nat) (ia ib : Int) (la lb : List ByteArray) (ea eb : List Ed) (K : Int) (A : Option Addr) (c : Nat) (H : List (Hd × List Bool)) (R : Rel2) (w : World)
    (hT : TabS w base bq ba bb K A n c H) (hM : H.map (·.2) = tabR n p R) (hA : LtsAt w ba xa ((n : Int), ia, la, ea)) (hB : LtsAt w bb xb ((p : Int), ib, lb, eb)) (hva : ltsV ((n : Int), ia, la, ea) = true) (hvb : ltsV ((p : Int), ib, lb, eb) = true) :
    Calls Tryz.prog 42 #[.pointer (some ⟨bq, 0, none⟩)] w fun e w' => ∃ (bq' : Nat) (A' : Option Addr) (c' : Nat) (H' : List (Hd × List Bool)) (ch : Bool), e = .returned (.tuple #[.pointer (some ⟨bq', 0, none⟩), .bool ch]) ∧ TabS w' w.heap.size bq' ba bb K A' n c' H' ∧ H'.map (·.2) = tabR n p (nxtR K ea la eb lb R) ∧ ChgI ch R (nxtR K ea la eb lb R) p n 0 ∧ Below w.heap.size w w' := by
  have hn40 := (lts_boundsB hva).1
  have hp40 := (lts_boundsB hvb).1
  obtain ⟨d0, d1, d2, d3⟩ := hT.facts
  have hbq := hT.lt
  have hqh := hide fun (x y : Nat) (hx : x < n) (hy : y < p) (W : World) (hW : Below w.heap.size w W) => l17holds_calls base bq ba bb xa xb n p ia ib la lb ea eb K A c H R x y W (hT.below hW) hM (hA.below hW (Nat.le_refl _)) (hB.below hW (Nat.le_refl _)) hva hvb hx hy
  have hTn := hide (TabS.made w ba bb K).drew
  have hb0 := hide (((Below.refl w.heap.size w).alloc (Nat.le_refl _) (.cells #[.pointer (some ⟨ba, 0, none⟩), .pointer (some ⟨bb, 0, none⟩), .int .i64 K, .slice none 0 0] 69)).drew)
  have m0 := (hb0.out.cell (p := ⟨bq, 0, none⟩) hbq).trans d0
  have m1 := (hb0.out.cell (p := ⟨bq, 1, none⟩) hbq).trans d1
  have m2 := (hb0.out.cell (p := ⟨bq, 2, none⟩) hbq).trans d2
  have hE := hide elem_bool
  have hES := hide elem_boolS
  replace hT := hide hT
  replace hM := hide hM
  clear hA hB hva hvb
  go_enter Tryz.func42, Tryz.ntmps42
  go_upto_region 1 with fail
  go_cut [4] (fun v wx => v = .pointer (some ⟨w.heap.size, 0, none⟩) ∧ wx = (w.alloc (.cells #[.pointer (some ⟨ba, 0, none⟩), .pointer (some ⟨bb, 0, none⟩), .int .i64 K, .slice none 0 0] 69)).drew)
  case first =>
    go_region_held3 (fun w' => w'.cell? ⟨bq, 0, none⟩ = some (.pointer (some ⟨ba, 0, none⟩)) ∧ w'.cell? ⟨bq, 1, none⟩ = some (.pointer (some ⟨bb, 0, none⟩)) ∧ w'.cell? ⟨bq, 2, none⟩ = some (.int .i64 K)) (first | exact ⟨d0, d1, d2⟩ | exact ⟨m0, m1, m2⟩ | go_keep) (fail)
    all_goals (go_wp2_with fail; go_meet)
    all_goals exact ⟨rfl, rfl⟩
  case rest =>
  obtain ⟨rfl, rfl⟩ := hcut
  clear m0 m1 m2
  generalize (w.alloc (.cells #[.pointer (some ⟨ba, 0, none⟩), .pointer (some ⟨bb, 0, none⟩), .int .i64 K, .slice none 0 0] 69)).drew = W0 at *
  have hM0 : Hid (([] : List (Hd × List Bool)).map (·.2) = tabR 0 p (nxtR K ea la eb lb R)) := rfl
  have hC0 : Hid (ChgI false R (nxtR K ea la eb lb R) p 0 0) := ⟨fun h => (by cases h), fun h => absurd h (GonR.start _ _ _)⟩
  go_upto_region 4 with fail
  go_loopg [5, 6] n (fun G ch i wr => ∃ (x : Nat) (chb : Bool) (A' : Option Addr) (c' : Nat) (H' : List (Hd × List Bool)), x ≤ n ∧ ch = .bool chb ∧ i = .int .i64 (x : Int) ∧ Hid (TabS wr w.heap.size w.heap.size ba bb K A' x c' H') ∧ Hid (H'.map (·.2) = tabR x p (nxtR K ea la eb lb R)) ∧ Hid (ChgI chb R (nxtR K ea la eb lb R) p x 0) ∧ Hid (Below w.heap.size w wr) ∧ Hid (n - x ≤ G))
  case atStart => exact ⟨0, false, none, 0, [], Nat.zero_le _, rfl, rfl, hTn, hM0, hC0, hb0, by show _ ≤ _; omega⟩
  case round =>
    clear hTn hM0 hC0 hb0
    obtain ⟨x, chb, A', c', H', hx, rfl, rfl, hTx, hMx, hCx, hbx, hG⟩ := hrel
    generalize wr = wo at *
    have y3 := (hbx.out.cell (p := ⟨bq, 3, none⟩) hbq).trans d3
    by_cases hxl : x < n
    · obtain ⟨G2, rfl⟩ : ∃ G2, gk = G2 + 1 := ⟨gk - 1, by have := hG.out; omega⟩
      have hG2 : Hid (n - (x + 1) ≤ G2) := by have := hG.out; show _ ≤ _; omega
      have hX0 : (0 : Int) ≤ (x : Int) := by omega
      have hX1 : (x : Int) < (n : Int) := by omega
      have hr0 : Hid (Own 1 bv (wo.alloc (.cells #[] 4)) wo.heap.size 4 (some ⟨wo.heap.size, 0, none⟩) 0 0 (rowR2 0 (nxtR K ea la eb lb R) x)) := Own.made wo _ (Nat.le_refl _)
      have hw0 := hide ((Below.refl wo.heap.size wo).alloc (Nat.le_refl _) (.cells #[] 4))
      go_upto_region 8 with fail
      clear y3
      go_loopg [5, 7, 8] p (fun J ch row i wr => ∃ (y : Nat) (chb : Bool) (Ar : Option Addr) (cr : Nat), y ≤ p ∧ ch = .bool chb ∧ row = .slice Ar y cr ∧ i = .int .i64 (y : Int) ∧ Hid (Own 1 bv wr wo.heap.size 4 Ar y cr (rowR2 y (nxtR K ea la eb lb R) x)) ∧ Hid (ChgI chb R (nxtR K ea la eb lb R) p x y) ∧ Hid (Below wo.heap.size wo wr) ∧ Hid (p - y ≤ J))
      case atStart => exact ⟨0, chb, _, 0, Nat.zero_le _, rfl, rfl, rfl, hr0, hCx, hw0, by show _ ≤ _; omega⟩
      case round =>
        clear hr0 hCx hw0
        obtain ⟨y, chb, Ar, cr, hy, rfl, rfl, rfl, hrow, hCy, hwy, hJ⟩ := hrel
        have hbw := hide (hbx.out.trans (hwy.out.mono hbx.out.size))
        by_cases hyl : y < p
        · obtain ⟨J2, rfl⟩ : ∃ J2, gk = J2 + 1 := ⟨gk - 1, by have := hJ.out; omega⟩
          have hJ2 : Hid (p - (y + 1) ≤ J2) := by have := hJ.out; show _ ≤ _; omega
          have hY0 : (0 : Int) ≤ (y : Int) := by omega
          have hY1 : (y : Int) < (p : Int) := by omega
          obtain ⟨b3, o3, b4, o4, c4, rv, rfl, g3, g4, -, r0, r1, hrv⟩ := hT.out.rows.get hM.out hxl hyl
          have y3 := (hbw.out.cell (p := ⟨bq, 3, none⟩) hbq).trans d3
          have u3 := (hbw.out.cell (p := ⟨b3, o3 + x, none⟩) g3).trans r0
          have u4 := (hbw.out.cell (p := ⟨b4, o4 + y, none⟩) g4).trans r1
          have hq := hide (hqh.out x y hxl hyl wr hbw.out)
          have hrs := hide (rowR2_succ y (nxtR K ea la eb lb R) x)
          have hza : ∀ o, wo.heap.size ≤ (wr.alloc o).heap.size := fun o => by rw [World.size_alloc]; have := hwy.out.size; omega
          clear r0 r1
          go_upto_region 10 with fail
          go_cut [9] (fun v wx => v = .bool (decide (nxtR K ea la eb lb R (x : Int) (y : Int))) ∧ Below wr.heap.size wr wx)
          case first =>
            cases rv with
            | false =>
              have hd : Hid (decide (nxtR K ea la eb lb R (x : Int) (y : Int)) = false) := decide_eq_false fun h => by have := hrv.2 h.1; cases this
              clear hrv hq
              go_wp2_with fail
              go_meet
              exact ⟨by rw [hd.out], Below.refl _ _⟩
            | true =>
              have hR := hide (hrv.1 rfl)
              clear hrv
              go_wp2_with (first | (go_at_call 68; (with_reducible refine hq.out.mono ?_); rintro e w5 ⟨a, rfl, ha, hb5⟩; replace ha := hide ha; replace hb5 := hide hb5))
              go_meet
              have hd : decide (nxtR K ea la eb lb R (x : Int) (y : Int)) = a := by
                cases a with
                | true => exact decide_eq_true ⟨hR.out, ha.out.1 rfl⟩
                | false => exact decide_eq_false fun h => by have := ha.out.2 h.2; cases this
              exact ⟨by rw [hd], hb5.out⟩
          case rest =>
          obtain ⟨rfl, hb6⟩ := hcut
          clear hq
          generalize hkp : decide (nxtR K ea la eb lb R (x : Int) (y : Int)) = kp at *
          have hkp' : kp = true ↔ nxtR K ea la eb lb R (x : Int) (y : Int) := by rw [← hkp]; exact decide_eq_true_iff
          have hC6 : Hid (∀ b : Bool, (b = true ↔ chb = true ∨ (rv = true ∧ kp = false)) → ChgI b R (nxtR K ea la eb lb R) p x (y + 1)) := fun b h => by
            show _ ↔ _
            have hCy' : chb = true ↔ GonR R (nxtR K ea la eb lb R) p x y := hCy.out
            rw [h, GonR.next, hCy', hrv]
            constructor
            · rintro (h1 | ⟨h1, h2⟩)
              · exact .inl h1
              · exact .inr ⟨h1, fun h3 => by have := hkp'.2 h3; rw [h2] at this; cases this⟩
            · rintro (h1 | ⟨h1, h2⟩)
              · exact .inl h1
              · exact .inr ⟨h1, by cases hk : kp with | false => rfl | true => exact absurd (hkp'.1 hk) h2⟩
          have hgr := Nat.lt_of_lt_of_le hbq hbw.out.size
          have g3r := Nat.lt_of_lt_of_le g3 hbw.out.size
          have g4r := Nat.lt_of_lt_of_le g4 hbw.out.size
          have y3' := (hb6.cell (p := ⟨bq, 3, none⟩) hgr).trans y3
          have u3' := (hb6.cell (p := ⟨b3, o3 + x, none⟩) g3r).trans u3
          have u4' := (hb6.cell (p := ⟨b4, o4 + y, none⟩) g4r).trans u4
          have hrow6 := hide (hrow.out.below hb6 (Nat.le_refl _))
          have hw6 := hide (hwy.out.trans (hb6.mono hwy.out.size))
          have hkr : kp = true → rv = true := fun h => hrv.2 (hkp'.1 h).1
          clear hkp hkp' hCy hrv hrow y3 u3 u4 hb6 hwy hza
          go_upto_region 11 with fail
          go_cut [5] (fun v wx => v = .bool (chb || (rv && !kp)) ∧ wx = wc)
          case first =>
            cases chb with
            | true =>
              go_wp2_with fail
              go_meet
              exact ⟨rfl, rfl⟩
            | false =>
              cases rv with
              | true =>
                cases kp with
                | true => go_wp2_with fail; go_meet; exact ⟨rfl, rfl⟩
                | false => go_wp2_with fail; go_meet; exact ⟨rfl, rfl⟩
              | false =>
                cases kp with
                | true => exact absurd (hkr rfl) (by decide)
                | false => go_wp2_with fail; go_meet; exact ⟨rfl, rfl⟩
          case rest =>
          obtain ⟨rfl, rfl⟩ := hcut
          have hC7 := hide (hC6.out (chb || (rv && !kp)) (by cases chb <;> cases rv <;> cases kp <;> simp))
          have hza : ∀ o, wo.heap.size ≤ (wc.alloc o).heap.size := fun o => by rw [World.size_alloc]; have := hw6.out.size; omega
          generalize (chb || (rv && !kp)) = ch7 at *
          clear hC6 hkr y3' u3' u4'
          go_wp2_with (first | (at_builtin; (with_reducible refine wpList_app rfl (.tmp 77) (.tmp 79) rfl hE.out flat_bv rfl (hrow6.out.alloc _) rfl (Sl.lit1' wc 4 kp _ rfl 1 _ ?c0) ?c1 (hza _) ?_); rotate_right; intro A7 c7 w7 hown7 hgr7 hb7 _))
          case c0 => rfl
          case c1 => omega
          have hw8 := hide ((hw6.out.alloc hw6.out.size (.cells #[.bool kp] 4)).trans hb7)
          replace hown7 : Hid (Own 1 bv w7 wo.heap.size 4 A7 (y + 1) c7 (rowR2 (y + 1) (nxtR K ea la eb lb R) x)) := by show Own _ _ _ _ _ _ _ _ _; rw [hrs.out]; exact hown7
          clear hgr7 hb7
          go_roundg J2
          case measure => omega
          case rel => exact ⟨y + 1, ch7, A7, c7, by omega, rfl, rfl, by go_num, hown7, hC7, hw8, hJ2⟩
        · have hyp : y = p := by omega
          subst hyp
          obtain ⟨b3, o3, b4, o4, c4, rv, rfl, g3, -, -, r0, -, -⟩ := hT.out.rows.get hM.out hxl (show 0 < y by omega)
          have y3 := (hbw.out.cell (p := ⟨bq, 3, none⟩) hbq).trans d3
          have u3 := (hbw.out.cell (p := ⟨b3, o3 + x, none⟩) g3).trans r0
          have hTw := hTx.out.below hwy.out
          have kT := hTw.cells
          have hrow' := hrow.out.lower (show w.heap.size ≤ wo.heap.size from hbx.out.size)
          have hrl := hide (tabR_succ x y (nxtR K ea la eb lb R))
          have hC8 : Hid (ChgI chb R (nxtR K ea la eb lb R) y (x + 1) 0) := (show chb = true ↔ _ from hCy.out).trans GonR.row
          have f3 := hTw.facts.2.2.2
          have hza : ∀ o, w.heap.size ≤ (wr.alloc o).heap.size := fun o => by rw [World.size_alloc]; have := hbw.out.size; omega
          have hgo := hide hTw.rows.own
          have hTw' := hide hTw
          replace hrow' := hide hrow'
          have hx40 : x ≤ 40 := by omega
          clear hTw kT hrow hCy hTx
          go_wp2_with (first | (at_builtin; (with_reducible refine wpList_app rfl (.tmp 85) (.tmp 87) rfl hES.out flat_sv rfl (hgo.out.alloc _) rfl (Sl.lit1' wr 66 (Ar, y, cr) _ rfl 1 _ ?c0) ?c1 (hza _) ?_); rotate_right; intro A7 c7 w7 hown7 hgr7 hb7 _; have k7 := hTw'.out.mid hgr7; have k7f := frozen_of_row _ _ 3 _ _ k7; have hT8 := hide (hTw'.out.row (r := ((Ar, y, cr), _)) hrow'.out hown7 hgr7); have hb8 := hide (((hbw.out.alloc hbw.out.size (.cells #[.slice Ar y cr] 66)).trans hb7).setCell (p := ⟨w.heap.size, 3, none⟩) (Nat.le_refl _) (.slice A7 (x + 1) c7)); have k7c := (cell_of_row _ _ 3 _ _ (0, 0) k7).trans (show _ = some (Value.slice A' x c') from rfl); clear hgr7 hb7 hown7 k7))
          case c0 => rfl
          case c1 => omega
          have hM8 : Hid ((H' ++ [((Ar, y, cr), rowR2 y (nxtR K ea la eb lb R) x)]).map (·.2) = tabR (x + 1) y (nxtR K ea la eb lb R)) := by show _ = _; rw [List.map_append, hMx.out, hrl.out]; rfl
          go_roundg G2
          case measure => omega
          case rel => exact ⟨x + 1, chb, A7, c7, _, by omega, rfl, by go_num, hT8, hM8, hC8, hb8, hG2⟩
    · have hxn : x = n := by omega
      subst hxn
      go_wp2_with fail
      go_ret2
      exact ⟨w.heap.size, A', c', H', chb, rfl, hTx.out, hMx.out, hCx.out, hbx.out⟩

end Go.Proofs.YthlaoedpjloloaaGreatDoor

namespace Go.Proofs.YthlaoedpjloloaaGreatDoor
open Go.ChangeShapes Go.WideShapes Go.ChangeAt Go.RowKit Go.Sort
set_option linter.unusedVariables false
set_option linter.unusedSimpArgs false

open Classical in
set_option maxRecDepth 100000 in
set_option maxHeartbeats 3200000 in
theorem l17First_calls (ba bb : Nat) (xa xb : CL) (n p : Nat) (ia ib : Int) (la lb : List ByteArray) (ea eb : List Ed) (K : Int) (w : World)
    (hA : LtsAt w ba xa ((n : Int), ia, la, ea)) (hB : LtsAt w bb xb ((p : Int), ib, lb, eb)) (hva : ltsV ((n : Int), ia, la, ea) = true) (hvb : ltsV ((p : Int), ib, lb, eb) = true) :
    Calls Tryz.prog 41 #[.pointer (some ⟨ba, 0, none⟩), .pointer (some ⟨bb, 0, none⟩), .int .i64 K] w fun e w' => ∃ (bq' : Nat) (A' : Option Addr) (c' : Nat) (H' : List (Hd × List Bool)), e = .returned (.pointer (some ⟨bq', 0, none⟩)) ∧ TabS w' w.heap.size bq' ba bb K A' n c' H' ∧ H'.map (·.2) = tabR n p (simR K n p ea la eb lb 0) ∧ Below w.heap.size w w' := by
  have hn40 := (lts_boundsB hva).1
  have hp40 := (lts_boundsB hvb).1
  have hq1 := hide fun (x : Nat) (W : World) (hW : Below w.heap.size w W) => l17Ready_calls ba xa _ (x : Int) W (hA.below hW (Nat.le_refl _))
  have hq2 := hide fun (y : Nat) (W : World) (hW : Below w.heap.size w W) => l17Ready_calls bb xb _ (y : Int) W (hB.below hW (Nat.le_refl _))
  dsimp only at hq1 hq2
  have hTn := hide (TabS.made w ba bb K)
  have hb0 := hide ((Below.refl w.heap.size w).alloc (Nat.le_refl _) (.cells #[.pointer (some ⟨ba, 0, none⟩), .pointer (some ⟨bb, 0, none⟩), .int .i64 K, .slice none 0 0] 69))
  have hE := hide elem_bool
  have hES := hide elem_boolS
  obtain ⟨s0, s1, v2, v3⟩ := xa
  obtain ⟨r0, r1, u2, u3⟩ := xb
  obtain ⟨⟨e0, -, -, -⟩, -, hba, c0, -, -, -⟩ := hA
  obtain ⟨⟨f0, -, -, -⟩, -, hbb, g0, -, -, -⟩ := hB
  dsimp only at *
  subst e0 f0
  have hval : Hid (∀ x y : Nat, x < n → y < p → (simR K n p ea la eb lb 0 (x : Int) (y : Int) ↔ (K = 1 → rdyL ea la (x : Int) = rdyL eb lb (y : Int)))) := fun x y hx hy => ⟨fun h => h.2, fun h => ⟨⟨⟨by omega, by omega⟩, by omega, by omega⟩, h⟩⟩
  clear hva hvb
  go_enter Tryz.func41, Tryz.ntmps41
  go_upto_region 2 with fail
  generalize (w.alloc (.cells #[.pointer (some ⟨ba, 0, none⟩), .pointer (some ⟨bb, 0, none⟩), .int .i64 K, .slice none 0 0] 69)) = W0 at *
  have hM0 : Hid (([] : List (Hd × List Bool)).map (·.2) = tabR 0 p (simR K n p ea la eb lb 0)) := rfl
  go_upto_region 3 with fail
  go_loopg [8] n (fun G i wr => ∃ (x : Nat) (A' : Option Addr) (c' : Nat) (H' : List (Hd × List Bool)), x ≤ n ∧ i = .int .i64 (x : Int) ∧ Hid (TabS wr w.heap.size w.heap.size ba bb K A' x c' H') ∧ Hid (H'.map (·.2) = tabR x p (simR K n p ea la eb lb 0)) ∧ Hid (Below w.heap.size w wr) ∧ Hid (n - x ≤ G))
  case atStart => exact ⟨0, none, 0, [], Nat.zero_le _, rfl, hTn, hM0, hb0, by show _ ≤ _; omega⟩
  case round =>
    clear hTn hM0 hb0
    obtain ⟨x, A', c', H', hx, rfl, hTx, hMx, hbx, hG⟩ := hrel
    generalize wr = wo at *
    have y0 := (hbx.out.cell (p := ⟨ba, 0, none⟩) hba).trans c0
    by_cases hxl : x < n
    · obtain ⟨G2, rfl⟩ : ∃ G2, gk = G2 + 1 := ⟨gk - 1, by have := hG.out; omega⟩
      have hG2 : Hid (n - (x + 1) ≤ G2) := by have := hG.out; show _ ≤ _; omega
      have hX1 : (x : Int) < (n : Int) := by omega
      have hr0 : Hid (Own 1 bv (wo.alloc (.cells #[] 4)) wo.heap.size 4 (some ⟨wo.heap.size, 0, none⟩) 0 0 (rowR2 0 (simR K n p ea la eb lb 0) x)) := Own.made wo _ (Nat.le_refl _)
      have hw0 := hide ((Below.refl wo.heap.size wo).alloc (Nat.le_refl _) (.cells #[] 4))
      go_upto_region 7 with fail
      clear y0
      go_loopg [9, 10] p (fun J row i wr => ∃ (y : Nat) (Ar : Option Addr) (cr : Nat), y ≤ p ∧ row = .slice Ar y cr ∧ i = .int .i64 (y : Int) ∧ Hid (Own 1 bv wr wo.heap.size 4 Ar y cr (rowR2 y (simR K n p ea la eb lb 0) x)) ∧ Hid (Below wo.heap.size wo wr) ∧ Hid (p - y ≤ J))
      case atStart => exact ⟨0, _, 0, Nat.zero_le _, rfl, rfl, hr0, hw0, by show _ ≤ _; omega⟩
      case round =>
        clear hr0 hw0
        obtain ⟨y, Ar, cr, hy, rfl, rfl, hrow, hwy, hJ⟩ := hrel
        have hbw := hide (hbx.out.trans (hwy.out.mono hbx.out.size))
        have z0 := (hbw.out.cell (p := ⟨bb, 0, none⟩) hbb).trans g0
        by_cases hyl : y < p
        · obtain ⟨J2, rfl⟩ : ∃ J2, gk = J2 + 1 := ⟨gk - 1, by have := hJ.out; omega⟩
          have hJ2 : Hid (p - (y + 1) ≤ J2) := by have := hJ.out; show _ ≤ _; omega
          have hY1 : (y : Int) < (p : Int) := by omega
          have hrs := hide (rowR2_succ y (simR K n p ea la eb lb 0) x)
          go_upto_region 9 with fail
          clear z0
          by_cases hK : K = 1
          · have hd : decide (simR K n p ea la eb lb 0 (x : Int) (y : Int)) = decide (rdyL ea la (x : Int) = rdyL eb lb (y : Int)) := decide_eq_decide.2 ((hval.out x y hxl hyl).trans ⟨fun h => h hK, fun h _ => h⟩)
            have hK1 : (K != 1) = false := by rw [hK]; rfl
            have q1 := hide (hq1.out x wr hbw.out)
            have q2 := hide fun (W : World) (hW : Below wr.heap.size wr W) => hq2.out y W (hbw.out.trans (hW.mono hbw.out.size))
            replace hd := hide hd
            clear hK
            go_wp2_with (first | (go_at_call 67; (with_reducible refine q1.out.mono ?_); rintro e w5 ⟨A5, n5, c5, rfl, h5, hn5, hb5⟩; have q3 := hide (q2.out w5 hb5); clear q1; replace h5 := hide h5; replace hb5 := hide hb5) | (go_at_call 67; (with_reducible refine q3.out.mono ?_); rintro e w6 ⟨A6, n6, c6, rfl, h6, hn6, hb6⟩; have q4 := hide (l11Texts_calls A5 n5 c5 A6 n6 c6 _ _ w6 _ _ _ _ (h5.out.below hb6 (.inr (Nat.le_refl _))) h6 hn5 hn6); have hb7 := hide (hb5.out.trans (hb6.mono hb5.out.size)); clear q3 h5 h6 hb5 hb6) | (go_at_call 66; (with_reducible refine q4.out.mono ?_); rintro e w7 ⟨rfl, nq, rfl⟩; have hb8 := hide (hb7.out.trans ((below_drewN w6 nq).mono hb7.out.size)); have hown8 := hide (hrow.out.below hb8.out (Nat.le_refl _)); have hw8 := hide (hwy.out.trans (hb8.out.mono hwy.out.size)); have hza : ∀ o, wo.heap.size ≤ ((w6.drewN nq).alloc o).heap.size := (fun o => by rw [World.size_alloc]; have := hw8.out.size; omega); clear q4 hb7 hrow hwy; generalize (w6.drewN nq) = w8 at *) | (at_builtin; (with_reducible refine wpList_app rfl (.tmp 33) (.tmp 45) rfl hE.out flat_bv rfl (hown8.out.alloc _) rfl (Sl.lit1' w8 4 (decide (rdyL ea la (x : Int) = rdyL eb lb (y : Int))) _ rfl 1 _ ?c0) ?c1 (hza _) ?_); rotate_right; intro A7 c7 w7 hown7 hgr7 hb7 _))
            case c0 => rfl
            case c1 => omega
            have hw9 := hide ((hw8.out.alloc hw8.out.size (.cells #[.bool (decide (rdyL ea la (x : Int) = rdyL eb lb (y : Int)))] 4)).trans hb7)
            replace hown7 : Hid (Own 1 bv w7 wo.heap.size 4 A7 (y + 1) c7 (rowR2 (y + 1) (simR K n p ea la eb lb 0) x)) := by show Own _ _ _ _ _ _ _ _ _; rw [hrs.out, hd.out]; exact hown7
            clear hgr7 hb7
            go_roundg J2
            case measure => omega
            case rel => exact ⟨y + 1, A7, c7, by omega, rfl, by go_num, hown7, hw9, hJ2⟩
          · have hd : Hid (decide (simR K n p ea la eb lb 0 (x : Int) (y : Int)) = true) := decide_eq_true ((hval.out x y hxl hyl).2 fun h => absurd h hK)
            have hK1 : (K != 1) = true := by simpa using hK
            have hza : ∀ o, wo.heap.size ≤ (wr.alloc o).heap.size := fun o => by rw [World.size_alloc]; have := hwy.out.size; omega
            clear hK
            go_wp2_with (first | (at_builtin; (with_reducible refine wpList_app rfl (.tmp 33) (.tmp 45) rfl hE.out flat_bv rfl (hrow.out.alloc _) rfl (Sl.lit1' wr 4 true _ rfl 1 _ ?c0) ?c1 (hza _) ?_); rotate_right; intro A7 c7 w7 hown7 hgr7 hb7 _))
            case c0 => rfl
            case c1 => omega
            have hw9 := hide ((hwy.out.alloc hwy.out.size (.cells #[.bool true] 4)).trans hb7)
            replace hown7 : Hid (Own 1 bv w7 wo.heap.size 4 A7 (y + 1) c7 (rowR2 (y + 1) (simR K n p ea la eb lb 0) x)) := by show Own _ _ _ _ _ _ _ _ _; rw [hrs.out, hd.out]; exact hown7
            clear hgr7 hb7
            go_roundg J2
            case measure => omega
            case rel => exact ⟨y + 1, A7, c7, by omega, rfl, by go_num, hown7, hw9, hJ2⟩
        · have hyp : y = p := by omega
          subst hyp
          have hTw := hTx.out.below hwy.out
          have hrow' := hrow.out.lower (show w.heap.size ≤ wo.heap.size from hbx.out.size)
          have hrl := hide (tabR_succ x y (simR K n y ea la eb lb 0))
          have f3 := hTw.facts.2.2.2
          have hza : ∀ o, w.heap.size ≤ (wr.alloc o).heap.size := fun o => by rw [World.size_alloc]; have := hbw.out.size; omega
          have hgo := hide hTw.rows.own
          have hTw' := hide hTw
          replace hrow' := hide hrow'
          have hx40 : x ≤ 40 := by omega
          clear hTw hrow hTx
          go_wp2_with (first | (at_builtin; (with_reducible refine wpList_app rfl (.tmp 51) (.tmp 53) rfl hES.out flat_sv rfl (hgo.out.alloc _) rfl (Sl.lit1' wr 66 (Ar, y, cr) _ rfl 1 _ ?c0) ?c1 (hza _) ?_); rotate_right; intro A7 c7 w7 hown7 hgr7 hb7 _; have k7 := hTw'.out.mid hgr7; have k7f := frozen_of_row _ _ 3 _ _ k7; have hT8 := hide (hTw'.out.row (r := ((Ar, y, cr), _)) hrow'.out hown7 hgr7); have hb8 := hide (((hbw.out.alloc hbw.out.size (.cells #[.slice Ar y cr] 66)).trans hb7).setCell (p := ⟨w.heap.size, 3, none⟩) (Nat.le_refl _) (.slice A7 (x + 1) c7)); have k7c := (cell_of_row _ _ 3 _ _ (0, 0) k7).trans (show _ = some (Value.slice A' x c') from rfl); clear hgr7 hb7 hown7 k7))
          case c0 => rfl
          case c1 => omega
          have hM8 : Hid ((H' ++ [((Ar, y, cr), rowR2 y (simR K n y ea la eb lb 0) x)]).map (·.2) = tabR (x + 1) y (simR K n y ea la eb lb 0)) := by show _ = _; rw [List.map_append, hMx.out, hrl.out]; rfl
          go_roundg G2
          case measure => omega
          case rel => exact ⟨x + 1, A7, c7, _, by omega, by go_num, hT8, hM8, hb8, hG2⟩
    · have hxn : x = n := by omega
      subst hxn
      go_wp2_with fail
      go_ret
      exact ⟨w.heap.size, A', c', H', rfl, hTx.out, hMx.out, hbx.out⟩

end Go.Proofs.YthlaoedpjloloaaGreatDoor

namespace Go.Proofs.YthlaoedpjloloaaGreatDoor
open Go.ChangeShapes Go.WideShapes Go.ChangeAt Go.RowKit Go.Sort
set_option linter.unusedVariables false
set_option linter.unusedSimpArgs false

theorem countP_less {α : Type} {P Q : α → Bool} : ∀ {l : List α}, (∀ x ∈ l, P x = true → Q x = true) → ∀ {a : α}, a ∈ l → Q a = true → P a = false → l.countP P < l.countP Q
  | [], _, _, h, _, _ => by cases h
  | b :: l, h, a, ha, hq, hp => by
    have h1 : l.countP P ≤ l.countP Q := List.countP_mono_left fun x hx => h x (List.mem_cons_of_mem _ hx)
    have hb := h b (List.mem_cons_self ..)
    rw [List.countP_cons, List.countP_cons]
    rcases List.mem_cons.1 ha with rfl | ha
    · rw [hq, hp]; simp; omega
    · have h2 := countP_less (fun x hx => h x (List.mem_cons_of_mem _ hx)) ha hq hp
      cases hP : P b with
      | false => simp; omega
      | true => rw [hb hP]; simp; omega
theorem sum_le_map {f g : Nat → Nat} : ∀ {l : List Nat}, (∀ x ∈ l, f x ≤ g x) → (l.map f).sum ≤ (l.map g).sum
  | [], _ => Nat.le_refl _
  | b :: l, h => by
    have h1 := sum_le_map (l := l) fun x hx => h x (List.mem_cons_of_mem _ hx)
    have h2 := h b (List.mem_cons_self ..)
    simp only [List.map_cons, List.sum_cons]
    omega
theorem sum_lt_map {f g : Nat → Nat} : ∀ {l : List Nat}, (∀ x ∈ l, f x ≤ g x) → ∀ {a : Nat}, a ∈ l → f a < g a → (l.map f).sum < (l.map g).sum
  | [], _, _, h, _ => by cases h
  | b :: l, h, a, ha, hl => by
    have h1 := sum_le_map (l := l) fun x hx => h x (List.mem_cons_of_mem _ hx)
    have h2 := h b (List.mem_cons_self ..)
    simp only [List.map_cons, List.sum_cons]
    rcases List.mem_cons.1 ha with rfl | ha
    · omega
    · have := sum_lt_map (fun x hx => h x (List.mem_cons_of_mem _ hx)) ha hl
      omega
open Classical in
theorem cntM_tabR (n p : Nat) (R : Rel2) : cntM true (tabR n p R) = ((List.range n).map fun x : Nat => (List.range p).countP fun y : Nat => decide (R (x : Int) (y : Int))).sum := by
  unfold cntM tabR
  rw [List.map_map]
  congr 1
  refine List.map_congr_left fun x _ => ?_
  show List.count true (List.map _ _) = _
  rw [List.count_eq_countP, List.countP_map]
  refine List.countP_congr fun y _ => ?_
  simp
open Classical in
/-- When a pair goes, the table holds less. -/
theorem cnt_less {n p : Nat} {R R' : Rel2} (hs : ∀ x y, R' x y → R x y) (h : GonR R R' p n 0) : cntM true (tabR n p R') < cntM true (tabR n p R) := by
  obtain ⟨u, v, h1, h2, h3⟩ := h
  rw [cntM_tabR, cntM_tabR]
  refine sum_lt_map (fun x _ => List.countP_mono_left fun y _ g => decide_eq_true (hs _ _ (of_decide_eq_true g))) (List.mem_range.2 (show u < n by omega)) ?_
  exact countP_less (fun y _ g => decide_eq_true (hs _ _ (of_decide_eq_true g))) (List.mem_range.2 (show v < p by omega)) (decide_eq_true h2) (decide_eq_false h3)
theorem stay_of {K : Int} {n p : Nat} {ea : List Ed} {la : List ByteArray} {eb : List Ed} {lb : List ByteArray} {r : Nat} (h : ¬ GonR (simR K n p ea la eb lb r) (nxtR K ea la eb lb (simR K n p ea la eb lb r)) p n 0) (x y : Int) (g : simR K n p ea la eb lb r x y) : simR K n p ea la eb lb (r + 1) x y := by
  have hin := simR_in g
  refine Classical.byContradiction fun hn => h ?_
  obtain ⟨x, rfl⟩ : ∃ t : Nat, x = (t : Int) := ⟨x.toNat, by omega⟩
  obtain ⟨y, rfl⟩ : ∃ t : Nat, y = (t : Int) := ⟨y.toNat, by omega⟩
  exact ⟨x, y, by omega, g, hn⟩
theorem least_bad {S : Nat → Prop} : ∀ r, ¬ S r → ∃ r0, ¬ S r0 ∧ ∀ k, k < r0 → S k := by
  intro r
  induction r using Nat.strongRecOn with
  | _ r ih =>
    intro h
    by_cases g : ∀ k, k < r → S k
    · exact ⟨r, h, g⟩
    · have : ∃ k, k < r ∧ ¬ S k := Classical.byContradiction fun hn => g fun k hk => Classical.byContradiction fun hs => hn ⟨k, hk, hs⟩
      obtain ⟨k, hk, hs⟩ := this
      exact ih k hk hs
theorem misF_neg (S : Nat → Rel2) (i j : Int) : misF S i j < 0 ↔ ∀ r, S r i j := by
  by_cases h : ∀ r, S r i j
  · rw [misF_eq (.inl ⟨rfl, h⟩)]
    exact ⟨fun _ => h, fun _ => by omega⟩
  · have : ∃ r, ¬ S r i j := Classical.byContradiction fun hn => h fun r => Classical.byContradiction fun hs => hn ⟨r, hs⟩
    obtain ⟨r, hr⟩ := this
    obtain ⟨r0, h1, h2⟩ := least_bad (S := fun r => S r i j) r hr
    rw [misF_eq (.inr ⟨r0, rfl, h1, h2⟩)]
    exact ⟨fun g => by omega, fun g => absurd g h⟩

set_option maxRecDepth 100000 in
set_option maxHeartbeats 1600000 in
theorem l17Greatest_calls (ba bb : Nat) (xa xb : CL) (n p : Nat) (ia ib : Int) (la lb : List ByteArray) (ea eb : List Ed) (K : Int) (w : World)
    (hA : LtsAt w ba xa ((n : Int), ia, la, ea)) (hB : LtsAt w bb xb ((p : Int), ib, lb, eb)) (hva : ltsV ((n : Int), ia, la, ea) = true) (hvb : ltsV ((p : Int), ib, lb, eb) = true) :
    Calls Tryz.prog 75 #[.pointer (some ⟨ba, 0, none⟩), .pointer (some ⟨bb, 0, none⟩), .int .i64 K] w fun e w' => ∃ (bq' : Nat) (A' : Option Addr) (c' : Nat) (H' : List (Hd × List Bool)), e = .returned (.pointer (some ⟨bq', 0, none⟩)) ∧ TabS w' w.heap.size bq' ba bb K A' n c' H' ∧ H'.map (·.2) = tabR n p (gsR K n p ea la eb lb) ∧ (∃ r, ∀ x y, simR K n p ea la eb lb r x y → simR K n p ea la eb lb (r + 1) x y) ∧ Below w.heap.size w w' := by
  have hq1 := hide (l17First_calls ba bb xa xb n p ia ib la lb ea eb K w hA hB hva hvb)
  have hq2 := hide fun (bq : Nat) (A : Option Addr) (c : Nat) (H : List (Hd × List Bool)) (R : Rel2) (W : World) (hW : Below w.heap.size w W) (hT : TabS W w.heap.size bq ba bb K A n c H) (hM : H.map (·.2) = tabR n p R) => l17next_calls w.heap.size bq ba bb xa xb n p ia ib la lb ea eb K A c H R W hT hM (hA.below hW (Nat.le_refl _)) (hB.below hW (Nat.le_refl _)) hva hvb
  clear hA hB hva hvb
  go_enter Tryz.func75, Tryz.ntmps75
  go_upto_region 2 with (first | (go_at_call 41; (with_reducible refine hq1.out.mono ?_); rintro e w1 ⟨bq1, A1, c1, H1, rfl, hT1, hM1, hb1⟩; replace hT1 := hide hT1; replace hM1 := hide hM1; replace hb1 := hide hb1))
  clear hq1
  go_loopg [7] (cntM true (tabR n p (simR K n p ea la eb lb 0))) (fun G t wr => ∃ (bq : Nat) (A : Option Addr) (c : Nat) (H : List (Hd × List Bool)) (r : Nat), t = .pointer (some ⟨bq, 0, none⟩) ∧ Hid (TabS wr w.heap.size bq ba bb K A n c H) ∧ Hid (H.map (·.2) = tabR n p (simR K n p ea la eb lb r)) ∧ Hid (Below w.heap.size w wr) ∧ Hid (cntM true (tabR n p (simR K n p ea la eb lb r)) ≤ G))
  case atStart => exact ⟨bq1, A1, c1, H1, 0, rfl, hT1, hM1, hb1, Nat.le_refl _⟩
  case round =>
    clear hT1 hM1 hb1
    obtain ⟨bq, A, c, H, r, rfl, hT, hM, hb, hG⟩ := hrel
    have q := hide (hq2.out bq A c H _ wr hb.out hT.out hM.out)
    have hsz := hb.out.size
    go_upto_region 3 with (first | (go_at_call 42; (with_reducible refine q.out.mono ?_); rintro e w5 ⟨bq5, A5, c5, H5, ch, rfl, hT5, hM5, hC5, hb5⟩; replace hT5 := hide hT5; replace hM5 := hide hM5; replace hC5 := hide hC5; replace hb5 := hide hb5))
    clear q
    have hbw := hide (hb.out.trans (hb5.out.mono hsz))
    cases ch with
    | false =>
      have hst : ∀ x y, simR K n p ea la eb lb r x y → simR K n p ea la eb lb (r + 1) x y := stay_of fun h => by
        have hC : false = true ↔ _ := hC5.out
        exact absurd (hC.2 h) (by decide)
      have hM6 : Hid (H.map (·.2) = tabR n p (gsR K n p ea la eb lb)) := by show _ = _; rw [hM.out]; exact tabR_congr fun x y _ _ => gsR_of_stay hst _ _
      have hT6 := hide (hT.out.below hb5.out)
      replace hst := hide hst
      clear hT hM hC5 hT5 hM5
      go_wp2_with fail
      go_ret
      exact ⟨bq, A, c, H, rfl, hT6.out, hM6.out, ⟨r, hst.out⟩, hbw.out⟩
    | true =>
      have hlt : cntM true (tabR n p (simR K n p ea la eb lb (r + 1))) < cntM true (tabR n p (simR K n p ea la eb lb r)) := cnt_less (fun x y h => h.1) ((show true = true ↔ _ from hC5.out).1 rfl)
      have hG2 : Hid (cntM true (tabR n p (simR K n p ea la eb lb (r + 1))) ≤ gk - 1) := by have := hG.out; show _ ≤ _; omega
      have hgk : 0 < gk := by have := hG.out; omega
      have hT6 := hide (hT5.out.lower hsz)
      clear hlt hC5 hT hM hT5
      go_wp2_with fail
      go_roundg (gk - 1)
      case measure => omega
      case rel => exact ⟨bq5, A5, c5, H5, r + 1, rfl, hT6, hM5, hbw, hG2⟩

open Classical in
set_option maxRecDepth 100000 in
set_option maxHeartbeats 1600000 in
theorem l17Like_calls (ba bb : Nat) (xa xb : CL) (n p : Nat) (ia ib : Int) (la lb : List ByteArray) (ea eb : List Ed) (K : Int) (w : World)
    (hA : LtsAt w ba xa ((n : Int), ia, la, ea)) (hB : LtsAt w bb xb ((p : Int), ib, lb, eb)) (hva : ltsV ((n : Int), ia, la, ea) = true) (hvb : ltsV ((p : Int), ib, lb, eb) = true) :
    Calls Tryz.prog 47 #[.pointer (some ⟨ba, 0, none⟩), .pointer (some ⟨bb, 0, none⟩), .int .i64 K] w fun e w' => e = .returned (.bool (decide (misF (simR K n p ea la eb lb) ia ib < 0))) ∧ Below w.heap.size w w' := by
  have hq1 := hide (l17Greatest_calls ba bb xa xb n p ia ib la lb ea eb K w hA hB hva hvb)
  have hi := (lts_boundsB hva).2
  have hj := (lts_boundsB hvb).2
  obtain ⟨s0, s1, v2, v3⟩ := xa
  obtain ⟨r0, r1, u2, u3⟩ := xb
  obtain ⟨⟨-, e1, -, -⟩, -, hba, -, c1, -, -⟩ := hA
  obtain ⟨⟨-, f1, -, -⟩, -, hbb, -, g1, -, -⟩ := hB
  dsimp only at *
  subst e1 f1
  obtain ⟨i, rfl⟩ : ∃ t : Nat, s1 = (t : Int) := ⟨s1.toNat, by omega⟩
  obtain ⟨j, rfl⟩ : ∃ t : Nat, r1 = (t : Int) := ⟨r1.toNat, by omega⟩
  have hI0 : (0 : Int) ≤ (i : Int) := by omega
  have hI1 : (i : Int) < (n : Int) := by omega
  have hJ0 : (0 : Int) ≤ (j : Int) := by omega
  have hJ1 : (j : Int) < (p : Int) := by omega
  clear hva hvb hi hj
  go_enter Tryz.func47, Tryz.ntmps47
  go_upto_region 2 with (first | (go_at_call 75; (with_reducible refine hq1.out.mono ?_); rintro e w1 ⟨bq1, A1, c1', H1, rfl, hT1, hM1, -, hb1⟩))
  obtain ⟨b3, o3, b4, o4, c4, rv, rfl, -, -, -, r0, r1, hrv⟩ := hT1.rows.get hM1 (show i < n by omega) (show j < p by omega)
  have x3 := hT1.facts.2.2.2
  have y1 := (hb1.cell (p := ⟨ba, 1, none⟩) hba).trans c1
  have y2 := (hb1.cell (p := ⟨bb, 1, none⟩) hbb).trans g1
  have hd : Hid (decide (misF (simR K n p ea la eb lb) (i : Int) (j : Int) < 0) = rv) := by
    show _ = _
    have h1 := misF_neg (simR K n p ea la eb lb) (i : Int) (j : Int)
    cases rv with
    | true => exact decide_eq_true (h1.2 (hrv.1 rfl))
    | false => exact decide_eq_false fun h => by have := hrv.2 (h1.1 h); cases this
  replace hb1 := hide hb1
  clear hT1 hM1 hrv hq1 c1 g1
  go_wp2_with fail
  go_quiet (fail)
  go_wp2_with fail
  go_ret
  exact ⟨ret_b (by rw [hd.out]), hb1.out.trans ((below_drewN w1 _).mono hb1.out.size)⟩

end Go.Proofs.YthlaoedpjloloaaGreatDoor
