/-
  The greatest simulation, by the program; the kinds without ready labels. Conditions: sizes.
-/
import Derived.Test.YthlaoedpjloloaaGreatDoorSimL
import Derived.Maps.RangeWalk
import Derived.OneCell
namespace Go.Proofs.YthlaoedpjloloaaGreatDoor
open Go.ChangeShapes Go.WideShapes Go.ChangeAt Go.RowKit Go.Sort
set_option linter.unusedVariables false
set_option linter.unusedSimpArgs false

set_option maxRecDepth 100000 in
set_option maxHeartbeats 6400000 in
theorem simulation_calls (n p : Nat) (s0 s1 : Int) (A2 : Option Addr) (n2 k2 : Nat) (A3 : Option Addr) (n3 k3 : Nat) (r0 r1 : Int) (B2 : Option Addr) (m2 j2 : Nat) (B3 : Option Addr) (m3 j3 : Nat) (lt : List ByteArray) (et : List Ed) (lp : List ByteArray) (ep : List Ed) (K : Int) (w : World) (hD : SimD w w.heap.size s0 s1 A2 n2 k2 A3 n3 k3 r0 r1 B2 m2 j2 B3 m3 j3 lt et lp ep) (hns : s0 = (n : Int)) (hpr : r0 = (p : Int)) (hK : K ≠ 1) :
    Calls Tryz.prog 46 #[(.agg #[.int .i64 s0, .int .i64 s1, .slice A2 n2 k2, .slice A3 n3 k3]), (.agg #[.int .i64 r0, .int .i64 r1, .slice B2 m2 j2, .slice B3 m3 j3]), .int .i64 K] w fun e w' => ∃ m S mis, e = .returned (.tuple #[.map (some m), .int .i64 mis]) ∧ PSet w' m S ∧ w.heap.size ≤ m ∧ (∃ r, (∀ x y, (x, y) ∈ S ↔ simR K s0 r0 et lt ep lp r x y) ∧ ∀ x y, simR K s0 r0 et lt ep lp r x y → simR K s0 r0 et lt ep lp (r + 1) x y) ∧ MisV (simR K s0 r0 et lt ep lp) s1 r1 mis ∧ Below w.heap.size w w' := by
  have hbP := lts_boundsB hD.ht
  have hbS := lts_boundsB hD.hp
  have hn40 : n ≤ 40 := by omega
  have hp40 : p ≤ 40 := by omega
  have hi1 : (0 ≤ s1 ∧ s1 < (n : Int)) ∧ 0 ≤ r1 ∧ r1 < (p : Int) := by omega
  have hs0 : s0 ≤ 40 := hbP.1.2
  have hr0 : r0 ≤ 40 := hbS.1.2
  have hmm := @run_makeMap Tryz.prog
  have hK1 : (K == 1) = false := by rw [beq_eq_false_iff_ne]; exact hK
  have hK2 : ¬ K = 1 := hK
  have z1 : (w.alloc (.cells #[.int .i64 s0, .int .i64 s1, .slice A2 n2 k2, .slice A3 n3 k3] 31)).heap.size = w.heap.size + 1 := World.size_alloc _ _
  have z2 : ((w.alloc (.cells #[.int .i64 s0, .int .i64 s1, .slice A2 n2 k2, .slice A3 n3 k3] 31)).alloc (.cells #[.int .i64 r0, .int .i64 r1, .slice B2 m2 j2, .slice B3 m3 j3] 31)).heap.size = w.heap.size + 1 + 1 := by rw [World.size_alloc, z1]
  have z3 : (((w.alloc (.cells #[.int .i64 s0, .int .i64 s1, .slice A2 n2 k2, .slice A3 n3 k3] 31)).alloc (.cells #[.int .i64 r0, .int .i64 r1, .slice B2 m2 j2, .slice B3 m3 j3] 31)).alloc (.map #[] 0)).heap.size = w.heap.size + 1 + 1 + 1 := by rw [World.size_alloc, z2]
  have z4 : ((((w.alloc (.cells #[.int .i64 s0, .int .i64 s1, .slice A2 n2 k2, .slice A3 n3 k3] 31)).alloc (.cells #[.int .i64 r0, .int .i64 r1, .slice B2 m2 j2, .slice B3 m3 j3] 31)).alloc (.map #[] 0)).alloc (.cells #[.map (some (w.heap.size + 1 + 1))] 76)).heap.size = w.heap.size + 1 + 1 + 1 + 1 := by rw [World.size_alloc, z3]
  have hb4 : Below w.heap.size w ((((w.alloc (.cells #[.int .i64 s0, .int .i64 s1, .slice A2 n2 k2, .slice A3 n3 k3] 31)).alloc (.cells #[.int .i64 r0, .int .i64 r1, .slice B2 m2 j2, .slice B3 m3 j3] 31)).alloc (.map #[] 0)).alloc (.cells #[.map (some (w.heap.size + 1 + 1))] 76)) := ((((Below.refl _ _).alloc (Nat.le_refl _) _).alloc (by omega) _).alloc (by omega) _).alloc (by omega) _
  have kA := ((((Below.heap_alloc (((w.alloc (.cells #[.int .i64 s0, .int .i64 s1, .slice A2 n2 k2, .slice A3 n3 k3] 31)).alloc (.cells #[.int .i64 r0, .int .i64 r1, .slice B2 m2 j2, .slice B3 m3 j3] 31)).alloc (.map #[] 0)) (.cells #[.map (some (w.heap.size + 1 + 1))] 76) w.heap.size (by omega)).trans (Below.heap_alloc ((w.alloc (.cells #[.int .i64 s0, .int .i64 s1, .slice A2 n2 k2, .slice A3 n3 k3] 31)).alloc (.cells #[.int .i64 r0, .int .i64 r1, .slice B2 m2 j2, .slice B3 m3 j3] 31)) (.map #[] 0) w.heap.size (by omega))).trans (Below.heap_alloc (w.alloc (.cells #[.int .i64 s0, .int .i64 s1, .slice A2 n2 k2, .slice A3 n3 k3] 31)) (.cells #[.int .i64 r0, .int .i64 r1, .slice B2 m2 j2, .slice B3 m3 j3] 31) w.heap.size (by omega))).trans (heap_alloc_new w (.cells #[.int .i64 s0, .int .i64 s1, .slice A2 n2 k2, .slice A3 n3 k3] 31)))
  have kB := heap_alloc_new (w.alloc (.cells #[.int .i64 s0, .int .i64 s1, .slice A2 n2 k2, .slice A3 n3 k3] 31)) (.cells #[.int .i64 r0, .int .i64 r1, .slice B2 m2 j2, .slice B3 m3 j3] 31)
  rw [z1] at kB
  replace kB := ((Below.heap_alloc (((w.alloc (.cells #[.int .i64 s0, .int .i64 s1, .slice A2 n2 k2, .slice A3 n3 k3] 31)).alloc (.cells #[.int .i64 r0, .int .i64 r1, .slice B2 m2 j2, .slice B3 m3 j3] 31)).alloc (.map #[] 0)) (.cells #[.map (some (w.heap.size + 1 + 1))] 76) (w.heap.size + 1) (by omega)).trans (Below.heap_alloc ((w.alloc (.cells #[.int .i64 s0, .int .i64 s1, .slice A2 n2 k2, .slice A3 n3 k3] 31)).alloc (.cells #[.int .i64 r0, .int .i64 r1, .slice B2 m2 j2, .slice B3 m3 j3] 31)) (.map #[] 0) (w.heap.size + 1) (by omega))).trans kB
  have kN := heap_alloc_new (((w.alloc (.cells #[.int .i64 s0, .int .i64 s1, .slice A2 n2 k2, .slice A3 n3 k3] 31)).alloc (.cells #[.int .i64 r0, .int .i64 r1, .slice B2 m2 j2, .slice B3 m3 j3] 31)).alloc (.map #[] 0)) (.cells #[.map (some (w.heap.size + 1 + 1))] 76)
  rw [z3] at kN
  have hset := PSet.made ((w.alloc (.cells #[.int .i64 s0, .int .i64 s1, .slice A2 n2 k2, .slice A3 n3 k3] 31)).alloc (.cells #[.int .i64 r0, .int .i64 r1, .slice B2 m2 j2, .slice B3 m3 j3] 31))
  rw [z2] at hset
  replace hset := hset.keep (w' := (((w.alloc (.cells #[.int .i64 s0, .int .i64 s1, .slice A2 n2 k2, .slice A3 n3 k3] 31)).alloc (.cells #[.int .i64 r0, .int .i64 r1, .slice B2 m2 j2, .slice B3 m3 j3] 31)).alloc (.map #[] 0)).alloc (.cells #[.map (some (w.heap.size + 1 + 1))] 76)) (Below.heap_alloc _ _ _ (by omega))
  have hfst : Hid (FstI w ((((w.alloc (.cells #[.int .i64 s0, .int .i64 s1, .slice A2 n2 k2, .slice A3 n3 k3] 31)).alloc (.cells #[.int .i64 r0, .int .i64 r1, .slice B2 m2 j2, .slice B3 m3 j3] 31)).alloc (.map #[] 0)).alloc (.cells #[.map (some (w.heap.size + 1 + 1))] 76)) w.heap.size (w.heap.size + 1 + 1) n p 0 0 [] s0 s1 A2 n2 k2 A3 n3 k3 r0 r1 B2 m2 j2 B3 m3 j3 lt et lp ep) :=
    ⟨⟨kA, kB⟩, ⟨kN, hset⟩, fun u v => ⟨fun h => (by cases h), fun h => by unfold laidB at h; omega⟩, hb4, Nat.le_refl _, rfl⟩
  have hz4 := hide z4
  replace hD := hide hD
  clear hb4 kA kB kN hset z1 z2 z3 z4 hbP hbS hK
  have hns' := hide hns
  have hpr' := hide hpr
  clear hns hpr
  go_enter Tryz.func46, Tryz.ntmps46
  go_upto_region 2 with fail
  generalize ((((w.alloc (.cells #[.int .i64 s0, .int .i64 s1, .slice A2 n2 k2, .slice A3 n3 k3] 31)).alloc (.cells #[.int .i64 r0, .int .i64 r1, .slice B2 m2 j2, .slice B3 m3 j3] 31)).alloc (.map #[] 0)).alloc (.cells #[.map (some (w.heap.size + 1 + 1))] 76)) = W4 at *
  have a0 : W4.cell? ⟨w.heap.size, 0, none⟩ = some (.int .i64 (n : Int)) := by rw [← hns'.out]; exact (cell_of_row _ _ 0 _ _ (0, 0) hfst.out.box.kA).trans rfl
  go_upto_region 3 with fail
  clear a0
  go_loopg [20] n (fun G i wr => ∃ (x : Nat) (S : List PQ2), x ≤ n ∧ i = .int .i64 (x : Int) ∧ Hid (FstI w wr w.heap.size (w.heap.size + 1 + 1) n p x 0 S s0 s1 A2 n2 k2 A3 n3 k3 r0 r1 B2 m2 j2 B3 m3 j3 lt et lp ep) ∧ Hid (n - x ≤ G))
  case atStart => exact ⟨0, [], Nat.zero_le _, rfl, hfst, by show _ ≤ _; omega⟩
  case round =>
    clear hfst hz4
    obtain ⟨x, S, hx, rfl, hf, hG⟩ := hrel
    by_cases hxl : x < n
    · obtain ⟨G2, rfl⟩ : ∃ G2, gk = G2 + 1 := ⟨gk - 1, by have := hG.out; omega⟩
      have hG2 : Hid (n - (x + 1) ≤ G2) := by have := hG.out; show _ ≤ _; omega
      have hX1 : (x : Int) < (n : Int) := by omega
      have b0 : wr.cell? ⟨w.heap.size + 1, 0, none⟩ = some (.int .i64 (p : Int)) := by rw [← hpr'.out]; exact (cell_of_row _ _ 0 _ _ (0, 0) hf.out.box.kB).trans rfl
      go_upto_region 6 with fail
      clear b0
      go_loopg [25] p (fun G i wr => ∃ (y : Nat) (S : List PQ2), y ≤ p ∧ i = .int .i64 (y : Int) ∧ Hid (FstI w wr w.heap.size (w.heap.size + 1 + 1) n p x y S s0 s1 A2 n2 k2 A3 n3 k3 r0 r1 B2 m2 j2 B3 m3 j3 lt et lp ep) ∧ Hid (p - y ≤ G))
      case atStart => exact ⟨0, S, Nat.zero_le _, rfl, hf, by show _ ≤ _; omega⟩
      case round =>
        clear hf hG
        obtain ⟨y, S, hy, rfl, hf, hG⟩ := hrel
        by_cases hyl : y < p
        · obtain ⟨G3, rfl⟩ : ∃ G3, gk = G3 + 1 := ⟨gk - 1, by have := hG.out; omega⟩
          have hG3 : Hid (p - (y + 1) ≤ G3) := by have := hG.out; show _ ≤ _; omega
          have hY1 : (y : Int) < (p : Int) := by omega
          have hS16 : S.length ≤ 1600 := pairs_few hf.out.now.set.nd fun q hq => by have := (hf.out.mem q.1 q.2).1 hq; unfold laidB at this; omega
          go_upto_region 8 with fail
          go_cut [38] (fun a wx => a = .bool true ∧ ∃ nq, wx = wr.drewN nq)
          case first =>
            go_quiet (fail)
            all_goals (go_wp2_with fail; go_meet)
            all_goals exact ⟨rfl, _, rfl⟩
          case rest =>
          obtain ⟨rfl, nq, rfl⟩ := hcut
          have hf2 : Hid (FstI w (wr.drewN nq) w.heap.size (w.heap.size + 1 + 1) n p x y S s0 s1 A2 n2 k2 A3 n3 k3 r0 r1 B2 m2 j2 B3 m3 j3 lt et lp ep) := ⟨⟨hf.out.box.kA, hf.out.box.kB⟩, ⟨hf.out.now.kN, hf.out.now.set.keep rfl⟩, hf.out.mem, ⟨hf.out.bel.os, hf.out.bel.tape, hf.out.bel.output, hf.out.bel.size, hf.out.bel.block⟩, hf.out.lo, hf.out.mlo⟩
          clear hf
          generalize wr.drewN nq = wd at *
          have cN : wd.cell? ⟨w.heap.size + 1 + 1 + 1, 0, none⟩ = some (.map (some (w.heap.size + 1 + 1))) := (cell_of_row _ _ 0 _ _ (0, 0) hf2.out.now.kN).trans rfl
          obtain ⟨w2, hu, hs2, hg2⟩ := hf2.out.now.set.store (by unfold maxLen; omega) (q := ((x : Int), (y : Int))) (fit_of (by omega) (by omega) (by omega) (by omega))
          replace hu : (Instr.mapUpdate 76 (.map (some (w.heap.size + 1 + 1))) (.agg #[.int .i64 (x : Int), .int .i64 (y : Int)]) (.bool true)).run Tryz.prog wd = .ok () w2 := hu
          have hkeep : ∀ b, b < wd.heap.size → b ≠ w.heap.size + 1 + 1 → w2.heap[b]? = wd.heap[b]? := fun b hb hne => hg2.block b hb fun e => hne (Option.some.inj e)
          have hNlt := (Array.getElem?_eq_some_iff.1 hf2.out.now.kN).1
          have hf3 : Hid (FstI w w2 w.heap.size (w.heap.size + 1 + 1) n p x ((y : Int) + 1) (addQ S ((x : Int), (y : Int))) s0 s1 A2 n2 k2 A3 n3 k3 r0 r1 B2 m2 j2 B3 m3 j3 lt et lp ep) :=
            ⟨hf2.out.box.keep fun b hb => hkeep b (by omega) (by omega), ⟨(hkeep _ hNlt (by omega)).trans hf2.out.now.kN, hs2⟩, fun u v => by
              rw [addQ_mem, hf2.out.mem, Prod.mk.injEq]
              unfold laidB
              omega, ⟨hg2.os.trans hf2.out.bel.os, hg2.tape.trans hf2.out.bel.tape, hg2.output.trans hf2.out.bel.output, Nat.le_trans hf2.out.bel.size hg2.size, fun b hb => (hkeep b (by omega) (by omega)).trans (hf2.out.bel.block b hb)⟩, Nat.le_refl _, rfl⟩
          clear hf2 hs2 hg2 hkeep
          go_wp2_with fail
          go_roundg G3
          case measure => omega
          case rel => exact ⟨y + 1, _, by omega, by go_num, hf3, hG3⟩
        · have hyp : y = p := by omega
          subst hyp
          have hf2 : Hid (FstI w wr w.heap.size (w.heap.size + 1 + 1) n y ((x : Int) + 1) 0 S s0 s1 A2 n2 k2 A3 n3 k3 r0 r1 B2 m2 j2 B3 m3 j3 lt et lp ep) := ⟨hf.out.box, hf.out.now, fun u v => by rw [hf.out.mem]; unfold laidB; omega, hf.out.bel, hf.out.lo, hf.out.mlo⟩
          clear hf
          go_wp2_with fail
          go_roundg G2
          case measure => omega
          case rel => exact ⟨x + 1, S, by omega, by go_num, hf2, hG2⟩
    · have hxn : x = n := by omega
      have hS16 : S.length ≤ 1600 := pairs_few hf.out.now.set.nd fun q hq => by have := (hf.out.mem q.1 q.2).1 hq; unfold laidB at this; omega
      have a1 : wr.cell? ⟨w.heap.size, 1, none⟩ = some (.int .i64 s1) := (cell_of_row _ _ 1 _ _ (0, 0) hf.out.box.kA).trans rfl
      have b1 : wr.cell? ⟨w.heap.size + 1, 1, none⟩ = some (.int .i64 r1) := (cell_of_row _ _ 1 _ _ (0, 0) hf.out.box.kB).trans rfl
      have hbE : Below wr.heap.size wr (wr.alloc (.cells #[.int .i64 s1, .int .i64 r1] 107)) := (Below.refl _ _).alloc (Nat.le_refl _) _
      have kF := heap_alloc_new wr (.cells #[.int .i64 s1, .int .i64 r1] 107)
      have hNl := (Array.getElem?_eq_some_iff.1 hf.out.now.kN).1
      have hrn : Hid (RndI w (wr.alloc (.cells #[.int .i64 s1, .int .i64 r1] 107)) w.heap.size wr.heap.size (w.heap.size + 1 + 1 + 1) (w.heap.size + 1 + 1) K 0 (-1) S s0 s1 A2 n2 k2 A3 n3 k3 r0 r1 B2 m2 j2 B3 m3 j3 lt et lp ep) :=
        ⟨hf.out.box.keep fun b hb => hbE.block b (by omega), kF, hf.out.now.below hbE, fun u v => by
          rw [hf.out.mem, hns'.out, hpr'.out, hxn]
          unfold laidB simR
          constructor
          · intro h1
            exact ⟨by omega, fun h2 => absurd h2 hK2⟩
          · rintro ⟨h1, -⟩
            omega, hf.out.bel.trans (hbE.mono hf.out.bel.size), by omega, .inl ⟨rfl, fun k hk => by omega⟩, by omega⟩
      clear hf hbE kF hG hxn
      go_upto_region 13 with fail
      clear a1 b1
      generalize wr.heap.size = bF at *
      generalize (wr.alloc (.cells #[.int .i64 s1, .int .i64 r1] 107)) = WF at *
      generalize hbN : w.heap.size + 1 + 1 + 1 = bN at *
      go_upto_region 16 with fail
      go_loopg [12, 13] (S.length + 1) (fun G mi ro wr => ∃ (r : Nat) (mis : Int) (m : Nat) (S : List PQ2), mi = .int .i64 mis ∧ ro = .int .i64 (r : Int) ∧ Hid (RndI w wr w.heap.size bF bN m K r mis S s0 s1 A2 n2 k2 A3 n3 k3 r0 r1 B2 m2 j2 B3 m3 j3 lt et lp ep) ∧ Hid (S.length + 1 ≤ G))
      case atStart => exact ⟨0, -1, _, S, rfl, rfl, hrn, by show _ ≤ _; omega⟩
      case round =>
        clear hrn hS16 hNl
        obtain ⟨r, mis, m, S, rfl, rfl, hR, hG⟩ := hrel
        have cN : wr.cell? ⟨bN, 0, none⟩ = some (.map (some m)) := (cell_of_row _ _ 0 _ _ (0, 0) hR.out.now.kN).trans rfl
        have f0 : wr.cell? ⟨bF, 0, none⟩ = some (.int .i64 s1) := (cell_of_row _ _ 0 _ _ (0, 0) hR.out.kF).trans rfl
        have f1 : wr.cell? ⟨bF, 1, none⟩ = some (.int .i64 r1) := (cell_of_row _ _ 1 _ _ (0, 0) hR.out.kF).trans rfl
        have hlk : (Instr.lookup 76 (.map (some m)) (.agg #[.int .i64 s1, .int .i64 r1]) false).run Tryz.prog wr = .ok (.bool (decide ((s1, r1) ∈ S))) wr := hR.out.now.set.look (fit_of (by omega) (by omega) (by omega) (by omega))
        go_upto_region 16 with fail
        go_cut [59] (fun s wx => ∃ c : Bool, s = .bool c ∧ (c = true ↔ mis < 0 ∧ ¬ (s1, r1) ∈ S) ∧ wx = wr)
        case first =>
          by_cases hm : mis < 0
          · go_wp2_with fail
            go_meet
            exact ⟨!(decide ((s1, r1) ∈ S)), rfl, by rw [Bool.not_eq_true', decide_eq_false_iff_not]; exact ⟨fun h => ⟨hm, h⟩, fun h => h.2⟩, rfl⟩
          · have hm' := hide hm
            go_wp2_with fail
            go_meet
            exact ⟨false, rfl, ⟨fun h => (by cases h), fun h => absurd h.1 (Int.not_lt.2 hm'.out)⟩, rfl⟩
        case rest =>
        obtain ⟨c, rfl, hc, hw⟩ := hcut
        replace hw := hw.symm
        subst hw
        replace hc := hide hc
        clear hlk f0 f1
        go_upto_if 59 with fail
        go_cut [12] (fun s wx => ∃ mis' : Int, s = .int .i64 mis' ∧ MisS (simR K s0 r0 et lt ep lp) s1 r1 (r + 1) mis' ∧ wx = wr)
        case first =>
          cases c with
          | true =>
            have hmm1 := hide (hR.out.mis.hit (hc.out.1 rfl).1 (fun h => (hc.out.1 rfl).2 ((hR.out.mem _ _).2 h)))
            clear hc
            go_wp2_with fail
            go_meet
            exact ⟨(r : Int), rfl, hmm1.out, rfl⟩
          | false =>
            have hmm1 := hide (hR.out.mis.skip (fun h => Bool.false_ne_true (hc.out.2 ⟨h.1, fun h2 => h.2 ((hR.out.mem _ _).1 h2)⟩)))
            clear hc
            go_wp2_with fail
            go_meet
            exact ⟨mis, rfl, hmm1.out, rfl⟩
        case rest =>
        obtain ⟨mis', rfl, hmis, hw⟩ := hcut
        replace hw := hw.symm
        subst hw
        replace hmis := hide hmis
        clear hc
        have a0 := (cell_of_row _ _ 0 _ _ (0, 0) hR.out.box.kA).trans (show _ = some (Value.int .i64 s0) from rfl)
        have a1 := (cell_of_row _ _ 1 _ _ (0, 0) hR.out.box.kA).trans (show _ = some (Value.int .i64 s1) from rfl)
        have a2 := (cell_of_row _ _ 2 _ _ (0, 0) hR.out.box.kA).trans (show _ = some (Value.slice A2 n2 k2) from rfl)
        have a3 := (cell_of_row _ _ 3 _ _ (0, 0) hR.out.box.kA).trans (show _ = some (Value.slice A3 n3 k3) from rfl)
        have b0 := (cell_of_row _ _ 0 _ _ (0, 0) hR.out.box.kB).trans (show _ = some (Value.int .i64 r0) from rfl)
        have b1 := (cell_of_row _ _ 1 _ _ (0, 0) hR.out.box.kB).trans (show _ = some (Value.int .i64 r1) from rfl)
        have b2 := (cell_of_row _ _ 2 _ _ (0, 0) hR.out.box.kB).trans (show _ = some (Value.slice B2 m2 j2) from rfl)
        have b3 := (cell_of_row _ _ 3 _ _ (0, 0) hR.out.box.kB).trans (show _ = some (Value.slice B3 m3 j3) from rfl)
        have zR : (wr.alloc (.cells #[.int .i64 s0, .int .i64 s1, .slice A2 n2 k2, .slice A3 n3 k3, .int .i64 r0, .int .i64 r1, .slice B2 m2 j2, .slice B3 m3 j3, .func (.func 73) #[] #[.pointer (some ⟨bN, 0, none⟩)]] 109)).heap.size = wr.heap.size + 1 := World.size_alloc _ _
        have zM : ((wr.alloc (.cells #[.int .i64 s0, .int .i64 s1, .slice A2 n2 k2, .slice A3 n3 k3, .int .i64 r0, .int .i64 r1, .slice B2 m2 j2, .slice B3 m3 j3, .func (.func 73) #[] #[.pointer (some ⟨bN, 0, none⟩)]] 109)).alloc (.map #[] 0)).heap.size = wr.heap.size + 1 + 1 := by rw [World.size_alloc, zR]
        have hbM : Below wr.heap.size wr ((wr.alloc (.cells #[.int .i64 s0, .int .i64 s1, .slice A2 n2 k2, .slice A3 n3 k3, .int .i64 r0, .int .i64 r1, .slice B2 m2 j2, .slice B3 m3 j3, .func (.func 73) #[] #[.pointer (some ⟨bN, 0, none⟩)]] 109)).alloc (.map #[] 0)) := ((Below.refl _ _).alloc (Nat.le_refl _) _).alloc (by omega) _
        have kRl := (Below.heap_alloc (wr.alloc (.cells #[.int .i64 s0, .int .i64 s1, .slice A2 n2 k2, .slice A3 n3 k3, .int .i64 r0, .int .i64 r1, .slice B2 m2 j2, .slice B3 m3 j3, .func (.func 73) #[] #[.pointer (some ⟨bN, 0, none⟩)]] 109)) (.map #[] 0) wr.heap.size (by omega)).trans (heap_alloc_new wr (.cells #[.int .i64 s0, .int .i64 s1, .slice A2 n2 k2, .slice A3 n3 k3, .int .i64 r0, .int .i64 r1, .slice B2 m2 j2, .slice B3 m3 j3, .func (.func 73) #[] #[.pointer (some ⟨bN, 0, none⟩)]] 109))
        have hM2 := PSet.made (wr.alloc (.cells #[.int .i64 s0, .int .i64 s1, .slice A2 n2 k2, .slice A3 n3 k3, .int .i64 r0, .int .i64 r1, .slice B2 m2 j2, .slice B3 m3 j3, .func (.func 73) #[] #[.pointer (some ⟨bN, 0, none⟩)]] 109))
        rw [zR] at hM2
        have hnowM := hR.out.now.below hbM
        have hkeepM : KeepC wr ((wr.alloc (.cells #[.int .i64 s0, .int .i64 s1, .slice A2 n2 k2, .slice A3 n3 k3, .int .i64 r0, .int .i64 r1, .slice B2 m2 j2, .slice B3 m3 j3, .func (.func 73) #[] #[.pointer (some ⟨bN, 0, none⟩)]] 109)).alloc (.map #[] 0)) := KeepC.below (fun b c t z h => h) hbM
        have hbwM := hR.out.bel.trans (hbM.mono hR.out.bel.size)
        have cN2 : ((wr.alloc (.cells #[.int .i64 s0, .int .i64 s1, .slice A2 n2 k2, .slice A3 n3 k3, .int .i64 r0, .int .i64 r1, .slice B2 m2 j2, .slice B3 m3 j3, .func (.func 73) #[] #[.pointer (some ⟨bN, 0, none⟩)]] 109)).alloc (.map #[] 0)).cell? ⟨bN, 0, none⟩ = some (.map (some m)) := (cell_of_row _ _ 0 _ _ (0, 0) hnowM.kN).trans rfl
        replace hM2 := hide hM2
        replace hnowM := hide hnowM
        replace hkeepM := hide hkeepM
        replace hbwM := hide hbwM
        replace kRl := hide kRl
        clear hbM zR
        go_upto_region 20 with fail
        clear a0 a1 a2 a3 b0 b1 b2 b3 cN
        generalize ((wr.alloc (.cells #[.int .i64 s0, .int .i64 s1, .slice A2 n2 k2, .slice A3 n3 k3, .int .i64 r0, .int .i64 r1, .slice B2 m2 j2, .slice B3 m3 j3, .func (.func 73) #[] #[.pointer (some ⟨bN, 0, none⟩)]] 109)).alloc (.map #[] 0)) = WM at *
        generalize hbRl : wr.heap.size = bR at *
        go_upto_region 21 with (first | (at_range; refine wpList_range_P rfl _ rfl rfl hnowM.out.set ?_; intro w0 hrg0 hg0 hs0))
        go_frame
        rw [zM] at hrg0
        try rw [zM]
        have hbg0 : Below WM.heap.size WM w0 := ⟨hg0.os, hg0.tape, hg0.output, hg0.size, fun b hb => hg0.block b hb (by simp)⟩
        have hT0 := hide (hM2.out.below hbg0)
        have hk0 : Hid (KeepC WM w0) := KeepC.below (fun b c t z h => h) hbg0
        have hb00 := hbwM.out.trans (hbg0.mono hbwM.out.size)
        have hmT0 : Hid (∀ q : PQ2, q ∈ ([] : List PQ2) ↔ q ∈ S ∧ ¬ q ∈ S ∧ simB K et lt ep lp (fun u v => (u, v) ∈ S) q.1 q.2) := fun q => ⟨fun h => (by cases h), fun h => absurd h.1 h.2.1⟩
        have hwb : w.heap.size ≤ bR := by rw [← hbRl]; exact hR.out.bel.size
        have hmlt : m < bR := by rw [← hbRl]; exact hR.out.now.set.lt
        obtain ⟨G2, rfl⟩ : ∃ G2, gk = G2 + 1 := ⟨gk - 1, by have := hG.out; omega⟩
        have hG2 : Hid (S.length ≤ G2) := by have := hG.out; show _ ≤ _; omega
        replace hrg0 := hide hrg0
        clear hG hM2 cN2 hg0 hbg0 hs0 hbRl
        obtain ⟨wa, rfl⟩ : ∃ wa, wa = wr := ⟨wr, rfl⟩
        go_loopg [16] S.length (fun G _ wl => ∃ (L T : List PQ2) (cnt : Nat), Hid (RSet wl m (bR + 1 + 1) S L cnt) ∧ Hid (PSet wl (bR + 1) T) ∧ Hid (∀ q : PQ2, q ∈ T ↔ q ∈ S ∧ ¬ q ∈ L ∧ simB K et lt ep lp (fun u v => (u, v) ∈ S) q.1 q.2) ∧ Hid (KeepC WM wl) ∧ Below w.heap.size w wl ∧ Hid (cnt ≤ G))
        case atStart => exact ⟨S, [], S.length, hrg0, hT0, hmT0, hk0, hb00, by show _ ≤ _; exact Nat.le_refl _⟩
        case round =>
          clear hrg0 hT0 hmT0 hk0 hb00
          obtain ⟨L, T, cnt, hrg, hT, hmT, hkc, hb, hcn⟩ := hrel
          have hTsub : ∀ q, q ∈ T → q ∈ S := fun q hq => ((hmT.out q).1 hq).1
          go_upto_region 22 with (first | (at_next; refine wpList_next_P rfl _ rfl rfl hrg.out ?_ ?_))
          · intro hL0
            have hmem' : Hid (∀ u v, (u, v) ∈ T ↔ simR K s0 r0 et lt ep lp (r + 1) u v) := fun u v => by
              rw [hmT.out, hL0]
              show _ ↔ simR K s0 r0 et lt ep lp r u v ∧ simB K et lt ep lp (simR K s0 r0 et lt ep lp r) u v
              rw [← hR.out.mem u v, ← simB_congr (fun x y => hR.out.mem x y) u v]
              exact ⟨fun h => ⟨h.1, h.2.2⟩, fun h => ⟨h.1, (by simp), h.2⟩⟩
            have hle := nodup_sub_len hT.out.nd hTsub
            have hlT := fun ty => hT.out.len ty
            have hlS := fun ty => hrg.out.set.len ty
            have cN := (cell_of_row _ _ 0 _ _ (0, 0) (hkc.out _ _ _ _ hnowM.out.kN)).trans (show _ = some (Value.map (some m)) from rfl)
            have hfew := hR.out.few
            by_cases he : T.length = S.length
            · have hst : Hid (∀ u v, simR K s0 r0 et lt ep lp r u v → simR K s0 r0 et lt ep lp (r + 1) u v) := fun u v h1 => (hmem'.out u v).1 (nodup_sub_eq hT.out.nd hTsub (by omega) _ ((hR.out.mem u v).2 h1))
              have heI : ((T.length : Int) == (S.length : Int)) = true := by rw [beq_iff_eq]; omega
              have hS' := hide hrg.out.set
              clear he hle hTsub
              go_wp2_with fail
              go_ret2
              exact ⟨m, S, mis', rfl, hS'.out, hR.out.mlo, ⟨r, hR.out.mem, hst.out⟩, hmis.out.done (fun k h1 => simR_stay hst.out k _ _ h1), hb⟩
            · have heI : ((T.length : Int) == (S.length : Int)) = false := by rw [beq_eq_false_iff_ne]; omega
              have kNw := hkc.out _ _ _ _ hnowM.out.kN
              have zN : wr.frozen? ⟨bN, 0, none⟩ = false := frozen_of_row _ _ 0 _ _ kNw
              have hkeepN : ∀ b, b ≠ bN → (wr.setCell ⟨bN, 0, none⟩ (.map (some (bR + 1)))).heap[b]? = wr.heap[b]? := fun b hb => Below.heap_setCell _ _ _ _ hb
              have hnext : Hid (RndI w (wr.setCell ⟨bN, 0, none⟩ (.map (some (bR + 1)))) w.heap.size bF bN (bR + 1) K (r + 1) mis' T s0 s1 A2 n2 k2 A3 n3 k3 r0 r1 B2 m2 j2 B3 m3 j3 lt et lp ep) :=
                ⟨⟨(hkeepN _ (by omega)).trans (hkc.out _ _ _ _ (hkeepM.out _ _ _ _ hR.out.box.kA)), (hkeepN _ (by omega)).trans (hkc.out _ _ _ _ (hkeepM.out _ _ _ _ hR.out.box.kB))⟩, (hkeepN _ (fun e => by
                    have h1 := hR.out.kF
                    rw [e, hR.out.now.kN] at h1
                    injection h1 with h1
                    injection h1 with _ h1
                    exact absurd h1 (by decide))).trans (hkc.out _ _ _ _ (hkeepM.out _ _ _ _ hR.out.kF)), ⟨one_setCell kNw, hT.out.keep (hkeepN _ (hT.out.ne kNw))⟩, hmem'.out, hb.setCell (by show _ ≤ bN; omega) _, by omega, hmis.out, by omega⟩
              have hG3 : Hid (T.length + 1 ≤ G2) := by have := hG2.out; show _ ≤ _; omega
              clear hle hTsub he hkeepN kNw
              go_wp2_with fail
              go_roundg G2
              case measure => omega
              case rel => exact ⟨r + 1, mis', bR + 1, T, rfl, by go_num, hnext, hG3⟩
          · intro qx qy w1 cnt1 hq hrg1 hlt1 hgr1 hsz1 hen
            clear hsz1
            obtain ⟨Lx, hLx, hrg1⟩ : ∃ Lx : List PQ2, (∀ z, z ∈ Lx ↔ z ∈ L ∧ z ≠ (qx, qy)) ∧ RSet w1 m (bR + 1 + 1) S Lx cnt1 := ⟨_, fun z => by rw [List.mem_filter]; simp, hrg1⟩
            replace hLx := hide hLx
            have hqS := hrg.out.sub _ hq
            have hqR := simR_in ((hR.out.mem qx qy).1 hqS)
            have hen' : (Instr.entry (.pointer (some ⟨bR + 1 + 1, 0, none⟩))).run Tryz.prog w1 = .ok (.tuple #[.agg #[.int .i64 qx, .int .i64 qy], .bool true]) w1 := hen
            have hne1 : ∀ (b : Nat) (c : Array Value) (t : TypeId) (z : Nat × Nat), wr.heap[b]? = some (.cells c t z) → bR + 1 + 1 ≠ b := fun b c t z hbb => RSet.ne' hrg.out hbb
            have hk1 := hkc.out.grown hgr1 hne1
            have hb1 : Below w.heap.size w w1 := ⟨hgr1.os.trans hb.os, hgr1.tape.trans hb.tape, hgr1.output.trans hb.output, Nat.le_trans hb.size hgr1.size, fun b hbb => (hgr1.block b (Nat.lt_of_lt_of_le hbb hb.size) (fun e => by have := Option.some.inj e; omega)).trans (hb.block b hbb)⟩
            have hT1 := hT.out.keep (hgr1.block (bR + 1) hT.out.lt (fun e => by have := Option.some.inj e; omega))
            have hbP : Below w1.heap.size w1 (w1.alloc (.cells #[.int .i64 qx, .int .i64 qy] 107)) := (Below.refl _ _).alloc (Nat.le_refl _) _
            have kP := heap_alloc_new w1 (.cells #[.int .i64 qx, .int .i64 qy] 107)
            have hkP := hk1.below hbP
            have hbwP := hb1.trans (hbP.mono hb1.size)
            have hTP := hT1.below hbP
            have hrgP := hrg1.below hbP
            have kRP := hkP _ _ _ _ kRl.out
            have kNP := hkP _ _ _ _ hnowM.out.kN
            have y0 := (cell_of_row _ _ 0 _ _ (0, 0) kRP).trans (show _ = some (Value.int .i64 s0) from rfl)
            have y1 := (cell_of_row _ _ 1 _ _ (0, 0) kRP).trans (show _ = some (Value.int .i64 s1) from rfl)
            have y2 := (cell_of_row _ _ 2 _ _ (0, 0) kRP).trans (show _ = some (Value.slice A2 n2 k2) from rfl)
            have y3 := (cell_of_row _ _ 3 _ _ (0, 0) kRP).trans (show _ = some (Value.slice A3 n3 k3) from rfl)
            have y4 := (cell_of_row _ _ 4 _ _ (0, 0) kRP).trans (show _ = some (Value.int .i64 r0) from rfl)
            have y5 := (cell_of_row _ _ 5 _ _ (0, 0) kRP).trans (show _ = some (Value.int .i64 r1) from rfl)
            have y6 := (cell_of_row _ _ 6 _ _ (0, 0) kRP).trans (show _ = some (Value.slice B2 m2 j2) from rfl)
            have y7 := (cell_of_row _ _ 7 _ _ (0, 0) kRP).trans (show _ = some (Value.slice B3 m3 j3) from rfl)
            have y8 := (cell_of_row _ _ 8 _ _ (0, 0) kRP).trans (show _ = some (.func (.func 73) #[] #[.pointer (some ⟨bN, 0, none⟩)]) from rfl)
            have p0 : (w1.alloc (.cells #[.int .i64 qx, .int .i64 qy] 107)).cell? ⟨w1.heap.size, 0, none⟩ = some (.int .i64 qx) := (cell_of_row _ _ 0 _ _ (0, 0) kP).trans rfl
            have p1 : (w1.alloc (.cells #[.int .i64 qx, .int .i64 qy] 107)).cell? ⟨w1.heap.size, 1, none⟩ = some (.int .i64 qy) := (cell_of_row _ _ 1 _ _ (0, 0) kP).trans rfl
            have qs := hide (simulated_calls s0 s1 A2 n2 k2 A3 n3 k3 r0 r1 B2 m2 j2 B3 m3 j3 lt et lp ep w.heap.size bN m S K qx qy (w1.alloc (.cells #[.int .i64 qx, .int .i64 qy] 107)) (hD.out.below hbwP (Nat.le_refl _)) hbwP.size ⟨kNP, hrgP.set⟩ hs0 hr0 hK2 hqR.2)
            have hT16 : T.length ≤ 1600 := by have := nodup_sub_len hT.out.nd hTsub; have := hR.out.few; omega
            have hcn' : Hid (cnt1 ≤ gk - 1) := by have := hcn.out; show _ ≤ _; omega
            have hgk : 0 < gk := by have := hcn.out; omega
            have hfit := fit_of hqR.1.1 (by omega : qx ≤ 1048576) hqR.2.1 (by omega : qy ≤ 1048576)
            replace hkP := hide hkP
            replace hbwP := hide hbwP
            replace hTP := hide hTP
            replace hrgP := hide hrgP
            have kP' := hide kP
            have hPl : w1.heap.size < (w1.alloc (.cells #[.int .i64 qx, .int .i64 qy] 107)).heap.size := by rw [World.size_alloc]; omega
            clear hrg hT hkc hb hen hk1 hb1 hT1 hbP kP kRP kNP hrg1 hgr1 hne1 hqR
            (try dsimp only [pairV])
            go_upto_region 23 with fail
            clear hen'
            generalize (w1.alloc (.cells #[.int .i64 qx, .int .i64 qy] 107)) = WP at *
            generalize w1.heap.size = bP at *
            by_cases hsq : simB K et lt ep lp (fun u v => (u, v) ∈ S) qx qy
            · have q' := hide (qs.out.mono (R' := fun e W' => e = .returned (.bool true) ∧ Below WP.heap.size WP W') fun e W' h => by
                obtain ⟨a, h1, h2, h3⟩ := h
                rw [h2.2 hsq] at h1
                exact ⟨h1, h3⟩)
              have hmT5 : Hid (∀ q : PQ2, q ∈ addQ T (qx, qy) ↔ q ∈ S ∧ ¬ q ∈ Lx ∧ simB K et lt ep lp (fun u v => (u, v) ∈ S) q.1 q.2) := fun q => by
                rw [addQ_mem, hmT.out, hLx.out]
                constructor
                · rintro (⟨h1, h2, h3⟩ | rfl)
                  · exact ⟨h1, fun h => h2 h.1, h3⟩
                  · exact ⟨hqS, fun h => h.2 rfl, hsq⟩
                · rintro ⟨h1, h2, h3⟩
                  by_cases e : q = (qx, qy)
                  · exact .inr e
                  · exact .inl ⟨h1, fun h4 => h2 ⟨h4, e⟩, h3⟩
              have hfit' := hide hfit
              have hfin := hide fun (w5 : World) (hb5 : Below WP.heap.size WP w5) => (hTP.out.below hb5).store (by unfold maxLen; omega) (q := (qx, qy)) hfit'.out
              clear qs hsq hmT hfit
              go_wp2_with (first | (go_at_call 74; (with_reducible refine q'.out.mono ?_); rintro e w5 ⟨rfl, hb5⟩; have kP5 := (hb5.block bP hPl).trans kP'.out; obtain ⟨w6, hu, hs6, hg6⟩ := hfin.out w5 hb5; replace hu : (Instr.mapUpdate 76 (.map (some (bR + 1))) (.agg #[.int .i64 qx, .int .i64 qy]) (.bool true)).run Tryz.prog w5 = .ok () w6 := hu; have d0 : w5.cell? ⟨bP, 0, none⟩ = some (.int .i64 qx) := (cell_of_row _ _ 0 _ _ (0, 0) kP5).trans rfl; have d1 : w5.cell? ⟨bP, 1, none⟩ = some (.int .i64 qy) := (cell_of_row _ _ 1 _ _ (0, 0) kP5).trans rfl; replace hb5 := hide hb5; replace hs6 := hide hs6; replace hg6 := hide hg6; clear kP5))
              have hbw5 := hbwP.out.trans (hb5.out.mono hbwP.out.size)
              have hT5 := hTP.out.below hb5.out
              have hrg6 := hide ((hrgP.out.below hb5.out).kept hg6.out (fun e => by have := Option.some.inj e; omega) (fun e => by have := Option.some.inj e; omega))
              have hk6 := hide ((hkP.out.below hb5.out).grown hg6.out fun b c t z hbb => hT5.ne hbb)
              have hbw6 : Below w.heap.size w w6 := ⟨hg6.out.os.trans hbw5.os, hg6.out.tape.trans hbw5.tape, hg6.out.output.trans hbw5.output, Nat.le_trans hbw5.size hg6.out.size, fun b hbb => (hg6.out.block b (Nat.lt_of_lt_of_le hbb hbw5.size) (fun e => by have := Option.some.inj e; omega)).trans (hbw5.block b hbb)⟩
              go_roundg (gk - 1)
              case measure => omega
              case rel => exact ⟨_, _, cnt1, hrg6, hs6, hmT5, hk6, hbw6, hcn'⟩
            · have q' := hide (qs.out.mono (R' := fun e W' => e = .returned (.bool false) ∧ Below WP.heap.size WP W') fun e W' h => by
                obtain ⟨a, h1, h2, h3⟩ := h
                have : a = false := Bool.eq_false_iff.2 fun e => hsq (h2.1 e)
                rw [this] at h1
                exact ⟨h1, h3⟩)
              have hmT5 : Hid (∀ q : PQ2, q ∈ T ↔ q ∈ S ∧ ¬ q ∈ Lx ∧ simB K et lt ep lp (fun u v => (u, v) ∈ S) q.1 q.2) := fun q => by
                rw [hmT.out, hLx.out]
                constructor
                · rintro ⟨h1, h2, h3⟩
                  exact ⟨h1, fun h => h2 h.1, h3⟩
                · rintro ⟨h1, h2, h3⟩
                  refine ⟨h1, fun h4 => h2 ⟨h4, fun e => ?_⟩, h3⟩
                  subst e
                  exact hsq h3
              clear qs hsq hmT
              go_wp2_with (first | (go_at_call 74; (with_reducible refine q'.out.mono ?_); rintro e w5 ⟨rfl, hb5⟩; replace hb5 := hide hb5))
              have hk5 := hide (hkP.out.below hb5.out)
              have hT5 := hide (hTP.out.below hb5.out)
              have hrg5 := hide (hrgP.out.below hb5.out)
              have hbw5 := hbwP.out.trans (hb5.out.mono hbwP.out.size)
              go_roundg (gk - 1)
              case measure => omega
              case rel => exact ⟨_, T, cnt1, hrg5, hT5, hmT5, hk5, hbw5, hcn'⟩

end Go.Proofs.YthlaoedpjloloaaGreatDoor
