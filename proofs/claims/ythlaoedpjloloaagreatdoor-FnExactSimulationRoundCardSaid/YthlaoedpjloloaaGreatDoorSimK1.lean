/-
  Whether a pair is as simulations of a kind must be, by the program: ready labels. Conditions: sizes.
-/
import Derived.Test.YthlaoedpjloloaaGreatDoorSimK
import Derived.Test.YthlaoedpjloloaaGreatDoorSrtL
import Derived.Test.YthlaoedpjloloaaGreatDoorShelf3
import Derived.Deep.RegionLaw
namespace Go.Proofs.YthlaoedpjloloaaGreatDoor
open Go.ChangeShapes Go.WideShapes Go.ChangeAt Go.RowKit Go.Sort
set_option linter.unusedVariables false
set_option linter.unusedSimpArgs false

theorem equalS_calls {A : Option Addr} {n c : Nat} {B : Option Addr} {m j : Nat} {l r : List ByteArray} {w : World} {lo hi lo' hi' : Nat} (h : SlS w lo hi A n l) (g : SlS w lo' hi' B m r) (hn : n ≤ 1048576) (hm : m ≤ 1048576) :
    Calls Tryz.prog 71 #[.slice A n c, .slice B m j] w fun e w' => e = .returned (.bool (decide (l = r))) ∧ ∃ q, w' = w.drewN q := by
  have hl := h.len
  have hr := g.len
  by_cases hnm : n = m
  · subst hnm
    by_cases h0 : 0 < n
    · obtain ⟨b, off, rfl, -, -, -, hc⟩ := h.at_ h0
      obtain ⟨b', off', rfl, -, -, -, hc'⟩ := g.at_ h0
      have := Tryz.slices_Equal_string b off n c b' off' n j l r w (by omega) (by omega) (by omega) (by omega) (fun i hi => by
        have := hc i _ (List.getElem?_eq_getElem hi) 0 _ rfl
        simp only [Nat.mul_one, Nat.add_zero] at this
        rw [this.1, List.getD_eq_getElem?_getD, List.getElem?_eq_getElem hi]
        rfl) (fun i hi => by
        have := hc' i _ (List.getElem?_eq_getElem hi) 0 _ rfl
        simp only [Nat.mul_one, Nat.add_zero] at this
        rw [this.1, List.getD_eq_getElem?_getD, List.getElem?_eq_getElem hi]
        rfl)
      rw [List.take_of_length_le (by omega), List.take_of_length_le (by omega)] at this
      exact this
    · obtain rfl : n = 0 := by omega
      have h1 := List.eq_nil_of_length_eq_zero hl
      have h2 := List.eq_nil_of_length_eq_zero hr
      subst h1 h2
      exact (Tryz.slices_Equal_string_empty A B c 0 j w (by omega)).mono fun e w' ⟨h1, h2⟩ => ⟨h1, 0, h2⟩
  · rw [decide_eq_false (fun e : l = r => hnm (by rw [← hl, ← hr, e]))]
    exact (Tryz.slices_Equal_string_lens A B n c m j w hnm).mono fun e w' ⟨h1, h2⟩ => ⟨h1, 0, h2⟩
theorem simR_rdy {K na nb : Int} {ea : List Ed} {la : List ByteArray} {eb : List Ed} {lb : List ByteArray} {r : Nat} {x y : Int} (h : simR K na nb ea la eb lb r x y) : K = 1 → rdyL ea la x = rdyL eb lb y := by
  induction r with
  | zero => exact h.2
  | succ r ih => exact ih h.1

set_option maxRecDepth 100000 in
set_option maxHeartbeats 1600000 in
theorem simulated1_calls (s0 s1 : Int) (A2 : Option Addr) (n2 k2 : Nat) (A3 : Option Addr) (n3 k3 : Nat) (r0 r1 : Int) (B2 : Option Addr) (m2 j2 : Nat) (B3 : Option Addr) (m3 j3 : Nat) (lt : List ByteArray) (et : List Ed) (lp : List ByteArray) (ep : List Ed) (K0 bN m : Nat) (S : List PQ2) (x y : Int) (w : World) (hD : SimD w K0 s0 s1 A2 n2 k2 A3 n3 k3 r0 r1 B2 m2 j2 B3 m3 j3 lt et lp ep) (hK0 : K0 ≤ w.heap.size) (h : NowAt w bN m S) (hs : s0 ≤ 40) (hr : r0 ≤ 40) (hR : rdyL et lt x = rdyL ep lp y) (hy : 0 ≤ y ∧ y < r0) :
    Calls Tryz.prog 74 #[(.agg #[.int .i64 s0, .int .i64 s1, .slice A2 n2 k2, .slice A3 n3 k3, .int .i64 r0, .int .i64 r1, .slice B2 m2 j2, .slice B3 m3 j3, .func (.func 73) #[] #[.pointer (some ⟨bN, 0, none⟩)]]), .int .i64 1, .int .i64 x, .int .i64 y] w fun e w' => ∃ a : Bool, e = .returned (.bool a) ∧ (a = true ↔ simB 1 et lt ep lp (fun u v => (u, v) ∈ S) x y) ∧ Below w.heap.size w w' := by
  have hb0 : Below w.heap.size w (w.alloc (.cells #[.int .i64 s0, .int .i64 s1, .slice A2 n2 k2, .slice A3 n3 k3, .int .i64 r0, .int .i64 r1, .slice B2 m2 j2, .slice B3 m3 j3, .func (.func 73) #[] #[.pointer (some ⟨bN, 0, none⟩)]] 109)) := (Below.refl _ _).alloc (Nat.le_refl _) _
  have kR := heap_alloc_new w (.cells #[.int .i64 s0, .int .i64 s1, .slice A2 n2 k2, .slice A3 n3 k3, .int .i64 r0, .int .i64 r1, .slice B2 m2 j2, .slice B3 m3 j3, .func (.func 73) #[] #[.pointer (some ⟨bN, 0, none⟩)]] 109)
  have hkR := (Array.getElem?_eq_some_iff.1 kR).1
  have hzs := hb0.size
  have c0 := (cell_of_row _ _ 0 _ _ (0, 0) kR).trans (show _ = some (Value.int .i64 s0) from rfl)
  have c1 := (cell_of_row _ _ 1 _ _ (0, 0) kR).trans (show _ = some (Value.int .i64 s1) from rfl)
  have c2 := (cell_of_row _ _ 2 _ _ (0, 0) kR).trans (show _ = some (Value.slice A2 n2 k2) from rfl)
  have c3 := (cell_of_row _ _ 3 _ _ (0, 0) kR).trans (show _ = some (Value.slice A3 n3 k3) from rfl)
  have c4 := (cell_of_row _ _ 4 _ _ (0, 0) kR).trans (show _ = some (Value.int .i64 r0) from rfl)
  have c5 := (cell_of_row _ _ 5 _ _ (0, 0) kR).trans (show _ = some (Value.int .i64 r1) from rfl)
  have c6 := (cell_of_row _ _ 6 _ _ (0, 0) kR).trans (show _ = some (Value.slice B2 m2 j2) from rfl)
  have c7 := (cell_of_row _ _ 7 _ _ (0, 0) kR).trans (show _ = some (Value.slice B3 m3 j3) from rfl)
  have hD0 := hD.below hb0 hK0
  have h0 := h.below hb0
  have qa := hide fun (W : World) (hW : Below (w.alloc (.cells #[.int .i64 s0, .int .i64 s1, .slice A2 n2 k2, .slice A3 n3 k3, .int .i64 r0, .int .i64 r1, .slice B2 m2 j2, .slice B3 m3 j3, .func (.func 73) #[] #[.pointer (some ⟨bN, 0, none⟩)]] 109)).heap.size (w.alloc (.cells #[.int .i64 s0, .int .i64 s1, .slice A2 n2 k2, .slice A3 n3 k3, .int .i64 r0, .int .i64 r1, .slice B2 m2 j2, .slice B3 m3 j3, .func (.func 73) #[] #[.pointer (some ⟨bN, 0, none⟩)]] 109)) W) => readyLabels_calls s0 s1 A2 n2 k2 A3 n3 k3 x lt et W 0 K0 ((hD0.below hW (Nat.le_trans hK0 hzs)).t2) ((hD0.below hW (Nat.le_trans hK0 hzs)).t3) hD.hes hD.ht
  have qb := hide fun (W : World) (hW : Below (w.alloc (.cells #[.int .i64 s0, .int .i64 s1, .slice A2 n2 k2, .slice A3 n3 k3, .int .i64 r0, .int .i64 r1, .slice B2 m2 j2, .slice B3 m3 j3, .func (.func 73) #[] #[.pointer (some ⟨bN, 0, none⟩)]] 109)).heap.size (w.alloc (.cells #[.int .i64 s0, .int .i64 s1, .slice A2 n2 k2, .slice A3 n3 k3, .int .i64 r0, .int .i64 r1, .slice B2 m2 j2, .slice B3 m3 j3, .func (.func 73) #[] #[.pointer (some ⟨bN, 0, none⟩)]] 109)) W) => readyLabels_calls r0 r1 B2 m2 j2 B3 m3 j3 y lp ep W 0 K0 ((hD0.below hW (Nat.le_trans hK0 hzs)).u2) ((hD0.below hW (Nat.le_trans hK0 hzs)).u3) hD.hfs hD.hp
  have qA := hide fun (W : World) (hW : Below (w.alloc (.cells #[.int .i64 s0, .int .i64 s1, .slice A2 n2 k2, .slice A3 n3 k3, .int .i64 r0, .int .i64 r1, .slice B2 m2 j2, .slice B3 m3 j3, .func (.func 73) #[] #[.pointer (some ⟨bN, 0, none⟩)]] 109)).heap.size (w.alloc (.cells #[.int .i64 s0, .int .i64 s1, .slice A2 n2 k2, .slice A3 n3 k3, .int .i64 r0, .int .i64 r1, .slice B2 m2 j2, .slice B3 m3 j3, .func (.func 73) #[] #[.pointer (some ⟨bN, 0, none⟩)]] 109)) W) => answered_calls s0 s1 A2 n2 k2 A3 n3 k3 r0 r1 B2 m2 j2 B3 m3 j3 lt et lp ep 110 K0 bN m S 1 x y W (hD0.below hW (Nat.le_trans hK0 hzs)) (Nat.le_trans (Nat.le_trans hK0 hzs) hW.size) (h0.below hW) hs (fun a b c d e W => rfl) fun lab v W' hW' hv =>
      strongly_calls s0 s1 A2 n2 k2 A3 n3 k3 r0 r1 B2 m2 j2 B3 m3 j3 lt et lp ep K0 bN m S 1 x y v lab W' ((hD0.below hW (Nat.le_trans hK0 hzs)).below hW' (Nat.le_trans (Nat.le_trans hK0 hzs) hW.size)) ((h0.below hW).below hW') (by decide) hy hv hr
  have hb0' := hide hb0
  replace kR := hide kR
  replace hR := hide hR
  clear hD hD0 h h0 hb0
  go_enter Tryz.func74, Tryz.ntmps74
  go_upto_region 1 with fail
  generalize (w.alloc (.cells #[.int .i64 s0, .int .i64 s1, .slice A2 n2 k2, .slice A3 n3 k3, .int .i64 r0, .int .i64 r1, .slice B2 m2 j2, .slice B3 m3 j3, .func (.func 73) #[] #[.pointer (some ⟨bN, 0, none⟩)]] 109)) = W0 at *
  have qa1 := hide (qa.out W0.drew ((Below.refl _ _).drew))
  go_cut [22] (fun a wx => a = .bool false ∧ Below W0.heap.size W0 wx)
  case first =>
    go_region_law
      (first
        | (go_simp; go_at_call 72; (with_reducible refine qa1.out.mono ?_); rintro e w5 ⟨A5, n5, c5, rfl, ho5, hn5, hb5d⟩; have hb5 : Below W0.heap.size W0 w5 := ((Below.refl _ _).drew).trans hb5d; have k5 := (hb5.block _ hkR).trans kR.out; have d4 := (cell_of_row _ _ 4 _ _ (0, 0) k5).trans (show _ = some (Value.int .i64 r0) from rfl); have d5 := (cell_of_row _ _ 5 _ _ (0, 0) k5).trans (show _ = some (Value.int .i64 r1) from rfl); have d6 := (cell_of_row _ _ 6 _ _ (0, 0) k5).trans (show _ = some (Value.slice B2 m2 j2) from rfl); have d7 := (cell_of_row _ _ 7 _ _ (0, 0) k5).trans (show _ = some (Value.slice B3 m3 j3) from rfl); have qb1 := hide (qb.out w5 hb5); replace ho5 := hide (ho5.sl flat_strv); replace hb5 := hide hb5; clear hb5d k5 qa1)
        | (go_simp; go_at_call 72; (with_reducible refine qb1.out.mono ?_); rintro e w6 ⟨A6, n6, c6', rfl, ho6, hn6, hb6⟩; have qe := equalS_calls (c := c5) (j := c6') (ho5.out.below hb6 (.inr (Nat.le_refl _))) (ho6.sl flat_strv) hn5 hn6; rw [decide_eq_true hR.out] at qe; replace qe := hide qe; have hb7 := hide (hb5.out.trans (hb6.mono hb5.out.size)); clear qb1 ho6 hb6)
        | (go_simp; go_at_call 71; (with_reducible refine qe.out.mono ?_); rintro e w7 ⟨rfl, nq, rfl⟩; have hb8 := hide (hb7.out.trans ((below_drewN w6 nq).mono hb7.out.size)); clear qe))
    all_goals (go_wp2_with fail; go_meet)
    all_goals exact ⟨rfl, hb8.out⟩
  case rest =>
  obtain ⟨rfl, hbx⟩ := hcut
  have k5 := (hbx.block _ hkR).trans kR.out
  have d0 := (cell_of_row _ _ 0 _ _ (0, 0) k5).trans (show _ = some (Value.int .i64 s0) from rfl)
  have d1 := (cell_of_row _ _ 1 _ _ (0, 0) k5).trans (show _ = some (Value.int .i64 s1) from rfl)
  have d2 := (cell_of_row _ _ 2 _ _ (0, 0) k5).trans (show _ = some (Value.slice A2 n2 k2) from rfl)
  have d3 := (cell_of_row _ _ 3 _ _ (0, 0) k5).trans (show _ = some (Value.slice A3 n3 k3) from rfl)
  have d4 := (cell_of_row _ _ 4 _ _ (0, 0) k5).trans (show _ = some (Value.int .i64 r0) from rfl)
  have d5 := (cell_of_row _ _ 5 _ _ (0, 0) k5).trans (show _ = some (Value.int .i64 r1) from rfl)
  have d6 := (cell_of_row _ _ 6 _ _ (0, 0) k5).trans (show _ = some (Value.slice B2 m2 j2) from rfl)
  have d7 := (cell_of_row _ _ 7 _ _ (0, 0) k5).trans (show _ = some (Value.slice B3 m3 j3) from rfl)
  have d8 := (cell_of_row _ _ 8 _ _ (0, 0) k5).trans (show _ = some (.func (.func 73) #[] #[.pointer (some ⟨bN, 0, none⟩)]) from rfl)
  have qq := hide (qA.out wc hbx)
  have hbw := hide (hb0'.out.trans (hbx.mono hzs))
  clear c0 c1 c2 c3 c4 c5 c6 c7 qa qb qA qa1 k5 hbx
  go_wp2_with (first | (go_at_call 108; (with_reducible refine qq.out.mono ?_); rintro e w5 ⟨a, rfl, ha, hb5⟩; replace ha := hide ha))
  go_ret
  exact ⟨a, rfl, ha.out, hbw.out.trans (hb5.mono hbw.out.size)⟩

theorem simulatedK_calls (s0 s1 : Int) (A2 : Option Addr) (n2 k2 : Nat) (A3 : Option Addr) (n3 k3 : Nat) (r0 r1 : Int) (B2 : Option Addr) (m2 j2 : Nat) (B3 : Option Addr) (m3 j3 : Nat) (lt : List ByteArray) (et : List Ed) (lp : List ByteArray) (ep : List Ed) (K0 bN m : Nat) (S : List PQ2) (K x y : Int) (w : World) (hD : SimD w K0 s0 s1 A2 n2 k2 A3 n3 k3 r0 r1 B2 m2 j2 B3 m3 j3 lt et lp ep) (hK0 : K0 ≤ w.heap.size) (h : NowAt w bN m S) (hs : s0 ≤ 40) (hr : r0 ≤ 40) (hR : K = 1 → rdyL et lt x = rdyL ep lp y) (hy : 0 ≤ y ∧ y < r0) :
    Calls Tryz.prog 74 #[(.agg #[.int .i64 s0, .int .i64 s1, .slice A2 n2 k2, .slice A3 n3 k3, .int .i64 r0, .int .i64 r1, .slice B2 m2 j2, .slice B3 m3 j3, .func (.func 73) #[] #[.pointer (some ⟨bN, 0, none⟩)]]), .int .i64 K, .int .i64 x, .int .i64 y] w fun e w' => ∃ a : Bool, e = .returned (.bool a) ∧ (a = true ↔ simB K et lt ep lp (fun u v => (u, v) ∈ S) x y) ∧ Below w.heap.size w w' := by
  by_cases hK : K = 1
  · subst hK
    exact simulated1_calls s0 s1 A2 n2 k2 A3 n3 k3 r0 r1 B2 m2 j2 B3 m3 j3 lt et lp ep K0 bN m S x y w hD hK0 h hs hr (hR rfl) hy
  · exact simulated_calls s0 s1 A2 n2 k2 A3 n3 k3 r0 r1 B2 m2 j2 B3 m3 j3 lt et lp ep K0 bN m S K x y w hD hK0 h hs hr hK hy

end Go.Proofs.YthlaoedpjloloaaGreatDoor
