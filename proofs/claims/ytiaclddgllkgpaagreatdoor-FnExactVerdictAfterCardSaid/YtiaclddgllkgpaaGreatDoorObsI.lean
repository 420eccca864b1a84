/-
  The moves of a pair, and whether one is as asked, by the program. Conditions: sizes.
-/
import Derived.Test.YtiaclddgllkgpaaGreatDoorObsW
import Derived.Test.YtiaclddgllkgpaaGreatDoorBaseE
import Derived.Test.YtiaclddgllkgpaaGreatDoorPrev
namespace Go.Proofs.YtiaclddgllkgpaaGreatDoor
open Go.ChangeShapes Go.WideShapes Go.ChangeAt Go.RowKit Go.Sort
set_option linter.unusedVariables false
set_option linter.unusedSimpArgs false

/-- A model and a property lie below K. -/
structure ObsD (w : World) (K : Nat) (s0 s1 : Int) (A2 : Option Addr) (n2 k2 : Nat) (A3 : Option Addr) (n3 k3 : Nat) (r0 r1 : Int) (B2 : Option Addr) (m2 j2 : Nat) (B3 : Option Addr) (m3 j3 : Nat) (lt : List ByteArray) (et : List Ed) (lp : List ByteArray) (ep : List Ed) : Prop where
  t2 : SlS w 0 K A2 n2 lt
  t3 : SlE w 0 K A3 n3 et
  u2 : SlS w 0 K B2 m2 lp
  u3 : SlE w 0 K B3 m3 ep
  hes : n3 ≤ 1048576
  hfs : m3 ≤ 1048576
  ht : ltsV (s0, s1, lt, et) = true
  hp : detV (r0, r1, lp, ep) = true
theorem ObsD.below {w w' : World} {K B : Nat} {s0 s1 : Int} {A2 : Option Addr} {n2 k2 : Nat} {A3 : Option Addr} {n3 k3 : Nat} {r0 r1 : Int} {B2 : Option Addr} {m2 j2 : Nat} {B3 : Option Addr} {m3 j3 : Nat} {lt : List ByteArray} {et : List Ed} {lp : List ByteArray} {ep : List Ed}
    (h : ObsD w K s0 s1 A2 n2 k2 A3 n3 k3 r0 r1 B2 m2 j2 B3 m3 j3 lt et lp ep) (hb : Below B w w') (hK : K ≤ B) : ObsD w' K s0 s1 A2 n2 k2 A3 n3 k3 r0 r1 B2 m2 j2 B3 m3 j3 lt et lp ep :=
  ⟨h.t2.below hb (.inl hK), h.t3.below hb (.inl hK), h.u2.below hb (.inl hK), h.u3.below hb (.inl hK), h.hes, h.hfs, h.ht, h.hp⟩

theorem any_take1 {α : Type} {G : α → Bool} {l : List α} {k : Nat} {x : α} (hx : l[k]? = some x) : (l.take (k + 1)).any G = ((l.take k).any G || G x) := by
  rw [List.take_add_one, hx, List.any_append]
  simp
theorem goE_mem {es : List Ed} {ls : List ByteArray} {lab : ByteArray} {s : Int} : goE es ls lab s = -1 ∨ ∃ e ∈ es, e.2.2 = goE es ls lab s := by
  unfold goE
  cases h : folE es ls lab s with
  | nil => exact .inl rfl
  | cons a t =>
    refine .inr ?_
    have : a ∈ folE es ls lab s := by rw [h]; exact List.mem_cons_self ..
    unfold folE at this
    obtain ⟨e, he, h1⟩ := List.mem_map.1 this
    exact ⟨e, (List.mem_filter.1 he).1, h1⟩
theorem goE_lt {st ini : Int} {es : List Ed} {ls : List ByteArray} (h : ltsV (st, ini, ls, es) = true) (h0 : 0 ≤ st) (lab : ByteArray) (s : Int) : goE es ls lab s < st := by
  rcases goE_mem (es := es) (ls := ls) (lab := lab) (s := s) with h1 | ⟨⟨f, lb, tg⟩, he, h1⟩
  · omega
  · obtain ⟨k, hk⟩ := List.getElem?_of_mem he
    have := (edge_of h hk).2.1
    dsimp only at h1
    omega
theorem mov_in {st ini pst pini : Int} {et ep : List Ed} {lt lp : List ByteArray} (ht : ltsV (st, ini, lt, et) = true) (hp : ltsV (pst, pini, lp, ep) = true) (h0 : 0 ≤ pst) {x y : Int} (hy : y < pst) {z : Int × Int} (hz : z ∈ movT et lt ep lp x y) : (0 ≤ z.1 ∧ z.1 < st) ∧ z.2 < pst := by
  unfold movT at hz
  obtain ⟨⟨f, lb, tg⟩, he, rfl⟩ := List.mem_map.1 hz
  obtain ⟨k, hk⟩ := List.getElem?_of_mem (List.mem_filter.1 he).1
  have h1 := (edge_of ht hk).2.1
  refine ⟨⟨h1.1, by dsimp only; omega⟩, ?_⟩
  unfold toP
  dsimp only
  split
  · exact hy
  · exact goE_lt hp h0 _ _

set_option maxRecDepth 100000 in
set_option maxHeartbeats 3200000 in
theorem moves_calls (s0 s1 : Int) (A2 : Option Addr) (n2 k2 : Nat) (A3 : Option Addr) (n3 k3 : Nat) (r0 r1 : Int) (B2 : Option Addr) (m2 j2 : Nat) (B3 : Option Addr) (m3 j3 : Nat) (lt : List ByteArray) (et : List Ed) (lp : List ByteArray) (ep : List Ed) (Fi : FuncId) (ic : Array Value) (G : Int × Int → Bool) (bf bi K : Nat) (x y : Int) (w : World) (hD : ObsD w K s0 s1 A2 n2 k2 A3 n3 k3 r0 r1 B2 m2 j2 B3 m3 j3 lt et lp ep) (hK : K ≤ bf) (kf : w.heap[bf]? = some (.cells #[.bool false] 4 (0, 0))) (ki : w.heap[bi]? = some (.cells #[.func (.func Fi) #[] ic] 205 (0, 0))) (hfi : bi ≠ bf)
    (hF : ∀ (v u : Value) (W : World), Sem.run Tryz.prog (callFunc Fi (#[v, u] ++ ic)) W = .ok (.enter Fi (#[v, u] ++ ic)) W) (hcl : ∀ z, z ∈ movT et lt ep lp x y → ∀ W, Sav bf w W → Calls Tryz.prog Fi (#[.int .i64 z.1, .int .i64 z.2] ++ ic) W (Says (G z) W)) :
    Calls Tryz.prog 214 #[(.agg #[.int .i64 s0, .int .i64 s1, .slice A2 n2 k2, .slice A3 n3 k3, .int .i64 r0, .int .i64 r1, .slice B2 m2 j2, .slice B3 m3 j3]), .int .i64 x, .int .i64 y, .func (.func 215) #[] #[.pointer (some ⟨bf, 0, none⟩), .pointer (some ⟨bi, 0, none⟩)]] w fun e w' => e = .returned (.tuple #[]) ∧ w'.heap[bf]? = some (.cells #[.bool ((movT et lt ep lp x y).any G)] 4 (0, 0)) ∧ Sav bf w w' := by
  have hbfw : bf < w.heap.size := (Array.getElem?_eq_some_iff.1 kf).1
  have hbiw : bi < w.heap.size := (Array.getElem?_eq_some_iff.1 ki).1
  have hW0 : Below w.heap.size w (w.alloc (.cells #[.int .i64 s0, .int .i64 s1, .slice A2 n2 k2, .slice A3 n3 k3, .int .i64 r0, .int .i64 r1, .slice B2 m2 j2, .slice B3 m3 j3] 141)) := (Below.refl _ _).alloc (Nat.le_refl _) _
  have hz0 : (w.alloc (.cells #[.int .i64 s0, .int .i64 s1, .slice A2 n2 k2, .slice A3 n3 k3, .int .i64 r0, .int .i64 r1, .slice B2 m2 j2, .slice B3 m3 j3] 141)).heap.size = w.heap.size + 1 := World.size_alloc _ _
  have kO := heap_alloc_new w (.cells #[.int .i64 s0, .int .i64 s1, .slice A2 n2 k2, .slice A3 n3 k3, .int .i64 r0, .int .i64 r1, .slice B2 m2 j2, .slice B3 m3 j3] 141)
  have hD0 := hD.below hW0 (Nat.le_trans hK (Nat.le_of_lt hbfw))
  have qo := hide (out_calls s0 s1 (.slice A2 n2 k2) A3 n3 k3 x et (w.alloc (.cells #[.int .i64 s0, .int .i64 s1, .slice A2 n2 k2, .slice A3 n3 k3, .int .i64 r0, .int .i64 r1, .slice B2 m2 j2, .slice B3 m3 j3] 141)) 0 K hD0.t3 hD.hes ⟨_, _, _, rfl⟩)
  have c0 : (w.alloc (.cells #[.int .i64 s0, .int .i64 s1, .slice A2 n2 k2, .slice A3 n3 k3, .int .i64 r0, .int .i64 r1, .slice B2 m2 j2, .slice B3 m3 j3] 141)).cell? ⟨w.heap.size, 0, none⟩ = some (.int .i64 s0) := (cell_of_row _ _ 0 _ _ (0, 0) kO).trans rfl
  have c1 : (w.alloc (.cells #[.int .i64 s0, .int .i64 s1, .slice A2 n2 k2, .slice A3 n3 k3, .int .i64 r0, .int .i64 r1, .slice B2 m2 j2, .slice B3 m3 j3] 141)).cell? ⟨w.heap.size, 1, none⟩ = some (.int .i64 s1) := (cell_of_row _ _ 1 _ _ (0, 0) kO).trans rfl
  have c2 : (w.alloc (.cells #[.int .i64 s0, .int .i64 s1, .slice A2 n2 k2, .slice A3 n3 k3, .int .i64 r0, .int .i64 r1, .slice B2 m2 j2, .slice B3 m3 j3] 141)).cell? ⟨w.heap.size, 2, none⟩ = some (.slice A2 n2 k2) := (cell_of_row _ _ 2 _ _ (0, 0) kO).trans rfl
  have c3 : (w.alloc (.cells #[.int .i64 s0, .int .i64 s1, .slice A2 n2 k2, .slice A3 n3 k3, .int .i64 r0, .int .i64 r1, .slice B2 m2 j2, .slice B3 m3 j3] 141)).cell? ⟨w.heap.size, 3, none⟩ = some (.slice A3 n3 k3) := (cell_of_row _ _ 3 _ _ (0, 0) kO).trans rfl
  have hkO : Hid ((w.alloc (.cells #[.int .i64 s0, .int .i64 s1, .slice A2 n2 k2, .slice A3 n3 k3, .int .i64 r0, .int .i64 r1, .slice B2 m2 j2, .slice B3 m3 j3] 141)).heap[w.heap.size]? = some (.cells #[.int .i64 s0, .int .i64 s1, .slice A2 n2 k2, .slice A3 n3 k3, .int .i64 r0, .int .i64 r1, .slice B2 m2 j2, .slice B3 m3 j3] 141 (0, 0))) := kO
  have hkf : Hid ((w.alloc (.cells #[.int .i64 s0, .int .i64 s1, .slice A2 n2 k2, .slice A3 n3 k3, .int .i64 r0, .int .i64 r1, .slice B2 m2 j2, .slice B3 m3 j3] 141)).heap[bf]? = some (.cells #[.bool false] 4 (0, 0))) := (hW0.block bf hbfw).trans kf
  have hki : Hid ((w.alloc (.cells #[.int .i64 s0, .int .i64 s1, .slice A2 n2 k2, .slice A3 n3 k3, .int .i64 r0, .int .i64 r1, .slice B2 m2 j2, .slice B3 m3 j3] 141)).heap[bi]? = some (.cells #[.func (.func Fi) #[] ic] 205 (0, 0))) := (hW0.block bi hbiw).trans ki
  have hmv : ∀ (e : Ed), e ∈ outE et x → (e.2.2, toP lt ep lp e y) ∈ movT et lt ep lp x y := fun e he => List.mem_map.2 ⟨e, he, rfl⟩
  have hSav0 : Sav bf w (w.alloc (.cells #[.int .i64 s0, .int .i64 s1, .slice A2 n2 k2, .slice A3 n3 k3, .int .i64 r0, .int .i64 r1, .slice B2 m2 j2, .slice B3 m3 j3] 141)) := Sav.of_below hW0
  have hlab : Hid (∀ e ∈ outE et x, 0 ≤ e.2.1 ∧ e.2.1 < (n2 : Int)) := fun e he => by
    obtain ⟨f, lb, tg⟩ := e
    obtain ⟨j, hj⟩ := List.getElem?_of_mem (List.mem_filter.1 he).1
    have h1 := (edge_of hD.ht hj).2.2
    have h2 : lt.length = n2 := hD.t2.len
    dsimp only
    omega
  replace hSav0 := hide hSav0
  replace hmv := hide hmv
  replace hcl := hide hcl
  replace hD0 := hide hD0
  clear kO hW0 kf ki hD
  go_enter Tryz.func214, Tryz.ntmps214
  go_upto_region 1 with fail
  generalize (w.alloc (.cells #[.int .i64 s0, .int .i64 s1, .slice A2 n2 k2, .slice A3 n3 k3, .int .i64 r0, .int .i64 r1, .slice B2 m2 j2, .slice B3 m3 j3] 141)) = W0 at *
  go_upto_region 2 with (first | (go_at_call 132; (with_reducible refine qo.out.mono ?_); rintro e w1 ⟨Ao, no, co, rfl, ho, hno, hb1⟩))
  have hlen := hide ho.len
  have hz1 := hb1.size
  have hkO1 : Hid (w1.heap[w.heap.size]? = some (.cells #[.int .i64 s0, .int .i64 s1, .slice A2 n2 k2, .slice A3 n3 k3, .int .i64 r0, .int .i64 r1, .slice B2 m2 j2, .slice B3 m3 j3] 141 (0, 0))) := (hb1.block _ (by omega)).trans hkO.out
  have hkf1 : Hid (w1.heap[bf]? = some (.cells #[.bool (((movT et lt ep lp x y).take 0).any G)] 4 (0, 0))) := (hb1.block _ (by omega)).trans hkf.out
  have hki1 : Hid (w1.heap[bi]? = some (.cells #[.func (.func Fi) #[] ic] 205 (0, 0))) := (hb1.block _ (by omega)).trans hki.out
  have hS1 := hide (hSav0.out.trans (Sav.of_below hb1))
  have hD1 := hide (hD0.out.below hb1 (by omega))
  replace ho := hide ho
  clear c0 c1 c2 c3 hkO hkf hki hSav0 hD0 hb1 qo
  go_loopg [15] no (fun g i wr => ∃ k : Nat, k ≤ no ∧ i = .int .i64 (k : Nat) ∧ Hid (wr.heap[bf]? = some (.cells #[.bool (((movT et lt ep lp x y).take k).any G)] 4 (0, 0))) ∧ Sav bf w1 wr ∧ Hid (no - k ≤ g))
  case atStart => exact ⟨0, Nat.zero_le _, rfl, hkf1, Sav.refl _ _, by show _ ≤ _; omega⟩
  case round =>
    clear hkf1
    obtain ⟨k, hk, rfl, hkf, hsv, hG⟩ := hrel
    have hz := hsv.size
    by_cases hlt : k < no
    · obtain ⟨G2, rfl⟩ : ∃ G2, gk = G2 + 1 := ⟨gk - 1, by have := hG.out; omega⟩
      have hG2 : Hid (no - (k + 1) ≤ G2) := by have := hG.out; show _ ≤ _; omega
      have hor := ho.out.keep hsv.size (fun b g1 g2 g3 => hsv.block b g3 (by omega))
      obtain ⟨b5, o5, f, lb, tg, rfl, -, -, g5, hx, a0, a1, a2, -, -, -⟩ := SlE.get hor hlt
      have hem := List.mem_of_getElem? hx
      have hll := hlab.out _ hem
      have hzm := hmv.out _ hem
      have hmx : (movT et lt ep lp x y)[k]? = some (tg, toP lt ep lp (f, lb, tg) y) := by
        show ((outE et x).map _)[k]? = _
        rw [List.getElem?_map, hx]
        rfl
      have htk := any_take1 (G := G) hmx
      dsimp only at hll hzm
      have hbE : Below wr.heap.size wr (wr.alloc (.cells #[.int .i64 f, .int .i64 lb, .int .i64 tg] 86)) := (Below.refl _ _).alloc (Nat.le_refl _) _
      have hzE : (wr.alloc (.cells #[.int .i64 f, .int .i64 lb, .int .i64 tg] 86)).heap.size = wr.heap.size + 1 := World.size_alloc _ _
      have kE := heap_alloc_new wr (.cells #[.int .i64 f, .int .i64 lb, .int .i64 tg] 86)
      have z1 : (wr.alloc (.cells #[.int .i64 f, .int .i64 lb, .int .i64 tg] 86)).cell? ⟨wr.heap.size, 1, none⟩ = some (.int .i64 lb) := (cell_of_row _ _ 1 _ _ (0, 0) kE).trans rfl
      have z2 : (wr.alloc (.cells #[.int .i64 f, .int .i64 lb, .int .i64 tg] 86)).cell? ⟨wr.heap.size, 2, none⟩ = some (.int .i64 tg) := (cell_of_row _ _ 2 _ _ (0, 0) kE).trans rfl
      have hsE := hsv.trans (Sav.of_below hbE)
      have hswE := hS1.out.trans hsE
      have kfE := (hbE.block bf (by omega)).trans hkf.out
      have kiE := hsE.kept hki1.out hfi
      have kOE := hsE.kept hkO1.out (by omega)
      have hDE := hD1.out.below (hsE.below hK (by omega)) (Nat.le_refl _)
      have hI0 : (0 : Int) ≤ (k : Int) := by omega
      have hI1 : (k : Int) < (no : Int) := by omega
      generalize hfv : ((movT et lt ep lp x y).take k).any G = fv at *
      replace hsE := hide hsE
      clear hx hor hem hfv hmx hkf
      by_cases h0 : lb = 0
      · subst h0
        have hzy : Hid (toP lt ep lp (f, 0, tg) y = y) := if_pos rfl
        rw [hzy.out] at hzm htk
        have q := hide (any1_calls Fi ic tg y fv (G (tg, y)) bf bi _ kfE kiE hF (hcl.out _ hzm _ hswE))
        have htk' := hide htk
        replace hswE := hide hswE
        replace hbE := hide hbE
        replace hDE := hide hDE
        clear kfE kiE kOE hzm hll hzE kE hsv htk
        go_wp2_with (first | (go_at_call 215; (with_reducible refine q.out.mono ?_); rintro e w5 ⟨rfl, kf5, hs5⟩))
        have hs6 := hsE.out.trans hs5
        have kf6 : Hid (w5.heap[bf]? = some (.cells #[.bool (((movT et lt ep lp x y).take (k + 1)).any G)] 4 (0, 0))) := by rw [htk'.out]; exact kf5
        clear kf5 hs5
        go_roundg G2
        case measure => omega
        case rel => exact ⟨k + 1, by omega, by go_num, kf6, hs6, hG2⟩
      · have hzy : Hid (toP lt ep lp (f, lb, tg) y = goE ep lp (lt[lb.toNat]?.getD ByteArray.empty) y) := if_neg h0
        obtain ⟨b6, o6, r6, rfl, -, gK6, g6, hr6, p6, -⟩ := SlS.get hDE.t2 (show lb.toNat < n2 by omega)
        rw [hzy.out, hr6, Option.getD_some] at hzm htk
        have hl0 : (0 : Int) ≤ lb := hll.1
        have hl9 : lb < (n2 : Int) := hll.2
        have y2 := (cell_of_row _ _ 2 _ _ (0, 0) kOE).trans rfl
        have y4 := (cell_of_row _ _ 4 _ _ (0, 0) kOE).trans rfl
        have y5 := (cell_of_row _ _ 5 _ _ (0, 0) kOE).trans rfl
        have y6 := (cell_of_row _ _ 6 _ _ (0, 0) kOE).trans rfl
        have y7 := (cell_of_row _ _ 7 _ _ (0, 0) kOE).trans rfl
        have hbd : Below wr.heap.size wr (wr.alloc (.cells #[.int .i64 f, .int .i64 lb, .int .i64 tg] 86)).drew := hbE.drew
        have qs := hide (step_calls r0 r1 B2 m2 j2 B3 m3 j3 y r6 lp ep (wr.alloc (.cells #[.int .i64 f, .int .i64 lb, .int .i64 tg] 86)).drew 0 K hDE.u2.drew hDE.u3.drew hDE.hfs hDE.hp)
        have qa := hide fun (W : World) (h : Below (wr.alloc (.cells #[.int .i64 f, .int .i64 lb, .int .i64 tg] 86)).heap.size (wr.alloc (.cells #[.int .i64 f, .int .i64 lb, .int .i64 tg] 86)).drew W) =>
          any1_calls Fi ic tg (goE ep lp r6 y) fv (G (tg, goE ep lp r6 y)) bf bi W ((h.block bf (by omega)).trans kfE) ((h.block bi (by omega)).trans kiE) hF (hcl.out _ hzm W (hswE.trans (Sav.of_below (w := wr.alloc _) ⟨h.os, h.tape, h.output, h.size, h.block⟩)))
        have htk' := hide htk
        have hsE' : Hid (Sav bf w1 (wr.alloc (.cells #[.int .i64 f, .int .i64 lb, .int .i64 tg] 86))) := hsE
        replace hswE := hide hswE
        replace hbE := hide hbE
        replace hDE := hide hDE
        have nr : wr.heap.size ≠ bf := by omega
        have nw : w.heap.size ≠ bf := by omega
        have n6 : b6 ≠ bf := by omega
        have hrE : wr.heap.size < (wr.alloc (.cells #[.int .i64 f, .int .i64 lb, .int .i64 tg] 86)).heap.size := by omega
        have hwE : w.heap.size < (wr.alloc (.cells #[.int .i64 f, .int .i64 lb, .int .i64 tg] 86)).heap.size := by omega
        clear kfE kiE kOE hzm hll kE hsv hsE htk hr6 hzE hbd
        go_upto_region 6 with fail
        generalize (wr.alloc (.cells #[.int .i64 f, .int .i64 lb, .int .i64 tg] 86)) = WE at *
        go_region_held3 (fun w' => w'.cell? ⟨wr.heap.size, 2, none⟩ = some (.int .i64 tg) ∧ w'.cell? ⟨wr.heap.size, 1, none⟩ = some (.int .i64 lb) ∧ w'.cell? ⟨w.heap.size, 2, none⟩ = some (.slice (some ⟨b6, o6, none⟩) n2 k2) ∧ w'.cell? ⟨w.heap.size, 4, none⟩ = some (.int .i64 r0) ∧ w'.cell? ⟨w.heap.size, 5, none⟩ = some (.int .i64 r1) ∧ w'.cell? ⟨w.heap.size, 6, none⟩ = some (.slice B2 m2 j2) ∧ w'.cell? ⟨w.heap.size, 7, none⟩ = some (.slice B3 m3 j3) ∧ w'.cell? ⟨b6, o6 + lb.toNat, none⟩ = some (.string r6)) (first | exact ⟨z2, z1, y2, y4, y5, y6, y7, p6⟩ | exact ⟨u2, u1, u3, u4, u5, u6, u7, u8⟩ | exact ⟨v2, v1, v3, v4, v5, v6, v7, v8⟩ | go_keep)
          (first
            | (go_at_call 90; (with_reducible refine qs.out.mono ?_); rintro e w5 ⟨rfl, hb5⟩; have q5 := hide (qa.out w5 hb5); have v2 := (hb5.cell (p := ⟨wr.heap.size, 2, none⟩) hrE).trans z2; have v1 := (hb5.cell (p := ⟨wr.heap.size, 1, none⟩) hrE).trans z1; have v3 := (hb5.cell (p := ⟨w.heap.size, 2, none⟩) hwE).trans y2; have v4 := (hb5.cell (p := ⟨w.heap.size, 4, none⟩) hwE).trans y4; have v5 := (hb5.cell (p := ⟨w.heap.size, 5, none⟩) hwE).trans y5; have v6 := (hb5.cell (p := ⟨w.heap.size, 6, none⟩) hwE).trans y6; have v7 := (hb5.cell (p := ⟨w.heap.size, 7, none⟩) hwE).trans y7; have v8 := (hb5.cell (p := ⟨b6, o6 + lb.toNat, none⟩) g6).trans p6; have hz5 := hb5.size; replace hb5 := hide hb5)
            | (go_at_call 215; (with_reducible refine q5.out.mono ?_); rintro e w6 ⟨rfl, kf6, hs6⟩; have u2 := hs6.cell v2 (Nat.lt_of_lt_of_le hrE hz5) nr; have u1 := hs6.cell v1 (Nat.lt_of_lt_of_le hrE hz5) nr; have u3 := hs6.cell v3 (Nat.lt_of_lt_of_le hwE hz5) nw; have u4 := hs6.cell v4 (Nat.lt_of_lt_of_le hwE hz5) nw; have u5 := hs6.cell v5 (Nat.lt_of_lt_of_le hwE hz5) nw; have u6 := hs6.cell v6 (Nat.lt_of_lt_of_le hwE hz5) nw; have u7 := hs6.cell v7 (Nat.lt_of_lt_of_le hwE hz5) nw; have u8 := hs6.cell v8 (Nat.lt_of_lt_of_le g6 hz5) n6))
        have hs7 := hsE'.out.trans ((Sav.of_below (w := WE) ⟨hb5.out.os, hb5.out.tape, hb5.out.output, hb5.out.size, hb5.out.block⟩).trans hs6)
        have kf7 : Hid (w6.heap[bf]? = some (.cells #[.bool (((movT et lt ep lp x y).take (k + 1)).any G)] 4 (0, 0))) := by rw [htk'.out]; exact kf6
        clear kf6 hs6 hb5 q5 qa qs u1 u2 u3 u4 u5 u6 u7 u8 v1 v2 v3 v4 v5 v6 v7 v8
        go_wp2_with fail
        go_roundg G2
        case measure => omega
        case rel => exact ⟨k + 1, by omega, by go_num, kf7, hs7, hG2⟩
    · have hkn : k = no := by omega
      subst hkn
      have hall : (movT et lt ep lp x y).take k = movT et lt ep lp x y := List.take_of_length_le (by show ((outE et x).map _).length ≤ _; rw [List.length_map, hlen.out]; exact Nat.le_refl _)
      rw [hall] at hkf
      have hs := hide (hS1.out.trans hsv)
      go_wp2_with fail
      go_end0
      exact ⟨rfl, hkf.out, hs.out⟩

set_option maxRecDepth 100000 in
set_option maxHeartbeats 1600000 in
theorem any_calls (s0 s1 : Int) (A2 : Option Addr) (n2 k2 : Nat) (A3 : Option Addr) (n3 k3 : Nat) (r0 r1 : Int) (B2 : Option Addr) (m2 j2 : Nat) (B3 : Option Addr) (m3 j3 : Nat) (lt : List ByteArray) (et : List Ed) (lp : List ByteArray) (ep : List Ed) (Fi : FuncId) (ic : Array Value) (G : Int × Int → Bool) (K : Nat) (x y : Int) (w : World) (hD : ObsD w K s0 s1 A2 n2 k2 A3 n3 k3 r0 r1 B2 m2 j2 B3 m3 j3 lt et lp ep) (hK : K ≤ w.heap.size)
    (hF : ∀ (v u : Value) (W : World), Sem.run Tryz.prog (callFunc Fi (#[v, u] ++ ic)) W = .ok (.enter Fi (#[v, u] ++ ic)) W) (hcl : ∀ z, z ∈ movT et lt ep lp x y → ∀ W, Below w.heap.size w W → Calls Tryz.prog Fi (#[.int .i64 z.1, .int .i64 z.2] ++ ic) W (Says (G z) W)) :
    Calls Tryz.prog 188 #[(.agg #[.int .i64 s0, .int .i64 s1, .slice A2 n2 k2, .slice A3 n3 k3, .int .i64 r0, .int .i64 r1, .slice B2 m2 j2, .slice B3 m3 j3]), .int .i64 x, .int .i64 y, .func (.func Fi) #[] ic] w (Says ((movT et lt ep lp x y).any G) w) := by
  have z1 : (w.alloc (.cells #[.int .i64 s0, .int .i64 s1, .slice A2 n2 k2, .slice A3 n3 k3, .int .i64 r0, .int .i64 r1, .slice B2 m2 j2, .slice B3 m3 j3] 141)).heap.size = w.heap.size + 1 := World.size_alloc _ _
  have z2 : ((w.alloc (.cells #[.int .i64 s0, .int .i64 s1, .slice A2 n2 k2, .slice A3 n3 k3, .int .i64 r0, .int .i64 r1, .slice B2 m2 j2, .slice B3 m3 j3] 141)).alloc (.cells #[.func (.func Fi) #[] ic] 205)).heap.size = w.heap.size + 1 + 1 := by rw [World.size_alloc, z1]
  have z3 : (((w.alloc (.cells #[.int .i64 s0, .int .i64 s1, .slice A2 n2 k2, .slice A3 n3 k3, .int .i64 r0, .int .i64 r1, .slice B2 m2 j2, .slice B3 m3 j3] 141)).alloc (.cells #[.func (.func Fi) #[] ic] 205)).alloc (.cells #[.bool false] 4)).heap.size = w.heap.size + 1 + 1 + 1 := by rw [World.size_alloc, z2]
  have hb3 : Below w.heap.size w (((w.alloc (.cells #[.int .i64 s0, .int .i64 s1, .slice A2 n2 k2, .slice A3 n3 k3, .int .i64 r0, .int .i64 r1, .slice B2 m2 j2, .slice B3 m3 j3] 141)).alloc (.cells #[.func (.func Fi) #[] ic] 205)).alloc (.cells #[.bool false] 4)) := (((Below.refl _ _).alloc (Nat.le_refl _) _).alloc (by omega) _).alloc (by omega) _
  have kf := heap_alloc_new ((w.alloc (.cells #[.int .i64 s0, .int .i64 s1, .slice A2 n2 k2, .slice A3 n3 k3, .int .i64 r0, .int .i64 r1, .slice B2 m2 j2, .slice B3 m3 j3] 141)).alloc (.cells #[.func (.func Fi) #[] ic] 205)) (.cells #[.bool false] 4)
  rw [z2] at kf
  have ki := heap_alloc_new (w.alloc (.cells #[.int .i64 s0, .int .i64 s1, .slice A2 n2 k2, .slice A3 n3 k3, .int .i64 r0, .int .i64 r1, .slice B2 m2 j2, .slice B3 m3 j3] 141)) (.cells #[.func (.func Fi) #[] ic] 205)
  rw [z1] at ki
  replace ki := (Below.heap_alloc ((w.alloc (.cells #[.int .i64 s0, .int .i64 s1, .slice A2 n2 k2, .slice A3 n3 k3, .int .i64 r0, .int .i64 r1, .slice B2 m2 j2, .slice B3 m3 j3] 141)).alloc (.cells #[.func (.func Fi) #[] ic] 205)) (.cells #[.bool false] 4) (w.heap.size + 1) (by omega)).trans ki
  have kO := ((Below.heap_alloc ((w.alloc (.cells #[.int .i64 s0, .int .i64 s1, .slice A2 n2 k2, .slice A3 n3 k3, .int .i64 r0, .int .i64 r1, .slice B2 m2 j2, .slice B3 m3 j3] 141)).alloc (.cells #[.func (.func Fi) #[] ic] 205)) (.cells #[.bool false] 4) w.heap.size (by omega)).trans (Below.heap_alloc (w.alloc (.cells #[.int .i64 s0, .int .i64 s1, .slice A2 n2 k2, .slice A3 n3 k3, .int .i64 r0, .int .i64 r1, .slice B2 m2 j2, .slice B3 m3 j3] 141)) (.cells #[.func (.func Fi) #[] ic] 205) w.heap.size (by omega))).trans (heap_alloc_new w (.cells #[.int .i64 s0, .int .i64 s1, .slice A2 n2 k2, .slice A3 n3 k3, .int .i64 r0, .int .i64 r1, .slice B2 m2 j2, .slice B3 m3 j3] 141))
  have q := hide (moves_calls s0 s1 A2 n2 k2 A3 n3 k3 r0 r1 B2 m2 j2 B3 m3 j3 lt et lp ep Fi ic G (w.heap.size + 1 + 1) (w.heap.size + 1) K x y _ (hD.below hb3 hK) (by omega) kf ki (by omega) hF fun z hz W hW => hcl z hz W (hb3.trans (hW.below (by omega) (by omega))))
  have c0 := (cell_of_row _ _ 0 _ _ (0, 0) kO).trans rfl
  have c1 := (cell_of_row _ _ 1 _ _ (0, 0) kO).trans rfl
  have c2 := (cell_of_row _ _ 2 _ _ (0, 0) kO).trans rfl
  have c3 := (cell_of_row _ _ 3 _ _ (0, 0) kO).trans rfl
  have c4 := (cell_of_row _ _ 4 _ _ (0, 0) kO).trans rfl
  have c5 := (cell_of_row _ _ 5 _ _ (0, 0) kO).trans rfl
  have c6 := (cell_of_row _ _ 6 _ _ (0, 0) kO).trans rfl
  have c7 := (cell_of_row _ _ 7 _ _ (0, 0) kO).trans rfl
  replace hb3 := hide hb3
  clear kO kf ki hcl hD hF
  go_enter Tryz.func188, Tryz.ntmps188
  go_upto_region 2 with fail
  generalize (((w.alloc (.cells #[.int .i64 s0, .int .i64 s1, .slice A2 n2 k2, .slice A3 n3 k3, .int .i64 r0, .int .i64 r1, .slice B2 m2 j2, .slice B3 m3 j3] 141)).alloc (.cells #[.func (.func Fi) #[] ic] 205)).alloc (.cells #[.bool false] 4)) = W3 at *
  go_upto_region 3 with (first | (go_at_call 214; (with_reducible refine q.out.mono ?_); rintro e w5 ⟨rfl, kf5, hs5⟩))
  have d0 := (cell_of_row _ _ 0 _ _ (0, 0) kf5).trans rfl
  have hb5 := hide (hb3.out.trans (hs5.below (B := w.heap.size) (by omega) (by omega)))
  clear kf5 hs5 q c0 c1 c2 c3 c4 c5 c6 c7
  go_wp2_with fail
  go_ret
  exact ⟨rfl, hb5.out⟩

end Go.Proofs.YtiaclddgllkgpaaGreatDoor
