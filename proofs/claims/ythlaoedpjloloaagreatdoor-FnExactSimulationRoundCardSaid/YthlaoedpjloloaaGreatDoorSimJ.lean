/-
  Whether all edges of a pair are answered within a set of pairs, by the program. Conditions: sizes.
-/
import Derived.Test.YthlaoedpjloloaaGreatDoorSimI
import Derived.Deep.DeepCutAuto
import Derived.Deep.RegionHeld3
namespace Go.Proofs.YthlaoedpjloloaaGreatDoor
open Go.ChangeShapes Go.WideShapes Go.ChangeAt Go.RowKit Go.Sort
set_option linter.unusedVariables false
set_option linter.unusedSimpArgs false

set_option maxRecDepth 100000 in
set_option maxHeartbeats 1600000 in
theorem weakly_calls (s0 s1 : Int) (A2 : Option Addr) (n2 k2 : Nat) (A3 : Option Addr) (n3 k3 : Nat) (y : Int) (lab : ByteArray) (ls : List ByteArray) (es : List Ed) (w : World) (lo hi : Nat)
    (t2 : SlS w lo hi A2 n2 ls) (t3 : SlE w lo hi A3 n3 es) (hes : n3 ≤ 1048576) (hval : ltsV (s0, s1, ls, es) = true) :
    Calls Tryz.prog 127 #[(.agg #[.int .i64 s0, .int .i64 s1, .slice A2 n2 k2, .slice A3 n3 k3]), .int .i64 y, .string lab] w fun e w' => ∃ A n c R, e = .returned (.slice A n c) ∧ SlI w' w.heap.size w'.heap.size A n R ∧ n ≤ 340 ∧ (∀ v, v ∈ R ↔ stepW 2 es ls y lab v) ∧ Below w.heap.size w w' := by
  have z1 : (w.alloc (.cells #[.int .i64 s0, .int .i64 s1, .slice A2 n2 k2, .slice A3 n3 k3] 31)).heap.size = w.heap.size + 1 := World.size_alloc _ _
  have z2 : ((w.alloc (.cells #[.int .i64 s0, .int .i64 s1, .slice A2 n2 k2, .slice A3 n3 k3] 31)).alloc (.cells #[.int .i64 y] 2)).heap.size = w.heap.size + 1 + 1 := by rw [World.size_alloc, z1]
  have hb1 : Below w.heap.size w (w.alloc (.cells #[.int .i64 s0, .int .i64 s1, .slice A2 n2 k2, .slice A3 n3 k3] 31)) := (Below.refl _ _).alloc (Nat.le_refl _) _
  have hb2 : Below w.heap.size w ((w.alloc (.cells #[.int .i64 s0, .int .i64 s1, .slice A2 n2 k2, .slice A3 n3 k3] 31)).alloc (.cells #[.int .i64 y] 2)) := hb1.alloc (by omega) _
  have kB := heap_alloc_new w (.cells #[.int .i64 s0, .int .i64 s1, .slice A2 n2 k2, .slice A3 n3 k3] 31)
  have hA2 : Below (w.alloc (.cells #[.int .i64 s0, .int .i64 s1, .slice A2 n2 k2, .slice A3 n3 k3] 31)).heap.size (w.alloc (.cells #[.int .i64 s0, .int .i64 s1, .slice A2 n2 k2, .slice A3 n3 k3] 31)) ((w.alloc (.cells #[.int .i64 s0, .int .i64 s1, .slice A2 n2 k2, .slice A3 n3 k3] 31)).alloc (.cells #[.int .i64 y] 2)) := (Below.refl _ _).alloc (Nat.le_refl _) _
  have q1 := hide (internal_calls s0 s1 A2 n2 k2 A3 n3 k3 (some ⟨w.heap.size + 1, 0, none⟩) 1 1 [y] ls es ((w.alloc (.cells #[.int .i64 s0, .int .i64 s1, .slice A2 n2 k2, .slice A3 n3 k3] 31)).alloc (.cells #[.int .i64 y] 2)) lo hi 0 (w.heap.size + 1 + 1) (t2.below hb2 (.inr (Nat.le_refl _))) (t3.below hb2 (.inr (Nat.le_refl _))) (Sl.lit1' _ 2 y _ rfl 1 _ z1.symm) (by omega) hes hval)
  have q2 := hide fun (A : Option Addr) (n c : Nat) (R : List Int) (W : World) (hb : Below w.heap.size w W) (lo5 hi5 : Nat) (h : SlI W lo5 hi5 A n R) (hn : n ≤ 340) => visible_calls s0 s1 A2 n2 k2 A3 n3 k3 A n c R lab ls es W lo hi lo5 hi5 (t2.below hb (.inr (Nat.le_refl _))) (t3.below hb (.inr (Nat.le_refl _))) h (by omega) hes hval
  have hone : ∀ (R : List Int), (∀ v, v ∈ R ↔ TauC es ls (· ∈ [y]) v) → ∀ v, v ∈ R ↔ TauC es ls (· = y) v := fun _ h v => (h v).trans (TauC.congr (fun u => List.mem_singleton) v)
  have c0 := (cell_of_row _ _ 0 _ _ (0, 0) kB).trans (show _ = some (Value.int .i64 s0) from rfl)
  have c1 := (cell_of_row _ _ 1 _ _ (0, 0) kB).trans (show _ = some (Value.int .i64 s1) from rfl)
  have c2 := (cell_of_row _ _ 2 _ _ (0, 0) kB).trans (show _ = some (Value.slice A2 n2 k2) from rfl)
  have c3 := (cell_of_row _ _ 3 _ _ (0, 0) kB).trans (show _ = some (Value.slice A3 n3 k3) from rfl)
  replace hone := hide hone
  replace kB := hide kB
  have hb2' := hide hb2
  have hA2' := hide hA2
  have z1' := hide z1
  clear t2 t3 hb1 hb2 hA2 z1 z2 hval
  by_cases ht : lab = tauB
  · subst ht
    have hst : Hid (∀ v, stepW 2 es ls y tauB v ↔ TauC es ls (· = y) v) := fun v => by unfold stepW; rw [if_pos rfl, if_pos rfl]
    have hself : (tauB.toList == [116, 97, 117]) = true := by rw [tau_list]; rfl
    clear q2 kB
    go_enter Tryz.func127, Tryz.ntmps127
    go_wp2_with (first | (go_at_call 153; (with_reducible refine q1.out.mono ?_); rintro e w5 ⟨A5, n5, c5, R5, rfl, hs5, hm5, hn5, hb5⟩; replace hs5 := hide hs5; replace hm5 := hide hm5; replace hb5 := hide hb5))
    go_ret
    exact ⟨A5, n5, c5, R5, rfl, hs5.out.more hb2'.out.size (Nat.le_refl _), by omega, fun v => (hone.out _ hm5.out v).trans (hst.out v).symm, hb2'.out.trans (hb5.out.mono hb2'.out.size)⟩
  · obtain ⟨hne1, hne2⟩ := str_list_ne2 (a := tauB) (b := lab) (fun e => ht e.symm)
    rw [tau_list] at hne1 hne2
    have hst : Hid (∀ v, stepW 2 es ls y lab v ↔ VisC es ls (TauC es ls (· = y)) lab v) := fun v => by unfold stepW; rw [if_pos rfl, if_neg ht]
    clear ht
    go_enter Tryz.func127, Tryz.ntmps127
    go_wp2_with (first | (go_at_call 153; (with_reducible refine q1.out.mono ?_); rintro e w5 ⟨A5, n5, c5, R5, rfl, hs5, hm5, hn5, hb5⟩; have hbw := hb2'.out.trans (hb5.mono hb2'.out.size); have kB5 := ((hA2'.out.trans (hb5.mono hA2'.out.size)).block _ (by have := z1'.out; omega)).trans kB.out; have d0 := (cell_of_row _ _ 0 _ _ (0, 0) kB5).trans (show _ = some (Value.int .i64 s0) from rfl); have d1 := (cell_of_row _ _ 1 _ _ (0, 0) kB5).trans (show _ = some (Value.int .i64 s1) from rfl); have d2 := (cell_of_row _ _ 2 _ _ (0, 0) kB5).trans (show _ = some (Value.slice A2 n2 k2) from rfl); have d3 := (cell_of_row _ _ 3 _ _ (0, 0) kB5).trans (show _ = some (Value.slice A3 n3 k3) from rfl); have q3 := hide (q2.out A5 n5 c5 R5 w5 hbw _ _ hs5 (by omega)); replace hm5 := hide hm5; replace hbw := hide hbw; clear hs5 hb5 kB5) | (go_at_call 154; (with_reducible refine q3.out.mono ?_); rintro e w6 ⟨A6, n6, c6, R6, rfl, hs6, hm6, hn6, hb6⟩; replace hs6 := hide hs6; replace hm6 := hide hm6; replace hb6 := hide hb6))
    go_ret
    exact ⟨A6, n6, c6, R6, rfl, hs6.out.more hbw.out.size (Nat.le_refl _), hn6, fun v => ((hm6.out v).trans (VisC.congr (fun u => hone.out _ hm5.out u) lab v)).trans (hst.out v).symm, hbw.out.trans (hb6.out.mono hbw.out.size)⟩

set_option maxRecDepth 100000 in
set_option maxHeartbeats 1600000 in
theorem weakWay_calls (s0 s1 : Int) (A2 : Option Addr) (n2 k2 : Nat) (A3 : Option Addr) (n3 k3 : Nat) (r0 r1 : Int) (B2 : Option Addr) (m2 j2 : Nat) (B3 : Option Addr) (m3 j3 : Nat) (lt : List ByteArray) (et : List Ed) (lp : List ByteArray) (ep : List Ed) (K0 bN m : Nat) (S : List PQ2) (x y v : Int) (lab : ByteArray) (w : World) (hD : SimD w K0 s0 s1 A2 n2 k2 A3 n3 k3 r0 r1 B2 m2 j2 B3 m3 j3 lt et lp ep) (h : NowAt w bN m S) (hy : 0 ≤ y ∧ y < r0) (hv : 0 ≤ v ∧ v ≤ 1048576) (hr : r0 ≤ 40) :
    Calls Tryz.prog 109 #[(.agg #[.int .i64 s0, .int .i64 s1, .slice A2 n2 k2, .slice A3 n3 k3, .int .i64 r0, .int .i64 r1, .slice B2 m2 j2, .slice B3 m3 j3, .func (.func 73) #[] #[.pointer (some ⟨bN, 0, none⟩)]]), .int .i64 x, .int .i64 y, .string lab, .int .i64 v] w (AnsW 2 lp ep S y lab v w) := by
  have z1 : (w.alloc (.cells #[.int .i64 s0, .int .i64 s1, .slice A2 n2 k2, .slice A3 n3 k3, .int .i64 r0, .int .i64 r1, .slice B2 m2 j2, .slice B3 m3 j3, .func (.func 73) #[] #[.pointer (some ⟨bN, 0, none⟩)]] 109)).heap.size = w.heap.size + 1 := World.size_alloc _ _
  have z2 : ((w.alloc (.cells #[.int .i64 s0, .int .i64 s1, .slice A2 n2 k2, .slice A3 n3 k3, .int .i64 r0, .int .i64 r1, .slice B2 m2 j2, .slice B3 m3 j3, .func (.func 73) #[] #[.pointer (some ⟨bN, 0, none⟩)]] 109)).alloc (.cells #[.int .i64 v] 2)).heap.size = w.heap.size + 1 + 1 := by rw [World.size_alloc, z1]
  have hb2 : Below w.heap.size w ((w.alloc (.cells #[.int .i64 s0, .int .i64 s1, .slice A2 n2 k2, .slice A3 n3 k3, .int .i64 r0, .int .i64 r1, .slice B2 m2 j2, .slice B3 m3 j3, .func (.func 73) #[] #[.pointer (some ⟨bN, 0, none⟩)]] 109)).alloc (.cells #[.int .i64 v] 2)) := ((Below.refl _ _).alloc (Nat.le_refl _) _).alloc (by omega) _
  have kv := heap_alloc_new (w.alloc (.cells #[.int .i64 s0, .int .i64 s1, .slice A2 n2 k2, .slice A3 n3 k3, .int .i64 r0, .int .i64 r1, .slice B2 m2 j2, .slice B3 m3 j3, .func (.func 73) #[] #[.pointer (some ⟨bN, 0, none⟩)]] 109)) (.cells #[.int .i64 v] 2)
  rw [z1] at kv
  have kr := (Below.heap_alloc (w.alloc (.cells #[.int .i64 s0, .int .i64 s1, .slice A2 n2 k2, .slice A3 n3 k3, .int .i64 r0, .int .i64 r1, .slice B2 m2 j2, .slice B3 m3 j3, .func (.func 73) #[] #[.pointer (some ⟨bN, 0, none⟩)]] 109)) (.cells #[.int .i64 v] 2) w.heap.size (by omega)).trans (heap_alloc_new w (.cells #[.int .i64 s0, .int .i64 s1, .slice A2 n2 k2, .slice A3 n3 k3, .int .i64 r0, .int .i64 r1, .slice B2 m2 j2, .slice B3 m3 j3, .func (.func 73) #[] #[.pointer (some ⟨bN, 0, none⟩)]] 109))
  have q1 := hide (weakly_calls r0 r1 B2 m2 j2 B3 m3 j3 y lab lp ep ((w.alloc (.cells #[.int .i64 s0, .int .i64 s1, .slice A2 n2 k2, .slice A3 n3 k3, .int .i64 r0, .int .i64 r1, .slice B2 m2 j2, .slice B3 m3 j3, .func (.func 73) #[] #[.pointer (some ⟨bN, 0, none⟩)]] 109)).alloc (.cells #[.int .i64 v] 2)) 0 K0 (hD.u2.below hb2 (.inr (Nat.le_refl _))) (hD.u3.below hb2 (.inr (Nat.le_refl _))) hD.hfs hD.hp)
  have hp := hD.hp
  have q2 := hide fun (A : Option Addr) (n c : Nat) (R : List Int) (W : World) (lo5 hi5 : Nat) (hW : Below w.heap.size w W) (hkr : W.heap[w.heap.size]? = some (.cells #[.int .i64 s0, .int .i64 s1, .slice A2 n2 k2, .slice A3 n3 k3, .int .i64 r0, .int .i64 r1, .slice B2 m2 j2, .slice B3 m3 j3, .func (.func 73) #[] #[.pointer (some ⟨bN, 0, none⟩)]] 109 (0, 0))) (hkv : W.heap[w.heap.size + 1]? = some (.cells #[.int .i64 v] 2 (0, 0))) (hS : SlI W lo5 hi5 A n R) (hn : n ≤ 1048576) (hR : ∀ u, u ∈ R ↔ stepW 2 ep lp y lab u) =>
    containsFuncM_calls 128 #[.pointer (some ⟨w.heap.size, 0, none⟩), .pointer (some ⟨w.heap.size + 1, 0, none⟩)] (fun u => decide ((v, u) ∈ S)) A n c _ W lo5 hi5 hS hn (fun u W => rfl) fun u hu W' hW' =>
      wek1_calls s0 s1 A2 n2 k2 A3 n3 k3 r0 r1 B2 m2 j2 B3 m3 j3 lt et lp ep w.heap.size (w.heap.size + 1) bN m S v u W' ((hW'.block _ (Array.getElem?_eq_some_iff.1 hkr).1).trans hkr) ((hW'.block _ (Array.getElem?_eq_some_iff.1 hkv).1).trans hkv) ((h.below hW).below hW') (by have := step_in hp hy ((hR u).1 hu); exact fit_of hv.1 hv.2 this.1 (by omega))
  have hres : Hid (∀ R : List Int, (∀ u, u ∈ R ↔ stepW 2 ep lp y lab u) → ((R.any fun u => decide ((v, u) ∈ S)) = true ↔ ∃ u, stepW 2 ep lp y lab u ∧ (v, u) ∈ S)) := fun R hR => by
    rw [List.any_eq_true]
    constructor
    · rintro ⟨u, h1, h2⟩
      exact ⟨u, (hR u).1 h1, of_decide_eq_true h2⟩
    · rintro ⟨u, h1, h2⟩
      exact ⟨u, (hR u).2 h1, decide_eq_true h2⟩
  have c4 := (cell_of_row _ _ 4 _ _ (0, 0) kr).trans (show _ = some (Value.int .i64 r0) from rfl)
  have c5 := (cell_of_row _ _ 5 _ _ (0, 0) kr).trans (show _ = some (Value.int .i64 r1) from rfl)
  have c6 := (cell_of_row _ _ 6 _ _ (0, 0) kr).trans (show _ = some (Value.slice B2 m2 j2) from rfl)
  have c7 := (cell_of_row _ _ 7 _ _ (0, 0) kr).trans (show _ = some (Value.slice B3 m3 j3) from rfl)
  replace kr := hide kr
  replace kv := hide kv
  have hb2' := hide hb2
  have z2' := hide z2
  clear h hD hp hb2 z1 z2
  go_enter Tryz.func109, Tryz.ntmps109
  go_wp2_with (first | (go_at_call 127; (with_reducible refine q1.out.mono ?_); rintro e w5 ⟨Af, nf, cf, R5, rfl, hs5, hn5, hm5, hb5⟩; have hbw := hb2'.out.trans (hb5.mono hb2'.out.size); have q3 := hide (q2.out Af nf cf R5 w5 _ _ hbw ((hb5.block _ (by have := z2'.out; omega)).trans kr.out) ((hb5.block _ (by have := z2'.out; omega)).trans kv.out) hs5 (by omega) hm5); have hr5 := hide (hres.out R5 hm5); replace hbw := hide hbw; clear hs5 hb5 hm5) | (go_at_call 82; (with_reducible refine q3.out.mono ?_); rintro e w6 ⟨rfl, hb6⟩; replace hb6 := hide hb6))
  go_ret
  exact ⟨_, rfl, hr5.out, hbw.out.trans (hb6.out.mono hbw.out.size)⟩

set_option maxRecDepth 100000 in
set_option maxHeartbeats 3200000 in
theorem answered_calls (s0 s1 : Int) (A2 : Option Addr) (n2 k2 : Nat) (A3 : Option Addr) (n3 k3 : Nat) (r0 r1 : Int) (B2 : Option Addr) (m2 j2 : Nat) (B3 : Option Addr) (m3 j3 : Nat) (lt : List ByteArray) (et : List Ed) (lp : List ByteArray) (ep : List Ed) (Fw : FuncId) (K0 bN m : Nat) (S : List PQ2) (K x y : Int) (w : World) (hD : SimD w K0 s0 s1 A2 n2 k2 A3 n3 k3 r0 r1 B2 m2 j2 B3 m3 j3 lt et lp ep) (hK0 : K0 ≤ w.heap.size) (h : NowAt w bN m S) (hr : s0 ≤ 40)
    (hF : ∀ (a b c d e : Value) (W : World), Sem.run Tryz.prog (callFunc Fw #[a, b, c, d, e]) W = .ok (.enter Fw #[a, b, c, d, e]) W)
    (hcl : ∀ (lab : ByteArray) (v : Int) (W : World), Below w.heap.size w W → 0 ≤ v ∧ v ≤ 1048576 → Calls Tryz.prog Fw #[(.agg #[.int .i64 s0, .int .i64 s1, .slice A2 n2 k2, .slice A3 n3 k3, .int .i64 r0, .int .i64 r1, .slice B2 m2 j2, .slice B3 m3 j3, .func (.func 73) #[] #[.pointer (some ⟨bN, 0, none⟩)]]), .int .i64 x, .int .i64 y, .string lab, .int .i64 v] W (AnsW K lp ep S y lab v W)) :
    Calls Tryz.prog 108 #[(.agg #[.int .i64 s0, .int .i64 s1, .slice A2 n2 k2, .slice A3 n3 k3, .int .i64 r0, .int .i64 r1, .slice B2 m2 j2, .slice B3 m3 j3, .func (.func 73) #[] #[.pointer (some ⟨bN, 0, none⟩)]]), .int .i64 x, .int .i64 y, .func (.func Fw) #[] #[]] w fun e w' => ∃ a : Bool, e = .returned (.bool a) ∧ (a = true ↔ simB K et lt ep lp (fun u v => (u, v) ∈ S) x y) ∧ Below w.heap.size w w' := by
  have hb0 : Below w.heap.size w (w.alloc (.cells #[.int .i64 s0, .int .i64 s1, .slice A2 n2 k2, .slice A3 n3 k3, .int .i64 r0, .int .i64 r1, .slice B2 m2 j2, .slice B3 m3 j3, .func (.func 73) #[] #[.pointer (some ⟨bN, 0, none⟩)]] 109)) := (Below.refl _ _).alloc (Nat.le_refl _) _
  have z0 : (w.alloc (.cells #[.int .i64 s0, .int .i64 s1, .slice A2 n2 k2, .slice A3 n3 k3, .int .i64 r0, .int .i64 r1, .slice B2 m2 j2, .slice B3 m3 j3, .func (.func 73) #[] #[.pointer (some ⟨bN, 0, none⟩)]] 109)).heap.size = w.heap.size + 1 := World.size_alloc _ _
  have kR := heap_alloc_new w (.cells #[.int .i64 s0, .int .i64 s1, .slice A2 n2 k2, .slice A3 n3 k3, .int .i64 r0, .int .i64 r1, .slice B2 m2 j2, .slice B3 m3 j3, .func (.func 73) #[] #[.pointer (some ⟨bN, 0, none⟩)]] 109)
  have hD0 := hD.below hb0 hK0
  have qo := hide (out_calls s0 s1 (.slice A2 n2 k2) A3 n3 k3 x et (w.alloc (.cells #[.int .i64 s0, .int .i64 s1, .slice A2 n2 k2, .slice A3 n3 k3, .int .i64 r0, .int .i64 r1, .slice B2 m2 j2, .slice B3 m3 j3, .func (.func 73) #[] #[.pointer (some ⟨bN, 0, none⟩)]] 109)) 0 K0 hD0.t3 hD.hes ⟨_, _, _, rfl⟩)
  have c0 := (cell_of_row _ _ 0 _ _ (0, 0) kR).trans (show _ = some (Value.int .i64 s0) from rfl)
  have c1 := (cell_of_row _ _ 1 _ _ (0, 0) kR).trans (show _ = some (Value.int .i64 s1) from rfl)
  have c2 := (cell_of_row _ _ 2 _ _ (0, 0) kR).trans (show _ = some (Value.slice A2 n2 k2) from rfl)
  have c3 := (cell_of_row _ _ 3 _ _ (0, 0) kR).trans (show _ = some (Value.slice A3 n3 k3) from rfl)
  have hkR : Hid ((w.alloc (.cells #[.int .i64 s0, .int .i64 s1, .slice A2 n2 k2, .slice A3 n3 k3, .int .i64 r0, .int .i64 r1, .slice B2 m2 j2, .slice B3 m3 j3, .func (.func 73) #[] #[.pointer (some ⟨bN, 0, none⟩)]] 109)).heap[w.heap.size]? = some (.cells #[.int .i64 s0, .int .i64 s1, .slice A2 n2 k2, .slice A3 n3 k3, .int .i64 r0, .int .i64 r1, .slice B2 m2 j2, .slice B3 m3 j3, .func (.func 73) #[] #[.pointer (some ⟨bN, 0, none⟩)]] 109 (0, 0))) := kR
  have hlab : Hid (∀ e ∈ outE et x, (0 ≤ e.2.1 ∧ e.2.1 < (n2 : Int)) ∧ (0 ≤ e.2.2 ∧ e.2.2 ≤ 1048576) ∧ lt[e.2.1.toNat]? = some (labE lt e)) := fun e he => by
    obtain ⟨f, lb, tg⟩ := e
    obtain ⟨j, hj⟩ := List.getElem?_of_mem (List.mem_filter.1 he).1
    have h1 := (edge_of hD.ht hj).2
    have h2 : lt.length = n2 := hD.t2.len
    dsimp only
    refine ⟨by omega, by omega, ?_⟩
    unfold labE
    dsimp only
    rw [List.getElem?_eq_getElem (by omega)]
    rfl
  have ht2 := hide hD.t2
  have hb0' := hide hb0
  replace hcl := hide hcl
  replace hD0 := hide hD0
  clear kR hb0 hD
  go_enter Tryz.func108, Tryz.ntmps108
  go_upto_region 1 with fail
  generalize (w.alloc (.cells #[.int .i64 s0, .int .i64 s1, .slice A2 n2 k2, .slice A3 n3 k3, .int .i64 r0, .int .i64 r1, .slice B2 m2 j2, .slice B3 m3 j3, .func (.func 73) #[] #[.pointer (some ⟨bN, 0, none⟩)]] 109)) = W0 at *
  go_upto_region 2 with (first | (go_at_call 104; (with_reducible refine qo.out.mono ?_); rintro e w1 ⟨Ao, no, co, rfl, ho, hno, hb1⟩))
  have hlen := hide ho.len
  have hz1 := hb1.size
  have hkR1 : Hid (w1.heap[w.heap.size]? = some (.cells #[.int .i64 s0, .int .i64 s1, .slice A2 n2 k2, .slice A3 n3 k3, .int .i64 r0, .int .i64 r1, .slice B2 m2 j2, .slice B3 m3 j3, .func (.func 73) #[] #[.pointer (some ⟨bN, 0, none⟩)]] 109 (0, 0))) := (hb1.block _ (by omega)).trans hkR.out
  have hb2 := hide (hb0'.out.trans (hb1.mono (by omega)))
  replace ho := hide ho
  clear c0 c1 c2 c3 hkR hb1 qo hD0
  go_loopg [16] no (fun g i wr => ∃ k : Nat, k ≤ no ∧ i = .int .i64 (k : Nat) ∧ Hid (∀ e ∈ (outE et x).take k, ∃ u, stepW K ep lp y (labE lt e) u ∧ (e.2.2, u) ∈ S) ∧ Below w1.heap.size w1 wr ∧ Hid (no - k ≤ g))
  case atStart => exact ⟨0, Nat.zero_le _, rfl, (fun e he => by cases he), Below.refl _ _, by show _ ≤ _; omega⟩
  case round =>
    obtain ⟨k, hk, rfl, hall, hb, hG⟩ := hrel
    have hz := hb.size
    by_cases hlt : k < no
    · obtain ⟨G2, rfl⟩ : ∃ G2, gk = G2 + 1 := ⟨gk - 1, by have := hG.out; omega⟩
      have hG2 : Hid (no - (k + 1) ≤ G2) := by have := hG.out; show _ ≤ _; omega
      obtain ⟨b5, o5, f, lb, tg, rfl, -, -, g5, hx, a0, a1, a2, -, -, -⟩ := SlE.get (ho.out.below hb (.inr (Nat.le_refl _))) hlt
      have hem := List.mem_of_getElem? hx
      obtain ⟨hl1, hl2, hl3⟩ := hlab.out _ hem
      have htk : (outE et x).take (k + 1) = (outE et x).take k ++ [(f, lb, tg)] := by rw [List.take_add_one, hx]; rfl
      dsimp only at hl1 hl2
      have hbE : Below wr.heap.size wr (wr.alloc (.cells #[.int .i64 f, .int .i64 lb, .int .i64 tg] 99)).drew := ((Below.refl _ _).alloc (Nat.le_refl _) _).drew
      have hzE : (wr.alloc (.cells #[.int .i64 f, .int .i64 lb, .int .i64 tg] 99)).heap.size = wr.heap.size + 1 := World.size_alloc _ _
      have kE := heap_alloc_new wr (.cells #[.int .i64 f, .int .i64 lb, .int .i64 tg] 99)
      have e1 : (wr.alloc (.cells #[.int .i64 f, .int .i64 lb, .int .i64 tg] 99)).cell? ⟨wr.heap.size, 1, none⟩ = some (.int .i64 lb) := (cell_of_row _ _ 1 _ _ (0, 0) kE).trans rfl
      have e2 : (wr.alloc (.cells #[.int .i64 f, .int .i64 lb, .int .i64 tg] 99)).cell? ⟨wr.heap.size, 2, none⟩ = some (.int .i64 tg) := (cell_of_row _ _ 2 _ _ (0, 0) kE).trans rfl
      have hbw := hb2.out.trans (hb.mono (by omega))
      have hbwE := hbw.trans (hbE.mono hbw.size)
      have kRE := (hbE.block w.heap.size (by omega)).trans ((hb.block _ (by omega)).trans hkR1.out)
      have y0 := (cell_of_row _ _ 0 _ _ (0, 0) kRE).trans (show _ = some (Value.int .i64 s0) from rfl)
      have y1 := (cell_of_row _ _ 1 _ _ (0, 0) kRE).trans (show _ = some (Value.int .i64 s1) from rfl)
      have y2 := (cell_of_row _ _ 2 _ _ (0, 0) kRE).trans (show _ = some (Value.slice A2 n2 k2) from rfl)
      have y3 := (cell_of_row _ _ 3 _ _ (0, 0) kRE).trans (show _ = some (Value.slice A3 n3 k3) from rfl)
      have y4 := (cell_of_row _ _ 4 _ _ (0, 0) kRE).trans (show _ = some (Value.int .i64 r0) from rfl)
      have y5 := (cell_of_row _ _ 5 _ _ (0, 0) kRE).trans (show _ = some (Value.int .i64 r1) from rfl)
      have y6 := (cell_of_row _ _ 6 _ _ (0, 0) kRE).trans (show _ = some (Value.slice B2 m2 j2) from rfl)
      have y7 := (cell_of_row _ _ 7 _ _ (0, 0) kRE).trans (show _ = some (Value.slice B3 m3 j3) from rfl)
      have y8 := (cell_of_row _ _ 8 _ _ (0, 0) kRE).trans (show _ = some (.func (.func 73) #[] #[.pointer (some ⟨bN, 0, none⟩)]) from rfl)
      obtain ⟨b6, o6, r6, eA, -, -, g6, hr6, p6, -⟩ := SlS.get (ht2.out.below hbwE (.inl hK0)) (show lb.toNat < n2 by omega)
      rw [hl3] at hr6
      obtain rfl := Option.some.inj hr6
      generalize hlabe : labE lt (f, lb, tg) = lab at *
      have q := hide (hcl.out lab tg (wr.alloc (.cells #[.int .i64 f, .int .i64 lb, .int .i64 tg] 99)).drew hbwE hl2)
      have hl0 : (0 : Int) ≤ lb := hl1.1
      have hl9 : lb < (n2 : Int) := hl1.2
      have hI0 : (0 : Int) ≤ (k : Int) := by omega
      have hI1 : (k : Int) < (no : Int) := by omega
      have hbE' := hide (hb.trans (hbE.mono hz))
      have hwE : w.heap.size < (wr.alloc (.cells #[.int .i64 f, .int .i64 lb, .int .i64 tg] 99)).heap.size := by omega
      have hrE : wr.heap.size < (wr.alloc (.cells #[.int .i64 f, .int .i64 lb, .int .i64 tg] 99)).heap.size := by omega
      have hx' := hide hx
      have hem' := hide hem
      subst eA
      clear kE hbE hbw kRE hr6 hl3 hx hem hb
      go_upto_region 4 with fail
      clear a0 a1 a2
      generalize (wr.alloc (.cells #[.int .i64 f, .int .i64 lb, .int .i64 tg] 99)) = WE at *
      go_cut [34] (fun s wx => ∃ a : Bool, s = .bool (!a) ∧ (a = true ↔ ∃ u, stepW K ep lp y lab u ∧ (tg, u) ∈ S) ∧ Below WE.heap.size WE wx)
      case first =>
        go_region_held3 (fun w' => w'.cell? ⟨w.heap.size, 0, none⟩ = some (.int .i64 s0) ∧ w'.cell? ⟨w.heap.size, 1, none⟩ = some (.int .i64 s1) ∧ w'.cell? ⟨w.heap.size, 2, none⟩ = some (.slice (some ⟨b6, o6, none⟩) n2 k2) ∧ w'.cell? ⟨w.heap.size, 3, none⟩ = some (.slice A3 n3 k3) ∧ w'.cell? ⟨w.heap.size, 4, none⟩ = some (.int .i64 r0) ∧ w'.cell? ⟨w.heap.size, 5, none⟩ = some (.int .i64 r1) ∧ w'.cell? ⟨w.heap.size, 6, none⟩ = some (.slice B2 m2 j2) ∧ w'.cell? ⟨w.heap.size, 7, none⟩ = some (.slice B3 m3 j3) ∧ w'.cell? ⟨w.heap.size, 8, none⟩ = some (.func (.func 73) #[] #[.pointer (some ⟨bN, 0, none⟩)]) ∧ w'.cell? ⟨wr.heap.size, 1, none⟩ = some (.int .i64 lb) ∧ w'.cell? ⟨wr.heap.size, 2, none⟩ = some (.int .i64 tg) ∧ w'.cell? ⟨b6, o6 + lb.toNat, none⟩ = some (.string lab))
          (first | exact ⟨y0, y1, y2, y3, y4, y5, y6, y7, y8, e1, e2, p6⟩ | exact ⟨v0, v1, v2, v3, v4, v5, v6, v7, v8, v9, v10, v11⟩ | go_keep)
          (first | ((with_reducible refine q.out.mono ?_); rintro e w5 ⟨a5, rfl, ha5, hb5⟩; have v0 := (hb5.cell (p := ⟨w.heap.size, 0, none⟩) hwE).trans y0; have v1 := (hb5.cell (p := ⟨w.heap.size, 1, none⟩) hwE).trans y1; have v2 := (hb5.cell (p := ⟨w.heap.size, 2, none⟩) hwE).trans y2; have v3 := (hb5.cell (p := ⟨w.heap.size, 3, none⟩) hwE).trans y3; have v4 := (hb5.cell (p := ⟨w.heap.size, 4, none⟩) hwE).trans y4; have v5 := (hb5.cell (p := ⟨w.heap.size, 5, none⟩) hwE).trans y5; have v6 := (hb5.cell (p := ⟨w.heap.size, 6, none⟩) hwE).trans y6; have v7 := (hb5.cell (p := ⟨w.heap.size, 7, none⟩) hwE).trans y7; have v8 := (hb5.cell (p := ⟨w.heap.size, 8, none⟩) hwE).trans y8; have v9 := (hb5.cell (p := ⟨wr.heap.size, 1, none⟩) hrE).trans e1; have v10 := (hb5.cell (p := ⟨wr.heap.size, 2, none⟩) hrE).trans e2; have v11 := (hb5.cell (p := ⟨b6, o6 + lb.toNat, none⟩) g6).trans p6; replace ha5 := hide ha5; replace hb5 := hide hb5))
        all_goals (go_wp2_with fail; go_meet)
        all_goals exact ⟨a5, rfl, ha5.out, ⟨hb5.out.os, hb5.out.tape, hb5.out.output, hb5.out.size, hb5.out.block⟩⟩
      case rest =>
      obtain ⟨a5, rfl, ha5, hb5⟩ := hcut
      generalize wc = w5 at *
      have hb6 := hide (hbE'.out.trans (⟨hb5.os, hb5.tape, hb5.output, Nat.le_trans (Nat.le_trans hz (Nat.le_of_lt hrE)) hb5.size |> fun h => (by exact hb5.size : WE.heap.size ≤ w5.heap.size), fun b hb' => hb5.block b (by omega)⟩ : Below w1.heap.size WE.drew w5))
      clear q e1 e2 p6 y0 y1 y2 y3 y4 y5 y6 y7 y8 hb5
      cases a5 with
      | false =>
        have hno' : Hid (¬ simB K et lt ep lp (fun u v => (u, v) ∈ S) x y) := fun h1 => by
          obtain ⟨u, h2, h3⟩ := h1 _ hem'.out
          rw [hlabe] at h2
          have := ha5.2 ⟨u, h2, h3⟩
          cases this
        have hbF := hide (hb2.out.trans (hb6.out.mono (by omega)))
        clear ha5
        go_wp2_with fail
        go_ret
        exact ⟨false, rfl, ⟨fun h => (by cases h), fun h => absurd h hno'.out⟩, hbF.out⟩
      | true =>
        have hall' : Hid (∀ e ∈ (outE et x).take (k + 1), ∃ u, stepW K ep lp y (labE lt e) u ∧ (e.2.2, u) ∈ S) := fun e he => by
          rw [htk] at he
          rcases List.mem_append.1 he with he | he
          · exact hall.out e he
          · rw [List.mem_singleton.1 he, hlabe]
            exact ha5.1 rfl
        clear ha5 hall htk
        go_wp2_with fail
        go_roundg G2
        case measure => omega
        case rel => exact ⟨k + 1, by omega, by go_num, hall', hb6.out, hG2⟩
    · have hkn : k = no := by omega
      subst hkn
      have htake : (outE et x).take k = outE et x := List.take_of_length_le (by rw [hlen.out]; exact Nat.le_refl _)
      rw [htake] at hall
      have hbF := hide (hb2.out.trans (hb.mono (by omega)))
      have hyes : Hid (simB K et lt ep lp (fun u v => (u, v) ∈ S) x y) := hall.out
      go_wp2_with fail
      go_ret
      exact ⟨true, rfl, ⟨fun _ => hyes.out, fun _ => rfl⟩, hbF.out⟩

end Go.Proofs.YthlaoedpjloloaaGreatDoor
