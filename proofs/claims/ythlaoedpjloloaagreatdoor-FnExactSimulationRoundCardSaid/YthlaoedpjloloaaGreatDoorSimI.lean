/-
  Whether the edges of a pair are answered within a set of pairs, by the program. Conditions: sizes.
-/
import Derived.Test.YthlaoedpjloloaaGreatDoorBaseF
import Derived.Test.YthlaoedpjloloaaGreatDoorBaseH
import Derived.Deep.RegionLaw
import Derived.Laws.EntriesVeiled
namespace Go.Proofs.YthlaoedpjloloaaGreatDoor
open Go.ChangeShapes Go.WideShapes Go.ChangeAt Go.RowKit Go.Sort
set_option linter.unusedVariables false
set_option linter.unusedSimpArgs false

/-- Two systems lie below K. -/
structure SimD (w : World) (K : Nat) (s0 s1 : Int) (A2 : Option Addr) (n2 k2 : Nat) (A3 : Option Addr) (n3 k3 : Nat) (r0 r1 : Int) (B2 : Option Addr) (m2 j2 : Nat) (B3 : Option Addr) (m3 j3 : Nat) (lt : List ByteArray) (et : List Ed) (lp : List ByteArray) (ep : List Ed) : Prop where
  t2 : SlS w 0 K A2 n2 lt
  t3 : SlE w 0 K A3 n3 et
  u2 : SlS w 0 K B2 m2 lp
  u3 : SlE w 0 K B3 m3 ep
  hes : n3 ≤ 1048576
  hfs : m3 ≤ 1048576
  ht : ltsV (s0, s1, lt, et) = true
  hp : ltsV (r0, r1, lp, ep) = true
theorem SimD.below {w w' : World} {K B : Nat} {s0 s1 : Int} {A2 : Option Addr} {n2 k2 : Nat} {A3 : Option Addr} {n3 k3 : Nat} {r0 r1 : Int} {B2 : Option Addr} {m2 j2 : Nat} {B3 : Option Addr} {m3 j3 : Nat} {lt : List ByteArray} {et : List Ed} {lp : List ByteArray} {ep : List Ed}
    (h : SimD w K s0 s1 A2 n2 k2 A3 n3 k3 r0 r1 B2 m2 j2 B3 m3 j3 lt et lp ep) (hb : Below B w w') (hK : K ≤ B) : SimD w' K s0 s1 A2 n2 k2 A3 n3 k3 r0 r1 B2 m2 j2 B3 m3 j3 lt et lp ep :=
  ⟨h.t2.below hb (.inl hK), h.t3.below hb (.inl hK), h.u2.below hb (.inl hK), h.u3.below hb (.inl hK), h.hes, h.hfs, h.ht, h.hp⟩
/-- The set of pairs as the program's variable holds it. -/
structure NowAt (w : World) (bN m : Nat) (S : List PQ2) : Prop where
  kN : w.heap[bN]? = some (.cells #[.map (some m)] 76 (0, 0))
  set : PSet w m S
theorem NowAt.below {w w' : World} {bN m : Nat} {S : List PQ2} (h : NowAt w bN m S) (hb : Below w.heap.size w w') : NowAt w' bN m S := ⟨(hb.block _ (Array.getElem?_eq_some_iff.1 h.kN).1).trans h.kN, h.set.below hb⟩

set_option maxRecDepth 100000 in
set_option maxHeartbeats 800000 in
theorem sim1_calls (bN m : Nat) (S : List PQ2) (x y : Int) (w : World) (h : NowAt w bN m S) (hq : fitP (x, y)) :
    Calls Tryz.prog 73 #[.int .i64 x, .int .i64 y, .pointer (some ⟨bN, 0, none⟩)] w (Says (decide ((x, y) ∈ S)) w) := by
  have c0 : w.cell? ⟨bN, 0, none⟩ = some (.map (some m)) := (cell_of_row _ _ 0 _ _ (0, 0) h.kN).trans rfl
  have hl : (Instr.lookup 76 (.map (some m)) (.agg #[.int .i64 x, .int .i64 y]) false).run Tryz.prog w = .ok (.bool (decide ((x, y) ∈ S))) w := h.set.look hq
  clear h
  go_enter Tryz.func73, Tryz.ntmps73
  go_wp2_with fail
  go_ret
  exact ⟨rfl, Below.refl _ _⟩

set_option maxRecDepth 100000 in
set_option maxHeartbeats 800000 in
theorem str1_calls (s0 s1 : Int) (A2 : Option Addr) (n2 k2 : Nat) (A3 : Option Addr) (n3 k3 : Nat) (r0 r1 : Int) (B2 : Option Addr) (m2 j2 : Nat) (B3 : Option Addr) (m3 j3 : Nat) (lt : List ByteArray) (et : List Ed) (lp : List ByteArray) (ep : List Ed) (br bv bN m : Nat) (S : List PQ2) (v x : Int) (w : World) (kr : w.heap[br]? = some (.cells #[.int .i64 s0, .int .i64 s1, .slice A2 n2 k2, .slice A3 n3 k3, .int .i64 r0, .int .i64 r1, .slice B2 m2 j2, .slice B3 m3 j3, .func (.func 73) #[] #[.pointer (some ⟨bN, 0, none⟩)]] 109 (0, 0))) (kv : w.heap[bv]? = some (.cells #[.int .i64 v] 2 (0, 0))) (h : NowAt w bN m S) (hq : fitP (v, x)) :
    Calls Tryz.prog 129 #[.int .i64 x, .pointer (some ⟨br, 0, none⟩), .pointer (some ⟨bv, 0, none⟩)] w (Says (decide ((v, x) ∈ S)) w) := by
  have c8 : w.cell? ⟨br, 8, none⟩ = some (.func (.func 73) #[] #[.pointer (some ⟨bN, 0, none⟩)]) := (cell_of_row _ _ 8 _ _ (0, 0) kr).trans rfl
  have cv : w.cell? ⟨bv, 0, none⟩ = some (.int .i64 v) := (cell_of_row _ _ 0 _ _ (0, 0) kv).trans rfl
  have q := hide (sim1_calls bN m S v x w h hq)
  clear h kr kv
  go_enter Tryz.func129, Tryz.ntmps129
  go_wp2_with (first | (go_at_call 73; (with_reducible refine q.out.mono ?_); rintro e w5 ⟨rfl, hb5⟩))
  go_ret
  exact ⟨rfl, hb5⟩
set_option maxRecDepth 100000 in
set_option maxHeartbeats 800000 in
theorem wek1_calls (s0 s1 : Int) (A2 : Option Addr) (n2 k2 : Nat) (A3 : Option Addr) (n3 k3 : Nat) (r0 r1 : Int) (B2 : Option Addr) (m2 j2 : Nat) (B3 : Option Addr) (m3 j3 : Nat) (lt : List ByteArray) (et : List Ed) (lp : List ByteArray) (ep : List Ed) (br bv bN m : Nat) (S : List PQ2) (v x : Int) (w : World) (kr : w.heap[br]? = some (.cells #[.int .i64 s0, .int .i64 s1, .slice A2 n2 k2, .slice A3 n3 k3, .int .i64 r0, .int .i64 r1, .slice B2 m2 j2, .slice B3 m3 j3, .func (.func 73) #[] #[.pointer (some ⟨bN, 0, none⟩)]] 109 (0, 0))) (kv : w.heap[bv]? = some (.cells #[.int .i64 v] 2 (0, 0))) (h : NowAt w bN m S) (hq : fitP (v, x)) :
    Calls Tryz.prog 128 #[.int .i64 x, .pointer (some ⟨br, 0, none⟩), .pointer (some ⟨bv, 0, none⟩)] w (Says (decide ((v, x) ∈ S)) w) := by
  have c8 : w.cell? ⟨br, 8, none⟩ = some (.func (.func 73) #[] #[.pointer (some ⟨bN, 0, none⟩)]) := (cell_of_row _ _ 8 _ _ (0, 0) kr).trans rfl
  have cv : w.cell? ⟨bv, 0, none⟩ = some (.int .i64 v) := (cell_of_row _ _ 0 _ _ (0, 0) kv).trans rfl
  have q := hide (sim1_calls bN m S v x w h hq)
  clear h kr kv
  go_enter Tryz.func128, Tryz.ntmps128
  go_wp2_with (first | (go_at_call 73; (with_reducible refine q.out.mono ?_); rintro e w5 ⟨rfl, hb5⟩))
  go_ret
  exact ⟨rfl, hb5⟩

/-- A way to answer says whether an edge to v is answered. -/
def AnsW (K : Int) (lp : List ByteArray) (ep : List Ed) (S : List PQ2) (y : Int) (lab : ByteArray) (v : Int) (w : World) (e : Ending) (w' : World) : Prop :=
  ∃ a : Bool, e = .returned (.bool a) ∧ (a = true ↔ ∃ u, stepW K ep lp y lab u ∧ (v, u) ∈ S) ∧ Below w.heap.size w w'
set_option maxRecDepth 100000 in
set_option maxHeartbeats 1600000 in
theorem strongly_calls (s0 s1 : Int) (A2 : Option Addr) (n2 k2 : Nat) (A3 : Option Addr) (n3 k3 : Nat) (r0 r1 : Int) (B2 : Option Addr) (m2 j2 : Nat) (B3 : Option Addr) (m3 j3 : Nat) (lt : List ByteArray) (et : List Ed) (lp : List ByteArray) (ep : List Ed) (K0 bN m : Nat) (S : List PQ2) (K x y v : Int) (lab : ByteArray) (w : World) (hD : SimD w K0 s0 s1 A2 n2 k2 A3 n3 k3 r0 r1 B2 m2 j2 B3 m3 j3 lt et lp ep) (h : NowAt w bN m S) (hK : K ≠ 2) (hy : 0 ≤ y ∧ y < r0) (hv : 0 ≤ v ∧ v ≤ 1048576) (hr : r0 ≤ 40) :
    Calls Tryz.prog 110 #[(.agg #[.int .i64 s0, .int .i64 s1, .slice A2 n2 k2, .slice A3 n3 k3, .int .i64 r0, .int .i64 r1, .slice B2 m2 j2, .slice B3 m3 j3, .func (.func 73) #[] #[.pointer (some ⟨bN, 0, none⟩)]]), .int .i64 x, .int .i64 y, .string lab, .int .i64 v] w (AnsW K lp ep S y lab v w) := by
  have z1 : (w.alloc (.cells #[.int .i64 s0, .int .i64 s1, .slice A2 n2 k2, .slice A3 n3 k3, .int .i64 r0, .int .i64 r1, .slice B2 m2 j2, .slice B3 m3 j3, .func (.func 73) #[] #[.pointer (some ⟨bN, 0, none⟩)]] 109)).heap.size = w.heap.size + 1 := World.size_alloc _ _
  have z2 : ((w.alloc (.cells #[.int .i64 s0, .int .i64 s1, .slice A2 n2 k2, .slice A3 n3 k3, .int .i64 r0, .int .i64 r1, .slice B2 m2 j2, .slice B3 m3 j3, .func (.func 73) #[] #[.pointer (some ⟨bN, 0, none⟩)]] 109)).alloc (.cells #[.int .i64 v] 2)).heap.size = w.heap.size + 1 + 1 := by rw [World.size_alloc, z1]
  have z3 : (((w.alloc (.cells #[.int .i64 s0, .int .i64 s1, .slice A2 n2 k2, .slice A3 n3 k3, .int .i64 r0, .int .i64 r1, .slice B2 m2 j2, .slice B3 m3 j3, .func (.func 73) #[] #[.pointer (some ⟨bN, 0, none⟩)]] 109)).alloc (.cells #[.int .i64 v] 2)).alloc (.cells #[.int .i64 y] 2)).heap.size = w.heap.size + 1 + 1 + 1 := by rw [World.size_alloc, z2]
  have hb2 : Below w.heap.size w ((w.alloc (.cells #[.int .i64 s0, .int .i64 s1, .slice A2 n2 k2, .slice A3 n3 k3, .int .i64 r0, .int .i64 r1, .slice B2 m2 j2, .slice B3 m3 j3, .func (.func 73) #[] #[.pointer (some ⟨bN, 0, none⟩)]] 109)).alloc (.cells #[.int .i64 v] 2)) := ((Below.refl _ _).alloc (Nat.le_refl _) _).alloc (by omega) _
  have hb3 : Below w.heap.size w (((w.alloc (.cells #[.int .i64 s0, .int .i64 s1, .slice A2 n2 k2, .slice A3 n3 k3, .int .i64 r0, .int .i64 r1, .slice B2 m2 j2, .slice B3 m3 j3, .func (.func 73) #[] #[.pointer (some ⟨bN, 0, none⟩)]] 109)).alloc (.cells #[.int .i64 v] 2)).alloc (.cells #[.int .i64 y] 2)) := hb2.alloc (by omega) _
  have kv := heap_alloc_new (w.alloc (.cells #[.int .i64 s0, .int .i64 s1, .slice A2 n2 k2, .slice A3 n3 k3, .int .i64 r0, .int .i64 r1, .slice B2 m2 j2, .slice B3 m3 j3, .func (.func 73) #[] #[.pointer (some ⟨bN, 0, none⟩)]] 109)) (.cells #[.int .i64 v] 2)
  rw [z1] at kv
  have kr := (Below.heap_alloc (w.alloc (.cells #[.int .i64 s0, .int .i64 s1, .slice A2 n2 k2, .slice A3 n3 k3, .int .i64 r0, .int .i64 r1, .slice B2 m2 j2, .slice B3 m3 j3, .func (.func 73) #[] #[.pointer (some ⟨bN, 0, none⟩)]] 109)) (.cells #[.int .i64 v] 2) w.heap.size (by omega)).trans (heap_alloc_new w (.cells #[.int .i64 s0, .int .i64 s1, .slice A2 n2 k2, .slice A3 n3 k3, .int .i64 r0, .int .i64 r1, .slice B2 m2 j2, .slice B3 m3 j3, .func (.func 73) #[] #[.pointer (some ⟨bN, 0, none⟩)]] 109))
  have hAl := Below.refl (((w.alloc (.cells #[.int .i64 s0, .int .i64 s1, .slice A2 n2 k2, .slice A3 n3 k3, .int .i64 r0, .int .i64 r1, .slice B2 m2 j2, .slice B3 m3 j3, .func (.func 73) #[] #[.pointer (some ⟨bN, 0, none⟩)]] 109)).alloc (.cells #[.int .i64 v] 2)).heap.size) ((w.alloc (.cells #[.int .i64 s0, .int .i64 s1, .slice A2 n2 k2, .slice A3 n3 k3, .int .i64 r0, .int .i64 r1, .slice B2 m2 j2, .slice B3 m3 j3, .func (.func 73) #[] #[.pointer (some ⟨bN, 0, none⟩)]] 109)).alloc (.cells #[.int .i64 v] 2))
  have hA3 : Below ((w.alloc (.cells #[.int .i64 s0, .int .i64 s1, .slice A2 n2 k2, .slice A3 n3 k3, .int .i64 r0, .int .i64 r1, .slice B2 m2 j2, .slice B3 m3 j3, .func (.func 73) #[] #[.pointer (some ⟨bN, 0, none⟩)]] 109)).alloc (.cells #[.int .i64 v] 2)).heap.size ((w.alloc (.cells #[.int .i64 s0, .int .i64 s1, .slice A2 n2 k2, .slice A3 n3 k3, .int .i64 r0, .int .i64 r1, .slice B2 m2 j2, .slice B3 m3 j3, .func (.func 73) #[] #[.pointer (some ⟨bN, 0, none⟩)]] 109)).alloc (.cells #[.int .i64 v] 2)) (((w.alloc (.cells #[.int .i64 s0, .int .i64 s1, .slice A2 n2 k2, .slice A3 n3 k3, .int .i64 r0, .int .i64 r1, .slice B2 m2 j2, .slice B3 m3 j3, .func (.func 73) #[] #[.pointer (some ⟨bN, 0, none⟩)]] 109)).alloc (.cells #[.int .i64 v] 2)).alloc (.cells #[.int .i64 y] 2)) := hAl.alloc (Nat.le_refl _) _
  have q1 := hide (followS_calls r0 r1 B2 m2 j2 B3 m3 j3 (some ⟨w.heap.size + 1 + 1, 0, none⟩) 1 1 [y] lab lp ep (((w.alloc (.cells #[.int .i64 s0, .int .i64 s1, .slice A2 n2 k2, .slice A3 n3 k3, .int .i64 r0, .int .i64 r1, .slice B2 m2 j2, .slice B3 m3 j3, .func (.func 73) #[] #[.pointer (some ⟨bN, 0, none⟩)]] 109)).alloc (.cells #[.int .i64 v] 2)).alloc (.cells #[.int .i64 y] 2)) 0 K0 0 (w.heap.size + 1 + 1 + 1) (hD.u2.below hb3 (.inr (Nat.le_refl _))) (hD.u3.below hb3 (.inr (Nat.le_refl _))) (Sl.lit1' _ 2 y _ rfl 1 _ z2.symm) (by omega) hD.hfs hD.hp)
  have hstep : ∀ u, u ∈ folV ep lp lab [y] ↔ stepW K ep lp y lab u := fun u => by
    rw [folV_mem]
    unfold stepW
    rw [if_neg hK]
    constructor
    · rintro ⟨e, h1, h2, h3, h4⟩
      exact ⟨e, h1, List.mem_singleton.1 h2, h3, h4⟩
    · rintro ⟨e, h1, h2, h3, h4⟩
      exact ⟨e, h1, List.mem_singleton.2 h2, h3, h4⟩
  have hp := hD.hp
  have q2 := hide fun (A : Option Addr) (n c : Nat) (W : World) (lo5 hi5 : Nat) (hW : Below w.heap.size w W) (hkr : W.heap[w.heap.size]? = some (.cells #[.int .i64 s0, .int .i64 s1, .slice A2 n2 k2, .slice A3 n3 k3, .int .i64 r0, .int .i64 r1, .slice B2 m2 j2, .slice B3 m3 j3, .func (.func 73) #[] #[.pointer (some ⟨bN, 0, none⟩)]] 109 (0, 0))) (hkv : W.heap[w.heap.size + 1]? = some (.cells #[.int .i64 v] 2 (0, 0))) (hS : SlI W lo5 hi5 A n (folV ep lp lab [y])) (hn : n ≤ 1048576) =>
    containsFuncM_calls 129 #[.pointer (some ⟨w.heap.size, 0, none⟩), .pointer (some ⟨w.heap.size + 1, 0, none⟩)] (fun u => decide ((v, u) ∈ S)) A n c _ W lo5 hi5 hS hn (fun u W => rfl) fun u hu W' hW' =>
      str1_calls s0 s1 A2 n2 k2 A3 n3 k3 r0 r1 B2 m2 j2 B3 m3 j3 lt et lp ep w.heap.size (w.heap.size + 1) bN m S v u W' ((hW'.block _ (Array.getElem?_eq_some_iff.1 hkr).1).trans hkr) ((hW'.block _ (Array.getElem?_eq_some_iff.1 hkv).1).trans hkv) ((h.below hW).below hW') (by have := step_in hp hy ((hstep u).1 hu); exact fit_of hv.1 hv.2 this.1 (by omega))
  have hres : Hid (((folV ep lp lab [y]).any fun u => decide ((v, u) ∈ S)) = true ↔ ∃ u, stepW K ep lp y lab u ∧ (v, u) ∈ S) := by
    show _ ↔ _
    rw [List.any_eq_true]
    constructor
    · rintro ⟨u, h1, h2⟩
      exact ⟨u, (hstep u).1 h1, of_decide_eq_true h2⟩
    · rintro ⟨u, h1, h2⟩
      exact ⟨u, (hstep u).2 h1, decide_eq_true h2⟩
  have hlen := folV_len ep lp lab [y]
  have hep : ep.length ≤ 1048576 := by rw [hD.u3.len]; exact hD.hfs
  have c4 := (cell_of_row _ _ 4 _ _ (0, 0) kr).trans (show _ = some (Value.int .i64 r0) from rfl)
  have c5 := (cell_of_row _ _ 5 _ _ (0, 0) kr).trans (show _ = some (Value.int .i64 r1) from rfl)
  have c6 := (cell_of_row _ _ 6 _ _ (0, 0) kr).trans (show _ = some (Value.slice B2 m2 j2) from rfl)
  have c7 := (cell_of_row _ _ 7 _ _ (0, 0) kr).trans (show _ = some (Value.slice B3 m3 j3) from rfl)
  replace kr := hide kr
  replace kv := hide kv
  have hb3' := hide hb3
  have hA3' := hide hA3
  have z2' := hide z2
  clear h hD hstep hp hb2 hb3 hAl hA3 z1 z3
  go_enter Tryz.func110, Tryz.ntmps110
  go_wp2_with (first | (go_at_call 118; (with_reducible refine q1.out.mono ?_); rintro e w5 ⟨Af, nf, cf, rfl, hof, hb5⟩; have hbw := hb3'.out.trans (hb5.mono hb3'.out.size); have hA5 := hA3'.out.trans (hb5.mono hA3'.out.size); have hnf := hof.len; have q3 := hide (q2.out Af nf cf w5 _ _ hbw ((hA5.block _ (by have := z2'.out; omega)).trans kr.out) ((hA5.block _ (by have := z2'.out; omega)).trans kv.out) (hof.sl flat_iv) (by omega)); replace hbw := hide hbw; clear hof hb5 hA5) | (go_at_call 82; (with_reducible refine q3.out.mono ?_); rintro e w6 ⟨rfl, hb6⟩; replace hb6 := hide hb6))
  go_ret
  exact ⟨_, rfl, hres.out, hbw.out.trans (hb6.out.mono hbw.out.size)⟩

end Go.Proofs.YthlaoedpjloloaaGreatDoor
