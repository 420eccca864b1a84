/-
  Lemmas that the law of this claim leans on. Conditions: sizes.
-/
import Derived.Test.YtnhomkmfbngmgaaGreatDoorBaseC
import Derived.Test.YtnhomkmfbngmgaaGreatDoorBaseF
import Derived.Test.YtnhomkmfbngmgaaGreatDoorBaseG
import Derived.Test.YtnhomkmfbngmgaaGreatDoorBaseI
import Derived.Test.YtnhomkmfbngmgaaGreatDoorBaseK
import Derived.Carry
import Derived.Deep.DeepCutAuto
import Derived.Deep.RegionLaw
set_option maxHeartbeats 12800000
set_option maxRecDepth 100000
set_option linter.unusedSimpArgs false
set_option linter.unusedVariables false
namespace Go.Proofs.YtnhomkmfbngmgaaGreatDoor
open Go.ChangeShapes Go.WideShapes Go.ChangeAt Go.RowKit
theorem nd_idx {α : Type} {l : List α} (h : l.Nodup) {i j : Nat} {x : α} (hi : l[i]? = some x) (hj : l[j]? = some x) : i = j := by
 obtain ⟨l1, e1⟩ := List.getElem?_eq_some_iff.1 hi;obtain ⟨l2, e2⟩ := List.getElem?_eq_some_iff.1 hj;have h2 := List.pairwise_iff_getElem.1 h
 rcases Nat.lt_trichotomy i j with g | g | g
 ·exact absurd (e1.trans e2.symm) (h2 i j l1 l2 g)
 ·exact g
 ·exact absurd (e2.trans e1.symm) (h2 j i l2 l1 g)
section
variable {w0 wr w' : World} {bl bf bn bt bm : Nat} {B : Option Addr} {m d : Nat} {L : List Lk} {A : Option Addr} {n c : Nat} {T T' S : List (Int × Int)} {k j : Nat} {f : Int × Int → Option Int} {a b : Int}
theorem ProW.sort (h : ProW w0 wr bl bn bt bm B m d L A n c T k f) (hg : wr.grownBy w' (Value.slice A n c).ownBlock) (ho : Own 2 tv w' w0.heap.size 192 A n c T') : ProW w0 w' bl bn bt bm B m d L A n c T' k f := by
 have key : ∀ {q : Nat} {cur : Array Value} {e : TypeId}, wr.heap[q]? = some (.cells cur e (0, 0)) → e ≠ 192 → w'.heap[q]? = some (.cells cur e (0, 0)) := fun hq he => (hg.block _ (blk_lt hq) (h.todo.otherK hq he)).trans hq
 obtain ⟨es, clock, hmap⟩ := h.num.map;have hmb : some bm ≠ (Value.slice A n c).ownBlock := fun e => by
  obtain ⟨-, -, cur, h1⟩ := h.todo.typedK e.symm;exact map_ne h1 hmap rfl
 have hl : Own 5 lkv w' w0.heap.size 196 B m d L := h.links.keep fun q hq => by
  obtain ⟨-, h2, cur, h3⟩ := h.links.typedK hq;exact hg.block q h2 (h.todo.otherK h3 (by decide))
 exact ⟨hl, ho, h.num.kept hg hmb, key h.kl (by decide), key h.kt (by decide), key h.kn (by decide), h.nl, h.nt, h.nm, h.bel.grown hg h.bel.size fun q e => (h.todo.lt q e).1⟩
def PNum (w0 wr : World) (bl bf bn bt bm : Nat) (a b : Int) (B : Option Addr) (m d : Nat) (L : List Lk) (A : Option Addr) (n c : Nat) (S : List (Int × Int)) (j : Nat) : Prop :=
 ∃ (k : Nat) (f : Int × Int → Option Int), ProW w0 wr bl bn bt bm B m d L A n c S k f ∧ k ≤ m + 1 + j ∧ (∀ (i : Nat) (p : Int × Int), i < j → S[i]? = some p → f p = some (i : Int)) ∧ wr.heap[bf]? = some (.cells #[.int .i64 a, .int .i64 b] 192 (0, 0))
theorem PNum.bel (h : PNum w0 wr bl bf bn bt bm a b B m d L A n c S j) : Below w0.heap.size w0 wr := by
 obtain ⟨k, f, h1, -⟩ := h;exact h1.bel
theorem PNum.links (h : PNum w0 wr bl bf bn bt bm a b B m d L A n c S j) : Own 5 lkv wr w0.heap.size 196 B m d L := by
 obtain ⟨k, f, h1, -⟩ := h;exact h1.links
theorem PNum.todo (h : PNum w0 wr bl bf bn bt bm a b B m d L A n c S j) : Own 2 tv wr w0.heap.size 192 A n c S := by
 obtain ⟨k, f, h1, -⟩ := h;exact h1.todo
theorem PNum.tcell (h : PNum w0 wr bl bf bn bt bm a b B m d L A n c S j) : wr.cell? ⟨bt, 0, none⟩ = some (.slice A n c) := by
 obtain ⟨k, f, h1, -⟩ := h;exact cR 0 h1.kt
theorem PNum.lcell (h : PNum w0 wr bl bf bn bt bm a b B m d L A n c S j) : wr.cell? ⟨bl, 0, none⟩ = some (.slice B m d) := by
 obtain ⟨k, f, h1, -⟩ := h;exact cR 0 h1.kl
theorem PNum.ncell (h : PNum w0 wr bl bf bn bt bm a b B m d L A n c S j) : wr.cell? ⟨bn, 0, none⟩ = some (.map (some bm)) := by
 obtain ⟨k, f, h1, -⟩ := h;exact cR 0 h1.kn
theorem PNum.fcells (h : PNum w0 wr bl bf bn bt bm a b B m d L A n c S j) : wr.cell? ⟨bf, 0, none⟩ = some (.int .i64 a) ∧ wr.cell? ⟨bf, 1, none⟩ = some (.int .i64 b) := by
 obtain ⟨k, f, h1, h2, h3, h4⟩ := h;exact ⟨cR 0 h4, cR 1 h4⟩
theorem PNum.below (h : PNum w0 wr bl bf bn bt bm a b B m d L A n c S j) (hb : Below wr.heap.size wr w') : PNum w0 w' bl bf bn bt bm a b B m d L A n c S j := by
 obtain ⟨k, f, h1, h2, h3, h4⟩ := h;exact ⟨k, f, h1.below hb, h2, h3, (hb.block bf (blk_lt h4)).trans h4⟩
theorem PNum.aside (h : PNum w0 wr bl bf bn bt bm a b B m d L A n c S j) {Q : Option Addr} {q cq : Nat} {R : List Arc} (ho : Own 3 av wr w0.heap.size 204 Q q cq R) (hg : wr.grownBy w' (Value.slice Q q cq).ownBlock) : PNum w0 w' bl bf bn bt bm a b B m d L A n c S j := by
 obtain ⟨k, f, h1, h2, h3, h4⟩ := h;have key : ∀ {q : Nat} {cur : Array Value} {e : TypeId}, wr.heap[q]? = some (.cells cur e (0, 0)) → e ≠ 204 → w'.heap[q]? = some (.cells cur e (0, 0)) := fun hq he => (hg.block _ (blk_lt hq) (ho.otherK hq he)).trans hq
 obtain ⟨es, clock, hmap⟩ := h1.num.map;have hmb : some bm ≠ (Value.slice Q q cq).ownBlock := fun e => by
  obtain ⟨-, -, cur, h5⟩ := ho.typedK e.symm;exact map_ne h5 hmap rfl
 refine ⟨k, f, ⟨h1.links.keep fun q hq => ?_, h1.todo.keep fun q hq => ?_, h1.num.kept hg hmb, key h1.kl (by decide), key h1.kt (by decide), key h1.kn (by decide), h1.nl, h1.nt, h1.nm, h1.bel.grown hg h1.bel.size fun q e => (ho.lt q e).1⟩, h2, h3, key h4 (by decide)⟩
 ·obtain ⟨-, h5, cur, h6⟩ := h1.links.typedK hq
  exact hg.block q h5 (ho.otherK h6 (by decide))
 ·obtain ⟨-, h5, cur, h6⟩ := h1.todo.typedK hq
  exact hg.block q h5 (ho.otherK h6 (by decide))
theorem PNum.look (h : PNum w0 wr bl bf bn bt bm a b B m d L A n c S j) {i : Nat} {p : Int × Int} (hi : i < j) (hp : S[i]? = some p) (hfit : fitP p) : (Instr.lookup 191 (.map (some bm)) (.agg #[.int .i64 p.1, .int .i64 p.2]) false).run Tryz.prog wr = .ok (.int .i64 (i : Int)) wr := by
 obtain ⟨k, f, h1, h2, h3, h4⟩ := h;exact h1.num.look hfit (h3 i p hi hp)
theorem PNum.step (h : PNum w0 wr bl bf bn bt bm a b B m d L A n c S j) {p : Int × Int} (hp : S[j]? = some p) (hnd : S.Nodup) (hfit : fitP p) (hm : m ≤ 50000000) (hj : j ≤ 10000) :
  ∃ w', (Instr.mapUpdate 191 (.map (some bm)) (.agg #[.int .i64 p.1, .int .i64 p.2]) (.int .i64 (j : Int))).run Tryz.prog wr = .ok () w' ∧ PNum w0 w' bl bf bn bt bm a b B m d L A n c S (j + 1) ∧ wr.heap.size ≤ w'.heap.size := by
 obtain ⟨k, f, h1, h2, h3, h4⟩ := h;obtain ⟨wU, g1, g2, g3⟩ := h1.num.update (k := p) (c := (j : Int)) (by unfold maxLen; omega) hfit (WalkArith.wf_i64 (by omega));obtain ⟨es, clock, hmap⟩ := h1.num.map;refine ⟨wU, g1, ⟨k + 1, _, h1.stored g3 g2, by omega, fun i q hi hq => ?_, ?_⟩, g3.size⟩
 ·show (if q = p then some (j : Int) else f q) = some (i : Int)
  by_cases e : i = j
  ·subst e
   rw [hp] at hq;rw [if_pos (Option.some.inj hq).symm]
  ·rw [if_neg, h3 i q (by omega) hq]
   intro e2;subst e2;exact e (nd_idx hnd hq hp)
 ·exact (g3.block bf (blk_lt h4) fun e => map_ne h4 hmap (by injection e)).trans h4
theorem ProW.begin (h : ProW w0 wr bl bn bt bm B m d L A n c T k f) (hk : k ≤ m + 1) (x y : Int) : PNum w0 (wr.alloc (.cells #[.int .i64 x, .int .i64 y] 192)) bl wr.heap.size bn bt bm x y B m d L A n c T 0 :=
 ⟨k, f, h.below (bR.alloc zR _), by omega, fun i p hi => by omega, heap_alloc_new wr _⟩
theorem PNum.sort (h : PNum w0 wr bl bf bn bt bm a b B m d L A n c T 0) (hg : wr.grownBy w' (Value.slice A n c).ownBlock) (ho : Own 2 tv w' w0.heap.size 192 A n c T') (hbf : some bf ≠ (Value.slice A n c).ownBlock) : PNum w0 w' bl bf bn bt bm a b B m d L A n c T' 0 := by
 obtain ⟨k, f, h1, h2, h3, h4⟩ := h;exact ⟨k, f, h1.sort hg ho, h2, fun i p hi => by omega, (hg.block bf (blk_lt h4) hbf).trans h4⟩
end
def arcP (S : List (Int × Int)) (l : Lk) : Arc := ((S.idxOf l.1 : Int), l.2.1, (S.idxOf l.2.2 : Int))
theorem idx_at {S : List (Int × Int)} {p : Int × Int} (h : p ∈ S) : S[S.idxOf p]? = some p := by
 have h1 := List.idxOf_lt_length_iff.2 h;rw [List.getElem?_eq_getElem h1, List.getElem_idxOf]
theorem PInv.prodL {A B : Int → ByteArray → Int → Prop} {sh : ByteArray → Bool} {a b Na Nb : Int} {T S : List (Int × Int)} {L : List Lk} (h : PInv A B sh a b Na Nb T L T.length) (hp : S.Perm T) : ProdL A B sh a b S (L.map (arcP S)) (S.idxOf (a, b)) where
 nd := hp.nodup_iff.2 h.nd
 ini := idx_at (hp.mem_iff.2 (List.mem_of_getElem? h.ini))
 clo := fun p s q hp1 hq => by
  obtain ⟨k, hk⟩ := List.mem_iff_getElem?.1 (hp.mem_iff.1 hp1);exact hp.mem_iff.2 (h.snd _ (h.cpl k p (List.getElem?_eq_some_iff.1 hk).1 hk s q hq)).2.1
 is := fun f s t => by
  constructor
  ·intro hm
   obtain ⟨l, hl, e⟩ := List.mem_map.1 hm;unfold arcP at e;injection e with e1 e2;injection e2 with e2 e3;subst e1 e2 e3;obtain ⟨h1, h2, h3⟩ := h.snd l hl;exact ⟨_, _, l.1, l.2.2, rfl, rfl, idx_at (hp.mem_iff.2 h1), idx_at (hp.mem_iff.2 h2), h3⟩
  ·rintro ⟨k, m, p, q, rfl, rfl, h1, h2, h3⟩
   have hS := hp.nodup_iff.2 h.nd;obtain ⟨k0, hk⟩ := List.mem_iff_getElem?.1 (hp.mem_iff.1 (List.mem_of_getElem? h1));refine List.mem_map.2 ⟨(p, s, q), h.cpl k0 p (List.getElem?_eq_some_iff.1 hk).1 hk s q h3, ?_⟩;unfold arcP;dsimp only;rw [nd_idx hS (idx_at (List.mem_of_getElem? h1)) h1, nd_idx hS (idx_at (List.mem_of_getElem? h2)) h2]
 min := fun P h0 hc p hp1 => h.min P h0 hc p (hp.mem_iff.1 hp1)
theorem SlLk.get {w : World} {lo hi n : Nat} {A : Option Addr} {l : List Lk} (h : Sl 5 lkv w lo hi A n l) {k : Nat} (hk : k < n) :
  ∃ b off x, A = some ⟨b, off, none⟩ ∧ lo ≤ b ∧ b < hi ∧ b < w.heap.size ∧ l[k]? = some x ∧ w.cell? ⟨b, off + k * 5, none⟩ = some (.int .i64 x.1.1) ∧ w.cell? ⟨b, off + k * 5 + 1, none⟩ = some (.int .i64 x.1.2) ∧ w.cell? ⟨b, off + k * 5 + 2, none⟩ = some (.string x.2.1) ∧ w.cell? ⟨b, off + k * 5 + 3, none⟩ = some (.int .i64 x.2.2.1) ∧ w.cell? ⟨b, off + k * 5 + 4, none⟩ = some (.int .i64 x.2.2.2) := by
 obtain ⟨b, off, e, g1, g2, g3, hc⟩ := h.at_ (by omega);have hl : k < l.length := by rw [h.len]; exact hk
 have h0 := hc k l[k] (List.getElem?_eq_getElem hl) 0 _ rfl;have h1 := hc k l[k] (List.getElem?_eq_getElem hl) 1 _ rfl;have h2 := hc k l[k] (List.getElem?_eq_getElem hl) 2 _ rfl;have h3 := hc k l[k] (List.getElem?_eq_getElem hl) 3 _ rfl;have h4 := hc k l[k] (List.getElem?_eq_getElem hl) 4 _ rfl;rw [← Nat.add_assoc] at h1 h2 h3 h4;exact ⟨b, off, l[k], e, g1, g2, g3, List.getElem?_eq_getElem hl, h0.1, h1.1, h2.1, h3.1, h4.1⟩
open Go.Lib Go.Sort
theorem Own.litK {α : Type} {size : Nat} {f : α → List Value} (hf : Flat f size) {w : World} {g base : Nat} {e : TypeId} {x : α} {cur : Array Value} (h : w.heap[g]? = some (.cells cur e (0, 0))) (hc : cur.toList = f x) (hb : base ≤ g) : Own size f w base e (some ⟨g, 0, none⟩) 1 1 [x] := by
 have hs : cur.size = size := by rw [← Array.length_toList, hc, hf.len]
 exact ⟨rfl, by rw [flat_length hf]; rfl, .inr ⟨g, 1, cur, rfl, hb, h, zR, by unfold maxLen; omega, by omega, by rw [List.flatMap_singleton, ← hc, List.take_of_length_le (by rw [Array.length_toList]; omega)]⟩⟩
theorem folV_few {N : Nat} {es : List Ed} {ls : List ByteArray} {lab : ByteArray} {S : List Int} (he : EdIn N es) : (folV es ls lab S).length ≤ N := by
 have h1 : (folV es ls lab S).Nodup := (set_asc (folS es ls lab S)).imp fun {a b} h => by omega
 refine nodup_few h1 fun v hv => ?_
 obtain ⟨e, he2, -, -, rfl⟩ := folV_mem.1 hv;exact (he e he2).2.2
theorem folV_st {N : Nat} {es : List Ed} {ls : List ByteArray} {s : ByteArray} {y q : Int} (he : EdIn N es) : q ∈ folV es ls s [y] ↔ stI ls es y s q := by
 rw [folV_mem]
 constructor
 ·rintro ⟨⟨f, l, t⟩, he2, h1, h2, rfl⟩
  rw [List.mem_singleton] at h1;dsimp only at h1 h2;subst h1;exact ⟨l, he2, (he _ he2).2.1, h2⟩
 ·rintro ⟨l, h1, h2, h3⟩
  exact ⟨_, h1, List.mem_singleton.2 rfl, h3, rfl⟩
theorem folV_rng {N : Nat} {es : List Ed} {ls : List ByteArray} {s : ByteArray} {S : List Int} {q : Int} (he : EdIn N es) (h : q ∈ folV es ls s S) : 0 ≤ q ∧ q < N := by
 obtain ⟨e, he2, -, -, rfl⟩ := folV_mem.1 h;exact (he e he2).2.2
theorem outE_mem {es : List Ed} {s : Int} {e : Ed} : e ∈ outE es s ↔ e ∈ es ∧ e.1 = s := by
 unfold outE;rw [List.mem_filter, decide_eq_true_eq]
def DoneA (sh : ByteArray → Bool) (la lb : List ByteArray) (eb : List Ed) (x y : Int) (L : List Lk) (e : Ed) : Prop := ∀ s, la[e.2.1.toNat]? = some s → (sh s = false → ((x, y), s, e.2.2, y) ∈ L) ∧ (sh s = true → ∀ q, stI lb eb y s q → ((x, y), s, e.2.2, q) ∈ L)
def DoneB (sh : ByteArray → Bool) (lb : List ByteArray) (x y : Int) (L : List Lk) (e : Ed) : Prop := ∀ s, lb[e.2.1.toNat]? = some s → sh s = false → ((x, y), s, x, e.2.2) ∈ L
theorem DoneA.more {sh : ByteArray → Bool} {la lb : List ByteArray} {eb : List Ed} {x y : Int} {L : List Lk} {e : Ed} (h : DoneA sh la lb eb x y L e) (l : Lk) : DoneA sh la lb eb x y (L ++ [l]) e := fun s hs => ⟨fun g => List.mem_append_left _ ((h s hs).1 g), fun g q hq => List.mem_append_left _ ((h s hs).2 g q hq)⟩
theorem DoneB.more {sh : ByteArray → Bool} {lb : List ByteArray} {x y : Int} {L : List Lk} {e : Ed} (h : DoneB sh lb x y L e) (l : Lk) : DoneB sh lb x y (L ++ [l]) e := fun s hs g => List.mem_append_left _ (h s hs g)
theorem done_all {sh : ByteArray → Bool} {la lb : List ByteArray} {ea eb : List Ed} {x y : Int} {L : List Lk} (h1 : ∀ e, e ∈ outE ea x → DoneA sh la lb eb x y L e) (h2 : ∀ e, e ∈ outE eb y → DoneB sh lb x y L e) (s : ByteArray) (q : Int × Int) (h : prodT (stI la ea) (stI lb eb) sh (x, y) s q) : ((x, y), s, q) ∈ L := by
 obtain ⟨q1, q2⟩ := q
 rcases h with ⟨g0, ⟨l, a1, a2, a3⟩, g2⟩ | ⟨g0, ⟨l, a1, a2, a3⟩, g2⟩ | ⟨g0, ⟨l, a1, a2, a3⟩, g2⟩
 ·obtain rfl : q2 = y := g2
  exact (h1 _ (outE_mem.2 ⟨a1, rfl⟩) s a3).1 g0
 ·obtain rfl : q1 = x := g2
  exact h2 _ (outE_mem.2 ⟨a1, rfl⟩) s a3 g0
 ·exact (h1 _ (outE_mem.2 ⟨a1, rfl⟩) s a3).2 g0 q2 g2
theorem PS0.start {w0 wU wL : World} {bm bn gP bt bl : Nat} {x y : Int} (hm : ∃ wT : World, wT.heap.size ≤ wU.heap.size ∧ Below w0.heap.size w0 wT ∧ wT.grownBy wU (some bm) ∧ bm < wT.heap.size ∧ (∃ es cl, wT.heap[bm]? = some (.map es cl)) ∧
   wT.heap[gP]? = some (.cells #[.int .i64 x, .int .i64 y] 192 (0, 0)) ∧ wT.heap[bn]? = some (.cells #[.map (some bm)] 191 (0, 0)) ∧ wT.heap[bt]? = some (.cells #[.slice (some ⟨gP, 0, none⟩) 1 1] 193 (0, 0)))
  (h1 : w0.heap.size ≤ bm) (h2 : w0.heap.size ≤ gP) (h3 : w0.heap.size ≤ bt) (hmap : MapR wU bm 1 fun q => if q = (x, y) then some 0 else none) (hL : wL = wU.alloc (.cells #[.slice none 0 0] 194)) (hbl : bl = wU.heap.size) : PS0 w0 wL bl bn bt bm [] [(x, y)] 0 := by
 obtain ⟨wT, hz, hb, hg, hlt, ⟨es, cl, hmp⟩, k1, k2, k3⟩ := hm;have keep : ∀ {q : Nat} {cur : Array Value} {e : TypeId}, wT.heap[q]? = some (.cells cur e (0, 0)) → wL.heap[q]? = some (.cells cur e (0, 0)) := fun {q cur e} hq => by
  have a1 : wU.heap[q]? = some (.cells cur e (0, 0)) := (hg.block q (blk_lt hq) fun e1 => map_ne hq hmp (by injection e1)).trans hq;rw [hL];exact (Below.heap_alloc _ _ _ (blk_lt a1)).trans a1
 have hbU := hb.grown hg hb.size fun k e => by injection e with e; omega
 have hbA := hbU.alloc hbU.size (.cells #[.slice none 0 0] 194);rw [← hL] at hbA;refine ⟨none, 0, 0, some ⟨gP, 0, none⟩, 1, 1, 1, _, ⟨Own.nil_ _ _ _, Own.litK flat_tv (keep k1) rfl h2, hmap.keep (by rw [hL]; exact Below.heap_alloc _ _ _ hmap.lt), ?_, keep k3, keep k2, ?_, h3, h1, hbA⟩, fun q => ?_, by omega, zR⟩
 ·rw [hL, hbl]; exact heap_alloc_new _ _
 ·rw [hbl]; exact hbU.size
 ·by_cases e : q = (x, y)
  ·rw [if_pos e]; simp [e]
  ·rw [if_neg e]; simp [e]
theorem productOf_calls {w : World} {Na ia : Nat} {A : Option Addr} {n : Nat} {B : Option Addr} {m : Nat} {la : List ByteArray} {ea : List Ed} {Nb ib : Nat} {A' : Option Addr} {n' : Nat} {B' : Option Addr} {m' : Nat} {lb : List ByteArray} {eb : List Ed}
  (h : SysA w Na ia A n B m la ea) (g : SysA w Nb ib A' n' B' m' lb eb) (c d c' d' : Nat) (F : FuncId) (caps : Array Value) (sh : ByteArray → Bool)
  (hF : ∀ (v : Value) (W : World), Sem.run Tryz.prog (callFunc F (#[v] ++ caps)) W = .ok (.enter F (#[v] ++ caps)) W)
  (hFc : ∀ (s : ByteArray), s ∈ la ∨ s ∈ lb → ∀ (W : World), Below w.heap.size w W → Calls Tryz.prog F (#[.string s] ++ caps) W fun e w' => e = .returned (.bool (sh s)) ∧ Below W.heap.size W w') :
  Calls Tryz.prog 97 #[.agg #[.int .i64 (Na : Int), .int .i64 (ia : Int), .slice A n c, .slice B m d], .agg #[.int .i64 (Nb : Int), .int .i64 (ib : Int), .slice A' n' c', .slice B' m' d'], .func (.func F) #[] caps] w fun e w' => ∃ (S : List (Int × Int)) (arcs : List Arc) (i : Nat) (A2 : Option Addr) (n2 c2 : Nat) (A3 : Option Addr) (n3 c3 : Nat), e = .returned (.agg #[.int .i64 (S.length : Int), .int .i64 (i : Int), .slice A2 n2 c2, .slice A3 n3 c3]) ∧ ProdL (stI la ea) (stI lb eb) sh (ia : Int) (ib : Int) S arcs i ∧ S.length ≤ 1600 ∧ SlS w' w.heap.size w'.heap.size A2 n2 (joiF (la ++ lb)) ∧ Own 3 ev w' w.heap.size 84 A3 n3 c3 (ltsEs (la ++ lb) arcs) ∧ Below w.heap.size w w' ∧ n2 ≤ c2 := by
 obtain ⟨hm, hn12, hn1, hle, hll⟩ := h.many;obtain ⟨hm', hn12', hn1', hle', hll'⟩ := g.many;obtain ⟨⟨hNa, hNa2⟩, hia⟩ := h.bounds;obtain ⟨⟨hNb, hNb2⟩, hib⟩ := g.bounds;obtain ⟨w0, hw0⟩ : ∃ w0, w0 = (((w.alloc (ltsC Na ia A n c B m d)).alloc (ltsC Nb ib A' n' c' B' m' d')).alloc (.cells #[.int .i64 0, .int .i64 0, .slice none 0 0, .slice none 0 0] 27)) := ⟨_, rfl⟩;have hU0 : UniS w w0 Na ia A n c B m d Nb ib A' n' c' B' m' d' := by rw [hw0]; exact UniS.start _ _ _ _ _ _ _ _ _ _ _ _ _ _ _ _ _
 have hz0 := hU0.res.lt;have hUW := hide (fun (W : World) (hW : Below w0.heap.size w0 W) => hU0.below hW (by omega));have hSA := hide (fun (W : World) (hW : Below w0.heap.size w0 W) => h.below (hU0.bel.trans (hW.mono hU0.bel.size)) zR);have hSB := hide (fun (W : World) (hW : Below w0.heap.size w0 W) => g.below (hU0.bel.trans (hW.mono hU0.bel.size)) zR);have hFW := hide (fun (s : ByteArray) (hs : s ∈ la ∨ s ∈ lb) (W : World) (hW : Below w0.heap.size w0 W) => hFc s hs W (hU0.bel.trans (hW.mono hU0.bel.size)));have hva := hide h.ok;have hvb := hide g.ok;have hinv0 : Hid (PInv (stI la ea) (stI lb eb) sh (ia : Int) (ib : Int) (Na : Int) (Nb : Int) [((ia : Int), (ib : Int))] [] 0) := PInv.start (by omega) (by omega)
 -- the map, its box, the first pair, its box
 obtain ⟨wM, hwM⟩ : ∃ wM, wM = w0.alloc (.map #[] 0) := ⟨_, rfl⟩;obtain ⟨wN, hwN⟩ : ∃ wN, wN = wM.alloc (.cells #[.map (some w0.heap.size)] 191) := ⟨_, rfl⟩;obtain ⟨wP, hwP⟩ : ∃ wP, wP = wN.alloc (.cells #[.int .i64 (ia : Int), .int .i64 (ib : Int)] 192) := ⟨_, rfl⟩;obtain ⟨wT, hwT⟩ : ∃ wT, wT = wP.alloc (.cells #[.slice (some ⟨wN.heap.size, 0, none⟩) 1 1] 193) := ⟨_, rfl⟩;have sM : wM.heap.size = w0.heap.size + 1 := by rw [hwM]; exact World.size_alloc _ _
 have sN : wN.heap.size = wM.heap.size + 1 := by rw [hwN]; exact World.size_alloc _ _
 have sP : wP.heap.size = wN.heap.size + 1 := by rw [hwP]; exact World.size_alloc _ _
 have sT : wT.heap.size = wP.heap.size + 1 := by rw [hwT]; exact World.size_alloc _ _
 have bM : Below w0.heap.size w0 wM := by rw [hwM]; exact bR.alloc zR _
 have bN : Below wM.heap.size wM wN := by rw [hwN]; exact bR.alloc zR _
 have bP : Below wN.heap.size wN wP := by rw [hwP]; exact bR.alloc zR _
 have bT : Below wP.heap.size wP wT := by rw [hwT]; exact bR.alloc zR _
 have bNT : Below wN.heap.size wN wT := bP.trans (bT.mono bP.size);have bMT : Below wM.heap.size wM wT := bN.trans (bNT.mono bN.size);have b0T : Below w0.heap.size w0 wT := bM.trans (bMT.mono bM.size);have b0N : Below w0.heap.size w0 wN := bM.trans (bN.mono bM.size);have mk0 : MapR wM w0.heap.size 0 (fun _ => none) := by rw [hwM]; exact MapR.made w0
 obtain ⟨wD, hwD⟩ : ∃ wD, wD = wT.drew := ⟨_, rfl⟩;have mkT : MapR wD w0.heap.size 0 (fun _ => none) := by rw [hwD]; exact mk0.keep (bMT.block _ mk0.lt)
 obtain ⟨wU, hup0, hmU, hgU⟩ := mkT.update (k := ((ia : Int), (ib : Int))) (c := 0) (by unfold maxLen; omega) (fit_of (by omega) (by omega) (by omega) (by omega)) (by decide);have hup : (Instr.mapUpdate 191 (.map (some w0.heap.size)) (.agg #[.int .i64 (ia : Int), .int .i64 (ib : Int)]) (.int .i64 0)).run Tryz.prog wD = .ok () wU := hup0;have kN : wN.heap[wM.heap.size]? = some (.cells #[.map (some w0.heap.size)] 191 (0, 0)) := by rw [hwN]; exact heap_alloc_new wM _
 have kP : wP.heap[wN.heap.size]? = some (.cells #[.int .i64 (ia : Int), .int .i64 (ib : Int)] 192 (0, 0)) := by rw [hwP]; exact heap_alloc_new wN _
 have kT : wT.heap[wP.heap.size]? = some (.cells #[.slice (some ⟨wN.heap.size, 0, none⟩) 1 1] 193 (0, 0)) := by rw [hwT]; exact heap_alloc_new wP _
 have kN' : wT.heap[wM.heap.size]? = _ := (bNT.block _ (blk_lt kN)).trans kN;have kP' : wT.heap[wN.heap.size]? = _ := (bT.block _ (blk_lt kP)).trans kP;have hstart := hide (fun (wL : World) (bl : Nat) (e1 : wL = wU.alloc (.cells #[.slice none 0 0] 194)) (e2 : bl = wU.heap.size) => PS0.start (w0 := w0) (wU := wU) (wL := wL) (bm := w0.heap.size) (bn := wM.heap.size) (gP := wN.heap.size) (bt := wP.heap.size) (bl := bl) (x := (ia : Int)) (y := (ib : Int))
  ⟨wD, hgU.size, by rw [hwD]; exact b0T.drew, hgU, by rw [hwD]; show w0.heap.size < wT.heap.size; omega, mkT.map, by rw [hwD]; exact kP', by rw [hwD]; exact kN', by rw [hwD]; exact kT⟩ zR (by omega) (by omega) hmU e1 e2)
 have o1 := (hUW.out wN b0N).boxa.c1;have o2 := (hUW.out wN b0N).boxb.c1;have hS3 : Hid (wD.cell? ⟨wM.heap.size, 0, none⟩ = some (.map (some w0.heap.size)) ∧ wD.cell? ⟨wP.heap.size, 0, none⟩ = some (.slice (some ⟨wN.heap.size, 0, none⟩) 1 1) ∧ wD.cell? ⟨wN.heap.size, 0, none⟩ = some (.int .i64 (ia : Int)) ∧ wD.cell? ⟨wN.heap.size, 1, none⟩ = some (.int .i64 (ib : Int))) := by
  show _ ∧ _
  rw [hwD];exact ⟨cR 0 kN', cR 0 kT, cR 0 kP', cR 1 kP'⟩
 obtain ⟨bm, hbm⟩ : ∃ bm, bm = w0.heap.size := ⟨_, rfl⟩;obtain ⟨bn, hbn⟩ : ∃ bn, bn = w0.heap.size + 1 := ⟨_, rfl⟩;obtain ⟨gP, hgP⟩ : ∃ gP, gP = wN.heap.size := ⟨_, rfl⟩;obtain ⟨bt, hbt⟩ : ∃ bt, bt = wN.heap.size + 1 := ⟨_, rfl⟩;rw [sM, sP, ← hbn, ← hbt, ← hgP, ← hbm] at hS3;rw [sM, sP, ← hbn, ← hbt] at hstart;have hbm0 : w0.heap.size ≤ bm := by omega
 have hmm := @run_makeMap Tryz.prog;clear h g hFc bM bN bP bT bNT bMT b0T b0N mk0 mkT hmU hgU hup0 kN kP kT kN' kP' sM sN sP sT;replace hU0 := hide hU0;go_enter Tryz.func97, Tryz.ntmps97;go_upto_region 1 with fail;rw [show (((w.alloc (.cells #[.int .i64 (Na : Int), .int .i64 (ia : Int), .slice A n c, .slice B m d] 27)).alloc (.cells #[.int .i64 (Nb : Int), .int .i64 (ib : Int), .slice A' n' c', .slice B' m' d'] 27)).alloc (.cells #[.int .i64 0, .int .i64 0, .slice none 0 0, .slice none 0 0] 27)) = w0 from hw0.symm];replace hw0 := hide hw0;go_upto_region 2 with fail;rw [← show wM = _ from hwM, ← show wN = _ from hwN];replace hwM := hide hwM;replace hwN := hide hwN;go_upto_region 3 with fail;rw [← show wP = _ from hwP, ← show wT = _ from hwT];replace hwP := hide hwP;replace hwT := hide hwT;rw [← hbn, ← hbt, ← hgP, ← hbm];rw [← hbm] at hup;have hstart2 := hide (fun wL bl e1 e2 => hstart.out wL bl e1 e2);replace hbm := hide hbm;replace hbn := hide hbn;replace hgP := hide hgP;replace hbt := hide hbt;replace hwD := hide hwD;clear hmm o1 o2;refine lateT_begin (S := fun w' => w'.cell? ⟨bn, 0, none⟩ = some (.map (some bm)) ∧ w'.cell? ⟨bt, 0, none⟩ = some (.slice (some ⟨gP, 0, none⟩) 1 1) ∧ w'.cell? ⟨gP, 0, none⟩ = some (.int .i64 (ia : Int)) ∧ w'.cell? ⟨gP, 1, none⟩ = some (.int .i64 (ib : Int))) (st := 4) (by kernel_rfl) ?_;rw [← show wD = _ from hwD.out];have hS0 : (fun w' : World => w'.cell? ⟨bn, 0, none⟩ = some (.map (some bm)) ∧ w'.cell? ⟨bt, 0, none⟩ = some (.slice (some ⟨gP, 0, none⟩) 1 1) ∧ w'.cell? ⟨gP, 0, none⟩ = some (.int .i64 (ia : Int)) ∧ w'.cell? ⟨gP, 1, none⟩ = some (.int .i64 (ib : Int))) wD := hS3.out;refine tkB 0 [4] hS0 ?_;refine tkB 1 [4] hS0 ?_;refine tkB 2 [4] hS0 ?_;refine tkB 3 [4] hS0 ?_;refine lS 4 fun K hK => ?_
 go_simp;refine hK.out _ _ nH ?_
 clear hK K;(try simp only [Act.put, sA, sB, sC]);refine lateT_done (by kernel_rfl) ?_ _;clear hS3 hS0 hup
 (try simp only [Exit.then])
 obtain ⟨wL, hwL⟩ : ∃ wL, wL = wU.alloc (.cells #[.slice none 0 0] 194) := ⟨_, rfl⟩;obtain ⟨bl, hbl⟩ : ∃ bl, bl = wU.heap.size := ⟨_, rfl⟩;have hPL := hide (hstart2.out wL bl hwL hbl);rw [show w0.heap.size = bm from hbm.out.symm] at hPL;clear hstart hstart2;go_upto_region 6 with fail;rw [← show wL = _ from hwL, ← hbl];replace hwL := hide hwL;replace hbl := hide hbl
 go_loopw [10] (fun s10 wr => ∃ (i : Nat) (T : List (Int × Int)) (L : List Lk), i ≤ T.length ∧ s10 = .int .i64 (i : Nat) ∧ Hid (PInv (stI la ea) (stI lb eb) sh (ia : Int) (ib : Int) (Na : Int) (Nb : Int) T L i) ∧ Hid (PS0 w0 wr bl bn bt bm L T (i * 12600))) (fun s10 _ => 1601 - (intOf s10).toNat)
 case atStart => exact ⟨0, _, [], Nat.zero_le _, rfl, hinv0, hPL⟩
 case round =>
  clear hinv0 hPL;obtain ⟨i, T, L, hi, rfl, hI, hS⟩ := hrel;have hTl := hI.out.few (by omega) (by omega);obtain ⟨B0, m0, d0, A0, n0, c0, k0, f0, hW, has0, hk0, hmb0⟩ := hS.out;have hn0 := hW.todo.len;have t0 : wr.cell? ⟨bt, 0, none⟩ = some (.slice A0 n0 c0) := cR 0 hW.kt
  by_cases hlt : i < n0
  ·obtain ⟨gT, oT, x, y, rfl, -, -, hgT, hxy, p0, p1, -⟩ := SlT.get (hW.todo.sl flat_tv) hlt
   have hxr := hI.out.rng _ (List.mem_of_getElem? hxy);dsimp only at hxr;have i0 : (0 : Int) ≤ (i : Int) := by omega
   have i1 : (i : Int) < (n0 : Int) := by omega
   have hilt : i < T.length := by omega
   obtain ⟨wp, hwp⟩ : ∃ wp, wp = wr.alloc (.cells #[.int .i64 x, .int .i64 y] 192) := ⟨_, rfl⟩;obtain ⟨bp, hbp⟩ : ∃ bp, bp = wr.heap.size := ⟨_, rfl⟩;have hPp : Hid (PSp w0 wp bl bp bn bt bm (x, y) L T (i * 12600)) := by show PSp _ _ _ _ _ _ _ _ _ _ _; rw [hwp, hbp]; exact hS.out.pick x y
   have hbp0 := hPp.out.bel;obtain ⟨q0, q1⟩ := hPp.out.cells;have u := (hUW.out wp hbp0).boxa;have u0 := u.c0;have u1 := u.c1;have u2 := u.c2;have u3 := u.c3;have hSAp := hSA.out wp hbp0;have qo := hide (outT_calls (Na : Int) (ia : Int) (.slice A n c) B m d x ea wp _ _ hSAp.se (by omega) ⟨A, n, c, rfl⟩);have hxyh := hide hxy;clear hW has0 hk0 hmb0 u hSAp hbp0 hxy;go_upto_region 9 with fail;rw [← show wp = _ from hwp, ← hbp];replace hwp := hide hwp;replace hbp := hide hbp;clear t0 p0 p1;go_upto_region 10 with fail;dsimp only at q0 q1;go_upto_region 11 with (first | (go_at_call 180; (with_reducible refine qo.out.mono ?_); rintro e w1 ⟨AE, nE, cE, rfl, hE, hnE, hb1⟩));have hP1 := hide (hPp.out.below hb1);have hnEl : nE ≤ 300 := by
    have h1 := hE.len;have h2 : (outE ea x).length ≤ ea.length := List.length_filter_le _ _;omega
   have hEl := hE.len;have hE1 := hide hE;have hIp := hide (show PInv (stI la ea) (stI lb eb) sh (ia : Int) (ib : Int) (Na : Int) (Nb : Int) T L i from hI.out);obtain ⟨zE, hzE⟩ : ∃ zE, zE = wp.heap.size := ⟨_, rfl⟩;rw [← hzE] at hE1;have hnb : i * 12600 + 12600 ≤ 20200000 := by omega
   clear hE hb1 hzE qo hI hS u0 u1 u2 u3 q0 q1 hPp i0 i1
   go_loopw [54] (fun s54 wr => ∃ (k : Nat) (T : List (Int × Int)) (L : List Lk), k ≤ nE ∧ s54 = .int .i64 (k : Nat) ∧ Hid (PInv (stI la ea) (stI lb eb) sh (ia : Int) (ib : Int) (Na : Int) (Nb : Int) T L i) ∧ Hid (PSp w0 wr bl bp bn bt bm (x, y) L T (i * 12600 + k * 41)) ∧ Hid (T[i]? = some (x, y)) ∧ Hid (Own 3 ev wr zE 84 AE nE cE (outE ea x)) ∧ Hid (∀ e, e ∈ (outE ea x).take k → DoneA sh la lb eb x y L e)) (fun s54 _ => nE - (intOf s54).toNat)
   case atStart => exact ⟨0, T, L, Nat.zero_le _, rfl, hIp, hP1, hxyh, hE1, fun e he => (by simp at he)⟩
   case round =>
    clear hIp hP1 hxyh hE1 hilt hTl hi;obtain ⟨k, T, L, hk, rfl, hI, hP, hxy, hE, hD⟩ := hrel;have hTl := hI.out.few (by omega) (by omega);have hb0 := hP.out.bel
    by_cases hlt : k < nE
    ·obtain ⟨gE, oE, f, l, t, rfl, -, -, hgE, hx, p0, p1, p2, -⟩ := SlE.get (hE.out.sl flat_ev) hlt
     have hme := outE_mem.1 (List.mem_of_getElem? hx);have hfx : f = x := hme.2;subst hfx;have hends := (hSA.out wr hb0).ends _ hme.1;have hlabs := (hSA.out wr hb0).labs _ hme.1;dsimp only at hends hlabs;obtain ⟨lk, rfl⟩ : ∃ lk : Nat, l = (lk : Int) := ⟨l.toNat, by omega⟩;have i0 : (0 : Int) ≤ (k : Int) := by omega
     have i1 : (k : Int) < (nE : Int) := by omega
     have j0 : (0 : Int) ≤ (lk : Int) := by omega
     have j1 : (lk : Int) < (n : Int) := by omega
     obtain ⟨wA, hwA⟩ : ∃ wA, wA = wr.alloc (.cells #[.int .i64 f, .int .i64 (lk : Int), .int .i64 t] 84) := ⟨_, rfl⟩;obtain ⟨be, hbe⟩ : ∃ be, be = wr.heap.size := ⟨_, rfl⟩;have hbA : Below wr.heap.size wr wA := by rw [hwA]; exact bR.alloc zR _
     have ke : wA.heap[be]? = some (.cells #[.int .i64 f, .int .i64 (lk : Int), .int .i64 t] 84 (0, 0)) := by rw [hwA, hbe]; exact heap_alloc_new wr _
     have hPA := hide (hP.out.below hbA);have hEA := hide (hE.out.below hbA zR);have hb0A := hPA.out.bel;have e0 := (cell_of_row _ _ 0 _ _ (0, 0) ke).trans (show _ = some (Value.int .i64 f) from rfl);have e1 := (cell_of_row _ _ 1 _ _ (0, 0) ke).trans (show _ = some (Value.int .i64 (lk : Int)) from rfl);have e2 := (cell_of_row _ _ 2 _ _ (0, 0) ke).trans (show _ = some (Value.int .i64 t) from rfl);have u2 := (hUW.out wA hb0A).boxa.c2;obtain ⟨gs, os, s, e3, -, -, -, hs, ps, -⟩ := SlS.get (hSA.out wA hb0A).ss (show lk < n by omega);have hsm := List.mem_of_getElem? hs;have qF := hide (hFW.out s (.inl hsm) wA hb0A);have hsu : Hid ((outE ea f).take (k + 1) = (outE ea f).take k ++ [(f, (lk : Int), t)]) := by show _ = _; rw [List.take_add_one, hx]; rfl
     have hst : Hid (stI la ea f s t) := ⟨(lk : Int), hme.1, j0, by rw [Int.toNat_natCast]; exact hs⟩;have hsh := hide hs;have heIn := hide (hSB.out wr hb0).edges;have hyr := hI.out.rng _ (List.mem_of_getElem? hxy.out);dsimp only at hyr;have hke := hide ke;have hiT : i ≤ T.length := Nat.le_of_lt (List.getElem?_eq_some_iff.1 hxy.out).1;have hpm := hide (List.mem_of_getElem? hxy.out);have e3h := e3;clear hbA hb0A hx hme hs ke hb0 hE hP e3;go_upto_region 13 with fail;rw [← show wA = _ from hwA, ← hbe];replace hwA := hide hwA;replace hbe := hide hbe;clear p0 p1 p2;subst e3h;go_upto_region 14 with fail;clear u2 ps
     cases hshv : sh s with
     | false =>
      rw [hshv] at qF;replace qF := hide qF.out;have hstep : Hid (prodT (stI la ea) (stI lb eb) sh (f, y) s (t, y)) := .inl ⟨hshv, hst.out, rfl⟩;have hI2 := hide (hI.out.lead hpm.out hstep.out ⟨by dsimp only; omega, hyr.2⟩ hiT);have hD2 : Hid (∀ e, e ∈ (outE ea f).take (k + 1) → DoneA sh la lb eb f y (L ++ [((f, y), s, t, y)]) e) := fun e he => by
       rw [hsu.out] at he
       rcases List.mem_append.1 he with he | he
       ·exact (hD.out e he).more _
       ·rw [List.mem_singleton.1 he]
        intro s2 hs2;dsimp only at hs2;rw [Int.toNat_natCast, hsh.out] at hs2;obtain rfl := Option.some.inj hs2;exact ⟨fun _ => List.mem_append_right _ (List.mem_singleton.2 rfl), fun g => by rw [hshv] at g; cases g⟩
      have hT2 := hide (pre_get (addT_pre T (t, y)) hxy.out);clear hshv hstep hst hsu hsh hpm hD hsm;go_upto_region 15 with (first | (go_simp; (with_reducible refine qF.out.mono ?_); rintro e w3 ⟨rfl, hb3⟩));have hP3 := hide (hPA.out.below hb3);have hE3 := hide (hEA.out.below hb3 zR);have ke3 := (hb3.block _ (blk_lt hke.out)).trans hke.out;have r2 := (cell_of_row _ _ 2 _ _ (0, 0) ke3).trans (show _ = some (Value.int .i64 t) from rfl);obtain ⟨-, r3⟩ := hP3.out.cells;dsimp only at r3;have qL := hide (hP3.out.lead t y s ⟨by omega, by omega⟩ hTl (by omega));clear hb3 ke3 e0 e1 e2 qF hPA hEA;go_wp2_with (first | (go_at_call 179; go_loud ((with_reducible refine qL.out.mono ?_); rintro e w4 ⟨rfl, hP4, hK4, hz4⟩)));have hP5 := hide (hP4.wide (mb' := i * 12600 + (k + 1) * 41) (by omega));have hE5 := hide (hK4.own hE3.out (by decide) (by decide) (by decide) (by decide));clear hP4 hK4 qL hP3 hE3;go_roundw
      case rel => exact ⟨k + 1, addT T (t, y), _, by omega, by go_num, hI2, hP5, hT2, hE5, hD2⟩
      case measure => simp [intOf]; omega
     | true =>
      rw [hshv] at qF;replace qF := hide qF.out;go_upto_region 16 with (first | (go_simp; (with_reducible refine qF.out.mono ?_); rintro e w3 ⟨rfl, hb3⟩));have hP3 := hide (hPA.out.below hb3);have hE3 := hide (hEA.out.below hb3 zR);have hke3 := hide ((hb3.block _ (blk_lt hke.out)).trans hke.out);obtain ⟨-, r3⟩ := hP3.out.cells;dsimp only at r3;have v := (hUW.out w3 hP3.out.bel).boxb;have v0 := v.c0;have v1 := v.c1;have v2 := v.c2;have v3 := v.c3;obtain ⟨wY, hwY⟩ : ∃ wY, wY = w3.alloc (.cells #[.int .i64 y] 2) := ⟨_, rfl⟩;obtain ⟨zY, hzY⟩ : ∃ zY, zY = w3.heap.size := ⟨_, rfl⟩;have hbY : Below w3.heap.size w3 wY := by rw [hwY]; exact bR.alloc zR _
      have hPY := hide (hP3.out.below hbY);have hEY := hide (hE3.out.below hbY zR);have hkeY := hide ((hbY.block _ (blk_lt hke3.out)).trans hke3.out);have hSBY := hSB.out wY hPY.out.bel;have qV := hide (followS_calls (Nb : Int) (ib : Int) A' n' c' B' m' d' (some ⟨zY, 0, none⟩) 1 1 [y] s lb eb wY _ _ _ _ hSBY.ss hSBY.se (by rw [hwY]; exact Sl.lit1' w3 2 y _ rfl 1 _ hzY) (by omega) (by omega) hvb.out);have hfew := hide (folV_few (ls := lb) (lab := s) (S := [y]) heIn.out);clear hb3 e0 e1 e2 qF hPA hEA v hbY hSBY hke hke3 hP3 hE3;go_upto_region 17 with (first | ((try go_at_call 181); rw [← show wY = _ from hwY, ← hzY]; (with_reducible refine qV.out.mono ?_); rintro e w4 ⟨AV, nV, cV, rfl, hV, hb4⟩));have hP4 := hide (hPY.out.below hb4);have hE4 := hide (hEY.out.below hb4 zR);have hke4 := hide ((hb4.block _ (blk_lt hkeY.out)).trans hkeY.out);have hVl := hV.len;have hnV : nV ≤ 40 := by
       have h1 := hfew.out;omega
      obtain ⟨zV, hzV⟩ : ∃ zV, zV = wY.heap.size := ⟨_, rfl⟩;rw [← hzV] at hV;have hV4 := hide hV;have hIq := hide (show PInv (stI la ea) (stI lb eb) sh (ia : Int) (ib : Int) (Na : Int) (Nb : Int) T L i from hI.out);have hwY2 := hide hwY;have hnb2 : i * 12600 + k * 41 + 41 ≤ 20200000 := by omega
      have hbud : (i * 12600 + k * 41) + 0 = i * 12600 + k * 41 := rfl;clear hb4 hPY hEY hkeY qV hzV hV v0 v1 v2 v3 r3 hVl hfew hwY hzY hI
      go_loopw [83] (fun s83 wr => ∃ (j : Nat) (T : List (Int × Int)) (L : List Lk), j ≤ nV ∧ s83 = .int .i64 (j : Nat) ∧ Hid (PInv (stI la ea) (stI lb eb) sh (ia : Int) (ib : Int) (Na : Int) (Nb : Int) T L i) ∧ Hid (PSp w0 wr bl bp bn bt bm (f, y) L T (i * 12600 + k * 41 + j)) ∧ Hid (T[i]? = some (f, y)) ∧ Hid (Own 3 ev wr zE 84 (some ⟨gE, oE, none⟩) nE cE (outE ea f)) ∧ Hid (Own 1 iv wr zV 2 AV nV cV (folV eb lb s [y])) ∧ Hid (wr.heap[be]? = some (.cells #[.int .i64 f, .int .i64 (lk : Int), .int .i64 t] 84 (0, 0))) ∧ Hid (∀ e, e ∈ (outE ea f).take k → DoneA sh la lb eb f y L e) ∧ Hid (∀ q, q ∈ (folV eb lb s [y]).take j → ((f, y), s, t, q) ∈ L)) (fun s83 _ => nV - (intOf s83).toNat)
      case atStart => exact ⟨0, T, L, Nat.zero_le _, rfl, hIq, hP4, hxy, hE4, hV4, hke4, hD, fun q hq => (by simp at hq)⟩
      case round =>
       clear hIq hP4 hxy hE4 hV4 hke4 hD hpm hiT hTl;obtain ⟨j, T, L, hj, rfl, hI, hP, hxy, hE, hV, hke, hD, hQ⟩ := hrel;have hTl := hI.out.few (by omega) (by omega);have hiT : i ≤ T.length := Nat.le_of_lt (List.getElem?_eq_some_iff.1 hxy.out).1;have hpm := hide (List.mem_of_getElem? hxy.out)
       by_cases hlt3 : j < nV
       ·obtain ⟨gV, oV, q, rfl, -, -, -, hq, pV, -⟩ := SlI.get (hV.out.sl flat_iv) hlt3
        have hqst := hide ((folV_st heIn.out).1 (List.mem_of_getElem? hq));have hqr := (folV_rng heIn.out (List.mem_of_getElem? hq));have g0 : (0 : Int) ≤ (j : Int) := by omega
        have g1 : (j : Int) < (nV : Int) := by omega
        have r2 := (cell_of_row _ _ 2 _ _ (0, 0) hke.out).trans (show _ = some (Value.int .i64 t) from rfl);have hstep : Hid (prodT (stI la ea) (stI lb eb) sh (f, y) s (t, q)) := .inr (.inr ⟨hshv, hst.out, hqst.out⟩);have hI2 := hide (hI.out.lead hpm.out hstep.out ⟨by dsimp only; omega, hqr⟩ hiT);have hD2 : Hid (∀ e, e ∈ (outE ea f).take k → DoneA sh la lb eb f y (L ++ [((f, y), s, t, q)]) e) := fun e he => (hD.out e he).more _
        have hQ2 : Hid (∀ q', q' ∈ (folV eb lb s [y]).take (j + 1) → ((f, y), s, t, q') ∈ L ++ [((f, y), s, t, q)]) := fun q' hq' => by
         rw [List.take_add_one, hq] at hq'
         rcases List.mem_append.1 hq' with h1 | h1
         ·exact List.mem_append_left _ (hQ.out q' h1)
         ·rw [Option.toList_some, List.mem_singleton] at h1
          subst h1;exact List.mem_append_right _ (List.mem_singleton.2 rfl)
        have hT2 := hide (pre_get (addT_pre T (t, q)) hxy.out);have qL := hide (hP.out.lead t q s ⟨by omega, by omega⟩ hTl (by omega));have hshv2 := hide hshv;clear hqst hstep hpm hD hQ hxy hq hshv;go_wp2_with (first | (go_at_call 179; go_loud ((with_reducible refine qL.out.mono ?_); rintro e w4 ⟨rfl, hP4, hK4, hz4⟩)));have hP5 := hide (hP4.wide (mb' := i * 12600 + k * 41 + (j + 1)) (by omega));have hE5 := hide (hK4.own hE.out (by decide) (by decide) (by decide) (by decide));have hV5 := hide (hK4.own hV.out (by decide) (by decide) (by decide) (by decide));have hke5 := hide (hK4 _ _ _ hke.out (by decide) (by decide) (by decide) (by decide));clear hP4 hK4 qL hP hE hV hke;go_roundw
        case rel => exact ⟨j + 1, addT T (t, q), _, by omega, by go_num, hI2, hP5, hT2, hE5, hV5, hke5, hD2, hQ2⟩
        case measure => simp [intOf]; omega
       ·have hjn : j = nV := by omega
        have hP5 := hide (hP.out.wide (mb' := i * 12600 + (k + 1) * 41) (by omega));have hlen := hV.out.len;have hD2 : Hid (∀ e, e ∈ (outE ea f).take (k + 1) → DoneA sh la lb eb f y L e) := fun e he => by
         rw [hsu.out] at he
         rcases List.mem_append.1 he with he | he
         ·exact hD.out e he
         ·rw [List.mem_singleton.1 he]
          intro s2 hs2;dsimp only at hs2;rw [Int.toNat_natCast, hsh.out] at hs2;obtain rfl := Option.some.inj hs2;refine ⟨fun g => (by rw [hshv] at g; cases g), fun _ q hq => hQ.out q ?_⟩;rw [List.take_of_length_le (by omega)];exact (folV_st heIn.out).2 hq
        have g1 : ¬ (j : Int) < (nV : Int) := by omega
        have hshv2 := hide hshv;have hlen2 := hide hlen;have hjn2 := hide hjn;clear hshv hlen hjn hQ hD hpm hP;go_wp2_with fail;go_roundw
        case rel => exact ⟨k + 1, T, L, by omega, by go_num, hI, hP5, hxy, hE, hD2⟩
        case measure => simp [intOf]; omega
    ·have hkn : k = nE := by omega
     have hDA : Hid (∀ e, e ∈ outE ea x → DoneA sh la lb eb x y L e) := fun e he => hD.out e (by rw [List.take_of_length_le (by have := hE.out.len; omega)]; exact he)
     have g1 : ¬ (k : Int) < (nE : Int) := by omega
     obtain ⟨-, r3⟩ := hP.out.cells;dsimp only at r3;have v := (hUW.out wr hb0).boxb;have v0 := v.c0;have v1 := v.c1;have v2 := v.c2;have v3 := v.c3;have hSBr := hSB.out wr hb0;have qo := hide (outT_calls (Nb : Int) (ib : Int) (.slice A' n' c') B' m' d' y eb wr _ _ hSBr.se (by omega) ⟨A', n', c', rfl⟩);have hkn2 := hide hkn;have hP0 := hide (hP.out.wide (mb' := i * 12600 + 12300 + 0) (by omega));clear v hSBr hD hb0 hkn hP hE;go_upto_region 23 with (first | ((try go_at_call 180); (with_reducible refine qo.out.mono ?_); rintro e w1 ⟨AF, nF, cF, rfl, hE, hnF, hb1⟩));have hP1 := hide (hP0.out.below hb1);have hnFl : nF ≤ 300 := by
      have h1 := hE.len;have h2 : (outE eb y).length ≤ eb.length := List.length_filter_le _ _;omega
     obtain ⟨zF, hzF⟩ : ∃ zF, zF = wr.heap.size := ⟨_, rfl⟩;rw [← hzF] at hE;have hE1 := hide hE;have hIp := hide (show PInv (stI la ea) (stI lb eb) sh (ia : Int) (ib : Int) (Na : Int) (Nb : Int) T L i from hI.out);clear hE hb1 hzF qo hI hP0 v0 v1 v2 v3 r3 g1 hTl
     go_loopw [101] (fun s101 wr => ∃ (j : Nat) (T : List (Int × Int)) (L : List Lk), j ≤ nF ∧ s101 = .int .i64 (j : Nat) ∧ Hid (PInv (stI la ea) (stI lb eb) sh (ia : Int) (ib : Int) (Na : Int) (Nb : Int) T L i) ∧ Hid (PSp w0 wr bl bp bn bt bm (x, y) L T (i * 12600 + 12300 + j)) ∧ Hid (T[i]? = some (x, y)) ∧ Hid (Own 3 ev wr zF 84 AF nF cF (outE eb y)) ∧ Hid (∀ e, e ∈ outE ea x → DoneA sh la lb eb x y L e) ∧ Hid (∀ e, e ∈ (outE eb y).take j → DoneB sh lb x y L e)) (fun s101 _ => nF - (intOf s101).toNat)
     case atStart => exact ⟨0, T, L, Nat.zero_le _, rfl, hIp, hP1, hxy, hE1, hDA, fun e he => (by simp at he)⟩
     case round =>
      clear hIp hP1 hxy hE1 hDA;obtain ⟨j, T, L, hj, rfl, hI, hP, hxy, hE, hDA, hD⟩ := hrel;have hTl := hI.out.few (by omega) (by omega);have hb0 := hP.out.bel
      by_cases hlt4 : j < nF
      ·obtain ⟨gE, oE, f, l, t, rfl, -, -, hgE, hx, p0, p1, p2, -⟩ := SlE.get (hE.out.sl flat_ev) hlt4
       have hme := outE_mem.1 (List.mem_of_getElem? hx);have hfx : f = y := hme.2;subst hfx;have hends := (hSB.out wr hb0).ends _ hme.1;have hlabs := (hSB.out wr hb0).labs _ hme.1;dsimp only at hends hlabs;obtain ⟨lk, rfl⟩ : ∃ lk : Nat, l = (lk : Int) := ⟨l.toNat, by omega⟩;have i0 : (0 : Int) ≤ (j : Int) := by omega
       have i1 : (j : Int) < (nF : Int) := by omega
       have j0 : (0 : Int) ≤ (lk : Int) := by omega
       have j1 : (lk : Int) < (n' : Int) := by omega
       obtain ⟨wA, hwA⟩ : ∃ wA, wA = wr.alloc (.cells #[.int .i64 f, .int .i64 (lk : Int), .int .i64 t] 84) := ⟨_, rfl⟩;obtain ⟨be, hbe⟩ : ∃ be, be = wr.heap.size := ⟨_, rfl⟩;have hbA : Below wr.heap.size wr wA := by rw [hwA]; exact bR.alloc zR _
       have ke : wA.heap[be]? = some (.cells #[.int .i64 f, .int .i64 (lk : Int), .int .i64 t] 84 (0, 0)) := by rw [hwA, hbe]; exact heap_alloc_new wr _
       have hPA := hide (hP.out.below hbA);have hEA := hide (hE.out.below hbA zR);have hb0A := hPA.out.bel;have e1 := (cell_of_row _ _ 1 _ _ (0, 0) ke).trans (show _ = some (Value.int .i64 (lk : Int)) from rfl);have u2 := (hUW.out wA hb0A).boxb.c2;obtain ⟨gs, os, s, e3, -, -, -, hs, ps, -⟩ := SlS.get (hSB.out wA hb0A).ss (show lk < n' by omega);have hsm := List.mem_of_getElem? hs;have qF := hide (hFW.out s (.inr hsm) wA hb0A);have hsu : Hid ((outE eb f).take (j + 1) = (outE eb f).take j ++ [(f, (lk : Int), t)]) := by show _ = _; rw [List.take_add_one, hx]; rfl
       have hst : Hid (stI lb eb f s t) := ⟨(lk : Int), hme.1, j0, by rw [Int.toNat_natCast]; exact hs⟩;have hsh := hide hs;have hxr := hI.out.rng _ (List.mem_of_getElem? hxy.out);dsimp only at hxr;have hke := hide ke;have hiT : i ≤ T.length := Nat.le_of_lt (List.getElem?_eq_some_iff.1 hxy.out).1;have hpm := hide (List.mem_of_getElem? hxy.out);have e3h := e3;clear hbA hb0A hx hme hs ke hb0 hE hP e3;go_upto_region 25 with fail;rw [← show wA = _ from hwA, ← hbe];replace hwA := hide hwA;replace hbe := hide hbe;clear p0 p1 p2;subst e3h;go_upto_region 26 with fail;clear u2 ps
       cases hshv : sh s with
       | false =>
        rw [hshv] at qF;replace qF := hide qF.out;have hstep : Hid (prodT (stI la ea) (stI lb eb) sh (x, f) s (x, t)) := .inr (.inl ⟨hshv, hst.out, rfl⟩);have hI2 := hide (hI.out.lead hpm.out hstep.out ⟨hxr.1, by dsimp only; omega⟩ hiT);have hDA2 : Hid (∀ e, e ∈ outE ea x → DoneA sh la lb eb x f (L ++ [((x, f), s, x, t)]) e) := fun e he => (hDA.out e he).more _
        have hD2 : Hid (∀ e, e ∈ (outE eb f).take (j + 1) → DoneB sh lb x f (L ++ [((x, f), s, x, t)]) e) := fun e he => by
         rw [hsu.out] at he
         rcases List.mem_append.1 he with he | he
         ·exact (hD.out e he).more _
         ·rw [List.mem_singleton.1 he]
          intro s2 hs2;dsimp only at hs2;rw [Int.toNat_natCast, hsh.out] at hs2;obtain rfl := Option.some.inj hs2;exact fun _ => List.mem_append_right _ (List.mem_singleton.2 rfl)
        have hT2 := hide (pre_get (addT_pre T (x, t)) hxy.out);clear hshv hstep hst hsu hsh hpm hD hDA hsm;go_upto_region 27 with (first | (go_simp; (with_reducible refine qF.out.mono ?_); rintro e w3 ⟨rfl, hb3⟩));have hP3 := hide (hPA.out.below hb3);have hE3 := hide (hEA.out.below hb3 zR);have ke3 := (hb3.block _ (blk_lt hke.out)).trans hke.out;have r2 := (cell_of_row _ _ 2 _ _ (0, 0) ke3).trans (show _ = some (Value.int .i64 t) from rfl);obtain ⟨r3, -⟩ := hP3.out.cells;dsimp only at r3;have qL := hide (hP3.out.lead x t s ⟨by omega, by omega⟩ hTl (by omega));clear hb3 ke3 e1 qF hPA hEA;go_wp2_with (first | (go_at_call 179; go_loud ((with_reducible refine qL.out.mono ?_); rintro e w4 ⟨rfl, hP4, hK4, hz4⟩)));have hP5 := hide (hP4.wide (mb' := i * 12600 + 12300 + (j + 1)) (by omega));have hE5 := hide (hK4.own hE3.out (by decide) (by decide) (by decide) (by decide));clear hP4 hK4 qL hP3 hE3;go_roundw
        case rel => exact ⟨j + 1, addT T (x, t), _, by omega, by go_num, hI2, hP5, hT2, hE5, hDA2, hD2⟩
        case measure => simp [intOf]; omega
       | true =>
        rw [hshv] at qF;replace qF := hide qF.out;have hD2 : Hid (∀ e, e ∈ (outE eb f).take (j + 1) → DoneB sh lb x f L e) := fun e he => by
         rw [hsu.out] at he
         rcases List.mem_append.1 he with he | he
         ·exact hD.out e he
         ·rw [List.mem_singleton.1 he]
          intro s2 hs2;dsimp only at hs2;rw [Int.toNat_natCast, hsh.out] at hs2;obtain rfl := Option.some.inj hs2;intro g;rw [hshv] at g
          cases g
        clear hshv hst hsu hsh hpm hD hsm e1;go_wp2_with (first | (go_simp; (with_reducible refine qF.out.mono ?_); rintro e w3 ⟨rfl, hb3⟩));have hP5 := hide ((hPA.out.below hb3).wide (mb' := i * 12600 + 12300 + (j + 1)) (by omega));have hE5 := hide (hEA.out.below hb3 zR);clear hb3 qF hPA hEA;go_roundw
        case rel => exact ⟨j + 1, T, L, by omega, by go_num, hI, hP5, hxy, hE5, hDA, hD2⟩
        case measure => simp [intOf]; omega
      ·have hjn : j = nF := by omega
       have hlen := hE.out.len;have hI2 := hide (hI.out.next hxy.out (done_all hDA.out fun e he => hD.out e (by rw [List.take_of_length_le (by omega)]; exact he)));have hP5 : Hid (PS0 w0 wr bl bn bt bm L T ((i + 1) * 12600)) := (hP.out.wide (mb' := (i + 1) * 12600) (by omega)).forget;have hiT := (List.getElem?_eq_some_iff.1 hxy.out).1;have g1 : ¬ (j : Int) < (nF : Int) := by omega
       have hlen2 := hide hlen;have hjn2 := hide hjn;clear hlen hjn hD hDA hP hI hE hxy hb0;go_wp2_with fail;go_roundw
       case rel => exact ⟨i + 1, T, L, by omega, by go_num, hI2, hP5⟩
       case measure => simp [intOf]; omega
  ·have hin : i = n0 := by omega
   have g1 : ¬ (i : Int) < (n0 : Int) := by omega
   have hTn : T.length = i := by omega
   have hrng := hide hI.out.rng;obtain ⟨S, hSs⟩ : ∃ S, S = sortP T := ⟨_, rfl⟩;have hSp : S.Perm T := by rw [hSs]; exact sortP_perm T
   have hPd := hI.out;rw [← hTn] at hPd;have hPd := hPd.prodL hSp;have hSn : Hid S.Nodup := hPd.nd;have hSl : S.length = n0 := by rw [hSp.length_eq]; omega
   have hSr : Hid (∀ p, p ∈ S → (0 ≤ p.1 ∧ p.1 < (Na : Int)) ∧ 0 ≤ p.2 ∧ p.2 < (Nb : Int)) := fun p hp => hrng.out p (hSp.mem_iff.1 hp)
   obtain ⟨ii, hii⟩ : ∃ ii, ii = S.idxOf ((ia : Int), (ib : Int)) := ⟨_, rfl⟩;have hini : Hid (S[ii]? = some ((ia : Int), (ib : Int))) := by rw [hii]; exact hPd.ini
   rw [← hii] at hPd;have hiil : ii < n0 := by have := (List.getElem?_eq_some_iff.1 hini.out).1; omega
   have hT0 := hI.out.ini;have hn16 : n0 ≤ 1600 := by omega
   have hn0p : 0 < n0 := by omega
   have hLs := hide (hI.out.snd);obtain ⟨gT, oT, x, y, hA0, -, -, hgT, hxy, p0, p1, -⟩ := SlT.get (hW.todo.sl flat_tv) hn0p;rw [hT0] at hxy;have hx0 : x = (ia : Int) := by injection hxy with h; injection h with h1 h2; exact h1.symm
   have hy0 : y = (ib : Int) := by injection hxy with h; injection h with h1 h2; exact h2.symm
   subst hx0 hy0;have hoT : oT = 0 := by
    rcases hW.todo.2.2 with ⟨hv, hz⟩ | ⟨g, cp, cur, hv, -⟩
    ·omega
    ·injection hv with e1 e2 e3
     rw [hA0] at e1;injection e1 with e1;injection e1
   subst hoT hA0;rw [Nat.zero_mul, Nat.add_zero] at p0 p1;have hbo : Hid (∀ q, (Value.slice (some (⟨gT, 0, none⟩ : Addr)) n0 c0).ownBlock = some q → q < wr.heap.size) := fun q e => (hW.todo.lt q e).2
   have hLl := hide (hW.links.len);obtain ⟨wF, hwF⟩ : ∃ wF, wF = wr.alloc (.cells #[.int .i64 (ia : Int), .int .i64 (ib : Int)] 192) := ⟨_, rfl⟩;obtain ⟨bf, hbf⟩ : ∃ bf, bf = wr.heap.size := ⟨_, rfl⟩;have hN0 : Hid (PNum w0 wF bl bf bn bt bm (ia : Int) (ib : Int) B0 m0 d0 L (some ⟨gT, 0, none⟩) n0 c0 T 0) := by show PNum _ _ _ _ _ _ _ _ _ _ _ _ _ _ _ _ _ _; rw [hwF, hbf]; exact hW.begin hk0 _ _
   have t1 := hN0.out.tcell;have qS := hide (sortP_calls hN0.out.todo (by omega));have hbo2 : Hid (some bf ≠ (Value.slice (some (⟨gT, 0, none⟩ : Addr)) n0 c0).ownBlock) := fun e => by
    have := hbo.out bf e.symm;omega
   have hin2 := hide hin;have hTn2 := hide hTn;have hSl2 := hide hSl;have hii2 := hide hii;replace hini := hide hini.out;replace hPd := hide hPd;replace hSp := hide hSp;clear hI hS hW hxy hT0 hin hTn hSl hii hTl;go_upto_region 30 with fail;rw [← show wF = _ from hwF, ← hbf];replace hwF := hide hwF;replace hbf := hide hbf;clear p0 p1 t0 g1;go_upto_region 31 with (first | ((try go_at_call 182); (with_reducible refine qS.out.mono ?_); rintro e wS ⟨rfl, hO, hg⟩));rw [← hSs] at hO;have hNS := hide (hN0.out.sort hg hO hbo2.out);replace hSs := hide hSs;have t2 := hNS.out.tcell;clear hO hg hN0 t1 qS hbo hbo2;go_upto_region 32 with fail
   go_loopw [131] (fun s131 wr => ∃ j : Nat, j ≤ n0 ∧ s131 = .int .i64 (j : Nat) ∧ Hid (PNum w0 wr bl bf bn bt bm (ia : Int) (ib : Int) B0 m0 d0 L (some ⟨gT, 0, none⟩) n0 c0 S j)) (fun s131 _ => n0 - (intOf s131).toNat)
   case atStart => exact ⟨0, Nat.zero_le _, rfl, hNS⟩
   case round =>
    clear hNS t2;obtain ⟨j, hj, rfl, hN⟩ := hrel
    by_cases hlt5 : j < n0
    ·obtain ⟨gQ, oQ, x, y, e0, -, -, -, hxy, p0, p1, -⟩ := SlT.get (hN.out.todo.sl flat_tv) hlt5
     injection e0 with e0;injection e0 with e0 e1;subst e0 e1;rw [Nat.zero_add] at p0 p1;have hxr := hSr.out _ (List.mem_of_getElem? hxy);dsimp only at hxr;have i0 : (0 : Int) ≤ (j : Int) := by omega
     have i1 : (j : Int) < (n0 : Int) := by omega
     obtain ⟨wB, hwB⟩ : ∃ wB, wB = wr.alloc (.cells #[.int .i64 x, .int .i64 y] 192) := ⟨_, rfl⟩;obtain ⟨bb, hbb⟩ : ∃ bb, bb = wr.heap.size := ⟨_, rfl⟩;have kb : wB.heap[bb]? = some (.cells #[.int .i64 x, .int .i64 y] 192 (0, 0)) := by rw [hwB, hbb]; exact heap_alloc_new wr _
     have hNB := hide (hN.out.below (show Below wr.heap.size wr wB by rw [hwB]; exact bR.alloc zR _));have nc := hNB.out.ncell;have b0 := (cell_of_row _ _ 0 _ _ (0, 0) kb).trans (show _ = some (Value.int .i64 x) from rfl);have b1 := (cell_of_row _ _ 1 _ _ (0, 0) kb).trans (show _ = some (Value.int .i64 y) from rfl);obtain ⟨wM', hup, hN2, hzM⟩ := hNB.out.step hxy hSn.out (fit_of (by omega) (by omega) (by omega) (by omega)) (by omega) (by omega);dsimp only at hup;replace hN2 := hide hN2;clear kb hN hxy;go_upto_region 34 with fail;rw [← show wB = _ from hwB, ← hbb];replace hwB := hide hwB;replace hbb := hide hbb;clear p0 p1;go_wp2_with fail;go_roundw
     case rel => exact ⟨j + 1, by omega, by go_num, hN2⟩
     case measure => simp [intOf]; omega
    ·have hjn : j = n0 := by omega
     have hNj := hN.out;rw [hjn] at hNj;have hNn : Hid (PNum w0 wr bl bf bn bt bm (ia : Int) (ib : Int) B0 m0 d0 L (some ⟨gT, 0, none⟩) n0 c0 S n0) := hNj;have hg1 : ¬ (j : Int) < (n0 : Int) := by omega
     have l1 := hNn.out.lcell;have hjn2 := hide hjn;have hEa := hide elem_arc;clear hN hNj hjn;go_upto_region 38 with fail
     go_loopw [24, 142] (fun s24 s142 wr => ∃ (k : Nat) (Q : Option Addr) (cq : Nat), k ≤ m0 ∧ s142 = .int .i64 (k : Nat) ∧ s24 = .slice Q k cq ∧ Hid (PNum w0 wr bl bf bn bt bm (ia : Int) (ib : Int) B0 m0 d0 L (some ⟨gT, 0, none⟩) n0 c0 S n0) ∧ Hid (Own 3 av wr w0.heap.size 204 Q k cq ((L.take k).map (arcP S)))) (fun _ s142 _ => m0 - (intOf s142).toNat)
     case atStart => exact ⟨0, none, 0, Nat.zero_le _, rfl, rfl, hNn, Own.nil_ _ _ _⟩
     case round =>
      clear hNn l1 hg1;obtain ⟨k, Q, cq, hk, rfl, rfl, hN, hQ⟩ := hrel
      by_cases hlt6 : k < m0
      ·obtain ⟨gL, oL, ⟨⟨x1, x2⟩, s, y1, y2⟩, hB0, -, -, -, hx, p0, p1, p2, p3, p4⟩ := SlLk.get (hN.out.links.sl flat_lkv) hlt6
       dsimp only at p0 p1 p2 p3 p4;subst hB0;have hl2 := hLs.out _ (List.mem_of_getElem? hx);have hm1 : (x1, x2) ∈ S := hSp.out.mem_iff.2 hl2.1;have hm2 : (y1, y2) ∈ S := hSp.out.mem_iff.2 hl2.2.1;have r1 := hSr.out _ hm1;have r2 := hSr.out _ hm2;dsimp only at r1 r2;obtain ⟨i1, hi1⟩ : ∃ i1, i1 = S.idxOf (x1, x2) := ⟨_, rfl⟩;obtain ⟨i2, hi2⟩ : ∃ i2, i2 = S.idxOf (y1, y2) := ⟨_, rfl⟩;have hs1 : S[i1]? = some (x1, x2) := by rw [hi1]; exact idx_at hm1
       have hs2 : S[i2]? = some (y1, y2) := by rw [hi2]; exact idx_at hm2
       have hi1n : i1 < n0 := by have := (List.getElem?_eq_some_iff.1 hs1).1; have := hSl2.out; omega
       have hi2n : i2 < n0 := by have := (List.getElem?_eq_some_iff.1 hs2).1; have := hSl2.out; omega
       have hes1 : Hid ((L.take (k + 1)).map (arcP S) = (L.take k).map (arcP S) ++ [((i1 : Int), s, (i2 : Int))]) := by
        show _ = _
        rw [map_take_succ _ hx, hi1, hi2]
        rfl
       have k0 : (0 : Int) ≤ (k : Int) := by omega
       have k1 : (k : Int) < (m0 : Int) := by omega
       obtain ⟨wE, hwE⟩ : ∃ wE, wE = wr.alloc (.cells #[.int .i64 x1, .int .i64 x2, .string s, .int .i64 y1, .int .i64 y2] 196) := ⟨_, rfl⟩;obtain ⟨be, hbe⟩ : ∃ be, be = wr.heap.size := ⟨_, rfl⟩;have hbE : Below wr.heap.size wr wE := by rw [hwE]; exact bR.alloc zR _
       obtain ⟨wD, hwD⟩ : ∃ wD, wD = wE.drew := ⟨_, rfl⟩;have hbD : Below wr.heap.size wr wD := hbE.trans (by rw [hwD]; exact bR.drew);have kd : wD.heap[be]? = some (.cells #[.int .i64 x1, .int .i64 x2, .string s, .int .i64 y1, .int .i64 y2] 196 (0, 0)) := by rw [hwD]; show wE.heap[be]? = _; rw [hwE, hbe]; exact heap_alloc_new wr _
       have hND := hide (hN.out.below hbD);have hS40 := hide (fun (W : World) (hN' : PNum w0 W bl bf bn bt bm (ia : Int) (ib : Int) (some ⟨gL, oL, none⟩) m0 d0 L (some ⟨gT, 0, none⟩) n0 c0 S n0) (ke : W.heap[be]? = some (.cells #[.int .i64 x1, .int .i64 x2, .string s, .int .i64 y1, .int .i64 y2] 196 (0, 0))) =>
        (show W.cell? ⟨bn, 0, none⟩ = some (.map (some bm)) ∧ W.cell? ⟨be, 0, none⟩ = some (.int .i64 x1) ∧ W.cell? ⟨be, 1, none⟩ = some (.int .i64 x2) ∧ W.cell? ⟨be, 2, none⟩ = some (.string s) ∧ W.cell? ⟨be, 3, none⟩ = some (.int .i64 y1) ∧ W.cell? ⟨be, 4, none⟩ = some (.int .i64 y2) ∧ (Instr.lookup 191 (.map (some bm)) (.agg #[.int .i64 x1, .int .i64 x2]) false).run Tryz.prog W = .ok (.int .i64 (i1 : Int)) W ∧ (Instr.lookup 191 (.map (some bm)) (.agg #[.int .i64 y1, .int .i64 y2]) false).run Tryz.prog W = .ok (.int .i64 (i2 : Int)) W from ⟨hN'.ncell, cR 0 ke, cR 1 ke, cR 2 ke, cR 3 ke, cR 4 ke, hN'.look hi1n hs1 (fit_of (by omega) (by omega) (by omega) (by omega)), hN'.look hi2n hs2 (fit_of (by omega) (by omega) (by omega) (by omega))⟩))
       have hSD := hide (hS40.out wD hND.out kd);obtain ⟨wL, hwL⟩ : ∃ wL, wL = wD.alloc (.cells #[.int .i64 (i1 : Int), .string s, .int .i64 (i2 : Int)] 204) := ⟨_, rfl⟩;have hbL : Below wD.heap.size wD wL := by rw [hwL]; exact bR.alloc zR _
       have hNL := hide (hND.out.below hbL);have keL := hide ((hbL.block _ (blk_lt kd)).trans kd);have hQL := hide (hQ.out.below (hbD.trans (hbL.mono hbD.size)) zR);have hlit : Hid (Sl 3 av wL 0 (wD.heap.size + 1) (some ⟨wD.heap.size, 0, none⟩) 1 [((i1 : Int), s, (i2 : Int))]) := by
        rw [hwL];exact Sl.lit1' (f := av) wD 204 ((i1 : Int), s, (i2 : Int)) #[.int .i64 (i1 : Int), .string s, .int .i64 (i2 : Int)] rfl 3 _ rfl
       have hsz : (k + 1) * 32 ≤ 140737488355328 := by omega
       have hza : w0.heap.size ≤ wL.heap.size := hNL.out.bel.size;replace hwL := hide hwL;replace hwD := hide hwD;replace hx := hide hx;clear hl2 hm1 hm2 r1 r2 hi1 hi2 hs1 hs2 hbE hbD kd hbL hN hQ hND;go_upto_region 40 with fail;rw [← show wE = _ from hwE, ← hbe];replace hwE := hide hwE;replace hbe := hide hbe;clear p0 p1 p2 p3 p4;refine lateT_begin (S := fun w' => w'.cell? ⟨bn, 0, none⟩ = some (.map (some bm)) ∧ w'.cell? ⟨be, 0, none⟩ = some (.int .i64 x1) ∧ w'.cell? ⟨be, 1, none⟩ = some (.int .i64 x2) ∧ w'.cell? ⟨be, 2, none⟩ = some (.string s) ∧ w'.cell? ⟨be, 3, none⟩ = some (.int .i64 y1) ∧ w'.cell? ⟨be, 4, none⟩ = some (.int .i64 y2) ∧ (Instr.lookup 191 (.map (some bm)) (.agg #[.int .i64 x1, .int .i64 x2]) false).run Tryz.prog w' = .ok (.int .i64 (i1 : Int)) w' ∧ (Instr.lookup 191 (.map (some bm)) (.agg #[.int .i64 y1, .int .i64 y2]) false).run Tryz.prog w' = .ok (.int .i64 (i2 : Int)) w') (st := 14) (by kernel_rfl) ?_;rw [← show wD = _ from hwD.out];have hS0 : (fun w' : World => w'.cell? ⟨bn, 0, none⟩ = some (.map (some bm)) ∧ w'.cell? ⟨be, 0, none⟩ = some (.int .i64 x1) ∧ w'.cell? ⟨be, 1, none⟩ = some (.int .i64 x2) ∧ w'.cell? ⟨be, 2, none⟩ = some (.string s) ∧ w'.cell? ⟨be, 3, none⟩ = some (.int .i64 y1) ∧ w'.cell? ⟨be, 4, none⟩ = some (.int .i64 y2) ∧ (Instr.lookup 191 (.map (some bm)) (.agg #[.int .i64 x1, .int .i64 x2]) false).run Tryz.prog w' = .ok (.int .i64 (i1 : Int)) w' ∧ (Instr.lookup 191 (.map (some bm)) (.agg #[.int .i64 y1, .int .i64 y2]) false).run Tryz.prog w' = .ok (.int .i64 (i2 : Int)) w') wD := hSD.out;refine tkB 0 [14] hS0 ?_;refine tkB 1 [14] hS0 ?_;refine tkB 2 [14] hS0 ?_;refine tkB 3 [14] hS0 ?_;refine tkB 4 [14] hS0 ?_;refine tkB 5 [14] hS0 ?_;refine tkB 6 [14] hS0 ?_;refine tkB 7 [14] hS0 ?_;refine tkB 8 [14] hS0 ?_;refine tkB 9 [14] hS0 ?_;refine tkB 10 [14] hS0 ?_;refine tkB 11 [14] hS0 ?_;refine lS 12 fun K hK => ?_
       go_simp;rw [← show wL = _ from hwL.out]
       refine hK.out _ _ (fun _ => hS40.out _ hNL.out keL.out) ?_;clear hK K;(try simp only [Act.put, sA, sB, sC]);refine lS 13 fun K hK => ?_
       refine step_appL (m := 1) (d := 1) (by rfl) (.tmp 146) (.tmp 158) (by rfl) hEa.out flat_av (by go_simp) hQL.out (by go_simp) hlit.out hsz hza ?_;intro A7 c7 w7 hown7 hgr7 hb7 hat7;have hN7 := hide (hNL.out.aside hQL.out hgr7);have ke7 := (hgr7.block _ (blk_lt keL.out) (hQL.out.otherK keL.out (by decide))).trans keL.out;refine hK.out _ _ (fun _ => hS40.out _ hN7.out ke7) ?_;clear hK K;(try simp only [Act.put, sA, sB, sC]);refine lS 14 fun K hK => ?_
       go_simp;refine hK.out _ _ nH ?_
       clear hK K;(try simp only [Act.put, sA, sB, sC]);refine lateT_done (by kernel_rfl) ?_ _;have hO9 := hown7;rw [← hes1.out] at hO9;replace hO9 := hide hO9;clear hown7 hgr7 hb7 hat7 hS0 hSD hS40 hNL hQL keL hlit ke7;go_wp2_with fail;go_roundw
       case rel => exact ⟨k + 1, A7, c7, by omega, by go_num, rfl, hN7, hO9⟩
       case measure => simp [intOf]; omega
      ·have hkm : k = m0 := by omega
       have hQ9 := hQ.out;rw [List.take_of_length_le (by have := hLl.out; omega)] at hQ9;obtain ⟨arcs, harcs⟩ : ∃ arcs, arcs = L.map (arcP S) := ⟨_, rfl⟩;have hPd2 := hPd.out;rw [← harcs] at hPd2 hQ9;replace hPd2 := hide hPd2;obtain ⟨wD, hwD⟩ : ∃ wD, wD = wr.drew := ⟨_, rfl⟩;have hbD : Below wr.heap.size wr wD := by rw [hwD]; exact bR.drew
       have hND := hide (hN.out.below hbD);obtain ⟨wC, hwC⟩ : ∃ wC, wC = wD.alloc (.cells #[.slice A n c, .slice A' n' c'] 24) := ⟨_, rfl⟩;have hbC : Below wD.heap.size wD wC := by rw [hwC]; exact bR.alloc zR _
       have hNC := hide (hND.out.below hbC);have hQC := hide (hQ9.below (hbD.trans (hbC.mono hbD.size)) zR);have ks : wC.heap[wD.heap.size]? = some (.cells #[.slice A n c, .slice A' n' c'] 24 (0, 0)) := by rw [hwC]; exact heap_alloc_new wD _
       have hqC := hide (concatS_calls wD.heap.size A n c A' n' c' la lb wC _ _ _ _ (cR 0 ks) (cR 1 ks) (Array.getElem?_eq_some_iff.1 ks).1 (hSA.out wC hNC.out.bel).ss (hSB.out wC hNC.out.bel).ss (by omega) (by omega));have hS42 := hide (fun (W : World) (hN' : PNum w0 W bl bf bn bt bm (ia : Int) (ib : Int) B0 m0 d0 L (some ⟨gT, 0, none⟩) n0 c0 S n0) => (show W.cell? ⟨bt, 0, none⟩ = some (.slice (some ⟨gT, 0, none⟩) n0 c0) ∧ W.cell? ⟨bn, 0, none⟩ = some (.map (some bm)) ∧ W.cell? ⟨bf, 0, none⟩ = some (.int .i64 (ia : Int)) ∧ W.cell? ⟨bf, 1, none⟩ = some (.int .i64 (ib : Int)) ∧ W.cell? ⟨w.heap.size, 2, none⟩ = some (.slice A n c) ∧ W.cell? ⟨w.heap.size + 1, 2, none⟩ = some (.slice A' n' c') ∧ (Instr.lookup 191 (.map (some bm)) (.agg #[.int .i64 (ia : Int), .int .i64 (ib : Int)]) false).run Tryz.prog W = .ok (.int .i64 (ii : Int)) W from ⟨hN'.tcell, hN'.ncell, hN'.fcells.1, hN'.fcells.2, (hUW.out W hN'.bel).boxa.c2, (hUW.out W hN'.bel).boxb.c2, hN'.look hiil hini.out (fit_of (by omega) (by omega) (by omega) (by omega))⟩));have hSD := hide (hS42.out wD hND.out);have hg3 : ¬ (k : Int) < (m0 : Int) := by omega
       have hz6' : w0.heap.size ≤ wC.heap.size := hNC.out.bel.size;replace hwC := hide hwC;replace hwD := hide hwD;replace harcs := hide harcs;replace hkm := hide hkm;have hkb : k ≤ 100000000 := by omega
       clear ks hbD hbC hQ9 hN hQ hND;go_upto_region 42 with fail;refine lateT_begin (S := fun w' => w'.cell? ⟨bt, 0, none⟩ = some (.slice (some ⟨gT, 0, none⟩) n0 c0) ∧ w'.cell? ⟨bn, 0, none⟩ = some (.map (some bm)) ∧ w'.cell? ⟨bf, 0, none⟩ = some (.int .i64 (ia : Int)) ∧ w'.cell? ⟨bf, 1, none⟩ = some (.int .i64 (ib : Int)) ∧ w'.cell? ⟨w.heap.size, 2, none⟩ = some (.slice A n c) ∧ w'.cell? ⟨w.heap.size + 1, 2, none⟩ = some (.slice A' n' c') ∧ (Instr.lookup 191 (.map (some bm)) (.agg #[.int .i64 (ia : Int), .int .i64 (ib : Int)]) false).run Tryz.prog w' = .ok (.int .i64 (ii : Int)) w') (st := 13) (by kernel_rfl) ?_;rw [← show wD = _ from hwD.out];have hS0 : (fun w' : World => w'.cell? ⟨bt, 0, none⟩ = some (.slice (some ⟨gT, 0, none⟩) n0 c0) ∧ w'.cell? ⟨bn, 0, none⟩ = some (.map (some bm)) ∧ w'.cell? ⟨bf, 0, none⟩ = some (.int .i64 (ia : Int)) ∧ w'.cell? ⟨bf, 1, none⟩ = some (.int .i64 (ib : Int)) ∧ w'.cell? ⟨w.heap.size, 2, none⟩ = some (.slice A n c) ∧ w'.cell? ⟨w.heap.size + 1, 2, none⟩ = some (.slice A' n' c') ∧ (Instr.lookup 191 (.map (some bm)) (.agg #[.int .i64 (ia : Int), .int .i64 (ib : Int)]) false).run Tryz.prog w' = .ok (.int .i64 (ii : Int)) w') wD := hSD.out;refine tkB 0 [13] hS0 ?_;refine tkB 1 [13] hS0 ?_;refine tkB 2 [13] hS0 ?_;refine tkB 3 [13] hS0 ?_;refine tkB 4 [13] hS0 ?_;refine tkB 5 [13] hS0 ?_;refine tkB 6 [13] hS0 ?_;refine tkB 7 [13] hS0 ?_;refine tkB 8 [13] hS0 ?_;refine tkB 11 [13] hS0 ?_;refine lS 9 fun K hK => ?_
       go_simp;rw [← show wC = _ from hwC.out]
       refine hK.out _ _ (fun _ => hS42.out _ hNC.out) ?_;clear hK K;(try simp only [Act.put, sA, sB, sC]);refine lS 10 fun K hK => ?_
       go_simp;go_at_call 155
       refine hqC.out.mono ?_;rintro e w6 ⟨A6, c6, rfl, hO6, hb6⟩;have hN6 := hide (hNC.out.below hb6);have hsl6 := hide (hO6.sl flat_strv);have hz6 := hb6.size;have hQ6 := hide (hQC.out.below hb6 zR);go_wp2_with fail;refine hK.out _ _ (fun _ => hS42.out _ hN6.out) ?_;clear hK K;(try simp only [Act.put, sA, sB, sC]);refine lS 12 fun K hK => ?_
       have hqL := hide (ltsC_calls (n0 : Int) (ii : Int) A6 (n + n') c6 (la ++ lb) Q k cq arcs w6 _ _ _ _ hsl6.out zR (by omega) (hQ6.out.sl flat_av) zR (by omega));go_simp;go_at_call 134;refine hqL.out.mono ?_;rintro e w7 ⟨A2, n2, c2, A3, n3, c3, rfl, hS7, hO7, hb7, hn2⟩;have hN7 := hide (hN6.out.below hb7);have hU7 := hide (hUW.out w7 hN7.out.bel);have hS7 := hide hS7;have hO7 := hide hO7;have r0 := hU7.out.res.c0;have r1 := hU7.out.res.c1;have r2 := hU7.out.res.c2;have r3 := hU7.out.res.c3;have v0 := hU7.out.res.f0;have v1 := hU7.out.res.f1;have v2 := hU7.out.res.f2;have v3 := hU7.out.res.f3;go_wp2_with fail;refine hK.out _ _ (fun _ => hS42.out _ hN7.out) ?_;clear hK K;(try simp only [Act.put, sA, sB, sC]);refine lS 13 fun K hK => ?_
       go_simp;refine hK.out _ _ nH ?_
       clear hK K;(try simp only [Act.put, sA, sB, sC]);refine lateT_done (by kernel_rfl) ?_ _;go_wp2_with fail
       (try simp only [Exit.inBlock, Exit.then])
       refine bodyPost_ret_by (v := .agg #[.int .i64 (n0 : Int), .int .i64 (ii : Int), .slice A2 n2 c2, .slice A3 n3 c3]) ?_ rfl ?_
       focus
        rw [results_cell1 rfl];go_simp
       have hZs := put4_size w7 (w.heap.size + 1 + 1) (.int .i64 (n0 : Int)) (.int .i64 (ii : Int)) (.slice A2 n2 c2) (.slice A3 n3 c3);have hz67 := hb7.size;have hb77 := hU7.out.bel;have hf : ∀ q, q ≠ w.heap.size + 1 + 1 → (put4 w7 (w.heap.size + 1 + 1) (.int .i64 (n0 : Int)) (.int .i64 (ii : Int)) (.slice A2 n2 c2) (.slice A3 n3 c3)).heap[q]? = w7.heap[q]? := fun q hq => put4_other _ _ _ _ _ _ hq
       refine ⟨S, arcs, ii, A2, n2, c2, A3, n3, c3, by rw [hSl2.out], hPd2.out, by rw [hSl2.out]; omega, ?_, ?_, ?_, hn2⟩
       ·change SlS (put4 w7 (w.heap.size + 1 + 1) _ _ _ _) _ (put4 w7 (w.heap.size + 1 + 1) _ _ _ _).heap.size _ _ _
        exact (Sl.keep hS7.out (by omega) fun q h1 h2 h3 => hf q (by omega)).more (by omega) (by omega)
       ·change Own 3 ev (put4 w7 (w.heap.size + 1 + 1) _ _ _ _) _ _ _ _ _ _
        exact (hO7.out.keep fun q hq => hf q (by have := (hO7.out.lt q hq).1; omega)).sink (by omega)
       ·change Below _ _ (put4 w7 (w.heap.size + 1 + 1) _ _ _ _)
        exact ⟨hb77.os, hb77.tape, hb77.output, by have := hb77.size; omega, fun q hq => (hf q (by omega)).trans (hb77.block q hq)⟩
theorem sub_sum {α : Type} [DecidableEq α] (f : α → Nat) : ∀ {J M : List α}, J.Nodup → (∀ x, x ∈ J → x ∈ M) → (J.map f).sum ≤ (M.map f).sum
 | [], M, _, _ => Nat.zero_le _
 | x :: J, M, hn, hs => by
  have hx := hs x (List.mem_cons_self ..);have hp := List.perm_cons_erase hx;have h0 := List.nodup_cons.1 hn;have h1 := sub_sum f (J := J) (M := M.erase x) h0.2 fun y hy => (List.mem_erase_of_ne (a := y) (b := x) (fun e => h0.1 (by rw [← e]; exact hy))).2 (hs y (List.mem_cons_of_mem _ hy))
  have h2 := (hp.map f).sum_nat;rw [h2];simp only [List.map_cons, List.sum_cons];omega
def labT (ls : List ByteArray) (e : Ed) : ByteArray := ls[e.2.1.toNat]?.getD ByteArray.empty
def stepsP (la lb : List ByteArray) (ea eb : List Ed) : List Lk :=
 (ea.flatMap fun e => (List.range 40).map fun y : Nat => ((e.1, (y : Int)), labT la e, (e.2.2, (y : Int)))) ++ ((eb.flatMap fun e => (List.range 40).map fun x : Nat => (((x : Int), e.1), labT lb e, ((x : Int), e.2.2))) ++
  (ea.flatMap fun e => eb.map fun f => ((e.1, f.1), labT la e, (e.2.2, f.2.2))))
theorem flatLen {α β : Type} (l : List α) (f : α → List β) (k : Nat) (h : ∀ x, x ∈ l → (f x).length = k) : (l.flatMap f).length = l.length * k := by
 induction l with
 | nil => simp
 | cons x l ih =>
  rw [List.flatMap_cons, List.length_append, h x (List.mem_cons_self ..), ih fun y hy => h y (List.mem_cons_of_mem _ hy), List.length_cons, Nat.add_mul];omega
theorem stepsP_len {la lb : List ByteArray} {ea eb : List Ed} (ha : ea.length ≤ 300) (hb : eb.length ≤ 300) : (stepsP la lb ea eb).length ≤ 114000 := by
 unfold stepsP;rw [List.length_append, List.length_append, flatLen ea _ 40 (fun x _ => by simp), flatLen eb _ 40 (fun x _ => by simp), flatLen ea _ eb.length (fun x _ => by simp)];have : ea.length * eb.length ≤ 300 * 300 := Nat.mul_le_mul ha hb;omega
section
variable {Na ia Nb ib : Int} {la lb : List ByteArray} {ea eb : List Ed} {sh : ByteArray → Bool} {W : List (Int × Int)} {arcs : List Arc} {i : Nat}
theorem stI_range {N : Int} {ls : List ByteArray} {es : List Ed} {ini x y : Int} {s : ByteArray} (v : ltsV (N, ini, ls, es) = true) (h : stI ls es x s y) : (0 ≤ x ∧ x < N) ∧ 0 ≤ y ∧ y < N := by
 obtain ⟨l, h1, -⟩ := h;have := (ltsV_edge v).1 _ h1;exact ⟨this.1, this.2.2⟩
theorem prod_rng (va : ltsV (Na, ia, la, ea) = true) (vb : ltsV (Nb, ib, lb, eb) = true) (h : ProdL (stI la ea) (stI lb eb) sh ia ib W arcs i) : ∀ p, p ∈ W → (0 ≤ p.1 ∧ p.1 < Na) ∧ 0 ≤ p.2 ∧ p.2 < Nb := by
 have h1 := (ltsV_edge va).2;have h2 := (ltsV_edge vb).2;refine h.min _ ⟨⟨by dsimp only; omega, by dsimp only; omega⟩, by dsimp only; omega, by dsimp only; omega⟩ fun p s q hp hq => ?_
 rcases hq with ⟨-, g1, g2⟩ | ⟨-, g1, g2⟩ | ⟨-, g1, g2⟩
 ·exact ⟨(stI_range va g1).2, by rw [g2]; exact hp.2⟩
 ·exact ⟨by rw [g2]; exact hp.1, (stI_range vb g1).2⟩
 ·exact ⟨(stI_range va g1).2, (stI_range vb g2).2⟩
theorem stI_labT {ls : List ByteArray} {es : List Ed} {x y : Int} {s : ByteArray} (h : stI ls es x s y) : ∃ l : Int, (x, l, y) ∈ es ∧ labT ls (x, l, y) = s := by
 obtain ⟨l, h1, h2, h3⟩ := h;refine ⟨l, h1, ?_⟩;unfold labT;dsimp only;rw [h3]
 rfl
theorem prod_steps (va : ltsV (Na, ia, la, ea) = true) (vb : ltsV (Nb, ib, lb, eb) = true) (ha : Na ≤ 40) (hb : Nb ≤ 40) (h : ProdL (stI la ea) (stI lb eb) sh ia ib W arcs i) (a : Arc) (hm : a ∈ arcs) : ∃ l, l ∈ stepsP la lb ea eb ∧ a = arcP W l := by
 obtain ⟨f, s, t⟩ := a;obtain ⟨k, m, p, q, rfl, rfl, h1, h2, h3⟩ := (h.is f s t).1 hm;have hr := prod_rng va vb h p (List.mem_of_getElem? h1);refine ⟨(p, s, q), ?_, ?_⟩
 ·obtain ⟨p1, p2⟩ := p
  obtain ⟨q1, q2⟩ := q;dsimp only at hr;unfold stepsP
  rcases h3 with ⟨-, g1, g2⟩ | ⟨-, g1, g2⟩ | ⟨-, g1, g2⟩
  ·dsimp only at g1 g2
   obtain ⟨l, e1, e2⟩ := stI_labT g1;refine List.mem_append_left _ (List.mem_flatMap.2 ⟨_, e1, List.mem_map.2 ⟨p2.toNat, List.mem_range.2 (by omega), ?_⟩⟩);rw [e2, g2, Int.toNat_of_nonneg hr.2.1]
  ·dsimp only at g1 g2
   obtain ⟨l, e1, e2⟩ := stI_labT g1;refine List.mem_append_right _ (List.mem_append_left _ (List.mem_flatMap.2 ⟨_, e1, List.mem_map.2 ⟨p1.toNat, List.mem_range.2 (by omega), ?_⟩⟩));rw [e2, g2, Int.toNat_of_nonneg hr.1.1]
  ·dsimp only at g1 g2
   obtain ⟨l, e1, e2⟩ := stI_labT g1;obtain ⟨l', e3, -⟩ := stI_labT g2;refine List.mem_append_right _ (List.mem_append_right _ (List.mem_flatMap.2 ⟨_, e1, List.mem_map.2 ⟨_, e3, ?_⟩⟩));rw [e2]
 ·unfold arcP
  dsimp only;rw [nd_idx h.nd (idx_at (List.mem_of_getElem? h1)) h1, nd_idx h.nd (idx_at (List.mem_of_getElem? h2)) h2]
theorem prod_few (va : ltsV (Na, ia, la, ea) = true) (vb : ltsV (Nb, ib, lb, eb) = true) (ha : Na ≤ 40) (hb : Nb ≤ 40) (ha2 : ea.length ≤ 300) (hb2 : eb.length ≤ 300) (h : ProdL (stI la ea) (stI lb eb) sh ia ib W arcs i) : (ltsEs (la ++ lb) arcs).length ≤ 114000 := by
 have h1 := sub_lenG (rise_nodup (ltsEs_rise (la ++ lb) arcs)) (M := (stepsP la lb ea eb).map fun l => arcD (joiF (la ++ lb)) (arcP W l)) fun e he => by
  obtain ⟨a, ha, rfl⟩ := ltsEs_mem.1 he;obtain ⟨l, hl, rfl⟩ := prod_steps va vb ‹_› hb h a ha;exact List.mem_map.2 ⟨l, hl, rfl⟩
 rw [List.length_map] at h1;exact Nat.le_trans h1 (stepsP_len ha2 hb2)
end
theorem av_set1 (l : List Arc) (k : Nat) (f t : Int) (s s' : ByteArray) (hk : l[k]? = some (f, s, t)) : (l.set k (f, s', t)).flatMap av = (l.flatMap av).set (k * 3 + 1) (.string s') := by
 induction l generalizing k with
 | nil => simp at hk
 | cons a l ih =>
  cases k with
  | zero =>
   simp at hk
   subst hk
   rfl
  | succ k =>
   simp at hk
   have := ih k hk;simp only [List.set_cons_succ, List.flatMap_cons, this];obtain ⟨x, y, z⟩ := a;rw [show (k + 1) * 3 + 1 = k * 3 + 1 + 1 + 1 + 1 by omega]
   rfl
theorem Own.setA1 {w : World} {base g n c : Nat} {e : TypeId} {l : List Arc} (h : Own 3 av w base e (some ⟨g, 0, none⟩) n c l) {k : Nat} {f t : Int} {s : ByteArray} (hk : l[k]? = some (f, s, t)) (s' : ByteArray) :
  Own 3 av (w.setCell ⟨g, k * 3 + 1, none⟩ (.string s')) base e (some ⟨g, 0, none⟩) n c (l.set k (f, s', t)) := by
 rcases h.2.2 with ⟨hv, -⟩ | ⟨g', cap, cur, hv, hb, hg, hnc, hcm, hcs, htake⟩
 ·cases hv
 ·cases hv
  have h1 := heap_setCell_same w g (k * 3 + 1) cur _ (.string s') hg;refine ⟨by rw [List.length_set]; exact h.1, by rw [flat_length flat_av, List.length_set]; have := h.1; omega, .inr ⟨g, c, _, rfl, hb, h1, hnc, hcm, by simpa using hcs, ?_⟩⟩;rw [Array.toList_setIfInBounds, List.take_set, htake];exact (av_set1 l k f t s s' hk).symm
theorem Own.neA {w : World} {base e n c : Nat} {A : Option Addr} {l : List Arc} (h : Own 3 av w base e A n c l) (hn : 0 < n) : ∃ g cur, A = some ⟨g, 0, none⟩ ∧ base ≤ g ∧ w.heap[g]? = some (.cells cur e (0, 0)) := by
 rcases h.2.2 with ⟨hv, h0⟩ | ⟨g', cap, cur, hv, hb, hg, -⟩
 ·omega
 ·cases hv
  exact ⟨g', cur, rfl, hb, hg⟩
def turnK (hd : ByteArray → ByteArray) (k : Nat) (l : List Arc) : List Arc := (l.take k).map (fun a => (a.1, hd a.2.1, a.2.2)) ++ l.drop k
theorem turnK_at {hd : ByteArray → ByteArray} {k : Nat} {l : List Arc} (hk : k < l.length) : (turnK hd k l)[k]? = l[k]? := by
 unfold turnK;rw [List.getElem?_append_right (by rw [List.length_map, List.length_take]; omega), List.length_map, List.length_take, List.getElem?_drop]
 congr 1
 omega
theorem turnK_succ {hd : ByteArray → ByteArray} {k : Nat} {l : List Arc} {f t : Int} {s : ByteArray} (hx : l[k]? = some (f, s, t)) : (turnK hd k l).set k (f, hd s, t) = turnK hd (k + 1) l := by
 have hlt := (List.getElem?_eq_some_iff.1 hx).1;unfold turnK;rw [List.set_append_right _ _ (by rw [List.length_map, List.length_take]; omega), List.length_map, List.length_take, Nat.min_eq_left (by omega), Nat.sub_self, List.take_add_one, hx, List.map_append, List.append_assoc, List.drop_eq_getElem_cons hlt]
 rfl
theorem turnK_all {hd : ByteArray → ByteArray} {k : Nat} {l : List Arc} (h : l.length ≤ k) : turnK hd k l = l.map fun a => (a.1, hd a.2.1, a.2.2) := by
 unfold turnK;rw [List.take_of_length_le h, List.drop_eq_nil_of_le h, List.append_nil]
theorem relabel_calls {w : World} {N ini : Nat} {A : Option Addr} {n : Nat} {B : Option Addr} {m : Nat} {ls : List ByteArray} {es : List Ed} (h : SysA w N ini A n B m ls es) (c d : Nat) (F : FuncId) (caps : Array Value) (hd : ByteArray → ByteArray)
  (hF : ∀ (v : Value) (W : World), Sem.run Tryz.prog (callFunc F (#[v] ++ caps)) W = .ok (.enter F (#[v] ++ caps)) W)
  (hFc : ∀ (s : ByteArray), s ∈ ls → ∀ (W : World), Below w.heap.size w W → Calls Tryz.prog F (#[.string s] ++ caps) W fun e w' => e = .returned (.string (hd s)) ∧ Below W.heap.size W w') :
  Calls Tryz.prog 187 #[.agg #[.int .i64 (N : Int), .int .i64 (ini : Int), .slice A n c, .slice B m d], .func (.func F) #[] caps] w fun e w' => ∃ A2 n2 c2 A3 n3 c3, e = .returned (.agg #[.int .i64 (N : Int), .int .i64 (ini : Int), .slice A2 n2 c2, .slice A3 n3 c3]) ∧
   SlS w' w.heap.size w'.heap.size A2 n2 (trnL hd ls) ∧ SlE w' w.heap.size w'.heap.size A3 n3 (trnE hd ls es) ∧ Below w.heap.size w w' := by
 have hEs := hide elem_str;obtain ⟨hm, hn12, hn1, hle, hll⟩ := h.many;obtain ⟨w1, hw1⟩ : ∃ w1, w1 = (w.alloc (ltsC N ini A n c B m d)).alloc (.cells #[.int .i64 0, .int .i64 0, .slice none 0 0, .slice none 0 0] 27) := ⟨_, rfl⟩;have z1 : (w.alloc (ltsC N ini A n c B m d)).heap.size = w.heap.size + 1 := World.size_alloc _ _;have hbx : LtsBox w1 w.heap.size (N : Int) (ini : Int) A n c B m d := by rw [hw1]; exact (Below.heap_alloc _ _ _ (by omega)).trans (heap_alloc_new w _)
 have hrs : LtsBox w1 (w.heap.size + 1) 0 0 none 0 0 none 0 0 := by rw [hw1, ← z1]; exact heap_alloc_new _ _
 have hb1 : Below w.heap.size w w1 := by rw [hw1]; exact (bR.alloc zR _).alloc (by omega) _
 have hz1 : w1.heap.size = w.heap.size + 2 := by rw [hw1, World.size_alloc, z1]
 have hS1 := h.below hb1 zR;have hqA := hide (fun (W : World) (hW : Below w1.heap.size w1 W) => arcs_calls (hS1.below hW zR) c d);have hSl := hide hS1.ss;have hFc1 := hide (fun (s : ByteArray) (hs : s ∈ ls) (W : World) (hW : Below w1.heap.size w1 W) => hFc s hs W (hb1.trans (hW.mono hb1.size)));have hBX := hide (fun (W : World) (hW : Below w1.heap.size w1 W) => (show LtsBox W w.heap.size (N : Int) (ini : Int) A n c B m d ∧ LtsBox W (w.heap.size + 1) 0 0 none 0 0 none 0 0 from ⟨hbx.below hW hbx.lt, hrs.below hW hrs.lt⟩));have hbl := hide hb1;have hlab := hide (fun e he => h.labs e he);have x0 := hbx.c0;have x1 := hbx.c1;have x2 := hbx.c2;have x3 := hbx.c3;replace hle := hide hle;replace hll := hide hll;clear h hb1 hS1 hFc hbx hrs;go_enter Tryz.func187, Tryz.ntmps187;go_upto_region 1 with fail;rw [show (w.alloc (.cells #[.int .i64 (N : Int), .int .i64 (ini : Int), .slice A n c, .slice B m d] 27)).alloc (.cells #[.int .i64 0, .int .i64 0, .slice none 0 0, .slice none 0 0] 27) = w1 from hw1.symm];replace hw1 := hide hw1;go_upto_region 3 with fail
 go_loopw [5, 14] (fun v5 v14 wr => ∃ (k : Nat) (A5 : Option Addr) (c5 : Nat), k ≤ n ∧ v14 = .int .i64 (k : Nat) ∧ v5 = .slice A5 k c5 ∧ Hid (Own 1 strv wr w1.heap.size 9 A5 k c5 ((ls.take k).map hd)) ∧ Hid (Below w1.heap.size w1 wr)) (fun _ v14 _ => n - (intOf v14).toNat)
 case atStart => exact ⟨0, none, 0, Nat.zero_le _, rfl, rfl, Own.nil_ _ _ _, bR⟩
 case round =>
  clear x0 x1 x2 x3;obtain ⟨k, A5, c5, hk, rfl, rfl, hO, hb⟩ := hrel;have hzr := hb.out.size
  by_cases hlt : k < n
  ·obtain ⟨gs, os, s, rfl, -, -, hgs, hx, p0, -⟩ := SlS.get (hSl.out.below hb.out (.inr zR)) hlt
   have hms := List.mem_of_getElem? hx;have hsu : Hid ((ls.take (k + 1)).map hd = (ls.take k).map hd ++ [hd s]) := by
    show _ = _
    rw [List.take_add_one, hx, List.map_append]
    rfl
   have i0 : (0 : Int) ≤ (k : Int) := by omega
   have i1 : (k : Int) < (n : Int) := by omega
   have q := hide (hFc1.out s hms wr hb.out);have hsz : (k + 1) * 16 ≤ 140737488355328 := by omega
   replace hx := hide hx;clear hms;go_upto_region 5 with fail;clear p0;go_wp2_with fail;refine q.out.mono ?_;rintro e w3 ⟨rfl, hb3⟩;have hO3 := hide ((hO.out.below hb3 zR).alloc (.cells #[.string (hd s)] 9));have hb3' := hide (hb.out.trans ((hb3.trans ((Below.refl w3.heap.size w3).alloc zR (.cells #[.string (hd s)] 9) |>.mono hb3.size)).mono hzr));have hlit := hide (Sl.lit1' (f := strv) w3 9 (hd s) #[.string (hd s)] rfl 1 _ rfl);have hza := hb3'.out.size;clear hb3 q;go_wp2_with (first | (at_builtin; (with_reducible refine wpList_app rfl (.tmp 18) (.tmp 22) rfl hEs.out flat_strv rfl hO3.out rfl hlit.out hsz hza ?_); intro A6 c6 w6 hown6 hgr6 hb6 hat6));have hO6 : Hid (Own 1 strv w6 w1.heap.size 9 A6 (k + 1) c6 ((ls.take (k + 1)).map hd)) := by show Own _ _ _ _ _ _ _ _ _; rw [hsu.out]; exact hown6
   have hb6' := hide (hb3'.out.trans hb6);clear hgr6 hb6 hat6 hown6;go_roundw
   case rel => exact ⟨k + 1, A6, c6, by omega, by go_num, rfl, hO6, hb6'⟩
   case measure => simp [intOf]; omega
  ·obtain rfl : k = n := by omega
   have hO9 := hO.out;rw [List.take_of_length_le (by rw [hll.out]; exact zR)] at hO9;replace hO9 := hide hO9;obtain ⟨hbxr, -⟩ := hBX.out wr hb.out;have y0 := hbxr.c0;have y1 := hbxr.c1;have y2 := hbxr.c2;have y3 := hbxr.c3;have qA := hide (hqA.out wr hb.out);clear hO hbxr;go_upto_region 8 with (first | (go_at_call 133; (with_reducible refine qA.out.mono ?_); rintro e w4 ⟨Q, cq, rfl, hOA, hb4⟩));have hO4 := hide (hO9.out.below hb4 zR);have hb44 := hide (hb.out.trans (hb4.mono hzr));have hOA4 : Hid (Own 3 av w4 wr.heap.size 204 Q m cq (turnK hd 0 (es.map (arcOf ls)))) := by show Own _ _ _ _ _ _ _ _ _; exact hOA
   have hap : Hid (∀ q, (Value.slice A5 k c5).ownBlock = some q → q < wr.heap.size) := fun q hq => (hO9.out.lt q hq).2
   have hz4 := hb4.size;clear y0 y1 y2 y3 qA hb4 hOA hO9;obtain ⟨zb, hzb⟩ : ∃ zb, zb = wr.heap.size := ⟨_, rfl⟩;rw [← hzb] at hOA4;have hz1b : w1.heap.size ≤ zb := by omega
   replace hzb := hide hzb;go_upto_region 9 with fail
   go_loopw [29] (fun v29 wx => ∃ j : Nat, j ≤ m ∧ v29 = .int .i64 (j : Nat) ∧ Hid (Own 3 av wx zb 204 Q m cq (turnK hd j (es.map (arcOf ls)))) ∧ Hid (Own 1 strv wx w1.heap.size 9 A5 k c5 (ls.map hd)) ∧ Hid (Below w1.heap.size w1 wx)) (fun v29 _ => m - (intOf v29).toNat)
   case atStart => exact ⟨0, Nat.zero_le _, rfl, hOA4, hO4, hb44⟩
   case round =>
    clear hOA4 hO4 hb44 hap hb hz4;obtain ⟨j, hj, rfl, hOA, hO, hb⟩ := hrel;have hzr := hb.out.size
    by_cases hlt : j < m
    ·obtain ⟨gq, cur, rfl, hgb, hgc⟩ := hOA.out.neA (by omega)
     obtain ⟨gq', oq, x, y, z, e1, -, -, hgl, hx, p0, p1, p2⟩ := SlA.get (hOA.out.sl flat_av) hlt;injection e1 with e1;injection e1 with e1 e2;subst e1 e2;rw [Nat.zero_add] at p0 p1 p2;have hxm : Hid ((es.map (arcOf ls))[j]? = some (x, y, z)) := by show _ = _; rw [← hx, turnK_at (by rw [List.length_map, hle.out]; exact hlt)]
     have hyl : y ∈ ls := by
      have h1 := hxm.out;rw [List.getElem?_map] at h1;obtain ⟨e, he, h2⟩ := Option.map_eq_some_iff.1 h1;have h3 := arcOf_mem (hlab.out e (List.mem_of_getElem? he));rw [h2] at h3;exact h3
     have i0 : (0 : Int) ≤ (j : Int) := by omega
     have i1 : (j : Int) < (m : Int) := by omega
     obtain ⟨wA, hwA⟩ : ∃ wA, wA = wr.alloc (.cells #[.int .i64 x, .string y, .int .i64 z] 204) := ⟨_, rfl⟩;have hbA : Below wr.heap.size wr wA := by rw [hwA]; exact bR.alloc zR _
     have ka : wA.heap[wr.heap.size]? = some (.cells #[.int .i64 x, .string y, .int .i64 z] 204 (0, 0)) := by rw [hwA]; exact heap_alloc_new wr _
     have e1 := (cell_of_row _ _ 1 _ _ (0, 0) ka).trans (show _ = some (Value.string y) from rfl);have hbA1 := hide (hb.out.trans (hbA.mono hzr));have hOAA := hide (hOA.out.below hbA zR);have hOA1 := hide (hO.out.below hbA zR);have q := hide (hFc1.out y hyl wA hbA1.out);replace hx := hide hx;clear hbA ka hyl;go_upto_region 11 with fail;rw [← show wA = _ from hwA];replace hwA := hide hwA;clear p0 p1 p2;go_wp2_with fail;refine q.out.mono ?_;rintro e w5 ⟨rfl, hb5⟩;have hOA5 := hide (hOAA.out.below hb5 zR);have hO5 := hide (hOA1.out.below hb5 zR);have hb55 := hide (hbA1.out.trans (hb5.mono hbA1.out.size));obtain ⟨gq2, cur2, e3, -, hgc2⟩ := hOA5.out.neA (by omega);injection e3 with e3;injection e3 with e3;subst e3;obtain ⟨gq3, oq3, x3, y3, z3, e4, -, -, -, -, -, r1, -⟩ := SlA.get (hOA5.out.sl flat_av) hlt;injection e4 with e4;injection e4 with e4 e5;subst e4 e5;rw [Nat.zero_add] at r1;have f1 : w5.frozen? ⟨gq, j * 3 + 1, none⟩ = false := frozen_of_row _ _ _ _ _ hgc2;replace hgc2 := hide hgc2;clear hb5 q e1;have hOA6 : Hid (Own 3 av (w5.setCell ⟨gq, j * 3 + 1, none⟩ (.string (hd y))) zb 204 (some ⟨gq, 0, none⟩) m cq (turnK hd (j + 1) (es.map (arcOf ls)))) := by
      show Own _ _ _ _ _ _ _ _ _
      rw [← turnK_succ hxm.out];exact hOA5.out.setA1 hx.out (hd y)
     have hO6 := hide (hO5.out.asideL (j := j * 3 + 1) (hO5.out.otherK hgc2.out (by decide)) (.string (hd y)));have hb6 := hide (hb55.out.setCell (p := ⟨gq, j * 3 + 1, none⟩) (Nat.le_trans hz1b hgb) (.string (hd y)));clear hOA5 hO5 hb55 hxm hx hgc2 hOAA hOA1 hbA1 hgc;go_wp2_with fail;go_roundw
     case rel => exact ⟨j + 1, by omega, by go_num, hOA6, hO6, hb6⟩
     case measure => simp [intOf]; omega
    ·obtain rfl : j = m := by omega
     have hOA9 := hOA.out;rw [turnK_all (by rw [List.length_map, hle.out]; exact zR)] at hOA9;obtain ⟨hbxr, hrsr⟩ := hBX.out wr hb.out;have y0 := hbxr.c0;have y1 := hbxr.c1;have q := hide (lts_calls (N : Int) (ini : Int) A5 k c5 (ls.map hd) Q j cq (turnA hd ls es) wr _ _ _ _ (hO.out.sl flat_strv) zR (by omega) (hOA9.sl flat_av) zR (by omega));clear hOA9 hOA hO hbxr hrsr;go_wp2_with fail;refine q.out.mono ?_;rintro e w7 ⟨A2, n2, c2, A3, n3, c3, rfl, hS7, hO7, hb7⟩;have hb77 := hide (hb.out.trans (hb7.mono hzr));obtain ⟨-, hrs7⟩ := hBX.out w7 hb77.out;have hS7 := hide hS7;have hO7 := hide hO7;have hz7 := hb7.size;have r0 := hrs7.c0;have r1 := hrs7.c1;have r2 := hrs7.c2;have r3 := hrs7.c3;have v0 := hrs7.f0;have v1 := hrs7.f1;have v2 := hrs7.f2;have v3 := hrs7.f3;clear hrs7 hb7 q y0 y1;go_wp2_with fail
     (try simp only [Exit.inBlock, Exit.then])
     refine bodyPost_ret_by (v := .agg #[.int .i64 (N : Int), .int .i64 (ini : Int), .slice A2 n2 c2, .slice A3 n3 c3]) ?_ rfl ?_
     focus
      rw [results_cell1 rfl];go_simp
     have hZs := put4_size w7 (w.heap.size + 1) (.int .i64 (N : Int)) (.int .i64 (ini : Int)) (.slice A2 n2 c2) (.slice A3 n3 c3);have hf : ∀ q, q ≠ w.heap.size + 1 → (put4 w7 (w.heap.size + 1) (.int .i64 (N : Int)) (.int .i64 (ini : Int)) (.slice A2 n2 c2) (.slice A3 n3 c3)).heap[q]? = w7.heap[q]? := fun q hq => put4_other _ _ _ _ _ _ hq
     have hbW := hbl.out.trans (hb77.out.mono hbl.out.size);refine ⟨A2, n2, c2, A3, n3, c3, rfl, ?_, ?_, ?_⟩
     ·change SlS (put4 w7 (w.heap.size + 1) _ _ _ _) _ (put4 w7 (w.heap.size + 1) _ _ _ _).heap.size _ _ _
      exact (Sl.keep hS7.out (by omega) fun q h1 h2 h3 => hf q (by omega)).more (by omega) (by omega)
     ·change SlE (put4 w7 (w.heap.size + 1) _ _ _ _) _ (put4 w7 (w.heap.size + 1) _ _ _ _).heap.size _ _ _
      exact (Sl.keep (hO7.out.sl flat_ev) (by omega) fun q h1 h2 h3 => hf q (by omega)).more (by omega) (by omega)
     ·change Below _ _ (put4 w7 (w.heap.size + 1) _ _ _ _)
      exact ⟨hbW.os, hbW.tape, hbW.output, by have := hbW.size; omega, fun q hq => (hf q (by omega)).trans (hbW.block q hq)⟩
end Go.Proofs.YtnhomkmfbngmgaaGreatDoor
namespace Go.Proofs.YtnhomkmfbngmgaaGreatDoor
open Go.ChangeShapes Go.WideShapes Go.ChangeAt Go.RowKit Go.Sort
def namS (s : ByteArray) : ByteArray := s.extract 0 (openN s)
theorem namS_cut (s : ByteArray) : mkB (Lib.cut s.data.toList [40]).1 = namS s := by
 unfold namS
 by_cases hm : (40 : UInt8) ∈ s.data.toList
 ·obtain ⟨a, b, hl, hn⟩ := split_at 40 _ hm
  rw [open_hit hl hn, extract_mk, hl, cut_hit hn, List.drop_zero, Nat.sub_zero, List.take_left]
 ·have h1 : openN s = s.data.toList.length := by
   unfold openN;exact takeWhile_all fun j x hx e => hm (by rw [← e]; exact List.mem_of_getElem? hx)
  rw [cut_miss hm, h1, extract_mk, List.drop_zero, Nat.sub_zero, List.take_length]
theorem labelName_calls (s : ByteArray) (w : World) (hs : s.size ≤ 1048576) (he : Env w) (hv : labS s = true) : Calls Tryz.prog 100 #[.string s] w fun e w' => e = .returned (.string (namS s)) ∧ Below w.heap.size w w' := by
 have q := hide (readLabel_calls s w hs he);go_enter Tryz.func100, Tryz.ntmps100;go_wp2_with fail;refine q.out.mono ?_;rintro e w1 ⟨nm, A, n, c, rfl, hnm, hb⟩;rw [if_pos hv, namS_cut] at hnm;subst hnm;replace hb := hide hb;go_wp2_with fail;go_ret;exact ⟨rfl, hb.out⟩
end Go.Proofs.YtnhomkmfbngmgaaGreatDoor
