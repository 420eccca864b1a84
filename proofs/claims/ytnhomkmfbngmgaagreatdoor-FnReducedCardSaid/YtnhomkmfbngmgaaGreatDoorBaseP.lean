/-
  Lemmas that the law of this claim leans on. Conditions: sizes.
-/
import Derived.Test.YtnhomkmfbngmgaaGreatDoorBaseJ
import Derived.Test.YtnhomkmfbngmgaaGreatDoorBaseK
import Derived.Test.YtnhomkmfbngmgaaGreatDoorBaseL
import Derived.Test.YtnhomkmfbngmgaaGreatDoorBaseM
import Derived.Test.YtnhomkmfbngmgaaGreatDoorBaseO
set_option maxHeartbeats 6400000
set_option maxRecDepth 100000
set_option linter.unusedSimpArgs false
set_option linter.unusedVariables false
namespace Go.Proofs.YtnhomkmfbngmgaaGreatDoor
open Go.ChangeShapes Go.WideShapes Go.ChangeAt Go.RowKit Go.Sort
section
variable {w : World} {N ini : Nat} {A : Option Addr} {n : Nat} {B : Option Addr} {m : Nat} {ls : List ByteArray} {es : List Ed}
theorem branching1_calls (h : SysA w N ini A n B m ls es) (c d : Nat) (bt bd : Nat) (hbx : LtsBox w bt (N : Int) (ini : Int) A n c B m d) (dv : Bool) (hd : w.cell? ⟨bd, 0, none⟩ = some (.bool dv)) (P : Option Addr) (cP : Nat) (p : List Int) (hP : SlI w 0 w.heap.size P N p) (hp : PartN N p) :
  Calls Tryz.prog 199 (#[.slice P N cP] ++ #[.pointer (some ⟨bt, 0, none⟩), .pointer (some ⟨bd, 0, none⟩)]) w fun e w' => ∃ Q c', e = .returned (.slice Q N c') ∧ SlI w' w.heap.size w'.heap.size Q N (refB es N dv p) ∧ Below w.heap.size w w' ∧ N ≤ c' := by
 have q := hide (refineBranching_calls h c d P cP p hP hp dv);have b0 := hbx.c0;have b1 := hbx.c1;have b2 := hbx.c2;have b3 := hbx.c3;clear h hbx hP
 show Calls Tryz.prog 199 #[.slice P N cP, .pointer (some ⟨bt, 0, none⟩), .pointer (some ⟨bd, 0, none⟩)] w _
 go_enter Tryz.func199, Tryz.ntmps199;go_wp2_with fail;refine q.out.mono ?_;rintro e w2 ⟨Q, rfl, hQ, hb⟩;replace hQ := hide hQ;replace hb := hide hb;clear q;go_wp2_with fail;go_ret;exact ⟨_, N, rfl, hQ.out, hb.out, zR⟩
theorem branching_calls (h : SysA w N ini A n B m ls es) (c d : Nat) (dv : Bool) :
  Calls Tryz.prog 107 #[.agg #[.int .i64 (N : Int), .int .i64 (ini : Int), .slice A n c, .slice B m d], .bool dv] w fun e w' => ∃ r P cP, e = .returned (.slice P N cP) ∧ LastG (refB es N dv) N r ∧ SlI w' w.heap.size w'.heap.size P N (itP (refB es N dv) N r) ∧ Below w.heap.size w w' ∧ N ≤ cP := by
 have hB := h.box (c := c) (d := d);have hed := h.edges;obtain ⟨⟨hN1, hN2⟩, hini⟩ := h.bounds;have hRf : RefG (refB es N dv) N := refB_ref hed;obtain ⟨w1, hw1⟩ : ∃ w1, w1 = w.alloc (ltsC N ini A n c B m d) := ⟨_, rfl⟩;rw [← hw1] at hB;obtain ⟨w2, hw2⟩ : ∃ w2, w2 = w1.alloc (.cells #[.bool dv] 4) := ⟨_, rfl⟩;have hb12 : Below w1.heap.size w1 w2 := by rw [hw2]; exact bR.alloc zR _
 have kD : w2.heap[w1.heap.size]? = some (.cells #[.bool dv] 4 (0, 0)) := by rw [hw2]; exact heap_alloc_new w1 _
 have z1 : w1.heap.size = w.heap.size + 1 := by rw [hw1]; exact World.size_alloc _ _
 rw [z1] at kD;have hB2 := hB.below hb12;have hkl : w.heap.size + 1 < w2.heap.size := (Array.getElem?_eq_some_iff.1 kD).1;have hnx : NextOkG (refB es N dv) N 199 #[.pointer (some ⟨w.heap.size, 0, none⟩), .pointer (some ⟨w.heap.size + 1, 0, none⟩)] w2 := by
  intro k P cP W lo hi hW hP;have hB3 := hB2.below hW;exact branching1_calls hB3.sys c d w.heap.size (w.heap.size + 1) hB3.box dv ((cell_of_row _ _ 0 _ _ (0, 0) ((hW.block _ hkl).trans kD)).trans rfl) P cP _ hP.here' (itP_part hRf k)
 have q2 := hide (roundsG_calls (refB es N dv) N hN1 hN2 hRf 199 #[.pointer (some ⟨w.heap.size, 0, none⟩), .pointer (some ⟨w.heap.size + 1, 0, none⟩)] w2 hnx fun v W => by kernel_rfl);have b0 := hB2.box.c0;have hz2 := hB2.bel.size;replace hB2 := hide hB2;replace kD := hide kD;replace z1 := hide z1;clear h hB hnx hb12;go_enter Tryz.func107, Tryz.ntmps107;go_upto_region 1 with fail;have hw12 : (w.alloc (.cells #[.int .i64 (N : Int), .int .i64 (ini : Int), .slice A n c, .slice B m d] 27)).alloc (.cells #[.bool dv] 4) = w2 := by rw [hw2, hw1]
 rw [hw12];replace hw1 := hide hw1;replace hw2 := hide hw2;replace hw12 := hide hw12;go_wp2_with fail;refine q2.out.mono ?_;rintro e w3 ⟨r, A3, c3, R, rfl, hL, hR⟩;have hbF := hide (hB2.out.bel.trans (hR.below.mono hz2));have hr1 := itP_bound hRf hN1 hL.2;obtain ⟨bo, oo, Ah, ch, s, rfl, go1, go2, hrj, co, hsj, hoff⟩ := hR.grow.get (show r < r + 1 by omega);have hs : s = itP (refB es N dv) N r := by
  have h1 : (R.map (·.2))[r]? = some s := by rw [List.getElem?_map, hrj]; rfl
  rw [hR.vals, List.getElem?_map, List.getElem?_range (by omega)] at h1;exact (Option.some.inj h1).symm
 subst hs;have q3 := hide (lastR_calls _ _ N r c3 R w3 hR.grow (by omega) hrj);have hsF := hide (hsj.more hz2 zR);have hcap := hide (hR.caps _ (List.mem_of_getElem? hrj));replace hL := hide hL;replace hR := hide hR;replace hsj := hide hsj;clear q2 b0 co hrj hoff;go_wp2_with fail;refine q3.out.mono ?_;rintro e w4 ⟨rfl, rfl⟩;go_wp2_with fail;go_ret;exact ⟨r, Ah, ch, rfl, hL.out, hsF.out, hbF.out, hcap.out⟩
end
open Go.Lib
def outG (p : List Int) (e : Ed) : Bool := !(inG p e)
theorem qub1_calls (N : Nat) (P : Option Addr) (cP : Nat) (p : List Int) (bP : Nat) (f l t : Int) (w : World) (lo hi : Nat) (hP : SlI w lo hi P N p) (hbl : bP < w.heap.size) (hb : w.cell? ⟨bP, 0, none⟩ = some (.slice P N cP)) (hf : 0 ≤ f ∧ f < (N : Int)) (ht : 0 ≤ t ∧ t < (N : Int)) :
  Calls Tryz.prog 261 #[.agg #[.int .i64 f, .int .i64 l, .int .i64 t], .pointer (some ⟨bP, 0, none⟩)] w (Says (outG p (f, l, t)) w) := by
 obtain ⟨f, rfl⟩ : ∃ k : Nat, f = (k : Int) := ⟨f.toNat, by omega⟩;obtain ⟨t, rfl⟩ : ∃ k : Nat, t = (k : Int) := ⟨t.toNat, by omega⟩;obtain ⟨gP, oP, pf, rfl, -, -, hgP, hpf, cf, -⟩ := SlI.get hP (show f < N by omega);obtain ⟨gP2, oP2, pt, e2, -, -, -, hpt, ct, -⟩ := SlI.get hP (show t < N by omega);cases e2;have hval : Hid (outG p ((f : Int), l, (t : Int)) = ((l != 0) || (pf != pt))) := by
  show _ = _
  unfold outG inG;simp only [Int.toNat_natCast, hpf, hpt]
  by_cases h1 : l = 0 <;> by_cases h2 : pf = pt <;> simp [h1, h2]
 have hb1 : Below w.heap.size w (w.alloc (.cells #[.int .i64 (f : Int), .int .i64 l, .int .i64 (t : Int)] 84)) := bR.alloc zR _;have k8 := heap_alloc_new w (.cells #[.int .i64 (f : Int), .int .i64 l, .int .i64 (t : Int)] 84);obtain ⟨w1, hw1⟩ : ∃ w1, w1 = w.alloc (.cells #[.int .i64 (f : Int), .int .i64 l, .int .i64 (t : Int)] 84) := ⟨_, rfl⟩;rw [← hw1] at hb1 k8;have c0 := (hb1.cell (p := ⟨bP, 0, none⟩) hbl).trans hb;replace cf := (hb1.cell (p := ⟨gP, oP + f, none⟩) hgP).trans cf;replace ct := (hb1.cell (p := ⟨gP, oP + t, none⟩) hgP).trans ct;have e0 : w1.cell? ⟨w.heap.size, 0, none⟩ = some (.int .i64 (f : Int)) := (cell_of_row _ _ 0 _ _ (0, 0) k8).trans rfl;have e1 : w1.cell? ⟨w.heap.size, 1, none⟩ = some (.int .i64 l) := (cell_of_row _ _ 1 _ _ (0, 0) k8).trans rfl;have e2 : w1.cell? ⟨w.heap.size, 2, none⟩ = some (.int .i64 (t : Int)) := (cell_of_row _ _ 2 _ _ (0, 0) k8).trans rfl;have f0 : (0 : Int) ≤ (f : Int) := by omega
 have f1 : (f : Int) < (N : Int) := by omega
 have t0 : (0 : Int) ≤ (t : Int) := by omega
 have t1 : (t : Int) < (N : Int) := by omega
 replace hb1 := hide hb1;replace hpf := hide hpf;replace hpt := hide hpt;clear hP hb k8 hf ht
 by_cases hl : l = 0
 ·subst hl
  have g1 : ((0 : Int) != 0) = false := rfl;go_enter Tryz.func261, Tryz.ntmps261;go_upto_region 1 with fail;rw [← hw1];replace hw1 := hide hw1;go_quiet (fail);go_wp2_with fail;go_ret;exact ⟨by rw [hval.out]; rfl, hb1.out.trans (below_drewN _ _ |>.mono hb1.out.size)⟩
 ·have g1 : (l != 0) = true := by rw [bne_iff_ne]; exact hl
  go_enter Tryz.func261, Tryz.ntmps261;go_upto_region 1 with fail;rw [← hw1];replace hw1 := hide hw1;go_quiet (fail);go_wp2_with fail;go_ret;exact ⟨by rw [hval.out, g1]; rfl, hb1.out.trans (below_drewN _ _ |>.mono hb1.out.size)⟩
noncomputable def lpE (es : List Ed) (N : Nat) (p : List Int) (k : Nat) : List Ed := ((List.range k).filter fun i => inS (dvgL (es.filter (inG p)) N) i).map fun i => ((p[i]?).getD 0, 0, (p[i]?).getD 0)
theorem lpE_succ {es : List Ed} {N : Nat} {p : List Int} {k : Nat} : lpE es N p (k + 1) = lpE es N p k ++ if inS (dvgL (es.filter (inG p)) N) k = true then [((p[k]?).getD 0, 0, (p[k]?).getD 0)] else [] := by
 unfold lpE;rw [List.range_succ, List.filter_append, List.map_append]
 congr 1
 by_cases h : inS (dvgL (es.filter (inG p)) N) k = true
 ·rw [List.filter_cons_of_pos h, if_pos h]; rfl
 ·rw [List.filter_cons_of_neg h, if_neg h]; rfl
theorem lpE_len {es : List Ed} {N : Nat} {p : List Int} {k : Nat} : (lpE es N p k).length ≤ k := by
 unfold lpE;rw [List.length_map];exact Nat.le_trans (List.length_filter_le _ _) (by simp)
noncomputable def quoB (es : List Ed) (N : Nat) (dv : Bool) (p : List Int) : List Ed := if dv = true then Lib.compact (sortE (quoF p (outG p) es ++ lpE es N p N)) else quoF p (outG p) es
theorem quoFG_mem {p : List Int} {G : Ed → Bool} {es : List Ed} (hb : ∀ e, e ∈ es → e.1.toNat < p.length ∧ e.2.2.toNat < p.length) {f l t : Int} : (f, l, t) ∈ quoF p G es ↔ ∃ e, e ∈ es ∧ G e = true ∧ p[e.1.toNat]? = some f ∧ e.2.1 = l ∧ p[e.2.2.toNat]? = some t := by
 unfold quoF;rw [compactE_mem, sortE_mem, List.mem_map]
 constructor
 ·rintro ⟨e, he, h⟩
  obtain ⟨he, hg⟩ := List.mem_filter.1 he;unfold quoO pv at h;injection h with h1 h2;injection h2 with h2 h3;have hh := hb e he;rw [List.getElem?_eq_getElem hh.1, Option.getD_some] at h1;rw [List.getElem?_eq_getElem hh.2, Option.getD_some] at h3;exact ⟨e, he, hg, by rw [List.getElem?_eq_getElem hh.1, h1], h2, by rw [List.getElem?_eq_getElem hh.2, h3]⟩
 ·rintro ⟨e, he, hg, h1, h2, h3⟩
  refine ⟨e, List.mem_filter.2 ⟨he, hg⟩, ?_⟩;unfold quoO pv;rw [h1, h3, h2]
  rfl
theorem quoB_is {es : List Ed} {N : Nat} {dv : Bool} {p : List Int} (he : EdIn N es) (hp : PartN N p) : QuoBE es N dv p (quoB es N dv p) := by
 have hb : ∀ e, e ∈ es → e.1.toNat < p.length ∧ e.2.2.toNat < p.length := fun e hx => by
  have := he e hx;rw [hp.len];omega
 intro f l t;have h1 : (f, l, t) ∈ quoF p (outG p) es ↔ ∃ e, e ∈ es ∧ p[e.1.toNat]? = some f ∧ e.2.1 = l ∧ p[e.2.2.toNat]? = some t ∧ ¬ (l = 0 ∧ f = t) := by
  rw [quoFG_mem hb];refine exists_congr fun e => and_congr_right fun _ => ?_
  constructor
  ·rintro ⟨h1, h2, h3, h4⟩
   refine ⟨h2, h3, h4, fun h => ?_⟩;have : inG p e = true := inG_true.2 ⟨by rw [h3]; exact h.1, by rw [h2, h4, h.2]⟩;unfold outG at h1;rw [this] at h1
   cases h1
  ·rintro ⟨h2, h3, h4, h5⟩
   refine ⟨?_, h2, h3, h4⟩;unfold outG;rw [Bool.not_eq_true', Bool.eq_false_iff];intro h;have h6 := inG_true.1 h;rw [h2, h4] at h6;exact h5 ⟨by rw [← h3]; exact h6.1, Option.some.inj h6.2⟩
 have h2 : (f, l, t) ∈ lpE es N p N ↔ l = 0 ∧ f = t ∧ ∃ k : Nat, k < N ∧ p[k]? = some f ∧ Dvg (inrE es p) k := by
  unfold lpE;rw [List.mem_map]
  constructor
  ·rintro ⟨k, hk, e⟩
   obtain ⟨hk1, hk2⟩ := List.mem_filter.1 hk;have hk1 := List.mem_range.1 hk1;injection e with e1 e2;injection e2 with e2 e3;refine ⟨e2.symm, by rw [← e1, ← e3], k, hk1, ?_, (dvgL_inert he).1 ((inS_dvgL hk1).1 hk2)⟩;rw [← e1, List.getElem?_eq_getElem (by rw [hp.len]; exact hk1)]; rfl
  ·rintro ⟨rfl, rfl, k, hk, hpk, hd⟩
   refine ⟨k, List.mem_filter.2 ⟨List.mem_range.2 hk, (inS_dvgL hk).2 ((dvgL_inert he).2 hd)⟩, ?_⟩;rw [hpk]; rfl
 unfold quoB
 cases dv with
 | false =>
  rw [if_neg (by decide), h1]
  constructor
  ·exact .inl
  ·rintro (h | ⟨h, -⟩)
   ·exact h
   ·cases h
 | true =>
  rw [if_pos rfl, compactE_mem, sortE_mem, List.mem_append, h1, h2];exact or_congr_right ⟨fun h => ⟨rfl, h⟩, fun h => h.2⟩
theorem quoB_rise {es : List Ed} {N : Nat} {dv : Bool} {p : List Int} : RisE (quoB es N dv p) := by
 unfold quoB
 split
 ·exact compactE_rise (sortE_le _)
 ·exact compactE_rise (sortE_le _)
theorem quoB_len {es : List Ed} {N : Nat} {dv : Bool} {p : List Int} : (quoB es N dv p).length ≤ es.length + N := by
 have h1 : (quoF p (outG p) es).length ≤ es.length := by
  unfold quoF;refine Nat.le_trans (compactE_len _) ?_;rw [sortE_len, List.length_map];exact List.length_filter_le _ _
 unfold quoB
 split
 ·refine Nat.le_trans (compactE_len _) ?_
  rw [sortE_len, List.length_append];have := lpE_len (es := es) (N := N) (p := p) (k := N);omega
 ·omega
structure QbW (w wD wr : World) (b7 : Nat) (s i : Int) (A1 : Option Addr) (n2 c1 : Nat) (J : List ByteArray) (Ab : Option Addr) (kb cb : Nat) (A3 : Option Addr) (k c3 : Nat) (E : List Ed) : Prop where
 box : LtsBox wr b7 s i A1 n2 c1 Ab kb cb
 res : LtsBox wr (w.heap.size + 2) 0 0 none 0 0 none 0 0
 labs : Own 1 strv wr (w.heap.size + 3) 9 A1 n2 c1 J
 eds : Own 3 ev wr (w.heap.size + 3) 84 A3 k c3 E
 apart : ∀ q, (Value.slice A3 k c3).ownBlock = some q → q < b7 ∨ wD.heap.size ≤ q
 kept : ∀ q, q < wD.heap.size → (q < w.heap.size + 3 ∨ b7 < q) → wr.heap[q]? = wD.heap[q]?
 sz : wD.heap.size ≤ wr.heap.size
 env : wr.os = wD.os ∧ wr.tape = wD.tape ∧ wr.output = wD.output
 bel : Below w.heap.size w wD
 at_ : w.heap.size + 3 ≤ b7 ∧ b7 < wD.heap.size
section
variable {w wD wr w' : World} {b7 : Nat} {s i : Int} {A1 : Option Addr} {n2 c1 : Nat} {J : List ByteArray} {Ab : Option Addr} {kb cb : Nat} {A3 : Option Addr} {k c3 : Nat} {E : List Ed}
theorem QbW.below (h : QbW w wD wr b7 s i A1 n2 c1 J Ab kb cb A3 k c3 E) (hb : Below wr.heap.size wr w') : QbW w wD w' b7 s i A1 n2 c1 J Ab kb cb A3 k c3 E :=
 ⟨h.box.below hb h.box.lt, h.res.below hb h.res.lt, h.labs.below hb zR, h.eds.below hb zR, h.apart, fun q h1 h2 => (hb.block q (by have := h.sz; omega)).trans (h.kept q h1 h2), Nat.le_trans h.sz hb.size,
  ⟨hb.os.trans h.env.1, hb.tape.trans h.env.2.1, hb.output.trans h.env.2.2⟩, h.bel, h.at_⟩
theorem QbW.drew (h : QbW w wD wr b7 s i A1 n2 c1 J Ab kb cb A3 k c3 E) : QbW w wD wr.drew b7 s i A1 n2 c1 J Ab kb cb A3 k c3 E := h.below bR.drew
theorem QbW.grown (h : QbW w wD wr b7 s i A1 n2 c1 J Ab kb cb A3 k c3 E) (hg : wr.grownBy w' (Value.slice A3 k c3).ownBlock) {A7 : Option Addr} {k7 c7 : Nat} {E' : List Ed} (ho : Own 3 ev w' (w.heap.size + 3) 84 A7 k7 c7 E')
  (hat : (Value.slice A7 k7 c7).ownBlock = (Value.slice A3 k c3).ownBlock ∨ (Value.slice A7 k7 c7).ownBlock = some wr.heap.size) : QbW w wD w' b7 s i A1 n2 c1 J Ab kb cb A7 k7 c7 E' := by
 have hb := h.eds.otherT h.box (by decide);have hr := h.eds.otherT h.res (by decide);refine ⟨(hg.block _ h.box.lt hb).trans h.box, (hg.block _ h.res.lt hr).trans h.res, h.labs.kept hg ?_, ho, fun q hq => ?_, fun q h1 h2 => ?_, Nat.le_trans h.sz hg.size, ⟨hg.os.trans h.env.1, hg.tape.trans h.env.2.1, hg.output.trans h.env.2.2⟩, h.bel, h.at_⟩
 ·rcases h.labs.2.2 with ⟨hv, hn⟩ | ⟨g, cap, cur, hv, hbg, hgc, -⟩
  ·exact .inl (by rw [hv]; rfl)
  ·right
   rw [hv];exact h.eds.otherT hgc (by decide)
 ·rcases hat with e | e
  ·exact h.apart q (by rw [← e]; exact hq)
  ·right
   have e2 := hq.symm.trans e;injection e2 with e2;have := h.sz;omega
 ·refine (hg.block q (by have := h.sz; omega) fun e => ?_).trans (h.kept q h1 h2)
  have h3 := (h.eds.lt q e.symm).1;have h4 := h.apart q e.symm
  rcases h2 with h2 | h2 <;> omega
theorem QbW.set (h : QbW w wD wr b7 s i A1 n2 c1 J Ab kb cb A3 k c3 E) : QbW w wD (wr.setCell ⟨b7, 3, none⟩ (.slice A3 k c3)) b7 s i A1 n2 c1 J A3 k c3 A3 k c3 E := by
 have hb := h.eds.otherT h.box (by decide);have hl : some b7 ≠ (Value.slice A1 n2 c1).ownBlock := h.labs.otherT h.box (by decide);refine ⟨h.box.set3, (Below.heap_setCell _ _ _ _ (by have := h.at_; show w.heap.size + 2 ≠ b7; omega)).trans h.res, h.labs.asideL hl _, h.eds.asideL hb _, h.apart, fun q h1 h2 => (Below.heap_setCell _ _ _ _ (by have := h.at_; show q ≠ b7; omega)).trans (h.kept q h1 h2), by rw [World.size_setCell]; exact h.sz, h.env, h.bel, h.at_⟩
theorem QbW.later (h : QbW w wD wD b7 s i A1 n2 c1 J Ab kb cb A3 k c3 E) (ha : ∀ q, (Value.slice A3 k c3).ownBlock = some q → q < b7) (hb : Below wD.heap.size wD w') : QbW w w' w' b7 s i A1 n2 c1 J Ab kb cb A3 k c3 E := by
 have h2 := h.below hb;exact ⟨h2.box, h2.res, h2.labs, h2.eds, fun q hq => .inl (ha q hq), fun _ _ _ => rfl, zR, ⟨rfl, rfl, rfl⟩, h.bel.trans (hb.mono h.bel.size), h.at_.1, by have := h.at_.2; have := hb.size; omega⟩
theorem QbW.done (h : QbW w wD wr b7 s i A1 n2 c1 J A3 k c3 A3 k c3 E) (v0 v1 v2 v3 : Value) :
  SlS (put4 wr (w.heap.size + 2) v0 v1 v2 v3) w.heap.size (put4 wr (w.heap.size + 2) v0 v1 v2 v3).heap.size A1 n2 J ∧ SlE (put4 wr (w.heap.size + 2) v0 v1 v2 v3) w.heap.size (put4 wr (w.heap.size + 2) v0 v1 v2 v3).heap.size A3 k E ∧ Below w.heap.size w (put4 wr (w.heap.size + 2) v0 v1 v2 v3) := by
 have hz := put4_size wr (w.heap.size + 2) v0 v1 v2 v3;have ha := h.at_;have hs := h.bel.size;refine ⟨?_, ?_, ?_⟩
 ·exact (Sl.keep (h.labs.sl flat_strv) (Nat.le_of_eq hz.symm) fun q h1 h2 h3 => put4_other _ _ _ _ _ _ (by omega)).more (by omega) (Nat.le_of_eq hz.symm)
 ·exact (Sl.keep (h.eds.sl flat_ev) (Nat.le_of_eq hz.symm) fun q h1 h2 h3 => put4_other _ _ _ _ _ _ (by omega)).more (by omega) (Nat.le_of_eq hz.symm)
 ·refine ⟨h.env.1.trans h.bel.os, h.env.2.1.trans h.bel.tape, h.env.2.2.trans h.bel.output, by rw [hz]; exact Nat.le_trans hs h.sz, fun q hq => ?_⟩
  exact (put4_other _ _ _ _ _ _ (by omega)).trans ((h.kept q (by omega) (.inl (by omega))).trans (h.bel.block q hq))
end
theorem tidyB_calls {w wD wr : World} {b7 : Nat} {s i : Int} {A1 : Option Addr} {n2 c1 : Nat} {J : List ByteArray} {A3 : Option Addr} {k c3 : Nat} {E : List Ed} (h : QbW w wD wr b7 s i A1 n2 c1 J A3 k c3 A3 k c3 E) (hk : k ≤ 1000000) :
  Calls Tryz.prog 169 #[.pointer (some ⟨b7, 0, none⟩)] wr fun e w' => ∃ n3, e = .returned (.tuple #[]) ∧ QbW w wD w' b7 s i A1 n2 c1 J A3 n3 c3 A3 n3 c3 (Lib.compact (sortE E)) := by
 have c3a := h.box.c3;have hqS := hide (sortE_calls h.eds (by omega));replace h := hide h;go_enter Tryz.func169, Tryz.ntmps169;go_upto_region 1 with (first | (go_at_call 132; (with_reducible refine hqS.out.mono ?_); rintro e w6 ⟨rfl, hO6, hg6⟩));have hL6 := h.out.grown hg6 hO6 (.inl rfl);have c36 := hL6.box.c3;obtain ⟨n3, hn3⟩ : ∃ n3, n3 = (Lib.compact (sortE E)).length := ⟨_, rfl⟩;have hqC := compactE_calls hO6 (by omega) hO6.le_cap;rw [← hn3] at hqC;replace hqC := hide hqC;replace hL6 := hide hL6;replace hn3 := hide hn3;clear hO6 hg6 hqS c3a h;go_wp2_with (first | (go_at_call 228; (with_reducible refine hqC.out.mono ?_); rintro e w7 ⟨rfl, hO7, hg7⟩; have hL8 := hL6.out.grown hg7 hO7 (.inl (by cases A3 <;> rfl)); have c37 := hL8.box.c3; have f37 := hL8.box.f3))
 go_returns
 exact ⟨n3, rfl, hL8.set⟩
theorem quotientBranching_calls {w : World} {N ini : Nat} {A : Option Addr} {n : Nat} {B : Option Addr} {m : Nat} {ls : List ByteArray} {es : List Ed} (h : SysA w N ini A n B m ls es) (c d : Nat) (P : Option Addr) (cP : Nat) (p : List Int) (hP : SlI w 0 w.heap.size P N p) (hp : PartN N p) (dv : Bool) :
  Calls Tryz.prog 197 #[.agg #[.int .i64 (N : Int), .int .i64 (ini : Int), .slice A n c, .slice B m d], .slice P N cP, .bool dv] w fun e w' => ∃ A2 c2 A3 n3 c3, e = .returned (.agg #[.int .i64 ((numB p : Nat) : Int), .int .i64 (pv p (ini : Int)), .slice A2 n c2, .slice A3 n3 c3]) ∧ SlS w' w.heap.size w'.heap.size A2 n ls ∧ SlE w' w.heap.size w'.heap.size A3 n3 (quoB es N dv p) ∧ Below w.heap.size w w' := by
 have hE := hide elem_edge;have hm := h.many;obtain ⟨⟨hN1, hN2⟩, hini⟩ := h.bounds;have hB := h.box (c := c) (d := d);obtain ⟨w3, hw3⟩ : ∃ w3, w3 = ((w.alloc (ltsC N ini A n c B m d)).alloc (.cells #[.slice P N cP] 32)).alloc (.cells #[.int .i64 0, .int .i64 0, .slice none 0 0, .slice none 0 0] 27) := ⟨_, rfl⟩;have z1 : (w.alloc (ltsC N ini A n c B m d)).heap.size = w.heap.size + 1 := World.size_alloc _ _;have hb2 : Below (w.heap.size + 1) (w.alloc (ltsC N ini A n c B m d)) w3 := by
  rw [hw3];exact (bR.alloc (by rw [z1]; exact zR) _).alloc (by rw [World.size_alloc, z1]; omega) _
 have hBw := hB.below (by rw [z1]; exact hb2);have z3 : w3.heap.size = w.heap.size + 3 := by rw [hw3, World.size_alloc, World.size_alloc, z1]
 have kP : w3.heap[w.heap.size + 1]? = some (.cells #[.slice P N cP] 32 (0, 0)) := by
  rw [hw3];refine (Below.heap_alloc _ _ _ (by rw [World.size_alloc, z1]; omega)).trans ?_;have := heap_alloc_new (w.alloc (ltsC N ini A n c B m d)) (.cells #[.slice P N cP] 32);rw [z1] at this;exact this
 have kR : w3.heap[w.heap.size + 2]? = some (.cells #[.int .i64 0, .int .i64 0, .slice none 0 0, .slice none 0 0] 27 (0, 0)) := by
  rw [hw3];have := heap_alloc_new ((w.alloc (ltsC N ini A n c B m d)).alloc (.cells #[.slice P N cP] 32)) (.cells #[.int .i64 0, .int .i64 0, .slice none 0 0, .slice none 0 0] 27);rw [World.size_alloc, z1] at this;exact this
 have hP3 := (hP.below hBw.bel (.inr zR)).here';have hends := hide h.ends;have hprg := hp.range;have qQ := hide (quotient_calls hBw.sys c d P cP p hP3 (fun x hx => by have := hprg x hx; omega) 261 #[.pointer (some ⟨w.heap.size + 1, 0, none⟩)] (outG p) (fun v W => by kernel_rfl) fun e W hx hW =>
  qub1_calls N P cP p (w.heap.size + 1) e.1 e.2.1 e.2.2 W _ _ (hP3.below hW (.inr zR)) (by have := hW.size; omega) ((cell_of_row _ _ 0 _ _ (0, 0) ((hW.block _ (by omega)).trans kP)).trans rfl) (hends.out _ hx).1 (hends.out _ hx).2)
 have b0 := hBw.box.c0;have b1 := hBw.box.c1;have b2 := hBw.box.c2;have b3 := hBw.box.c3;have p0 : w3.cell? ⟨w.heap.size + 1, 0, none⟩ = some (.slice P N cP) := (cell_of_row _ _ 0 _ _ (0, 0) kP).trans rfl;have zz : w.heap.size + 2 < w3.heap.size := by omega
 have zz1 : w.heap.size + 1 < w3.heap.size := by omega
 have zz2 : w.heap.size ≤ w3.heap.size := by omega
 have zz3 : w.heap.size + 3 ≤ w3.heap.size := by omega
 have zz4 : w3.heap.size ≤ w.heap.size + 3 := by omega
 have hed := hide h.edges;replace kR := hide kR;replace kP := hide kP;replace hBw := hide hBw;replace z3 := hide z3;replace hP3 := hide hP3;clear h hB hb2 hP z1;go_enter Tryz.func197, Tryz.ntmps197;go_upto_region 1 with fail;rw [← show w3 = _ from hw3];replace hw3 := hide hw3;go_wp2_with fail;refine qQ.out.mono ?_;rintro e w4 ⟨M, A1, c1, A3, n3, c3, hM, rfl, hS4, hE4, hb4, hLO, hEO⟩;have hMn : M + 1 = ((numB p : Nat) : Int) := max_numB hp hM;rw [hMn];replace hMn := hide hMn;have hz4 := hb4.size;obtain ⟨w5, hw5⟩ : ∃ w5, w5 = w4.alloc (.cells #[.int .i64 ((numB p : Nat) : Int), .int .i64 (pv p (ini : Int)), .slice A1 n c1, .slice A3 n3 c3] 27) := ⟨_, rfl⟩;obtain ⟨b7, hb7⟩ : ∃ b7, b7 = w4.heap.size := ⟨_, rfl⟩;have hb45 : Below w4.heap.size w4 w5 := by rw [hw5]; exact bR.alloc zR _
 have hb35 := hb4.trans (hb45.mono hz4);have hz5 : w5.heap.size = w4.heap.size + 1 := by rw [hw5]; exact World.size_alloc _ _
 have hQ5 : QbW w w5 w5 b7 ((numB p : Nat) : Int) (pv p (ini : Int)) A1 n c1 ls A3 n3 c3 A3 n3 c3 (quoF p (outG p) es) :=
  ⟨by rw [hw5, hb7]; exact heap_alloc_new w4 _, (hb35.block _ zz).trans kR.out, (hLO.sink zz3).below hb45 zR, (hEO.sink zz3).below hb45 zR, fun q hq => .inl (by rw [hb7]; exact (hEO.lt q hq).2), fun _ _ _ => rfl, zR, ⟨rfl, rfl, rfl⟩, hBw.out.bel.trans (hb35.mono zz2), by omega, by omega⟩
 have hap5 : ∀ q, (Value.slice A3 n3 c3).ownBlock = some q → q < b7 := fun q hq => by rw [hb7]; exact (hEO.lt q hq).2
 have hB5 := hide (hBw.out.below hb35);have hP5 := hide ((hP3.out.below hb35 (.inr zR)).here');have kP5 : Hid (w5.heap[w.heap.size + 1]? = some (.cells #[.slice P N cP] 32 (0, 0))) := (hb35.block _ zz1).trans kP.out;have hzw5 : w3.heap.size ≤ w5.heap.size := hb35.size;have hb7w : w.heap.size + 3 ≤ b7 := by omega
 have hn3 : n3 ≤ 300 := by
  have h1 := hE4.len;have h2 : (quoF p (outG p) es).length ≤ es.length := by
   unfold quoF;refine Nat.le_trans (compactE_len _) ?_;rw [sortE_len, List.length_map];exact List.length_filter_le _ _
  omega
 replace hap5 := hide hap5;replace hQ5 := hide hQ5;replace hb45 := hide hb45;replace hb35 := hide hb35;replace hz5 := hide hz5;replace hM := hide hM;clear qQ hS4 hE4 hb4 hLO hEO b0 b1 b2 b3 p0;go_upto_region 2 with fail;rw [← show w5 = _ from hw5, ← hb7];replace hw5 := hide hw5;replace hb7 := hide hb7
 cases dv with
 | false =>
  have y0 := hQ5.out.box.c0;have y1 := hQ5.out.box.c1;have y2 := hQ5.out.box.c2;have y3 := hQ5.out.box.c3;have r0 := hQ5.out.res.c0;have r1 := hQ5.out.res.c1;have r2 := hQ5.out.res.c2;have r3 := hQ5.out.res.c3;have v0 := hQ5.out.res.f0;have v1 := hQ5.out.res.f1;have v2 := hQ5.out.res.f2;have v3 := hQ5.out.res.f3;go_wp2_with fail
  (try simp only [Exit.inBlock, Exit.then])
  refine bodyPost_ret_by (v := .agg #[.int .i64 ((numB p : Nat) : Int), .int .i64 (pv p (ini : Int)), .slice A1 n c1, .slice A3 n3 c3]) ?_ rfl ?_
  focus
   rw [results_cell1 rfl];go_simp
  obtain ⟨f1, f2, f3⟩ := hQ5.out.done (.int .i64 ((numB p : Nat) : Int)) (.int .i64 (pv p (ini : Int))) (.slice A1 n c1) (.slice A3 n3 c3);exact ⟨A1, c1, A3, n3, c3, rfl, f1, f2, f3⟩
 | true =>
  have b0 := hB5.out.box.c0;have b1 := hB5.out.box.c1;have b2 := hB5.out.box.c2;have b3 := hB5.out.box.c3;have p0 : w5.cell? ⟨w.heap.size + 1, 0, none⟩ = some (.slice P N cP) := (cell_of_row _ _ 0 _ _ (0, 0) kP5.out).trans rfl;have qI := hide (inertOnly_calls hB5.out.sys c d P cP p hP5.out);go_upto_region 3 with fail;go_wp2_with fail;refine qI.out.mono ?_;rintro e w6 ⟨B2, m2, d2, rfl, hE2, hm2, hb6⟩;have qD := hide (divergent_calls N ini A n c B2 m2 d2 (es.filter (inG p)) w6 hE2.here' (by omega) hN1 hN2 fun e hx => hed.out e (List.mem_filter.1 hx).1);have hz6 := hb6.size;replace hb6 := hide hb6;clear qI hE2 b0 b1 b2 b3 p0;go_wp2_with fail;refine qD.out.mono ?_;rintro e w7 ⟨AD, cD, rfl, hD, hb7'⟩;obtain ⟨wB, rfl⟩ : ∃ wB : World, wB = w7 := ⟨_, rfl⟩;have hb5B := hide (hb6.out.trans (hb7'.mono hz6));have hQB := hide (hQ5.out.later hap5.out hb5B.out);have hPB := hide (hP5.out.below hb5B.out (.inr zR));have kPB : Hid (wB.heap[w.heap.size + 1]? = some (.cells #[.slice P N cP] 32 (0, 0))) := (hb5B.out.block _ (by omega)).trans kP5.out;have hPlo : Hid (SlI wB 0 w3.heap.size P N p) := (((hP3.out.below hb35.out (.inl zR)).below hb5B.out (.inl hzw5)));have hDB := hide hD;have hz5B := hb5B.out.size;have hb7lt : b7 < w5.heap.size := hQ5.out.at_.2;clear qD hD hb7';go_wp2_with fail
  go_loopw [20] (fun v20 wr => ∃ (k k5 c5 : Nat) (A5 : Option Addr), k ≤ N ∧ v20 = .int .i64 (k : Nat) ∧ k5 ≤ n3 + k ∧ Hid (QbW w wB wr b7 ((numB p : Nat) : Int) (pv p (ini : Int)) A1 n c1 ls A5 k5 c5 A5 k5 c5 (quoF p (outG p) es ++ lpE es N p k))) (fun v _ => N - (intOf v).toNat)
  case atStart => exact ⟨0, n3, c3, A3, Nat.zero_le _, rfl, zR, by
   have := hQB.out;rw [show lpE es N p 0 = [] from rfl, List.append_nil];exact this⟩
  case round =>
   clear hQB;obtain ⟨k, k5, c5, A5, hk, rfl, hk5, hQ⟩ := hrel
   by_cases hlt : k < N
   ·have k0 : (0 : Int) ≤ (k : Int) := by omega
    have k1 : (k : Int) < (N : Int) := by omega
    obtain ⟨gD, oD, rfl, gD1, gD2, gD3, -, cdk, -⟩ := SlB.get hDB.out hlt;obtain ⟨gP, oP, pk, rfl, -, gP1, -, hpk, cpk, -⟩ := SlI.get hPlo.out hlt;have hkeep : ∀ {wx : World} {A7 A8 : Option Addr} {q7 q8 r7 r8 : Nat} {E7 : List Ed}, QbW w wB wx b7 ((numB p : Nat) : Int) (pv p (ini : Int)) A1 n c1 ls A7 q7 r7 A8 q8 r8 E7 → ∀ q, q < wB.heap.size → (q < w.heap.size + 3 ∨ b7 < q) → wx.heap[q]? = wB.heap[q]? := fun hx => hx.kept
    obtain ⟨dk, hdk⟩ : ∃ dk, dk = inS (dvgL (es.filter (inG p)) N) k := ⟨_, rfl⟩;rw [← hdk] at cdk;have cdk2 : wr.cell? ⟨gD, oD + k, none⟩ = some (.bool dk) := (World.cell?_of_block (w := wB) (by simpa using hkeep hQ.out gD gD3 (.inr (by omega)))).trans cdk;have hstep := hide (lpE_succ (es := es) (N := N) (p := p) (k := k))
    cases dk with
    | false =>
     have hQ2 : Hid (QbW w wB wr b7 ((numB p : Nat) : Int) (pv p (ini : Int)) A1 n c1 ls A5 k5 c5 A5 k5 c5 (quoF p (outG p) es ++ lpE es N p (k + 1))) := by
      show QbW _ _ _ _ _ _ _ _ _ _ _ _ _ _ _ _ _
      rw [hstep.out, ← hdk, if_neg (by decide), List.append_nil];exact hQ.out
     replace hdk := hide hdk;replace hpk := hide hpk;clear cdk cpk;go_wp2_with fail;go_roundw
     case rel => exact ⟨k + 1, k5, c5, A5, by omega, by go_num, by omega, hQ2.out⟩
     case measure => simp [intOf]; omega
    | true =>
     have hx1 : Hid (lpE es N p (k + 1) = lpE es N p k ++ [(pk, 0, pk)]) := by
      show _ = _
      rw [hstep.out, ← hdk, if_pos rfl, hpk]; rfl
     obtain ⟨wD, hwD⟩ : ∃ wD, wD = wr.drew := ⟨_, rfl⟩;have hQD : Hid (QbW w wB wD b7 ((numB p : Nat) : Int) (pv p (ini : Int)) A1 n c1 ls A5 k5 c5 A5 k5 c5 (quoF p (outG p) es ++ lpE es N p k)) := by show QbW _ _ _ _ _ _ _ _ _ _ _ _ _ _ _ _ _; rw [hwD]; exact hQ.out.drew
     have hSX : Hid (∀ {A8 : Option Addr} {q8 r8 : Nat} {E7 : List Ed} (wx : World), QbW w wB wx b7 ((numB p : Nat) : Int) (pv p (ini : Int)) A1 n c1 ls A5 k5 c5 A8 q8 r8 E7 → wx.cell? ⟨b7, 3, none⟩ = some (.slice A5 k5 c5) ∧ wx.cell? ⟨w.heap.size + 1, 0, none⟩ = some (.slice (some ⟨gP, oP, none⟩) N cP) ∧ wx.cell? ⟨gP, oP + k, none⟩ = some (.int .i64 pk)) := fun wx hx => by
      have h1 := (hx.kept (w.heap.size + 1) (by omega) (.inl (by omega))).trans kPB.out;refine ⟨hx.box.c3, (cell_of_row _ _ 0 _ _ (0, 0) h1).trans rfl, ?_⟩;exact (World.cell?_of_block (w := wB) (by simpa using hx.kept gP (by omega) (.inl (by omega)))).trans cpk
     have hSD := hSX.out wD hQD.out;have hlit := hide (Sl.lit1' (f := ev) wD 84 (pk, 0, pk) #[.int .i64 pk, .int .i64 0, .int .i64 pk] rfl 3 _ rfl);have hQL := hide (hQD.out.below (bR.alloc zR (.cells #[.int .i64 pk, .int .i64 0, .int .i64 pk] 84)));have hOL := hide hQL.out.eds;have hSL := hSX.out _ hQL.out;have hza : w.heap.size + 3 ≤ (wD.alloc (.cells #[.int .i64 pk, .int .i64 0, .int .i64 pk] 84)).heap.size := by rw [World.size_alloc]; have := hQD.out.sz; omega
     have hsz : (k5 + 1) * 24 ≤ 140737488355328 := by omega
     replace hdk := hide hdk;replace hpk := hide hpk;replace hwD := hide hwD;clear cdk cpk;go_upto_region 7 with fail;clear cdk2
     focus
       refine lateT_begin (S := fun w' => w'.cell? ⟨b7, 3, none⟩ = some (.slice A5 k5 c5) ∧ w'.cell? ⟨w.heap.size + 1, 0, none⟩ = some (.slice (some ⟨gP, oP, none⟩) N cP) ∧ w'.cell? ⟨gP, oP + k, none⟩ = some (.int .i64 pk)) (st := 14) (by kernel_rfl) ?_;rw [← show wD = _ from hwD.out];have hS0 : (fun w' : World => w'.cell? ⟨b7, 3, none⟩ = some (.slice A5 k5 c5) ∧ w'.cell? ⟨w.heap.size + 1, 0, none⟩ = some (.slice (some ⟨gP, oP, none⟩) N cP) ∧ w'.cell? ⟨gP, oP + k, none⟩ = some (.int .i64 pk)) wD := hSD;refine tkB 0 [14] hS0 ?_;refine tkB 1 [14] hS0 ?_;refine tkB 2 [14] hS0 ?_;refine tkB 3 [14] hS0 ?_;refine tkB 4 [14] hS0 ?_;refine tkB 5 [14] hS0 ?_;refine tkB 6 [14] hS0 ?_;refine tkB 7 [14] hS0 ?_;refine tkB 8 [14] hS0 ?_;refine tkB 9 [14] hS0 ?_;refine tkB 10 [14] hS0 ?_;refine lS 11 fun K hK => ?_
       go_simp;refine hK.out _ _ (fun _ => hSL) ?_
       clear hK K;(try simp only [Act.put, sA, sB, sC]);refine lS 12 fun K hK => ?_
       refine step_appL (m := 1) (d := 1) (by rfl) (.tmp 27) (.tmp 37) (by rfl) hE.out flat_ev (by go_simp) hOL.out (by go_simp) hlit.out hsz hza ?_;intro A6 c6 w6 hown6 hgr6 hb6 hat6;have hQ6 := hQL.out.grown hgr6 hown6 hat6;have hS6 := hSX.out w6 hQ6;have y3 := hQ6.box.c3;have v3 := hQ6.box.f3;replace hQ6 := hide hQ6;refine hK.out _ _ (fun _ => hS6) ?_;clear hK K;(try simp only [Act.put, sA, sB, sC]);refine lS 13 fun K hK => ?_
       go_simp;refine hK.out _ _ (fun _ => hS6) ?_
       clear hK K;(try simp only [Act.put, sA, sB, sC]);refine lS 14 fun K hK => ?_
       go_simp;refine hK.out _ _ nH ?_
       clear hK K;(try simp only [Act.put, sA, sB, sC]);refine lateT_done (by kernel_rfl) ?_ _;have hQ7 := hQ6.out.set;rw [List.append_assoc, ← hx1.out] at hQ7;replace hQ7 := hide hQ7;go_wp2_with fail;go_roundw
       case rel => exact ⟨k + 1, k5 + 1, c6, A6, by omega, by go_num, by omega, hQ7.out⟩
       case measure => simp [intOf]; omega
   ·obtain rfl : k = N := by omega
    have i1 : ¬ (k : Int) < (k : Int) := by omega
    have qT := hide (tidyB_calls hQ.out (by omega));go_upto_region 10 with (first | (go_at_call 169; (with_reducible refine qT.out.mono ?_); rintro e w9 ⟨n9, rfl, hQ9⟩));have y0 := hQ9.box.c0;have y1 := hQ9.box.c1;have y2 := hQ9.box.c2;have y3 := hQ9.box.c3;have r0 := hQ9.res.c0;have r1 := hQ9.res.c1;have r2 := hQ9.res.c2;have r3 := hQ9.res.c3;have v0 := hQ9.res.f0;have v1 := hQ9.res.f1;have v2 := hQ9.res.f2;have v3 := hQ9.res.f3;replace hQ9 := hide hQ9;clear qT;go_wp2_with fail
    (try simp only [Exit.inBlock, Exit.then])
    refine bodyPost_ret_by (v := .agg #[.int .i64 ((numB p : Nat) : Int), .int .i64 (pv p (ini : Int)), .slice A1 n c1, .slice A5 n9 c5]) ?_ rfl ?_
    focus
     rw [results_cell1 rfl];go_simp
    obtain ⟨f1, f2, f3⟩ := hQ9.out.done (.int .i64 ((numB p : Nat) : Int)) (.int .i64 (pv p (ini : Int))) (.slice A1 n c1) (.slice A5 n9 c5);exact ⟨A1, c1, A5, n9, c5, rfl, f1, f2, f3⟩
theorem minimalB_calls {w : World} {N ini : Nat} {A : Option Addr} {n : Nat} {B : Option Addr} {m : Nat} {ls : List ByteArray} {es : List Ed} (h : SysA w N ini A n B m ls es) (c d : Nat) (dv : Bool) (R : List Int) (hR : R = reachF N es (ini : Int)) (hiR : (ini : Int) ∈ R) :
  Calls Tryz.prog 105 #[.agg #[.int .i64 (N : Int), .int .i64 (ini : Int), .slice A n c, .slice B m d], .bool dv] w fun e w' => ∃ r A2 c2 A3 n3 c3, LastG (refB (partF R es) R.length dv) R.length r ∧ e = .returned (.agg #[.int .i64 ((numB (itP (refB (partF R es) R.length dv) R.length r) : Nat) : Int), .int .i64 (pv (itP (refB (partF R es) R.length dv) R.length r) (posZ R (ini : Int))), .slice A2 n c2, .slice A3 n3 c3]) ∧ SlS w' w.heap.size w'.heap.size A2 n ls ∧ SlE w' w.heap.size w'.heap.size A3 n3 (quoB (partF R es) R.length dv (itP (refB (partF R es) R.length dv) R.length r)) ∧ Below w.heap.size w w' := by
 obtain ⟨hm, hn12, hn1, hle, hll⟩ := h.many;obtain ⟨⟨hN1, hN2⟩, hini⟩ := h.bounds;obtain ⟨E1, hE1⟩ : ∃ E1, E1 = partF R es := ⟨_, rfl⟩;have hRn : R.Nodup := by rw [hR]; exact reach_nodup
 obtain ⟨wB, hwB⟩ : ∃ wB, wB = w.alloc (ltsC N ini A n c B m d) := ⟨_, rfl⟩;have zB : wB.heap.size = w.heap.size + 1 := by rw [hwB]; exact World.size_alloc _ _
 have bB : Below w.heap.size w wB := by rw [hwB]; exact (Below.refl w.heap.size w).alloc zR _
 have xB : LtsBox wB w.heap.size (N : Int) (ini : Int) A n c B m d := by rw [hwB]; exact heap_alloc_new w _
 obtain ⟨w1, hw1⟩ : ∃ w1, w1 = wB.alloc (.cells #[.int .i64 0, .int .i64 0, .slice none 0 0, .slice none 0 0] 27) := ⟨_, rfl⟩;have hbel1 : Below wB.heap.size wB w1 := by rw [hw1]; exact bR.alloc zR _
 have hr1 : LtsBox w1 wB.heap.size 0 0 none 0 0 none 0 0 := by rw [hw1]; exact heap_alloc_new wB _
 have hAll : ∀ wx, Below wB.heap.size wB wx → SysA wx N ini A n B m ls es ∧ LtsBox wx w.heap.size (N : Int) (ini : Int) A n c B m d ∧ Below w.heap.size w wx := fun wx hx =>
  ⟨h.below (bB.trans (hx.mono bB.size)) zR, xB.below hx (by omega), bB.trans (hx.mono bB.size)⟩
 replace hAll := hide hAll;replace zB := hide zB;replace hbel1 := hide hbel1;replace hr1 := hide hr1;replace hE1 := hide hE1;replace hR := hide hR;have hbBh := hide bB;clear bB xB h;go_enter Tryz.func105, Tryz.ntmps105;go_upto_region 1 with fail;rw [show ((w.alloc (.cells #[.int .i64 (N : Int), .int .i64 (ini : Int), .slice A n c, .slice B m d] 27)).alloc (.cells #[.int .i64 0, .int .i64 0, .slice none 0 0, .slice none 0 0] 27)) = w1 from by rw [hw1, hwB]];replace hw1 := hide hw1;replace hwB := hide hwB;obtain ⟨w2, rfl⟩ : ∃ w2 : World, w2 = w1 := ⟨_, rfl⟩;have hbB2 := hbel1;have hr2 := hr1;have hSS : Hid (∀ wx, Below w2.heap.size w2 wx → wx.cell? ⟨w.heap.size, 0, none⟩ = some (.int .i64 (N : Int)) ∧ wx.cell? ⟨w.heap.size, 1, none⟩ = some (.int .i64 (ini : Int)) ∧ wx.cell? ⟨w.heap.size, 2, none⟩ = some (.slice A n c) ∧ wx.cell? ⟨w.heap.size, 3, none⟩ = some (.slice B m d)) := fun wx hx => by
  obtain ⟨-, y, -⟩ := hAll.out wx (hbB2.out.trans (hx.mono hbB2.out.size));exact ⟨y.c0, y.c1, y.c2, y.c3⟩
 have hRe : Hid (∀ wx, Below w2.heap.size w2 wx → Calls Tryz.prog 58 #[.agg #[.int .i64 (N : Int), .int .i64 (ini : Int), .slice A n c, .slice B m d]] wx fun e w' => ∃ A m c, e = .returned (.slice A m c) ∧ SlI w' wx.heap.size w'.heap.size A m R ∧ Below wx.heap.size wx w') := fun wx hx => by
  obtain ⟨y, -, -⟩ := hAll.out wx (hbB2.out.trans (hx.mono hbB2.out.size));refine (reachable_calls N ini _ B m d es wx _ _ y.se (by omega) hN1 hN2 hini ⟨_, _, _, rfl⟩ y.ends).mono ?_;rintro e w' ⟨A, m, c, rfl, h1, -, -, h2⟩;rw [← hR.out] at h1;exact ⟨A, m, c, rfl, h1, h2⟩
 have hRl : R.length ≤ 40 := by
  rw [hR.out];unfold reachF;rw [List.length_map];exact Nat.le_trans (List.length_filter_le _ _) (by rw [List.length_range]; exact hN2)
 have hPa : Hid (∀ wx AR mR cR, Below w2.heap.size w2 wx → SlI wx 0 wx.heap.size AR mR R → Calls Tryz.prog 59 #[.agg #[.int .i64 (N : Int), .int .i64 (ini : Int), .slice A n c, .slice B m d], .slice AR mR cR] wx fun e w' => ∃ A2 c2 A3 n3 c3, e = .returned (.agg #[.int .i64 (mR : Int), .int .i64 (posZ R (ini : Int)), .slice A2 n c2, .slice A3 n3 c3]) ∧ SlS w' wx.heap.size w'.heap.size A2 n ls ∧ SlE w' wx.heap.size w'.heap.size A3 n3 E1 ∧ Below wx.heap.size wx w') := fun wx AR mR cR hx hs => by
  obtain ⟨y, -, -⟩ := hAll.out wx (hbB2.out.trans (hx.mono hbB2.out.size));rw [hE1.out];have := hs.len;exact part_calls y c d AR mR cR _ _ R hs zR (by omega) hRn
 go_cut [5] (fun v4 wx => ∃ b A2 c2 A3 n3 c3 mR, v4 = .pointer (some ⟨b, 0, none⟩) ∧ R.length = mR ∧ Hid (MinF w2 wx ls E1 b (mR : Int) (posZ R (ini : Int)) A2 n c2 A3 n3 c3))
 case first =>
  refine lateT_begin (S := fun w' => w'.cell? ⟨w.heap.size, 0, none⟩ = some (.int .i64 (N : Int)) ∧ w'.cell? ⟨w.heap.size, 1, none⟩ = some (.int .i64 (ini : Int)) ∧ w'.cell? ⟨w.heap.size, 2, none⟩ = some (.slice A n c) ∧ w'.cell? ⟨w.heap.size, 3, none⟩ = some (.slice B m d)) (st := 5) (by kernel_rfl) ?_;have hD := (MinW.start w2 ls R E1).drew;generalize w2.drew = wA at *;have hS0 := hSS.out _ hD.below;refine tkA _ 0 [5] rfl (Or.inl ⟨by rfl, by intro w9 hSw; obtain ⟨s0, s1, s2, s3⟩ := hSw; go_simp <;> with_reducible rfl⟩) hS0 ?_;refine tkA _ 1 [5] rfl (Or.inl ⟨by rfl, by intro w9 hSw; obtain ⟨s0, s1, s2, s3⟩ := hSw; go_simp <;> with_reducible rfl⟩) hS0 ?_;refine lateT_two (i := 2) (j := 4) (by kernel_rfl) rfl rfl (fun K hK => ?_) (fun K hK => ?_)
  ·go_simp
   go_at_call 58; (with_reducible refine (hRe.out _ hD.below).mono ?_); rintro e wA ⟨AR, mR, cR, rfl, hR6, hb6⟩;replace hD := hD.reach hb6 hR6;clear hR6 hb6
   (try go_wp2_with fail)
   refine hK.out _ _ (fun _ => hSS.out _ hD.below) ?_;clear hK K;(try simp only [Act.put, sA, sB, sC]);refine lateT_two (i := 3) (j := 4) (by kernel_rfl) rfl rfl (fun K hK => ?_) (fun K hK => ?_)
   ·go_simp
    have hqP := hPa.out _ AR mR cR hD.below (hD.rch _ rfl);go_at_call 59; (with_reducible refine hqP.mono ?_); rintro e wA ⟨A2, c2, A3, n3, c3, rfl, hS6, hE6, hb6⟩;replace hD := hD.part (c := c2) (d := c3) hb6 hS6 hE6;clear hS6 hE6 hb6 hqP
    (try go_wp2_with fail)
    refine hK.out _ _ (fun _ => hSS.out _ hD.below) ?_;clear hK K;(try simp only [Act.put, sA, sB, sC]);refine lS 4 fun K hK => ?_
    go_simp;replace hD := hD.alloc
    refine hK.out _ _ (fun _ => hSS.out _ hD.below) ?_;clear hK K;(try simp only [Act.put, sA, sB, sC]);generalize wA.alloc (.cells #[.int .i64 0, .int .i64 0, .slice none 0 0, .slice none 0 0] 27) = wA at *;refine lS 5 fun K hK => ?_
    have hbx := (hD.box _ rfl).2;have z0 := hbx.c0;have z1 := hbx.c1;have z2 := hbx.c2;have z3 := hbx.c3;have f0 := hbx.f0;have f1 := hbx.f1;have f2 := hbx.f2;have f3 := hbx.f3;go_simp;refine hK.out _ _ nH ?_;clear hK K;(try simp only [Act.put, sA, sB, sC]);refine lateT_done (by kernel_rfl) ?_ _;have hM := hD.fill (mR : Int) (posZ R (ini : Int));have hmR := (hD.rch _ rfl).len;go_wp2_with fail;go_meet;exact ⟨_, _, _, _, _, _, _, rfl, hmR, hide hM⟩
   ·go_simp
    replace hD := hD.alloc;refine hK.out _ _ (fun _ => hSS.out _ hD.below) ?_;clear hK K;(try simp only [Act.put, sA, sB, sC]);generalize wA.alloc (.cells #[.int .i64 0, .int .i64 0, .slice none 0 0, .slice none 0 0] 27) = wA at *;refine lS 3 fun K hK => ?_
    go_simp;have hqP := hPa.out _ AR mR cR hD.below (hD.rch _ rfl)
    go_at_call 59; (with_reducible refine hqP.mono ?_); rintro e wA ⟨A2, c2, A3, n3, c3, rfl, hS6, hE6, hb6⟩;replace hD := hD.part (c := c2) (d := c3) hb6 hS6 hE6;clear hS6 hE6 hb6 hqP
    (try go_wp2_with fail)
    refine hK.out _ _ (fun _ => hSS.out _ hD.below) ?_;clear hK K;(try simp only [Act.put, sA, sB, sC]);refine lS 5 fun K hK => ?_
    have hbx := (hD.box _ rfl).2;have z0 := hbx.c0;have z1 := hbx.c1;have z2 := hbx.c2;have z3 := hbx.c3;have f0 := hbx.f0;have f1 := hbx.f1;have f2 := hbx.f2;have f3 := hbx.f3;go_simp;refine hK.out _ _ nH ?_;clear hK K;(try simp only [Act.put, sA, sB, sC]);refine lateT_done (by kernel_rfl) ?_ _;have hM := hD.fill (mR : Int) (posZ R (ini : Int));have hmR := (hD.rch _ rfl).len;go_wp2_with fail;go_meet;exact ⟨_, _, _, _, _, _, _, rfl, hmR, hide hM⟩
  ·go_simp
   replace hD := hD.alloc;refine hK.out _ _ (fun _ => hSS.out _ hD.below) ?_;clear hK K;(try simp only [Act.put, sA, sB, sC]);generalize wA.alloc (.cells #[.int .i64 0, .int .i64 0, .slice none 0 0, .slice none 0 0] 27) = wA at *;refine lS 2 fun K hK => ?_
   go_simp;go_at_call 58; (with_reducible refine (hRe.out _ hD.below).mono ?_); rintro e wA ⟨AR, mR, cR, rfl, hR6, hb6⟩
   replace hD := hD.reach hb6 hR6;clear hR6 hb6
   (try go_wp2_with fail)
   refine hK.out _ _ (fun _ => hSS.out _ hD.below) ?_;clear hK K;(try simp only [Act.put, sA, sB, sC]);refine lS 3 fun K hK => ?_
   go_simp;have hqP := hPa.out _ AR mR cR hD.below (hD.rch _ rfl)
   go_at_call 59; (with_reducible refine hqP.mono ?_); rintro e wA ⟨A2, c2, A3, n3, c3, rfl, hS6, hE6, hb6⟩;replace hD := hD.part (c := c2) (d := c3) hb6 hS6 hE6;clear hS6 hE6 hb6 hqP
   (try go_wp2_with fail)
   refine hK.out _ _ (fun _ => hSS.out _ hD.below) ?_;clear hK K;(try simp only [Act.put, sA, sB, sC]);refine lS 5 fun K hK => ?_
   have hbx := (hD.box _ rfl).2;have z0 := hbx.c0;have z1 := hbx.c1;have z2 := hbx.c2;have z3 := hbx.c3;have f0 := hbx.f0;have f1 := hbx.f1;have f2 := hbx.f2;have f3 := hbx.f3;go_simp;refine hK.out _ _ nH ?_;clear hK K;(try simp only [Act.put, sA, sB, sC]);refine lateT_done (by kernel_rfl) ?_ _;have hM := hD.fill (mR : Int) (posZ R (ini : Int));have hmR := (hD.rch _ rfl).len;go_wp2_with fail;go_meet;exact ⟨_, _, _, _, _, _, _, rfl, hmR, hide hM⟩
 case rest =>
  obtain ⟨b, A2, c2, A3, n3, c3, mR, rfl, hmR, hF⟩ := hcut;have hbBc := hbB2.out.trans (hF.out.below.mono hbB2.out.size);have hW := (hAll.out _ hbBc).1;obtain ⟨hpv, hp0⟩ := part_valid (S := R) hW.ok hRn hRl hiR;obtain ⟨iR, hiRe⟩ : ∃ iR : Nat, posZ R (ini : Int) = (iR : Int) := ⟨(posZ R (ini : Int)).toNat, by omega⟩;rw [hiRe, ← hE1.out, hmR] at hpv;rw [hiRe] at hF;have hSc : SysA wc mR iR A2 n A3 n3 ls E1 := ⟨hF.out.ss, hF.out.se, hpv, hW.sz⟩;obtain ⟨wD, hwD⟩ : ∃ wD, wD = wc.drew := ⟨_, rfl⟩;have hbD : Below wc.heap.size wc wD := by rw [hwD]; exact bR.drew
  have hSy : Hid (∀ wx, Below wD.heap.size wD wx → SysA wx mR iR A2 n A3 n3 ls E1) := fun wx hx => hSc.below (hbD.trans (hx.mono hbD.size)) zR
  have hSD : Hid (∀ wx, Below wD.heap.size wD wx → wx.cell? ⟨b, 0, none⟩ = some (.int .i64 (mR : Int)) ∧ wx.cell? ⟨b, 1, none⟩ = some (.int .i64 (iR : Int)) ∧ wx.cell? ⟨b, 2, none⟩ = some (.slice A2 n c2) ∧ wx.cell? ⟨b, 3, none⟩ = some (.slice A3 n3 c3)) := fun wx hx => by
   have y := hF.out.box.below (hbD.trans (hx.mono hbD.size)) hF.out.box.lt;exact ⟨y.c0, y.c1, y.c2, y.c3⟩
  have hrD : Hid (LtsBox wD (w.heap.size + 1) 0 0 none 0 0 none 0 0) := by
   show LtsBox _ _ _ _ _ _ _ _ _ _
   have y := hr2.out.below hF.out.below hr2.out.lt;have y2 := y.below hbD y.lt
   rwa [zB.out] at y2
  have hbne : b ≠ w.heap.size + 1 := by
   have := hF.out.base;have := hr2.out.lt;have := zB.out;omega
  have hmb := (hSy.out _ bR).bounds;have hqS := hide (branching_calls (hSy.out _ bR) c2 c3 dv);have hbwD := hide (hbBh.out.trans ((hbBc.trans (hbD.mono hbBc.size)).mono hbBh.out.size));replace hwD := hide hwD;replace hmR := hide hmR;replace hiRe := hide hiRe;clear hSS hRe hPa hF hSc hbD hbBc hW hpv hp0;go_upto_region 2 with fail;refine lateT_begin (S := fun w' => w'.cell? ⟨b, 0, none⟩ = some (.int .i64 (mR : Int)) ∧ w'.cell? ⟨b, 1, none⟩ = some (.int .i64 (iR : Int)) ∧ w'.cell? ⟨b, 2, none⟩ = some (.slice A2 n c2) ∧ w'.cell? ⟨b, 3, none⟩ = some (.slice A3 n3 c3)) (st := 6) (by kernel_rfl) ?_;rw [← show wD = _ from hwD.out];have hS0 : (fun w' : World => w'.cell? ⟨b, 0, none⟩ = some (.int .i64 (mR : Int)) ∧ w'.cell? ⟨b, 1, none⟩ = some (.int .i64 (iR : Int)) ∧ w'.cell? ⟨b, 2, none⟩ = some (.slice A2 n c2) ∧ w'.cell? ⟨b, 3, none⟩ = some (.slice A3 n3 c3)) wD := hSD.out _ bR;refine tkB 0 [6] hS0 ?_;refine tkB 1 [6] hS0 ?_;refine tkB 2 [6] hS0 ?_;refine tkB 4 [6] hS0 ?_;refine lS 3 fun K hK => ?_
  go_simp;go_at_call 107
  (with_reducible refine hqS.out.mono ?_)
  rintro e w5 ⟨r, P, cP, rfl, hLr, hP5, hb5, -⟩;have hpn := itP_part (refB_ref (d := dv) (hSy.out _ bR).edges) r;have hqQ := hide (quotientBranching_calls (hSy.out _ hb5) c2 c3 P cP (itP (refB E1 mR dv) mR r) hP5.here' hpn dv);have hb5h := hide hb5;replace hLr := hide hLr;replace hpn := hide hpn;clear hP5 hb5
  (try go_wp2_with fail)
  refine hK.out _ _ (fun _ => hSD.out _ hb5h.out) ?_;clear hK K;(try simp only [Act.put, sA, sB, sC]);refine lS 5 fun K hK => ?_
  go_simp;go_at_call 197
  (with_reducible refine hqQ.out.mono ?_)
  rintro e w6 ⟨A4, c4, A5, n5, c5, rfl, hS6, hE6, hb6⟩;have hb56 := hide (hb5h.out.trans (hb6.mono hb5h.out.size));have hS6 := hide hS6;have hE6 := hide hE6;have hb6 := hide hb6;have hr6 := hrD.out.below hb56.out hrD.out.lt;have r0 := hr6.c0;have r1 := hr6.c1;have r2 := hr6.c2;have r3 := hr6.c3;have v0 := hr6.f0;have v1 := hr6.f1;have v2 := hr6.f2;have v3 := hr6.f3
  (try go_wp2_with fail)
  refine hK.out _ _ (fun _ => hSD.out _ hb56.out) ?_;clear hK K;(try simp only [Act.put, sA, sB, sC]);refine lS 6 fun K hK => ?_
  go_simp;refine hK.out _ _ nH ?_
  clear hK K;(try simp only [Act.put, sA, sB, sC]);refine lateT_done (by kernel_rfl) ?_ _;go_wp2_with fail
  (try simp only [Exit.inBlock, Exit.then])
  refine bodyPost_ret_by (v := .agg #[.int .i64 ((numB (itP (refB E1 mR dv) mR r) : Nat) : Int), .int .i64 (pv (itP (refB E1 mR dv) mR r) (iR : Int)), .slice A4 n c4, .slice A5 n5 c5]) ?_ rfl ?_
  focus
   rw [results_cell1 rfl];go_simp
  rw [hmR.out, hiRe.out, ← hE1.out];have hZs := put4_size w6 (w.heap.size + 1) (.int .i64 ((numB (itP (refB E1 mR dv) mR r) : Nat) : Int)) (.int .i64 (pv (itP (refB E1 mR dv) mR r) (iR : Int))) (.slice A4 n c4) (.slice A5 n5 c5);have hz6 := hb6.out.size;have hz5 := hb5h.out.size;have hzD := hbwD.out.size;have hzr := hrD.out.lt;have hf : ∀ q, q ≠ w.heap.size + 1 → (put4 w6 (w.heap.size + 1) (.int .i64 ((numB (itP (refB E1 mR dv) mR r) : Nat) : Int)) (.int .i64 (pv (itP (refB E1 mR dv) mR r) (iR : Int))) (.slice A4 n c4) (.slice A5 n5 c5)).heap[q]? = w6.heap[q]? := fun q hq => put4_other _ _ _ _ _ _ hq
  have hbF := hbwD.out.trans (hb56.out.mono hzD);refine ⟨r, A4, c4, A5, n5, c5, hLr.out, rfl, ?_, ?_, ?_⟩
  ·change SlS (put4 w6 (w.heap.size + 1) _ _ _ _) _ (put4 w6 (w.heap.size + 1) _ _ _ _).heap.size _ _ _
   exact (Sl.keep hS6.out (by omega) fun q h1 h2 h3 => hf q (by omega)).more (by omega) (by omega)
  ·change SlE (put4 w6 (w.heap.size + 1) _ _ _ _) _ (put4 w6 (w.heap.size + 1) _ _ _ _).heap.size _ _ _
   exact (Sl.keep hE6.out (by omega) fun q h1 h2 h3 => hf q (by omega)).more (by omega) (by omega)
  ·change Below _ _ (put4 w6 (w.heap.size + 1) _ _ _ _)
   exact ⟨hbF.os, hbF.tape, hbF.output, by omega, fun q hq => (hf q (by omega)).trans (hbF.block q hq)⟩
theorem reach_len {N : Nat} {es : List Ed} {ini : Int} : (reachF N es ini).length ≤ N := by
 unfold reachF;rw [List.length_map];exact Nat.le_trans (List.length_filter_le _ _) (by simp)
theorem nodup_sub_le {α : Type} [BEq α] [LawfulBEq α] : ∀ {L M : List α}, L.Nodup → (∀ y, y ∈ L → y ∈ M) → L.length ≤ M.length
 | [], M, _, _ => Nat.zero_le _
 | x :: L, M, hn, h => by
  have hn2 := List.nodup_cons.1 hn;have h1 := nodup_sub_le (M := M.erase x) hn2.2 fun y hy => (List.mem_erase_of_ne (fun e => hn2.1 (by rw [← e]; exact hy))).2 (h y (List.mem_cons_of_mem _ hy))
  have hx := h x (List.mem_cons_self ..);rw [List.length_erase_of_mem hx] at h1;have := List.length_pos_of_mem hx;rw [List.length_cons]; omega
theorem totS_le {b : Nat} : ∀ {l : List ByteArray}, (∀ s, s ∈ l → s.size ≤ b) → totS l ≤ l.length * (b + 1)
 | [], _ => by simp [totS]
 | x :: l, h => by
  have h1 := totS_le (l := l) fun s hs => h s (List.mem_cons_of_mem _ hs)
  have h2 := h x (List.mem_cons_self ..);unfold totS at h1 ⊢;simp only [List.length_cons, List.map_cons, List.sum_cons];rw [Nat.add_mul];omega
theorem namD_mem {ls : List ByteArray} (h : NamD ls) {x : ByteArray} (hx : x ∈ joiF ls) : x ∈ tauB :: nm5 := by
 rcases (joi_mem_iff ls x).1 hx with rfl | hx
 ·exact List.mem_cons_self ..
 ·rcases h x hx with rfl | hx
  ·exact List.mem_cons_self ..
  ·exact List.mem_cons_of_mem _ hx
theorem namD_six {ls : List ByteArray} (h : NamD ls) : (joiF ls).length ≤ 6 := by
 have h1 : ((joiF ls).map toL).Nodup := (joi_rise ls).imp fun {a b} g e => by rw [e, ltL_irr] at g; cases g
 have h2 := nodup_sub_le (M := (tauB :: nm5).map toL) h1 fun y hy => by
  obtain ⟨x, hx, rfl⟩ := List.mem_map.1 hy;exact List.mem_map_of_mem (namD_mem h hx)
 rw [List.length_map, List.length_map] at h2;exact h2
theorem namD_size : ∀ x, x ∈ tauB :: nm5 → x.size ≤ 6 := by
 intro x hx;unfold nm5 at hx;simp only [List.mem_cons, List.mem_nil_iff, or_false] at hx
 rcases hx with rfl | rfl | rfl | rfl | rfl | rfl <;> decide
theorem namD_app {la lb : List ByteArray} (h : NamD la) (g : NamD lb) : NamD (la ++ lb) := fun x hx => by
 rcases List.mem_append.1 hx with hx | hx
 ·exact h x hx
 ·exact g x hx
theorem uni_valid {la : List ByteArray} {ea : List Ed} {lb : List ByteArray} {eb : List Ed} {Na Nb ia : Nat} (hla : NamD la) (hlb : NamD lb) (hl1 : la.length ≤ 100) (hl2 : lb.length ≤ 100)
  (ha : ∀ e, e ∈ ea → (0 ≤ e.1 ∧ e.1 < (Na : Int)) ∧ (0 ≤ e.2.1 ∧ e.2.1 < (la.length : Int)) ∧ (0 ≤ e.2.2 ∧ e.2.2 < (Na : Int)))
  (hb : ∀ e, e ∈ eb → (0 ≤ e.1 ∧ e.1 < (Nb : Int)) ∧ (0 ≤ e.2.1 ∧ e.2.1 < (lb.length : Int)) ∧ (0 ≤ e.2.2 ∧ e.2.2 < (Nb : Int)))
  (hia : ia < Na) (hN : Na + Nb ≤ 40) (hE : ea.length + eb.length ≤ 300) :
  ltsV (((Na + Nb : Nat) : Int), (ia : Int), joiF (la ++ lb), uniE la ea lb eb Na) = true ∧ totS (joiF (la ++ lb)) ≤ 100000 := by
 have hD := namD_app hla hlb;have h6 := namD_six hD;have hin := (uni_in hl1 hl2 ha hb).1;have hlab := uni_lab (Na := Na) (fun e he => (ha e he).2.1) fun e he => (hb e he).2.1
 constructor
 ·refine ltsV_of (by omega) (by omega) (joi_names (fun x hx => ?_) (by omega)) ?_ ?_ fun e he => ?_
  ·rcases hD x hx with h | h
   ·exact .inl h
   ·exact .inr (nm5_lab x h).1
  ·refine Nat.le_trans (ltsEs_len _ _) ?_
   unfold uniA;simp only [List.length_append, List.length_map];exact hE
  ·unfold uniE ltsEs
   exact compactE_rise (sortE_le _)
  ·have h1 := hin e he
   have h2 := hlab e he;exact ⟨h1.1, h2, h1.2.2⟩
 ·have := totS_le (b := 6) (l := joiF (la ++ lb)) fun s hs => namD_size s (namD_mem hD hs)
  omega
theorem quoB_valid {N ini : Nat} {ls : List ByteArray} {es : List Ed} {p : List Int} {dv : Bool} (h : ltsV ((N : Int), (ini : Int), ls, es) = true) (hp : PartN N p) (hE : es.length + N ≤ 300) :
  ∃ c0 : Nat, pv p (ini : Int) = (c0 : Int) ∧ p[ini]? = some (c0 : Int) ∧ c0 < numB p ∧ ltsV ((numB p : Int), (c0 : Int), ls, quoB es N dv p) = true ∧ (∀ e, e ∈ quoB es N dv p → 0 ≤ e.2.1 ∧ e.2.1 < (ls.length : Int)) := by
 have hed := (ltsV_edge h).1;have hbn := (ltsV_edge h).2;have heI : EdIn N es := fun e he => ⟨(hed e he).1, (hed e he).2.1.1, (hed e he).2.2⟩
 have hq := quoB_is (dv := dv) heI hp;have hin := quoBE_in heI hp hq;have h0 := (List.getElem?_eq_some_iff.1 (labs_zero (ltsV_names h).1)).1;have hini : ini < p.length := by rw [hp.len]; omega
 have e1 : p[ini]? = some p[ini] := List.getElem?_eq_getElem hini;have hlt := part_lt hp (List.mem_of_getElem? e1);have hpv : pv p (ini : Int) = p[ini] := by unfold pv; rw [Int.toNat_natCast, e1]; rfl
 have hlb : ∀ e, e ∈ quoB es N dv p → 0 ≤ e.2.1 ∧ e.2.1 < (ls.length : Int) := by
  rintro ⟨f, l, t⟩ he
  rcases (hq f l t).1 he with ⟨e, h1, -, h2, -⟩ | ⟨-, h2, -⟩
  ·have := (hed e h1).2.1
   dsimp only;omega
  ·dsimp only
   omega
 have hN := numB_le p;rw [hp.len] at hN;refine ⟨(p[ini]).toNat, by omega, by rw [e1]; congr 1; omega, by omega, ?_, hlb⟩;refine ltsV_of (by omega) (by omega) (ltsV_names h).1 ?_ quoB_rise fun e he => ?_
 ·have := quoB_len (es := es) (N := N) (dv := dv) (p := p)
  omega
 ·have h1 := hin e he
  exact ⟨h1.1, hlb e he, h1.2.2⟩
noncomputable def mbP (N ini r : Nat) (dv : Bool) (es : List Ed) : List Int := itP (refB (partF (reachF N es (ini : Int)) es) (reachF N es (ini : Int)).length dv) (reachF N es (ini : Int)).length r
noncomputable def mbE (N ini r : Nat) (dv : Bool) (es : List Ed) : List Ed := quoB (partF (reachF N es (ini : Int)) es) (reachF N es (ini : Int)).length dv (mbP N ini r dv es)
structure MinB (w w' : World) (N ini : Nat) (n : Nat) (ls : List ByteArray) (es : List Ed) (dv : Bool) (r c0 i0 : Nat) (A2 : Option Addr) (A3 : Option Addr) (n3 : Nat) : Prop where
 ss : SlS w' w.heap.size w'.heap.size A2 n ls
 se : SlE w' w.heap.size w'.heap.size A3 n3 (mbE N ini r dv es)
 ok : ltsV ((numB (mbP N ini r dv es) : Int), (c0 : Int), ls, mbE N ini r dv es) = true
 sz : totS ls ≤ 100000
 last : LastG (refB (partF (reachF N es (ini : Int)) es) (reachF N es (ini : Int)).length dv) (reachF N es (ini : Int)).length r
 at0 : (reachF N es (ini : Int))[i0]? = some (ini : Int)
 blk : (mbP N ini r dv es)[i0]? = some (c0 : Int)
 lab : ∀ e, e ∈ mbE N ini r dv es → 0 ≤ e.2.1 ∧ e.2.1 < (ls.length : Int)
 few : numB (mbP N ini r dv es) ≤ N
 bel : Below w.heap.size w w'
theorem MinB.sys {w w' : World} {N ini n : Nat} {ls : List ByteArray} {es : List Ed} {dv : Bool} {r c0 i0 : Nat} {A2 A3 : Option Addr} {n3 : Nat} (h : MinB w w' N ini n ls es dv r c0 i0 A2 A3 n3) : SysA w' (numB (mbP N ini r dv es)) c0 A2 n A3 n3 ls (mbE N ini r dv es) := ⟨h.ss.here', h.se.here', h.ok, h.sz⟩
section
variable {w : World} {N ini : Nat} {A : Option Addr} {n : Nat} {B : Option Addr} {m : Nat} {ls : List ByteArray} {es : List Ed}
theorem minimalBr_calls (h : SysA w N ini A n B m ls es) (c d : Nat) (dv : Bool) (hE : m + N ≤ 300) :
  Calls Tryz.prog 105 #[.agg #[.int .i64 (N : Int), .int .i64 (ini : Int), .slice A n c, .slice B m d], .bool dv] w fun e w' => ∃ (r c0 i0 : Nat) (A2 : Option Addr) (c2 : Nat) (A3 : Option Addr) (n3 d3 : Nat), e = .returned (.agg #[.int .i64 ((numB (mbP N ini r dv es) : Nat) : Int), .int .i64 (c0 : Int), .slice A2 n c2, .slice A3 n3 d3]) ∧ MinB w w' N ini n ls es dv r c0 i0 A2 A3 n3 := by
 have hini := h.bounds.2;have hiR := reach_ini (es := es) hini;have hRN := reach_len (N := N) (es := es) (ini := (ini : Int));have hRl := Nat.le_trans hRN h.bounds.1.2;obtain ⟨hv1, hv0⟩ := part_valid h.ok reach_nodup hRl hiR;obtain ⟨i0, hi0⟩ : ∃ k : Nat, posZ (reachF N es (ini : Int)) (ini : Int) = (k : Int) := ⟨(posZ (reachF N es (ini : Int)) (ini : Int)).toNat, by omega⟩;rw [hi0] at hv1;have hat := (posZ_at (reach_nodup (N := N) (es := es) (ini := (ini : Int)))).1 hi0;have hlen := h.many;have hpl := partF_len (S := reachF N es (ini : Int)) (es := es);have heR := part_in h.edges (reach_nodup (N := N) (es := es) (ini := (ini : Int)));refine (minimalB_calls h c d dv _ rfl hiR).mono ?_;rintro e w' ⟨r, A2, c2, A3, n3, c3, hL, rfl, hS, hQ, hb⟩;have hp : PartN (reachF N es (ini : Int)).length (mbP N ini r dv es) := itP_part (refB_ref heR) r;obtain ⟨c0, h1, h2, h3, h4, h5⟩ := quoB_valid (dv := dv) hv1 hp (by omega);have hNB := numB_le (mbP N ini r dv es);rw [hp.len] at hNB;refine ⟨r, c0, i0, A2, c2, A3, n3, c3, ?_, ⟨hS, hQ, h4, h.sz, hL, hat, h2, h5, by omega, hb⟩⟩;rw [hi0]
 show _ = _
 have h1 : pv (itP (refB (partF (reachF N es (ini : Int)) es) (reachF N es (ini : Int)).length dv) (reachF N es (ini : Int)).length r) (i0 : Int) = (c0 : Int) := h1;rw [h1]
 rfl
theorem minimalBranching_calls (h : SysA w N ini A n B m ls es) (c d : Nat) (he : Env w) (dv : Bool) (hE : m + N ≤ 300) :
  Calls Tryz.prog 41 #[.agg #[.int .i64 (N : Int), .int .i64 (ini : Int), .slice A n c, .slice B m d], .bool dv] w fun e w' => ∃ (r c0 i0 : Nat) (A2 : Option Addr) (c2 : Nat) (A3 : Option Addr) (n3 d3 : Nat), e = .returned (.tuple #[.agg #[.int .i64 ((numB (mbP N ini r dv es) : Nat) : Int), .int .i64 (c0 : Int), .slice A2 n c2, .slice A3 n3 d3], .int .i64 0]) ∧ MinB w w' N ini n ls es dv r c0 i0 A2 A3 n3 := by
 obtain ⟨wB, hwB⟩ : ∃ wB, wB = w.alloc (ltsC N ini A n c B m d) := ⟨_, rfl⟩;have zB : wB.heap.size = w.heap.size + 1 := by rw [hwB]; exact World.size_alloc _ _
 obtain ⟨w1, hw1⟩ : ∃ w1, w1 = wB.alloc (.cells #[.int .i64 0, .int .i64 0, .slice none 0 0, .slice none 0 0] 27) := ⟨_, rfl⟩;have hB := h.box (c := c) (d := d);rw [← hwB] at hB;have hbB1 : Below wB.heap.size wB w1 := by rw [hw1]; exact bR.alloc zR _
 have hB1 := hB.below hbB1;have kR : w1.heap[w.heap.size + 1]? = some (.cells #[.int .i64 0, .int .i64 0, .slice none 0 0, .slice none 0 0] 27 (0, 0)) := by
  have := heap_alloc_new wB (.cells #[.int .i64 0, .int .i64 0, .slice none 0 0, .slice none 0 0] 27);rw [zB] at this;rw [hw1]; exact this
 have hkl : w.heap.size + 1 < w1.heap.size := (Array.getElem?_eq_some_iff.1 kR).1;have q1 := hide (hB1.sys.valid c d (he.below hB1.bel zR));have b0 := hB1.box.c0;have b1 := hB1.box.c1;have b2 := hB1.box.c2;have b3 := hB1.box.c3;replace hB1 := hide hB1;replace kR := hide kR;clear h hB hbB1 he;go_enter Tryz.func41, Tryz.ntmps41;go_upto_region 1 with fail;rw [show ((w.alloc (.cells #[.int .i64 (N : Int), .int .i64 (ini : Int), .slice A n c, .slice B m d] 27)).alloc (.cells #[.int .i64 0, .int .i64 0, .slice none 0 0, .slice none 0 0] 27)) = w1 from by rw [hw1, hwB]];replace hw1 := hide hw1;replace hwB := hide hwB;go_wp2_with fail;refine q1.out.mono ?_;rintro e w2 ⟨rfl, hb2⟩;have hB2 := hide (hB1.out.below hb2);have kR2 := hide ((hb2.block _ hkl).trans kR.out);have hz12 := hb2.size;clear q1 b0 b1 b2 b3 hb2;have b0 := hB2.out.box.c0;have b1 := hB2.out.box.c1;have b2 := hB2.out.box.c2;have b3 := hB2.out.box.c3;have q2 := hide (minimalBr_calls hB2.out.sys c d dv hE);have hz2 := hB2.out.bel.size;go_wp2_with fail;refine q2.out.mono ?_;rintro e w4 ⟨r, c0, i0, A2, c2, A3, n3, d3, rfl, hM⟩;have h8 : w4.heap[w.heap.size + 1]? = _ := (hM.bel.block _ (by omega)).trans kR2.out;have a0 : w4.cell? ⟨w.heap.size + 1, 0, none⟩ = some (.int .i64 0) := (cell_of_row _ _ 0 _ _ (0, 0) h8).trans rfl;have a1 : w4.cell? ⟨w.heap.size + 1, 1, none⟩ = some (.int .i64 0) := (cell_of_row _ _ 1 _ _ (0, 0) h8).trans rfl;have a2 : w4.cell? ⟨w.heap.size + 1, 2, none⟩ = some (.slice none 0 0) := (cell_of_row _ _ 2 _ _ (0, 0) h8).trans rfl;have a3 : w4.cell? ⟨w.heap.size + 1, 3, none⟩ = some (.slice none 0 0) := (cell_of_row _ _ 3 _ _ (0, 0) h8).trans rfl;have y0 : w4.frozen? ⟨w.heap.size + 1, 0, none⟩ = false := frozen_of_row _ _ 0 _ _ h8;have y1 : w4.frozen? ⟨w.heap.size + 1, 1, none⟩ = false := frozen_of_row _ _ 1 _ _ h8;have y2 : w4.frozen? ⟨w.heap.size + 1, 2, none⟩ = false := frozen_of_row _ _ 2 _ _ h8;have y3 : w4.frozen? ⟨w.heap.size + 1, 3, none⟩ = false := frozen_of_row _ _ 3 _ _ h8;have hbF := hide (hB2.out.bel.trans (hM.bel.mono hz2));have hz4 := hM.bel.size;have hkl2 : w.heap.size + 1 < w2.heap.size := by omega
 replace hM := hide hM;replace h8 := hide h8;obtain ⟨NM, hNM⟩ : ∃ NM, NM = numB (mbP N ini r dv es) := ⟨_, rfl⟩;rw [← hNM];replace hNM := hide hNM;clear q2 b0 b1 b2 b3;go_wp2_with fail
 (try simp only [Exit.inBlock, Exit.then])
 refine bodyPost_ret_by (v := .tuple #[.agg #[.int .i64 (NM : Int), .int .i64 (c0 : Int), .slice A2 n c2, .slice A3 n3 d3], .int .i64 0]) ?_ rfl ?_
 focus
  rw [results_cs rfl];go_simp
 have hZs := put4_size w4 (w.heap.size + 1) (.int .i64 (NM : Int)) (.int .i64 (c0 : Int)) (.slice A2 n c2) (.slice A3 n3 d3);have hf : ∀ q, q ≠ w.heap.size + 1 → (put4 w4 (w.heap.size + 1) (.int .i64 (NM : Int)) (.int .i64 (c0 : Int)) (.slice A2 n c2) (.slice A3 n3 d3)).heap[q]? = w4.heap[q]? := fun q hq => put4_other _ _ _ _ _ _ hq
 rw [hNM.out];refine ⟨r, c0, i0, A2, c2, A3, n3, d3, rfl, ?_⟩;rw [← hNM.out]
 change MinB w (put4 w4 (w.heap.size + 1) (.int .i64 (NM : Int)) (.int .i64 (c0 : Int)) (.slice A2 n c2) (.slice A3 n3 d3)) _ _ _ _ _ _ _ _ _ _ _ _
 refine ⟨?_, ?_, hM.out.ok, hM.out.sz, hM.out.last, hM.out.at0, hM.out.blk, hM.out.lab, hM.out.few, ?_⟩
 ·exact (Sl.keep hM.out.ss (Nat.le_of_eq hZs.symm) fun q h1 h2 h3 => hf q (by omega)).more (by omega) (Nat.le_of_eq hZs.symm)
 ·exact (Sl.keep hM.out.se (Nat.le_of_eq hZs.symm) fun q h1 h2 h3 => hf q (by omega)).more (by omega) (Nat.le_of_eq hZs.symm)
 ·exact ⟨hbF.out.os, hbF.out.tape, hbF.out.output, Nat.le_trans hbF.out.size (Nat.le_of_eq hZs.symm), fun q hq => (hf q (by omega)).trans (hbF.out.block q hq)⟩
end
structure RedM (N ini : Nat) (es : List Ed) (K c0 : Nat) (eb : List Ed) : Prop where
 way : ∃ (P : Nat → Nat) (i : Nat), QuoC (reachF N es (ini : Int)).length K (partF (reachF N es (ini : Int)) es) eb P ∧ (reachF N es (ini : Int))[i]? = some (ini : Int) ∧ P i = c0
 num : ∀ r, LastG (refB (partF (reachF N es (ini : Int)) es) (reachF N es (ini : Int)).length false) (reachF N es (ini : Int)).length r → numB (mbP N ini r false es) = K
theorem RedM.of {w w' : World} {N ini N1 i1 n r c0 iR n3 i : Nat} {ls : List ByteArray} {es em : List Ed} {A2 A3 : Option Addr} {P : Nat → Nat}
  (hM : MinB w w' N1 i1 n ls em false r c0 iR A2 A3 n3) (hi : (reachF N es (ini : Int))[i]? = some (ini : Int))
  (hQ : QuoC (reachF N es (ini : Int)).length (reachF N1 em (i1 : Int)).length (partF (reachF N es (ini : Int)) es) (partF (reachF N1 em (i1 : Int)) em) P) (hP : (reachF N1 em (i1 : Int))[P i]? = some (i1 : Int)) :
  RedM N ini es (numB (mbP N1 i1 r false em)) c0 (mbE N1 i1 r false em) := by
 have hp : PartN (reachF N1 em (i1 : Int)).length (mbP N1 i1 r false em) := itP_part (refB_ref hQ.inm) r;have hcls := cls_quoc (p := mbP N1 i1 r false em) (em := mbE N1 i1 r false em) hQ.inm rfl hM.last (quoB_is hQ.inm hp);refine ⟨⟨_, i, hQ.comp hcls, hi, ?_⟩, fun r0 hL => ?_⟩
 ·have h1 : P i = iR := by
   have a := List.getElem?_eq_some_iff.1 hP;have b := List.getElem?_eq_some_iff.1 hM.at0;exact (List.getElem_inj (reach_nodup (N := N1) (es := em) (ini := (i1 : Int)))).1 (a.2.trans b.2.symm)
  show atL (mbP N1 i1 r false em) (numB (mbP N1 i1 r false em)) (P i) = c0
  rw [h1, atL_some hM.blk];exact Int.toNat_natCast _
 ·exact (quo_numB hQ.inr hQ.inm hQ.stb hQ.quo hQ.onto hL hM.last).symm
theorem RedM.alike {N ini K c0 : Nat} {es eb : List Ed} {ls : List ByteArray} (h : RedM N ini es K c0 eb) (hls : ls.length ≤ 100) (hnd : ls.Nodup) (h0 : ls[0]? = some tauB)
  (he : ∀ e, e ∈ es → (0 ≤ e.1 ∧ e.1 < (N : Int)) ∧ (0 ≤ e.2.1 ∧ e.2.1 < (ls.length : Int)) ∧ (0 ≤ e.2.2 ∧ e.2.2 < (N : Int))) (heN : EdIn N es)
  (hm : ∀ e, e ∈ eb → 0 ≤ e.2.1 ∧ e.2.1 < (ls.length : Int)) (r' : Nat) : sameB (itP (refB (uniE ls eb ls es K) (K + N) false) (K + N) r') c0 (K + ini) := by
 obtain ⟨P, i, hQ, hi, hP⟩ := h.way;rw [← hP];exact quo_rnd hls hnd h0 he heN (fun e hx => ⟨(hQ.inm e hx).1, hm e hx, (hQ.inm e hx).2.2⟩) hQ.inm rfl hi hQ.stb hQ.quo hQ.onto hQ.out r'
end Go.Proofs.YtnhomkmfbngmgaaGreatDoor
