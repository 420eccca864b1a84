/-
  Lemmas that the law of this claim leans on. Conditions: sizes.
-/
import Derived.Test.YtnhomkmfbngmgaaGreatDoorBaseI
import Derived.Test.YtnhomkmfbngmgaaGreatDoorBaseJ
import Derived.Test.YtnhomkmfbngmgaaGreatDoorBaseK
import Derived.Test.YtnhomkmfbngmgaaGreatDoorBaseL
set_option maxHeartbeats 6400000
set_option maxRecDepth 100000
set_option linter.unusedSimpArgs false
set_option linter.unusedVariables false
namespace Go.Proofs.YtnhomkmfbngmgaaGreatDoor
open Go.ChangeShapes Go.WideShapes Go.ChangeAt Go.RowKit Go.Sort
def DrawnT (K M S : Nat) (w : World) (e : Ending) (w' : World) : Prop := ∃ (st ini : Nat) (A : Option Addr) (n c : Nat) (B : Option Addr) (m d : Nat) (ls : List ByteArray) (es : List Ed),
 e = .returned (.agg #[.int .i64 (st : Int), .int .i64 (ini : Int), .slice A n c, .slice B m d]) ∧ SlS w' w.heap.size w'.heap.size A n ls ∧ SlE w' w.heap.size w'.heap.size B m es ∧ ltsV ((st : Int), (ini : Int), ls, es) = true ∧ st ≤ S ∧ m ≤ M ∧ n ≤ K ∧ NamD ls ∧ Below w.heap.size w w'
theorem namD_joi {ts : List ByteArray} (h : NamD ts) : NamD (joiF ts) := fun x hx => ((joi_mem_iff ts x).1 hx).elim .inl (h x)
theorem namD_labs {ts : List ByteArray} (h : NamD ts) : ∀ x, x ∈ ts → x = tauB ∨ labS x = true := fun x hx => (h x hx).imp id fun h => (nm5_lab x h).1
theorem namD_tot : ∀ {l : List ByteArray}, NamD l → totS l ≤ 7 * l.length
 | [], _ => by simp [totS]
 | x :: l, hx => by
  have h1 := namD_tot (l := l) fun y hy => hx y (List.mem_cons_of_mem _ hy)
  have h2 : x.size ≤ 6 := by
   rcases hx x (List.mem_cons_self ..) with e | e
   ·rw [e]; decide
   ·unfold nm5 at e
    simp only [List.mem_cons, List.mem_nil_iff, or_false] at e
    rcases e with rfl | rfl | rfl | rfl | rfl <;> decide
  unfold totS at h1 ⊢;simp only [List.map_cons, List.sum_cons, List.length_cons];omega
theorem drawnT_put {K M S : Nat} {w w5 w6 : World} {st ini : Nat} {A : Option Addr} {n c : Nat} {B : Option Addr} {m d : Nat} {ls : List ByteArray} {es : List Ed} (hA : SlS w6 w5.heap.size w6.heap.size A n ls) (hB : SlE w6 w5.heap.size w6.heap.size B m es)
  (hv : ltsV ((st : Int), (ini : Int), ls, es) = true) (h1 : st ≤ S) (h2 : m ≤ M) (h3 : n ≤ K) (hn : NamD ls) (hlt : w.heap.size < w5.heap.size) (hb : Below w.heap.size w w6) (v0 v1 v2 v3 : Value) :
  DrawnT K M S w (.returned (.agg #[.int .i64 (st : Int), .int .i64 (ini : Int), .slice A n c, .slice B m d])) (put4 w6 w.heap.size v0 v1 v2 v3) := by
 have hZs := put4_size w6 w.heap.size v0 v1 v2 v3;have hz := hb.size;refine ⟨st, ini, A, n, c, B, m, d, ls, es, rfl, ?_, ?_, hv, h1, h2, h3, hn, ?_⟩
 ·exact (Sl.keep hA (by omega) fun q h1 h2 h3 => put4_other _ _ _ _ _ _ (by omega)).more (by omega) (by omega)
 ·exact (Sl.keep hB (by omega) fun q h1 h2 h3 => put4_other _ _ _ _ _ _ (by omega)).more (by omega) (by omega)
 ·exact ⟨hb.os, hb.tape, hb.output, by omega, fun q hq => (put4_other _ _ _ _ _ _ (by omega)).trans (hb.block q hq)⟩
def blkC (p : List Int) : Nat := p.foldl (fun a x => max a (x + 1).toNat) 0
theorem blkC_step {p : List Int} {k : Nat} {x : Int} (hx : p[k]? = some x) : blkC (p.take (k + 1)) = max (blkC (p.take k)) (x + 1).toNat := by
 unfold blkC;rw [List.take_add_one, hx, List.foldl_append]
 rfl
theorem blkC_ge (p : List Int) : ∀ (a : Nat), a ≤ p.foldl (fun a x => max a (x + 1).toNat) a ∧ ∀ x ∈ p, (x + 1).toNat ≤ p.foldl (fun a x => max a (x + 1).toNat) a := by
 induction p with
 | nil => intro a; exact ⟨zR, fun x hx => absurd hx List.not_mem_nil⟩
 | cons y p ih =>
  intro a;obtain ⟨h1, h2⟩ := ih (max a (y + 1).toNat);simp only [List.foldl_cons];refine ⟨by omega, fun x hx => ?_⟩
  rcases List.mem_cons.1 hx with rfl | hx
  ·omega
  ·exact h2 x hx
theorem blkC_lt {p : List Int} (hp : ∀ x, x ∈ p → 0 ≤ x) : ∀ x, x ∈ p → x < (blkC p : Int) := fun x hx => by
 have h1 := (blkC_ge p 0).2 x hx;have h2 := hp x hx;unfold blkC;omega
theorem blkC_up {K : Nat} (p : List Int) (hp : ∀ x, x ∈ p → x < (K : Int)) : ∀ a : Nat, a ≤ K → p.foldl (fun a x => max a (x + 1).toNat) a ≤ K := by
 induction p with
 | nil => intro a h; exact h
 | cons y p ih =>
  intro a h;simp only [List.foldl_cons];have := hp y (List.mem_cons_self ..);exact ih (fun x hx => hp x (List.mem_cons_of_mem _ hx)) _ (by omega)
theorem blkC_le {p : List Int} {K : Nat} (hp : ∀ x, x ∈ p → x < (K : Int)) : blkC p ≤ K := blkC_up p hp 0 (Nat.zero_le _)
theorem l00Max_calls (a b : Nat) (w : World) : Calls Tryz.prog 305 #[.int .i64 (a : Int), .int .i64 (b : Int)] w fun e w' => e = .returned (.int .i64 ((max a b : Nat) : Int)) ∧ w = w' := by
 by_cases h : b < a
 ·have g : (b : Int) < (a : Int) := by omega
  go_enter Tryz.func305, Tryz.ntmps305;go_wp2_with fail;go_ret;exact ⟨by rw [Nat.max_eq_left (by omega)]; rfl, rfl⟩
 ·have g : ¬ (b : Int) < (a : Int) := by omega
  go_enter Tryz.func305, Tryz.ntmps305;go_wp2_with fail;go_ret;exact ⟨by rw [Nat.max_eq_right (by omega)]; rfl, rfl⟩
theorem l13Blocks_calls (A : Option Addr) (n c : Nat) (p : List Int) (w : World) (lo hi : Nat) (h : SlI w lo hi A n p) (hn : n ≤ 1048576) (hp : ∀ x, x ∈ p → 0 ≤ x ∧ x ≤ 1000) :
  Calls Tryz.prog 248 #[.slice A n c] w fun e w' => e = .returned (.int .i64 ((blkC p : Nat) : Int)) ∧ w = w' := by
 have hlen := hide h.len;replace hp := hide hp;go_enter Tryz.func248, Tryz.ntmps248;go_wp2_with fail
 go_loop [3, 4] (fun v3 v4 => ∃ k : Nat, k ≤ n ∧ v4 = .int .i64 (k : Nat) ∧ v3 = .int .i64 ((blkC (p.take k) : Nat) : Int)) (fun _ v4 => n - (intOf v4).toNat)
 case atStart => exact ⟨0, Nat.zero_le _, rfl, rfl⟩
 case round =>
  obtain ⟨k, hk, rfl, rfl⟩ := hrel
  by_cases hlt : k < n
  ·obtain ⟨b, off, x, rfl, g1, g2, g3, hx, c0, -⟩ := SlI.get h hlt
   have hb := hp.out _ (List.mem_of_getElem? hx);obtain ⟨x, rfl⟩ : ∃ j : Nat, x = (j : Int) := ⟨x.toNat, by omega⟩;have k0 : (0 : Int) ≤ (k : Int) := by omega
   have k1 : (k : Int) < (n : Int) := by omega
   have hs : Hid (blkC (p.take (k + 1)) = max (blkC (p.take k)) (x + 1)) := (blkC_step hx).trans (by rw [show ((x : Int) + 1).toNat = x + 1 by omega]);have q : Calls Tryz.prog 305 #[.int .i64 ((blkC (p.take k) : Nat) : Int), .int .i64 ((x : Int) + 1)] w fun e w' => e = .returned (.int .i64 ((max (blkC (p.take k)) (x + 1) : Nat) : Int)) ∧ w = w' := l00Max_calls (blkC (p.take k)) (x + 1) w
   replace q := hide q;clear h hx;go_wp2_with (first | (go_at_call 305; (with_reducible refine q.out.mono ?_); rintro e w' ⟨rfl, rfl⟩))
   go_round
   case rel => exact ⟨k + 1, by omega, by go_num, by rw [hs.out]⟩
   case measure => simp [intOf]; omega
  ·obtain rfl : k = n := by omega
   have hy : p.take k = p := List.take_of_length_le (by rw [hlen.out]; exact zR);clear h;rw [hy];go_wp2_with fail;go_ret;exact ⟨rfl, rfl⟩
theorem l13QuotientP_calls {w : World} {N ini : Nat} {A : Option Addr} {n : Nat} {B : Option Addr} {m : Nat} {ls : List ByteArray} {es : List Ed} (h : SysA w N ini A n B m ls es) (c d bx : Nat) (hbx : LtsBox w bx (N : Int) (ini : Int) A n c B m d) (P : Option Addr) (cP : Nat) (p : List Int) (hP : SlI w 0 w.heap.size P N p) (hp : ∀ x, x ∈ p → 0 ≤ x ∧ x < (N : Int)) (hnam : NamD ls) (hn8 : n ≤ 8) (hm8 : m ≤ 200) :
  Calls Tryz.prog 173 #[.pointer (some ⟨bx, 0, none⟩), .slice P N cP] w (DrawnT 9 (m + N) N w) := by
 have hEe := hide elem_edge;have hmn := h.many;obtain ⟨⟨hN1, hN2⟩, hini⟩ := h.bounds;have hthr := hide h.three;have hpR := hide hp;have hb0 := (Below.refl w.heap.size w).alloc zR (.cells #[.int .i64 0, .int .i64 0, .slice none 0 0, .slice none 0 0] 27);have hr0 : LtsBox (w.alloc (.cells #[.int .i64 0, .int .i64 0, .slice none 0 0, .slice none 0 0] 27)) w.heap.size 0 0 none 0 0 none 0 0 := heap_alloc_new w _;obtain ⟨w1, hw1⟩ : ∃ w1, w1 = w.alloc (.cells #[.int .i64 0, .int .i64 0, .slice none 0 0, .slice none 0 0] 27) := ⟨_, rfl⟩;rw [← hw1] at hb0 hr0;have hz1 : w1.heap.size = w.heap.size + 1 := by rw [hw1, World.size_alloc]
 have hb1 := hide hb0;have hr1 := hide hr0;have hAll : ∀ wx, Below w.heap.size w wx → SysA wx N ini A n B m ls es ∧ LtsBox wx bx (N : Int) (ini : Int) A n c B m d ∧ SlI wx 0 w.heap.size P N p := fun wx hx => ⟨h.below hx zR, hbx.below hx hbx.lt, hP.below hx (.inl zR)⟩
 replace hAll := hide hAll;have hnamh := hide hnam;have hBle := blkC_le (p := p) (K := N) (fun x hx => (hpR.out x hx).2);have hO0 : Hid (Own 3 ev (w1.alloc (.cells #[] 84)) w1.heap.size 84 (some ⟨w1.heap.size, 0, none⟩) 0 0 ([] : List Ed)) := Own.made (α := Ed) (size := 3) (f := ev) w1 84 zR;have hbO0 := hide ((Below.refl w1.heap.size w1).alloc zR (.cells #[] 84));obtain ⟨hz1a, hz1b⟩ : w1.heap.size ≤ w.heap.size + 1 ∧ w.heap.size + 1 ≤ w1.heap.size := ⟨by omega, by omega⟩;clear h hbx hP hb0 hr0 hz1;go_enter Tryz.func173, Tryz.ntmps173;go_upto_region 1 with fail;rw [← hw1];replace hw1 := hide hw1;go_wp2_with fail
 go_loopw [5, 6] (fun v5 v6 wr => ∃ (k KK cc : Nat) (E : Option Addr) (es1 : List Ed), k ≤ m ∧ v6 = .int .i64 (k : Nat) ∧ v5 = .slice E KK cc ∧ KK ≤ k ∧ Hid (Own 3 ev wr w1.heap.size 84 E KK cc es1) ∧ Hid (EdD (blkC p) n es1) ∧ Hid (Below w1.heap.size w1 wr)) (fun _ v _ => m - (intOf v).toNat)
 case atStart => exact ⟨0, 0, _, _, [], Nat.zero_le _, rfl, rfl, Nat.zero_le _, hO0.out, EdD.start _ _, hbO0.out⟩
 case round =>
  clear hO0 hbO0;obtain ⟨k, KK, cc, E, es1, hk, rfl, rfl, hKK, hO, hEd, hbr⟩ := hrel;obtain ⟨hSy, hBx, hPw0⟩ := hAll.out wr (hb1.out.trans (hbr.out.mono hb1.out.size));have b3 := hBx.c3
  by_cases hlt : k < m
  ·clear hPw0 hBx
   have k0 : (0 : Int) ≤ (k : Int) := by omega
   have k1 : (k : Int) < (m : Int) := by omega
   obtain ⟨gB, oB, f, l, t, rfl, -, -, hgB, hx, x0, x1, x2, -⟩ := SlE.get hSy.se hlt;have hin := hthr.out _ (List.mem_of_getElem? hx)
   (try dsimp only at hin)
   obtain ⟨⟨hf0, hf1⟩, ⟨hl0, hl1⟩, ht0, ht1⟩ := hin;obtain ⟨f, rfl⟩ : ∃ k : Nat, f = (k : Int) := ⟨f.toNat, by omega⟩;obtain ⟨t, rfl⟩ : ∃ k : Nat, t = (k : Int) := ⟨t.toNat, by omega⟩;have hfN : f < N := by omega
   have htN : t < N := by omega
   obtain ⟨wE, hwE⟩ : ∃ wE, wE = wr.alloc (.cells #[.int .i64 (f : Int), .int .i64 l, .int .i64 (t : Int)] 84) := ⟨_, rfl⟩;obtain ⟨bE, hbE0⟩ : ∃ bE, bE = wr.heap.size := ⟨_, rfl⟩;have hbE : Below wr.heap.size wr wE := by rw [hwE]; exact bR.alloc zR _
   have kE : wE.heap[bE]? = some (.cells #[.int .i64 (f : Int), .int .i64 l, .int .i64 (t : Int)] 84 (0, 0)) := by rw [hwE, hbE0]; exact heap_alloc_new wr _
   have hbW := hide (hbr.out.trans (hbE.mono hbr.out.size));have hbW0 := hide (hb1.out.trans (hbW.out.mono hb1.out.size));have hPE := (hAll.out wE hbW0.out).2.2;obtain ⟨gP, oP, pf, e1, -, hgP9, hgP, hpf, cf, -⟩ := SlI.get hPE hfN;subst e1;obtain ⟨gP2, oP2, pt, e2, -, -, -, hpt, ct, -⟩ := SlI.get hPE htN;cases e2;have hpfR := hpR.out _ (List.mem_of_getElem? hpf);have hptR := hpR.out _ (List.mem_of_getElem? hpt);have hpfB := blkC_lt (fun x hx => (hpR.out x hx).1) _ (List.mem_of_getElem? hpf);have hptB := blkC_lt (fun x hx => (hpR.out x hx).1) _ (List.mem_of_getElem? hpt);have f0' : (0 : Int) ≤ (f : Int) := by omega
   have f1' : (f : Int) < (N : Int) := by omega
   have t0' : (0 : Int) ≤ (t : Int) := by omega
   have t1' : (t : Int) < (N : Int) := by omega
   have hSS : Hid (∀ wx : World, wx.heap[bE]? = some (.cells #[.int .i64 (f : Int), .int .i64 l, .int .i64 (t : Int)] 84 (0, 0)) → Below w.heap.size w wx → wx.cell? ⟨bE, 0, none⟩ = some (.int .i64 (f : Int)) ∧ wx.cell? ⟨bE, 1, none⟩ = some (.int .i64 l) ∧ wx.cell? ⟨bE, 2, none⟩ = some (.int .i64 (t : Int)) ∧ wx.cell? ⟨gP, oP + f, none⟩ = some (.int .i64 pf) ∧ wx.cell? ⟨gP, oP + t, none⟩ = some (.int .i64 pt)) := fun wx hk hx =>
    ⟨cR 0 hk, cR 1 hk, cR 2 hk, ((hx.cell (p := ⟨gP, oP + f, none⟩) hgP9).trans ((hbW0.out.cell (p := ⟨gP, oP + f, none⟩) hgP9).symm)).trans cf, ((hx.cell (p := ⟨gP, oP + t, none⟩) hgP9).trans ((hbW0.out.cell (p := ⟨gP, oP + t, none⟩) hgP9).symm)).trans ct⟩
   have hOE := hO.out.below hbE zR;have hzr := hbr.out.size;have hnr := hide (fun (b : Nat) (hq : bE ≤ b) => (show some b ≠ (Value.slice E KK cc).ownBlock from fun e => by have := (hO.out.lt b e.symm).2; omega));have hbEh := hide hbE;have hzE : bE < wE.heap.size := (Array.getElem?_eq_some_iff.1 kE).1;replace kE := hide kE;replace hpf := hide hpf;replace hpt := hide hpt;replace hx := hide hx;clear hPE hbE;obtain ⟨wV, hwV⟩ : ∃ wV, wV = wE := ⟨_, rfl⟩;have hbV := hide hbW.out;have hOV := hOE;have kV := hide kE.out;rw [← hwV] at hbV hOV kV;obtain ⟨wD, hwD⟩ : ∃ wD, wD = wV.drew := ⟨_, rfl⟩;have hbD : Below w1.heap.size w1 wD := by rw [hwD]; exact hbV.out.drew
   have hOD : Own 3 ev wD w1.heap.size 84 E KK cc es1 := by rw [hwD]; exact hOV.keep fun _ _ => rfl
   have hOa := hide (hOD.alloc (.cells #[.int .i64 pf, .int .i64 l, .int .i64 pt] 84));have hlit := hide (Sl.lit1' (f := ev) wD 84 (pf, (l : Int), pt) #[.int .i64 pf, .int .i64 l, .int .i64 pt] rfl 3 _ rfl);have hbA := hide (hbD.alloc hbD.size (.cells #[.int .i64 pf, .int .i64 l, .int .i64 pt] 84));have hrow := hide (fun q (e : (Value.slice E KK cc).ownBlock = some q) => (hOD.lt q e).1);have hza : w1.heap.size ≤ (wD.alloc (.cells #[.int .i64 pf, .int .i64 l, .int .i64 pt] 84)).heap.size := hbA.out.size;have hsza : (KK + 1) * 24 ≤ 140737488355328 := by omega
   have hEd2 := hide (hEd.out.app (f := pf) (l := (l : Int)) (t := pt) (by omega) (by omega) (by omega));replace hbD := hide hbD;replace hwD := hide hwD;have kA : Hid ((wD.alloc (.cells #[.int .i64 pf, .int .i64 l, .int .i64 pt] 84)).heap[bE]? = some (.cells #[.int .i64 (f : Int), .int .i64 l, .int .i64 (t : Int)] 84 (0, 0))) := (Below.heap_alloc _ _ _ (by rw [hwD.out]; exact (Array.getElem?_eq_some_iff.1 kV.out).1)).trans (by rw [hwD.out]; exact kV.out);have kD : Hid (wD.heap[bE]? = some (.cells #[.int .i64 (f : Int), .int .i64 l, .int .i64 (t : Int)] 84 (0, 0))) := by show _ = _; rw [hwD.out]; exact kV.out
   have hbD0 := hide (hb1.out.trans (hbD.out.mono hb1.out.size));have hbA0 := hide (hb1.out.trans (hbA.out.mono hb1.out.size));clear cf ct hOE hOV hOD;go_upto_region 6 with fail;rw [← hwE, ← hbE0];clear x0 x1 x2 b3 hSy;replace hwE := hide hwE;replace hbE0 := hide hbE0;rw [← hwV];refine lateT_begin (S := fun w' => w'.cell? ⟨bE, 0, none⟩ = some (.int .i64 (f : Int)) ∧ w'.cell? ⟨bE, 1, none⟩ = some (.int .i64 l) ∧ w'.cell? ⟨bE, 2, none⟩ = some (.int .i64 (t : Int)) ∧ w'.cell? ⟨gP, oP + f, none⟩ = some (.int .i64 pf) ∧ w'.cell? ⟨gP, oP + t, none⟩ = some (.int .i64 pt)) (st := 16) (by kernel_rfl) ?_;rw [← show wD = _ from hwD.out];have hS0 : (fun w' : World => w'.cell? ⟨bE, 0, none⟩ = some (.int .i64 (f : Int)) ∧ w'.cell? ⟨bE, 1, none⟩ = some (.int .i64 l) ∧ w'.cell? ⟨bE, 2, none⟩ = some (.int .i64 (t : Int)) ∧ w'.cell? ⟨gP, oP + f, none⟩ = some (.int .i64 pf) ∧ w'.cell? ⟨gP, oP + t, none⟩ = some (.int .i64 pt)) wD := hSS.out wD kD.out hbD0.out;refine tkB 0 [16] hS0 ?_;refine tkB 1 [16] hS0 ?_;refine tkB 2 [16] hS0 ?_;refine tkB 3 [16] hS0 ?_;refine tkB 4 [16] hS0 ?_;refine tkB 5 [16] hS0 ?_;refine tkB 6 [16] hS0 ?_;refine tkB 7 [16] hS0 ?_;refine tkB 8 [16] hS0 ?_;refine tkB 9 [16] hS0 ?_;refine tkB 10 [16] hS0 ?_;refine tkB 11 [16] hS0 ?_;refine tkB 12 [16] hS0 ?_;refine tkB 13 [16] hS0 ?_;refine lS 14 fun K hK => ?_
   go_simp;refine kP hK (fun _ => hSS.out _ kA.out hbA0.out) ?_
   clear hK K;refine lS 15 fun K hK => ?_
   refine step_appL (m := 1) (d := 1) (by rfl) (.tmp 25) (.tmp 39) (by rfl) hEe.out flat_ev (by go_simp) hOa.out (by go_simp) hlit.out hsza hza ?_;intro A6 c6 w7 hown7 hgr7 hb7 hat7;have k7 := hide ((hgr7.block bE (Array.getElem?_eq_some_iff.1 kA.out).1 (hnr.out bE zR)).trans kA.out);have hbr7 := hide (hbA.out.grown hgr7 hbA.out.size (fun q e => hrow.out q e));have hb7h := hide (hb1.out.trans (hbr7.out.mono hb1.out.size));replace hown7 := hide hown7;clear hgr7 hb7 hat7;refine kP hK (fun _ => hSS.out w7 k7.out hb7h.out) ?_;clear hK K;refine lS 16 fun K hK => ?_
   go_simp;refine kP hK nH ?_
   clear hK K;refine lateT_done (by kernel_rfl) ?_ _;go_wp2_with fail;go_roundw
   case rel => exact ⟨k + 1, KK + 1, c6, A6, _, by omega, by go_num, rfl, by omega, hown7.out, hEd2.out, hbr7.out⟩
   case measure => simp [intOf]; omega
  ·obtain rfl : k = m := by omega
   have k1 : ¬ (k : Int) < (k : Int) := by omega
   clear hPw0 hSy;go_upto_region 7 with fail;clear b3 hBx;have hini0 : (0 : Int) ≤ (ini : Int) := by omega
   have hini1 : (ini : Int) < (N : Int) := by omega
   have hb := hide (hb1.out.trans (hbr.out.mono hb1.out.size));have hPw := (hAll.out wr hb.out).2.2;obtain ⟨gI, oI, pi, e1, -, hgI9, hgI, hpi, ci, -⟩ := SlI.get hPw hini;subst e1;have hpm := List.mem_of_getElem? hpi;have hpiR := hpR.out _ hpm;obtain ⟨pi, rfl⟩ : ∃ k : Nat, pi = (k : Int) := ⟨pi.toNat, by omega⟩;have hpiB := blkC_lt (fun x hx => (hpR.out x hx).1) _ hpm;have hOl := hO.out.len;have hzr := hb.out.size;have hzs := hbr.out.size;have hSS : Hid (∀ wx : World, Below wr.heap.size wr wx → wx.cell? ⟨bx, 1, none⟩ = some (.int .i64 (ini : Int)) ∧ wx.cell? ⟨bx, 2, none⟩ = some (.slice A n c) ∧ wx.cell? ⟨gI, oI + ini, none⟩ = some (.int .i64 (pi : Int))) := fun wx hx => by
    have hy := hAll.out wx (hb.out.trans (hx.mono hb.out.size));exact ⟨hy.2.1.c1, hy.2.1.c2, (hx.cell (p := ⟨gI, oI + ini, none⟩) hgI).trans ci⟩
   have qB := hide (fun (wx : World) (hx : Below wr.heap.size wr wx) => l13Blocks_calls (some ⟨gI, oI, none⟩) N cP p wx 0 w.heap.size (hAll.out wx (hb.out.trans (hx.mono hb.out.size))).2.2 (by omega) (fun x hx => by have := hpR.out x hx; omega));have qM := hide (fun (wx : World) (hx : Below wr.heap.size wr wx) => l11Make_calls ((blkC p : Nat) : Int) (pi : Int) A n c ls E KK cc es1 wx ((hAll.out wx (hb.out.trans (hx.mono hb.out.size))).1.ss) (((hO.out.below hx zR).sl flat_ev).more (Nat.zero_le _) zR) (fun e he => (hEd.out e he).2.1) (by omega) (by omega));obtain ⟨wD, hwD⟩ : ∃ wD, wD = wr.drew := ⟨_, rfl⟩;have hDD : Hid (Below wr.heap.size wr wD) := by show Below _ _ _; rw [hwD]; exact bR.drew
   replace hwD := hide hwD;replace hpi := hide hpi;clear ci hpm hgI9;refine lateT_begin (S := fun w' => w'.cell? ⟨bx, 1, none⟩ = some (.int .i64 (ini : Int)) ∧ w'.cell? ⟨bx, 2, none⟩ = some (.slice A n c) ∧ w'.cell? ⟨gI, oI + ini, none⟩ = some (.int .i64 (pi : Int))) (st := 15) (by kernel_rfl) ?_;rw [← show wD = _ from hwD.out];have hS0 : (fun w' : World => w'.cell? ⟨bx, 1, none⟩ = some (.int .i64 (ini : Int)) ∧ w'.cell? ⟨bx, 2, none⟩ = some (.slice A n c) ∧ w'.cell? ⟨gI, oI + ini, none⟩ = some (.int .i64 (pi : Int))) wD := hSS.out wD hDD.out;refine tkB 0 [15] hS0 ?_;refine tkB 2 [15] hS0 ?_;refine tkB 3 [15] hS0 ?_;refine tkB 4 [15] hS0 ?_;refine tkB 5 [15] hS0 ?_;refine tkB 6 [15] hS0 ?_;refine tkB 7 [15] hS0 ?_;refine tkB 8 [15] hS0 ?_;refine tkB 9 [15] hS0 ?_;refine tkB 10 [15] hS0 ?_;refine tkB 11 [15] hS0 ?_;refine tkB 12 [15] hS0 ?_;refine tkB 13 [15] hS0 ?_;refine lS 1 fun K hK => ?_
   go_simp;go_at_call 248
   (with_reducible refine (qB.out wD hDD.out).mono ?_)
   rintro e w6 ⟨rfl, rfl⟩
   (try go_wp2_with fail)
   refine kP hK (fun _ => hSS.out _ hDD.out) ?_;clear hK K;refine lS 14 fun K hK => ?_
   go_simp;go_at_call 94
   (with_reducible refine (qM.out _ hDD.out).mono ?_)
   rintro e w7 ⟨A2, n2, c2, B2, m2, d2, es3, rfl, hA2, hB2, hM, hb7⟩;have hDD7 := hide (hDD.out.trans (hb7.mono hDD.out.size));have hb07 := hide (hb.out.trans (hDD7.out.mono hb.out.size));have h8 : LtsBox w7 w.heap.size 0 0 none 0 0 none 0 0 := hr1.out.below (hbr.out.trans (hDD7.out.mono hbr.out.size)) (by omega);have a0 := h8.c0;have z0 := h8.f0;have a1 := h8.c1;have z1 := h8.f1;have a2 := h8.c2;have z2 := h8.f2;have a3 := h8.c3;have z3 := h8.f3;replace hA2 := hide hA2;replace hB2 := hide hB2;replace hM := hide hM;have hz7 := hb7.size;have hzD := hDD.out.size;clear hb7 h8
   (try go_wp2_with fail)
   refine kP hK (fun _ => hSS.out w7 hDD7.out) ?_;clear hK K;refine lS 15 fun K hK => ?_
   go_simp;refine kP hK nH ?_
   clear hK K;refine lateT_done (by kernel_rfl) ?_ _;go_wp2_with fail
   (try simp only [Exit.inBlock, Exit.then])
   refine bodyPost_ret_by (v := .agg #[.int .i64 ((blkC p : Nat) : Int), .int .i64 (pi : Int), .slice A2 n2 c2, .slice B2 m2 d2]) ?_ rfl ?_
   focus
    rw [results_cell1 rfl];go_simp
   change DrawnT 9 (_ + N) N w _ (put4 w7 w.heap.size _ _ _ _)
   have hlA := hA2.out.len;have hlB := hB2.out.len;have hlj := joi_len ls;have hml := hM.out.2.1;have hnam2 := namD_joi hnamh.out;have hv : ltsV (((blkC p : Nat) : Int), (pi : Int), joiF ls, es3) = true := made_valid (by omega) (by omega) (namD_labs hnamh.out) (by omega) (by omega) (fun e he => ⟨(hEd.out e he).1, (hEd.out e he).2.2⟩) hM.out;exact drawnT_put hA2.out hB2.out hv (by omega) (by omega) (by omega) hnam2 (by omega) hb07.out _ _ _ _
theorem l15InertP_calls (bE N : Nat) (P : Option Addr) (cP : Nat) (p : List Int) (f t : Nat) (l : Int) (w : World) (lo hi : Nat) (z0 : w.cell? ⟨bE, 0, none⟩ = some (.int .i64 (f : Int))) (z1 : w.cell? ⟨bE, 1, none⟩ = some (.int .i64 l)) (z2 : w.cell? ⟨bE, 2, none⟩ = some (.int .i64 (t : Int))) (hP : SlI w lo hi P N p) (hf : f < N) (ht : t < N) :
  Calls Tryz.prog 246 #[.pointer (some ⟨bE, 0, none⟩), .slice P N cP] w (Says (inG p ((f : Int), l, (t : Int))) w) := by
 obtain ⟨gP, oP, pf, rfl, -, -, hgP, hpf, cf, -⟩ := SlI.get hP hf;obtain ⟨gP2, oP2, pt, e2, -, -, -, hpt, ct, -⟩ := SlI.get hP ht;cases e2;have hval : Hid (inG p ((f : Int), l, (t : Int)) = ((l == 0) && (pf == pt))) := by
  show _ = _
  unfold inG;simp only [Int.toNat_natCast, hpf, hpt]
  by_cases h1 : l = 0 <;> by_cases h2 : pf = pt <;> simp [h1, h2]
 have hI2 : (0 : Int) ≤ (f : Int) := by omega
 have hI3 : (f : Int) < (N : Int) := by omega
 have hI4 : (0 : Int) ≤ (t : Int) := by omega
 have hI5 : (t : Int) < (N : Int) := by omega
 replace hpf := hide hpf;replace hpt := hide hpt;clear hP
 by_cases hl : l = 0
 ·subst hl
  have g1 : ((0 : Int) == 0) = true := rfl;go_enter Tryz.func246, Tryz.ntmps246;go_upto_region 1 with fail;go_quiet (fail);go_wp2_with fail;go_ret;exact ⟨by rw [hval.out]; rfl, below_drewN _ _⟩
 ·have g1 : (l == 0) = false := beq_eq_false_iff_ne.2 hl
  go_enter Tryz.func246, Tryz.ntmps246;go_upto_region 1 with fail;go_quiet (fail);go_wp2_with fail;go_ret;exact ⟨by rw [hval.out, g1]; rfl, below_drewN _ _⟩
def MkB (w wr : World) (N : Nat) (b : List Bool) : Prop := SlB wr w.heap.size (w.heap.size + 1) (some ⟨w.heap.size, 0, none⟩) N b ∧ b.length = N
theorem MkB.below {w wr wx : World} {N : Nat} {b : List Bool} (h : MkB w wr N b) (hz : w.heap.size + 1 ≤ wr.heap.size) (hb : Below wr.heap.size wr wx) : MkB w wx N b := ⟨h.1.below hb (.inl hz), h.2⟩
theorem MkB.put {w wr : World} {N : Nat} {b : List Bool} (h : MkB w wr N b) {k : Nat} (hk : k < N) (x : Bool) : MkB w (wr.setCell ⟨w.heap.size, k, none⟩ (.bool x)) N (b.set k x) := by
 have := h.1.put hk x;rw [Nat.zero_add] at this;exact ⟨this, by rw [List.length_set]; exact h.2⟩
theorem MkB.at_ {w wr : World} {N : Nat} {b : List Bool} (h : MkB w wr N b) {k : Nat} (hk : k < N) : wr.cell? ⟨w.heap.size, k, none⟩ = some (.bool (inS b k)) ∧ wr.frozen? ⟨w.heap.size, k, none⟩ = false := by
 obtain ⟨h1, h2, -⟩ := h.1.cell' hk;rw [Nat.zero_add] at h1 h2;exact ⟨h1, h2⟩
theorem l15ReachP_calls {w : World} {N ini : Nat} {A : Option Addr} {n : Nat} {B : Option Addr} {m : Nat} {ls : List ByteArray} {es : List Ed} (h : SysA w N ini A n B m ls es) (c d bx : Nat) (hbx : LtsBox w bx (N : Int) (ini : Int) A n c B m d) (P : Option Addr) (cP : Nat) (p : List Int) (hP : SlI w 0 w.heap.size P N p) (k : Nat) (hk : k < N) :
  Calls Tryz.prog 304 #[.pointer (some ⟨bx, 0, none⟩), .slice P N cP, .int .i64 (k : Int)] w fun e w' => ∃ b, e = .returned (.slice (some ⟨w.heap.size, 0, none⟩) N N) ∧ MkB w w' N b ∧ w.heap.size + 1 ≤ w'.heap.size ∧ Below w.heap.size w w' := by
 have hmn := h.many;obtain ⟨⟨hN1, hN2⟩, hini⟩ := h.bounds;have hthr := hide h.three;have hAll : ∀ wx, Below w.heap.size w wx → SysA wx N ini A n B m ls es ∧ LtsBox wx bx (N : Int) (ini : Int) A n c B m d ∧ SlI wx 0 w.heap.size P N p := fun wx hx => ⟨h.below hx zR, hbx.below hx hbx.lt, hP.below hx (.inl zR)⟩
 replace hAll := hide hAll;have b0 := hbx.c0;have hmk := run_make_bool N (by omega);obtain ⟨w1, hw1⟩ : ∃ w1, w1 = w.alloc (.cells (madeCells #[.bool false] N) 4) := ⟨_, rfl⟩;have hb1 : Below w.heap.size w w1 := by rw [hw1]; exact bR.alloc zR _
 have hM1 : MkB w w1 N (setOf N fun _ => false) := by rw [hw1]; exact ⟨SlB.made w N, by simp [setOf]⟩
 have hz1 : w.heap.size + 1 ≤ w1.heap.size := by rw [hw1, World.size_alloc]; exact zR
 obtain ⟨d0, d1⟩ := hM1.at_ hk;have hM2 := hM1.put hk true;have hb2 := hb1.setCell (p := ⟨w.heap.size, k, none⟩) zR (.bool true);obtain ⟨w2, hw2⟩ : ∃ w2, w2 = w1.setCell ⟨w.heap.size, k, none⟩ (.bool true) := ⟨_, rfl⟩;rw [← hw2] at hM2 hb2;have hw2' : w2 = w.alloc (.cells ((madeCells #[.bool false] N).setIfInBounds k (.bool true)) 4) := by
  rw [hw2, hw1]; exact World.setCell_alloc_at (w := w) (madeCells #[.bool false] N) 4 w.heap.size k (.bool true) rfl
 have hz2 : w.heap.size + 1 ≤ w2.heap.size := by rw [hw2, World.size_setCell]; exact hz1
 have k0 : (0 : Int) ≤ (k : Int) := by omega
 have k1 : (k : Int) < (N : Int) := by omega
 generalize (setOf N fun _ => false).set k true = s0 at hM2;replace hM2 := hide hM2;replace hb2 := hide hb2;replace hb1 := hide hb1;clear h hbx hP hM1;go_enter Tryz.func304, Tryz.ntmps304;rw [hw1] at d0 d1;go_upto_region 3 with fail;rw [← show w2 = _ from hw2'];replace hw1 := hide hw1;replace hw2 := hide hw2;clear d0 d1 b0 hw2';go_wp2_with fail
 go_loopg [8] (N + 1) (fun G v8 wr => ∃ (s : List Bool) (mo : Bool), v8 = .bool mo ∧ Hid (MkB w wr N s) ∧ w.heap.size + 1 ≤ wr.heap.size ∧ Hid (Below w.heap.size w wr) ∧ Hid (N + (if mo = true then 1 else 0) ≤ G + numBR s))
 case atStart => exact ⟨s0, true, rfl, hM2.out, hz2, hb2.out, by show _ ≤ _; rw [if_pos rfl]; omega⟩
 case round =>
  clear hM2 hb2;obtain ⟨s, mo, rfl, hs, hzr, hb, hG⟩ := hrel
  cases mo with
  | false =>
   go_wp2_with fail;go_ret
   exact ⟨s, rfl, hs.out, hzr, hb.out⟩
  | true =>
   have hg1 := hG.out;rw [if_pos rfl] at hg1;have hnl := numBR_le s;rw [hs.out.2] at hnl;obtain ⟨G2, rfl⟩ : ∃ G2, gk = G2 + 1 := ⟨gk - 1, by omega⟩;have hs0 := hs;have hb0 := hb;have hz0 := hzr;obtain ⟨wo, rfl⟩ : ∃ wo : World, wo = wr := ⟨_, rfl⟩;clear hG hs hb hzr;go_upto_region 7 with fail
   go_loopw [8, 9] (fun v8 v9 wr => ∃ (j : Nat) (mo : Bool) (u : List Bool), j ≤ m ∧ v9 = .int .i64 (j : Nat) ∧ v8 = .bool mo ∧ Hid (MkB w wr N u) ∧ w.heap.size + 1 ≤ wr.heap.size ∧ Hid (Below w.heap.size w wr) ∧ Hid (N + (if mo = true then 1 else 0) ≤ G2 + numBR u)) (fun _ v _ => m - (intOf v).toNat)
   case atStart => exact ⟨0, false, s, Nat.zero_le _, rfl, rfl, hs0.out, hz0, hb0.out, by show _ ≤ _; rw [if_neg (by decide)]; omega⟩
   case round =>
    clear hs0 hb0;obtain ⟨j, mo, u, hj, rfl, rfl, hs, hz, hb, hG⟩ := hrel;have b3 := (hAll.out wr hb.out).2.1.c3
    by_cases hjlt : j < m
    ·have j0 : (0 : Int) ≤ (j : Int) := by omega
     have j1 : (j : Int) < (m : Int) := by omega
     obtain ⟨hSy, -, -⟩ := hAll.out wr hb.out;obtain ⟨gB, oB, f, l, t, rfl, -, -, hgB, hx, x0, x1, x2, -⟩ := SlE.get hSy.se hjlt;have hin := hthr.out _ (List.mem_of_getElem? hx)
     (try dsimp only at hin)
     obtain ⟨⟨hf0, hf1⟩, ⟨hl0, hl1⟩, ht0, ht1⟩ := hin;obtain ⟨f, rfl⟩ : ∃ k : Nat, f = (k : Int) := ⟨f.toNat, by omega⟩;obtain ⟨t, rfl⟩ : ∃ k : Nat, t = (k : Int) := ⟨t.toNat, by omega⟩;have hfN : f < N := by omega
     have htN : t < N := by omega
     obtain ⟨wE, hwE⟩ : ∃ wE, wE = wr.alloc (.cells #[.int .i64 (f : Int), .int .i64 l, .int .i64 (t : Int)] 84) := ⟨_, rfl⟩;obtain ⟨bE, hbE0⟩ : ∃ bE, bE = wr.heap.size := ⟨_, rfl⟩;have hbE : Below wr.heap.size wr wE := by rw [hwE]; exact bR.alloc zR _
     have kE : wE.heap[bE]? = some (.cells #[.int .i64 (f : Int), .int .i64 l, .int .i64 (t : Int)] 84 (0, 0)) := by rw [hwE, hbE0]; exact heap_alloc_new wr _
     have z0 : wE.cell? ⟨bE, 0, none⟩ = some (.int .i64 (f : Int)) := cR 0 kE;have z1 : wE.cell? ⟨bE, 1, none⟩ = some (.int .i64 l) := cR 1 kE;have z2 : wE.cell? ⟨bE, 2, none⟩ = some (.int .i64 (t : Int)) := cR 2 kE;have hbW := hide (hb.out.trans (hbE.mono hb.out.size));have hPE := (hAll.out wE hbW.out).2.2;have qI := hide (l15InertP_calls bE N P cP p f t l wE _ _ z0 z1 z2 hPE hfN htN);have f0' : (0 : Int) ≤ (f : Int) := by omega
     have f1' : (f : Int) < (N : Int) := by omega
     have t0' : (0 : Int) ≤ (t : Int) := by omega
     have t1' : (t : Int) < (N : Int) := by omega
     generalize hig : inG p ((f : Int), l, (t : Int)) = ig at qI;replace hig := hide hig;replace kE := hide kE;replace hx := hide hx;have hbEh := hide hbE;have hzr := hb.out.size;have hsE := hide (hs.out.below hz hbE);have hzE : w.heap.size + 1 ≤ wE.heap.size := Nat.le_trans hz hbE.size;obtain ⟨m0, -⟩ := hsE.out.at_ hfN;obtain ⟨m1, m2⟩ := hsE.out.at_ htN;clear hSy hbE hs;go_upto_region 10 with fail;clear b3 x0 x1 x2;rw [← show wE = _ from hwE, ← hbE0];replace hwE := hide hwE;replace hbE0 := hide hbE0
     cases hf : inS u f with
     | false =>
      rw [hf] at m0;replace hf := hide hf;clear qI;go_wp2_with fail;go_roundw
      case rel => exact ⟨j + 1, mo, u, by omega, by go_num, rfl, hsE.out, hzE, hbW.out, hG.out⟩
      case measure => simp [intOf]; omega
     | true =>
      rw [hf] at m0;replace hf := hide hf
      cases ht : inS u t with
      | true =>
       rw [ht] at m1;replace ht := hide ht;clear qI;go_wp2_with fail;go_roundw
       case rel => exact ⟨j + 1, mo, u, by omega, by go_num, rfl, hsE.out, hzE, hbW.out, hG.out⟩
       case measure => simp [intOf]; omega
      | false =>
       rw [ht] at m1;go_wp2_with fail;refine qI.out.mono ?_;rintro e w4 ⟨rfl, hb4⟩;have hs4 := hide (hsE.out.below hzE hb4);have hz4 : w.heap.size + 1 ≤ w4.heap.size := Nat.le_trans hzE hb4.size;have hb4W := hide (hbW.out.trans (hb4.mono hbW.out.size));obtain ⟨n1, n2⟩ := hs4.out.at_ htN;have z24 := (hb4.cell (p := ⟨bE, 2, none⟩) (Array.getElem?_eq_some_iff.1 kE.out).1).trans z2;clear qI hb4 z0 z1 z2 m0 m1 m2
       cases ig with
       | false =>
        replace ht := hide ht;go_wp2_with fail;go_roundw
        case rel => exact ⟨j + 1, mo, u, by omega, by go_num, rfl, hs4.out, hz4, hb4W.out, hG.out⟩
        case measure => simp [intOf]; omega
       | true =>
        have hs5 := hide (hs4.out.put htN true);have hb5 := hide (hb4W.out.setCell (p := ⟨w.heap.size, t, none⟩) zR (.bool true));have hG5 : Hid (N + (if true = true then 1 else 0) ≤ G2 + numBR (u.set t true)) := by
         have h1 := numBR_set (s := u) (v := t) (by rw [hs4.out.2]; exact htN) ht;have h2 := hG.out
         show _ ≤ _
         rw [if_pos rfl, h1]
         split at h2 <;> omega
        replace ht := hide ht;go_wp2_with fail;go_roundw
        case rel => exact ⟨j + 1, true, u.set t true, by omega, by go_num, rfl, hs5.out, by rw [World.size_setCell]; exact hz4, hb5.out, hG5.out⟩
        case measure => simp [intOf]; omega
    ·obtain rfl : j = m := by omega
     have i1 : ¬ (j : Int) < (j : Int) := by omega
     go_wp2_with fail
     go_roundg G2
     case rel => exact ⟨u, mo, rfl, hs.out, hz, hb.out, hG.out⟩
     case measure => exact Nat.lt_succ_self _
theorem l15Offers_calls {w : World} {N ini : Nat} {A : Option Addr} {n : Nat} {B : Option Addr} {m : Nat} {ls : List ByteArray} {es : List Ed} (h : SysA w N ini A n B m ls es) (c d bx : Nat) (hbx : LtsBox w bx (N : Int) (ini : Int) A n c B m d) (P : Option Addr) (cP : Nat) (p : List Int) (hP : SlI w 0 w.heap.size P N p) (hp : ∀ x, x ∈ p → 0 ≤ x ∧ x ≤ 1000) (k : Nat) (hk : k < N) :
  Calls Tryz.prog 243 #[.pointer (some ⟨bx, 0, none⟩), .slice P N cP, .int .i64 (k : Int)] w fun e w' => ∃ A' n' c' l', e = .returned (.slice A' n' c') ∧ Own 1 iv w' w.heap.size 2 A' n' c' l' ∧ n' ≤ 300 ∧ Below w.heap.size w w' := by
 have hmn := h.many;obtain ⟨⟨hN1, hN2⟩, hini⟩ := h.bounds;have hthr := hide h.three;have hAll : ∀ wx, Below w.heap.size w wx → SysA wx N ini A n B m ls es ∧ LtsBox wx bx (N : Int) (ini : Int) A n c B m d ∧ SlI wx 0 w.heap.size P N p := fun wx hx => ⟨h.below hx zR, hbx.below hx hbx.lt, hP.below hx (.inl zR)⟩
 replace hAll := hide hAll;have b0 := hbx.c0;have q := hide (l15ReachP_calls h c d bx hbx P cP p hP k hk);clear h hbx hP;go_enter Tryz.func243, Tryz.ntmps243;go_wp2_with fail;refine q.out.mono ?_;rintro e w2 ⟨sb, rfl, hM, hz2, hb2⟩;obtain ⟨w3, hw3⟩ : ∃ w3, w3 = w2.alloc (.cells #[] 2) := ⟨_, rfl⟩;have hb23 : Below w2.heap.size w2 w3 := by rw [hw3]; exact bR.alloc zR _
 have hM3 := hide (hM.below hz2 hb23);have hb3 := hide (hb2.trans (hb23.mono hb2.size));have hz3 : w.heap.size + 1 ≤ w3.heap.size := Nat.le_trans hz2 hb23.size;have hO3 : Hid (SlI w3 w2.heap.size w3.heap.size (some ⟨w2.heap.size, 0, none⟩) 0 []) := ⟨rfl, fun h => absurd h (Nat.lt_irrefl 0)⟩;have hOw3 : Hid (Own 1 iv w3 w2.heap.size 2 (some ⟨w2.heap.size, 0, none⟩) 0 0 []) := by show Own _ _ _ _ _ _ _ _ _; rw [hw3]; exact Own.made w2 _ zR
 have hz23 := hb23.size;clear q hM hb2 hb23 b0;go_upto_region 3 with fail;rw [← show w3 = _ from hw3];replace hw3 := hide hw3;go_wp2_with fail
 go_loopw [8, 9] (fun v8 v9 wr => ∃ (j n5 c5 : Nat) (A5 : Option Addr) (L : List Int), j ≤ m ∧ v9 = .int .i64 (j : Nat) ∧ v8 = .slice A5 n5 c5 ∧ n5 ≤ j ∧ Hid (Own 1 iv wr w2.heap.size 2 A5 n5 c5 L) ∧ Hid (L.Pairwise (· < ·)) ∧ Hid (MkB w wr N sb) ∧ w.heap.size + 1 ≤ wr.heap.size ∧ Hid (Below w.heap.size w wr) ∧ Hid (w2.heap.size ≤ wr.heap.size)) (fun _ v _ => m - (intOf v).toNat)
 case atStart => exact ⟨0, 0, 0, _, [], Nat.zero_le _, rfl, rfl, zR, hOw3.out, List.Pairwise.nil, hM3.out, hz3, hb3.out, hz23⟩
 case round =>
  clear hOw3 hO3 hM3 hb3;obtain ⟨j, n5, c5, A5, L, hj, rfl, rfl, hn5, hO, hL, hs, hz, hb, hz2r⟩ := hrel;have b3 := (hAll.out wr hb.out).2.1.c3
  by_cases hjlt : j < m
  ·have j0 : (0 : Int) ≤ (j : Int) := by omega
   have j1 : (j : Int) < (m : Int) := by omega
   obtain ⟨hSy, -, -⟩ := hAll.out wr hb.out;obtain ⟨gB, oB, f, l, t, rfl, -, -, hgB, hx, x0, x1, x2, -⟩ := SlE.get hSy.se hjlt;have hin := hthr.out _ (List.mem_of_getElem? hx)
   (try dsimp only at hin)
   obtain ⟨⟨hf0, hf1⟩, ⟨hl0, hl1⟩, ht0, ht1⟩ := hin;obtain ⟨f, rfl⟩ : ∃ k : Nat, f = (k : Int) := ⟨f.toNat, by omega⟩;obtain ⟨t, rfl⟩ : ∃ k : Nat, t = (k : Int) := ⟨t.toNat, by omega⟩;have hfN : f < N := by omega
   have htN : t < N := by omega
   obtain ⟨wE, hwE⟩ : ∃ wE, wE = wr.alloc (.cells #[.int .i64 (f : Int), .int .i64 l, .int .i64 (t : Int)] 84) := ⟨_, rfl⟩;obtain ⟨bE, hbE0⟩ : ∃ bE, bE = wr.heap.size := ⟨_, rfl⟩;have hbE : Below wr.heap.size wr wE := by rw [hwE]; exact bR.alloc zR _
   have kE : wE.heap[bE]? = some (.cells #[.int .i64 (f : Int), .int .i64 l, .int .i64 (t : Int)] 84 (0, 0)) := by rw [hwE, hbE0]; exact heap_alloc_new wr _
   have z0 : wE.cell? ⟨bE, 0, none⟩ = some (.int .i64 (f : Int)) := cR 0 kE;have z1 : wE.cell? ⟨bE, 1, none⟩ = some (.int .i64 l) := cR 1 kE;have z2 : wE.cell? ⟨bE, 2, none⟩ = some (.int .i64 (t : Int)) := cR 2 kE;have hbW := hide (hb.out.trans (hbE.mono hb.out.size));have hPE := (hAll.out wE hbW.out).2.2;have qI := hide (l15InertP_calls bE N P cP p f t l wE _ _ z0 z1 z2 hPE hfN htN);have f0' : (0 : Int) ≤ (f : Int) := by omega
   have f1' : (f : Int) < (N : Int) := by omega
   have t0' : (0 : Int) ≤ (t : Int) := by omega
   have t1' : (t : Int) < (N : Int) := by omega
   generalize hig : inG p ((f : Int), l, (t : Int)) = ig at qI;replace hig := hide hig;replace kE := hide kE;replace hx := hide hx;have hbEh := hide hbE;have hzr := hb.out.size;have hsE := hide (hs.out.below hz hbE);have hzE : w.heap.size + 1 ≤ wE.heap.size := Nat.le_trans hz hbE.size;have hOE := hide (hO.out.below hbE zR);obtain ⟨m0, -⟩ := hsE.out.at_ hfN;clear hSy hs hO hbE;go_upto_region 7 with fail;clear b3 x0 x1 x2;rw [← show wE = _ from hwE, ← hbE0];replace hwE := hide hwE;replace hbE0 := hide hbE0
   cases hf : inS sb f with
   | false =>
    rw [hf] at m0;replace hf := hide hf;clear qI;go_wp2_with fail;go_roundw
    case rel => exact ⟨j + 1, n5, c5, A5, L, by omega, by go_num, rfl, by omega, hOE.out, hL.out, hsE.out, hzE, hbW.out, Nat.le_trans hz2r.out hbEh.out.size⟩
    case measure => simp [intOf]; omega
   | true =>
    rw [hf] at m0;replace hf := hide hf;go_wp2_with fail;refine qI.out.mono ?_;rintro e w4 ⟨rfl, hb4⟩;have hs4 := hide (hsE.out.below hzE hb4);have hz4 : w.heap.size + 1 ≤ w4.heap.size := Nat.le_trans hzE hb4.size;have hb4W := hide (hbW.out.trans (hb4.mono hbW.out.size));have hO4 := hide (hOE.out.below hb4 zR);have kE4 := hide ((hb4.block _ (Array.getElem?_eq_some_iff.1 kE.out).1).trans kE.out);have hz24 := hide (Nat.le_trans hz2r.out (Nat.le_trans hbEh.out.size hb4.size));clear qI hb4 z0 z1 z2 m0
    cases ig with
    | true =>
     go_wp2_with fail;go_roundw
     case rel => exact ⟨j + 1, n5, c5, A5, L, by omega, by go_num, rfl, by omega, hO4.out, hL.out, hs4.out, hz4, hb4W.out, hz24.out⟩
     case measure => simp [intOf]; omega
    | false =>
     obtain ⟨gP, oP, pt, rfl, -, -, hgP0, hpt, -, -⟩ := SlI.get (hAll.out w4 hb4W.out).2.2 htN;have hpr := hp pt (List.mem_of_getElem? hpt);have hlN0 : 0 ≤ l * (N : Int) := Int.mul_nonneg hl0 (by omega);have hlN1 : l * (N : Int) ≤ 12 * 40 := Int.mul_le_mul (by omega) (by omega) (by omega) (by omega);have hm1 : IntKind.i64.wrap (l * (N : Int)) = l * (N : Int) := IntWalk.i64_in _ (by omega);have hm2 : IntKind.i64.wrap (l * (N : Int) + pt) = l * (N : Int) + pt := IntWalk.i64_in _ (by omega);obtain ⟨wD, hwD⟩ : ∃ wD, wD = w4.drew := ⟨_, rfl⟩;have hbD : Below w4.heap.size w4 wD := by rw [hwD]; exact bR.drew
     have hOD := hO4.out.below hbD zR;have hq := hide (l00Put_calls A5 n5 c5 L (l * (N : Int) + pt) wD _ _ (hOD.sl flat_iv) hL.out (by omega));have hSS : Hid (∀ wx, Below wD.heap.size wD wx → wx.cell? ⟨bE, 1, none⟩ = some (.int .i64 l) ∧ wx.cell? ⟨bE, 2, none⟩ = some (.int .i64 (t : Int)) ∧ wx.cell? ⟨gP, oP + t, none⟩ = some (.int .i64 pt)) := fun wx hx2 => by
      have h1 := hbD.trans (hx2.mono hbD.size);have k8 := (h1.block _ (Array.getElem?_eq_some_iff.1 kE4.out).1).trans kE4.out;obtain ⟨g2, o2, v2, e2, -, -, -, hv2, c2, -⟩ := SlI.get (hAll.out wx (hb4W.out.trans (h1.mono hb4W.out.size))).2.2 htN;cases e2;rw [hpt] at hv2
      cases hv2
      exact ⟨cR 1 k8, cR 2 k8, c2⟩
     have hbDh := hide hbD;have hasc := hide (putI_asc (n := l * (N : Int) + pt) hL.out);replace hwD := hide hwD;replace hpt := hide hpt;clear hbD hOD;go_upto_region 8 with fail
     focus
        refine lateT_begin (S := fun w' => w'.cell? ⟨bE, 1, none⟩ = some (.int .i64 l) ∧ w'.cell? ⟨bE, 2, none⟩ = some (.int .i64 (t : Int)) ∧ w'.cell? ⟨gP, oP + t, none⟩ = some (.int .i64 pt)) (st := 13) (by kernel_rfl) ?_;rw [← show wD = _ from hwD.out];have hS0 : (fun w' : World => w'.cell? ⟨bE, 1, none⟩ = some (.int .i64 l) ∧ w'.cell? ⟨bE, 2, none⟩ = some (.int .i64 (t : Int)) ∧ w'.cell? ⟨gP, oP + t, none⟩ = some (.int .i64 pt)) wD := hSS.out wD bR;refine tkB 0 [13] hS0 ?_;refine tkB 1 [13] hS0 ?_;refine tkB 2 [13] hS0 ?_;refine tkB 3 [13] hS0 ?_;refine tkB 6 [13] hS0 ?_;refine tkB 7 [13] hS0 ?_;refine tkB 8 [13] hS0 ?_;refine tkB 9 [13] hS0 ?_;refine tkB 10 [13] hS0 ?_;refine lS 4 fun K hK => ?_
        go_simp;refine kP hK (fun _ => hSS.out wD bR) ?_
        clear hK K;refine lS 5 fun K hK => ?_
        go_simp;refine kP hK (fun _ => hSS.out wD bR) ?_
        clear hK K;refine lS 11 fun K hK => ?_
        go_simp;refine kP hK (fun _ => hSS.out wD bR) ?_
        clear hK K;refine lS 12 fun K hK => ?_
        go_simp;go_at_call 256
        (with_reducible refine hq.out.mono ?_)
        rintro e w6 ⟨A7, n7, c7, rfl, hO7, hn7, hb7⟩;have hS7 := hide (hSS.out w6 hb7);have hb7h := hide hb7;have hO7h := hide hO7;clear hO7 hb7
        (try go_wp2_with fail)
        refine kP hK (fun _ => hS7.out) ?_;clear hK K;refine lS 13 fun K hK => ?_
        go_simp;refine kP hK nH ?_
        clear hK K;refine lateT_done (by kernel_rfl) ?_ _;have hs7 := hide (hs4.out.below hz4 (hbDh.out.trans (hb7h.out.mono hbDh.out.size)));have hb7W := hide (hb4W.out.trans ((hbDh.out.trans (hb7h.out.mono hbDh.out.size)).mono hb4W.out.size));have hO8 := hide (hO7h.out.sink (show w2.heap.size ≤ wD.heap.size from Nat.le_trans hz24.out hbDh.out.size));have hz7 : w.heap.size + 1 ≤ w6.heap.size := Nat.le_trans hz4 (Nat.le_trans hbDh.out.size hb7h.out.size);go_wp2_with fail;go_roundw
        case rel => exact ⟨j + 1, n7, c7, A7, _, by omega, by go_num, rfl, by omega, hO8.out, hasc.out, hs7.out, hz7, hb7W.out, Nat.le_trans hz24.out (Nat.le_trans hbDh.out.size hb7h.out.size)⟩
        case measure => simp [intOf]; omega
  ·obtain rfl : j = m := by omega
   have i1 : ¬ (j : Int) < (j : Int) := by omega
   have hOF := hide (hO.out.sink (show w.heap.size ≤ w2.heap.size by omega));go_wp2_with fail;go_ret;exact ⟨A5, n5, c5, rfl, ⟨L, hOF.out⟩, by omega, hb.out⟩
theorem l15Diverge_calls {w : World} {N ini : Nat} {A : Option Addr} {n : Nat} {B : Option Addr} {m : Nat} {ls : List ByteArray} {es : List Ed} (h : SysA w N ini A n B m ls es) (c d bx : Nat) (hbx : LtsBox w bx (N : Int) (ini : Int) A n c B m d) (P : Option Addr) (cP : Nat) (p : List Int) (hP : SlI w 0 w.heap.size P N p) :
  Calls Tryz.prog 242 #[.pointer (some ⟨bx, 0, none⟩), .slice P N cP] w fun e w' => ∃ b, e = .returned (.slice (some ⟨w.heap.size, 0, none⟩) N N) ∧ MkB w w' N b ∧ w.heap.size + 1 ≤ w'.heap.size ∧ Below w.heap.size w w' := by
 have hmn := h.many;obtain ⟨⟨hN1, hN2⟩, hini⟩ := h.bounds;have hthr := hide h.three;have hAll : ∀ wx, Below w.heap.size w wx → SysA wx N ini A n B m ls es ∧ LtsBox wx bx (N : Int) (ini : Int) A n c B m d ∧ SlI wx 0 w.heap.size P N p := fun wx hx => ⟨h.below hx zR, hbx.below hx hbx.lt, hP.below hx (.inl zR)⟩
 replace hAll := hide hAll;have b0 := hbx.c0;have hmk := run_make_bool N (by omega);obtain ⟨w1, hw1⟩ : ∃ w1, w1 = w.alloc (.cells (madeCells #[.bool false] N) 4) := ⟨_, rfl⟩;have hb1 : Hid (Below w.heap.size w w1) := by show Below _ _ _; rw [hw1]; exact bR.alloc zR _
 have hM1 : Hid (MkB w w1 N (setOf N fun _ => false)) := by show MkB _ _ _ _; rw [hw1]; exact ⟨SlB.made w N, by simp [setOf]⟩
 have hz1 : w.heap.size + 1 ≤ w1.heap.size := by rw [hw1, World.size_alloc]; exact zR
 clear h hbx hP;go_enter Tryz.func242, Tryz.ntmps242;go_upto_region 2 with fail;rw [← show w1 = _ from hw1];replace hw1 := hide hw1;clear b0;go_wp2_with fail
 go_loopw [6] (fun v6 wr => ∃ (k : Nat) (b : List Bool), k ≤ N ∧ v6 = .int .i64 (k : Nat) ∧ Hid (MkB w wr N b) ∧ w.heap.size + 1 ≤ wr.heap.size ∧ Hid (Below w.heap.size w wr)) (fun v _ => N - (intOf v).toNat)
 case atStart => exact ⟨0, _, Nat.zero_le _, rfl, hM1.out, hz1, hb1.out⟩
 case round =>
  clear hM1 hb1;obtain ⟨k, b, hk, rfl, hs, hz, hb⟩ := hrel;have b0 := (hAll.out wr hb.out).2.1.c0
  by_cases hlt : k < N
  ·have k0 : (0 : Int) ≤ (k : Int) := by omega
   have k1 : (k : Int) < (N : Int) := by omega
   obtain ⟨m1, m2⟩ := hs.out.at_ hlt;have hs5 := hide (hs.out.put hlt true);have hb5 := hide (hb.out.setCell (p := ⟨w.heap.size, k, none⟩) zR (.bool true));go_wp2_with fail;go_roundw
   case rel => exact ⟨k + 1, b.set k true, by omega, by go_num, hs5.out, by rw [World.size_setCell]; exact hz, hb5.out⟩
   case measure => simp [intOf]; omega
  ·have k1 : ¬ (k : Int) < (N : Int) := by omega
   obtain ⟨wK, rfl⟩ : ∃ wK : World, wK = wr := ⟨_, rfl⟩;have hsK := hs;have hbK := hb;have hzK := hz;clear hs hb hz;go_upto_region 7 with fail;clear b0
   go_loopg [7] (N + 1) (fun G v7 wr => ∃ (s : List Bool) (mo : Bool), v7 = .bool mo ∧ Hid (MkB w wr N s) ∧ w.heap.size + 1 ≤ wr.heap.size ∧ Hid (Below w.heap.size w wr) ∧ Hid (numBR s + (if mo = true then 1 else 0) ≤ G))
   case atStart => exact ⟨b, true, rfl, hsK.out, hzK, hbK.out, by show _ ≤ _; rw [if_pos rfl]; have := numBR_le b; rw [hsK.out.2] at this; omega⟩
   case round =>
    clear hsK hbK;obtain ⟨s, mo, rfl, hs, hzr, hb, hG⟩ := hrel
    cases mo with
    | false =>
     go_wp2_with fail;go_ret
     exact ⟨s, rfl, hs.out, hzr, hb.out⟩
    | true =>
     have hg1 := hG.out;rw [if_pos rfl] at hg1;obtain ⟨G2, rfl⟩ : ∃ G2, gk = G2 + 1 := ⟨gk - 1, by omega⟩;have hs0 := hs;have hb0 := hb;have hz0 := hzr;obtain ⟨wo, rfl⟩ : ∃ wo : World, wo = wr := ⟨_, rfl⟩;clear hG hs hb hzr;go_upto_region 10 with fail
     go_loopw [7, 8] (fun v7 v8 wr => ∃ (k : Nat) (mo : Bool) (u : List Bool), k ≤ N ∧ v8 = .int .i64 (k : Nat) ∧ v7 = .bool mo ∧ Hid (MkB w wr N u) ∧ w.heap.size + 1 ≤ wr.heap.size ∧ Hid (Below w.heap.size w wr) ∧ Hid (numBR u + (if mo = true then 1 else 0) ≤ G2)) (fun _ v _ => N - (intOf v).toNat)
     case atStart => exact ⟨0, false, s, Nat.zero_le _, rfl, rfl, hs0.out, hz0, hb0.out, by show _ ≤ _; rw [if_neg (by decide)]; omega⟩
     case round =>
      clear hs0 hb0;obtain ⟨k, mo, u, hk, rfl, rfl, hs, hz, hb, hG⟩ := hrel;have b0 := (hAll.out wr hb.out).2.1.c0
      by_cases hlt : k < N
      ·have k0 : (0 : Int) ≤ (k : Int) := by omega
       have k1 : (k : Int) < (N : Int) := by omega
       obtain ⟨m1, m2⟩ := hs.out.at_ hlt
       by_cases hu : inS u k = true
       ·rw [hu] at m1
        replace hu := hide hu;obtain ⟨wO, rfl⟩ : ∃ wO : World, wO = wr := ⟨_, rfl⟩;have hsO := hs;have hbO := hb;have hzO := hz;clear hs hb hz;go_upto_region 15 with fail;clear m1 m2 b0
        go_loopw [9, 10] (fun v9 v10 wr => ∃ (j : Nat) (go : Bool), j ≤ m ∧ v10 = .int .i64 (j : Nat) ∧ v9 = .bool go ∧ Hid (MkB w wr N u) ∧ w.heap.size + 1 ≤ wr.heap.size ∧ Hid (Below w.heap.size w wr)) (fun _ v _ => m - (intOf v).toNat)
        case atStart => exact ⟨0, false, Nat.zero_le _, rfl, rfl, hsO.out, hzO, hbO.out⟩
        case round =>
         clear hsO hbO;obtain ⟨j, go, hj, rfl, rfl, hs, hz, hb⟩ := hrel;have b3 := (hAll.out wr hb.out).2.1.c3
         by_cases hjlt : j < m
         ·have j0 : (0 : Int) ≤ (j : Int) := by omega
          have j1 : (j : Int) < (m : Int) := by omega
          obtain ⟨hSy, -, -⟩ := hAll.out wr hb.out;obtain ⟨gB, oB, f, l, t, rfl, -, -, hgB, hx, x0, x1, x2, -⟩ := SlE.get hSy.se hjlt;have hin := hthr.out _ (List.mem_of_getElem? hx)
          (try dsimp only at hin)
          obtain ⟨⟨hf0, hf1⟩, ⟨hl0, hl1⟩, ht0, ht1⟩ := hin;obtain ⟨f, rfl⟩ : ∃ k : Nat, f = (k : Int) := ⟨f.toNat, by omega⟩;obtain ⟨t, rfl⟩ : ∃ k : Nat, t = (k : Int) := ⟨t.toNat, by omega⟩;have hfN : f < N := by omega
          have htN : t < N := by omega
          obtain ⟨wE, hwE⟩ : ∃ wE, wE = wr.alloc (.cells #[.int .i64 (f : Int), .int .i64 l, .int .i64 (t : Int)] 84) := ⟨_, rfl⟩;obtain ⟨bE, hbE0⟩ : ∃ bE, bE = wr.heap.size := ⟨_, rfl⟩;have hbE : Below wr.heap.size wr wE := by rw [hwE]; exact bR.alloc zR _
          have kE : wE.heap[bE]? = some (.cells #[.int .i64 (f : Int), .int .i64 l, .int .i64 (t : Int)] 84 (0, 0)) := by rw [hwE, hbE0]; exact heap_alloc_new wr _
          have z0 : wE.cell? ⟨bE, 0, none⟩ = some (.int .i64 (f : Int)) := cR 0 kE;have z1 : wE.cell? ⟨bE, 1, none⟩ = some (.int .i64 l) := cR 1 kE;have z2 : wE.cell? ⟨bE, 2, none⟩ = some (.int .i64 (t : Int)) := cR 2 kE;have hbW := hide (hb.out.trans (hbE.mono hb.out.size));have hPE := (hAll.out wE hbW.out).2.2;have qI := hide (l15InertP_calls bE N P cP p f t l wE _ _ z0 z1 z2 hPE hfN htN);have f0' : (0 : Int) ≤ (f : Int) := by omega
          have f1' : (f : Int) < (N : Int) := by omega
          have t0' : (0 : Int) ≤ (t : Int) := by omega
          have t1' : (t : Int) < (N : Int) := by omega
          generalize hig : inG p ((f : Int), l, (t : Int)) = ig at qI;replace hig := hide hig;replace kE := hide kE;replace hx := hide hx;have hbEh := hide hbE;have hzr := hb.out.size;have hsE := hide (hs.out.below hz hbE);have hzE : w.heap.size + 1 ≤ wE.heap.size := Nat.le_trans hz hbE.size;clear hSy hbE hs;go_upto_region 18 with fail;clear b3 x0 x1 x2;rw [← show wE = _ from hwE, ← hbE0];replace hwE := hide hwE;replace hbE0 := hide hbE0
          cases go with
          | true =>
           clear qI;go_wp2_with fail;go_roundw
           case rel => exact ⟨j + 1, true, by omega, by go_num, rfl, hsE.out, hzE, hbW.out⟩
           case measure => simp [intOf]; omega
          | false =>
           by_cases hfk : f = k
           ·subst hfk
            have g1 : ((f : Int) == (f : Int)) = true := by simp
            go_wp2_with fail;refine qI.out.mono ?_
            rintro e w4 ⟨rfl, hb4⟩;have hs4 := hide (hsE.out.below hzE hb4);have hz4 : w.heap.size + 1 ≤ w4.heap.size := Nat.le_trans hzE hb4.size;have hb4W := hide (hbW.out.trans (hb4.mono hbW.out.size));obtain ⟨n1, n2⟩ := hs4.out.at_ htN;have z24 := (hb4.cell (p := ⟨bE, 2, none⟩) (Array.getElem?_eq_some_iff.1 kE.out).1).trans z2;clear qI hb4 z0 z1 z2
            cases ig with
            | false =>
             go_wp2_with fail;go_roundw
             case rel => exact ⟨j + 1, false, by omega, by go_num, rfl, hs4.out, hz4, hb4W.out⟩
             case measure => simp [intOf]; omega
            | true =>
             go_wp2_with fail;go_roundw
             case rel => exact ⟨j + 1, inS u t, by omega, by go_num, rfl, hs4.out, hz4, hb4W.out⟩
             case measure => simp [intOf]; omega
           ·have g1 : ((f : Int) == (k : Int)) = false := beq_eq_false_iff_ne.2 (by omega)
            clear qI;go_wp2_with fail;go_roundw
            case rel => exact ⟨j + 1, false, by omega, by go_num, rfl, hsE.out, hzE, hbW.out⟩
            case measure => simp [intOf]; omega
         ·obtain rfl : j = m := by omega
          have i1 : ¬ (j : Int) < (j : Int) := by omega
          obtain ⟨m1, m2⟩ := hs.out.at_ hlt
          cases go with
          | true =>
           go_wp2_with fail;go_roundw
           case rel => exact ⟨k + 1, mo, u, by omega, by go_num, rfl, hs.out, hz, hb.out, hG.out⟩
           case measure => simp [intOf]; omega
          | false =>
           have hs5 := hide (hs.out.put hlt false);have hb5 := hide (hb.out.setCell (p := ⟨w.heap.size, k, none⟩) zR (.bool false));have hG5 : Hid (numBR (u.set k false) + (if true = true then 1 else 0) ≤ G2) := by
            have h1 := numBR_off (s := u) (v := k) (by rw [hs.out.2]; exact hlt) hu.out;have h2 := hG.out
            show _ ≤ _
            rw [if_pos rfl, h1]
            split at h2 <;> omega
           go_wp2_with fail;go_roundw
           case rel => exact ⟨k + 1, true, u.set k false, by omega, by go_num, rfl, hs5.out, by rw [World.size_setCell]; exact hz, hb5.out, hG5.out⟩
           case measure => simp [intOf]; omega
       ·have hu2 : inS u k = false := Bool.eq_false_iff.2 hu
        rw [hu2] at m1;replace hu := hide hu;replace hu2 := hide hu2;go_wp2_with fail;go_roundw
        case rel => exact ⟨k + 1, mo, u, by omega, by go_num, rfl, hs.out, hz, hb.out, hG.out⟩
        case measure => simp [intOf]; omega
      ·have k1 : ¬ (k : Int) < (N : Int) := by omega
       go_wp2_with fail
       go_roundg G2
       case rel => exact ⟨u, mo, rfl, hs.out, hz, hb.out, hG.out⟩
       case measure => exact Nat.lt_succ_self _
open Go.Lib
section
variable {α : Type} {size : Nat} {f : α → List Value} {w w' : World} {base n c : Nat} {e : TypeId} {A : Option Addr} {l : List α}
theorem Own.typedK (h : Own size f w base e A n c l) {g : Nat} (hg : (Value.slice A n c).ownBlock = some g) : base ≤ g ∧ g < w.heap.size ∧ ∃ cur, w.heap[g]? = some (.cells cur e (0, 0)) := by
 refine ⟨(h.lt g hg).1, (h.lt g hg).2, ?_⟩
 rcases h.2.2 with ⟨hv, _⟩ | ⟨b, cap, cur, hv, _, hb, _⟩
 ·rw [hv] at hg; cases hg
 ·rw [hv] at hg
  obtain rfl : b = g := by injection hg
  exact ⟨cur, hb⟩
theorem Own.otherK (h : Own size f w base e A n c l) {b : Nat} {cur : Array Value} {t : TypeId} {z : Nat × Nat} (hb : w.heap[b]? = some (.cells cur t z)) (ht : t ≠ e) : some b ≠ (Value.slice A n c).ownBlock := fun e1 => by
 obtain ⟨-, -, cu, h1⟩ := h.typedK e1.symm;rw [hb] at h1;injection h1 with h1;injection h1 with _ h1;exact ht h1
end
structure KeeW (w wr : World) (bo : Nat) (s i : Int) (A1 : Option Addr) (n2 c1 : Nat) (J : List ByteArray) (A3 : Option Addr) (k c3 : Nat) (E : List Ed) : Prop where
 box : LtsBox wr bo s i A1 n2 c1 A3 k c3
 res : LtsBox wr w.heap.size 0 0 none 0 0 none 0 0
 labs : Own 1 strv wr (w.heap.size + 1) 9 A1 n2 c1 J
 eds : Own 3 ev wr (w.heap.size + 1) 84 A3 k c3 E
 bel : Below w.heap.size w wr
 base : w.heap.size < bo
section
variable {w wr w' : World} {bo : Nat} {s i : Int} {A1 : Option Addr} {n2 c1 : Nat} {J : List ByteArray} {A3 : Option Addr} {k c3 : Nat} {E : List Ed}
theorem KeeW.below (h : KeeW w wr bo s i A1 n2 c1 J A3 k c3 E) (hb : Below wr.heap.size wr w') : KeeW w w' bo s i A1 n2 c1 J A3 k c3 E where
 box := h.box.below hb h.box.lt
 res := h.res.below hb h.res.lt
 labs := h.labs.below hb zR
 eds := h.eds.below hb zR
 bel := h.bel.trans (hb.mono h.bel.size)
 base := h.base
theorem KeeW.alloc (h : KeeW w wr bo s i A1 n2 c1 J A3 k c3 E) (o : Obj) : KeeW w (wr.alloc o) bo s i A1 n2 c1 J A3 k c3 E := h.below (bR.alloc zR o)
theorem KeeW.grown (h : KeeW w wr bo s i A1 n2 c1 J A3 k c3 E) {A7 : Option Addr} {k7 c7 : Nat} {E' : List Ed} (hg : wr.grownBy w' (Value.slice A3 k c3).ownBlock) (ho : Own 3 ev w' (w.heap.size + 1) 84 A7 k7 c7 E') : LtsBox w' bo s i A1 n2 c1 A3 k c3 ∧ KeeW w (w'.setCell ⟨bo, 3, none⟩ (.slice A7 k7 c7)) bo s i A1 n2 c1 J A7 k7 c7 E' := by
 have hb0 := h.base;have hbx := h.box.grown hg (h.eds.otherK h.box (by decide));have hrs := h.res.grown hg (h.eds.otherK h.res (by decide));have hO : Only bo (bo + 1) w' (w'.setCell ⟨bo, 3, none⟩ (.slice A7 k7 c7)) := (Only.refl bo (bo + 1) w').setCell (p := ⟨bo, 3, none⟩) zR (Nat.lt_succ_self _) _;have hbel : Below w.heap.size w w' := h.bel.grown hg h.bel.size fun q e => by have := (h.eds.lt q e).1; omega
 have hl : Own 1 strv w' (w.heap.size + 1) 9 A1 n2 c1 J := h.labs.keep fun q hq => by
  obtain ⟨-, h2, cur, h3⟩ := h.labs.typedK hq;exact hg.block q h2 (h.eds.otherK h3 (by decide))
 exact ⟨hbx, hbx.set3, hrs.only hO (.inl (by omega)), hl.asideL (hl.otherK hbx (by decide)) _, ho.asideL (ho.otherK hbx (by decide)) _, Only.below hbel hO (by omega) hbel.size, hb0⟩
theorem KeeW.label {A7 : Option Addr} {k7 c7 : Nat} (hb : LtsBox wr bo s i none 0 0 A3 k c3) (hr : LtsBox wr w.heap.size 0 0 none 0 0 none 0 0) (hbel : Below w.heap.size w wr) (h0 : w.heap.size < bo) (he : Own 3 ev wr (w.heap.size + 1) 84 A3 k c3 E)
  (hl : Own 1 strv wr (w.heap.size + 1) 9 A7 k7 c7 J) : KeeW w (wr.setCell ⟨bo, 2, none⟩ (.slice A7 k7 c7)) bo s i A7 k7 c7 J A3 k c3 E := by
 have hO : Only bo (bo + 1) wr (wr.setCell ⟨bo, 2, none⟩ (.slice A7 k7 c7)) := (Only.refl bo (bo + 1) wr).setCell (p := ⟨bo, 2, none⟩) zR (Nat.lt_succ_self _) _;exact ⟨heap_setCell_same wr bo 2 _ _ _ hb, hr.only hO (.inl h0), hl.asideL (hl.otherK hb (by decide)) _, he.asideL (he.otherK hb (by decide)) _, Only.below hbel hO (by omega) hbel.size, h0⟩
theorem KeeW.done (h : KeeW w wr bo s i A1 n2 c1 J A3 k c3 E) (a b c d : Value) : SlS (put4 wr w.heap.size a b c d) w.heap.size (put4 wr w.heap.size a b c d).heap.size A1 n2 J ∧ SlE (put4 wr w.heap.size a b c d) w.heap.size (put4 wr w.heap.size a b c d).heap.size A3 k E ∧ Below w.heap.size w (put4 wr w.heap.size a b c d) := by
 have hZs := put4_size wr w.heap.size a b c d;have hz := h.bel.size;refine ⟨?_, ?_, h.bel.os, h.bel.tape, h.bel.output, by omega, fun q hq => (put4_other _ _ _ _ _ _ (by omega)).trans (h.bel.block q hq)⟩
 ·exact (Sl.keep (h.labs.sl flat_strv) (by omega) fun q h1 h2 h3 => put4_other _ _ _ _ _ _ (by omega)).more (by omega) (by omega)
 ·exact (Sl.keep (h.eds.sl flat_ev) (by omega) fun q h1 h2 h3 => put4_other _ _ _ _ _ _ (by omega)).more (by omega) (by omega)
end
end Go.Proofs.YtnhomkmfbngmgaaGreatDoor
