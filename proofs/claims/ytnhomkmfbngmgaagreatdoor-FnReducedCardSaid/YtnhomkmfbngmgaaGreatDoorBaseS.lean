/-
  Lemmas that the law of this claim leans on. Conditions: sizes.
-/
import Derived.Test.YtnhomkmfbngmgaaGreatDoorBaseA
import Derived.Test.YtnhomkmfbngmgaaGreatDoorBaseB
import Derived.Test.YtnhomkmfbngmgaaGreatDoorBaseC
import Derived.Test.YtnhomkmfbngmgaaGreatDoorBaseD
import Derived.Test.YtnhomkmfbngmgaaGreatDoorBaseE
import Derived.Test.YtnhomkmfbngmgaaGreatDoorBaseG
import Derived.Test.YtnhomkmfbngmgaaGreatDoorBaseJ
import Derived.Test.YtnhomkmfbngmgaaGreatDoorBaseP
import Derived.Test.YtnhomkmfbngmgaaGreatDoorBaseQ
import Derived.Test.YtnhomkmfbngmgaaGreatDoorBaseR
import Derived.Deep.CutBlock
import Derived.Test.YtnhomkmfbngmgaaGreatDoorTie
import Derived.Test.YtnhomkmfbngmgaaGreatDoorCards
set_option maxHeartbeats 12800000
set_option maxRecDepth 100000
set_option linter.unusedSimpArgs false
set_option linter.unusedVariables false
namespace Go.Proofs.YtnhomkmfbngmgaaGreatDoor
open Go.ChangeShapes Go.WideShapes Go.ChangeAt Go.RowKit Go.Sort
def DrawnC (K M S Q b N0 : Nat) (w : World) (e : Ending) (w' : World) : Prop := ∃ (st ini : Nat) (A : Option Addr) (n c : Nat) (B : Option Addr) (m d : Nat) (ls : List ByteArray) (es : List Ed),
 e = .returned (.agg #[.int .i64 (st : Int), .int .i64 (ini : Int), .slice A n c, .slice B m d]) ∧ SlS w' w.heap.size w'.heap.size A n ls ∧ SlE w' w.heap.size w'.heap.size B m es ∧ ltsV ((st : Int), (ini : Int), ls, es) = true ∧ st ≤ S ∧ m ≤ M ∧ n ≤ K ∧ NamD ls ∧ SrcW w' b (N0 + Q) ∧ Only b (b + 1) w w'
theorem DrawnC.put {K M S Q b N0 : Nat} {w w1 wF : World} (hw1 : w1 = w.alloc (.cells #[.int .i64 0, .int .i64 0, .slice none 0 0, .slice none 0 0] 27)) (hb : b < w.heap.size) (hon : Only b (b + 1) w1 wF) {st ini : Nat} {A : Option Addr} {n c : Nat} {B : Option Addr} {m d : Nat} {ls : List ByteArray} {es : List Ed}
  (hA : SlS wF w1.heap.size wF.heap.size A n ls) (hB : SlE wF w1.heap.size wF.heap.size B m es) (hv : ltsV ((st : Int), (ini : Int), ls, es) = true) (h1 : st ≤ S) (h2 : m ≤ M) (h3 : n ≤ K) (hnam : NamD ls) (hs : SrcW wF b (N0 + Q)) :
  DrawnC K M S Q b N0 w (.returned (.agg #[.int .i64 (st : Int), .int .i64 (ini : Int), .slice A n c, .slice B m d])) (put4 wF w.heap.size (.int .i64 (st : Int)) (.int .i64 (ini : Int)) (.slice A n c) (.slice B m d)) := by
 have z1 : w1.heap.size = w.heap.size + 1 := by rw [hw1]; exact World.size_alloc _ _
 have hZ := put4_size wF w.heap.size (.int .i64 (st : Int)) (.int .i64 (ini : Int)) (.slice A n c) (.slice B m d);have hzF := hon.size;refine ⟨st, ini, A, n, c, B, m, d, ls, es, rfl, ?_, ?_, hv, h1, h2, h3, hnam, ?_, ?_⟩
 ·exact (Sl.keep hA (by omega) fun q g1 g2 g3 => put4_other _ _ _ _ _ _ (by omega)).more (by omega) (by omega)
 ·exact (Sl.keep hB (by omega) fun q g1 g2 g3 => put4_other _ _ _ _ _ _ (by omega)).more (by omega) (by omega)
 ·exact hs.keep (by omega) fun q hq => put4_other _ _ _ _ _ _ (by omega)
 ·have g1 : Only b (b + 1) w w1 := by rw [hw1]; exact (Only.refl b (b + 1) w).alloc' _
  exact put4_only (g1.trans' hon) zR _ _ _ _
structure DrC (wB wr : World) (b Q : Nat) (E : Option Addr) (nE cE : Nat) (es : List Ed) : Prop where
 own : Own 3 ev wr wB.heap.size 84 E nE cE es
 src : SrcW wr b Q
 on : Only b (b + 1) wB wr
 lt : b < wB.heap.size
section
variable {wB wr wx : World} {b Q Q' : Nat} {E : Option Addr} {nE cE : Nat} {es : List Ed}
theorem DrC.drew (h : DrC wB wr b Q E nE cE es) : DrC wB wr.drew b Q E nE cE es := ⟨h.own.keep fun _ _ => rfl, h.src.drew, h.on.drew', h.lt⟩
theorem DrC.alloc (h : DrC wB wr b Q E nE cE es) (o : Obj) : DrC wB (wr.alloc o) b Q E nE cE es := ⟨h.own.alloc o, h.src.alloc o, h.on.alloc' o, h.lt⟩
theorem DrC.more (h : DrC wB wr b Q E nE cE es) (hq : Q ≤ Q') : DrC wB wr b Q' E nE cE es := ⟨h.own, h.src.more hq, h.on, h.lt⟩
theorem DrC.call (h : DrC wB wr b Q E nE cE es) (g : SrcTo wr wx b Q') : DrC wB wx b Q' E nE cE es :=
 ⟨h.own.keep fun q e => g.only.block q (h.own.lt q e).2 (by have := (h.own.lt q e).1; have := h.lt; omega), g.src, h.on.trans' g.only, h.lt⟩
theorem DrC.app (h : DrC wB wr b Q E nE cE es) {E' : Option Addr} {n' c' : Nat} {es' : List Ed} (hg : wr.grownBy wx (Value.slice E nE cE).ownBlock) (ho : Own 3 ev wx wB.heap.size 84 E' n' c' es') : DrC wB wx b Q E' n' c' es' :=
 ⟨ho, h.src.grow hg fun q e => by have := (h.own.lt q e).1; have := h.lt; omega, h.on.grow hg fun q e => (h.own.lt q e).1, h.lt⟩
end
theorem namD_totC : ∀ {l : List ByteArray}, NamD l → totS l ≤ 7 * l.length
 | [], _ => by simp [totS]
 | x :: l, hx => by
  have h1 := namD_totC (l := l) fun y hy => hx y (List.mem_cons_of_mem _ hy)
  have h2 : x.size ≤ 6 := by
   rcases hx x (List.mem_cons_self ..) with e | e
   ·rw [e]; decide
   ·unfold nm5 at e
    simp only [List.mem_cons, List.mem_nil_iff, or_false] at e
    rcases e with rfl | rfl | rfl | rfl | rfl <;> decide
  unfold totS at h1 ⊢;simp only [List.map_cons, List.sum_cons, List.length_cons];omega
def nmA : List ByteArray := [⟨#[116, 97, 117]⟩, ⟨#[97]⟩, ⟨#[98]⟩]
def nmB : List ByteArray := [⟨#[116, 97, 117]⟩, ⟨#[97]⟩, ⟨#[99]⟩]
theorem nmA_D : NamD nmA := fun x hx => by
 unfold nmA at hx;simp only [List.mem_cons, List.mem_nil_iff, or_false] at hx
 rcases hx with rfl | rfl | rfl
 ·exact .inl rfl
 ·exact .inr (by unfold nm5; simp)
 ·exact .inr (by unfold nm5; simp)
theorem nmB_D : NamD nmB := fun x hx => by
 unfold nmB at hx;simp only [List.mem_cons, List.mem_nil_iff, or_false] at hx
 rcases hx with rfl | rfl | rfl
 ·exact .inl rfl
 ·exact .inr (by unfold nm5; simp)
 ·exact .inr (by unfold nm5; simp)
theorem joiD {ts : List ByteArray} (h : NamD ts) : NamD (joiF ts) := fun x hx => by
 rcases (joi_mem_iff ts x).1 hx with rfl | h1
 ·exact .inl rfl
 ·exact h x h1
theorem namD_lab {ts : List ByteArray} (h : NamD ts) : ∀ x, x ∈ ts → x = tauB ∨ labS x = true := fun x hx => (h x hx).imp id fun g => (nm5_lab x g).1
theorem Sl.litC {α : Type} {size : Nat} {f : α → List Value} (hf : Flat f size) (w : World) (t : TypeId) (xs : List α) (cs : Array Value) (h : xs.flatMap f = cs.toList) (n g : Nat) (hn : xs.length = n) (hg : g = w.heap.size) (lo : Nat) (hlo : lo ≤ g) :
  Sl size f (w.alloc (.cells cs t)) lo (g + 1) (some ⟨g, 0, none⟩) n xs := by
 subst hg;refine ⟨hn, fun _ => ⟨w.heap.size, 0, rfl, hlo, by omega, by simp, fun k y hy j u hu => ?_⟩⟩;have h1 := flat_at hf xs k y hy j u hu;rw [h] at h1;have hg := heap_alloc_new w (.cells cs t);rw [Nat.zero_add];exact ⟨(cell_of_row _ _ _ cs t (0, 0) hg).trans (by simpa using h1), frozen_of_row _ _ _ cs t hg⟩
theorem sl_three (w : World) (s1 s2 s3 : ByteArray) : SlS (w.alloc (.cells #[.string s1, .string s2, .string s3] 9)) w.heap.size (w.heap.size + 1) (some ⟨w.heap.size, 0, none⟩) 3 [s1, s2, s3] :=
 Sl.litC flat_strv w 9 [s1, s2, s3] #[.string s1, .string s2, .string s3] rfl 3 _ rfl rfl _ zR
theorem l25DrawOk_calls (b N : Nat) (w : World) (h : SrcW w b N) (hN : N ≤ 500000000) :
  Calls Tryz.prog 102 #[.pointer (some ⟨b, 0, none⟩)] w (DrawnC 12 126 9 5000 b N w) := by
 have hEe := hide elem_edge;have hbl := h.lt;obtain ⟨w1, hw1⟩ : ∃ w1, w1 = w.alloc (.cells #[.int .i64 0, .int .i64 0, .slice none 0 0, .slice none 0 0] 27) := ⟨_, rfl⟩;have hw1h := hide hw1;have z1 : w1.heap.size = w.heap.size + 1 := by rw [hw1]; exact World.size_alloc _ _
 have hS1 : SrcW w1 b N := by rw [hw1]; exact h.alloc _
 have kR : LtsBox w1 w.heap.size 0 0 none 0 0 none 0 0 := by rw [hw1]; exact heap_alloc_new w _
 have hRes : Hid (∀ {wx : World}, Only b (b + 1) w1 wx → LtsBox wx w.heap.size 0 0 none 0 0 none 0 0) := fun {wx} ho => kR.only ho (.inr (by omega))
 have q1 := hide (one_calls b N 4 w1 hS1 (by omega));obtain ⟨z1a, z1b⟩ : w1.heap.size ≤ w.heap.size + 1 ∧ w.heap.size + 1 ≤ w1.heap.size := ⟨by omega, by omega⟩;clear h z1 hS1 kR;go_enter Tryz.func102, Tryz.ntmps102;go_upto_region 1 with fail;rw [show w.alloc (.cells #[.int .i64 0, .int .i64 0, .slice none 0 0, .slice none 0 0] 27) = w1 from hw1.symm];replace hw1 := hide hw1;go_wp2_with fail;refine q1.out.mono ?_;rintro e w2 ⟨v1, rfl, hs2⟩;have hon2 := hide hs2.only;clear q1
 cases v1 with
 | true =>
  have q2 := hide (l15DrawOk_calls b (N + 2) w2 hs2.src (by omega));have hz2 := hs2.size;clear hs2;go_wp2_with fail;refine q2.out.mono ?_;rintro e w3 ⟨st, ini, A2, n2, c2, B2, m2, d2, ts, es, rfl, hA, hB, hv, h7, h64, hn7, hnam, hsr, hon⟩;have hon3 := hide (hon2.out.trans' hon);have kx := hRes.out hon3.out;have r0 := kx.c0;have r1 := kx.c1;have r2 := kx.c2;have r3 := kx.c3;have v0 := kx.f0;have v1 := kx.f1;have v2 := kx.f2;have v3 := kx.f3;have hBl := hB.len;have hfin := hide (DrawnC.put (K := 12) (M := 126) (S := 9) (Q := 5000) (N0 := N) (c := c2) (d := d2) hw1h.out hbl hon3.out (hA.more (by omega) zR) (hB.more (by omega) zR) hv (by omega) (by omega) (by omega) (joiD hnam) (hsr.more (by omega)));clear q2 kx hA hB hv hnam hsr hon hz2;go_wp2_with fail
  (try simp only [Exit.inBlock, Exit.then])
  refine bodyPost_ret_by (v := .agg #[.int .i64 (st : Int), .int .i64 (ini : Int), .slice A2 n2 c2, .slice B2 m2 d2]) ?_ rfl ?_
  focus
   rw [results_cell1 rfl];go_simp
  exact hfin.out
 | false =>
  have q2 := hide (pick_calls b (N + 2) 3 w2 hs2.src (by omega));obtain ⟨hz2, hz2'⟩ : w2.heap.size ≤ w1.heap.size ∧ w1.heap.size ≤ w2.heap.size := ⟨Nat.le_of_eq hs2.size, Nat.le_of_eq hs2.size.symm⟩;clear hs2;go_wp2_with fail;refine q2.out.mono ?_;rintro e wA ⟨pa, rfl, pa0, pa1, hsA⟩;obtain ⟨na, hna⟩ : ∃ na : Nat, (na : Int) = 1 + pa := ⟨(1 + pa).toNat, by omega⟩;have hna1 : 1 ≤ na ∧ na ≤ 3 := by omega
  have hwa : IntKind.i64.wrap (1 + pa) = (na : Int) := by rw [hna]; exact IntWalk.i64_in _ (by omega)
  -- the first system's labels and its box
  obtain ⟨wA1, hwA1⟩ : ∃ wA1, wA1 = wA.alloc (.cells #[.string ⟨#[116, 97, 117]⟩, .string ⟨#[97]⟩, .string ⟨#[98]⟩] 9) := ⟨_, rfl⟩;have zA1 : wA1.heap.size = wA.heap.size + 1 := by rw [hwA1]; exact World.size_alloc _ _
  obtain ⟨wA2, hwA2⟩ : ∃ wA2, wA2 = wA1.alloc (.cells #[.int .i64 (na : Int), .int .i64 0, .slice (some ⟨wA.heap.size, 0, none⟩) 3 3, .slice none 0 0] 27) := ⟨_, rfl⟩;have hbA : Below wA.heap.size wA wA2 := by rw [hwA2, hwA1]; exact (bR.alloc zR _).alloc (by rw [World.size_alloc]; omega) _
  have kA2 : LtsBox wA2 (wA.heap.size + 1) (na : Int) 0 (some ⟨wA.heap.size, 0, none⟩) 3 3 none 0 0 := by
   have := heap_alloc_new wA1 (.cells #[.int .i64 (na : Int), .int .i64 0, .slice (some ⟨wA.heap.size, 0, none⟩) 3 3, .slice none 0 0] 27);rw [zA1] at this;rw [hwA2]; exact this
  have sA2 : SlS wA2 wA.heap.size (wA.heap.size + 1) (some ⟨wA.heap.size, 0, none⟩) 3 nmA := by
   have h1 := sl_three wA ⟨#[116, 97, 117]⟩ ⟨#[97]⟩ ⟨#[98]⟩;rw [← hwA1] at h1;rw [hwA2];exact h1.below (bR.alloc zR _) (.inl (by omega))
  have hSA2 : SrcW wA2 b (N + 4) := hsA.src.below hbA hsA.src.lt;obtain ⟨hzA, hzA'⟩ : wA.heap.size ≤ w2.heap.size ∧ w2.heap.size ≤ wA.heap.size := ⟨Nat.le_of_eq hsA.size, Nat.le_of_eq hsA.size.symm⟩;have hon12 := hide ((hon2.out.trans' hsA.only).belowAt hbA (by omega));have q3 := hide (pick_calls b (N + 4) 3 wA2 hSA2 (by omega));have hkA := hide kA2;have hsAl := hide sA2;have hbAz := hbA.size;replace hna := hide hna;clear q2 hsA hbA kA2 sA2 hSA2 zA1 pa0 pa1;go_upto_region 4 with fail;rw [show (wA.alloc (.cells #[.string ⟨#[116, 97, 117]⟩, .string ⟨#[97]⟩, .string ⟨#[98]⟩] 9)).alloc (.cells #[.int .i64 (na : Int), .int .i64 0, .slice (some ⟨wA.heap.size, 0, none⟩) 3 3, .slice none 0 0] 27) = wA2 by rw [hwA2, hwA1]];replace hwA1 := hide hwA1;replace hwA2 := hide hwA2;go_wp2_with fail;refine q3.out.mono ?_;rintro e wB ⟨pb, rfl, pb0, pb1, hsB⟩;obtain ⟨nb, hnb⟩ : ∃ nb : Nat, (nb : Int) = 1 + pb := ⟨(1 + pb).toNat, by omega⟩;have hnb1 : 1 ≤ nb ∧ nb ≤ 3 := by omega
  have hwb : IntKind.i64.wrap (1 + pb) = (nb : Int) := by rw [hnb]; exact IntWalk.i64_in _ (by omega)
  obtain ⟨wB1, hwB1⟩ : ∃ wB1, wB1 = wB.alloc (.cells #[.string ⟨#[116, 97, 117]⟩, .string ⟨#[97]⟩, .string ⟨#[99]⟩] 9) := ⟨_, rfl⟩;have zB1 : wB1.heap.size = wB.heap.size + 1 := by rw [hwB1]; exact World.size_alloc _ _
  obtain ⟨wB2, hwB2⟩ : ∃ wB2, wB2 = wB1.alloc (.cells #[.int .i64 (nb : Int), .int .i64 0, .slice (some ⟨wB.heap.size, 0, none⟩) 3 3, .slice none 0 0] 27) := ⟨_, rfl⟩;have hbB : Below wB.heap.size wB wB2 := by rw [hwB2, hwB1]; exact (bR.alloc zR _).alloc (by rw [World.size_alloc]; omega) _
  have kB2 : LtsBox wB2 (wB.heap.size + 1) (nb : Int) 0 (some ⟨wB.heap.size, 0, none⟩) 3 3 none 0 0 := by
   have := heap_alloc_new wB1 (.cells #[.int .i64 (nb : Int), .int .i64 0, .slice (some ⟨wB.heap.size, 0, none⟩) 3 3, .slice none 0 0] 27);rw [zB1] at this;rw [hwB2]; exact this
  have sB2 : SlS wB2 wB.heap.size (wB.heap.size + 1) (some ⟨wB.heap.size, 0, none⟩) 3 nmB := by
   have h1 := sl_three wB ⟨#[116, 97, 117]⟩ ⟨#[97]⟩ ⟨#[99]⟩;rw [← hwB1] at h1;rw [hwB2];exact h1.below (bR.alloc zR _) (.inl (by omega))
  obtain ⟨hzB, hzB'⟩ : wB.heap.size ≤ wA2.heap.size ∧ wA2.heap.size ≤ wB.heap.size := ⟨Nat.le_of_eq hsB.size, Nat.le_of_eq hsB.size.symm⟩;have hkAl := hkA.out.lt;have hbAb : b < wA.heap.size := by omega
  have kAB : LtsBox wB2 (wA.heap.size + 1) (na : Int) 0 (some ⟨wA.heap.size, 0, none⟩) 3 3 none 0 0 := (hkA.out.only hsB.only (.inr (by omega))).below hbB (by omega);have sAB : SlS wB2 wA.heap.size (wA.heap.size + 1) (some ⟨wA.heap.size, 0, none⟩) 3 nmA := (hsAl.out.only hsB.only (.inr (by omega))).below hbB (.inl (by omega));have hSB2 : SrcW wB2 b (N + 6) := hsB.src.below hbB hsB.src.lt;have hon1B := hide ((hon12.out.trans' hsB.only).belowAt hbB (by have := hon12.out.size; omega));have hAt : Hid (∀ {wx : World}, Only b (b + 1) wB2 wx → LtsBox wx (wA.heap.size + 1) (na : Int) 0 (some ⟨wA.heap.size, 0, none⟩) 3 3 none 0 0 ∧ SlS wx wA.heap.size (wA.heap.size + 1) (some ⟨wA.heap.size, 0, none⟩) 3 nmA ∧ LtsBox wx (wB.heap.size + 1) (nb : Int) 0 (some ⟨wB.heap.size, 0, none⟩) 3 3 none 0 0 ∧ SlS wx wB.heap.size (wB.heap.size + 1) (some ⟨wB.heap.size, 0, none⟩) 3 nmB) := fun {wx} ho =>
   ⟨kAB.only ho (.inr (by omega)), sAB.only ho (.inr (by omega)), kB2.only ho (.inr (by omega)), sB2.only ho (.inr (by omega))⟩
  have hSs : Hid (∀ wx, Only b (b + 1) wB2 wx → (fun w' : World => w'.cell? ⟨wA.heap.size + 1, 0, none⟩ = some (.int .i64 (na : Int))) wx) := fun wx ho => (hAt.out ho).1.c0
  have hbB2 : b < wB2.heap.size := hSB2.lt;obtain ⟨wL, hwL⟩ : ∃ wL, wL = wB2.alloc (.cells #[] 84) := ⟨_, rfl⟩;have zB2 : wB2.heap.size = wB.heap.size + 1 + 1 := by rw [hwB2, World.size_alloc, zB1]
  have hD0 : Hid (DrC wB2 wL b (N + 6) (some ⟨wB.heap.size + 1 + 1, 0, none⟩) 0 0 []) := by
   rw [hwL, ← zB2];exact ⟨Own.made _ _ zR, hSB2.alloc _, (Only.refl _ _ _).alloc' _, hbB2⟩
  have hbBz := hbB.size;have hz1B := hon1B.out.size;replace hnb := hide hnb;clear q3 hsB hbB kB2 sB2 kAB sAB hSB2 zB1 zB2 pb0 pb1;go_upto_region 6 with fail;rw [show ((wB.alloc (.cells #[.string ⟨#[116, 97, 117]⟩, .string ⟨#[97]⟩, .string ⟨#[99]⟩] 9)).alloc (.cells #[.int .i64 (nb : Int), .int .i64 0, .slice (some ⟨wB.heap.size, 0, none⟩) 3 3, .slice none 0 0] 27)).alloc (.cells #[] 84) = wL by rw [hwL, hwB2, hwB1]];replace hwB1 := hide hwB1;go_wp2_with fail
  go_loopw [5, 6] (fun v5 v6 wr => ∃ (k nE cE : Nat) (E : Option Addr) (es : List Ed), k ≤ na ∧ v6 = .int .i64 (k : Int) ∧ v5 = .slice E nE cE ∧ Hid (DrC wB2 wr b (N + 6 + 10 * k) E nE cE es) ∧ Hid (EdD na 3 es) ∧ nE ≤ k) (fun _ v _ => na - (intOf v).toNat)
  case atStart => exact ⟨0, 0, 0, _, [], Nat.zero_le _, rfl, rfl, hD0.out, EdD.start _ _, zR⟩
  case round =>
   clear hD0;obtain ⟨k, nE, cE, E, es, hk, rfl, rfl, hD, hEd, hnE⟩ := hrel;have ca0 := (hAt.out hD.out.on).1.c0
   by_cases hlt : k < na
   ·obtain ⟨tq, htq⟩ : ∃ tq : Nat, tq = (k + 1) % na := ⟨_, rfl⟩
    have hw5 : IntKind.i64.wrap ((k : Int) + 1) = (k : Int) + 1 := IntWalk.i64_in _ (by omega);have hna0 : (na : Int) ≠ 0 := by omega
    have hna0n : ¬ na = 0 := by omega
    have hr2 : ((k : Int) + 1).tmod (na : Int) = (tq : Int) := by
     rw [Int.tmod_eq_emod_of_nonneg (by omega), htq, Int.natCast_emod, Int.natCast_add]
     rfl
    have htN : tq < na := by rw [htq]; exact Nat.mod_lt _ (by omega)
    have hw6 : IntKind.i64.wrap (tq : Int) = (tq : Int) := IntWalk.i64_in _ (by omega);replace htq := hide htq;have k1 : (k : Int) < (na : Int) := by omega
    have hDD := hide hD.out.drew;have hDA := hide ((hD.out.alloc (.cells #[.int .i64 0, .int .i64 0, .int .i64 1, .int .i64 2] 2)).drew);have hzD := hD.out.on.size;have qA := hide (among_calls b _ (some ⟨wr.heap.size, 0, none⟩) 4 4 [0, 0, 1, 2] _ wr.heap.size (wr.heap.size + 1) hDA.out.src (by omega) ((Sl.litC flat_iv wr 2 [0, 0, 1, 2] #[.int .i64 0, .int .i64 0, .int .i64 1, .int .i64 2] rfl 4 _ rfl rfl _ zR).below bR.drew (.inr zR)) (.inr (by omega)) (by omega) (by omega));go_upto_region 9 with fail;clear ca0;refine lateT_begin (S := fun w' => w'.cell? ⟨wA.heap.size + 1, 0, none⟩ = some (.int .i64 (na : Int))) (st := 13) (by kernel_rfl) ?_;have hS0 := hSs.out _ hDD.out.on;refine tkA _ 0 [13] rfl (Or.inl ⟨by kernel_rfl, by intro w9 hSw; obtain u0 := hSw; go_simp <;> with_reducible rfl⟩) hS0 ?_;refine tkA _ 1 [13] rfl (Or.inl ⟨by kernel_rfl, by intro w9 hSw; obtain u0 := hSw; go_simp <;> with_reducible rfl⟩) hS0 ?_;refine tkA _ 2 [13] rfl (Or.inl ⟨by kernel_rfl, by intro w9 hSw; obtain u0 := hSw; go_simp <;> with_reducible rfl⟩) hS0 ?_;refine tkA _ 5 [13] rfl (Or.inl ⟨by kernel_rfl, by intro w9 hSw; obtain u0 := hSw; go_simp <;> with_reducible rfl⟩) hS0 ?_;refine tkA _ 6 [13] rfl (Or.inl ⟨by kernel_rfl, by intro w9 hSw; obtain u0 := hSw; go_simp <;> with_reducible rfl⟩) hS0 ?_;refine tkA _ 7 [13] rfl (Or.inl ⟨by kernel_rfl, by intro w9 hSw; obtain u0 := hSw; go_simp <;> with_reducible rfl⟩) hS0 ?_;refine tkA _ 8 [13] rfl (Or.inl ⟨by kernel_rfl, by intro w9 hSw; obtain u0 := hSw; go_simp <;> with_reducible rfl⟩) hS0 ?_;refine tkA _ 9 [13] rfl (Or.inl ⟨by kernel_rfl, by intro w9 hSw; obtain u0 := hSw; go_simp <;> with_reducible rfl⟩) hS0 ?_;refine lS 3 fun K hK => ?_
    go_simp;refine kP hK (fun _ => hSs.out _ hDA.out.on) ?_
    clear hK K;refine lS 4 fun K hK => ?_
    go_simp;go_at_call 86
    (with_reducible refine qA.out.mono ?_)
    rintro e w6 ⟨lb, rfl, hlb, hs6⟩;have hDC6 := hide (hDA.out.call hs6);have hlb2 : 0 ≤ lb ∧ lb < 3 := by
     simp only [List.mem_cons, List.mem_nil_iff, or_false] at hlb;omega
    have hS6 := hSs.out w6 hDC6.out.on;have hDL := hide (hDC6.out.alloc (.cells #[.int .i64 (k : Int), .int .i64 lb, .int .i64 (tq : Int)] 84));have hlit2 := hide (Sl.lit1' (f := ev) w6 84 ((k : Int), lb, (tq : Int)) #[.int .i64 (k : Int), .int .i64 lb, .int .i64 (tq : Int)] rfl 3 _ rfl);have hza := hDL.out.on.size;have hSL := hSs.out _ hDL.out.on;clear qA hs6 hlb
    (try go_wp2_with fail)
    refine kP hK (fun _ => hS6) ?_;clear hK K;refine lS 10 fun K hK => ?_
    go_simp;refine kP hK (fun _ => hS6) ?_
    clear hK K;refine lS 11 fun K hK => ?_
    go_simp;refine kP hK (fun _ => hSL) ?_
    clear hK K;refine lS 12 fun K hK => ?_
    refine step_appL (m := 1) (d := 1) (by rfl) (.tmp 34) (.tmp 45) (by rfl) hEe.out flat_ev (by go_simp) hDL.out.own (by go_simp) hlit2.out ?c1 hza ?_
    case c1 => omega
    intro A7 c7 w7 hown7 hgr7 hb7 _;have hD7 := hide (hDL.out.app hgr7 hown7);have hS7 := hSs.out w7 hD7.out.on;clear hown7 hgr7 hb7;refine kP hK (fun _ => hS7) ?_;clear hK K;refine lS 13 fun K hK => ?_
    go_simp;refine kP hK nH ?_
    clear hK K;refine lateT_done (by kernel_rfl) ?_ _;have hEd2 := hide (hEd.out.app (f := (k : Int)) (l := lb) (t := (tq : Int)) (by omega) (by omega) (by omega));have hD8 := hide (hD7.out.more (show N + 6 + 10 * k + 2 ≤ N + 6 + 10 * (k + 1) by omega));go_wp2_with fail;go_roundw
    case rel => exact ⟨k + 1, nE + 1, c7, A7, _, by omega, by go_num, rfl, hD8.out, hEd2.out, by omega⟩
    case measure => simp [intOf]; omega
   ·obtain rfl : k = na := by omega
    have k1 : ¬ (k : Int) < (k : Int) := by omega
    obtain ⟨wK, rfl⟩ : ∃ wK : World, wK = wr := ⟨_, rfl⟩;have q4 := hide (one_calls b _ 3 wK hD.out.src (by omega));go_upto_region 10 with fail;clear ca0;go_upto_if 48 with (first | (go_at_call 92; (with_reducible refine q4.out.mono ?_); rintro e wO ⟨v3, rfl, hsO⟩));obtain ⟨na, rfl⟩ : ∃ na : Nat, na = k := ⟨_, rfl⟩;have hzO := hsO.size;obtain ⟨hzO1, hzO2⟩ : wO.heap.size ≤ wK.heap.size ∧ wK.heap.size ≤ wO.heap.size := ⟨Nat.le_of_eq hzO, Nat.le_of_eq hzO.symm⟩;have hDO := hide (hD.out.call hsO);clear hzO hsO q4 hD
    go_cut [5] (fun v5 wx => ∃ (nE2 cE2 : Nat) (E2 : Option Addr) (es2 : List Ed), v5 = .slice E2 nE2 cE2 ∧ Hid (DrC wB2 wx b (N + 60) E2 nE2 cE2 es2) ∧ Hid (EdD na 3 es2) ∧ nE2 ≤ 4)
    case first =>
     cases v3 with
     | true =>
      have hDD := hide hDO.out.drew;have qP := hide (pick_calls b _ 3 wO.drew hDD.out.src (by omega));have ca0 := (hAt.out hDO.out.on).1.c0;go_upto_region 11 with fail;clear ca0;refine lateT_begin (S := fun w' => w'.cell? ⟨wA.heap.size + 1, 0, none⟩ = some (.int .i64 (na : Int))) (st := 10) (by kernel_rfl) ?_;have hS0 := hSs.out _ hDD.out.on;refine tkA _ 0 [10] rfl (Or.inl ⟨by kernel_rfl, by intro w9 hSw; obtain u0 := hSw; go_simp <;> with_reducible rfl⟩) hS0 ?_;refine tkA _ 1 [10] rfl (Or.inl ⟨by kernel_rfl, by intro w9 hSw; obtain u0 := hSw; go_simp <;> with_reducible rfl⟩) hS0 ?_;refine tkA _ 3 [10] rfl (Or.inl ⟨by kernel_rfl, by intro w9 hSw; obtain u0 := hSw; go_simp <;> with_reducible rfl⟩) hS0 ?_;refine tkA _ 4 [10] rfl (Or.inl ⟨by kernel_rfl, by intro w9 hSw; obtain u0 := hSw; go_simp <;> with_reducible rfl⟩) hS0 ?_;refine tkA _ 5 [10] rfl (Or.inl ⟨by kernel_rfl, by intro w9 hSw; obtain u0 := hSw; go_simp <;> with_reducible rfl⟩) hS0 ?_;refine lS 2 fun K hK => ?_
      go_simp;go_at_call 84
      (with_reducible refine qP.out.mono ?_)
      rintro e w5 ⟨lb, rfl, lb0, lb1, hs5⟩;have hDC5 := hide (hDD.out.call hs5);have hS5 := hSs.out w5 hDC5.out.on;have qP2 := hide (pick_calls b _ (na : Int) w5 hs5.src (by omega));clear qP hs5
      (try go_wp2_with fail)
      refine kP hK (fun _ => hS5) ?_;clear hK K;refine lS 6 fun K hK => ?_
      go_simp;go_at_call 84
      (with_reducible refine qP2.out.mono ?_)
      rintro e w6 ⟨tz, rfl, tz0, tz1, hs6⟩;have hDC6 := hide (hDC5.out.call hs6);have hS6 := hSs.out w6 hDC6.out.on;have hDL := hide (hDC6.out.alloc (.cells #[.int .i64 0, .int .i64 lb, .int .i64 tz] 84));have hlit2 := hide (Sl.lit1' (f := ev) w6 84 ((0 : Int), lb, tz) #[.int .i64 0, .int .i64 lb, .int .i64 tz] rfl 3 _ rfl);have hza := hDL.out.on.size;have hSL := hSs.out _ hDL.out.on;clear qP2 hs6
      (try go_wp2_with fail)
      refine kP hK (fun _ => hS6) ?_;clear hK K;refine lS 7 fun K hK => ?_
      go_simp;refine kP hK (fun _ => hS6) ?_
      clear hK K;refine lS 8 fun K hK => ?_
      go_simp;refine kP hK (fun _ => hSL) ?_
      clear hK K;refine lS 9 fun K hK => ?_
      refine step_appL (m := 1) (d := 1) (by rfl) (.tmp 49) (.tmp 57) (by rfl) hEe.out flat_ev (by go_simp) hDL.out.own (by go_simp) hlit2.out ?c1 hza ?_
      case c1 => omega
      intro A7 c7 w7 hown7 hgr7 hb7 _;have hD7 := hide (hDL.out.app hgr7 hown7);have hS7 := hSs.out w7 hD7.out.on;clear hown7 hgr7 hb7;refine kP hK (fun _ => hS7) ?_;clear hK K;refine lS 10 fun K hK => ?_
      go_simp;refine kP hK nH ?_
      clear hK K;refine lateT_done (by kernel_rfl) ?_ _;have hEd2 := hide (hEd.out.app (f := 0) (l := lb) (t := tz) (by omega) (by omega) (by omega));have hD8 := hide (hD7.out.more (show N + 6 + 10 * na + 2 + 2 + 2 ≤ N + 60 by omega));go_wp2_with fail;go_meet;exact ⟨nE + 1, c7, A7, _, rfl, hD8.out, hEd2.out, by omega⟩
     | false =>
      have hD8 := hide (hDO.out.more (show N + 6 + 10 * na + 2 ≤ N + 60 by omega));go_wp2_with fail;go_meet;exact ⟨nE, cE, E, es, rfl, hD8.out, hEd.out, by omega⟩
    case rest =>
     clear hDO hEd hnE;obtain ⟨nE, cE, E, es, rfl, hD, hEd, hnE⟩ := hcut;obtain ⟨wC, rfl⟩ : ∃ wC : World, wC = wc := ⟨_, rfl⟩;have hEs := hide (hD.out.own.sl flat_ev);have hlE := hD.out.own.len;have hzC := hD.out.on.size;have honC := hide hD.out.on;obtain ⟨wR, hwR⟩ : ∃ wR, wR = wC.alloc (.cells #[] 84) := ⟨_, rfl⟩;have hR0 : Hid (DrC wC wR b (N + 60) (some ⟨wC.heap.size, 0, none⟩) 0 0 []) := by
      rw [hwR];exact ⟨Own.made _ _ zR, hD.out.src.alloc _, (Only.refl _ _ _).alloc' _, by omega⟩
     clear hD;go_upto_region 13 with fail;rw [show wC.alloc (.cells #[] 84) = wR from hwR.symm];replace hwR := hide hwR;go_wp2_with fail
     go_loopw [7, 8] (fun v7 v8 wr => ∃ (k nF cF : Nat) (F : Option Addr) (fs : List Ed), k + 1 ≤ nb ∧ v8 = .int .i64 (k : Int) ∧ v7 = .slice F nF cF ∧ Hid (DrC wC wr b (N + 60 + 10 * k) F nF cF fs) ∧ Hid (EdD nb 3 fs) ∧ nF ≤ k) (fun _ v _ => nb - (intOf v).toNat)
     case atStart => exact ⟨0, 0, 0, _, [], by omega, rfl, rfl, hR0.out, EdD.start _ _, zR⟩
     case round =>
      clear hR0;obtain ⟨k, nF, cF, F, fs, hk2, rfl, rfl, hF, hFd, hnF⟩ := hrel;have cb0 := (hAt.out (honC.out.trans' hF.out.on)).2.2.1.c0;have hw7 : IntKind.i64.wrap ((k : Int) + 1) = (k : Int) + 1 := IntWalk.i64_in _ (by omega)
      by_cases hlt2 : k + 1 < nb
      ·have k3 : ((k : Int) + 1) < (nb : Int) := by omega
       have hDA := hide (hF.out.alloc (.cells #[.int .i64 0, .int .i64 0, .int .i64 0, .int .i64 1, .int .i64 2] 2));have hzD := hF.out.on.size;have qA := hide (among_calls b _ (some ⟨wr.heap.size, 0, none⟩) 5 5 [0, 0, 0, 1, 2] _ wr.heap.size (wr.heap.size + 1) hDA.out.src (by omega) (Sl.litC flat_iv wr 2 [0, 0, 0, 1, 2] #[.int .i64 0, .int .i64 0, .int .i64 0, .int .i64 1, .int .i64 2] rfl 5 _ rfl rfl _ zR) (.inr (by omega)) (by omega) (by omega));go_upto_region 16 with fail;clear cb0;go_wp2_with fail;refine qA.out.mono ?_;rintro e w6 ⟨lb, rfl, hlb, hs6⟩;have hDC6 := hide (hDA.out.call hs6);have hlb2 : 0 ≤ lb ∧ lb < 3 := by
        simp only [List.mem_cons, List.mem_nil_iff, or_false] at hlb;omega
       have hDL := hide (hDC6.out.alloc (.cells #[.int .i64 (k : Int), .int .i64 lb, .int .i64 ((k : Int) + 1)] 84));have hlit2 := hide (Sl.lit1' (f := ev) w6 84 ((k : Int), lb, ((k : Int) + 1)) #[.int .i64 (k : Int), .int .i64 lb, .int .i64 ((k : Int) + 1)] rfl 3 _ rfl);have hza := hDL.out.on.size;clear qA hs6 hlb;go_wp2_with (first | (at_builtin; (with_reducible refine wpList_app rfl (.tmp 67) (.tmp 75) rfl hEe.out flat_ev rfl hDL.out.own rfl hlit2.out ?d1 hza ?_); rotate_right; intro A7 c7 w7 hown7 hgr7 hb7 _))
       case d1 => omega
       have hD7 := hide (hDL.out.app hgr7 hown7);clear hown7 hgr7 hb7;have hFd2 := hide (hFd.out.app (f := (k : Int)) (l := lb) (t := ((k : Int) + 1)) (by omega) (by omega) (by omega));have hD8 := hide (hD7.out.more (show N + 60 + 10 * k + 2 ≤ N + 60 + 10 * (k + 1) by omega));go_wp2_with fail;go_roundw
       case rel => exact ⟨k + 1, nF + 1, c7, A7, _, by omega, by go_num, rfl, hD8.out, hFd2.out, by omega⟩
       case measure => simp [intOf]; omega
      ·have k3 : ¬ ((k : Int) + 1) < (nb : Int) := by omega
       have hFs := hide (hF.out.own.sl flat_ev);have hlF := hF.out.own.len;obtain ⟨wM, rfl⟩ : ∃ wM : World, wM = wr := ⟨_, rfl⟩;have honM := hide (honC.out.trans' hF.out.on);have hzM := hF.out.on.size;have hsrM := hide hF.out.src;obtain ⟨yA, yL, yB, yM⟩ := hAt.out honM.out;have hEM := hide (hEs.out.only hF.out.on (.inr (by omega)));have hEdl : ∀ e, e ∈ es → 0 ≤ e.2.1 ∧ e.2.1 < ((3 : Nat) : Int) := fun e he => (hEd.out e he).2.1
       have hFdl : ∀ e, e ∈ fs → 0 ≤ e.2.1 ∧ e.2.1 < ((3 : Nat) : Int) := fun e he => (hFd.out e he).2.1
       have qX := hide (l11Make_calls (na : Int) 0 (some ⟨wA.heap.size, 0, none⟩) 3 3 nmA E nE cE es wM yL.here' hEM.out.here' hEdl (by omega) (by omega));have a0 := yA.c0;have a2 := yA.c2;have yBh := hide yB;have yMh := hide yM;clear yA yL yB yM hF;go_upto_region 17 with fail;clear cb0;go_wp2_with fail;refine qX.out.mono ?_;rintro e w5 ⟨A2, n2, c2, B2, m2, d2, es2, rfl, hA2, hB2, hMd, hb5⟩;have hz5 := hb5.size;have hMdl := hMd.2.1;have hB2l := hB2.len;have hvX := made_valid (st := (na : Int)) (ini := 0) (by omega) (by omega) (namD_lab nmA_D) (Nat.le_trans (joi_len2 nmA) (by decide)) (by omega) (fun e he => ⟨(hEd.out e he).1, (hEd.out e he).2.2⟩) hMd;have hsX : SysA w5 na 0 A2 n2 B2 m2 (joiF nmA) es2 := ⟨hA2.here', hB2.here', hvX, by have h1 := namD_totC (joiD nmA_D); have h2 := joi_len2 nmA; have h3 : nmA.length = 3 := rfl; omega⟩;have hXb := hsX.box (c := c2) (d := d2);obtain ⟨w6, hw6x⟩ : ∃ w6, w6 = w5.alloc (ltsC na 0 A2 n2 c2 B2 m2 d2) := ⟨_, rfl⟩;rw [← hw6x] at hXb;have hb56 := hXb.bel;have hbM6 := hide (hb5.trans (hb56.mono hz5));have yB6 := hide (yBh.out.below hbM6.out yBh.out.lt);have yM6 := hide (yMh.out.below hbM6.out (.inl (Nat.le_of_lt yBh.out.lt)));have hFs6 := hide (hFs.out.below hbM6.out (.inr zR));have qY := hide (l11Make_calls (nb : Int) 0 (some ⟨wB.heap.size, 0, none⟩) 3 3 nmB F nF cF fs w6 yM6.out.here' hFs6.out.here' hFdl (by omega) (by omega));have c0 := yB6.out.c0;have c2' := yB6.out.c2;have hXbh := hide hXb;have hA2h := hide (hA2.below hb56 (.inr zR));have hB2h := hide (hB2.below hb56 (.inr zR));have hz6 := hb56.size;have hm2 : m2 ≤ 4 := by omega
       have hn2 : n2 ≤ 4 := by have h1 := hA2.len; have h2 := joi_len2 nmA; have h3 : nmA.length = 3 := rfl; omega
       clear qX a0 a2 hA2 hB2 hb5 hb56 hvX hsX hXb;go_upto_region 18 with fail;rw [show w5.alloc (.cells #[.int .i64 (na : Int), .int .i64 0, .slice A2 n2 c2, .slice B2 m2 d2] 27) = w6 from hw6x.symm];replace hw6x := hide hw6x;go_wp2_with fail;refine qY.out.mono ?_;rintro e w7 ⟨A3, n3, c3, B3, m3, d3, fs2, rfl, hA3, hB3, hMd3, hb7⟩;have hz7 := hb7.size;have hMdl3 := hMd3.2.1;have hB3l := hB3.len;have hvY := made_valid (st := (nb : Int)) (ini := 0) (by omega) (by omega) (namD_lab nmB_D) (Nat.le_trans (joi_len2 nmB) (by decide)) (by omega) (fun e he => ⟨(hFd.out e he).1, (hFd.out e he).2.2⟩) hMd3;have hsY : SysA w7 nb 0 A3 n3 B3 m3 (joiF nmB) fs2 := ⟨hA3.here', hB3.here', hvY, by have h1 := namD_totC (joiD nmB_D); have h2 := joi_len2 nmB; have h3 : nmB.length = 3 := rfl; omega⟩;have hYb := hsY.box (c := c3) (d := d3);obtain ⟨w8, hw8x⟩ : ∃ w8, w8 = w7.alloc (ltsC nb 0 A3 n3 c3 B3 m3 d3) := ⟨_, rfl⟩;rw [← hw8x] at hYb;have hb8L : Below w8.heap.size w8 (w8.alloc (.cells #[.string ⟨#[97]⟩] 9)) := bR.alloc zR _;have hX9 := ((hXbh.out.below hb7).below hYb.bel).below hb8L;have hY9 := hYb.below hb8L;have hlS : SlS (w8.alloc (.cells #[.string ⟨#[97]⟩] 9)) w8.heap.size (w8.heap.size + 1) (some ⟨w8.heap.size, 0, none⟩) 1 [⟨#[97]⟩] := Sl.litC flat_strv w8 9 [⟨#[97]⟩] #[.string ⟨#[97]⟩] rfl 1 _ rfl rfl _ zR;have hm3 : m3 ≤ 2 := by omega
       have hK : m2 * (m3 + 1) + m3 ≤ 14 := by
        have := Nat.mul_le_mul hm2 (show m3 + 1 ≤ 3 by omega);omega
       have hNN : na * nb ≤ 9 := Nat.mul_le_mul hna1.2 hnb1.2;have hMK : na * nb * (m2 * (m3 + 1) + m3) ≤ 126 := Nat.mul_le_mul hNN hK;have hDD9 : NamD (joiF nmA ++ joiF nmB) := fun x hx => (List.mem_append.1 hx).elim (joiD nmA_D x) (joiD nmB_D x)
       have qP := hide (l11Product_calls hX9.sys hY9.sys c2 d2 c3 d3 w5.heap.size w7.heap.size hX9.box hY9.box [⟨#[97]⟩] (some ⟨w8.heap.size, 0, none⟩) 1 1 hlS.here' (by omega) (namD_lab hDD9) _ rfl (by omega) (by omega));have hb68 := hb7.trans (hYb.bel.mono hz7);have hbM8 := hide (hbM6.out.trans ((hb68.trans (hb8L.mono hb68.size)).mono hbM6.out.size));have hA9 := hide (hA2h.out.below (hb68.trans (hb8L.mono hb68.size)) (.inl (Nat.le_trans (by omega) zR)));have hB9 := hide (hB2h.out.below (hb68.trans (hb8L.mono hb68.size)) (.inl (Nat.le_trans (by omega) zR)));have hX9h := hide hX9;have hz9r : w8.heap.size ≤ (w8.alloc (.cells #[.string ⟨#[97]⟩] 9)).heap.size := by rw [World.size_alloc]; omega
       have hz8 := hYb.bel.size;clear qY c0 c2' hA3 hB3 hb7 hvY hsY hYb hb8L hX9 hY9 hlS hb68;go_upto_region 19 with fail;rw [show w7.alloc (.cells #[.int .i64 (nb : Int), .int .i64 0, .slice A3 n3 c3, .slice B3 m3 d3] 27) = w8 from hw8x.symm];replace hw8x := hide hw8x;go_wp2_with fail;refine qP.out.mono ?_;rintro e wP hPr;have hz9M := hbM8.out.size
       rcases hPr with ⟨rfl, hbP⟩ | ⟨st, ini, A4, n4, c4, B4, m4, d4, es4, rfl, hA4, hB4, hv4, hst4, hl4, hbP⟩
       ·have hzP := hbP.size
        have hbPF : Below wP.heap.size wP (wP.alloc (.cells #[.int .i64 0, .int .i64 0, .slice none 0 0, .slice none 0 0] 27)) := bR.alloc zR _;have hbMF := hbM8.out.trans ((hbP.trans (hbPF.mono hzP)).mono hz9M);have honF := hide ((hon1B.out.trans' honM.out).belowAt hbMF (by have := hon1B.out.size; have := honM.out.size; omega));have hXF := ((hX9h.out.below hbP).below hbPF);have hAF := (hA9.out.below (hbP.trans (hbPF.mono hzP)) (.inl (by omega)));have hBF := (hB9.out.below (hbP.trans (hbPF.mono hzP)) (.inl (by omega)));have hsrF := hsrM.out.below hbMF hsrM.out.lt;have hzF := (hbP.trans (hbPF.mono hzP)).size;have hfin := hide (DrawnC.put (K := 12) (M := 126) (S := 9) (Q := 5000) (N0 := N) (c := c2) (d := d2) hw1h.out hbl honF.out (hAF.more (by have := hon1B.out.size; have := honM.out.size; omega) (by omega)) (hBF.more (by have := hon1B.out.size; have := honM.out.size; omega) (by omega)) hX9h.out.sys.ok (by omega) (by omega) (by omega) (joiD nmA_D) (hsrF.more (by omega)));have kx := hRes.out honF.out;have x0 := hXF.box.c0;have x1 := hXF.box.c1;have x2 := hXF.box.c2;have x3 := hXF.box.c3;have r0 := kx.c0;have r1 := kx.c1;have r2 := kx.c2;have r3 := kx.c3;have v0 := kx.f0;have v1 := kx.f1;have v2 := kx.f2;have v3 := kx.f3;clear qP hbPF hbMF hXF hAF hBF kx hbP hsrF;go_wp2_with fail
        (try simp only [Exit.inBlock, Exit.then])
        refine bodyPost_ret_by (v := .agg #[.int .i64 (na : Int), .int .i64 0, .slice A2 n2 c2, .slice B2 m2 d2]) ?_ rfl ?_
        focus
         rw [results_cell1 rfl];go_simp
        exact hfin.out
       ·have hzP := hbP.size
        have hbPF : Below wP.heap.size wP (wP.alloc (.cells #[.int .i64 (st : Int), .int .i64 (ini : Int), .slice A4 n4 c4, .slice B4 m4 d4] 27)) := bR.alloc zR _;have hbMF := hbM8.out.trans ((hbP.trans (hbPF.mono hzP)).mono hz9M);have honF := hide ((hon1B.out.trans' honM.out).belowAt hbMF (by have := hon1B.out.size; have := honM.out.size; omega));have kT : LtsBox (wP.alloc (.cells #[.int .i64 (st : Int), .int .i64 (ini : Int), .slice A4 n4 c4, .slice B4 m4 d4] 27)) wP.heap.size (st : Int) (ini : Int) A4 n4 c4 B4 m4 d4 := heap_alloc_new wP _;have hsrF := hsrM.out.below hbMF hsrM.out.lt;have hzF := hbPF.size;have hn4 : n4 ≤ 12 := by
         have h1 := hA4.len;have h2 := joi_len2 (joiF nmA ++ joiF nmB);have h3 := joi_len2 nmA;have h4 := joi_len2 nmB;have h5 : nmA.length = 3 := rfl;have h6 : nmB.length = 3 := rfl;rw [List.length_append] at h2;omega
        have hm4 : m4 ≤ 126 := by have h1 := hB4.len; omega
        have hfin := hide (DrawnC.put (K := 12) (M := 126) (S := 9) (Q := 5000) (N0 := N) (c := c4) (d := d4) hw1h.out hbl honF.out ((hA4.below hbPF (.inl zR)).more (by have := hon1B.out.size; have := honM.out.size; omega) hzF) ((hB4.below hbPF (.inl zR)).more (by have := hon1B.out.size; have := honM.out.size; omega) hzF) hv4 (by omega) hm4 hn4 (joiD hDD9) (hsrF.more (by omega)));have kx := hRes.out honF.out;have x0 := kT.c0;have x1 := kT.c1;have x2 := kT.c2;have x3 := kT.c3;have r0 := kx.c0;have r1 := kx.c1;have r2 := kx.c2;have r3 := kx.c3;have v0 := kx.f0;have v1 := kx.f1;have v2 := kx.f2;have v3 := kx.f3;clear qP hbPF hbMF kT kx hbP hsrF hA4 hB4;go_wp2_with fail
        (try simp only [Exit.inBlock, Exit.then])
        refine bodyPost_ret_by (v := .agg #[.int .i64 (st : Int), .int .i64 (ini : Int), .slice A4 n4 c4, .slice B4 m4 d4]) ?_ rfl ?_
        focus
         rw [results_cell1 rfl];go_simp
        exact hfin.out
end Go.Proofs.YtnhomkmfbngmgaaGreatDoor
namespace Go.Proofs.YtnhomkmfbngmgaaGreatDoor
open Go.ChangeShapes Go.WideShapes Go.ChangeAt Go.RowKit
def SysC (w : World) (e : Ending) (w' : World) : Prop := ∃ (st ini : Nat) (A : Option Addr) (n c : Nat) (B : Option Addr) (m d : Nat) (ls : List ByteArray) (es : List Ed),
 e = .returned (.agg #[.int .i64 (st : Int), .int .i64 (ini : Int), .slice A n c, .slice B m d]) ∧ SysA w' st ini A n B m ls es ∧ st ≤ 9 ∧ n ≤ 12 ∧ m ≤ 126 ∧ NamD ls ∧ Below w.heap.size w w'
theorem R8Calm_calls (A : Option Addr) (n c : Nat) (code : List Int) (w : World) (h : SlU w 0 w.heap.size A n code) (hc : ∀ x, x ∈ code → 0 ≤ x ∧ x ≤ 255) (hn : n ≤ maxLen) :
  Calls Tryz.prog 39 #[.slice A n c] w (SysC w) := by
 have hb1 := (Below.refl w.heap.size w).alloc zR (.cells #[.int .i64 0, .int .i64 0, .slice none 0 0, .slice none 0 0] 27);have k8 := heap_alloc_new w (.cells #[.int .i64 0, .int .i64 0, .slice none 0 0, .slice none 0 0] 27);have hz1 : w.heap.size < (w.alloc (.cells #[.int .i64 0, .int .i64 0, .slice none 0 0, .slice none 0 0] 27)).heap.size := by simp
 obtain ⟨w1, hw1⟩ : ∃ w1, w1 = w.alloc (.cells #[.int .i64 0, .int .i64 0, .slice none 0 0, .slice none 0 0] 27) := ⟨_, rfl⟩;rw [← hw1] at hb1 k8 hz1;have q1 := hide (l00From_calls A n c code w1 ((h.below hb1 (.inl zR)).more zR hb1.size) hc hn);replace hb1 := hide hb1;replace k8 := hide k8;clear h hc;go_enter Tryz.func39, Tryz.ntmps39;go_upto_region 1 with fail;rw [← hw1];replace hw1 := hide hw1;go_wp2_with fail;refine q1.out.mono ?_;rintro e w2 ⟨rfl, hS, hb2, hz2⟩;have q2 := hide (l25DrawOk_calls w1.heap.size 0 w2 hS (by omega));have hlt1 : w1.heap.size < w2.heap.size := hS.lt;replace hb2 := hide hb2;replace hz2 := hide hz2;clear q1 hS;go_wp2_with fail;refine q2.out.mono ?_;rintro e w3 hd;obtain ⟨st, ini, A2, n2, c2, B2, m2, d2, ls, es, rfl, hA, hB, hv, h7, hm64, hn7, hnam, -, hon⟩ := hd;have hsys : SysA w3 st ini A2 n2 B2 m2 ls es := ⟨hA.here', hB.here', hv, by have h1 := namD_totC hnam; have h2 := hA.len; omega⟩;have hb3 := hide (show Below w1.heap.size w1 w3 from ⟨hon.os.trans hb2.out.os, hon.tape.trans hb2.out.tape, hon.output.trans hb2.out.output, Nat.le_trans hb2.out.size hon.size, fun q hq => (hon.block q (by omega) (by omega)).trans (hb2.out.block q hq)⟩);have h8 : w3.heap[w.heap.size]? = _ := (hb3.out.block w.heap.size hz1).trans k8.out;have a0 : w3.cell? ⟨w.heap.size, 0, none⟩ = some (.int .i64 0) := cR 0 h8;have a1 : w3.cell? ⟨w.heap.size, 1, none⟩ = some (.int .i64 0) := cR 1 h8;have a2 : w3.cell? ⟨w.heap.size, 2, none⟩ = some (.slice none 0 0) := cR 2 h8;have a3 : w3.cell? ⟨w.heap.size, 3, none⟩ = some (.slice none 0 0) := cR 3 h8;have z0 : w3.frozen? ⟨w.heap.size, 0, none⟩ = false := frozen_of_row _ _ 0 _ _ h8;have z1 : w3.frozen? ⟨w.heap.size, 1, none⟩ = false := frozen_of_row _ _ 1 _ _ h8;have z2 : w3.frozen? ⟨w.heap.size, 2, none⟩ = false := frozen_of_row _ _ 2 _ _ h8;have z3 : w3.frozen? ⟨w.heap.size, 3, none⟩ = false := frozen_of_row _ _ 3 _ _ h8;replace h8 := hide h8;replace hA := hide hA;replace hB := hide hB;replace hsys := hide hsys;replace hnam := hide hnam;replace hon := hide hon;clear q2;go_wp2_with fail
 (try simp only [Exit.inBlock, Exit.then])
 refine bodyPost_ret_by (v := .agg #[.int .i64 (st : Int), .int .i64 (ini : Int), .slice A2 n2 c2, .slice B2 m2 d2]) ?_ rfl ?_
 focus
  rw [results_cell1 rfl];go_simp
 change SysC w _ (put4 w3 w.heap.size _ _ _ _)
 have hZs := put4_size w3 w.heap.size (.int .i64 (st : Int)) (.int .i64 (ini : Int)) (.slice A2 n2 c2) (.slice B2 m2 d2);have hz3 := hb3.out.size;have hz23 := hon.out.size;refine ⟨st, ini, A2, n2, c2, B2, m2, d2, ls, es, rfl, ⟨?_, ?_, hsys.out.ok, hsys.out.sz⟩, h7, hn7, hm64, hnam.out, ?_⟩
 ·exact (Sl.keep hA.out (by omega) fun q h1 h2 h3 => put4_other _ _ _ _ _ _ (by omega)).here'
 ·exact (Sl.keep hB.out (by omega) fun q h1 h2 h3 => put4_other _ _ _ _ _ _ (by omega)).here'
 ·have h1 := hb1.out.trans (hb3.out.mono (by omega))
  exact ⟨h1.os, h1.tape, h1.output, by omega, fun q hq => (put4_other _ _ _ _ _ _ (by omega)).trans (h1.block q hq)⟩
open Go.Sort
section
variable {w : World} {N ini : Nat} {A : Option Addr} {n : Nat} {B : Option Addr} {m : Nat} {ls : List ByteArray} {es : List Ed}
theorem brc1_calls (h : SysA w N ini A n B m ls es) (c d : Nat) (dv : Bool) (bd : Nat) (hbd : bd < w.heap.size) (hd : w.cell? ⟨bd, 0, none⟩ = some (.bool dv)) :
  Calls Tryz.prog 198 #[.agg #[.int .i64 (N : Int), .int .i64 (ini : Int), .slice A n c, .slice B m d], .pointer (some ⟨bd, 0, none⟩)] w fun e w' => ∃ r P cP, e = .returned (.slice P N cP) ∧ LastG (refB es N dv) N r ∧ SlI w' w.heap.size w'.heap.size P N (itP (refB es N dv) N r) ∧ Below w.heap.size w w' ∧ N ≤ cP := by
 have hB := h.box (c := c) (d := d);obtain ⟨w1, hw1⟩ : ∃ w1, w1 = w.alloc (ltsC N ini A n c B m d) := ⟨_, rfl⟩;rw [← hw1] at hB;have q := hide (branching_calls hB.sys c d dv);have b0 := hB.box.c0;have b1 := hB.box.c1;have b2 := hB.box.c2;have b3 := hB.box.c3;have d0 := (hB.bel.cell (p := ⟨bd, 0, none⟩) hbd).trans hd;have hz1 := hB.bel.size;replace hB := hide hB;clear h hd;go_enter Tryz.func198, Tryz.ntmps198;go_upto_region 1 with fail;rw [← show w1 = w.alloc (.cells #[.int .i64 (N : Int), .int .i64 (ini : Int), .slice A n c, .slice B m d] 27) from hw1];replace hw1 := hide hw1;go_wp2_with fail;refine q.out.mono ?_;rintro e w2 ⟨r, P, cP, rfl, hL, hP, hb, hcap⟩;have hPF := hide (hP.more hz1 zR);have hbF := hide (hB.out.bel.trans (hb.mono hz1));replace hL := hide hL;clear q hP hb b0 b1 b2 b3 d0;go_wp2_with fail;go_ret;exact ⟨r, P, cP, rfl, hL.out, hPF.out, hbF.out, hcap⟩
end
section
variable {w : World} {Na ia : Nat} {A : Option Addr} {n : Nat} {B : Option Addr} {m : Nat} {la : List ByteArray} {ea : List Ed} {Nb ib : Nat} {A' : Option Addr} {n' : Nat} {B' : Option Addr} {m' : Nat} {lb : List ByteArray} {eb : List Ed}
theorem bothB_calls (h : SysA w Na ia A n B m la ea) (g : SysA w Nb ib A' n' B' m' lb eb) (c d c' d' : Nat) (hsum : Na + Nb ≤ 40) (dv : Bool) (bd : Nat) (hbd : bd < w.heap.size) (hd : w.cell? ⟨bd, 0, none⟩ = some (.bool dv)) (huv : ltsV (((Na + Nb : Nat) : Int), (ia : Int), joiF (la ++ lb), uniE la ea lb eb Na) = true) (hus : totS (joiF (la ++ lb)) ≤ 100000) :
  Calls Tryz.prog 137 #[.agg #[.int .i64 (Na : Int), .int .i64 (ia : Int), .slice A n c, .slice B m d], .agg #[.int .i64 (Nb : Int), .int .i64 (ib : Int), .slice A' n' c', .slice B' m' d'], .func (.func 198) #[] #[.pointer (some ⟨bd, 0, none⟩)]] w fun e w' => ∃ r P cP, e = .returned (.slice P (Na + Nb) cP) ∧ LastG (refB (uniE la ea lb eb Na) (Na + Nb) dv) (Na + Nb) r ∧ SlI w' w.heap.size w'.heap.size P (Na + Nb) (itP (refB (uniE la ea lb eb Na) (Na + Nb) dv) (Na + Nb) r) ∧ Below w.heap.size w w' := by
 have hT := TwoS.start w Na ia A n c B m d Nb ib A' n' c' B' m' d';obtain ⟨w1, hw1⟩ : ∃ w1, w1 = (w.alloc (ltsC Na ia A n c B m d)).alloc (ltsC Nb ib A' n' c' B' m' d') := ⟨_, rfl⟩;rw [← hw1] at hT;obtain ⟨hm, hn12, hn1, hle, hll⟩ := h.many;obtain ⟨hm', hn12', hn1', hle', hll'⟩ := g.many;have hbo := h.bounds.1.1;have hui := uni_in (la := la) (ea := ea) (lb := lb) (eb := eb) (by omega) (by omega) h.three g.three;have hqU := hide (union_calls (h.below hT.bel zR) (g.below hT.bel zR) c d c' d');have hul : (uniE la ea lb eb Na).length ≤ 1000 := by
  refine Nat.le_trans (ltsEs_len _ _) ?_;unfold uniA;simp only [List.length_append, List.length_map];omega
 obtain ⟨a0, a1, a2, a3, b0, b1, b2, b3⟩ := hT.cells;replace hui := hide hui;have hbel := hide hT.bel;clear hT h g;go_enter Tryz.func137, Tryz.ntmps137;go_upto_region 1 with fail;rw [show ((w.alloc (.cells #[.int .i64 (Na : Int), .int .i64 (ia : Int), .slice A n c, .slice B m d] 27)).alloc (.cells #[.int .i64 (Nb : Int), .int .i64 (ib : Int), .slice A' n' c', .slice B' m' d'] 27)) = w1 from hw1.symm];replace hw1 := hide hw1
 go_wp2_with (go_at_call 229; refine hqU.out.mono ?_; rintro e w2 ⟨A2, n2, c2, A3, n3, c3, rfl, hS2, hE2, hb2⟩)
 have hlen : (uniE la ea lb eb Na).length = n3 := hE2.len;have hz2 := hbel.out.size;have hS : SysA w2 (Na + Nb) ia A2 n2 A3 n3 (joiF (la ++ lb)) (uniE la ea lb eb Na) := ⟨hS2.here', hE2.here', huv, hus⟩;have hbw2 : Below w.heap.size w w2 := hbel.out.trans (hb2.mono hz2);have q := brc1_calls hS c2 c3 dv bd (by have := hbw2.size; omega) ((hbw2.cell (p := ⟨bd, 0, none⟩) hbd).trans hd);rw [Int.natCast_add] at q;replace hS2 := hide hS2;replace hE2 := hide hE2;replace hlen := hide hlen;replace q := hide q;clear hS a0 a1 a2 a3 b0 b1 b2 b3 hd hbw2;refine q.out.mono ?_;rintro e w3 ⟨r, P, cP, rfl, hL, hP, hb3, -⟩;have hbF := hide ((hbel.out.trans (hb2.mono hz2)).trans (hb3.mono (Nat.le_trans hz2 hb2.size)));have hPF := hide (hP.more (Nat.le_trans hz2 hb2.size) zR);replace hL := hide hL;clear hb2 hb3 hP q;go_wp2_with fail;go_ret;exact ⟨r, P, cP, rfl, hL.out, hPF.out, hbF.out⟩
theorem areAlikeB_calls (h : SysA w Na ia A n B m la ea) (g : SysA w Nb ib A' n' B' m' lb eb) (c d c' d' : Nat) (he : Env w) (hsum : Na + Nb ≤ 40) (dv : Bool) (bd : Nat) (hbd : bd < w.heap.size) (hd : w.cell? ⟨bd, 0, none⟩ = some (.bool dv)) (huv : ltsV (((Na + Nb : Nat) : Int), (ia : Int), joiF (la ++ lb), uniE la ea lb eb Na) = true) (hus : totS (joiF (la ++ lb)) ≤ 100000) :
  Calls Tryz.prog 63 #[.agg #[.int .i64 (Na : Int), .int .i64 (ia : Int), .slice A n c, .slice B m d], .agg #[.int .i64 (Nb : Int), .int .i64 (ib : Int), .slice A' n' c', .slice B' m' d'], .func (.func 198) #[] #[.pointer (some ⟨bd, 0, none⟩)]] w fun e w' => ∃ r, e = .returned (.tuple #[.bool (decide ((itP (refB (uniE la ea lb eb Na) (Na + Nb) dv) (Na + Nb) r)[ia]? = (itP (refB (uniE la ea lb eb Na) (Na + Nb) dv) (Na + Nb) r)[Na + ib]?)), .int .i64 0]) ∧ LastG (refB (uniE la ea lb eb Na) (Na + Nb) dv) (Na + Nb) r ∧ Below w.heap.size w w' := by
 have hT := TwoS.start w Na ia A n c B m d Nb ib A' n' c' B' m' d';obtain ⟨w1, hw1⟩ : ∃ w1, w1 = (w.alloc (ltsC Na ia A n c B m d)).alloc (ltsC Nb ib A' n' c' B' m' d') := ⟨_, rfl⟩;rw [← hw1] at hT;have hia := h.bounds.2;have hib := g.bounds.2;have hNa2 := h.bounds.1.2;have hNb2 := g.bounds.1.2;have he1 := he.below hT.bel zR;have hq1 := hide ((h.below hT.bel zR).valid c d he1);obtain ⟨a0, a1, a2, a3, b0, b1, b2, b3⟩ := hT.cells;replace hT := hide hT;go_enter Tryz.func63, Tryz.ntmps63;go_upto_region 1 with fail;rw [show ((w.alloc (.cells #[.int .i64 (Na : Int), .int .i64 (ia : Int), .slice A n c, .slice B m d] 27)).alloc (.cells #[.int .i64 (Nb : Int), .int .i64 (ib : Int), .slice A' n' c', .slice B' m' d'] 27)) = w1 from hw1.symm];replace hw1 := hide hw1;go_wp2_with fail;refine hq1.out.mono ?_;rintro e w2 ⟨rfl, hb2⟩;have hT2 := hT.out.below hb2 zR;have he2 := he1.below hb2 zR;have hq2 := hide ((g.below hT2.bel zR).valid c' d' he2);clear a0 a1 a2 a3 b0 b1 b2 b3 hb2 hq1;obtain ⟨a0, a1, a2, a3, b0, b1, b2, b3⟩ := hT2.cells;replace hT2 := hide hT2;go_wp2_with fail;refine hq2.out.mono ?_;rintro e w3 ⟨rfl, hb3⟩;have hT3 := hide (hT2.out.below hb3 zR);clear a0 a1 a2 a3 b0 b1 b2 b3 hb3 hq2;go_wp2_with fail;obtain ⟨wD, hwD⟩ : ∃ wD, wD = w3.drew := ⟨_, rfl⟩;have hTD := hide (hT3.out.below (w2 := wD) (K := w3.heap.size) (by rw [hwD]; exact bR.drew) zR);have hqB := hide (bothB_calls (h.below hTD.out.bel zR) (g.below hTD.out.bel zR) c d c' d' hsum dv bd (by have := hTD.out.bel.size; omega) ((hTD.out.bel.cell (p := ⟨bd, 0, none⟩) hbd).trans hd) huv hus);replace hwD := hide hwD;clear h g he he1 he2 hd;refine lateT_begin (S := fun w' => TwoC w w' Na ia A n c B m d Nb ib A' n' c' B' m' d') (st := 8) (by kernel_rfl) ?_;rw [← show wD = _ from hwD.out];have hS0 : (fun w' : World => TwoC w w' Na ia A n c B m d Nb ib A' n' c' B' m' d') wD := hTD.out.cells;refine tkA _ 0 [8] rfl (Or.inl ⟨by rfl, by intro w9 hSw; obtain ⟨y0, y1, y2, y3, z0, z1, z2, z3⟩ := hSw; go_simp <;> with_reducible rfl⟩) hS0 ?_;refine tkA _ 1 [8] rfl (Or.inl ⟨by rfl, by intro w9 hSw; obtain ⟨y0, y1, y2, y3, z0, z1, z2, z3⟩ := hSw; go_simp <;> with_reducible rfl⟩) hS0 ?_;refine tkA _ 2 [8] rfl (Or.inl ⟨by rfl, by intro w9 hSw; obtain ⟨y0, y1, y2, y3, z0, z1, z2, z3⟩ := hSw; go_simp <;> with_reducible rfl⟩) hS0 ?_;refine tkA _ 3 [8] rfl (Or.inl ⟨by rfl, by intro w9 hSw; obtain ⟨y0, y1, y2, y3, z0, z1, z2, z3⟩ := hSw; go_simp <;> with_reducible rfl⟩) hS0 ?_;refine tkA _ 4 [8] rfl (Or.inl ⟨by rfl, by intro w9 hSw; obtain ⟨y0, y1, y2, y3, z0, z1, z2, z3⟩ := hSw; go_simp <;> with_reducible rfl⟩) hS0 ?_;refine lS 5 fun K hK => ?_
 go_simp;go_at_call 137
 refine hqB.out.mono ?_;rintro e w5 ⟨r, P, cP, rfl, hL, hP, hb5⟩;have hT5 := hide (hTD.out.below hb5 zR);have hqI := hide (initialTogether_calls Na ia A n c B m d Nb ib A' n' c' B' m' d' P cP _ w5 _ _ hP (by omega) (by omega) hNa2 hNb2);have hb5h := hide hb5;replace hL := hide hL;clear hb5;go_wp2_with fail;refine kP hK (fun _ => hT5.out.cells) ?_;clear hK K;refine lS 6 fun K hK => ?_
 go_simp;go_at_call 136
 refine hqI.out.mono ?_;rintro e w6 ⟨rfl, hb6⟩;have hT6 := hide (hT5.out.below hb6 zR);clear hqI;go_wp2_with fail;refine kP hK (fun _ => hT6.out.cells) ?_;clear hK K;refine lS 7 fun K hK => ?_
 go_simp;refine kP hK (fun _ => hT6.out.cells) ?_
 clear hK K;refine lS 8 fun K hK => ?_
 go_simp;refine kP hK nH ?_
 clear hK K;refine lateT_done (by kernel_rfl) ?_ _;have hbF := hT6.out.bel;go_wp2_with fail;go_ret2;exact ⟨r, rfl, hL.out, hbF⟩
theorem brC_calls (dv : Bool) (w : World) : Calls Tryz.prog 106 #[.bool dv] w fun e w' => e = .returned (.func (.func 198) #[] #[.pointer (some ⟨w.heap.size, 0, none⟩)]) ∧ w' = w.alloc (.cells #[.bool dv] 4) := by
 go_enter Tryz.func106, Tryz.ntmps106;go_wp2_with fail;go_ret;exact ⟨rfl, rfl⟩
theorem areBranching_calls (h : SysA w Na ia A n B m la ea) (g : SysA w Nb ib A' n' B' m' lb eb) (c d c' d' : Nat) (he : Env w) (hsum : Na + Nb ≤ 40) (dv : Bool) (huv : ltsV (((Na + Nb : Nat) : Int), (ia : Int), joiF (la ++ lb), uniE la ea lb eb Na) = true) (hus : totS (joiF (la ++ lb)) ≤ 100000) :
  Calls Tryz.prog 42 #[.agg #[.int .i64 (Na : Int), .int .i64 (ia : Int), .slice A n c, .slice B m d], .agg #[.int .i64 (Nb : Int), .int .i64 (ib : Int), .slice A' n' c', .slice B' m' d'], .bool dv] w fun e w' => ∃ r, e = .returned (.tuple #[.bool (decide ((itP (refB (uniE la ea lb eb Na) (Na + Nb) dv) (Na + Nb) r)[ia]? = (itP (refB (uniE la ea lb eb Na) (Na + Nb) dv) (Na + Nb) r)[Na + ib]?)), .int .i64 0]) ∧ LastG (refB (uniE la ea lb eb Na) (Na + Nb) dv) (Na + Nb) r ∧ Below w.heap.size w w' := by
 have hT := TwoS.start w Na ia A n c B m d Nb ib A' n' c' B' m' d';obtain ⟨w1, hw1⟩ : ∃ w1, w1 = (w.alloc (ltsC Na ia A n c B m d)).alloc (ltsC Nb ib A' n' c' B' m' d') := ⟨_, rfl⟩;rw [← hw1] at hT;obtain ⟨wD, hwD⟩ : ∃ wD, wD = w1.drew := ⟨_, rfl⟩;have hb1D : Below w1.heap.size w1 wD := by rw [hwD]; exact bR.drew
 have hTD := hT.below hb1D zR;obtain ⟨w3, hw3⟩ : ∃ w3, w3 = wD.alloc (.cells #[.bool dv] 4) := ⟨_, rfl⟩;have hbD3 : Below wD.heap.size wD w3 := by rw [hw3]; exact bR.alloc zR _
 have hT3 := hTD.below hbD3 zR;have kD : w3.heap[wD.heap.size]? = some (.cells #[.bool dv] 4 (0, 0)) := by rw [hw3]; exact heap_alloc_new wD _
 have hq := hide (areAlikeB_calls (h.below hT3.bel zR) (g.below hT3.bel zR) c d c' d' (he.below hT3.bel zR) hsum dv wD.heap.size (Array.getElem?_eq_some_iff.1 kD).1 (cR 0 kD) huv hus);have hqC := hide (brC_calls dv wD);have hS0c := hide hTD.cells;have hS3c := hide hT3.cells;have hbel := hide hT3.bel;have hT3h := hide hT3;replace hw3 := hide hw3;clear hT hTD hT3 h g he kD hbD3 hb1D;go_enter Tryz.func42, Tryz.ntmps42;go_upto_region 1 with fail;rw [show ((w.alloc (.cells #[.int .i64 (Na : Int), .int .i64 (ia : Int), .slice A n c, .slice B m d] 27)).alloc (.cells #[.int .i64 (Nb : Int), .int .i64 (ib : Int), .slice A' n' c', .slice B' m' d'] 27)) = w1 from hw1.symm];replace hw1 := hide hw1;replace hwD := hide hwD;refine lateT_begin (S := fun w' => TwoC w w' Na ia A n c B m d Nb ib A' n' c' B' m' d') (st := 8) (by kernel_rfl) ?_;rw [← show wD = _ from hwD.out];have hS0 : (fun w' : World => TwoC w w' Na ia A n c B m d Nb ib A' n' c' B' m' d') wD := hS0c.out;refine tkA _ 0 [8] rfl (Or.inl ⟨by kernel_rfl, by intro w9 hSw; obtain ⟨u0, u1, u2, u3, u4, u5, u6, u7⟩ := hSw; go_simp <;> with_reducible rfl⟩) hS0 ?_;refine tkA _ 1 [8] rfl (Or.inl ⟨by kernel_rfl, by intro w9 hSw; obtain ⟨u0, u1, u2, u3, u4, u5, u6, u7⟩ := hSw; go_simp <;> with_reducible rfl⟩) hS0 ?_;refine tkA _ 2 [8] rfl (Or.inl ⟨by kernel_rfl, by intro w9 hSw; obtain ⟨u0, u1, u2, u3, u4, u5, u6, u7⟩ := hSw; go_simp <;> with_reducible rfl⟩) hS0 ?_;refine lS 3 fun K hK => ?_
 go_simp;go_at_call 106
 (with_reducible refine hqC.out.mono ?_)
 rintro e w4 ⟨rfl, rfl⟩
 (try go_wp2_with fail)
 rw [← show w3 = wD.alloc (.cells #[.bool dv] 4) from hw3.out];have hS1 := hS3c.out;refine kP hK (fun _ => hS1) ?_;clear hK K;refine lS 4 fun K hK => ?_
 go_simp;go_at_call 63
 (with_reducible refine hq.out.mono ?_)
 rintro e w5 ⟨r, rfl, hL, hb5⟩;have hS5c := hide ((hT3h.out.below hb5 zR).cells)
 (try go_wp2_with fail)
 have hS2 := hS5c.out;refine kP hK (fun _ => hS2) ?_;clear hK K;refine tkA _ 5 [8] rfl (Or.inl ⟨by kernel_rfl, by intro w9 hSw; obtain ⟨u0, u1, u2, u3, u4, u5, u6, u7⟩ := hSw; go_simp <;> with_reducible rfl⟩) hS2 ?_;refine tkA _ 6 [8] rfl (Or.inl ⟨by kernel_rfl, by intro w9 hSw; obtain ⟨u0, u1, u2, u3, u4, u5, u6, u7⟩ := hSw; go_simp <;> with_reducible rfl⟩) hS2 ?_;refine tkA _ 7 [8] rfl (Or.inl ⟨by kernel_rfl, by intro w9 hSw; obtain ⟨u0, u1, u2, u3, u4, u5, u6, u7⟩ := hSw; go_simp <;> with_reducible rfl⟩) hS2 ?_;refine lS 8 fun K hK => ?_
 go_simp;refine kP hK nH ?_
 clear hK K;refine lateT_done (by kernel_rfl) ?_ _;have hbF := hide (hbel.out.trans (hb5.mono hbel.out.size));replace hL := hide hL;clear hb5;go_wp2_with fail;go_ret2;exact ⟨r, rfl, hL.out, hbF.out⟩
end
end Go.Proofs.YtnhomkmfbngmgaaGreatDoor
namespace Go.Proofs.YtnhomkmfbngmgaaGreatDoor
open Go.ChangeShapes Go.WideShapes Go.Deep Go.RowKit
theorem u8_wf {n : Int} (h : (Lit.int .u8 n).wf = true) : 0 ≤ n ∧ n ≤ 255 := by
 simp [Lit.wf, IntKind.min, IntKind.max, IntKind.signed, IntKind.bits] at h
 omega
section
variable {H : Type} {enc : TypeId × Value → H} {P : Program} {w : World} {base : Nat} {spare : Nat → Bool} {held : Bool}
theorem open_SlU {t e : TypeId} (ht : P.underlying t = some (.slice e)) (hC : P.cellsOf e = 1) (hi : P.underlying e = some (.int .u8)) {v : Value} {d : DataW H} {p : List MemPlace} (h : DataW.Trod enc P w base spare held t v d p)
  {n' c' : Nat} {A' : Option Addr} (hv : v = .slice A' n' c') (hz : ∀ b off, MemPlace.cell b off ∈ p → w.frozen? ⟨b, off, none⟩ = false) : ∃ A n c l, v = .slice A n c ∧ n ≤ maxLen ∧ SlU w base w.heap.size A n l ∧ ∀ x, x ∈ l → 0 ≤ x ∧ x ≤ 255 := by
 obtain ⟨fuel, hf⟩ := h;have key := open_flat (w := w) (base := base) (spare := spare) (held := held) (fun x : {n : Int // 0 ≤ n ∧ n ≤ 255} => byv x.1) ht hC (by omega) (fun fuel cs y hy hl => by
  obtain ⟨a, ea, _, hw⟩ := DataW.trod_int hi hy;exact ⟨⟨a, u8_wf hw⟩, ea⟩) hf hz
 obtain ⟨A, n, c, l, e1, e2, e3⟩ := key;subst hv
 simp [Value.cells] at e1
 refine ⟨A, n, c, l.map Subtype.val, by simp [e1], e2, ⟨by rw [List.length_map]; exact e3.1, fun hn => ?_⟩, fun x hx => ?_⟩
 ·obtain ⟨b, off, q1, q2, q3, q4, q5⟩ := e3.2 hn
  refine ⟨b, off, q1, q2, q3, q4, fun k x hx j u hu => ?_⟩;rw [List.getElem?_map] at hx
  cases hk : l[k]? with
  | none => rw [hk] at hx; cases hx
  | some y =>
   rw [hk] at hx
   cases hx
   exact q5 k y hk j u hu
 ·obtain ⟨y, -, rfl⟩ := List.mem_map.1 hx
  exact y.2
end
end Go.Proofs.YtnhomkmfbngmgaaGreatDoor
namespace Go.Proofs.YtnhomkmfbngmgaaGreatDoor.lawFnReduced
open Go.ChangeShapes Go.WideShapes Go.ChangeAt Go.RowKit
set_option linter.unusedVariables false
set_option linter.unusedSimpArgs false
theorem walk (A B : Option Addr) (n m c d : Nat) (code more : List Int) (w : World) (he : Env w) (h1 : SlU w 0 w.heap.size A n code) (r1 : ∀ x, x ∈ code → 0 ≤ x ∧ x ≤ 255) (hn : n ≤ maxLen) (h2 : SlU w 0 w.heap.size B m more) (r2 : ∀ x, x ∈ more → 0 ≤ x ∧ x ≤ 255) (hm : m ≤ maxLen) :
  Calls Tryz.prog 7 #[.slice A n c, .slice B m d] w fun e w' => e = .returned (.bool true) ∧ Below w.heap.size w w' := by
 by_cases big : 1048576 < n ∨ 1048576 < m
 ·have q := hide (fun W => r8Long_yes A B n m c d W big)
  go_enter Tryz.func7, Tryz.ntmps7;go_wp2_with (first | (go_at_call 10; (with_reducible refine (q.out _).mono ?_); rintro e w' ⟨rfl, rfl⟩));go_ret;exact ⟨rfl, bR⟩
 have q0 := hide (fun W => r8Long_no A B n m c d W (by omega) (by omega));have q1 := hide (R8Calm_calls A n c code w h1 r1 hn);replace he := hide he;clear h1 h2;go_enter Tryz.func7, Tryz.ntmps7;go_upto_region 3 with (first | (go_at_call 10; (with_reducible refine (q0.out _).mono ?_); rintro e w' ⟨rfl, rfl⟩));clear q0;go_wp2_with fail;refine q1.out.mono ?_;rintro e w1 ⟨N, ini, A2, n2, c2, B2, m2, d2, ls, es, rfl, hsys, hN9, hn12, hm126, hnam, hb1⟩;have he1 := he.out.below hb1 zR;have hB := hsys.box (c := c2) (d := d2);obtain ⟨w2, hw2⟩ : ∃ w2, w2 = w1.alloc (ltsC N ini A2 n2 c2 B2 m2 d2) := ⟨_, rfl⟩;rw [← hw2] at hB;have he2 := hide (he1.below hB.bel zR);have b0 := hB.box.c0;have b1 := hB.box.c1;have b2 := hB.box.c2;have b3 := hB.box.c3;obtain ⟨⟨hN1, -⟩, hini⟩ := hsys.bounds;have hed := hide hsys.edges;have hthr := hide hsys.three;have hman := hsys.many;have hnms := hide (ltsV_names hsys.ok).1;have hbl2 := hide (hb1.trans (hB.bel.mono hb1.size));have q2 := hide (reduceMin_calls (c := c2) (d := d2) hB.sys he2.out (by omega));replace hB := hide hB;replace hb1 := hide hb1;replace hnam := hide hnam;clear q1 hsys he1;go_upto_region 4 with fail;rw [← show w2 = w1.alloc (.cells #[.int .i64 (N : Int), .int .i64 (ini : Int), .slice A2 n2 c2, .slice B2 m2 d2] 27) from hw2];replace hw2 := hide hw2;go_wp2_with fail;refine q2.out.mono ?_;rintro e w3 ⟨K, c0, A4, cA, A5, n5, cB, eb, rfl, hsA, hR, hKN, hel, hb3⟩;have hbA := hsA.bounds;have hBA := hsA.box (c := cA) (d := cB);have hthA := hsA.three;have hmnA := hsA.many;have hlbA := hsA.labs;have hini2 : c0 < K := hbA.2;obtain ⟨w4, hw4⟩ : ∃ w4, w4 = w3.alloc (ltsC K c0 A4 n2 cA A5 n5 cB) := ⟨_, rfl⟩;rw [← hw4] at hBA;have hb3z := hb3.size;have hB4 := hide ((hB.out.below hb3).below hBA.bel);have he4 := hide ((he2.out.below hb3 zR).below hBA.bel zR);have hbl4 := hide (hbl2.out.trans ((hb3.trans (hBA.bel.mono hb3.size)).mono hbl2.out.size));have q3 := hide (minimalBranching_calls hB4.out.sys c2 d2 he4.out false (by omega));obtain ⟨bA, hbAe⟩ : ∃ bA, bA = w3.heap.size := ⟨_, rfl⟩;have hAx := hide (fun (w9 : World) (hb9 : Below w4.heap.size w4 w9) => (show LtsBox w9 bA (K : Int) (c0 : Int) A4 n2 cA A5 n5 cB by rw [hbAe]; exact (hBA.below hb9).box));have hAs := hide (fun (w9 : World) (hb9 : Below w4.heap.size w4 w9) => (hBA.below hb9).sys);clear q2 b0 b1 b2 b3 hsA hBA;replace hb3 := hide hb3;have b0 := hB4.out.box.c0;have b1 := hB4.out.box.c1;have b2 := hB4.out.box.c2;have b3 := hB4.out.box.c3;go_upto_region 5 with fail;rw [← show w4 = w3.alloc (.cells #[.int .i64 (K : Int), .int .i64 (c0 : Int), .slice A4 n2 cA, .slice A5 n5 cB] 27) from hw4, ← hbAe];replace hw4 := hide hw4;replace hbAe := hide hbAe;go_wp2_with fail;refine q3.out.mono ?_;rintro e w5 ⟨r3, c3, iR, A6, c6, A7, n7, d7, rfl, hMB⟩;have hNM : numB (mbP N ini r3 false es) = K := hR.num r3 hMB.last;have hb5 := hMB.bel;have hb5z := hb5.size;have hsM := hMB.sys;rw [hNM] at hsM;have hBM := hsM.box (c := c6) (d := d7)
 obtain ⟨w6, hw6⟩ : ∃ w6, w6 = w5.alloc (ltsC K c3 A6 n2 c6 A7 n7 d7) := ⟨_, rfl⟩;rw [← hw6] at hBM;have hb46 := hb5.trans (hBM.bel.mono hb5z);have hB6 := hide (hB4.out.below hb46);have he6 := hide (he4.out.below hb46 zR);have hbl6 := hide (hbl4.out.trans (hb46.mono hbl4.out.size));have kA := hAx.out w6 hb46;have hA6 := hAs.out w6 hb46;have huv := uni_valid (ia := c0) hnam.out hnam.out (by omega) (by omega) hthA hthr.out hini2 (show K + N ≤ 40 by omega) (show eb.length + es.length ≤ 300 by omega);have q6 := hide (areBranching_calls hA6 hB6.out.sys cA cB c2 d2 he6.out (by omega) false huv.1 huv.2);obtain ⟨bM, hbMe⟩ : ∃ bM, bM = w5.heap.size := ⟨_, rfl⟩;have hMx := hide (fun (w9 : World) (hb9 : Below w6.heap.size w6 w9) => (show LtsBox w9 bM (K : Int) (c3 : Int) A6 n2 c6 A7 n7 d7 by rw [hbMe]; exact (hBM.below hb9).box));have hb46h := hide hb46;clear q3 b0 b1 b2 b3 hBM hsM hA6 huv hb46;replace hMB := hide hMB;replace hb5 := hide hb5;have b0 := hB6.out.box.c0;have b1 := hB6.out.box.c1;have b2 := hB6.out.box.c2;have b3 := hB6.out.box.c3;have m0 := kA.c0;have m1 := kA.c1;have m2' := kA.c2;have m3 := kA.c3;clear kA;go_upto_region 6 with fail;replace hNM := hide hNM;rw [← show w6 = w5.alloc (.cells #[.int .i64 (K : Int), .int .i64 (c3 : Int), .slice A6 n2 c6, .slice A7 n7 d7] 27) from hw6, ← hbMe];replace hw6 := hide hw6;replace hbMe := hide hbMe;go_wp2_with fail;refine q6.out.mono ?_;rintro e w7 ⟨r4, rfl, hL4, hb7⟩;have hyes : decide ((itP (refB (uniE ls eb ls es K) (K + N) false) (K + N) r4)[c0]? = (itP (refB (uniE ls eb ls es K) (K + N) false) (K + N) r4)[K + ini]?) = true :=
  decide_eq_true (hR.alike (by omega) (labs_nodup hnms.out) (labs_zero hnms.out) hthr.out hed.out hlbA r4)
 rw [hyes];have kA := hAx.out w7 (hb46h.out.trans (hb7.mono hb46h.out.size));have kM := hMx.out w7 hb7;have n0 := kA.c0;have n1 := kM.c0;have hbF := hide (hbl6.out.trans (hb7.mono hbl6.out.size));have g1 : ((K : Int) == (K : Int)) = true := by simp
 replace hb7 := hide hb7;clear q6 hL4 hyes b0 b1 b2 b3 m0 m1 m2' m3 kA kM;go_upto_region 7 with fail;go_wp2_with fail;go_ret;exact ⟨rfl, hbF.out⟩
end Go.Proofs.YtnhomkmfbngmgaaGreatDoor.lawFnReduced
namespace Go.Proofs.YtnhomkmfbngmgaaGreatDoor
open Go.ChangeShapes Go.WideShapes Go.ChangeAt Go.RowKit Go.Deep
abbrev DM := DL × List Int
instance decDM : DecidableEq DM := inferInstanceAs (DecidableEq (DL × List Int))
def ArgM (w : World) (lo hi : Nat) (v : Value) (d : DM) : Prop := ∃ (x : CL) (v4 : Value), v = .agg #[.int .i64 x.1, .int .i64 x.2.1, x.2.2.1, x.2.2.2, v4] ∧ ReadL w lo hi x d.1 ∧ ArgI w lo hi v4 d.2
def totM (d : DM) : Nat := totL d.1 + d.2.length
def FreshM (w : World) (lo hi : Nat) (v : Value) (d : DM) : Prop := ArgM w lo hi v d ∧ totM d ≤ 1048576
section
variable {w w' : World} {lo hi lo' hi' B : Nat} {v : Value} {d : DM}
theorem ArgM.below (h : ArgM w lo hi v d) (hb : Below B w w') (hB : hi ≤ B ∨ w.heap.size ≤ B) : ArgM w' lo hi v d := by
 obtain ⟨x, v4, e, h1, a0⟩ := h;exact ⟨x, v4, e, h1.below hb hB, a0.below hb hB⟩
theorem FreshM.below (h : FreshM w lo hi v d) (hb : Below B w w') (hB : hi ≤ B ∨ w.heap.size ≤ B) : FreshM w' lo hi v d := ⟨h.1.below hb hB, h.2⟩
end
abbrev laidL : List (String × DataW Unit) := Rows.fnLtsRow.laid
theorem pow_data : (Rows.laid_internal_strconv_uint64pow10 : DataW Unit) = Lib.tabData .u64 Lib.pow10Tab := by kernel_rfl
theorem good_of {W : World} (h : laidMet Tryz.prog laidL W) (hS : W.ShapedOpen Tryz.prog) : Good W := by
 have h3 : laidMet Tryz.prog (("internal/strconv.uint64pow10", Lib.tabData .u64 Lib.pow10Tab) :: [("unicode/utf8.acceptRanges", Rows.laid_unicode_utf8_acceptRanges), ("strconv.ErrRange", Rows.laid_strconv_ErrRange), ("strconv.ErrSyntax", Rows.laid_strconv_ErrSyntax), ("unicode/utf8.first", Rows.laid_unicode_utf8_first)]) W := by
  rw [← pow_data];exact h.tail.tail
 have h6 : laidMet Tryz.prog (("strconv.ErrSyntax", Rows.laid_strconv_ErrSyntax) :: [("unicode/utf8.first", Rows.laid_unicode_utf8_first)]) W := h3.tail.tail.tail;refine ⟨hS, Lib.tabIs_of_head (g := 1) (t := 324) (e := 137) (n := 20) (by kernel_rfl) (by kernel_rfl) Tryz.underlying324 Tryz.underlying137 (by kernel_rfl) (by kernel_rfl) h3, ?_⟩;obtain ⟨ps, ⟨g0, t0, cs0, f0, p0, q0, hg0, ht0, hv0, hd0, _, e0⟩, _, hrows⟩ := h6;have hg : Tryz.prog.globalNamed "strconv.ErrSyntax" = some 4 := by kernel_rfl
 have ht : (Tryz.prog.globals[4]?).map (·.type) = some 224 := by kernel_rfl
 obtain rfl := Option.some.inj (hg.symm.trans hg0);obtain rfl := Option.some.inj (ht.symm.trans ht0);obtain ⟨l0⟩ := cs0;obtain ⟨_, u, v, e1, _, _⟩ := iface_of_trod Tryz.underlying224 hd0;have e2 : l0 = [.iface u v] := e1;subst e2;exact ⟨u, v, hv0⟩
section
variable {H : Type} {enc : TypeId × Value → H} {P : Program} {w : World} {base : Nat} {spare : Nat → Bool} {held : Bool}
end
end Go.Proofs.YtnhomkmfbngmgaaGreatDoor
namespace Go.Proofs.YtnhomkmfbngmgaaGreatDoor
open Go.ChangeShapes Go.WideShapes Go.ChangeAt Go.RowKit
theorem fact_laid : laidOutB Tryz.pinned.checked.prog = true := by kernel_rfl
theorem fact_maps : mapsRowed Tryz.pinned.checked.prog = true := by kernel_rfl
theorem fact_heard : Tryz.pinned.checked.prog.stopsHeard = true := by kernel_rfl
theorem fact_enter : Tryz.pinned.checked.prog.mayEnter = true := by kernel_rfl
theorem fact_lifts : Tryz.pinned.checked.prog.liftsFinal = Rows.fnLtsRow.lifted := by kernel_rfl
theorem fact_make : Tryz.pinned.checked.prog.make = some Rows.fnLtsRow.make := by kernel_rfl
theorem fact_main : Tryz.pinned.checked.prog.mainIs = some (true, "908aadf79a3911da7d4960582ae04b5fb7cbc5fbb004ba15854af102615e9df1".toList) := by kernel_rfl
theorem fact_looks : true = Tryz.pinned.checked.prog.looks [] := by kernel_rfl
theorem plain_laid : (laidL.filter fun x => x.2.handleName?.isSome) = [] := by kernel_rfl
theorem pre_laid {H : Type} {enc : TypeId × Value → H} {P : Program} {f : Func} {s : OpenSpec} {c : OpenClaim} (hl : c.laid = laidL) :
  c.pre enc P f s = fun w args => (s.pre enc P f c.domain c.apart w args ∧ laidMet P laidL w) ∧ sizedMet enc P f s c.apart w args := by
 obtain ⟨x, r, e⟩ : ∃ x r, laidL = x :: r := ⟨_, _, rfl⟩;have hp := plain_laid
 funext w args
 unfold OpenClaim.pre OpenClaim.preLaid;rw [hl];rw [e] at hp ⊢
 show ((_ ∧ laidMetH P (x :: r) w) ∧ _) = _
 unfold laidMetH;rw [hp]
end Go.Proofs.YtnhomkmfbngmgaaGreatDoor
