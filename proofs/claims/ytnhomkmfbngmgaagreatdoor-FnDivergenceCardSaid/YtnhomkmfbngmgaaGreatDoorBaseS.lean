/-
  Lemmas that the law of this claim leans on. Conditions: sizes.
-/
import Derived.Test.YtnhomkmfbngmgaaGreatDoorBaseA
import Derived.Test.YtnhomkmfbngmgaaGreatDoorBaseB
import Derived.Test.YtnhomkmfbngmgaaGreatDoorBaseC
import Derived.Test.YtnhomkmfbngmgaaGreatDoorBaseD
import Derived.Test.YtnhomkmfbngmgaaGreatDoorBaseG
import Derived.Test.YtnhomkmfbngmgaaGreatDoorBaseN
import Derived.Test.YtnhomkmfbngmgaaGreatDoorBaseO
import Derived.Test.YtnhomkmfbngmgaaGreatDoorBaseR
import Derived.Deep.CutBlock
import Derived.Test.YtnhomkmfbngmgaaGreatDoorTie
import Derived.Test.YtnhomkmfbngmgaaGreatDoorCards
set_option maxHeartbeats 12800000
set_option maxRecDepth 100000
set_option linter.unusedSimpArgs false
set_option linter.unusedVariables false
namespace Go.Proofs.YtnhomkmfbngmgaaGreatDoor
open Go.ChangeShapes Go.WideShapes Go.ChangeAt Go.RowKit Go.Sort
structure SysX (lo hi : Nat) (w : World) (g K M S : Nat) (st ini : Nat) (A : Option Addr) (n c : Nat) (B : Option Addr) (m d : Nat) (ls : List ByteArray) (es : List Ed) : Prop where
 box : LtsBox w g (st : Int) (ini : Int) A n c B m d
 ss : SlS w lo hi A n ls
 se : SlE w lo hi B m es
 ok : ltsV ((st : Int), (ini : Int), ls, es) = true
 h1 : st ≤ S
 h2 : m ≤ M
 h3 : n ≤ K
 nam : NamD ls
 top : hi ≤ w.heap.size
section
variable {lo hi g K M S : Nat} {w w' : World} {st ini : Nat} {A : Option Addr} {n c : Nat} {B : Option Addr} {m d : Nat} {ls : List ByteArray} {es : List Ed}
theorem SysX.sz (h : SysX lo hi w g K M S st ini A n c B m d ls es) (hK : K ≤ 1000) : totS ls ≤ 100000 := by
 have h4 := namD_tot h.nam;have h5 := h.ss.len;have := h.h3;omega
theorem SysX.sys (h : SysX lo hi w g K M S st ini A n c B m d ls es) (hK : K ≤ 1000) : SysA w st ini A n B m ls es := ⟨h.ss.here', h.se.here', h.ok, h.sz hK⟩
theorem SysX.below (h : SysX lo hi w g K M S st ini A n c B m d ls es) (hb : Below w.heap.size w w') : SysX lo hi w' g K M S st ini A n c B m d ls es :=
 ⟨h.box.below hb h.box.lt, h.ss.below hb (.inl h.top), h.se.below hb (.inl h.top), h.ok, h.h1, h.h2, h.h3, h.nam, Nat.le_trans h.top hb.size⟩
theorem SysX.only {b : Nat} (h : SysX lo hi w g K M S st ini A n c B m d ls es) (hb : Only b (b + 1) w w') (hlo : b < lo) (hg : b ≠ g) : SysX lo hi w' g K M S st ini A n c B m d ls es :=
 ⟨h.box.only hb (by omega), h.ss.only hb (.inr hlo), h.se.only hb (.inr hlo), h.ok, h.h1, h.h2, h.h3, h.nam, Nat.le_trans h.top hb.size⟩
theorem SysX.grownX {K0 : Nat} {row : Option Nat} (h : SysX lo hi w g K M S st ini A n c B m d ls es) (hg : w.grownBy w' row) (hr : ∀ q, row = some q → K0 ≤ q) (h1 : hi ≤ K0) (h2 : g < K0) : SysX lo hi w' g K M S st ini A n c B m d ls es := by
 have hne : ∀ b, b < K0 → some b ≠ row := fun b hb e => by have := hr b e.symm; omega
 exact ⟨h.box.grown hg (hne g h2), Sl.keep h.ss hg.size (fun q _ h4 h5 => hg.block q h5 (hne q (by omega))), Sl.keep h.se hg.size (fun q _ h4 h5 => hg.block q h5 (hne q (by omega))), h.ok, h.h1, h.h2, h.h3, h.nam, Nat.le_trans h.top hg.size⟩
theorem SysX.wide (h : SysX lo hi w g K M S st ini A n c B m d ls es) {lo' hi' : Nat} (h1 : lo' ≤ lo) (h2 : hi ≤ hi') (h3 : hi' ≤ w.heap.size) : SysX lo' hi' w g K M S st ini A n c B m d ls es :=
 ⟨h.box, h.ss.more h1 h2, h.se.more h1 h2, h.ok, h.h1, h.h2, h.h3, h.nam, h3⟩
theorem SysX.putX (h : SysX lo hi w g K M S st ini A n c B m d ls es) {b : Nat} (hb : hi ≤ b) (hg : g ≠ b) (v0 v1 v2 v3 : Value) : SysX lo hi (put4 w b v0 v1 v2 v3) g K M S st ini A n c B m d ls es := by
 have hZ := put4_size w b v0 v1 v2 v3;exact ⟨(put4_other w b v0 v1 v2 v3 hg).trans h.box, Sl.keep h.ss (by omega) (fun q _ h4 _ => put4_other _ _ _ _ _ _ (by omega)), Sl.keep h.se (by omega) (fun q _ h4 _ => put4_other _ _ _ _ _ _ (by omega)), h.ok, h.h1, h.h2, h.h3, h.nam, by rw [hZ]; exact h.top⟩
theorem SysX.putL (h : SysX lo hi w g K M S st ini A n c B m d ls es) {b : Nat} (hb : b < lo) (hg : b < g) (v0 v1 v2 v3 : Value) : SysX lo hi (put4 w b v0 v1 v2 v3) g K M S st ini A n c B m d ls es := by
 have hZ := put4_size w b v0 v1 v2 v3;exact ⟨(put4_other w b v0 v1 v2 v3 (by omega)).trans h.box, Sl.keep h.ss (by omega) (fun q h4 _ _ => put4_other _ _ _ _ _ _ (by omega)), Sl.keep h.se (by omega) (fun q h4 _ _ => put4_other _ _ _ _ _ _ (by omega)), h.ok, h.h1, h.h2, h.h3, h.nam, by rw [hZ]; exact h.top⟩
theorem SysX.newX (h : SysX lo hi w g K M S st ini A n c B m d ls es) {lo2 K' M' S' st' ini' : Nat} {A' : Option Addr} {n' c' : Nat} {B' : Option Addr} {m' d' : Nat} {ls' : List ByteArray} {es' : List Ed}
  (hA : SlS w lo2 w.heap.size A' n' ls') (hB : SlE w lo2 w.heap.size B' m' es') (hv : ltsV ((st' : Int), (ini' : Int), ls', es') = true) (h1 : st' ≤ S') (h2 : m' ≤ M') (h3 : n' ≤ K') (hn : NamD ls') (hl : g < lo2 ∧ lo ≤ lo2) :
  SysX lo (put4 w g (.int .i64 (st' : Int)) (.int .i64 (ini' : Int)) (.slice A' n' c') (.slice B' m' d')).heap.size (put4 w g (.int .i64 (st' : Int)) (.int .i64 (ini' : Int)) (.slice A' n' c') (.slice B' m' d')) g K' M' S' st' ini' A' n' c' B' m' d' ls' es' := by
 have hZ := put4_size w g (.int .i64 (st' : Int)) (.int .i64 (ini' : Int)) (.slice A' n' c') (.slice B' m' d');refine ⟨?_, (Sl.keep hA (by omega) (fun q h4 _ _ => put4_other _ _ _ _ _ _ (by omega))).more hl.2 (by omega), (Sl.keep hB (by omega) (fun q h4 _ _ => put4_other _ _ _ _ _ _ (by omega))).more hl.2 (by omega), hv, h1, h2, h3, hn, zR⟩;have k1 := heap_setCell_same w g 0 _ _ (.int .i64 (st' : Int)) h.box;have k2 := heap_setCell_same _ g 1 _ _ (.int .i64 (ini' : Int)) k1;have k3 := heap_setCell_same _ g 2 _ _ (.slice A' n' c') k2;exact heap_setCell_same _ g 3 _ _ (.slice B' m' d') k3
end
theorem results_cell2 {fn : Func} {p q : Tmp} {ty tz : TypeId} (h : fn.results = #[.cell p ty, .cell q tz]) (tmps : Array Value) (P : Program) (w : World) :
  (results fn tmps).run P w = ((asAddr (tmps.getD p undef)).run P w).andThen fun a w₁ => ((loadVar ty a).run P w₁).andThen fun v w₂ => ((asAddr (tmps.getD q undef)).run P w₂).andThen fun b w₃ => ((loadVar tz b).run P w₃).andThen fun u w₄ => .ok (.tuple #[v, u]) w₄ := by
 simp only [results, h]
 simp [Sem.run_bind, Result.andThen]
theorem put4_below {K : Nat} {a w : World} (h : Below K a w) {g : Nat} (hg : K ≤ g) (v0 v1 v2 v3 : Value) : Below K a (put4 w g v0 v1 v2 v3) :=
 (((h.setCell (p := ⟨g, 0, none⟩) hg v0).setCell (p := ⟨g, 1, none⟩) hg v1).setCell (p := ⟨g, 2, none⟩) hg v2).setCell (p := ⟨g, 3, none⟩) hg v3
theorem Only.belowB {b : Nat} {a w w' : World} (g : Only b (b + 1) w w') (h : Below a.heap.size a w) (hK : a.heap.size ≤ b) : Below a.heap.size a w' :=
 ⟨g.os.trans h.os, g.tape.trans h.tape, g.output.trans h.output, Nat.le_trans h.size g.size, fun q hq => (g.block q (Nat.lt_of_lt_of_le hq h.size) (.inl (by omega))).trans (h.block q hq)⟩
def TwoD (w : World) (e : Ending) (w' : World) : Prop := ∃ (Na ia : Nat) (A : Option Addr) (n c : Nat) (B : Option Addr) (m d : Nat) (la : List ByteArray) (ea : List Ed) (Nb ib : Nat) (A' : Option Addr) (n' c' : Nat) (B' : Option Addr) (m' d' : Nat) (lb : List ByteArray) (eb : List Ed),
 e = .returned (.tuple #[.agg #[.int .i64 (Na : Int), .int .i64 (ia : Int), .slice A n c, .slice B m d], .agg #[.int .i64 (Nb : Int), .int .i64 (ib : Int), .slice A' n' c', .slice B' m' d']]) ∧ SysA w' Na ia A n B m la ea ∧ SysA w' Nb ib A' n' B' m' lb eb ∧
 Na ≤ 7 ∧ m ≤ 64 ∧ n ≤ 7 ∧ NamD la ∧ Nb ≤ 9 ∧ m' ≤ 200 ∧ n' ≤ 9 ∧ NamD lb ∧ Below w.heap.size w w'
theorem R8Two_calls (A0 : Option Addr) (n0 c0 : Nat) (code : List Int) (w : World) (h : SlU w 0 w.heap.size A0 n0 code) (hc : ∀ x, x ∈ code → 0 ≤ x ∧ x ≤ 255) (hn : n0 ≤ maxLen) :
  Calls Tryz.prog 34 #[.slice A0 n0 c0] w (TwoD w) := by
 have hEe := hide elem_edge;have hb0 := ((Below.refl w.heap.size w).alloc zR (.cells #[.int .i64 0, .int .i64 0, .slice none 0 0, .slice none 0 0] 27)).alloc (by rw [World.size_alloc]; omega) (.cells #[.int .i64 0, .int .i64 0, .slice none 0 0, .slice none 0 0] 27);have zA : (w.alloc (.cells #[.int .i64 0, .int .i64 0, .slice none 0 0, .slice none 0 0] 27)).heap.size = w.heap.size + 1 := World.size_alloc _ _;have hrA0 : LtsBox (w.alloc (.cells #[.int .i64 0, .int .i64 0, .slice none 0 0, .slice none 0 0] 27)) w.heap.size 0 0 none 0 0 none 0 0 := heap_alloc_new w _;have hrA : LtsBox ((w.alloc (.cells #[.int .i64 0, .int .i64 0, .slice none 0 0, .slice none 0 0] 27)).alloc (.cells #[.int .i64 0, .int .i64 0, .slice none 0 0, .slice none 0 0] 27)) w.heap.size 0 0 none 0 0 none 0 0 := hrA0.below (K := w.heap.size + 1) (bR.alloc (by omega) _) (by omega);have hrB : LtsBox ((w.alloc (.cells #[.int .i64 0, .int .i64 0, .slice none 0 0, .slice none 0 0] 27)).alloc (.cells #[.int .i64 0, .int .i64 0, .slice none 0 0, .slice none 0 0] 27)) (w.heap.size + 1) 0 0 none 0 0 none 0 0 := by rw [← zA]; exact heap_alloc_new _ _
 obtain ⟨w1, hw1⟩ : ∃ w1, w1 = (w.alloc (.cells #[.int .i64 0, .int .i64 0, .slice none 0 0, .slice none 0 0] 27)).alloc (.cells #[.int .i64 0, .int .i64 0, .slice none 0 0, .slice none 0 0] 27) := ⟨_, rfl⟩;rw [← hw1] at hb0 hrA hrB;have hz1 : w1.heap.size = w.heap.size + 1 + 1 := by rw [hw1, World.size_alloc, zA]
 have q1 := hide (l00From_calls A0 n0 c0 code w1 ((h.below hb0 (.inl zR)).more zR hb0.size) hc hn);obtain ⟨hz1a, hz1b⟩ : w1.heap.size ≤ w.heap.size + 2 ∧ w.heap.size + 2 ≤ w1.heap.size := ⟨by omega, by omega⟩;have hb01 := hide hb0;replace hrA := hide hrA;replace hrB := hide hrB;clear h hc hz1 zA hb0 hrA0;go_enter Tryz.func34, Tryz.ntmps34;go_upto_region 1 with fail;rw [← hw1];replace hw1 := hide hw1;go_wp2_with fail;refine q1.out.mono ?_;rintro e w2 ⟨rfl, hS2, hb2, hz2⟩;obtain ⟨bs, hbs⟩ : ∃ bs, bs = w1.heap.size := ⟨_, rfl⟩;rw [← hbs] at hS2 ⊢;have q2 := hide (l15DrawOk_calls bs 0 w2 hS2 (by omega));obtain ⟨hbs1, hbs2⟩ : bs ≤ w1.heap.size ∧ w1.heap.size ≤ bs := ⟨by omega, by omega⟩;obtain ⟨hz2a, hz2b⟩ : w2.heap.size ≤ bs + 1 ∧ bs + 1 ≤ w2.heap.size := ⟨by omega, by omega⟩;have hb12 := hide hb2;replace hbs := hide hbs;clear q1 hS2 hz2 hb2;go_wp2_with fail;refine q2.out.mono ?_;rintro e w3 hd;obtain ⟨Na, ia, A, n, c, B, m, d, la, ea, rfl, hsys, h7, h64, hn7, hnam, hs3, hon3, hA, hB⟩ := hd.sys (by omega);have hm64 : m ≤ 64 := by have := hsys.se.len; omega
 have hz3 := hon3.size;have hb13 := hide (hon3.belowB hb12.out hbs2);have kA : LtsBox (w3.alloc (ltsC Na ia A n c B m d)) w3.heap.size (Na : Int) (ia : Int) A n c B m d := heap_alloc_new w3 _;have hX4 : SysX (bs + 1) w3.heap.size (w3.alloc (ltsC Na ia A n c B m d)) w3.heap.size 7 64 7 Na ia A n c B m d la ea :=
  ⟨kA, (hA.below ((Below.refl w3.heap.size w3).alloc zR _) (.inl zR)).more hz2b zR, (hB.below ((Below.refl w3.heap.size w3).alloc zR _) (.inl zR)).more hz2b zR, hsys.ok, h7, hm64, hn7, hnam, by rw [World.size_alloc]; omega⟩
 have hs4 := hs3.alloc (ltsC Na ia A n c B m d);have hb14 := hide (hb13.out.alloc hb13.out.size (ltsC Na ia A n c B m d));obtain ⟨w4, hw4⟩ : ∃ w4, w4 = w3.alloc (ltsC Na ia A n c B m d) := ⟨_, rfl⟩;obtain ⟨bA, hbA⟩ : ∃ bA, bA = w3.heap.size := ⟨_, rfl⟩;have z4 : w4.heap.size = bA + 1 := by rw [hw4, World.size_alloc, hbA]
 rw [← hw4] at hX4 hs4 hb14;rw [← hbA] at hX4;obtain ⟨hbA1, hz4a, hz4b⟩ : bs + 1 ≤ bA ∧ w4.heap.size ≤ bA + 1 ∧ bA + 1 ≤ w4.heap.size := ⟨by omega, by omega, by omega⟩;have q3 := hide (l15DrawOk_calls bs _ w4 hs4 (by omega));have hX4h := hide hX4;have hbn1 := hide hX4.box.lt;clear q2 hd hsys hs3 hon3 hA hB kA hs4 z4 h64;go_upto_region 3 with fail;rw [← show w4 = w3.alloc (.cells #[.int .i64 (Na : Int), .int .i64 (ia : Int), .slice A n c, .slice B m d] 27) from hw4, ← hbA];replace hw4 := hide hw4;replace hbA := hide hbA;go_wp2_with fail;refine q3.out.mono ?_;rintro e w5 hd;obtain ⟨Nb, ib, A', n', c', B', m', d', lb, eb, rfl, hsys, h7', h64', hn7', hnam', hs5, hon5, hA, hB⟩ := hd.sys (by omega);have hm64' : m' ≤ 64 := by have := hsys.se.len; omega
 have hz5 := hon5.size;have hX5 := hX4h.out.only hon5 (by omega) (by omega);have hb15 := hide (hon5.belowB hb14.out hbs2);have kB : LtsBox (w5.alloc (ltsC Nb ib A' n' c' B' m' d')) w5.heap.size (Nb : Int) (ib : Int) A' n' c' B' m' d' := heap_alloc_new w5 _;have hY6 : SysX (bs + 1) w5.heap.size (w5.alloc (ltsC Nb ib A' n' c' B' m' d')) w5.heap.size 9 200 9 Nb ib A' n' c' B' m' d' lb eb :=
  ⟨kB, (hA.below ((Below.refl w5.heap.size w5).alloc zR _) (.inl zR)).more (by omega) zR, (hB.below ((Below.refl w5.heap.size w5).alloc zR _) (.inl zR)).more (by omega) zR, hsys.ok, by omega, by omega, by omega, hnam', by rw [World.size_alloc]; omega⟩
 have hX6 := hX5.below ((Below.refl w5.heap.size w5).alloc zR (ltsC Nb ib A' n' c' B' m' d'));have hs6 := hs5.alloc (ltsC Nb ib A' n' c' B' m' d');have hb16 := hide (hb15.out.alloc hb15.out.size (ltsC Nb ib A' n' c' B' m' d'));obtain ⟨w6, hw6⟩ : ∃ w6, w6 = w5.alloc (ltsC Nb ib A' n' c' B' m' d') := ⟨_, rfl⟩;obtain ⟨bB, hbB⟩ : ∃ bB, bB = w5.heap.size := ⟨_, rfl⟩;have z6 : w6.heap.size = bB + 1 := by rw [hw6, World.size_alloc, hbB]
 rw [← hw6] at hX6 hY6 hs6 hb16;rw [← hbB] at hY6;obtain ⟨hbB1, hz6a, hz6b⟩ : bA + 1 ≤ bB ∧ w6.heap.size ≤ bB + 1 ∧ bB + 1 ≤ w6.heap.size := ⟨by omega, by omega, by omega⟩;have q4 := hide (pick_calls bs _ 6 w6 hs6 (by omega));replace hX6 := hide hX6;replace hY6 := hide hY6;clear q3 hd hsys hs5 hon5 hA hB kB hs6 z6 h64' hX5;go_upto_region 4 with fail;rw [← show w6 = w5.alloc (.cells #[.int .i64 (Nb : Int), .int .i64 (ib : Int), .slice A' n' c', .slice B' m' d'] 27) from hw6, ← hbB];replace hw6 := hide hw6;replace hbB := hide hbB
 go_upto_block 0 with (first | (go_at_call 84; (with_reducible refine q4.out.mono ?_); rintro e w7 ⟨x, rfl, x0, x1, hs7⟩; obtain ⟨x, rfl⟩ : ∃ k : Nat, x = (k : Int) := ⟨x.toNat, by omega⟩))
 have hX7 := hide (hX6.out.only hs7.only (by omega) (by omega));have hY7 := hide (hY6.out.only hs7.only (by omega) (by omega));have hb17 := hide (hs7.only.belowB hb16.out hbs2);have hsr7 := hide hs7.src;have hz7 := hs7.size;have hx5 : x ≤ 5 := by omega
 obtain ⟨hz7a, hz7b⟩ : w7.heap.size ≤ bB + 1 ∧ bB + 1 ≤ w7.heap.size := ⟨by omega, by omega⟩;clear q4 hs7 x0 x1 hX6 hY6 hz7
 go_cut [15] (fun v15 wx => ∃ (Nb ib : Nat) (A' : Option Addr) (n' c' : Nat) (B' : Option Addr) (m' d' : Nat) (lb : List ByteArray) (eb : List Ed), Hid (SysX (bs + 1) wx.heap.size wx bB 9 200 9 Nb ib A' n' c' B' m' d' lb eb) ∧ Hid (SysX (bs + 1) bA wx bA 7 64 7 Na ia A n c B m d la ea) ∧ Hid (Below w1.heap.size w1 wx))
 case first =>
  go_upto_if 16 with fail
  go_cut [16] (fun v16 wx => v16 = .bool (decide (x ≤ 1)) ∧ wx = w7)
  case first =>
   by_cases e0 : x = 0
   ·have g0 : ((x : Int) == 0) = true := by simp [e0]
    have g1 : decide (x ≤ 1) = true := by simp [e0]
    go_wp2_with fail;go_meet
    exact ⟨by rw [g0, g1], rfl⟩
   ·have g0 : ((x : Int) == 0) = false := by rw [beq_eq_false_iff_ne]; omega
    by_cases e1 : x = 1
    ·have g2 : ((x : Int) == 1) = true := by simp [e1]
     go_wp2_with fail;go_meet
     exact ⟨by rw [decide_eq_true (show x ≤ 1 by omega)], rfl⟩
    ·have g2 : ((x : Int) == 1) = false := by rw [beq_eq_false_iff_ne]; omega
     go_wp2_with fail;go_meet
     exact ⟨by rw [decide_eq_false (show ¬ x ≤ 1 by omega)], rfl⟩
  case rest =>
   obtain ⟨rfl, hwc⟩ := hcut;obtain rfl : w7 = wc := hwc.symm;have hXs := hX7.out;have hAs := hXs.ss.more zR hXs.top;have hBs := hXs.se.more zR hXs.top
   by_cases c1 : x ≤ 1
   ·have g1 : decide (x ≤ 1) = true := decide_eq_true c1
    have q5 := hide (l13DrawLike_calls bs _ hsr7.out (by omega) hAs hBs hXs.ok (hXs.sz (by omega)) c d bA hXs.box (by omega) hXs.nam (by have := hXs.h3; omega) hXs.h2 hXs.h1);clear hXs hAs hBs;go_wp2_with fail;refine q5.out.mono ?_;rintro e w8 ⟨st, i8, A8, n8, c8, B8, m8, d8, l8, e8, rfl, hA8, hB8, hv8, s1, s2, s3, hn8, hs8, hon8⟩;have hX9 := hide (hX7.out.only hon8 (by omega) (by omega));have hY9 := hide (hY7.out.only hon8 (by omega) (by omega));have hb9 := hide (hon8.belowB hb17.out hbs2);replace hA8 := hide hA8;replace hB8 := hide hB8;replace hv8 := hide hv8;replace hn8 := hide hn8;clear q5 hs8 hon8;have hB0 := hY9.out.box;have y0 := hB0.c0;have y1 := hB0.c1;have y2 := hB0.c2;have y3 := hB0.c3;have z0 := hB0.f0;have z1 := hB0.f1;have z2 := hB0.f2;have z3 := hB0.f3;clear hB0;go_wp2_with fail;go_meet;exact ⟨_, _, _, _, _, _, _, _, _, _, hide (hY9.out.newX hA8.out hB8.out hv8.out (by omega) (by omega) (by omega) hn8.out (by omega)), hide (hX9.out.putX (by omega) (by omega) _ _ _ _), hide (put4_below hb9.out (by omega) _ _ _ _)⟩
   ·have g1 : decide (x ≤ 1) = false := decide_eq_false c1
    by_cases c2 : x = 2
    ·have g2 : ((x : Int) == 2) = true := by simp [c2]
     have q5 := hide (one_calls bs _ 2 w7 hsr7.out (by omega));clear hXs hAs hBs;go_wp2_with fail;refine q5.out.mono ?_;rintro e w7a ⟨yes, rfl, hs7a⟩;have hX7a := hX7.out.only hs7a.only (by omega) (by omega);have hY7a := hide (hY7.out.only hs7a.only (by omega) (by omega));have hb17a := hide (hs7a.only.belowB hb17.out hbs2);have hza := hs7a.size;have q6 := hide (l15Least_calls (hX7a.sys (by omega)) c d bA hX7a.box yes hX7a.nam (by have := hX7a.h3; omega) (by have := hX7a.h2; omega));have hN7 := hX7a.h1;have hM7 := hX7a.h2;replace hX7a := hide hX7a;clear q5 hs7a;go_wp2_with fail;refine q6.out.mono ?_;rintro e w8 ⟨st, i8, A8, n8, c8, B8, m8, d8, l8, e8, rfl, hA8, hB8, hv8, s1, s2, s3, hn8, hb8⟩;have hX9 := hide (hX7a.out.below hb8);have hY9 := hide (hY7a.out.below hb8);have hb9 := hide (hb17a.out.trans (hb8.mono hb17a.out.size));replace hA8 := hide hA8;replace hB8 := hide hB8;replace hv8 := hide hv8;replace hn8 := hide hn8;clear q6 hb8;have hB0 := hY9.out.box;have y0 := hB0.c0;have y1 := hB0.c1;have y2 := hB0.c2;have y3 := hB0.c3;have z0 := hB0.f0;have z1 := hB0.f1;have z2 := hB0.f2;have z3 := hB0.f3;clear hB0;go_wp2_with fail;go_meet;exact ⟨_, _, _, _, _, _, _, _, _, _, hide (hY9.out.newX hA8.out hB8.out hv8.out (by omega) (by omega) (by omega) hn8.out (by omega)), hide (hX9.out.putX (by omega) (by omega) _ _ _ _), hide (put4_below hb9.out (by omega) _ _ _ _)⟩
    ·have g2 : ((x : Int) == 2) = false := by rw [beq_eq_false_iff_ne]; omega
     by_cases c3 : x = 3
     ·have g3 : ((x : Int) == 3) = true := by simp [c3]
      have q6 := hide (l13Least_calls (hXs.sys (by omega)) c d bA hXs.box hXs.nam (by have := hXs.h3; omega) (by have := hXs.h2; omega));have hN7 := hXs.h1;have hM7 := hXs.h2;clear hXs hAs hBs;go_wp2_with fail;refine q6.out.mono ?_;rintro e w8 ⟨st, i8, A8, n8, c8, B8, m8, d8, l8, e8, rfl, hA8, hB8, hv8, s1, s2, s3, hn8, hb8⟩;have hX9 := hide (hX7.out.below hb8);have hY9 := hide (hY7.out.below hb8);have hb9 := hide (hb17.out.trans (hb8.mono hb17.out.size));replace hA8 := hide hA8;replace hB8 := hide hB8;replace hv8 := hide hv8;replace hn8 := hide hn8;clear q6 hb8;have hB0 := hY9.out.box;have y0 := hB0.c0;have y1 := hB0.c1;have y2 := hB0.c2;have y3 := hB0.c3;have z0 := hB0.f0;have z1 := hB0.f1;have z2 := hB0.f2;have z3 := hB0.f3;clear hB0;go_wp2_with fail;go_meet;exact ⟨_, _, _, _, _, _, _, _, _, _, hide (hY9.out.newX hA8.out hB8.out hv8.out (by omega) (by omega) (by omega) hn8.out (by omega)), hide (hX9.out.putX (by omega) (by omega) _ _ _ _), hide (put4_below hb9.out (by omega) _ _ _ _)⟩
     ·have g3 : ((x : Int) == 3) = false := by rw [beq_eq_false_iff_ne]; omega
      by_cases c4 : x = 4
      ·have g4 : ((x : Int) == 4) = true := by simp [c4]
       have hL8 : Own 3 ev (w7.alloc (.cells #[] 84)) w7.heap.size 84 (some ⟨w7.heap.size, 0, none⟩) 0 0 ([] : List Ed) := Own.made (α := Ed) (size := 3) (f := ev) w7 84 zR;have hX8 := hXs.below ((Below.refl w7.heap.size w7).alloc zR (.cells #[] 84));have hY8 := hide (hY7.out.below ((Below.refl w7.heap.size w7).alloc zR (.cells #[] 84)));have hs8 := hide (hsr7.out.alloc (.cells #[] 84));have hb8 := hide (hb17.out.alloc hb17.out.size (.cells #[] 84));have k3 := hX8.box.c3;have hz8 : w7.heap.size ≤ (w7.alloc (.cells #[] 84)).heap.size := by rw [World.size_alloc]; omega
       have hlen := hX8.se.len;have hlla := hX8.ss.len;have hn7 := hX8.h3;have hN7 := hX8.h1;have hvA := hX8.ok;have hnmA := hX8.nam;replace hX8 := hide hX8;replace hL8 := hide hL8;replace hvA := hide hvA;replace hnmA := hide hnmA;clear hXs hAs hBs;go_upto_region 14 with (first | (at_builtin; (with_reducible refine wpList_app rfl (.tmp 31) (.tmp 33) rfl hEe.out flat_ev rfl hL8.out rfl hX8.out.se ?d1 hz8 ?_); rotate_right; intro A5 c5 w9 hown5 hgr5 hb5 hat5))
       case d1 => have := hX8.out.h2; omega
       rw [Nat.zero_add, List.nil_append] at hown5
       try rw [Nat.zero_add]
       have hX9' := hX8.out.grownX hgr5 (fun q e => (hL8.out.lt q e).1) (by omega) (by omega);have hY9' := hY8.out.grownX hgr5 (fun q e => (hL8.out.lt q e).1) hY7.out.top (by omega);have hb9' := hb8.out.grown hgr5 hb8.out.size (fun q e => by have := (hL8.out.lt q e).1; omega);have hs9' := hs8.out.grow hgr5 (fun q e => by have := (hL8.out.lt q e).1; omega);have hzq9 := hgr5.size;obtain ⟨wD, hwD⟩ : ∃ wD, wD = w9.drew := ⟨_, rfl⟩;have hbD : Below w9.heap.size w9 wD := by rw [hwD]; exact bR.drew
       have hX0 := hide (hX9'.below hbD);have hY0 := hide (hY9'.below hbD);have hO0 : Hid (Own 3 ev wD w7.heap.size 84 A5 m c5 ea) := hown5.below hbD zR;have hb0 := hide (hb9'.trans (hbD.mono hb9'.size));have hsD := hs9'.below hbD (by have := hX9'.top; omega);have hzD := hbD.size;have hE1 : Hid (EdD Na n ea) := fun e he => by
        have h1 := (ltsV_edge hvA.out).1 e he;rw [hlla] at h1;exact h1
       have p1 := hide (pick_calls bs _ (Na : Int) wD hsD (by omega));have hNa1 : 1 ≤ Na := by have := (ltsV_edge hvA.out).2; omega
       have hn1 : 1 ≤ n := by
        have h1 := (ltsV_names hvA.out).1;unfold namesB at h1;rw [Bool.and_eq_true] at h1;have h2 := inB_true.1 h1.1;omega
       have hia7 : ia < Na := by have := (ltsV_edge hvA.out).2.2; omega
       replace hwD := hide hwD;clear hgr5 hb5 hat5 hX9' hY9' hb9' hs9' hbD hown5 hsD k3 hL8 hX8 hY8 hs8 hb8;refine lateT_begin (S := fun w' => w'.cell? ⟨bA, 0, none⟩ = some (.int .i64 (Na : Int)) ∧ w'.cell? ⟨bA, 2, none⟩ = some (.slice A n c)) (st := 17) (by kernel_rfl) ?_;rw [← show wD = _ from hwD.out];have hS0 : (fun w' : World => w'.cell? ⟨bA, 0, none⟩ = some (.int .i64 (Na : Int)) ∧ w'.cell? ⟨bA, 2, none⟩ = some (.slice A n c)) wD := ⟨hX0.out.box.c0, hX0.out.box.c2⟩;refine tkB 0 [17] hS0 ?_;refine tkB 1 [17] hS0 ?_;refine tkB 2 [17] hS0 ?_;refine tkB 3 [17] hS0 ?_;refine tkB 5 [17] hS0 ?_;refine tkB 6 [17] hS0 ?_;refine tkB 7 [17] hS0 ?_;refine tkB 10 [17] hS0 ?_;refine tkB 11 [17] hS0 ?_;refine tkB 12 [17] hS0 ?_
-- SEVERAL MAY COME: [4, 8]
       refine tkB 8 [17] hS0 ?_
-- SEVERAL MAY COME: [4, 8]
       refine lS 4 fun K hK => ?_
       go_simp;go_at_call 84
       (with_reducible refine p1.out.mono ?_)
       rintro e wp1 ⟨f, rfl, f0, f1, hs1⟩;have hX1 := hide (hX0.out.only hs1.only (by omega) (by omega));have hY1 := hide (hY0.out.only hs1.only (by omega) (by omega));have hO1 := hide (hO0.out.keep (w' := wp1) fun g e => hs1.only.block g (hO0.out.lt g e).2 (by have := (hO0.out.lt g e).1; omega));have hb1 := hide (hs1.only.belowB hb0.out (show w1.heap.size ≤ bs by omega));have p2 := hide (pick_calls bs _ (n : Int) wp1 hs1.src (by omega));replace hs1 := hide hs1
       (try go_wp2_with fail)
       refine kP hK (fun _ => ⟨hX1.out.box.c0, hX1.out.box.c2⟩) ?_;clear hK K;refine lS 9 fun K hK => ?_
       go_simp;go_at_call 84
       (with_reducible refine p2.out.mono ?_)
       rintro e wp2 ⟨l, rfl, l0, l1, hs2⟩;have hX2 := hide (hX1.out.only hs2.only (by omega) (by omega));have hY2 := hide (hY1.out.only hs2.only (by omega) (by omega));have hO2 := hide (hO1.out.keep (w' := wp2) fun g e => hs2.only.block g (hO1.out.lt g e).2 (by have := (hO1.out.lt g e).1; omega));have hb2 := hide (hs2.only.belowB hb1.out (show w1.heap.size ≤ bs by omega));have p3 := hide (pick_calls bs _ (Na : Int) wp2 hs2.src (by omega));replace hs2 := hide hs2
       (try go_wp2_with fail)
       refine kP hK (fun _ => ⟨hX2.out.box.c0, hX2.out.box.c2⟩) ?_;clear hK K;refine lS 13 fun K hK => ?_
       go_simp;go_at_call 84
       (with_reducible refine p3.out.mono ?_)
       rintro e wp3 ⟨t, rfl, t0, t1, hs3⟩;have hX3 := hide (hX2.out.only hs3.only (by omega) (by omega));have hY3 := hide (hY2.out.only hs3.only (by omega) (by omega));have hO3 := hide (hO2.out.keep (w' := wp3) fun g e => hs3.only.block g (hO2.out.lt g e).2 (by have := (hO2.out.lt g e).1; omega));have hb3 := hide (hs3.only.belowB hb2.out (show w1.heap.size ≤ bs by omega));have hsE := hide hs3.src;replace hs3 := hide hs3
       (try go_wp2_with fail)
       have hOa := hide (hO3.out.alloc (.cells #[.int .i64 f, .int .i64 l, .int .i64 t] 84));have hXa := hide (hX3.out.below ((Below.refl wp3.heap.size wp3).alloc zR (.cells #[.int .i64 f, .int .i64 l, .int .i64 t] 84)));have hYa := hide (hY3.out.below ((Below.refl wp3.heap.size wp3).alloc zR (.cells #[.int .i64 f, .int .i64 l, .int .i64 t] 84)));have hba := hide (hb3.out.alloc hb3.out.size (.cells #[.int .i64 f, .int .i64 l, .int .i64 t] 84));have hlit := hide (Sl.lit1' (f := ev) wp3 84 (f, (l : Int), t) #[.int .i64 f, .int .i64 l, .int .i64 t] rfl 3 _ rfl);have hza : w7.heap.size ≤ (wp3.alloc (.cells #[.int .i64 f, .int .i64 l, .int .i64 t] 84)).heap.size := by have h1 := hs1.out.size; have h2 := hs2.out.size; have h3 := hs3.out.size; rw [World.size_alloc]; omega
       have hsza : (m + 1) * 24 ≤ 140737488355328 := by omega
       have hE2 := hide (hE1.out.app (f := f) (l := l) (t := t) (by omega) (by omega) (by omega));refine kP hK (fun _ => ⟨hX3.out.box.c0, hX3.out.box.c2⟩) ?_;clear hK K;refine lS 14 fun K hK => ?_
       go_simp;refine kP hK (fun _ => ⟨hX3.out.box.c0, hX3.out.box.c2⟩) ?_
       clear hK K;refine lS 15 fun K hK => ?_
       go_simp;refine kP hK (fun _ => ⟨hXa.out.box.c0, hXa.out.box.c2⟩) ?_
       clear hK K;refine lS 16 fun K hK => ?_
       refine step_appL (m := 1) (d := 1) (by rfl) (.tmp 35) (.tmp 50) (by rfl) hEe.out flat_ev (by go_simp) hOa.out (by go_simp) hlit.out hsza hza ?_;intro A6 c6 wq hown7 hgr7 hb7 hat7;have hXq := hide (hXa.out.grownX hgr7 (fun q e => (hOa.out.lt q e).1) (by omega) (by omega));have hYq := hide (hYa.out.grownX hgr7 (fun q e => (hOa.out.lt q e).1) (by omega) (by omega));have hbq := hide (hba.out.grown hgr7 hba.out.size (fun q e => by have := (hOa.out.lt q e).1; omega));have hzq := hgr7.size;replace hown7 := hide hown7;clear hgr7 hb7 hat7;refine kP hK (fun _ => ⟨hXq.out.box.c0, hXq.out.box.c2⟩) ?_;clear hK K;refine lS 17 fun K hK => ?_
       go_simp;refine kP hK nH ?_
       clear hK K;refine lateT_done (by kernel_rfl) ?_ _;have cq0 := hXq.out.box.c0;have cq1 := hXq.out.box.c1;have cq2 := hXq.out.box.c2;have hlq := hown7.out.len;have q9 := hide (l11Make_calls (Na : Int) (ia : Int) A n c la A6 (m + 1) c6 _ wq (hXq.out.ss.more (Nat.zero_le _) hXq.out.top) ((hown7.out.sl flat_ev).more (Nat.zero_le _) zR) (fun e he => (hE2.out e he).2.1) (by omega) (by omega));go_wp2_with fail;refine q9.out.mono ?_;rintro e w8 ⟨A8, n8, c8, B8, m8, d8, e8, rfl, hA8, hB8, hM8, hb8⟩;have hX9 := hide (hXq.out.below hb8);have hY9 := hide (hYq.out.below hb8);have hb9 := hide (hbq.out.trans (hb8.mono hbq.out.size));have hlA := hA8.len;have hlB := hB8.len;have hlj := joi_len la;have hml := hM8.2.1;have hn8 := hide (namD_joi hnmA.out);have hv8 : Hid (ltsV ((Na : Int), (ia : Int), joiF la, e8) = true) := made_valid (by omega) (by omega) (namD_labs hnmA.out) (by omega) (by omega) (fun e he => ⟨(hE2.out e he).1, (hE2.out e he).2.2⟩) hM8;rw [List.length_append, List.length_singleton] at hml;have hzq2 := hYq.out.top;replace hA8 := hide hA8;replace hB8 := hide hB8;clear q9 hb8 hM8 cq0 cq1 cq2;have hB0 := hY9.out.box;have y0 := hB0.c0;have y1 := hB0.c1;have y2 := hB0.c2;have y3 := hB0.c3;have z0 := hB0.f0;have z1 := hB0.f1;have z2 := hB0.f2;have z3 := hB0.f3;clear hB0;go_wp2_with fail;go_meet;exact ⟨_, _, _, _, _, _, _, _, _, _, hide (hY9.out.newX hA8.out hB8.out hv8.out (by omega) (by omega) (by omega) hn8.out (by omega)), hide (hX9.out.putX (by omega) (by omega) _ _ _ _), hide (put4_below hb9.out (by omega) _ _ _ _)⟩
      ·have g4 : ((x : Int) == 4) = false := by rw [beq_eq_false_iff_ne]; omega
       clear hXs hAs hBs;go_wp2_with fail;go_meet;exact ⟨_, _, _, _, _, _, _, _, _, _, hY7.out.wide zR hY7.out.top zR, hX7.out, hb17.out⟩
 case rest =>
  obtain ⟨Nb2, ib2, A2, n2, c2, B2, m2, d2, lb2, eb2, hY, hX, hb⟩ := hcut;have rA := hrA.out.below hb.out (by omega);have rB := hrB.out.below hb.out (by omega);have r0 := rA.c0;have r1 := rA.c1;have r2 := rA.c2;have r3 := rA.c3;have f0 := rA.f0;have f1 := rA.f1;have f2 := rA.f2;have f3 := rA.f3;have s0 := rB.c0;have s1 := rB.c1;have s2 := rB.c2;have s3 := rB.c3;have g0 := rB.f0;have g1 := rB.f1;have g2 := rB.f2;have g3 := rB.f3;have a0 := hX.out.box.c0;have a1 := hX.out.box.c1;have a2 := hX.out.box.c2;have a3 := hX.out.box.c3;have b0 := hY.out.box.c0;have b1 := hY.out.box.c1;have b2 := hY.out.box.c2;have b3 := hY.out.box.c3;go_upto_region 16 with fail
  go_region
  go_wp2_with fail
  (try simp only [Exit.inBlock, Exit.then])
  refine bodyPost_ret_by (v := .tuple #[.agg #[.int .i64 (Na : Int), .int .i64 (ia : Int), .slice A n c, .slice B m d], .agg #[.int .i64 (Nb2 : Int), .int .i64 (ib2 : Int), .slice A2 n2 c2, .slice B2 m2 d2]]) ?_ rfl ?_
  focus
   rw [results_cell2 rfl];go_simp
  obtain ⟨wZ, hwZ⟩ : ∃ wZ, wZ = put4 (put4 wc w.heap.size (.int .i64 (Na : Int)) (.int .i64 (ia : Int)) (.slice A n c) (.slice B m d)) (w.heap.size + 1) (.int .i64 (Nb2 : Int)) (.int .i64 (ib2 : Int)) (.slice A2 n2 c2) (.slice B2 m2 d2) := ⟨_, rfl⟩;have hXZ := (hX.out.putL (b := w.heap.size) (by omega) (by omega) (.int .i64 (Na : Int)) (.int .i64 (ia : Int)) (.slice A n c) (.slice B m d)).putL (b := w.heap.size + 1) (by omega) (by omega) (.int .i64 (Nb2 : Int)) (.int .i64 (ib2 : Int)) (.slice A2 n2 c2) (.slice B2 m2 d2);have hYZ := (hY.out.putL (b := w.heap.size) (by omega) (by omega) (.int .i64 (Na : Int)) (.int .i64 (ia : Int)) (.slice A n c) (.slice B m d)).putL (b := w.heap.size + 1) (by omega) (by omega) (.int .i64 (Nb2 : Int)) (.int .i64 (ib2 : Int)) (.slice A2 n2 c2) (.slice B2 m2 d2);have hbZ : Below w.heap.size w wZ := by
   rw [hwZ];exact put4_below (put4_below (hb01.out.trans (hb.out.mono (by omega))) zR _ _ _ _) (by omega) _ _ _ _
  rw [← hwZ] at hXZ hYZ
  change TwoD w _ ((put4 (put4 wc w.heap.size (.int .i64 (Na : Int)) (.int .i64 (ia : Int)) (.slice A n c) (.slice B m d)) (w.heap.size + 1) (.int .i64 (Nb2 : Int)) (.int .i64 (ib2 : Int)) (.slice A2 n2 c2) (.slice B2 m2 d2)).drew)
  rw [← hwZ];have hD : Below wZ.heap.size wZ wZ.drew := bR.drew;exact ⟨Na, ia, A, n, c, B, m, d, la, ea, Nb2, ib2, A2, n2, c2, B2, m2, d2, lb2, eb2, rfl, (hXZ.below hD).sys (by omega), (hYZ.below hD).sys (by omega), hX.out.h1, hX.out.h2, hX.out.h3, hX.out.nam, hY.out.h1, hY.out.h2, hY.out.h3, hY.out.nam, hbZ.trans (hD.mono hbZ.size)⟩
end Go.Proofs.YtnhomkmfbngmgaaGreatDoor
namespace Go.Proofs.YtnhomkmfbngmgaaGreatDoor
open Go.ChangeShapes Go.WideShapes Go.Deep Go.RowKit
theorem u8_wf {n : Int} (h : (Lit.int .u8 n).wf = true) : 0 ≤ n ∧ n ≤ 255 := by
 simp [Lit.wf, IntKind.min, IntKind.max, IntKind.signed, IntKind.bits] at h
 omega
section
variable {H : Type} {enc : TypeId × Value → H} {P : Program} {w : World} {base : Nat} {spare : Nat → Bool} {held : Bool}
theorem open_SlU {t e : TypeId} (ht : P.underlying t = some (.slice e)) (hC : P.cellsOf e = 1) (hi : P.underlying e = some (.int .u8)) {v : Value} {d : DataW H} {p : List MemPlace} (h : DataW.Trod enc P w base spare held t v d p)
  {n' c' : Nat} {A' : Option Addr} (hv : v = .slice A' n' c') (hz : ∀ b off, MemPlace.cell b off ∈ p → w.frozen? ⟨b, off, none⟩ = false) : ∃ A n c l, v = .slice A n c ∧ n ≤ maxLen ∧ SlU w base w.heap.size A n l ∧ ∀ x, x ∈ l → 0 ≤ x ∧ x ≤ 255 := by
 obtain ⟨fuel, hf⟩ := h;have key := open_flat (w := w) (base := base) (spare := spare) (held := held) (fun x : {n : Int // 0 ≤ n ∧ n ≤ 255} => byv x.1) ht hC (by omega) (fun fuel cs y hy hl => by
  obtain ⟨a, ea, _, hw⟩ := DataW.trod_int hi hy;exact ⟨⟨a, u8_wf hw⟩, ea⟩) hf hz
 obtain ⟨A, n, c, l, e1, e2, e3⟩ := key;subst hv
 simp [Value.cells] at e1
 refine ⟨A, n, c, l.map Subtype.val, by simp [e1], e2, ⟨by rw [List.length_map]; exact e3.1, fun hn => ?_⟩, fun x hx => ?_⟩
 ·obtain ⟨b, off, q1, q2, q3, q4, q5⟩ := e3.2 hn
  refine ⟨b, off, q1, q2, q3, q4, fun k x hx j u hu => ?_⟩;rw [List.getElem?_map] at hx
  cases hk : l[k]? with
  | none => rw [hk] at hx; cases hx
  | some y =>
   rw [hk] at hx
   cases hx
   exact q5 k y hk j u hu
 ·obtain ⟨y, -, rfl⟩ := List.mem_map.1 hx
  exact y.2
end
end Go.Proofs.YtnhomkmfbngmgaaGreatDoor
namespace Go.Proofs.YtnhomkmfbngmgaaGreatDoor.lawFnDivergence
open Go.ChangeShapes Go.WideShapes Go.ChangeAt Go.RowKit
set_option linter.unusedVariables false
set_option linter.unusedSimpArgs false
theorem walk (A0 B0 : Option Addr) (n0 m0 c0 d0 : Nat) (code more : List Int) (w : World) (he : Env w) (h1 : SlU w 0 w.heap.size A0 n0 code) (r1 : ∀ x, x ∈ code → 0 ≤ x ∧ x ≤ 255) (hn : n0 ≤ maxLen) (h2 : SlU w 0 w.heap.size B0 m0 more) (r2 : ∀ x, x ∈ more → 0 ≤ x ∧ x ≤ 255) (hm : m0 ≤ maxLen) :
  Calls Tryz.prog 9 #[.slice A0 n0 c0, .slice B0 m0 d0] w fun e w' => e = .returned (.bool true) ∧ Below w.heap.size w w' := by
 by_cases big : 1048576 < n0 ∨ 1048576 < m0
 ·have q := hide (fun W => r8Long_yes A0 B0 n0 m0 c0 d0 W big)
  go_enter Tryz.func9, Tryz.ntmps9;go_wp2_with (first | (go_at_call 10; (with_reducible refine (q.out _).mono ?_); rintro e w' ⟨rfl, rfl⟩));go_ret;exact ⟨rfl, bR⟩
 have q0 := hide (fun W => r8Long_no A0 B0 n0 m0 c0 d0 W (by omega) (by omega));have q1 := hide (R8Two_calls A0 n0 c0 code w h1 r1 hn);replace he := hide he;clear h1 h2;go_enter Tryz.func9, Tryz.ntmps9;go_upto_region 3 with (first | (go_at_call 10; (with_reducible refine (q0.out _).mono ?_); rintro e w' ⟨rfl, rfl⟩));clear q0;go_wp2_with fail;refine q1.out.mono ?_;rintro e w1 ⟨Na, ia, A, n, c, B, m, d, la, ea, Nb, ib, A', n', c', B', m', d', lb, eb, rfl, hsA, hsB, hNa7, hm64, hn7, hnA, hNb9, hm200, hn9, hnB, hb1⟩;have hT := TwoS.start w1 Na ia A n c B m d Nb ib A' n' c' B' m' d';obtain ⟨w2, hw2⟩ : ∃ w2, w2 = (w1.alloc (ltsC Na ia A n c B m d)).alloc (ltsC Nb ib A' n' c' B' m' d') := ⟨_, rfl⟩;rw [← hw2] at hT;have he2 := hide ((he.out.below hb1 zR).below hT.bel zR);have hA2 := hsA.below hT.bel zR;have hB2 := hsB.below hT.bel zR;obtain ⟨⟨hNa1, -⟩, hia⟩ := hsA.bounds;obtain ⟨⟨hNb1, -⟩, hib⟩ := hsB.bounds;have hmA := hsA.many;have hmB := hsB.many;have htA := hsA.three;have htB := hsB.three;have huv := uni_valid (ia := ia) hnA hnB (by omega) (by omega) htA htB hia (show Na + Nb ≤ 40 by omega) (show ea.length + eb.length ≤ 300 by omega);have heA := hide hsA.edges;have heB := hide hsB.edges;have hnmA := hide (ltsV_names hsA.ok).1;have hnmB := hide (ltsV_names hsB.ok).1;have hbl := hide (hb1.trans (hT.bel.mono hb1.size));have q4 := hide (areBisV_calls hA2 hB2 c d c' d' he2.out (by omega));replace hT := hide hT;replace hA2 := hide hA2;replace hB2 := hide hB2;replace hnA := hide hnA;replace hnB := hide hnB;replace huv := hide huv;replace htA := hide htA;replace htB := hide htB;clear q1 hsA hsB hb1;obtain ⟨a0, a1, a2, a3, b0, b1, b2, b3⟩ := hT.out.cells;go_upto_region 4 with fail;rw [← show w2 = (w1.alloc (.cells #[.int .i64 (Na : Int), .int .i64 (ia : Int), .slice A n c, .slice B m d] 27)).alloc (.cells #[.int .i64 (Nb : Int), .int .i64 (ib : Int), .slice A' n' c', .slice B' m' d'] 27) from hw2];replace hw2 := hide hw2;go_wp2_with fail;refine q4.out.mono ?_;rintro e w3 ⟨k1, st, rfl, hL1, hv1, hb3⟩;have hT3 := hide (hT.out.below hb3 zR);have he3 := hide (he2.out.below hb3 zR);have hA3 := hide (hA2.out.below hb3 zR);have hB3 := hide (hB2.out.below hb3 zR);have hbl3 := hide (hbl.out.trans (hb3.mono hbl.out.size));have q5 := hide (areBrV_calls hA3.out hB3.out c d c' d' he3.out (by omega) true huv.out.1 huv.out.2);replace hL1 := hide hL1;replace hv1 := hide hv1;clear q4 hb3 a0 a1 a2 a3 b0 b1 b2 b3;obtain ⟨a0, a1, a2, a3, b0, b1, b2, b3⟩ := hT3.out.cells;go_upto_region 5 with fail;go_wp2_with fail;refine q5.out.mono ?_;rintro e w4 ⟨k2, wi, rfl, hL2, hv2, hb4⟩;have hT4 := hide (hT3.out.below hb4 zR);have he4 := hide (he3.out.below hb4 zR);have hA4 := hide (hA3.out.below hb4 zR);have hB4 := hide (hB3.out.below hb4 zR);have hbl4 := hide (hbl3.out.trans (hb4.mono hbl3.out.size));have q6 := hide (areBrV_calls hA4.out hB4.out c d c' d' he4.out (by omega) false huv.out.1 huv.out.2);replace hL2 := hide hL2;replace hv2 := hide hv2
 clear q5 hb4 a0 a1 a2 a3 b0 b1 b2 b3;obtain ⟨a0, a1, a2, a3, b0, b1, b2, b3⟩ := hT4.out.cells;go_upto_region 6 with fail;go_wp2_with fail;refine q6.out.mono ?_;rintro e w5 ⟨k3, wo, rfl, hL3, hv3, hb5⟩;have hT5 := hide (hT4.out.below hb5 zR);have he5 := hide (he4.out.below hb5 zR);have hA5 := hide (hA4.out.below hb5 zR);have hB5 := hide (hB4.out.below hb5 zR);have hbl5 := hide (hbl4.out.trans (hb5.mono hbl4.out.size));have q7 := hide (areRooted_calls hA5.out hB5.out c d c' d' he5.out (by omega) huv.out.1 huv.out.2);replace hL3 := hide hL3;replace hv3 := hide hv3;clear q6 hb5 a0 a1 a2 a3 b0 b1 b2 b3;obtain ⟨a0, a1, a2, a3, b0, b1, b2, b3⟩ := hT5.out.cells;go_upto_region 7 with fail;go_wp2_with fail;refine q7.out.mono ?_;rintro e w6 ⟨k4, ro, rfl, hL4, hv4, hb6⟩;have hT6 := hide (hT5.out.below hb6 zR);have he6 := hide (he5.out.below hb6 zR);have hA6 := hide (hA5.out.below hb6 zR);have hB6 := hide (hB5.out.below hb6 zR);have hbl6 := hide (hbl5.out.trans (hb6.mono hbl5.out.size));have h4b := hide (fourB (by omega) (by omega) htA.out htB.out hia hib hL1.out hv1.out hL2.out hv2.out hL3.out hv3.out hL4 hv4);have q8 := hide (divergentStates_calls hA6.out c d he6.out);clear q7 hb6 hL4 hv4 a0 a1 a2 a3 b0 b1 b2 b3;go_upto_region 10 with fail
 go_cut [96] (fun v96 wx => v96 = .bool false ∧ wx = w6)
 case first =>
  rcases h4b.out.six with ⟨rfl, rfl, rfl, rfl⟩ | ⟨rfl, rfl, rfl, rfl⟩ | ⟨rfl, rfl, rfl, rfl⟩ | ⟨rfl, rfl, rfl, rfl⟩ | ⟨rfl, rfl, rfl, rfl⟩ | ⟨rfl, rfl, rfl, rfl⟩
  all_goals (go_wp2_with fail; go_meet)
  all_goals exact ⟨rfl, rfl⟩
 case rest =>
  obtain ⟨rfl, hwc⟩ := hcut;obtain rfl : w6 = wc := hwc.symm;replace hwc := hide hwc;obtain ⟨a0, a1, a2, a3, b0, b1, b2, b3⟩ := hT6.out.cells;go_upto_region 12 with fail;go_wp2_with fail;refine q8.out.mono ?_;rintro e w7 ⟨PA, cA, rfl, hPA, hA40, hb7⟩;obtain ⟨lA, hlA⟩ : ∃ l, l = idxOf (dvgL ea Na) := ⟨_, rfl⟩;rw [← hlA] at hPA hA40 ⊢;have hT7 := hide (hT6.out.below hb7 zR);have he7 := hide (he6.out.below hb7 zR);have hA7 := hide (hA6.out.below hb7 zR);have hB7 := hide (hB6.out.below hb7 zR);have hbl7 := hide (hbl6.out.trans (hb7.mono hbl6.out.size));have hPA7 := hide hPA.here';have q9 := hide (divergentStates_calls hB7.out c' d' he7.out);replace hlA := hide hlA;clear q8 hb7 hPA a0 a1 a2 a3 b0 b1 b2 b3;obtain ⟨a0, a1, a2, a3, b0, b1, b2, b3⟩ := hT7.out.cells;go_upto_region 13 with fail;go_wp2_with fail;refine q9.out.mono ?_;rintro e w8 ⟨PB, cB, rfl, hPB, hB40, hb8⟩;obtain ⟨lB, hlB⟩ : ∃ l, l = idxOf (dvgL eb Nb) := ⟨_, rfl⟩;rw [← hlB] at hPB hB40 ⊢;have hT8 := hide (hT7.out.below hb8 zR);have he8 := hide (he7.out.below hb8 zR);have hA8 := hide (hA7.out.below hb8 zR);have hbl8 := hide (hbl7.out.trans (hb8.mono hbl7.out.size));have hPA8 := hide (hPA7.out.below hb8 (.inr zR)).here';have hPB8 := hide hPB.here';have qm := hide (minimalBranching_calls hA8.out c d he8.out true (by omega));replace hlB := hide hlB;clear q9 hb8 hPB a0 a1 a2 a3 b0 b1 b2 b3;obtain ⟨a0, a1, a2, a3, b0, b1, b2, b3⟩ := hT8.out.cells;go_upto_region 14 with fail;go_wp2_with fail;refine qm.out.mono ?_;rintro e w9 ⟨r3, cM, iR, A4, c4, A5, n5, d5, rfl, hMB⟩;have hsM := hMB.sys;have hb9 := hMB.bel;have hNM : numB (mbP Na ia r3 true ea) ≤ 7 := by
   have := hMB.few;omega
  have hthM := hsM.three;have hmnM := hsM.many;have hlenM : (mbE Na ia r3 true ea).length ≤ 64 + 7 := by
   have h1 := quoB_len (es := partF (reachF Na ea (ia : Int)) ea) (N := (reachF Na ea (ia : Int)).length) (dv := true) (p := mbP Na ia r3 true ea);have h2 := partF_len (S := reachF Na ea (ia : Int)) (es := ea);have h3 := reach_len (N := Na) (es := ea) (ini := (ia : Int));unfold mbE;omega
  obtain ⟨NM, hNMe⟩ : ∃ NM, NM = numB (mbP Na ia r3 true ea) := ⟨_, rfl⟩;rw [← hNMe] at hsM hNM hthM;have hBM := hsM.box (c := c4) (d := d5);obtain ⟨w10, hw10⟩ : ∃ w10, w10 = w9.alloc (ltsC NM cM A4 n c4 A5 n5 d5) := ⟨_, rfl⟩;rw [← hw10] at hBM;have hT10 := hide ((hT8.out.below hb9 zR).below hBM.bel zR);have hb9z := hb9.size;have he10 := hide ((he8.out.below hb9 zR).below hBM.bel zR);have hA10 := hide ((hA8.out.below hb9 zR).below hBM.bel zR);have hb810 := hb9.trans (hBM.bel.mono hb9z);have hbl10 := hide (hbl8.out.trans (hb810.mono hbl8.out.size));have hPA10 := hide (hPA8.out.below hb810 (.inr zR)).here';have hPB10 := hide (hPB8.out.below hb810 (.inr zR)).here';have huvM := uni_valid (ia := ia) hnA.out hnA.out (by omega) (by omega) htA.out hthM hia (show Na + NM ≤ 40 by omega) (show ea.length + (mbE Na ia r3 true ea).length ≤ 300 by omega);have q15 := hide (areBrV_calls hA10.out hBM.sys c d c4 d5 he10.out (by omega) true huvM.1 huvM.2);obtain ⟨bM, hbM⟩ : ∃ bM, bM = w9.heap.size := ⟨_, rfl⟩;have hMx := hide (fun (wx : World) (hbx : Below w10.heap.size w10 wx) => (show LtsBox wx bM (NM : Int) (cM : Int) A4 n c4 A5 n5 d5 by rw [hbM]; exact (hBM.below hbx).box));have hMs := hide (fun (wx : World) (hbx : Below w10.heap.size w10 wx) => hBM.sys.below hbx zR);have hcM := hsM.bounds;have hNMh := hide hNMe;have hedM := hide hsM.edges;replace hMB := hide hMB;replace hthM := hide hthM;clear qm hb9 hb810 hsM hBM huvM hA8 a0 a1 a2 a3 b0 b1 b2 b3;obtain ⟨a0, a1, a2, a3, b0, b1, b2, b3⟩ := hT10.out.cells;have m0' := (hMx.out w10 bR).c0;have m1' := (hMx.out w10 bR).c1;have m2' := (hMx.out w10 bR).c2;have m3' := (hMx.out w10 bR).c3;go_upto_region 15 with fail;rw [← hNMe];clear hNMe;rw [← show w10 = w9.alloc (.cells #[.int .i64 (NM : Int), .int .i64 (cM : Int), .slice A4 n c4, .slice A5 n5 d5] 27) from hw10, ← hbM];replace hw10 := hide hw10;replace hbM := hide hbM;go_wp2_with fail;refine q15.out.mono ?_;rintro e w11 ⟨k5, sa, rfl, hL5, hv5, hb11⟩;have hsame : sameB (itP (refB (uniE la ea la (mbE Na ia r3 true ea) Na) (Na + NM) true) (Na + NM) k5) ia (Na + cM) := by
   rw [hNMh.out];have heR := part_in heA.out (reach_nodup (N := Na) (es := ea) (ini := (ia : Int)));exact minB_alike (by omega) (labs_nodup hnmA.out) (labs_zero hnmA.out) htA.out heA.out rfl hMB.out.at0 hMB.out.last (quoB_is heR (itP_part (refB_ref heR) r3)) hMB.out.lab hMB.out.blk k5
  obtain rfl : sa = true := hv5.2 hsame;have hdM := hide (alike_dvg (by omega) (by omega) htA.out hthM.out heA.out hedM.out (labs_nodup hnmA.out) (labs_nodup hnmA.out) (labs_zero hnmA.out) (labs_zero hnmA.out) hL5 hia hsame);have hT11 := hide (hT10.out.below hb11 zR);have he11 := hide (he10.out.below hb11 zR);have hM11 := hide (hMs.out w11 hb11);have hbl11 := hide (hbl10.out.trans (hb11.mono hbl10.out.size));have hPA11 := hide (hPA10.out.below hb11 (.inr zR)).here';have hPB11 := hide (hPB10.out.below hb11 (.inr zR)).here';have q16 := hide (divergentStates_calls hM11.out c4 d5 he11.out);have hb1011 := hide hb11;clear q15 hb11 hL5 hv5 hsame a0 a1 a2 a3 b0 b1 b2 b3 m0' m1' m2' m3';obtain ⟨a0, a1, a2, a3, b0, b1, b2, b3⟩ := hT11.out.cells;have m0' := (hMx.out w11 hb1011.out).c0;have m1' := (hMx.out w11 hb1011.out).c1;have m2' := (hMx.out w11 hb1011.out).c2;have m3' := (hMx.out w11 hb1011.out).c3;go_upto_region 16 with fail;go_wp2_with fail;refine q16.out.mono ?_;rintro e w12 ⟨PM, cN, rfl, hPM, hM40, hb12⟩;obtain ⟨lM, hlM⟩ : ∃ l, l = idxOf (dvgL (mbE Na ia r3 true ea) NM) := ⟨_, rfl⟩;rw [← hlM] at hPM hM40 ⊢;have hT12 := hide (hT11.out.below hb12 zR);have hbl12 := hide (hbl11.out.trans (hb12.mono hbl11.out.size));have hPA12 := hide (hPA11.out.below hb12 (.inr zR)).here';have hPB12 := hide (hPB11.out.below hb12 (.inr zR)).here';have hb1012 := hide (hb1011.out.trans (hb12.mono hb1011.out.size));have hxA : (ia : Int) ∈ lA ↔ Dvg (tauE ea) ia := by
   rw [hlA.out];exact idx_dvg hia
  have hxB : (ib : Int) ∈ lB ↔ Dvg (tauE eb) ib := by
   rw [hlB.out];exact idx_dvg hib
  have hxM : (cM : Int) ∈ lM ↔ Dvg (tauE (mbE Na ia r3 true ea)) cM := by
   rw [hlM];exact idx_dvg hcM.2
  obtain ⟨vA, hvA⟩ : ∃ v, v = decide ((ia : Int) ∈ lA) := ⟨_, rfl⟩;have hqA : decide ((cM : Int) ∈ lM) = vA := by rw [hvA]; exact decide_eq_decide.2 (hxM.trans (hdM.out.symm.trans hxA.symm))
  have hqB : wi = true → decide ((ib : Int) ∈ lB) = vA := fun h => by
   rw [hvA];exact decide_eq_decide.2 (hxB.trans ((alike_dvg (by omega) (by omega) htA.out htB.out heA.out heB.out (labs_nodup hnmA.out) (labs_nodup hnmB.out) (labs_zero hnmA.out) (labs_zero hnmB.out) hL2.out hia (hv2.out.1 h)).symm.trans hxA.symm))
  have qhA := hide (fun k => (show Calls Tryz.prog 47 #[.slice PA lA.length cA, .int .i64 (ia : Int)] (w12.drewN k) fun e w' => e = .returned (.bool vA) ∧ w12.drewN k = w' from (r8Has_calls (ia : Int) PA lA.length cA lA (w12.drewN k) _ _ (hPA12.out.drewN k) (by omega)).mono (by
   rintro e w' ⟨rfl, rfl⟩;exact ⟨by rw [hvA], rfl⟩)))
  have qhM := hide (fun k => (show Calls Tryz.prog 47 #[.slice PM lM.length cN, .int .i64 (cM : Int)] (w12.drewN k) fun e w' => e = .returned (.bool vA) ∧ w12.drewN k = w' from (r8Has_calls (cM : Int) PM lM.length cN lM (w12.drewN k) _ _ (hPM.drewN k) (by omega)).mono (by
   rintro e w' ⟨rfl, rfl⟩;exact ⟨by rw [hqA], rfl⟩)))
  have qhB := hide (fun (h : wi = true) k => (show Calls Tryz.prog 47 #[.slice PB lB.length cB, .int .i64 (ib : Int)] (w12.drewN k) fun e w' => e = .returned (.bool vA) ∧ w12.drewN k = w' from (r8Has_calls (ib : Int) PB lB.length cB lB (w12.drewN k) _ _ (hPB12.out.drewN k) (by omega)).mono (by
   rintro e w' ⟨rfl, rfl⟩;exact ⟨by rw [hqB h], rfl⟩)))
  have g1 : (vA != vA) = false := by cases vA <;> rfl
  have g2 : (vA == vA) = true := by cases vA <;> rfl
  replace hvA := hide hvA;clear q16 hb12 hPM hxA hxB hxM hqA hqB hlM a0 a1 a2 a3 b0 b1 b2 b3 m0' m1' m2' m3';obtain ⟨a0, a1, a2, a3, b0, b1, b2, b3⟩ := hT12.out.cells;have m1' := (hMx.out w12 hb1012.out).c1;go_upto_region 17 with fail;go_quiet (first | (go_at_call 47; with_reducible exact same_quiet (qhA.out _)) | (go_at_call 47; with_reducible exact same_quiet (qhM.out _)))
  cases hwi : wi with
  | false =>
   clear hwi qhB;go_upto_region 19 with fail;go_quiet (fail);go_wp2_with fail;go_ret;exact ⟨rfl, hbl12.out.trans (Below.mono (by rw [World.drewN_drewN]; exact below_drewN _ _) hbl12.out.size)⟩
  | true =>
   have qhB2 := hide (qhB.out hwi);clear hwi qhB;go_upto_region 19 with fail;go_quiet (first | (go_at_call 47; with_reducible exact same_quiet2 (qhA.out _)) | (go_at_call 47; with_reducible exact same_quiet2 (qhB2.out _)));go_wp2_with fail;go_ret;exact ⟨rfl, hbl12.out.trans (Below.mono (by rw [World.drewN_drewN]; exact below_drewN _ _) hbl12.out.size)⟩
end Go.Proofs.YtnhomkmfbngmgaaGreatDoor.lawFnDivergence
namespace Go.Proofs.YtnhomkmfbngmgaaGreatDoor
open Go.ChangeShapes Go.WideShapes Go.ChangeAt Go.RowKit Go.Deep
abbrev DM := DL × List Int
instance decDM : DecidableEq DM := inferInstanceAs (DecidableEq (DL × List Int))
section
variable {w w' : World} {lo hi lo' hi' B : Nat} {v : Value} {d : DM}
end
abbrev laidL : List (String × DataW Unit) := Rows.fnLtsRow.laid
theorem pow_data : (Rows.laid_internal_strconv_uint64pow10 : DataW Unit) = Lib.tabData .u64 Lib.pow10Tab := by kernel_rfl
theorem good_of {W : World} (h : laidMet Tryz.prog laidL W) (hS : W.ShapedOpen Tryz.prog) : Good W := by
 have h3 : laidMet Tryz.prog (("internal/strconv.uint64pow10", Lib.tabData .u64 Lib.pow10Tab) :: [("unicode/utf8.acceptRanges", Rows.laid_unicode_utf8_acceptRanges), ("strconv.ErrRange", Rows.laid_strconv_ErrRange), ("strconv.ErrSyntax", Rows.laid_strconv_ErrSyntax), ("unicode/utf8.first", Rows.laid_unicode_utf8_first)]) W := by
  rw [← pow_data];exact h.tail.tail
 have h6 : laidMet Tryz.prog (("strconv.ErrSyntax", Rows.laid_strconv_ErrSyntax) :: [("unicode/utf8.first", Rows.laid_unicode_utf8_first)]) W := h3.tail.tail.tail;refine ⟨hS, Lib.tabIs_of_head (g := 1) (t := 324) (e := 137) (n := 20) (by kernel_rfl) (by kernel_rfl) Tryz.underlying324 Tryz.underlying137 (by kernel_rfl) (by kernel_rfl) h3, ?_⟩;obtain ⟨ps, ⟨g0, t0, cs0, f0, p0, q0, hg0, ht0, hv0, hd0, _, e0⟩, _, hrows⟩ := h6;have hg : Tryz.prog.globalNamed "strconv.ErrSyntax" = some 4 := by kernel_rfl
 have ht : (Tryz.prog.globals[4]?).map (·.type) = some 224 := by kernel_rfl
 obtain rfl := Option.some.inj (hg.symm.trans hg0);obtain rfl := Option.some.inj (ht.symm.trans ht0);obtain ⟨l0⟩ := cs0;obtain ⟨_, u, v, e1, _, _⟩ := iface_of_trod Tryz.underlying224 hd0;have e2 : l0 = [.iface u v] := e1;subst e2;exact ⟨u, v, hv0⟩
section
variable {H : Type} {enc : TypeId × Value → H} {P : Program} {w : World} {base : Nat} {spare : Nat → Bool} {held : Bool}
end
end Go.Proofs.YtnhomkmfbngmgaaGreatDoor
namespace Go.Proofs.YtnhomkmfbngmgaaGreatDoor
open Go.ChangeShapes Go.WideShapes Go.ChangeAt Go.RowKit
theorem fact_laid : laidOutB Tryz.pinned.checked.prog = true := by kernel_rfl
theorem fact_maps : mapsRowed Tryz.pinned.checked.prog = true := by kernel_rfl
theorem fact_heard : Tryz.pinned.checked.prog.stopsHeard = true := by kernel_rfl
theorem fact_enter : Tryz.pinned.checked.prog.mayEnter = true := by kernel_rfl
theorem fact_lifts : Tryz.pinned.checked.prog.liftsFinal = Rows.fnLtsRow.lifted := by kernel_rfl
theorem fact_make : Tryz.pinned.checked.prog.make = some Rows.fnLtsRow.make := by kernel_rfl
theorem fact_main : Tryz.pinned.checked.prog.mainIs = some (true, "908aadf79a3911da7d4960582ae04b5fb7cbc5fbb004ba15854af102615e9df1".toList) := by kernel_rfl
theorem fact_looks : true = Tryz.pinned.checked.prog.looks [] := by kernel_rfl
theorem plain_laid : (laidL.filter fun x => x.2.handleName?.isSome) = [] := by kernel_rfl
theorem pre_laid {H : Type} {enc : TypeId × Value → H} {P : Program} {f : Func} {s : OpenSpec} {c : OpenClaim} (hl : c.laid = laidL) :
  c.pre enc P f s = fun w args => (s.pre enc P f c.domain c.apart w args ∧ laidMet P laidL w) ∧ sizedMet enc P f s c.apart w args := by
 obtain ⟨x, r, e⟩ : ∃ x r, laidL = x :: r := ⟨_, _, rfl⟩;have hp := plain_laid
 funext w args
 unfold OpenClaim.pre OpenClaim.preLaid;rw [hl];rw [e] at hp ⊢
 show ((_ ∧ laidMetH P (x :: r) w) ∧ _) = _
 unfold laidMetH;rw [hp]
end Go.Proofs.YtnhomkmfbngmgaaGreatDoor
