/-
  Lemmas that the law of this claim leans on. Conditions: sizes.
-/
import Derived.Test.YtnhomkmfbngmgaaGreatDoorBaseA
import Derived.Test.YtnhomkmfbngmgaaGreatDoorBaseB
import Derived.Test.YtnhomkmfbngmgaaGreatDoorBaseC
import Derived.Test.YtnhomkmfbngmgaaGreatDoorBaseD
import Derived.Test.YtnhomkmfbngmgaaGreatDoorBaseE
import Derived.Test.YtnhomkmfbngmgaaGreatDoorBaseF
import Derived.Deep.RegionLaw
import Derived.Deep.LoopGhost
import Derived.Deep.RegionHeld3
import Derived.LaidMore
import Derived.LaidLaws
import Derived.HandedShaped
import Derived.Stop.LaidErr
import Derived.Lib.LaidTab
import Derived.Maps.OwnSet
import Derived.Maps.Views
import Derived.WideKeyPair
import Derived.DeepKeys4
import Derived.WalkArith
import Derived.Maps.RangeWalk
import Derived.Below
import Derived.Laws.EntriesVeiled
import Derived.Outline
import Derived.WalkSpells
import Derived.Laws.CopyOwn
import Derived.Laws.Bits64b
import Derived.StillTailTactics
import Derived.ArgAppend
set_option maxHeartbeats 3200000
set_option maxRecDepth 100000
set_option linter.unusedSimpArgs false
set_option linter.unusedVariables false
namespace Go.Proofs.YtnhomkmfbngmgaaGreatDoor
open Go.ChangeShapes Go.WideShapes Go.ChangeAt Go.RowKit Go.Sort
theorem cloneT_calls (A : Option Addr) (n c : Nat) (l : List Int) (w : World) (lo hi : Nat) (h : SlI w lo hi A n l) (hn : n ≤ 1048576) :
  Calls Tryz.prog 194 #[.slice A n c] w fun e w' => ∃ A' c', e = .returned (.slice A' n c') ∧ Own 1 iv w' w.heap.size 2 A' n c' l ∧ Below w.heap.size w w' := by
 have hnil : ∀ (W : World) (a : Option Addr) (m d : Nat), (binOp .eql 32 (.slice a m d) (.slice none 0 0)).run Tryz.prog W = .ok (.bool a.isNone) W := fun W a m d => Lib.run_eql_slice_nil W 32 _ a m d 0 0 Tryz.underlying32
 have hE := hide elem_int
 cases A with
 | none =>
  have hn0 : n = 0 := by
   rcases Nat.eq_zero_or_pos n with h0 | h0
   ·exact h0
   ·obtain ⟨b, off, e, _⟩ := h.at_ h0
    cases e
  subst hn0;have hl := List.eq_nil_of_length_eq_zero h.len;subst hl;go_enter Tryz.func194, Tryz.ntmps194;go_wp2_with fail;go_ret;exact ⟨none, 0, rfl, Own.nil_ _ _ _, bR⟩
 | some a =>
  have hs := hide (h.below ((Below.refl w.heap.size w).alloc zR (.cells #[] 2)) (.inr zR));have hz : w.heap.size ≤ (w.alloc (.cells #[] 2)).heap.size := by simp
  clear h;go_enter Tryz.func194, Tryz.ntmps194;go_wp2_with (first | (at_builtin; (with_reducible refine wpList_app rfl (.tmp 5) (.tmp 6) rfl hE.out flat_iv rfl (Own.made w 2 zR) rfl hs.out ?c1 hz ?_); rotate_right; intro A2 c2 w2 hown2 hgr2 hb2 _))
  case c1 => omega
  go_ret;rw [Nat.zero_add, List.nil_append] at hown2
  exact ⟨_, _, rfl, hown2, (bR.alloc zR _).trans hb2⟩
theorem Own.toC {α : Type} {size : Nat} {f : α → List Value} {w : World} {base n c : Nat} {e : TypeId} {A : Option Addr} {l : List α} (h : Own size f w base e A n c l) (hb : base ≤ w.heap.size) :
  ∃ BB, base ≤ BB ∧ BB ≤ w.heap.size ∧ Own size f w BB e A n c l ∧ ∀ g, (Value.slice A n c).ownBlock = some g → g = BB := by
 rcases h.2.2 with ⟨hv, hn⟩ | ⟨g, cap, cur, hv, hbg, hg, rest⟩
 ·cases hv
  exact ⟨base, zR, hb, h, fun g hg => by cases hg⟩
 ·cases hv
  have hlt : g < w.heap.size := (Array.getElem?_eq_some_iff.1 hg).1;exact ⟨g, hbg, by omega, ⟨h.1, h.2.1, .inr ⟨g, c, cur, rfl, zR, hg, rest⟩⟩, fun g' hg' => by injection hg' with e; exact e.symm⟩
theorem internalA_calls (s0 s1 : Int) (A2 : Option Addr) (n2 k2 : Nat) (A3 : Option Addr) (n3 k3 : Nat) (A1 : Option Addr) (n1 c1 : Nat) (S : List Int) (ls : List ByteArray) (es : List Ed) (w : World) (lo hi lo1 hi1 : Nat)
  (t2 : SlS w lo hi A2 n2 ls) (t3 : SlE w lo hi A3 n3 es) (t1 : SlI w lo1 hi1 A1 n1 S) (hS : n1 ≤ 1000000) (hes : n3 ≤ 1048576) (hval : ltsV (s0, s1, ls, es) = true) :
  Calls Tryz.prog 264 #[.agg #[.int .i64 s0, .int .i64 s1, .slice A2 n2 k2, .slice A3 n3 k3], .slice A1 n1 c1] w fun e w' => ∃ A n c R, e = .returned (.slice A n c) ∧ SlI w' w.heap.size w'.heap.size A n R ∧ (∀ v, v ∈ R ↔ TauC es ls (· ∈ S) v) ∧ n ≤ n1 + 40 ∧ Below w.heap.size w w' ∧ R.Pairwise (· ≤ ·) := by
 have l1 := t1.len;have he3 : es.length ≤ 300 := by
  have := hval;rw [ltsV_eq] at this;simp only [Bool.and_eq_true] at this;exact of_decide_eq_true this.1.2.2.2
 have hst : s0 ≤ 40 ∧ 1 ≤ s0 := by
  have := hval;rw [ltsV_eq] at this;simp only [Bool.and_eq_true] at this;have h1 := this.1.1;unfold inB at h1;rw [Bool.and_eq_true] at h1;exact ⟨of_decide_eq_true h1.2, of_decide_eq_true h1.1⟩
 obtain ⟨N, rfl⟩ : ∃ N : Nat, s0 = (N : Int) := ⟨s0.toNat, by omega⟩;have hN40 : N ≤ 40 := by omega
 have hto : ∀ e ∈ es, 0 ≤ e.2.2 ∧ e.2.2 < (N : Int) := by
  intro e he;obtain ⟨k, hk, hx⟩ := List.mem_iff_getElem.1 he;have := (edge_of hval (k := k) (f := e.1) (lb := e.2.1) (tg := e.2.2) (List.getElem?_eq_some_iff.2 ⟨hk, hx⟩)).2.1;omega
 have hlts := hide hval;have l3 := hide t3.len;have hW0 := hide (show Below w.heap.size w (w.alloc (.cells #[.int .i64 (N : Int), .int .i64 s1, .slice A2 n2 k2, .slice A3 n3 k3] 27)) from bR.alloc zR _);have kE := heap_alloc_new w (.cells #[.int .i64 (N : Int), .int .i64 s1, .slice A2 n2 k2, .slice A3 n3 k3] 27);have hbt : w.heap.size < (w.alloc (.cells #[.int .i64 (N : Int), .int .i64 s1, .slice A2 n2 k2, .slice A3 n3 k3] 27)).heap.size := by rw [World.size_alloc]; omega
 have hE := hide elem_int;have q0 := hide (cloneT_calls A1 n1 c1 S _ lo1 hi1 (t1.below hW0.out (.inr zR)) (by omega));replace t1 := hide t1;replace t2 := hide t2;replace t3 := hide t3;replace hto := hide hto;clear hval hst;go_enter Tryz.func264, Tryz.ntmps264;go_upto_region 1 with fail;have x0 : (w.alloc (.cells #[.int .i64 (N : Int), .int .i64 s1, .slice A2 n2 k2, .slice A3 n3 k3] 27)).cell? ⟨w.heap.size, 0, none⟩ = some (.int .i64 (N : Int)) := cR 0 kE;have x1 : (w.alloc (.cells #[.int .i64 (N : Int), .int .i64 s1, .slice A2 n2 k2, .slice A3 n3 k3] 27)).cell? ⟨w.heap.size, 1, none⟩ = some (.int .i64 s1) := cR 1 kE;have x2 : (w.alloc (.cells #[.int .i64 (N : Int), .int .i64 s1, .slice A2 n2 k2, .slice A3 n3 k3] 27)).cell? ⟨w.heap.size, 2, none⟩ = some (.slice A2 n2 k2) := cR 2 kE;have x3 : (w.alloc (.cells #[.int .i64 (N : Int), .int .i64 s1, .slice A2 n2 k2, .slice A3 n3 k3] 27)).cell? ⟨w.heap.size, 3, none⟩ = some (.slice A3 n3 k3) := cR 3 kE;clear kE;generalize hWW : (w.alloc (.cells #[.int .i64 (N : Int), .int .i64 s1, .slice A2 n2 k2, .slice A3 n3 k3] 27)) = W0 at *;clear hWW;have hbt1 : w.heap.size + 1 ≤ W0.heap.size := hbt;go_upto_region 3 with (first | (go_at_call 194; (with_reducible refine q0.out.mono ?_); rintro e wx ⟨A0, c0, rfl, hown0, hb0⟩));have hB0 := hb0.size;replace hown0 := hide hown0
 go_loopg [5, 6] (n1 + 40) (fun G o i wr => ∃ k m c A R, k ≤ m ∧ o = .slice A m c ∧ i = .int .i64 (k : Nat) ∧ Hid (Own 1 iv wr W0.heap.size 2 A m c R) ∧ Hid (TauI (N : Int) es ls S R k) ∧ Hid (n1 + 40 ≤ G + k) ∧ Below W0.heap.size W0 wr)
 case atStart => exact ⟨0, n1, c0, A0, S, Nat.zero_le _, rfl, rfl, hown0, TauI.start _ _ _ _, zR, hb0⟩
 case round =>
  clear hown0 hb0 hB0;obtain ⟨k, m, c, A, R, hk, rfl, rfl, hown, hI, hG, hb⟩ := hrel;have hz := hb.size;have hml := hown.out.len;have hmx := hI.out.beg.len;rw [hml, l1] at hmx
  by_cases hlt : k < m
  ·obtain ⟨G3, rfl⟩ : ∃ G3, gk = G3 + 1 := ⟨gk - 1, by have := hG.out; omega⟩
   have hG3 : Hid (n1 + 40 ≤ G3 + (k + 1)) := by have := hG.out; show _ ≤ _; omega
   obtain ⟨b, off, x, rfl, -, -, gb, hx, px, -⟩ := SlI.get (hown.out.sl flat_iv) hlt;have hwb := hW0.out.trans (hb.mono (by omega));have y0 := (hb.cell (p := ⟨w.heap.size, 0, none⟩) hbt).trans x0;have y1 := (hb.cell (p := ⟨w.heap.size, 1, none⟩) hbt).trans x1;have y2 := (hb.cell (p := ⟨w.heap.size, 2, none⟩) hbt).trans x2;have y3 := (hb.cell (p := ⟨w.heap.size, 3, none⟩) hbt).trans x3;have hA : Below wr.heap.size wr (wr.alloc (.cells #[.int .i64 x] 2)).drew := (bR.alloc zR (.cells #[.int .i64 x] 2)).drew;have hsz : (wr.alloc (.cells #[.int .i64 x] 2)).drew.heap.size = wr.heap.size + 1 := by show (wr.alloc _).heap.size = _; rw [World.size_alloc]
   have hwA := hwb.trans (hA.mono hwb.size);have qf := followS_calls (N : Int) s1 A2 n2 k2 A3 n3 k3 (some ⟨wr.heap.size, 0, none⟩) 1 1 [x] tauB ls es (wr.alloc (.cells #[.int .i64 x] 2)).drew lo hi 0 (wr.heap.size + 1) (t2.out.below hwA (.inr zR)) (t3.out.below hwA (.inr zR)) ((Sl.lit1' wr 2 x _ rfl 1 _ rfl).drew) (by omega) hes hlts.out;rw [show tauB = (⟨#[116, 97, 117]⟩ : ByteArray) from rfl] at qf;replace qf := hide qf;have hI0 : (0 : Int) ≤ (k : Int) := by omega
   have hI1 : (k : Int) < (m : Int) := by omega
   obtain ⟨BB, hB1, hB2, hownB, hgB⟩ := hown.out.toC hz;have hg9 : w.heap.size < (wr.alloc (.cells #[.int .i64 x] 2)).drew.heap.size := by rw [hsz]; omega
   have hg8 : b < (wr.alloc (.cells #[.int .i64 x] 2)).drew.heap.size := by rw [hsz]; omega
   have hnx := hI.out.next hx hto.out;have ya0 : (wr.alloc (.cells #[.int .i64 x] 2)).drew.cell? ⟨w.heap.size, 0, none⟩ = some (.int .i64 (N : Int)) := alloc_some y0;have ya1 : (wr.alloc (.cells #[.int .i64 x] 2)).drew.cell? ⟨w.heap.size, 1, none⟩ = some (.int .i64 s1) := alloc_some y1;have ya2 : (wr.alloc (.cells #[.int .i64 x] 2)).drew.cell? ⟨w.heap.size, 2, none⟩ = some (.slice A2 n2 k2) := alloc_some y2;have ya3 : (wr.alloc (.cells #[.int .i64 x] 2)).drew.cell? ⟨w.heap.size, 3, none⟩ = some (.slice A3 n3 k3) := alloc_some y3;have pa : (wr.alloc (.cells #[.int .i64 x] 2)).drew.cell? ⟨b, off + k, none⟩ = some (.int .i64 x) := alloc_some px;replace hnx := hide hnx;replace hownB := hide hownB;replace hgB := hide hgB;replace hA := hide hA;replace hwb := hide hwb;replace hb := hide hb;replace hsz := hide hsz;clear hx hwA hown hI;go_upto_region 5 with fail
   go_region_held3 (fun w' => w'.cell? ⟨w.heap.size, 0, none⟩ = some (.int .i64 (N : Int)) ∧ w'.cell? ⟨w.heap.size, 1, none⟩ = some (.int .i64 s1) ∧ w'.cell? ⟨w.heap.size, 2, none⟩ = some (.slice A2 n2 k2) ∧ w'.cell? ⟨w.heap.size, 3, none⟩ = some (.slice A3 n3 k3) ∧ w'.cell? ⟨b, off + k, none⟩ = some (.int .i64 x)) (first | exact ⟨y0, y1, y2, y3, px⟩ | exact ⟨z0, z1, z2, z3, pz⟩ | go_keep)
    (first | (go_at_call 181; (with_reducible refine qf.out.mono ?_); rintro e w5 ⟨Af, nf, cf, rfl, hof, hb5⟩; have z0 := (hb5.cell (p := ⟨w.heap.size, 0, none⟩) hg9).trans ya0; have z1 := (hb5.cell (p := ⟨w.heap.size, 1, none⟩) hg9).trans ya1; have z2 := (hb5.cell (p := ⟨w.heap.size, 2, none⟩) hg9).trans ya2; have z3 := (hb5.cell (p := ⟨w.heap.size, 3, none⟩) hg9).trans ya3; have pz := (hb5.cell (p := ⟨b, off + k, none⟩) hg8).trans pa; replace hof := hide hof; replace hb5 := hide hb5))
   have hb5w : Below wr.heap.size wr w5 := hA.out.trans (hb5.out.mono (by rw [hsz.out]; omega));have hC : Hid (OwnC 1 iv 2 w5 BB w5 (some ⟨b, off, none⟩) m c R) := ⟨hownB.out.below hb5w zR, fun g hg => .inl (hgB.out g hg), Only.refl _ _ _⟩;have hfs := hide (hof.out.sl flat_iv);have hfl := hof.out.len;have hfl2 := folV_len es ls tauB [x];have hnf : nf ≤ 300 := by rw [show folV es ls ⟨#[116, 97, 117]⟩ [x] = folV es ls tauB [x] from rfl] at hfl; have := l3.out; omega
   have hfa : (folV es ls tauB [x]).take nf = folV es ls tauB [x] := List.take_of_length_le (by rw [show folV es ls ⟨#[116, 97, 117]⟩ [x] = folV es ls tauB [x] from rfl] at hfl; omega);replace hfs : Hid (SlI w5 (wr.heap.size + 1) w5.heap.size Af nf (folV es ls tauB [x])) := by have := hfs.out; rw [hsz.out] at this; exact this
   have hw5 := hb5w.size;have hbW : Below W0.heap.size W0 w5 := hb.out.trans (hb5w.mono hz);replace hnx := hnx.out;generalize folV es ls tauB [x] = F at *;replace hnx := hide hnx;replace hfa := hide hfa;replace hbW := hide hbW;replace hb5w := hide hb5w;have k0 := hide z0;have k1 := hide z1;have k2 := hide z2;have k3 := hide z3;clear hfl hfl2 hof hb5 hA hownB hgB y0 y1 y2 y3 ya0 ya1 ya2 ya3 pa px pz z0 z1 z2 z3 hg9 hg8 qf hsz;obtain ⟨wo, rfl⟩ : ∃ wo : World, wo = wr := ⟨_, rfl⟩;go_upto_region 6 with fail
   go_loopg [5, 25] nf (fun G o i wr => ∃ j m2 c2 A4 R2, j ≤ nf ∧ m2 ≤ m + j ∧ o = .slice A4 m2 c2 ∧ i = .int .i64 (j : Nat) ∧ Hid (OwnC 1 iv 2 w5 BB wr A4 m2 c2 R2) ∧ Hid (R2 = addL R (F.take j)) ∧ Hid (nf ≤ G + j))
   case atStart => exact ⟨0, m, c, _, R, Nat.zero_le _, by omega, rfl, rfl, hC, rfl, by show _ ≤ _; omega⟩
   case round =>
    clear hC;obtain ⟨j, m2, c2, A4, R2, hj, hm2, rfl, rfl, hC, hR2, hG2⟩ := hrel;have hzz := hC.out.only.size
    by_cases hlt2 : j < nf
    ·obtain ⟨G4, rfl⟩ : ∃ G4, gk = G4 + 1 := ⟨gk - 1, by have := hG2.out; omega⟩
     have hG4 : Hid (nf ≤ G4 + (j + 1)) := by have := hG2.out; show _ ≤ _; omega
     obtain ⟨bf, of_, v, rfl, -, -, gf, hv, pv, -⟩ := SlI.get (Sl.only hfs.out hC.out.only (.inr (by omega))) hlt2;have qc := hide (containsI_calls v A4 m2 c2 R2 wr _ _ (hC.out.own.sl flat_iv) (by omega));have hsu := addL_succ (R := R) hv;rw [← hR2.out] at hsu;have hJ0 : (0 : Int) ≤ (j : Int) := by omega
     have hJ1 : (j : Int) < (nf : Int) := by omega
     replace hR2 := hide hR2;clear hv
     by_cases hin : v ∈ R2
     ·have hany : R2.any (fun x => decide (x = v)) = true := List.any_eq_true.2 ⟨v, hin, decide_eq_true rfl⟩
      rw [hany] at qc;rw [addN, if_pos hin] at hsu;replace hsu := hide hsu;clear hany hin hR2;go_wp2_with (first
       | (go_at_call 193; (with_reducible refine qc.out.mono ?_); rintro e w' ⟨rfl, rfl⟩))
      go_roundg G4
      case measure => omega
      case rel => exact ⟨j + 1, m2, c2, A4, R2, by omega, by omega, rfl, by go_num, hC, hsu.out.symm, hG4⟩
     ·have hany : R2.any (fun x => decide (x = v)) = false := by
       cases h : R2.any (fun x => decide (x = v)) with
       | false => rfl
       | true =>
        obtain ⟨y, hy, e⟩ := List.any_eq_true.1 h;rw [of_decide_eq_true e] at hy;exact (hin hy).elim
      rw [hany] at qc;rw [addN, if_neg hin] at hsu;replace hsu := hide hsu;have hownA := hC.out.below (bR.alloc zR (.cells #[.int .i64 v] 2));have hza : BB ≤ (wr.alloc (.cells #[.int .i64 v] 2)).heap.size := by rw [World.size_alloc]; omega
      replace hownA := hide hownA;clear hany hin hR2 hC;go_wp2_with (first
       | (go_at_call 193; (with_reducible refine qc.out.mono ?_); rintro e w' ⟨rfl, rfl⟩)
       | (at_builtin; (with_reducible refine wpList_app rfl (.tmp 33) (.tmp 35) rfl hE.out flat_iv rfl hownA.out.own rfl (Sl.lit1' wr 2 v _ rfl 1 _ ?c0) ?c1 hza ?_); rotate_right; intro A7 c7 w7 hown7 hgr7 hb7 hat7))
      case c0 => rfl
      case c1 => omega
      have hown8 := hide (hownA.out.app hown7 hgr7 hat7);clear hown7 hgr7 hb7 hat7 hownA
      go_roundg G4
      case measure => omega
      case rel => exact ⟨j + 1, m2 + 1, c7, A7, R2 ++ [v], by omega, by omega, rfl, by go_num, hown8, hsu.out.symm, hG4⟩
    ·have hjn : j = nf := by omega
     subst hjn;have hR3 : R2 = addL R F := by have := hR2.out; rwa [hfa.out] at this
     subst hR3;have hbN := Only.below hbW.out hC.out.only hB1 (Nat.le_trans hz hw5);have hownN := hide (hC.out.own.lower hB1);have hlenN := hnx.out.beg.len;have hkm : k + 1 ≤ m2 := by have h1 := hownN.out.len; have h2 := addL_len (R := R) (L := F); omega
     clear hC hR2;go_wp2_with fail
     go_roundg G3
     case measure => omega
     case rel => exact ⟨k + 1, m2, c2, A4, addL R F, hkm, rfl, by go_num, hownN, hnx, hG3, hbN⟩
  ·have hkm : k = m := by omega
   subst hkm;have q1 := hide (sortI_calls hown.out (by omega));have hdone : ∀ v, v ∈ R ↔ TauC es ls (· ∈ S) v := fun v => hI.out.done (by omega)
   have hwz := hz;replace hb := hide hb;go_wp2_with fail;refine q1.out.mono ?_;rintro e w1 ⟨rfl, hs1, hg1⟩;have hbs1 := hide (hown.out.grown_below hg1 zR hwz);have hsl := hide (hs1.sl flat_iv);clear hs1 hg1;go_wp2_with fail;go_ret;exact ⟨_, _, _, _, rfl, hsl.out.more (by omega) zR, fun v => sortI_mem.trans (hdone v), by omega, hW0.out.trans ((hb.out.trans hbs1.out).mono (by omega)), sortI_asc _⟩
end Go.Proofs.YtnhomkmfbngmgaaGreatDoor
namespace Go.Proofs.YtnhomkmfbngmgaaGreatDoor
open Go.ChangeShapes Go.WideShapes Go.ChangeAt Go.RowKit Go.Lib
def cellsD : DataW Unit → List Value
 | .agg l => l.flatMap fun x => match x with
  | .lit (.int k z) => [.int k z]
  | _ => []
 | _ => []
noncomputable def laidWorld (os : Os) : World :=
 let w0 := World.doorLaid Tryz.prog 400 os
 { w0 with heap := w0.heap.modify 2 fun
   | .cells _ t f => .cells (cellsD Rows.laid_unicode_utf8_first).toArray t f
   | o => o }
theorem laid_met (os : Os) (args : Array Value) : laidMet Tryz.prog Rows.fnLtsRow.laid ((laidWorld os).forCall (fun _ _ => 0) ⟨#[], args, []⟩).memory :=
 laidMet_of_run' 8 (by kernel_rfl) (by kernel_rfl)
end Go.Proofs.YtnhomkmfbngmgaaGreatDoor
namespace Go.Proofs.YtnhomkmfbngmgaaGreatDoor
open Go.ChangeShapes Go.WideShapes Go.ChangeAt Go.RowKit
open Go.Maps (Keyed)
def pairV (q : Int × Int) : Value := .agg #[.int .i64 q.1, .int .i64 q.2]
def fitP (q : Int × Int) : Prop := (Lit.int .i64 q.1).wf = true ∧ (Lit.int .i64 q.2).wf = true
theorem laidP : laidOutB Tryz.prog = true := by kernel_rfl
theorem keyedP : Keyed Tryz.prog 177 := Keyed.of_law (Go.deep_law_laid laidP (m := 2) (by omega) (of_decide_eq_true (by kernel_rfl)) (by kernel_rfl) (by rw [Tryz.underlying177]))
theorem pairV_inj {a b : Int × Int} (h : pairV a = pairV b) : a = b := by
 unfold pairV at h;injection h with h;injection h with h;injection h with h1 h2;injection h2 with h2 _;injection h1 with _ h1;injection h2 with _ h2;exact Prod.ext h1 h2
open Go.Maps (Keyed)
abbrev PQ2 := Int × Int
def KL (q : PQ2) (l : Lit) : Prop := keyOf Tryz.prog 177 (pairV q) = some l
theorem KL.inj {a b : PQ2} {l : Lit} (h : KL a l) (g : KL b l) : a = b := pairV_inj (keyedP.inj h g)
noncomputable abbrev RB : Value → Option (DataW Unit × List MemPlace) := plainElem Tryz.prog 4
structure DatS (D : DataW Unit) (S : List PQ2) : Prop where
 has : ∀ l, Maps.has D l = true ↔ ∃ q ∈ S, KL q l
 val : ∀ l, Maps.has D l = true → ∀ z, D.atKey l z = .lit (.bool true)
structure PSet (w : World) (b : Nat) (S : List PQ2) : Prop where
 nd : S.Nodup
 fit : ∀ q, q ∈ S → fitP q
 ex : ∃ (D : DataW Unit), w.ownsMap Tryz.prog 177 RB b S.length D ∧ Maps.size D = S.length ∧ DatS D S
section
variable {w w' : World} {b : Nat} {S : List PQ2}
theorem PSet.made (w : World) : PSet (w.alloc (.map #[] 0)) w.heap.size [] :=
 ⟨List.nodup_nil, (fun q h => by cases h), .map [], World.ownsMap_made _ _ _ _, rfl, ⟨fun l => ⟨(fun h => by cases h), (fun ⟨q, h, _⟩ => by cases h)⟩, fun l h => by cases h⟩⟩
theorem PSet.lt (h : PSet w b S) : b < w.heap.size := by obtain ⟨-, -, D, h1, -⟩ := h; exact h1.lt
theorem PSet.keep (h : PSet w b S) (hb : w'.heap[b]? = w.heap[b]?) : PSet w' b S := by
 obtain ⟨h1, h2, D, ⟨es, clock, h3, r⟩, h4⟩ := h;exact ⟨h1, h2, D, ⟨es, clock, hb.trans h3, r⟩, h4⟩
theorem PSet.below (h : PSet w b S) (hb : Below w.heap.size w w') : PSet w' b S := h.keep (hb.block b h.lt)
theorem PSet.map (h : PSet w b S) : ∃ es clock, w.heap[b]? = some (.map es clock) := by obtain ⟨-, -, D, ⟨es, clock, h1, r⟩, -⟩ := h; exact ⟨es, clock, h1⟩
end
structure RSet (w : World) (b r : Nat) (S L : List PQ2) (cnt : Nat) : Prop where
 set : PSet w b S
 sub : ∀ q, q ∈ L → q ∈ S
 nd : L.Nodup
 ex : ∃ (D : DataW Unit) (left : Lit → Bool), w.ranges Tryz.prog 177 RB b r S.length D left cnt ∧ DatS D S ∧ ∀ l, left l = true ↔ ∃ q ∈ L, KL q l
section
variable {w w' : World} {b r : Nat} {S L : List PQ2} {cnt : Nat}
theorem RSet.kept (h : RSet w b r S L cnt) {row : Option Nat} (hg : w.grownBy w' row) (hb : some b ≠ row) (hr : some r ≠ row) : RSet w' b r S L cnt := by
 obtain ⟨h1, h2, h3, D, left, h4, h5⟩ := h;exact ⟨h1.keep (hg.block b h1.lt hb), h2, h3, D, left, h4.kept hg hb hr, h5⟩
theorem RSet.lt (h : RSet w b r S L cnt) : r < w.heap.size := by obtain ⟨-, -, -, D, left, h4, -⟩ := h; exact h4.lt
theorem RSet.below (h : RSet w b r S L cnt) (hb : Below w.heap.size w w') : RSet w' b r S L cnt :=
 h.kept (row := none) ⟨hb.os, hb.tape, hb.output, hb.size, fun i hi _ => hb.block i hi⟩ (by simp) (by simp)
end
section
variable {w : World} {ops : Array Oper} {rest : List Oper} {o : Oper} {a : Act} {Q : Exit → Act → World → Prop} {b r : Nat} {S L : List PQ2} {cnt : Nat}
end
open Go.Sort
structure SimD (w : World) (K : Nat) (s0 s1 : Int) (A2 : Option Addr) (n2 k2 : Nat) (A3 : Option Addr) (n3 k3 : Nat) (r0 r1 : Int) (B2 : Option Addr) (m2 j2 : Nat) (B3 : Option Addr) (m3 j3 : Nat) (lt : List ByteArray) (et : List Ed) (lp : List ByteArray) (ep : List Ed) : Prop where
 t2 : SlS w 0 K A2 n2 lt
 t3 : SlE w 0 K A3 n3 et
 u2 : SlS w 0 K B2 m2 lp
 u3 : SlE w 0 K B3 m3 ep
 hes : n3 ≤ 1048576
 hfs : m3 ≤ 1048576
 ht : ltsV (s0, s1, lt, et) = true
 hp : ltsV (r0, r1, lp, ep) = true
theorem SimD.below {w w' : World} {K B : Nat} {s0 s1 : Int} {A2 : Option Addr} {n2 k2 : Nat} {A3 : Option Addr} {n3 k3 : Nat} {r0 r1 : Int} {B2 : Option Addr} {m2 j2 : Nat} {B3 : Option Addr} {m3 j3 : Nat} {lt : List ByteArray} {et : List Ed} {lp : List ByteArray} {ep : List Ed}
  (h : SimD w K s0 s1 A2 n2 k2 A3 n3 k3 r0 r1 B2 m2 j2 B3 m3 j3 lt et lp ep) (hb : Below B w w') (hK : K ≤ B) : SimD w' K s0 s1 A2 n2 k2 A3 n3 k3 r0 r1 B2 m2 j2 B3 m3 j3 lt et lp ep :=
 ⟨h.t2.below hb (.inl hK), h.t3.below hb (.inl hK), h.u2.below hb (.inl hK), h.u3.below hb (.inl hK), h.hes, h.hfs, h.ht, h.hp⟩
open Go.Lib
theorem compareLabels_calls (a b : ByteArray) (w : World) : Calls Tryz.prog 226 #[.string a, .string b] w fun e w' => e = .returned (.int .i64 (cmpB (toL a) (toL b))) ∧ w' = w := by
 have q := Tryz.strings_Compare a b
 by_cases h1 : a = b
 ·subst h1
  have hv : Hid (cmpB (toL a) (toL a) = 0) := by show _ = _; unfold cmpB; rw [if_pos rfl]
  have hself : (a.toList == a.toList) = true := beq_self_eq_true _;clear q;go_enter Tryz.func226, Tryz.ntmps226;go_wp2_with fail;go_ret;exact ⟨ret_i (by rw [hv.out]), rfl⟩
 ·have n1 := str_neq h1
  have n2 : ¬ a.toList = b.toList := fun e => by rw [e, beq_self_eq_true] at n1; cases n1
  have n3 : ¬ toL a = toL b := fun e => h1 (toL_inj e)
  by_cases h2 : a = tauB
  ·have hv : Hid (cmpB (toL a) (toL b) = -1) := by show _ = _; unfold cmpB; rw [if_neg n3, if_pos (by rw [h2, toL_tau])]
   have t1 : (a.toList == [116, 97, 117]) = true := by rw [h2, tau_list]; rfl
   clear q n3 h1 h2;go_enter Tryz.func226, Tryz.ntmps226;go_wp2_with fail;go_ret;exact ⟨ret_i (by rw [hv.out]), rfl⟩
  ·have t1 : (a.toList == [116, 97, 117]) = false := by have := str_neq h2; rwa [tau_list] at this
   have t2 : ¬ a.toList = [116, 97, 117] := fun e => by rw [e] at t1; cases t1
   have t3 : ¬ toL a = tauBL := fun e => h2 (toL_inj (e.trans toL_tau.symm))
   by_cases h3 : b = tauB
   ·have hv : Hid (cmpB (toL a) (toL b) = 1) := by show _ = _; unfold cmpB; rw [if_neg n3, if_neg t3, if_pos (by rw [h3, toL_tau])]
    have u1 : (b.toList == [116, 97, 117]) = true := by rw [h3, tau_list]; rfl
    clear q n3 t3 h1 h2 h3;go_enter Tryz.func226, Tryz.ntmps226;go_wp2_with fail;go_ret;exact ⟨ret_i (by rw [hv.out]), rfl⟩
   ·have u1 : (b.toList == [116, 97, 117]) = false := by have := str_neq h3; rwa [tau_list] at this
    have u2 : ¬ b.toList = [116, 97, 117] := fun e => by rw [e] at u1; cases u1
    have u3 : ¬ toL b = tauBL := fun e => h3 (toL_inj (e.trans toL_tau.symm))
    have hv : Hid (cmpB (toL a) (toL b) = Lib.compareBytes a.data.toList b.data.toList) := by show _ = _; unfold cmpB; rw [if_neg n3, if_neg t3, if_neg u3]; rfl
    generalize Lib.compareBytes a.data.toList b.data.toList = r at *;replace q := hide q;clear n3 t3 u3 h1 h2 h3;go_enter Tryz.func226, Tryz.ntmps226;go_wp2_with (first | (go_at_call 292; (with_reducible refine (q.out _).mono ?_); rintro e w5 ⟨rfl, rfl⟩));go_ret;exact ⟨ret_i (by rw [hv.out]), rfl⟩
theorem strv_map (l : List ByteArray) : l.flatMap strv = l.map Value.string := by
 induction l with
 | nil => rfl
 | cons x l ih => rw [List.flatMap_cons, ih]; rfl
section
variable {w : World} {base g n c q : Nat} {e : TypeId} {l : List ByteArray} {d : List (List UInt8)} {os : Array Obj}
theorem putS_block (w : World) (g q : Nat) (d : List (List UInt8)) (os : Array Obj) (hg : g < w.heap.size) :
  (grow (putRow encStr (Sort.ahead w q) g 0 d.toArray) os).heap[g]? = (w.heap[g]?).map (onCells (Go.Sort.putCells encStr 0 d.toArray)) := by
 rw [heap_grow_old _ _ (by simpa [putRow, mapBlock, Sort.ahead] using hg)]
 simp [putRow, mapBlock, Sort.ahead, Array.getElem?_modify]
theorem putS_grown (w : World) (g q : Nat) (d : List (List UInt8)) (os : Array Obj) : w.grownBy (grow (putRow encStr (Sort.ahead w q) g 0 d.toArray) os) (some g) := by
 refine ⟨rfl, rfl, rfl, by simp [putRow, mapBlock, Sort.ahead], fun k hk hne => ?_⟩;rw [heap_grow_old _ _ (by simpa [putRow, mapBlock, Sort.ahead] using hk)];have hne' : g ≠ k := fun h => hne (by rw [h])
 simp [putRow, mapBlock, Sort.ahead, Array.getElem?_modify, hne']
theorem Own.putS (h : Own 1 strv w base e (some ⟨g, 0, none⟩) n c l) (hd : d.length = n) {m : Nat} (hm : m ≤ n) :
  Own 1 strv (grow (putRow encStr (Sort.ahead w q) g 0 d.toArray) os) base e (some ⟨g, 0, none⟩) m c ((d.take m).map ofL) := by
 rcases h.2.2 with ⟨hv, -⟩ | ⟨g', cap, cur, hv, hb, hg, hnc, hcm, hcs, htake⟩
 ·cases hv
 ·cases hv
  have hlt : g < w.heap.size := (Array.getElem?_eq_some_iff.1 hg).1;have hl : ((d.take m).map ofL).length = m := by rw [List.length_map, List.length_take]; omega
  refine ⟨hl, by rw [flat_length flat_strv, hl], .inr ⟨g, c, Go.Sort.putCells encStr 0 d.toArray cur, rfl, hb, ?_, by omega, hcm, by simp [Go.Sort.putCells, hcs], ?_⟩⟩
  ·rw [putS_block _ _ _ _ _ hlt, hg]
   rfl
  ·rw [strv_map]
   apply List.ext_getElem?
   intro k
   by_cases hk : k < m
   ·have hkc : k < cur.size := by omega
    have hkd : k < d.length := by omega
    rw [List.getElem?_take, if_pos (by omega), List.getElem?_map, List.getElem?_map, List.getElem?_take, if_pos hk, Array.getElem?_toList, List.getElem?_eq_getElem hkd];simp only [Go.Sort.putCells, Array.getElem?_mapIdx, Array.getElem?_eq_getElem hkc, Option.map_some];rw [if_pos ⟨Nat.zero_le _, by simp; omega⟩, Nat.sub_zero, getElem!_pos _ k (by simpa using hkd)]
    simp [encStr, ofL]
   ·rw [List.getElem?_eq_none (by simp; omega), List.getElem?_eq_none (by simp; omega)]
theorem Own.holdsS (h : Own 1 strv w base e (some ⟨g, 0, none⟩) n c l) : Holds encStr w g 0 (l.map toL).toArray := by
 intro j hj;have hj' : j < l.length := by simpa using hj
 have hs := h.sl flat_strv;have hn := h.len;obtain ⟨b', off', e', -, -, -, hc⟩ := hs.at_ (by omega)
 cases e'
 have := hc j l[j] (List.getElem?_eq_getElem hj') 0 (.string l[j]) rfl;rw [getElem!_pos _ j hj];have he : encStr (l.map toL).toArray[j] = .string l[j] := by
  simp only [List.getElem_toArray, List.getElem_map];exact congrArg Value.string (ofL_toL _)
 rw [he]
 simpa using this
end
section
variable {w : World} {base n c : Nat} {A : Option Addr} {l : List ByteArray}
theorem sortL_calls (h : Own 1 strv w base 9 A n c l) (hn : n ≤ 1000000000) :
  Calls Tryz.prog 225 #[.slice A n c, .func (.func 226) #[] #[]] w fun e w' => e = .returned (.tuple #[]) ∧ Own 1 strv w' base 9 A n c (((l.map toL).mergeSort fun x y => !(ltL y x)).map ofL) ∧ w.grownBy w' (Value.slice A n c).ownBlock := by
 rcases h.2.2 with ⟨hv, hn0⟩ | ⟨g, cap, cur, hv, hb, hg, hnc, hcm, hcs, htake⟩
 ·cases hv
  have hl := List.eq_nil_of_length_eq_zero h.len;subst hl;refine (Tryz.slices_SortFunc_string_none none 0 _ w).mono ?_;rintro e w' ⟨rfl, rfl⟩;refine ⟨rfl, ?_, ⟨rfl, rfl, rfl, zR, fun _ _ _ => rfl⟩⟩
  simpa using h
 ·cases hv
  have hlt : g < w.heap.size := (Array.getElem?_eq_some_iff.1 hg).1;have eg : ∀ args w, (callFunc 226 args).run Tryz.prog w = .ok (.enter 226 args) w := enters_of Tryz.func226 (by kernel_rfl) rfl;have hsz : (l.map toL).toArray.size = n := by simp [h.len]
  have hcmp : CmpReads Tryz.prog 226 #[] encStr cmpB g 0 (l.map toL).toArray.size w := fun m os dk hs x y => (compareLabels_calls (ofL x) (ofL y) _).mono fun e w' ⟨he, hw⟩ => ⟨by rw [he, toL_ofL, toL_ofL], 0, hw⟩
  have hq := Tryz.slices_SortFunc_string cmpB swoL 226 #[] g 0 c (l.map toL).toArray w eg hcmp.lays h.holdsS hlt (by rw [hsz]; omega) apartL;rw [hsz] at hq;refine hq.mono ?_;rintro e w' ⟨rfl, q, os, rfl⟩;have hd : ((l.map toL).mergeSort fun x y => !(ltL y x)).length = n := by rw [List.length_mergeSort, List.length_map, h.len]
  refine ⟨rfl, ?_, putS_grown _ _ _ _ _⟩;have := h.putS (d := (l.map toL).mergeSort fun x y => !(ltL y x)) (q := q) (os := os) hd (Nat.le_refl n)
  rwa [List.take_of_length_le (by rw [hd]; exact zR)] at this
theorem compactL_calls (h : Own 1 strv w base 9 A n c l) (hn : n ≤ 1000000000) :
  Calls Tryz.prog 227 #[.slice A n c] w fun e w' => e = .returned (.slice A (Lib.compact (l.map toL)).length c) ∧ Own 1 strv w' base 9 A (Lib.compact (l.map toL)).length c ((Lib.compact (l.map toL)).map ofL) ∧ w.grownBy w' (Value.slice A n c).ownBlock := by
 rcases h.2.2 with ⟨hv, hn0⟩ | ⟨g, cap, cur, hv, hb, hg, hnc, hcm, hcs, htake⟩
 ·cases hv
  have hl := List.eq_nil_of_length_eq_zero h.len;subst hl;refine (Tryz.slices_Compact_string_empty none 0 w).mono ?_;rintro e w' ⟨rfl, rfl⟩;exact ⟨rfl, h, ⟨rfl, rfl, rfl, zR, fun _ _ _ => rfl⟩⟩
 ·cases hv
  have hlt : g < w.heap.size := (Array.getElem?_eq_some_iff.1 hg).1;have hlen := compact_length_le (l.map toL);have hln : (l.map toL).length = n := by rw [List.length_map, h.len]
  have hq := Tryz.slices_Compact_string g 0 c (l.map toL) w h.holdsS (by omega) (by omega);rw [hln] at hq hlen;refine hq.mono ?_;rintro e w' ⟨rfl, q, rfl⟩;have hd : (Lib.compact (l.map toL) ++ List.replicate (n - (Lib.compact (l.map toL)).length) []).length = n := by simp; omega
  have h1 := h.putS (d := Lib.compact (l.map toL) ++ List.replicate (n - (Lib.compact (l.map toL)).length) []) (q := q) (os := #[]) hd hlen;have h2 := putS_grown w g q (Lib.compact (l.map toL) ++ List.replicate (n - (Lib.compact (l.map toL)).length) []) #[];rw [grow_empty] at h1 h2;rw [List.take_left' rfl] at h1;exact ⟨rfl, h1, h2⟩
end
theorem map_toL_ofL (d : List (List UInt8)) : (d.map ofL).map toL = d := by
 rw [List.map_map];exact (List.map_congr_left fun x _ => toL_ofL x).trans (List.map_id _)
theorem compactD_calls {w : World} {base n c : Nat} {A : Option Addr} {d : List (List UInt8)} (h : Own 1 strv w base 9 A n c (d.map ofL)) (hn : n ≤ 1000000000) :
  Calls Tryz.prog 227 #[.slice A n c] w fun e w' => e = .returned (.slice A (Lib.compact d).length c) ∧ Own 1 strv w' base 9 A (Lib.compact d).length c ((Lib.compact d).map ofL) ∧ w.grownBy w' (Value.slice A n c).ownBlock := by
 have := compactL_calls h hn
 rwa [map_toL_ofL] at this
end Go.Proofs.YtnhomkmfbngmgaaGreatDoor
namespace Go.Proofs.YtnhomkmfbngmgaaGreatDoor
section
variable (src : Nat → Prop) (arc : Nat → Nat → Prop)
def lay : Nat → Nat → Prop
 | 0, k => src k
 | n + 1, k => lay n k ∨ ∃ a, lay n a ∧ arc a k
theorem lay_mono {n m k : Nat} (h : lay src arc n k) (hm : n ≤ m) : lay src arc m k := by
 induction m with
 | zero =>
  have : n = 0 := by omega
  subst this; exact h
 | succ m ih =>
  rcases Nat.lt_or_ge m n with h1 | h1
  ·have : n = m + 1 := by omega
   subst this; exact h
  ·exact .inl (ih h1)
def least (d k : Nat) : Prop := lay src arc d k ∧ ∀ m, m < d → ¬ lay src arc m k
theorem least_uniq {d e k : Nat} (h : least src arc d k) (g : least src arc e k) : d = e := by
 rcases Nat.lt_trichotomy d e with h1 | h1 | h1
 ·exact absurd h.1 (g.2 d h1)
 ·exact h1
 ·exact absurd g.1 (h.2 e h1)
theorem least_of {n k : Nat} (h : lay src arc n k) : ∃ d, d ≤ n ∧ least src arc d k := by
 induction n with
 | zero => exact ⟨0, zR, h, fun m hm => absurd hm (by omega)⟩
 | succ n ih =>
  by_cases h1 : lay src arc n k
  ·obtain ⟨d, h2, h3⟩ := ih h1
   exact ⟨d, by omega, h3⟩
  ·refine ⟨n + 1, zR, h, fun m hm hl => h1 (lay_mono src arc hl (by omega))⟩
theorem least_pred {n k : Nat} (h : least src arc (n + 1) k) : ∃ a, least src arc n a ∧ arc a k := by
 obtain ⟨h1, h2⟩ := h
 rcases h1 with h1 | ⟨a, ha, hk⟩
 ·exact absurd h1 (h2 n (by omega))
 ·refine ⟨a, ⟨ha, fun m hm hl => ?_⟩, hk⟩
  exact h2 (m + 1) (by omega) (.inr ⟨a, hl, hk⟩)
def DistIs (n : Nat) (out : List Int) : Prop := out.length = n ∧ ∀ (k : Nat) (x : Int), out[k]? = some x → (0 ≤ x → least src arc x.toNat k) ∧ (x < 0 → x = -1 ∧ ∀ m, ¬ lay src arc m k)
theorem DistIs.uniq {n : Nat} {a b : List Int} (h : DistIs src arc n a) (g : DistIs src arc n b) : a = b := by
 apply List.ext_getElem?
 intro k
 by_cases hk : k < n
 ·have ha : a[k]? = some (a[k]'(by rw [h.1]; exact hk)) := List.getElem?_eq_getElem _
  have hb : b[k]? = some (b[k]'(by rw [g.1]; exact hk)) := List.getElem?_eq_getElem _;rw [ha, hb];generalize (a[k]'(by rw [h.1]; exact hk)) = x at *;generalize (b[k]'(by rw [g.1]; exact hk)) = y at *;obtain ⟨h1, h2⟩ := h.2 k x ha;obtain ⟨g1, g2⟩ := g.2 k y hb
  by_cases hx : 0 ≤ x
  ·by_cases hy : 0 ≤ y
   ·have := least_uniq src arc (h1 hx) (g1 hy)
    congr 1
    omega
   ·exact absurd (h1 hx).1 ((g2 (by omega)).2 _)
  ·by_cases hy : 0 ≤ y
   ·exact absurd (g1 hy).1 ((h2 (by omega)).2 _)
   ·rw [(h2 (by omega)).1, (g2 (by omega)).1]
 ·rw [List.getElem?_eq_none (by rw [h.1]; omega), List.getElem?_eq_none (by rw [g.1]; omega)]
def RoundIs (N n : Nat) (out : List Int) : Prop := out.length = N ∧ ∀ (k : Nat) (x : Int), out[k]? = some x → (0 ≤ x → least src arc x.toNat k ∧ x ≤ n) ∧ (x < 0 → x = -1 ∧ ¬ lay src arc n k)
theorem RoundIs.start {N : Nat} {out : List Int} (hl : out.length = N) (h : ∀ (k : Nat) (x : Int), out[k]? = some x → (x = 0 ∧ src k) ∨ (x = -1 ∧ ¬ src k)) : RoundIs src arc N 0 out := by
 refine ⟨hl, fun k x hx => ?_⟩
 rcases h k x hx with ⟨rfl, hs⟩ | ⟨rfl, hs⟩
 ·exact ⟨fun _ => ⟨⟨hs, fun m hm => absurd hm (by omega)⟩, by omega⟩, fun h => absurd h (by omega)⟩
 ·exact ⟨fun h => absurd h (by omega), fun _ => ⟨rfl, hs⟩⟩
structure QueIs (N : Nat) (out : List Int) (todo : List Nat) : Prop where
 len : out.length = N
 exact_ : ∀ (k : Nat) (x : Int), out[k]? = some x → (0 ≤ x → least src arc x.toNat k) ∧ (x < 0 → x = -1)
 src_ : ∀ k, src k → ∃ x : Int, out[k]? = some x ∧ 0 ≤ x
 todo_ : ∀ k, k ∈ todo → ∃ x : Int, out[k]? = some x ∧ 0 ≤ x
 done_ : ∀ (a k : Nat) (x : Int), out[a]? = some x → 0 ≤ x → a ∉ todo → arc a k → ∃ y : Int, out[k]? = some y ∧ 0 ≤ y
 sorted : todo.Pairwise fun a b => ∀ (x y : Int), out[a]? = some x → out[b]? = some y → x ≤ y
 near : ∀ a, todo.head? = some a → ∀ b, b ∈ todo → ∀ (x y : Int), out[a]? = some x → out[b]? = some y → y ≤ x + 1
theorem QueIs.done {N : Nat} {out : List Int} (h : QueIs src arc N out []) (hin : ∀ a k, arc a k → a < N ∧ k < N) (hsrc : ∀ k, src k → k < N) : DistIs src arc N out := by
 refine ⟨h.len, fun k x hx => ⟨(h.exact_ k x hx).1, fun h0 => ⟨(h.exact_ k x hx).2 h0, ?_⟩⟩⟩;have key : ∀ m k, lay src arc m k → ∃ y : Int, out[k]? = some y ∧ 0 ≤ y := by
  intro m
  induction m with
  | zero => exact fun k hk => h.src_ k hk
  | succ m ih =>
   intro k hk
   rcases hk with hk | ⟨a, ha, hak⟩
   ·exact ih k hk
   ·obtain ⟨y, hy, hy0⟩ := ih a ha
    exact h.done_ a k y hy hy0 (by simp) hak
 intro m hm;obtain ⟨y, hy, hy0⟩ := key m k hm;rw [hx] at hy
 cases hy
 omega
theorem QueIs.found {N : Nat} {out : List Int} {k : Nat} {todo : List Nat} (h : QueIs src arc N out (k :: todo)) {m : Int} (hm : out[k]? = some m) : ∀ (d b : Nat), (d : Int) ≤ m → least src arc d b → ∃ y : Int, out[b]? = some y ∧ 0 ≤ y := by
 intro d
 induction d with
 | zero => exact fun b _ hb => h.src_ b hb.1
 | succ d ih =>
  intro b hd hb;obtain ⟨a, ha, hab⟩ := least_pred src arc hb;obtain ⟨y, hy, hy0⟩ := ih a (by omega) ha;have hyd : y.toNat = d := least_uniq src arc ((h.exact_ a y hy).1 hy0) ha;refine h.done_ a b y hy hy0 ?_ hab;intro hin
  rcases List.mem_cons.1 hin with rfl | hin
  ·rw [hm] at hy
   cases hy
   omega
  ·have := (List.pairwise_cons.1 h.sorted).1 a hin m y hm hy
   omega
theorem QueIs.add {N : Nat} {out : List Int} {k b : Nat} {todo : List Nat} (h : QueIs src arc N out (k :: todo)) {m x : Int} (hm : out[k]? = some m) (hb : out[b]? = some x) (hx : x < 0) (hkb : arc k b) :
  QueIs src arc N (out.set b (m + 1)) (k :: (todo ++ [b])) := by
 have hm0 : 0 ≤ m := by
  obtain ⟨y, hy, hy0⟩ := h.todo_ k (by simp);rw [hm] at hy
  cases hy
  exact hy0
 have hbl : b < out.length := (List.getElem?_eq_some_iff.1 hb).1;have hne : ∀ {j : Nat} {y : Int}, out[j]? = some y → 0 ≤ y → j ≠ b := by
  rintro j y hy hy0 rfl;rw [hb] at hy
  cases hy
  omega
 have hkeep : ∀ {j : Nat} {y : Int}, out[j]? = some y → 0 ≤ y → (out.set b (m + 1))[j]? = some y := fun hy hy0 => by
  rw [List.getElem?_set_ne (fun e => hne hy hy0 e.symm)];exact hy
 have hself : (out.set b (m + 1))[b]? = some (m + 1) := List.getElem?_set_self hbl;have hlay : least src arc (m + 1).toNat b := by
  have hk := (h.exact_ k m hm).1 hm0;rw [show (m + 1).toNat = m.toNat + 1 by omega];refine ⟨.inr ⟨k, hk.1, hkb⟩, fun j hj hl => ?_⟩;obtain ⟨d, hd, hld⟩ := least_of src arc hl;obtain ⟨y, hy, hy0⟩ := h.found src arc hm d b (by omega) hld;rw [hb] at hy
  cases hy
  omega
 have hold : ∀ {j : Nat} {y : Int}, j ∈ k :: todo → (out.set b (m + 1))[j]? = some y → out[j]? = some y := fun hj hy => by
  obtain ⟨z, hz, hz0⟩ := h.todo_ _ hj;rw [hkeep hz hz0] at hy;rw [hz, hy]
 have hmb : ∀ j ∈ k :: todo, ∀ y, out[j]? = some y → y ≤ m + 1 := fun j hj y hy => h.near k rfl j hj m y hm hy
 refine ⟨by rw [List.length_set]; exact h.len, fun j y hy => ?_, fun j hj => ?_, fun j hj => ?_, fun a j y hy hy0 ha haj => ?_, ?_, ?_⟩
 ·by_cases e : j = b
  ·subst e
   rw [hself] at hy
   cases hy
   exact ⟨fun _ => hlay, fun h0 => absurd h0 (by omega)⟩
  ·rw [List.getElem?_set_ne (fun e' => e e'.symm)] at hy
   exact h.exact_ j y hy
 ·obtain ⟨y, hy, hy0⟩ := h.src_ j hj
  exact ⟨y, hkeep hy hy0, hy0⟩
 ·rw [← List.cons_append, List.mem_append] at hj
  rcases hj with hj | hj
  ·obtain ⟨y, hy, hy0⟩ := h.todo_ j hj
   exact ⟨y, hkeep hy hy0, hy0⟩
  ·rw [List.mem_singleton.1 hj]
   exact ⟨_, hself, by omega⟩
 ·have hab : a ≠ b := by
   rintro rfl;exact ha (by simp)
  rw [List.getElem?_set_ne (fun e => hab e.symm)] at hy;obtain ⟨z, hz, hz0⟩ := h.done_ a j y hy hy0 (fun hin => ha (by rw [← List.cons_append, List.mem_append]; exact .inl hin)) haj;exact ⟨z, hkeep hz hz0, hz0⟩
 ·rw [← List.cons_append, List.pairwise_append]
  refine ⟨?_, by simp, fun a ha c hc y z hy hz => ?_⟩
  ·refine List.Pairwise.imp_of_mem ?_ h.sorted
   intro a c ha hc hq y z hy hz;exact hq y z (hold ha hy) (hold hc hz)
  ·rw [List.mem_singleton.1 hc, hself] at hz
   cases hz
   exact hmb a ha y (hold ha hy)
 ·intro a ha c hc y z hy hz
  cases ha
  have hym := hold (by simp) hy;rw [hm] at hym
  cases hym
  rw [← List.cons_append, List.mem_append] at hc
  rcases hc with hc | hc
  ·exact hmb c hc z (hold hc hz)
  ·rw [List.mem_singleton.1 hc, hself] at hz
   cases hz
   omega
theorem QueIs.pop {N : Nat} {out : List Int} {k : Nat} {todo : List Nat} (h : QueIs src arc N out (k :: todo)) (hk : ∀ b, arc k b → ∃ y : Int, out[b]? = some y ∧ 0 ≤ y) : QueIs src arc N out todo := by
 obtain ⟨m, hm, hm0⟩ := h.todo_ k (by simp);refine ⟨h.len, h.exact_, h.src_, fun j hj => h.todo_ j (List.mem_cons_of_mem _ hj), fun a j y hy hy0 ha haj => ?_, (List.pairwise_cons.1 h.sorted).2, fun a ha b hb x y hx hy => ?_⟩
 ·by_cases e : a = k
  ·subst e
   exact hk j haj
  ·exact h.done_ a j y hy hy0 (fun hin => by
    rcases List.mem_cons.1 hin with hin | hin
    ·exact e hin
    ·exact ha hin) haj
 ·have h1 := h.near k rfl b (List.mem_cons_of_mem _ hb) m y hm hy
  have h2 := (List.pairwise_cons.1 h.sorted).1 a (List.mem_of_mem_head? ha) m x hm hx;omega
theorem QueIs.start {N : Nat} {out : List Int} {todo : List Nat} (hl : out.length = N) (h : ∀ (k : Nat) (x : Int), out[k]? = some x → (x = 0 ∧ src k) ∨ (x = -1 ∧ ¬ src k)) (hs : ∀ k, src k ↔ k ∈ todo) (hN : ∀ k, src k → k < N) : QueIs src arc N out todo := by
 have hz : ∀ k, src k → out[k]? = some 0 := fun k hk => by
  have ho : out[k]? = some (out[k]'(by rw [hl]; exact hN k hk)) := List.getElem?_eq_getElem _
  rcases h k _ ho with ⟨h1, _⟩ | ⟨_, h1⟩
  ·rw [ho, h1]
  ·exact absurd hk h1
 have hzt : ∀ k x, k ∈ todo → out[k]? = some x → x = 0 := fun k x hk hx => by
  rw [hz k ((hs k).2 hk)] at hx;exact (Option.some.inj hx).symm
 refine ⟨hl, fun k x hx => ?_, fun k hk => ⟨0, hz k hk, by omega⟩, fun k hk => ⟨0, hz k ((hs k).2 hk), by omega⟩, fun a k x hx hx0 ha _ => ?_, ?_, fun a ha b hb x y hx hy => ?_⟩
 ·rcases h k x hx with ⟨rfl, h1⟩ | ⟨rfl, h1⟩
  ·exact ⟨fun _ => ⟨h1, fun m hm => absurd hm (by simp)⟩, fun h0 => absurd h0 (by omega)⟩
  ·exact ⟨fun h0 => absurd h0 (by omega), fun _ => rfl⟩
 ·rcases h a x hx with ⟨rfl, h1⟩ | ⟨rfl, h1⟩
  ·exact absurd ((hs a).1 h1) ha
  ·omega
 ·rw [List.pairwise_iff_forall_sublist]
  intro a b hab x y hx hy;have ha := hab.subset (List.mem_cons_self);have hb := hab.subset (List.mem_cons_of_mem a (List.mem_cons_self));rw [hzt a x ha hx, hzt b y hb hy];omega
 ·rw [hzt a x (List.mem_of_mem_head? ha) hx, hzt b y hb hy]
  omega
end
def arcE (fw : Bool) (es : List Ed) (a k : Nat) : Prop := ∃ e : Ed, e ∈ es ∧ (if fw = true then e.1 = (a : Int) ∧ e.2.2 = (k : Int) else e.2.2 = (a : Int) ∧ e.1 = (k : Int))
def srcE (l : List Int) (k : Nat) : Prop := (k : Int) ∈ l
noncomputable def distF (fw : Bool) (N : Nat) (es : List Ed) (l : List Int) : List Int :=
 open Classical in if h : ∃ out, DistIs (srcE l) (arcE fw es) N out then h.choose else []
theorem distF_of {fw : Bool} {N : Nat} {es : List Ed} {l : List Int} {out : List Int} (h : DistIs (srcE l) (arcE fw es) N out) : distF fw N es l = out := by
 have hx : ∃ out, DistIs (srcE l) (arcE fw es) N out := ⟨out, h⟩;unfold distF;rw [dif_pos hx];exact DistIs.uniq _ _ hx.choose_spec h
section
variable {N n : Nat} {es : List Ed} {out next : List Int} {i : Nat} {e : Ed}
end
def negs : List Int → Nat
 | [] => 0
 | x :: l => (if x < 0 then 1 else 0) + negs l
theorem negs_set : ∀ {l : List Int} {k : Nat} {z v : Int}, l[k]? = some z → z < 0 → 0 ≤ v → negs (l.set k v) + 1 = negs l
 | [], k, z, v, h, _, _ => by simp at h
 | x :: l, 0, z, v, h, hz, hv => by
  simp at h
  subst h;simp only [List.set_cons_zero, negs];rw [if_neg (by omega), if_pos hz];omega
 | x :: l, k + 1, z, v, h, hz, hv => by
  have := negs_set (l := l) (k := k) (v := v) (by simpa using h) hz hv;simp only [List.set_cons_succ, negs];omega
theorem negs_le : ∀ (l : List Int), negs l ≤ l.length
 | [] => zR
 | x :: l => by
  have := negs_le l;simp only [negs, List.length_cons]
  split <;> omega
section
variable {es : List Ed} {vs : List Int} {N rd i : Nat} {out nx : List Int}
theorem arcE_in {N : Nat} (h : ∀ e ∈ es, (0 ≤ e.1 ∧ e.1 < (N : Int)) ∧ (0 ≤ e.2.2 ∧ e.2.2 < (N : Int))) {fw : Bool} : ∀ a k, arcE fw es a k → a < N ∧ k < N := by
 rintro a k ⟨e, he, h1⟩;have := h e he
 cases fw
 ·rw [if_neg (by decide)] at h1
  omega
 ·rw [if_pos rfl] at h1
  omega
end
open Go.ChangeAt Go.ChangeShapes Go.RowKit Go.WideShapes
def inS (s : List Bool) (v : Nat) : Bool := s[v]?.getD false
theorem inS_some {s : List Bool} {v : Nat} {b : Bool} (h : s[v]? = some b) : inS s v = b := by unfold inS; rw [h]; rfl
theorem inS_big {s : List Bool} {v : Nat} (h : s.length ≤ v) : inS s v = false := by unfold inS; rw [List.getElem?_eq_none h]; rfl
theorem inS_get {s : List Bool} {v : Nat} (h : v < s.length) : s[v]? = some (inS s v) := by unfold inS; rw [List.getElem?_eq_getElem h]; rfl
theorem inS_set {s : List Bool} {v u : Nat} {b : Bool} (h : v < s.length) : inS (s.set v b) u = if v = u then b else inS s u := by
 unfold inS
 by_cases e : v = u
 ·subst e; rw [List.getElem?_set_self h]; simp
 ·rw [List.getElem?_set_ne e]; simp [e]
def setOf (n : Nat) (p : Nat → Bool) : List Bool := (List.range n).map p
theorem setOf_len (n : Nat) (p : Nat → Bool) : (setOf n p).length = n := by simp [setOf]
theorem setOf_get {n : Nat} {p : Nat → Bool} {v : Nat} (h : v < n) : (setOf n p)[v]? = some (p v) := by simp [setOf, h]
theorem inS_setOf {n : Nat} {p : Nat → Bool} {v : Nat} : inS (setOf n p) v = (decide (v < n) && p v) := by
 by_cases h : v < n
 ·rw [inS_some (setOf_get h)]; simp [h]
 ·rw [inS_big (by rw [setOf_len]; omega)]; simp [h]
def bv (b : Bool) : List Value := [.bool b]
abbrev SlB := Sl 1 bv
theorem flat_bv : Flat bv 1 := ⟨fun _ => rfl, fun x u h => by simp [bv] at h; subst h; rfl⟩
theorem info_bool : (Tryz.prog.info? 4).map (fun i => (i.zero, i.size, i.bytes)) = some (some (.bool false), 1, 1) := by kernel_rfl
theorem elem_bool : Elem Tryz.prog 135 4 1 1 := Elem.of Tryz.underlying135 info_bool rfl (by omega) (by omega)
theorem elem_int64 : Elem Tryz.prog 32 2 1 8 := Elem.of Tryz.underlying32 info_int64 rfl (by omega) (by omega)
section
variable {w w' : World} {lo hi n : Nat} {A : Option Addr}
theorem SlB.get {l : List Bool} (h : SlB w lo hi A n l) {k : Nat} (hk : k < n) :
  ∃ b off, A = some ⟨b, off, none⟩ ∧ lo ≤ b ∧ b < hi ∧ b < w.heap.size ∧ l[k]? = some (inS l k) ∧ w.cell? ⟨b, off + k, none⟩ = some (.bool (inS l k)) ∧ w.frozen? ⟨b, off + k, none⟩ = false := by
 obtain ⟨b, off, e, g1, g2, g3, hc⟩ := h.at_ (by omega);have hl : k < l.length := by rw [h.len]; exact hk
 have h0 := hc k (inS l k) (inS_get hl) 0 _ rfl;simp only [Nat.mul_one, Nat.add_zero] at h0;exact ⟨b, off, e, g1, g2, g3, inS_get hl, h0.1, h0.2⟩
theorem SlB.put {b off : Nat} {l : List Bool} (h : SlB w lo hi (some ⟨b, off, none⟩) n l) {k : Nat} (hk : k < n) (x : Bool) : SlB (w.setCell ⟨b, off + k, none⟩ (.bool x)) lo hi (some ⟨b, off, none⟩) n (l.set k x) := by
 have := h.putN hk (fun _ => rfl) x
 simpa [putCells, bv] using this
theorem SlI.put' {b off : Nat} {l : List Int} (h : SlI w lo hi (some ⟨b, off, none⟩) n l) {k : Nat} (hk : k < n) (x : Int) : SlI (w.setCell ⟨b, off + k, none⟩ (.int .i64 x)) lo hi (some ⟨b, off, none⟩) n (l.set k x) := h.put hk x
end
theorem SlB.made (w : World) (n : Nat) : SlB (w.alloc (.cells (madeCells #[.bool false] n) 4)) w.heap.size (w.heap.size + 1) (some ⟨w.heap.size, 0, none⟩) n (setOf n fun _ => false) := by
 refine ⟨setOf_len _ _, fun hn => ⟨w.heap.size, 0, rfl, zR, by omega, by simp, fun k x hx j u hu => ?_⟩⟩;have hk : k < n := by
  have := (List.getElem?_eq_some_iff.1 hx).1
  rwa [setOf_len] at this
 rw [setOf_get hk] at hx
 cases hx
 have hj : j = 0 := by
  have := (List.getElem?_eq_some_iff.1 hu).1
  simp [bv] at this
  exact this
 subst hj
 simp [bv] at hu
 subst hu;have hg := heap_alloc_new w (.cells (madeCells #[.bool false] n) 4);refine ⟨(cell_of_row _ _ _ _ _ (0, 0) hg).trans ?_, frozen_of_row _ _ _ _ _ hg⟩
 simp [madeCells, Value.cells, hk, Nat.mod_one]
theorem run_make_bool (n : Nat) (hn : n ≤ 1048576) (W : World) : (Instr.makeSlice 135 (.int .i64 (n : Int)) (.int .i64 (n : Int))).run Tryz.prog W = .ok (.slice (some ⟨W.heap.size, 0, none⟩) n n) (W.alloc (.cells (madeCells #[.bool false] n) 4)) := by
 obtain ⟨i0, hi0, hz0, hz1, hz2⟩ := info_parts info_bool;have h := make_row (P := Tryz.prog) 135 4 i0 _ _ n Tryz.underlying135 hi0 hz0 hz1 (by rw [hz2]; omega) (by omega) W;rw [Nat.mul_one] at h;exact h
def intK (n k : Nat) (p : Nat → Int) : List Int := (List.range n).map fun v => if v < k then p v else 0
theorem intK_len (n k : Nat) (p : Nat → Int) : (intK n k p).length = n := by simp [intK]
theorem intK_all (n : Nat) (p : Nat → Int) : intK n n p = (List.range n).map p := by
 unfold intK
 apply List.map_congr_left
 intro v hv;rw [if_pos (List.mem_range.1 hv)]
theorem intK_step {n k : Nat} {p : Nat → Int} (hk : k < n) : (intK n k p).set k (p k) = intK n (k + 1) p := by
 apply List.ext_getElem?
 intro i
 by_cases e : k = i
 ·subst e
  rw [List.getElem?_set_self (by rw [intK_len]; exact hk)]
  simp [intK, hk]
 ·rw [List.getElem?_set_ne e]
  by_cases hi : i < n
  ·simp only [intK, List.getElem?_map, List.getElem?_range hi, Option.map_some]
   have : (i < k) ↔ (i < k + 1) := by omega
   simp [this]
  ·rw [List.getElem?_eq_none (by rw [intK_len]; omega), List.getElem?_eq_none (by rw [intK_len]; omega)]
theorem run_make_int (n : Nat) (hn : n ≤ 1048576) (W : World) : (Instr.makeSlice 32 (.int .i64 (n : Int)) (.int .i64 (n : Int))).run Tryz.prog W = .ok (.slice (some ⟨W.heap.size, 0, none⟩) n n) (W.alloc (.cells (madeCells #[.int .i64 0] n) 2)) := by
 obtain ⟨i0, hi0, hz0, hz1, hz2⟩ := info_parts info_int64;have h := make_row (P := Tryz.prog) 32 2 i0 _ _ n Tryz.underlying32 hi0 hz0 hz1 (by rw [hz2]; omega) (by omega) W;rw [Nat.mul_one] at h;exact h
theorem SlI.made (w : World) (n : Nat) (p : Nat → Int) : SlI (w.alloc (.cells (madeCells #[.int .i64 0] n) 2)) w.heap.size (w.heap.size + 1) (some ⟨w.heap.size, 0, none⟩) n (intK n 0 p) := by
 refine ⟨intK_len _ _ _, fun hn => ⟨w.heap.size, 0, rfl, zR, by omega, by simp, fun k x hx j u hu => ?_⟩⟩;have hk : k < n := by
  have := (List.getElem?_eq_some_iff.1 hx).1
  rwa [intK_len] at this
 have hx0 : x = 0 := by
  simp only [intK, List.getElem?_map, List.getElem?_range hk, Option.map_some] at hx
  simp at hx
  exact hx.symm
 subst hx0;have hj : j = 0 := by
  have := (List.getElem?_eq_some_iff.1 hu).1
  simp [iv] at this
  exact this
 subst hj
 simp [iv] at hu
 subst hu;have hg := heap_alloc_new w (.cells (madeCells #[.int .i64 0] n) 2);refine ⟨(cell_of_row _ _ _ _ _ (0, 0) hg).trans ?_, frozen_of_row _ _ _ _ _ hg⟩
 simp [madeCells, hk, Nat.mod_one]
theorem mul64_one (n : Nat) (hn : n ≤ 1048576) (w : World) : Calls Tryz.prog 321 #[.int .u64 1, .int .u64 n] w fun e w' => e = .returned (.tuple #[.int .u64 0, .int .u64 n]) ∧ w = w' := by
 have m1 : bits .and .u64 (1 : Int) 4294967295 = 1 := bits_and_u64_nat 1 4294967295 (by omega) (by omega);have m2 : bits .and .u64 (n : Int) 4294967295 = n := by
  have h := bits_and_u64_nat n 4294967295 (by omega) (by omega);have e : n &&& 4294967295 = n := by
   rw [Nat.and_two_pow_sub_one_eq_mod n 32];omega
  rw [e] at h;exact h
 have d1 : (n : Int) / 4294967296 = 0 := by omega
 have m0 : bits .and .u64 (0 : Int) 4294967295 = 0 := bits_and_u64_nat 0 4294967295 (by omega) (by omega);go_enter Tryz.func321, Tryz.ntmps321
 go_wp2
 go_ret2;exact ⟨by simp [m1, m2, d1, m0], rfl⟩
theorem mul_one' (n : Nat) (hn : n ≤ 1048576) (w : World) : Calls Tryz.prog 266 #[.int .u64 1, .int .u64 n] w fun e w' => e = .returned (.tuple #[.int .u64 0, .int .u64 n]) ∧ w = w' := by
 have q := hide (mul64_one n hn w);go_enter Tryz.func266, Tryz.ntmps266
 go_wp2_with (go_at_call 321; refine q.out.mono ?_; rintro e w' ⟨rfl, rfl⟩)
 go_ret2;exact ⟨rfl, rfl⟩
def rowR (v z : Value) (m n : Nat) : List Value := List.replicate m v ++ List.replicate (n - m) z
theorem rowR_len (v z : Value) {m n : Nat} (h : m ≤ n) : (rowR v z m n).length = n := by unfold rowR; simp; omega
theorem rowR_get (v z : Value) {m n j : Nat} (h : j < m) : (rowR v z m n)[j]? = some v := by
 unfold rowR;rw [List.getElem?_append_left (by simpa using h)]
 simp [h]
theorem rowR_splice (v z : Value) {m k n : Nat} (h : m + k ≤ n) : splice (rowR v z m n) m (List.replicate k v) = rowR v z (m + k) n := by
 unfold splice rowR;rw [List.take_left' (by simp), List.drop_append, List.length_replicate, List.drop_replicate, List.drop_replicate, List.length_replicate];have e1 : m - (m + k) = 0 := by omega
 have e2 : n - m - (m + k - m) = n - (m + k) := by omega
 rw [e1, e2, List.replicate_zero, List.nil_append, ← List.append_assoc, List.replicate_append_replicate]
theorem repeatB_calls (A : Option Addr) (c : Nat) (b : Bool) (n : Nat) (w : World) (lo hi : Nat) (h : SlB w lo hi A 1 [b]) (hn0 : 0 < n) (hn : n ≤ 1048576) :
  Calls Tryz.prog 207 #[.slice A 1 c, .int .i64 n] w fun e w' => ∃ A', e = .returned (.slice A' n n) ∧ SlB w' w.heap.size w'.heap.size A' n (List.replicate n b) ∧ Below w.heap.size w w' := by
 have hmk := run_make_bool n hn;obtain ⟨b1, o1, rfl, g1, g2, g3, hc⟩ := h.at_ (by omega);have c0 := (hc 0 b rfl 0 _ rfl).1;simp only [Nat.zero_mul, Nat.add_zero] at c0;have hsz : (Tryz.prog.info? 4).map (·.size) = some 1 := by kernel_rfl
 have hb0 : Below w.heap.size w (w.alloc (.cells (madeCells #[.bool false] n) 4)) := bR.alloc zR _;have c1 := (hb0.cell (p := ⟨b1, o1, none⟩) g3).trans c0;have hrow : (w.alloc (.cells (madeCells #[.bool false] n) 4)).heap[w.heap.size]? = some (.cells (rowR (.bool b) (.bool false) 0 n).toArray 4 (0, 0)) := by
  rw [heap_alloc_new]
  congr 2
  apply Array.ext'
  rw [toList_madeCells_one]
  simp [rowR]
 replace hrow := hide hrow;replace hb0 := hide hb0;replace c1 := hide c1;replace hsz := hide hsz;have hE := hide elem_bool;clear hc h;go_enter Tryz.func207, Tryz.ntmps207;go_wp2_with (first | (go_at_call 266; (with_reducible refine (mul_one' n hn _).mono ?_); rintro e w' ⟨rfl, rfl⟩) | (with_reducible refine wpList_copy_splice rfl (.tmp 31) (.tmp 32) 135 135 rfl 4 Tryz.underlying135 hsz.out (some ⟨w.heap.size, 0, none⟩) (some ⟨b1, o1, none⟩) n n 1 c rfl rfl w.heap.size 0 (rowR (.bool b) (.bool false) 0 n) 4 hrow.out [.bool b] ?k1 (fun _ => ⟨rfl, ⟨b1, o1, none⟩, rfl, ?k2⟩) ?k3 ?k4 w.heap.size w hb0.out zR ?_))
 case k1 => show 1 = min 1 n; omega
 case k2 =>
  intro j v hj
  match j, hj with
  | 0, hj => simp at hj; subst hj; simpa [Addr.add] using c1.out
 case k3 => rw [rowR_len _ _ (Nat.zero_le _)]; simp; omega
 case k4 => intro v hv; simp at hv; subst hv; rfl
 rintro w1 hr1 hb1;have hr1' : Hid (w1.heap[w.heap.size]? = some (.cells (rowR (.bool b) (.bool false) 1 n).toArray 4 (0, 0))) := by
  have := rowR_splice (.bool b) (.bool false) (m := 0) (k := 1) (n := n) (by omega);rw [List.replicate_one, Nat.zero_add] at this
  show _ = _
  rw [← this];exact hr1.out
 clear hr1 hrow hb0 c1 hmk
 go_wp2
 go_loopg [8] n (fun N m wr => ∃ k : Nat, 1 ≤ k ∧ k ≤ n ∧ m = .int .i64 k ∧ Hid (wr.heap[w.heap.size]? = some (.cells (rowR (.bool b) (.bool false) k n).toArray 4 (0, 0))) ∧ Below w.heap.size w wr ∧ Hid (n - k ≤ N))
 case atStart => exact ⟨1, zR, hn0, rfl, hr1', hb1, by show _ ≤ _; omega⟩
 case round =>
  obtain ⟨k, hk1, hk, rfl, hr, hb, hN⟩ := hrel;clear hr1' hb1
  by_cases hlt : k < n
  ·have hcut : ∀ W : World, (Instr.slice 135 (.slice (some ⟨w.heap.size, 0, none⟩) n n) (some (.int .i64 (k : Int))) none none).run Tryz.prog W = .ok (.slice (some ⟨w.heap.size, k, none⟩) (n - k) (n - k)) W := fun W => by
    rw [run_cut elem_bool (some ⟨w.heap.size, 0, none⟩) n n k hk W];unfold cutA;rw [if_neg (by omega), Option.map_some, addr_add, Nat.zero_add, Nat.mul_one]
   have hhead : ∀ W : World, (Instr.slice 135 (.slice (some ⟨w.heap.size, 0, none⟩) n n) none (some (.int .i64 (k : Int))) none).run Tryz.prog W = .ok (.slice (some ⟨w.heap.size, 0, none⟩) k n) W := fun W => run_head elem_bool (some ⟨w.heap.size, 0, none⟩) n n k hk W
   have hzw := hide ((Array.getElem?_eq_some_iff.1 hr.out).1);have i1 : (0 : Int) ≤ (k : Int) := by omega
   have i2 : (k : Int) ≤ (n : Int) := by omega
   obtain ⟨N2, rfl⟩ : ∃ N2, gk = N2 + 1 := ⟨gk - 1, by have := hN.out; omega⟩;have k2 : Hid (∀ j v, (List.replicate (Nat.min k (n - k)) (Value.bool b))[j]? = some v → wr.drew.cell? ((⟨w.heap.size, 0, none⟩ : Addr).add j) = some v) := by
    intro j v hj;have hjk : j < Nat.min k (n - k) := by
     have := (List.getElem?_eq_some_iff.1 hj).1
     simpa using this
    have hjk2 : j < k := Nat.lt_of_lt_of_le hjk (Nat.min_le_left _ _);have hv : v = .bool b := List.eq_of_mem_replicate (List.mem_of_getElem? hj);subst hv;rw [addr_add, Nat.zero_add];refine (cell_of_row _ _ _ _ _ (0, 0) (show wr.drew.heap[w.heap.size]? = _ from hr.out)).trans ?_
    simpa using rowR_get _ _ hjk2
   have k3 : Hid (k + (List.replicate (Nat.min k (n - k)) (Value.bool b)).length ≤ (rowR (.bool b) (.bool false) k n).length) := by
    show _ ≤ _
    rw [rowR_len _ _ hk, List.length_replicate]; have : Nat.min k (n - k) ≤ n - k := Nat.min_le_right k (n - k); omega
   have k4 : Hid (∀ v, v ∈ List.replicate (Nat.min k (n - k)) (Value.bool b) → v.oneCell' = true) := fun v hv => by rw [List.eq_of_mem_replicate hv]; rfl
   have k5 : Hid (wr.drew.heap[w.heap.size]? = some (.cells (rowR (.bool b) (.bool false) k n).toArray 4 (0, 0))) := hr.out;have k6 := hide hb.drew
   go_wp2
   go_region_law (refine step_copy_splice (by rfl) (.tmp 41) (.tmp 44) 135 135 (by rfl) 4 Tryz.underlying135 hsz.out (some ⟨w.heap.size, k, none⟩) (some ⟨w.heap.size, 0, none⟩) (n - k) (n - k) k n (by go_simp) (by go_simp) w.heap.size k (rowR (.bool b) (.bool false) k n) 4 k5.out (List.replicate (Nat.min k (n - k)) (.bool b)) (List.length_replicate ..) (fun _ => ⟨rfl, ⟨w.heap.size, 0, none⟩, rfl, k2.out⟩) k3.out k4.out w.heap.size w k6.out zR ?_; intro w2 hr2 hb2)
   have hmn : k + Nat.min k (n - k) ≤ n := by have : Nat.min k (n - k) ≤ n - k := Nat.min_le_right k (n - k); omega
   have hmp : 1 ≤ Nat.min k (n - k) := by show 1 ≤ min k (n - k); omega
   have hr2' : Hid (w2.heap[w.heap.size]? = some (.cells (rowR (.bool b) (.bool false) (k + Nat.min k (n - k)) n).toArray 4 (0, 0))) := by
    show _ = _
    rw [← rowR_splice (.bool b) (.bool false) hmn];exact hr2.out
   clear hr2 hcut hhead
   try simp only [List.length_replicate, goInt]
   generalize Nat.min k (n - k) = q at *
   go_wp2
   go_roundg N2
   case measure => omega
   case rel => exact ⟨k + q, by omega, hmn, by rw [IntWalk.i64_in _ (by omega)]; go_num, hr2', hb2, by show _ ≤ _; have := hN.out; omega⟩
  ·have hkn : k = n := by omega
   subst hkn;have hzw := (Array.getElem?_eq_some_iff.1 hr.out).1
   go_wp2
   go_ret;refine ⟨_, rfl, ⟨by simp, fun _ => ⟨w.heap.size, 0, rfl, zR, hzw, hzw, fun i x hx j u hu => ?_⟩⟩, hb⟩
   have hik : i < k := by
    have := (List.getElem?_eq_some_iff.1 hx).1
    simpa using this
   have hxb : x = b := List.eq_of_mem_replicate (List.mem_of_getElem? hx);subst hxb;have hj : j = 0 := by
    have := (List.getElem?_eq_some_iff.1 hu).1
    simp [bv] at this
    exact this
   subst hj
   simp [bv] at hu
   subst hu;refine ⟨(cell_of_row _ _ _ _ _ (0, 0) hr.out).trans ?_, frozen_of_row _ _ _ _ _ hr.out⟩;have := rowR_get (.bool x) (.bool false) (m := k) (n := k) hik
   simpa using this
theorem repeatI_calls (A : Option Addr) (c : Nat) (b : Int) (n : Nat) (w : World) (lo hi : Nat) (h : SlI w lo hi A 1 [b]) (hn0 : 0 < n) (hn : n ≤ 1048576) :
  Calls Tryz.prog 221 #[.slice A 1 c, .int .i64 n] w fun e w' => ∃ A', e = .returned (.slice A' n n) ∧ SlI w' w.heap.size w'.heap.size A' n (List.replicate n b) ∧ Below w.heap.size w w' := by
 have hmk := run_make_int n hn;obtain ⟨b1, o1, rfl, g1, g2, g3, hc⟩ := h.at_ (by omega);have c0 := (hc 0 b rfl 0 _ rfl).1;simp only [Nat.zero_mul, Nat.add_zero] at c0;have hsz : (Tryz.prog.info? 2).map (·.size) = some 1 := by kernel_rfl
 have hb0 : Below w.heap.size w (w.alloc (.cells (madeCells #[.int .i64 0] n) 2)) := bR.alloc zR _;have c1 := (hb0.cell (p := ⟨b1, o1, none⟩) g3).trans c0;have hrow : (w.alloc (.cells (madeCells #[.int .i64 0] n) 2)).heap[w.heap.size]? = some (.cells (rowR (.int .i64 b) (.int .i64 0) 0 n).toArray 2 (0, 0)) := by
  rw [heap_alloc_new]
  congr 2
  apply Array.ext'
  rw [toList_madeCells_one]
  simp [rowR]
 replace hrow := hide hrow;replace hb0 := hide hb0;replace c1 := hide c1;replace hsz := hide hsz;have hE := hide elem_int64;clear hc h;go_enter Tryz.func221, Tryz.ntmps221;go_wp2_with (first | (go_at_call 266; (with_reducible refine (mul_one' n hn _).mono ?_); rintro e w' ⟨rfl, rfl⟩) | (with_reducible refine wpList_copy_splice rfl (.tmp 31) (.tmp 32) 32 32 rfl 2 Tryz.underlying32 hsz.out (some ⟨w.heap.size, 0, none⟩) (some ⟨b1, o1, none⟩) n n 1 c rfl rfl w.heap.size 0 (rowR (.int .i64 b) (.int .i64 0) 0 n) 2 hrow.out [.int .i64 b] ?k1 (fun _ => ⟨rfl, ⟨b1, o1, none⟩, rfl, ?k2⟩) ?k3 ?k4 w.heap.size w hb0.out zR ?_))
 case k1 => show 1 = min 1 n; omega
 case k2 =>
  intro j v hj
  match j, hj with
  | 0, hj => simp at hj; subst hj; simpa [Addr.add] using c1.out
 case k3 => rw [rowR_len _ _ (Nat.zero_le _)]; simp; omega
 case k4 => intro v hv; simp at hv; subst hv; rfl
 rintro w1 hr1 hb1;have hr1' : Hid (w1.heap[w.heap.size]? = some (.cells (rowR (.int .i64 b) (.int .i64 0) 1 n).toArray 2 (0, 0))) := by
  have := rowR_splice (.int .i64 b) (.int .i64 0) (m := 0) (k := 1) (n := n) (by omega);rw [List.replicate_one, Nat.zero_add] at this
  show _ = _
  rw [← this];exact hr1.out
 clear hr1 hrow hb0 c1 hmk
 go_wp2
 go_loopg [8] n (fun N m wr => ∃ k : Nat, 1 ≤ k ∧ k ≤ n ∧ m = .int .i64 k ∧ Hid (wr.heap[w.heap.size]? = some (.cells (rowR (.int .i64 b) (.int .i64 0) k n).toArray 2 (0, 0))) ∧ Below w.heap.size w wr ∧ Hid (n - k ≤ N))
 case atStart => exact ⟨1, zR, hn0, rfl, hr1', hb1, by show _ ≤ _; omega⟩
 case round =>
  obtain ⟨k, hk1, hk, rfl, hr, hb, hN⟩ := hrel;clear hr1' hb1
  by_cases hlt : k < n
  ·have hcut : ∀ W : World, (Instr.slice 32 (.slice (some ⟨w.heap.size, 0, none⟩) n n) (some (.int .i64 (k : Int))) none none).run Tryz.prog W = .ok (.slice (some ⟨w.heap.size, k, none⟩) (n - k) (n - k)) W := fun W => by
    rw [run_cut elem_int64 (some ⟨w.heap.size, 0, none⟩) n n k hk W];unfold cutA;rw [if_neg (by omega), Option.map_some, addr_add, Nat.zero_add, Nat.mul_one]
   have hhead : ∀ W : World, (Instr.slice 32 (.slice (some ⟨w.heap.size, 0, none⟩) n n) none (some (.int .i64 (k : Int))) none).run Tryz.prog W = .ok (.slice (some ⟨w.heap.size, 0, none⟩) k n) W := fun W => run_head elem_int64 (some ⟨w.heap.size, 0, none⟩) n n k hk W
   have hzw := hide ((Array.getElem?_eq_some_iff.1 hr.out).1);have i1 : (0 : Int) ≤ (k : Int) := by omega
   have i2 : (k : Int) ≤ (n : Int) := by omega
   obtain ⟨N2, rfl⟩ : ∃ N2, gk = N2 + 1 := ⟨gk - 1, by have := hN.out; omega⟩;have k2 : Hid (∀ j v, (List.replicate (Nat.min k (n - k)) (Value.int .i64 b))[j]? = some v → wr.drew.cell? ((⟨w.heap.size, 0, none⟩ : Addr).add j) = some v) := by
    intro j v hj;have hjk : j < Nat.min k (n - k) := by
     have := (List.getElem?_eq_some_iff.1 hj).1
     simpa using this
    have hjk2 : j < k := Nat.lt_of_lt_of_le hjk (Nat.min_le_left _ _);have hv : v = .int .i64 b := List.eq_of_mem_replicate (List.mem_of_getElem? hj);subst hv;rw [addr_add, Nat.zero_add];refine (cell_of_row _ _ _ _ _ (0, 0) (show wr.drew.heap[w.heap.size]? = _ from hr.out)).trans ?_
    simpa using rowR_get _ _ hjk2
   have k3 : Hid (k + (List.replicate (Nat.min k (n - k)) (Value.int .i64 b)).length ≤ (rowR (.int .i64 b) (.int .i64 0) k n).length) := by
    show _ ≤ _
    rw [rowR_len _ _ hk, List.length_replicate]; have : Nat.min k (n - k) ≤ n - k := Nat.min_le_right k (n - k); omega
   have k4 : Hid (∀ v, v ∈ List.replicate (Nat.min k (n - k)) (Value.int .i64 b) → v.oneCell' = true) := fun v hv => by rw [List.eq_of_mem_replicate hv]; rfl
   have k5 : Hid (wr.drew.heap[w.heap.size]? = some (.cells (rowR (.int .i64 b) (.int .i64 0) k n).toArray 2 (0, 0))) := hr.out;have k6 := hide hb.drew
   go_wp2
   go_region_law (refine step_copy_splice (by rfl) (.tmp 41) (.tmp 44) 32 32 (by rfl) 2 Tryz.underlying32 hsz.out (some ⟨w.heap.size, k, none⟩) (some ⟨w.heap.size, 0, none⟩) (n - k) (n - k) k n (by go_simp) (by go_simp) w.heap.size k (rowR (.int .i64 b) (.int .i64 0) k n) 2 k5.out (List.replicate (Nat.min k (n - k)) (.int .i64 b)) (List.length_replicate ..) (fun _ => ⟨rfl, ⟨w.heap.size, 0, none⟩, rfl, k2.out⟩) k3.out k4.out w.heap.size w k6.out zR ?_; intro w2 hr2 hb2)
   have hmn : k + Nat.min k (n - k) ≤ n := by have : Nat.min k (n - k) ≤ n - k := Nat.min_le_right k (n - k); omega
   have hmp : 1 ≤ Nat.min k (n - k) := by show 1 ≤ min k (n - k); omega
   have hr2' : Hid (w2.heap[w.heap.size]? = some (.cells (rowR (.int .i64 b) (.int .i64 0) (k + Nat.min k (n - k)) n).toArray 2 (0, 0))) := by
    show _ = _
    rw [← rowR_splice (.int .i64 b) (.int .i64 0) hmn];exact hr2.out
   clear hr2 hcut hhead
   try simp only [List.length_replicate, goInt]
   generalize Nat.min k (n - k) = q at *
   go_wp2
   go_roundg N2
   case measure => omega
   case rel => exact ⟨k + q, by omega, hmn, by rw [IntWalk.i64_in _ (by omega)]; go_num, hr2', hb2, by show _ ≤ _; have := hN.out; omega⟩
  ·have hkn : k = n := by omega
   subst hkn;have hzw := (Array.getElem?_eq_some_iff.1 hr.out).1
   go_wp2
   go_ret;refine ⟨_, rfl, ⟨by simp, fun _ => ⟨w.heap.size, 0, rfl, zR, hzw, hzw, fun i x hx j u hu => ?_⟩⟩, hb⟩
   have hik : i < k := by
    have := (List.getElem?_eq_some_iff.1 hx).1
    simpa using this
   have hxb : x = b := List.eq_of_mem_replicate (List.mem_of_getElem? hx);subst hxb;have hj : j = 0 := by
    have := (List.getElem?_eq_some_iff.1 hu).1
    simp [iv] at this
    exact this
   subst hj
   simp [iv] at hu
   subst hu;refine ⟨(cell_of_row _ _ _ _ _ (0, 0) hr.out).trans ?_, frozen_of_row _ _ _ _ _ hr.out⟩;have := rowR_get (.int .i64 x) (.int .i64 0) (m := k) (n := k) hik
   simpa using this
def OwnQ (w : World) (base : Nat) (A : Option Addr) (n c : Nat) (l : List Int) : Prop :=
 l.length = n ∧ ((A = none ∧ n = 0 ∧ c = 0) ∨ ∃ g off cur, A = some ⟨g, off, none⟩ ∧ base ≤ g ∧ w.heap[g]? = some (.cells cur 2 (0, 0)) ∧ n ≤ c ∧ c ≤ maxLen ∧ off + c ≤ cur.size ∧ ∀ (i : Nat) (x : Int), l[i]? = some x → cur[off + i]? = some (.int .i64 x))
section
variable {w w' : World} {base n c : Nat} {A : Option Addr} {l : List Int}
theorem OwnQ.len (h : OwnQ w base A n c l) : l.length = n := h.1
theorem OwnQ.of (h : Own 1 iv w base 2 A n c l) : OwnQ w base A n c l := by
 refine ⟨h.1, ?_⟩
 rcases h.2.2 with ⟨hv, h0⟩ | ⟨g, cap, cur, hv, hb, hg, hnc, hcm, hcs, htake⟩
 ·injection hv with h1 _ h3
  exact .inl ⟨h1, h0, h3⟩
 ·injection hv with h1 _ h3
  subst h1 h3;refine .inr ⟨g, 0, cur, rfl, hb, hg, hnc, hcm, by omega, fun i x hx => ?_⟩;have h1 := flat_at flat_iv l i x hx 0 _ rfl;rw [← htake] at h1;rw [List.getElem?_take] at h1
  split at h1
  ·simpa using h1
  ·cases h1
theorem OwnQ.keep (h : OwnQ w base A n c l) (hk : ∀ g, base ≤ g → (Value.slice A n c).ownBlock = some g → w'.heap[g]? = w.heap[g]?) : OwnQ w' base A n c l := by
 refine ⟨h.1, ?_⟩
 rcases h.2 with hn | ⟨g, off, cur, rfl, hb, hg, rest⟩
 ·exact .inl hn
 ·exact .inr ⟨g, off, cur, rfl, hb, (hk g hb rfl).trans hg, rest⟩
theorem OwnQ.lt (h : OwnQ w base A n c l) : ∀ g, (Value.slice A n c).ownBlock = some g → base ≤ g ∧ g < w.heap.size := by
 intro g hg
 rcases h.2 with ⟨rfl, _⟩ | ⟨g', off, cur, rfl, hb, hg', rest⟩
 ·cases hg
 ·cases hg
  exact ⟨hb, (Array.getElem?_eq_some_iff.1 hg').1⟩
theorem OwnQ.kept {row : Option Nat} (h : OwnQ w base A n c l) (hg : w.grownBy w' row) (hne : (Value.slice A n c).ownBlock = none ∨ (Value.slice A n c).ownBlock ≠ row) : OwnQ w' base A n c l :=
 h.keep fun g _ e => hg.block g (h.lt g e).2 (by
  rcases hne with hne | hne
  ·rw [e] at hne; cases hne
  ·rw [e] at hne; exact hne)
theorem OwnQ.alloc (h : OwnQ w base A n c l) (o : Obj) : OwnQ (w.alloc o) base A n c l := h.kept (World.grownBy_alloc w o none) (by cases (Value.slice A n c).ownBlock <;> simp)
theorem OwnQ.drewN (h : OwnQ w base A n c l) (k : Nat) : OwnQ (w.drewN k) base A n c l := h
theorem OwnQ.head {x : Int} {r : List Int} (h : OwnQ w base A n c (x :: r)) : ∃ g off, A = some ⟨g, off, none⟩ ∧ w.cell? ⟨g, off, none⟩ = some (.int .i64 x) ∧ 0 < n ∧ n ≤ c := by
 have hl := h.1
 simp at hl
 rcases h.2 with ⟨rfl, h0, _⟩ | ⟨g, off, cur, rfl, hb, hg, h1, h2, h3, h4⟩
 ·omega
 ·refine ⟨g, off, rfl, (cell_of_row w g off cur _ (0, 0) hg).trans ?_, by omega, h1⟩
  have := h4 0 x rfl
  simpa using this
theorem OwnQ.cut {x : Int} {r : List Int} (h : OwnQ w base A n c (x :: r)) : OwnQ w base (cutA A 1 c 1) (n - 1) (c - 1) r := by
 have hl := h.1
 simp at hl
 rcases h.2 with ⟨rfl, h0, _⟩ | ⟨g, off, cur, rfl, hb, hg, h1, h2, h3, h4⟩
 ·omega
 ·refine ⟨by omega, .inr ?_⟩
  by_cases hc : c = 1
  ·subst hc
   refine ⟨g, off, cur, by simp [cutA], hb, hg, by omega, by unfold maxLen; omega, by omega, fun i y hy => ?_⟩;have hr : r = [] := List.eq_nil_of_length_eq_zero (by omega);subst hr
   simp at hy
  ·refine ⟨g, off + 1, cur, by unfold cutA; rw [if_neg hc, Option.map_some, addr_add], hb, hg, by omega, by omega, by omega, fun i y hy => ?_⟩
   have := h4 (i + 1) y (by simpa using hy);rw [show off + 1 + i = off + (i + 1) by omega];exact this
end
theorem run_appQ (w : World) (ty : TypeId) {base n c : Nat} {A : Option Addr} {l : List Int} (h : OwnQ w base A n c l) (ad : Addr) (d : Nat) (x : Int) (hx : w.cell? ad = some (.int .i64 x)) (hn : n + 1 ≤ 1048576) (hbase : base ≤ w.heap.size) :
  ∃ A' c' w', (Builtin.append_ #[32, 32] ty #[.slice A n c, .slice (some ad) 1 d]).run Tryz.prog w = .ok (.slice A' (n + 1) c') w' ∧ OwnQ w' base A' (n + 1) c' (l ++ [x]) ∧ w.grownBy w' (Value.slice A n c).ownBlock ∧
   ((Value.slice A' (n + 1) c').ownBlock = (Value.slice A n c).ownBlock ∨ (Value.slice A' (n + 1) c').ownBlock = some w.heap.size) := by
 obtain ⟨i, hi, hz, hs, hby⟩ := info_parts info_int64;have ht := Tryz.underlying32;have hnews : ∀ j u, ([Value.int .i64 x] : List Value)[j]? = some u → w.cell? (ad.add j) = some u := by
  intro j u hj
  match j, hj with
  | 0, hj => simp at hj; subst hj; simpa [Addr.add] using hx
 have hzc : (Value.int .i64 0).cells.size = 1 := rfl;have grown : ∀ (old : Nat) (olds : List Value), olds = l.map (Value.int .i64) → old < n + 1 → ∀ row : Option Nat,
   OwnQ (w.drew.alloc (.cells (olds.toArray ++ [Value.int .i64 x].toArray ++ Builtin.zeroCells (Value.int .i64 0).cells (grownCap w (n + 1) old 2 - (n + 1))) 2)) base (some ⟨w.heap.size, 0, none⟩) (n + 1) (grownCap w (n + 1) old 2) (l ++ [x]) ∧
   w.grownBy (w.drew.alloc (.cells (olds.toArray ++ [Value.int .i64 x].toArray ++ Builtin.zeroCells (Value.int .i64 0).cells (grownCap w (n + 1) old 2 - (n + 1))) 2)) row := by
  intro old olds hol ho row;have hge := grownCap_ge w (n + 1) old 2;have hcm : grownCap w (n + 1) old 2 ≤ maxLen := grownCap_le_maxLen w (n + 1) old 2 (by unfold maxLen; omega);refine ⟨⟨by rw [List.length_append, h.1]; rfl, .inr ⟨w.heap.size, 0, _, rfl, hbase, heap_alloc_new w.drew _, hge, hcm, ?_, fun i y hy => ?_⟩⟩, ⟨rfl, rfl, rfl, by simp, fun k hk _ => Below.heap_alloc w.drew _ k hk⟩⟩
  ·simp only [Array.size_append, List.size_toArray, size_zeroCells, hzc, hol, List.length_map, h.1, List.length_singleton]
   omega
  ·have hil : i < n + 1 := by
    have := (List.getElem?_eq_some_iff.1 hy).1;rw [List.length_append, h.1] at this
    simpa using this
   have e1 : (olds.toArray ++ [Value.int .i64 x].toArray : Array Value) = ((l ++ [x]).map (Value.int .i64)).toArray := by rw [hol]; simp
   rw [Nat.zero_add, Array.getElem?_append_left (by rw [e1]; simp [h.1]; omega), e1];simp only [List.getElem?_toArray, List.getElem?_map, hy, Option.map_some]
 rcases h.2 with ⟨rfl, rfl, rfl⟩ | ⟨g, off, cur, rfl, hb, hg, hnc, hcm, hcs, hcur⟩
 ·have hl : l = [] := List.eq_nil_of_length_eq_zero h.1
  subst hl;have hr := run_append_nil (P := Tryz.prog) w 32 ty 2 i _ ht hi hz ad 1 d [.int .i64 x] (by rw [hs]; rfl) hnews (by omega) (by omega) (by rw [hby]; omega);obtain ⟨g1, g2⟩ := grown 0 [] rfl (by omega) (Value.ownBlock (.slice none 0 0));simp only [Nat.zero_add, Array.empty_append] at g1 g2 ⊢;exact ⟨_, _, _, hr, g1, g2, .inr rfl⟩
 ·by_cases hroom : n + 1 ≤ c
  ·have hcell : (w.cell? ⟨g, off + n, none⟩).isSome = true := by
    rw [cell_of_row w g _ cur _ (0, 0) hg, Array.getElem?_eq_getElem (by omega)]
    rfl
   have hr := run_append_room_cells (P := Tryz.prog) w 32 ty 2 i ht hi g off n c ad 1 d [.int .i64 x] (by rw [hs]; rfl) hnews (by intro u hu; simp at hu; subst hu; rfl) hroom
    (fun j hj => by
     simp at hj
     subst hj;rw [hs, Nat.mul_one, Nat.add_zero];exact hcell) (fun j hj => frozen_of_row w g _ cur _ hg)
   refine ⟨_, _, _, hr, ?_, ?_, .inl rfl⟩
   ·rw [hs, Nat.mul_one]
    show OwnQ (w.setCell ⟨g, off + n, none⟩ (.int .i64 x)) base _ _ _ _
    refine ⟨by rw [List.length_append, h.1]; rfl, .inr ⟨g, off, cur.setIfInBounds (off + n) (.int .i64 x), rfl, hb, heap_setCell_same w g _ cur _ _ hg, hroom, hcm, by simpa using hcs, fun i y hy => ?_⟩⟩
    by_cases hin : i < n
    ·rw [Array.getElem?_setIfInBounds_ne (by omega)]
     rw [List.getElem?_append_left (by rw [h.1]; exact hin)] at hy;exact hcur i y hy
    ·have : i = n := by
      have := (List.getElem?_eq_some_iff.1 hy).1;rw [List.length_append, h.1] at this
      simp at this
      omega
     subst this;rw [List.getElem?_append_right (by rw [h.1]; exact zR), h.1, Nat.sub_self] at hy
     simp at hy
     subst hy
     simp [Array.getElem?_setIfInBounds]
     omega
   ·rw [hs, Nat.mul_one]
    show w.grownBy (w.setCell ⟨g, off + n, none⟩ (.int .i64 x)) _
    exact ⟨rfl, rfl, rfl, by rw [World.size_setCell]; exact zR, fun k hk hne => Below.heap_setCell w _ _ k (fun e => hne (by rw [e]; rfl))⟩
  ·have holds : ∀ j u, (l.map (Value.int .i64))[j]? = some u → w.cell? ((⟨g, off, none⟩ : Addr).add j) = some u := by
    intro j u hj;rw [List.getElem?_map] at hj;obtain ⟨y, hy, rfl⟩ := Option.map_eq_some_iff.1 hj;rw [addr_add, cell_of_row w g _ cur _ (0, 0) hg];exact hcur j y hy
   have hr := run_append_grow (P := Tryz.prog) w 32 ty 2 i _ ht hi hz ⟨g, off, none⟩ n c (l.map (Value.int .i64)) (by rw [List.length_map, h.1, hs, Nat.mul_one]) holds ad 1 d [.int .i64 x] (by rw [hs]; rfl) hnews (by omega) (by omega) (growslice_fits (by omega) (by rw [hby]; omega));obtain ⟨g1, g2⟩ := grown c _ rfl (by omega) (Value.ownBlock (.slice (some ⟨g, off, none⟩) n c));exact ⟨_, _, _, hr, g1, g2, .inr rfl⟩
theorem wpList_appQ {w : World} {ops : Array Oper} {rest : List Oper} {o : Oper} {a : Act} {Q : Exit → Act → World → Prop} (hgd : o.guard = none) (s x : Operand)
  (ho : o.op = .call { callee := .builtin .append, args := #[s, x], argTypes := #[32, 32] })
  {base n c : Nat} {A : Option Addr} {l : List Int} (hs : a.eval s = .slice A n c) (h : OwnQ w base A n c l) (ad : Addr) (d : Nat) (y : Int) (hx : a.eval x = .slice (some ad) 1 d) (hy : w.cell? ad = some (.int .i64 y)) (hn : n + 1 ≤ 1048576) (hbase : base ≤ w.heap.size)
  (hK : ∀ A' c' w', OwnQ w' base A' (n + 1) c' (l ++ [y]) → w.grownBy w' (Value.slice A n c).ownBlock → Below base w w' →
   ((Value.slice A' (n + 1) c').ownBlock = (Value.slice A n c).ownBlock ∨ (Value.slice A' (n + 1) c').ownBlock = some w.heap.size) → wpList Tryz.prog ops Q rest (a.put o.dst (.slice A' (n + 1) c')) w') : wpList Tryz.prog ops Q (o :: rest) a w := by
 refine wpList_plain hgd fun K hK' => ?_
 obtain ⟨A', c', w', h1, h2, h3, h4⟩ := run_appQ w o.type h ad d y hy hn hbase;unfold Oper.wp execOp;simp only [ho, resolve, invoke, builtin, Sem.run_bind, Sem.run_pure, Result.andThen_ok, List.map_toArray, List.map_cons, List.map_nil, hs, hx, h1];exact hK' _ _ (hK A' c' w' h2 h3 (bR.grown h3 hbase fun k hk => (h.lt k hk).1) h4)
end Go.Proofs.YtnhomkmfbngmgaaGreatDoor
