/-
  Lemmas that the law of this claim leans on. Conditions: sizes.
-/
import Derived.Test.YtnhomkmfbngmgaaGreatDoorBaseC
import Derived.Test.YtnhomkmfbngmgaaGreatDoorBaseE
import Derived.Test.YtnhomkmfbngmgaaGreatDoorBaseF
import Derived.Test.YtnhomkmfbngmgaaGreatDoorBaseG
import Derived.Maps.OwnSet
import Derived.Maps.Views
import Derived.Carry
import Derived.Deep.RegionHeld3
set_option maxHeartbeats 12800000
set_option maxRecDepth 100000
set_option linter.unusedSimpArgs false
set_option linter.unusedVariables false
namespace Go.Proofs.YtnhomkmfbngmgaaGreatDoor
open Go.ChangeShapes Go.WideShapes Go.ChangeAt Go.RowKit
open Go.Maps (Keyed keyOf_int_mk)
def MapN (w : World) (b n : Nat) (f : Int → Option Int) : Prop :=
 ∃ D : DataW Unit, w.ownsMap Tryz.prog 2 (plainElem Tryz.prog 2) b n D ∧ Maps.size D = n ∧ ∀ k : Int, (Lit.int .i64 k).wf = true → Maps.has D (.int .i64 k) = (f k).isSome ∧ ∀ c, f k = some c → D.atKey (.int .i64 k) (.lit (.int .i64 0)) = .lit (.int .i64 c)
theorem keyedN : Keyed Tryz.prog 2 := Go.Maps.int_keyed Tryz.underlying2
theorem zeroN (w : World) : (zeroValue 2).run Tryz.prog w = .ok (.int .i64 0) w := by kernel_rfl
theorem owns_tightN {H : Type} {P : Program} {k : TypeId} {R : Value → Option (DataW H × List MemPlace)} {w : World} {b n : Nat} {D : DataW H} (h : w.ownsMap P k R b n D) : w.ownsMap P k R b (Maps.size D) D := by
 obtain ⟨es, clock, hb, F, hs, rfl⟩ := h;exact ⟨es, clock, hb, F, by simp [Maps.size, length_sorted], rfl⟩
section
variable {w w' : World} {b n : Nat} {f : Int → Option Int}
theorem MapN.made (w : World) : MapN (w.alloc (.map #[] 0)) w.heap.size 0 (fun _ => none) :=
 ⟨.map [], World.ownsMap_made _ _ _ _, rfl, fun k _ => ⟨rfl, fun c h => by cases h⟩⟩
theorem MapN.lt (h : MapN w b n f) : b < w.heap.size := by obtain ⟨D, h1, _⟩ := h; exact h1.lt
theorem MapN.keep (h : MapN w b n f) (hb : w'.heap[b]? = w.heap[b]?) : MapN w' b n f := by
 obtain ⟨D, ⟨es, clock, h1, r⟩, h2⟩ := h;exact ⟨D, ⟨es, clock, hb.trans h1, r⟩, h2⟩
theorem MapN.lookOk (h : MapN w b n f) {k : Int} (hk : (Lit.int .i64 k).wf = true) : ∃ c : Int, (Instr.lookup 299 (.map (some b)) (.int .i64 k) true).run Tryz.prog w = .ok (.tuple #[.int .i64 c, .bool (f k).isSome]) w ∧ ∀ c', f k = some c' → c = c' := by
 obtain ⟨D, h1, -, h2⟩ := h;obtain ⟨h3, h4⟩ := h2 k hk;obtain ⟨v, ps, hr, hv⟩ := h1.look_ok keyedN Tryz.underlying299 (zeroN w) (plainElem_int Tryz.underlying2 (by decide)) (keyOf_int_mk Tryz.underlying2 hk);obtain ⟨c, rfl, hc, hw⟩ := plainElem_int_inv Tryz.underlying2 hv;simp only [Prod.mk.injEq] at hc;rw [h3] at hr;refine ⟨c, hr, fun c' hc' => ?_⟩;rw [h4 c' hc'] at hc;have := hc.1;injection this with e;injection e with _ e;exact e.symm
theorem MapN.len (h : MapN w b n f) (ty : TypeId) : (Builtin.len_ #[299] ty #[.map (some b)]).run Tryz.prog w = .ok (.int .i64 (n : Int)) w := by
 obtain ⟨D, h1, h2, -⟩ := h;rw [h1.len Tryz.underlying299 ty, h2]
theorem MapN.add (h : MapN w b n f) (hn : n < maxLen) {k c : Int} (hk : (Lit.int .i64 k).wf = true) (hc : (Lit.int .i64 c).wf = true) (hno : f k = none) :
  ∃ w', (Instr.mapUpdate 299 (.map (some b)) (.int .i64 k) (.int .i64 c)).run Tryz.prog w = .ok () w' ∧ MapN w' b (n + 1) (fun i => if i = k then some c else f i) ∧ w.grownBy w' (some b) := by
 obtain ⟨D, h1, hs, h2⟩ := h;have hm := h1.isMap;obtain ⟨w', hr, h3, h4⟩ := h1.update keyedN Tryz.underlying299 hn (keyOf_int_mk Tryz.underlying2 hk) (plainElem_int Tryz.underlying2 hc);have hnh : Maps.has D (.int .i64 k) = false := by rw [(h2 k hk).1, hno]; rfl
 have hsz : Maps.size (D.put (.int .i64 k) (.lit (.int .i64 c))) = n + 1 := by
  rw [Go.Maps.size_put (h1.tidy keyedN), hnh, hs]
  rfl
 refine ⟨w', hr, ⟨_, hsz ▸ owns_tightN h3, hsz, fun i hi => ?_⟩, h4⟩
 by_cases e : i = k
 ·subst e
  simp only [if_true];refine ⟨Go.Maps.has_true_of_atKey fun z => Go.Maps.atKey_put_same hm (by trivial) _ z, fun c' hc' => ?_⟩
  cases hc'
  exact Go.Maps.atKey_put_same hm (by trivial) _ _
 ·simp only [if_neg e]
  have hne : (Lit.int .i64 i) ≠ (Lit.int .i64 k) := fun h => e (by injection h)
  obtain ⟨h5, h6⟩ := h2 i hi;refine ⟨?_, fun c' hc' => by rw [Go.Maps.atKey_put_other hne]; exact h6 c' hc'⟩;rw [← h5];exact Go.Maps.has_put_other hne _
end
theorem nrm_len {l : List Nat} : ∀ {k : Nat}, k ≤ l.length → (nrmE l k).1.length = k
 | 0, _ => rfl
 | k + 1, h => by
  have hx : l[k]? = some (l[k]'(by omega)) := List.getElem?_eq_getElem _
  conv => lhs; unfold nrmE
  rw [hx];dsimp only;rw [List.length_append, nrm_len (by omega)]
  rfl
theorem nrm_succ {l : List Nat} {k x : Nat} (hx : l[k]? = some x) : nrmE l (k + 1) = ((nrmE l k).1 ++ [(plcE (nrmE l k).2 x : Int)], if x ∈ (nrmE l k).2 then (nrmE l k).2 else (nrmE l k).2 ++ [x]) := by
 conv => lhs; unfold nrmE
 rw [hx]
theorem nrm_pre {l : List Nat} {j k : Nat} (h : j ≤ k) (hk : k ≤ l.length) : (nrmE l j).1 <+: (nrmE l k).1 := by
 induction k with
 | zero =>
  obtain rfl : j = 0 := by omega
  exact List.prefix_refl _
 | succ k ih =>
  rcases Nat.lt_or_ge k j with h1 | h1
  ·obtain rfl : j = k + 1 := by omega
   exact List.prefix_refl _
  ·have hx : l[k]? = some (l[k]'(by omega)) := List.getElem?_eq_getElem _
   rw [nrm_succ hx];exact (ih h1 (by omega)).trans (List.prefix_append _ _)
theorem nrm_blk {l : List Nat} {k : Nat} : (nrmE l k).2.length ≤ k := by
 induction k with
 | zero => exact zR
 | succ k ih =>
  cases hl : l[k]? with
  | none => unfold nrmE; rw [hl]; dsimp only; omega
  | some y =>
   rw [nrm_succ hl];dsimp only
   split
   ·omega
   ·rw [List.length_append]; simp; omega
theorem plc_old {l : List Nat} {m j : Nat} (hj : j ∈ l) : plcE (l ++ [m]) j = plcE l j := by
 unfold plcE;rw [List.findIdx?_append]
 cases hf : l.findIdx? fun x => decide (x = j) with
 | some i => simp
 | none =>
  rw [List.findIdx?_eq_none_iff] at hf;have := hf j hj
  simp at this
theorem plc_new {l : List Nat} {k : Nat} (hl : ¬ k ∈ l) : plcE (l ++ [k]) k = l.length := by
 unfold plcE;rw [List.findIdx?_append, List.findIdx?_eq_none_iff.2 (fun x hx => decide_eq_false fun e : x = k => hl (by rw [← e]; exact hx))]
 simp
theorem plc_out {l : List Nat} {k : Nat} (hl : ¬ k ∈ l) : plcE l k = l.length := by
 unfold plcE;rw [List.findIdx?_eq_none_iff.2 (fun x hx => decide_eq_false fun e : x = k => hl (by rw [← e]; exact hx))]
 rfl
def fMN (l : List Nat) (i : Int) : Option Int := if 0 ≤ i ∧ i.toNat ∈ l then some (plcE l i.toNat : Int) else none
theorem fMN_add {l : List Nat} {x : Nat} (hx : ¬ x ∈ l) : (fun i => if i = (x : Int) then some (l.length : Int) else fMN l i) = fMN (l ++ [x]) := by
 funext i
 unfold fMN
 by_cases e : i = (x : Int)
 ·subst e
  rw [if_pos rfl, if_pos ⟨by omega, by simp⟩, Int.toNat_natCast, plc_new hx]
 ·rw [if_neg e]
  by_cases h : 0 ≤ i ∧ i.toNat ∈ l
  ·rw [if_pos h, if_pos ⟨h.1, List.mem_append.2 (.inl h.2)⟩, plc_old h.2]
  ·rw [if_neg h, if_neg]
   rintro ⟨h1, h2⟩
   rcases List.mem_append.1 h2 with h2 | h2
   ·exact h ⟨h1, h2⟩
   ·have := List.mem_singleton.1 h2
    omega
structure NrmS (w wr : World) (bm bo n : Nat) (l : List Nat) (k : Nat) : Prop where
 map : MapN wr bm (nrmE l k).2.length (fMN (nrmE l k).2)
 out : SlI wr bo (bo + 1) (some ⟨bo, 0, none⟩) n (intK n k fun v => ((nrmE l n).1[v]?).getD 0)
 bel : Below w.heap.size w wr
theorem normal_calls (A : Option Addr) (n c : Nat) (l : List Nat) (w : World) (lo hi : Nat) (h : SlI w lo hi A n (l.map Int.ofNat)) (hn : n ≤ 1048576) (hl : ∀ x ∈ l, x ≤ 1048576) :
  Calls Tryz.prog 241 #[.slice A n c] w fun e w' => ∃ B, e = .returned (.slice (some ⟨B, 0, none⟩) n n) ∧ SlI w' w.heap.size w'.heap.size (some ⟨B, 0, none⟩) n (nrmE l n).1 ∧ Below w.heap.size w w' := by
 have hlen : l.length = n := by have := h.len; rwa [List.length_map] at this
 have hmm := @run_makeMap Tryz.prog;have hmk := run_make_int n hn;have z1 : (w.alloc (.map #[] 0)).heap.size = w.heap.size + 1 := World.size_alloc _ _;have hA : Below (w.alloc (.map #[] 0)).heap.size (w.alloc (.map #[] 0)) ((w.alloc (.map #[] 0)).alloc (.cells (madeCells #[.int .i64 0] n) 2)) := bR.alloc zR _;have hs0 : SlI ((w.alloc (.map #[] 0)).alloc (.cells (madeCells #[.int .i64 0] n) 2)) (w.heap.size + 1) (w.heap.size + 1 + 1) (some ⟨w.heap.size + 1, 0, none⟩) n (intK n 0 fun v => ((nrmE l n).1[v]?).getD 0) := by
  have := SlI.made (w.alloc (.map #[] 0)) n (fun v => ((nrmE l n).1[v]?).getD 0);rw [z1] at this;exact this
 have hf0 : (fun _ : Int => (none : Option Int)) = fMN (nrmE l 0).2 := by
  funext i
  unfold fMN;rw [if_neg];rintro ⟨-, h⟩
  cases h
 have hm0 := MapN.made w;rw [hf0] at hm0;have hst : Hid (NrmS w ((w.alloc (.map #[] 0)).alloc (.cells (madeCells #[.int .i64 0] n) 2)) w.heap.size (w.heap.size + 1) n l 0) :=
  ⟨hm0.keep (Below.heap_alloc _ _ _ (by omega)), hs0, (bR.alloc zR _).alloc (by omega) _⟩
 replace h := hide h;replace hlen := hide hlen;replace hl := hide hl;clear hA hs0 hf0 hm0;go_enter Tryz.func241, Tryz.ntmps241;go_upto_region 2 with fail;go_upto_region 3 with fail;clear hmk hmm z1;generalize ((w.alloc (.map #[] 0)).alloc (.cells (madeCells #[.int .i64 0] n) 2)) = W0 at *;go_upto_region 4 with fail
 go_loopg [15] n (fun J i wr => ∃ k : Nat, k ≤ n ∧ i = .int .i64 (k : Int) ∧ Hid (NrmS w wr w.heap.size (w.heap.size + 1) n l k) ∧ Hid (n - k ≤ J))
 case atStart => exact ⟨0, Nat.zero_le _, rfl, hst, by show _ ≤ _; omega⟩
 case round =>
  clear hst;obtain ⟨k, hk, rfl, hs, hJ⟩ := hrel
  by_cases hlt : k < n
  ·obtain ⟨J2, rfl⟩ : ∃ J2, gk = J2 + 1 := ⟨gk - 1, by have := hJ.out; omega⟩
   have hJ2 : Hid (n - (k + 1) ≤ J2) := by have := hJ.out; show _ ≤ _; omega
   obtain ⟨b, off, u, rfl, -, -, g3, hx, p0, -⟩ := SlI.get (h.out.below hs.out.bel (.inr zR)) hlt;rw [List.getElem?_map] at hx;obtain ⟨x, hx', rfl⟩ := Option.map_eq_some_iff.1 hx;clear hx;have hx := hx';clear hx';replace p0 : wr.cell? ⟨b, off + k, none⟩ = some (.int .i64 (x : Int)) := p0;have hxl := hl.out x (List.mem_of_getElem? hx);have hsu := nrm_succ hx;have hbl := nrm_blk (l := l) (k := k);have hpk : (((nrmE l n).1[k]?).getD 0) = (plcE (nrmE l k).2 x : Int) := by
    have hp := nrm_pre (l := l) (show k + 1 ≤ n by omega) (by rw [hlen.out]; exact zR);have h1 : (nrmE l (k + 1)).1[k]? = some (plcE (nrmE l k).2 x : Int) := by
     rw [hsu];dsimp only;rw [List.getElem?_append_right (by rw [nrm_len (by rw [hlen.out]; omega)]; exact zR), nrm_len (by rw [hlen.out]; omega), Nat.sub_self]
     rfl
    obtain ⟨t, ht⟩ := hp;rw [← ht, List.getElem?_append_left (by rw [nrm_len (by rw [hlen.out]; omega)]; omega), h1]
    rfl
   have hstep := intK_step (p := fun v => ((nrmE l n).1[v]?).getD 0) hlt;rw [hpk] at hstep;have hwx : (Lit.int .i64 (x : Int)).wf = true := WalkArith.wf_i64 (by omega);obtain ⟨lc, hlk, hlv⟩ := hs.out.map.lookOk hwx;have hI0 : (0 : Int) ≤ (k : Int) := by omega
   have hI1 : (k : Int) < (n : Int) := by omega
   by_cases hin : x ∈ (nrmE l k).2
   ·have hf : fMN (nrmE l k).2 (x : Int) = some (plcE (nrmE l k).2 x : Int) := by unfold fMN; rw [if_pos ⟨by omega, by rw [Int.toNat_natCast]; exact hin⟩, Int.toNat_natCast]
    have hc := hlv _ hf;subst hc;rw [hf] at hlk;replace hlk : (Instr.lookup 299 (.map (some w.heap.size)) (.int .i64 (x : Int)) true).run Tryz.prog wr = .ok (.tuple #[.int .i64 (plcE (nrmE l k).2 x : Int), .bool true]) wr := hlk;obtain ⟨b', off', y, e9, -, -, g4, -, q0, q1⟩ := SlI.get hs.out.out hlt;injection e9 with e9;injection e9 with e9 e8;subst e9 e8;rw [Nat.zero_add] at q0 q1;have hput := SlI.put' hs.out.out hlt (plcE (nrmE l k).2 x : Int);rw [hstep, Nat.zero_add] at hput;rw [if_pos hin] at hsu;have h2 : (nrmE l (k + 1)).2 = (nrmE l k).2 := by rw [hsu]
    have hsn : Hid (NrmS w (wr.setCell ⟨w.heap.size + 1, k, none⟩ (.int .i64 (plcE (nrmE l k).2 x : Int))) w.heap.size (w.heap.size + 1) n l (k + 1)) := by
     refine ⟨?_, hput, hs.out.bel.setCell (by show w.heap.size ≤ w.heap.size + 1; omega) _⟩;rw [h2];exact hs.out.map.keep (Below.heap_setCell _ _ _ _ (by show w.heap.size ≠ w.heap.size + 1; omega))
    generalize plcE (nrmE l k).2 x = pv at *;clear hs hx hsu hbl hpk hstep hlv hin hf hput h2 hwx;go_wp2_with fail
    go_roundg J2
    case measure => omega
    case rel => exact ⟨k + 1, by omega, by go_num, hsn, hJ2⟩
   ·have hf : fMN (nrmE l k).2 (x : Int) = none := by unfold fMN; rw [if_neg (fun g => hin (by have := g.2; rwa [Int.toNat_natCast] at this))]
    rw [hf] at hlk;replace hlk : (Instr.lookup 299 (.map (some w.heap.size)) (.int .i64 (x : Int)) true).run Tryz.prog wr = .ok (.tuple #[.int .i64 lc, .bool false]) wr := hlk;have hml := fun ty => hs.out.map.len ty
    rw [plc_out hin] at hstep hsu;obtain ⟨w2, hu, hm2, hg2⟩ := hs.out.map.add (by unfold maxLen; omega) (c := ((nrmE l k).2.length : Int)) hwx (WalkArith.wf_i64 (by omega)) hf;rw [fMN_add hin] at hm2;rw [if_neg hin] at hsu;have h2 : (nrmE l (k + 1)).2 = (nrmE l k).2 ++ [x] := by rw [hsu]
    have hs2 : SlI w2 (w.heap.size + 1) (w.heap.size + 1 + 1) (some ⟨w.heap.size + 1, 0, none⟩) n (intK n k fun v => ((nrmE l n).1[v]?).getD 0) := Sl.keep hs.out.out hg2.size fun b h1 h2 h3 => hg2.block b h3 (fun e => by have := Option.some.inj e; omega)
    obtain ⟨b', off', y, e9, -, -, g4, -, q0, q1⟩ := SlI.get hs2 hlt;injection e9 with e9;injection e9 with e9 e8;subst e9 e8;rw [Nat.zero_add] at q0 q1;have hput := SlI.put' hs2 hlt ((nrmE l k).2.length : Int);rw [hstep, Nat.zero_add] at hput;have hsn : Hid (NrmS w (w2.setCell ⟨w.heap.size + 1, k, none⟩ (.int .i64 ((nrmE l k).2.length : Int))) w.heap.size (w.heap.size + 1) n l (k + 1)) := by
     refine ⟨?_, hput, ?_⟩
     ·rw [h2, List.length_append]
      exact hm2.keep (Below.heap_setCell _ _ _ _ (by show w.heap.size ≠ w.heap.size + 1; omega))
     ·have hb2 : Below w.heap.size w w2 := ⟨hg2.os.trans hs.out.bel.os, hg2.tape.trans hs.out.bel.tape, hg2.output.trans hs.out.bel.output, Nat.le_trans hs.out.bel.size hg2.size, fun b hb => (hg2.block b (Nat.lt_of_lt_of_le hb hs.out.bel.size) (fun e => by have := Option.some.inj e; omega)).trans (hs.out.bel.block b hb)⟩
      exact hb2.setCell (by show w.heap.size ≤ w.heap.size + 1; omega) _
    generalize (nrmE l k).2.length = pv at *;clear hs hx hsu hbl hpk hstep hlv hin hf hput h2 hwx hm2 hs2 hg2;go_wp2_with fail
    go_roundg J2
    case measure => omega
    case rel => exact ⟨k + 1, by omega, by go_num, hsn, hJ2⟩
  ·have hkn : k = n := by omega
   subst hkn;have hall : (List.range k).map (fun v => ((nrmE l k).1[v]?).getD 0) = (nrmE l k).1 := by
    apply List.ext_getElem?
    intro i;have hl := nrm_len (l := l) (k := k) (by rw [hlen.out]; exact zR)
    by_cases hi : i < k
    ·rw [List.getElem?_map, List.getElem?_range hi, Option.map_some, List.getElem?_eq_getElem (by omega)]
     rfl
    ·rw [List.getElem?_eq_none (by simp; omega), List.getElem?_eq_none (by omega)]
   have hres := hs.out.out;rw [intK_all, hall] at hres;have hbw := hs.out.bel;have hres2 := hide fun (hz : w.heap.size + 1 + 1 ≤ wr.heap.size) => hres.more (show w.heap.size ≤ w.heap.size + 1 by omega) hz
   have hz : Hid (k = 0 ∨ w.heap.size + 1 + 1 ≤ wr.heap.size) := by
    show _ ∨ _
    by_cases h0 : 0 < k
    ·obtain ⟨b', off', y, e9, -, -, g4, -⟩ := SlI.get hs.out.out h0
     injection e9 with e9;injection e9 with e9 e8;subst e9;exact .inr g4
    ·exact .inl (by omega)
   replace hres := hide hres;replace hbw := hide hbw;clear hs hall;go_wp2_with fail;go_ret;refine ⟨w.heap.size + 1, rfl, ?_, hbw.out⟩
   rcases hz.out with h0 | h1
   ·have := hres.out
    exact ⟨this.1, fun hp => absurd hp (by omega)⟩
   ·exact hres2.out h1
theorem plc_idx (L : List Nat) (n : Nat) : (L.map Int.ofNat).idxOf (n : Int) = plcE L n := by
 induction L with
 | nil => rfl
 | cons a L ih =>
  unfold plcE at ih ⊢;rw [List.map_cons, List.idxOf_cons, List.findIdx?_cons]
  by_cases e : a = n
  ·subst e; simp
  ·rw [beq_eq_false_iff_ne.2 (show Int.ofNat a ≠ (n : Int) from fun h => e (Int.ofNat.inj h)), decide_eq_false e]
   simp only [cond_false, Bool.false_eq_true, if_false];rw [ih]
   cases h : List.findIdx? (fun x => decide (x = n)) L with
   | none => simp
   | some v => simp
theorem nrm_firsts (l : List Nat) : ∀ k, k ≤ l.length → (nrmE l k).2.map Int.ofNat = firsts [] ((l.take k).map Int.ofNat) ∧ (nrmE l k).1 = ((l.take k).map Int.ofNat).map fun x => ((firsts [] ((l.take k).map Int.ofNat)).idxOf x : Int)
 | 0, _ => ⟨rfl, rfl⟩
 | k + 1, hk => by
  obtain ⟨h1, h2⟩ := nrm_firsts l k (by omega);have hx : l[k]? = some (l[k]'(by omega)) := List.getElem?_eq_getElem _;generalize (l[k]'(by omega)) = x at hx;rw [nrm_succ hx, List.take_add_one, hx];have e : (l.take k ++ (some x).toList).map Int.ofNat = (l.take k).map Int.ofNat ++ [(x : Int)] := by simp
  rw [e];have hf : ∀ F m : List Int, firsts F (m ++ [(x : Int)]) = firsts (firsts F m) [(x : Int)] := fun F m => by
   induction m generalizing F with
   | nil => rfl
   | cons y m ih => exact ih _
  have hone : ∀ F : List Int, firsts F [(x : Int)] = if (x : Int) ∈ F then F else F ++ [(x : Int)] := fun F => rfl
  have hmem : x ∈ (nrmE l k).2 ↔ (x : Int) ∈ firsts [] ((l.take k).map Int.ofNat) := by
   rw [← h1, List.mem_map]
   constructor
   ·intro h; exact ⟨x, h, rfl⟩
   ·rintro ⟨y, hy, e⟩
    have : y = x := Int.ofNat.inj e;rw [← this]; exact hy
  have hidx := plc_idx (nrmE l k).2 x;rw [h1] at hidx;have hold : ∀ z, z ∈ (l.take k).map Int.ofNat → (firsts [] ((l.take k).map Int.ofNat ++ [(x : Int)])).idxOf z = (firsts [] ((l.take k).map Int.ofNat)).idxOf z := fun z hz => by
   have hz2 : z ∈ firsts [] ((l.take k).map Int.ofNat) := firsts_mem.2 (.inr hz);rw [hf, hone]
   split
   ·rfl
   ·rw [List.idxOf_append, if_pos hz2]
  have hnew : (firsts [] ((l.take k).map Int.ofNat ++ [(x : Int)])).idxOf (x : Int) = plcE (nrmE l k).2 x := by
   rw [hf, hone, ← hidx]
   split
   ·rfl
   ·rename_i hn
    rw [List.idxOf_append, if_neg hn, List.idxOf_eq_length hn]
    simp
  refine ⟨?_, ?_⟩
  ·show (if x ∈ (nrmE l k).2 then (nrmE l k).2 else (nrmE l k).2 ++ [x]).map Int.ofNat = _
   rw [hf, hone]
   by_cases h : x ∈ (nrmE l k).2
   ·rw [if_pos h, if_pos (hmem.1 h), h1]
   ·rw [if_neg h, if_neg (fun g => h (hmem.2 g)), List.map_append, h1]; rfl
  ·show (nrmE l k).1 ++ [(plcE (nrmE l k).2 x : Int)] = _
   rw [List.map_append, h2]
   congr 1
   ·exact List.map_congr_left fun z hz => by rw [hold z hz]
   ·simp only [List.map_cons, List.map_nil]
    rw [hnew]
theorem nrm_normF (l : List Nat) : (nrmE l l.length).1 = normF (l.map Int.ofNat) := by
 have := (nrm_firsts l l.length zR).2;rw [List.take_length] at this;exact this
theorem ofNat_list {l : List Int} (h : ∀ x, x ∈ l → 0 ≤ x) : ∃ m : List Nat, l = m.map Int.ofNat := by
 refine ⟨l.map Int.toNat, ?_⟩;rw [List.map_map];refine (List.map_id l).symm.trans (List.map_congr_left fun x hx => ?_);have := h x hx
 show x = ((x.toNat : Nat) : Int)
 omega
theorem normalF_calls (A : Option Addr) (n c : Nat) (l : List Int) (w : World) (lo hi : Nat) (h : SlI w lo hi A n l) (hn : n ≤ 1048576) (hl : ∀ x, x ∈ l → 0 ≤ x ∧ x ≤ 1048576) :
  Calls Tryz.prog 241 #[.slice A n c] w fun e w' => ∃ B, e = .returned (.slice (some ⟨B, 0, none⟩) n n) ∧ SlI w' w.heap.size w'.heap.size (some ⟨B, 0, none⟩) n (normF l) ∧ Below w.heap.size w w' := by
 obtain ⟨m, rfl⟩ := ofNat_list fun x hx => (hl x hx).1
 have hlen := h.len;rw [List.length_map] at hlen;have hq := normal_calls A n c m w lo hi h hn fun x hx => by have : (x : Int) ≤ 1048576 := (hl (Int.ofNat x) (List.mem_map_of_mem hx)).2; omega
 rw [← hlen, nrm_normF, hlen] at hq;exact hq
theorem normalKeys1_calls (Ak : Option Addr) (m d : Nat) (s : List Int) (be : Nat) (Ae : Option Addr) (me de : Nat) (key : List Int) (w : World) (lo hi lo' hi' : Nat) (h : SlI w lo hi Ak m s) (hm : m ≤ 1048576) (ke : w.cell? ⟨be, 0, none⟩ = some (.slice Ae me de)) (g : SlI w lo' hi' Ae me key) (hme : me ≤ 1048576) :
  Calls Tryz.prog 240 #[.slice Ak m d, .pointer (some ⟨be, 0, none⟩)] w (Says (decide (s = key)) w) := by
 have q := hide (equalI_calls Ak Ae m me d de s key w _ _ _ _ h g hm hme);clear h g;go_enter Tryz.func240, Tryz.ntmps240;go_wp2_with fail;refine q.out.mono ?_;rintro e w1 ⟨rfl, hb⟩;replace hb := hide hb;go_wp2_with fail;go_ret;exact ⟨rfl, hb.out⟩
theorem nkL_at {α : Type} [BEq α] {keys : List α} {k : Nat} {x : α} (h : keys[k]? = some x) : (nkL keys)[k]? = some (keys.idxOf x : Int) := by
 unfold nkL; rw [List.getElem?_map, h]; rfl
theorem idx_fst {keys : List (List Int)} {k : Nat} {x : List Int} (hx : keys[k]? = some x) {i : Int} (h : fstG (fun s => decide (s = x)) (keys.take k) i) : (if i < 0 then (k : Int) else i) = (keys.idxOf x : Int) := by
 have hk := List.getElem?_eq_some_iff.1 hx;have key : ∀ (j : Nat), j ≤ k → ((keys.take j).any fun s => decide (s = x)) = false → keys[j]? = some x → keys.idxOf x = j := by
  intro j hj ha hjx;have hn : x ∉ keys.take j := fun hm => by
   have := List.any_eq_false.1 ha x hm
   simp at this
  have hjl := (List.getElem?_eq_some_iff.1 hjx).1;have e : keys = keys.take j ++ keys.drop j := (List.take_append_drop j keys).symm;have hd : keys.drop j = x :: keys.drop (j + 1) := by
   rw [List.drop_eq_getElem_cons hjl, (List.getElem?_eq_some_iff.1 hjx).2]
  rw [e, List.idxOf_append, if_neg hn, hd, List.idxOf_cons]
  simp
  omega
 rcases h with ⟨rfl, ha⟩ | ⟨j, rfl, hj, ha, y, hy, hg⟩
 ·rw [if_pos (by omega), key k zR ha hx]
 ·rw [List.length_take] at hj
  rw [if_neg (by omega)];have hy2 : keys[j]? = some y := by rw [← hy, List.getElem?_take]; simp; omega
  rw [List.take_take, show min j k = j by omega] at ha;rw [key j (by omega) ha (by rw [hy2, of_decide_eq_true hg])]
theorem normalKeys_calls (A : Option Addr) (n c : Nat) (R : List (Hd × List Int)) (w : World) (lo hi : Nat) (h : RowsI 1048576 w lo hi A n R) (hn : n ≤ 1000) (hc : n ≤ c) :
  Calls Tryz.prog 162 #[.slice A n c] w fun e w' => ∃ B, e = .returned (.slice (some ⟨B, 0, none⟩) n n) ∧ SlI w' w.heap.size w'.heap.size (some ⟨B, 0, none⟩) n (nkF (R.map (·.2))) ∧ Below w.heap.size w w' := by
 have hEi := hide elem_int;have hER := hide elem_rowI;have hlen : R.length = n := by have := h.1.len; rwa [List.length_map] at this
 have hkl : (R.map (·.2)).length = n := by rw [List.length_map]; exact hlen
 have hnl : (nkL (R.map (·.2))).length = n := by simp [nkL, hlen]
 replace h := hide h;replace hnl := hide hnl;replace hkl := hide hkl;replace hlen := hide hlen;go_enter Tryz.func162, Tryz.ntmps162;go_wp2_with fail
 go_loopw [3, 9] (fun v3 v9 wr => ∃ (k : Nat) (A3 : Option Addr) (c3 : Nat), k ≤ n ∧ v9 = .int .i64 (k : Nat) ∧ v3 = .slice A3 k c3 ∧ Hid (Own 1 iv wr w.heap.size 2 A3 k c3 ((nkL (R.map (·.2))).take k)) ∧ Hid (Below w.heap.size w wr)) (fun _ v _ => n - (intOf v).toNat)
 case atStart => exact ⟨0, none, 0, Nat.zero_le _, rfl, rfl, Own.nil_ _ _ _, bR⟩
 case round =>
  obtain ⟨k, A3, c3, hk, rfl, rfl, hO, hb⟩ := hrel
  by_cases hlt : k < n
  ·have k0 : (0 : Int) ≤ (k : Int) := by omega
   have k1 : (k : Int) < (n : Int) := by omega
   have hxr : R[k]? = some (R[k]'(by have := hlen.out; omega)) := List.getElem?_eq_getElem _;have hmem : (R[k]'(by have := hlen.out; omega)) ∈ R := List.getElem_mem _;obtain ⟨hs0, hm0⟩ := h.out.2 _ hmem;obtain ⟨b, off, hA, g1, g2, g3, hc0⟩ := h.out.1.at_ (show 0 < n by omega);have c0 := (hc0 k _ (by rw [List.getElem?_map, hxr]; rfl) 0 _ rfl).1;rw [Nat.mul_one, Nat.add_zero] at c0;generalize (R[k]'(by have := hlen.out; omega)) = r at *;obtain ⟨⟨Ah, m, ch⟩, s⟩ := r
   (try dsimp only at hs0 hm0 c0)
   replace c0 := (hb.out.cell (p := ⟨b, off + k, none⟩) g3).trans c0;subst hA;have hx2 : (R.map (·.2))[k]? = some s := by rw [List.getElem?_map, hxr]; rfl
   -- the box of the key
   have hbE := hb.out.alloc hb.out.size (.cells #[.slice Ah m ch] 32);have hbE1 := (Below.refl wr.heap.size wr).alloc zR (.cells #[.slice Ah m ch] 32);have kE := heap_alloc_new wr (.cells #[.slice Ah m ch] 32);have hOE := hO.out.alloc (.cells #[.slice Ah m ch] 32);obtain ⟨wE, hwE⟩ : ∃ wE, wE = wr.alloc (.cells #[.slice Ah m ch] 32) := ⟨_, rfl⟩;rw [← hwE] at hbE hbE1 kE hOE;obtain ⟨be, hbe⟩ : ∃ be, be = wr.heap.size := ⟨_, rfl⟩;rw [← hbe] at kE;have hbel : be < wE.heap.size := (Array.getElem?_eq_some_iff.1 kE).1;have hslice : ∀ W : World, (Instr.slice 162 (.slice (some ⟨b, off, none⟩) n c) none (some (.int .i64 (k : Int))) none).run Tryz.prog W = .ok (.slice (some ⟨b, off, none⟩) k c) W := fun W => run_head hER.out _ n c k (by omega) W
   have hRk : RowsI 1048576 wE lo hi (some ⟨b, off, none⟩) k (R.take k) := by
    have hR := h.out;refine ⟨?_, fun r hr => ?_⟩
    ·have h1 := hR.1.below hbE (.inr zR)
     refine ⟨by rw [List.length_map, List.length_take, hlen.out]; omega, fun hk0 => ?_⟩;obtain ⟨b', off', e', g1', g2', g3', hcc⟩ := h1.at_ (show 0 < n by omega);refine ⟨b', off', e', g1', g2', g3', fun i x hx j u hu => hcc i x ?_ j u hu⟩;rw [List.getElem?_map] at hx ⊢;rw [List.getElem?_take] at hx
     split at hx
     ·exact hx
     ·simp at hx
    ·obtain ⟨h1, h2⟩ := hR.2 r (List.mem_of_mem_take hr)
     exact ⟨h1.below hbE (.inr zR), h2⟩
   have hsE := hs0.below hbE (.inr zR);have hkeW := hide (fun (W : World) (hW : Below wE.heap.size wE W) => (cell_of_row W be 0 _ _ (0, 0) ((hW.block be hbel).trans kE)).trans rfl);have qI := indexFuncR_calls 240 #[.pointer (some ⟨be, 0, none⟩)] (fun l => decide (l = s)) (some ⟨b, off, none⟩) k c (R.take k) wE lo hi hRk (by omega)
    (fun v W => by kernel_rfl)
    (fun A2 m2 d2 l2 W hmemW hW hsW hm2 => normalKeys1_calls A2 m2 d2 l2 be Ah m ch s W _ _ _ _ hsW hm2 (hkeW.out W hW) (hsE.below hW (.inr zR)) hm0)
   replace qI := hide qI;replace kE := hide kE;replace hbE := hide hbE;replace hbE1 := hide hbE1;replace hOE := hide hOE;replace hx2 := hide hx2;clear hs0 hxr hmem hc0 hRk hsE hkeW;go_upto_region 5 with fail;rw [← hwE, ← hbe];replace hwE := hide hwE;replace hbe := hide hbe;clear c0;go_wp2_with fail;refine qI.out.mono ?_;rintro e w5 ⟨i, rfl, hf, hb5⟩;have hidx : (if i < 0 then (k : Int) else i) = ((R.map (·.2)).idxOf s : Int) := idx_fst hx2.out (by rw [← List.map_take]; exact hf);have hO5 := hide (hOE.out.keep (w' := w5) fun g e => hb5.block g (hOE.out.lt g e).2);have hB5 := hide (hbE.out.trans (hb5.mono hbE.out.size));have hz5 := hB5.out.size;have hnx := hide (nkL_at hx2.out);obtain ⟨iv2, hiv2⟩ : ∃ iv2 : Int, iv2 = ((R.map (·.2)).idxOf s : Int) := ⟨_, rfl⟩;rw [← hiv2] at hnx hidx;replace hiv2 := hide hiv2;have hza : w.heap.size ≤ (w5.alloc (.cells #[.int .i64 iv2] 2)).heap.size := by rw [World.size_alloc]; omega
   have hOa := hide (hO5.out.alloc (.cells #[.int .i64 iv2] 2));have hBa := hide (hB5.out.alloc hz5 (.cells #[.int .i64 iv2] 2));have hrow := hide (fun q (e : (Value.slice A3 k c3).ownBlock = some q) => (hOa.out.lt q e).1);replace hb5 := hide hb5;replace hf := hide hf;have htk : Hid ((nkL (R.map (·.2))).take k ++ [iv2] = (nkL (R.map (·.2))).take (k + 1)) := by show _ = _; rw [List.take_add_one, hnx.out]; rfl
   clear qI hO hOE hslice
   by_cases hi0 : i < 0
   ·rw [if_pos hi0] at hidx
    subst hidx;go_wp2_with (first | (at_builtin; (with_reducible refine wpList_app rfl (.tmp 22) (.tmp 24) rfl hEi.out flat_iv rfl hOa.out rfl (Sl.lit1' w5 2 (k : Int) _ rfl 1 _ ?d0) ?d1 hza ?_); rotate_right; intro A6 c6 w6 hown6 hgr6 hb6 hat6))
    case d0 => rfl
    case d1 => omega
    have hB6 := hide (hBa.out.grown hgr6 hBa.out.size (fun q e => hrow.out q e));rw [htk.out] at hown6;replace hown6 := hide hown6;clear hgr6 hb6 hat6 hOa hBa hrow;go_wp2_with fail;go_roundw
    case rel => exact ⟨k + 1, A6, c6, by omega, by go_num, rfl, hown6.out, hB6.out⟩
    case measure => simp [intOf]; omega
   ·rw [if_neg hi0] at hidx
    subst hidx;go_wp2_with (first | (at_builtin; (with_reducible refine wpList_app rfl (.tmp 22) (.tmp 24) rfl hEi.out flat_iv rfl hOa.out rfl (Sl.lit1' w5 2 i _ rfl 1 _ ?d0) ?d1 hza ?_); rotate_right; intro A6 c6 w6 hown6 hgr6 hb6 hat6))
    case d0 => rfl
    case d1 => omega
    have hB6 := hide (hBa.out.grown hgr6 hBa.out.size (fun q e => hrow.out q e));rw [htk.out] at hown6;replace hown6 := hide hown6;clear hgr6 hb6 hat6 hOa hBa hrow;go_wp2_with fail;go_roundw
    case rel => exact ⟨k + 1, A6, c6, by omega, by go_num, rfl, hown6.out, hB6.out⟩
    case measure => simp [intOf]; omega
  ·obtain rfl : k = n := by omega
   have k1 : ¬ (k : Int) < (k : Int) := by omega
   have hl : (nkL (R.map (·.2))).take k = nkL (R.map (·.2)) := List.take_of_length_le (by rw [hnl.out]; exact zR);rw [hl] at hO;have hz := hb.out.size;have qN := hide (normalF_calls A3 k c3 (nkL (R.map (·.2))) wr _ _ (hO.out.sl flat_iv) (by omega) (fun x hx => by
    unfold nkL at hx;obtain ⟨y, hy, rfl⟩ := List.mem_map.1 hx;have := List.idxOf_lt_length_of_mem hy;rw [hkl.out] at this
    omega))
   clear hO hl;go_wp2_with fail;refine qN.out.mono ?_;rintro e w5 ⟨B, rfl, hB, hb5⟩;have hB2 := hide (hB.more hz zR);replace hb5 := hide (hb.out.trans (hb5.mono hz));clear qN;go_wp2_with fail;go_ret;exact ⟨B, rfl, hB2.out, hb5.out⟩
structure BackM (w : World) (bb base : Nat) (R : List (Hd × List Int)) : Prop where
 outer : ∃ cur : Array Value, w.heap[bb]? = some (.cells cur 32 (0, 0)) ∧ cur.size = R.length ∧ ∀ (i : Nat) (r : Hd × List Int), R[i]? = some r → cur[i]? = some (.slice r.1.1 r.1.2.1 r.1.2.2)
 rows : ∀ (i : Nat) (r : Hd × List Int), R[i]? = some r → Own 1 iv w base 2 r.1.1 r.1.2.1 r.1.2.2 r.2
 apart : ∀ (i i' : Nat) (r r' : Hd × List Int), i ≠ i' → R[i]? = some r → R[i']? = some r' → (Value.slice r.1.1 r.1.2.1 r.1.2.2).ownBlock = none ∨ (Value.slice r.1.1 r.1.2.1 r.1.2.2).ownBlock ≠ (Value.slice r'.1.1 r'.1.2.1 r'.1.2.2).ownBlock
section
variable {w w' : World} {bb base : Nat} {R : List (Hd × List Int)}
theorem BackM.keep (h : BackM w bb base R) (hb : w'.heap[bb]? = w.heap[bb]?) (hk : ∀ b, base ≤ b → b < w.heap.size → w'.heap[b]? = w.heap[b]?) : BackM w' bb base R := by
 obtain ⟨cur, h1, h2⟩ := h.outer;exact ⟨⟨cur, hb.trans h1, h2⟩, fun i r hr => (h.rows i r hr).keep fun g hg => hk g ((h.rows i r hr).lt g hg).1 ((h.rows i r hr).lt g hg).2, h.apart⟩
theorem BackM.lt (h : BackM w bb base R) : bb < w.heap.size := by obtain ⟨cur, h1, _⟩ := h.outer; exact (Array.getElem?_eq_some_iff.1 h1).1
theorem BackM.alloc (h : BackM w bb base R) (o : Obj) : BackM (w.alloc o) bb base R := h.keep (Below.heap_alloc _ _ _ h.lt) fun b _ hb => Below.heap_alloc _ _ _ hb
theorem BackM.cell (h : BackM w bb base R) {i : Nat} {r : Hd × List Int} (hr : R[i]? = some r) : w.cell? ⟨bb, i, none⟩ = some (.slice r.1.1 r.1.2.1 r.1.2.2) ∧ w.frozen? ⟨bb, i, none⟩ = false := by
 obtain ⟨cur, h1, h2, h3⟩ := h.outer;exact ⟨(cell_of_row w bb i cur _ (0, 0) h1).trans (h3 i r hr), frozen_of_row w bb i cur _ h1⟩
theorem BackM.push (h : BackM w bb base R) (hbb : bb < base) (hbase : base ≤ w.heap.size) {i : Nat} {r : Hd × List Int} (hr : R[i]? = some r) {A' : Option Addr} {n' c' : Nat} {s' : List Int} (ho : Own 1 iv w' base 2 A' n' c' s') (hg : w.grownBy w' (Value.slice r.1.1 r.1.2.1 r.1.2.2).ownBlock)
  (hat : (Value.slice A' n' c').ownBlock = (Value.slice r.1.1 r.1.2.1 r.1.2.2).ownBlock ∨ (Value.slice A' n' c').ownBlock = some w.heap.size) :
  BackM (w'.setCell ⟨bb, i, none⟩ (.slice A' n' c')) bb base (R.set i ((A', n', c'), s')) := by
 have hi : i < R.length := (List.getElem?_eq_some_iff.1 hr).1;obtain ⟨cur, h1, h2, h3⟩ := h.outer;have hne : ∀ b, b < base → some b ≠ (Value.slice r.1.1 r.1.2.1 r.1.2.2).ownBlock := fun b hb e => by
  have := ((h.rows i r hr).lt b e.symm).1;omega
 have hkeep : ∀ g, base ≤ g → (w'.setCell ⟨bb, i, none⟩ (.slice A' n' c')).heap[g]? = w'.heap[g]? := fun g hg => Below.heap_setCell _ _ _ _ (by show g ≠ bb; omega)
 have key : ∀ i' r', i ≠ i' → R[i']? = some r' → Own 1 iv w' base 2 r'.1.1 r'.1.2.1 r'.1.2.2 r'.2 := fun i' r' hii hr' => (h.rows i' r' hr').kept hg (h.apart i' i r' r (Ne.symm hii) hr' hr)
 have keyA : ∀ i' r', i ≠ i' → R[i']? = some r' → (Value.slice r'.1.1 r'.1.2.1 r'.1.2.2).ownBlock = none ∨ (Value.slice r'.1.1 r'.1.2.1 r'.1.2.2).ownBlock ≠ (Value.slice A' n' c').ownBlock := fun i' r' hii hr' => by
  rcases hat with e | e
  ·rw [e]; exact h.apart i' i r' r (Ne.symm hii) hr' hr
  ·rw [e]
   cases e2 : (Value.slice r'.1.1 r'.1.2.1 r'.1.2.2).ownBlock with
   | none => exact .inl rfl
   | some b =>
    right
    intro e3;injection e3 with e3;have := ((h.rows i' r' hr').lt b e2).2;omega
 refine ⟨⟨cur.setIfInBounds i (.slice A' n' c'), heap_setCell_same w' bb i cur _ _ ((hg.block bb h.lt (hne bb hbb)).trans h1), by simp [h2], fun i' r' hr' => ?_⟩, fun i' r' hr' => ?_, fun i1 i2 r1 r2 hii hr1 hr2 => ?_⟩
 ·by_cases e : i = i'
  ·subst e
   rw [List.getElem?_set_self hi] at hr'
   cases hr'
   simp [Array.getElem?_setIfInBounds]
   omega
  ·rw [List.getElem?_set_ne e] at hr'
   rw [Array.getElem?_setIfInBounds_ne e];exact h3 i' r' hr'
 ·by_cases e : i = i'
  ·subst e
   rw [List.getElem?_set_self hi] at hr'
   cases hr'
   exact ho.keep fun g hgg => hkeep g (ho.lt g hgg).1
  ·rw [List.getElem?_set_ne e] at hr'
   have hk := key i' r' e hr';exact hk.keep fun g hgg => hkeep g (hk.lt g hgg).1
 ·by_cases e1 : i = i1
  ·subst e1
   rw [List.getElem?_set_self hi] at hr1
   cases hr1
   rw [List.getElem?_set_ne hii] at hr2
   rcases keyA i2 r2 hii hr2 with h4 | h4
   ·rw [h4]
    cases e2 : (Value.slice A' n' c').ownBlock with
    | none => exact .inl rfl
    | some b => right; simp
   ·exact .inr (Ne.symm h4)
  ·rw [List.getElem?_set_ne e1] at hr1
   by_cases e2 : i = i2
   ·subst e2
    rw [List.getElem?_set_self hi] at hr2
    cases hr2
    exact keyA i1 r1 e1 hr1
   ·rw [List.getElem?_set_ne e2] at hr2
    exact h.apart i1 i2 r1 r2 hii hr1 hr2
theorem BackM.rowsI (h : BackM w bb base R) (hn : ∀ (i : Nat) (r : Hd × List Int), R[i]? = some r → r.2.length ≤ 1048576) : RowsI 1048576 w 0 w.heap.size (some ⟨bb, 0, none⟩) R.length R := by
 obtain ⟨cur, h1, h2, h3⟩ := h.outer;refine ⟨⟨by rw [List.length_map], fun _ => ⟨bb, 0, rfl, Nat.zero_le _, h.lt, h.lt, fun k x hx j u hu => ?_⟩⟩, fun r hr => ?_⟩
 ·rw [List.getElem?_map] at hx
  obtain ⟨r, hr, rfl⟩ := Option.map_eq_some_iff.1 hx;have hj : j = 0 := by
   have := (List.getElem?_eq_some_iff.1 hu).1
   simp [sv] at this
   exact this
  subst hj
  simp [sv] at hu
  subst hu;have := h.cell hr
  simpa using this
 ·obtain ⟨i, hi⟩ := List.getElem?_of_mem hr
  have ho := h.rows i r hi;refine ⟨((ho.sl flat_iv).more (Nat.zero_le _) zR), ?_⟩;have := hn i r hi;rw [ho.len] at this;exact this
end
theorem info_rowI9 : (Tryz.prog.info? 32).map (fun i => (i.zero, i.size, i.bytes)) = some (some (.slice none 0 0), 1, 24) := by kernel_rfl
theorem run_make_rows (n : Nat) (hn : n ≤ 1048576) (W : World) : (Instr.makeSlice 162 (.int .i64 (n : Int)) (.int .i64 (n : Int))).run Tryz.prog W = .ok (.slice (some ⟨W.heap.size, 0, none⟩) n n) (W.alloc (.cells (madeCells #[.slice none 0 0] n) 32)) := by
 obtain ⟨i0, hi0, hz0, hz1, hz2⟩ := info_parts info_rowI9;have h := make_row (P := Tryz.prog) 162 32 i0 _ _ n Tryz.underlying162 hi0 hz0 hz1 (by rw [hz2]; omega) (by omega) W;rw [Nat.mul_one] at h;exact h
def RowsAre (R : List (Hd × List Int)) (N : Nat) (f : Nat → List Int) : Prop := R.length = N ∧ ∀ (j : Nat) (r : Hd × List Int), R[j]? = some r → r.2 = f j
theorem RowsAre.set {R : List (Hd × List Int)} {N : Nat} {f g : Nat → List Int} (h : RowsAre R N f) {i : Nat} {x : Hd × List Int} (hi : i < N) (hx : x.2 = g i) (hg : ∀ j, j ≠ i → j < N → g j = f j) : RowsAre (R.set i x) N g := by
 refine ⟨by rw [List.length_set]; exact h.1, fun j r hr => ?_⟩
 by_cases e : i = j
 ·subst e
  rw [List.getElem?_set_self (by rw [h.1]; exact hi)] at hr
  cases hr
  exact hx
 ·rw [List.getElem?_set_ne e] at hr
  rw [h.2 j r hr];have := (List.getElem?_eq_some_iff.1 hr).1;rw [h.1] at this;exact (hg j (fun e2 => e e2.symm) this).symm
theorem RowsAre.map {R : List (Hd × List Int)} {N : Nat} {f : Nat → List Int} (h : RowsAre R N f) : R.map (·.2) = (List.range N).map f := by
 apply List.ext_getElem (by simp [h.1])
 intro j h1 h2;rw [List.getElem_map, List.getElem_map, List.getElem_range];have hj : j < R.length := by simpa using h1
 exact h.2 j _ (List.getElem?_eq_getElem hj)
section
variable {w w' : World} {bb base N : Nat} {R : List (Hd × List Int)}
theorem BackM.made (w : World) (n : Nat) : BackM (w.alloc (.cells (madeCells #[.slice none 0 0] n) 32)) w.heap.size (w.heap.size + 1) (List.replicate n ((none, 0, 0), [])) := by
 have hg := heap_alloc_new w (.cells (madeCells #[.slice none 0 0] n) 32);have hr : ∀ (i : Nat) (r : Hd × List Int), (List.replicate n (((none, 0, 0), []) : Hd × List Int))[i]? = some r → i < n ∧ r = ((none, 0, 0), []) := fun i r hr => by
  have h1 := (List.getElem?_eq_some_iff.1 hr).1;rw [List.length_replicate] at h1;rw [List.getElem?_replicate, if_pos h1] at hr;exact ⟨h1, (Option.some.inj hr).symm⟩
 refine ⟨⟨_, hg, by simp [madeCells], fun i r h => ?_⟩, fun i r h => ?_, fun i i' r r' _ h _ => ?_⟩
 ·obtain ⟨h1, rfl⟩ := hr i r h
  simp [madeCells, h1, Nat.mod_one]
 ·obtain ⟨h1, rfl⟩ := hr i r h
  exact Own.nil_ _ _ _
 ·obtain ⟨h1, rfl⟩ := hr i r h
  exact .inl rfl
theorem BackM.keepR (h : BackM w bb base R) (hb : w'.heap[bb]? = w.heap[bb]?) (hk : ∀ (i : Nat) (r : Hd × List Int), R[i]? = some r → ∀ g, (Value.slice r.1.1 r.1.2.1 r.1.2.2).ownBlock = some g → w'.heap[g]? = w.heap[g]?) : BackM w' bb base R := by
 obtain ⟨cur, h1, h2⟩ := h.outer;exact ⟨⟨cur, hb.trans h1, h2⟩, fun i r hr => (h.rows i r hr).keep (hk i r hr), h.apart⟩
theorem BackM.below (h : BackM w bb base R) (hb : Below w.heap.size w w') : BackM w' bb base R := h.keep (hb.block bb h.lt) fun b _ h2 => hb.block b h2
end
theorem grown_alloc (w : World) (o : Obj) (row : Option Nat) : w.grownBy (w.alloc o) row := ⟨rfl, rfl, rfl, by rw [World.size_alloc]; omega, fun b hb _ => Below.heap_alloc _ _ _ hb⟩
open Go.Sort
theorem grown_cell9 {w w' : World} {row : Option Nat} {q i : Nat} {v : Value} (h : w.grownBy w' row) (hq : q < w.heap.size) (hne : some q ≠ row) (hc : w.cell? ⟨q, i, none⟩ = some v) : w'.cell? ⟨q, i, none⟩ = some v :=
 (World.cell?_of_block (w := w) (by simpa using h.block q hq hne)).trans hc
theorem grown_frozen9 {w w' : World} {row : Option Nat} {q i : Nat} {b : Bool} (h : w.grownBy w' row) (hq : q < w.heap.size) (hne : some q ≠ row) (hc : w.frozen? ⟨q, i, none⟩ = b) : w'.frozen? ⟨q, i, none⟩ = b :=
 (World.frozen?_of_block (w := w) (by simpa using h.block q hq hne)).trans hc
theorem cdL_succ {es : List Ed} {k N : Nat} {p : List Int} {e : Ed} (hx : es[k]? = some e) (j : Nat) : cdL (es.take (k + 1)) N p j = cdL (es.take k) N p j ++ (if e.1 = (j : Int) then [cdE N p e] else []) := by
 unfold cdL;rw [List.take_add_one, hx, List.filter_append, List.map_append]
 congr 1
 by_cases h : e.1 = (j : Int) <;> simp [h]
theorem cdL_len (es : List Ed) (N : Nat) (p : List Int) (j : Nat) : (cdL es N p j).length ≤ es.length := by
 unfold cdL; rw [List.length_map]; exact List.length_filter_le _ _
theorem keyR_len (es : List Ed) (N : Nat) (p : List Int) (j : Nat) : (keyR es N p j).length ≤ es.length + 1 := by
 unfold keyR;rw [List.length_cons];have h1 := compact_len (sortI (cdL es N p j));rw [sortI_len] at h1;have := cdL_len es N p j;omega
theorem refine_calls (N ini : Nat) (A2 : Option Addr) (n2 k2 : Nat) (A3 : Option Addr) (n3 k3 : Nat) (A1 : Option Addr) (c1 : Nat) (es : List Ed) (p : List Int) (w : World) (lo hi lo1 hi1 : Nat)
  (t3 : SlE w lo hi A3 n3 es) (t1 : SlI w lo1 hi1 A1 N p) (hes : n3 ≤ 100000) (hN1 : 1 ≤ N) (hN : N ≤ 80) (he : EdIn N es) (hL : ∀ e, e ∈ es → e.2.1 ≤ 1000) (hp : ∀ x, x ∈ p → 0 ≤ x ∧ x < (N : Int)) :
  Calls Tryz.prog 81 #[.agg #[.int .i64 (N : Int), .int .i64 (ini : Int), .slice A2 n2 k2, .slice A3 n3 k3], .slice A1 N c1] w fun e w' => ∃ B, e = .returned (.slice (some ⟨B, 0, none⟩) N N) ∧ SlI w' w.heap.size w'.heap.size (some ⟨B, 0, none⟩) N (refF es N p) ∧ Below w.heap.size w w' := by
 have hEi := hide elem_int;have hmk := run_make_rows N (by omega);have hlp := t1.len;have hl3 := t3.len;have hb1 := (Below.refl w.heap.size w).alloc zR (.cells #[.int .i64 (N : Int), .int .i64 (ini : Int), .slice A2 n2 k2, .slice A3 n3 k3] 27);have kt := heap_alloc_new w (.cells #[.int .i64 (N : Int), .int .i64 (ini : Int), .slice A2 n2 k2, .slice A3 n3 k3] 27);have hz1 : (w.alloc (.cells #[.int .i64 (N : Int), .int .i64 (ini : Int), .slice A2 n2 k2, .slice A3 n3 k3] 27)).heap.size = w.heap.size + 1 := by simp
 obtain ⟨w1, hw1⟩ : ∃ w1, w1 = w.alloc (.cells #[.int .i64 (N : Int), .int .i64 (ini : Int), .slice A2 n2 k2, .slice A3 n3 k3] 27) := ⟨_, rfl⟩;rw [← hw1] at hb1 kt hz1;have kt1 : Hid (LtsBox w1 w.heap.size (N : Int) (ini : Int) A2 n2 k2 A3 n3 k3) := kt;have b0 := kt1.out.c0;have t3' := hide (t3.below hb1 (.inr zR));have t1' := hide (t1.below hb1 (.inr zR));obtain ⟨gp, op, rfl, -, -, hgp1, -⟩ := t1'.out.at_ hN1;obtain ⟨bk, hbk⟩ : ∃ bk, bk = w1.heap.size := ⟨_, rfl⟩;rw [← hbk] at hgp1;have hbk1 : w.heap.size < bk := by omega
 replace hz1 := hide hz1;have hM0 := BackM.made w1 N;have hbm0 := (Below.refl w1.heap.size w1).alloc zR (.cells (madeCells #[.slice none 0 0] N) 32);rw [← hbk] at hM0 hbm0;replace hM0 := hide hM0;replace hbm0 := hide hbm0;replace hb1 := hide hb1;clear kt t3 t1;go_enter Tryz.func81, Tryz.ntmps81;go_upto_region 1 with fail;rw [← hw1];replace hw1 := hide hw1;go_upto_region 2 with fail;rw [← hbk];have hbkw : w1.heap.size ≤ bk := Nat.le_of_eq hbk.symm;replace hbk := hide hbk;clear b0;go_wp2_with fail
 go_loopw [18] (fun i wr => ∃ (k : Nat) (R : List (Hd × List Int)), k ≤ N ∧ i = .int .i64 (k : Nat) ∧ Hid (BackM wr bk (bk + 1) R) ∧ Hid (RowsAre R N fun j => if j < k then [(p[j]?).getD 0] else []) ∧ Hid (Below bk w1 wr)) (fun i _ => N - (intOf i).toNat)
 case atStart => exact ⟨0, _, Nat.zero_le _, rfl, hM0.out, ⟨by simp, fun j r hr => by
  have h1 := (List.getElem?_eq_some_iff.1 hr).1;rw [List.length_replicate] at h1;rw [List.getElem?_replicate, if_pos h1] at hr
  cases hr
  exact (if_neg (Nat.not_lt_zero j)).symm⟩, hbm0.out⟩
 case round =>
  clear hM0 hbm0;obtain ⟨k, R, hk, rfl, hM, hR, hb⟩ := hrel
  by_cases hlt : k < N
  ·have k0 : (0 : Int) ≤ (k : Int) := by omega
   have k1 : (k : Int) < (N : Int) := by omega
   obtain ⟨gp2, op2, x, e9, -, -, -, hx, cx, -⟩ := SlI.get (t1'.out.below hb.out (.inr hbkw)) hlt;cases e9;obtain ⟨r, hr⟩ : ∃ r, R[k]? = some r := ⟨_, List.getElem?_eq_getElem (by rw [hR.out.1]; exact hlt)⟩;have hMa := hM.out.alloc (.cells #[.int .i64 x] 2);have hfz := (hMa.cell hr).2;have hcz := (hMa.cell hr).1;have hbkl : bk < wr.heap.size := hM.out.lt;have hnew : Own 1 iv (wr.alloc (.cells #[.int .i64 x] 2)) (bk + 1) 2 (some ⟨wr.heap.size, 0, none⟩) 1 1 [x] := Own.litL (heap_alloc_new wr _) rfl hbkl;have hM2 := hide (hM.out.push (Nat.lt_succ_self _) hbkl hr hnew (grown_alloc wr _ _) (.inr rfl));have hR2 : Hid (RowsAre (R.set k ((some ⟨wr.heap.size, 0, none⟩, 1, 1), [x])) N fun j => if j < k + 1 then [(p[j]?).getD 0] else []) := hR.out.set hlt (by show [x] = _; rw [if_pos (by omega), hx]; rfl) fun j hj _ => by
    by_cases e : j < k
    ·rw [if_pos e, if_pos (by omega)]
    ·rw [if_neg e, if_neg (by omega)]
   have hb2 := hide ((hb.out.alloc (Nat.le_of_lt (Nat.lt_of_le_of_lt (Nat.le_refl bk) hbkl)) (.cells #[.int .i64 x] 2)).setCell (p := ⟨bk, k, none⟩) zR (.slice (some ⟨wr.heap.size, 0, none⟩) 1 1));rw [World.setCell_alloc_past _ _ _ _ hbkl] at hM2 hb2;replace hx := hide hx;clear hMa hnew hR hM hr hb;go_wp2_with fail;go_roundw
   case rel => exact ⟨k + 1, _, by omega, by go_num, hM2.out, hR2.out, hb2.out⟩
   case measure => simp [intOf]; omega
  ·obtain rfl : k = N := by omega
   have k1 : ¬ (k : Int) < (k : Int) := by omega
   obtain ⟨N, rfl⟩ : ∃ N, N = k := ⟨_, rfl⟩;obtain ⟨wK, rfl⟩ : ∃ wK : World, wK = wr := ⟨_, rfl⟩;have ktK := hide (kt1.out.below hb.out hbk1);have b0 := ktK.out.c0;have b3 := ktK.out.c3;obtain ⟨bs, hbs⟩ : ∃ bs, bs = wK.heap.size := ⟨_, rfl⟩;have hbks : bk < bs := by rw [hbs]; exact hM.out.lt
   have hM0 := BackM.made wK N;have hbm0 := (Below.refl wK.heap.size wK).alloc zR (.cells (madeCells #[.slice none 0 0] N) 32);have b3' := (hbm0.cell (p := ⟨w.heap.size, 3, none⟩) (by rw [← hbs]; show w.heap.size < bs; omega)).trans b3;rw [← hbs] at hM0 hbm0;replace hM0 := hide hM0;replace hbm0 := hide hbm0;have t3K := hide (t3'.out.below hb.out (.inr hbkw));have t1K := hide (t1'.out.below hb.out (.inr hbkw));have hbsK : bs ≤ wK.heap.size := Nat.le_of_eq hbs;have hbsK2 : wK.heap.size ≤ bs := Nat.le_of_eq hbs.symm;have hRK : Hid (RowsAre R N fun j => [(p[j]?).getD 0]) := ⟨hR.out.1, fun j r hr => by
    have h1 := (List.getElem?_eq_some_iff.1 hr).1;rw [hR.out.1] at h1;exact (hR.out.2 j r hr).trans (if_pos h1)⟩
   obtain ⟨RK, rfl⟩ : ∃ RK, RK = R := ⟨_, rfl⟩;clear hR;go_upto_region 8 with fail;rw [← hbs];replace hbs := hide hbs;clear b0 b3;go_wp2_with fail;clear b3'
   go_loopw [35] (fun i wr => ∃ (k : Nat) (R : List (Hd × List Int)), k ≤ n3 ∧ i = .int .i64 (k : Nat) ∧ Hid (BackM wr bs (bs + 1) R) ∧ Hid (RowsAre R N (cdL (es.take k) N p)) ∧ Hid (Below bs wK wr)) (fun i _ => n3 - (intOf i).toNat)
   case atStart => exact ⟨0, _, Nat.zero_le _, rfl, hM0.out, ⟨by simp, fun j r hr => by
    have h1 := (List.getElem?_eq_some_iff.1 hr).1;rw [List.length_replicate] at h1;rw [List.getElem?_replicate, if_pos h1] at hr
    cases hr
    rfl⟩, hbm0.out⟩
   case round =>
    clear hM0 hbm0;obtain ⟨k, R, hk, rfl, hMS, hR, hbS⟩ := hrel
    by_cases hlt : k < n3
    ·have k0 : (0 : Int) ≤ (k : Int) := by omega
     have k1 : (k : Int) < (n3 : Int) := by omega
     obtain ⟨ge, oe, f, l, t, rfl, -, -, hge, hx, x0, x1, x2, -⟩ := SlE.get (t3K.out.below hbS.out (.inr hbsK2)) hlt;have hin := he _ (List.mem_of_getElem? hx);have hlb := hL _ (List.mem_of_getElem? hx)
     (try dsimp only at hin hlb)
     obtain ⟨f, rfl⟩ : ∃ k : Nat, f = (k : Int) := ⟨f.toNat, by omega⟩;obtain ⟨t, rfl⟩ : ∃ k : Nat, t = (k : Int) := ⟨t.toNat, by omega⟩;obtain ⟨l, rfl⟩ : ∃ k : Nat, l = (k : Int) := ⟨l.toNat, by omega⟩;have hfN : f < N := by omega
     have htN : t < N := by omega
     obtain ⟨gp2, op2, x, e9, -, -, hgp, hpx, cx, -⟩ := SlI.get (t1K.out.below hbS.out (.inr hbsK2)) htN;cases e9;have hxb := hp x (List.mem_of_getElem? hpx);obtain ⟨⟨⟨rA, rn, rc⟩, rl⟩, hr⟩ : ∃ r, R[f]? = some r := ⟨_, List.getElem?_eq_getElem (by rw [hR.out.1]; exact hfN)⟩;have hrl : rl = cdL (es.take k) N p f := hR.out.2 f _ hr;have hrn : rl.length = rn := (hMS.out.rows f _ hr).len;have hrn2 : rn ≤ n3 := by
      have h1 := cdL_len (es.take k) N p f;rw [← hrl, hrn, List.length_take] at h1;omega
     -- the box of the edge
     have kE := heap_alloc_new wr (.cells #[.int .i64 (f : Int), .int .i64 (l : Int), .int .i64 (t : Int)] 84);have hbE := (Below.refl wr.heap.size wr).alloc zR (.cells #[.int .i64 (f : Int), .int .i64 (l : Int), .int .i64 (t : Int)] 84);have hME := hMS.out.alloc (.cells #[.int .i64 (f : Int), .int .i64 (l : Int), .int .i64 (t : Int)] 84);obtain ⟨wE, hwE⟩ : ∃ wE, wE = wr.alloc (.cells #[.int .i64 (f : Int), .int .i64 (l : Int), .int .i64 (t : Int)] 84) := ⟨_, rfl⟩;rw [← hwE] at kE hbE hME;obtain ⟨be, hbe⟩ : ∃ be, be = wr.heap.size := ⟨_, rfl⟩;rw [← hbe] at kE;go_upto_region 11 with fail;rw [← hwE, ← hbe];have hber : wr.heap.size ≤ be := Nat.le_of_eq hbe.symm;have hbsr : bs < wr.heap.size := hMS.out.lt;have ktr := (ktK.out.below hbS.out (by omega)).below hbE (by omega);have hcode : cdE N p ((f : Int), (l : Int), (t : Int)) = (l : Int) * (N : Int) + x := by unfold cdE; simp only [Int.toNat_natCast]; rw [hpx]; rfl
     obtain ⟨mv, hmv⟩ : ∃ mv : Nat, mv = l * N := ⟨_, rfl⟩;have hmvb : mv ≤ 1000 * 80 := by rw [hmv]; exact Nat.mul_le_mul (by omega) hN
     have hmul : (l : Int) * (N : Int) = (mv : Int) := by rw [hmv, Int.natCast_mul]
     have hw1 : IntKind.i64.wrap ((l : Int) * (N : Int)) = (mv : Int) := by rw [hmul]; exact IntWalk.i64_in _ (by omega)
     obtain ⟨cv, hcv⟩ : ∃ cv : Int, cv = (mv : Int) + x := ⟨_, rfl⟩;have hw2 : IntKind.i64.wrap ((mv : Int) + x) = cv := by rw [hcv]; exact IntWalk.i64_in _ (by omega)
     have hcode2 : cdE N p ((f : Int), (l : Int), (t : Int)) = cv := by rw [hcode, hmul, hcv]
     obtain ⟨wD, hwD⟩ : ∃ wD, wD = wE.drew := ⟨_, rfl⟩;have hMD : BackM wD bs (bs + 1) R := by rw [hwD]; exact ⟨hME.outer, hME.rows, hME.apart⟩
     have hzD : wD.heap.size = wE.heap.size := by rw [hwD]; rfl
     have hbD : Below wr.heap.size wr wD := by rw [hwD]; exact hbE.drew
     have e0 : wD.cell? ⟨be, 0, none⟩ = some (.int .i64 (f : Int)) := by rw [hwD]; exact (cell_of_row wE be 0 _ _ (0, 0) kE).trans rfl
     have e1 : wD.cell? ⟨be, 1, none⟩ = some (.int .i64 (l : Int)) := by rw [hwD]; exact (cell_of_row wE be 1 _ _ (0, 0) kE).trans rfl
     have e2 : wD.cell? ⟨be, 2, none⟩ = some (.int .i64 (t : Int)) := by rw [hwD]; exact (cell_of_row wE be 2 _ _ (0, 0) kE).trans rfl
     have e3 : wD.cell? ⟨w.heap.size, 0, none⟩ = some (.int .i64 (N : Int)) := by rw [hwD]; exact ktr.c0
     have e4 := (hMD.cell hr).1;have e5 : wD.cell? ⟨gp, op + t, none⟩ = some (.int .i64 x) := (hbD.cell (p := ⟨gp, op + t, none⟩) hgp).trans cx;have hbel : be < wD.heap.size := by rw [hzD]; exact (Array.getElem?_eq_some_iff.1 kE).1
     have hzr : wr.heap.size ≤ wD.heap.size := hbD.size;have hbA := (Below.refl wD.heap.size wD).alloc zR (.cells #[.int .i64 cv] 2);have hMA := hMD.alloc (.cells #[.int .i64 cv] 2);have hOa := hide (hMA.rows f _ hr);have hfz := (hMA.cell hr).2;have hlit := hide (Sl.lit1' (f := iv) wD 2 cv #[.int .i64 cv] rfl 1 _ rfl);have hsz : (rn + 1) * 8 ≤ 140737488355328 := by omega
     have hza : bs + 1 ≤ (wD.alloc (.cells #[.int .i64 cv] 2)).heap.size := by rw [World.size_alloc]; omega
     have hzA : (wD.alloc (.cells #[.int .i64 cv] 2)).heap.size = wD.heap.size + 1 := World.size_alloc _ _;have a0 := (hbA.cell (p := ⟨be, 0, none⟩) hbel).trans e0;have a1 := (hbA.cell (p := ⟨be, 1, none⟩) hbel).trans e1;have a2 := (hbA.cell (p := ⟨be, 2, none⟩) hbel).trans e2;have a3 := (hbA.cell (p := ⟨w.heap.size, 0, none⟩) (by show w.heap.size < _; omega)).trans e3;have a4 := (hMA.cell hr).1;have a5 := (hbA.cell (p := ⟨gp, op + t, none⟩) (by show gp < _; omega)).trans e5;have hne : ∀ q, q < bs + 1 → some q ≠ (Value.slice rA rn rc).ownBlock := fun q hq e => by
      have := (hOa.out.lt q e.symm).1;omega
     have hneb : some be ≠ (Value.slice rA rn rc).ownBlock := fun e => by
      have := (hMS.out.rows f _ hr).lt be e.symm;omega
     have v0 := hneb;have v1 := hne w.heap.size (by omega);have v2 := hne bs (by omega);have v3 := hne gp (by omega);have m0 : be < (wD.alloc (.cells #[.int .i64 cv] 2)).heap.size := by omega
     have m1 : w.heap.size < (wD.alloc (.cells #[.int .i64 cv] 2)).heap.size := by omega
     have m2 : bs < (wD.alloc (.cells #[.int .i64 cv] 2)).heap.size := by omega
     have m3 : gp < (wD.alloc (.cells #[.int .i64 cv] 2)).heap.size := by omega
     have f0 : (0 : Int) ≤ (f : Int) := by omega
     have f1 : (f : Int) < (N : Int) := by omega
     have u0 : (0 : Int) ≤ (t : Int) := by omega
     have u1 : (t : Int) < (N : Int) := by omega
     have hpushM := hide (fun (A7 : Option Addr) (c7 : Nat) (w7 : World) (hown7 : Own 1 iv w7 (bs + 1) 2 A7 (rn + 1) c7 (rl ++ [cv])) (hgr7 : (wD.alloc (.cells #[.int .i64 cv] 2)).grownBy w7 (Value.slice rA rn rc).ownBlock) (hat7) => hMA.push (Nat.lt_succ_self _) hza hr hown7 hgr7 hat7);have hR2 : Hid (∀ (A7 : Option Addr) (c7 : Nat), RowsAre (R.set f ((A7, rn + 1, c7), rl ++ [cv])) N (cdL (es.take (k + 1)) N p)) := fun A7 c7 => hR.out.set hfN (by show rl ++ [cv] = _; rw [cdL_succ hx, if_pos rfl, hcode2, hrl]) fun j hj _ => by
      rw [cdL_succ hx, if_neg (by show ¬ (f : Int) = (j : Int); omega), List.append_nil]
     have hbelA := hide ((hbS.out.trans (hbD.mono (by omega))).alloc (by omega) (.cells #[.int .i64 cv] 2));replace hx := hide hx;replace hpx := hide hpx;replace hr := hide hr;replace hmv := hide hmv;replace hcv := hide hcv;replace hwD := hide hwD;replace hbe := hide hbe;replace hwE := hide hwE;clear x0 x1 x2 cx kE hbE hME hMD hMA hbD hbA ktr hcode hcode2 hmul hR hMS hbS hrl hneb hne;refine lateT_begin (S := fun w' => w'.cell? ⟨be, 0, none⟩ = some (.int .i64 (f : Int)) ∧ w'.cell? ⟨be, 1, none⟩ = some (.int .i64 (l : Int)) ∧ w'.cell? ⟨be, 2, none⟩ = some (.int .i64 (t : Int)) ∧ w'.cell? ⟨w.heap.size, 0, none⟩ = some (.int .i64 (N : Int)) ∧ w'.cell? ⟨bs, f, none⟩ = some (.slice rA rn rc) ∧ w'.cell? ⟨gp, op + t, none⟩ = some (.int .i64 x)) (st := 22) (by kernel_rfl) ?_;rw [← show wD = _ from hwD.out];have hS0 : (fun w' : World => w'.cell? ⟨be, 0, none⟩ = some (.int .i64 (f : Int)) ∧ w'.cell? ⟨be, 1, none⟩ = some (.int .i64 (l : Int)) ∧ w'.cell? ⟨be, 2, none⟩ = some (.int .i64 (t : Int)) ∧ w'.cell? ⟨w.heap.size, 0, none⟩ = some (.int .i64 (N : Int)) ∧ w'.cell? ⟨bs, f, none⟩ = some (.slice rA rn rc) ∧ w'.cell? ⟨gp, op + t, none⟩ = some (.int .i64 x)) wD := ⟨e0, e1, e2, e3, e4, e5⟩;refine tkB 0 [22] hS0 ?_;refine tkB 1 [22] hS0 ?_;refine tkB 2 [22] hS0 ?_;refine tkB 3 [22] hS0 ?_;refine tkB 4 [22] hS0 ?_;refine tkB 5 [22] hS0 ?_;refine tkB 6 [22] hS0 ?_;refine tkB 7 [22] hS0 ?_;refine tkB 8 [22] hS0 ?_;refine tkB 9 [22] hS0 ?_;refine tkB 10 [22] hS0 ?_;refine tkB 11 [22] hS0 ?_;refine tkB 12 [22] hS0 ?_;refine tkB 13 [22] hS0 ?_;refine tkB 14 [22] hS0 ?_;refine tkB 15 [22] hS0 ?_;refine tkB 16 [22] hS0 ?_;refine tkB 17 [22] hS0 ?_;refine tkB 18 [22] hS0 ?_;refine lS 19 fun K hK => ?_
     go_simp;refine kP hK (fun _ => ⟨a0, a1, a2, a3, a4, a5⟩) ?_
     clear hK K;refine lS 20 fun K hK => ?_
     refine step_appL (m := 1) (d := 1) (by rfl) (.tmp 46) (.tmp 58) (by rfl) hEi.out flat_iv (by go_simp) hOa.out (by go_simp) hlit.out hsz hza ?_;intro A7 c7 w7 hown7 hgr7 hb7 hat7;have d0 := grown_cell9 hgr7 m0 v0 a0;have d1 := grown_cell9 hgr7 m0 v0 a1;have d2 := grown_cell9 hgr7 m0 v0 a2;have d3 := grown_cell9 hgr7 m1 v1 a3;have d4 := grown_cell9 hgr7 m2 v2 a4;have d5 := grown_cell9 hgr7 m3 v3 a5;have df := grown_frozen9 hgr7 m2 v2 hfz;refine kP hK (fun _ => ⟨d0, d1, d2, d3, d4, d5⟩) ?_;clear hK K;refine lS 21 fun K hK => ?_
     go_simp;refine kP hK (fun _ => ⟨d0, d1, d2, d3, d4, d5⟩) ?_
     clear hK K;refine lS 22 fun K hK => ?_
     go_simp;refine kP hK nH ?_
     clear hK K;refine lateT_done (by kernel_rfl) ?_ _;have hM7 := hide (hpushM.out A7 c7 w7 hown7 hgr7 hat7);have hb7' := hide ((hbelA.out.grown hgr7 (by omega) (fun q e => by have := (hOa.out.lt q e).1; omega)).setCell (p := ⟨bs, f, none⟩) zR (.slice A7 (rn + 1) c7));have hR7 := hide (hR2.out A7 c7);clear hpushM hR2 hbelA hgr7 hb7 hat7 hown7;go_wp2_with fail;go_roundw
     case rel => exact ⟨k + 1, _, by omega, by go_num, hM7.out, hR7.out, hb7'.out⟩
     case measure => simp [intOf]; omega
    ·obtain rfl : k = n3 := by omega
     have k1 : ¬ (k : Int) < (k : Int) := by omega
     obtain ⟨n3, rfl⟩ : ∃ n3, n3 = k := ⟨_, rfl⟩;obtain ⟨wS, rfl⟩ : ∃ wS : World, wS = wr := ⟨_, rfl⟩;obtain ⟨RS, rfl⟩ : ∃ RS, RS = R := ⟨_, rfl⟩;have hRS : Hid (RowsAre RS N (cdL es N p)) := by
      have := hR.out;rw [List.take_of_length_le (by rw [hl3]; exact zR)] at this;exact this
     have hMK := hide (hM.out.below (hbS.out.mono hbsK2));have hKb : Hid (∀ (i : Nat) (r : Hd × List Int), RK[i]? = some r → ∀ g, (Value.slice r.1.1 r.1.2.1 r.1.2.2).ownBlock = some g → g < bs ∨ wS.heap.size ≤ g) := fun i r hr g hg => .inl (by have := ((hM.out.rows i r hr).lt g hg).2; omega)
     have hbw := hide (hb.out.trans (hbS.out.mono (by omega)));have hbsS : bs < wS.heap.size := hMS.out.lt;have hMS0 := hide hMS.out;clear hR hM hb k1;go_wp2_with fail
     go_loopw [64] (fun i wr => ∃ (k : Nat) (R : List (Hd × List Int)), k ≤ N ∧ i = .int .i64 (k : Nat) ∧ Hid (BackM wr bk (bk + 1) R) ∧ Hid (RowsAre R N fun j => if j < k then keyR es N p j else [(p[j]?).getD 0]) ∧ Hid (∀ (i : Nat) (r : Hd × List Int), R[i]? = some r → ∀ g, (Value.slice r.1.1 r.1.2.1 r.1.2.2).ownBlock = some g → g < bs ∨ wS.heap.size ≤ g) ∧ Hid (Below bk w1 wr) ∧ wS.heap.size ≤ wr.heap.size ∧ Hid (∀ b, bs ≤ b → b < wS.heap.size → (∀ (i : Nat) (r : Hd × List Int), i < k → RS[i]? = some r → (Value.slice r.1.1 r.1.2.1 r.1.2.2).ownBlock ≠ some b) → wr.heap[b]? = wS.heap[b]?)) (fun i _ => N - (intOf i).toNat)
     case atStart => exact ⟨0, RK, Nat.zero_le _, rfl, hMK.out, ⟨hRK.out.1, fun j r hr => (hRK.out.2 j r hr).trans (if_neg (Nat.not_lt_zero j)).symm⟩, hKb.out, hbw.out, zR, fun b _ _ _ => rfl⟩
     case round =>
      clear hMK hKb hbw;obtain ⟨k, R, hk, rfl, hM, hR, hKb, hb, hzS, hkeep⟩ := hrel
      by_cases hlt : k < N
      ·have k0 : (0 : Int) ≤ (k : Int) := by omega
       have k1 : (k : Int) < (N : Int) := by omega
       obtain ⟨⟨⟨sA, sn, sc⟩, sl⟩, hsr⟩ : ∃ r, RS[k]? = some r := ⟨_, List.getElem?_eq_getElem (by rw [hRS.out.1]; exact hlt)⟩;obtain ⟨⟨⟨kA, kn, kc⟩, kl⟩, hkr⟩ : ∃ r, R[k]? = some r := ⟨_, List.getElem?_eq_getElem (by rw [hR.out.1]; exact hlt)⟩;have hsl : sl = cdL es N p k := hRS.out.2 k _ hsr;have hkl : kl = [(p[k]?).getD 0] := (hR.out.2 k _ hkr).trans (if_neg (Nat.lt_irrefl k));have hOS := hMS0.out.rows k _ hsr;have hsn : sl.length = sn := hOS.len;have hsn2 : sn ≤ n3 := by rw [← hsn, hsl, ← hl3]; exact cdL_len _ _ _ _
       obtain rfl : kn = 1 := by have := (hM.out.rows k _ hkr).len; rw [hkl] at this; exact this.symm
       have hbsame : wr.heap[bs]? = wS.heap[bs]? := hkeep.out bs zR hbsS fun i r _ hr e => by
        have := ((hMS0.out.rows i r hr).lt bs e).1;omega
       have hcs : wr.cell? ⟨bs, k, none⟩ = some (.slice sA sn sc) := (World.cell?_of_block (w := wS) (by simpa using hbsame)).trans (hMS0.out.cell hsr).1;have hOr : Own 1 iv wr (bs + 1) 2 sA sn sc sl := hOS.keep fun g hg => hkeep.out g (by have := (hOS.lt g hg).1; omega) (hOS.lt g hg).2 fun i r hi hr e => by
        rcases hMS0.out.apart i k r _ (by omega) hr hsr with h1 | h1
        ·rw [e] at h1; cases h1
        ·exact h1 (e.trans hg.symm)
       have hown : ∀ g, (Value.slice sA sn sc).ownBlock = some g → bs + 1 ≤ g ∧ g < wS.heap.size := fun g hg => hOS.lt g hg
       have qS := hide (sortI_calls hOr (by omega));have hkeepK : Hid (∀ (W W' : World), BackM W bk (bk + 1) R → wr.heap.size ≤ W.heap.size → W.grownBy W' (Value.slice sA sn sc).ownBlock → BackM W' bk (bk + 1) R) := fun W W' hMW hzW hg => hMW.keepR (hg.block bk hMW.lt fun e => by have := (hown bk e.symm).1; omega) fun i r hr g hgg => hg.block g ((hMW.rows i r hr).lt g hgg).2 fun e => by
        have h1 := hown g e.symm
        rcases hKb.out i r hr g hgg with h2 | h2 <;> omega
       clear hOS;replace hsl := hide hsl;replace hkl := hide hkl;go_upto_region 16 with fail;clear hcs;go_wp2_with fail;refine qS.out.mono ?_;rintro e w5 ⟨rfl, hO5, hg5⟩;have hM5 := hkeepK.out wr w5 hM.out zR hg5;obtain ⟨wD, hwD⟩ : ∃ wD, wD = w5.drew := ⟨_, rfl⟩;have hMD : BackM wD bk (bk + 1) R := by rw [hwD]; exact ⟨hM5.outer, hM5.rows, hM5.apart⟩
       have hOD : Own 1 iv wD (bs + 1) 2 sA sn sc (sortI sl) := by rw [hwD]; exact hO5
       have hzD : wD.heap.size = w5.heap.size := by rw [hwD]; rfl
       have hz5 := hg5.size;have hgD : wr.grownBy wD (Value.slice sA sn sc).ownBlock := by rw [hwD]; exact ⟨hg5.os, hg5.tape, hg5.output, hg5.size, hg5.block⟩
       have c5 := (hMD.cell hkr).1;have qC := hide (compactI_calls (w := wD) hOD (by omega));have hMDk := hide (fun (w6 : World) (hg : wD.grownBy w6 (Value.slice sA sn sc).ownBlock) => hkeepK.out wD w6 hMD (by omega) hg);have hcl := compact_len (sortI sl);rw [sortI_len, hsn] at hcl;have hsz : (1 + (Lib.compact (sortI sl)).length) * 8 ≤ 140737488355328 := by omega
       have hKbk := hide (fun g (hg : (Value.slice kA 1 kc).ownBlock = some g) => hKb.out k _ hkr g hg);go_upto_region 17 with fail;replace hwD := hide hwD;replace hgD := hide hgD;clear hO5 hg5 hM5 qS hOr hOD hMD;refine lateT_begin (S := fun w' => w'.cell? ⟨bk, k, none⟩ = some (.slice kA 1 kc)) (st := 10) (by kernel_rfl) ?_;rw [← show wD = _ from hwD.out];have hS0 : (fun w' : World => w'.cell? ⟨bk, k, none⟩ = some (.slice kA 1 kc)) wD := c5;refine tkB 0 [10] hS0 ?_;refine tkB 1 [10] hS0 ?_;refine tkB 2 [10] hS0 ?_;refine tkB 3 [10] hS0 ?_;refine tkB 4 [10] hS0 ?_;refine tkB 5 [10] hS0 ?_;refine tkB 6 [10] hS0 ?_;refine lS 7 fun K hK => ?_
       go_simp;go_at_call 161
       refine qC.out.mono ?_;rintro e w6 ⟨rfl, hO6, hg6⟩;have hM6 := hMDk.out w6 hg6;have c6 := (hM6.cell hkr).1;have hfz6 := (hM6.cell hkr).2;have hOk6 := hide (hM6.rows k _ hkr);have hlit := hide (hO6.sl flat_iv);have hz6 := hg6.size;have hza : bk + 1 ≤ w6.heap.size := hM6.lt;go_wp2_with fail;refine kP hK (fun _ => c6) ?_;clear hK K;refine lS 8 fun K hK => ?_
       refine step_appL (m := (Lib.compact (sortI sl)).length) (d := sc) (by rfl) (.tmp 76) (.tmp 78) (by rfl) hEi.out flat_iv (by go_simp) hOk6.out (by go_simp) hlit.out hsz hza ?_;intro A7 c7v w7 hown7 hgr7 hb7 hat7;have hnb : some bk ≠ (Value.slice kA 1 kc).ownBlock := fun e => by
        have := (hOk6.out.lt bk e.symm).1;omega
       have c7 := grown_cell9 hgr7 (by omega) hnb c6;have df := grown_frozen9 hgr7 (by omega) hnb hfz6;refine kP hK (fun _ => c7) ?_;clear hK K;refine lS 9 fun K hK => ?_
       go_simp;refine kP hK (fun _ => c7) ?_
       clear hK K;refine lS 10 fun K hK => ?_
       go_simp;refine kP hK nH ?_
       clear hK K;refine lateT_done (by kernel_rfl) ?_ _;have hM8 := hide (hM6.push (Nat.lt_succ_self _) hza hkr hown7 hgr7 hat7);have hval : kl ++ Lib.compact (sortI sl) = keyR es N p k := by rw [hkl.out, hsl.out]; rfl
       have hR8 : Hid (RowsAre (R.set k ((A7, 1 + (Lib.compact (sortI sl)).length, c7v), kl ++ Lib.compact (sortI sl))) N fun j => if j < k + 1 then keyR es N p j else [(p[j]?).getD 0]) := hR.out.set hlt (by show kl ++ _ = _; rw [if_pos (by omega)]; exact hval) fun j hj _ => by
        by_cases e : j < k
        ·rw [if_pos e, if_pos (by omega)]
        ·rw [if_neg e, if_neg (by omega)]
       have hKb8 : Hid (∀ (i : Nat) (r : Hd × List Int), (R.set k ((A7, 1 + (Lib.compact (sortI sl)).length, c7v), kl ++ Lib.compact (sortI sl)))[i]? = some r → ∀ g, (Value.slice r.1.1 r.1.2.1 r.1.2.2).ownBlock = some g → g < bs ∨ wS.heap.size ≤ g) := fun i r hr g hg => by
        by_cases e : k = i
        ·subst e
         rw [List.getElem?_set_self (by rw [hR.out.1]; exact hlt)] at hr
         cases hr
         (try dsimp only at hg)
         rcases hat7 with h1 | h1
         ·exact hKbk.out g (h1.symm.trans hg)
         ·rw [h1] at hg
          injection hg with hg
          right; omega
        ·rw [List.getElem?_set_ne e] at hr
         exact hKb.out i r hr g hg
       have hb8 := hide (((((hb.out.grown hgD.out (by omega) (fun q e => by have := (hown q e).1; omega)).grown hg6 (by omega) (fun q e => by have := (hown q e).1; omega)).grown hgr7 (by omega) (fun q e => by have := (hOk6.out.lt q e).1; omega)).setCell (p := ⟨bk, k, none⟩) zR (.slice A7 (1 + (Lib.compact (sortI sl)).length) c7v)));have hz7 := hgr7.size;have hzS8 : wS.heap.size ≤ (w7.setCell ⟨bk, k, none⟩ (.slice A7 (1 + (Lib.compact (sortI sl)).length) c7v)).heap.size := by rw [World.size_setCell]; omega
       have hkeep8 : Hid (∀ b, bs ≤ b → b < wS.heap.size → (∀ (i : Nat) (r : Hd × List Int), i < k + 1 → RS[i]? = some r → (Value.slice r.1.1 r.1.2.1 r.1.2.2).ownBlock ≠ some b) → (w7.setCell ⟨bk, k, none⟩ (.slice A7 (1 + (Lib.compact (sortI sl)).length) c7v)).heap[b]? = wS.heap[b]?) := fun b h1 h2 h3 => by
        have hnk := h3 k _ (by omega) hsr;rw [Below.heap_setCell _ _ _ _ (show b ≠ bk by omega), hgr7.block b (by omega) (fun e => by
         rcases hKbk.out b e.symm with h4 | h4 <;> omega), hg6.block b (by omega) (fun e => hnk e.symm), hgD.out.block b (by omega) (fun e => hnk e.symm)]
        exact hkeep.out b h1 h2 fun i r hi hr => h3 i r (by omega) hr
       replace hM6 := hide hM6;replace hO6 := hide hO6;replace hg6 := hide hg6;clear hown7 hgr7 hb7 hat7 hR hM hb hkeep hKb hKbk hkeepK;replace hval := hide hval;replace hkr := hide hkr;replace hsr := hide hsr;go_wp2_with fail;go_roundw
       case rel => exact ⟨k + 1, _, by omega, by go_num, hM8.out, hR8.out, hKb8.out, hb8.out, hzS8, hkeep8.out⟩
       case measure => simp [intOf]; omega
      ·obtain rfl : k = N := by omega
       have k1 : ¬ (k : Int) < (k : Int) := by omega
       have hmap : R.map (·.2) = keysR es k p := by
        rw [hR.out.map];unfold keysR;exact List.map_congr_left fun j hj => by rw [if_pos (List.mem_range.1 hj)]
       have hrows := hM.out.rowsI fun i r hr => by
        have h1 : r.2 = keyR es k p i := (hR.out.2 i r hr).trans (if_pos (by have := (List.getElem?_eq_some_iff.1 hr).1; rw [hR.out.1] at this; exact this));rw [h1];have := keyR_len es k p i;omega
       rw [hR.out.1] at hrows;have qN := normalKeys_calls (some ⟨bk, 0, none⟩) k k R wr _ _ hrows (by omega) zR;rw [hmap] at qN;replace qN := hide qN;have hbF := hide (hb1.out.trans (hb.out.mono (by omega)));have hzF := hbF.out.size;clear hrows hmap hM hR hKb hb hkeep hMS hMS0 hRS;go_wp2_with fail;refine qN.out.mono ?_;rintro e w9 ⟨B, rfl, hB, hb9⟩;have hB9 := hide (hB.more hzF zR);replace hb9 := hide (hbF.out.trans (hb9.mono hzF));clear qN;go_wp2_with fail;go_ret;exact ⟨B, rfl, hB9.out, hb9.out⟩
end Go.Proofs.YtnhomkmfbngmgaaGreatDoor
namespace Go.Proofs.YtnhomkmfbngmgaaGreatDoor
open Go.ChangeShapes Go.WideShapes Go.ChangeAt Go.RowKit
theorem made_zeroP (w : World) (n : Nat) : SlI (w.alloc (.cells (madeCells #[.int .i64 0] n) 2)) w.heap.size (w.heap.size + 1) (some ⟨w.heap.size, 0, none⟩) n (zeroP n) := by
 refine ⟨by simp [zeroP], fun hn => ⟨w.heap.size, 0, rfl, zR, Nat.lt_succ_self _, by simp, fun k x hx j u hu => ?_⟩⟩;have hk : k < n := by have := (List.getElem?_eq_some_iff.1 hx).1; simpa [zeroP] using this
 have hx0 : x = 0 := by
  unfold zeroP at hx;rw [List.getElem?_replicate, if_pos hk] at hx;exact (Option.some.inj hx).symm
 subst hx0;have hj : j = 0 := by
  have := (List.getElem?_eq_some_iff.1 hu).1
  simp [iv] at this
  exact this
 subst hj
 simp [iv] at hu
 subst hu;have hg := heap_alloc_new w (.cells (madeCells #[.int .i64 0] n) 2);refine ⟨(cell_of_row _ _ _ _ _ (0, 0) hg).trans ?_, frozen_of_row _ _ _ _ _ hg⟩
 simp [madeCells, Value.cells, hk, Nat.mod_one]
theorem single_calls (N : Nat) (hN : N ≤ 1048576) (w : World) :
  Calls Tryz.prog 230 #[.int .i64 (N : Int)] w fun e w' => e = .returned (.slice (some ⟨w.heap.size, 0, none⟩) N N) ∧ SlI w' w.heap.size w'.heap.size (some ⟨w.heap.size, 0, none⟩) N (zeroP N) ∧ Below w.heap.size w w' := by
 have hmk := run_make_int N hN;go_enter Tryz.func230, Tryz.ntmps230;go_wp2_with fail;go_ret;exact ⟨rfl, (made_zeroP w N).more zR (by rw [World.size_alloc]; exact zR), bR.alloc zR _⟩
def NextOk (es : List Ed) (N : Nat) (F : FuncId) (pre : Array Value) (w : World) : Prop :=
 ∀ (k : Nat) (A : Option Addr) (c : Nat) (W : World) (lo hi : Nat), Below w.heap.size w W → SlI W lo hi A N (rndP es N k) →
  Calls Tryz.prog F (pre.push (.slice A N c)) W fun e W' => ∃ B c', e = .returned (.slice B N c') ∧ SlI W' W.heap.size W'.heap.size B N (rndP es N (k + 1)) ∧ Below W.heap.size W W' ∧ N ≤ c'
structure RouW (w wr : World) (es : List Ed) (N : Nat) (j : Nat) (A : Option Addr) (c : Nat) (R : List (HI × List Int)) : Prop where
 grow : GrowI wr w.heap.size N A (j + 1) c R
 vals : R.map (·.2) = (List.range (j + 1)).map (rndP es N)
 new : ∀ m, m < j → rndP es N (m + 1) ≠ rndP es N m
 below : Below w.heap.size w wr
 caps : ∀ r, r ∈ R → N ≤ r.1.2
def lenV9 (v : Value) : Nat := match v with | .slice _ n _ => n | _ => 0
theorem rounds_calls (es : List Ed) (N : Nat) (hN1 : 1 ≤ N) (hN : N ≤ 80) (he : EdIn N es) (F : FuncId) (pre : Array Value) (w : World) (hnext : NextOk es N F pre w)
  (hF : ∀ (v : Value) (W : World), Sem.run Tryz.prog (callFunc F (pre.push v)) W = .ok (.enter F (pre.push v)) W) :
  Calls Tryz.prog 139 #[.int .i64 (N : Int), .func (.func F) pre #[]] w fun e w' => ∃ r A c R, e = .returned (.slice A (r + 1) c) ∧ LastR es N r ∧ RouW w w' es N r A c R := by
 have hER := hide elem_rowI;have hS := hide (single_calls N (by omega) w);replace hnext := hide hnext;replace he := hide he;go_enter Tryz.func139, Tryz.ntmps139;go_wp2_with fail;refine hS.out.mono ?_;rintro e w3 ⟨rfl, hs3, hb3⟩;have hz3 := hb3.size;have hbl : Below w3.heap.size w3 (w3.alloc (.cells #[.slice (some ⟨w.heap.size, 0, none⟩) N N] 32)) := bR.alloc zR _;have hstart : Hid (RouW w (w3.alloc (.cells #[.slice (some ⟨w.heap.size, 0, none⟩) N N] 32)) es N 0 (some ⟨w3.heap.size, 0, none⟩) 1 [((some ⟨w.heap.size, 0, none⟩, N), zeroP N)]) :=
  ⟨GrowI.one hs3 hz3, rfl, fun i hi => absurd hi (by omega), hb3.trans (hbl.mono hz3), fun r hr => by obtain rfl := List.mem_singleton.1 hr; exact zR⟩
 clear hS hs3 hbl;go_wp2_with fail
 go_loopw [5] (fun o wr => ∃ (j : Nat) (A : Option Addr) (c : Nat) (R : List (HI × List Int)), j + 1 ≤ N ∧ o = .slice A (j + 1) c ∧ Hid (RouW w wr es N j A c R)) (fun o _ => N + 2 - lenV9 o)
 case atStart => exact ⟨0, _, _, _, hN1, rfl, hstart⟩
 case round =>
  clear hstart;obtain ⟨j, A, c, R, hj, rfl, hR⟩ := hrel;obtain ⟨bo, oo, Ah, ch, s, rfl, go1, go2, hrj, co, hsj, hoff⟩ := hR.out.grow.get (show j < j + 1 by omega);have hs : s = rndP es N j := by
   have h1 : (R.map (·.2))[j]? = some s := by rw [List.getElem?_map, hrj]; rfl
   rw [hR.out.vals, List.getElem?_map, List.getElem?_range (by omega)] at h1;exact (Option.some.inj h1).symm
  subst hs;have hwr := hR.out.below;have qY := hide (hnext.out j Ah ch wr _ _ hwr hsj);have hzr := hwr.size;have hi1 : IntKind.i64.wrap (((j + 1 : Nat) : Int) - 1) = (j : Int) := by rw [IntWalk.i64_in _ (by omega)]; omega
  have hi2 : ((j + 1 : Nat) : Int) - 1 = (j : Int) := by omega
  have hj0 : (0 : Int) ≤ (j : Int) := by omega
  have hj1 : (j : Int) < ((j + 1 : Nat) : Int) := by omega
  replace hsj := hide hsj;clear hoff hwr;go_upto_region 3 with fail;go_wp2_with fail;refine qY.out.mono ?_;rintro e w4 ⟨A4, c4, rfl, hs4, hb4, hc4⟩;have hG4 := hide (hR.out.grow.below hb4);have hz4 := hb4.size;have hsj4 := hide (hsj.out.below hb4 (.inr zR));have qE := equalI_calls Ah A4 N N ch c4 _ _ w4 _ _ _ _ hsj4.out hs4 (by omega) (by omega);replace hs4 := hide hs4;replace hb4 := hide hb4;clear co qY hi1 hi2 hj0 hj1
  by_cases heq : rndP es N j = rndP es N (j + 1)
  ·rw [decide_eq_true heq] at qE
   replace qE := hide qE;replace heq := hide heq;go_wp2_with fail;refine qE.out.mono ?_;rintro e w5 ⟨rfl, hb5⟩;go_wp2_with fail;go_ret;exact ⟨j, _, _, R, rfl, ⟨heq.out.symm, hR.out.new⟩, ⟨hG4.out.below hb5, hR.out.vals, hR.out.new, hR.out.below.trans ((hb4.out.trans (hb5.mono hz4)).mono hzr), hR.out.caps⟩⟩
  ·rw [decide_eq_false heq] at qE
   replace qE := hide qE;have hnew : Hid (∀ m, m < j + 1 → rndP es N (m + 1) ≠ rndP es N m) := fun m hm => by
    by_cases e : m < j
    ·exact hR.out.new m e
    ·obtain rfl : m = j := by omega
     exact fun h => heq h.symm
   have hjN : j + 1 + 1 ≤ N := rnd_bound he.out hN1 hnew.out;clear heq;go_wp2_with fail;refine qE.out.mono ?_;rintro e w5 ⟨rfl, hb5⟩;have hG5 := hide (hG4.out.below hb5);have hz5 := hb5.size;have hza : w.heap.size ≤ (w5.alloc (.cells #[.slice A4 N c4] 32)).heap.size := by rw [World.size_alloc]; omega
   have hOa := hide (hG5.out.own.alloc (.cells #[.slice A4 N c4] 32));replace hb5 := hide hb5;clear qE;go_wp2_with (first | (at_builtin; (with_reducible refine wpList_app rfl (.tmp 24) (.tmp 26) rfl hER.out (flat_hiV N) rfl hOa.out rfl (Sl.lit1' w5 32 ((A4, c4) : HI) _ rfl 1 _ ?c0) ?c1 hza ?_); rotate_right; intro A6 c6 w6 hown6 hgr6 hb6 hat6))
   case c0 => rfl
   case c1 => omega
   have hbA : Below w5.heap.size w5 (w5.alloc (.cells #[.slice A4 N c4] 32)) := bR.alloc zR _;have hb45 : Below w4.heap.size w4 (w5.alloc (.cells #[.slice A4 N c4] 32)) := hb5.out.trans (hbA.mono hz5);have hG6 := (hG5.out.below hbA).push ((hs4.out.below hb45 (.inr zR)).more hzr hb45.size) (fun b' off' hN0 e e2 => by
    obtain ⟨b2, o2, e3, g1, -⟩ := hs4.out.at_ hN0;rw [e] at e3;cases e3;have := (hR.out.grow.own.lt _ e2).2
    omega) hown6 hgr6 hat6
   have hBel : Below w.heap.size w w6 := hR.out.below.trans ((hb4.out.mono hzr).trans ((hb45.mono (by omega)).trans hb6));have hR6 : Hid (RouW w w6 es N (j + 1) A6 c6 (R ++ [((A4, c4), rndP es N (j + 1))])) :=
    ⟨hG6, by rw [List.map_append, hR.out.vals, List.range_succ (n := j + 1), List.map_append]; rfl, hnew.out, hBel, fun r hr => by
     rcases List.mem_append.1 hr with hr | hr
     ·exact hR.out.caps r hr
     ·obtain rfl := List.mem_singleton.1 hr; exact hc4⟩
   go_wp2_with fail;go_roundw
   case rel => exact ⟨j + 1, A6, c6, _, hjN, rfl, hR6⟩
   case measure => simp [lenV9]; omega
theorem lastR_calls (A : Option Addr) (base N n c : Nat) (R : List (HI × List Int)) (w : World) (h : GrowI w base N A (n + 1) c R) (hn : n ≤ 1048576) {Ah : Option Addr} {ch : Nat} {s : List Int} (hr : R[n]? = some ((Ah, ch), s)) :
  Calls Tryz.prog 138 #[.slice A (n + 1) c] w fun e w' => e = .returned (.slice Ah N ch) ∧ w = w' := by
 obtain ⟨bo, oo, Ah', ch', s', rfl, -, -, hrj, co, -, -⟩ := h.get (show n < n + 1 by omega);rw [hr] at hrj
 cases hrj
 have hi1 : IntKind.i64.wrap (((n + 1 : Nat) : Int) - 1) = (n : Int) := by rw [IntWalk.i64_in _ (by omega)]; omega
 have hi2 : ((n + 1 : Nat) : Int) - 1 = (n : Int) := by omega
 have hj0 : (0 : Int) ≤ (n : Int) := by omega
 have hj1 : (n : Int) < ((n + 1 : Nat) : Int) := by omega
 clear h hr;go_enter Tryz.func138, Tryz.ntmps138;go_wp2_with fail;go_ret;exact ⟨rfl, rfl⟩
section
variable {w : World} {N ini : Nat} {A : Option Addr} {n : Nat} {B : Option Addr} {m : Nat} {ls : List ByteArray} {es : List Ed}
theorem SysA.fewL (h : SysA w N ini A n B m ls es) : ∀ e, e ∈ es → e.2.1 ≤ 1000 := fun e he => by
 have h1 := h.labs e he;have h2 := h.many;omega
theorem SysA.next (h : SysA w N ini A n B m ls es) (c d : Nat) : NextOk es N 81 #[.agg #[.int .i64 (N : Int), .int .i64 (ini : Int), .slice A n c, .slice B m d]] w := by
 intro k P cP W lo hi hW hP;have hm := h.many;have hb := h.bounds;have hS := h.below hW zR;have q := refine_calls N ini A n c B m d P cP es (rndP es N k) W _ _ lo hi hS.se hP (by omega) hb.1.1 (Nat.le_trans hb.1.2 (by decide)) h.edges h.fewL (rnd_part k).range;refine q.mono ?_;rintro e W' ⟨Bq, rfl, h1, h2⟩;exact ⟨_, _, rfl, h1, h2, zR⟩
theorem SysA.rounds (h : SysA w N ini A n B m ls es) (c d : Nat) :
  Calls Tryz.prog 139 #[.int .i64 (N : Int), .func (.func 81) #[.agg #[.int .i64 (N : Int), .int .i64 (ini : Int), .slice A n c, .slice B m d]] #[]] w fun e w' => ∃ r A c R, e = .returned (.slice A (r + 1) c) ∧ LastR es N r ∧ RouW w w' es N r A c R :=
 rounds_calls es N h.bounds.1.1 (Nat.le_trans h.bounds.1.2 (by decide)) h.edges _ _ w (h.next c d) (fun v W => by kernel_rfl)
end
open Go.Lib Go.Sort
structure SysE (w : World) (N : Nat) (B : Option Addr) (m : Nat) (es : List Ed) : Prop where
 se : SlE w 0 w.heap.size B m es
 sz : m ≤ 100000
 one : 1 ≤ N
 few : N ≤ 80
 ins : EdIn N es
 labs : ∀ e, e ∈ es → e.2.1 ≤ 1000
section
variable {w w' : World} {N ini : Nat} {A : Option Addr} {n : Nat} {B : Option Addr} {m : Nat} {es : List Ed}
theorem SysE.below {K : Nat} (h : SysE w N B m es) (hb : Below K w w') (hK : w.heap.size ≤ K) : SysE w' N B m es :=
 ⟨(h.se.below hb (.inr hK)).here', h.sz, h.one, h.few, h.ins, h.labs⟩
theorem SysE.next (h : SysE w N B m es) (c d : Nat) : NextOk es N 81 #[.agg #[.int .i64 (N : Int), .int .i64 (ini : Int), .slice A n c, .slice B m d]] w := by
 intro k P cP W lo hi hW hP;have hS := h.below hW zR;have q := refine_calls N ini A n c B m d P cP es (rndP es N k) W _ _ lo hi hS.se hP h.sz h.one h.few h.ins h.labs (rnd_part k).range;refine q.mono ?_;rintro e W' ⟨Bq, rfl, h1, h2⟩;exact ⟨_, _, rfl, h1, h2, zR⟩
theorem SysE.rounds (h : SysE w N B m es) (c d : Nat) :
  Calls Tryz.prog 139 #[.int .i64 (N : Int), .func (.func 81) #[.agg #[.int .i64 (N : Int), .int .i64 (ini : Int), .slice A n c, .slice B m d]] #[]] w fun e w' => ∃ r A c R, e = .returned (.slice A (r + 1) c) ∧ LastR es N r ∧ RouW w w' es N r A c R :=
 rounds_calls es N h.one h.few h.ins _ _ w (h.next c d) (fun v W => by kernel_rfl)
theorem strongG_calls (h : SysE w N B m es) (c d : Nat) :
  Calls Tryz.prog 64 #[.agg #[.int .i64 (N : Int), .int .i64 (ini : Int), .slice A n c, .slice B m d]] w fun e w' => ∃ r P cP, e = .returned (.slice P N cP) ∧ LastR es N r ∧ SlI w' w.heap.size w'.heap.size P N (rndP es N r) ∧ Below w.heap.size w w' := by
 obtain ⟨w1, hw1⟩ : ∃ w1, w1 = w.alloc (ltsC N ini A n c B m d) := ⟨_, rfl⟩;have hBx : LtsBox w1 w.heap.size (N : Int) (ini : Int) A n c B m d := by rw [hw1]; exact heap_alloc_new w _
 have hbel : Below w.heap.size w w1 := by rw [hw1]; exact (Below.refl w.heap.size w).alloc zR _
 have b0 := hBx.c0;have b1 := hBx.c1;have b2 := hBx.c2;have b3 := hBx.c3;have hE1 := h.below hbel zR;have q2 := hide (hE1.rounds (ini := ini) (A := A) (n := n) c d);have hN1 := h.one;have hed := hide h.ins;have hz1 := hbel.size;replace hbel := hide hbel;replace hE1 := hide hE1;clear h hBx;go_enter Tryz.func64, Tryz.ntmps64;go_upto_region 1 with fail;rw [← show w1 = w.alloc (.cells #[.int .i64 (N : Int), .int .i64 (ini : Int), .slice A n c, .slice B m d] 27) from hw1];replace hw1 := hide hw1;go_wp2_with fail;refine q2.out.mono ?_;rintro e w3 ⟨r, A3, c3, R, rfl, hL, hR⟩;have hbF := hide (hbel.out.trans (hR.below.mono hz1));have hr1 := rnd_bound hed.out hN1 hL.2;obtain ⟨bo, oo, Ah, ch, s, rfl, go1, go2, hrj, co, hsj, hoff⟩ := hR.grow.get (show r < r + 1 by omega);have hs : s = rndP es N r := by
  have h1 : (R.map (·.2))[r]? = some s := by rw [List.getElem?_map, hrj]; rfl
  rw [hR.vals, List.getElem?_map, List.getElem?_range (by omega)] at h1;exact (Option.some.inj h1).symm
 subst hs;have hfew := hE1.out.few;have q3 := hide (lastR_calls _ _ N r c3 R w3 hR.grow (by omega) hrj);have hsF := hide (hsj.more hz1 zR);replace hL := hide hL;replace hR := hide hR;replace hsj := hide hsj;clear q2 b0 b1 b2 b3 co hrj hoff;go_wp2_with fail;refine q3.out.mono ?_;rintro e w4 ⟨rfl, rfl⟩;go_wp2_with fail;go_ret;exact ⟨r, Ah, ch, rfl, hL.out, hsF.out, hbF.out⟩
end
theorem ltsEs_mem {ls : List ByteArray} {rs : List Arc} {e : Ed} : e ∈ ltsEs ls rs ↔ ∃ a, a ∈ rs ∧ e = arcD (joiF ls) a := by
 unfold ltsEs;rw [compactE_mem];unfold sortE;rw [List.mem_mergeSort, List.mem_map];exact ⟨fun ⟨a, h, e⟩ => ⟨a, h, e.symm⟩, fun ⟨a, h, e⟩ => ⟨a, h, e.symm⟩⟩
theorem ltsEs_len (ls : List ByteArray) (rs : List Arc) : (ltsEs ls rs).length ≤ rs.length := by
 unfold ltsEs;refine Nat.le_trans (compactE_len _) ?_;unfold sortE;rw [List.length_mergeSort, List.length_map];exact zR
theorem joiF_len (ls : List ByteArray) : (joiF ls).length ≤ ls.length + 1 := by
 unfold joiF;rw [List.length_map];refine Nat.le_trans (Go.Lib.compact_length_le _) ?_;rw [List.length_mergeSort, List.length_map, List.length_cons];exact zR
def uniA (la : List ByteArray) (ea : List Ed) (lb : List ByteArray) (eb : List Ed) (Na : Nat) : List Arc := ea.map (arcOf la) ++ (eb.map (arcOf lb)).map (shiftA Na)
def uniE (la : List ByteArray) (ea : List Ed) (lb : List ByteArray) (eb : List Ed) (Na : Nat) : List Ed := ltsEs (la ++ lb) (uniA la ea lb eb Na)
theorem arcOf_mem {la : List ByteArray} {e : Ed} (h : 0 ≤ e.2.1 ∧ e.2.1 < (la.length : Int)) : (arcOf la e).2.1 ∈ la := by
 unfold arcOf;dsimp only;rw [List.getElem?_eq_getElem (show e.2.1.toNat < la.length by omega), Option.getD_some];exact List.getElem_mem _
theorem uni_in {la : List ByteArray} {ea : List Ed} {lb : List ByteArray} {eb : List Ed} {Na Nb : Nat} (hla : la.length ≤ 100) (hlb : lb.length ≤ 100)
  (ha : ∀ e, e ∈ ea → (0 ≤ e.1 ∧ e.1 < (Na : Int)) ∧ (0 ≤ e.2.1 ∧ e.2.1 < (la.length : Int)) ∧ (0 ≤ e.2.2 ∧ e.2.2 < (Na : Int)))
  (hb : ∀ e, e ∈ eb → (0 ≤ e.1 ∧ e.1 < (Nb : Int)) ∧ (0 ≤ e.2.1 ∧ e.2.1 < (lb.length : Int)) ∧ (0 ≤ e.2.2 ∧ e.2.2 < (Nb : Int))) :
  EdIn (Na + Nb) (uniE la ea lb eb Na) ∧ ∀ e, e ∈ uniE la ea lb eb Na → e.2.1 ≤ 1000 := by
 have key : ∀ e, e ∈ uniE la ea lb eb Na → (0 ≤ e.1 ∧ e.1 < ((Na + Nb : Nat) : Int)) ∧ (0 ≤ e.2.1 ∧ e.2.1 ≤ 1000) ∧ (0 ≤ e.2.2 ∧ e.2.2 < ((Na + Nb : Nat) : Int)) := by
  intro e he;obtain ⟨a, hm, rfl⟩ := ltsEs_mem.1 he;have hjl := joiF_len (la ++ lb);rw [List.length_append] at hjl;have lab : ∀ s, s ∈ la ++ lb → 0 ≤ idxZ (joiF (la ++ lb)) s ∧ idxZ (joiF (la ++ lb)) s ≤ 1000 := fun s hs => by
   obtain ⟨k, h1, h2⟩ := idxZ_get ((joi_mem_iff (la ++ lb) s).2 (.inr hs));have := (List.getElem?_eq_some_iff.1 h2).1;omega
  unfold uniA at hm
  rcases List.mem_append.1 hm with h | h
  ·obtain ⟨x, hx, rfl⟩ := List.mem_map.1 h
   have h1 := ha x hx;have h2 := lab _ (List.mem_append_left lb (arcOf_mem h1.2.1));simp only [arcD];refine ⟨?_, h2, ?_⟩
   ·show 0 ≤ x.1 ∧ x.1 < _; omega
   ·show 0 ≤ x.2.2 ∧ x.2.2 < _; omega
  ·obtain ⟨y, hy, rfl⟩ := List.mem_map.1 h
   obtain ⟨x, hx, rfl⟩ := List.mem_map.1 hy;have h1 := hb x hx;have h2 := lab _ (List.mem_append_right la (arcOf_mem h1.2.1));simp only [arcD, shiftA];refine ⟨?_, h2, ?_⟩
   ·show 0 ≤ x.1 + _ ∧ x.1 + _ < _; omega
   ·show 0 ≤ x.2.2 + _ ∧ x.2.2 + _ < _; omega
 exact ⟨fun e he => ⟨(key e he).1, (key e he).2.1.1, (key e he).2.2⟩, fun e he => (key e he).2.1.2⟩
end Go.Proofs.YtnhomkmfbngmgaaGreatDoor
