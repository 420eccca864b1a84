/-
  Lemmas that the law of this claim leans on. Conditions: sizes.
-/
import Derived.Test.YtnhomkmfbngmgaaGreatDoorBaseA
import Derived.Test.YtnhomkmfbngmgaaGreatDoorBaseB
import Derived.Test.YtnhomkmfbngmgaaGreatDoorBaseC
import Derived.Test.YtnhomkmfbngmgaaGreatDoorBaseD
import Derived.Test.YtnhomkmfbngmgaaGreatDoorBaseE
import Derived.Test.YtnhomkmfbngmgaaGreatDoorBaseF
import Derived.Test.YtnhomkmfbngmgaaGreatDoorBaseG
import Derived.StillTailTactics
import Derived.Deep.LoopGhost
import Derived.Lib.AppendZeros
import Derived.Deep.RegionLaw
set_option maxHeartbeats 6400000
set_option maxRecDepth 100000
set_option linter.unusedSimpArgs false
set_option linter.unusedVariables false
namespace Go.Proofs.YtnhomkmfbngmgaaGreatDoor
open Go.ChangeShapes Go.WideShapes Go.ChangeAt Go.RowKit Go.Sort
theorem cloneO_calls (A : Option Addr) (n c : Nat) (l : List Int) (w : World) (lo hi : Nat) (h : SlI w lo hi A n l) (hn : n ≤ 1048576) :
  Calls Tryz.prog 194 #[.slice A n c] w fun e w' => ∃ A' c', e = .returned (.slice A' n c') ∧ Own 1 iv w' w.heap.size 2 A' n c' l ∧ Below w.heap.size w w' := by
 have hnil : ∀ (W : World) (a : Option Addr) (m d : Nat), (binOp .eql 32 (.slice a m d) (.slice none 0 0)).run Tryz.prog W = .ok (.bool a.isNone) W := fun W a m d => Lib.run_eql_slice_nil W 32 _ a m d 0 0 Tryz.underlying32
 have hE := hide elem_int64
 cases A with
 | none =>
  have hn0 : n = 0 := by
   rcases Nat.eq_zero_or_pos n with h0 | h0
   ·exact h0
   ·obtain ⟨b, off, e, _⟩ := h.at_ h0
    cases e
  subst hn0;have hl := List.eq_nil_of_length_eq_zero h.len;subst hl;go_enter Tryz.func194, Tryz.ntmps194;go_wp2_with fail;go_ret;exact ⟨none, 0, rfl, Own.nil_ _ _ _, bR⟩
 | some a =>
  have hs := hide (h.below ((Below.refl w.heap.size w).alloc zR (.cells #[] 2)) (.inr zR));have hz : w.heap.size ≤ (w.alloc (.cells #[] 2)).heap.size := by simp
  clear h;go_enter Tryz.func194, Tryz.ntmps194;go_wp2_with (first | (at_builtin; (with_reducible refine wpList_app rfl (.tmp 5) (.tmp 6) rfl hE.out flat_iv rfl (Own.made w 2 zR) rfl hs.out ?c1 hz ?_); rotate_right; intro A2 c2 w2 hown2 hgr2 hb2 _))
  case c1 => omega
  go_ret;rw [Nat.zero_add, List.nil_append] at hown2
  exact ⟨_, _, rfl, hown2, (bR.alloc zR _).trans hb2⟩
theorem Sl.tight' {α : Type} {size : Nat} {f : α → List Value} {w : World} {lo hi n b off : Nat} {l : List α} (h : Sl size f w lo hi (some ⟨b, off, none⟩) n l) (hn : 0 < n) : Sl size f w b (b + 1) (some ⟨b, off, none⟩) n l := by
 refine ⟨h.len, fun _ => ?_⟩;obtain ⟨b', off', e, g1, g2, g3, hc⟩ := h.at_ hn
 cases e
 exact ⟨b, off, rfl, zR, Nat.lt_succ_self _, g3, hc⟩
structure MemD (W : World) (bo oo n : Nat) (out : List Int) (qb : Nat) (A : Option Addr) (q c : Nat) (todo : List Int) : Prop where
 out : SlI W bo (bo + 1) (some ⟨bo, oo, none⟩) n out
 que : OwnQ W qb A q c todo
 o1 : bo < qb
 o2 : qb ≤ W.heap.size
section
variable {W W' : World} {bo oo n qb q c : Nat} {out : List Int} {A : Option Addr} {todo : List Int}
theorem MemD.put (h : MemD W bo oo n out qb A q c todo) {k : Nat} (hk : k < n) (x : Int) : MemD (W.setCell ⟨bo, oo + k, none⟩ (.int .i64 x)) bo oo n (out.set k x) qb A q c todo :=
 ⟨SlI.put' h.out hk x, h.que.keep fun g hg _ => Below.heap_setCell _ _ _ _ (by have := h.o1; show g ≠ bo; omega), h.o1, by rw [World.size_setCell]; exact h.o2⟩
theorem MemD.alloc (h : MemD W bo oo n out qb A q c todo) (o : Obj) : MemD (W.alloc o) bo oo n out qb A q c todo := by
 have h1 := h.o1;have h2 := h.o2;exact ⟨Sl.keep h.out (by simp) fun b _ _ hb => Below.heap_alloc _ _ _ hb, h.que.alloc o, h1, by simp; omega⟩
theorem MemD.drewN (h : MemD W bo oo n out qb A q c todo) (k : Nat) : MemD (W.drewN k) bo oo n out qb A q c todo := ⟨h.out.drewN k, h.que.drewN k, h.o1, h.o2⟩
theorem MemD.app (h : MemD W bo oo n out qb A q c todo) {A' : Option Addr} {q' c' : Nat} {todo' : List Int} (hq : OwnQ W' qb A' q' c' todo') (hg : W.grownBy W' (Value.slice A q c).ownBlock) : MemD W' bo oo n out qb A' q' c' todo' := by
 have h1 := h.o1;have h2 := h.o2;have hne : ∀ b, b < qb → some b ≠ (Value.slice A q c).ownBlock := fun b hb e => by
  have := (h.que.lt b e.symm).1;omega
 exact ⟨Sl.keep h.out hg.size fun b hb1 hb2 hb3 => hg.block b hb3 (hne b (by omega)), hq, h1, Nat.le_trans h2 hg.size⟩
theorem MemD.cut {x : Int} (h : MemD W bo oo n out qb A q c (x :: todo)) : MemD W bo oo n out qb (cutA A 1 c 1) (q - 1) (c - 1) todo := ⟨h.out, h.que.cut, h.o1, h.o2⟩
end
def Marks (N : Nat) (l : List Int) (k : Nat) (out : List Int) : Prop := out.length = N ∧ ∀ (j : Nat) (x : Int), out[j]? = some x → (x = 0 ∧ (j : Int) ∈ l.take k) ∨ (x = -1 ∧ ¬ (j : Int) ∈ l.take k)
theorem Marks.zero (N : Nat) (l : List Int) : Marks N l 0 (List.replicate N (-1)) := by
 refine ⟨by simp, fun j x hx => .inr ⟨?_, by simp⟩⟩;exact List.eq_of_mem_replicate (List.mem_of_getElem? hx)
theorem Marks.step {N : Nat} {l : List Int} {k v : Nat} {out : List Int} (h : Marks N l k out) (hx : l[k]? = some (v : Int)) : Marks N l (k + 1) (out.set v 0) := by
 refine ⟨by rw [List.length_set]; exact h.1, fun j x hj => ?_⟩;have hmem : ∀ i : Nat, (i : Int) ∈ l.take (k + 1) ↔ (i : Int) ∈ l.take k ∨ i = v := fun i => by
  rw [List.take_add_one, hx, List.mem_append]
  constructor
  ·rintro (h1 | h1)
   ·exact .inl h1
   ·simp at h1
    exact .inr (by omega)
  ·rintro (h1 | h1)
   ·exact .inl h1
   ·subst h1
    exact .inr (by simp)
 by_cases e : v = j
 ·subst e
  have hl : v < out.length := by
   have := (List.getElem?_eq_some_iff.1 hj).1
   rwa [List.length_set] at this
  rw [List.getElem?_set_self hl] at hj;exact .inl ⟨(Option.some.inj hj).symm, (hmem v).2 (.inr rfl)⟩
 ·rw [List.getElem?_set_ne e] at hj
  rcases h.2 j x hj with ⟨h1, h2⟩ | ⟨h1, h2⟩
  ·exact .inl ⟨h1, (hmem j).2 (.inl h2)⟩
  ·exact .inr ⟨h1, fun hc => by
    rcases (hmem j).1 hc with h3 | h3
    ·exact h2 h3
    ·exact e h3.symm⟩
theorem Marks.all {N n : Nat} {l : List Int} {out : List Int} (h : Marks N l n out) (hl : l.length ≤ n) : ∀ (j : Nat) (x : Int), out[j]? = some x → (x = 0 ∧ srcE l j) ∨ (x = -1 ∧ ¬ srcE l j) := fun j x hx => by
 have := h.2 j x hx
 rwa [List.take_of_length_le hl] at this
def FoundE (fw : Bool) (es : List Ed) (i : Nat) (k : Nat) (out : List Int) : Prop := ∀ b, arcE fw (es.take i) k b → ∃ y : Int, out[b]? = some y ∧ 0 ≤ y
theorem arc_take_succ {fw : Bool} {es : List Ed} {i : Nat} {e : Ed} (hx : es[i]? = some e) {a b : Nat} (h : arcE fw (es.take (i + 1)) a b) : arcE fw (es.take i) a b ∨ (if fw = true then e.1 = (a : Int) ∧ e.2.2 = (b : Int) else e.2.2 = (a : Int) ∧ e.1 = (b : Int)) := by
 obtain ⟨e', hm, h⟩ := h;rw [List.take_add_one, hx, List.mem_append] at hm
 rcases hm with hm | hm
 ·exact .inl ⟨e', hm, h⟩
 ·simp at hm
  subst hm;exact .inr h
theorem FoundE.zero (fw : Bool) (es : List Ed) (k : Nat) (out : List Int) : FoundE fw es 0 k out := by
 rintro b ⟨e, hm, _⟩
 simp at hm
theorem FoundE.skip {fw : Bool} {es : List Ed} {i k : Nat} {out : List Int} {e : Ed} (h : FoundE fw es i k out) (hx : es[i]? = some e)
  (hs : ∀ b : Nat, (if fw = true then e.1 = (k : Int) ∧ e.2.2 = (b : Int) else e.2.2 = (k : Int) ∧ e.1 = (b : Int)) → ∃ y : Int, out[b]? = some y ∧ 0 ≤ y) : FoundE fw es (i + 1) k out := fun b hb => by
 rcases arc_take_succ hx hb with h1 | h1
 ·exact h b h1
 ·exact hs b h1
theorem FoundE.set {fw : Bool} {es : List Ed} {i k : Nat} {out : List Int} (h : FoundE fw es i k out) (v : Nat) {x : Int} (hx : 0 ≤ x) (hv : v < out.length) : FoundE fw es i k (out.set v x) := fun b hb => by
 obtain ⟨y, hy, hy0⟩ := h b hb
 by_cases e : v = b
 ·subst e
  exact ⟨x, List.getElem?_set_self hv, hx⟩
 ·exact ⟨y, by rw [List.getElem?_set_ne e]; exact hy, hy0⟩
def BoundD (N : Nat) (out : List Int) : Prop := ∀ (j : Nat) (x : Int), out[j]? = some x → x + (negs out : Int) ≤ (N : Int)
theorem BoundD.set {N v : Nat} {out : List Int} (h : BoundD N out) {k : Nat} {m z : Int} (hk : out[k]? = some m) (hz : out[v]? = some z) (hz0 : z < 0) (hm : 0 ≤ m) : BoundD N (out.set v (m + 1)) := fun j x hj => by
 have hn := negs_set (v := m + 1) hz hz0 (by omega);have h1 := h k m hk
 by_cases e : v = j
 ·subst e
  rw [List.getElem?_set_self (List.getElem?_eq_some_iff.1 hz).1] at hj;have := Option.some.inj hj;omega
 ·rw [List.getElem?_set_ne e] at hj
  have := h j x hj;omega
theorem map_nat_mem {l : List Int} (h : ∀ v ∈ l, 0 ≤ v) (k : Nat) : (k : Int) ∈ l ↔ k ∈ l.map Int.toNat := by
 constructor
 ·intro hk
  exact List.mem_map.2 ⟨_, hk, Int.toNat_natCast k⟩
 ·intro hk
  obtain ⟨v, hv, e⟩ := List.mem_map.1 hk;have := h v hv;rw [show (k : Int) = v by omega];exact hv
theorem distancesF_calls (N : Nat) (s1 : Int) (v2 : Value) (A3 : Option Addr) (n3 k3 : Nat) (A1 : Option Addr) (n1 c1 : Nat) (es : List Ed) (l : List Int) (w : World) (lo hi lo1 hi1 : Nat)
  (t3 : SlE w lo hi A3 n3 es) (t1 : SlI w lo1 hi1 A1 n1 l) (hes : n3 ≤ 1048576) (hn1 : n1 ≤ 1000) (hN1 : 1 ≤ N) (hN2 : N ≤ 40)
  (hedge : ∀ e ∈ es, (0 ≤ e.1 ∧ e.1 < (N : Int)) ∧ (0 ≤ e.2.2 ∧ e.2.2 < (N : Int))) (hin : ∀ v ∈ l, 0 ≤ v ∧ v < (N : Int)) :
  Calls Tryz.prog 125 #[.agg #[.int .i64 (N : Int), .int .i64 s1, v2, .slice A3 n3 k3], .slice A1 n1 c1, .bool true] w fun e w' => ∃ A c, e = .returned (.slice A N c) ∧ SlI w' w.heap.size w'.heap.size A N (distF true N es l) ∧ DistIs (srcE l) (arcE true es) N (distF true N es l) ∧ Below w.heap.size w w' := by
 have harc := hide (fun a k => arcE_in (es := es) (N := N) hedge (fw := true) a k);have hsrc : Hid (∀ k, srcE l k → k < N) := fun k hk => by have := hin k hk; omega
 have l3 := hide t3.len;have l1 := hide t1.len;have hb0 : Below w.heap.size w (w.alloc (.cells #[.int .i64 (N : Int), .int .i64 s1, v2, .slice A3 n3 k3] 27)) := bR.alloc zR _;have kE := heap_alloc_new w (.cells #[.int .i64 (N : Int), .int .i64 s1, v2, .slice A3 n3 k3] 27);have hz : w.heap.size < (w.alloc (.cells #[.int .i64 (N : Int), .int .i64 s1, v2, .slice A3 n3 k3] 27)).heap.size := by rw [World.size_alloc]; omega
 replace t3 := hide (t3.below hb0 (.inr zR));replace t1 := t1.below hb0 (.inr zR);have hz' := Nat.le_of_lt hz;replace hb0 := hide hb0;replace hedge := hide hedge;replace hin := hide hin;go_enter Tryz.func125, Tryz.ntmps125;go_upto_region 1 with fail;generalize (w.alloc (.cells #[.int .i64 (N : Int), .int .i64 s1, v2, .slice A3 n3 k3] 27)) = W0 at *;generalize hbm : w.heap.size = bm at *;have c0 : W0.cell? ⟨bm, 0, none⟩ = some (.int .i64 (N : Int)) := cR 0 kE;have c3 : W0.cell? ⟨bm, 3, none⟩ = some (.slice A3 n3 k3) := cR 3 kE;clear kE;have hb1 : Below W0.heap.size W0 (W0.alloc (.cells #[.int .i64 (-1)] 2)) := bR.alloc zR _;have d0 : (W0.alloc (.cells #[.int .i64 (-1)] 2)).cell? ⟨bm, 0, none⟩ = some (.int .i64 (N : Int)) := (hb1.cell (p := ⟨bm, 0, none⟩) hz).trans c0;have q1 := hide (repeatI_calls (some ⟨W0.heap.size, 0, none⟩) 1 (-1) N _ _ _ (Sl.lit1' W0 2 (-1 : Int) _ rfl 1 _ rfl) hN1 (by omega));have hb1z := hb1.size;replace hb1 := hide hb1;go_wp2_with fail;refine q1.out.mono ?_;rintro e w1 ⟨Ao, rfl, ho1, hb2⟩;have hbA := hb1.out.trans (hb2.mono hb1z);obtain ⟨bo, oo, rfl, hbo1, hbo2, -, -⟩ := ho1.at_ hN1;have q2 := hide (cloneO_calls A1 n1 c1 l w1 lo1 hi1 (t1.below hbA (.inr zR)) (by omega));have ho1t : SlI w1 bo (bo + 1) (some ⟨bo, oo, none⟩) N (List.replicate N (-1)) := ho1.tight' hN1;have hbow : W0.heap.size ≤ bo := Nat.le_trans hb1z hbo1;replace hbA := hide hbA;clear c0 d0 q1 ho1 hb2;go_wp2_with fail;refine q2.out.mono ?_;rintro e w2 ⟨Aq, cq, rfl, hq1, hb3⟩;have hM0 : MemD w2 bo oo N (List.replicate N (-1)) w1.heap.size Aq n1 cq l := ⟨ho1t.below hb3 (.inl (by omega)), OwnQ.of hq1, hbo2, hb3.size⟩;have hbB := hide (hbA.out.trans (hb3.mono hbA.out.size));replace hM0 := hide hM0;have hmk0 := hide (Marks.zero N l);have hqb : Hid (bo < w1.heap.size) := hbo2;generalize w1.heap.size = qb at *;clear q2 ho1t hq1 hb3 hbA;go_upto_region 4 with fail
 go_loopw [24] (fun i wr => ∃ (k : Nat) (out : List Int), k ≤ n1 ∧ i = .int .i64 (k : Nat) ∧ Hid (MemD wr bo oo N out qb Aq n1 cq l) ∧ Hid (Marks N l k out) ∧ Below W0.heap.size W0 wr) (fun i _ => n1 - (intOf i).toNat)
 case atStart => exact ⟨0, _, Nat.zero_le _, rfl, hM0, hmk0, hbB.out⟩
 case round =>
  clear hM0 hmk0 hbB;obtain ⟨k, out, hk, rfl, hM, hmk, hb⟩ := hrel
  by_cases hlt : k < n1
  ·obtain ⟨b, off, x, rfl, -, -, g3, hx, p0, -⟩ := SlI.get t1 hlt
   have hxin := hin.out x (List.mem_of_getElem? hx);obtain ⟨v, rfl⟩ : ∃ v : Nat, x = (v : Int) := ⟨x.toNat, by omega⟩;have hv : v < N := by omega
   have hvI : (v : Int) < (N : Int) := by omega
   replace p0 := (hb.cell (p := ⟨b, off + k, none⟩) g3).trans p0;obtain ⟨b6, o6, z, e6, -, -, -, -, cz, fz⟩ := SlI.get hM.out.out hv;cases e6;have hM1 := hide (hM.out.put hv 0);have hmk1 := hide (hmk.out.step hx);replace hb := hide hb;clear hx hxin hM hmk;go_wp2_with fail;go_roundw
   case rel => exact ⟨k + 1, _, by omega, by go_num, hM1, hmk1, hb.out.setCell hbow _⟩
   case measure => simp [intOf]; omega
  ·have hkn : k = n1 := by omega
   subst hkn;have hmarks := hmk.out.all (by rw [l1.out]; exact zR);have hqs : Hid (QueIs (srcE l) (arcE true es) N out (l.map Int.toNat)) := QueIs.start _ _ hmk.out.1 hmarks (fun j => map_nat_mem (fun v hv => (hin.out v hv).1) j) hsrc.out;have hng := negs_le out;rw [hmk.out.1] at hng;have hbd : Hid (BoundD N out) := fun j x hj => by
    rcases hmarks j x hj with ⟨h1, -⟩ | ⟨h1, -⟩ <;> omega
   have hpos : Hid (∀ v ∈ l, 0 ≤ v) := fun v hv => (hin.out v hv).1
   have hll := l1.out;replace hll := hide hll;replace hb := hide hb;clear hmk t1;go_wp2_with fail
   go_loopg [8] (k + N) (fun G v wr => ∃ (out todo : List Int) (A : Option Addr) (q c : Nat), v = .slice A q c ∧ Hid (MemD wr bo oo N out qb A q c todo) ∧ Hid (QueIs (srcE l) (arcE true es) N out (todo.map Int.toNat)) ∧ Hid (∀ v ∈ todo, 0 ≤ v) ∧ Hid (q + negs out ≤ 1040) ∧ Hid (BoundD N out) ∧ Below W0.heap.size W0 wr ∧ Hid (q + negs out ≤ G))
   case atStart => exact ⟨out, l, Aq, k, cq, rfl, hM, hqs, hpos, by show _ ≤ _; omega, hbd, hb.out, by show _ ≤ _; omega⟩
   case round =>
    clear hM hqs hpos hb hng hbd hmarks;obtain ⟨out, todo, A, q, c, rfl, hM, hQ, hpos, hcap, hbd, hb, hG⟩ := hrel
    cases todo with
    | nil =>
     have hq0 : q = 0 := hM.out.que.len.symm;subst hq0;have hd := QueIs.done _ _ hQ.out (fun a k h => harc.out a k h) hsrc.out;have hf := hide (distF_of hd);replace hd := hide hd;have hs := hide hM.out.out;have ho1 := hM.out.o1;have ho2 := hM.out.o2;clear hM hQ hpos hcap hG hbd;go_wp2_with fail;go_ret;have hs9 := hs.out.more (show bm ≤ bo by omega) (show bo + 1 ≤ wr.heap.size by omega);exact ⟨_, _, rfl, by first | (rw [hf.out]; exact hs9) | (rw [hbm, hf.out]; exact hs9), by rw [hf.out]; exact hd.out, by first | exact hb0.out.trans (hb.mono hz') | (rw [hbm]; exact hb0.out.trans (hb.mono hz'))⟩
    | cons t todo =>
     obtain ⟨kn, rfl⟩ : ∃ kn : Nat, t = (kn : Int) := ⟨t.toNat, by have := hpos.out t (by simp); omega⟩;obtain ⟨qg, qo, rfl, e0, hq0, hqc⟩ := hM.out.que.head;have hcut : ∀ W : World, (Instr.slice 32 (.slice (some ⟨qg, qo, none⟩) q c) (some (.int .i64 1)) none none).run Tryz.prog W = .ok (.slice (cutA (some ⟨qg, qo, none⟩) 1 c 1) (q - 1) (c - 1)) W := fun W => run_cut elem_int64 (some ⟨qg, qo, none⟩) q c 1 (by omega) W
     have hM2 := hide hM.out.cut;have hQ2 : Hid (QueIs (srcE l) (arcE true es) N out (kn :: todo.map Int.toNat)) := by have := hQ.out; rwa [List.map_cons, Int.toNat_natCast] at this
     have hpos2 : Hid (∀ v ∈ todo, 0 ≤ v) := fun v hv => hpos.out v (List.mem_cons_of_mem _ hv)
     obtain ⟨mk, hmk, hmk0⟩ := hQ2.out.todo_ kn (by simp);have hknN : kn < N := by have := (List.getElem?_eq_some_iff.1 hmk).1; rw [hQ2.out.len] at this; exact this
     obtain ⟨G2, rfl⟩ : ∃ G2, gk = G2 + 1 := ⟨gk - 1, by have := hG.out; omega⟩;have hcap2 : Hid (q - 1 + negs out ≤ 1039) := by have := hcap.out; show _ ≤ _; omega
     have hG2 : Hid (q - 1 + negs out ≤ G2) := by have := hG.out; show _ ≤ _; omega
     have y3 := (hb.cell (p := ⟨bm, 3, none⟩) hz).trans c3;have hfz := hide (FoundE.zero true es kn out);have hmkv : Hid (out[kn]? = some mk) := hmk;replace hb := hide hb;clear hM hQ hpos hcap hG hmk;generalize cutA (some ⟨qg, qo, none⟩) 1 c 1 = AC at *;generalize c - 1 = cc at *;go_upto_region 12 with fail;clear y3 e0 hcut;obtain ⟨wo, rfl⟩ : ∃ wo : World, wo = wr := ⟨_, rfl⟩
     go_loopw [8, 43] (fun v i wr => ∃ (j : Nat) (out todo : List Int) (A : Option Addr) (q c : Nat), j ≤ n3 ∧ v = .slice A q c ∧ i = .int .i64 (j : Nat) ∧ Hid (MemD wr bo oo N out qb A q c todo) ∧ Hid (QueIs (srcE l) (arcE true es) N out (kn :: todo.map Int.toNat)) ∧ Hid (∀ v ∈ todo, 0 ≤ v) ∧ Hid (q + negs out ≤ 1039) ∧ Hid (BoundD N out) ∧ Hid (out[kn]? = some mk) ∧ Hid (FoundE true es j kn out) ∧ Below W0.heap.size W0 wr ∧ Hid (q + negs out ≤ G2)) (fun _ i _ => n3 - (intOf i).toNat)
     case atStart => exact ⟨0, out, todo, AC, _, _, Nat.zero_le _, rfl, rfl, hM2, hQ2, hpos2, hcap2, hbd, hmkv, hfz, hb.out, hG2⟩
     case round =>
      clear hM2 hQ2 hpos2 hcap2 hmkv hfz hb hG2 hbd;obtain ⟨j, out, todo, A, q, c, hj, rfl, rfl, hM, hQ, hpos, hcap, hbd, hmk, hfo, hb, hG⟩ := hrel
      by_cases hlt : j < n3
      ·obtain ⟨b, off, f, lb, tg, rfl, -, -, g3, hx, p0, p1, p2, -, -, -⟩ := SlE.get t3.out hlt
       replace p0 := (hb.cell g3).trans p0;replace p1 := (hb.cell (p := ⟨b, off + j * 3 + 1, none⟩) g3).trans p1;replace p2 := (hb.cell (p := ⟨b, off + j * 3 + 2, none⟩) g3).trans p2;have hed := hedge.out _ (List.mem_of_getElem? hx);dsimp only at hed;obtain ⟨fn, rfl⟩ : ∃ fn : Nat, f = (fn : Int) := ⟨f.toNat, by omega⟩;obtain ⟨tn, rfl⟩ : ∃ tn : Nat, tg = (tn : Int) := ⟨tg.toNat, by omega⟩;have hbN : tn < N := by omega
       have hbI : (tn : Int) < (N : Int) := by omega
       have hb0I : (0 : Int) ≤ (tn : Int) := by omega
       have hkI : (kn : Int) < (N : Int) := by omega
       have hk0I : (0 : Int) ≤ (kn : Int) := by omega
       have y3 := (hb.cell (p := ⟨bm, 3, none⟩) hz).trans c3;have hI0 : (0 : Int) ≤ (j : Int) := by omega
       have hI1 : (j : Int) < (n3 : Int) := by omega
       have hbE : Below wr.heap.size wr (wr.alloc (.cells #[.int .i64 (fn : Int), .int .i64 lb, .int .i64 (tn : Int)] 84)) := bR.alloc zR _;have kE := heap_alloc_new wr (.cells #[.int .i64 (fn : Int), .int .i64 lb, .int .i64 (tn : Int)] 84);have hbB := hide (hb.trans (hbE.mono hb.size));have hME := hide (hM.out.alloc (.cells #[.int .i64 (fn : Int), .int .i64 lb, .int .i64 (tn : Int)] 84));have z0 : (wr.alloc (.cells #[.int .i64 (fn : Int), .int .i64 lb, .int .i64 (tn : Int)] 84)).cell? ⟨wr.heap.size, 0, none⟩ = some (.int .i64 (fn : Int)) := cR 0 kE;have z2 : (wr.alloc (.cells #[.int .i64 (fn : Int), .int .i64 lb, .int .i64 (tn : Int)] 84)).cell? ⟨wr.heap.size, 2, none⟩ = some (.int .i64 (tn : Int)) := cR 2 kE;clear kE hbE hM hb;go_upto_region 14 with fail;clear p0 p1 p2 y3;generalize (wr.alloc (.cells #[.int .i64 (fn : Int), .int .i64 lb, .int .i64 (tn : Int)] 84)) = WE at *;go_quiet (fail);have hMq : Hid (MemD (WE.drewN nq) bo oo N out qb A q c todo) := hME.out.drewN nq;have hBq : Hid (Below W0.heap.size W0 (WE.drewN nq)) := ⟨hbB.out.os, hbB.out.tape, hbB.out.output, hbB.out.size, hbB.out.block⟩;clear z0 z2 hME hbB;generalize WE.drewN nq = wq at *;have hbg : tn < out.length := by rw [hQ.out.len]; exact hbN
       obtain ⟨b6, o6, z, e6, -, -, -, hz6, cz, fz⟩ := SlI.get hMq.out.out hbN;cases e6;obtain ⟨b7, o7, z7, e7, -, -, -, hz7, ck, -⟩ := SlI.get hMq.out.out hknN;cases e7;rw [hmk.out] at hz7;obtain rfl : mk = z7 := Option.some.inj hz7
       by_cases hak : fn = kn
       ·subst hak
        by_cases hz0 : z < 0
        ·have harcE : arcE true es fn tn := ⟨_, List.mem_of_getElem? hx, by simp⟩
         have hne : tn ≠ fn := by
          intro e;rw [e] at hz6;rw [hmk.out] at hz6;have := Option.some.inj hz6;omega
         have hQ9 : Hid (QueIs (srcE l) (arcE true es) N (out.set tn (mk + 1)) (fn :: (todo ++ [(tn : Int)]).map Int.toNat)) := by
          have := QueIs.add _ _ hQ.out hmk.out hz6 hz0 harcE
          show QueIs _ _ _ _ _
          rw [List.map_append, List.map_cons, List.map_nil, Int.toNat_natCast];exact this
         have hmk9 : Hid ((out.set tn (mk + 1))[fn]? = some mk) := by show _ = _; rw [List.getElem?_set_ne hne]; exact hmk.out
         have hfo9 : Hid (FoundE true es (j + 1) fn (out.set tn (mk + 1))) := (hfo.out.set tn (x := mk + 1) (by omega) hbg).skip hx (fun b hb => by
          have hbb : b = tn := by simp at hb; omega
          subst hbb;exact ⟨_, List.getElem?_set_self hbg, by omega⟩)
         have hnegs := negs_set (v := mk + 1) hz6 hz0 (by omega);have hbd9 := hide (hbd.out.set hmk.out hz6 hz0 (by obtain ⟨y, hy, hy0⟩ := hQ.out.todo_ fn (by simp); rw [hmk.out] at hy; cases hy; exact hy0));have hmkb : mk ≤ 40 := by have := hbd.out fn mk hmk.out; omega
         have hmk0 : 0 ≤ mk := by obtain ⟨y, hy, hy0⟩ := hQ.out.todo_ fn (by simp); rw [hmk.out] at hy; cases hy; exact hy0
         have hM9 := (hMq.out.put hbN (mk + 1)).alloc (.cells #[.int .i64 (tn : Int)] 2);have hqlen := hM9.que.len;have hcell0 := cell_one_new (wq.setCell ⟨bo, oo + tn, none⟩ (.int .i64 (mk + 1))) (.int .i64 (tn : Int)) 2 0 _ rfl;rw [addr_add, Nat.zero_add, World.size_setCell] at hcell0;replace hcell0 := hide hcell0;have hbp := hide ((hBq.out.setCell (p := ⟨bo, oo + tn, none⟩) hbow (.int .i64 (mk + 1))).alloc (by rw [World.size_setCell]; exact hBq.out.size) (.cells #[.int .i64 (tn : Int)] 2));have hzq : qb ≤ ((wq.setCell ⟨bo, oo + tn, none⟩ (.int .i64 (mk + 1))).alloc (.cells #[.int .i64 (tn : Int)] 2)).heap.size := hM9.o2;have hq9 : q + 1 ≤ 1048576 := by have := hcap.out; omega
         have hcap9 : Hid (q + 1 + negs (out.set tn (mk + 1)) ≤ 1039) := by have := hcap.out; show _ ≤ _; omega
         have hG9 : Hid (q + 1 + negs (out.set tn (mk + 1)) ≤ G2) := by have := hG.out; show _ ≤ _; omega
         have hpos9 : Hid (∀ v ∈ todo ++ [(tn : Int)], 0 ≤ v) := fun v hv => by
          rcases List.mem_append.1 hv with h1 | h1
          ·exact hpos.out v h1
          ·have : v = (tn : Int) := by simpa using h1
           omega
         have hqbo : W0.heap.size ≤ qb := by have := hM9.o1; omega
         have d2 : decide (z < (0 : Int)) = true := decide_eq_true hz0;replace hM9 := hide hM9;clear hx hed hz6 hz0 hne hbd hnegs hmk hfo hQ hpos hcap hG hMq hBq harcE hqlen;go_wp2_with (first
          | (at_builtin; (with_reducible refine wpList_appQ rfl (.tmp 73) (.tmp 75) rfl rfl hM9.out.que ⟨wq.heap.size, 0, none⟩ 1 (tn : Int) rfl hcell0.out hq9 hzq ?_); intro A5 c5 w5 hown5 hgr5 hb5 _))
         have hM5 := hide (hM9.out.app hown5 hgr5);have hb6 := hide (hbp.out.trans (hb5.mono hqbo));clear hown5 hgr5 hb5 hM9;go_roundw
         case rel => exact ⟨j + 1, _, _, A5, q + 1, c5, by omega, rfl, by go_num, hM5, hQ9, hpos9, hcap9, hbd9, hmk9, hfo9, hb6.out, hG9⟩
         case measure => simp [intOf]; omega
        ·have hfo9 : Hid (FoundE true es (j + 1) fn out) := hfo.out.skip hx (fun b hb => by
          have hbb : b = tn := by simp at hb; omega
          subst hbb;exact ⟨z, hz6, by omega⟩)
         have d2 : decide (z < (0 : Int)) = false := decide_eq_false hz0;clear hx hed hz6;go_wp2_with fail;go_roundw
         case rel => exact ⟨j + 1, _, _, A, q, c, by omega, rfl, by go_num, hMq, hQ, hpos, hcap, hbd, hmk, hfo9, hBq.out, hG⟩
         case measure => simp [intOf]; omega
       ·have hfo9 : Hid (FoundE true es (j + 1) kn out) := hfo.out.skip hx (fun b hb => by
         exfalso
         simp at hb
         omega)
        have hne : ((fn : Int) == (kn : Int)) = false := by rw [beq_eq_false_iff_ne]; omega
        clear hx hed hz6;go_wp2_with fail;go_roundw
        case rel => exact ⟨j + 1, _, _, A, q, c, by omega, rfl, by go_num, hMq, hQ, hpos, hcap, hbd, hmk, hfo9, hBq.out, hG⟩
        case measure => simp [intOf]; omega
      ·have hjn : j = n3 := by omega
       subst hjn;have hQ9 : Hid (QueIs (srcE l) (arcE true es) N out (todo.map Int.toNat)) := QueIs.pop _ _ hQ.out (fun b hb => hfo.out b (by rw [List.take_of_length_le (by rw [l3.out]; exact zR)]; exact hb));have hcap9 : Hid (q + negs out ≤ 1040) := by have := hcap.out; show _ ≤ _; omega
       replace hb := hide hb;clear hQ hcap hfo hmk;go_wp2_with fail
       go_roundg G2
       case measure => omega
       case rel => exact ⟨out, todo, A, q, c, rfl, hM, hQ9, hpos, hcap9, hbd, hb.out, hG⟩
end Go.Proofs.YtnhomkmfbngmgaaGreatDoor
namespace Go.Proofs.YtnhomkmfbngmgaaGreatDoor
def WayE (es : List Ed) : Nat → List Int → Nat → Prop
 | x, [], y => x = y
 | x, i :: l, y => ∃ (e : Ed) (z : Nat), 0 ≤ i ∧ es[i.toNat]? = some e ∧ e.1 = (x : Int) ∧ e.2.2 = (z : Int) ∧ WayE es z l y
theorem WayE.range {es : List Ed} {x y : Nat} {l : List Int} (h : WayE es x l y) : ∀ i, i ∈ l → 0 ≤ i ∧ i < (es.length : Int) := by
 induction l generalizing x with
 | nil => exact fun i hi => absurd hi List.not_mem_nil
 | cons j l ih =>
  obtain ⟨e', z', g0, g1, g2, g3, g4⟩ := h;intro i hi
  rcases List.mem_cons.1 hi with rfl | hi
  ·have := (List.getElem?_eq_some_iff.1 g1).1
   omega
  ·exact ih g4 i hi
open Go.ChangeAt Go.ChangeShapes Go.RowKit Go.WideShapes
abbrev RowsI (most : Nat) := RowsG (id : Hd → Hd) 1 sv 1 iv most
abbrev HI := Option Addr × Nat
def hiV (N : Nat) (x : HI) : List Value := [.slice x.1 N x.2]
theorem flat_hiV (N : Nat) : Flat (hiV N) 1 := ⟨fun _ => rfl, fun x u h => by simp [hiV] at h; subst h; rfl⟩
theorem elem_rowI : Elem Tryz.prog 162 32 1 24 := Elem.of (z := .slice none 0 0) Tryz.underlying162 (by kernel_rfl) rfl (by omega) (by omega)
structure GrowI (w : World) (base N : Nat) (A : Option Addr) (n c : Nat) (R : List (HI × List Int)) : Prop where
 own : Own 1 (hiV N) w base 32 A n c (R.map (·.1))
 rows : ∀ r ∈ R, SlI w base w.heap.size r.1.1 N r.2
 off : ∀ r ∈ R, 0 < N → ∀ b off, r.1.1 = some ⟨b, off, none⟩ → (Value.slice A n c).ownBlock ≠ some b
section
variable {w w4 w5 w' : World} {base N n c : Nat} {A : Option Addr} {R : List (HI × List Int)}
theorem GrowI.len (h : GrowI w base N A n c R) : R.length = n := by have := h.own.len; rwa [List.length_map] at this
theorem GrowI.nil_ (w : World) (base N : Nat) : GrowI w base N none 0 0 [] := ⟨Own.nil_ _ _ _, fun _ h => (List.not_mem_nil h).elim, fun _ h => (List.not_mem_nil h).elim⟩
theorem GrowI.keep (h : GrowI w base N A n c R) (hs : w.heap.size ≤ w'.heap.size) (hk : ∀ b, base ≤ b → b < w.heap.size → w'.heap[b]? = w.heap[b]?) : GrowI w' base N A n c R :=
 ⟨h.own.keep fun g hg => hk g (h.own.lt g hg).1 (h.own.lt g hg).2, fun r hr => ((h.rows r hr).keep hs fun b h1 _ h3 => hk b h1 h3).more zR hs, h.off⟩
theorem GrowI.below (h : GrowI w base N A n c R) (hb : Below w.heap.size w w') : GrowI w' base N A n c R := h.keep hb.size fun b _ h2 => hb.block b h2
theorem GrowI.one {Ah : Option Addr} {ch : Nat} {s : List Int} (hs : SlI w base w.heap.size Ah N s) (hb : base ≤ w.heap.size) : GrowI (w.alloc (.cells #[.slice Ah N ch] 32)) base N (some ⟨w.heap.size, 0, none⟩) 1 1 [((Ah, ch), s)] := by
 have hbel : Below w.heap.size w (w.alloc (.cells #[.slice Ah N ch] 32)) := bR.alloc zR _;refine ⟨⟨rfl, by simp [hiV], .inr ⟨w.heap.size, 1, #[.slice Ah N ch], rfl, hb, heap_alloc_new w _, zR, by decide, rfl, rfl⟩⟩, fun r hr => ?_, fun r hr hN b off e => ?_⟩
 ·obtain rfl := List.mem_singleton.1 hr
  exact (hs.below hbel (.inr zR)).more zR hbel.size
 ·obtain rfl := List.mem_singleton.1 hr
  obtain ⟨b', off', e', -, -, g3, -⟩ := hs.at_ hN;have e : Ah = _ := e;rw [e] at e'
  cases e'
  intro e2;have e2 : some w.heap.size = some b := e2;injection e2 with e2;omega
theorem GrowI.push (h : GrowI w4 base N A n c R) {Ah : Option Addr} {ch : Nat} {s : List Int} (hs : SlI w4 base w4.heap.size Ah N s) (ho : ∀ b off, 0 < N → Ah = some ⟨b, off, none⟩ → (Value.slice A n c).ownBlock ≠ some b)
  {A5 : Option Addr} {c5 : Nat} (hown : Own 1 (hiV N) w5 base 32 A5 (n + 1) c5 (R.map (·.1) ++ [(Ah, ch)])) (hgr : w4.grownBy w5 (Value.slice A n c).ownBlock)
  (hat : (Value.slice A5 (n + 1) c5).ownBlock = (Value.slice A n c).ownBlock ∨ (Value.slice A5 (n + 1) c5).ownBlock = some w4.heap.size) :
  GrowI w5 base N A5 (n + 1) c5 (R ++ [((Ah, ch), s)]) := by
 have hz5 := hgr.size;have keepS : ∀ (B : Option Addr) (l : List Int), SlI w4 base w4.heap.size B N l → (∀ b off, 0 < N → B = some ⟨b, off, none⟩ → (Value.slice A n c).ownBlock ≠ some b) → SlI w5 base w5.heap.size B N l := by
  intro B l hl hne;refine ⟨hl.1, fun hm => ?_⟩;obtain ⟨b, off, rfl, g1, g2, g3, hc⟩ := hl.2 hm;have hk := hgr.block b g3 (fun e => hne b off hm rfl e.symm);refine ⟨b, off, rfl, g1, by omega, by omega, fun k x hx j u hu => ?_⟩;obtain ⟨h1, h2⟩ := hc k x hx j u hu;exact ⟨(World.cell?_of_block (w := w4) (by simpa using hk)).trans h1, (World.frozen?_of_block (w := w4) (by simpa using hk)).trans h2⟩
 have hoff : ∀ (B : Option Addr) (l : List Int), SlI w4 base w4.heap.size B N l → (∀ b off, 0 < N → B = some ⟨b, off, none⟩ → (Value.slice A n c).ownBlock ≠ some b) → ∀ b off, 0 < N → B = some ⟨b, off, none⟩ → (Value.slice A5 (n + 1) c5).ownBlock ≠ some b := by
  intro B l hl hne b off hN e
  rcases hat with h1 | h1
  ·rw [h1]; exact hne b off hN e
  ·rw [h1]
   obtain ⟨b', off', e', -, -, g3, -⟩ := hl.at_ hN;rw [e] at e'
   cases e'
   intro e2;injection e2 with e2;omega
 refine ⟨by rw [List.map_append]; exact hown, fun r hr => ?_, fun r hr hm b off e => ?_⟩
 ·rcases List.mem_append.1 hr with hr | hr
  ·exact keepS _ _ (h.rows r hr) fun b off hm e => h.off r hr hm b off e
  ·obtain rfl := List.mem_singleton.1 hr
   exact keepS _ _ hs ho
 ·rcases List.mem_append.1 hr with hr | hr
  ·exact hoff _ _ (h.rows r hr) (fun b off hm e => h.off r hr hm b off e) b off hm e
  ·obtain rfl := List.mem_singleton.1 hr
   exact hoff _ _ hs ho b off hm e
theorem GrowI.get (h : GrowI w base N A n c R) {k : Nat} (hk : k < n) : ∃ b off Ah ch s, A = some ⟨b, off, none⟩ ∧ base ≤ b ∧ b < w.heap.size ∧ R[k]? = some ((Ah, ch), s) ∧ w.cell? ⟨b, off + k, none⟩ = some (.slice Ah N ch) ∧ SlI w base w.heap.size Ah N s ∧
  ∀ b off, 0 < N → Ah = some ⟨b, off, none⟩ → (Value.slice A n c).ownBlock ≠ some b := by
 have hl := h.len;obtain ⟨b, off, e, g1, g2, g3, hc⟩ := (h.own.sl (flat_hiV N)).at_ (by omega);have hr : R[k]? = some R[k] := List.getElem?_eq_getElem (by omega);have hm : R[k] ∈ R := List.getElem_mem _;have h0 := (hc k R[k].1 (by rw [List.getElem?_map, hr]; rfl) 0 _ rfl).1;rw [Nat.mul_one, Nat.add_zero] at h0;exact ⟨b, off, R[k].1.1, R[k].1.2, R[k].2, e, g1, g3, hr, h0, h.rows _ hm, fun b off hN e => h.off _ hm hN b off e⟩
theorem GrowI.rowsI (h : GrowI w base N A n c R) (hN : N ≤ 1048576) : RowsI 1048576 w base w.heap.size A n (R.map fun r => ((r.1.1, N, r.1.2), r.2)) := by
 refine ⟨?_, fun r hr => ?_⟩
 ·have := h.own.sl (flat_hiV N)
  refine ⟨by have := h.len; simp [this], fun hn => ?_⟩;obtain ⟨b, off, e, g1, g2, g3, hc⟩ := this.at_ hn;refine ⟨b, off, e, g1, g2, g3, fun k x hx j u hu => ?_⟩;rw [List.getElem?_map, List.getElem?_map] at hx;obtain ⟨r, hr, rfl⟩ := Option.map_eq_some_iff.1 hx;obtain ⟨r2, hr2, rfl⟩ := Option.map_eq_some_iff.1 hr;exact hc k r2.1 (by rw [List.getElem?_map, hr2]; rfl) j u hu
 ·obtain ⟨r2, hr2, rfl⟩ := List.mem_map.1 hr
  exact ⟨h.rows r2 hr2, hN⟩
end
def fstG {α : Type} (G : α → Bool) (l : List α) (i : Int) : Prop := (i = -1 ∧ l.any G = false) ∨ ∃ k : Nat, i = k ∧ k < l.length ∧ (l.take k).any G = false ∧ ∃ x, l[k]? = some x ∧ G x = true
theorem equalI_calls (A B : Option Addr) (n m c d : Nat) (l r : List Int) (w : World) (lo hi lo' hi' : Nat) (h : SlI w lo hi A n l) (g : SlI w lo' hi' B m r) (hn : n ≤ 1048576) (hm : m ≤ 1048576) :
  Calls Tryz.prog 80 #[.slice A n c, .slice B m d] w fun e w' => e = .returned (.bool (decide (l = r))) ∧ Below w.heap.size w w' := by
 have hl := hide h.len;have hr := hide g.len
 by_cases hnm : n = m
 ·subst hnm
  replace h := hide h;replace g := hide g;go_enter Tryz.func80, Tryz.ntmps80
  go_wp2
  go_loopw [13] (fun i wr => ∃ k : Nat, k ≤ n ∧ i = .int .i64 k ∧ Below w.heap.size w wr ∧ l.take k = r.take k) (fun i _ => n - (intOf i).toNat)
  case atStart => exact ⟨0, Nat.zero_le _, rfl, bR, rfl⟩
  case round =>
   obtain ⟨k, hk, rfl, hb, he⟩ := hrel;replace he := hide he
   by_cases hlt : k < n
   ·obtain ⟨b, off, x, rfl, g1, g2, g3, hx, c0, -⟩ := h.out.get hlt
    obtain ⟨b', off', y, rfl, g1', g2', g3', hy, d0, -⟩ := g.out.get hlt;replace c0 := (hb.cell (p := ⟨b, off + k, none⟩) g3).trans c0;replace d0 := (hb.cell (p := ⟨b', off' + k, none⟩) g3').trans d0;replace hx := hide hx;replace hy := hide hy;clear h g;have hk0 : (0 : Int) ≤ (k : Int) := by omega
    have hk1 : (k : Int) < (n : Int) := by omega
    by_cases hxy : x = y
    ·subst hxy
     have hq : (x != x) = false := by simp
     go_wp2
     go_quiet (fail)
     go_wp2
     go_roundw
     case rel => exact ⟨k + 1, by omega, by go_num, by first | exact hb | exact ⟨hb.os, hb.tape, hb.output, hb.size, hb.block⟩, take_step he.out hx.out hy.out rfl⟩
     case measure => simp [intOf]; omega
    ·have hne := hide (take_stop hx.out hy.out hxy)
     have hq : (x != y) = true := by rw [bne_iff_ne]; exact hxy
     go_wp2
     go_quiet (fail)
     go_wp2
     go_ret;exact ⟨by simp [hne.out], by first | exact hb | exact ⟨hb.os, hb.tape, hb.output, hb.size, hb.block⟩⟩
   ·have hkn : k = n := by omega
    subst hkn;clear h g
    go_wp2
    go_ret;exact ⟨by rw [take_all he.out hl.out hr.out]; simp, hb⟩
 ·have hne : Hid (l ≠ r) := fun e => hnm (by rw [← hl.out, ← hr.out, e])
  have hb0 : ((n : Int) != (m : Int)) = true := by rw [bne_iff_ne]; omega
  clear h g;go_enter Tryz.func80, Tryz.ntmps80
  go_wp2
  go_ret;exact ⟨by simp [hne.out], bR⟩
theorem indexFuncR_calls (F : FuncId) (caps : Array Value) (G : List Int → Bool) (A : Option Addr) (n c : Nat) (R : List (Hd × List Int)) (w : World) (lo hi : Nat) (h : RowsI 1048576 w lo hi A n R) (hn : n ≤ 1048576)
  (hF : ∀ (v : Value) (W : World), Sem.run Tryz.prog (callFunc F (#[v] ++ caps)) W = .ok (.enter F (#[v] ++ caps)) W)
  (hcl : ∀ (A : Option Addr) (m d : Nat) (l : List Int) (W : World), ((A, m, d), l) ∈ R → Below w.heap.size w W → SlI W lo hi A m l → m ≤ 1048576 → Calls Tryz.prog F (#[.slice A m d] ++ caps) W (Says (G l) W)) :
  Calls Tryz.prog 239 #[.slice A n c, .func (.func F) #[] caps] w fun e w' => ∃ i : Int, e = .returned (.int .i64 i) ∧ fstG G (R.map (·.2)) i ∧ Below w.heap.size w w' := by
 have hlen : Hid (R.length = n) := by have := h.1.len; rwa [List.length_map] at this
 replace hcl := hide hcl;replace h := hide h;go_enter Tryz.func239, Tryz.ntmps239
 go_wp2
 go_loopw [8] (fun i wr => ∃ k : Nat, k ≤ n ∧ i = .int .i64 k ∧ Below w.heap.size w wr ∧ Hid (((R.map (·.2)).take k).any G = false)) (fun i _ => n - (intOf i).toNat)
 case atStart => exact ⟨0, Nat.zero_le _, rfl, bR, rfl⟩
 case round =>
  obtain ⟨k, hk, rfl, hb, ha⟩ := hrel
  by_cases hlt : k < n
  ·have hxr : R[k]? = some (R[k]'(by have := hlen.out; omega)) := List.getElem?_eq_getElem _
   have hmem : (R[k]'(by have := hlen.out; omega)) ∈ R := List.getElem_mem _;obtain ⟨hs0, hm0⟩ := h.out.2 _ hmem;obtain ⟨b, off, hA, g1, g2, g3, hc0⟩ := h.out.1.at_ (show 0 < n by omega);have c0 := (hc0 k _ (by rw [List.getElem?_map, hxr]; rfl) 0 _ rfl).1;rw [Nat.mul_one, Nat.add_zero] at c0;generalize (R[k]'(by have := hlen.out; omega)) = r at *;obtain ⟨⟨Ah, m, ch⟩, s⟩ := r
   (try dsimp only at hs0 hm0 c0)
   replace c0 := (hb.cell (p := ⟨b, off + k, none⟩) g3).trans c0;subst hA;have hc := hcl.out Ah m ch s wr hmem hb (hs0.below hb (.inr zR)) hm0;have hx2 : (R.map (·.2))[k]? = some s := by rw [List.getElem?_map, hxr]; rfl
   replace hx2 := hide hx2;clear h hcl hs0 hxr hmem hc0
   by_cases hg : G s = true
   ·rw [hg] at hc
    replace hc := hide hc;have hy : Hid (fstG G (R.map (·.2)) k) := .inr ⟨k, rfl, by rw [List.length_map, hlen.out]; exact hlt, ha.out, s, hx2.out, hg⟩;clear hg;go_wp2_with fail;refine hc.out.mono ?_;rintro e w1 ⟨rfl, hb1⟩;go_wp2_with fail;go_ret;exact ⟨_, rfl, hy.out, hb.trans (hb1.mono hb.size)⟩
   ·replace hg := Bool.eq_false_iff.2 hg
    rw [hg] at hc;replace hc := hide hc;have hy := hide (any_take_succ ha.out hx2.out hg);clear hg;go_wp2_with fail;refine hc.out.mono ?_;rintro e w1 ⟨rfl, hb1⟩;go_wp2_with fail;go_roundw
    case rel => exact ⟨k + 1, by omega, by go_num, hb.trans (hb1.mono hb.size), hy⟩
    case measure => simp [intOf]; omega
  ·have hkn : k = n := by omega
   subst hkn;clear hcl h
   go_wp2
   go_ret;have hy := ha.out
   rw [List.take_of_length_le (by rw [List.length_map, hlen.out]; exact zR)] at hy;exact ⟨_, rfl, .inl ⟨rfl, hy⟩, hb⟩
abbrev ltsC (N ini : Nat) (A : Option Addr) (n c : Nat) (B : Option Addr) (m d : Nat) : Obj := .cells #[.int .i64 (N : Int), .int .i64 (ini : Int), .slice A n c, .slice B m d] 27
structure BoxA (w w1 : World) (N ini : Nat) (A : Option Addr) (n c : Nat) (B : Option Addr) (m d : Nat) (ls : List ByteArray) (es : List Ed) : Prop where
 box : LtsBox w1 w.heap.size (N : Int) (ini : Int) A n c B m d
 sys : SysA w1 N ini A n B m ls es
 bel : Below w.heap.size w w1
theorem SysA.box {w : World} {N ini : Nat} {A : Option Addr} {n c : Nat} {B : Option Addr} {m d : Nat} {ls : List ByteArray} {es : List Ed} (h : SysA w N ini A n B m ls es) : BoxA w (w.alloc (ltsC N ini A n c B m d)) N ini A n c B m d ls es := by
 have hb := (Below.refl w.heap.size w).alloc zR (ltsC N ini A n c B m d);exact ⟨heap_alloc_new w _, h.below hb zR, hb⟩
section
variable {w w1 w2 : World} {N ini : Nat} {A : Option Addr} {n c : Nat} {B : Option Addr} {m d : Nat} {ls : List ByteArray} {es : List Ed}
theorem BoxA.below (h : BoxA w w1 N ini A n c B m d ls es) (hb : Below w1.heap.size w1 w2) : BoxA w w2 N ini A n c B m d ls es :=
 ⟨h.box.below hb h.box.lt, h.sys.below hb zR, h.bel.trans (hb.mono h.bel.size)⟩
theorem BoxA.lt (h : BoxA w w1 N ini A n c B m d ls es) : w.heap.size < w1.heap.size := h.box.lt
end
section
variable {w : World} {N ini : Nat} {A : Option Addr} {n : Nat} {B : Option Addr} {m : Nat} {ls : List ByteArray} {es : List Ed}
end
theorem grown_cell8 {w w' : World} {row : Option Nat} {q i : Nat} {v : Value} (h : w.grownBy w' row) (hq : q < w.heap.size) (hne : some q ≠ row) (hc : w.cell? ⟨q, i, none⟩ = some v) : w'.cell? ⟨q, i, none⟩ = some v :=
 (World.cell?_of_block (w := w) (by simpa using h.block q hq hne)).trans hc
section
variable {w : World} {N ini : Nat} {A : Option Addr} {n : Nat} {B : Option Addr} {m : Nat} {ls : List ByteArray} {es : List Ed}
end
open Go.Lib Go.Sort
def idxZ (l : List ByteArray) (v : ByteArray) : Int := if l.any (fun x => decide (x = v)) then ((l.findIdx fun x => decide (x = v) : Nat) : Int) else -1
theorem idxZ_hit {l : List ByteArray} {v : ByteArray} {k : Nat} (hx : l[k]? = some v) (ha : (l.take k).any (fun x => decide (x = v)) = false) : idxZ l v = (k : Int) := by
 obtain ⟨hk, e⟩ := List.getElem?_eq_some_iff.1 hx;have h1 : l.any (fun x => decide (x = v)) = true := any_hit (G := fun x => decide (x = v)) hx (decide_eq_true rfl);unfold idxZ;rw [if_pos h1]
 congr 1
 rw [List.findIdx_eq hk];refine ⟨by rw [e]; exact decide_eq_true rfl, fun j hj => ?_⟩;rw [List.any_eq_false] at ha;have := ha (l[j]'(by omega)) (List.mem_of_getElem? (show (l.take k)[j]? = some l[j] by rw [List.getElem?_take, if_pos hj, List.getElem?_eq_getElem (by omega)]))
 simpa using this
theorem idxZ_none {l : List ByteArray} {v : ByteArray} (ha : l.any (fun x => decide (x = v)) = false) : idxZ l v = -1 := by
 unfold idxZ;rw [ha]
 rfl
theorem idxZ_get {l : List ByteArray} {v : ByteArray} (h : v ∈ l) : ∃ k : Nat, idxZ l v = (k : Int) ∧ l[k]? = some v := by
 have h1 : l.any (fun x => decide (x = v)) = true := List.any_eq_true.2 ⟨v, h, decide_eq_true rfl⟩;unfold idxZ;rw [if_pos h1];have h2 : l.findIdx (fun x => decide (x = v)) < l.length := List.findIdx_lt_length.2 ⟨v, h, decide_eq_true rfl⟩;refine ⟨_, rfl, ?_⟩;rw [List.getElem?_eq_getElem h2];have h3 := List.findIdx_getElem (p := fun x => decide (x = v)) (xs := l) (w := h2);exact congrArg some (of_decide_eq_true h3)
theorem indexZ_calls (v : ByteArray) (A : Option Addr) (n c : Nat) (l : List ByteArray) (w : World) (lo hi : Nat) (h : SlS w lo hi A n l) (hn : n ≤ 1048576) :
  Calls Tryz.prog 185 #[.slice A n c, .string v] w fun e w' => e = .returned (.int .i64 (idxZ l v)) ∧ w' = w := by
 have hlen := hide h.len;go_enter Tryz.func185, Tryz.ntmps185
 go_wp2
 go_loop [8] (fun i => ∃ k : Nat, k ≤ n ∧ i = .int .i64 k ∧ Hid ((l.take k).any (fun x => decide (x = v)) = false)) (fun i => n - (intOf i).toNat)
 case atStart => exact ⟨0, Nat.zero_le _, rfl, rfl⟩
 case round =>
  obtain ⟨k, hk, rfl, ha⟩ := hrel
  by_cases hlt : k < n
  ·obtain ⟨b, off, x, rfl, g1, g2, g3, hx, c0, -⟩ := SlS.get h hlt
   clear h
   by_cases hq : x = v
   ·subst hq
    have hy := hide (idxZ_hit hx ha.out);have hself : (x.toList == x.toList) = true := beq_self_eq_true _;clear hx
    go_wp2
    go_ret;exact ⟨ret_i (by rw [hy.out]), rfl⟩
   ·have hy := hide (any_take_succ ha.out hx (decide_eq_false hq))
    have hne := str_neq hq;have hne2 : ¬ x.toList = v.toList := fun e => by rw [e, beq_self_eq_true] at hne; cases hne
    obtain ⟨hne3, hne4⟩ := str_list_ne3 hq;clear hx hq
    go_wp2
    go_round
    case rel => exact ⟨k + 1, by omega, by go_num, hy⟩
    case measure => simp [intOf]; omega
  ·have hkn : k = n := by omega
   subst hkn;clear h
   go_wp2
   go_ret;have hy := ha.out
   rw [List.take_of_length_le (by rw [hlen.out]; exact zR)] at hy;exact ⟨ret_i (by rw [idxZ_none hy]), rfl⟩
abbrev Arc := Int × ByteArray × Int
def av (a : Arc) : List Value := [.int .i64 a.1, .string a.2.1, .int .i64 a.2.2]
theorem flat_av : Go.Proofs.YtnhomkmfbngmgaaGreatDoor.Flat av 3 := ⟨fun _ => rfl, fun x u h => by simp [av] at h; rcases h with rfl | rfl | rfl <;> rfl⟩
abbrev SlA := Sl 3 av
theorem SlA.get {w : World} {lo hi n : Nat} {A : Option Addr} {l : List Arc} (h : SlA w lo hi A n l) {k : Nat} (hk : k < n) :
  ∃ b off x y z, A = some ⟨b, off, none⟩ ∧ lo ≤ b ∧ b < hi ∧ b < w.heap.size ∧ l[k]? = some (x, y, z) ∧ w.cell? ⟨b, off + k * 3, none⟩ = some (.int .i64 x) ∧ w.cell? ⟨b, off + k * 3 + 1, none⟩ = some (.string y) ∧ w.cell? ⟨b, off + k * 3 + 2, none⟩ = some (.int .i64 z) := by
 obtain ⟨b, off, e, g1, g2, g3, hc⟩ := h.at_ (by omega);have hl : k < l.length := by rw [h.len]; exact hk
 have h0 := hc k l[k] (List.getElem?_eq_getElem hl) 0 _ rfl;have h1 := hc k l[k] (List.getElem?_eq_getElem hl) 1 _ rfl;have h2 := hc k l[k] (List.getElem?_eq_getElem hl) 2 _ rfl;rw [← Nat.add_assoc] at h1 h2;exact ⟨b, off, l[k].1, l[k].2.1, l[k].2.2, e, g1, g2, g3, List.getElem?_eq_getElem hl, h0.1, h1.1, h2.1⟩
theorem info_arc : (Tryz.prog.info? 204).map (fun i => (i.zero, i.size, i.bytes)) = some (some (.agg #[.int .i64 0, .string ByteArray.empty, .int .i64 0]), 3, 32) := by kernel_rfl
theorem elem_arc : Elem Tryz.prog 155 204 3 32 := Elem.of Tryz.underlying155 info_arc rfl (by decide) (by decide)
def arcD (L : List ByteArray) (a : Arc) : Ed := (a.1, idxZ L a.2.1, a.2.2)
def ltsEs (ls : List ByteArray) (rs : List Arc) : List Ed := Lib.compact (sortE (rs.map (arcD (joiF ls))))
theorem LtsBox.set2 {w : World} {g : Nat} {st ini : Int} {A B A' : Option Addr} {n c m d n' c' : Nat} (h : LtsBox w g st ini A n c B m d) : LtsBox (w.setCell ⟨g, 2, none⟩ (.slice A' n' c')) g st ini A' n' c' B m d := heap_setCell_same w g 2 _ _ _ h
theorem LtsBox.set3 {w : World} {g : Nat} {st ini : Int} {A B B' : Option Addr} {n c m d m' d' : Nat} (h : LtsBox w g st ini A n c B m d) : LtsBox (w.setCell ⟨g, 3, none⟩ (.slice B' m' d')) g st ini A n c B' m' d' := heap_setCell_same w g 3 _ _ _ h
theorem LtsBox.grown {w w' : World} {row : Option Nat} {g : Nat} {st ini : Int} {A B : Option Addr} {n c m d : Nat} (h : LtsBox w g st ini A n c B m d) (hg : w.grownBy w' row) (hne : some g ≠ row) : LtsBox w' g st ini A n c B m d := by
 have h1 := hg.block g h.lt hne;exact h1.trans h
theorem Own.asideL {α : Type} {size : Nat} {f : α → List Value} {w : World} {base n c : Nat} {e : TypeId} {A : Option Addr} {l : List α} (h : Own size f w base e A n c l) {g j : Nat} (hne : some g ≠ (Value.slice A n c).ownBlock) (v : Value) : Own size f (w.setCell ⟨g, j, none⟩ v) base e A n c l :=
 h.keep fun q hq => (((Only.refl g (g + 1) w).setCell (p := ⟨g, j, none⟩) zR (Nat.lt_succ_self _) v).block q (h.lt q hq).2 (by
  have : g ≠ q := fun e => hne (by rw [e, hq])
  omega))
theorem Own.le_cap {α : Type} {size : Nat} {f : α → List Value} {w : World} {base n c : Nat} {e : TypeId} {A : Option Addr} {l : List α} (h : Own size f w base e A n c l) : n ≤ c := by
 rcases h.2.2 with ⟨hv, hn⟩ | ⟨g, cap, cur, hv, hb, hg, hnc, -⟩
 ·omega
 ·cases hv
  exact hnc
structure LtmL (w wr : World) (g9 w0s : Nat) (s i : Int) (A1 : Option Addr) (n2 c1 : Nat) (J : List ByteArray) (A3 : Option Addr) (k c3 : Nat) (E : List Ed) : Prop where
 box : LtsBox wr g9 s i A1 n2 c1 A3 k c3
 res : LtsBox wr w.heap.size 0 0 none 0 0 none 0 0
 labs : Own 1 strv wr w0s 9 A1 n2 c1 J
 eds : Own 3 ev wr (g9 + 1) 84 A3 k c3 E
 bel : Below w.heap.size w wr
 base : w.heap.size < w0s ∧ w0s ≤ g9
 lt : ∀ q, (Value.slice A1 n2 c1).ownBlock = some q → q < g9
section
variable {w wr w' : World} {g9 w0s : Nat} {s i : Int} {A1 : Option Addr} {n2 c1 : Nat} {J : List ByteArray} {A3 : Option Addr} {k c3 : Nat} {E : List Ed}
theorem LtmL.below (h : LtmL w wr g9 w0s s i A1 n2 c1 J A3 k c3 E) (hb : Below wr.heap.size wr w') : LtmL w w' g9 w0s s i A1 n2 c1 J A3 k c3 E where
 box := h.box.below hb h.box.lt
 res := h.res.below hb h.res.lt
 labs := h.labs.below hb zR
 eds := h.eds.below hb zR
 bel := h.bel.trans (hb.mono h.bel.size)
 base := h.base
 lt := h.lt
theorem LtmL.same (h : LtmL w wr g9 w0s s i A1 n2 c1 J A3 k c3 E) {E' : List Ed} (hg : wr.grownBy w' (Value.slice A3 k c3).ownBlock) (ho : Own 3 ev w' (g9 + 1) 84 A3 k c3 E') : LtmL w w' g9 w0s s i A1 n2 c1 J A3 k c3 E' := by
 have hb0 := h.base;have ha : ∀ q, q ≤ g9 → some q ≠ (Value.slice A3 k c3).ownBlock := fun q hq e => by
  have := (h.eds.lt q e.symm).1;omega
 exact ⟨h.box.grown hg (ha _ zR), h.res.grown hg (ha _ (by omega)), h.labs.keep fun q hq => hg.block q (h.labs.lt q hq).2 (ha q (by have := h.lt q hq; omega)), ho, h.bel.grown hg h.bel.size fun q e => by have := (h.eds.lt q e).1; omega, hb0, h.lt⟩
theorem LtmL.grown (h : LtmL w wr g9 w0s s i A1 n2 c1 J A3 k c3 E) {A7 : Option Addr} {k7 c7 : Nat} {E' : List Ed} (hg : wr.grownBy w' (Value.slice A3 k c3).ownBlock) (ho : Own 3 ev w' (g9 + 1) 84 A7 k7 c7 E') : LtsBox w' g9 s i A1 n2 c1 A3 k c3 ∧ LtmL w (w'.setCell ⟨g9, 3, none⟩ (.slice A7 k7 c7)) g9 w0s s i A1 n2 c1 J A7 k7 c7 E' := by
 have hb0 := h.base;have ha : ∀ q, q ≤ g9 → some q ≠ (Value.slice A3 k c3).ownBlock := fun q hq e => by
  have := (h.eds.lt q e.symm).1;omega
 have hbx := h.box.grown hg (ha _ zR);have hrs := h.res.grown hg (ha _ (by omega));have hO : Only g9 (g9 + 1) w' (w'.setCell ⟨g9, 3, none⟩ (.slice A7 k7 c7)) := (Only.refl g9 (g9 + 1) w').setCell (p := ⟨g9, 3, none⟩) zR (Nat.lt_succ_self _) _;have hbel : Below w.heap.size w w' := h.bel.grown hg h.bel.size fun q e => by have := (h.eds.lt q e).1; omega
 refine ⟨hbx, hbx.set3, hrs.only hO (.inl (by omega)), ?_, ?_, Only.below hbel hO (by omega) hbel.size, hb0, h.lt⟩
 ·have hl : Own 1 strv w' w0s 9 A1 n2 c1 J := h.labs.keep fun q hq => hg.block q (h.labs.lt q hq).2 (ha q (by have := h.lt q hq; omega))
  exact hl.asideL (fun e => by have := h.lt _ e.symm; omega) _
 ·exact ho.asideL (fun e => by have := (ho.lt _ e.symm).1; omega) _
end
theorem Own.sink {α : Type} {size : Nat} {f : α → List Value} {w : World} {base base' n c : Nat} {e : TypeId} {A : Option Addr} {l : List α} (h : Own size f w base e A n c l) (hb : base' ≤ base) : Own size f w base' e A n c l := by
 refine ⟨h.1, h.2.1, ?_⟩
 rcases h.2.2 with hn | ⟨g, cap, cur, hv, hg, rest⟩
 ·exact .inl hn
 ·exact .inr ⟨g, cap, cur, hv, by omega, rest⟩
theorem LtmL.done {w wr : World} {g9 w0s : Nat} {s i : Int} {A1 : Option Addr} {n2 c1 : Nat} {J : List ByteArray} {A3 : Option Addr} {k c3 : Nat} {E : List Ed} (h : LtmL w wr g9 w0s s i A1 n2 c1 J A3 k c3 E) {wf : World} (a b c d : Value)
  (hw : wf = (((wr.setCell ⟨w.heap.size, 0, none⟩ a).setCell ⟨w.heap.size, 1, none⟩ b).setCell ⟨w.heap.size, 2, none⟩ c).setCell ⟨w.heap.size, 3, none⟩ d) :
  SlS wf w.heap.size wf.heap.size A1 n2 J ∧ Own 3 ev wf w.heap.size 84 A3 k c3 E ∧ Below w.heap.size w wf := by
 have hb0 := h.base;have n1 : some w.heap.size ≠ (Value.slice A1 n2 c1).ownBlock := fun e => by have := (h.labs.lt _ e.symm).1; omega
 have n3 : some w.heap.size ≠ (Value.slice A3 k c3).ownBlock := fun e => by have := (h.eds.lt _ e.symm).1; omega
 have o1 := (Only.refl w.heap.size (w.heap.size + 1) wr).setCell (p := ⟨w.heap.size, 0, none⟩) zR (Nat.lt_succ_self _) a;have o2 := o1.setCell (p := ⟨w.heap.size, 1, none⟩) zR (Nat.lt_succ_self _) b;have o3 := o2.setCell (p := ⟨w.heap.size, 2, none⟩) zR (Nat.lt_succ_self _) c;have o4 := o3.setCell (p := ⟨w.heap.size, 3, none⟩) zR (Nat.lt_succ_self _) d;rw [hw];refine ⟨?_, ?_, Only.below h.bel o4 zR h.bel.size⟩
 ·exact (((((h.labs.asideL n1 _).asideL n1 _).asideL n1 _).asideL n1 _).sl flat_strv).more (by omega) zR
 ·exact (((((h.eds.asideL n3 _).asideL n3 _).asideL n3 _).asideL n3 _)).sink (by omega)
theorem ltsC_calls (s i : Int) (A : Option Addr) (n c : Nat) (ls : List ByteArray) (B : Option Addr) (m d : Nat) (rs : List Arc) (w : World) (lo hi lo2 hi2 : Nat) (hA : SlS w lo hi A n ls) (hhi : hi ≤ w.heap.size) (hn : n ≤ 100000) (hB : SlA w lo2 hi2 B m rs) (hhi2 : hi2 ≤ w.heap.size) (hm : m ≤ 100000000) :
  Calls Tryz.prog 134 #[.int .i64 s, .int .i64 i, .slice A n c, .slice B m d] w fun e w' => ∃ A2 n2 c2 A3 n3 c3, e = .returned (.agg #[.int .i64 s, .int .i64 i, .slice A2 n2 c2, .slice A3 n3 c3]) ∧ SlS w' w.heap.size w'.heap.size A2 n2 (joiF ls) ∧ Own 3 ev w' w.heap.size 84 A3 n3 c3 (ltsEs ls rs) ∧ Below w.heap.size w w' ∧ n2 ≤ c2 := by
 have hEs := hide elem_str;have hEe := hide elem_edge;have hlA := hide hA.len;have hlB := hide hB.len;obtain ⟨w0, hw0⟩ : ∃ w0, w0 = w.alloc (.cells #[.int .i64 0, .int .i64 0, .slice none 0 0, .slice none 0 0] 27) := ⟨_, rfl⟩;have hb0 : Below w.heap.size w w0 := by rw [hw0]; exact bR.alloc zR _
 have hz0 : w0.heap.size = w.heap.size + 1 := by rw [hw0]; exact World.size_alloc _ _
 have k0 : w0.heap[w.heap.size]? = some (.cells #[.int .i64 0, .int .i64 0, .slice none 0 0, .slice none 0 0] 27 (0, 0)) := by rw [hw0]; exact heap_alloc_new w _
 have k1 := heap_alloc_new w0 (.cells #[.string (⟨#[116, 97, 117]⟩ : ByteArray)] 9);have hst : Hid (Own 1 strv (w0.alloc (.cells #[.string (⟨#[116, 97, 117]⟩ : ByteArray)] 9)) w0.heap.size 9 (some ⟨w0.heap.size, 0, none⟩) 1 1 [(⟨#[116, 97, 117]⟩ : ByteArray)]) := Own.litL k1 rfl zR;have hb1 := hide (hb0.alloc (by omega) (.cells #[.string (⟨#[116, 97, 117]⟩ : ByteArray)] 9));have hA1 := hide (hA.below hb1.out (.inl hhi));have hz1 : (w0.alloc (.cells #[.string (⟨#[116, 97, 117]⟩ : ByteArray)] 9)).heap.size = w0.heap.size + 1 := World.size_alloc _ _;have hza : w0.heap.size ≤ (w0.alloc (.cells #[.string (⟨#[116, 97, 117]⟩ : ByteArray)] 9)).heap.size := by omega
 replace hB := hide hB;clear hA k1;go_enter Tryz.func134, Tryz.ntmps134;go_upto_region 1 with fail;rw [← show w0 = _ from hw0];replace hw0 := hide hw0;replace hz0 := hide hz0;replace hz1 := hide hz1;go_upto_region 2 with (first | (at_builtin; (with_reducible refine wpList_app rfl (.tmp 14) (.tmp 15) rfl hEs.out flat_strv rfl hst.out rfl hA1.out ?d1 hza ?_); rotate_right; intro A1 c1 w1 hown1 hgr1 hbw1 hat1))
 case d1 => omega
 obtain ⟨w2, hw2⟩ : ∃ w2, w2 = w1.alloc (.cells #[.int .i64 s, .int .i64 i, .slice A1 (1 + n) c1, .slice none 0 0] 27) := ⟨_, rfl⟩;have hBx2 : Hid (LtsBox w2 w1.heap.size s i A1 (1 + n) c1 none 0 0) := by rw [hw2]; exact heap_alloc_new w1 _
 have hO2 : Hid (Own 1 strv w2 w0.heap.size 9 A1 (1 + n) c1 (tauB :: ls)) := by rw [hw2]; exact hown1.alloc _
 have hb2 : Hid (Below w.heap.size w w2) := by
  rw [hw2];have := hz0.out;exact (hb1.out.trans (hbw1.mono (by omega))).alloc (Nat.le_trans hb1.out.size hbw1.size) _
 have hRs2 : LtsBox w2 w.heap.size 0 0 none 0 0 none 0 0 := by
  have e0 : LtsBox w0 w.heap.size 0 0 none 0 0 none 0 0 := k0;have e1 : LtsBox w1 w.heap.size 0 0 none 0 0 none 0 0 := (e0.below (K := w0.heap.size) (bR.alloc zR _) e0.lt).below hbw1 e0.lt;rw [hw2];exact e1.below (K := w1.heap.size) (bR.alloc zR _) e1.lt
 have hng : ∀ q, (Value.slice A1 (1 + n) c1).ownBlock = some q → w0.heap.size ≤ q ∧ q < w1.heap.size := hown1.lt;have hz1b : Hid (w0.heap.size ≤ w1.heap.size) := by have := hgr1.size; show _ ≤ _; omega
 have hqS := hide (sortL_calls hO2.out (by omega));have b2 := hBx2.out.c2;rw [← hw2];replace hw2 := hide hw2;clear hown1 hgr1 hbw1 hat1 hst hza;go_upto_region 3 with (first | (go_at_call 225; (with_reducible refine hqS.out.mono ?_); rintro e w3 ⟨rfl, hO3, hg3⟩));have hnb : some w1.heap.size ≠ (Value.slice A1 (1 + n) c1).ownBlock := fun e => by have := (hng _ e.symm).2; omega
 have hBx3 := hBx2.out.grown hg3 hnb;have hb3 := hide (hb2.out.grown hg3 hb2.out.size fun q e => by have := (hng q e).1; have := hz0.out; omega);obtain ⟨n2, hn2⟩ : ∃ n2, n2 = (Lib.compact (((tauB :: ls).map toL).mergeSort fun x y => !(ltL y x))).length := ⟨_, rfl⟩;have hqC := compactD_calls hO3 (by omega);rw [← hn2] at hqC;have hJl : Hid ((joiF ls).length = n2) := by show _ = _; unfold joiF; rw [List.length_map, hn2]
 have hn2b : n2 ≤ n + 1 := by
  rw [hn2];refine Nat.le_trans (Go.Lib.compact_length_le _) ?_;rw [List.length_mergeSort, List.length_map, List.length_cons, hlA.out];exact zR
 replace hn2 := hide hn2;replace hqC := hide hqC;have hO3l := hide (fun q hq => (hO3.lt q hq).2);have hz3 := hg3.size;have hrs3 : LtsBox w3 w.heap.size 0 0 none 0 0 none 0 0 := hRs2.grown hg3 fun e => by have := (hng _ e.symm).1; have := hz0.out; omega
 have c23 := hBx3.c2;clear hO3 hO2 hBx2 hqS b2;replace hBx3 := hide hBx3;go_upto_region 4 with (first | (go_at_call 227; (with_reducible refine hqC.out.mono ?_); rintro e w4 ⟨rfl, hO4, hg4⟩; have hBx4 := hBx3.out.grown hg4 hnb; have c24 := hBx4.c2; have f24 := hBx4.f2));have hL : Hid (LtmL w (w4.setCell ⟨w1.heap.size, 2, none⟩ (.slice A1 n2 c1)) w1.heap.size w0.heap.size s i A1 n2 c1 (joiF ls) none 0 0 []) := by
  have hO : Only w1.heap.size (w1.heap.size + 1) w4 (w4.setCell ⟨w1.heap.size, 2, none⟩ (.slice A1 n2 c1)) := (Only.refl _ _ _).setCell (p := ⟨w1.heap.size, 2, none⟩) zR (Nat.lt_succ_self _) _;have e1 := hz0.out;have e2 := hz1b.out;have hb4 : Below w.heap.size w w4 := hb3.out.grown hg4 hb3.out.size fun q e => by have := (hng q e).1; omega
  have hr4 := hrs3.grown hg4 fun e => by have := (hng _ e.symm).1; omega
  have hng2 : ∀ q, (Value.slice A1 n2 c1).ownBlock = some q → w0.heap.size ≤ q ∧ q < w1.heap.size := by
   intro q hq;refine hng q ?_
   cases A1 with
   | none => exact hq
   | some a => exact hq
  exact ⟨hBx4.set2, hr4.only hO (.inl (by omega)), hO4.asideL (fun e => by have := (hng2 _ e.symm).2; omega) _, Own.nil_ _ _ _, Only.below hb4 hO (by omega) hb4.size, ⟨by omega, e2⟩, fun q hq => (hng2 q hq).2⟩
 generalize w4.setCell ⟨w1.heap.size, 2, none⟩ (.slice A1 n2 c1) = w5 at *;clear hO4 hg4 hBx4 c24 f24 hBx3 c23 hqC hrs3 hRs2 hz3 hO3l hg3 hnb hng hb3 hb2 hz1b;generalize w1.heap.size = g9 at *;obtain ⟨es, hes⟩ : ∃ es, es = rs.map (arcD (joiF ls)) := ⟨_, rfl⟩;go_wp2_with fail
 go_loopw [27] (fun v27 wr => ∃ (k : Nat) (A3 : Option Addr) (c3 : Nat), k ≤ m ∧ v27 = .int .i64 (k : Nat) ∧ Hid (LtmL w wr g9 w0.heap.size s i A1 n2 c1 (joiF ls) A3 k c3 (es.take k))) (fun v _ => m - (intOf v).toNat)
 case atStart => exact ⟨0, none, 0, Nat.zero_le _, rfl, hL.out⟩
 case round =>
  clear hL;obtain ⟨k, A3, c3, hk, rfl, hL⟩ := hrel
  by_cases hlt : k < m
  ·obtain ⟨gB, oB, f, lb, t, rfl, -, -, hgB, hx, x0, x1, x2⟩ := SlA.get (hB.out.below hL.out.bel (.inl hhi2)) hlt
   have k0 : (0 : Int) ≤ (k : Int) := by omega
   have k1 : (k : Int) < (m : Int) := by omega
   have hes1 : Hid (es.take (k + 1) = es.take k ++ [(f, idxZ (joiF ls) lb, t)]) := by
    show _ = _
    rw [List.take_add_one, hes, List.getElem?_map, hx]
    rfl
   replace hx := hide hx;replace hes := hide hes;obtain ⟨bA, hbA⟩ : ∃ bA, bA = wr.heap.size := ⟨_, rfl⟩;obtain ⟨z, hz⟩ : ∃ z, z = idxZ (joiF ls) lb := ⟨_, rfl⟩;obtain ⟨wA, hwA⟩ : ∃ wA, wA = wr.alloc (.cells #[.int .i64 f, .string lb, .int .i64 t] 204) := ⟨_, rfl⟩;have hLA := hL.out.below (w' := wA) (by rw [hwA]; exact bR.alloc zR _);have ka : wA.heap[bA]? = some (.cells #[.int .i64 f, .string lb, .int .i64 t] 204 (0, 0)) := by rw [hwA, hbA]; exact heap_alloc_new wr _
   obtain ⟨wD, hwD⟩ : ∃ wD, wD = wA.drew := ⟨_, rfl⟩;have hLD := hide (hLA.below (w' := wD) (by rw [hwD]; exact bR.drew));have kd : wD.heap[bA]? = some (.cells #[.int .i64 f, .string lb, .int .i64 t] 204 (0, 0)) := by rw [hwD]; exact ka
   have hbD : bA < wD.heap.size := (Array.getElem?_eq_some_iff.1 kd).1;have b2 := hLD.out.box.c2;have b3 := hLD.out.box.c3;have e0 := (cell_of_row _ _ 0 _ _ (0, 0) kd).trans (show _ = some (Value.int .i64 f) from rfl);have e1 := (cell_of_row _ _ 1 _ _ (0, 0) kd).trans (show _ = some (Value.string lb) from rfl);have e2 := (cell_of_row _ _ 2 _ _ (0, 0) kd).trans (show _ = some (Value.int .i64 t) from rfl);have hqI := indexZ_calls lb A1 n2 c1 (joiF ls) wD _ _ (hLD.out.labs.sl flat_strv) (by omega);rw [← hz] at hqI hes1;replace hqI := hide hqI;obtain ⟨wL, hwL⟩ : ∃ wL, wL = wD.alloc (.cells #[.int .i64 f, .int .i64 z, .int .i64 t] 84) := ⟨_, rfl⟩;have hblL : Below wD.heap.size wD wL := by rw [hwL]; exact bR.alloc zR _
   have hLL := hide (hLD.out.below hblL);have hOL := hide hLL.out.eds;have a2 := hLL.out.box.c2;have a3 := hLL.out.box.c3;have a4 := (hblL.cell (p := ⟨bA, 0, none⟩) hbD).trans e0;have a5 := (hblL.cell (p := ⟨bA, 1, none⟩) hbD).trans e1;have a6 := (hblL.cell (p := ⟨bA, 2, none⟩) hbD).trans e2;have hbL : bA < wL.heap.size := Nat.lt_of_lt_of_le hbD hblL.size;have hnA : some bA ≠ (Value.slice A3 k c3).ownBlock := fun e => by have := (hL.out.eds.lt bA e.symm).2; omega
   have hlit : Hid (Sl 3 ev wL 0 (wD.heap.size + 1) (some ⟨wD.heap.size, 0, none⟩) 1 [(f, z, t)]) := by
    rw [hwL];exact Sl.lit1' (f := ev) wD 84 (f, z, t) #[.int .i64 f, .int .i64 z, .int .i64 t] rfl 3 _ rfl
   have hsz : (k + 1) * 24 ≤ 140737488355328 := by omega
   have hza : g9 + 1 ≤ wL.heap.size := hLL.out.box.lt;go_upto_region 7 with fail;rw [← show bA = _ from hbA];rw [← show wA = _ from hwA];replace hwA := hide hwA;replace hwD := hide hwD;replace hbA := hide hbA;replace hz := hide hz;replace hwL := hide hwL;clear x0 x1 x2 kd ka hLA hblL;refine lateT_begin (S := fun w' => w'.cell? ⟨g9, 2, none⟩ = some (.slice A1 n2 c1) ∧ w'.cell? ⟨g9, 3, none⟩ = some (.slice A3 k c3) ∧ w'.cell? ⟨bA, 0, none⟩ = some (.int .i64 f) ∧ w'.cell? ⟨bA, 1, none⟩ = some (.string lb) ∧ w'.cell? ⟨bA, 2, none⟩ = some (.int .i64 t)) (st := 15) (by kernel_rfl) ?_;rw [← show wD = _ from hwD.out];have hS0 : (fun w' : World => w'.cell? ⟨g9, 2, none⟩ = some (.slice A1 n2 c1) ∧ w'.cell? ⟨g9, 3, none⟩ = some (.slice A3 k c3) ∧ w'.cell? ⟨bA, 0, none⟩ = some (.int .i64 f) ∧ w'.cell? ⟨bA, 1, none⟩ = some (.string lb) ∧ w'.cell? ⟨bA, 2, none⟩ = some (.int .i64 t)) wD := ⟨b2, b3, e0, e1, e2⟩;refine tkB 0 [15] hS0 ?_;refine tkB 1 [15] hS0 ?_;refine tkB 2 [15] hS0 ?_;refine tkB 3 [15] hS0 ?_;refine tkB 4 [15] hS0 ?_;refine tkB 5 [15] hS0 ?_;refine tkB 6 [15] hS0 ?_;refine tkB 7 [15] hS0 ?_;refine tkB 9 [15] hS0 ?_;refine tkB 10 [15] hS0 ?_;refine lS 8 fun K hK => ?_
   go_simp;go_at_call 185
   refine hqI.out.mono ?_;rintro e w6 ⟨rfl, e6⟩;rw [e6];clear e6 w6;go_wp2_with fail;refine kP hK (fun _ => ⟨b2, b3, e0, e1, e2⟩) ?_;clear hK K;refine lS 11 fun K hK => ?_
   go_simp;refine kP hK (fun _ => ⟨b2, b3, e0, e1, e2⟩) ?_
   clear hK K;refine lS 12 fun K hK => ?_
   go_simp;rw [← show wL = _ from hwL.out]
   refine kP hK (fun _ => ⟨a2, a3, a4, a5, a6⟩) ?_;clear hK K;refine lS 13 fun K hK => ?_
   refine step_appL (m := 1) (d := 1) (by rfl) (.tmp 32) (.tmp 43) (by rfl) hEe.out flat_ev (by go_simp) hOL.out (by go_simp) hlit.out hsz hza ?_;intro A7 c7 w7 hown7 hgr7 hb7 hat7;obtain ⟨hbx7, hL8⟩ := hLL.out.grown hgr7 hown7;have d2 := hbx7.c2;have d3 := hbx7.c3;have df := hbx7.f3;have d4 := grown_cell8 hgr7 hbL hnA a4;have d5 := grown_cell8 hgr7 hbL hnA a5;have d6 := grown_cell8 hgr7 hbL hnA a6;refine kP hK (fun _ => ⟨d2, d3, d4, d5, d6⟩) ?_;clear hK K;refine lS 14 fun K hK => ?_
   go_simp;refine kP hK (fun _ => ⟨d2, d3, d4, d5, d6⟩) ?_
   clear hK K;refine lS 15 fun K hK => ?_
   go_simp;refine kP hK nH ?_
   clear hK K;refine lateT_done (by kernel_rfl) ?_ _;have hL9 := hL8;rw [← hes1.out] at hL9;replace hL9 := hide hL9;clear hL8 hown7 hgr7 hb7 hat7 hbx7;go_wp2_with fail;go_roundw
   case rel => exact ⟨k + 1, A7, c7, by omega, by go_num, hL9.out⟩
   case measure => simp [intOf]; omega
  ·obtain rfl : k = m := by omega
   have hLm := hL.out;rw [List.take_of_length_le (by rw [hes, List.length_map, hlB.out]; exact zR)] at hLm;have c3a := hLm.box.c3;have hqS := hide (sortE_calls hLm.eds (by omega));replace hLm := hide hLm;replace hes := hide hes;clear hL;go_upto_region 10 with (first | (go_at_call 132; (with_reducible refine hqS.out.mono ?_); rintro e w6 ⟨rfl, hO6, hg6⟩));have hL6 := hLm.out.same hg6 hO6;have c36 := hL6.box.c3;obtain ⟨n3, hn3⟩ : ∃ n3, n3 = (Lib.compact (sortE es)).length := ⟨_, rfl⟩;have hqC := compactE_calls hO6 (by omega) hO6.le_cap;rw [← hn3] at hqC;replace hqC := hide hqC;replace hL6 := hide hL6;replace hn3 := hide hn3;clear hO6 hg6 hqS c3a hLm;go_upto_region 11 with (first | (go_at_call 228; (with_reducible refine hqC.out.mono ?_); rintro e w7 ⟨rfl, hO7, hg7⟩; obtain ⟨hbx7, hL8⟩ := hL6.out.grown hg7 hO7; have c37 := hbx7.c3; have f37 := hbx7.f3));obtain ⟨w8, hw8⟩ : ∃ w8, w8 = w7.setCell ⟨g9, 3, none⟩ (.slice A3 n3 c3) := ⟨_, rfl⟩;rw [← hw8] at hL8;have y0 := hL8.box.c0;have y1 := hL8.box.c1;have y2 := hL8.box.c2;have y3 := hL8.box.c3;have r0 := hL8.res.c0;have r1 := hL8.res.c1;have r2 := hL8.res.c2;have r3 := hL8.res.c3;have v0 := hL8.res.f0;have v1 := hL8.res.f1;have v2 := hL8.res.f2;have v3 := hL8.res.f3;rw [← show w8 = _ from hw8];replace hL8 := hide hL8;replace hw8 := hide hw8;clear c37 f37 hbx7 hO7 hg7 hqC hL6 c36;go_wp2_with fail
   (try simp only [Exit.inBlock, Exit.then])
   refine bodyPost_ret_by (v := .agg #[.int .i64 s, .int .i64 i, .slice A1 n2 c1, .slice A3 n3 c3]) ?_ rfl ?_
   focus
    rw [results_cell1 rfl];go_simp
   obtain ⟨f1, f2, f3⟩ := hL8.out.done (.int .i64 s) (.int .i64 i) (.slice A1 n2 c1) (.slice A3 n3 c3) rfl;refine ⟨A1, n2, c1, A3, n3, c3, rfl, f1, ?_, f3, hL8.out.labs.le_cap⟩;unfold ltsEs;rw [← hes.out];exact f2
theorem lts_calls (s i : Int) (A : Option Addr) (n c : Nat) (ls : List ByteArray) (B : Option Addr) (m d : Nat) (rs : List Arc) (w : World) (lo hi lo2 hi2 : Nat) (hA : SlS w lo hi A n ls) (hhi : hi ≤ w.heap.size) (hn : n ≤ 100000) (hB : SlA w lo2 hi2 B m rs) (hhi2 : hi2 ≤ w.heap.size) (hm : m ≤ 100000000) :
  Calls Tryz.prog 134 #[.int .i64 s, .int .i64 i, .slice A n c, .slice B m d] w fun e w' => ∃ A2 n2 c2 A3 n3 c3, e = .returned (.agg #[.int .i64 s, .int .i64 i, .slice A2 n2 c2, .slice A3 n3 c3]) ∧ SlS w' w.heap.size w'.heap.size A2 n2 (joiF ls) ∧ Own 3 ev w' w.heap.size 84 A3 n3 c3 (ltsEs ls rs) ∧ Below w.heap.size w w' :=
 (ltsC_calls s i A n c ls B m d rs w lo hi lo2 hi2 hA hhi hn hB hhi2 hm).mono (by
  rintro e w' ⟨A2, n2, c2, A3, n3, c3, h1, h2, h3, h4, -⟩;exact ⟨A2, n2, c2, A3, n3, c3, h1, h2, h3, h4⟩)
def arcOf (ls : List ByteArray) (e : Ed) : Arc := (e.1, ls[e.2.1.toNat]?.getD ByteArray.empty, e.2.2)
theorem arcOf_at {ls : List ByteArray} {f t : Int} {l : Nat} {s : ByteArray} (hs : ls[l]? = some s) : arcOf ls (f, (l : Int), t) = (f, s, t) := by
 unfold arcOf;simp only [Int.toNat_natCast, hs, Option.getD_some]
theorem arcs_calls {w : World} {N ini : Nat} {A : Option Addr} {n : Nat} {B : Option Addr} {m : Nat} {ls : List ByteArray} {es : List Ed} (h : SysA w N ini A n B m ls es) (c d : Nat) :
  Calls Tryz.prog 133 #[.agg #[.int .i64 (N : Int), .int .i64 (ini : Int), .slice A n c, .slice B m d]] w fun e w' => ∃ Q cq, e = .returned (.slice Q m cq) ∧ Own 3 av w' w.heap.size 204 Q m cq (es.map (arcOf ls)) ∧ Below w.heap.size w w' := by
 have hEa := hide elem_arc;have hB := h.box (c := c) (d := d);obtain ⟨w1, hw1⟩ : ∃ w1, w1 = w.alloc (ltsC N ini A n c B m d) := ⟨_, rfl⟩;rw [← hw1] at hB;obtain ⟨hm, hn12, hn1, hle, hll⟩ := hB.sys.many;obtain ⟨gA, oA, rfl, -, hgA, -⟩ := h.ss.at_ hn1;have hlt0 := hB.lt;have c3x := hB.box.c3;replace hB := hide hB;go_enter Tryz.func133, Tryz.ntmps133;go_upto_region 1 with fail;rw [← show w1 = w.alloc (.cells #[.int .i64 (N : Int), .int .i64 (ini : Int), .slice (some ⟨gA, oA, none⟩) n c, .slice B m d] 27) from hw1];replace hw1 := hide hw1;go_wp2_with fail
 go_loopw [3, 9] (fun v5 v10 wr => ∃ (k : Nat) (A5 : Option Addr) (c5 : Nat), k ≤ m ∧ v10 = .int .i64 (k : Nat) ∧ v5 = .slice A5 k c5 ∧ Hid (Own 3 av wr w1.heap.size 204 A5 k c5 ((es.take k).map (arcOf ls))) ∧ Hid (Below w1.heap.size w1 wr)) (fun _ v _ => m - (intOf v).toNat)
 case atStart => exact ⟨0, none, 0, Nat.zero_le _, rfl, rfl, Own.nil_ _ _ _, bR⟩
 case round =>
  obtain ⟨k, A5, c5, hk, rfl, rfl, hO, hb⟩ := hrel
  by_cases hlt : k < m
  ·have hBr := hide (hB.out.below hb.out)
   obtain ⟨gB, oB, f, l, t, rfl, -, -, hgBs, hx, x0, x1, x2, -⟩ := SlE.get hBr.out.sys.se hlt;have hlab := hBr.out.sys.labs _ (List.mem_of_getElem? hx)
   (try dsimp only at hlab)
   obtain ⟨l, rfl⟩ : ∃ j : Nat, l = (j : Int) := ⟨l.toNat, by omega⟩;have hln : l < n := by omega
   have hzr := hb.out.size;have k0 : (0 : Int) ≤ (k : Int) := by omega
   have k1 : (k : Int) < (m : Int) := by omega
   have l0 : (0 : Int) ≤ (l : Int) := by omega
   have l1 : (l : Int) < (n : Int) := by omega
   obtain ⟨bA, hbA⟩ : ∃ bA, bA = wr.heap.size := ⟨_, rfl⟩;obtain ⟨wA, hwA⟩ : ∃ wA, wA = wr.alloc (.cells #[.int .i64 f, .int .i64 (l : Int), .int .i64 t] 84) := ⟨_, rfl⟩;have hbAA : Below wr.heap.size wr wA := by rw [hwA]; exact bR.alloc zR _
   have ka : wA.heap[bA]? = some (.cells #[.int .i64 f, .int .i64 (l : Int), .int .i64 t] 84 (0, 0)) := by rw [hwA, hbA]; exact heap_alloc_new wr _
   obtain ⟨wD, hwD⟩ : ∃ wD, wD = wA.drew := ⟨_, rfl⟩;have hbDD : Below wr.heap.size wr wD := hbAA.trans (by rw [hwD]; exact bR.drew);have hBD := hBr.out.below hbDD;have kd : wD.heap[bA]? = some (.cells #[.int .i64 f, .int .i64 (l : Int), .int .i64 t] 84 (0, 0)) := by rw [hwD]; exact ka
   have hbD : bA < wD.heap.size := (Array.getElem?_eq_some_iff.1 kd).1;have b2 := hBD.box.c2;have e0 := (cell_of_row _ _ 0 _ _ (0, 0) kd).trans (show _ = some (Value.int .i64 f) from rfl);have e1 := (cell_of_row _ _ 1 _ _ (0, 0) kd).trans (show _ = some (Value.int .i64 (l : Int)) from rfl);have e2 := (cell_of_row _ _ 2 _ _ (0, 0) kd).trans (show _ = some (Value.int .i64 t) from rfl);obtain ⟨gA2, oA2, s, eA, -, -, hgs, hs, cs, -⟩ := SlS.get hBD.sys.ss hln
   cases eA
   have hes1 : Hid ((es.take (k + 1)).map (arcOf ls) = (es.take k).map (arcOf ls) ++ [(f, s, t)]) := by
    show _ = _
    rw [List.take_add_one, hx, List.map_append]
    congr 1
    show [arcOf ls (f, (l : Int), t)] = _
    rw [arcOf_at hs]
   obtain ⟨wL, hwL⟩ : ∃ wL, wL = wD.alloc (.cells #[.int .i64 f, .string s, .int .i64 t] 204) := ⟨_, rfl⟩;have hblL : Below wD.heap.size wD wL := by rw [hwL]; exact bR.alloc zR _
   have hbLL := hide (hbDD.trans (hblL.mono hbDD.size));have hOL := hide (hO.out.below hbLL.out zR);have hbw := hide (hb.out.trans (hbLL.out.mono hzr));have hzL := hblL.size;have a2 := (hblL.cell (p := ⟨w.heap.size, 2, none⟩) (by show w.heap.size < _; have := hbDD.size; omega)).trans b2;have a3 := (hblL.cell (p := ⟨bA, 0, none⟩) hbD).trans e0;have a4 := (hblL.cell (p := ⟨bA, 1, none⟩) hbD).trans e1;have a5 := (hblL.cell (p := ⟨bA, 2, none⟩) hbD).trans e2;have a6 := (hblL.cell (p := ⟨gA, oA + l, none⟩) hgs).trans cs;have hlit : Hid (Sl 3 av wL 0 (wD.heap.size + 1) (some ⟨wD.heap.size, 0, none⟩) 1 [(f, s, t)]) := by
    rw [hwL];exact Sl.lit1' (f := av) wD 204 (f, s, t) #[.int .i64 f, .string s, .int .i64 t] rfl 3 _ rfl
   have hsz : (k + 1) * 32 ≤ 140737488355328 := by omega
   have hza : w1.heap.size ≤ wL.heap.size := by have := hbDD.size; omega
   have hgAL : gA < w1.heap.size := Nat.lt_of_lt_of_le hgA (by omega);have hne : ∀ g, g < w1.heap.size ∨ g = bA → some g ≠ (Value.slice A5 k c5).ownBlock := fun g hg e => by
    have := hO.out.lt g e.symm;omega
   have hbAL : bA < wL.heap.size := Nat.lt_of_lt_of_le hbD hzL;go_upto_region 5 with fail;rw [← show bA = _ from hbA];rw [← show wA = _ from hwA];replace hwA := hide hwA;replace hwD := hide hwD;replace hbA := hide hbA;replace hwL := hide hwL;replace hx := hide hx;replace hs := hide hs;clear x0 x1 x2 kd ka hblL hbAA hbDD hBD;refine lateT_begin (S := fun w' => w'.cell? ⟨w.heap.size, 2, none⟩ = some (.slice (some ⟨gA, oA, none⟩) n c) ∧ w'.cell? ⟨bA, 0, none⟩ = some (.int .i64 f) ∧ w'.cell? ⟨bA, 1, none⟩ = some (.int .i64 (l : Int)) ∧ w'.cell? ⟨bA, 2, none⟩ = some (.int .i64 t) ∧ w'.cell? ⟨gA, oA + l, none⟩ = some (.string s)) (st := 14) (by kernel_rfl) ?_;rw [← show wD = _ from hwD.out];have hS0 : (fun w' : World => w'.cell? ⟨w.heap.size, 2, none⟩ = some (.slice (some ⟨gA, oA, none⟩) n c) ∧ w'.cell? ⟨bA, 0, none⟩ = some (.int .i64 f) ∧ w'.cell? ⟨bA, 1, none⟩ = some (.int .i64 (l : Int)) ∧ w'.cell? ⟨bA, 2, none⟩ = some (.int .i64 t) ∧ w'.cell? ⟨gA, oA + l, none⟩ = some (.string s)) wD := ⟨b2, e0, e1, e2, cs⟩;refine tkB 0 [14] hS0 ?_;refine tkB 1 [14] hS0 ?_;refine tkB 2 [14] hS0 ?_;refine tkB 3 [14] hS0 ?_;refine tkB 4 [14] hS0 ?_;refine tkB 5 [14] hS0 ?_;refine tkB 6 [14] hS0 ?_;refine tkB 7 [14] hS0 ?_;refine tkB 8 [14] hS0 ?_;refine tkB 9 [14] hS0 ?_;refine tkB 10 [14] hS0 ?_;refine tkB 11 [14] hS0 ?_;refine lS 12 fun K hK => ?_
   go_simp;rw [← show wL = _ from hwL.out]
   refine kP hK (fun _ => ⟨a2, a3, a4, a5, a6⟩) ?_;clear hK K;refine lS 13 fun K hK => ?_
   refine step_appL (m := 1) (d := 1) (by rfl) (.tmp 13) (.tmp 25) (by rfl) hEa.out flat_av (by go_simp) hOL.out (by go_simp) hlit.out hsz hza ?_;intro A7 c7 w7 hown7 hgr7 hb7 hat7;have d2 := grown_cell8 hgr7 (by omega) (hne w.heap.size (.inl (by omega))) a2;have d3 := grown_cell8 hgr7 (by omega) (hne bA (.inr rfl)) a3;have d4 := grown_cell8 hgr7 (by omega) (hne bA (.inr rfl)) a4;have d5 := grown_cell8 hgr7 (by omega) (hne bA (.inr rfl)) a5;have d6 := grown_cell8 hgr7 (by omega) (hne gA (.inl (by omega))) a6;refine kP hK (fun _ => ⟨d2, d3, d4, d5, d6⟩) ?_;clear hK K;refine lS 14 fun K hK => ?_
   go_simp;refine kP hK nH ?_
   clear hK K;refine lateT_done (by kernel_rfl) ?_ _;have hO9 := hown7;rw [← hes1.out] at hO9;replace hO9 := hide hO9;have hb9 := hide (hbw.out.grown hgr7 hza fun q e => (hOL.out.lt q e).1);clear hown7 hgr7 hb7 hat7;go_wp2_with fail;go_roundw
   case rel => exact ⟨k + 1, A7, c7, by omega, by go_num, rfl, hO9.out, hb9.out⟩
   case measure => simp [intOf]; omega
  ·obtain rfl : k = m := by omega
   have hF := hide (hB.out.bel.trans (hb.out.mono (by omega)));have hO9 := hO.out;rw [List.take_of_length_le (by omega)] at hO9;replace hO9 := hide (hO9.sink (show w.heap.size ≤ w1.heap.size by omega));clear hO;go_wp2_with fail;go_ret;exact ⟨A5, c5, rfl, hO9.out, hF.out⟩
end Go.Proofs.YtnhomkmfbngmgaaGreatDoor
namespace Go.Proofs.YtnhomkmfbngmgaaGreatDoor
open Go.ChangeShapes Go.WideShapes Go.ChangeAt Go.RowKit
theorem cloneS_calls (A : Option Addr) (n c : Nat) (l : List ByteArray) (w : World) (lo hi : Nat) (h : SlS w lo hi A n l) (hn : n ≤ 1048576) :
  Calls Tryz.prog 131 #[.slice A n c] w fun e w' => ∃ A' c', e = .returned (.slice A' n c') ∧ Own 1 strv w' w.heap.size 9 A' n c' l ∧ Below w.heap.size w w' := by
 have hnil : ∀ (W : World) (a : Option Addr) (m d : Nat), (binOp .eql 24 (.slice a m d) (.slice none 0 0)).run Tryz.prog W = .ok (.bool a.isNone) W := fun W a m d => Lib.run_eql_slice_nil W 24 _ a m d 0 0 Tryz.underlying24
 have hE := hide elem_str
 cases A with
 | none =>
  have hn0 : n = 0 := by
   rcases Nat.eq_zero_or_pos n with h0 | h0
   ·exact h0
   ·obtain ⟨b, off, e, _⟩ := h.at_ h0
    cases e
  subst hn0;have hl := List.eq_nil_of_length_eq_zero h.len;subst hl;go_enter Tryz.func131, Tryz.ntmps131;go_wp2_with fail;go_ret;exact ⟨none, 0, rfl, Own.nil_ _ _ _, bR⟩
 | some a =>
  have hs := hide (h.below ((Below.refl w.heap.size w).alloc zR (.cells #[] 9)) (.inr zR));have hz : w.heap.size ≤ (w.alloc (.cells #[] 9)).heap.size := by simp
  clear h;go_enter Tryz.func131, Tryz.ntmps131;go_wp2_with (first | (at_builtin; (with_reducible refine wpList_app rfl (.tmp 5) (.tmp 6) rfl hE.out flat_strv rfl (Own.made w 9 zR) rfl hs.out ?c1 hz ?_); rotate_right; intro A2 c2 w2 hown2 hgr2 hb2 _))
  case c1 => omega
  go_ret;rw [Nat.zero_add, List.nil_append] at hown2
  exact ⟨_, _, rfl, hown2, (bR.alloc zR _).trans hb2⟩
theorem growS_calls (k : Nat) (w : World) (hk : k ≤ 8796093022208) :
  Calls Tryz.prog 235 #[.slice none 0 0, .int .i64 (k : Int)] w fun e w' => ∃ A c, e = .returned (.slice A 0 c) ∧ Own 1 strv w' w.heap.size 9 A 0 c ([] : List ByteArray) ∧ Below w.heap.size w w' := by
 rcases Nat.eq_zero_or_pos k with rfl | h0
 ·go_enter Tryz.func235, Tryz.ntmps235
  go_wp2_with fail;go_ret
  exact ⟨none, 0, rfl, Own.nil_ _ _ _, bR⟩
 ·obtain ⟨i, hi, hz, hs, hby⟩ := info_parts info_string
  have hcut : ∀ (W : World) (A : Option Addr) (n c : Nat), (Instr.slice 24 (.slice A n c) none (some (.int .i64 0)) none).run Tryz.prog W = .ok (.slice A 0 c) W := fun W A n c => run_head elem_str A n c 0 (Nat.zero_le _) W
  have hrun := fun ty => Lib.run_append_nil_zeros (P := Tryz.prog) w 24 3 ty 9 i _ .i64 .i64 Tryz.underlying24 Tryz.underlying3 hi hz k h0 (by rw [hs]; omega) (by omega) (by rw [hby]; omega)
  have hg1 := grownCap_ge w k 0 9;have hg2 := grownCap_le_maxLen w k 0 9 (by unfold maxLen; omega);generalize grownCap w k 0 9 = G at *;unfold maxLen at hg2;have hrun := hide hrun;have hsz : Hid ((Builtin.zeroCells #[.string ⟨#[]⟩] k ++ Builtin.zeroCells #[.string ⟨#[]⟩] (G - k)).size = G * 1) := by show _ = _; rw [Array.size_append, size_zeroCells, size_zeroCells, ← Nat.add_mul]; show (k + (G - k)) * 1 = G * 1; congr 1; omega
  have q1 : ¬ ((k : Int) < 0) := by omega
  have q2 : (0 : Int) < (k : Int) := by omega
  clear hi hz hs hby;go_enter Tryz.func235, Tryz.ntmps235;go_wp2_with (first | (at_builtin; (with_reducible refine Lib.wpList_append_run _ rfl (.tmp 20) (.tmp 21) _ _ rfl _ _ rfl rfl _ _ (hrun.out _) ?_)))
  all_goals go_ret
  all_goals exact ⟨_, _, rfl, ⟨rfl, World.ownsRow_made w.drew _ _ zR (by unfold maxLen; omega) hsz.out⟩, bR.drew.alloc zR _⟩
theorem concatS_calls (bS : Nat) (A : Option Addr) (n c : Nat) (B : Option Addr) (m d : Nat) (l r : List ByteArray) (w : World) (lo hi lo' hi' : Nat) (c0 : w.cell? ⟨bS, 0, none⟩ = some (.slice A n c)) (c1 : w.cell? ⟨bS, 1, none⟩ = some (.slice B m d)) (hbS : bS < w.heap.size) (h : SlS w lo hi A n l) (g : SlS w lo' hi' B m r) (hn : n ≤ 1048576) (hm : m ≤ 1048576) :
  Calls Tryz.prog 155 #[.slice (some ⟨bS, 0, none⟩) 2 2] w fun e w' => ∃ A' c', e = .returned (.slice A' (n + m) c') ∧ Own 1 strv w' w.heap.size 9 A' (n + m) c' (l ++ r) ∧ Below w.heap.size w w' := by
 have hE := hide elem_str;have hgrow := hide (growS_calls (n + m) w (by omega));replace h := hide h;replace g := hide g;go_enter Tryz.func155, Tryz.ntmps155
 go_wp2
 go_loop [3, 11] (fun s i => (i = .int .i64 ((0 : Nat) : Int) ∧ s = .int .i64 ((0 : Nat) : Int)) ∨ (i = .int .i64 ((1 : Nat) : Int) ∧ s = .int .i64 (n : Int)) ∨ (i = .int .i64 ((2 : Nat) : Int) ∧ s = .int .i64 ((n + m : Nat) : Int))) (fun _ i => 2 - (intOf i).toNat)
 case atStart => exact .inl ⟨rfl, rfl⟩
 case round =>
  rcases hrel with ⟨rfl, rfl⟩ | ⟨rfl, rfl⟩ | ⟨rfl, rfl⟩
  ·clear h g hgrow
   go_wp2
   go_round
   case rel => exact .inr (.inl ⟨by go_num, by go_num⟩)
   case measure => simp [intOf]
  ·clear h g hgrow
   go_wp2
   go_round
   case rel => exact .inr (.inr ⟨by go_num, by go_num⟩)
   case measure => simp [intOf]
  ·go_wp2_with (go_at_call 235; refine hgrow.out.mono ?_; rintro e w1 ⟨A1, c1', rfl, hown1, hb1⟩; replace hown1 := hide hown1)
   go_loopw [6, 27] (fun v i wr => ∃ (A2 : Option Addr) (c2 : Nat), ((i = .int .i64 ((0 : Nat) : Int) ∧ v = .slice A2 0 c2 ∧ Own 1 strv wr w.heap.size 9 A2 0 c2 []) ∨ (i = .int .i64 ((1 : Nat) : Int) ∧ v = .slice A2 n c2 ∧ Own 1 strv wr w.heap.size 9 A2 n c2 l) ∨ (i = .int .i64 ((2 : Nat) : Int) ∧ v = .slice A2 (n + m) c2 ∧ Own 1 strv wr w.heap.size 9 A2 (n + m) c2 (l ++ r))) ∧ Below w.heap.size w wr) (fun _ i _ => 2 - (intOf i).toNat)
   case atStart => exact ⟨A1, c1', .inl ⟨rfl, rfl, hown1.out⟩, hb1⟩
   case round =>
    clear hown1 hb1;obtain ⟨A2, c2, hcs, hb⟩ := hrel;have y0 := (hb.cell (p := ⟨bS, 0, none⟩) hbS).trans c0;have y1 := (hb.cell (p := ⟨bS, 1, none⟩) hbS).trans c1;have hz := hb.size
    rcases hcs with ⟨rfl, rfl, ho⟩ | ⟨rfl, rfl, ho⟩ | ⟨rfl, rfl, ho⟩
    ·replace ho := hide ho
     have hs := hide (h.out.below hb (.inr zR));go_wp2_with (first | (at_builtin; (with_reducible refine wpList_app rfl (.tmp 31) (.tmp 32) rfl hE.out flat_strv rfl ho.out rfl hs.out ?c1 hz ?_); rotate_right; intro A5 c5 w5 hown5 hgr5 hb5 _))
     case c1 => omega
     rw [Nat.zero_add, List.nil_append] at hown5;go_roundw
     case rel => exact ⟨A5, c5, .inr (.inl ⟨by go_num, rfl, hown5⟩), hb.trans hb5⟩
     case measure => simp [intOf]
    ·replace ho := hide ho
     have hs := hide (g.out.below hb (.inr zR));go_wp2_with (first | (at_builtin; (with_reducible refine wpList_app rfl (.tmp 31) (.tmp 32) rfl hE.out flat_strv rfl ho.out rfl hs.out ?c1 hz ?_); rotate_right; intro A5 c5 w5 hown5 hgr5 hb5 _))
     case c1 => omega
     go_roundw
     case rel => exact ⟨A5, c5, .inr (.inr ⟨by go_num, rfl, hown5⟩), hb.trans hb5⟩
     case measure => simp [intOf]
    ·replace ho := hide ho
     replace hb := hide hb
     go_wp2
     go_ret;exact ⟨A2, c2, rfl, ho.out, hb.out⟩
end Go.Proofs.YtnhomkmfbngmgaaGreatDoor
