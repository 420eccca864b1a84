/-
  Lemmas that the law of this claim leans on. Conditions: sizes.
-/
import Derived.Test.YtnhomkmfbngmgaaGreatDoorBaseA
import Derived.Test.YtnhomkmfbngmgaaGreatDoorBaseB
import Derived.Ground.SlgnProg
import Derived.Ground.SlgmProg
import Derived.Shelf.SlicesG.Turned
import Derived.Shelf.SlicesG.SearchI
import Derived.Shelf.SlicesG.CompactI
import Derived.Shelf.SlicesG.Cells
import Derived.Shelf.SortM.Plain
import Derived.Shelf.SortM.SortNone
import Derived.Shelf.SlGeneric
import Derived.Test.YtnhomkmfbngmgaaGreatDoorProg
import Derived.Deep.RegionLaw
import Derived.Laws.EntriesVeiled
import Derived.Deep.DeepCutAuto
import Derived.Deep.RegionHeld3
import Derived.Ground.SlsfProg
import Derived.Shelf.SlSortCmp.NoneTotal
import Derived.Sort.EncStr
import Derived.Test.YtnhomkmfbngmgaaGreatDoorChecked
import Derived.StillTailTactics
import Derived.Deep.QuietTactic
import Derived.BigQuiet
import Derived.Deep.CutBlock
set_option maxHeartbeats 3200000
set_option maxRecDepth 100000
set_option linter.unusedSimpArgs false
set_option linter.unusedVariables false
namespace Go.Proofs.YtnhomkmfbngmgaaGreatDoor
open Go.ChangeShapes Go.WideShapes Go.ChangeAt Go.RowKit Go.Sort
theorem indexFuncEd_calls (F : FuncId) (caps : Array Value) (G : Ed → Bool) (A : Option Addr) (n c : Nat) (l : List Ed) (w : World) (lo hi : Nat) (h : SlE w lo hi A n l) (hn : n ≤ 1048576)
  (hF : ∀ (v : Value) (W : World), Sem.run Tryz.prog (callFunc F (#[v] ++ caps)) W = .ok (.enter F (#[v] ++ caps)) W)
  (hcl : ∀ (x y z : Int) (W : World), (x, y, z) ∈ l → Below w.heap.size w W → Calls Tryz.prog F (#[.agg #[.int .i64 x, .int .i64 y, .int .i64 z]] ++ caps) W (Says (G (x, y, z)) W)) :
  Calls Tryz.prog 234 #[.slice A n c, .func (.func F) #[] caps] w fun e w' => ∃ i : Int, e = .returned (.int .i64 i) ∧ decide (0 ≤ i) = l.any G ∧ Below w.heap.size w w' := by
 have hlen := hide h.len;replace hcl := hide hcl;go_enter Tryz.func234, Tryz.ntmps234
 go_wp2
 go_loopw [8] (fun i wr => ∃ k : Nat, k ≤ n ∧ i = .int .i64 k ∧ Below w.heap.size w wr ∧ Hid ((l.take k).any G = false)) (fun i _ => n - (intOf i).toNat)
 case atStart => exact ⟨0, Nat.zero_le _, rfl, bR, rfl⟩
 case round =>
  obtain ⟨k, hk, rfl, hb, ha⟩ := hrel
  by_cases hlt : k < n
  ·obtain ⟨b, off, x, y, z, rfl, g1, g2, g3, hx, c0, c1, c2, -, -, -⟩ := SlE.get h hlt
   replace c0 := (hb.cell (p := ⟨b, off + k * 3, none⟩) g3).trans c0;replace c1 := (hb.cell (p := ⟨b, off + k * 3 + 1, none⟩) g3).trans c1;replace c2 := (hb.cell (p := ⟨b, off + k * 3 + 2, none⟩) g3).trans c2;have hc := hcl.out x y z wr (List.mem_of_getElem? hx) hb;replace hx := hide hx;clear h hcl
   by_cases hg : G (x, y, z) = true
   ·rw [hg] at hc
    replace hc := hide hc;have hy := hide (any_hit hx.out hg);clear hg;go_wp2_with fail;refine hc.out.mono ?_;rintro e w1 ⟨rfl, hb1⟩;go_wp2_with fail;go_ret;exact ⟨_, rfl, by rw [hy.out]; simp, hb.trans (hb1.mono hb.size)⟩
   ·replace hg := Bool.eq_false_iff.2 hg
    rw [hg] at hc;replace hc := hide hc;have hy := hide (any_take_succ ha.out hx.out hg);clear hg;go_wp2_with fail;refine hc.out.mono ?_;rintro e w1 ⟨rfl, hb1⟩;go_wp2_with fail;go_roundw
    case rel => exact ⟨k + 1, by omega, by go_num, hb.trans (hb1.mono hb.size), hy⟩
    case measure => simp [intOf]; omega
  ·have hkn : k = n := by omega
   subst hkn;clear hcl
   go_wp2
   go_ret;have hy := ha.out
   rw [List.take_of_length_le (by rw [hlen.out]; exact zR)] at hy;exact ⟨_, rfl, by rw [hy]; decide, hb⟩
theorem containsFuncEd_calls (F : FuncId) (caps : Array Value) (G : Ed → Bool) (A : Option Addr) (n c : Nat) (l : List Ed) (w : World) (lo hi : Nat) (h : SlE w lo hi A n l) (hn : n ≤ 1048576)
  (hF : ∀ (v : Value) (W : World), Sem.run Tryz.prog (callFunc F (#[v] ++ caps)) W = .ok (.enter F (#[v] ++ caps)) W)
  (hcl : ∀ (x y z : Int) (W : World), (x, y, z) ∈ l → Below w.heap.size w W → Calls Tryz.prog F (#[.agg #[.int .i64 x, .int .i64 y, .int .i64 z]] ++ caps) W (Says (G (x, y, z)) W)) :
  Calls Tryz.prog 153 #[.slice A n c, .func (.func F) #[] caps] w (Says (l.any G) w) := by
 have q := hide (indexFuncEd_calls F caps G A n c l w lo hi h hn hF hcl);clear h hF hcl;go_enter Tryz.func153, Tryz.ntmps153;go_wp2_with fail;refine q.out.mono ?_;rintro e w1 ⟨i, rfl, hi, hb⟩;replace hi := hide hi;go_wp2_with fail;go_ret;exact ⟨ret_b hi.out.symm, hb⟩
theorem bytesLess_irrefl : ∀ a : List UInt8, Op.bytesLess a a = false
 | [] => rfl
 | x :: a => by
  have : ¬ x < x := by rw [UInt8.lt_iff_toNat_lt]; omega
  simp [Op.bytesLess, this, bytesLess_irrefl a]
theorem bytesLess_trans : ∀ {a b c : List UInt8}, Op.bytesLess a b = true → Op.bytesLess b c = true → Op.bytesLess a c = true
 | [], [], _, h, _ => by simp [Op.bytesLess] at h
 | [], _ :: _, [], _, h => by simp [Op.bytesLess] at h
 | [], _ :: _, _ :: _, _, _ => by simp [Op.bytesLess]
 | _ :: _, [], _, h, _ => by simp [Op.bytesLess] at h
 | _ :: _, _ :: _, [], _, h => by simp [Op.bytesLess] at h
 | x :: a, y :: b, z :: c, h, g => by
  simp only [Op.bytesLess, Bool.or_eq_true, decide_eq_true_eq, Bool.and_eq_true, beq_iff_eq] at h g ⊢;rw [UInt8.lt_iff_toNat_lt] at h g ⊢
  rcases h with h | ⟨rfl, h⟩
  ·rcases g with g | ⟨rfl, g⟩
   ·exact .inl (by omega)
   ·exact .inl h
  ·rcases g with g | ⟨rfl, g⟩
   ·exact .inl g
   ·exact .inr ⟨rfl, bytesLess_trans h g⟩
theorem edge_of {st ini : Int} {ls : List ByteArray} {es : List Ed} (h : ltsV (st, ini, ls, es) = true) {k : Nat} {f lb tg : Int} (hx : es[k]? = some (f, lb, tg)) :
  (0 ≤ f ∧ f ≤ st - 1) ∧ (0 ≤ tg ∧ tg ≤ st - 1) ∧ 0 ≤ lb ∧ lb ≤ (ls.length : Int) - 1 := by
 unfold ltsV ltsB at h;simp only [Bool.and_eq_true] at h;have hk := allK_get h.2.2 (List.getElem?_eq_some_iff.1 hx).1;unfold okEd at hk;simp only [hx, Bool.and_eq_true] at hk;exact ⟨inB_true.1 hk.1.1.1, inB_true.1 hk.1.1.2, inB_true.1 hk.1.2⟩
theorem lts_boundsB {st ini : Int} {ls : List ByteArray} {es : List Ed} (h : ltsV (st, ini, ls, es) = true) : (1 ≤ st ∧ st ≤ 40) ∧ (0 ≤ ini ∧ ini ≤ st - 1) := by
 unfold ltsV ltsB at h;simp only [Bool.and_eq_true] at h;exact ⟨inB_true.1 h.1.1.1.1, inB_true.1 h.1.1.1.2⟩
def labE (ls : List ByteArray) (e : Ed) : ByteArray := (ls[e.2.1.toNat]?).getD ⟨#[]⟩
theorem outT_calls (s0 s1 : Int) (v2 : Value) (A3 : Option Addr) (n3 k3 : Nat) (s : Int) (es : List Ed) (w : World) (lo hi : Nat) (t3 : SlE w lo hi A3 n3 es) (hes : n3 ≤ 1048576) (hv2 : ∃ A n k, v2 = .slice A n k) :
  Calls Tryz.prog 180 #[.agg #[.int .i64 s0, .int .i64 s1, v2, .slice A3 n3 k3], .int .i64 s] w fun e w' => ∃ A n c, e = .returned (.slice A n c) ∧ Own 3 ev w' w.heap.size 84 A n c (outE es s) ∧ n ≤ 1048576 ∧ Below w.heap.size w w' := by
 obtain ⟨A2, n2, k2, rfl⟩ := hv2;have l3 := hide t3.len;have hE := hide elem_edge;have hb0 : Below w.heap.size w (w.alloc (.cells #[.int .i64 s0, .int .i64 s1, .slice A2 n2 k2, .slice A3 n3 k3] 27)) := bR.alloc zR _;have kE := heap_alloc_new w (.cells #[.int .i64 s0, .int .i64 s1, .slice A2 n2 k2, .slice A3 n3 k3] 27);have c3 : (w.alloc (.cells #[.int .i64 s0, .int .i64 s1, .slice A2 n2 k2, .slice A3 n3 k3] 27)).cell? ⟨w.heap.size, 3, none⟩ = some (.slice A3 n3 k3) := cR 3 kE;have hz' := hb0.size;replace t3 := hide (t3.below hb0 (.inr zR));replace hb0 := hide hb0;clear kE;go_enter Tryz.func180, Tryz.ntmps180;go_upto_region 3 with fail;clear c3;generalize (w.alloc (.cells #[.int .i64 s0, .int .i64 s1, .slice A2 n2 k2, .slice A3 n3 k3] 27)) = W0 at *
 go_loopw [5, 11] (fun o i wr => ∃ k m c A, k ≤ n3 ∧ m ≤ k ∧ o = .slice A m c ∧ i = .int .i64 (k : Nat) ∧ Hid (Own 3 ev wr W0.heap.size 84 A m c (outE (es.take k) s)) ∧ Below W0.heap.size W0 wr) (fun _ i _ => n3 - (intOf i).toNat)
 case atStart => exact ⟨0, 0, 0, none, Nat.zero_le _, zR, rfl, rfl, Own.nil_ _ _ _, bR⟩
 case round =>
  obtain ⟨k, m, c, A, hk, hmk, rfl, rfl, hown, hb⟩ := hrel;have hz := hb.size
  by_cases hlt : k < n3
  ·obtain ⟨b, off, f, lb, tg, rfl, g1, g2, g3, hx, a0, a1, a2, -, -, -⟩ := SlE.get t3.out hlt
   replace a0 := (hb.cell g3).trans a0;replace a1 := (hb.cell (p := ⟨b, off + k * 3 + 1, none⟩) g3).trans a1;replace a2 := (hb.cell (p := ⟨b, off + k * 3 + 2, none⟩) g3).trans a2;have hsu := outE_succ (s := s) hx;have hbE : Below wr.heap.size wr (wr.alloc (.cells #[.int .i64 f, .int .i64 lb, .int .i64 tg] 84)) := bR.alloc zR _;have kE := heap_alloc_new wr (.cells #[.int .i64 f, .int .i64 lb, .int .i64 tg] 84);have z0 : (wr.alloc (.cells #[.int .i64 f, .int .i64 lb, .int .i64 tg] 84)).cell? ⟨wr.heap.size, 0, none⟩ = some (.int .i64 f) := cR 0 kE;have z1 : (wr.alloc (.cells #[.int .i64 f, .int .i64 lb, .int .i64 tg] 84)).cell? ⟨wr.heap.size, 1, none⟩ = some (.int .i64 lb) := cR 1 kE;have z2 : (wr.alloc (.cells #[.int .i64 f, .int .i64 lb, .int .i64 tg] 84)).cell? ⟨wr.heap.size, 2, none⟩ = some (.int .i64 tg) := cR 2 kE;have hbB := hb.trans (hbE.mono hz);have hzB := hbB.size;replace hown := hide (hown.out.alloc (.cells #[.int .i64 f, .int .i64 lb, .int .i64 tg] 84));replace hbB := hide hbB;clear hx g1 g2 kE hbE hb;go_upto_region 5 with fail;clear a0 a1 a2;generalize (wr.alloc (.cells #[.int .i64 f, .int .i64 lb, .int .i64 tg] 84)) = WE at *;generalize wr.heap.size = bE at *;have hza : ∀ o, W0.heap.size ≤ (WE.alloc o).heap.size := fun o => by rw [World.size_alloc]; omega
   by_cases hf : f = s
   ·subst hf
    rw [if_pos rfl] at hsu;replace hsu := hide hsu;go_wp2_with (first | (at_builtin; (with_reducible refine wpList_app rfl (.tmp 19) (.tmp 21) rfl hE.out flat_ev rfl (hown.out.alloc _) rfl (Sl.lit1' WE 84 (f, lb, tg) _ rfl 3 _ ?c0) ?c1 (hza _) ?_); rotate_right; intro A5 c5 w5 hown5 hgr5 hb5 _))
    case c0 => rfl
    case c1 => omega
    have hb6 := hide ((hbB.out.alloc hzB (.cells #[.int .i64 f, .int .i64 lb, .int .i64 tg] 84)).trans hb5);replace hown5 : Hid (Own 3 ev w5 W0.heap.size 84 A5 (m + 1) c5 (outE (es.take (k + 1)) f)) := by show Own _ _ _ _ _ _ _ _ _; rw [hsu.out]; exact hown5
    go_roundw
    case rel => exact ⟨k + 1, m + 1, c5, A5, by omega, by omega, rfl, by go_num, hown5, hb6.out⟩
    case measure => simp [intOf]; omega
   ·rw [if_neg hf, List.append_nil] at hsu
    have hfb : (f == s) = false := by rw [beq_eq_false_iff_ne]; exact hf
    replace hown : Hid (Own 3 ev WE W0.heap.size 84 A m c (outE (es.take (k + 1)) s)) := by show Own _ _ _ _ _ _ _ _ _; rw [hsu]; exact hown.out
    clear hsu hf;go_wp2_with fail;go_roundw
    case rel => exact ⟨k + 1, m, c, A, by omega, by omega, rfl, by go_num, hown, hbB.out⟩
    case measure => simp [intOf]; omega
  ·have hkn : k = n3 := by omega
   have hall : es.take k = es := List.take_of_length_le (by rw [l3.out, hkn]; exact zR);have hsl := hide (hown.out.lower hz');replace hall := hide hall;replace hb := hide hb;subst hkn;go_wp2_with fail;go_ret;have h1 := hsl.out;rw [hall.out] at h1;exact ⟨A, m, c, rfl, h1, by omega, hb0.out.trans (hb.out.mono hz')⟩
theorem out_calls (s0 s1 : Int) (v2 : Value) (A3 : Option Addr) (n3 k3 : Nat) (s : Int) (es : List Ed) (w : World) (lo hi : Nat) (t3 : SlE w lo hi A3 n3 es) (hes : n3 ≤ 1048576) (hv2 : ∃ A n k, v2 = .slice A n k) :
  Calls Tryz.prog 180 #[.agg #[.int .i64 s0, .int .i64 s1, v2, .slice A3 n3 k3], .int .i64 s] w fun e w' => ∃ A n c, e = .returned (.slice A n c) ∧ SlE w' w.heap.size w'.heap.size A n (outE es s) ∧ n ≤ 1048576 ∧ Below w.heap.size w w' :=
 (outT_calls s0 s1 v2 A3 n3 k3 s es w lo hi t3 hes hv2).mono (by
  rintro e w' ⟨A, n, c, h1, h2, h3, h4⟩;exact ⟨A, n, c, h1, h2.sl flat_ev, h3, h4⟩)
end Go.Proofs.YtnhomkmfbngmgaaGreatDoor
namespace Go.Proofs
open Go.Shelf
def Tryz.laysCompactI_ren : Go.Shelf.Ren := ⟨fun | 43 => 161 | n => n, fun | 22 => 32 | 23 => 2 | 3 => 3 | 4 => 4 | 0 => 0 | n => n, fun | n => n⟩
theorem Tryz.laysCompactI : Go.Proofs.SlLaysN.n43 Tryz.prog Tryz.laysCompactI_ren := {
 mixed := by kernel_rfl
 f43 := ⟨Tryz.f161.name, by decide, Tryz.func161.trans (congrArg some (by kernel_rfl))⟩
 t0 := Tryz.underlying0
 a0 := Tryz.isAgg0
 z0 := Tryz.sizeOf0
 v0 := Tryz.zeroValue0
 t3 := Tryz.underlying3
 a3 := Tryz.isAgg3
 z3 := Tryz.sizeOf3
 v3 := Tryz.zeroValue3
 t4 := Tryz.underlying4
 a4 := Tryz.isAgg4
 z4 := Tryz.sizeOf4
 v4 := Tryz.zeroValue4
 t22 := Tryz.underlying32
 a22 := Tryz.isAgg32
 z22 := Tryz.sizeOf32
 v22 := Tryz.zeroValue32
 t23 := Tryz.underlying2
 a23 := Tryz.isAgg2
 z23 := Tryz.sizeOf2
 v23 := Tryz.zeroValue2
 i23 := by kernel_rfl }
open Go.RowKit Go.Lib Go.Sort in
theorem Tryz.slices_Compact_int (blk off cap : Nat) (zs : List Int) (w : World) (hH : Holds (Value.int .i64) w blk off zs.toArray) (hsz : zs.length ≤ 9223372036854775807) (hcap : zs.length ≤ cap) :
  Calls Tryz.prog 161 #[.slice (some ⟨blk, off, none⟩) zs.length cap] w fun e w' => e = .returned (.slice (some ⟨blk, off, none⟩) (Lib.compact zs).length cap) ∧ ∃ q, w' = putRow (Value.int .i64) (Sort.ahead w q) blk off (Lib.compact zs ++ List.replicate (zs.length - (Lib.compact zs).length) 0).toArray := AnyG.slices_Compact_int Tryz.laysCompactI blk off cap zs w hH hsz hcap
open Go.RowKit Go.Lib Go.Sort in
theorem Tryz.slices_Compact_int_empty (a : Option Addr) (cap : Nat) (w : World) :
  Calls Tryz.prog 161 #[.slice a 0 cap] w fun e w' => e = .returned (.slice a 0 cap) ∧ w' = w := AnyG.slices_Compact_int_empty Tryz.laysCompactI a cap w
def Tryz.laysSortI_ren : Go.Shelf.Ren := ⟨fun | 5 => 160 | 8 => 224 | 7 => 238 | 19 => 289 | 20 => 290 | 10 => 295 | 11 => 296 | 12 => 297 | 13 => 298 | 14 => 299 | 15 => 300 | 16 => 301 | 17 => 302 | 18 => 303 | 30 => 354 | 31 => 340 | 32 => 341 | 33 => 355 | 34 => 356 | 35 => 274 | 40 => 383 | n => n, fun | 23 => 32 | 25 => 2 | 3 => 3 | 32 => 243 | 22 => 32 | 0 => 0 | 44 => 292 | 46 => 137 | 4 => 4 | 36 => 285 | 35 => 284 | 41 => 289 | 5 => 5 | 9 => 9 | 53 => 327 | 57 => 331 | 63 => 352 | 64 => 353 | n => n, fun | n => n⟩
theorem Tryz.laysSortI : Go.Proofs.SlLaysM.n5 Tryz.prog Tryz.laysSortI_ren := {
 mixed := by kernel_rfl
 f5 := ⟨Tryz.f160.name, by decide, Tryz.func160.trans (congrArg some (by kernel_rfl))⟩
 f7 := ⟨Tryz.f238.name, by decide, Tryz.func238.trans (congrArg some (by kernel_rfl))⟩
 f8 := Tryz.func224.trans (congrArg some (by kernel_rfl))
 f10 := ⟨Tryz.f295.name, by decide, Tryz.func295.trans (congrArg some (by kernel_rfl))⟩
 f11 := ⟨Tryz.f296.name, by decide, Tryz.func296.trans (congrArg some (by kernel_rfl))⟩
 f12 := ⟨Tryz.f297.name, by decide, Tryz.func297.trans (congrArg some (by kernel_rfl))⟩
 f13 := ⟨Tryz.f298.name, by decide, Tryz.func298.trans (congrArg some (by kernel_rfl))⟩
 f14 := ⟨Tryz.f299.name, by decide, Tryz.func299.trans (congrArg some (by kernel_rfl))⟩
 f15 := ⟨Tryz.f300.name, by decide, Tryz.func300.trans (congrArg some (by kernel_rfl))⟩
 f16 := ⟨Tryz.f301.name, by decide, Tryz.func301.trans (congrArg some (by kernel_rfl))⟩
 f17 := ⟨Tryz.f302.name, by decide, Tryz.func302.trans (congrArg some (by kernel_rfl))⟩
 f18 := ⟨Tryz.f303.name, by decide, Tryz.func303.trans (congrArg some (by kernel_rfl))⟩
 f19 := Tryz.func289.trans (congrArg some (by kernel_rfl))
 f20 := Tryz.func290.trans (congrArg some (by kernel_rfl))
 f30 := ⟨Tryz.f354.name, by decide, Tryz.func354.trans (congrArg some (by kernel_rfl))⟩
 f31 := Tryz.func340.trans (congrArg some (by kernel_rfl))
 f32 := Tryz.func341.trans (congrArg some (by kernel_rfl))
 f33 := ⟨Tryz.f355.name, by decide, Tryz.func355.trans (congrArg some (by kernel_rfl))⟩
 f34 := ⟨Tryz.f356.name, by decide, Tryz.func356.trans (congrArg some (by kernel_rfl))⟩
 f35 := ⟨Tryz.f274.name, by decide, Tryz.func274.trans (congrArg some (by kernel_rfl))⟩
 f40 := ⟨Tryz.f383.name, by decide, Tryz.func383.trans (congrArg some (by kernel_rfl))⟩
 t0 := Tryz.underlying0
 a0 := Tryz.isAgg0
 z0 := Tryz.sizeOf0
 v0 := Tryz.zeroValue0
 t3 := Tryz.underlying3
 a3 := Tryz.isAgg3
 z3 := Tryz.sizeOf3
 v3 := Tryz.zeroValue3
 t4 := Tryz.underlying4
 a4 := Tryz.isAgg4
 z4 := Tryz.sizeOf4
 v4 := Tryz.zeroValue4
 t5 := Tryz.underlying5
 a5 := Tryz.isAgg5
 z5 := Tryz.sizeOf5
 v5 := Tryz.zeroValue5
 t9 := Tryz.underlying9
 a9 := Tryz.isAgg9
 z9 := Tryz.sizeOf9
 v9 := Tryz.zeroValue9
 t22 := Tryz.underlying32
 a22 := Tryz.isAgg32
 z22 := Tryz.sizeOf32
 v22 := Tryz.zeroValue32
 t23 := Tryz.underlying32
 a23 := Tryz.isAgg32
 z23 := Tryz.sizeOf32
 v23 := Tryz.zeroValue32
 t25 := Tryz.underlying2
 a25 := Tryz.isAgg2
 z25 := Tryz.sizeOf2
 v25 := Tryz.zeroValue2
 t32 := Tryz.underlying243
 a32 := Tryz.isAgg243
 z32 := Tryz.sizeOf243
 v32 := Tryz.zeroValue243
 t35 := Tryz.underlying284
 a35 := Tryz.isAgg284
 z35 := Tryz.sizeOf284
 v35 := Tryz.zeroValue284
 t36 := Tryz.underlying285
 a36 := Tryz.isAgg285
 z36 := Tryz.sizeOf285
 v36 := Tryz.zeroValue285
 t41 := Tryz.underlying289
 a41 := Tryz.isAgg289
 z41 := Tryz.sizeOf289
 v41 := Tryz.zeroValue289
 t44 := Tryz.underlying292
 a44 := Tryz.isAgg292
 z44 := Tryz.sizeOf292
 v44 := Tryz.zeroValue292
 t46 := Tryz.underlying137
 a46 := Tryz.isAgg137
 z46 := Tryz.sizeOf137
 v46 := Tryz.zeroValue137
 t53 := Tryz.underlying327
 a53 := Tryz.isAgg327
 z53 := Tryz.sizeOf327
 v53 := Tryz.zeroValue327
 t57 := Tryz.underlying331
 a57 := Tryz.isAgg331
 z57 := Tryz.sizeOf331
 v57 := Tryz.zeroValue331
 t63 := Tryz.underlying352
 a63 := Tryz.isAgg352
 z63 := Tryz.sizeOf352
 v63 := Tryz.zeroValue352
 t64 := Tryz.underlying353
 a64 := Tryz.isAgg353
 z64 := Tryz.sizeOf353
 v64 := Tryz.zeroValue353 }
open Go.RowKit Go.Lib Go.Sort in
theorem Tryz.slices_Sort_int (blk off cap : Nat) (zs : List Int) (w : World) (hH : Holds (Value.int .i64) w blk off zs.toArray) (hblk : blk < w.heap.size) (hsz : zs.length < 4611686018427387904) :
  Calls Tryz.prog 160 #[.slice (some ⟨blk, off, none⟩) zs.length cap] w fun e w' =>
   e = .returned (.tuple #[]) ∧ ∃ n os, w' = grow (putRow (Value.int .i64) (Sort.ahead w n) blk off (zs.mergeSort fun x y => decide (x ≤ y)).toArray) os := AnyM.slices_Sort_int Tryz.laysSortI blk off cap zs w hH hblk hsz
open Go.RowKit Go.Lib Go.Sort in
theorem Tryz.slices_Sort_int_none (p : Option Addr) (cap : Nat) (w : World) :
  Calls Tryz.prog 160 #[.slice p 0 cap] w fun e w' => e = .returned (.tuple #[]) ∧ w' = w := AnyM.slices_Sort_int_none Tryz.laysSortI p cap w
end Go.Proofs
namespace Go.Proofs.YtnhomkmfbngmgaaGreatDoor
open Go.RowKit Go.Sort Go.Lib
def sortI (l : List Int) : List Int := l.mergeSort fun x y => decide (x ≤ y)
theorem sortI_nil : sortI [] = [] := by simp [sortI]
theorem sortI_len (l : List Int) : (sortI l).length = l.length := List.length_mergeSort _
theorem sortI_mem {l : List Int} {x : Int} : x ∈ sortI l ↔ x ∈ l := List.mem_mergeSort
theorem iv_map (l : List Int) : l.flatMap iv = l.map (Value.int .i64) := by
 induction l with
 | nil => rfl
 | cons x l ih => rw [List.flatMap_cons, ih]; rfl
theorem compact_mem {l : List Int} {x : Int} : x ∈ Lib.compact l ↔ x ∈ l := by
 unfold Lib.compact Lib.compactUpTo;rw [List.mem_map]
 constructor
 ·rintro ⟨k, hk, rfl⟩
  have hk' := List.mem_range.1 (List.mem_filter.1 hk).1;rw [getElem!_pos _ k (by simpa using hk')]
  simp
 ·intro hx
  obtain ⟨k, hk, rfl⟩ := List.mem_iff_getElem.1 hx;have key : ∀ k, (hk : k < l.length) → ∃ a, a ∈ (List.range l.length).filter (Lib.keeps l.toArray) ∧ l.toArray[a]! = l[k] := by
   intro k
   induction k with
   | zero => exact fun hk => ⟨0, List.mem_filter.2 ⟨List.mem_range.2 hk, by simp [Lib.keeps]⟩, by rw [getElem!_pos _ 0 (by simpa using hk)]; simp⟩
   | succ k ih =>
    intro hk
    by_cases h : l.toArray[k + 1]! = l.toArray[k]!
    ·obtain ⟨a, ha, e⟩ := ih (by omega)
     refine ⟨a, ha, ?_⟩;rw [e];rw [getElem!_pos _ (k + 1) (by simpa using hk), getElem!_pos _ k (by simp; omega)] at h
     simpa using h.symm
    ·exact ⟨k + 1, List.mem_filter.2 ⟨List.mem_range.2 hk, Lib.keeps_pos (by simpa using h)⟩, by rw [getElem!_pos _ (k + 1) (by simpa using hk)]; simp⟩
  exact key k hk
theorem compact_len (l : List Int) : (Lib.compact l).length ≤ l.length := by
 unfold Lib.compact Lib.compactUpTo;rw [List.length_map];exact Nat.le_trans (List.length_filter_le _ _) (by simp)
section
variable {w : World} {base g n c q : Nat} {e : TypeId} {l d : List Int} {os : Array Obj}
theorem put_block (w : World) (g q : Nat) (d : List Int) (os : Array Obj) (hg : g < w.heap.size) :
  (grow (putRow (Value.int .i64) (Sort.ahead w q) g 0 d.toArray) os).heap[g]? = (w.heap[g]?).map (onCells (Go.Sort.putCells (Value.int .i64) 0 d.toArray)) := by
 rw [heap_grow_old _ _ (by simpa [putRow, mapBlock, Sort.ahead] using hg)]
 simp [putRow, mapBlock, Sort.ahead, Array.getElem?_modify]
theorem put_grown (w : World) (g q : Nat) (d : List Int) (os : Array Obj) : w.grownBy (grow (putRow (Value.int .i64) (Sort.ahead w q) g 0 d.toArray) os) (some g) := by
 refine ⟨rfl, rfl, rfl, by simp [putRow, mapBlock, Sort.ahead], fun k hk hne => ?_⟩;rw [heap_grow_old _ _ (by simpa [putRow, mapBlock, Sort.ahead] using hk)];have hne' : g ≠ k := fun h => hne (by rw [h])
 simp [putRow, mapBlock, Sort.ahead, Array.getElem?_modify, hne']
theorem Own.put (h : Own 1 iv w base e (some ⟨g, 0, none⟩) n c l) (hd : d.length = n) {m : Nat} (hm : m ≤ n) :
  Own 1 iv (grow (putRow (Value.int .i64) (Sort.ahead w q) g 0 d.toArray) os) base e (some ⟨g, 0, none⟩) m c (d.take m) := by
 rcases h.2.2 with ⟨hv, -⟩ | ⟨g', cap, cur, hv, hb, hg, hnc, hcm, hcs, htake⟩
 ·cases hv
 ·cases hv
  have hlt : g < w.heap.size := (Array.getElem?_eq_some_iff.1 hg).1;have hl : (d.take m).length = m := by rw [List.length_take]; omega
  refine ⟨hl, by rw [flat_length flat_iv, hl], .inr ⟨g, c, Go.Sort.putCells (Value.int .i64) 0 d.toArray cur, rfl, hb, ?_, by omega, hcm, by simp [Go.Sort.putCells, hcs], ?_⟩⟩
  ·rw [put_block _ _ _ _ _ hlt, hg]
   rfl
  ·rw [iv_map]
   apply List.ext_getElem?
   intro k
   by_cases hk : k < m
   ·have hkc : k < cur.size := by omega
    have hkd : k < d.length := by omega
    rw [List.getElem?_take, if_pos (by omega), List.getElem?_map, List.getElem?_take, if_pos hk, Array.getElem?_toList, List.getElem?_eq_getElem hkd];simp only [Go.Sort.putCells, Array.getElem?_mapIdx, Array.getElem?_eq_getElem hkc, Option.map_some];rw [if_pos ⟨Nat.zero_le _, by simp; omega⟩, Nat.sub_zero, getElem!_pos _ k (by simpa using hkd)]
    simp
   ·rw [List.getElem?_eq_none (by simp; omega), List.getElem?_eq_none (by simp; omega)]
theorem Own.holds (h : Own 1 iv w base e (some ⟨g, 0, none⟩) n c l) : Holds (Value.int .i64) w g 0 l.toArray := by
 intro j hj;have hj' : j < l.length := by simpa using hj
 have hs := h.sl flat_iv;have hn := h.len;obtain ⟨b', off', e', -, -, -, hc⟩ := hs.at_ (by omega)
 cases e'
 have := hc j l[j] (List.getElem?_eq_getElem hj') 0 (.int .i64 l[j]) rfl;rw [getElem!_pos _ j hj]
 simpa using this
end
section
variable {w : World} {base n c : Nat} {A : Option Addr} {l : List Int}
theorem sortI_calls (h : Own 1 iv w base 2 A n c l) (hn : n ≤ 1000000000) :
  Calls Tryz.prog 160 #[.slice A n c] w fun e w' => e = .returned (.tuple #[]) ∧ Own 1 iv w' base 2 A n c (sortI l) ∧ w.grownBy w' (Value.slice A n c).ownBlock := by
 rcases h.2.2 with ⟨hv, hn0⟩ | ⟨g, cap, cur, hv, hb, hg, hnc, hcm, hcs, htake⟩
 ·cases hv
  have hl := List.eq_nil_of_length_eq_zero h.len;subst hl;refine (Tryz.slices_Sort_int_none none 0 w).mono ?_;rintro e w' ⟨rfl, rfl⟩;rw [sortI_nil];exact ⟨rfl, h, ⟨rfl, rfl, rfl, zR, fun _ _ _ => rfl⟩⟩
 ·cases hv
  have hlt : g < w.heap.size := (Array.getElem?_eq_some_iff.1 hg).1;have hq := Tryz.slices_Sort_int g 0 c l w h.holds hlt (by have := h.len; omega);rw [h.len] at hq;refine hq.mono ?_;rintro e w' ⟨rfl, q, os, rfl⟩;refine ⟨rfl, ?_, put_grown _ _ _ _ _⟩;have := h.put (d := sortI l) (q := q) (os := os) ((sortI_len l).trans h.len) (Nat.le_refl n)
  rwa [List.take_of_length_le (by rw [sortI_len, h.len]; exact zR)] at this
theorem compactI_calls (h : Own 1 iv w base 2 A n c l) (hn : n ≤ 1000000000) :
  Calls Tryz.prog 161 #[.slice A n c] w fun e w' => e = .returned (.slice A (Lib.compact l).length c) ∧ Own 1 iv w' base 2 A (Lib.compact l).length c (Lib.compact l) ∧ w.grownBy w' (Value.slice A n c).ownBlock := by
 rcases h.2.2 with ⟨hv, hn0⟩ | ⟨g, cap, cur, hv, hb, hg, hnc, hcm, hcs, htake⟩
 ·cases hv
  have hl := List.eq_nil_of_length_eq_zero h.len;subst hl;refine (Tryz.slices_Compact_int_empty none 0 w).mono ?_;rintro e w' ⟨rfl, rfl⟩;exact ⟨rfl, h, ⟨rfl, rfl, rfl, zR, fun _ _ _ => rfl⟩⟩
 ·cases hv
  have hlt : g < w.heap.size := (Array.getElem?_eq_some_iff.1 hg).1;have hlen := compact_len l;have hq := Tryz.slices_Compact_int g 0 c l w h.holds (by have := h.len; omega) (by have := h.len; omega);rw [h.len] at hq hlen;refine hq.mono ?_;rintro e w' ⟨rfl, q, rfl⟩;have hd : (Lib.compact l ++ List.replicate (n - (Lib.compact l).length) 0).length = n := by simp; omega
  have h1 := h.put (d := Lib.compact l ++ List.replicate (n - (Lib.compact l).length) 0) (q := q) (os := #[]) hd hlen;have h2 := put_grown w g q (Lib.compact l ++ List.replicate (n - (Lib.compact l).length) 0) #[];rw [grow_empty] at h1 h2;rw [List.take_left'  rfl] at h1;exact ⟨rfl, h1, h2⟩
end
end Go.Proofs.YtnhomkmfbngmgaaGreatDoor
namespace Go.Proofs.YtnhomkmfbngmgaaGreatDoor
open Go.ChangeShapes Go.WideShapes Go.ChangeAt Go.RowKit Go.Sort
theorem indexI_calls (v : Int) (A : Option Addr) (n c : Nat) (l : List Int) (w : World) (lo hi : Nat) (h : SlI w lo hi A n l) (hn : n ≤ 1048576) :
  Calls Tryz.prog 130 #[.slice A n c, .int .i64 v] w fun e w' => ∃ i : Int, e = .returned (.int .i64 i) ∧ decide (0 ≤ i) = l.any (fun x => decide (x = v)) ∧ w = w' := by
 have hlen := hide h.len;go_enter Tryz.func130, Tryz.ntmps130
 go_wp2
 go_loop [8] (fun i => ∃ k : Nat, k ≤ n ∧ i = .int .i64 k ∧ Hid ((l.take k).any (fun x => decide (x = v)) = false)) (fun i => n - (intOf i).toNat)
 case atStart => exact ⟨0, Nat.zero_le _, rfl, rfl⟩
 case round =>
  obtain ⟨k, hk, rfl, ha⟩ := hrel
  by_cases hlt : k < n
  ·obtain ⟨b, off, x, rfl, g1, g2, g3, hx, c0, -⟩ := SlI.get h hlt
   clear h
   by_cases hq : x = v
   ·have hy := hide (any_hit (G := fun x => decide (x = v)) hx (decide_eq_true hq))
    subst hq;clear hx
    go_wp2
    go_ret;exact ⟨_, rfl, by rw [hy.out]; simp, rfl⟩
   ·have hy := hide (any_take_succ ha.out hx (decide_eq_false hq))
    have hne : (v == x) = false := by rw [beq_eq_false_iff_ne]; exact fun e => hq e.symm
    clear hx hq
    go_wp2
    go_round
    case rel => exact ⟨k + 1, by omega, by go_num, hy⟩
    case measure => simp [intOf]; omega
  ·have hkn : k = n := by omega
   subst hkn;clear h
   go_wp2
   go_ret;have hy := ha.out
   rw [List.take_of_length_le (by rw [hlen.out]; exact zR)] at hy;exact ⟨_, rfl, by rw [hy]; decide, rfl⟩
theorem containsI_calls (v : Int) (A : Option Addr) (n c : Nat) (l : List Int) (w : World) (lo hi : Nat) (h : SlI w lo hi A n l) (hn : n ≤ 1048576) :
  Calls Tryz.prog 193 #[.slice A n c, .int .i64 v] w fun e w' => e = .returned (.bool (l.any (fun x => decide (x = v)))) ∧ w = w' := by
 have q := hide (indexI_calls v A n c l w lo hi h hn);clear h;go_enter Tryz.func193, Tryz.ntmps193;go_wp2_with fail;refine q.out.mono ?_;rintro e w1 ⟨i, rfl, hi, rfl⟩;replace hi := hide hi;go_wp2_with fail;go_ret;exact ⟨ret_b hi.out.symm, rfl⟩
theorem str_list_ne2 {a b : ByteArray} (h : ¬ a = b) : (b.toList == a.toList) = false ∧ ¬ b.toList = a.toList := by
 have h1 := str_neq (a := b) (b := a) (fun e => h e.symm);exact ⟨h1, fun e => by rw [e] at h1; simp at h1⟩
def hitS (ls : List ByteArray) (lab : ByteArray) (S : List Int) (e : Ed) : Bool := S.any (fun x => decide (x = e.1)) && (match ls[e.2.1.toNat]? with | some r => decide (r = lab) | none => false)
def folS (es : List Ed) (ls : List ByteArray) (lab : ByteArray) (S : List Int) : List Int := (es.filter (hitS ls lab S)).map (·.2.2)
def folV (es : List Ed) (ls : List ByteArray) (lab : ByteArray) (S : List Int) : List Int := Lib.compact (sortI (folS es ls lab S))
theorem hitS_at {ls : List ByteArray} {lab r : ByteArray} {S : List Int} {f lb tg : Int} (hr : ls[lb.toNat]? = some r) : hitS ls lab S (f, lb, tg) = (S.any (fun x => decide (x = f)) && decide (r = lab)) := by
 unfold hitS;simp only [hr]
theorem folS_succ {es : List Ed} {k : Nat} {e : Ed} {ls : List ByteArray} {lab : ByteArray} {S : List Int} (hx : es[k]? = some e) : folS (es.take (k + 1)) ls lab S = folS (es.take k) ls lab S ++ (if hitS ls lab S e then [e.2.2] else []) := by
 unfold folS;rw [List.take_add_one, hx, List.filter_append, List.map_append]
 congr 1
 by_cases h : hitS ls lab S e = true <;> simp [h]
theorem folS_len (es : List Ed) (ls : List ByteArray) (lab : ByteArray) (S : List Int) : (folS es ls lab S).length ≤ es.length := by
 unfold folS;rw [List.length_map];exact List.length_filter_le _ _
theorem folV_len (es : List Ed) (ls : List ByteArray) (lab : ByteArray) (S : List Int) : (folV es ls lab S).length ≤ es.length :=
 Nat.le_trans (compact_len _) (by rw [sortI_len]; exact folS_len es ls lab S)
theorem folV_mem {es : List Ed} {ls : List ByteArray} {lab : ByteArray} {S : List Int} {v : Int} : v ∈ folV es ls lab S ↔ ∃ e ∈ es, e.1 ∈ S ∧ ls[e.2.1.toNat]? = some lab ∧ e.2.2 = v := by
 unfold folV;rw [compact_mem, sortI_mem];unfold folS;rw [List.mem_map]
 constructor
 ·rintro ⟨e, he, rfl⟩
  obtain ⟨h1, h2⟩ := List.mem_filter.1 he;unfold hitS at h2;rw [Bool.and_eq_true, List.any_eq_true] at h2;obtain ⟨⟨x, hx, hxe⟩, h3⟩ := h2;refine ⟨e, h1, by rw [← of_decide_eq_true hxe]; exact hx, ?_, rfl⟩
  revert h3
  cases ls[e.2.1.toNat]? with
  | none => intro h; cases h
  | some r => intro h; rw [of_decide_eq_true h]
 ·rintro ⟨e, h1, h2, h3, rfl⟩
  refine ⟨e, List.mem_filter.2 ⟨h1, ?_⟩, rfl⟩;unfold hitS;rw [Bool.and_eq_true, List.any_eq_true, h3];exact ⟨⟨e.1, h2, decide_eq_true rfl⟩, decide_eq_true rfl⟩
theorem Own.grown_below {α : Type} {size : Nat} {f : α → List Value} {w w' : World} {base n c B : Nat} {e : TypeId} {A : Option Addr} {l : List α} (h : Own size f w base e A n c l) (hg : w.grownBy w' (Value.slice A n c).ownBlock) (hB : B ≤ base) (hb : base ≤ w.heap.size) : Below B w w' :=
 bR.grown hg (by omega) fun k hk => Nat.le_trans hB (h.lt k hk).1
theorem followS_calls (s0 s1 : Int) (A2 : Option Addr) (n2 k2 : Nat) (A3 : Option Addr) (n3 k3 : Nat) (A1 : Option Addr) (n1 c1 : Nat) (S : List Int) (lab : ByteArray) (ls : List ByteArray) (es : List Ed) (w : World) (lo hi lo1 hi1 : Nat)
  (t2 : SlS w lo hi A2 n2 ls) (t3 : SlE w lo hi A3 n3 es) (t1 : SlI w lo1 hi1 A1 n1 S) (hS : n1 ≤ 1048576) (hes : n3 ≤ 1048576) (hval : ltsV (s0, s1, ls, es) = true) :
  Calls Tryz.prog 181 #[.agg #[.int .i64 s0, .int .i64 s1, .slice A2 n2 k2, .slice A3 n3 k3], .slice A1 n1 c1, .string lab] w fun e w' => ∃ A n c, e = .returned (.slice A n c) ∧ Own 1 iv w' w.heap.size 2 A n c (folV es ls lab S) ∧ Below w.heap.size w w' := by
 have l2 := hide t2.len;have l3 := hide t3.len;have hlts := hide hval;have hW0 := hide (show Below w.heap.size w (w.alloc (.cells #[.int .i64 s0, .int .i64 s1, .slice A2 n2 k2, .slice A3 n3 k3] 27)) from bR.alloc zR _);have kE := heap_alloc_new w (.cells #[.int .i64 s0, .int .i64 s1, .slice A2 n2 k2, .slice A3 n3 k3] 27);have hbt : w.heap.size < (w.alloc (.cells #[.int .i64 s0, .int .i64 s1, .slice A2 n2 k2, .slice A3 n3 k3] 27)).heap.size := by rw [World.size_alloc]; omega
 have hE := hide elem_int;replace t1 := hide t1;replace t2 := hide t2;replace t3 := hide t3;clear hval;go_enter Tryz.func181, Tryz.ntmps181;go_upto_region 3 with fail;have c2 : (w.alloc (.cells #[.int .i64 s0, .int .i64 s1, .slice A2 n2 k2, .slice A3 n3 k3] 27)).cell? ⟨w.heap.size, 2, none⟩ = some (.slice A2 n2 k2) := cR 2 kE;have c3 : (w.alloc (.cells #[.int .i64 s0, .int .i64 s1, .slice A2 n2 k2, .slice A3 n3 k3] 27)).cell? ⟨w.heap.size, 3, none⟩ = some (.slice A3 n3 k3) := cR 3 kE;clear kE;generalize hWW : (w.alloc (.cells #[.int .i64 s0, .int .i64 s1, .slice A2 n2 k2, .slice A3 n3 k3] 27)) = W0 at *;clear hWW;have hbt1 : w.heap.size + 1 ≤ W0.heap.size := hbt
 go_loopw [7, 13] (fun o i wr => ∃ k m c A, k ≤ n3 ∧ m ≤ k ∧ o = .slice A m c ∧ i = .int .i64 (k : Nat) ∧ Hid (Own 1 iv wr W0.heap.size 2 A m c (folS (es.take k) ls lab S)) ∧ Below W0.heap.size W0 wr) (fun _ i _ => n3 - (intOf i).toNat)
 case atStart => exact ⟨0, 0, 0, none, Nat.zero_le _, Nat.zero_le _, rfl, rfl, Own.nil_ _ _ _, bR⟩
 case round =>
  obtain ⟨k, m, c, A, hk, hm, rfl, rfl, hown, hb⟩ := hrel;have hz := hb.size;have hwb := hW0.out.trans (hb.mono (by omega));have y2 := (hb.cell (p := ⟨w.heap.size, 2, none⟩) hbt).trans c2;have y3 := (hb.cell (p := ⟨w.heap.size, 3, none⟩) hbt).trans c3;clear c2 c3
  by_cases hlt : k < n3
  ·obtain ⟨b, off, f, lb, tg, rfl, -, -, g3, hx, p0, p1, p2, -, -, -⟩ := SlE.get t3.out hlt
   replace p0 := (hwb.cell g3).trans p0;replace p1 := (hwb.cell (p := ⟨b, off + k * 3 + 1, none⟩) g3).trans p1;replace p2 := (hwb.cell (p := ⟨b, off + k * 3 + 2, none⟩) g3).trans p2;have hed := edge_of hlts.out hx;have hl0 : (0 : Int) ≤ lb := hed.2.2.1;have hl1 : lb < (n2 : Int) := by have := hed.2.2.2; have := l2.out; omega
   obtain ⟨b2, off2, r, rfl, -, -, g32, hr, p3, -⟩ := SlS.get t2.out (show lb.toNat < n2 by omega);have hh := hitS_at (lab := lab) (S := S) (f := f) (tg := tg) hr;have hsu := folS_succ (ls := ls) (lab := lab) (S := S) hx;have hbE : Below wr.heap.size wr (wr.alloc (.cells #[.int .i64 f, .int .i64 lb, .int .i64 tg] 84)) := bR.alloc zR _;have kE := heap_alloc_new wr (.cells #[.int .i64 f, .int .i64 lb, .int .i64 tg] 84);have hgw : w.heap.size < wr.heap.size := by omega
   have x2 := (hbE.cell (p := ⟨w.heap.size, 2, none⟩) hgw).trans y2;have x3 := (hbE.cell (p := ⟨w.heap.size, 3, none⟩) hgw).trans y3;have z0 : (wr.alloc (.cells #[.int .i64 f, .int .i64 lb, .int .i64 tg] 84)).cell? ⟨wr.heap.size, 0, none⟩ = some (.int .i64 f) := cR 0 kE;have z1 : (wr.alloc (.cells #[.int .i64 f, .int .i64 lb, .int .i64 tg] 84)).cell? ⟨wr.heap.size, 1, none⟩ = some (.int .i64 lb) := cR 1 kE;have z2 : (wr.alloc (.cells #[.int .i64 f, .int .i64 lb, .int .i64 tg] 84)).cell? ⟨wr.heap.size, 2, none⟩ = some (.int .i64 tg) := cR 2 kE;have hbw : Below w.heap.size w (wr.alloc (.cells #[.int .i64 f, .int .i64 lb, .int .i64 tg] 84)) := hwb.trans (hbE.mono hwb.size);have p3' := (hbw.cell (p := ⟨b2, off2 + lb.toNat, none⟩) g32).trans p3;have hbB := hb.trans (hbE.mono hz);have hzB := hbB.size;have qc := containsI_calls f A1 n1 c1 S _ lo1 hi1 (t1.out.below hbw (.inr zR)) hS;replace hown := hide (hown.out.alloc (.cells #[.int .i64 f, .int .i64 lb, .int .i64 tg] 84));have hI0 : (0 : Int) ≤ (k : Int) := by omega
   have hI1 : (k : Int) < (n3 : Int) := by omega
   replace hbB := hide hbB;clear hed t1 t2 t3 hwb hb hbE kE p3 hz hbw;generalize hany : S.any (fun x => decide (x = f)) = an at *;clear hany;replace qc := hide qc;go_upto_region 5 with fail;clear p0 p1 p2 y2 y3 x3;generalize hWE : (wr.alloc (.cells #[.int .i64 f, .int .i64 lb, .int .i64 tg] 84)) = WE at *;generalize hbE : wr.heap.size = bE at *;clear hWE hbE;have hza : ∀ o, W0.heap.size ≤ (WE.alloc o).heap.size := fun o => by rw [World.size_alloc]; omega
   by_cases hrl : r = lab
   ·subst hrl
    have hself : (r.toList == r.toList) = true := beq_self_eq_true _;rw [hh, decide_eq_true rfl, Bool.and_true] at hsu
    cases an with
    | true =>
     rw [if_pos rfl] at hsu;replace hsu := hide hsu;clear hx hr hh;go_wp2_with (first
      | (go_at_call 193; (with_reducible refine qc.out.mono ?_); rintro e w' ⟨rfl, rfl⟩)
      | (at_builtin; (with_reducible refine wpList_app rfl (.tmp 31) (.tmp 34) rfl hE.out flat_iv rfl (hown.out.alloc _) rfl (Sl.lit1' _ 2 tg _ rfl 1 _ ?c0) ?c1 (hza _) ?_); rotate_right; intro A5 c5 w5 hown5 hgr5 hb5 _))
     case c0 => rfl
     case c1 => omega
     have hb6 := (hbB.out.alloc hzB (.cells #[.int .i64 tg] 2)).trans hb5;replace hown5 : Hid (Own 1 iv w5 W0.heap.size 2 A5 (m + 1) c5 (folS (es.take (k + 1)) ls r S)) := by show Own _ _ _ _ _ _ _ _ _; rw [hsu.out]; exact hown5
     go_roundw
     case rel => exact ⟨k + 1, m + 1, c5, A5, by omega, by omega, rfl, by go_num, hown5, hb6⟩
     case measure => simp [intOf]; omega
    | false =>
     replace hown : Hid (Own 1 iv WE W0.heap.size 2 A m c (folS (es.take (k + 1)) ls r S)) := by show Own _ _ _ _ _ _ _ _ _; rw [hsu]; simpa using hown.out
     clear hx hr hh hsu;go_wp2_with (first
      | (go_at_call 193; (with_reducible refine qc.out.mono ?_); rintro e w' ⟨rfl, rfl⟩))
     go_roundw
     case rel => exact ⟨k + 1, m, c, A, by omega, by omega, rfl, by go_num, hown, hbB.out⟩
     case measure => simp [intOf]; omega
   ·obtain ⟨hne1, hne2⟩ := str_list_ne2 (a := lab) (b := r) (fun e => hrl e.symm)
    rw [hh, decide_eq_false hrl, Bool.and_false] at hsu;replace hown : Hid (Own 1 iv WE W0.heap.size 2 A m c (folS (es.take (k + 1)) ls lab S)) := by show Own _ _ _ _ _ _ _ _ _; rw [hsu]; simpa using hown.out
    clear hx hr hh hsu hrl;go_wp2_with fail;go_roundw
    case rel => exact ⟨k + 1, m, c, A, by omega, by omega, rfl, by go_num, hown, hbB.out⟩
    case measure => simp [intOf]; omega
  ·have hkn : k = n3 := by omega
   have hall : es.take k = es := List.take_of_length_le (by rw [l3.out, hkn]; exact zR);rw [hall] at hown;have hf := folS_len es ls lab S;have hm9 : m ≤ 1000000000 := by omega
   have q1 := hide (sortI_calls hown.out hm9);have hwz : W0.heap.size ≤ wr.heap.size := hz;replace hb := hide hb;replace hwb := hide hwb;clear t1 t2 t3;go_wp2_with fail;refine q1.out.mono ?_;rintro e w1 ⟨rfl, hs1, hg1⟩;have hbs1 := hown.out.grown_below hg1 zR hwz;have q2 := hide (compactI_calls hs1 hm9);have hw1 : W0.heap.size ≤ w1.heap.size := Nat.le_trans hwz hbs1.size;replace hs1 := hide hs1;replace hbs1 := hide hbs1;clear hg1;go_wp2_with fail;refine q2.out.mono ?_;rintro e w2 ⟨rfl, hs2, hg2⟩;have hbs2 := hide (hs1.out.grown_below hg2 zR hw1);replace hs2 := hide hs2;clear hg2;go_wp2_with fail;go_ret;exact ⟨_, _, _, rfl, hs2.out.lower (by omega), hW0.out.trans (((hb.out.trans hbs1.out).trans hbs2.out).mono (by omega))⟩
end Go.Proofs.YtnhomkmfbngmgaaGreatDoor
namespace Go.Proofs.YtnhomkmfbngmgaaGreatDoor
open Go.ChangeShapes Go.WideShapes Go.ChangeAt Go.RowKit
theorem indexFuncM_calls (F : FuncId) (caps : Array Value) (G : Int → Bool) (A : Option Addr) (n c : Nat) (l : List Int) (w : World) (lo hi : Nat) (h : SlI w lo hi A n l) (hn : n ≤ 1048576)
  (hF : ∀ (v : Value) (W : World), Sem.run Tryz.prog (callFunc F (#[v] ++ caps)) W = .ok (.enter F (#[v] ++ caps)) W)
  (hcl : ∀ (v : Int), v ∈ l → ∀ (W : World), Below w.heap.size w W → Calls Tryz.prog F (#[.int .i64 v] ++ caps) W (Says (G v) W)) :
  Calls Tryz.prog 222 #[.slice A n c, .func (.func F) #[] caps] w fun e w' => ∃ i : Int, e = .returned (.int .i64 i) ∧ decide (0 ≤ i) = l.any G ∧ Below w.heap.size w w' := by
 have hlen := hide h.len;replace hcl := hide hcl;go_enter Tryz.func222, Tryz.ntmps222
 go_wp2
 go_loopw [8] (fun i wr => ∃ k : Nat, k ≤ n ∧ i = .int .i64 k ∧ Below w.heap.size w wr ∧ Hid ((l.take k).any G = false)) (fun i _ => n - (intOf i).toNat)
 case atStart => exact ⟨0, Nat.zero_le _, rfl, bR, rfl⟩
 case round =>
  obtain ⟨k, hk, rfl, hb, ha⟩ := hrel
  by_cases hlt : k < n
  ·obtain ⟨b, off, x, rfl, g1, g2, g3, hx, c0, -⟩ := h.get hlt
   replace c0 := (hb.cell (p := ⟨b, off + k, none⟩) g3).trans c0;have hc := hcl.out x (List.mem_of_getElem? hx) wr hb;replace hx := hide hx;clear h hcl
   by_cases hg : G x = true
   ·rw [hg] at hc
    replace hc := hide hc;have hy := hide (any_hit hx.out hg);clear hg;go_wp2_with fail;refine hc.out.mono ?_;rintro e w1 ⟨rfl, hb1⟩;go_wp2_with fail;go_ret;exact ⟨_, rfl, by rw [hy.out]; simp, hb.trans (hb1.mono hb.size)⟩
   ·replace hg := Bool.eq_false_iff.2 hg
    rw [hg] at hc;replace hc := hide hc;have hy := hide (any_take_succ ha.out hx.out hg);clear hg;go_wp2_with fail;refine hc.out.mono ?_;rintro e w1 ⟨rfl, hb1⟩;go_wp2_with fail;go_roundw
    case rel => exact ⟨k + 1, by omega, by go_num, hb.trans (hb1.mono hb.size), hy⟩
    case measure => simp [intOf]; omega
  ·have hkn : k = n := by omega
   subst hkn;clear hcl
   go_wp2
   go_ret;have hy := ha.out
   rw [List.take_of_length_le (by rw [hlen.out]; exact zR)] at hy;exact ⟨_, rfl, by rw [hy]; decide, hb⟩
theorem containsFuncM_calls (F : FuncId) (caps : Array Value) (G : Int → Bool) (A : Option Addr) (n c : Nat) (l : List Int) (w : World) (lo hi : Nat) (h : SlI w lo hi A n l) (hn : n ≤ 1048576)
  (hF : ∀ (v : Value) (W : World), Sem.run Tryz.prog (callFunc F (#[v] ++ caps)) W = .ok (.enter F (#[v] ++ caps)) W)
  (hcl : ∀ (v : Int), v ∈ l → ∀ (W : World), Below w.heap.size w W → Calls Tryz.prog F (#[.int .i64 v] ++ caps) W (Says (G v) W)) :
  Calls Tryz.prog 151 #[.slice A n c, .func (.func F) #[] caps] w (Says (l.any G) w) := by
 have q := hide (indexFuncM_calls F caps G A n c l w lo hi h hn hF hcl);clear h hF hcl;go_enter Tryz.func151, Tryz.ntmps151;go_wp2_with fail;refine q.out.mono ?_;rintro e w1 ⟨i, rfl, hi, hb⟩;replace hi := hide hi;go_wp2_with fail;go_ret;exact ⟨ret_b hi.out.symm, hb⟩
open Go.Sort
def stepQ (ep : List Ed) (lp : List ByteArray) (y : Int) (lab : ByteArray) (u : Int) : Prop := ∃ e ∈ ep, e.1 = y ∧ lp[e.2.1.toNat]? = some lab ∧ e.2.2 = u
def relQ (et : List Ed) (lt : List ByteArray) (ep : List Ed) (lp : List ByteArray) (R : Int → Int → Prop) (x y : Int) : Prop := ∀ e ∈ outE et x, ∃ u, stepQ ep lp y (labE lt e) u ∧ R e.2.2 u
theorem stepQ_in {r0 r1 : Int} {lp : List ByteArray} {ep : List Ed} (h : ltsV (r0, r1, lp, ep) = true) {y u : Int} {lab : ByteArray} (hs : stepQ ep lp y lab u) : 0 ≤ u ∧ u < r0 := by
 obtain ⟨e, he, -, -, rfl⟩ := hs;obtain ⟨k, hk⟩ := List.getElem?_of_mem he;obtain ⟨f, lb, tg⟩ := e;have := edge_of h hk;dsimp only;omega
def AnsR (lp : List ByteArray) (ep : List Ed) (H : Int → Int → Bool) (y : Int) (lab : ByteArray) (v : Int) (w : World) (e : Ending) (w' : World) : Prop :=
 ∃ a : Bool, e = .returned (.bool a) ∧ (a = true ↔ ∃ u, stepQ ep lp y lab u ∧ H v u = true) ∧ Below w.heap.size w w'
structure RelD (w : World) (K : Nat) (s0 s1 : Int) (A2 : Option Addr) (n2 k2 : Nat) (A3 : Option Addr) (n3 k3 : Nat) (r0 r1 : Int) (B2 : Option Addr) (m2 j2 : Nat) (B3 : Option Addr) (m3 j3 : Nat) (lt : List ByteArray) (et : List Ed) (lp : List ByteArray) (ep : List Ed) : Prop where
 t2 : SlS w 0 K A2 n2 lt
 t3 : SlE w 0 K A3 n3 et
 u2 : SlS w 0 K B2 m2 lp
 u3 : SlE w 0 K B3 m3 ep
 hes : n3 ≤ 1048576
 hfs : m3 ≤ 1048576
 ht : ltsV (s0, s1, lt, et) = true
 hp : ltsV (r0, r1, lp, ep) = true
theorem RelD.below {w w' : World} {K B : Nat} {s0 s1 : Int} {A2 : Option Addr} {n2 k2 : Nat} {A3 : Option Addr} {n3 k3 : Nat} {r0 r1 : Int} {B2 : Option Addr} {m2 j2 : Nat} {B3 : Option Addr} {m3 j3 : Nat} {lt : List ByteArray} {et : List Ed} {lp : List ByteArray} {ep : List Ed}
  (h : RelD w K s0 s1 A2 n2 k2 A3 n3 k3 r0 r1 B2 m2 j2 B3 m3 j3 lt et lp ep) (hb : Below B w w') (hK : K ≤ B) : RelD w' K s0 s1 A2 n2 k2 A3 n3 k3 r0 r1 B2 m2 j2 B3 m3 j3 lt et lp ep :=
 ⟨h.t2.below hb (.inl hK), h.t3.below hb (.inl hK), h.u2.below hb (.inl hK), h.u3.below hb (.inl hK), h.hes, h.hfs, h.ht, h.hp⟩
theorem strR1_calls (s0 s1 : Int) (A2 : Option Addr) (n2 k2 : Nat) (A3 : Option Addr) (n3 k3 : Nat) (r0 r1 : Int) (B2 : Option Addr) (m2 j2 : Nat) (B3 : Option Addr) (m3 j3 : Nat) (Fh : FuncId) (caps : Array Value) (H : Int → Int → Bool) (br bv : Nat) (v x : Int) (w : World) (hFh : ∀ (a b : Value) (W : World), Sem.run Tryz.prog (callFunc Fh (#[a, b] ++ caps)) W = .ok (.enter Fh (#[a, b] ++ caps)) W) (kr : w.heap[br]? = some (.cells #[.int .i64 s0, .int .i64 s1, .slice A2 n2 k2, .slice A3 n3 k3, .int .i64 r0, .int .i64 r1, .slice B2 m2 j2, .slice B3 m3 j3, .func (.func Fh) #[] caps] 215 (0, 0))) (kv : w.heap[bv]? = some (.cells #[.int .i64 v] 2 (0, 0))) (q0 : Calls Tryz.prog Fh (#[.int .i64 v, .int .i64 x] ++ caps) w (Says (H v x) w)) :
  Calls Tryz.prog 206 #[.int .i64 x, .pointer (some ⟨br, 0, none⟩), .pointer (some ⟨bv, 0, none⟩)] w (Says (H v x) w) := by
 have c8 : w.cell? ⟨br, 8, none⟩ = some (.func (.func Fh) #[] caps) := cR 8 kr;have cv : w.cell? ⟨bv, 0, none⟩ = some (.int .i64 v) := cR 0 kv;have q := hide q0;clear q0 kr kv;go_enter Tryz.func206, Tryz.ntmps206;go_wp2_with fail;refine q.out.mono ?_;rintro e w5 ⟨rfl, hb5⟩;go_wp2_with fail;go_ret;exact ⟨rfl, hb5⟩
theorem stronglyR_calls (s0 s1 : Int) (A2 : Option Addr) (n2 k2 : Nat) (A3 : Option Addr) (n3 k3 : Nat) (r0 r1 : Int) (B2 : Option Addr) (m2 j2 : Nat) (B3 : Option Addr) (m3 j3 : Nat) (lt : List ByteArray) (et : List Ed) (lp : List ByteArray) (ep : List Ed) (Fh : FuncId) (caps : Array Value) (H : Int → Int → Bool) (hFh : ∀ (a b : Value) (W : World), Sem.run Tryz.prog (callFunc Fh (#[a, b] ++ caps)) W = .ok (.enter Fh (#[a, b] ++ caps)) W) (K0 : Nat) (x y v : Int) (lab : ByteArray) (w : World) (hD : RelD w K0 s0 s1 A2 n2 k2 A3 n3 k3 r0 r1 B2 m2 j2 B3 m3 j3 lt et lp ep) (hH : ∀ (W : World) (x y : Int), Below w.heap.size w W → 0 ≤ x → x < s0 → 0 ≤ y → y < r0 → Calls Tryz.prog Fh (#[.int .i64 x, .int .i64 y] ++ caps) W (Says (H x y) W)) (hy : 0 ≤ y ∧ y < r0) (hv : 0 ≤ v ∧ v < s0) (hr : r0 ≤ 40) :
  Calls Tryz.prog 110 #[(.agg #[.int .i64 s0, .int .i64 s1, .slice A2 n2 k2, .slice A3 n3 k3, .int .i64 r0, .int .i64 r1, .slice B2 m2 j2, .slice B3 m3 j3, .func (.func Fh) #[] caps]), .int .i64 x, .int .i64 y, .string lab, .int .i64 v] w (AnsR lp ep H y lab v w) := by
 have z1 : (w.alloc (.cells #[.int .i64 s0, .int .i64 s1, .slice A2 n2 k2, .slice A3 n3 k3, .int .i64 r0, .int .i64 r1, .slice B2 m2 j2, .slice B3 m3 j3, .func (.func Fh) #[] caps] 215)).heap.size = w.heap.size + 1 := World.size_alloc _ _;have z2 : ((w.alloc (.cells #[.int .i64 s0, .int .i64 s1, .slice A2 n2 k2, .slice A3 n3 k3, .int .i64 r0, .int .i64 r1, .slice B2 m2 j2, .slice B3 m3 j3, .func (.func Fh) #[] caps] 215)).alloc (.cells #[.int .i64 v] 2)).heap.size = w.heap.size + 1 + 1 := by rw [World.size_alloc, z1]
 have z3 : (((w.alloc (.cells #[.int .i64 s0, .int .i64 s1, .slice A2 n2 k2, .slice A3 n3 k3, .int .i64 r0, .int .i64 r1, .slice B2 m2 j2, .slice B3 m3 j3, .func (.func Fh) #[] caps] 215)).alloc (.cells #[.int .i64 v] 2)).alloc (.cells #[.int .i64 y] 2)).heap.size = w.heap.size + 1 + 1 + 1 := by rw [World.size_alloc, z2]
 have hb2 : Below w.heap.size w ((w.alloc (.cells #[.int .i64 s0, .int .i64 s1, .slice A2 n2 k2, .slice A3 n3 k3, .int .i64 r0, .int .i64 r1, .slice B2 m2 j2, .slice B3 m3 j3, .func (.func Fh) #[] caps] 215)).alloc (.cells #[.int .i64 v] 2)) := (bR.alloc zR _).alloc (by omega) _;have hb3 : Below w.heap.size w (((w.alloc (.cells #[.int .i64 s0, .int .i64 s1, .slice A2 n2 k2, .slice A3 n3 k3, .int .i64 r0, .int .i64 r1, .slice B2 m2 j2, .slice B3 m3 j3, .func (.func Fh) #[] caps] 215)).alloc (.cells #[.int .i64 v] 2)).alloc (.cells #[.int .i64 y] 2)) := hb2.alloc (by omega) _;have kv := heap_alloc_new (w.alloc (.cells #[.int .i64 s0, .int .i64 s1, .slice A2 n2 k2, .slice A3 n3 k3, .int .i64 r0, .int .i64 r1, .slice B2 m2 j2, .slice B3 m3 j3, .func (.func Fh) #[] caps] 215)) (.cells #[.int .i64 v] 2);rw [z1] at kv;have kr := (Below.heap_alloc (w.alloc (.cells #[.int .i64 s0, .int .i64 s1, .slice A2 n2 k2, .slice A3 n3 k3, .int .i64 r0, .int .i64 r1, .slice B2 m2 j2, .slice B3 m3 j3, .func (.func Fh) #[] caps] 215)) (.cells #[.int .i64 v] 2) w.heap.size (by omega)).trans (heap_alloc_new w (.cells #[.int .i64 s0, .int .i64 s1, .slice A2 n2 k2, .slice A3 n3 k3, .int .i64 r0, .int .i64 r1, .slice B2 m2 j2, .slice B3 m3 j3, .func (.func Fh) #[] caps] 215));have hAl := Below.refl (((w.alloc (.cells #[.int .i64 s0, .int .i64 s1, .slice A2 n2 k2, .slice A3 n3 k3, .int .i64 r0, .int .i64 r1, .slice B2 m2 j2, .slice B3 m3 j3, .func (.func Fh) #[] caps] 215)).alloc (.cells #[.int .i64 v] 2)).heap.size) ((w.alloc (.cells #[.int .i64 s0, .int .i64 s1, .slice A2 n2 k2, .slice A3 n3 k3, .int .i64 r0, .int .i64 r1, .slice B2 m2 j2, .slice B3 m3 j3, .func (.func Fh) #[] caps] 215)).alloc (.cells #[.int .i64 v] 2));have hA3 : Below ((w.alloc (.cells #[.int .i64 s0, .int .i64 s1, .slice A2 n2 k2, .slice A3 n3 k3, .int .i64 r0, .int .i64 r1, .slice B2 m2 j2, .slice B3 m3 j3, .func (.func Fh) #[] caps] 215)).alloc (.cells #[.int .i64 v] 2)).heap.size ((w.alloc (.cells #[.int .i64 s0, .int .i64 s1, .slice A2 n2 k2, .slice A3 n3 k3, .int .i64 r0, .int .i64 r1, .slice B2 m2 j2, .slice B3 m3 j3, .func (.func Fh) #[] caps] 215)).alloc (.cells #[.int .i64 v] 2)) (((w.alloc (.cells #[.int .i64 s0, .int .i64 s1, .slice A2 n2 k2, .slice A3 n3 k3, .int .i64 r0, .int .i64 r1, .slice B2 m2 j2, .slice B3 m3 j3, .func (.func Fh) #[] caps] 215)).alloc (.cells #[.int .i64 v] 2)).alloc (.cells #[.int .i64 y] 2)) := hAl.alloc zR _
 have q1 := hide (followS_calls r0 r1 B2 m2 j2 B3 m3 j3 (some ⟨w.heap.size + 1 + 1, 0, none⟩) 1 1 [y] lab lp ep (((w.alloc (.cells #[.int .i64 s0, .int .i64 s1, .slice A2 n2 k2, .slice A3 n3 k3, .int .i64 r0, .int .i64 r1, .slice B2 m2 j2, .slice B3 m3 j3, .func (.func Fh) #[] caps] 215)).alloc (.cells #[.int .i64 v] 2)).alloc (.cells #[.int .i64 y] 2)) 0 K0 0 (w.heap.size + 1 + 1 + 1) (hD.u2.below hb3 (.inr zR)) (hD.u3.below hb3 (.inr zR)) (Sl.lit1' _ 2 y _ rfl 1 _ z2.symm) (by omega) hD.hfs hD.hp);have hstep : ∀ u, u ∈ folV ep lp lab [y] ↔ stepQ ep lp y lab u := fun u => by
  rw [folV_mem];unfold stepQ
  constructor
  ·rintro ⟨e, h1, h2, h3, h4⟩
   exact ⟨e, h1, List.mem_singleton.1 h2, h3, h4⟩
  ·rintro ⟨e, h1, h2, h3, h4⟩
   exact ⟨e, h1, List.mem_singleton.2 h2, h3, h4⟩
 have hp := hD.hp;have q2 := hide fun (A : Option Addr) (n c : Nat) (W : World) (lo5 hi5 : Nat) (hW : Below w.heap.size w W) (hkr : W.heap[w.heap.size]? = some (.cells #[.int .i64 s0, .int .i64 s1, .slice A2 n2 k2, .slice A3 n3 k3, .int .i64 r0, .int .i64 r1, .slice B2 m2 j2, .slice B3 m3 j3, .func (.func Fh) #[] caps] 215 (0, 0))) (hkv : W.heap[w.heap.size + 1]? = some (.cells #[.int .i64 v] 2 (0, 0))) (hS : SlI W lo5 hi5 A n (folV ep lp lab [y])) (hn : n ≤ 1048576) =>
  containsFuncM_calls 206 #[.pointer (some ⟨w.heap.size, 0, none⟩), .pointer (some ⟨w.heap.size + 1, 0, none⟩)] (fun u => H v u) A n c _ W lo5 hi5 hS hn (fun u W => rfl) fun u hu W' hW' =>
   strR1_calls s0 s1 A2 n2 k2 A3 n3 k3 r0 r1 B2 m2 j2 B3 m3 j3 Fh caps H w.heap.size (w.heap.size + 1) v u W' hFh ((hW'.block _ (Array.getElem?_eq_some_iff.1 hkr).1).trans hkr) ((hW'.block _ (Array.getElem?_eq_some_iff.1 hkv).1).trans hkv) (by have := stepQ_in hp ((hstep u).1 hu); exact hH W' v u (hW.trans (hW'.mono hW.size)) hv.1 hv.2 this.1 this.2)
 have hres : Hid (((folV ep lp lab [y]).any fun u => H v u) = true ↔ ∃ u, stepQ ep lp y lab u ∧ H v u = true) := by
  show _ ↔ _
  rw [List.any_eq_true]
  constructor
  ·rintro ⟨u, h1, h2⟩
   exact ⟨u, (hstep u).1 h1, h2⟩
  ·rintro ⟨u, h1, h2⟩
   exact ⟨u, (hstep u).2 h1, h2⟩
 have hlen := folV_len ep lp lab [y];have hep : ep.length ≤ 1048576 := by rw [hD.u3.len]; exact hD.hfs
 have c4 := (cell_of_row _ _ 4 _ _ (0, 0) kr).trans (show _ = some (Value.int .i64 r0) from rfl);have c5 := (cell_of_row _ _ 5 _ _ (0, 0) kr).trans (show _ = some (Value.int .i64 r1) from rfl);have c6 := (cell_of_row _ _ 6 _ _ (0, 0) kr).trans (show _ = some (Value.slice B2 m2 j2) from rfl);have c7 := (cell_of_row _ _ 7 _ _ (0, 0) kr).trans (show _ = some (Value.slice B3 m3 j3) from rfl);replace kr := hide kr;replace kv := hide kv;have hb3' := hide hb3;have hA3' := hide hA3;have z2' := hide z2;clear hH hD hstep hp hb2 hb3 hAl hA3 z1 z3;go_enter Tryz.func110, Tryz.ntmps110;go_wp2_with (first | (go_at_call 181; (with_reducible refine q1.out.mono ?_); rintro e w5 ⟨Af, nf, cf, rfl, hof, hb5⟩; have hbw := hb3'.out.trans (hb5.mono hb3'.out.size); have hA5 := hA3'.out.trans (hb5.mono hA3'.out.size); have hnf := hof.len; have q3 := hide (q2.out Af nf cf w5 _ _ hbw ((hA5.block _ (by have := z2'.out; omega)).trans kr.out) ((hA5.block _ (by have := z2'.out; omega)).trans kv.out) (hof.sl flat_iv) (by omega)); replace hbw := hide hbw; clear hof hb5 hA5) | (go_at_call 151; (with_reducible refine q3.out.mono ?_); rintro e w6 ⟨rfl, hb6⟩; replace hb6 := hide hb6))
 go_ret;exact ⟨_, rfl, hres.out, hbw.out.trans (hb6.out.mono hbw.out.size)⟩
theorem answeredR_calls (s0 s1 : Int) (A2 : Option Addr) (n2 k2 : Nat) (A3 : Option Addr) (n3 k3 : Nat) (r0 r1 : Int) (B2 : Option Addr) (m2 j2 : Nat) (B3 : Option Addr) (m3 j3 : Nat) (lt : List ByteArray) (et : List Ed) (lp : List ByteArray) (ep : List Ed) (Fw : FuncId) (Fh : FuncId) (caps : Array Value) (H : Int → Int → Bool) (K0 : Nat) (x y : Int) (w : World) (hD : RelD w K0 s0 s1 A2 n2 k2 A3 n3 k3 r0 r1 B2 m2 j2 B3 m3 j3 lt et lp ep) (hK0 : K0 ≤ w.heap.size) (hr : s0 ≤ 40)
  (hF : ∀ (a b c d e : Value) (W : World), Sem.run Tryz.prog (callFunc Fw #[a, b, c, d, e]) W = .ok (.enter Fw #[a, b, c, d, e]) W)
  (hcl : ∀ (lab : ByteArray) (v : Int) (W : World), Below w.heap.size w W → 0 ≤ v ∧ v < s0 → Calls Tryz.prog Fw #[(.agg #[.int .i64 s0, .int .i64 s1, .slice A2 n2 k2, .slice A3 n3 k3, .int .i64 r0, .int .i64 r1, .slice B2 m2 j2, .slice B3 m3 j3, .func (.func Fh) #[] caps]), .int .i64 x, .int .i64 y, .string lab, .int .i64 v] W (AnsR lp ep H y lab v W)) :
  Calls Tryz.prog 204 #[(.agg #[.int .i64 s0, .int .i64 s1, .slice A2 n2 k2, .slice A3 n3 k3, .int .i64 r0, .int .i64 r1, .slice B2 m2 j2, .slice B3 m3 j3, .func (.func Fh) #[] caps]), .int .i64 x, .int .i64 y, .func (.func Fw) #[] #[]] w fun e w' => ∃ a : Bool, e = .returned (.bool a) ∧ (a = true ↔ relQ et lt ep lp (fun u v => H u v = true) x y) ∧ Below w.heap.size w w' := by
 have hb0 : Below w.heap.size w (w.alloc (.cells #[.int .i64 s0, .int .i64 s1, .slice A2 n2 k2, .slice A3 n3 k3, .int .i64 r0, .int .i64 r1, .slice B2 m2 j2, .slice B3 m3 j3, .func (.func Fh) #[] caps] 215)) := bR.alloc zR _;have z0 : (w.alloc (.cells #[.int .i64 s0, .int .i64 s1, .slice A2 n2 k2, .slice A3 n3 k3, .int .i64 r0, .int .i64 r1, .slice B2 m2 j2, .slice B3 m3 j3, .func (.func Fh) #[] caps] 215)).heap.size = w.heap.size + 1 := World.size_alloc _ _;have kR := heap_alloc_new w (.cells #[.int .i64 s0, .int .i64 s1, .slice A2 n2 k2, .slice A3 n3 k3, .int .i64 r0, .int .i64 r1, .slice B2 m2 j2, .slice B3 m3 j3, .func (.func Fh) #[] caps] 215);have hD0 := hD.below hb0 hK0;have qo := hide (out_calls s0 s1 (.slice A2 n2 k2) A3 n3 k3 x et (w.alloc (.cells #[.int .i64 s0, .int .i64 s1, .slice A2 n2 k2, .slice A3 n3 k3, .int .i64 r0, .int .i64 r1, .slice B2 m2 j2, .slice B3 m3 j3, .func (.func Fh) #[] caps] 215)) 0 K0 hD0.t3 hD.hes ⟨_, _, _, rfl⟩);have c0 := (cell_of_row _ _ 0 _ _ (0, 0) kR).trans (show _ = some (Value.int .i64 s0) from rfl);have c1 := (cell_of_row _ _ 1 _ _ (0, 0) kR).trans (show _ = some (Value.int .i64 s1) from rfl);have c2 := (cell_of_row _ _ 2 _ _ (0, 0) kR).trans (show _ = some (Value.slice A2 n2 k2) from rfl);have c3 := (cell_of_row _ _ 3 _ _ (0, 0) kR).trans (show _ = some (Value.slice A3 n3 k3) from rfl);have hkR : Hid ((w.alloc (.cells #[.int .i64 s0, .int .i64 s1, .slice A2 n2 k2, .slice A3 n3 k3, .int .i64 r0, .int .i64 r1, .slice B2 m2 j2, .slice B3 m3 j3, .func (.func Fh) #[] caps] 215)).heap[w.heap.size]? = some (.cells #[.int .i64 s0, .int .i64 s1, .slice A2 n2 k2, .slice A3 n3 k3, .int .i64 r0, .int .i64 r1, .slice B2 m2 j2, .slice B3 m3 j3, .func (.func Fh) #[] caps] 215 (0, 0))) := kR;have hlab : Hid (∀ e ∈ outE et x, (0 ≤ e.2.1 ∧ e.2.1 < (n2 : Int)) ∧ (0 ≤ e.2.2 ∧ e.2.2 < s0) ∧ lt[e.2.1.toNat]? = some (labE lt e)) := fun e he => by
  obtain ⟨f, lb, tg⟩ := e;obtain ⟨j, hj⟩ := List.getElem?_of_mem (List.mem_filter.1 he).1;have h1 := (edge_of hD.ht hj).2;have h2 : lt.length = n2 := hD.t2.len;dsimp only;refine ⟨by omega, by omega, ?_⟩;unfold labE;dsimp only;rw [List.getElem?_eq_getElem (by omega)]
  rfl
 have ht2 := hide hD.t2;have hb0' := hide hb0;replace hcl := hide hcl;replace hD0 := hide hD0;clear kR hb0 hD;go_enter Tryz.func204, Tryz.ntmps204;go_upto_region 1 with fail;generalize (w.alloc (.cells #[.int .i64 s0, .int .i64 s1, .slice A2 n2 k2, .slice A3 n3 k3, .int .i64 r0, .int .i64 r1, .slice B2 m2 j2, .slice B3 m3 j3, .func (.func Fh) #[] caps] 215)) = W0 at *;go_upto_region 2 with (first | (go_at_call 180; (with_reducible refine qo.out.mono ?_); rintro e w1 ⟨Ao, no, co, rfl, ho, hno, hb1⟩));have hlen := hide ho.len;have hz1 := hb1.size;have hkR1 : Hid (w1.heap[w.heap.size]? = some (.cells #[.int .i64 s0, .int .i64 s1, .slice A2 n2 k2, .slice A3 n3 k3, .int .i64 r0, .int .i64 r1, .slice B2 m2 j2, .slice B3 m3 j3, .func (.func Fh) #[] caps] 215 (0, 0))) := (hb1.block _ (by omega)).trans hkR.out;have hb2 := hide (hb0'.out.trans (hb1.mono (by omega)));replace ho := hide ho;clear c0 c1 c2 c3 hkR hb1 qo hD0
 go_loopg [16] no (fun g i wr => ∃ k : Nat, k ≤ no ∧ i = .int .i64 (k : Nat) ∧ Hid (∀ e ∈ (outE et x).take k, ∃ u, stepQ ep lp y (labE lt e) u ∧ H e.2.2 u = true) ∧ Below w1.heap.size w1 wr ∧ Hid (no - k ≤ g))
 case atStart => exact ⟨0, Nat.zero_le _, rfl, (fun e he => by cases he), bR, by show _ ≤ _; omega⟩
 case round =>
  obtain ⟨k, hk, rfl, hall, hb, hG⟩ := hrel;have hz := hb.size
  by_cases hlt : k < no
  ·obtain ⟨G2, rfl⟩ : ∃ G2, gk = G2 + 1 := ⟨gk - 1, by have := hG.out; omega⟩
   have hG2 : Hid (no - (k + 1) ≤ G2) := by have := hG.out; show _ ≤ _; omega
   obtain ⟨b5, o5, f, lb, tg, rfl, -, -, g5, hx, a0, a1, a2, -, -, -⟩ := SlE.get (ho.out.below hb (.inr zR)) hlt;have hem := List.mem_of_getElem? hx;obtain ⟨hl1, hl2, hl3⟩ := hlab.out _ hem;have htk : (outE et x).take (k + 1) = (outE et x).take k ++ [(f, lb, tg)] := by rw [List.take_add_one, hx]; rfl
   dsimp only at hl1 hl2;have hbE : Below wr.heap.size wr (wr.alloc (.cells #[.int .i64 f, .int .i64 lb, .int .i64 tg] 84)).drew := (bR.alloc zR _).drew;have hzE : (wr.alloc (.cells #[.int .i64 f, .int .i64 lb, .int .i64 tg] 84)).heap.size = wr.heap.size + 1 := World.size_alloc _ _;have kE := heap_alloc_new wr (.cells #[.int .i64 f, .int .i64 lb, .int .i64 tg] 84);have e1 : (wr.alloc (.cells #[.int .i64 f, .int .i64 lb, .int .i64 tg] 84)).cell? ⟨wr.heap.size, 1, none⟩ = some (.int .i64 lb) := cR 1 kE;have e2 : (wr.alloc (.cells #[.int .i64 f, .int .i64 lb, .int .i64 tg] 84)).cell? ⟨wr.heap.size, 2, none⟩ = some (.int .i64 tg) := cR 2 kE;have hbw := hb2.out.trans (hb.mono (by omega));have hbwE := hbw.trans (hbE.mono hbw.size);have kRE := (hbE.block w.heap.size (by omega)).trans ((hb.block _ (by omega)).trans hkR1.out);have y0 := (cell_of_row _ _ 0 _ _ (0, 0) kRE).trans (show _ = some (Value.int .i64 s0) from rfl);have y1 := (cell_of_row _ _ 1 _ _ (0, 0) kRE).trans (show _ = some (Value.int .i64 s1) from rfl);have y2 := (cell_of_row _ _ 2 _ _ (0, 0) kRE).trans (show _ = some (Value.slice A2 n2 k2) from rfl);have y3 := (cell_of_row _ _ 3 _ _ (0, 0) kRE).trans (show _ = some (Value.slice A3 n3 k3) from rfl);have y4 := (cell_of_row _ _ 4 _ _ (0, 0) kRE).trans (show _ = some (Value.int .i64 r0) from rfl);have y5 := (cell_of_row _ _ 5 _ _ (0, 0) kRE).trans (show _ = some (Value.int .i64 r1) from rfl);have y6 := (cell_of_row _ _ 6 _ _ (0, 0) kRE).trans (show _ = some (Value.slice B2 m2 j2) from rfl);have y7 := (cell_of_row _ _ 7 _ _ (0, 0) kRE).trans (show _ = some (Value.slice B3 m3 j3) from rfl);have y8 := (cell_of_row _ _ 8 _ _ (0, 0) kRE).trans (show _ = some (.func (.func Fh) #[] caps) from rfl);obtain ⟨b6, o6, r6, eA, -, -, g6, hr6, p6, -⟩ := SlS.get (ht2.out.below hbwE (.inl hK0)) (show lb.toNat < n2 by omega);rw [hl3] at hr6;obtain rfl := Option.some.inj hr6;generalize hlabe : labE lt (f, lb, tg) = lab at *;have q := hide (hcl.out lab tg (wr.alloc (.cells #[.int .i64 f, .int .i64 lb, .int .i64 tg] 84)).drew hbwE hl2);have hl0 : (0 : Int) ≤ lb := hl1.1;have hl9 : lb < (n2 : Int) := hl1.2;have hI0 : (0 : Int) ≤ (k : Int) := by omega
   have hI1 : (k : Int) < (no : Int) := by omega
   have hbE' := hide (hb.trans (hbE.mono hz));have hwE : w.heap.size < (wr.alloc (.cells #[.int .i64 f, .int .i64 lb, .int .i64 tg] 84)).heap.size := by omega
   have hrE : wr.heap.size < (wr.alloc (.cells #[.int .i64 f, .int .i64 lb, .int .i64 tg] 84)).heap.size := by omega
   have hx' := hide hx;have hem' := hide hem;subst eA;clear kE hbE hbw kRE hr6 hl3 hx hem hb;go_upto_region 4 with fail;clear a0 a1 a2;generalize (wr.alloc (.cells #[.int .i64 f, .int .i64 lb, .int .i64 tg] 84)) = WE at *
   go_cut [34] (fun s wx => ∃ a : Bool, s = .bool (!a) ∧ (a = true ↔ ∃ u, stepQ ep lp y lab u ∧ H tg u = true) ∧ Below WE.heap.size WE wx)
   case first =>
    go_region_held3 (fun w' => w'.cell? ⟨w.heap.size, 0, none⟩ = some (.int .i64 s0) ∧ w'.cell? ⟨w.heap.size, 1, none⟩ = some (.int .i64 s1) ∧ w'.cell? ⟨w.heap.size, 2, none⟩ = some (.slice (some ⟨b6, o6, none⟩) n2 k2) ∧ w'.cell? ⟨w.heap.size, 3, none⟩ = some (.slice A3 n3 k3) ∧ w'.cell? ⟨w.heap.size, 4, none⟩ = some (.int .i64 r0) ∧ w'.cell? ⟨w.heap.size, 5, none⟩ = some (.int .i64 r1) ∧ w'.cell? ⟨w.heap.size, 6, none⟩ = some (.slice B2 m2 j2) ∧ w'.cell? ⟨w.heap.size, 7, none⟩ = some (.slice B3 m3 j3) ∧ w'.cell? ⟨w.heap.size, 8, none⟩ = some (.func (.func Fh) #[] caps) ∧ w'.cell? ⟨wr.heap.size, 1, none⟩ = some (.int .i64 lb) ∧ w'.cell? ⟨wr.heap.size, 2, none⟩ = some (.int .i64 tg) ∧ w'.cell? ⟨b6, o6 + lb.toNat, none⟩ = some (.string lab))
     (first | exact ⟨y0, y1, y2, y3, y4, y5, y6, y7, y8, e1, e2, p6⟩ | exact ⟨v0, v1, v2, v3, v4, v5, v6, v7, v8, v9, v10, v11⟩ | go_keep)
     (first | ((with_reducible refine q.out.mono ?_); rintro e w5 ⟨a5, rfl, ha5, hb5⟩; have v0 := (hb5.cell (p := ⟨w.heap.size, 0, none⟩) hwE).trans y0; have v1 := (hb5.cell (p := ⟨w.heap.size, 1, none⟩) hwE).trans y1; have v2 := (hb5.cell (p := ⟨w.heap.size, 2, none⟩) hwE).trans y2; have v3 := (hb5.cell (p := ⟨w.heap.size, 3, none⟩) hwE).trans y3; have v4 := (hb5.cell (p := ⟨w.heap.size, 4, none⟩) hwE).trans y4; have v5 := (hb5.cell (p := ⟨w.heap.size, 5, none⟩) hwE).trans y5; have v6 := (hb5.cell (p := ⟨w.heap.size, 6, none⟩) hwE).trans y6; have v7 := (hb5.cell (p := ⟨w.heap.size, 7, none⟩) hwE).trans y7; have v8 := (hb5.cell (p := ⟨w.heap.size, 8, none⟩) hwE).trans y8; have v9 := (hb5.cell (p := ⟨wr.heap.size, 1, none⟩) hrE).trans e1; have v10 := (hb5.cell (p := ⟨wr.heap.size, 2, none⟩) hrE).trans e2; have v11 := (hb5.cell (p := ⟨b6, o6 + lb.toNat, none⟩) g6).trans p6; replace ha5 := hide ha5; replace hb5 := hide hb5))
    all_goals (go_wp2_with fail; go_meet)
    all_goals exact ⟨a5, rfl, ha5.out, ⟨hb5.out.os, hb5.out.tape, hb5.out.output, hb5.out.size, hb5.out.block⟩⟩
   case rest =>
   obtain ⟨a5, rfl, ha5, hb5⟩ := hcut;generalize wc = w5 at *;have hb6 := hide (hbE'.out.trans (⟨hb5.os, hb5.tape, hb5.output, Nat.le_trans (Nat.le_trans hz (Nat.le_of_lt hrE)) hb5.size |> fun h => (by exact hb5.size : WE.heap.size ≤ w5.heap.size), fun b hb' => hb5.block b (by omega)⟩ : Below w1.heap.size WE.drew w5));clear q e1 e2 p6 y0 y1 y2 y3 y4 y5 y6 y7 y8 hb5
   cases a5 with
   | false =>
    have hno' : Hid (¬ relQ et lt ep lp (fun u v => H u v = true) x y) := fun h1 => by
     obtain ⟨u, h2, h3⟩ := h1 _ hem'.out;rw [hlabe] at h2;have := ha5.2 ⟨u, h2, h3⟩
     cases this
    have hbF := hide (hb2.out.trans (hb6.out.mono (by omega)));clear ha5;go_wp2_with fail;go_ret;exact ⟨false, rfl, ⟨fun h => (by cases h), fun h => absurd h hno'.out⟩, hbF.out⟩
   | true =>
    have hall' : Hid (∀ e ∈ (outE et x).take (k + 1), ∃ u, stepQ ep lp y (labE lt e) u ∧ H e.2.2 u = true) := fun e he => by
     rw [htk] at he
     rcases List.mem_append.1 he with he | he
     ·exact hall.out e he
     ·rw [List.mem_singleton.1 he, hlabe]
      exact ha5.1 rfl
    clear ha5 hall htk;go_wp2_with fail
    go_roundg G2
    case measure => omega
    case rel => exact ⟨k + 1, by omega, by go_num, hall', hb6.out, hG2⟩
  ·have hkn : k = no := by omega
   subst hkn;have htake : (outE et x).take k = outE et x := List.take_of_length_le (by rw [hlen.out]; exact zR);rw [htake] at hall;have hbF := hide (hb2.out.trans (hb.mono (by omega)));have hyes : Hid (relQ et lt ep lp (fun u v => H u v = true) x y) := hall.out;go_wp2_with fail;go_ret;exact ⟨true, rfl, ⟨fun _ => hyes.out, fun _ => rfl⟩, hbF.out⟩
end Go.Proofs.YtnhomkmfbngmgaaGreatDoor
namespace Go.Proofs.YtnhomkmfbngmgaaGreatDoor
open Go.ChangeShapes Go.WideShapes Go.ChangeAt Go.RowKit
theorem edLess_iff (a b : Ed) : edLess a b = true ↔ a.1 < b.1 ∨ (a.1 = b.1 ∧ (a.2.1 < b.2.1 ∨ (a.2.1 = b.2.1 ∧ a.2.2 < b.2.2))) := by
 unfold edLess
 by_cases h1 : a.1 = b.1
 ·by_cases h2 : a.2.1 = b.2.1
  ·simp [h1, h2]
  ·simp [h1, h2]
 ·simp [h1]
theorem edLess_irr (a : Ed) : edLess a a = false := Bool.eq_false_iff.2 fun h => by rw [edLess_iff] at h; omega
theorem edLess_trans {a b c : Ed} (h : edLess a b = true) (g : edLess b c = true) : edLess a c = true := by
 rw [edLess_iff] at h g ⊢; omega
theorem edLess_total {a b : Ed} (h : a ≠ b) : edLess a b = true ∨ edLess b a = true := by
 rw [edLess_iff, edLess_iff]
 by_cases h1 : a.1 = b.1
 ·by_cases h2 : a.2.1 = b.2.1
  ·by_cases h3 : a.2.2 = b.2.2
   ·exact absurd (Prod.ext h1 (Prod.ext h2 h3)) h
   ·omega
  ·omega
 ·omega
def RisE (l : List Ed) : Prop := l.Pairwise fun x y => edLess x y = true
def PutO (l : List Ed) (e : Ed) (l' : List Ed) : Prop := RisE l' ∧ (∀ x, x ∈ l' ↔ x = e ∨ x ∈ l) ∧ l'.length ≤ l.length + 1
theorem PutO.old {l : List Ed} {e : Ed} (h : RisE l) (he : e ∈ l) : PutO l e l := ⟨h, fun x => ⟨.inr, fun g => by rcases g with rfl | g; exact he; exact g⟩, by omega⟩
theorem PutO.new {l : List Ed} {e : Ed} (h : RisE l) {k : Nat} (hlo : k = 0 ∨ ∃ y, l[k - 1]? = some y ∧ edLess y e = true) (hhi : ∀ j x, k ≤ j → l[j]? = some x → edLess e x = true) : PutO l e (l.take k ++ e :: l.drop k) := by
 have hlow : ∀ x ∈ l.take k, edLess x e = true := fun x hx => by
  obtain ⟨j, hj⟩ := List.getElem?_of_mem hx;rw [List.getElem?_take] at hj
  split at hj
  ·rename_i hjk
   rcases hlo with rfl | ⟨y, hy, hye⟩
   ·omega
   ·by_cases e1 : j = k - 1
    ·subst e1
     rw [hy] at hj;injection hj with hj;rw [← hj]; exact hye
    ·have hj2 := (List.getElem?_eq_some_iff.1 hj)
     have hy2 := (List.getElem?_eq_some_iff.1 hy);have := List.pairwise_iff_getElem.1 h j (k - 1) hj2.1 hy2.1 (by omega);rw [hj2.2, hy2.2] at this;exact edLess_trans this hye
  ·cases hj
 have hhigh : ∀ x ∈ l.drop k, edLess e x = true := fun x hx => by
  obtain ⟨j, hj⟩ := List.getElem?_of_mem hx;rw [List.getElem?_drop] at hj;exact hhi (k + j) x (by omega) hj
 have hsplit : ∀ x, x ∈ l ↔ x ∈ l.take k ∨ x ∈ l.drop k := fun x => by rw [← List.mem_append, List.take_append_drop]
 refine ⟨?_, fun x => ?_, by simp only [List.length_append, List.length_cons, List.length_take, List.length_drop]; omega⟩
 ·have hl : (l.take k ++ l.drop k).Pairwise fun x y => edLess x y = true := by rw [List.take_append_drop]; exact h
  obtain ⟨p1, p2, p3⟩ := List.pairwise_append.1 hl;refine List.pairwise_append.2 ⟨p1, List.pairwise_cons.2 ⟨hhigh, p2⟩, fun a ha b hb => ?_⟩
  rcases List.mem_cons.1 hb with rfl | hb
  ·exact hlow a ha
  ·exact p3 a ha b hb
 ·rw [List.mem_append, List.mem_cons, hsplit]
  constructor
  ·rintro (g | g | g)
   ·exact .inr (.inl g)
   ·exact .inl g
   ·exact .inr (.inr g)
  ·rintro (g | g | g)
   ·exact .inr (.inl g)
   ·exact .inl g
   ·exact .inr (.inr g)
section
variable {α : Type} {out : List α} {i : Nat} {z x : α}
theorem shiftG_set (hx : out[i]? = some x) : (out.take (i + 1) ++ z :: out.drop (i + 1)).set (i + 1) x = out.take i ++ x :: out.drop i := by
 obtain ⟨hi, hxe⟩ := List.getElem?_eq_some_iff.1 hx;have h1 : out.drop i = x :: out.drop (i + 1) := by rw [List.drop_eq_getElem_cons hi, hxe]
 rw [List.set_append_right _ _ (by rw [List.length_take]; omega), List.length_take, Nat.min_eq_left (by omega), Nat.sub_self, List.set_cons_zero, List.take_add_one, hx, h1]
 simp
theorem shiftG_end (hi : i ≤ out.length) : (out.take i ++ z :: out.drop i).set i x = out.take i ++ x :: out.drop i := by
 rw [List.set_append_right _ _ (by rw [List.length_take]; omega), List.length_take, Nat.min_eq_left (by omega), Nat.sub_self, List.set_cons_zero]
theorem shiftG_get (hx : out[i]? = some x) : (out.take (i + 1) ++ z :: out.drop (i + 1))[i]? = some x := by
 obtain ⟨hi, hxe⟩ := List.getElem?_eq_some_iff.1 hx;rw [List.getElem?_append_left (by rw [List.length_take]; omega), List.getElem?_take, if_pos (by omega), hx]
end
theorem ev_set : ∀ (l : List Ed) (k : Nat) (x y z : Int), (((l.flatMap ev).set (k * 3) (.int .i64 x)).set (k * 3 + 1) (.int .i64 y)).set (k * 3 + 2) (.int .i64 z) = (l.set k (x, y, z)).flatMap ev
 | [], _, _, _, _ => rfl
 | a :: l, 0, x, y, z => by simp [ev]
 | a :: l, k + 1, x, y, z => by
  have e0 : (k + 1) * 3 = k * 3 + 1 + 1 + 1 := by omega
  have e1 : (k + 1) * 3 + 1 = k * 3 + 1 + 1 + 1 + 1 := by omega
  have e2 : (k + 1) * 3 + 2 = k * 3 + 2 + 1 + 1 + 1 := by omega
  have ih := ev_set l k x y z;rw [List.set_cons_succ, List.flatMap_cons, List.flatMap_cons, ← ih];unfold ev;rw [e2, e1, e0]
  rfl
theorem Own.setE {w : World} {base g n c : Nat} {e : TypeId} {l : List Ed} (h : Own 3 ev w base e (some ⟨g, 0, none⟩) n c l) (k : Nat) (x y z : Int) :
  Own 3 ev (((w.setCell ⟨g, k * 3, none⟩ (.int .i64 x)).setCell ⟨g, k * 3 + 1, none⟩ (.int .i64 y)).setCell ⟨g, k * 3 + 2, none⟩ (.int .i64 z)) base e (some ⟨g, 0, none⟩) n c (l.set k (x, y, z)) := by
 rcases h.2.2 with ⟨hv, -⟩ | ⟨g', cap, cur, hv, hb, hg, hnc, hcm, hcs, htake⟩
 ·cases hv
 ·cases hv
  have h1 := heap_setCell_same w g (k * 3) cur _ (.int .i64 x) hg;have h2 := heap_setCell_same _ g (k * 3 + 1) _ _ (.int .i64 y) h1;have h3 := heap_setCell_same _ g (k * 3 + 2) _ _ (.int .i64 z) h2;refine ⟨by rw [List.length_set]; exact h.1, by rw [flat_length flat_ev, List.length_set]; have := h.1; omega, .inr ⟨g, c, _, rfl, hb, h3, hnc, hcm, by simpa using hcs, ?_⟩⟩;rw [Array.toList_setIfInBounds, Array.toList_setIfInBounds, Array.toList_setIfInBounds, List.take_set, List.take_set, List.take_set, htake];exact ev_set l k x y z
theorem Own.neE {w : World} {base e n c : Nat} {A : Option Addr} {l : List Ed} (h : Own 3 ev w base e A n c l) (hn : 0 < n) : ∃ g, A = some ⟨g, 0, none⟩ ∧ base ≤ g := by
 rcases h.2.2 with ⟨-, hv⟩ | ⟨g, cap, cur, hv, hb, -⟩
 ·omega
 ·cases hv
  exact ⟨g, rfl, hb⟩
end Go.Proofs.YtnhomkmfbngmgaaGreatDoor
namespace Go.Proofs
open Go.Shelf
def Tryz.laysSortG_ren : Go.Shelf.Ren := ⟨fun | 6 => 132 | 15 => 224 | 14 => 223 | 28 => 289 | 29 => 290 | 20 => 281 | 21 => 282 | 22 => 283 | 23 => 284 | 24 => 285 | 25 => 286 | 26 => 287 | 27 => 288 | 46 => 339 | 47 => 340 | 48 => 341 | 49 => 342 | 50 => 343 | 57 => 374 | n => n, fun | 22 => 25 | 24 => 84 | 25 => 147 | 3 => 3 | 39 => 243 | 0 => 0 | 53 => 292 | 55 => 137 | 4 => 4 | 46 => 285 | 45 => 284 | 50 => 289 | 5 => 5 | 9 => 9 | 66 => 327 | 70 => 331 | 76 => 352 | 77 => 353 | n => n, fun | n => n⟩
theorem Tryz.laysSortG : Go.Proofs.SlLaysF0.n6 Tryz.prog Tryz.laysSortG_ren := {
 mixed := by kernel_rfl
 f6 := ⟨Tryz.f132.name, by decide, Tryz.func132.trans (congrArg some (by kernel_rfl))⟩
 f14 := ⟨Tryz.f223.name, by decide, Tryz.func223.trans (congrArg some (by kernel_rfl))⟩
 f15 := Tryz.func224.trans (congrArg some (by kernel_rfl))
 f20 := ⟨Tryz.f281.name, by decide, Tryz.func281.trans (congrArg some (by kernel_rfl))⟩
 f21 := ⟨Tryz.f282.name, by decide, Tryz.func282.trans (congrArg some (by kernel_rfl))⟩
 f22 := ⟨Tryz.f283.name, by decide, Tryz.func283.trans (congrArg some (by kernel_rfl))⟩
 f23 := ⟨Tryz.f284.name, by decide, Tryz.func284.trans (congrArg some (by kernel_rfl))⟩
 f24 := ⟨Tryz.f285.name, by decide, Tryz.func285.trans (congrArg some (by kernel_rfl))⟩
 f25 := ⟨Tryz.f286.name, by decide, Tryz.func286.trans (congrArg some (by kernel_rfl))⟩
 f26 := ⟨Tryz.f287.name, by decide, Tryz.func287.trans (congrArg some (by kernel_rfl))⟩
 f27 := ⟨Tryz.f288.name, by decide, Tryz.func288.trans (congrArg some (by kernel_rfl))⟩
 f28 := Tryz.func289.trans (congrArg some (by kernel_rfl))
 f29 := Tryz.func290.trans (congrArg some (by kernel_rfl))
 f46 := ⟨Tryz.f339.name, by decide, Tryz.func339.trans (congrArg some (by kernel_rfl))⟩
 f47 := Tryz.func340.trans (congrArg some (by kernel_rfl))
 f48 := Tryz.func341.trans (congrArg some (by kernel_rfl))
 f49 := ⟨Tryz.f342.name, by decide, Tryz.func342.trans (congrArg some (by kernel_rfl))⟩
 f50 := ⟨Tryz.f343.name, by decide, Tryz.func343.trans (congrArg some (by kernel_rfl))⟩
 f57 := ⟨Tryz.f374.name, by decide, Tryz.func374.trans (congrArg some (by kernel_rfl))⟩
 t0 := Tryz.underlying0
 a0 := Tryz.isAgg0
 z0 := Tryz.sizeOf0
 v0 := Tryz.zeroValue0
 t3 := Tryz.underlying3
 a3 := Tryz.isAgg3
 z3 := Tryz.sizeOf3
 v3 := Tryz.zeroValue3
 t4 := Tryz.underlying4
 a4 := Tryz.isAgg4
 z4 := Tryz.sizeOf4
 v4 := Tryz.zeroValue4
 t5 := Tryz.underlying5
 a5 := Tryz.isAgg5
 z5 := Tryz.sizeOf5
 v5 := Tryz.zeroValue5
 t9 := Tryz.underlying9
 a9 := Tryz.isAgg9
 z9 := Tryz.sizeOf9
 v9 := Tryz.zeroValue9
 t22 := Tryz.underlying25
 a22 := Tryz.isAgg25
 z22 := Tryz.sizeOf25
 v22 := Tryz.zeroValue25
 t25 := Tryz.underlying147
 a25 := Tryz.isAgg147
 z25 := Tryz.sizeOf147
 v25 := Tryz.zeroValue147
 t39 := Tryz.underlying243
 a39 := Tryz.isAgg243
 z39 := Tryz.sizeOf243
 v39 := Tryz.zeroValue243
 t45 := Tryz.underlying284
 a45 := Tryz.isAgg284
 z45 := Tryz.sizeOf284
 v45 := Tryz.zeroValue284
 t46 := Tryz.underlying285
 a46 := Tryz.isAgg285
 z46 := Tryz.sizeOf285
 v46 := Tryz.zeroValue285
 t50 := Tryz.underlying289
 a50 := Tryz.isAgg289
 z50 := Tryz.sizeOf289
 v50 := Tryz.zeroValue289
 t53 := Tryz.underlying292
 a53 := Tryz.isAgg292
 z53 := Tryz.sizeOf292
 v53 := Tryz.zeroValue292
 t55 := Tryz.underlying137
 a55 := Tryz.isAgg137
 z55 := Tryz.sizeOf137
 v55 := Tryz.zeroValue137
 t66 := Tryz.underlying327
 a66 := Tryz.isAgg327
 z66 := Tryz.sizeOf327
 v66 := Tryz.zeroValue327
 t70 := Tryz.underlying331
 a70 := Tryz.isAgg331
 z70 := Tryz.sizeOf331
 v70 := Tryz.zeroValue331
 t76 := Tryz.underlying352
 a76 := Tryz.isAgg352
 z76 := Tryz.sizeOf352
 v76 := Tryz.zeroValue352
 t77 := Tryz.underlying353
 a77 := Tryz.isAgg353
 z77 := Tryz.sizeOf353
 v77 := Tryz.zeroValue353 }
open Go.Shelf Go.RowKit Go.Lib Go.Sort in
theorem Tryz.slices_SortFunc_edge {α : Type} [Inhabited α] (enc : α → List Value) (hk : ∀ x, (enc x).length = 3) (h1 : ∀ x, ∀ v ∈ enc x, v.oneCell' = true) (cf : α → α → Int) (hO : SWO (ltOf cf)) (g : Nat) (cb : Array Value) (blk off cap : Nat) (d : Array α) (w : World) (eg : ∀ args w, (callFunc g args).run Tryz.prog w = .ok (.enter g args) w) (hcmp : CmpLays Tryz.prog g cb enc 3 cf blk off d.size w) (hH : HoldsK enc 3 w blk off d) (hblk : blk < w.heap.size) (hsz : d.size < 4611686018427387904) (hT : ∀ x y, (ltOf cf) x y = false → (ltOf cf) y x = false → x = y) :
  Calls Tryz.prog 132 #[.slice (some ⟨blk, off, none⟩) d.size cap, .func (.func g) #[] cb] w fun e w' =>
   e = .returned (.tuple #[]) ∧ ∃ n os, w' = sortWorldK enc 3 w blk off n (d.toList.mergeSort fun x y => !(ltOf cf) y x).toArray os := AnyQ.slices_SortFunc_total Tryz.laysSortG 3 Tryz.isAgg84 Tryz.sizeOf84 enc hk h1 cf hO g cb blk off cap d w eg hcmp hH hblk hsz hT
open Go.Shelf Go.RowKit Go.Lib Go.Sort in
theorem Tryz.slices_SortFunc_edge_none (p : Option Addr) (cap : Nat) (fv : Value) (w : World) :
  Calls Tryz.prog 132 #[.slice p 0 cap, fv] w fun e w' => e = .returned (.tuple #[]) ∧ w' = w := AnyF.slices_SortFunc_none Tryz.laysSortG p cap fv w
end Go.Proofs
namespace Go.Proofs.YtnhomkmfbngmgaaGreatDoor
open Go.ChangeShapes Go.WideShapes Go.ChangeAt Go.RowKit
def byv (n : Int) : List Value := [.int .u8 n]
abbrev SlU := Sl 1 byv
def SrcW (w : World) (b N : Nat) : Prop :=
 ∃ (A : Option Addr) (n c : Nat) (code : List Int) (at_ : Nat) (seed : Int), w.heap[b]? = some (.cells #[.slice A n c, .int .i64 (at_ : Int), .int .u64 seed] 139 (0, 0)) ∧ at_ ≤ N ∧ n ≤ maxLen ∧
  SlU w 0 b A n code ∧ ∀ x, x ∈ code → 0 ≤ x ∧ x ≤ 255
structure SrcTo (w w' : World) (b N : Nat) : Prop where
 src : SrcW w' b N
 only : Only b (b + 1) w w'
 size : w'.heap.size = w.heap.size
section
variable {w w' w2 : World} {b N M : Nat}
theorem SrcW.lt (h : SrcW w b N) : b < w.heap.size := by
 obtain ⟨A, n, c, code, a, s, hb, _⟩ := h;exact (Array.getElem?_eq_some_iff.1 hb).1
theorem SrcW.more (h : SrcW w b N) (hN : N ≤ M) : SrcW w b M := by
 obtain ⟨A, n, c, code, a, s, hb, ha, r⟩ := h;exact ⟨A, n, c, code, a, s, hb, Nat.le_trans ha hN, r⟩
theorem SrcW.keep (h : SrcW w b N) (hs : w.heap.size ≤ w'.heap.size) (hk : ∀ k, k ≤ b → w'.heap[k]? = w.heap[k]?) : SrcW w' b N := by
 obtain ⟨A, n, c, code, a, s, hb, ha, hn, hc, r⟩ := h;exact ⟨A, n, c, code, a, s, (hk b zR).trans hb, ha, hn, hc.keep hs fun k _ h2 _ => hk k (by omega), r⟩
theorem SrcW.below {B : Nat} (h : SrcW w b N) (hb : Below B w w') (hB : b < B) : SrcW w' b N := h.keep hb.size fun k hk => hb.block k (by omega)
theorem SrcTo.refl (h : SrcW w b N) : SrcTo w w b N := ⟨h, Only.refl _ _ _, rfl⟩
theorem Only.trans' {lo hi : Nat} {a w w' : World} (h : Only lo hi a w) (g : Only lo hi w w') : Only lo hi a w' :=
 ⟨g.os.trans h.os, g.tape.trans h.tape, g.output.trans h.output, Nat.le_trans h.size g.size, fun k hk ho => (g.block k (Nat.lt_of_lt_of_le hk h.size) ho).trans (h.block k hk ho)⟩
theorem SrcTo.trans (h : SrcTo w w' b N) (g : SrcTo w' w2 b M) : SrcTo w w2 b M := ⟨g.src, h.only.trans' g.only, g.size.trans h.size⟩
theorem SrcTo.more (h : SrcTo w w' b N) (hN : N ≤ M) : SrcTo w w' b M := ⟨h.src.more hN, h.only, h.size⟩
theorem SrcW.put {A : Option Addr} {n c : Nat} {code : List Int} {a : Nat} {s s' : Int} (hb : w.heap[b]? = some (.cells #[.slice A n c, .int .i64 (a : Int), .int .u64 s] 139 (0, 0))) (hn : n ≤ maxLen) (hc : SlU w 0 b A n code) (hr : ∀ x, x ∈ code → 0 ≤ x ∧ x ≤ 255) (k0 k : Nat) :
  SrcTo w ((((w.drewN k0).setCell ⟨b, 1, none⟩ (.int .i64 ((a : Int) + 1))).setCell ⟨b, 2, none⟩ (.int .u64 s')).drewN k) b (a + 1) := by
 have hlt : b < w.heap.size := (Array.getElem?_eq_some_iff.1 hb).1;replace hb : (w.drewN k0).heap[b]? = _ := hb;have hc2 : SlU (w.drewN k0) 0 b A n code := hc.drewN k0;have hO : Only b (b + 1) w (w.drewN k0) := ⟨rfl, rfl, rfl, zR, fun _ _ _ => rfl⟩;have hz : (w.drewN k0).heap.size = w.heap.size := rfl;generalize w.drewN k0 = W at *;refine ⟨⟨A, n, c, code, a + 1, s', ?_, zR, hn, ?_, hr⟩, ?_, ?_⟩
 ·have h1 := heap_setCell_same W b 1 _ _ (.int .i64 ((a : Int) + 1)) hb
  have h2 := heap_setCell_same _ b 2 _ _ (.int .u64 s') h1;exact h2
 ·refine Sl.drewN (w := (W.setCell ⟨b, 1, none⟩ (.int .i64 ((a : Int) + 1))).setCell ⟨b, 2, none⟩ (.int .u64 s')) ?_ k
  exact hc2.keep (by simp [World.size_setCell]) fun q _ h2 h3 => (Below.heap_setCell _ _ _ _ (by show q ≠ b; omega)).trans (Below.heap_setCell _ _ _ _ (by show q ≠ b; omega))
 ·have h1 := (hO.setCell (p := ⟨b, 1, none⟩) zR (Nat.lt_succ_self _) (.int .i64 ((a : Int) + 1))).setCell (p := ⟨b, 2, none⟩) zR (Nat.lt_succ_self _) (.int .u64 s')
  exact ⟨h1.os, h1.tape, h1.output, h1.size, h1.block⟩
 ·show ((W.setCell _ _).setCell _ _).heap.size = _
  rw [World.size_setCell, World.size_setCell]; exact hz
end
theorem byte_bits (x : Int) : 0 ≤ bits .and .u64 x 255 ∧ bits .and .u64 x 255 ≤ 255 := by
 have h : ((BitVec.ofInt 64 x &&& BitVec.ofInt 64 255).toNat) ≤ 255 := by
  rw [BitVec.toNat_and];exact Nat.le_trans Nat.and_le_right (by decide)
 have e : bits .and .u64 x 255 = IntKind.u64.wrap ((BitVec.ofInt 64 x &&& BitVec.ofInt 64 255).toNat : Nat) := rfl;rw [e, IntKind.wrap_u64];omega
theorem byte_wrap (x : Int) : 0 ≤ wrap64 (bits .and .u64 x 255) ∧ wrap64 (bits .and .u64 x 255) ≤ 255 := by
 have h := byte_bits x;have e : wrap64 (bits .and .u64 x 255) = bits .and .u64 x 255 := by unfold wrap64; omega
 rw [e]; exact h
theorem next_calls (b N : Nat) (w : World) (h : SrcW w b N) (hN : N ≤ 1000000000) :
  Calls Tryz.prog 166 #[.pointer (some ⟨b, 0, none⟩)] w fun e w' => ∃ x : Int, e = .returned (.int .i64 x) ∧ 0 ≤ x ∧ x ≤ 255 ∧ SrcTo w w' b (N + 1) := by
 obtain ⟨A, n, c, code, a, s, hb, ha, hn, hc, hr⟩ := h;have hput := hide fun s' k0 k => (SrcW.put (s' := s') hb hn hc hr k0 k).more (M := N + 1) (by omega)
 have c0 : w.cell? ⟨b, 0, none⟩ = some (.slice A n c) := (cell_of_row w b 0 _ _ (0, 0) hb).trans rfl;have c1 : w.cell? ⟨b, 1, none⟩ = some (.int .i64 (a : Int)) := (cell_of_row w b 1 _ _ (0, 0) hb).trans rfl;have c2 : w.cell? ⟨b, 2, none⟩ = some (.int .u64 s) := (cell_of_row w b 2 _ _ (0, 0) hb).trans rfl;have f1 := frozen_of_row w b 1 _ _ hb;have f2 := frozen_of_row w b 2 _ _ hb;have hnm : n ≤ 9223372036854775807 := Nat.le_trans hn (by unfold maxLen; omega);replace hb := hide hb
 by_cases hlt : a < n
 ·obtain ⟨bc, oc, rfl, -, -, -, hat⟩ := hc.at_ (by omega)
  have hl : a < code.length := by rw [hc.len]; exact hlt
  have hx := hat a _ (List.getElem?_eq_getElem hl) 0 _ rfl;simp only [Nat.mul_one, Nat.add_zero] at hx;obtain ⟨x0, x1⟩ := hr _ (List.getElem_mem hl);generalize code[a] = x at *;obtain ⟨hx, -⟩ := hx;replace hc := hide hc;clear hat hr;have i0 : (0 : Int) ≤ (a : Int) := by omega
  have i1 : (a : Int) < (n : Int) := by omega
  have i2 : (a : Int) + 1 ≤ (n : Int) := by omega
  have j1 : decide ((a : Int) < (n : Int)) = true := decide_eq_true i1;have j2 : decide ((a : Int) + 1 ≤ (n : Int)) = true := decide_eq_true i2;go_enter Tryz.func166, Tryz.ntmps166;go_wp2_with fail;go_quiet (fail);go_wp2_with fail;go_quiet (fail);go_wp2_with fail;go_quiet (fail);go_wp2_with fail;go_ret;exact ⟨x, rfl, x0, x1, hput.out _ _ _⟩
 ·replace hc := hide hc
  have i1 : ¬ (a : Int) < (n : Int) := by omega
  have i2 : ¬ (a : Int) + 1 ≤ (n : Int) := by omega
  have j1 : decide ((a : Int) < (n : Int)) = false := decide_eq_false i1;have j2 : decide ((a : Int) + 1 ≤ (n : Int)) = false := decide_eq_false i2;go_enter Tryz.func166, Tryz.ntmps166;go_wp2_with fail;go_quiet (fail);go_wp2_with fail;go_quiet (fail);go_wp2_with fail;go_ret;exact ⟨_, rfl, (byte_wrap _).1, (byte_wrap _).2, hput.out _ _ _⟩
def PickR (b N : Nat) (n : Int) (w : World) (e : Ending) (w' : World) : Prop := ∃ x : Int, e = .returned (.int .i64 x) ∧ 0 ≤ x ∧ (x < n ∨ x = 0) ∧ SrcTo w w' b (N + 2)
theorem pick_rem (x : Int) {n : Int} (hn : 1 < n) : 0 ≤ x % n ∧ x % n < n := ⟨Int.emod_nonneg _ (by omega), Int.emod_lt_of_pos _ (by omega)⟩
theorem pick_calls (b N : Nat) (n : Int) (w : World) (h : SrcW w b N) (hN : N ≤ 900000000) :
  Calls Tryz.prog 84 #[.pointer (some ⟨b, 0, none⟩), .int .i64 n] w (PickR b N n w) := by
 have q1 := hide (next_calls b N w h (by omega));have hself := hide ((SrcTo.refl h).more (show N ≤ N + 2 by omega));clear h
 by_cases h1 : n ≤ 1
 ·go_enter Tryz.func84, Tryz.ntmps84
  go_wp2_with fail;go_ret
  exact ⟨0, rfl, by omega, .inr rfl, hself.out⟩
 ·have hne : n ≠ 0 := by omega
  by_cases h2 : 200 < n
  ·go_enter Tryz.func84, Tryz.ntmps84
   go_wp2_with fail;refine q1.out.mono ?_
   rintro e w1 ⟨x, rfl, x0, x1, hs1⟩;have q2 := hide (next_calls b (N + 1) w1 hs1.src (by omega));replace hs1 := hide hs1;go_wp2_with fail;refine q2.out.mono ?_;rintro e w2 ⟨y, rfl, y0, y1, hs2⟩;have hs3 := hide (hs1.out.trans hs2);clear hs1 hs2 q1 q2;have hr := pick_rem (x * 256 + y) (show 1 < n by omega);go_wp2_with fail;go_ret;exact ⟨_, rfl, hr.1, .inl hr.2, hs3.out⟩
  ·go_enter Tryz.func84, Tryz.ntmps84
   go_wp2_with fail;refine q1.out.mono ?_
   rintro e w1 ⟨x, rfl, x0, x1, hs1⟩;have hs3 := hide (hs1.more (show N + 1 ≤ N + 2 by omega));clear hs1 q1;have hr := pick_rem x (show 1 < n by omega);go_wp2_with fail;go_ret;exact ⟨_, rfl, hr.1, .inl hr.2, hs3.out⟩
theorem one_calls (b N : Nat) (n : Int) (w : World) (h : SrcW w b N) (hN : N ≤ 900000000) :
  Calls Tryz.prog 92 #[.pointer (some ⟨b, 0, none⟩), .int .i64 n] w fun e w' => ∃ v : Bool, e = .returned (.bool v) ∧ SrcTo w w' b (N + 2) := by
 have q1 := hide (pick_calls b N n w h hN);clear h;go_enter Tryz.func92, Tryz.ntmps92;go_wp2_with fail;refine q1.out.mono ?_;rintro e w1 ⟨x, rfl, x0, x1, hs1⟩;replace hs1 := hide hs1;clear q1;go_wp2_with fail;go_ret;exact ⟨_, rfl, hs1.out⟩
theorem Only.alloc' {lo hi : Nat} {a w : World} (h : Only lo hi a w) (o : Obj) : Only lo hi a (w.alloc o) :=
 ⟨h.os, h.tape, h.output, by rw [World.size_alloc]; have := h.size; omega, fun q hq hd => (Below.heap_alloc _ _ _ (by have := h.size; omega)).trans (h.block q hq hd)⟩
theorem Only.setNew {lo hi : Nat} {a w : World} (h : Only lo hi a w) {p : Addr} (hp : a.heap.size ≤ p.block) (u : Value) : Only lo hi a (w.setCell p u) :=
 ⟨h.os, h.tape, h.output, by rw [World.size_setCell]; exact h.size, fun q hq hd => (Below.heap_setCell _ _ _ _ (by omega)).trans (h.block q hq hd)⟩
theorem Only.drew' {lo hi : Nat} {a w : World} (h : Only lo hi a w) : Only lo hi a w.drew := ⟨h.os, h.tape, h.output, h.size, h.block⟩
theorem Only.belowAt {lo hi B : Nat} {a w w' : World} (h : Only lo hi a w) (g : Below B w w') (hB : a.heap.size ≤ B) : Only lo hi a w' :=
 ⟨g.os.trans h.os, g.tape.trans h.tape, g.output.trans h.output, Nat.le_trans h.size g.size, fun q hq hd => (g.block q (by omega)).trans (h.block q hq hd)⟩
theorem Only.grow {lo hi : Nat} {a w w' : World} (h : Only lo hi a w) {row : Option Nat} (g : w.grownBy w' row) (hr : ∀ k, row = some k → a.heap.size ≤ k) : Only lo hi a w' :=
 ⟨g.os.trans h.os, g.tape.trans h.tape, g.output.trans h.output, Nat.le_trans h.size g.size, fun q hq hd => (g.block q (by have := h.size; omega) (fun e => by have := hr q e.symm; omega)).trans (h.block q hq hd)⟩
section
variable {w w' : World} {b N M : Nat}
theorem SrcW.alloc (h : SrcW w b N) (o : Obj) : SrcW (w.alloc o) b N := h.below ((Below.refl w.heap.size w).alloc zR o) h.lt
theorem SrcW.drew (h : SrcW w b N) : SrcW w.drew b N := h
theorem SrcW.setNew (h : SrcW w b N) {p : Addr} (hp : b < p.block) (u : Value) : SrcW (w.setCell p u) b N :=
 h.keep (by rw [World.size_setCell]; exact zR) fun q hq => Below.heap_setCell _ _ _ _ (by omega)
theorem SrcW.grow (h : SrcW w b N) {row : Option Nat} (g : w.grownBy w' row) (hr : ∀ k, row = some k → b < k) : SrcW w' b N :=
 h.keep g.size fun q hq => g.block q (by have := h.lt; omega) (fun e => by have := hr q e.symm; omega)
end
theorem among_calls (b N : Nat) (A : Option Addr) (n c : Nat) (l : List Int) (w : World) (lo hi : Nat) (h : SrcW w b N) (hN : N ≤ 900000000) (hs : SlI w lo hi A n l) (hd : hi ≤ b ∨ b + 1 ≤ lo) (hn : 0 < n) (hm : n ≤ 1048576) :
  Calls Tryz.prog 86 #[.pointer (some ⟨b, 0, none⟩), .slice A n c] w fun e w' => ∃ x : Int, e = .returned (.int .i64 x) ∧ x ∈ l ∧ SrcTo w w' b (N + 2) := by
 have q1 := hide (pick_calls b N (n : Int) w h hN);obtain ⟨ba, oa, rfl, g1, g2, g3, -⟩ := hs.at_ hn;replace hs := hide hs;clear h;go_enter Tryz.func86, Tryz.ntmps86;go_wp2_with fail;refine q1.out.mono ?_;rintro e w1 ⟨x, rfl, x0, x1, hs1⟩;obtain ⟨k, rfl⟩ : ∃ k : Nat, x = (k : Int) := ⟨x.toNat, by omega⟩;have hk : k < n := by omega
 have hl := hs.out.only hs1.only (by omega);obtain ⟨b', o', y, e1, -, -, -, hy, c0, -⟩ := SlI.get hl hk;cases e1;replace hs1 := hide hs1;have hmem := hide (List.mem_of_getElem? hy);have k0 : (0 : Int) ≤ (k : Int) := by omega
 have k1 : (k : Int) < (n : Int) := by omega
 clear q1 hl hy x0 x1;go_wp2_with fail;go_ret;exact ⟨y, rfl, hmem.out, hs1.out⟩
theorem l00From_calls (A : Option Addr) (n c : Nat) (code : List Int) (w : World) (h : SlU w 0 w.heap.size A n code) (hc : ∀ x, x ∈ code → 0 ≤ x ∧ x ≤ 255) (hn : n ≤ maxLen) :
  Calls Tryz.prog 48 #[.slice A n c] w fun e w' => e = .returned (.pointer (some ⟨w.heap.size, 0, none⟩)) ∧ SrcW w' w.heap.size 0 ∧ Below w.heap.size w w' ∧ w'.heap.size = w.heap.size + 1 := by
 have hS : Hid (SrcW (w.alloc (.cells #[.slice A n c, .int .i64 0, .int .u64 0] 139)) w.heap.size 0) :=
  ⟨A, n, c, code, 0, 0, heap_alloc_new w _, zR, hn, h.below ((Below.refl w.heap.size w).alloc zR _) (.inr zR), hc⟩
 clear h;go_enter Tryz.func48, Tryz.ntmps48;go_wp2_with fail;go_ret;exact ⟨rfl, hS.out, bR.alloc zR _, by rw [World.size_alloc]⟩
end Go.Proofs.YtnhomkmfbngmgaaGreatDoor
