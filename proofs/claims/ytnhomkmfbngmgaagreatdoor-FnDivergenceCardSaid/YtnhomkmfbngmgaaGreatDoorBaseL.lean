/-
  Lemmas that the law of this claim leans on. Conditions: sizes.
-/
import Derived.Test.YtnhomkmfbngmgaaGreatDoorBaseA
import Derived.Test.YtnhomkmfbngmgaaGreatDoorBaseD
import Derived.Test.YtnhomkmfbngmgaaGreatDoorBaseE
import Derived.Test.YtnhomkmfbngmgaaGreatDoorBaseF
import Derived.Test.YtnhomkmfbngmgaaGreatDoorBaseG
import Derived.Test.YtnhomkmfbngmgaaGreatDoorBaseJ
import Derived.Test.YtnhomkmfbngmgaaGreatDoorBaseK
set_option maxHeartbeats 12800000
set_option maxRecDepth 100000
set_option linter.unusedSimpArgs false
set_option linter.unusedVariables false
namespace Go.Proofs.YtnhomkmfbngmgaaGreatDoor
open Go.ChangeShapes Go.WideShapes Go.ChangeAt Go.RowKit Go.Sort Go.Lib
def sgS (N : Nat) (p : List Int) (x : Int) (s : List Int) (e : Ed) : List Int := if e.1 = x then putI s (e.2.1 * (N : Int) + pv p e.2.2) else s
def sgF (N : Nat) (p : List Int) (es : List Ed) (x : Int) : List Int := es.foldl (sgS N p x) []
theorem sg_asc {N : Nat} {p : List Int} {x : Int} : ∀ (l : List Ed) (s : List Int), s.Pairwise (· < ·) → (l.foldl (sgS N p x) s).Pairwise (· < ·)
 | [], s, h => h
 | e :: l, s, h => sg_asc l _ (by
  unfold sgS
  by_cases c : e.1 = x
  ·rw [if_pos c]; exact putI_asc h
  ·rw [if_neg c]; exact h)
theorem l13Sign_calls {w : World} {N ini : Nat} {A : Option Addr} {n : Nat} {B : Option Addr} {m : Nat} {ls : List ByteArray} {es : List Ed} (h : SysA w N ini A n B m ls es) (c d bx : Nat) (hbx : LtsBox w bx (N : Int) (ini : Int) A n c B m d) (P : Option Addr) (cP : Nat) (p : List Int) (hP : SlI w 0 w.heap.size P N p) (hp : ∀ x, x ∈ p → 0 ≤ x ∧ x ≤ 1000) (x : Int) :
  Calls Tryz.prog 244 #[.pointer (some ⟨bx, 0, none⟩), .slice P N cP, .int .i64 x] w fun e w' => ∃ A' n' c', e = .returned (.slice A' n' c') ∧ SlI w' w.heap.size w'.heap.size A' n' (sgF N p es x) ∧ n' ≤ 300 ∧ Below w.heap.size w w' := by
 obtain ⟨hm, hn12, hn1, hle, hll⟩ := h.many;obtain ⟨⟨hN1, hN2⟩, hini⟩ := h.bounds;have hAll : ∀ wx, Below w.heap.size w wx → SysA wx N ini A n B m ls es ∧ LtsBox wx bx (N : Int) (ini : Int) A n c B m d ∧ SlI wx 0 w.heap.size P N p := fun wx hx => ⟨h.below hx zR, hbx.below hx hbx.lt, hP.below hx (.inl zR)⟩
 have hth := hide h.three;replace hAll := hide hAll;have hbl := hbx.lt;clear h hP hbx;go_enter Tryz.func244, Tryz.ntmps244;obtain ⟨w1, hw1⟩ : ∃ w1, w1 = w.alloc (.cells #[] 2) := ⟨_, rfl⟩;have hb1 : Hid (Below w.heap.size w w1) := by show Below _ _ _; rw [hw1]; exact bR.alloc zR _
 have hst : Hid (SlI w1 w.heap.size w1.heap.size (some ⟨w.heap.size, 0, none⟩) 0 []) := ⟨rfl, fun h => absurd h (Nat.lt_irrefl 0)⟩;go_upto_region 2 with fail;rw [← show w1 = _ from hw1];replace hw1 := hide hw1;go_wp2_with fail
 go_loopw [7, 8] (fun v7 v8 wr => ∃ (k n5 c5 : Nat) (A5 : Option Addr), k ≤ m ∧ v8 = .int .i64 (k : Nat) ∧ v7 = .slice A5 n5 c5 ∧ Hid (SlI wr w.heap.size wr.heap.size A5 n5 ((es.take k).foldl (sgS N p x) [])) ∧ n5 ≤ k ∧ Hid (Below w.heap.size w wr)) (fun _ v _ => m - (intOf v).toNat)
 case atStart => exact ⟨0, 0, 0, _, Nat.zero_le _, rfl, rfl, hst.out, zR, hb1.out⟩
 case round =>
  clear hst hb1;obtain ⟨k, n5, c5, A5, hk, rfl, rfl, hO, hn5, hb⟩ := hrel;obtain ⟨-, hBr, -⟩ := hAll.out wr hb.out;have z3 := hBr.c3
  by_cases hlt : k < m
  ·obtain ⟨hSy, -, hPr⟩ := hAll.out wr hb.out
   obtain ⟨gB, oB, f, l, t, rfl, -, -, hgB, hx, x0, x1, x2, -⟩ := SlE.get hSy.se hlt;have h3 := hth.out _ (List.mem_of_getElem? hx)
   (try dsimp only at h3)
   obtain ⟨⟨f0, f1⟩, ⟨l0, l1⟩, t0, t1⟩ := h3;obtain ⟨gP, oP, pt, rfl, -, -, hgP, hpt, cp, -⟩ := SlI.get hPr (show t.toNat < N by omega);have hpb := hp _ (List.mem_of_getElem? hpt);have hpv : pv p t = pt := by unfold pv; rw [hpt]; rfl
   have hstep : (es.take (k + 1)).foldl (sgS N p x) [] = sgS N p x ((es.take k).foldl (sgS N p x) []) (f, l, t) := by
    rw [List.take_add_one, hx, List.foldl_append]; rfl
   have k0 : (0 : Int) ≤ (k : Int) := by omega
   have k1 : (k : Int) < (m : Int) := by omega
   by_cases hfx : f = x
   ·subst hfx
    have hs2 : Hid ((es.take (k + 1)).foldl (sgS N p f) [] = putI ((es.take k).foldl (sgS N p f) []) (l * (N : Int) + pt)) := by
     show _ = _
     rw [hstep, ← hpv];unfold sgS;rw [if_pos rfl]
    have g1 : (f == f) = true := by simp
    have hlN0 : 0 ≤ l * (N : Int) := Int.mul_nonneg l0 (by omega);have hlN1 : l * (N : Int) ≤ 12 * 40 := Int.mul_le_mul (by omega) (by omega) (by omega) (by omega);have hm1 : IntKind.i64.wrap (l * (N : Int)) = l * (N : Int) := IntWalk.i64_in _ (by omega);have hm2 : IntKind.i64.wrap (l * (N : Int) + pt) = l * (N : Int) + pt := IntWalk.i64_in _ (by omega);obtain ⟨wD, hwD⟩ : ∃ wD, wD = wr.drew := ⟨_, rfl⟩;have hbD := hide (hb.out.trans ((show Below wr.heap.size wr wD by rw [hwD]; exact bR.drew).mono hb.out.size));have hOD := hO.out.below (show Below wr.heap.size wr wD by rw [hwD]; exact bR.drew) (.inr zR);have hq := hide (l00Put_calls A5 n5 c5 _ (l * (N : Int) + pt) wD _ _ hOD (sg_asc _ _ List.Pairwise.nil) (by omega));have hSS : Hid (∀ wx, Below wD.heap.size wD wx → wx.cell? ⟨bx, 3, none⟩ = some (.slice (some ⟨gB, oB, none⟩) m d) ∧ wx.cell? ⟨gB, oB + k * 3 + 1, none⟩ = some (.int .i64 l) ∧ wx.cell? ⟨gB, oB + k * 3 + 2, none⟩ = some (.int .i64 t) ∧ wx.cell? ⟨gP, oP + t.toNat, none⟩ = some (.int .i64 pt)) := fun wx hx2 => by
     obtain ⟨q1, q2, q3⟩ := hAll.out wx (hbD.out.trans (hx2.mono hbD.out.size));obtain ⟨g5, o5, f5, l5, t5, e5, -, -, -, hx5, -, z1, z2, -⟩ := SlE.get q1.se hlt;cases e5;obtain ⟨g6, o6, v6, e6, -, -, -, hx6, z4, -⟩ := SlI.get q3 (show t.toNat < N by omega);cases e6;rw [hx] at hx5
     cases hx5
     rw [hpt] at hx6
     cases hx6
     exact ⟨q2.c3, z1, z2, z4⟩
    replace hwD := hide hwD;replace hx := hide hx;replace hpt := hide hpt;clear hstep hO hOD hSy hPr hBr;go_upto_region 6 with fail;refine lateT_begin (S := fun w' => w'.cell? ⟨bx, 3, none⟩ = some (.slice (some ⟨gB, oB, none⟩) m d) ∧ w'.cell? ⟨gB, oB + k * 3 + 1, none⟩ = some (.int .i64 l) ∧ w'.cell? ⟨gB, oB + k * 3 + 2, none⟩ = some (.int .i64 t) ∧ w'.cell? ⟨gP, oP + t.toNat, none⟩ = some (.int .i64 pt)) (st := 25) (by kernel_rfl) ?_;rw [← show wD = _ from hwD.out];have hS0 : (fun w' : World => w'.cell? ⟨bx, 3, none⟩ = some (.slice (some ⟨gB, oB, none⟩) m d) ∧ w'.cell? ⟨gB, oB + k * 3 + 1, none⟩ = some (.int .i64 l) ∧ w'.cell? ⟨gB, oB + k * 3 + 2, none⟩ = some (.int .i64 t) ∧ w'.cell? ⟨gP, oP + t.toNat, none⟩ = some (.int .i64 pt)) wD := hSS.out wD bR;refine tkB 0 [25] hS0 ?_;refine tkB 1 [25] hS0 ?_;refine tkB 2 [25] hS0 ?_;refine tkB 3 [25] hS0 ?_;refine tkB 4 [25] hS0 ?_;refine tkB 5 [25] hS0 ?_;refine tkB 6 [25] hS0 ?_;refine tkB 7 [25] hS0 ?_;refine tkB 8 [25] hS0 ?_;refine tkB 9 [25] hS0 ?_;refine tkB 12 [25] hS0 ?_;refine tkB 13 [25] hS0 ?_;refine tkB 14 [25] hS0 ?_;refine tkB 15 [25] hS0 ?_;refine tkB 16 [25] hS0 ?_;refine tkB 17 [25] hS0 ?_;refine tkB 18 [25] hS0 ?_;refine tkB 19 [25] hS0 ?_;refine tkB 20 [25] hS0 ?_;refine tkB 21 [25] hS0 ?_;refine tkB 22 [25] hS0 ?_;refine lS 10 fun K hK => ?_
    go_simp;refine kP hK (fun _ => hSS.out wD bR) ?_
    clear hK K;refine lS 11 fun K hK => ?_
    go_simp;refine kP hK (fun _ => hSS.out wD bR) ?_
    clear hK K;refine lS 23 fun K hK => ?_
    go_simp;refine kP hK (fun _ => hSS.out wD bR) ?_
    clear hK K;refine lS 24 fun K hK => ?_
    go_simp;go_at_call 256
    (with_reducible refine hq.out.mono ?_)
    rintro e w6 ⟨A7, n7, c7, rfl, hO7, hn7, hb7⟩;have hS7 := hide (hSS.out w6 hb7);have hb7h := hide hb7;have hO7h := hide hO7;clear hO7 hb7
    (try go_wp2_with fail)
    refine kP hK (fun _ => hS7.out) ?_;clear hK K;refine lS 25 fun K hK => ?_
    go_simp;refine kP hK nH ?_
    clear hK K;refine lateT_done (by kernel_rfl) ?_ _;have hsF := hO7h.out.sl flat_iv;rw [← hs2.out] at hsF;have hzD := hbD.out.size;replace hsF := hide (hsF.more hzD zR);have hbF := hide (hbD.out.trans (hb7h.out.mono hzD));clear hO7h;go_wp2_with fail;go_roundw
    case rel => exact ⟨k + 1, n7, c7, A7, by omega, by go_num, rfl, hsF.out, by omega, hbF.out⟩
    case measure => simp [intOf]; omega
   ·have hs2 : (es.take (k + 1)).foldl (sgS N p x) [] = (es.take k).foldl (sgS N p x) [] := by
     rw [hstep];unfold sgS;rw [if_neg hfx]
    have hO9 := hO.out;rw [← hs2] at hO9;replace hO9 := hide hO9;have g1 : (f == x) = false := by rw [beq_eq_false_iff_ne]; exact hfx
    replace hx := hide hx;replace hpt := hide hpt;clear hstep hs2 hO hSy hPr hfx hBr;go_wp2_with fail;go_roundw
    case rel => exact ⟨k + 1, n5, c5, A5, by omega, by go_num, rfl, hO9.out, by omega, hb.out⟩
    case measure => simp [intOf]; omega
  ·obtain rfl : k = m := by omega
   have hF := hO.out;rw [List.take_of_length_le (by omega)] at hF;replace hF := hide hF;clear hBr;go_wp2_with fail;go_ret;exact ⟨A5, n5, c5, rfl, hF.out, by omega, hb.out⟩
end Go.Proofs.YtnhomkmfbngmgaaGreatDoor
namespace Go.Proofs.YtnhomkmfbngmgaaGreatDoor
open Go.Sort
theorem sg_mem {N : Nat} {p : List Int} {x : Int} : ∀ (l : List Ed) (s : List Int) (c : Int), c ∈ l.foldl (sgS N p x) s ↔ c ∈ s ∨ ∃ e, e ∈ l ∧ e.1 = x ∧ c = e.2.1 * (N : Int) + pv p e.2.2
 | [], s, c => by simp
 | e :: l, s, c => by
  rw [List.foldl_cons, sg_mem l];unfold sgS
  by_cases h : e.1 = x
  ·rw [if_pos h, putI_mem, or_assoc]
   refine or_congr_right ?_
   constructor
   ·rintro (g | ⟨f, hf, g⟩)
    ·exact ⟨e, List.mem_cons_self .., h, g⟩
    ·exact ⟨f, List.mem_cons_of_mem _ hf, g⟩
   ·rintro ⟨f, hf, g1, g2⟩
    rcases List.mem_cons.1 hf with rfl | hf
    ·exact .inl g2
    ·exact .inr ⟨f, hf, g1, g2⟩
  ·rw [if_neg h]
   refine or_congr_right ⟨fun ⟨f, hf, g⟩ => ⟨f, List.mem_cons_of_mem _ hf, g⟩, fun ⟨f, hf, g1, g2⟩ => ?_⟩
   rcases List.mem_cons.1 hf with rfl | hf
   ·exact absurd g1 h
   ·exact ⟨f, hf, g1, g2⟩
theorem sgF_eq (N : Nat) (p : List Int) (es : List Ed) (k : Nat) : sgF N p es (k : Int) = Lib.compact (sortI (cdL es N p k)) := by
 refine asc_ext (sg_asc _ _ List.Pairwise.nil) (set_asc _) fun c => ?_
 unfold sgF;rw [sg_mem, set_mem];unfold cdL;rw [List.mem_map]
 constructor
 ·rintro (h | ⟨e, he, h1, h2⟩)
  ·cases h
  ·exact ⟨e, List.mem_filter.2 ⟨he, decide_eq_true h1⟩, h2.symm⟩
 ·rintro ⟨e, he, h⟩
  obtain ⟨h1, h2⟩ := List.mem_filter.1 he;exact .inr ⟨e, h1, of_decide_eq_true h2, h.symm⟩
theorem ref_key {N : Nat} {p : List Int} {es : List Ed} (hp : p.length = N) {i j : Nat} (hi : i < N) (hj : j < N) : sameB (refF es N p) i j ↔ p[i]? = p[j]? ∧ sgF N p es (i : Int) = sgF N p es (j : Int) := by
 have hk : (keysR es N p).length = N := by simp [keysR]
 unfold refF;rw [nk_same (by omega) (by omega)];unfold keysR;rw [List.getElem?_map, List.getElem?_map, List.getElem?_range hi, List.getElem?_range hj];simp only [Option.map_some, Option.some.injEq];unfold keyR;rw [List.cons.injEq, sgF_eq, sgF_eq];refine and_congr_left fun _ => ?_
 rw [List.getElem?_eq_getElem (show i < p.length by omega), List.getElem?_eq_getElem (show j < p.length by omega)]
 simp
theorem new_or {r : List Int} (hr : normF r = r) {k : Nat} {x : Int} (hx : r[k]? = some x) : (0 ≤ x ∧ cntB r (k + 1) = cntB r k ∧ ∃ j, j < k ∧ r[j]? = some x) ∨ (x = cntB r k ∧ cntB r (k + 1) = cntB r k + 1 ∧ ∀ j, j < k → ¬ r[j]? = some x) := by
 rcases cntB_step hr hx with ⟨h0, h1, h2⟩ | ⟨h1, h2⟩
 ·left
  refine ⟨h0, h2, ?_⟩;have hm : x ∈ firsts [] (r.take k) := by
   rw [firsts_take hr k];exact List.mem_map.2 ⟨x.toNat, List.mem_range.2 (by omega), by show ((x.toNat : Nat) : Int) = x; omega⟩
  have hm2 := (firsts_mem.1 hm).resolve_left (by simp);obtain ⟨j, hj, e⟩ := List.getElem_of_mem hm2;rw [List.length_take] at hj;rw [List.getElem_take] at e;exact ⟨j, by omega, by rw [List.getElem?_eq_getElem (by omega), e]⟩
 ·right
  refine ⟨h1, h2, fun j hj hjx => ?_⟩;have hm : x ∈ firsts [] (r.take k) := firsts_mem.2 (.inr (List.mem_of_getElem? (by rw [List.getElem?_take_of_lt hj]; exact hjx)));rw [firsts_take hr k] at hm;obtain ⟨v, hv, e⟩ := List.mem_map.1 hm;have := List.mem_range.1 hv;have : (v : Int) = x := e;omega
end Go.Proofs.YtnhomkmfbngmgaaGreatDoor
namespace Go.Proofs.YtnhomkmfbngmgaaGreatDoor
open Go.ChangeShapes Go.WideShapes Go.ChangeAt Go.RowKit
structure GrowH (w : World) (base : Nat) (A : Option Addr) (n c : Nat) (R : List (Hd × List Int)) : Prop where
 own : Own 1 (sv) w base 32 A n c (R.map (·.1))
 rows : ∀ r ∈ R, SlI w base w.heap.size r.1.1 r.1.2.1 r.2
 off : ∀ r ∈ R, 0 < r.1.2.1 → ∀ b off, r.1.1 = some ⟨b, off, none⟩ → (Value.slice A n c).ownBlock ≠ some b
section
variable {w w4 w5 w' : World} {base n c : Nat} {A : Option Addr} {R : List (Hd × List Int)}
theorem GrowH.len (h : GrowH w base A n c R) : R.length = n := by have := h.own.len; rwa [List.length_map] at this
theorem GrowH.keep (h : GrowH w base A n c R) (hs : w.heap.size ≤ w'.heap.size) (hk : ∀ b, base ≤ b → b < w.heap.size → w'.heap[b]? = w.heap[b]?) : GrowH w' base A n c R :=
 ⟨h.own.keep fun g hg => hk g (h.own.lt g hg).1 (h.own.lt g hg).2, fun r hr => ((h.rows r hr).keep hs fun b h1 _ h3 => hk b h1 h3).more zR hs, h.off⟩
theorem GrowH.below (h : GrowH w base A n c R) (hb : Below w.heap.size w w') : GrowH w' base A n c R := h.keep hb.size fun b _ h2 => hb.block b h2
theorem GrowH.push (h : GrowH w4 base A n c R) {Ah : Option Addr} {nh ch : Nat} {s : List Int} (hs : SlI w4 base w4.heap.size Ah nh s) (ho : ∀ b off, 0 < nh → Ah = some ⟨b, off, none⟩ → (Value.slice A n c).ownBlock ≠ some b)
  {A5 : Option Addr} {c5 : Nat} (hown : Own 1 (sv) w5 base 32 A5 (n + 1) c5 (R.map (·.1) ++ [(Ah, nh, ch)])) (hgr : w4.grownBy w5 (Value.slice A n c).ownBlock)
  (hat : (Value.slice A5 (n + 1) c5).ownBlock = (Value.slice A n c).ownBlock ∨ (Value.slice A5 (n + 1) c5).ownBlock = some w4.heap.size) :
  GrowH w5 base A5 (n + 1) c5 (R ++ [((Ah, nh, ch), s)]) := by
 have hz5 := hgr.size;have keepS : ∀ (B : Option Addr) (nb : Nat) (l : List Int), SlI w4 base w4.heap.size B nb l → (∀ b off, 0 < nb → B = some ⟨b, off, none⟩ → (Value.slice A n c).ownBlock ≠ some b) → SlI w5 base w5.heap.size B nb l := by
  intro B nb l hl hne;refine ⟨hl.1, fun hm => ?_⟩;obtain ⟨b, off, rfl, g1, g2, g3, hc⟩ := hl.2 hm;have hk := hgr.block b g3 (fun e => hne b off hm rfl e.symm);refine ⟨b, off, rfl, g1, by omega, by omega, fun k x hx j u hu => ?_⟩;obtain ⟨h1, h2⟩ := hc k x hx j u hu;exact ⟨(World.cell?_of_block (w := w4) (by simpa using hk)).trans h1, (World.frozen?_of_block (w := w4) (by simpa using hk)).trans h2⟩
 have hoff : ∀ (B : Option Addr) (nb : Nat) (l : List Int), SlI w4 base w4.heap.size B nb l → (∀ b off, 0 < nb → B = some ⟨b, off, none⟩ → (Value.slice A n c).ownBlock ≠ some b) → ∀ b off, 0 < nb → B = some ⟨b, off, none⟩ → (Value.slice A5 (n + 1) c5).ownBlock ≠ some b := by
  intro B nb l hl hne b off hN e
  rcases hat with h1 | h1
  ·rw [h1]; exact hne b off hN e
  ·rw [h1]
   obtain ⟨b', off', e', -, -, g3, -⟩ := hl.at_ hN;rw [e] at e'
   cases e'
   intro e2;injection e2 with e2;omega
 refine ⟨by rw [List.map_append]; exact hown, fun r hr => ?_, fun r hr hm b off e => ?_⟩
 ·rcases List.mem_append.1 hr with hr | hr
  ·exact keepS _ _ _ (h.rows r hr) fun b off hm e => h.off r hr hm b off e
  ·obtain rfl := List.mem_singleton.1 hr
   exact keepS _ _ _ hs ho
 ·rcases List.mem_append.1 hr with hr | hr
  ·exact hoff _ _ _ (h.rows r hr) (fun b off hm e => h.off r hr hm b off e) b off hm e
  ·obtain rfl := List.mem_singleton.1 hr
   exact hoff _ _ _ hs ho b off hm e
theorem GrowH.get (h : GrowH w base A n c R) {k : Nat} (hk : k < n) : ∃ b off Ah nh ch s, A = some ⟨b, off, none⟩ ∧ base ≤ b ∧ b < w.heap.size ∧ R[k]? = some ((Ah, nh, ch), s) ∧ w.cell? ⟨b, off + k, none⟩ = some (.slice Ah nh ch) ∧ SlI w base w.heap.size Ah nh s ∧
  ∀ b off, 0 < nh → Ah = some ⟨b, off, none⟩ → (Value.slice A n c).ownBlock ≠ some b := by
 have hl := h.len;obtain ⟨b, off, e, g1, g2, g3, hc⟩ := (h.own.sl flat_sv).at_ (by omega);have hr : R[k]? = some R[k] := List.getElem?_eq_getElem (by omega);have hm : R[k] ∈ R := List.getElem_mem _;have h0 := (hc k R[k].1 (by rw [List.getElem?_map, hr]; rfl) 0 _ rfl).1;rw [Nat.mul_one, Nat.add_zero] at h0;exact ⟨b, off, R[k].1.1, R[k].1.2.1, R[k].1.2.2, R[k].2, e, g1, g3, hr, h0, h.rows _ hm, fun b off hN e => h.off _ hm hN b off e⟩
end
theorem l00Same_calls (A B : Option Addr) (n m c d : Nat) (l r : List Int) (w : World) (lo hi lo' hi' : Nat) (h : SlI w lo hi A n l) (g : SlI w lo' hi' B m r) (hn : n ≤ 1048576) (hm : m ≤ 1048576) :
  Calls Tryz.prog 165 #[.slice A n c, .slice B m d] w fun e w' => e = .returned (.bool (decide (l = r))) ∧ Below w.heap.size w w' := by
 have hl := hide h.len;have hr := hide g.len
 by_cases hnm : n = m
 ·subst hnm
  replace h := hide h;replace g := hide g;go_enter Tryz.func165, Tryz.ntmps165;go_wp2_with fail
  go_loopw [5] (fun i wr => ∃ k : Nat, k ≤ n ∧ i = .int .i64 k ∧ Below w.heap.size w wr ∧ l.take k = r.take k) (fun i _ => n - (intOf i).toNat)
  case atStart => exact ⟨0, Nat.zero_le _, rfl, bR, rfl⟩
  case round =>
   obtain ⟨k, hk, rfl, hb, he⟩ := hrel;replace he := hide he
   by_cases hlt : k < n
   ·obtain ⟨b, off, x, rfl, g1, g2, g3, hx, c0, -⟩ := h.out.get hlt
    obtain ⟨b', off', y, rfl, g1', g2', g3', hy, d0, -⟩ := g.out.get hlt;replace c0 := (hb.cell (p := ⟨b, off + k, none⟩) g3).trans c0;replace d0 := (hb.cell (p := ⟨b', off' + k, none⟩) g3').trans d0;replace hx := hide hx;replace hy := hide hy;clear h g;have hk0 : (0 : Int) ≤ (k : Int) := by omega
    have hk1 : (k : Int) < (n : Int) := by omega
    by_cases hxy : x = y
    ·subst hxy
     have hq : (x != x) = false := by simp
     go_wp2_with fail;go_quiet (fail)
     go_wp2_with fail;go_roundw
     case rel => exact ⟨k + 1, by omega, by go_num, by first | exact hb | exact ⟨hb.os, hb.tape, hb.output, hb.size, hb.block⟩, take_step he.out hx.out hy.out rfl⟩
     case measure => simp [intOf]; omega
    ·have hne := hide (take_stop hx.out hy.out hxy)
     have hq : (x != y) = true := by rw [bne_iff_ne]; exact hxy
     go_wp2_with fail;go_quiet (fail)
     go_wp2_with fail;go_ret
     exact ⟨by simp [hne.out], by first | exact hb | exact ⟨hb.os, hb.tape, hb.output, hb.size, hb.block⟩⟩
   ·have hkn : k = n := by omega
    subst hkn;clear h g;go_wp2_with fail;go_ret;exact ⟨by rw [take_all he.out hl.out hr.out]; simp, hb⟩
 ·have hne : Hid (l ≠ r) := fun e => hnm (by rw [← hl.out, ← hr.out, e])
  have hb0 : ((n : Int) != (m : Int)) = true := by rw [bne_iff_ne]; omega
  clear h g;go_enter Tryz.func165, Tryz.ntmps165;go_wp2_with fail;go_ret;exact ⟨by simp [hne.out], bR⟩
open Go.Lib Go.Sort
theorem GrowH.made (w : World) : GrowH (w.alloc (.cells #[] 32)) w.heap.size (some ⟨w.heap.size, 0, none⟩) 0 0 [] := ⟨Own.made w _ zR, fun _ h => (List.not_mem_nil h).elim, fun _ h => (List.not_mem_nil h).elim⟩
def RowsTo (f : Nat → List Int) (k : Nat) (R : List (Hd × List Int)) : Prop := R.map (·.2) = (List.range k).map f ∧ ∀ r, r ∈ R → r.1.2.1 ≤ 1000
theorem RowsTo.get {f : Nat → List Int} {k : Nat} {R : List (Hd × List Int)} (h : RowsTo f k R) {i : Nat} (hi : i < k) {x : Hd} {s : List Int} (hr : R[i]? = some (x, s)) : s = f i := by
 have h1 : (R.map (·.2))[i]? = some s := by rw [List.getElem?_map, hr]; rfl
 rw [h.1, List.getElem?_map, List.getElem?_range hi] at h1;exact (Option.some.inj h1).symm
theorem RowsTo.push {f : Nat → List Int} {k : Nat} {R : List (Hd × List Int)} (h : RowsTo f k R) {x : Hd} {s : List Int} (hs : s = f k) (hx : x.2.1 ≤ 1000) : RowsTo f (k + 1) (R ++ [(x, s)]) := by
 refine ⟨by rw [List.map_append, h.1, List.range_succ, List.map_append, hs]; rfl, fun r hr => ?_⟩
 rcases List.mem_append.1 hr with hr | hr
 ·exact h.2 r hr
 ·obtain rfl := List.mem_singleton.1 hr
  exact hx
def FndR (r : List Int) (x : Int) (k j : Nat) (v : Value) : Prop := (v = .int .i64 (-1) ∧ ∀ i, i < j → ¬ r[i]? = some x) ∨ (v = .int .i64 x ∧ 0 ≤ x ∧ ∃ i, i < k ∧ r[i]? = some x)
theorem cntB_le (r : List Int) (k : Nat) : cntB r k ≤ k := by
 have h := firsts_len_le [] (r.take k);rw [List.length_take] at h;simp only [List.length_nil] at h;unfold cntB;omega
theorem l13Refine_calls {w : World} {N ini : Nat} {A : Option Addr} {n : Nat} {B : Option Addr} {m : Nat} {ls : List ByteArray} {es : List Ed} (h : SysA w N ini A n B m ls es) (c d bx : Nat) (hbx : LtsBox w bx (N : Int) (ini : Int) A n c B m d) (P : Option Addr) (cP : Nat) (p : List Int) (hP : SlI w 0 w.heap.size P N p) (hp : ∀ x, x ∈ p → 0 ≤ x ∧ x ≤ 1000) :
  Calls Tryz.prog 167 #[.pointer (some ⟨bx, 0, none⟩), .slice P N cP] w fun e w' => ∃ Q cQ, e = .returned (.slice Q N cQ) ∧ SlI w' w.heap.size w'.heap.size Q N (refF es N p) ∧ Below w.heap.size w w' := by
 have hER := hide elem_rowI;have hE := hide elem_int64;have hpl := hP.len;obtain ⟨⟨hN1, hN2⟩, hini⟩ := h.bounds;have hAll : ∀ wx, Below w.heap.size w wx → SysA wx N ini A n B m ls es ∧ LtsBox wx bx (N : Int) (ini : Int) A n c B m d ∧ SlI wx 0 w.heap.size P N p := fun wx hx => ⟨h.below hx zR, hbx.below hx hbx.lt, hP.below hx (.inl zR)⟩
 replace hAll := hide hAll;have hbl := hbx.lt;clear h hP hbx;obtain ⟨w1, hw1⟩ : ∃ w1, w1 = w.alloc (.cells #[] 32) := ⟨_, rfl⟩;have hb1 : Hid (Below w.heap.size w w1) := by show Below _ _ _; rw [hw1]; exact bR.alloc zR _
 have hg0 : Hid (GrowH w1 w.heap.size (some ⟨w.heap.size, 0, none⟩) 0 0 []) := by show GrowH _ _ _ _ _ _; rw [hw1]; exact GrowH.made w
 go_enter Tryz.func167, Tryz.ntmps167;go_upto_region 2 with fail;rw [← show w1 = _ from hw1];replace hw1 := hide hw1;go_wp2_with fail
 go_loopw [5, 6] (fun v5 v6 wr => ∃ (k c5 : Nat) (A5 : Option Addr) (R : List (Hd × List Int)), k ≤ N ∧ v6 = .int .i64 (k : Nat) ∧ v5 = .slice A5 k c5 ∧ Hid (GrowH wr w.heap.size A5 k c5 R) ∧ Hid (RowsTo (fun k => sgF N p es (k : Int)) k R) ∧ Hid (Below w.heap.size w wr)) (fun _ v _ => N - (intOf v).toNat)
 case atStart => exact ⟨0, 0, _, _, Nat.zero_le _, rfl, rfl, hg0.out, ⟨rfl, fun r hr => (List.not_mem_nil hr).elim⟩, hb1.out⟩
 case round =>
  clear hg0 hb1;obtain ⟨k, c5, A5, R, hk, rfl, rfl, hG, hRs, hb⟩ := hrel;have b0 := (hAll.out wr hb.out).2.1.c0
  by_cases hlt : k < N
  ·obtain ⟨hSy, hBr, hPr⟩ := hAll.out wr hb.out
   have k0 : (0 : Int) ≤ (k : Int) := by omega
   have k1 : (k : Int) < (N : Int) := by omega
   have hzr := hb.out.size;have q := hide (l13Sign_calls hSy c d bx hBr P cP p hPr.here' hp (k : Int));clear hSy hBr hPr;go_upto_region 5 with fail;go_wp2_with fail;refine q.out.mono ?_;rintro e w4 ⟨A4, n4, c4, rfl, hO4, hn4, hb4⟩;have hz4 := hb4.size;have hbA : Below w4.heap.size w4 (w4.alloc (.cells #[.slice A4 n4 c4] 32)) := bR.alloc zR _;have hGA := hide ((hG.out.below hb4).below hbA);have hza : w.heap.size ≤ (w4.alloc (.cells #[.slice A4 n4 c4] 32)).heap.size := by rw [World.size_alloc]; omega
   have hOa := hide hGA.out.own;have hown : Hid (∀ b off, 0 < n4 → A4 = some ⟨b, off, none⟩ → (Value.slice A5 k c5).ownBlock ≠ some b) := fun b off hn e e2 => by
    obtain ⟨b', o', e', g1, -⟩ := hO4.at_ hn;rw [e] at e'
    cases e'
    have := (hG.out.own.lt _ e2).2;omega
   have hsA := hide ((hO4.below hbA (.inr zR)).more hzr hbA.size);have hbF := hide (((hb.out.trans (hb4.mono hzr)).trans (hbA.mono (by omega))));replace hb4 := hide hb4;clear q hO4 hbA b0;go_wp2_with (first | (at_builtin; (with_reducible refine wpList_app rfl (.tmp 21) (.tmp 26) rfl hER.out flat_sv rfl hOa.out rfl (Sl.lit1' w4 32 ((A4, n4, c4) : Hd) _ rfl 1 _ ?c0) ?c1 hza ?_); rotate_right; intro A6 c6 w6 hown6 hgr6 hb6 hat6))
   case c0 => rfl
   case c1 => omega
   have hG6 := hide (hGA.out.push hsA.out hown.out hown6 hgr6 hat6);have hR6 := hide (hRs.out.push (x := (A4, n4, c4)) rfl (by show n4 ≤ 1000; omega));have hb6' := hide (hbF.out.trans hb6);go_wp2_with fail;go_roundw
   case rel => exact ⟨k + 1, c6, A6, _, by omega, by go_num, rfl, hG6.out, hR6.out, hb6'.out⟩
   case measure => simp [intOf]; omega
  ·have k1 : ¬ (k : Int) < (N : Int) := by omega
   obtain rfl : k = N := by omega
   obtain ⟨N, rfl⟩ : ∃ N, N = k := ⟨_, rfl⟩;obtain ⟨wK, rfl⟩ : ∃ wK : World, wK = wr := ⟨_, rfl⟩;have hPK := hide (hAll.out wK hb.out).2.2;have hGK := hG;have hRK := hRs;have hbK := hb;have hzK := hbK.out.size;obtain ⟨RK, rfl⟩ : ∃ RK, RK = R := ⟨_, rfl⟩;obtain ⟨AK, rfl⟩ : ∃ AK, AK = A5 := ⟨_, rfl⟩;obtain ⟨cK, rfl⟩ : ∃ cK, cK = c5 := ⟨_, rfl⟩;obtain ⟨w8, hw8⟩ : ∃ w8, w8 = wK.alloc (.cells #[] 2) := ⟨_, rfl⟩;have hO8 : Hid (Own 1 iv w8 wK.heap.size 2 (some ⟨wK.heap.size, 0, none⟩) 0 0 []) := by show Own _ _ _ _ _ _ _ _ _; rw [hw8]; exact Own.made wK _ zR
   have hb8 : Hid (Below wK.heap.size wK w8) := by show Below _ _ _; rw [hw8]; exact bR.alloc zR _
   have hrp := hide (refF_part es N p);have hkey : Hid (∀ i j, i < N → j < N → (sameB (refF es N p) i j ↔ p[i]? = p[j]? ∧ (fun k : Nat => sgF N p es (k : Int)) i = (fun k : Nat => sgF N p es (k : Int)) j)) := fun i j hi hj => ref_key (es := es) hpl hi hj
   obtain ⟨r, hr⟩ : ∃ r, r = refF es N p := ⟨_, rfl⟩;rw [← hr] at hrp hkey;replace hr := hide hr;clear hb hG hRs;go_upto_region 8 with fail;rw [← show w8 = _ from hw8];replace hw8 := hide hw8;clear b0;go_wp2_with fail
   go_loopw [7, 8, 9] (fun v7 v8 v9 wr => ∃ (k c7 : Nat) (A7 : Option Addr), k ≤ N ∧ v9 = .int .i64 (k : Nat) ∧ v8 = .int .i64 (cntB r k : Nat) ∧ v7 = .slice A7 k c7 ∧ Hid (Own 1 iv wr wK.heap.size 2 A7 k c7 (r.take k)) ∧ Hid (Below wK.heap.size wK wr)) (fun _ _ v _ => N - (intOf v).toNat)
   case atStart => exact ⟨0, 0, _, Nat.zero_le _, rfl, rfl, rfl, hO8.out, hb8.out⟩
   case round =>
    clear hO8 hb8;obtain ⟨k, c7, A7, hk, rfl, rfl, rfl, hO7, hb⟩ := hrel;have hpl2 := hide hpl
    by_cases hlt : k < N
    ·have k0 : (0 : Int) ≤ (k : Int) := by omega
     have k1 : (k : Int) < (N : Int) := by omega
     obtain ⟨x, hx⟩ : ∃ x, r[k]? = some x := ⟨_, List.getElem?_eq_getElem (by rw [hrp.out.len]; exact hlt)⟩;have hnew := hide (new_or hrp.out.norm hx);have hcb : cntB r k ≤ k := cntB_le r k;replace hx := hide hx;obtain ⟨wO, rfl⟩ : ∃ wO : World, wO = wr := ⟨_, rfl⟩;have hbO := hb;have hOO := hO7;clear hb hO7;go_wp2_with fail
     go_loopw [10, 11] (fun v10 v11 wr => ∃ j : Nat, j ≤ k ∧ v11 = .int .i64 (j : Nat) ∧ Hid (Below wO.heap.size wO wr) ∧ Hid (FndR r x k j v10)) (fun _ v _ => k - (intOf v).toNat)
     case atStart => exact ⟨0, Nat.zero_le _, rfl, bR, .inl ⟨rfl, fun i hi => absurd hi (Nat.not_lt_zero i)⟩⟩
     case round =>
      obtain ⟨j, hj, rfl, hb2, hF⟩ := hrel;have j0 : (0 : Int) ≤ (j : Int) := by omega
      have hbW := hide (hbO.out.trans (hb2.out.mono hbO.out.size));have hO9 := hide (hOO.out.below hb2.out zR)
      rcases hF.out with ⟨rfl, hF2⟩ | ⟨rfl, hx0, hF2⟩
      ·replace hF2 := hide hF2
       by_cases hjk : j < k
       ·have j1 : (j : Int) < (k : Int) := by omega
        have j2 : (j : Int) < (N : Int) := by omega
        have hP2 := hPK.out.below hbW.out (.inr zR);have hG2 := hGK.out.below hbW.out;obtain ⟨gP, oP, pj, e1, -, -, hgP, hpj, cpj, -⟩ := SlI.get hP2 (show j < N by omega);obtain ⟨gP2, oP2, pk, e2, -, -, -, hpk, cpk, -⟩ := SlI.get hP2 hlt;subst e1;cases e2;obtain ⟨gR, oR, Aj, nj, cj, sj, e3, -, hgR, hRj, crj, hsj, -⟩ := hG2.get (show j < N by omega);obtain ⟨gR2, oR2, Ak, nk, ck, sk, e4, -, -, hRk, crk, hsk, -⟩ := hG2.get hlt;subst e3;cases e4;have hzW := hbW.out.size;have hnj := hRK.out.2 _ (List.mem_of_getElem? hRj);have hnk := hRK.out.2 _ (List.mem_of_getElem? hRk);have vsj := hRK.out.get (show j < N by omega) hRj;have vsk := hRK.out.get hlt hRk
        (try dsimp only at hnj hnk vsj vsk)
        obtain ⟨wD, hwD⟩ : ∃ wD, wD = wr.drew := ⟨_, rfl⟩;have hbD : Below wr.heap.size wr wD := by rw [hwD]; exact bR.drew
        have hq := hide (l00Same_calls Aj Ak nj nk cj ck sj sk wD _ _ _ _ (hsj.below hbD (.inr zR)) (hsk.below hbD (.inr zR)) (by omega) (by omega));have hSS : Hid (∀ wx, Below wD.heap.size wD wx → wx.cell? ⟨gP, oP + j, none⟩ = some (.int .i64 pj) ∧ wx.cell? ⟨gP, oP + k, none⟩ = some (.int .i64 pk) ∧ wx.cell? ⟨gR, oR + j, none⟩ = some (.slice Aj nj cj) ∧ wx.cell? ⟨gR, oR + k, none⟩ = some (.slice Ak nk ck)) := fun wx hx2 => by
         have hbx := hbD.trans (hx2.mono hbD.size);exact ⟨(hbx.cell (p := ⟨gP, oP + j, none⟩) hgP).trans cpj, (hbx.cell (p := ⟨gP, oP + k, none⟩) hgP).trans cpk, (hbx.cell (p := ⟨gR, oR + j, none⟩) hgR).trans crj, (hbx.cell (p := ⟨gR, oR + k, none⟩) hgR).trans crk⟩
        have hsame : Hid (sameB r j k ↔ pj = pk ∧ sj = sk) := by
         have := hkey.out j k (by omega) hlt;rw [hpj, hpk, ← vsj, ← vsk] at this
         show _ ↔ _
         rw [this];exact and_congr_left fun _ => ⟨fun h => Option.some.inj h, fun h => h ▸ rfl⟩
        have hjx : Hid (r[j]? = some x ↔ sameB r j k) := by
         show _ ↔ _
         unfold sameB;rw [hx.out]
        replace hbD := hide hbD;replace hwD := hide hwD;replace hpj := hide hpj;replace hpk := hide hpk;replace hRj := hide hRj;replace hRk := hide hRk;replace vsj := hide vsj;replace vsk := hide vsk;clear hP2 hG2 hsj hsk cpj cpk crj crk
        by_cases hpp : pj = pk
        ·subst hpp
         have g1 : (pj == pj) = true := by simp
         by_cases hss : sj = sk
         ·have hyes : Hid (r[j]? = some x) := hjx.out.2 (hsame.out.2 ⟨rfl, hss⟩)
          rw [decide_eq_true hss] at hq;go_upto_region 15 with fail;refine lateT_begin (S := fun w' => w'.cell? ⟨gP, oP + j, none⟩ = some (.int .i64 pj) ∧ w'.cell? ⟨gP, oP + k, none⟩ = some (.int .i64 pj) ∧ w'.cell? ⟨gR, oR + j, none⟩ = some (.slice Aj nj cj) ∧ w'.cell? ⟨gR, oR + k, none⟩ = some (.slice Ak nk ck)) (st := 19) (by kernel_rfl) ?_;rw [← show wD = _ from hwD.out];have hS0 : (fun w' : World => w'.cell? ⟨gP, oP + j, none⟩ = some (.int .i64 pj) ∧ w'.cell? ⟨gP, oP + k, none⟩ = some (.int .i64 pj) ∧ w'.cell? ⟨gR, oR + j, none⟩ = some (.slice Aj nj cj) ∧ w'.cell? ⟨gR, oR + k, none⟩ = some (.slice Ak nk ck)) wD := hSS.out wD bR;refine tkD 0 [2,3,8,9,19] hS0 ?_;refine tkD 1 [2,3,8,9,19] hS0 ?_;refine tkD 2 [3,8,9,19] hS0 ?_;refine tkD 3 [8,9,19] hS0 ?_;refine tkD 4 [6,7,8,9,19] hS0 ?_;refine tkD 5 [6,7,8,9,19] hS0 ?_;refine tkD 6 [7,8,9,19] hS0 ?_;refine tkD 7 [8,9,19] hS0 ?_;refine tkD 8 [9,19] hS0 ?_;refine tkD 9 [19] hS0 ?_;refine tkD 10 [12,13,18,19] hS0 ?_;refine tkD 11 [12,13,18,19] hS0 ?_;refine tkD 12 [13,18,19] hS0 ?_;refine tkD 13 [18,19] hS0 ?_;refine tkD 14 [16,17,18,19] hS0 ?_;refine tkD 15 [16,17,18,19] hS0 ?_;refine tkD 16 [17,18,19] hS0 ?_;refine tkD 17 [18,19] hS0 ?_;refine lS 18 fun K hK => ?_
          (try go_simp)
          go_at_call 165
          (with_reducible refine hq.out.mono ?_)
          rintro e w7 ⟨rfl, hb7⟩
          (try go_wp2_with fail)
          have hS1 := hSS.out w7 hb7;refine kP hK (fun _ => hS1) ?_;clear hK K;refine lS 19 fun K hK => ?_
          go_simp;refine kP hK nH ?_
          clear hK K;refine lateT_done (by kernel_rfl) ?_ _;have hb9 := hide (hb2.out.trans ((hbD.out.trans (hb7.mono hbD.out.size)).mono hb2.out.size));obtain ⟨gO, oO, hOv⟩ : ∃ gO oO, A7 = some ⟨gO, oO, none⟩ ∧ gO < wO.heap.size ∧ wO.cell? ⟨gO, oO + j, none⟩ = some (.int .i64 x) := by
           obtain ⟨b5, o5, v5, e5, -, -, g5, hv5, c5, -⟩ := SlI.get (hOO.out.sl flat_iv) hjk;rw [List.getElem?_take_of_lt hjk, hyes.out] at hv5
           cases hv5
           exact ⟨b5, o5, e5, g5, c5⟩
          obtain ⟨rfl, hgO, cO⟩ := hOv;have cO7 := (hb9.out.cell (p := ⟨gO, oO + j, none⟩) hgO).trans cO;have hx0 : Hid (0 ≤ x) := (part_lt hrp.out (List.mem_of_getElem? hx.out)).1;clear cO;go_wp2_with fail;go_roundw
          case rel => exact ⟨j + 1, by omega, by go_num, hb9.out, .inr ⟨rfl, hx0.out, j, hjk, hyes.out⟩⟩
          case measure => simp [intOf]; omega
         ·have hno : Hid (¬ r[j]? = some x) := fun h => hss (hsame.out.1 (hjx.out.1 h)).2
          rw [decide_eq_false hss] at hq;go_upto_region 15 with fail;refine lateT_begin (S := fun w' => w'.cell? ⟨gP, oP + j, none⟩ = some (.int .i64 pj) ∧ w'.cell? ⟨gP, oP + k, none⟩ = some (.int .i64 pj) ∧ w'.cell? ⟨gR, oR + j, none⟩ = some (.slice Aj nj cj) ∧ w'.cell? ⟨gR, oR + k, none⟩ = some (.slice Ak nk ck)) (st := 19) (by kernel_rfl) ?_;rw [← show wD = _ from hwD.out];have hS0 : (fun w' : World => w'.cell? ⟨gP, oP + j, none⟩ = some (.int .i64 pj) ∧ w'.cell? ⟨gP, oP + k, none⟩ = some (.int .i64 pj) ∧ w'.cell? ⟨gR, oR + j, none⟩ = some (.slice Aj nj cj) ∧ w'.cell? ⟨gR, oR + k, none⟩ = some (.slice Ak nk ck)) wD := hSS.out wD bR;refine tkD 0 [2,3,8,9,19] hS0 ?_;refine tkD 1 [2,3,8,9,19] hS0 ?_;refine tkD 2 [3,8,9,19] hS0 ?_;refine tkD 3 [8,9,19] hS0 ?_;refine tkD 4 [6,7,8,9,19] hS0 ?_;refine tkD 5 [6,7,8,9,19] hS0 ?_;refine tkD 6 [7,8,9,19] hS0 ?_;refine tkD 7 [8,9,19] hS0 ?_;refine tkD 8 [9,19] hS0 ?_;refine tkD 9 [19] hS0 ?_;refine tkD 10 [12,13,18,19] hS0 ?_;refine tkD 11 [12,13,18,19] hS0 ?_;refine tkD 12 [13,18,19] hS0 ?_;refine tkD 13 [18,19] hS0 ?_;refine tkD 14 [16,17,18,19] hS0 ?_;refine tkD 15 [16,17,18,19] hS0 ?_;refine tkD 16 [17,18,19] hS0 ?_;refine tkD 17 [18,19] hS0 ?_;refine lS 18 fun K hK => ?_
          (try go_simp)
          go_at_call 165
          (with_reducible refine hq.out.mono ?_)
          rintro e w7 ⟨rfl, hb7⟩
          (try go_wp2_with fail)
          have hS1 := hSS.out w7 hb7;refine kP hK (fun _ => hS1) ?_;clear hK K;refine lS 19 fun K hK => ?_
          go_simp;refine kP hK nH ?_
          clear hK K;refine lateT_done (by kernel_rfl) ?_ _;have hb9 := hide (hb2.out.trans ((hbD.out.trans (hb7.mono hbD.out.size)).mono hb2.out.size));go_wp2_with fail;go_roundw
          case rel => exact ⟨j + 1, by omega, by go_num, hb9.out, .inl ⟨rfl, fun i hi => by
           by_cases e : i < j
           ·exact hF2.out i e
           ·obtain rfl : i = j := by omega
            exact hno.out⟩⟩
          case measure => simp [intOf]; omega
        ·have g1 : (pj == pk) = false := beq_eq_false_iff_ne.2 hpp
         have hno : Hid (¬ r[j]? = some x) := fun h => hpp (hsame.out.1 (hjx.out.1 h)).1
         go_upto_region 15 with fail;refine lateT_begin (S := fun w' => w'.cell? ⟨gP, oP + j, none⟩ = some (.int .i64 pj) ∧ w'.cell? ⟨gP, oP + k, none⟩ = some (.int .i64 pk) ∧ w'.cell? ⟨gR, oR + j, none⟩ = some (.slice Aj nj cj) ∧ w'.cell? ⟨gR, oR + k, none⟩ = some (.slice Ak nk ck)) (st := 19) (by kernel_rfl) ?_;rw [← show wD = _ from hwD.out];have hS0 : (fun w' : World => w'.cell? ⟨gP, oP + j, none⟩ = some (.int .i64 pj) ∧ w'.cell? ⟨gP, oP + k, none⟩ = some (.int .i64 pk) ∧ w'.cell? ⟨gR, oR + j, none⟩ = some (.slice Aj nj cj) ∧ w'.cell? ⟨gR, oR + k, none⟩ = some (.slice Ak nk ck)) wD := hSS.out wD bR;refine tkD 0 [2,3,8,9,19] hS0 ?_;refine tkD 1 [2,3,8,9,19] hS0 ?_;refine tkD 2 [3,8,9,19] hS0 ?_;refine tkD 3 [8,9,19] hS0 ?_;refine tkD 4 [6,7,8,9,19] hS0 ?_;refine tkD 5 [6,7,8,9,19] hS0 ?_;refine tkD 6 [7,8,9,19] hS0 ?_;refine tkD 7 [8,9,19] hS0 ?_;refine tkD 8 [9,19] hS0 ?_;refine tkD 9 [19] hS0 ?_;refine tkC 10 [12,13,18,19] hS0 ?_;refine tkC 11 [12,13,18,19] hS0 ?_;refine tkC 12 [13,18,19] hS0 ?_;refine tkC 13 [18,19] hS0 ?_;refine tkC 14 [16,17,18,19] hS0 ?_;refine tkC 15 [16,17,18,19] hS0 ?_;refine tkC 16 [17,18,19] hS0 ?_;refine tkC 17 [18,19] hS0 ?_;refine tkC 18 [19] hS0 ?_;refine lS 19 fun K hK => ?_
         go_simp;refine kP hK nH ?_
         clear hK K;refine lateT_done (by kernel_rfl) ?_ _;have hb9 := hide (hb2.out.trans (hbD.out.mono hb2.out.size));go_wp2_with fail;go_roundw
         case rel => exact ⟨j + 1, by omega, by go_num, hb9.out, .inl ⟨rfl, fun i hi => by
          by_cases e : i < j
          ·exact hF2.out i e
          ·obtain rfl : i = j := by omega
           exact hno.out⟩⟩
         case measure => simp [intOf]; omega
       ·obtain rfl : j = k := by omega
        have hxe : x = (cntB r j : Nat) ∧ cntB r (j + 1) = cntB r j + 1 := by
         rcases hnew.out with ⟨_, _, i, hi, h⟩ | ⟨h1, h2, _⟩
         ·exact absurd h (hF2.out i hi)
         ·exact ⟨h1, h2⟩
        have hzr := hbW.out.size;have hza : wK.heap.size ≤ (wr.alloc (.cells #[.int .i64 (cntB r j : Nat)] 2)).heap.size := by rw [World.size_alloc]; omega
        have hOa := hide (hO9.out.alloc (.cells #[.int .i64 (cntB r j : Nat)] 2));have hta : Hid (r.take (j + 1) = r.take j ++ [(cntB r j : Int)]) := by
         show _ = _
         rw [List.take_add_one, hx.out, hxe.1]; rfl
        have hcs : cntB r (j + 1) = cntB r j + 1 := hxe.2;replace hxe := hide hxe;have i1 : ¬ (j : Int) < (j : Int) := by omega
        have i2 : IntKind.i64.wrap ((cntB r j : Int) + 1) = ((cntB r j + 1 : Nat) : Int) := by rw [IntWalk.i64_in _ (by omega)]; omega
        go_wp2_with (first | (at_builtin; (with_reducible refine wpList_app rfl (.tmp 73) (.tmp 75) rfl hE.out flat_iv rfl hOa.out rfl (Sl.lit1' wr 2 (cntB r j : Int) _ rfl 1 _ ?c0) ?c1 hza ?_); rotate_right; intro A6 c6 w6 hown6 hgr6 hb6 hat6))
        case c0 => rfl
        case c1 => omega
        rw [← hta.out] at hown6;have hb10 := hide ((hbW.out.alloc hzr (.cells #[.int .i64 (cntB r j : Nat)] 2)).trans (hb6.mono (by omega)));go_wp2_with fail;go_roundw
        case rel => exact ⟨j + 1, c6, A6, by omega, by go_num, by rw [hcs]; (try go_num), rfl, hown6, hb10.out⟩
        case measure => simp [intOf]; omega
      ·have hcs : cntB r (k + 1) = cntB r k := by
        rcases hnew.out with ⟨_, h2, _⟩ | ⟨_, _, h3⟩
        ·exact h2
        ·obtain ⟨i, hi, h⟩ := hF2
         exact absurd h (h3 i hi)
       replace hF2 := hide hF2;have hzr := hbW.out.size;have hza : wK.heap.size ≤ (wr.alloc (.cells #[.int .i64 x] 2)).heap.size := by rw [World.size_alloc]; omega
       have hOa := hide (hO9.out.alloc (.cells #[.int .i64 x] 2));have hta : Hid (r.take (k + 1) = r.take k ++ [x]) := by
        show _ = _
        rw [List.take_add_one, hx.out]; rfl
       have i1 : ¬ x < 0 := by omega
       by_cases hjk : j < k
       all_goals
        go_wp2_with (first | (at_builtin; (with_reducible refine wpList_app rfl (.tmp 73) (.tmp 75) rfl hE.out flat_iv rfl hOa.out rfl (Sl.lit1' wr 2 x _ rfl 1 _ ?c0) ?c1 hza ?_); rotate_right; intro A6 c6 w6 hown6 hgr6 hb6 hat6))
        case c0 => rfl
        case c1 => omega
        rw [← hta.out] at hown6;have hb10 := hide ((hbW.out.alloc hzr (.cells #[.int .i64 x] 2)).trans (hb6.mono (by omega)));go_wp2_with fail;go_roundw
        case rel => exact ⟨k + 1, c6, A6, by omega, by go_num, by rw [hcs], rfl, hown6, hb10.out⟩
        case measure => simp [intOf]; omega
    ·obtain rfl : k = N := by omega
     have hF := hide (hO7.out.sl flat_iv);have hlast : Hid (r.take k = r) := List.take_of_length_le (by rw [hrp.out.len]; exact zR);rw [hlast.out, hr.out] at hF;have hbF := hide (hbK.out.trans (hb.out.mono hzK));have i1 : ¬ (k : Int) < (k : Int) := by omega
     clear hO7;go_wp2_with fail;go_ret;exact ⟨A7, ⟨c7, rfl⟩, hF.out.more hzK zR, hbF.out⟩
end Go.Proofs.YtnhomkmfbngmgaaGreatDoor
namespace Go.Proofs.YtnhomkmfbngmgaaGreatDoor
open Go.ChangeShapes Go.WideShapes Go.ChangeAt Go.RowKit Go.Sort
def SetsTo (es : List Ed) (ls : List ByteArray) (k : Nat) (R : List (Hd × List Int)) : Prop := R.length = k ∧ ∀ (i : Nat) (r : Hd × List Int), R[i]? = some r → (∀ v, v ∈ r.2 ↔ TauC es ls (· = (i : Int)) v) ∧ r.1.2.1 ≤ 41
theorem SetsTo.push {es : List Ed} {ls : List ByteArray} {k : Nat} {R : List (Hd × List Int)} (h : SetsTo es ls k R) {x : Hd} {s : List Int} (hs : ∀ v, v ∈ s ↔ TauC es ls (· = (k : Int)) v) (hx : x.2.1 ≤ 41) : SetsTo es ls (k + 1) (R ++ [(x, s)]) := by
 refine ⟨by rw [List.length_append, h.1]; rfl, fun i r hr => ?_⟩
 by_cases e : i < R.length
 ·rw [List.getElem?_append_left e] at hr
  exact h.2 i r hr
 ·rw [List.getElem?_append_right (by omega)] at hr
  have e2 : i - R.length = 0 := by
   have := (List.getElem?_eq_some_iff.1 hr).1
   simp at this
   omega
  rw [e2] at hr
  cases hr
  obtain rfl : i = k := by have := h.1; omega
  exact ⟨hs, hx⟩
theorem tau_star {es : List Ed} {ls : List ByteArray} {N : Nat} (he : EdIn N es) (hn : ls.Nodup) (h0 : ls[0]? = some tauB) (hl : ∀ e, e ∈ es → 0 ≤ e.2.1 ∧ e.2.1 < (ls.length : Int)) {k : Nat} {v : Int} : TauC es ls (· = (k : Int)) v ↔ 0 ≤ v ∧ StarR (fun x y => nE es x 0 y) k v.toNat := by
 constructor
 ·intro h
  induction h with
  | base h => subst h; exact ⟨Int.natCast_nonneg _, .refl _⟩
  | @step e h he2 hl2 ih =>
   have h1 := he e he2;have h2 := hl e he2;have h3 : e.2.1.toNat = 0 := by
    obtain ⟨a1, a2⟩ := List.getElem?_eq_some_iff.1 hl2;obtain ⟨b1, b2⟩ := List.getElem?_eq_some_iff.1 h0;exact (List.getElem_inj hn).1 (a2.trans b2.symm)
   refine ⟨h1.2.2.1, ih.2.snoc ?_⟩;unfold nE;rw [show ((e.1.toNat : Nat) : Int) = e.1 by omega, show ((e.2.2.toNat : Nat) : Int) = e.2.2 by omega, show (0 : Int) = e.2.1 by omega];exact he2
 ·rintro ⟨h0v, h⟩
  have key : ∀ {x y : Nat}, StarR (fun x y => nE es x 0 y) x y → TauC es ls (· = (k : Int)) (x : Int) → TauC es ls (· = (k : Int)) (y : Int) := by
   intro x y hs
   induction hs with
   | refl => exact id
   | step e _ ih =>
    intro hx;exact ih (TauC.step (e := (_, 0, _)) hx e h0)
  have := key h (.base rfl);rw [show ((v.toNat : Nat) : Int) = v by omega] at this;exact this
theorem GrowH.base {w : World} {b1 b2 n c : Nat} {A : Option Addr} {R : List (Hd × List Int)} (h : GrowH w b1 A n c R) (hb : b2 ≤ b1) : GrowH w b2 A n c R :=
 ⟨h.own.sink hb, fun r hr => (h.rows r hr).more hb zR, h.off⟩
theorem internalSets_calls {w : World} {N ini : Nat} {A : Option Addr} {n : Nat} {B : Option Addr} {m : Nat} {ls : List ByteArray} {es : List Ed} (h : SysA w N ini A n B m ls es) (c d : Nat) :
  Calls Tryz.prog 201 #[.agg #[.int .i64 (N : Int), .int .i64 (ini : Int), .slice A n c, .slice B m d]] w fun e w' => ∃ A' c' R, e = .returned (.slice A' N c') ∧ GrowH w' w.heap.size A' N c' R ∧ SetsTo es ls N R ∧ Below w.heap.size w w' := by
 have hER := hide elem_rowI;have hm := h.many;have hbn := h.bounds;have hok := hide h.ok;have hB := h.box (c := c) (d := d);obtain ⟨w1, hw1⟩ : ∃ w1, w1 = w.alloc (ltsC N ini A n c B m d) := ⟨_, rfl⟩;rw [← hw1] at hB;have b0 := hB.box.c0;have hz1 := hB.bel.size;have hg0 : Hid (GrowH w1 w1.heap.size none 0 0 []) := ⟨Own.nil_ _ _ _, fun _ h => (List.not_mem_nil h).elim, fun _ h => (List.not_mem_nil h).elim⟩;replace hB := hide hB;clear h;go_enter Tryz.func201, Tryz.ntmps201;go_upto_region 1 with fail;rw [← show w1 = w.alloc (.cells #[.int .i64 (N : Int), .int .i64 (ini : Int), .slice A n c, .slice B m d] 27) from hw1];replace hw1 := hide hw1;go_wp2_with fail
 go_loopw [3, 7] (fun v3 v7 wr => ∃ (k c5 : Nat) (A5 : Option Addr) (R : List (Hd × List Int)), k ≤ N ∧ v7 = .int .i64 (k : Nat) ∧ v3 = .slice A5 k c5 ∧ Hid (GrowH wr w1.heap.size A5 k c5 R) ∧ Hid (SetsTo es ls k R) ∧ Hid (Below w1.heap.size w1 wr)) (fun _ v _ => N - (intOf v).toNat)
 case atStart => exact ⟨0, 0, none, [], Nat.zero_le _, rfl, rfl, hg0.out, ⟨rfl, fun i r hr => (by cases hr)⟩, bR⟩
 case round =>
  clear hg0 b0;obtain ⟨k, c5, A5, R, hk, rfl, rfl, hG, hRs, hb⟩ := hrel
  by_cases hlt : k < N
  ·have hBr := hB.out.below hb.out
   have k0 : (0 : Int) ≤ (k : Int) := by omega
   have k1 : (k : Int) < (N : Int) := by omega
   have hzr := hb.out.size;have b0 := hBr.box.c0;have b1 := hBr.box.c1;have b2 := hBr.box.c2;have b3 := hBr.box.c3;obtain ⟨wA, hwA⟩ : ∃ wA, wA = wr.alloc (.cells #[.int .i64 (k : Int)] 2) := ⟨_, rfl⟩;have hbA : Below wr.heap.size wr wA := by rw [hwA]; exact bR.alloc zR _
   have hSy := hBr.sys.below hbA zR;have hlit : SlI wA 0 (wr.heap.size + 1) (some ⟨wr.heap.size, 0, none⟩) 1 [(k : Int)] := by rw [hwA]; exact Sl.lit1' wr 2 (k : Int) #[.int .i64 (k : Int)] rfl 1 _ rfl
   have q := hide (internal_calls (N : Int) (ini : Int) A n c B m d (some ⟨wr.heap.size, 0, none⟩) 1 1 [(k : Int)] ls es wA _ _ _ _ hSy.ss hSy.se hlit (by omega) (by omega) hok.out);have hGA0 := hide (hG.out.below hbA);have hzA := hbA.size;replace hbA := hide hbA;clear hSy hBr hlit hG;go_wp2_with fail;rw [← show wA = wr.alloc (.cells #[.int .i64 (k : Int)] 2) from hwA];refine q.out.mono ?_;rintro e w4 ⟨A4, n4, c4, R4, rfl, hO4, hR4, hn4, hb4⟩;have hz4 := hb4.size;have hbB : Below w4.heap.size w4 (w4.alloc (.cells #[.slice A4 n4 c4] 32)) := bR.alloc zR _;have hGA := hide ((hGA0.out.below hb4).below hbB);have hza : w1.heap.size ≤ (w4.alloc (.cells #[.slice A4 n4 c4] 32)).heap.size := by rw [World.size_alloc]; omega
   have hOa := hide hGA.out.own;have hown : Hid (∀ b off, 0 < n4 → A4 = some ⟨b, off, none⟩ → (Value.slice A5 k c5).ownBlock ≠ some b) := fun b off hn e e2 => by
    obtain ⟨b', o', e', g1, -⟩ := hO4.at_ hn;rw [e] at e'
    cases e'
    have := (hGA0.out.own.lt _ e2).2;omega
   have hsA := hide ((hO4.below hbB (.inr zR)).more (show w1.heap.size ≤ wA.heap.size by omega) hbB.size);have hbF := hide (((hb.out.trans (hbA.out.mono hzr)).trans (hb4.mono (by omega))).trans (hbB.mono (by omega)));have hR4' : Hid (∀ v, v ∈ R4 ↔ TauC es ls (· = (k : Int)) v) := fun v => (hR4 v).trans (TauC.congr (fun v => by simp) v)
   replace hwA := hide hwA;replace hb4 := hide hb4;clear q hO4 hbB b0 b1 b2 b3 hR4 hGA0;go_wp2_with (first | (at_builtin; (with_reducible refine wpList_app rfl (.tmp 10) (.tmp 15) rfl hER.out flat_sv rfl hOa.out rfl (Sl.lit1' w4 32 ((A4, n4, c4) : Hd) _ rfl 1 _ ?c0) ?c1 hza ?_); rotate_right; intro A6 c6 w6 hown6 hgr6 hb6 hat6))
   case c0 => rfl
   case c1 => omega
   have hG6 := hide (hGA.out.push hsA.out hown.out hown6 hgr6 hat6);have hR6 := hide (hRs.out.push (x := (A4, n4, c4)) hR4'.out (by show n4 ≤ 41; omega));have hb6' := hide (hbF.out.trans hb6);go_wp2_with fail;go_roundw
   case rel => exact ⟨k + 1, c6, A6, _, by omega, by go_num, rfl, hG6.out, hR6.out, hb6'.out⟩
   case measure => simp [intOf]; omega
  ·obtain rfl : k = N := by omega
   have k1 : ¬ (k : Int) < (k : Int) := by omega
   have hbF := hide (hB.out.bel.trans (hb.out.mono hz1));go_wp2_with fail;go_ret;exact ⟨A5, c5, rfl, R, hG.out.base hz1, hRs.out, hbF.out⟩
theorem labs_nodup {ls : List ByteArray} (h : namesB ls = true) : ls.Nodup := by
 refine List.pairwise_iff_getElem.2 fun i j hi hj hij e => ?_
 have := labs_rise h (List.getElem?_eq_getElem hi) (List.getElem?_eq_getElem hj) hij;rw [e, ltL_irr] at this
 cases this
theorem labs_zero {ls : List ByteArray} (h : namesB ls = true) : ls[0]? = some tauB := by
 unfold namesB at h;rw [Bool.and_eq_true] at h;have h1 := inB_true.1 h.1;have hx : ls[0]? = some (ls[0]'(by omega)) := List.getElem?_eq_getElem _;have h0 := allK_get h.2 (show 0 < ls.length by omega);rw [okL_zero hx] at h0;rw [hx, of_decide_eq_true h0]
theorem filter_valid {N ini : Nat} {ls : List ByteArray} {es : List Ed} (h : ltsV ((N : Int), (ini : Int), ls, es) = true) (G : Ed → Bool) : ltsV ((N : Int), (ini : Int), ls, es.filter G) = true := by
 have hb := (ltsV_edge h).2;have hl := ltsV_names h;have he := (ltsV_edge h).1;exact ltsV_of (by omega) (by omega) hl.1 (Nat.le_trans (List.length_filter_le _ _) hl.2) ((ltsV_rise h).filter _) fun e hx => he e (List.mem_filter.1 hx).1
theorem inert_star {N : Nat} {ls : List ByteArray} {es : List Ed} {p : List Int} (he : EdIn N es) (hn : namesB ls = true) (hl : ∀ e, e ∈ es → 0 ≤ e.2.1 ∧ e.2.1 < (ls.length : Int)) {k : Nat} {v : Int} : TauC (es.filter (inG p)) ls (· = (k : Int)) v ↔ 0 ≤ v ∧ StarR (inrE es p) k v.toNat := by
 rw [tau_star (N := N) (fun e hx => he e (List.mem_filter.1 hx).1) (labs_nodup hn) (labs_zero hn) fun e hx => hl e (List.mem_filter.1 hx).1];have key : ∀ x y, nE (es.filter (inG p)) x 0 y ↔ inrE es p x y := fun x y => by
  unfold nE inrE inrt pq nE;rw [List.mem_filter, inG_true]
  simp
 exact and_congr_right fun _ => ⟨StarR.mono fun x y => (key x y).1, StarR.mono fun x y => (key x y).2⟩
def ofG (p sk : List Int) (e : Ed) : Bool := decide (e.1 ∈ sk) && !(inG p e)
open Classical in
theorem offL_eq {N : Nat} {ls : List ByteArray} {es : List Ed} {p sk : List Int} (he : EdIn N es) {k : Nat} (hs : ∀ v, v ∈ sk ↔ 0 ≤ v ∧ StarR (inrE es p) k v.toNat) : (es.filter (ofG p sk)).map (cdE N p) = offL es N p k := by
 unfold offL
 congr 1
 refine List.filter_congr fun e hx => ?_
 have h1 := he e hx;rw [Bool.eq_iff_iff];unfold ofG;rw [Bool.and_eq_true, decide_eq_true_eq, hs, Bool.not_eq_true', Bool.eq_false_iff];have h2 : ¬ inG p e = true ↔ ¬ (e.2.1 = 0 ∧ pq p e.1.toNat = pq p e.2.2.toNat) := not_congr inG_true
 constructor
 ·rintro ⟨⟨_, a⟩, b⟩
  exact decide_eq_true ⟨a, h2.1 b⟩
 ·intro h
  have := of_decide_eq_true h;exact ⟨⟨h1.1.1, this.1⟩, h2.2 this.2⟩
theorem dvgI_eq {N : Nat} {es : List Ed} {p : List Int} {dv : Bool} (he : EdIn N es) {k : Nat} (hk : k < N) : dvgI es dv p k = if (dv && inS (dvgL (es.filter (inG p)) N) k) = true then 1 else 0 := by
 have h1 := (inS_dvgL (es := es.filter (inG p)) hk).trans (dvgL_inert he);unfold dvgI
 by_cases h2 : Dvg (inrE es p) k
 ·rw [h1.2 h2]
  cases dv <;> simp [h2]
 ·have h3 : inS (dvgL (es.filter (inG p)) N) k = false := Bool.eq_false_iff.2 fun h => h2 (h1.1 h)
  rw [h3]
  cases dv <;> simp [h2]
end Go.Proofs.YtnhomkmfbngmgaaGreatDoor
