/-
  Several texts in one:
  The reference's refinement of a partition is the program's:
  A growing row of lists of numbers of any lengths, each in a
  spec.l00Same: equality of lists of numbers. Conditions: at
  spec.l13Refine: a partition refined once by the reference.
  The sets of states that internal edges reach, for each state,
  Facts of valid systems: labels differ, the first is the
  The reference's inert edges, what they reach, what a state
-/
import Derived.Test.YtnhomkmfbngmgaaGreatDoorBaseA
import Derived.Test.YtnhomkmfbngmgaaGreatDoorBaseD
import Derived.Test.YtnhomkmfbngmgaaGreatDoorBaseE
import Derived.Test.YtnhomkmfbngmgaaGreatDoorBaseF
import Derived.Test.YtnhomkmfbngmgaaGreatDoorBaseG
import Derived.Test.YtnhomkmfbngmgaaGreatDoorBaseI
import Derived.Test.YtnhomkmfbngmgaaGreatDoorBaseJ
import Derived.Test.YtnhomkmfbngmgaaGreatDoorBaseK
set_option linter.unusedSimpArgs false
set_option linter.unusedVariables false
namespace Go.Proofs.YtnhomkmfbngmgaaGreatDoor
open Go.Sort
set_option linter.unusedVariables false
set_option linter.unusedSimpArgs false

theorem sg_mem {N : Nat} {p : List Int} {x : Int} : ∀ (l : List Ed) (s : List Int) (c : Int), c ∈ l.foldl (sgS N p x) s ↔ c ∈ s ∨ ∃ e, e ∈ l ∧ e.1 = x ∧ c = e.2.1 * (N : Int) + pv p e.2.2
 | [], s, c => by simp
 | e :: l, s, c => by
  rw [List.foldl_cons, sg_mem l]
  unfold sgS
  by_cases h : e.1 = x
  ·rw [if_pos h, putI_mem, or_assoc]
   refine or_congr_right ?_
   constructor
   ·rintro (g | ⟨f, hf, g⟩)
    ·exact ⟨e, List.mem_cons_self .., h, g⟩
    ·exact ⟨f, List.mem_cons_of_mem _ hf, g⟩
   ·rintro ⟨f, hf, g1, g2⟩
    rcases List.mem_cons.1 hf with rfl | hf
    ·exact .inl g2
    ·exact .inr ⟨f, hf, g1, g2⟩
  ·rw [if_neg h]
   refine or_congr_right ⟨fun ⟨f, hf, g⟩ => ⟨f, List.mem_cons_of_mem _ hf, g⟩, fun ⟨f, hf, g1, g2⟩ => ?_⟩
   rcases List.mem_cons.1 hf with rfl | hf
   ·exact absurd g1 h
   ·exact ⟨f, hf, g1, g2⟩
theorem sgF_eq (N : Nat) (p : List Int) (es : List Ed) (k : Nat) : sgF N p es (k : Int) = Lib.compact (sortI (cdL es N p k)) := by
 refine asc_ext (sg_asc _ _ List.Pairwise.nil) (set_asc _) fun c => ?_
 unfold sgF
 rw [sg_mem, set_mem]
 unfold cdL
 rw [List.mem_map]
 constructor
 ·rintro (h | ⟨e, he, h1, h2⟩)
  ·cases h
  ·exact ⟨e, List.mem_filter.2 ⟨he, decide_eq_true h1⟩, h2.symm⟩
 ·rintro ⟨e, he, h⟩
  obtain ⟨h1, h2⟩ := List.mem_filter.1 he
  exact .inr ⟨e, h1, of_decide_eq_true h2, h.symm⟩
theorem ref_key {N : Nat} {p : List Int} {es : List Ed} (hp : p.length = N) {i j : Nat} (hi : i < N) (hj : j < N) : sameB (refF es N p) i j ↔ p[i]? = p[j]? ∧ sgF N p es (i : Int) = sgF N p es (j : Int) := by
 have hk : (keysR es N p).length = N := by simp [keysR]
 unfold refF
 rw [nk_same (by omega) (by omega)]
 unfold keysR
 rw [List.getElem?_map, List.getElem?_map, List.getElem?_range hi, List.getElem?_range hj]
 simp only [Option.map_some, Option.some.injEq]
 unfold keyR
 rw [List.cons.injEq, sgF_eq, sgF_eq]
 refine and_congr_left fun _ => ?_
 rw [List.getElem?_eq_getElem (show i < p.length by omega), List.getElem?_eq_getElem (show j < p.length by omega)]
 simp
theorem new_or {r : List Int} (hr : normF r = r) {k : Nat} {x : Int} (hx : r[k]? = some x) : (0 ≤ x ∧ cntB r (k + 1) = cntB r k ∧ ∃ j, j < k ∧ r[j]? = some x) ∨ (x = cntB r k ∧ cntB r (k + 1) = cntB r k + 1 ∧ ∀ j, j < k → ¬ r[j]? = some x) := by
 rcases cntB_step hr hx with ⟨h0, h1, h2⟩ | ⟨h1, h2⟩
 ·left
  refine ⟨h0, h2, ?_⟩
  have hm : x ∈ firsts [] (r.take k) := by
   rw [firsts_take hr k]
   exact List.mem_map.2 ⟨x.toNat, List.mem_range.2 (by omega), by show ((x.toNat : Nat) : Int) = x; omega⟩
  have hm2 := (firsts_mem.1 hm).resolve_left (by simp)
  obtain ⟨j, hj, e⟩ := List.getElem_of_mem hm2
  rw [List.length_take] at hj
  rw [List.getElem_take] at e
  exact ⟨j, by omega, by rw [List.getElem?_eq_getElem (by omega), e]⟩
 ·right
  refine ⟨h1, h2, fun j hj hjx => ?_⟩
  have hm : x ∈ firsts [] (r.take k) := firsts_mem.2 (.inr (List.mem_of_getElem? (by rw [List.getElem?_take_of_lt hj]; exact hjx)))
  rw [firsts_take hr k] at hm
  obtain ⟨v, hv, e⟩ := List.mem_map.1 hm
  have := List.mem_range.1 hv
  have : (v : Int) = x := e
  omega
end Go.Proofs.YtnhomkmfbngmgaaGreatDoor

namespace Go.Proofs.YtnhomkmfbngmgaaGreatDoor
open Go.ChangeShapes Go.WideShapes Go.ChangeAt Go.RowKit
set_option linter.unusedVariables false
set_option linter.unusedSimpArgs false

structure GrowH (w : World) (base : Nat) (A : Option Addr) (n c : Nat) (R : List (Hd × List Int)) : Prop where
 own : Own 1 (sv) w base 32 A n c (R.map (·.1))
 rows : ∀ r ∈ R, SlI w base w.heap.size r.1.1 r.1.2.1 r.2
 off : ∀ r ∈ R, 0 < r.1.2.1 → ∀ b off, r.1.1 = some ⟨b, off, none⟩ → (Value.slice A n c).ownBlock ≠ some b
section
variable {w w4 w5 w' : World} {base n c : Nat} {A : Option Addr} {R : List (Hd × List Int)}
theorem GrowH.len (h : GrowH w base A n c R) : R.length = n := by have := h.own.len; rwa [List.length_map] at this
theorem GrowH.keep (h : GrowH w base A n c R) (hs : w.heap.size ≤ w'.heap.size) (hk : ∀ b, base ≤ b → b < w.heap.size → w'.heap[b]? = w.heap[b]?) : GrowH w' base A n c R :=
 ⟨h.own.keep fun g hg => hk g (h.own.lt g hg).1 (h.own.lt g hg).2, fun r hr => ((h.rows r hr).keep hs fun b h1 _ h3 => hk b h1 h3).more (Nat.le_refl _) hs, h.off⟩
theorem GrowH.below (h : GrowH w base A n c R) (hb : Below w.heap.size w w') : GrowH w' base A n c R := h.keep hb.size fun b _ h2 => hb.block b h2
theorem GrowH.push (h : GrowH w4 base A n c R) {Ah : Option Addr} {nh ch : Nat} {s : List Int} (hs : SlI w4 base w4.heap.size Ah nh s) (ho : ∀ b off, 0 < nh → Ah = some ⟨b, off, none⟩ → (Value.slice A n c).ownBlock ≠ some b)
  {A5 : Option Addr} {c5 : Nat} (hown : Own 1 (sv) w5 base 32 A5 (n + 1) c5 (R.map (·.1) ++ [(Ah, nh, ch)])) (hgr : w4.grownBy w5 (Value.slice A n c).ownBlock)
  (hat : (Value.slice A5 (n + 1) c5).ownBlock = (Value.slice A n c).ownBlock ∨ (Value.slice A5 (n + 1) c5).ownBlock = some w4.heap.size) :
  GrowH w5 base A5 (n + 1) c5 (R ++ [((Ah, nh, ch), s)]) := by
 have hz5 := hgr.size
 have keepS : ∀ (B : Option Addr) (nb : Nat) (l : List Int), SlI w4 base w4.heap.size B nb l → (∀ b off, 0 < nb → B = some ⟨b, off, none⟩ → (Value.slice A n c).ownBlock ≠ some b) → SlI w5 base w5.heap.size B nb l := by
  intro B nb l hl hne
  refine ⟨hl.1, fun hm => ?_⟩
  obtain ⟨b, off, rfl, g1, g2, g3, hc⟩ := hl.2 hm
  have hk := hgr.block b g3 (fun e => hne b off hm rfl e.symm)
  refine ⟨b, off, rfl, g1, by omega, by omega, fun k x hx j u hu => ?_⟩
  obtain ⟨h1, h2⟩ := hc k x hx j u hu
  exact ⟨(World.cell?_of_block (w := w4) (by simpa using hk)).trans h1, (World.frozen?_of_block (w := w4) (by simpa using hk)).trans h2⟩
 have hoff : ∀ (B : Option Addr) (nb : Nat) (l : List Int), SlI w4 base w4.heap.size B nb l → (∀ b off, 0 < nb → B = some ⟨b, off, none⟩ → (Value.slice A n c).ownBlock ≠ some b) → ∀ b off, 0 < nb → B = some ⟨b, off, none⟩ → (Value.slice A5 (n + 1) c5).ownBlock ≠ some b := by
  intro B nb l hl hne b off hN e
  rcases hat with h1 | h1
  ·rw [h1]; exact hne b off hN e
  ·rw [h1]
   obtain ⟨b', off', e', -, -, g3, -⟩ := hl.at_ hN
   rw [e] at e'
   cases e'
   intro e2
   injection e2 with e2
   omega
 refine ⟨by rw [List.map_append]; exact hown, fun r hr => ?_, fun r hr hm b off e => ?_⟩
 ·rcases List.mem_append.1 hr with hr | hr
  ·exact keepS _ _ _ (h.rows r hr) fun b off hm e => h.off r hr hm b off e
  ·obtain rfl := List.mem_singleton.1 hr
   exact keepS _ _ _ hs ho
 ·rcases List.mem_append.1 hr with hr | hr
  ·exact hoff _ _ _ (h.rows r hr) (fun b off hm e => h.off r hr hm b off e) b off hm e
  ·obtain rfl := List.mem_singleton.1 hr
   exact hoff _ _ _ hs ho b off hm e
theorem GrowH.get (h : GrowH w base A n c R) {k : Nat} (hk : k < n) : ∃ b off Ah nh ch s, A = some ⟨b, off, none⟩ ∧ base ≤ b ∧ b < w.heap.size ∧ R[k]? = some ((Ah, nh, ch), s) ∧ w.cell? ⟨b, off + k, none⟩ = some (.slice Ah nh ch) ∧ SlI w base w.heap.size Ah nh s ∧
  ∀ b off, 0 < nh → Ah = some ⟨b, off, none⟩ → (Value.slice A n c).ownBlock ≠ some b := by
 have hl := h.len
 obtain ⟨b, off, e, g1, g2, g3, hc⟩ := (h.own.sl flat_sv).at_ (by omega)
 have hr : R[k]? = some R[k] := List.getElem?_eq_getElem (by omega)
 have hm : R[k] ∈ R := List.getElem_mem _
 have h0 := (hc k R[k].1 (by rw [List.getElem?_map, hr]; rfl) 0 _ rfl).1
 rw [Nat.mul_one, Nat.add_zero] at h0
 exact ⟨b, off, R[k].1.1, R[k].1.2.1, R[k].1.2.2, R[k].2, e, g1, g3, hr, h0, h.rows _ hm, fun b off hN e => h.off _ hm hN b off e⟩
end
end Go.Proofs.YtnhomkmfbngmgaaGreatDoor

namespace Go.Proofs.YtnhomkmfbngmgaaGreatDoor
open Go.ChangeShapes Go.WideShapes Go.ChangeAt Go.RowKit
set_option linter.unusedVariables false

set_option maxRecDepth 100000 in
theorem l00Same_calls (A B : Option Addr) (n m c d : Nat) (l r : List Int) (w : World) (lo hi lo' hi' : Nat) (h : SlI w lo hi A n l) (g : SlI w lo' hi' B m r) (hn : n ≤ 1048576) (hm : m ≤ 1048576) :
  Calls Tryz.prog 165 #[.slice A n c, .slice B m d] w fun e w' => e = .returned (.bool (decide (l = r))) ∧ Below w.heap.size w w' := by
 have hl := hide h.len
 have hr := hide g.len
 by_cases hnm : n = m
 ·subst hnm
  replace h := hide h
  replace g := hide g
  go_enter Tryz.func165, Tryz.ntmps165
  go_wp2_with fail
  go_loopw [5] (fun i wr => ∃ k : Nat, k ≤ n ∧ i = .int .i64 k ∧ Below w.heap.size w wr ∧ l.take k = r.take k) (fun i _ => n - (intOf i).toNat)
  case atStart => exact ⟨0, Nat.zero_le _, rfl, (Below.refl _ _), rfl⟩
  case round =>
   obtain ⟨k, hk, rfl, hb, he⟩ := hrel
   replace he := hide he
   by_cases hlt : k < n
   ·obtain ⟨b, off, x, rfl, g1, g2, g3, hx, c0, -⟩ := h.out.get hlt
    obtain ⟨b', off', y, rfl, g1', g2', g3', hy, d0, -⟩ := g.out.get hlt
    replace c0 := (hb.cell (p := ⟨b, off + k, none⟩) g3).trans c0
    replace d0 := (hb.cell (p := ⟨b', off' + k, none⟩) g3').trans d0
    replace hx := hide hx
    replace hy := hide hy
    clear h g
    have hk0 : (0 : Int) ≤ (k : Int) := by omega
    have hk1 : (k : Int) < (n : Int) := by omega
    by_cases hxy : x = y
    ·subst hxy
     have hq : (x != x) = false := by simp
     go_wp2_with fail
     go_quiet (fail)
     go_wp2_with fail
     go_roundw
     case rel => exact ⟨k + 1, by omega, by go_num, by first | exact hb | exact ⟨hb.os, hb.tape, hb.output, hb.size, hb.block⟩, take_step he.out hx.out hy.out rfl⟩
     case measure => simp [intOf]; omega
    ·have hne := hide (take_stop hx.out hy.out hxy)
     have hq : (x != y) = true := by rw [bne_iff_ne]; exact hxy
     go_wp2_with fail
     go_quiet (fail)
     go_wp2_with fail
     go_ret
     exact ⟨by simp [hne.out], by first | exact hb | exact ⟨hb.os, hb.tape, hb.output, hb.size, hb.block⟩⟩
   ·have hkn : k = n := by omega
    subst hkn
    clear h g
    go_wp2_with fail
    go_ret
    exact ⟨by rw [take_all he.out hl.out hr.out]; simp, hb⟩
 ·have hne : Hid (l ≠ r) := fun e => hnm (by rw [← hl.out, ← hr.out, e])
  have hb0 : ((n : Int) != (m : Int)) = true := by rw [bne_iff_ne]; omega
  clear h g
  go_enter Tryz.func165, Tryz.ntmps165
  go_wp2_with fail
  go_ret
  exact ⟨by simp [hne.out], Below.refl _ _⟩

end Go.Proofs.YtnhomkmfbngmgaaGreatDoor

namespace Go.Proofs.YtnhomkmfbngmgaaGreatDoor
open Go.ChangeShapes Go.WideShapes Go.ChangeAt Go.RowKit Go.Sort Go.Lib
set_option linter.unusedVariables false
set_option linter.unusedSimpArgs false

theorem GrowH.made (w : World) : GrowH (w.alloc (.cells #[] 32)) w.heap.size (some ⟨w.heap.size, 0, none⟩) 0 0 [] := ⟨Own.made w _ (Nat.le_refl _), fun _ h => (List.not_mem_nil h).elim, fun _ h => (List.not_mem_nil h).elim⟩
def RowsTo (f : Nat → List Int) (k : Nat) (R : List (Hd × List Int)) : Prop := R.map (·.2) = (List.range k).map f ∧ ∀ r, r ∈ R → r.1.2.1 ≤ 1000
theorem RowsTo.get {f : Nat → List Int} {k : Nat} {R : List (Hd × List Int)} (h : RowsTo f k R) {i : Nat} (hi : i < k) {x : Hd} {s : List Int} (hr : R[i]? = some (x, s)) : s = f i := by
 have h1 : (R.map (·.2))[i]? = some s := by rw [List.getElem?_map, hr]; rfl
 rw [h.1, List.getElem?_map, List.getElem?_range hi] at h1
 exact (Option.some.inj h1).symm
theorem RowsTo.push {f : Nat → List Int} {k : Nat} {R : List (Hd × List Int)} (h : RowsTo f k R) {x : Hd} {s : List Int} (hs : s = f k) (hx : x.2.1 ≤ 1000) : RowsTo f (k + 1) (R ++ [(x, s)]) := by
 refine ⟨by rw [List.map_append, h.1, List.range_succ, List.map_append, hs]; rfl, fun r hr => ?_⟩
 rcases List.mem_append.1 hr with hr | hr
 ·exact h.2 r hr
 ·obtain rfl := List.mem_singleton.1 hr
  exact hx
def FndR (r : List Int) (x : Int) (k j : Nat) (v : Value) : Prop := (v = .int .i64 (-1) ∧ ∀ i, i < j → ¬ r[i]? = some x) ∨ (v = .int .i64 x ∧ 0 ≤ x ∧ ∃ i, i < k ∧ r[i]? = some x)
theorem cntB_le (r : List Int) (k : Nat) : cntB r k ≤ k := by
 have h := firsts_len_le [] (r.take k)
 rw [List.length_take] at h
 simp only [List.length_nil] at h
 unfold cntB
 omega
set_option maxRecDepth 100000 in
set_option maxHeartbeats 12800000 in
theorem l13Refine_calls {w : World} {N ini : Nat} {A : Option Addr} {n : Nat} {B : Option Addr} {m : Nat} {ls : List ByteArray} {es : List Ed} (h : SysA w N ini A n B m ls es) (c d bx : Nat) (hbx : LtsBox w bx (N : Int) (ini : Int) A n c B m d) (P : Option Addr) (cP : Nat) (p : List Int) (hP : SlI w 0 w.heap.size P N p) (hp : ∀ x, x ∈ p → 0 ≤ x ∧ x ≤ 1000) :
  Calls Tryz.prog 167 #[.pointer (some ⟨bx, 0, none⟩), .slice P N cP] w fun e w' => ∃ Q cQ, e = .returned (.slice Q N cQ) ∧ SlI w' w.heap.size w'.heap.size Q N (refF es N p) ∧ Below w.heap.size w w' := by
 have hER := hide elem_rowI
 have hE := hide elem_int64
 have hpl := hP.len
 obtain ⟨⟨hN1, hN2⟩, hini⟩ := h.bounds
 have hAll : ∀ wx, Below w.heap.size w wx → SysA wx N ini A n B m ls es ∧ LtsBox wx bx (N : Int) (ini : Int) A n c B m d ∧ SlI wx 0 w.heap.size P N p := fun wx hx => ⟨h.below hx (Nat.le_refl _), hbx.below hx hbx.lt, hP.below hx (.inl (Nat.le_refl _))⟩
 replace hAll := hide hAll
 have hbl := hbx.lt
 clear h hP hbx
 obtain ⟨w1, hw1⟩ : ∃ w1, w1 = w.alloc (.cells #[] 32) := ⟨_, rfl⟩
 have hb1 : Hid (Below w.heap.size w w1) := by show Below _ _ _; rw [hw1]; exact (Below.refl _ _).alloc (Nat.le_refl _) _
 have hg0 : Hid (GrowH w1 w.heap.size (some ⟨w.heap.size, 0, none⟩) 0 0 []) := by show GrowH _ _ _ _ _ _; rw [hw1]; exact GrowH.made w
 go_enter Tryz.func167, Tryz.ntmps167
 go_upto_region 2 with fail
 rw [← show w1 = _ from hw1]
 replace hw1 := hide hw1
 go_wp2_with fail
 go_loopw [5, 6] (fun v5 v6 wr => ∃ (k c5 : Nat) (A5 : Option Addr) (R : List (Hd × List Int)), k ≤ N ∧ v6 = .int .i64 (k : Nat) ∧ v5 = .slice A5 k c5 ∧ Hid (GrowH wr w.heap.size A5 k c5 R) ∧ Hid (RowsTo (fun k => sgF N p es (k : Int)) k R) ∧ Hid (Below w.heap.size w wr)) (fun _ v _ => N - (intOf v).toNat)
 case atStart => exact ⟨0, 0, _, _, Nat.zero_le _, rfl, rfl, hg0.out, ⟨rfl, fun r hr => (List.not_mem_nil hr).elim⟩, hb1.out⟩
 case round =>
  clear hg0 hb1
  obtain ⟨k, c5, A5, R, hk, rfl, rfl, hG, hRs, hb⟩ := hrel
  have b0 := (hAll.out wr hb.out).2.1.c0
  by_cases hlt : k < N
  ·obtain ⟨hSy, hBr, hPr⟩ := hAll.out wr hb.out
   have k0 : (0 : Int) ≤ (k : Int) := by omega
   have k1 : (k : Int) < (N : Int) := by omega
   have hzr := hb.out.size
   have q := hide (l13Sign_calls hSy c d bx hBr P cP p hPr.here' hp (k : Int))
   clear hSy hBr hPr
   go_upto_region 5 with fail
   go_wp2_with fail
   refine q.out.mono ?_
   rintro e w4 ⟨A4, n4, c4, rfl, hO4, hn4, hb4⟩
   have hz4 := hb4.size
   have hbA : Below w4.heap.size w4 (w4.alloc (.cells #[.slice A4 n4 c4] 32)) := (Below.refl _ _).alloc (Nat.le_refl _) _
   have hGA := hide ((hG.out.below hb4).below hbA)
   have hza : w.heap.size ≤ (w4.alloc (.cells #[.slice A4 n4 c4] 32)).heap.size := by rw [World.size_alloc]; omega
   have hOa := hide hGA.out.own
   have hown : Hid (∀ b off, 0 < n4 → A4 = some ⟨b, off, none⟩ → (Value.slice A5 k c5).ownBlock ≠ some b) := fun b off hn e e2 => by
    obtain ⟨b', o', e', g1, -⟩ := hO4.at_ hn
    rw [e] at e'
    cases e'
    have := (hG.out.own.lt _ e2).2
    omega
   have hsA := hide ((hO4.below hbA (.inr (Nat.le_refl _))).more hzr hbA.size)
   have hbF := hide (((hb.out.trans (hb4.mono hzr)).trans (hbA.mono (by omega))))
   replace hb4 := hide hb4
   clear q hO4 hbA b0
   go_wp2_with (first | (at_builtin; (with_reducible refine wpList_app rfl (.tmp 21) (.tmp 26) rfl hER.out flat_sv rfl hOa.out rfl (Sl.lit1' w4 32 ((A4, n4, c4) : Hd) _ rfl 1 _ ?c0) ?c1 hza ?_); rotate_right; intro A6 c6 w6 hown6 hgr6 hb6 hat6))
   case c0 => rfl
   case c1 => omega
   have hG6 := hide (hGA.out.push hsA.out hown.out hown6 hgr6 hat6)
   have hR6 := hide (hRs.out.push (x := (A4, n4, c4)) rfl (by show n4 ≤ 1000; omega))
   have hb6' := hide (hbF.out.trans hb6)
   go_wp2_with fail
   go_roundw
   case rel => exact ⟨k + 1, c6, A6, _, by omega, by go_num, rfl, hG6.out, hR6.out, hb6'.out⟩
   case measure => simp [intOf]; omega
  ·have k1 : ¬ (k : Int) < (N : Int) := by omega
   obtain rfl : k = N := by omega
   obtain ⟨N, rfl⟩ : ∃ N, N = k := ⟨_, rfl⟩
   obtain ⟨wK, rfl⟩ : ∃ wK : World, wK = wr := ⟨_, rfl⟩
   have hPK := hide (hAll.out wK hb.out).2.2
   have hGK := hG
   have hRK := hRs
   have hbK := hb
   have hzK := hbK.out.size
   obtain ⟨RK, rfl⟩ : ∃ RK, RK = R := ⟨_, rfl⟩
   obtain ⟨AK, rfl⟩ : ∃ AK, AK = A5 := ⟨_, rfl⟩
   obtain ⟨cK, rfl⟩ : ∃ cK, cK = c5 := ⟨_, rfl⟩
   obtain ⟨w8, hw8⟩ : ∃ w8, w8 = wK.alloc (.cells #[] 2) := ⟨_, rfl⟩
   have hO8 : Hid (Own 1 iv w8 wK.heap.size 2 (some ⟨wK.heap.size, 0, none⟩) 0 0 []) := by show Own _ _ _ _ _ _ _ _ _; rw [hw8]; exact Own.made wK _ (Nat.le_refl _)
   have hb8 : Hid (Below wK.heap.size wK w8) := by show Below _ _ _; rw [hw8]; exact (Below.refl _ _).alloc (Nat.le_refl _) _
   have hrp := hide (refF_part es N p)
   have hkey : Hid (∀ i j, i < N → j < N → (sameB (refF es N p) i j ↔ p[i]? = p[j]? ∧ (fun k : Nat => sgF N p es (k : Int)) i = (fun k : Nat => sgF N p es (k : Int)) j)) := fun i j hi hj => ref_key (es := es) hpl hi hj
   obtain ⟨r, hr⟩ : ∃ r, r = refF es N p := ⟨_, rfl⟩
   rw [← hr] at hrp hkey
   replace hr := hide hr
   clear hb hG hRs
   go_upto_region 8 with fail
   rw [← show w8 = _ from hw8]
   replace hw8 := hide hw8
   clear b0
   go_wp2_with fail
   go_loopw [7, 8, 9] (fun v7 v8 v9 wr => ∃ (k c7 : Nat) (A7 : Option Addr), k ≤ N ∧ v9 = .int .i64 (k : Nat) ∧ v8 = .int .i64 (cntB r k : Nat) ∧ v7 = .slice A7 k c7 ∧ Hid (Own 1 iv wr wK.heap.size 2 A7 k c7 (r.take k)) ∧ Hid (Below wK.heap.size wK wr)) (fun _ _ v _ => N - (intOf v).toNat)
   case atStart => exact ⟨0, 0, _, Nat.zero_le _, rfl, rfl, rfl, hO8.out, hb8.out⟩
   case round =>
    clear hO8 hb8
    obtain ⟨k, c7, A7, hk, rfl, rfl, rfl, hO7, hb⟩ := hrel
    have hpl2 := hide hpl
    by_cases hlt : k < N
    ·have k0 : (0 : Int) ≤ (k : Int) := by omega
     have k1 : (k : Int) < (N : Int) := by omega
     obtain ⟨x, hx⟩ : ∃ x, r[k]? = some x := ⟨_, List.getElem?_eq_getElem (by rw [hrp.out.len]; exact hlt)⟩
     have hnew := hide (new_or hrp.out.norm hx)
     have hcb : cntB r k ≤ k := cntB_le r k
     replace hx := hide hx
     obtain ⟨wO, rfl⟩ : ∃ wO : World, wO = wr := ⟨_, rfl⟩
     have hbO := hb
     have hOO := hO7
     clear hb hO7
     go_wp2_with fail
     go_loopw [10, 11] (fun v10 v11 wr => ∃ j : Nat, j ≤ k ∧ v11 = .int .i64 (j : Nat) ∧ Hid (Below wO.heap.size wO wr) ∧ Hid (FndR r x k j v10)) (fun _ v _ => k - (intOf v).toNat)
     case atStart => exact ⟨0, Nat.zero_le _, rfl, Below.refl _ _, .inl ⟨rfl, fun i hi => absurd hi (Nat.not_lt_zero i)⟩⟩
     case round =>
      obtain ⟨j, hj, rfl, hb2, hF⟩ := hrel
      have j0 : (0 : Int) ≤ (j : Int) := by omega
      have hbW := hide (hbO.out.trans (hb2.out.mono hbO.out.size))
      have hO9 := hide (hOO.out.below hb2.out (Nat.le_refl _))
      rcases hF.out with ⟨rfl, hF2⟩ | ⟨rfl, hx0, hF2⟩
      ·replace hF2 := hide hF2
       by_cases hjk : j < k
       ·have j1 : (j : Int) < (k : Int) := by omega
        have j2 : (j : Int) < (N : Int) := by omega
        have hP2 := hPK.out.below hbW.out (.inr (Nat.le_refl _))
        have hG2 := hGK.out.below hbW.out
        obtain ⟨gP, oP, pj, e1, -, -, hgP, hpj, cpj, -⟩ := SlI.get hP2 (show j < N by omega)
        obtain ⟨gP2, oP2, pk, e2, -, -, -, hpk, cpk, -⟩ := SlI.get hP2 hlt
        subst e1
        cases e2
        obtain ⟨gR, oR, Aj, nj, cj, sj, e3, -, hgR, hRj, crj, hsj, -⟩ := hG2.get (show j < N by omega)
        obtain ⟨gR2, oR2, Ak, nk, ck, sk, e4, -, -, hRk, crk, hsk, -⟩ := hG2.get hlt
        subst e3
        cases e4
        have hzW := hbW.out.size
        have hnj := hRK.out.2 _ (List.mem_of_getElem? hRj)
        have hnk := hRK.out.2 _ (List.mem_of_getElem? hRk)
        have vsj := hRK.out.get (show j < N by omega) hRj
        have vsk := hRK.out.get hlt hRk
        (try dsimp only at hnj hnk vsj vsk)
        obtain ⟨wD, hwD⟩ : ∃ wD, wD = wr.drew := ⟨_, rfl⟩
        have hbD : Below wr.heap.size wr wD := by rw [hwD]; exact (Below.refl _ _).drew
        have hq := hide (l00Same_calls Aj Ak nj nk cj ck sj sk wD _ _ _ _ (hsj.below hbD (.inr (Nat.le_refl _))) (hsk.below hbD (.inr (Nat.le_refl _))) (by omega) (by omega))
        have hSS : Hid (∀ wx, Below wD.heap.size wD wx → wx.cell? ⟨gP, oP + j, none⟩ = some (.int .i64 pj) ∧ wx.cell? ⟨gP, oP + k, none⟩ = some (.int .i64 pk) ∧ wx.cell? ⟨gR, oR + j, none⟩ = some (.slice Aj nj cj) ∧ wx.cell? ⟨gR, oR + k, none⟩ = some (.slice Ak nk ck)) := fun wx hx2 => by
         have hbx := hbD.trans (hx2.mono hbD.size)
         exact ⟨(hbx.cell (p := ⟨gP, oP + j, none⟩) hgP).trans cpj, (hbx.cell (p := ⟨gP, oP + k, none⟩) hgP).trans cpk, (hbx.cell (p := ⟨gR, oR + j, none⟩) hgR).trans crj, (hbx.cell (p := ⟨gR, oR + k, none⟩) hgR).trans crk⟩
        have hsame : Hid (sameB r j k ↔ pj = pk ∧ sj = sk) := by
         have := hkey.out j k (by omega) hlt
         rw [hpj, hpk, ← vsj, ← vsk] at this
         show _ ↔ _
         rw [this]
         exact and_congr_left fun _ => ⟨fun h => Option.some.inj h, fun h => h ▸ rfl⟩
        have hjx : Hid (r[j]? = some x ↔ sameB r j k) := by
         show _ ↔ _
         unfold sameB
         rw [hx.out]
        replace hbD := hide hbD
        replace hwD := hide hwD
        replace hpj := hide hpj
        replace hpk := hide hpk
        replace hRj := hide hRj
        replace hRk := hide hRk
        replace vsj := hide vsj
        replace vsk := hide vsk
        clear hP2 hG2 hsj hsk cpj cpk crj crk
        by_cases hpp : pj = pk
        ·subst hpp
         have g1 : (pj == pj) = true := by simp
         by_cases hss : sj = sk
         ·have hyes : Hid (r[j]? = some x) := hjx.out.2 (hsame.out.2 ⟨rfl, hss⟩)
          rw [decide_eq_true hss] at hq
          go_upto_region 15 with fail
          refine lateT_begin (S := fun w' => w'.cell? ⟨gP, oP + j, none⟩ = some (.int .i64 pj) ∧ w'.cell? ⟨gP, oP + k, none⟩ = some (.int .i64 pj) ∧ w'.cell? ⟨gR, oR + j, none⟩ = some (.slice Aj nj cj) ∧ w'.cell? ⟨gR, oR + k, none⟩ = some (.slice Ak nk ck)) (st := 19) (by kernel_rfl) ?_
          rw [← show wD = _ from hwD.out]
          have hS0 : (fun w' : World => w'.cell? ⟨gP, oP + j, none⟩ = some (.int .i64 pj) ∧ w'.cell? ⟨gP, oP + k, none⟩ = some (.int .i64 pj) ∧ w'.cell? ⟨gR, oR + j, none⟩ = some (.slice Aj nj cj) ∧ w'.cell? ⟨gR, oR + k, none⟩ = some (.slice Ak nk ck)) wD := hSS.out wD (Below.refl _ _)
          refine tkA ?_ 0 [2,3,8,9,19] rfl (Or.inl ⟨by kernel_rfl, ?hy⟩) hS0 ?_
          case hy => intro w hSw; (try dsimp only at hSw); go_simp <;> with_reducible rfl
          (try simp only [Act.put, sA, sB, sC])
          refine tkA ?_ 1 [2,3,8,9,19] rfl (Or.inl ⟨by kernel_rfl, ?hy⟩) hS0 ?_
          case hy => intro w hSw; (try dsimp only at hSw); go_simp <;> with_reducible rfl
          (try simp only [Act.put, sA, sB, sC])
          refine tkA ?_ 2 [3,8,9,19] rfl (Or.inl ⟨by kernel_rfl, ?hy⟩) hS0 ?_
          case hy => intro w hSw; (try dsimp only at hSw); go_simp <;> with_reducible rfl
          (try simp only [Act.put, sA, sB, sC])
          refine tkA ?_ 3 [8,9,19] rfl (Or.inl ⟨by kernel_rfl, ?hy⟩) hS0 ?_
          case hy => intro w hSw; (try dsimp only at hSw); go_simp <;> with_reducible rfl
          (try simp only [Act.put, sA, sB, sC])
          refine tkA ?_ 4 [6,7,8,9,19] rfl (Or.inl ⟨by kernel_rfl, ?hy⟩) hS0 ?_
          case hy => intro w hSw; (try dsimp only at hSw); go_simp <;> with_reducible rfl
          (try simp only [Act.put, sA, sB, sC])
          refine tkA ?_ 5 [6,7,8,9,19] rfl (Or.inl ⟨by kernel_rfl, ?hy⟩) hS0 ?_
          case hy => intro w hSw; (try dsimp only at hSw); go_simp <;> with_reducible rfl
          (try simp only [Act.put, sA, sB, sC])
          refine tkA ?_ 6 [7,8,9,19] rfl (Or.inl ⟨by kernel_rfl, ?hy⟩) hS0 ?_
          case hy => intro w hSw; (try dsimp only at hSw); go_simp <;> with_reducible rfl
          (try simp only [Act.put, sA, sB, sC])
          refine tkA ?_ 7 [8,9,19] rfl (Or.inl ⟨by kernel_rfl, ?hy⟩) hS0 ?_
          case hy => intro w hSw; (try dsimp only at hSw); go_simp <;> with_reducible rfl
          (try simp only [Act.put, sA, sB, sC])
          refine tkA ?_ 8 [9,19] rfl (Or.inl ⟨by kernel_rfl, ?hy⟩) hS0 ?_
          case hy => intro w hSw; (try dsimp only at hSw); go_simp <;> with_reducible rfl
          (try simp only [Act.put, sA, sB, sC])
          refine tkA ?_ 9 [19] rfl (Or.inl ⟨by kernel_rfl, ?hy⟩) hS0 ?_
          case hy => intro w hSw; (try dsimp only at hSw); go_simp <;> with_reducible rfl
          (try simp only [Act.put, sA, sB, sC])
          refine tkA ?_ 10 [12,13,18,19] rfl (Or.inl ⟨by kernel_rfl, ?hy⟩) hS0 ?_
          case hy => intro w hSw; (try dsimp only at hSw); go_simp <;> with_reducible rfl
          (try simp only [Act.put, sA, sB, sC])
          refine tkA ?_ 11 [12,13,18,19] rfl (Or.inl ⟨by kernel_rfl, ?hy⟩) hS0 ?_
          case hy => intro w hSw; (try dsimp only at hSw); go_simp <;> with_reducible rfl
          (try simp only [Act.put, sA, sB, sC])
          refine tkA ?_ 12 [13,18,19] rfl (Or.inl ⟨by kernel_rfl, ?hy⟩) hS0 ?_
          case hy => intro w hSw; (try dsimp only at hSw); go_simp <;> with_reducible rfl
          (try simp only [Act.put, sA, sB, sC])
          refine tkA ?_ 13 [18,19] rfl (Or.inl ⟨by kernel_rfl, ?hy⟩) hS0 ?_
          case hy => intro w hSw; (try dsimp only at hSw); go_simp <;> with_reducible rfl
          (try simp only [Act.put, sA, sB, sC])
          refine tkA ?_ 14 [16,17,18,19] rfl (Or.inl ⟨by kernel_rfl, ?hy⟩) hS0 ?_
          case hy => intro w hSw; (try dsimp only at hSw); go_simp <;> with_reducible rfl
          (try simp only [Act.put, sA, sB, sC])
          refine tkA ?_ 15 [16,17,18,19] rfl (Or.inl ⟨by kernel_rfl, ?hy⟩) hS0 ?_
          case hy => intro w hSw; (try dsimp only at hSw); go_simp <;> with_reducible rfl
          (try simp only [Act.put, sA, sB, sC])
          refine tkA ?_ 16 [17,18,19] rfl (Or.inl ⟨by kernel_rfl, ?hy⟩) hS0 ?_
          case hy => intro w hSw; (try dsimp only at hSw); go_simp <;> with_reducible rfl
          (try simp only [Act.put, sA, sB, sC])
          refine tkA ?_ 17 [18,19] rfl (Or.inl ⟨by kernel_rfl, ?hy⟩) hS0 ?_
          case hy => intro w hSw; (try dsimp only at hSw); go_simp <;> with_reducible rfl
          (try simp only [Act.put, sA, sB, sC])
          refine lateT_step (i := 18) (by kernel_rfl) rfl (fun K hK => ?_)
          (try go_simp)
          go_at_call 165
          (with_reducible refine hq.out.mono ?_)
          rintro e w7 ⟨rfl, hb7⟩
          (try go_wp2_with fail)
          have hS1 := hSS.out w7 hb7
          refine hK.out _ _ (fun _ => hS1) ?_
          clear hK K
          (try simp only [Act.put, sA, sB, sC])
          refine lateT_step (i := 19) (by kernel_rfl) rfl (fun K hK => ?_)
          go_simp
          refine hK.out _ _ (fun h => absurd rfl h) ?_
          clear hK K
          (try simp only [Act.put, sA, sB, sC])
          refine lateT_done (by kernel_rfl) ?_ _
          have hb9 := hide (hb2.out.trans ((hbD.out.trans (hb7.mono hbD.out.size)).mono hb2.out.size))
          obtain ⟨gO, oO, hOv⟩ : ∃ gO oO, A7 = some ⟨gO, oO, none⟩ ∧ gO < wO.heap.size ∧ wO.cell? ⟨gO, oO + j, none⟩ = some (.int .i64 x) := by
           obtain ⟨b5, o5, v5, e5, -, -, g5, hv5, c5, -⟩ := SlI.get (hOO.out.sl flat_iv) hjk
           rw [List.getElem?_take_of_lt hjk, hyes.out] at hv5
           cases hv5
           exact ⟨b5, o5, e5, g5, c5⟩
          obtain ⟨rfl, hgO, cO⟩ := hOv
          have cO7 := (hb9.out.cell (p := ⟨gO, oO + j, none⟩) hgO).trans cO
          have hx0 : Hid (0 ≤ x) := (part_lt hrp.out (List.mem_of_getElem? hx.out)).1
          clear cO
          go_wp2_with fail
          go_roundw
          case rel => exact ⟨j + 1, by omega, by go_num, hb9.out, .inr ⟨rfl, hx0.out, j, hjk, hyes.out⟩⟩
          case measure => simp [intOf]; omega
         ·have hno : Hid (¬ r[j]? = some x) := fun h => hss (hsame.out.1 (hjx.out.1 h)).2
          rw [decide_eq_false hss] at hq
          go_upto_region 15 with fail
          refine lateT_begin (S := fun w' => w'.cell? ⟨gP, oP + j, none⟩ = some (.int .i64 pj) ∧ w'.cell? ⟨gP, oP + k, none⟩ = some (.int .i64 pj) ∧ w'.cell? ⟨gR, oR + j, none⟩ = some (.slice Aj nj cj) ∧ w'.cell? ⟨gR, oR + k, none⟩ = some (.slice Ak nk ck)) (st := 19) (by kernel_rfl) ?_
          rw [← show wD = _ from hwD.out]
          have hS0 : (fun w' : World => w'.cell? ⟨gP, oP + j, none⟩ = some (.int .i64 pj) ∧ w'.cell? ⟨gP, oP + k, none⟩ = some (.int .i64 pj) ∧ w'.cell? ⟨gR, oR + j, none⟩ = some (.slice Aj nj cj) ∧ w'.cell? ⟨gR, oR + k, none⟩ = some (.slice Ak nk ck)) wD := hSS.out wD (Below.refl _ _)
          refine tkA ?_ 0 [2,3,8,9,19] rfl (Or.inl ⟨by kernel_rfl, ?hy⟩) hS0 ?_
          case hy => intro w hSw; (try dsimp only at hSw); go_simp <;> with_reducible rfl
          (try simp only [Act.put, sA, sB, sC])
          refine tkA ?_ 1 [2,3,8,9,19] rfl (Or.inl ⟨by kernel_rfl, ?hy⟩) hS0 ?_
          case hy => intro w hSw; (try dsimp only at hSw); go_simp <;> with_reducible rfl
          (try simp only [Act.put, sA, sB, sC])
          refine tkA ?_ 2 [3,8,9,19] rfl (Or.inl ⟨by kernel_rfl, ?hy⟩) hS0 ?_
          case hy => intro w hSw; (try dsimp only at hSw); go_simp <;> with_reducible rfl
          (try simp only [Act.put, sA, sB, sC])
          refine tkA ?_ 3 [8,9,19] rfl (Or.inl ⟨by kernel_rfl, ?hy⟩) hS0 ?_
          case hy => intro w hSw; (try dsimp only at hSw); go_simp <;> with_reducible rfl
          (try simp only [Act.put, sA, sB, sC])
          refine tkA ?_ 4 [6,7,8,9,19] rfl (Or.inl ⟨by kernel_rfl, ?hy⟩) hS0 ?_
          case hy => intro w hSw; (try dsimp only at hSw); go_simp <;> with_reducible rfl
          (try simp only [Act.put, sA, sB, sC])
          refine tkA ?_ 5 [6,7,8,9,19] rfl (Or.inl ⟨by kernel_rfl, ?hy⟩) hS0 ?_
          case hy => intro w hSw; (try dsimp only at hSw); go_simp <;> with_reducible rfl
          (try simp only [Act.put, sA, sB, sC])
          refine tkA ?_ 6 [7,8,9,19] rfl (Or.inl ⟨by kernel_rfl, ?hy⟩) hS0 ?_
          case hy => intro w hSw; (try dsimp only at hSw); go_simp <;> with_reducible rfl
          (try simp only [Act.put, sA, sB, sC])
          refine tkA ?_ 7 [8,9,19] rfl (Or.inl ⟨by kernel_rfl, ?hy⟩) hS0 ?_
          case hy => intro w hSw; (try dsimp only at hSw); go_simp <;> with_reducible rfl
          (try simp only [Act.put, sA, sB, sC])
          refine tkA ?_ 8 [9,19] rfl (Or.inl ⟨by kernel_rfl, ?hy⟩) hS0 ?_
          case hy => intro w hSw; (try dsimp only at hSw); go_simp <;> with_reducible rfl
          (try simp only [Act.put, sA, sB, sC])
          refine tkA ?_ 9 [19] rfl (Or.inl ⟨by kernel_rfl, ?hy⟩) hS0 ?_
          case hy => intro w hSw; (try dsimp only at hSw); go_simp <;> with_reducible rfl
          (try simp only [Act.put, sA, sB, sC])
          refine tkA ?_ 10 [12,13,18,19] rfl (Or.inl ⟨by kernel_rfl, ?hy⟩) hS0 ?_
          case hy => intro w hSw; (try dsimp only at hSw); go_simp <;> with_reducible rfl
          (try simp only [Act.put, sA, sB, sC])
          refine tkA ?_ 11 [12,13,18,19] rfl (Or.inl ⟨by kernel_rfl, ?hy⟩) hS0 ?_
          case hy => intro w hSw; (try dsimp only at hSw); go_simp <;> with_reducible rfl
          (try simp only [Act.put, sA, sB, sC])
          refine tkA ?_ 12 [13,18,19] rfl (Or.inl ⟨by kernel_rfl, ?hy⟩) hS0 ?_
          case hy => intro w hSw; (try dsimp only at hSw); go_simp <;> with_reducible rfl
          (try simp only [Act.put, sA, sB, sC])
          refine tkA ?_ 13 [18,19] rfl (Or.inl ⟨by kernel_rfl, ?hy⟩) hS0 ?_
          case hy => intro w hSw; (try dsimp only at hSw); go_simp <;> with_reducible rfl
          (try simp only [Act.put, sA, sB, sC])
          refine tkA ?_ 14 [16,17,18,19] rfl (Or.inl ⟨by kernel_rfl, ?hy⟩) hS0 ?_
          case hy => intro w hSw; (try dsimp only at hSw); go_simp <;> with_reducible rfl
          (try simp only [Act.put, sA, sB, sC])
          refine tkA ?_ 15 [16,17,18,19] rfl (Or.inl ⟨by kernel_rfl, ?hy⟩) hS0 ?_
          case hy => intro w hSw; (try dsimp only at hSw); go_simp <;> with_reducible rfl
          (try simp only [Act.put, sA, sB, sC])
          refine tkA ?_ 16 [17,18,19] rfl (Or.inl ⟨by kernel_rfl, ?hy⟩) hS0 ?_
          case hy => intro w hSw; (try dsimp only at hSw); go_simp <;> with_reducible rfl
          (try simp only [Act.put, sA, sB, sC])
          refine tkA ?_ 17 [18,19] rfl (Or.inl ⟨by kernel_rfl, ?hy⟩) hS0 ?_
          case hy => intro w hSw; (try dsimp only at hSw); go_simp <;> with_reducible rfl
          (try simp only [Act.put, sA, sB, sC])
          refine lateT_step (i := 18) (by kernel_rfl) rfl (fun K hK => ?_)
          (try go_simp)
          go_at_call 165
          (with_reducible refine hq.out.mono ?_)
          rintro e w7 ⟨rfl, hb7⟩
          (try go_wp2_with fail)
          have hS1 := hSS.out w7 hb7
          refine hK.out _ _ (fun _ => hS1) ?_
          clear hK K
          (try simp only [Act.put, sA, sB, sC])
          refine lateT_step (i := 19) (by kernel_rfl) rfl (fun K hK => ?_)
          go_simp
          refine hK.out _ _ (fun h => absurd rfl h) ?_
          clear hK K
          (try simp only [Act.put, sA, sB, sC])
          refine lateT_done (by kernel_rfl) ?_ _
          have hb9 := hide (hb2.out.trans ((hbD.out.trans (hb7.mono hbD.out.size)).mono hb2.out.size))
          go_wp2_with fail
          go_roundw
          case rel => exact ⟨j + 1, by omega, by go_num, hb9.out, .inl ⟨rfl, fun i hi => by
           by_cases e : i < j
           ·exact hF2.out i e
           ·obtain rfl : i = j := by omega
            exact hno.out⟩⟩
          case measure => simp [intOf]; omega
        ·have g1 : (pj == pk) = false := beq_eq_false_iff_ne.2 hpp
         have hno : Hid (¬ r[j]? = some x) := fun h => hpp (hsame.out.1 (hjx.out.1 h)).1
         go_upto_region 15 with fail
         refine lateT_begin (S := fun w' => w'.cell? ⟨gP, oP + j, none⟩ = some (.int .i64 pj) ∧ w'.cell? ⟨gP, oP + k, none⟩ = some (.int .i64 pk) ∧ w'.cell? ⟨gR, oR + j, none⟩ = some (.slice Aj nj cj) ∧ w'.cell? ⟨gR, oR + k, none⟩ = some (.slice Ak nk ck)) (st := 19) (by kernel_rfl) ?_
         rw [← show wD = _ from hwD.out]
         have hS0 : (fun w' : World => w'.cell? ⟨gP, oP + j, none⟩ = some (.int .i64 pj) ∧ w'.cell? ⟨gP, oP + k, none⟩ = some (.int .i64 pk) ∧ w'.cell? ⟨gR, oR + j, none⟩ = some (.slice Aj nj cj) ∧ w'.cell? ⟨gR, oR + k, none⟩ = some (.slice Ak nk ck)) wD := hSS.out wD (Below.refl _ _)
         refine tkA ?_ 0 [2,3,8,9,19] rfl (Or.inl ⟨by kernel_rfl, ?hy⟩) hS0 ?_
         case hy => intro w hSw; (try dsimp only at hSw); go_simp <;> with_reducible rfl
         (try simp only [Act.put, sA, sB, sC])
         refine tkA ?_ 1 [2,3,8,9,19] rfl (Or.inl ⟨by kernel_rfl, ?hy⟩) hS0 ?_
         case hy => intro w hSw; (try dsimp only at hSw); go_simp <;> with_reducible rfl
         (try simp only [Act.put, sA, sB, sC])
         refine tkA ?_ 2 [3,8,9,19] rfl (Or.inl ⟨by kernel_rfl, ?hy⟩) hS0 ?_
         case hy => intro w hSw; (try dsimp only at hSw); go_simp <;> with_reducible rfl
         (try simp only [Act.put, sA, sB, sC])
         refine tkA ?_ 3 [8,9,19] rfl (Or.inl ⟨by kernel_rfl, ?hy⟩) hS0 ?_
         case hy => intro w hSw; (try dsimp only at hSw); go_simp <;> with_reducible rfl
         (try simp only [Act.put, sA, sB, sC])
         refine tkA ?_ 4 [6,7,8,9,19] rfl (Or.inl ⟨by kernel_rfl, ?hy⟩) hS0 ?_
         case hy => intro w hSw; (try dsimp only at hSw); go_simp <;> with_reducible rfl
         (try simp only [Act.put, sA, sB, sC])
         refine tkA ?_ 5 [6,7,8,9,19] rfl (Or.inl ⟨by kernel_rfl, ?hy⟩) hS0 ?_
         case hy => intro w hSw; (try dsimp only at hSw); go_simp <;> with_reducible rfl
         (try simp only [Act.put, sA, sB, sC])
         refine tkA ?_ 6 [7,8,9,19] rfl (Or.inl ⟨by kernel_rfl, ?hy⟩) hS0 ?_
         case hy => intro w hSw; (try dsimp only at hSw); go_simp <;> with_reducible rfl
         (try simp only [Act.put, sA, sB, sC])
         refine tkA ?_ 7 [8,9,19] rfl (Or.inl ⟨by kernel_rfl, ?hy⟩) hS0 ?_
         case hy => intro w hSw; (try dsimp only at hSw); go_simp <;> with_reducible rfl
         (try simp only [Act.put, sA, sB, sC])
         refine tkA ?_ 8 [9,19] rfl (Or.inl ⟨by kernel_rfl, ?hy⟩) hS0 ?_
         case hy => intro w hSw; (try dsimp only at hSw); go_simp <;> with_reducible rfl
         (try simp only [Act.put, sA, sB, sC])
         refine tkA ?_ 9 [19] rfl (Or.inl ⟨by kernel_rfl, ?hy⟩) hS0 ?_
         case hy => intro w hSw; (try dsimp only at hSw); go_simp <;> with_reducible rfl
         (try simp only [Act.put, sA, sB, sC])
         refine lateT_take (i := 10) (oi := _) (v := undef) [12, 13, 18, 19] rfl (by kernel_rfl) (by kernel_rfl) (by kernel_rfl) (by kernel_rfl) (fun _ _ _ h => h) (Or.inr ⟨by kernel_rfl, rfl⟩) hS0 ?_
         (try simp only [Act.put, sA, sB, sC])
         refine lateT_take (i := 11) (oi := _) (v := undef) [12, 13, 18, 19] rfl (by kernel_rfl) (by kernel_rfl) (by kernel_rfl) (by kernel_rfl) (fun _ _ _ h => h) (Or.inr ⟨by kernel_rfl, rfl⟩) hS0 ?_
         (try simp only [Act.put, sA, sB, sC])
         refine lateT_take (i := 12) (oi := _) (v := undef) [13, 18, 19] rfl (by kernel_rfl) (by kernel_rfl) (by kernel_rfl) (by kernel_rfl) (fun _ _ _ h => h) (Or.inr ⟨by kernel_rfl, rfl⟩) hS0 ?_
         (try simp only [Act.put, sA, sB, sC])
         refine lateT_take (i := 13) (oi := _) (v := undef) [18, 19] rfl (by kernel_rfl) (by kernel_rfl) (by kernel_rfl) (by kernel_rfl) (fun _ _ _ h => h) (Or.inr ⟨by kernel_rfl, rfl⟩) hS0 ?_
         (try simp only [Act.put, sA, sB, sC])
         refine lateT_take (i := 14) (oi := _) (v := undef) [16, 17, 18, 19] rfl (by kernel_rfl) (by kernel_rfl) (by kernel_rfl) (by kernel_rfl) (fun _ _ _ h => h) (Or.inr ⟨by kernel_rfl, rfl⟩) hS0 ?_
         (try simp only [Act.put, sA, sB, sC])
         refine lateT_take (i := 15) (oi := _) (v := undef) [16, 17, 18, 19] rfl (by kernel_rfl) (by kernel_rfl) (by kernel_rfl) (by kernel_rfl) (fun _ _ _ h => h) (Or.inr ⟨by kernel_rfl, rfl⟩) hS0 ?_
         (try simp only [Act.put, sA, sB, sC])
         refine lateT_take (i := 16) (oi := _) (v := undef) [17, 18, 19] rfl (by kernel_rfl) (by kernel_rfl) (by kernel_rfl) (by kernel_rfl) (fun _ _ _ h => h) (Or.inr ⟨by kernel_rfl, rfl⟩) hS0 ?_
         (try simp only [Act.put, sA, sB, sC])
         refine lateT_take (i := 17) (oi := _) (v := undef) [18, 19] rfl (by kernel_rfl) (by kernel_rfl) (by kernel_rfl) (by kernel_rfl) (fun _ _ _ h => h) (Or.inr ⟨by kernel_rfl, rfl⟩) hS0 ?_
         (try simp only [Act.put, sA, sB, sC])
         refine lateT_take (i := 18) (oi := _) (v := undef) [19] rfl (by kernel_rfl) (by kernel_rfl) (by kernel_rfl) (by kernel_rfl) (fun _ _ _ h => h) (Or.inr ⟨by kernel_rfl, rfl⟩) hS0 ?_
         (try simp only [Act.put, sA, sB, sC])
         refine lateT_step (i := 19) (by kernel_rfl) rfl (fun K hK => ?_)
         go_simp
         refine hK.out _ _ (fun h => absurd rfl h) ?_
         clear hK K
         (try simp only [Act.put, sA, sB, sC])
         refine lateT_done (by kernel_rfl) ?_ _
         have hb9 := hide (hb2.out.trans (hbD.out.mono hb2.out.size))
         go_wp2_with fail
         go_roundw
         case rel => exact ⟨j + 1, by omega, by go_num, hb9.out, .inl ⟨rfl, fun i hi => by
          by_cases e : i < j
          ·exact hF2.out i e
          ·obtain rfl : i = j := by omega
           exact hno.out⟩⟩
         case measure => simp [intOf]; omega
       ·obtain rfl : j = k := by omega
        have hxe : x = (cntB r j : Nat) ∧ cntB r (j + 1) = cntB r j + 1 := by
         rcases hnew.out with ⟨_, _, i, hi, h⟩ | ⟨h1, h2, _⟩
         ·exact absurd h (hF2.out i hi)
         ·exact ⟨h1, h2⟩
        have hzr := hbW.out.size
        have hza : wK.heap.size ≤ (wr.alloc (.cells #[.int .i64 (cntB r j : Nat)] 2)).heap.size := by rw [World.size_alloc]; omega
        have hOa := hide (hO9.out.alloc (.cells #[.int .i64 (cntB r j : Nat)] 2))
        have hta : Hid (r.take (j + 1) = r.take j ++ [(cntB r j : Int)]) := by
         show _ = _
         rw [List.take_add_one, hx.out, hxe.1]; rfl
        have hcs : cntB r (j + 1) = cntB r j + 1 := hxe.2
        replace hxe := hide hxe
        have i1 : ¬ (j : Int) < (j : Int) := by omega
        have i2 : IntKind.i64.wrap ((cntB r j : Int) + 1) = ((cntB r j + 1 : Nat) : Int) := by rw [IntWalk.i64_in _ (by omega)]; omega
        go_wp2_with (first | (at_builtin; (with_reducible refine wpList_app rfl (.tmp 73) (.tmp 75) rfl hE.out flat_iv rfl hOa.out rfl (Sl.lit1' wr 2 (cntB r j : Int) _ rfl 1 _ ?c0) ?c1 hza ?_); rotate_right; intro A6 c6 w6 hown6 hgr6 hb6 hat6))
        case c0 => rfl
        case c1 => omega
        rw [← hta.out] at hown6
        have hb10 := hide ((hbW.out.alloc hzr (.cells #[.int .i64 (cntB r j : Nat)] 2)).trans (hb6.mono (by omega)))
        go_wp2_with fail
        go_roundw
        case rel => exact ⟨j + 1, c6, A6, by omega, by go_num, by rw [hcs]; (try go_num), rfl, hown6, hb10.out⟩
        case measure => simp [intOf]; omega
      ·have hcs : cntB r (k + 1) = cntB r k := by
        rcases hnew.out with ⟨_, h2, _⟩ | ⟨_, _, h3⟩
        ·exact h2
        ·obtain ⟨i, hi, h⟩ := hF2
         exact absurd h (h3 i hi)
       replace hF2 := hide hF2
       have hzr := hbW.out.size
       have hza : wK.heap.size ≤ (wr.alloc (.cells #[.int .i64 x] 2)).heap.size := by rw [World.size_alloc]; omega
       have hOa := hide (hO9.out.alloc (.cells #[.int .i64 x] 2))
       have hta : Hid (r.take (k + 1) = r.take k ++ [x]) := by
        show _ = _
        rw [List.take_add_one, hx.out]; rfl
       have i1 : ¬ x < 0 := by omega
       by_cases hjk : j < k
       all_goals
        go_wp2_with (first | (at_builtin; (with_reducible refine wpList_app rfl (.tmp 73) (.tmp 75) rfl hE.out flat_iv rfl hOa.out rfl (Sl.lit1' wr 2 x _ rfl 1 _ ?c0) ?c1 hza ?_); rotate_right; intro A6 c6 w6 hown6 hgr6 hb6 hat6))
        case c0 => rfl
        case c1 => omega
        rw [← hta.out] at hown6
        have hb10 := hide ((hbW.out.alloc hzr (.cells #[.int .i64 x] 2)).trans (hb6.mono (by omega)))
        go_wp2_with fail
        go_roundw
        case rel => exact ⟨k + 1, c6, A6, by omega, by go_num, by rw [hcs], rfl, hown6, hb10.out⟩
        case measure => simp [intOf]; omega
    ·obtain rfl : k = N := by omega
     have hF := hide (hO7.out.sl flat_iv)
     have hlast : Hid (r.take k = r) := List.take_of_length_le (by rw [hrp.out.len]; exact Nat.le_refl _)
     rw [hlast.out, hr.out] at hF
     have hbF := hide (hbK.out.trans (hb.out.mono hzK))
     have i1 : ¬ (k : Int) < (k : Int) := by omega
     clear hO7
     go_wp2_with fail
     go_ret
     exact ⟨A7, ⟨c7, rfl⟩, hF.out.more hzK (Nat.le_refl _), hbF.out⟩
end Go.Proofs.YtnhomkmfbngmgaaGreatDoor

namespace Go.Proofs.YtnhomkmfbngmgaaGreatDoor
open Go.ChangeShapes Go.WideShapes Go.ChangeAt Go.RowKit Go.Sort
set_option linter.unusedVariables false
set_option linter.unusedSimpArgs false

def SetsTo (es : List Ed) (ls : List ByteArray) (k : Nat) (R : List (Hd × List Int)) : Prop := R.length = k ∧ ∀ (i : Nat) (r : Hd × List Int), R[i]? = some r → (∀ v, v ∈ r.2 ↔ TauC es ls (· = (i : Int)) v) ∧ r.1.2.1 ≤ 41
theorem SetsTo.push {es : List Ed} {ls : List ByteArray} {k : Nat} {R : List (Hd × List Int)} (h : SetsTo es ls k R) {x : Hd} {s : List Int} (hs : ∀ v, v ∈ s ↔ TauC es ls (· = (k : Int)) v) (hx : x.2.1 ≤ 41) : SetsTo es ls (k + 1) (R ++ [(x, s)]) := by
 refine ⟨by rw [List.length_append, h.1]; rfl, fun i r hr => ?_⟩
 by_cases e : i < R.length
 ·rw [List.getElem?_append_left e] at hr
  exact h.2 i r hr
 ·rw [List.getElem?_append_right (by omega)] at hr
  have e2 : i - R.length = 0 := by
   have := (List.getElem?_eq_some_iff.1 hr).1
   simp at this
   omega
  rw [e2] at hr
  cases hr
  obtain rfl : i = k := by have := h.1; omega
  exact ⟨hs, hx⟩
theorem tau_star {es : List Ed} {ls : List ByteArray} {N : Nat} (he : EdIn N es) (hn : ls.Nodup) (h0 : ls[0]? = some tauB) (hl : ∀ e, e ∈ es → 0 ≤ e.2.1 ∧ e.2.1 < (ls.length : Int)) {k : Nat} {v : Int} : TauC es ls (· = (k : Int)) v ↔ 0 ≤ v ∧ StarR (fun x y => nE es x 0 y) k v.toNat := by
 constructor
 ·intro h
  induction h with
  | base h => subst h; exact ⟨Int.natCast_nonneg _, .refl _⟩
  | @step e h he2 hl2 ih =>
   have h1 := he e he2
   have h2 := hl e he2
   have h3 : e.2.1.toNat = 0 := by
    obtain ⟨a1, a2⟩ := List.getElem?_eq_some_iff.1 hl2
    obtain ⟨b1, b2⟩ := List.getElem?_eq_some_iff.1 h0
    exact (List.getElem_inj hn).1 (a2.trans b2.symm)
   refine ⟨h1.2.2.1, ih.2.snoc ?_⟩
   unfold nE
   rw [show ((e.1.toNat : Nat) : Int) = e.1 by omega, show ((e.2.2.toNat : Nat) : Int) = e.2.2 by omega, show (0 : Int) = e.2.1 by omega]
   exact he2
 ·rintro ⟨h0v, h⟩
  have key : ∀ {x y : Nat}, StarR (fun x y => nE es x 0 y) x y → TauC es ls (· = (k : Int)) (x : Int) → TauC es ls (· = (k : Int)) (y : Int) := by
   intro x y hs
   induction hs with
   | refl => exact id
   | step e _ ih =>
    intro hx
    exact ih (TauC.step (e := (_, 0, _)) hx e h0)
  have := key h (.base rfl)
  rw [show ((v.toNat : Nat) : Int) = v by omega] at this
  exact this
theorem GrowH.base {w : World} {b1 b2 n c : Nat} {A : Option Addr} {R : List (Hd × List Int)} (h : GrowH w b1 A n c R) (hb : b2 ≤ b1) : GrowH w b2 A n c R :=
 ⟨h.own.sink hb, fun r hr => (h.rows r hr).more hb (Nat.le_refl _), h.off⟩
set_option maxRecDepth 100000 in
set_option maxHeartbeats 3200000 in
theorem internalSets_calls {w : World} {N ini : Nat} {A : Option Addr} {n : Nat} {B : Option Addr} {m : Nat} {ls : List ByteArray} {es : List Ed} (h : SysA w N ini A n B m ls es) (c d : Nat) :
  Calls Tryz.prog 201 #[.agg #[.int .i64 (N : Int), .int .i64 (ini : Int), .slice A n c, .slice B m d]] w fun e w' => ∃ A' c' R, e = .returned (.slice A' N c') ∧ GrowH w' w.heap.size A' N c' R ∧ SetsTo es ls N R ∧ Below w.heap.size w w' := by
 have hER := hide elem_rowI
 have hm := h.many
 have hbn := h.bounds
 have hok := hide h.ok
 have hB := h.box (c := c) (d := d)
 obtain ⟨w1, hw1⟩ : ∃ w1, w1 = w.alloc (ltsC N ini A n c B m d) := ⟨_, rfl⟩
 rw [← hw1] at hB
 have b0 := hB.box.c0
 have hz1 := hB.bel.size
 have hg0 : Hid (GrowH w1 w1.heap.size none 0 0 []) := ⟨Own.nil_ _ _ _, fun _ h => (List.not_mem_nil h).elim, fun _ h => (List.not_mem_nil h).elim⟩
 replace hB := hide hB
 clear h
 go_enter Tryz.func201, Tryz.ntmps201
 go_upto_region 1 with fail
 rw [← show w1 = w.alloc (.cells #[.int .i64 (N : Int), .int .i64 (ini : Int), .slice A n c, .slice B m d] 27) from hw1]
 replace hw1 := hide hw1
 go_wp2_with fail
 go_loopw [3, 7] (fun v3 v7 wr => ∃ (k c5 : Nat) (A5 : Option Addr) (R : List (Hd × List Int)), k ≤ N ∧ v7 = .int .i64 (k : Nat) ∧ v3 = .slice A5 k c5 ∧ Hid (GrowH wr w1.heap.size A5 k c5 R) ∧ Hid (SetsTo es ls k R) ∧ Hid (Below w1.heap.size w1 wr)) (fun _ v _ => N - (intOf v).toNat)
 case atStart => exact ⟨0, 0, none, [], Nat.zero_le _, rfl, rfl, hg0.out, ⟨rfl, fun i r hr => (by cases hr)⟩, Below.refl _ _⟩
 case round =>
  clear hg0 b0
  obtain ⟨k, c5, A5, R, hk, rfl, rfl, hG, hRs, hb⟩ := hrel
  by_cases hlt : k < N
  ·have hBr := hB.out.below hb.out
   have k0 : (0 : Int) ≤ (k : Int) := by omega
   have k1 : (k : Int) < (N : Int) := by omega
   have hzr := hb.out.size
   have b0 := hBr.box.c0
   have b1 := hBr.box.c1
   have b2 := hBr.box.c2
   have b3 := hBr.box.c3
   obtain ⟨wA, hwA⟩ : ∃ wA, wA = wr.alloc (.cells #[.int .i64 (k : Int)] 2) := ⟨_, rfl⟩
   have hbA : Below wr.heap.size wr wA := by rw [hwA]; exact (Below.refl _ _).alloc (Nat.le_refl _) _
   have hSy := hBr.sys.below hbA (Nat.le_refl _)
   have hlit : SlI wA 0 (wr.heap.size + 1) (some ⟨wr.heap.size, 0, none⟩) 1 [(k : Int)] := by rw [hwA]; exact Sl.lit1' wr 2 (k : Int) #[.int .i64 (k : Int)] rfl 1 _ rfl
   have q := hide (internal_calls (N : Int) (ini : Int) A n c B m d (some ⟨wr.heap.size, 0, none⟩) 1 1 [(k : Int)] ls es wA _ _ _ _ hSy.ss hSy.se hlit (by omega) (by omega) hok.out)
   have hGA0 := hide (hG.out.below hbA)
   have hzA := hbA.size
   replace hbA := hide hbA
   clear hSy hBr hlit hG
   go_wp2_with fail
   rw [← show wA = wr.alloc (.cells #[.int .i64 (k : Int)] 2) from hwA]
   refine q.out.mono ?_
   rintro e w4 ⟨A4, n4, c4, R4, rfl, hO4, hR4, hn4, hb4⟩
   have hz4 := hb4.size
   have hbB : Below w4.heap.size w4 (w4.alloc (.cells #[.slice A4 n4 c4] 32)) := (Below.refl _ _).alloc (Nat.le_refl _) _
   have hGA := hide ((hGA0.out.below hb4).below hbB)
   have hza : w1.heap.size ≤ (w4.alloc (.cells #[.slice A4 n4 c4] 32)).heap.size := by rw [World.size_alloc]; omega
   have hOa := hide hGA.out.own
   have hown : Hid (∀ b off, 0 < n4 → A4 = some ⟨b, off, none⟩ → (Value.slice A5 k c5).ownBlock ≠ some b) := fun b off hn e e2 => by
    obtain ⟨b', o', e', g1, -⟩ := hO4.at_ hn
    rw [e] at e'
    cases e'
    have := (hGA0.out.own.lt _ e2).2
    omega
   have hsA := hide ((hO4.below hbB (.inr (Nat.le_refl _))).more (show w1.heap.size ≤ wA.heap.size by omega) hbB.size)
   have hbF := hide (((hb.out.trans (hbA.out.mono hzr)).trans (hb4.mono (by omega))).trans (hbB.mono (by omega)))
   have hR4' : Hid (∀ v, v ∈ R4 ↔ TauC es ls (· = (k : Int)) v) := fun v => (hR4 v).trans (TauC.congr (fun v => by simp) v)
   replace hwA := hide hwA
   replace hb4 := hide hb4
   clear q hO4 hbB b0 b1 b2 b3 hR4 hGA0
   go_wp2_with (first | (at_builtin; (with_reducible refine wpList_app rfl (.tmp 10) (.tmp 15) rfl hER.out flat_sv rfl hOa.out rfl (Sl.lit1' w4 32 ((A4, n4, c4) : Hd) _ rfl 1 _ ?c0) ?c1 hza ?_); rotate_right; intro A6 c6 w6 hown6 hgr6 hb6 hat6))
   case c0 => rfl
   case c1 => omega
   have hG6 := hide (hGA.out.push hsA.out hown.out hown6 hgr6 hat6)
   have hR6 := hide (hRs.out.push (x := (A4, n4, c4)) hR4'.out (by show n4 ≤ 41; omega))
   have hb6' := hide (hbF.out.trans hb6)
   go_wp2_with fail
   go_roundw
   case rel => exact ⟨k + 1, c6, A6, _, by omega, by go_num, rfl, hG6.out, hR6.out, hb6'.out⟩
   case measure => simp [intOf]; omega
  ·obtain rfl : k = N := by omega
   have k1 : ¬ (k : Int) < (k : Int) := by omega
   have hbF := hide (hB.out.bel.trans (hb.out.mono hz1))
   go_wp2_with fail
   go_ret
   exact ⟨A5, c5, rfl, R, hG.out.base hz1, hRs.out, hbF.out⟩
end Go.Proofs.YtnhomkmfbngmgaaGreatDoor

namespace Go.Proofs.YtnhomkmfbngmgaaGreatDoor
open Go.ChangeShapes Go.WideShapes Go.ChangeAt Go.RowKit Go.Sort
set_option linter.unusedVariables false

theorem labs_nodup {ls : List ByteArray} (h : namesB ls = true) : ls.Nodup := by
 refine List.pairwise_iff_getElem.2 fun i j hi hj hij e => ?_
 have := labs_rise h (List.getElem?_eq_getElem hi) (List.getElem?_eq_getElem hj) hij
 rw [e, ltL_irr] at this
 cases this
theorem labs_zero {ls : List ByteArray} (h : namesB ls = true) : ls[0]? = some tauB := by
 unfold namesB at h
 rw [Bool.and_eq_true] at h
 have h1 := inB_true.1 h.1
 have hx : ls[0]? = some (ls[0]'(by omega)) := List.getElem?_eq_getElem _
 have h0 := allK_get h.2 (show 0 < ls.length by omega)
 rw [okL_zero hx] at h0
 rw [hx, of_decide_eq_true h0]
theorem filter_valid {N ini : Nat} {ls : List ByteArray} {es : List Ed} (h : ltsV ((N : Int), (ini : Int), ls, es) = true) (G : Ed → Bool) : ltsV ((N : Int), (ini : Int), ls, es.filter G) = true := by
 have hb := (ltsV_edge h).2
 have hl := ltsV_names h
 have he := (ltsV_edge h).1
 exact ltsV_of (by omega) (by omega) hl.1 (Nat.le_trans (List.length_filter_le _ _) hl.2) ((ltsV_rise h).filter _) fun e hx => he e (List.mem_filter.1 hx).1
theorem inert_star {N : Nat} {ls : List ByteArray} {es : List Ed} {p : List Int} (he : EdIn N es) (hn : namesB ls = true) (hl : ∀ e, e ∈ es → 0 ≤ e.2.1 ∧ e.2.1 < (ls.length : Int)) {k : Nat} {v : Int} : TauC (es.filter (inG p)) ls (· = (k : Int)) v ↔ 0 ≤ v ∧ StarR (inrE es p) k v.toNat := by
 rw [tau_star (N := N) (fun e hx => he e (List.mem_filter.1 hx).1) (labs_nodup hn) (labs_zero hn) fun e hx => hl e (List.mem_filter.1 hx).1]
 have key : ∀ x y, nE (es.filter (inG p)) x 0 y ↔ inrE es p x y := fun x y => by
  unfold nE inrE inrt pq nE
  rw [List.mem_filter, inG_true]
  simp
 exact and_congr_right fun _ => ⟨StarR.mono fun x y => (key x y).1, StarR.mono fun x y => (key x y).2⟩
def ofG (p sk : List Int) (e : Ed) : Bool := decide (e.1 ∈ sk) && !(inG p e)
open Classical in
theorem offL_eq {N : Nat} {ls : List ByteArray} {es : List Ed} {p sk : List Int} (he : EdIn N es) {k : Nat} (hs : ∀ v, v ∈ sk ↔ 0 ≤ v ∧ StarR (inrE es p) k v.toNat) : (es.filter (ofG p sk)).map (cdE N p) = offL es N p k := by
 unfold offL
 congr 1
 refine List.filter_congr fun e hx => ?_
 have h1 := he e hx
 rw [Bool.eq_iff_iff]
 unfold ofG
 rw [Bool.and_eq_true, decide_eq_true_eq, hs, Bool.not_eq_true', Bool.eq_false_iff]
 have h2 : ¬ inG p e = true ↔ ¬ (e.2.1 = 0 ∧ pq p e.1.toNat = pq p e.2.2.toNat) := not_congr inG_true
 constructor
 ·rintro ⟨⟨_, a⟩, b⟩
  exact decide_eq_true ⟨a, h2.1 b⟩
 ·intro h
  have := of_decide_eq_true h
  exact ⟨⟨h1.1.1, this.1⟩, h2.2 this.2⟩
theorem dvgI_eq {N : Nat} {es : List Ed} {p : List Int} {dv : Bool} (he : EdIn N es) {k : Nat} (hk : k < N) : dvgI es dv p k = if (dv && inS (dvgL (es.filter (inG p)) N) k) = true then 1 else 0 := by
 have h1 := (inS_dvgL (es := es.filter (inG p)) hk).trans (dvgL_inert he)
 unfold dvgI
 by_cases h2 : Dvg (inrE es p) k
 ·rw [h1.2 h2]
  cases dv <;> simp [h2]
 ·have h3 : inS (dvgL (es.filter (inG p)) N) k = false := Bool.eq_false_iff.2 fun h => h2 (h1.1 h)
  rw [h3]
  cases dv <;> simp [h2]
end Go.Proofs.YtnhomkmfbngmgaaGreatDoor

namespace Go.Proofs.YtnhomkmfbngmgaaGreatDoor
open Go.ChangeShapes Go.WideShapes Go.ChangeAt Go.RowKit Go.Sort
set_option linter.unusedVariables false
set_option linter.unusedSimpArgs false

set_option maxRecDepth 100000 in
set_option maxHeartbeats 1600000 in
theorem l15InertP_calls (bE N : Nat) (P : Option Addr) (cP : Nat) (p : List Int) (f t : Nat) (l : Int) (w : World) (lo hi : Nat) (z0 : w.cell? ⟨bE, 0, none⟩ = some (.int .i64 (f : Int))) (z1 : w.cell? ⟨bE, 1, none⟩ = some (.int .i64 l)) (z2 : w.cell? ⟨bE, 2, none⟩ = some (.int .i64 (t : Int))) (hP : SlI w lo hi P N p) (hf : f < N) (ht : t < N) :
  Calls Tryz.prog 246 #[.pointer (some ⟨bE, 0, none⟩), .slice P N cP] w (Says (inG p ((f : Int), l, (t : Int))) w) := by
 obtain ⟨gP, oP, pf, rfl, -, -, hgP, hpf, cf, -⟩ := SlI.get hP hf
 obtain ⟨gP2, oP2, pt, e2, -, -, -, hpt, ct, -⟩ := SlI.get hP ht
 cases e2
 have hval : Hid (inG p ((f : Int), l, (t : Int)) = ((l == 0) && (pf == pt))) := by
  show _ = _
  unfold inG
  simp only [Int.toNat_natCast, hpf, hpt]
  by_cases h1 : l = 0 <;> by_cases h2 : pf = pt <;> simp [h1, h2]
 have hI2 : (0 : Int) ≤ (f : Int) := by omega
 have hI3 : (f : Int) < (N : Int) := by omega
 have hI4 : (0 : Int) ≤ (t : Int) := by omega
 have hI5 : (t : Int) < (N : Int) := by omega
 replace hpf := hide hpf
 replace hpt := hide hpt
 clear hP
 by_cases hl : l = 0
 ·subst hl
  have g1 : ((0 : Int) == 0) = true := rfl
  go_enter Tryz.func246, Tryz.ntmps246
  go_upto_region 1 with fail
  go_quiet (fail)
  go_wp2_with fail
  go_ret
  exact ⟨by rw [hval.out]; rfl, below_drewN _ _⟩
 ·have g1 : (l == 0) = false := beq_eq_false_iff_ne.2 hl
  go_enter Tryz.func246, Tryz.ntmps246
  go_upto_region 1 with fail
  go_quiet (fail)
  go_wp2_with fail
  go_ret
  exact ⟨by rw [hval.out, g1]; rfl, below_drewN _ _⟩
def MkB (w wr : World) (N : Nat) (b : List Bool) : Prop := SlB wr w.heap.size (w.heap.size + 1) (some ⟨w.heap.size, 0, none⟩) N b ∧ b.length = N
theorem MkB.below {w wr wx : World} {N : Nat} {b : List Bool} (h : MkB w wr N b) (hz : w.heap.size + 1 ≤ wr.heap.size) (hb : Below wr.heap.size wr wx) : MkB w wx N b := ⟨h.1.below hb (.inl hz), h.2⟩
theorem MkB.put {w wr : World} {N : Nat} {b : List Bool} (h : MkB w wr N b) {k : Nat} (hk : k < N) (x : Bool) : MkB w (wr.setCell ⟨w.heap.size, k, none⟩ (.bool x)) N (b.set k x) := by
 have := h.1.put hk x
 rw [Nat.zero_add] at this
 exact ⟨this, by rw [List.length_set]; exact h.2⟩
theorem MkB.at_ {w wr : World} {N : Nat} {b : List Bool} (h : MkB w wr N b) {k : Nat} (hk : k < N) : wr.cell? ⟨w.heap.size, k, none⟩ = some (.bool (inS b k)) ∧ wr.frozen? ⟨w.heap.size, k, none⟩ = false := by
 obtain ⟨h1, h2, -⟩ := h.1.cell' hk
 rw [Nat.zero_add] at h1 h2
 exact ⟨h1, h2⟩
set_option maxRecDepth 100000 in
set_option maxHeartbeats 6400000 in
theorem l15ReachP_calls {w : World} {N ini : Nat} {A : Option Addr} {n : Nat} {B : Option Addr} {m : Nat} {ls : List ByteArray} {es : List Ed} (h : SysA w N ini A n B m ls es) (c d bx : Nat) (hbx : LtsBox w bx (N : Int) (ini : Int) A n c B m d) (P : Option Addr) (cP : Nat) (p : List Int) (hP : SlI w 0 w.heap.size P N p) (k : Nat) (hk : k < N) :
  Calls Tryz.prog 304 #[.pointer (some ⟨bx, 0, none⟩), .slice P N cP, .int .i64 (k : Int)] w fun e w' => ∃ b, e = .returned (.slice (some ⟨w.heap.size, 0, none⟩) N N) ∧ MkB w w' N b ∧ w.heap.size + 1 ≤ w'.heap.size ∧ Below w.heap.size w w' := by
 have hmn := h.many
 obtain ⟨⟨hN1, hN2⟩, hini⟩ := h.bounds
 have hthr := hide h.three
 have hAll : ∀ wx, Below w.heap.size w wx → SysA wx N ini A n B m ls es ∧ LtsBox wx bx (N : Int) (ini : Int) A n c B m d ∧ SlI wx 0 w.heap.size P N p := fun wx hx => ⟨h.below hx (Nat.le_refl _), hbx.below hx hbx.lt, hP.below hx (.inl (Nat.le_refl _))⟩
 replace hAll := hide hAll
 have b0 := hbx.c0
 have hmk := run_make_bool N (by omega)
 obtain ⟨w1, hw1⟩ : ∃ w1, w1 = w.alloc (.cells (madeCells #[.bool false] N) 4) := ⟨_, rfl⟩
 have hb1 : Below w.heap.size w w1 := by rw [hw1]; exact (Below.refl _ _).alloc (Nat.le_refl _) _
 have hM1 : MkB w w1 N (setOf N fun _ => false) := by rw [hw1]; exact ⟨SlB.made w N, by simp [setOf]⟩
 have hz1 : w.heap.size + 1 ≤ w1.heap.size := by rw [hw1, World.size_alloc]; exact Nat.le_refl _
 obtain ⟨d0, d1⟩ := hM1.at_ hk
 have hM2 := hM1.put hk true
 have hb2 := hb1.setCell (p := ⟨w.heap.size, k, none⟩) (Nat.le_refl _) (.bool true)
 obtain ⟨w2, hw2⟩ : ∃ w2, w2 = w1.setCell ⟨w.heap.size, k, none⟩ (.bool true) := ⟨_, rfl⟩
 rw [← hw2] at hM2 hb2
 have hw2' : w2 = w.alloc (.cells ((madeCells #[.bool false] N).setIfInBounds k (.bool true)) 4) := by
  rw [hw2, hw1]; exact World.setCell_alloc_at (w := w) (madeCells #[.bool false] N) 4 w.heap.size k (.bool true) rfl
 have hz2 : w.heap.size + 1 ≤ w2.heap.size := by rw [hw2, World.size_setCell]; exact hz1
 have k0 : (0 : Int) ≤ (k : Int) := by omega
 have k1 : (k : Int) < (N : Int) := by omega
 generalize (setOf N fun _ => false).set k true = s0 at hM2
 replace hM2 := hide hM2
 replace hb2 := hide hb2
 replace hb1 := hide hb1
 clear h hbx hP hM1
 go_enter Tryz.func304, Tryz.ntmps304
 rw [hw1] at d0 d1
 go_upto_region 3 with fail
 rw [← show w2 = _ from hw2']
 replace hw1 := hide hw1
 replace hw2 := hide hw2
 clear d0 d1 b0 hw2'
 go_wp2_with fail
 go_loopg [8] (N + 1) (fun G v8 wr => ∃ (s : List Bool) (mo : Bool), v8 = .bool mo ∧ Hid (MkB w wr N s) ∧ w.heap.size + 1 ≤ wr.heap.size ∧ Hid (Below w.heap.size w wr) ∧ Hid (N + (if mo = true then 1 else 0) ≤ G + numBR s))
 case atStart => exact ⟨s0, true, rfl, hM2.out, hz2, hb2.out, by show _ ≤ _; rw [if_pos rfl]; omega⟩
 case round =>
  clear hM2 hb2
  obtain ⟨s, mo, rfl, hs, hzr, hb, hG⟩ := hrel
  cases mo with
  | false =>
   go_wp2_with fail
   go_ret
   exact ⟨s, rfl, hs.out, hzr, hb.out⟩
  | true =>
   have hg1 := hG.out
   rw [if_pos rfl] at hg1
   have hnl := numBR_le s
   rw [hs.out.2] at hnl
   obtain ⟨G2, rfl⟩ : ∃ G2, gk = G2 + 1 := ⟨gk - 1, by omega⟩
   have hs0 := hs
   have hb0 := hb
   have hz0 := hzr
   obtain ⟨wo, rfl⟩ : ∃ wo : World, wo = wr := ⟨_, rfl⟩
   clear hG hs hb hzr
   go_upto_region 7 with fail
   go_loopw [8, 9] (fun v8 v9 wr => ∃ (j : Nat) (mo : Bool) (u : List Bool), j ≤ m ∧ v9 = .int .i64 (j : Nat) ∧ v8 = .bool mo ∧ Hid (MkB w wr N u) ∧ w.heap.size + 1 ≤ wr.heap.size ∧ Hid (Below w.heap.size w wr) ∧ Hid (N + (if mo = true then 1 else 0) ≤ G2 + numBR u)) (fun _ v _ => m - (intOf v).toNat)
   case atStart => exact ⟨0, false, s, Nat.zero_le _, rfl, rfl, hs0.out, hz0, hb0.out, by show _ ≤ _; rw [if_neg (by decide)]; omega⟩
   case round =>
    clear hs0 hb0
    obtain ⟨j, mo, u, hj, rfl, rfl, hs, hz, hb, hG⟩ := hrel
    have b3 := (hAll.out wr hb.out).2.1.c3
    by_cases hjlt : j < m
    ·have j0 : (0 : Int) ≤ (j : Int) := by omega
     have j1 : (j : Int) < (m : Int) := by omega
     obtain ⟨hSy, -, -⟩ := hAll.out wr hb.out
     obtain ⟨gB, oB, f, l, t, rfl, -, -, hgB, hx, x0, x1, x2, -⟩ := SlE.get hSy.se hjlt
     have hin := hthr.out _ (List.mem_of_getElem? hx)
     (try dsimp only at hin)
     obtain ⟨⟨hf0, hf1⟩, ⟨hl0, hl1⟩, ht0, ht1⟩ := hin
     obtain ⟨f, rfl⟩ : ∃ k : Nat, f = (k : Int) := ⟨f.toNat, by omega⟩
     obtain ⟨t, rfl⟩ : ∃ k : Nat, t = (k : Int) := ⟨t.toNat, by omega⟩
     have hfN : f < N := by omega
     have htN : t < N := by omega
     obtain ⟨wE, hwE⟩ : ∃ wE, wE = wr.alloc (.cells #[.int .i64 (f : Int), .int .i64 l, .int .i64 (t : Int)] 84) := ⟨_, rfl⟩
     obtain ⟨bE, hbE0⟩ : ∃ bE, bE = wr.heap.size := ⟨_, rfl⟩
     have hbE : Below wr.heap.size wr wE := by rw [hwE]; exact (Below.refl _ _).alloc (Nat.le_refl _) _
     have kE : wE.heap[bE]? = some (.cells #[.int .i64 (f : Int), .int .i64 l, .int .i64 (t : Int)] 84 (0, 0)) := by rw [hwE, hbE0]; exact heap_alloc_new wr _
     have z0 : wE.cell? ⟨bE, 0, none⟩ = some (.int .i64 (f : Int)) := (cell_of_row _ _ 0 _ _ (0, 0) kE).trans rfl
     have z1 : wE.cell? ⟨bE, 1, none⟩ = some (.int .i64 l) := (cell_of_row _ _ 1 _ _ (0, 0) kE).trans rfl
     have z2 : wE.cell? ⟨bE, 2, none⟩ = some (.int .i64 (t : Int)) := (cell_of_row _ _ 2 _ _ (0, 0) kE).trans rfl
     have hbW := hide (hb.out.trans (hbE.mono hb.out.size))
     have hPE := (hAll.out wE hbW.out).2.2
     have qI := hide (l15InertP_calls bE N P cP p f t l wE _ _ z0 z1 z2 hPE hfN htN)
     have f0' : (0 : Int) ≤ (f : Int) := by omega
     have f1' : (f : Int) < (N : Int) := by omega
     have t0' : (0 : Int) ≤ (t : Int) := by omega
     have t1' : (t : Int) < (N : Int) := by omega
     generalize hig : inG p ((f : Int), l, (t : Int)) = ig at qI
     replace hig := hide hig
     replace kE := hide kE
     replace hx := hide hx
     have hbEh := hide hbE
     have hzr := hb.out.size
     have hsE := hide (hs.out.below hz hbE)
     have hzE : w.heap.size + 1 ≤ wE.heap.size := Nat.le_trans hz hbE.size
     obtain ⟨m0, -⟩ := hsE.out.at_ hfN
     obtain ⟨m1, m2⟩ := hsE.out.at_ htN
     clear hSy hbE hs
     go_upto_region 10 with fail
     clear b3 x0 x1 x2
     rw [← show wE = _ from hwE, ← hbE0]
     replace hwE := hide hwE
     replace hbE0 := hide hbE0
     cases hf : inS u f with
     | false =>
      rw [hf] at m0
      replace hf := hide hf
      clear qI
      go_wp2_with fail
      go_roundw
      case rel => exact ⟨j + 1, mo, u, by omega, by go_num, rfl, hsE.out, hzE, hbW.out, hG.out⟩
      case measure => simp [intOf]; omega
     | true =>
      rw [hf] at m0
      replace hf := hide hf
      cases ht : inS u t with
      | true =>
       rw [ht] at m1
       replace ht := hide ht
       clear qI
       go_wp2_with fail
       go_roundw
       case rel => exact ⟨j + 1, mo, u, by omega, by go_num, rfl, hsE.out, hzE, hbW.out, hG.out⟩
       case measure => simp [intOf]; omega
      | false =>
       rw [ht] at m1
       go_wp2_with fail
       refine qI.out.mono ?_
       rintro e w4 ⟨rfl, hb4⟩
       have hs4 := hide (hsE.out.below hzE hb4)
       have hz4 : w.heap.size + 1 ≤ w4.heap.size := Nat.le_trans hzE hb4.size
       have hb4W := hide (hbW.out.trans (hb4.mono hbW.out.size))
       obtain ⟨n1, n2⟩ := hs4.out.at_ htN
       have z24 := (hb4.cell (p := ⟨bE, 2, none⟩) (Array.getElem?_eq_some_iff.1 kE.out).1).trans z2
       clear qI hb4 z0 z1 z2 m0 m1 m2
       cases ig with
       | false =>
        replace ht := hide ht
        go_wp2_with fail
        go_roundw
        case rel => exact ⟨j + 1, mo, u, by omega, by go_num, rfl, hs4.out, hz4, hb4W.out, hG.out⟩
        case measure => simp [intOf]; omega
       | true =>
        have hs5 := hide (hs4.out.put htN true)
        have hb5 := hide (hb4W.out.setCell (p := ⟨w.heap.size, t, none⟩) (Nat.le_refl _) (.bool true))
        have hG5 : Hid (N + (if true = true then 1 else 0) ≤ G2 + numBR (u.set t true)) := by
         have h1 := numBR_set (s := u) (v := t) (by rw [hs4.out.2]; exact htN) ht
         have h2 := hG.out
         show _ ≤ _
         rw [if_pos rfl, h1]
         split at h2 <;> omega
        replace ht := hide ht
        go_wp2_with fail
        go_roundw
        case rel => exact ⟨j + 1, true, u.set t true, by omega, by go_num, rfl, hs5.out, by rw [World.size_setCell]; exact hz4, hb5.out, hG5.out⟩
        case measure => simp [intOf]; omega
    ·obtain rfl : j = m := by omega
     have i1 : ¬ (j : Int) < (j : Int) := by omega
     go_wp2_with fail
     go_roundg G2
     case rel => exact ⟨u, mo, rfl, hs.out, hz, hb.out, hG.out⟩
     case measure => exact Nat.lt_succ_self _
set_option maxRecDepth 100000 in
set_option maxHeartbeats 6400000 in
theorem l15Offers_calls {w : World} {N ini : Nat} {A : Option Addr} {n : Nat} {B : Option Addr} {m : Nat} {ls : List ByteArray} {es : List Ed} (h : SysA w N ini A n B m ls es) (c d bx : Nat) (hbx : LtsBox w bx (N : Int) (ini : Int) A n c B m d) (P : Option Addr) (cP : Nat) (p : List Int) (hP : SlI w 0 w.heap.size P N p) (hp : ∀ x, x ∈ p → 0 ≤ x ∧ x ≤ 1000) (k : Nat) (hk : k < N) :
  Calls Tryz.prog 243 #[.pointer (some ⟨bx, 0, none⟩), .slice P N cP, .int .i64 (k : Int)] w fun e w' => ∃ A' n' c' l', e = .returned (.slice A' n' c') ∧ Own 1 iv w' w.heap.size 2 A' n' c' l' ∧ n' ≤ 300 ∧ Below w.heap.size w w' := by
 have hmn := h.many
 obtain ⟨⟨hN1, hN2⟩, hini⟩ := h.bounds
 have hthr := hide h.three
 have hAll : ∀ wx, Below w.heap.size w wx → SysA wx N ini A n B m ls es ∧ LtsBox wx bx (N : Int) (ini : Int) A n c B m d ∧ SlI wx 0 w.heap.size P N p := fun wx hx => ⟨h.below hx (Nat.le_refl _), hbx.below hx hbx.lt, hP.below hx (.inl (Nat.le_refl _))⟩
 replace hAll := hide hAll
 have b0 := hbx.c0
 have q := hide (l15ReachP_calls h c d bx hbx P cP p hP k hk)
 clear h hbx hP
 go_enter Tryz.func243, Tryz.ntmps243
 go_wp2_with fail
 refine q.out.mono ?_
 rintro e w2 ⟨sb, rfl, hM, hz2, hb2⟩
 obtain ⟨w3, hw3⟩ : ∃ w3, w3 = w2.alloc (.cells #[] 2) := ⟨_, rfl⟩
 have hb23 : Below w2.heap.size w2 w3 := by rw [hw3]; exact (Below.refl _ _).alloc (Nat.le_refl _) _
 have hM3 := hide (hM.below hz2 hb23)
 have hb3 := hide (hb2.trans (hb23.mono hb2.size))
 have hz3 : w.heap.size + 1 ≤ w3.heap.size := Nat.le_trans hz2 hb23.size
 have hO3 : Hid (SlI w3 w2.heap.size w3.heap.size (some ⟨w2.heap.size, 0, none⟩) 0 []) := ⟨rfl, fun h => absurd h (Nat.lt_irrefl 0)⟩
 have hOw3 : Hid (Own 1 iv w3 w2.heap.size 2 (some ⟨w2.heap.size, 0, none⟩) 0 0 []) := by show Own _ _ _ _ _ _ _ _ _; rw [hw3]; exact Own.made w2 _ (Nat.le_refl _)
 have hz23 := hb23.size
 clear q hM hb2 hb23 b0
 go_upto_region 3 with fail
 rw [← show w3 = _ from hw3]
 replace hw3 := hide hw3
 go_wp2_with fail
 go_loopw [8, 9] (fun v8 v9 wr => ∃ (j n5 c5 : Nat) (A5 : Option Addr) (L : List Int), j ≤ m ∧ v9 = .int .i64 (j : Nat) ∧ v8 = .slice A5 n5 c5 ∧ n5 ≤ j ∧ Hid (Own 1 iv wr w2.heap.size 2 A5 n5 c5 L) ∧ Hid (L.Pairwise (· < ·)) ∧ Hid (MkB w wr N sb) ∧ w.heap.size + 1 ≤ wr.heap.size ∧ Hid (Below w.heap.size w wr) ∧ Hid (w2.heap.size ≤ wr.heap.size)) (fun _ v _ => m - (intOf v).toNat)
 case atStart => exact ⟨0, 0, 0, _, [], Nat.zero_le _, rfl, rfl, Nat.le_refl _, hOw3.out, List.Pairwise.nil, hM3.out, hz3, hb3.out, hz23⟩
 case round =>
  clear hOw3 hO3 hM3 hb3
  obtain ⟨j, n5, c5, A5, L, hj, rfl, rfl, hn5, hO, hL, hs, hz, hb, hz2r⟩ := hrel
  have b3 := (hAll.out wr hb.out).2.1.c3
  by_cases hjlt : j < m
  ·have j0 : (0 : Int) ≤ (j : Int) := by omega
   have j1 : (j : Int) < (m : Int) := by omega
   obtain ⟨hSy, -, -⟩ := hAll.out wr hb.out
   obtain ⟨gB, oB, f, l, t, rfl, -, -, hgB, hx, x0, x1, x2, -⟩ := SlE.get hSy.se hjlt
   have hin := hthr.out _ (List.mem_of_getElem? hx)
   (try dsimp only at hin)
   obtain ⟨⟨hf0, hf1⟩, ⟨hl0, hl1⟩, ht0, ht1⟩ := hin
   obtain ⟨f, rfl⟩ : ∃ k : Nat, f = (k : Int) := ⟨f.toNat, by omega⟩
   obtain ⟨t, rfl⟩ : ∃ k : Nat, t = (k : Int) := ⟨t.toNat, by omega⟩
   have hfN : f < N := by omega
   have htN : t < N := by omega
   obtain ⟨wE, hwE⟩ : ∃ wE, wE = wr.alloc (.cells #[.int .i64 (f : Int), .int .i64 l, .int .i64 (t : Int)] 84) := ⟨_, rfl⟩
   obtain ⟨bE, hbE0⟩ : ∃ bE, bE = wr.heap.size := ⟨_, rfl⟩
   have hbE : Below wr.heap.size wr wE := by rw [hwE]; exact (Below.refl _ _).alloc (Nat.le_refl _) _
   have kE : wE.heap[bE]? = some (.cells #[.int .i64 (f : Int), .int .i64 l, .int .i64 (t : Int)] 84 (0, 0)) := by rw [hwE, hbE0]; exact heap_alloc_new wr _
   have z0 : wE.cell? ⟨bE, 0, none⟩ = some (.int .i64 (f : Int)) := (cell_of_row _ _ 0 _ _ (0, 0) kE).trans rfl
   have z1 : wE.cell? ⟨bE, 1, none⟩ = some (.int .i64 l) := (cell_of_row _ _ 1 _ _ (0, 0) kE).trans rfl
   have z2 : wE.cell? ⟨bE, 2, none⟩ = some (.int .i64 (t : Int)) := (cell_of_row _ _ 2 _ _ (0, 0) kE).trans rfl
   have hbW := hide (hb.out.trans (hbE.mono hb.out.size))
   have hPE := (hAll.out wE hbW.out).2.2
   have qI := hide (l15InertP_calls bE N P cP p f t l wE _ _ z0 z1 z2 hPE hfN htN)
   have f0' : (0 : Int) ≤ (f : Int) := by omega
   have f1' : (f : Int) < (N : Int) := by omega
   have t0' : (0 : Int) ≤ (t : Int) := by omega
   have t1' : (t : Int) < (N : Int) := by omega
   generalize hig : inG p ((f : Int), l, (t : Int)) = ig at qI
   replace hig := hide hig
   replace kE := hide kE
   replace hx := hide hx
   have hbEh := hide hbE
   have hzr := hb.out.size
   have hsE := hide (hs.out.below hz hbE)
   have hzE : w.heap.size + 1 ≤ wE.heap.size := Nat.le_trans hz hbE.size
   have hOE := hide (hO.out.below hbE (Nat.le_refl _))
   obtain ⟨m0, -⟩ := hsE.out.at_ hfN
   clear hSy hs hO hbE
   go_upto_region 7 with fail
   clear b3 x0 x1 x2
   rw [← show wE = _ from hwE, ← hbE0]
   replace hwE := hide hwE
   replace hbE0 := hide hbE0
   cases hf : inS sb f with
   | false =>
    rw [hf] at m0
    replace hf := hide hf
    clear qI
    go_wp2_with fail
    go_roundw
    case rel => exact ⟨j + 1, n5, c5, A5, L, by omega, by go_num, rfl, by omega, hOE.out, hL.out, hsE.out, hzE, hbW.out, Nat.le_trans hz2r.out hbEh.out.size⟩
    case measure => simp [intOf]; omega
   | true =>
    rw [hf] at m0
    replace hf := hide hf
    go_wp2_with fail
    refine qI.out.mono ?_
    rintro e w4 ⟨rfl, hb4⟩
    have hs4 := hide (hsE.out.below hzE hb4)
    have hz4 : w.heap.size + 1 ≤ w4.heap.size := Nat.le_trans hzE hb4.size
    have hb4W := hide (hbW.out.trans (hb4.mono hbW.out.size))
    have hO4 := hide (hOE.out.below hb4 (Nat.le_refl _))
    have kE4 := hide ((hb4.block _ (Array.getElem?_eq_some_iff.1 kE.out).1).trans kE.out)
    have hz24 := hide (Nat.le_trans hz2r.out (Nat.le_trans hbEh.out.size hb4.size))
    clear qI hb4 z0 z1 z2 m0
    cases ig with
    | true =>
     go_wp2_with fail
     go_roundw
     case rel => exact ⟨j + 1, n5, c5, A5, L, by omega, by go_num, rfl, by omega, hO4.out, hL.out, hs4.out, hz4, hb4W.out, hz24.out⟩
     case measure => simp [intOf]; omega
    | false =>
     obtain ⟨gP, oP, pt, rfl, -, -, hgP0, hpt, -, -⟩ := SlI.get (hAll.out w4 hb4W.out).2.2 htN
     have hpr := hp pt (List.mem_of_getElem? hpt)
     have hlN0 : 0 ≤ l * (N : Int) := Int.mul_nonneg hl0 (by omega)
     have hlN1 : l * (N : Int) ≤ 12 * 40 := Int.mul_le_mul (by omega) (by omega) (by omega) (by omega)
     have hm1 : IntKind.i64.wrap (l * (N : Int)) = l * (N : Int) := IntWalk.i64_in _ (by omega)
     have hm2 : IntKind.i64.wrap (l * (N : Int) + pt) = l * (N : Int) + pt := IntWalk.i64_in _ (by omega)
     obtain ⟨wD, hwD⟩ : ∃ wD, wD = w4.drew := ⟨_, rfl⟩
     have hbD : Below w4.heap.size w4 wD := by rw [hwD]; exact (Below.refl _ _).drew
     have hOD := hO4.out.below hbD (Nat.le_refl _)
     have hq := hide (l00Put_calls A5 n5 c5 L (l * (N : Int) + pt) wD _ _ (hOD.sl flat_iv) hL.out (by omega))
     have hSS : Hid (∀ wx, Below wD.heap.size wD wx → wx.cell? ⟨bE, 1, none⟩ = some (.int .i64 l) ∧ wx.cell? ⟨bE, 2, none⟩ = some (.int .i64 (t : Int)) ∧ wx.cell? ⟨gP, oP + t, none⟩ = some (.int .i64 pt)) := fun wx hx2 => by
      have h1 := hbD.trans (hx2.mono hbD.size)
      have k8 := (h1.block _ (Array.getElem?_eq_some_iff.1 kE4.out).1).trans kE4.out
      obtain ⟨g2, o2, v2, e2, -, -, -, hv2, c2, -⟩ := SlI.get (hAll.out wx (hb4W.out.trans (h1.mono hb4W.out.size))).2.2 htN
      cases e2
      rw [hpt] at hv2
      cases hv2
      exact ⟨(cell_of_row _ _ 1 _ _ (0, 0) k8).trans rfl, (cell_of_row _ _ 2 _ _ (0, 0) k8).trans rfl, c2⟩
     have hbDh := hide hbD
     have hasc := hide (putI_asc (n := l * (N : Int) + pt) hL.out)
     replace hwD := hide hwD
     replace hpt := hide hpt
     clear hbD hOD
     go_upto_region 8 with fail
     focus
        refine lateT_begin (S := fun w' => w'.cell? ⟨bE, 1, none⟩ = some (.int .i64 l) ∧ w'.cell? ⟨bE, 2, none⟩ = some (.int .i64 (t : Int)) ∧ w'.cell? ⟨gP, oP + t, none⟩ = some (.int .i64 pt)) (st := 13) (by kernel_rfl) ?_
        rw [← show wD = _ from hwD.out]
        have hS0 : (fun w' : World => w'.cell? ⟨bE, 1, none⟩ = some (.int .i64 l) ∧ w'.cell? ⟨bE, 2, none⟩ = some (.int .i64 (t : Int)) ∧ w'.cell? ⟨gP, oP + t, none⟩ = some (.int .i64 pt)) wD := hSS.out wD (Below.refl _ _)
        refine tkA ?_ 0 [13] rfl (Or.inl ⟨by rfl, ?hy⟩) hS0 ?_
        case hy => intro w hSw; (try dsimp only at hSw); go_simp <;> with_reducible rfl
        (try simp only [Act.put, sA, sB, sC])
        refine tkA ?_ 1 [13] rfl (Or.inl ⟨by rfl, ?hy⟩) hS0 ?_
        case hy => intro w hSw; (try dsimp only at hSw); go_simp <;> with_reducible rfl
        (try simp only [Act.put, sA, sB, sC])
        refine tkA ?_ 2 [13] rfl (Or.inl ⟨by rfl, ?hy⟩) hS0 ?_
        case hy => intro w hSw; (try dsimp only at hSw); go_simp <;> with_reducible rfl
        (try simp only [Act.put, sA, sB, sC])
        refine tkA ?_ 3 [13] rfl (Or.inl ⟨by rfl, ?hy⟩) hS0 ?_
        case hy => intro w hSw; (try dsimp only at hSw); go_simp <;> with_reducible rfl
        (try simp only [Act.put, sA, sB, sC])
        refine tkA ?_ 6 [13] rfl (Or.inl ⟨by rfl, ?hy⟩) hS0 ?_
        case hy => intro w hSw; (try dsimp only at hSw); go_simp <;> with_reducible rfl
        (try simp only [Act.put, sA, sB, sC])
        refine tkA ?_ 7 [13] rfl (Or.inl ⟨by rfl, ?hy⟩) hS0 ?_
        case hy => intro w hSw; (try dsimp only at hSw); go_simp <;> with_reducible rfl
        (try simp only [Act.put, sA, sB, sC])
        refine tkA ?_ 8 [13] rfl (Or.inl ⟨by rfl, ?hy⟩) hS0 ?_
        case hy => intro w hSw; (try dsimp only at hSw); go_simp <;> with_reducible rfl
        (try simp only [Act.put, sA, sB, sC])
        refine tkA ?_ 9 [13] rfl (Or.inl ⟨by rfl, ?hy⟩) hS0 ?_
        case hy => intro w hSw; (try dsimp only at hSw); go_simp <;> with_reducible rfl
        (try simp only [Act.put, sA, sB, sC])
        refine tkA ?_ 10 [13] rfl (Or.inl ⟨by rfl, ?hy⟩) hS0 ?_
        case hy => intro w hSw; (try dsimp only at hSw); go_simp <;> with_reducible rfl
        (try simp only [Act.put, sA, sB, sC])
        refine lateT_step (i := 4) (by kernel_rfl) rfl (fun K hK => ?_)
        go_simp
        refine hK.out _ _ (fun _ => hSS.out wD (Below.refl _ _)) ?_
        clear hK K
        (try simp only [Act.put, sA, sB, sC])
        refine lateT_step (i := 5) (by kernel_rfl) rfl (fun K hK => ?_)
        go_simp
        refine hK.out _ _ (fun _ => hSS.out wD (Below.refl _ _)) ?_
        clear hK K
        (try simp only [Act.put, sA, sB, sC])
        refine lateT_step (i := 11) (by kernel_rfl) rfl (fun K hK => ?_)
        go_simp
        refine hK.out _ _ (fun _ => hSS.out wD (Below.refl _ _)) ?_
        clear hK K
        (try simp only [Act.put, sA, sB, sC])
        refine lateT_step (i := 12) (by kernel_rfl) rfl (fun K hK => ?_)
        go_simp
        go_at_call 256
        (with_reducible refine hq.out.mono ?_)
        rintro e w6 ⟨A7, n7, c7, rfl, hO7, hn7, hb7⟩
        have hS7 := hide (hSS.out w6 hb7)
        have hb7h := hide hb7
        have hO7h := hide hO7
        clear hO7 hb7
        (try go_wp2_with fail)
        refine hK.out _ _ (fun _ => hS7.out) ?_
        clear hK K
        (try simp only [Act.put, sA, sB, sC])
        refine lateT_step (i := 13) (by kernel_rfl) rfl (fun K hK => ?_)
        go_simp
        refine hK.out _ _ (fun h => absurd rfl h) ?_
        clear hK K
        (try simp only [Act.put, sA, sB, sC])
        refine lateT_done (by kernel_rfl) ?_ _
        have hs7 := hide (hs4.out.below hz4 (hbDh.out.trans (hb7h.out.mono hbDh.out.size)))
        have hb7W := hide (hb4W.out.trans ((hbDh.out.trans (hb7h.out.mono hbDh.out.size)).mono hb4W.out.size))
        have hO8 := hide (hO7h.out.sink (show w2.heap.size ≤ wD.heap.size from Nat.le_trans hz24.out hbDh.out.size))
        have hz7 : w.heap.size + 1 ≤ w6.heap.size := Nat.le_trans hz4 (Nat.le_trans hbDh.out.size hb7h.out.size)
        go_wp2_with fail
        go_roundw
        case rel => exact ⟨j + 1, n7, c7, A7, _, by omega, by go_num, rfl, by omega, hO8.out, hasc.out, hs7.out, hz7, hb7W.out, Nat.le_trans hz24.out (Nat.le_trans hbDh.out.size hb7h.out.size)⟩
        case measure => simp [intOf]; omega
  ·obtain rfl : j = m := by omega
   have i1 : ¬ (j : Int) < (j : Int) := by omega
   have hOF := hide (hO.out.sink (show w.heap.size ≤ w2.heap.size by omega))
   go_wp2_with fail
   go_ret
   exact ⟨A5, n5, c5, rfl, ⟨L, hOF.out⟩, by omega, hb.out⟩
end Go.Proofs.YtnhomkmfbngmgaaGreatDoor
