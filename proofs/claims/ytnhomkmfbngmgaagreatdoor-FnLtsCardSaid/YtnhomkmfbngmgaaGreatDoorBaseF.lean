/-
  Lemmas that the law of this claim leans on. Conditions: sizes.
-/
import Derived.Test.YtnhomkmfbngmgaaGreatDoorBaseA
import Derived.Test.YtnhomkmfbngmgaaGreatDoorBaseB
import Derived.Test.YtnhomkmfbngmgaaGreatDoorBaseC
import Derived.Test.YtnhomkmfbngmgaaGreatDoorBaseD
import Derived.Test.YtnhomkmfbngmgaaGreatDoorBaseE
import Derived.Outline
import Derived.WalkSpells
import Derived.Laws.CopyOwn
import Derived.Laws.Bits64b
import Derived.StillTailTactics
import Derived.Deep.RegionLaw
import Derived.Deep.LoopGhost
import Derived.ArgAppend
import Derived.StillTail
import Derived.OrdersHeld
import Derived.Deep.RegionHeld3
set_option maxHeartbeats 6400000
set_option maxRecDepth 100000
set_option linter.unusedSimpArgs false
set_option linter.unusedVariables false
namespace Go.Proofs.YtnhomkmfbngmgaaGreatDoor
open Go.ChangeShapes Go.WideShapes Go.ChangeAt Go.RowKit
theorem mul64_one (n : Nat) (hn : n ≤ 1048576) (w : World) : Calls Tryz.prog 321 #[.int .u64 1, .int .u64 n] w fun e w' => e = .returned (.tuple #[.int .u64 0, .int .u64 n]) ∧ w = w' := by
 have m1 : bits .and .u64 (1 : Int) 4294967295 = 1 := bits_and_u64_nat 1 4294967295 (by omega) (by omega);have m2 : bits .and .u64 (n : Int) 4294967295 = n := by
  have h := bits_and_u64_nat n 4294967295 (by omega) (by omega);have e : n &&& 4294967295 = n := by
   rw [Nat.and_two_pow_sub_one_eq_mod n 32];omega
  rw [e] at h;exact h
 have d1 : (n : Int) / 4294967296 = 0 := by omega
 have m0 : bits .and .u64 (0 : Int) 4294967295 = 0 := bits_and_u64_nat 0 4294967295 (by omega) (by omega);go_enter Tryz.func321, Tryz.ntmps321
 go_wp2
 go_ret2;exact ⟨by simp [m1, m2, d1, m0], rfl⟩
theorem mul_one' (n : Nat) (hn : n ≤ 1048576) (w : World) : Calls Tryz.prog 266 #[.int .u64 1, .int .u64 n] w fun e w' => e = .returned (.tuple #[.int .u64 0, .int .u64 n]) ∧ w = w' := by
 have q := hide (mul64_one n hn w);go_enter Tryz.func266, Tryz.ntmps266
 go_wp2_with (go_at_call 321; refine q.out.mono ?_; rintro e w' ⟨rfl, rfl⟩)
 go_ret2;exact ⟨rfl, rfl⟩
def rowR (v z : Value) (m n : Nat) : List Value := List.replicate m v ++ List.replicate (n - m) z
theorem rowR_len (v z : Value) {m n : Nat} (h : m ≤ n) : (rowR v z m n).length = n := by unfold rowR; simp; omega
theorem rowR_get (v z : Value) {m n j : Nat} (h : j < m) : (rowR v z m n)[j]? = some v := by
 unfold rowR;rw [List.getElem?_append_left (by simpa using h)]
 simp [h]
theorem rowR_splice (v z : Value) {m k n : Nat} (h : m + k ≤ n) : splice (rowR v z m n) m (List.replicate k v) = rowR v z (m + k) n := by
 unfold splice rowR;rw [List.take_left' (by simp), List.drop_append, List.length_replicate, List.drop_replicate, List.drop_replicate, List.length_replicate];have e1 : m - (m + k) = 0 := by omega
 have e2 : n - m - (m + k - m) = n - (m + k) := by omega
 rw [e1, e2, List.replicate_zero, List.nil_append, ← List.append_assoc, List.replicate_append_replicate]
theorem repeatI_calls (A : Option Addr) (c : Nat) (b : Int) (n : Nat) (w : World) (lo hi : Nat) (h : SlI w lo hi A 1 [b]) (hn0 : 0 < n) (hn : n ≤ 1048576) :
  Calls Tryz.prog 221 #[.slice A 1 c, .int .i64 n] w fun e w' => ∃ A', e = .returned (.slice A' n n) ∧ SlI w' w.heap.size w'.heap.size A' n (List.replicate n b) ∧ Below w.heap.size w w' := by
 have hmk := run_make_int n hn;obtain ⟨b1, o1, rfl, g1, g2, g3, hc⟩ := h.at_ (by omega);have c0 := (hc 0 b rfl 0 _ rfl).1;simp only [Nat.zero_mul, Nat.add_zero] at c0;have hsz : (Tryz.prog.info? 2).map (·.size) = some 1 := by kernel_rfl
 have hb0 : Below w.heap.size w (w.alloc (.cells (madeCells #[.int .i64 0] n) 2)) := bR.alloc zR _;have c1 := (hb0.cell (p := ⟨b1, o1, none⟩) g3).trans c0;have hrow : (w.alloc (.cells (madeCells #[.int .i64 0] n) 2)).heap[w.heap.size]? = some (.cells (rowR (.int .i64 b) (.int .i64 0) 0 n).toArray 2 (0, 0)) := by
  rw [heap_alloc_new]
  congr 2
  apply Array.ext'
  rw [toList_madeCells_one]
  simp [rowR]
 replace hrow := hide hrow;replace hb0 := hide hb0;replace c1 := hide c1;replace hsz := hide hsz;have hE := hide elem_int64;clear hc h;go_enter Tryz.func221, Tryz.ntmps221;go_wp2_with (first | (go_at_call 266; (with_reducible refine (mul_one' n hn _).mono ?_); rintro e w' ⟨rfl, rfl⟩) | (with_reducible refine wpList_copy_splice rfl (.tmp 31) (.tmp 32) 32 32 rfl 2 Tryz.underlying32 hsz.out (some ⟨w.heap.size, 0, none⟩) (some ⟨b1, o1, none⟩) n n 1 c rfl rfl w.heap.size 0 (rowR (.int .i64 b) (.int .i64 0) 0 n) 2 hrow.out [.int .i64 b] ?k1 (fun _ => ⟨rfl, ⟨b1, o1, none⟩, rfl, ?k2⟩) ?k3 ?k4 w.heap.size w hb0.out zR ?_))
 case k1 => show 1 = min 1 n; omega
 case k2 =>
  intro j v hj
  match j, hj with
  | 0, hj => simp at hj; subst hj; simpa [Addr.add] using c1.out
 case k3 => rw [rowR_len _ _ (Nat.zero_le _)]; simp; omega
 case k4 => intro v hv; simp at hv; subst hv; rfl
 rintro w1 hr1 hb1;have hr1' : Hid (w1.heap[w.heap.size]? = some (.cells (rowR (.int .i64 b) (.int .i64 0) 1 n).toArray 2 (0, 0))) := by
  have := rowR_splice (.int .i64 b) (.int .i64 0) (m := 0) (k := 1) (n := n) (by omega);rw [List.replicate_one, Nat.zero_add] at this
  show _ = _
  rw [← this];exact hr1.out
 clear hr1 hrow hb0 c1 hmk
 go_wp2
 go_loopg [8] n (fun N m wr => ∃ k : Nat, 1 ≤ k ∧ k ≤ n ∧ m = .int .i64 k ∧ Hid (wr.heap[w.heap.size]? = some (.cells (rowR (.int .i64 b) (.int .i64 0) k n).toArray 2 (0, 0))) ∧ Below w.heap.size w wr ∧ Hid (n - k ≤ N))
 case atStart => exact ⟨1, zR, hn0, rfl, hr1', hb1, by show _ ≤ _; omega⟩
 case round =>
  obtain ⟨k, hk1, hk, rfl, hr, hb, hN⟩ := hrel;clear hr1' hb1
  by_cases hlt : k < n
  ·have hcut : ∀ W : World, (Instr.slice 32 (.slice (some ⟨w.heap.size, 0, none⟩) n n) (some (.int .i64 (k : Int))) none none).run Tryz.prog W = .ok (.slice (some ⟨w.heap.size, k, none⟩) (n - k) (n - k)) W := fun W => by
    rw [run_cut elem_int64 (some ⟨w.heap.size, 0, none⟩) n n k hk W];unfold cutA;rw [if_neg (by omega), Option.map_some, addr_add, Nat.zero_add, Nat.mul_one]
   have hhead : ∀ W : World, (Instr.slice 32 (.slice (some ⟨w.heap.size, 0, none⟩) n n) none (some (.int .i64 (k : Int))) none).run Tryz.prog W = .ok (.slice (some ⟨w.heap.size, 0, none⟩) k n) W := fun W => run_head elem_int64 (some ⟨w.heap.size, 0, none⟩) n n k hk W
   have hzw := hide ((Array.getElem?_eq_some_iff.1 hr.out).1);have i1 : (0 : Int) ≤ (k : Int) := by omega
   have i2 : (k : Int) ≤ (n : Int) := by omega
   obtain ⟨N2, rfl⟩ : ∃ N2, gk = N2 + 1 := ⟨gk - 1, by have := hN.out; omega⟩;have k2 : Hid (∀ j v, (List.replicate (Nat.min k (n - k)) (Value.int .i64 b))[j]? = some v → wr.drew.cell? ((⟨w.heap.size, 0, none⟩ : Addr).add j) = some v) := by
    intro j v hj;have hjk : j < Nat.min k (n - k) := by
     have := (List.getElem?_eq_some_iff.1 hj).1
     simpa using this
    have hjk2 : j < k := Nat.lt_of_lt_of_le hjk (Nat.min_le_left _ _);have hv : v = .int .i64 b := List.eq_of_mem_replicate (List.mem_of_getElem? hj);subst hv;rw [addr_add, Nat.zero_add];refine (cell_of_row _ _ _ _ _ (0, 0) (show wr.drew.heap[w.heap.size]? = _ from hr.out)).trans ?_
    simpa using rowR_get _ _ hjk2
   have k3 : Hid (k + (List.replicate (Nat.min k (n - k)) (Value.int .i64 b)).length ≤ (rowR (.int .i64 b) (.int .i64 0) k n).length) := by
    show _ ≤ _
    rw [rowR_len _ _ hk, List.length_replicate]; have : Nat.min k (n - k) ≤ n - k := Nat.min_le_right k (n - k); omega
   have k4 : Hid (∀ v, v ∈ List.replicate (Nat.min k (n - k)) (Value.int .i64 b) → v.oneCell' = true) := fun v hv => by rw [List.eq_of_mem_replicate hv]; rfl
   have k5 : Hid (wr.drew.heap[w.heap.size]? = some (.cells (rowR (.int .i64 b) (.int .i64 0) k n).toArray 2 (0, 0))) := hr.out;have k6 := hide hb.drew
   go_wp2
   go_region_law (refine step_copy_splice (by rfl) (.tmp 41) (.tmp 44) 32 32 (by rfl) 2 Tryz.underlying32 hsz.out (some ⟨w.heap.size, k, none⟩) (some ⟨w.heap.size, 0, none⟩) (n - k) (n - k) k n (by go_simp) (by go_simp) w.heap.size k (rowR (.int .i64 b) (.int .i64 0) k n) 2 k5.out (List.replicate (Nat.min k (n - k)) (.int .i64 b)) (List.length_replicate ..) (fun _ => ⟨rfl, ⟨w.heap.size, 0, none⟩, rfl, k2.out⟩) k3.out k4.out w.heap.size w k6.out zR ?_; intro w2 hr2 hb2)
   have hmn : k + Nat.min k (n - k) ≤ n := by have : Nat.min k (n - k) ≤ n - k := Nat.min_le_right k (n - k); omega
   have hmp : 1 ≤ Nat.min k (n - k) := by show 1 ≤ min k (n - k); omega
   have hr2' : Hid (w2.heap[w.heap.size]? = some (.cells (rowR (.int .i64 b) (.int .i64 0) (k + Nat.min k (n - k)) n).toArray 2 (0, 0))) := by
    show _ = _
    rw [← rowR_splice (.int .i64 b) (.int .i64 0) hmn];exact hr2.out
   clear hr2 hcut hhead
   try simp only [List.length_replicate, goInt]
   generalize Nat.min k (n - k) = q at *
   go_wp2
   go_roundg N2
   case measure => omega
   case rel => exact ⟨k + q, by omega, hmn, by rw [IntWalk.i64_in _ (by omega)]; go_num, hr2', hb2, by show _ ≤ _; have := hN.out; omega⟩
  ·have hkn : k = n := by omega
   subst hkn;have hzw := (Array.getElem?_eq_some_iff.1 hr.out).1
   go_wp2
   go_ret;refine ⟨_, rfl, ⟨by simp, fun _ => ⟨w.heap.size, 0, rfl, zR, hzw, hzw, fun i x hx j u hu => ?_⟩⟩, hb⟩
   have hik : i < k := by
    have := (List.getElem?_eq_some_iff.1 hx).1
    simpa using this
   have hxb : x = b := List.eq_of_mem_replicate (List.mem_of_getElem? hx);subst hxb;have hj : j = 0 := by
    have := (List.getElem?_eq_some_iff.1 hu).1
    simp [iv] at this
    exact this
   subst hj
   simp [iv] at hu
   subst hu;refine ⟨(cell_of_row _ _ _ _ _ (0, 0) hr.out).trans ?_, frozen_of_row _ _ _ _ _ hr.out⟩;have := rowR_get (.int .i64 x) (.int .i64 0) (m := k) (n := k) hik
   simpa using this
def OwnQ (w : World) (base : Nat) (A : Option Addr) (n c : Nat) (l : List Int) : Prop :=
 l.length = n ∧ ((A = none ∧ n = 0 ∧ c = 0) ∨ ∃ g off cur, A = some ⟨g, off, none⟩ ∧ base ≤ g ∧ w.heap[g]? = some (.cells cur 2 (0, 0)) ∧ n ≤ c ∧ c ≤ maxLen ∧ off + c ≤ cur.size ∧ ∀ (i : Nat) (x : Int), l[i]? = some x → cur[off + i]? = some (.int .i64 x))
section
variable {w w' : World} {base n c : Nat} {A : Option Addr} {l : List Int}
theorem OwnQ.len (h : OwnQ w base A n c l) : l.length = n := h.1
theorem OwnQ.of (h : Own 1 iv w base 2 A n c l) : OwnQ w base A n c l := by
 refine ⟨h.1, ?_⟩
 rcases h.2.2 with ⟨hv, h0⟩ | ⟨g, cap, cur, hv, hb, hg, hnc, hcm, hcs, htake⟩
 ·injection hv with h1 _ h3
  exact .inl ⟨h1, h0, h3⟩
 ·injection hv with h1 _ h3
  subst h1 h3;refine .inr ⟨g, 0, cur, rfl, hb, hg, hnc, hcm, by omega, fun i x hx => ?_⟩;have h1 := flat_at flat_iv l i x hx 0 _ rfl;rw [← htake] at h1;rw [List.getElem?_take] at h1
  split at h1
  ·simpa using h1
  ·cases h1
theorem OwnQ.keep (h : OwnQ w base A n c l) (hk : ∀ g, base ≤ g → (Value.slice A n c).ownBlock = some g → w'.heap[g]? = w.heap[g]?) : OwnQ w' base A n c l := by
 refine ⟨h.1, ?_⟩
 rcases h.2 with hn | ⟨g, off, cur, rfl, hb, hg, rest⟩
 ·exact .inl hn
 ·exact .inr ⟨g, off, cur, rfl, hb, (hk g hb rfl).trans hg, rest⟩
theorem OwnQ.lt (h : OwnQ w base A n c l) : ∀ g, (Value.slice A n c).ownBlock = some g → base ≤ g ∧ g < w.heap.size := by
 intro g hg
 rcases h.2 with ⟨rfl, _⟩ | ⟨g', off, cur, rfl, hb, hg', rest⟩
 ·cases hg
 ·cases hg
  exact ⟨hb, (Array.getElem?_eq_some_iff.1 hg').1⟩
theorem OwnQ.kept {row : Option Nat} (h : OwnQ w base A n c l) (hg : w.grownBy w' row) (hne : (Value.slice A n c).ownBlock = none ∨ (Value.slice A n c).ownBlock ≠ row) : OwnQ w' base A n c l :=
 h.keep fun g _ e => hg.block g (h.lt g e).2 (by
  rcases hne with hne | hne
  ·rw [e] at hne; cases hne
  ·rw [e] at hne; exact hne)
theorem OwnQ.alloc (h : OwnQ w base A n c l) (o : Obj) : OwnQ (w.alloc o) base A n c l := h.kept (World.grownBy_alloc w o none) (by cases (Value.slice A n c).ownBlock <;> simp)
theorem OwnQ.drewN (h : OwnQ w base A n c l) (k : Nat) : OwnQ (w.drewN k) base A n c l := h
theorem OwnQ.head {x : Int} {r : List Int} (h : OwnQ w base A n c (x :: r)) : ∃ g off, A = some ⟨g, off, none⟩ ∧ w.cell? ⟨g, off, none⟩ = some (.int .i64 x) ∧ 0 < n ∧ n ≤ c := by
 have hl := h.1
 simp at hl
 rcases h.2 with ⟨rfl, h0, _⟩ | ⟨g, off, cur, rfl, hb, hg, h1, h2, h3, h4⟩
 ·omega
 ·refine ⟨g, off, rfl, (cell_of_row w g off cur _ (0, 0) hg).trans ?_, by omega, h1⟩
  have := h4 0 x rfl
  simpa using this
theorem OwnQ.cut {x : Int} {r : List Int} (h : OwnQ w base A n c (x :: r)) : OwnQ w base (cutA A 1 c 1) (n - 1) (c - 1) r := by
 have hl := h.1
 simp at hl
 rcases h.2 with ⟨rfl, h0, _⟩ | ⟨g, off, cur, rfl, hb, hg, h1, h2, h3, h4⟩
 ·omega
 ·refine ⟨by omega, .inr ?_⟩
  by_cases hc : c = 1
  ·subst hc
   refine ⟨g, off, cur, by simp [cutA], hb, hg, by omega, by unfold maxLen; omega, by omega, fun i y hy => ?_⟩;have hr : r = [] := List.eq_nil_of_length_eq_zero (by omega);subst hr
   simp at hy
  ·refine ⟨g, off + 1, cur, by unfold cutA; rw [if_neg hc, Option.map_some, addr_add], hb, hg, by omega, by omega, by omega, fun i y hy => ?_⟩
   have := h4 (i + 1) y (by simpa using hy);rw [show off + 1 + i = off + (i + 1) by omega];exact this
end
theorem run_appQ (w : World) (ty : TypeId) {base n c : Nat} {A : Option Addr} {l : List Int} (h : OwnQ w base A n c l) (ad : Addr) (d : Nat) (x : Int) (hx : w.cell? ad = some (.int .i64 x)) (hn : n + 1 ≤ 1048576) (hbase : base ≤ w.heap.size) :
  ∃ A' c' w', (Builtin.append_ #[32, 32] ty #[.slice A n c, .slice (some ad) 1 d]).run Tryz.prog w = .ok (.slice A' (n + 1) c') w' ∧ OwnQ w' base A' (n + 1) c' (l ++ [x]) ∧ w.grownBy w' (Value.slice A n c).ownBlock ∧
   ((Value.slice A' (n + 1) c').ownBlock = (Value.slice A n c).ownBlock ∨ (Value.slice A' (n + 1) c').ownBlock = some w.heap.size) := by
 obtain ⟨i, hi, hz, hs, hby⟩ := info_parts info_int64;have ht := Tryz.underlying32;have hnews : ∀ j u, ([Value.int .i64 x] : List Value)[j]? = some u → w.cell? (ad.add j) = some u := by
  intro j u hj
  match j, hj with
  | 0, hj => simp at hj; subst hj; simpa [Addr.add] using hx
 have hzc : (Value.int .i64 0).cells.size = 1 := rfl;have grown : ∀ (old : Nat) (olds : List Value), olds = l.map (Value.int .i64) → old < n + 1 → ∀ row : Option Nat,
   OwnQ (w.drew.alloc (.cells (olds.toArray ++ [Value.int .i64 x].toArray ++ Builtin.zeroCells (Value.int .i64 0).cells (grownCap w (n + 1) old 2 - (n + 1))) 2)) base (some ⟨w.heap.size, 0, none⟩) (n + 1) (grownCap w (n + 1) old 2) (l ++ [x]) ∧
   w.grownBy (w.drew.alloc (.cells (olds.toArray ++ [Value.int .i64 x].toArray ++ Builtin.zeroCells (Value.int .i64 0).cells (grownCap w (n + 1) old 2 - (n + 1))) 2)) row := by
  intro old olds hol ho row;have hge := grownCap_ge w (n + 1) old 2;have hcm : grownCap w (n + 1) old 2 ≤ maxLen := grownCap_le_maxLen w (n + 1) old 2 (by unfold maxLen; omega);refine ⟨⟨by rw [List.length_append, h.1]; rfl, .inr ⟨w.heap.size, 0, _, rfl, hbase, heap_alloc_new w.drew _, hge, hcm, ?_, fun i y hy => ?_⟩⟩, ⟨rfl, rfl, rfl, by simp, fun k hk _ => Below.heap_alloc w.drew _ k hk⟩⟩
  ·simp only [Array.size_append, List.size_toArray, size_zeroCells, hzc, hol, List.length_map, h.1, List.length_singleton]
   omega
  ·have hil : i < n + 1 := by
    have := (List.getElem?_eq_some_iff.1 hy).1;rw [List.length_append, h.1] at this
    simpa using this
   have e1 : (olds.toArray ++ [Value.int .i64 x].toArray : Array Value) = ((l ++ [x]).map (Value.int .i64)).toArray := by rw [hol]; simp
   rw [Nat.zero_add, Array.getElem?_append_left (by rw [e1]; simp [h.1]; omega), e1];simp only [List.getElem?_toArray, List.getElem?_map, hy, Option.map_some]
 rcases h.2 with ⟨rfl, rfl, rfl⟩ | ⟨g, off, cur, rfl, hb, hg, hnc, hcm, hcs, hcur⟩
 ·have hl : l = [] := List.eq_nil_of_length_eq_zero h.1
  subst hl;have hr := run_append_nil (P := Tryz.prog) w 32 ty 2 i _ ht hi hz ad 1 d [.int .i64 x] (by rw [hs]; rfl) hnews (by omega) (by omega) (by rw [hby]; omega);obtain ⟨g1, g2⟩ := grown 0 [] rfl (by omega) (Value.ownBlock (.slice none 0 0));simp only [Nat.zero_add, Array.empty_append] at g1 g2 ⊢;exact ⟨_, _, _, hr, g1, g2, .inr rfl⟩
 ·by_cases hroom : n + 1 ≤ c
  ·have hcell : (w.cell? ⟨g, off + n, none⟩).isSome = true := by
    rw [cell_of_row w g _ cur _ (0, 0) hg, Array.getElem?_eq_getElem (by omega)]
    rfl
   have hr := run_append_room_cells (P := Tryz.prog) w 32 ty 2 i ht hi g off n c ad 1 d [.int .i64 x] (by rw [hs]; rfl) hnews (by intro u hu; simp at hu; subst hu; rfl) hroom
    (fun j hj => by
     simp at hj
     subst hj;rw [hs, Nat.mul_one, Nat.add_zero];exact hcell) (fun j hj => frozen_of_row w g _ cur _ hg)
   refine ⟨_, _, _, hr, ?_, ?_, .inl rfl⟩
   ·rw [hs, Nat.mul_one]
    show OwnQ (w.setCell ⟨g, off + n, none⟩ (.int .i64 x)) base _ _ _ _
    refine ⟨by rw [List.length_append, h.1]; rfl, .inr ⟨g, off, cur.setIfInBounds (off + n) (.int .i64 x), rfl, hb, heap_setCell_same w g _ cur _ _ hg, hroom, hcm, by simpa using hcs, fun i y hy => ?_⟩⟩
    by_cases hin : i < n
    ·rw [Array.getElem?_setIfInBounds_ne (by omega)]
     rw [List.getElem?_append_left (by rw [h.1]; exact hin)] at hy;exact hcur i y hy
    ·have : i = n := by
      have := (List.getElem?_eq_some_iff.1 hy).1;rw [List.length_append, h.1] at this
      simp at this
      omega
     subst this;rw [List.getElem?_append_right (by rw [h.1]; exact zR), h.1, Nat.sub_self] at hy
     simp at hy
     subst hy
     simp [Array.getElem?_setIfInBounds]
     omega
   ·rw [hs, Nat.mul_one]
    show w.grownBy (w.setCell ⟨g, off + n, none⟩ (.int .i64 x)) _
    exact ⟨rfl, rfl, rfl, by rw [World.size_setCell]; exact zR, fun k hk hne => Below.heap_setCell w _ _ k (fun e => hne (by rw [e]; rfl))⟩
  ·have holds : ∀ j u, (l.map (Value.int .i64))[j]? = some u → w.cell? ((⟨g, off, none⟩ : Addr).add j) = some u := by
    intro j u hj;rw [List.getElem?_map] at hj;obtain ⟨y, hy, rfl⟩ := Option.map_eq_some_iff.1 hj;rw [addr_add, cell_of_row w g _ cur _ (0, 0) hg];exact hcur j y hy
   have hr := run_append_grow (P := Tryz.prog) w 32 ty 2 i _ ht hi hz ⟨g, off, none⟩ n c (l.map (Value.int .i64)) (by rw [List.length_map, h.1, hs, Nat.mul_one]) holds ad 1 d [.int .i64 x] (by rw [hs]; rfl) hnews (by omega) (by omega) (growslice_fits (by omega) (by rw [hby]; omega));obtain ⟨g1, g2⟩ := grown c _ rfl (by omega) (Value.ownBlock (.slice (some ⟨g, off, none⟩) n c));exact ⟨_, _, _, hr, g1, g2, .inr rfl⟩
theorem wpList_appQ {w : World} {ops : Array Oper} {rest : List Oper} {o : Oper} {a : Act} {Q : Exit → Act → World → Prop} (hgd : o.guard = none) (s x : Operand)
  (ho : o.op = .call { callee := .builtin .append, args := #[s, x], argTypes := #[32, 32] })
  {base n c : Nat} {A : Option Addr} {l : List Int} (hs : a.eval s = .slice A n c) (h : OwnQ w base A n c l) (ad : Addr) (d : Nat) (y : Int) (hx : a.eval x = .slice (some ad) 1 d) (hy : w.cell? ad = some (.int .i64 y)) (hn : n + 1 ≤ 1048576) (hbase : base ≤ w.heap.size)
  (hK : ∀ A' c' w', OwnQ w' base A' (n + 1) c' (l ++ [y]) → w.grownBy w' (Value.slice A n c).ownBlock → Below base w w' →
   ((Value.slice A' (n + 1) c').ownBlock = (Value.slice A n c).ownBlock ∨ (Value.slice A' (n + 1) c').ownBlock = some w.heap.size) → wpList Tryz.prog ops Q rest (a.put o.dst (.slice A' (n + 1) c')) w') : wpList Tryz.prog ops Q (o :: rest) a w := by
 refine wpList_plain hgd fun K hK' => ?_
 obtain ⟨A', c', w', h1, h2, h3, h4⟩ := run_appQ w o.type h ad d y hy hn hbase;unfold Oper.wp execOp;simp only [ho, resolve, invoke, builtin, Sem.run_bind, Sem.run_pure, Result.andThen_ok, List.map_toArray, List.map_cons, List.map_nil, hs, hx, h1];exact hK' _ _ (hK A' c' w' h2 h3 (bR.grown h3 hbase fun k hk => (h.lt k hk).1) h4)
open Go.Sort
theorem cloneO_calls (A : Option Addr) (n c : Nat) (l : List Int) (w : World) (lo hi : Nat) (h : SlI w lo hi A n l) (hn : n ≤ 1048576) :
  Calls Tryz.prog 194 #[.slice A n c] w fun e w' => ∃ A' c', e = .returned (.slice A' n c') ∧ Own 1 iv w' w.heap.size 2 A' n c' l ∧ Below w.heap.size w w' := by
 have hnil : ∀ (W : World) (a : Option Addr) (m d : Nat), (binOp .eql 32 (.slice a m d) (.slice none 0 0)).run Tryz.prog W = .ok (.bool a.isNone) W := fun W a m d => Lib.run_eql_slice_nil W 32 _ a m d 0 0 Tryz.underlying32
 have hE := hide elem_int64
 cases A with
 | none =>
  have hn0 : n = 0 := by
   rcases Nat.eq_zero_or_pos n with h0 | h0
   ·exact h0
   ·obtain ⟨b, off, e, _⟩ := h.at_ h0
    cases e
  subst hn0;have hl := List.eq_nil_of_length_eq_zero h.len;subst hl;go_enter Tryz.func194, Tryz.ntmps194;go_wp2_with fail;go_ret;exact ⟨none, 0, rfl, Own.nil_ _ _ _, bR⟩
 | some a =>
  have hs := hide (h.below ((Below.refl w.heap.size w).alloc zR (.cells #[] 2)) (.inr zR));have hz : w.heap.size ≤ (w.alloc (.cells #[] 2)).heap.size := by simp
  clear h;go_enter Tryz.func194, Tryz.ntmps194;go_wp2_with (first | (at_builtin; (with_reducible refine wpList_app rfl (.tmp 5) (.tmp 6) rfl hE.out flat_iv rfl (Own.made w 2 zR) rfl hs.out ?c1 hz ?_); rotate_right; intro A2 c2 w2 hown2 hgr2 hb2 _))
  case c1 => omega
  go_ret;rw [Nat.zero_add, List.nil_append] at hown2
  exact ⟨_, _, rfl, hown2, (bR.alloc zR _).trans hb2⟩
theorem Sl.tight' {α : Type} {size : Nat} {f : α → List Value} {w : World} {lo hi n b off : Nat} {l : List α} (h : Sl size f w lo hi (some ⟨b, off, none⟩) n l) (hn : 0 < n) : Sl size f w b (b + 1) (some ⟨b, off, none⟩) n l := by
 refine ⟨h.len, fun _ => ?_⟩;obtain ⟨b', off', e, g1, g2, g3, hc⟩ := h.at_ hn
 cases e
 exact ⟨b, off, rfl, zR, Nat.lt_succ_self _, g3, hc⟩
structure MemD (W : World) (bo oo n : Nat) (out : List Int) (qb : Nat) (A : Option Addr) (q c : Nat) (todo : List Int) : Prop where
 out : SlI W bo (bo + 1) (some ⟨bo, oo, none⟩) n out
 que : OwnQ W qb A q c todo
 o1 : bo < qb
 o2 : qb ≤ W.heap.size
section
variable {W W' : World} {bo oo n qb q c : Nat} {out : List Int} {A : Option Addr} {todo : List Int}
theorem MemD.put (h : MemD W bo oo n out qb A q c todo) {k : Nat} (hk : k < n) (x : Int) : MemD (W.setCell ⟨bo, oo + k, none⟩ (.int .i64 x)) bo oo n (out.set k x) qb A q c todo :=
 ⟨SlI.put' h.out hk x, h.que.keep fun g hg _ => Below.heap_setCell _ _ _ _ (by have := h.o1; show g ≠ bo; omega), h.o1, by rw [World.size_setCell]; exact h.o2⟩
theorem MemD.alloc (h : MemD W bo oo n out qb A q c todo) (o : Obj) : MemD (W.alloc o) bo oo n out qb A q c todo := by
 have h1 := h.o1;have h2 := h.o2;exact ⟨Sl.keep h.out (by simp) fun b _ _ hb => Below.heap_alloc _ _ _ hb, h.que.alloc o, h1, by simp; omega⟩
theorem MemD.drewN (h : MemD W bo oo n out qb A q c todo) (k : Nat) : MemD (W.drewN k) bo oo n out qb A q c todo := ⟨h.out.drewN k, h.que.drewN k, h.o1, h.o2⟩
theorem MemD.app (h : MemD W bo oo n out qb A q c todo) {A' : Option Addr} {q' c' : Nat} {todo' : List Int} (hq : OwnQ W' qb A' q' c' todo') (hg : W.grownBy W' (Value.slice A q c).ownBlock) : MemD W' bo oo n out qb A' q' c' todo' := by
 have h1 := h.o1;have h2 := h.o2;have hne : ∀ b, b < qb → some b ≠ (Value.slice A q c).ownBlock := fun b hb e => by
  have := (h.que.lt b e.symm).1;omega
 exact ⟨Sl.keep h.out hg.size fun b hb1 hb2 hb3 => hg.block b hb3 (hne b (by omega)), hq, h1, Nat.le_trans h2 hg.size⟩
theorem MemD.cut {x : Int} (h : MemD W bo oo n out qb A q c (x :: todo)) : MemD W bo oo n out qb (cutA A 1 c 1) (q - 1) (c - 1) todo := ⟨h.out, h.que.cut, h.o1, h.o2⟩
end
def Marks (N : Nat) (l : List Int) (k : Nat) (out : List Int) : Prop := out.length = N ∧ ∀ (j : Nat) (x : Int), out[j]? = some x → (x = 0 ∧ (j : Int) ∈ l.take k) ∨ (x = -1 ∧ ¬ (j : Int) ∈ l.take k)
theorem Marks.zero (N : Nat) (l : List Int) : Marks N l 0 (List.replicate N (-1)) := by
 refine ⟨by simp, fun j x hx => .inr ⟨?_, by simp⟩⟩;exact List.eq_of_mem_replicate (List.mem_of_getElem? hx)
theorem Marks.step {N : Nat} {l : List Int} {k v : Nat} {out : List Int} (h : Marks N l k out) (hx : l[k]? = some (v : Int)) : Marks N l (k + 1) (out.set v 0) := by
 refine ⟨by rw [List.length_set]; exact h.1, fun j x hj => ?_⟩;have hmem : ∀ i : Nat, (i : Int) ∈ l.take (k + 1) ↔ (i : Int) ∈ l.take k ∨ i = v := fun i => by
  rw [List.take_add_one, hx, List.mem_append]
  constructor
  ·rintro (h1 | h1)
   ·exact .inl h1
   ·simp at h1
    exact .inr (by omega)
  ·rintro (h1 | h1)
   ·exact .inl h1
   ·subst h1
    exact .inr (by simp)
 by_cases e : v = j
 ·subst e
  have hl : v < out.length := by
   have := (List.getElem?_eq_some_iff.1 hj).1
   rwa [List.length_set] at this
  rw [List.getElem?_set_self hl] at hj;exact .inl ⟨(Option.some.inj hj).symm, (hmem v).2 (.inr rfl)⟩
 ·rw [List.getElem?_set_ne e] at hj
  rcases h.2 j x hj with ⟨h1, h2⟩ | ⟨h1, h2⟩
  ·exact .inl ⟨h1, (hmem j).2 (.inl h2)⟩
  ·exact .inr ⟨h1, fun hc => by
    rcases (hmem j).1 hc with h3 | h3
    ·exact h2 h3
    ·exact e h3.symm⟩
theorem Marks.all {N n : Nat} {l : List Int} {out : List Int} (h : Marks N l n out) (hl : l.length ≤ n) : ∀ (j : Nat) (x : Int), out[j]? = some x → (x = 0 ∧ srcE l j) ∨ (x = -1 ∧ ¬ srcE l j) := fun j x hx => by
 have := h.2 j x hx
 rwa [List.take_of_length_le hl] at this
def FoundE (fw : Bool) (es : List Ed) (i : Nat) (k : Nat) (out : List Int) : Prop := ∀ b, arcE fw (es.take i) k b → ∃ y : Int, out[b]? = some y ∧ 0 ≤ y
theorem arc_take_succ {fw : Bool} {es : List Ed} {i : Nat} {e : Ed} (hx : es[i]? = some e) {a b : Nat} (h : arcE fw (es.take (i + 1)) a b) : arcE fw (es.take i) a b ∨ (if fw = true then e.1 = (a : Int) ∧ e.2.2 = (b : Int) else e.2.2 = (a : Int) ∧ e.1 = (b : Int)) := by
 obtain ⟨e', hm, h⟩ := h;rw [List.take_add_one, hx, List.mem_append] at hm
 rcases hm with hm | hm
 ·exact .inl ⟨e', hm, h⟩
 ·simp at hm
  subst hm;exact .inr h
theorem FoundE.zero (fw : Bool) (es : List Ed) (k : Nat) (out : List Int) : FoundE fw es 0 k out := by
 rintro b ⟨e, hm, _⟩
 simp at hm
theorem FoundE.skip {fw : Bool} {es : List Ed} {i k : Nat} {out : List Int} {e : Ed} (h : FoundE fw es i k out) (hx : es[i]? = some e)
  (hs : ∀ b : Nat, (if fw = true then e.1 = (k : Int) ∧ e.2.2 = (b : Int) else e.2.2 = (k : Int) ∧ e.1 = (b : Int)) → ∃ y : Int, out[b]? = some y ∧ 0 ≤ y) : FoundE fw es (i + 1) k out := fun b hb => by
 rcases arc_take_succ hx hb with h1 | h1
 ·exact h b h1
 ·exact hs b h1
theorem FoundE.set {fw : Bool} {es : List Ed} {i k : Nat} {out : List Int} (h : FoundE fw es i k out) (v : Nat) {x : Int} (hx : 0 ≤ x) (hv : v < out.length) : FoundE fw es i k (out.set v x) := fun b hb => by
 obtain ⟨y, hy, hy0⟩ := h b hb
 by_cases e : v = b
 ·subst e
  exact ⟨x, List.getElem?_set_self hv, hx⟩
 ·exact ⟨y, by rw [List.getElem?_set_ne e]; exact hy, hy0⟩
def BoundD (N : Nat) (out : List Int) : Prop := ∀ (j : Nat) (x : Int), out[j]? = some x → x + (negs out : Int) ≤ (N : Int)
theorem BoundD.set {N v : Nat} {out : List Int} (h : BoundD N out) {k : Nat} {m z : Int} (hk : out[k]? = some m) (hz : out[v]? = some z) (hz0 : z < 0) (hm : 0 ≤ m) : BoundD N (out.set v (m + 1)) := fun j x hj => by
 have hn := negs_set (v := m + 1) hz hz0 (by omega);have h1 := h k m hk
 by_cases e : v = j
 ·subst e
  rw [List.getElem?_set_self (List.getElem?_eq_some_iff.1 hz).1] at hj;have := Option.some.inj hj;omega
 ·rw [List.getElem?_set_ne e] at hj
  have := h j x hj;omega
theorem map_nat_mem {l : List Int} (h : ∀ v ∈ l, 0 ≤ v) (k : Nat) : (k : Int) ∈ l ↔ k ∈ l.map Int.toNat := by
 constructor
 ·intro hk
  exact List.mem_map.2 ⟨_, hk, Int.toNat_natCast k⟩
 ·intro hk
  obtain ⟨v, hv, e⟩ := List.mem_map.1 hk;have := h v hv;rw [show (k : Int) = v by omega];exact hv
theorem distancesF_calls (N : Nat) (s1 : Int) (v2 : Value) (A3 : Option Addr) (n3 k3 : Nat) (A1 : Option Addr) (n1 c1 : Nat) (es : List Ed) (l : List Int) (w : World) (lo hi lo1 hi1 : Nat)
  (t3 : SlE w lo hi A3 n3 es) (t1 : SlI w lo1 hi1 A1 n1 l) (hes : n3 ≤ 1048576) (hn1 : n1 ≤ 1000) (hN1 : 1 ≤ N) (hN2 : N ≤ 40)
  (hedge : ∀ e ∈ es, (0 ≤ e.1 ∧ e.1 < (N : Int)) ∧ (0 ≤ e.2.2 ∧ e.2.2 < (N : Int))) (hin : ∀ v ∈ l, 0 ≤ v ∧ v < (N : Int)) :
  Calls Tryz.prog 125 #[.agg #[.int .i64 (N : Int), .int .i64 s1, v2, .slice A3 n3 k3], .slice A1 n1 c1, .bool true] w fun e w' => ∃ A c, e = .returned (.slice A N c) ∧ SlI w' w.heap.size w'.heap.size A N (distF true N es l) ∧ DistIs (srcE l) (arcE true es) N (distF true N es l) ∧ Below w.heap.size w w' := by
 have harc := hide (fun a k => arcE_in (es := es) (N := N) hedge (fw := true) a k);have hsrc : Hid (∀ k, srcE l k → k < N) := fun k hk => by have := hin k hk; omega
 have l3 := hide t3.len;have l1 := hide t1.len;have hb0 : Below w.heap.size w (w.alloc (.cells #[.int .i64 (N : Int), .int .i64 s1, v2, .slice A3 n3 k3] 27)) := bR.alloc zR _;have kE := heap_alloc_new w (.cells #[.int .i64 (N : Int), .int .i64 s1, v2, .slice A3 n3 k3] 27);have hz : w.heap.size < (w.alloc (.cells #[.int .i64 (N : Int), .int .i64 s1, v2, .slice A3 n3 k3] 27)).heap.size := by rw [World.size_alloc]; omega
 replace t3 := hide (t3.below hb0 (.inr zR));replace t1 := t1.below hb0 (.inr zR);have hz' := Nat.le_of_lt hz;replace hb0 := hide hb0;replace hedge := hide hedge;replace hin := hide hin;go_enter Tryz.func125, Tryz.ntmps125;go_upto_region 1 with fail;generalize (w.alloc (.cells #[.int .i64 (N : Int), .int .i64 s1, v2, .slice A3 n3 k3] 27)) = W0 at *;generalize hbm : w.heap.size = bm at *;have c0 : W0.cell? ⟨bm, 0, none⟩ = some (.int .i64 (N : Int)) := cR 0 kE;have c3 : W0.cell? ⟨bm, 3, none⟩ = some (.slice A3 n3 k3) := cR 3 kE;clear kE;have hb1 : Below W0.heap.size W0 (W0.alloc (.cells #[.int .i64 (-1)] 2)) := bR.alloc zR _;have d0 : (W0.alloc (.cells #[.int .i64 (-1)] 2)).cell? ⟨bm, 0, none⟩ = some (.int .i64 (N : Int)) := (hb1.cell (p := ⟨bm, 0, none⟩) hz).trans c0;have q1 := hide (repeatI_calls (some ⟨W0.heap.size, 0, none⟩) 1 (-1) N _ _ _ (Sl.lit1' W0 2 (-1 : Int) _ rfl 1 _ rfl) hN1 (by omega));have hb1z := hb1.size;replace hb1 := hide hb1;go_wp2_with fail;refine q1.out.mono ?_;rintro e w1 ⟨Ao, rfl, ho1, hb2⟩;have hbA := hb1.out.trans (hb2.mono hb1z);obtain ⟨bo, oo, rfl, hbo1, hbo2, -, -⟩ := ho1.at_ hN1;have q2 := hide (cloneO_calls A1 n1 c1 l w1 lo1 hi1 (t1.below hbA (.inr zR)) (by omega));have ho1t : SlI w1 bo (bo + 1) (some ⟨bo, oo, none⟩) N (List.replicate N (-1)) := ho1.tight' hN1;have hbow : W0.heap.size ≤ bo := Nat.le_trans hb1z hbo1;replace hbA := hide hbA;clear c0 d0 q1 ho1 hb2;go_wp2_with fail;refine q2.out.mono ?_;rintro e w2 ⟨Aq, cq, rfl, hq1, hb3⟩;have hM0 : MemD w2 bo oo N (List.replicate N (-1)) w1.heap.size Aq n1 cq l := ⟨ho1t.below hb3 (.inl (by omega)), OwnQ.of hq1, hbo2, hb3.size⟩;have hbB := hide (hbA.out.trans (hb3.mono hbA.out.size));replace hM0 := hide hM0;have hmk0 := hide (Marks.zero N l);have hqb : Hid (bo < w1.heap.size) := hbo2;generalize w1.heap.size = qb at *;clear q2 ho1t hq1 hb3 hbA;go_upto_region 4 with fail
 go_loopw [24] (fun i wr => ∃ (k : Nat) (out : List Int), k ≤ n1 ∧ i = .int .i64 (k : Nat) ∧ Hid (MemD wr bo oo N out qb Aq n1 cq l) ∧ Hid (Marks N l k out) ∧ Below W0.heap.size W0 wr) (fun i _ => n1 - (intOf i).toNat)
 case atStart => exact ⟨0, _, Nat.zero_le _, rfl, hM0, hmk0, hbB.out⟩
 case round =>
  clear hM0 hmk0 hbB;obtain ⟨k, out, hk, rfl, hM, hmk, hb⟩ := hrel
  by_cases hlt : k < n1
  ·obtain ⟨b, off, x, rfl, -, -, g3, hx, p0, -⟩ := SlI.get t1 hlt
   have hxin := hin.out x (List.mem_of_getElem? hx);obtain ⟨v, rfl⟩ : ∃ v : Nat, x = (v : Int) := ⟨x.toNat, by omega⟩;have hv : v < N := by omega
   have hvI : (v : Int) < (N : Int) := by omega
   replace p0 := (hb.cell (p := ⟨b, off + k, none⟩) g3).trans p0;obtain ⟨b6, o6, z, e6, -, -, -, -, cz, fz⟩ := SlI.get hM.out.out hv;cases e6;have hM1 := hide (hM.out.put hv 0);have hmk1 := hide (hmk.out.step hx);replace hb := hide hb;clear hx hxin hM hmk;go_wp2_with fail;go_roundw
   case rel => exact ⟨k + 1, _, by omega, by go_num, hM1, hmk1, hb.out.setCell hbow _⟩
   case measure => simp [intOf]; omega
  ·have hkn : k = n1 := by omega
   subst hkn;have hmarks := hmk.out.all (by rw [l1.out]; exact zR);have hqs : Hid (QueIs (srcE l) (arcE true es) N out (l.map Int.toNat)) := QueIs.start _ _ hmk.out.1 hmarks (fun j => map_nat_mem (fun v hv => (hin.out v hv).1) j) hsrc.out;have hng := negs_le out;rw [hmk.out.1] at hng;have hbd : Hid (BoundD N out) := fun j x hj => by
    rcases hmarks j x hj with ⟨h1, -⟩ | ⟨h1, -⟩ <;> omega
   have hpos : Hid (∀ v ∈ l, 0 ≤ v) := fun v hv => (hin.out v hv).1
   have hll := l1.out;replace hll := hide hll;replace hb := hide hb;clear hmk t1;go_wp2_with fail
   go_loopg [8] (k + N) (fun G v wr => ∃ (out todo : List Int) (A : Option Addr) (q c : Nat), v = .slice A q c ∧ Hid (MemD wr bo oo N out qb A q c todo) ∧ Hid (QueIs (srcE l) (arcE true es) N out (todo.map Int.toNat)) ∧ Hid (∀ v ∈ todo, 0 ≤ v) ∧ Hid (q + negs out ≤ 1040) ∧ Hid (BoundD N out) ∧ Below W0.heap.size W0 wr ∧ Hid (q + negs out ≤ G))
   case atStart => exact ⟨out, l, Aq, k, cq, rfl, hM, hqs, hpos, by show _ ≤ _; omega, hbd, hb.out, by show _ ≤ _; omega⟩
   case round =>
    clear hM hqs hpos hb hng hbd hmarks;obtain ⟨out, todo, A, q, c, rfl, hM, hQ, hpos, hcap, hbd, hb, hG⟩ := hrel
    cases todo with
    | nil =>
     have hq0 : q = 0 := hM.out.que.len.symm;subst hq0;have hd := QueIs.done _ _ hQ.out (fun a k h => harc.out a k h) hsrc.out;have hf := hide (distF_of hd);replace hd := hide hd;have hs := hide hM.out.out;have ho1 := hM.out.o1;have ho2 := hM.out.o2;clear hM hQ hpos hcap hG hbd;go_wp2_with fail;go_ret;have hs9 := hs.out.more (show bm ≤ bo by omega) (show bo + 1 ≤ wr.heap.size by omega);exact ⟨_, _, rfl, by first | (rw [hf.out]; exact hs9) | (rw [hbm, hf.out]; exact hs9), by rw [hf.out]; exact hd.out, by first | exact hb0.out.trans (hb.mono hz') | (rw [hbm]; exact hb0.out.trans (hb.mono hz'))⟩
    | cons t todo =>
     obtain ⟨kn, rfl⟩ : ∃ kn : Nat, t = (kn : Int) := ⟨t.toNat, by have := hpos.out t (by simp); omega⟩;obtain ⟨qg, qo, rfl, e0, hq0, hqc⟩ := hM.out.que.head;have hcut : ∀ W : World, (Instr.slice 32 (.slice (some ⟨qg, qo, none⟩) q c) (some (.int .i64 1)) none none).run Tryz.prog W = .ok (.slice (cutA (some ⟨qg, qo, none⟩) 1 c 1) (q - 1) (c - 1)) W := fun W => run_cut elem_int64 (some ⟨qg, qo, none⟩) q c 1 (by omega) W
     have hM2 := hide hM.out.cut;have hQ2 : Hid (QueIs (srcE l) (arcE true es) N out (kn :: todo.map Int.toNat)) := by have := hQ.out; rwa [List.map_cons, Int.toNat_natCast] at this
     have hpos2 : Hid (∀ v ∈ todo, 0 ≤ v) := fun v hv => hpos.out v (List.mem_cons_of_mem _ hv)
     obtain ⟨mk, hmk, hmk0⟩ := hQ2.out.todo_ kn (by simp);have hknN : kn < N := by have := (List.getElem?_eq_some_iff.1 hmk).1; rw [hQ2.out.len] at this; exact this
     obtain ⟨G2, rfl⟩ : ∃ G2, gk = G2 + 1 := ⟨gk - 1, by have := hG.out; omega⟩;have hcap2 : Hid (q - 1 + negs out ≤ 1039) := by have := hcap.out; show _ ≤ _; omega
     have hG2 : Hid (q - 1 + negs out ≤ G2) := by have := hG.out; show _ ≤ _; omega
     have y3 := (hb.cell (p := ⟨bm, 3, none⟩) hz).trans c3;have hfz := hide (FoundE.zero true es kn out);have hmkv : Hid (out[kn]? = some mk) := hmk;replace hb := hide hb;clear hM hQ hpos hcap hG hmk;generalize cutA (some ⟨qg, qo, none⟩) 1 c 1 = AC at *;generalize c - 1 = cc at *;go_upto_region 12 with fail;clear y3 e0 hcut;obtain ⟨wo, rfl⟩ : ∃ wo : World, wo = wr := ⟨_, rfl⟩
     go_loopw [8, 43] (fun v i wr => ∃ (j : Nat) (out todo : List Int) (A : Option Addr) (q c : Nat), j ≤ n3 ∧ v = .slice A q c ∧ i = .int .i64 (j : Nat) ∧ Hid (MemD wr bo oo N out qb A q c todo) ∧ Hid (QueIs (srcE l) (arcE true es) N out (kn :: todo.map Int.toNat)) ∧ Hid (∀ v ∈ todo, 0 ≤ v) ∧ Hid (q + negs out ≤ 1039) ∧ Hid (BoundD N out) ∧ Hid (out[kn]? = some mk) ∧ Hid (FoundE true es j kn out) ∧ Below W0.heap.size W0 wr ∧ Hid (q + negs out ≤ G2)) (fun _ i _ => n3 - (intOf i).toNat)
     case atStart => exact ⟨0, out, todo, AC, _, _, Nat.zero_le _, rfl, rfl, hM2, hQ2, hpos2, hcap2, hbd, hmkv, hfz, hb.out, hG2⟩
     case round =>
      clear hM2 hQ2 hpos2 hcap2 hmkv hfz hb hG2 hbd;obtain ⟨j, out, todo, A, q, c, hj, rfl, rfl, hM, hQ, hpos, hcap, hbd, hmk, hfo, hb, hG⟩ := hrel
      by_cases hlt : j < n3
      ·obtain ⟨b, off, f, lb, tg, rfl, -, -, g3, hx, p0, p1, p2, -, -, -⟩ := SlE.get t3.out hlt
       replace p0 := (hb.cell g3).trans p0;replace p1 := (hb.cell (p := ⟨b, off + j * 3 + 1, none⟩) g3).trans p1;replace p2 := (hb.cell (p := ⟨b, off + j * 3 + 2, none⟩) g3).trans p2;have hed := hedge.out _ (List.mem_of_getElem? hx);dsimp only at hed;obtain ⟨fn, rfl⟩ : ∃ fn : Nat, f = (fn : Int) := ⟨f.toNat, by omega⟩;obtain ⟨tn, rfl⟩ : ∃ tn : Nat, tg = (tn : Int) := ⟨tg.toNat, by omega⟩;have hbN : tn < N := by omega
       have hbI : (tn : Int) < (N : Int) := by omega
       have hb0I : (0 : Int) ≤ (tn : Int) := by omega
       have hkI : (kn : Int) < (N : Int) := by omega
       have hk0I : (0 : Int) ≤ (kn : Int) := by omega
       have y3 := (hb.cell (p := ⟨bm, 3, none⟩) hz).trans c3;have hI0 : (0 : Int) ≤ (j : Int) := by omega
       have hI1 : (j : Int) < (n3 : Int) := by omega
       have hbE : Below wr.heap.size wr (wr.alloc (.cells #[.int .i64 (fn : Int), .int .i64 lb, .int .i64 (tn : Int)] 84)) := bR.alloc zR _;have kE := heap_alloc_new wr (.cells #[.int .i64 (fn : Int), .int .i64 lb, .int .i64 (tn : Int)] 84);have hbB := hide (hb.trans (hbE.mono hb.size));have hME := hide (hM.out.alloc (.cells #[.int .i64 (fn : Int), .int .i64 lb, .int .i64 (tn : Int)] 84));have z0 : (wr.alloc (.cells #[.int .i64 (fn : Int), .int .i64 lb, .int .i64 (tn : Int)] 84)).cell? ⟨wr.heap.size, 0, none⟩ = some (.int .i64 (fn : Int)) := cR 0 kE;have z2 : (wr.alloc (.cells #[.int .i64 (fn : Int), .int .i64 lb, .int .i64 (tn : Int)] 84)).cell? ⟨wr.heap.size, 2, none⟩ = some (.int .i64 (tn : Int)) := cR 2 kE;clear kE hbE hM hb;go_upto_region 14 with fail;clear p0 p1 p2 y3;generalize (wr.alloc (.cells #[.int .i64 (fn : Int), .int .i64 lb, .int .i64 (tn : Int)] 84)) = WE at *;go_quiet (fail);have hMq : Hid (MemD (WE.drewN nq) bo oo N out qb A q c todo) := hME.out.drewN nq;have hBq : Hid (Below W0.heap.size W0 (WE.drewN nq)) := ⟨hbB.out.os, hbB.out.tape, hbB.out.output, hbB.out.size, hbB.out.block⟩;clear z0 z2 hME hbB;generalize WE.drewN nq = wq at *;have hbg : tn < out.length := by rw [hQ.out.len]; exact hbN
       obtain ⟨b6, o6, z, e6, -, -, -, hz6, cz, fz⟩ := SlI.get hMq.out.out hbN;cases e6;obtain ⟨b7, o7, z7, e7, -, -, -, hz7, ck, -⟩ := SlI.get hMq.out.out hknN;cases e7;rw [hmk.out] at hz7;obtain rfl : mk = z7 := Option.some.inj hz7
       by_cases hak : fn = kn
       ·subst hak
        by_cases hz0 : z < 0
        ·have harcE : arcE true es fn tn := ⟨_, List.mem_of_getElem? hx, by simp⟩
         have hne : tn ≠ fn := by
          intro e;rw [e] at hz6;rw [hmk.out] at hz6;have := Option.some.inj hz6;omega
         have hQ9 : Hid (QueIs (srcE l) (arcE true es) N (out.set tn (mk + 1)) (fn :: (todo ++ [(tn : Int)]).map Int.toNat)) := by
          have := QueIs.add _ _ hQ.out hmk.out hz6 hz0 harcE
          show QueIs _ _ _ _ _
          rw [List.map_append, List.map_cons, List.map_nil, Int.toNat_natCast];exact this
         have hmk9 : Hid ((out.set tn (mk + 1))[fn]? = some mk) := by show _ = _; rw [List.getElem?_set_ne hne]; exact hmk.out
         have hfo9 : Hid (FoundE true es (j + 1) fn (out.set tn (mk + 1))) := (hfo.out.set tn (x := mk + 1) (by omega) hbg).skip hx (fun b hb => by
          have hbb : b = tn := by simp at hb; omega
          subst hbb;exact ⟨_, List.getElem?_set_self hbg, by omega⟩)
         have hnegs := negs_set (v := mk + 1) hz6 hz0 (by omega);have hbd9 := hide (hbd.out.set hmk.out hz6 hz0 (by obtain ⟨y, hy, hy0⟩ := hQ.out.todo_ fn (by simp); rw [hmk.out] at hy; cases hy; exact hy0));have hmkb : mk ≤ 40 := by have := hbd.out fn mk hmk.out; omega
         have hmk0 : 0 ≤ mk := by obtain ⟨y, hy, hy0⟩ := hQ.out.todo_ fn (by simp); rw [hmk.out] at hy; cases hy; exact hy0
         have hM9 := (hMq.out.put hbN (mk + 1)).alloc (.cells #[.int .i64 (tn : Int)] 2);have hqlen := hM9.que.len;have hcell0 := cell_one_new (wq.setCell ⟨bo, oo + tn, none⟩ (.int .i64 (mk + 1))) (.int .i64 (tn : Int)) 2 0 _ rfl;rw [addr_add, Nat.zero_add, World.size_setCell] at hcell0;replace hcell0 := hide hcell0;have hbp := hide ((hBq.out.setCell (p := ⟨bo, oo + tn, none⟩) hbow (.int .i64 (mk + 1))).alloc (by rw [World.size_setCell]; exact hBq.out.size) (.cells #[.int .i64 (tn : Int)] 2));have hzq : qb ≤ ((wq.setCell ⟨bo, oo + tn, none⟩ (.int .i64 (mk + 1))).alloc (.cells #[.int .i64 (tn : Int)] 2)).heap.size := hM9.o2;have hq9 : q + 1 ≤ 1048576 := by have := hcap.out; omega
         have hcap9 : Hid (q + 1 + negs (out.set tn (mk + 1)) ≤ 1039) := by have := hcap.out; show _ ≤ _; omega
         have hG9 : Hid (q + 1 + negs (out.set tn (mk + 1)) ≤ G2) := by have := hG.out; show _ ≤ _; omega
         have hpos9 : Hid (∀ v ∈ todo ++ [(tn : Int)], 0 ≤ v) := fun v hv => by
          rcases List.mem_append.1 hv with h1 | h1
          ·exact hpos.out v h1
          ·have : v = (tn : Int) := by simpa using h1
           omega
         have hqbo : W0.heap.size ≤ qb := by have := hM9.o1; omega
         have d2 : decide (z < (0 : Int)) = true := decide_eq_true hz0;replace hM9 := hide hM9;clear hx hed hz6 hz0 hne hbd hnegs hmk hfo hQ hpos hcap hG hMq hBq harcE hqlen;go_wp2_with (first
          | (at_builtin; (with_reducible refine wpList_appQ rfl (.tmp 73) (.tmp 75) rfl rfl hM9.out.que ⟨wq.heap.size, 0, none⟩ 1 (tn : Int) rfl hcell0.out hq9 hzq ?_); intro A5 c5 w5 hown5 hgr5 hb5 _))
         have hM5 := hide (hM9.out.app hown5 hgr5);have hb6 := hide (hbp.out.trans (hb5.mono hqbo));clear hown5 hgr5 hb5 hM9;go_roundw
         case rel => exact ⟨j + 1, _, _, A5, q + 1, c5, by omega, rfl, by go_num, hM5, hQ9, hpos9, hcap9, hbd9, hmk9, hfo9, hb6.out, hG9⟩
         case measure => simp [intOf]; omega
        ·have hfo9 : Hid (FoundE true es (j + 1) fn out) := hfo.out.skip hx (fun b hb => by
          have hbb : b = tn := by simp at hb; omega
          subst hbb;exact ⟨z, hz6, by omega⟩)
         have d2 : decide (z < (0 : Int)) = false := decide_eq_false hz0;clear hx hed hz6;go_wp2_with fail;go_roundw
         case rel => exact ⟨j + 1, _, _, A, q, c, by omega, rfl, by go_num, hMq, hQ, hpos, hcap, hbd, hmk, hfo9, hBq.out, hG⟩
         case measure => simp [intOf]; omega
       ·have hfo9 : Hid (FoundE true es (j + 1) kn out) := hfo.out.skip hx (fun b hb => by
         exfalso
         simp at hb
         omega)
        have hne : ((fn : Int) == (kn : Int)) = false := by rw [beq_eq_false_iff_ne]; omega
        clear hx hed hz6;go_wp2_with fail;go_roundw
        case rel => exact ⟨j + 1, _, _, A, q, c, by omega, rfl, by go_num, hMq, hQ, hpos, hcap, hbd, hmk, hfo9, hBq.out, hG⟩
        case measure => simp [intOf]; omega
      ·have hjn : j = n3 := by omega
       subst hjn;have hQ9 : Hid (QueIs (srcE l) (arcE true es) N out (todo.map Int.toNat)) := QueIs.pop _ _ hQ.out (fun b hb => hfo.out b (by rw [List.take_of_length_le (by rw [l3.out]; exact zR)]; exact hb));have hcap9 : Hid (q + negs out ≤ 1040) := by have := hcap.out; show _ ≤ _; omega
       replace hb := hide hb;clear hQ hcap hfo hmk;go_wp2_with fail
       go_roundg G2
       case measure => omega
       case rel => exact ⟨out, todo, A, q, c, rfl, hM, hQ9, hpos, hcap9, hbd, hb.out, hG⟩
end Go.Proofs.YtnhomkmfbngmgaaGreatDoor
namespace Go.Proofs.YtnhomkmfbngmgaaGreatDoor
def WayE (es : List Ed) : Nat → List Int → Nat → Prop
 | x, [], y => x = y
 | x, i :: l, y => ∃ (e : Ed) (z : Nat), 0 ≤ i ∧ es[i.toNat]? = some e ∧ e.1 = (x : Int) ∧ e.2.2 = (z : Int) ∧ WayE es z l y
theorem WayE.snoc {es : List Ed} {x z : Nat} {l : List Int} {i : Int} {e : Ed} {y : Nat} (h : WayE es x l y) (h0 : 0 ≤ i) (hi : es[i.toNat]? = some e) (h1 : e.1 = (y : Int)) (h2 : e.2.2 = (z : Int)) : WayE es x (l ++ [i]) z := by
 induction l generalizing x with
 | nil =>
  have h : x = y := h;subst h;exact ⟨e, z, h0, hi, h1, h2, rfl⟩
 | cons j l ih =>
  obtain ⟨e', z', g0, g1, g2, g3, g4⟩ := h;exact ⟨e', z', g0, g1, g2, g3, ih g4⟩
theorem WayE.range {es : List Ed} {x y : Nat} {l : List Int} (h : WayE es x l y) : ∀ i, i ∈ l → 0 ≤ i ∧ i < (es.length : Int) := by
 induction l generalizing x with
 | nil => exact fun i hi => absurd hi List.not_mem_nil
 | cons j l ih =>
  obtain ⟨e', z', g0, g1, g2, g3, g4⟩ := h;intro i hi
  rcases List.mem_cons.1 hi with rfl | hi
  ·have := (List.getElem?_eq_some_iff.1 g1).1
   omega
  ·exact ih g4 i hi
theorem drop_cons {α : Type} {l : List α} {k : Nat} {x : α} (h : l[k]? = some x) : l.drop k = x :: l.drop (k + 1) := by
 obtain ⟨h1, h2⟩ := List.getElem?_eq_some_iff.1 h;rw [List.drop_eq_getElem_cons h1, h2]
theorem WayE.step {es : List Ed} {x y k : Nat} {l : List Int} {i : Int} (h : WayE es x (l.drop k) y) (hi : l[k]? = some i) : ∃ (e : Ed) (z : Nat), 0 ≤ i ∧ es[i.toNat]? = some e ∧ e.1 = (x : Int) ∧ e.2.2 = (z : Int) ∧ WayE es z (l.drop (k + 1)) y := by
 rw [drop_cons hi] at h;exact h
theorem WayE.done {es : List Ed} {x y k : Nat} {l : List Int} (h : WayE es x (l.drop k) y) (hk : l.length ≤ k) : x = y := by
 rw [List.drop_eq_nil_of_le hk] at h;exact h
open Go.ChangeAt Go.ChangeShapes Go.RowKit Go.WideShapes
abbrev RowsI (most : Nat) := RowsG (id : Hd → Hd) 1 sv 1 iv most
abbrev HI := Option Addr × Nat
def hiV (N : Nat) (x : HI) : List Value := [.slice x.1 N x.2]
theorem flat_hiV (N : Nat) : Flat (hiV N) 1 := ⟨fun _ => rfl, fun x u h => by simp [hiV] at h; subst h; rfl⟩
theorem elem_rowI : Elem Tryz.prog 162 32 1 24 := Elem.of (z := .slice none 0 0) Tryz.underlying162 (by kernel_rfl) rfl (by omega) (by omega)
structure GrowI (w : World) (base N : Nat) (A : Option Addr) (n c : Nat) (R : List (HI × List Int)) : Prop where
 own : Own 1 (hiV N) w base 32 A n c (R.map (·.1))
 rows : ∀ r ∈ R, SlI w base w.heap.size r.1.1 N r.2
 off : ∀ r ∈ R, 0 < N → ∀ b off, r.1.1 = some ⟨b, off, none⟩ → (Value.slice A n c).ownBlock ≠ some b
section
variable {w w4 w5 w' : World} {base N n c : Nat} {A : Option Addr} {R : List (HI × List Int)}
theorem GrowI.len (h : GrowI w base N A n c R) : R.length = n := by have := h.own.len; rwa [List.length_map] at this
theorem GrowI.nil_ (w : World) (base N : Nat) : GrowI w base N none 0 0 [] := ⟨Own.nil_ _ _ _, fun _ h => (List.not_mem_nil h).elim, fun _ h => (List.not_mem_nil h).elim⟩
theorem GrowI.keep (h : GrowI w base N A n c R) (hs : w.heap.size ≤ w'.heap.size) (hk : ∀ b, base ≤ b → b < w.heap.size → w'.heap[b]? = w.heap[b]?) : GrowI w' base N A n c R :=
 ⟨h.own.keep fun g hg => hk g (h.own.lt g hg).1 (h.own.lt g hg).2, fun r hr => ((h.rows r hr).keep hs fun b h1 _ h3 => hk b h1 h3).more zR hs, h.off⟩
theorem GrowI.below (h : GrowI w base N A n c R) (hb : Below w.heap.size w w') : GrowI w' base N A n c R := h.keep hb.size fun b _ h2 => hb.block b h2
theorem GrowI.one {Ah : Option Addr} {ch : Nat} {s : List Int} (hs : SlI w base w.heap.size Ah N s) (hb : base ≤ w.heap.size) : GrowI (w.alloc (.cells #[.slice Ah N ch] 32)) base N (some ⟨w.heap.size, 0, none⟩) 1 1 [((Ah, ch), s)] := by
 have hbel : Below w.heap.size w (w.alloc (.cells #[.slice Ah N ch] 32)) := bR.alloc zR _;refine ⟨⟨rfl, by simp [hiV], .inr ⟨w.heap.size, 1, #[.slice Ah N ch], rfl, hb, heap_alloc_new w _, zR, by decide, rfl, rfl⟩⟩, fun r hr => ?_, fun r hr hN b off e => ?_⟩
 ·obtain rfl := List.mem_singleton.1 hr
  exact (hs.below hbel (.inr zR)).more zR hbel.size
 ·obtain rfl := List.mem_singleton.1 hr
  obtain ⟨b', off', e', -, -, g3, -⟩ := hs.at_ hN;have e : Ah = _ := e;rw [e] at e'
  cases e'
  intro e2;have e2 : some w.heap.size = some b := e2;injection e2 with e2;omega
theorem GrowI.push (h : GrowI w4 base N A n c R) {Ah : Option Addr} {ch : Nat} {s : List Int} (hs : SlI w4 base w4.heap.size Ah N s) (ho : ∀ b off, 0 < N → Ah = some ⟨b, off, none⟩ → (Value.slice A n c).ownBlock ≠ some b)
  {A5 : Option Addr} {c5 : Nat} (hown : Own 1 (hiV N) w5 base 32 A5 (n + 1) c5 (R.map (·.1) ++ [(Ah, ch)])) (hgr : w4.grownBy w5 (Value.slice A n c).ownBlock)
  (hat : (Value.slice A5 (n + 1) c5).ownBlock = (Value.slice A n c).ownBlock ∨ (Value.slice A5 (n + 1) c5).ownBlock = some w4.heap.size) :
  GrowI w5 base N A5 (n + 1) c5 (R ++ [((Ah, ch), s)]) := by
 have hz5 := hgr.size;have keepS : ∀ (B : Option Addr) (l : List Int), SlI w4 base w4.heap.size B N l → (∀ b off, 0 < N → B = some ⟨b, off, none⟩ → (Value.slice A n c).ownBlock ≠ some b) → SlI w5 base w5.heap.size B N l := by
  intro B l hl hne;refine ⟨hl.1, fun hm => ?_⟩;obtain ⟨b, off, rfl, g1, g2, g3, hc⟩ := hl.2 hm;have hk := hgr.block b g3 (fun e => hne b off hm rfl e.symm);refine ⟨b, off, rfl, g1, by omega, by omega, fun k x hx j u hu => ?_⟩;obtain ⟨h1, h2⟩ := hc k x hx j u hu;exact ⟨(World.cell?_of_block (w := w4) (by simpa using hk)).trans h1, (World.frozen?_of_block (w := w4) (by simpa using hk)).trans h2⟩
 have hoff : ∀ (B : Option Addr) (l : List Int), SlI w4 base w4.heap.size B N l → (∀ b off, 0 < N → B = some ⟨b, off, none⟩ → (Value.slice A n c).ownBlock ≠ some b) → ∀ b off, 0 < N → B = some ⟨b, off, none⟩ → (Value.slice A5 (n + 1) c5).ownBlock ≠ some b := by
  intro B l hl hne b off hN e
  rcases hat with h1 | h1
  ·rw [h1]; exact hne b off hN e
  ·rw [h1]
   obtain ⟨b', off', e', -, -, g3, -⟩ := hl.at_ hN;rw [e] at e'
   cases e'
   intro e2;injection e2 with e2;omega
 refine ⟨by rw [List.map_append]; exact hown, fun r hr => ?_, fun r hr hm b off e => ?_⟩
 ·rcases List.mem_append.1 hr with hr | hr
  ·exact keepS _ _ (h.rows r hr) fun b off hm e => h.off r hr hm b off e
  ·obtain rfl := List.mem_singleton.1 hr
   exact keepS _ _ hs ho
 ·rcases List.mem_append.1 hr with hr | hr
  ·exact hoff _ _ (h.rows r hr) (fun b off hm e => h.off r hr hm b off e) b off hm e
  ·obtain rfl := List.mem_singleton.1 hr
   exact hoff _ _ hs ho b off hm e
theorem GrowI.get (h : GrowI w base N A n c R) {k : Nat} (hk : k < n) : ∃ b off Ah ch s, A = some ⟨b, off, none⟩ ∧ base ≤ b ∧ b < w.heap.size ∧ R[k]? = some ((Ah, ch), s) ∧ w.cell? ⟨b, off + k, none⟩ = some (.slice Ah N ch) ∧ SlI w base w.heap.size Ah N s ∧
  ∀ b off, 0 < N → Ah = some ⟨b, off, none⟩ → (Value.slice A n c).ownBlock ≠ some b := by
 have hl := h.len;obtain ⟨b, off, e, g1, g2, g3, hc⟩ := (h.own.sl (flat_hiV N)).at_ (by omega);have hr : R[k]? = some R[k] := List.getElem?_eq_getElem (by omega);have hm : R[k] ∈ R := List.getElem_mem _;have h0 := (hc k R[k].1 (by rw [List.getElem?_map, hr]; rfl) 0 _ rfl).1;rw [Nat.mul_one, Nat.add_zero] at h0;exact ⟨b, off, R[k].1.1, R[k].1.2, R[k].2, e, g1, g3, hr, h0, h.rows _ hm, fun b off hN e => h.off _ hm hN b off e⟩
theorem GrowI.rowsI (h : GrowI w base N A n c R) (hN : N ≤ 1048576) : RowsI 1048576 w base w.heap.size A n (R.map fun r => ((r.1.1, N, r.1.2), r.2)) := by
 refine ⟨?_, fun r hr => ?_⟩
 ·have := h.own.sl (flat_hiV N)
  refine ⟨by have := h.len; simp [this], fun hn => ?_⟩;obtain ⟨b, off, e, g1, g2, g3, hc⟩ := this.at_ hn;refine ⟨b, off, e, g1, g2, g3, fun k x hx j u hu => ?_⟩;rw [List.getElem?_map, List.getElem?_map] at hx;obtain ⟨r, hr, rfl⟩ := Option.map_eq_some_iff.1 hx;obtain ⟨r2, hr2, rfl⟩ := Option.map_eq_some_iff.1 hr;exact hc k r2.1 (by rw [List.getElem?_map, hr2]; rfl) j u hu
 ·obtain ⟨r2, hr2, rfl⟩ := List.mem_map.1 hr
  exact ⟨h.rows r2 hr2, hN⟩
end
def fstG {α : Type} (G : α → Bool) (l : List α) (i : Int) : Prop := (i = -1 ∧ l.any G = false) ∨ ∃ k : Nat, i = k ∧ k < l.length ∧ (l.take k).any G = false ∧ ∃ x, l[k]? = some x ∧ G x = true
theorem equalI_calls (A B : Option Addr) (n m c d : Nat) (l r : List Int) (w : World) (lo hi lo' hi' : Nat) (h : SlI w lo hi A n l) (g : SlI w lo' hi' B m r) (hn : n ≤ 1048576) (hm : m ≤ 1048576) :
  Calls Tryz.prog 80 #[.slice A n c, .slice B m d] w fun e w' => e = .returned (.bool (decide (l = r))) ∧ Below w.heap.size w w' := by
 have hl := hide h.len;have hr := hide g.len
 by_cases hnm : n = m
 ·subst hnm
  replace h := hide h;replace g := hide g;go_enter Tryz.func80, Tryz.ntmps80
  go_wp2
  go_loopw [13] (fun i wr => ∃ k : Nat, k ≤ n ∧ i = .int .i64 k ∧ Below w.heap.size w wr ∧ l.take k = r.take k) (fun i _ => n - (intOf i).toNat)
  case atStart => exact ⟨0, Nat.zero_le _, rfl, bR, rfl⟩
  case round =>
   obtain ⟨k, hk, rfl, hb, he⟩ := hrel;replace he := hide he
   by_cases hlt : k < n
   ·obtain ⟨b, off, x, rfl, g1, g2, g3, hx, c0, -⟩ := h.out.get hlt
    obtain ⟨b', off', y, rfl, g1', g2', g3', hy, d0, -⟩ := g.out.get hlt;replace c0 := (hb.cell (p := ⟨b, off + k, none⟩) g3).trans c0;replace d0 := (hb.cell (p := ⟨b', off' + k, none⟩) g3').trans d0;replace hx := hide hx;replace hy := hide hy;clear h g;have hk0 : (0 : Int) ≤ (k : Int) := by omega
    have hk1 : (k : Int) < (n : Int) := by omega
    by_cases hxy : x = y
    ·subst hxy
     have hq : (x != x) = false := by simp
     go_wp2
     go_quiet (fail)
     go_wp2
     go_roundw
     case rel => exact ⟨k + 1, by omega, by go_num, by first | exact hb | exact ⟨hb.os, hb.tape, hb.output, hb.size, hb.block⟩, take_step he.out hx.out hy.out rfl⟩
     case measure => simp [intOf]; omega
    ·have hne := hide (take_stop hx.out hy.out hxy)
     have hq : (x != y) = true := by rw [bne_iff_ne]; exact hxy
     go_wp2
     go_quiet (fail)
     go_wp2
     go_ret;exact ⟨by simp [hne.out], by first | exact hb | exact ⟨hb.os, hb.tape, hb.output, hb.size, hb.block⟩⟩
   ·have hkn : k = n := by omega
    subst hkn;clear h g
    go_wp2
    go_ret;exact ⟨by rw [take_all he.out hl.out hr.out]; simp, hb⟩
 ·have hne : Hid (l ≠ r) := fun e => hnm (by rw [← hl.out, ← hr.out, e])
  have hb0 : ((n : Int) != (m : Int)) = true := by rw [bne_iff_ne]; omega
  clear h g;go_enter Tryz.func80, Tryz.ntmps80
  go_wp2
  go_ret;exact ⟨by simp [hne.out], bR⟩
theorem indexFuncR_calls (F : FuncId) (caps : Array Value) (G : List Int → Bool) (A : Option Addr) (n c : Nat) (R : List (Hd × List Int)) (w : World) (lo hi : Nat) (h : RowsI 1048576 w lo hi A n R) (hn : n ≤ 1048576)
  (hF : ∀ (v : Value) (W : World), Sem.run Tryz.prog (callFunc F (#[v] ++ caps)) W = .ok (.enter F (#[v] ++ caps)) W)
  (hcl : ∀ (A : Option Addr) (m d : Nat) (l : List Int) (W : World), ((A, m, d), l) ∈ R → Below w.heap.size w W → SlI W lo hi A m l → m ≤ 1048576 → Calls Tryz.prog F (#[.slice A m d] ++ caps) W (Says (G l) W)) :
  Calls Tryz.prog 239 #[.slice A n c, .func (.func F) #[] caps] w fun e w' => ∃ i : Int, e = .returned (.int .i64 i) ∧ fstG G (R.map (·.2)) i ∧ Below w.heap.size w w' := by
 have hlen : Hid (R.length = n) := by have := h.1.len; rwa [List.length_map] at this
 replace hcl := hide hcl;replace h := hide h;go_enter Tryz.func239, Tryz.ntmps239
 go_wp2
 go_loopw [8] (fun i wr => ∃ k : Nat, k ≤ n ∧ i = .int .i64 k ∧ Below w.heap.size w wr ∧ Hid (((R.map (·.2)).take k).any G = false)) (fun i _ => n - (intOf i).toNat)
 case atStart => exact ⟨0, Nat.zero_le _, rfl, bR, rfl⟩
 case round =>
  obtain ⟨k, hk, rfl, hb, ha⟩ := hrel
  by_cases hlt : k < n
  ·have hxr : R[k]? = some (R[k]'(by have := hlen.out; omega)) := List.getElem?_eq_getElem _
   have hmem : (R[k]'(by have := hlen.out; omega)) ∈ R := List.getElem_mem _;obtain ⟨hs0, hm0⟩ := h.out.2 _ hmem;obtain ⟨b, off, hA, g1, g2, g3, hc0⟩ := h.out.1.at_ (show 0 < n by omega);have c0 := (hc0 k _ (by rw [List.getElem?_map, hxr]; rfl) 0 _ rfl).1;rw [Nat.mul_one, Nat.add_zero] at c0;generalize (R[k]'(by have := hlen.out; omega)) = r at *;obtain ⟨⟨Ah, m, ch⟩, s⟩ := r
   (try dsimp only at hs0 hm0 c0)
   replace c0 := (hb.cell (p := ⟨b, off + k, none⟩) g3).trans c0;subst hA;have hc := hcl.out Ah m ch s wr hmem hb (hs0.below hb (.inr zR)) hm0;have hx2 : (R.map (·.2))[k]? = some s := by rw [List.getElem?_map, hxr]; rfl
   replace hx2 := hide hx2;clear h hcl hs0 hxr hmem hc0
   by_cases hg : G s = true
   ·rw [hg] at hc
    replace hc := hide hc;have hy : Hid (fstG G (R.map (·.2)) k) := .inr ⟨k, rfl, by rw [List.length_map, hlen.out]; exact hlt, ha.out, s, hx2.out, hg⟩;clear hg;go_wp2_with fail;refine hc.out.mono ?_;rintro e w1 ⟨rfl, hb1⟩;go_wp2_with fail;go_ret;exact ⟨_, rfl, hy.out, hb.trans (hb1.mono hb.size)⟩
   ·replace hg := Bool.eq_false_iff.2 hg
    rw [hg] at hc;replace hc := hide hc;have hy := hide (any_take_succ ha.out hx2.out hg);clear hg;go_wp2_with fail;refine hc.out.mono ?_;rintro e w1 ⟨rfl, hb1⟩;go_wp2_with fail;go_roundw
    case rel => exact ⟨k + 1, by omega, by go_num, hb.trans (hb1.mono hb.size), hy⟩
    case measure => simp [intOf]; omega
  ·have hkn : k = n := by omega
   subst hkn;clear hcl h
   go_wp2
   go_ret;have hy := ha.out
   rw [List.take_of_length_le (by rw [List.length_map, hlen.out]; exact zR)] at hy;exact ⟨_, rfl, .inl ⟨rfl, hy⟩, hb⟩
def put4 (w : World) (g : Nat) (v0 v1 v2 v3 : Value) : World := (((w.setCell ⟨g, 0, none⟩ v0).setCell ⟨g, 1, none⟩ v1).setCell ⟨g, 2, none⟩ v2).setCell ⟨g, 3, none⟩ v3
theorem put4_other (w : World) (g : Nat) (v0 v1 v2 v3 : Value) {q : Nat} (h : q ≠ g) : (put4 w g v0 v1 v2 v3).heap[q]? = w.heap[q]? := by
 unfold put4;rw [Below.heap_setCell _ _ _ _ h, Below.heap_setCell _ _ _ _ h, Below.heap_setCell _ _ _ _ h, Below.heap_setCell _ _ _ _ h]
theorem put4_size (w : World) (g : Nat) (v0 v1 v2 v3 : Value) : (put4 w g v0 v1 v2 v3).heap.size = w.heap.size := by unfold put4; simp
theorem put4_only {lo hi g : Nat} {a w : World} (h : Only lo hi a w) (hg : a.heap.size ≤ g) (v0 v1 v2 v3 : Value) : Only lo hi a (put4 w g v0 v1 v2 v3) :=
 (((h.setNew (p := ⟨g, 0, none⟩) hg v0).setNew (p := ⟨g, 1, none⟩) hg v1).setNew (p := ⟨g, 2, none⟩) hg v2).setNew (p := ⟨g, 3, none⟩) hg v3
def DrawnG (K M Q b N : Nat) (w : World) (e : Ending) (w' : World) : Prop := ∃ (st ini : Nat) (A : Option Addr) (n c : Nat) (B : Option Addr) (m d : Nat) (ts : List ByteArray) (es : List Ed),
 e = .returned (.agg #[.int .i64 (st : Int), .int .i64 (ini : Int), .slice A n c, .slice B m d]) ∧ SlS w' w.heap.size w'.heap.size A n (joiF ts) ∧ SlE w' w.heap.size w'.heap.size B m es ∧
 ltsV ((st : Int), (ini : Int), joiF ts, es) = true ∧ st ≤ 7 ∧ es.length ≤ M ∧ n ≤ K ∧ NamD ts ∧ SrcW w' b (N + Q) ∧ Only b (b + 1) w w'
def KindO (nb : Nat) (l : List Int) : Prop := (∀ j : Nat, j < nb → j < l.length → l[j]? = some (j : Int)) ∧ ∀ x, x ∈ l → 0 ≤ x ∧ x < (nb : Int)
theorem KindO.start (nb : Nat) : KindO nb [] := ⟨fun j _ h => absurd h (by simp), fun x h => absurd h List.not_mem_nil⟩
theorem KindO.app {nb : Nat} {l : List Int} (h : KindO nb l) {x : Int} (hx : 0 ≤ x ∧ x < (nb : Int)) (hk : l.length < nb → x = (l.length : Int)) : KindO nb (l ++ [x]) := by
 refine ⟨fun j hj hl => ?_, fun y hy => ?_⟩
 ·rw [List.length_append, List.length_singleton] at hl
  by_cases e : j < l.length
  ·rw [List.getElem?_append_left e]; exact h.1 j hj e
  ·obtain rfl : j = l.length := by omega
   rw [List.getElem?_append_right zR, Nat.sub_self, hk hj]
   rfl
 ·rcases List.mem_append.1 hy with g | g
  ·exact h.2 y g
  ·rw [List.mem_singleton.1 g]; exact hx
def EdD (st m : Nat) (es : List Ed) : Prop := ∀ e, e ∈ es → (0 ≤ e.1 ∧ e.1 < (st : Int)) ∧ (0 ≤ e.2.1 ∧ e.2.1 < (m : Int)) ∧ 0 ≤ e.2.2 ∧ e.2.2 < (st : Int)
theorem EdD.start (st m : Nat) : EdD st m [] := fun e h => absurd h List.not_mem_nil
theorem EdD.app {st m : Nat} {es : List Ed} (h : EdD st m es) {f l t : Int} (h1 : 0 ≤ f ∧ f < (st : Int)) (h2 : 0 ≤ l ∧ l < (m : Int)) (h3 : 0 ≤ t ∧ t < (st : Int)) : EdD st m (es ++ [(f, l, t)]) := fun e he => by
 rcases List.mem_append.1 he with g | g
 ·exact h e g
 ·rw [List.mem_singleton.1 g]; exact ⟨h1, h2, h3⟩
theorem joi_len (ts : List ByteArray) : (joiF ts).length ≤ ts.length + 1 := by
 unfold joiF;rw [List.length_map];refine Nat.le_trans (Go.Lib.compact_length_le _) ?_;rw [List.length_mergeSort, List.length_map, List.length_cons];exact zR
theorem l11DrawOk_calls (b N : Nat) (w : World) (h : SrcW w b N) (hN : N ≤ 700000000) :
  Calls Tryz.prog 113 #[.pointer (some ⟨b, 0, none⟩)] w (DrawnG 6 60 1000 b N w) := by
 have hEi := hide elem_int;have hEe := hide elem_edge;have hbl := h.lt;have hon0 := (Only.refl b (b + 1) w).alloc' (.cells #[.int .i64 0, .int .i64 0, .slice none 0 0, .slice none 0 0] 27);have k8 := heap_alloc_new w (.cells #[.int .i64 0, .int .i64 0, .slice none 0 0, .slice none 0 0] 27);have hS0 := h.alloc (.cells #[.int .i64 0, .int .i64 0, .slice none 0 0, .slice none 0 0] 27);have hz0 : w.heap.size < (w.alloc (.cells #[.int .i64 0, .int .i64 0, .slice none 0 0, .slice none 0 0] 27)).heap.size := by simp
 obtain ⟨wA, hwA⟩ : ∃ wA, wA = w.alloc (.cells #[.int .i64 0, .int .i64 0, .slice none 0 0, .slice none 0 0] 27) := ⟨_, rfl⟩;rw [← hwA] at hon0 k8 hS0 hz0;have q1 := hide (pick_calls b N 4 wA hS0 (by omega));replace hon0 := hide hon0;replace k8 := hide k8;clear h hS0;go_enter Tryz.func113, Tryz.ntmps113;go_upto_region 1 with fail;rw [← hwA];replace hwA := hide hwA;go_wp2_with fail;refine q1.out.mono ?_;rintro e w1 ⟨x, rfl, x0, x1, hs1⟩;obtain ⟨nb, hnb⟩ : ∃ nb : Nat, 1 + x = (nb : Int) := ⟨(1 + x).toNat, by omega⟩;have hnb1 : 1 ≤ nb ∧ nb ≤ 4 := by omega
 have q2 := hide (pick_calls b (N + 2) (7 - (nb : Int)) w1 hs1.src (by omega));replace hs1 := hide hs1;clear q1 x0 x1;go_wp2_with fail;refine q2.out.mono ?_;rintro e w2 ⟨y, rfl, y0, y1, hs2⟩;clear hnb;obtain ⟨st, hst⟩ : ∃ st : Nat, (nb : Int) + y = (st : Int) := ⟨((nb : Int) + y).toNat, by omega⟩;have hst1 : nb ≤ st ∧ st ≤ 6 := by omega
 have q3 := hide (l11DrawNames_calls b (N + 2 + 2) w2 hs2.src (by omega));have hz2 : wA.heap.size = w2.heap.size := by have := hs1.out.size; have := hs2.size; omega
 have hon2 := hide (hs1.out.only.trans' hs2.only);replace hz2 := hide hz2;clear q2 y0 y1 hs1 hs2;go_wp2_with fail;refine q3.out.mono ?_;rintro e w3 ⟨A, n, c, ts, rfl, hT, hn2, hn5, hD, hs3, hon3⟩;clear hst;have hT1 := hide (hT.below ((Below.refl w3.heap.size w3).alloc zR (.cells #[] 2)) (.inr zR));have hlT := hide hT.len;have hO0 : Hid (Own 1 iv (w3.alloc (.cells #[] 2)) w3.heap.size 2 (some ⟨w3.heap.size, 0, none⟩) 0 0 ([] : List Int)) := Own.made (α := Int) (size := 1) (f := iv) w3 2 zR;have hs4 := hide (hs3.alloc (.cells #[] 2));have hon4 := hide ((Only.refl b (b + 1) w3).alloc' (.cells #[] 2));have hon30 := hide (hon2.out.trans' hon3);have hz3 : w2.heap.size ≤ w3.heap.size := hon3.size;replace hT := hide hT;replace hD := hide hD;obtain ⟨hnb0, hnb4⟩ := hnb1;obtain ⟨hst0, hst6⟩ := hst1;have hbl3 : b < w3.heap.size := hs3.lt;have hbl2 : b < w2.heap.size := by have := hz2.out; omega
 clear q3 hon2 hs3 hon3;go_wp2_with fail
 go_loopw [6, 7] (fun o i wr => ∃ (k : Nat) (K : Option Addr) (kc : Nat) (l : List Int), k ≤ st ∧ i = .int .i64 (k : Nat) ∧ o = .slice K k kc ∧ Hid (Own 1 iv wr w3.heap.size 2 K k kc l) ∧ Hid (KindO nb l) ∧ Hid (SrcW wr b (N + 14 + 2 * k)) ∧ Hid (Only b (b + 1) w3 wr)) (fun _ i _ => st - (intOf i).toNat)
 case atStart => exact ⟨0, _, 0, [], Nat.zero_le _, rfl, rfl, hO0.out, KindO.start nb, hs4.out, hon4.out⟩
 case round =>
  clear hO0 hs4 hon4 hT1;obtain ⟨k, K, kc, l, hk, rfl, rfl, hO, hK, hS, hon⟩ := hrel;have hzr := hon.out.size;have hll : l.length = k := hO.out.len
  by_cases hlt : k < st
  ·have k1 : (k : Int) < (st : Int) := by omega
   by_cases hkb : k < nb
   ·have k2 : (k : Int) < (nb : Int) := by omega
    have hza : w3.heap.size ≤ (wr.alloc (.cells #[.int .i64 (k : Int)] 2)).heap.size := by rw [World.size_alloc]; omega
    have hOa := hide (hO.out.alloc (.cells #[.int .i64 (k : Int)] 2));have hSa := hide (hS.out.alloc (.cells #[.int .i64 (k : Int)] 2));have hona := hide (hon.out.alloc' (.cells #[.int .i64 (k : Int)] 2));have hrow := hide (fun q (e : (Value.slice K k kc).ownBlock = some q) => (hOa.out.lt q e).1);have hK2 := hide (hK.out.app (x := (k : Int)) (by omega) (fun _ => by omega));clear hO hS hon hll hzr;go_wp2_with (first | (at_builtin; (with_reducible refine wpList_app rfl (.tmp 36) (.tmp 38) rfl hEi.out flat_iv rfl hOa.out rfl (Sl.lit1' wr 2 (k : Int) _ rfl 1 _ ?d0) ?d1 hza ?_); rotate_right; intro A6 c6 w6 hown6 hgr6 hb6 hat6))
    case d0 => rfl
    case d1 => omega
    have hS6 := hide ((hSa.out.grow hgr6 (fun q e => by have := hrow.out q e; omega)).more (show N + 14 + 2 * k ≤ N + 14 + 2 * (k + 1) by omega));have hon6 := hide (hona.out.grow hgr6 (fun q e => hrow.out q e));replace hown6 := hide hown6;clear hgr6 hb6 hat6 hOa hSa hona hrow;go_wp2_with fail;go_roundw
    case rel => exact ⟨k + 1, A6, c6, _, by omega, by go_num, rfl, hown6.out, hK2.out, hS6.out, hon6.out⟩
    case measure => simp [intOf]; omega
   ·have k2 : ¬ (k : Int) < (nb : Int) := by omega
    have q := hide (pick_calls b (N + 14 + 2 * k) (nb : Int) wr hS.out (by omega));go_wp2_with fail;refine q.out.mono ?_;rintro e w5 ⟨z, rfl, z0, z1, hs5⟩;have hO5 := hide (hO.out.keep (w' := w5) fun g e => hs5.only.block g (hO.out.lt g e).2 (by have := (hO.out.lt g e).1; omega));have hon5 := hide (hon.out.trans' hs5.only);have hz5 := hs5.size;have hza : w3.heap.size ≤ (w5.alloc (.cells #[.int .i64 z] 2)).heap.size := by rw [World.size_alloc]; omega
    have hOa := hide (hO5.out.alloc (.cells #[.int .i64 z] 2));have hSa := hide (hs5.src.alloc (.cells #[.int .i64 z] 2));have hona := hide (hon5.out.alloc' (.cells #[.int .i64 z] 2));have hrow := hide (fun q (e : (Value.slice K k kc).ownBlock = some q) => (hOa.out.lt q e).1);have hK2 := hide (hK.out.app (x := z) (by omega) (fun h => by omega));clear hO hS hon hll hzr hz5 hO5 hon5 hs5 q z0 z1;go_wp2_with (first | (at_builtin; (with_reducible refine wpList_app rfl (.tmp 40) (.tmp 44) rfl hEi.out flat_iv rfl hOa.out rfl (Sl.lit1' w5 2 z _ rfl 1 _ ?d0) ?d1 hza ?_); rotate_right; intro A6 c6 w6 hown6 hgr6 hb6 hat6))
    case d0 => rfl
    case d1 => omega
    have hS6 := hide ((hSa.out.grow hgr6 (fun q e => by have := hrow.out q e; omega)).more (show N + 14 + 2 * k + 2 ≤ N + 14 + 2 * (k + 1) by omega));have hon6 := hide (hona.out.grow hgr6 (fun q e => hrow.out q e));replace hown6 := hide hown6;clear hgr6 hb6 hat6 hOa hSa hona hrow;go_wp2_with fail;go_roundw
    case rel => exact ⟨k + 1, A6, c6, _, by omega, by go_num, rfl, hown6.out, hK2.out, hS6.out, hon6.out⟩
    case measure => simp [intOf]; omega
  ·obtain rfl : k = st := by omega
   have k1 : ¬ (k : Int) < (k : Int) := by omega
   obtain ⟨wK, rfl⟩ : ∃ wK : World, wK = wr := ⟨_, rfl⟩;have hKs := hide (hO.out.sl flat_iv);have hE0 : Hid (Own 3 ev (wK.alloc (.cells #[] 84)) wK.heap.size 84 (some ⟨wK.heap.size, 0, none⟩) 0 0 ([] : List Ed)) := Own.made (α := Ed) (size := 3) (f := ev) wK 84 zR;have hSe := hide (hS.out.alloc (.cells #[] 84));have hone := hide ((Only.refl b (b + 1) wK).alloc' (.cells #[] 84));have hTK := hide (hT.out.only hon.out (.inr (by have := hzr; have := hbl; omega)));have q4 := hide (pick_calls b _ (2 + 2 * (nb : Int)) (wK.alloc (.cells #[] 84)) hSe.out (by omega));clear hS;go_wp2_with fail;refine q4.out.mono ?_;rintro e w6 ⟨r0, rfl, r00, r01, hs6⟩;obtain ⟨r, rfl⟩ : ∃ r : Nat, r0 = (r : Int) := ⟨r0.toNat, by omega⟩;have hr9 : r ≤ 9 := by omega
   have hE6 := hide (hE0.out.keep (w' := w6) fun g e => hs6.only.block g (hE0.out.lt g e).2 (by have := (hE0.out.lt g e).1; omega));have hon6 := hide (hone.out.trans' hs6.only);replace hs6 := hide (hs6.src.more (show N + 14 + 2 * k + 2 ≤ N + 40 + 30 * (9 - r) by omega));clear q4 hE0 hSe hone r00 r01;go_wp2_with fail;obtain ⟨st, rfl⟩ : ∃ st, st = k := ⟨_, rfl⟩;obtain ⟨gk, ok, rfl, -⟩ := hKs.out.at_ (by omega);have hbK : b < wK.heap.size := by omega
   clear hlt k1 hk hO hlT
   go_loopw [8, 9] (fun v8 v9 wr => ∃ (r mm cc : Nat) (E : Option Addr) (es : List Ed), v9 = .int .i64 (r : Nat) ∧ r ≤ 9 ∧ v8 = .slice E mm cc ∧ mm ≤ 6 * (9 - r) ∧ Hid (Own 3 ev wr wK.heap.size 84 E mm cc es) ∧ Hid (EdD st n es) ∧ Hid (SrcW wr b (N + 40 + 30 * (9 - r))) ∧ Hid (Only b (b + 1) wK wr)) (fun _ v _ => (intOf v).toNat)
   case atStart => exact ⟨r, 0, 0, _, [], rfl, hr9, rfl, Nat.zero_le _, hE6.out, EdD.start _ _, hs6.out, hon6.out⟩
   case round =>
    clear hE6 hs6 hon6 hr9;obtain ⟨r, mm, cc, E, es, rfl, hr, rfl, hmm, hO, hEd, hS, hon6⟩ := hrel
    by_cases hpos : 0 < r
    ·have p1 : (0 : Int) < (r : Int) := by omega
     obtain ⟨NN, hNN⟩ : ∃ NN, N + 40 + 30 * (9 - r) = NN := ⟨_, rfl⟩;rw [hNN] at hS;have hNNb : NN ≤ N + 400 := by omega
     replace hNN := hide hNN;have q5 := hide (pick_calls b NN (nb : Int) wr hS.out (by omega));go_wp2_with fail;refine q5.out.mono ?_;rintro e w7 ⟨f, rfl, f0, f1, h7⟩;have q6 := hide (pick_calls b (NN + 2) (n : Int) w7 h7.src (by omega));replace h7 := hide h7;clear q5;go_wp2_with fail;refine q6.out.mono ?_;rintro e w8 ⟨lb, rfl, l0, l1, h8⟩;have q7 := hide (pick_calls b (NN + 2 + 2) (nb : Int) w8 h8.src (by omega));replace h8 := hide (h7.out.trans h8);clear q6 h7;go_wp2_with fail;refine q7.out.mono ?_;rintro e w9 ⟨t, rfl, t0, t1, h9⟩;obtain ⟨tn, rfl⟩ : ∃ tn : Nat, t = (tn : Int) := ⟨t.toNat, by omega⟩;replace h9 := h8.out.trans h9;have hO9 := hide (hO.out.keep (w' := w9) fun g e => h9.only.block g (hO.out.lt g e).2 (by have := (hO.out.lt g e).1; omega));have hon9 := hide (hon6.out.trans' h9.only);have hS9 := hide (h9.src.more (show NN + 2 + 2 + 2 ≤ NN + 6 + 2 * 0 by omega));have hlb : 0 ≤ lb ∧ lb < (n : Int) := by omega
     have htn : tn < nb := by omega
     clear q7 h8 h9 hO hS hon6 l0 l1 t0 t1 f0 f1;go_wp2_with fail
     go_loopw [8, 13] (fun v8 v13 wz => ∃ (j mm2 cc2 : Nat) (E2 : Option Addr) (es2 : List Ed), j ≤ st ∧ v13 = .int .i64 (j : Nat) ∧ v8 = .slice E2 mm2 cc2 ∧ mm2 ≤ mm + j ∧ Hid (Own 3 ev wz wK.heap.size 84 E2 mm2 cc2 es2) ∧ Hid (EdD st n es2) ∧ Hid (SrcW wz b (NN + 6 + 2 * j)) ∧ Hid (Only b (b + 1) wK wz)) (fun _ v _ => st - (intOf v).toNat)
     case atStart => exact ⟨0, mm, cc, E, es, Nat.zero_le _, rfl, rfl, zR, hO9.out, hEd.out, hS9.out, hon9.out⟩
     case round =>
      clear hO9 hS9 hon9 hEd;obtain ⟨j, mm2, cc2, E2, es2, hj, rfl, rfl, hmm2, hO, hEd, hS, hon6⟩ := hrel
      by_cases hlt : j < st
      ·have j0 : (0 : Int) ≤ (j : Int) := by omega
       have j1 : (j : Int) < (st : Int) := by omega
       obtain ⟨gk2, ok2, y, e1, -, -, -, hy, ck, -⟩ := SlI.get (hKs.out.only hon6.out (.inr (by omega))) hlt;cases e1;have hzO := hon6.out.size
       by_cases hyf : y = f
       ·obtain rfl : f = y := hyf.symm
        have g1 : (f == f) = true := by simp
        obtain ⟨wO, rfl⟩ : ∃ wO : World, wO = wr := ⟨_, rfl⟩;have hA0 : Hid (Own 1 iv (wO.alloc (.cells #[] 2)) wO.heap.size 2 (some ⟨wO.heap.size, 0, none⟩) 0 0 ([] : List Int)) := Own.made (α := Int) (size := 1) (f := iv) wO 2 zR;have hB0 := hide ((Below.refl wO.heap.size wO).alloc zR (.cells #[] 2));clear hy;go_wp2_with fail;clear ck
        go_loopw [14, 15] (fun v14 v15 wy => ∃ (i an ac : Nat) (AA : Option Addr) (la : List Int), i ≤ st ∧ v15 = .int .i64 (i : Nat) ∧ v14 = .slice AA an ac ∧ an ≤ i ∧ Hid (tn < i → 0 < an) ∧ Hid (Own 1 iv wy wO.heap.size 2 AA an ac la) ∧ Hid (∀ x, x ∈ la → 0 ≤ x ∧ x < (st : Int)) ∧ Hid (Below wO.heap.size wO wy)) (fun _ v _ => st - (intOf v).toNat)
        case atStart => exact ⟨0, 0, 0, _, [], Nat.zero_le _, rfl, rfl, zR, (fun h => absurd h (by omega)), hA0.out, (fun x h => absurd h List.not_mem_nil), hB0.out⟩
        case round =>
         clear hA0 hB0;obtain ⟨i, an, ac, AA, la, hi, rfl, rfl, han, hne, hA, hla, hB⟩ := hrel
         by_cases hil : i < st
         ·have i0 : (0 : Int) ≤ (i : Int) := by omega
          have i1 : (i : Int) < (st : Int) := by omega
          obtain ⟨gk2, ok2, y, e1, -, -, -, hy, ck, -⟩ := SlI.get ((hKs.out.only hon6.out (.inr (by omega))).below hB.out (.inl hzO)) hil;cases e1
          by_cases hyt : y = (tn : Int)
          ·obtain rfl : (tn : Int) = y := hyt.symm
           have g2 : ((tn : Int) == (tn : Int)) = true := by simp
           have hzy := hB.out.size;have hza : wO.heap.size ≤ (wr.alloc (.cells #[.int .i64 (i : Int)] 2)).heap.size := by rw [World.size_alloc]; omega
           have hOa := hide (hA.out.alloc (.cells #[.int .i64 (i : Int)] 2));have hBa := hide (hB.out.alloc hzy (.cells #[.int .i64 (i : Int)] 2));have hrow := hide (fun q (e : (Value.slice AA an ac).ownBlock = some q) => (hOa.out.lt q e).1);have hla2 : Hid (∀ x, x ∈ la ++ [(i : Int)] → 0 ≤ x ∧ x < (st : Int)) := fun x hx => by
            rcases List.mem_append.1 hx with h | h
            ·exact hla.out x h
            ·rw [List.mem_singleton.1 h]; omega
           clear hA hB hla hy hzy;go_wp2_with (first | (at_builtin; (with_reducible refine wpList_app rfl (.tmp 89) (.tmp 91) rfl hEi.out flat_iv rfl hOa.out rfl (Sl.lit1' wr 2 (i : Int) _ rfl 1 _ ?d0) ?d1 hza ?_); rotate_right; intro A6 c6 w6 hown6 hgr6 hb6 hat6))
           case d0 => rfl
           case d1 => omega
           have hB6 := hide (hBa.out.grown hgr6 (Nat.le_trans zR hBa.out.size) (fun q e => hrow.out q e));replace hown6 := hide hown6;clear hgr6 hb6 hat6 hOa hBa hrow ck;go_wp2_with fail;go_roundw
           case rel => exact ⟨i + 1, an + 1, c6, A6, _, by omega, by go_num, rfl, by omega, (fun _ => by omega), hown6.out, hla2.out, hB6.out⟩
           case measure => simp [intOf]; omega
          ·have g2 : (y == (tn : Int)) = false := by rw [beq_eq_false_iff_ne]; exact hyt
           have hne2 : Hid (tn < i + 1 → 0 < an) := fun h => by
            by_cases e : tn < i
            ·exact hne.out e
            ·obtain rfl : tn = i := by omega
             have := hK.out.1 tn htn (List.getElem?_eq_some_iff.1 hy).1;rw [hy] at this;injection this with this;exact absurd this hyt
           clear hy;go_wp2_with fail;clear ck;go_roundw
           case rel => exact ⟨i + 1, an, ac, AA, la, by omega, by go_num, rfl, by omega, hne2.out, hA.out, hla.out, hB.out⟩
           case measure => simp [intOf]; omega
         ·obtain rfl : i = st := by omega
          have i1 : ¬ (i : Int) < (i : Int) := by omega
          have hpa : 0 < an := hne.out (by omega);have hls := hide (hA.out.sl flat_iv);have hbO : b < wO.heap.size := by omega
          have hSy := hide (hS.out.below hB.out hbO);have q8 := hide (among_calls b (NN + 6 + 2 * j) AA an ac la wr _ _ hSy.out (by omega) hls.out (.inr (by omega)) hpa (by omega));have hzy := hB.out.size;go_wp2_with fail;refine q8.out.mono ?_;rintro e w10 ⟨x, rfl, hx, hs10⟩;have hxb := hla.out x hx;have hO10 := hide (hO.out.keep (w' := w10) fun g e => (hs10.only.block g (Nat.lt_of_lt_of_le (hO.out.lt g e).2 hzy) (by have := (hO.out.lt g e).1; omega)).trans (hB.out.block g (hO.out.lt g e).2));have hon10 := hide ((hon6.out.belowAt hB.out hzO).trans' hs10.only);have hS10 := hide (hs10.src);have hz10 := hon10.out.size;have hza : wK.heap.size ≤ (w10.alloc (.cells #[.int .i64 (j : Int), .int .i64 lb, .int .i64 x] 84)).heap.size := by rw [World.size_alloc]; omega
          have hOa := hide (hO10.out.alloc (.cells #[.int .i64 (j : Int), .int .i64 lb, .int .i64 x] 84));have hSa := hide (hS10.out.alloc (.cells #[.int .i64 (j : Int), .int .i64 lb, .int .i64 x] 84));have hona := hide (hon10.out.alloc' (.cells #[.int .i64 (j : Int), .int .i64 lb, .int .i64 x] 84));have hrow := hide (fun q (e : (Value.slice E2 mm2 cc2).ownBlock = some q) => (hOa.out.lt q e).1);have hEd2 := hide (hEd.out.app (f := (j : Int)) (l := lb) (t := x) (by omega) hlb hxb);clear hO hS hon6 hA hB hla hls hSy q8 hs10 hO10 hon10 hS10 hx hxb hne hz10 hzy;go_wp2_with (first | (at_builtin; (with_reducible refine wpList_app rfl (.tmp 93) (.tmp 100) rfl hEe.out flat_ev rfl hOa.out rfl (Sl.lit1' w10 84 ((j : Int), lb, x) _ rfl 3 _ ?d0) ?d1 hza ?_); rotate_right; intro A6 c6 w6 hown6 hgr6 hb6 hat6))
          case d0 => rfl
          case d1 => omega
          have hS6 := hide ((hSa.out.grow hgr6 (fun q e => by have := hrow.out q e; omega)).more (show NN + 6 + 2 * j + 2 ≤ NN + 6 + 2 * (j + 1) by omega));have hon6 := hide (hona.out.grow hgr6 (fun q e => hrow.out q e));replace hown6 := hide hown6;clear hgr6 hb6 hat6 hOa hSa hona hrow;go_wp2_with fail;go_roundw
          case rel => exact ⟨j + 1, mm2 + 1, c6, A6, _, by omega, by go_num, rfl, by omega, hown6.out, hEd2.out, hS6.out, hon6.out⟩
          case measure => simp [intOf]; omega
       ·have g1 : (y == f) = false := by rw [beq_eq_false_iff_ne]; exact hyf
        have hS2 := hide (hS.out.more (show NN + 6 + 2 * j ≤ NN + 6 + 2 * (j + 1) by omega));clear hy;go_wp2_with fail;clear ck;go_roundw
        case rel => exact ⟨j + 1, mm2, cc2, E2, es2, by omega, by go_num, rfl, by omega, hO.out, hEd.out, hS2.out, hon6.out⟩
        case measure => simp [intOf]; omega
      ·obtain rfl : j = st := by omega
       have j1 : ¬ (j : Int) < (j : Int) := by omega
       obtain ⟨r2, rfl⟩ : ∃ r2, r = r2 + 1 := ⟨r - 1, by omega⟩;have hS2 := hide (hS.out.more (show NN + 6 + 2 * j ≤ N + 40 + 30 * (9 - r2) by have := hNN.out; omega));go_wp2_with fail;go_roundw
       case rel => exact ⟨r2, mm2, cc2, E2, es2, by go_num, by omega, rfl, by omega, hO.out, hEd.out, hS2.out, hon6.out⟩
       case measure => simp [intOf]
    ·obtain rfl : r = 0 := by omega
     have p1 : ¬ (0 : Int) < ((0 : Nat) : Int) := by omega
     have q9 := hide (one_calls b _ 3 wr hS.out (by omega));obtain ⟨wL, rfl⟩ : ∃ wL : World, wL = wr := ⟨_, rfl⟩;have hzL := hon6.out.size;go_upto_if 103 with (first | (go_at_call 92; (with_reducible refine q9.out.mono ?_); rintro e w5 ⟨yes, rfl, hs5⟩; replace hs5 := hide hs5))
     go_cut [8] (fun v8 wx => ∃ (mm2 cc2 : Nat) (E2 : Option Addr) (es2 : List Ed), v8 = .slice E2 mm2 cc2 ∧ mm2 ≤ 55 ∧ Hid (Own 3 ev wx wK.heap.size 84 E2 mm2 cc2 es2) ∧ Hid (EdD st n es2) ∧ Hid (SrcW wx b (N + 400)) ∧ Hid (Only b (b + 1) wK wx))
     case first =>
      have hO5 := hide (hO.out.keep (w' := w5) fun g e => hs5.out.only.block g (hO.out.lt g e).2 (by have := (hO.out.lt g e).1; omega));have hon5 := hide (hon6.out.trans' hs5.out.only)
      cases yes with
      | false =>
       have hS5 := hide (hs5.out.src.more (show N + 40 + 30 * (9 - 0) + 2 ≤ N + 400 by omega));go_wp2_with fail;go_meet;exact ⟨mm, cc, E, es, rfl, by omega, hO5.out, hEd.out, hS5.out, hon5.out⟩
      | true =>
       have r1 := hide (pick_calls b _ (st : Int) w5 hs5.out.src (by omega));clear hs5 q9;go_wp2_with fail;refine r1.out.mono ?_;rintro e w6 ⟨f, rfl, f0, f1, h6⟩;have r2 := hide (pick_calls b _ (n : Int) w6 h6.src (by omega));replace h6 := hide h6;clear r1;go_wp2_with fail;refine r2.out.mono ?_;rintro e w7 ⟨lb, rfl, l0, l1, h7⟩;have r3 := hide (pick_calls b _ (st : Int) w7 h7.src (by omega));replace h7 := hide (h6.out.trans h7);clear r2 h6;go_wp2_with fail;refine r3.out.mono ?_;rintro e w8 ⟨t, rfl, t0, t1, h8⟩;replace h8 := h7.out.trans h8;have hO8 := hide (hO5.out.keep (w' := w8) fun g e => h8.only.block g (hO5.out.lt g e).2 (by have := (hO5.out.lt g e).1; omega));have hon8 := hide (hon5.out.trans' h8.only);have hS8 := hide (h8.src.more (show N + 40 + 30 * (9 - 0) + 2 + 2 + 2 + 2 ≤ N + 400 by omega));have hz8 := hon8.out.size;have hza : wK.heap.size ≤ (w8.alloc (.cells #[.int .i64 f, .int .i64 lb, .int .i64 t] 84)).heap.size := by rw [World.size_alloc]; omega
       have hOa := hide (hO8.out.alloc (.cells #[.int .i64 f, .int .i64 lb, .int .i64 t] 84));have hSa := hide (hS8.out.alloc (.cells #[.int .i64 f, .int .i64 lb, .int .i64 t] 84));have hona := hide (hon8.out.alloc' (.cells #[.int .i64 f, .int .i64 lb, .int .i64 t] 84));have hrow := hide (fun q (e : (Value.slice E mm cc).ownBlock = some q) => (hOa.out.lt q e).1);have hEd2 := hide (hEd.out.app (f := f) (l := lb) (t := t) (by omega) (by omega) (by omega));clear r3 h7 h8 hO5 hon5 hO8 hon8 hS8 hz8 hO f0 f1 l0 l1 t0 t1;go_wp2_with (first | (at_builtin; (with_reducible refine wpList_app rfl (.tmp 104) (.tmp 116) rfl hEe.out flat_ev rfl hOa.out rfl (Sl.lit1' w8 84 (f, lb, t) _ rfl 3 _ ?d0) ?d1 hza ?_); rotate_right; intro A6 c6 w9 hown6 hgr6 hb6 hat6))
       case d0 => rfl
       case d1 => omega
       have hS6 := hide (hSa.out.grow hgr6 (fun q e => by have := hrow.out q e; omega));have hon9 := hide (hona.out.grow hgr6 (fun q e => hrow.out q e));replace hown6 := hide hown6;clear hgr6 hb6 hat6 hOa hSa hona hrow;go_meet;exact ⟨mm + 1, c6, A6, _, rfl, by omega, hown6.out, hEd2.out, hS6.out, hon9.out⟩
     case rest =>
      clear hO hEd hS hon6 q9;obtain ⟨mm2, cc2, E2, es2, rfl, hmm2, hO, hEd, hS, honC⟩ := hcut;have r1 := hide (pick_calls b _ (st : Int) wc hS.out (by omega));have hzC := honC.out.size;go_wp2_with fail;refine r1.out.mono ?_;rintro e w6 ⟨ini, rfl, i0, i1, h6⟩;obtain ⟨ini, rfl⟩ : ∃ k : Nat, ini = (k : Int) := ⟨ini.toNat, by omega⟩;have hini : ini < st := by omega
      have hon6 := hide (honC.out.trans' h6.only);have hz6 := h6.size;have hO6 := hO.out.keep (w' := w6) fun g e => h6.only.block g (hO.out.lt g e).2 (by have := (hO.out.lt g e).1; omega)
      have hmm := hO6.len;have r2 := hide (l11Make_calls (st : Int) (ini : Int) A n c ts E2 mm2 cc2 es2 w6 ((hTK.out.only hon6.out (.inr (by omega))).more (Nat.zero_le _) (by omega)) ((hO6.sl flat_ev).more (Nat.zero_le _) zR) (fun e he => (hEd.out e he).2.1) (by omega) (by omega));replace h6 := hide h6;clear r1 hO hS hO6 i0 i1;go_wp2_with fail;refine r2.out.mono ?_;rintro e w7 ⟨A2, n2, c2, B2, m2, d2, es3, rfl, hA2, hB2, hM, hb7⟩;have hF := hide (((hon30.out.trans' hon.out).trans' hon6.out).belowAt hb7 (by have := hz2.out; omega));have h8 : w7.heap[w.heap.size]? = _ := (hF.out.block w.heap.size hz0 (by omega)).trans k8.out;have a0 : w7.cell? ⟨w.heap.size, 0, none⟩ = some (.int .i64 0) := cR 0 h8;have a1 : w7.cell? ⟨w.heap.size, 1, none⟩ = some (.int .i64 0) := cR 1 h8;have a2 : w7.cell? ⟨w.heap.size, 2, none⟩ = some (.slice none 0 0) := cR 2 h8;have a3 : w7.cell? ⟨w.heap.size, 3, none⟩ = some (.slice none 0 0) := cR 3 h8;have z0 : w7.frozen? ⟨w.heap.size, 0, none⟩ = false := frozen_of_row _ _ 0 _ _ h8;have z1 : w7.frozen? ⟨w.heap.size, 1, none⟩ = false := frozen_of_row _ _ 1 _ _ h8;have z2 : w7.frozen? ⟨w.heap.size, 2, none⟩ = false := frozen_of_row _ _ 2 _ _ h8;have z3 : w7.frozen? ⟨w.heap.size, 3, none⟩ = false := frozen_of_row _ _ 3 _ _ h8;have hS7 := hide (h6.out.src.below hb7 (by omega));have hz7 := hb7.size;have hlA := hA2.len;have hlj := joi_len ts;have hlT : ts.length = n := hTK.out.len;replace hA2 := hide hA2;replace hB2 := hide hB2;replace hM := hide hM;replace h8 := hide h8;clear r2 hb7;go_wp2_with fail
      (try simp only [Exit.inBlock, Exit.then])
      refine bodyPost_ret_by (v := .agg #[.int .i64 (st : Int), .int .i64 (ini : Int), .slice A2 n2 c2, .slice B2 m2 d2]) ?_ rfl ?_
      focus
       rw [results_cell1 rfl];go_simp
      change DrawnG 6 60 1000 b N w _ (put4 w7 w.heap.size _ _ _ _)
      have hw2 : w.heap.size < w2.heap.size := by have := hz2.out; omega
      have hZs := put4_size w7 w.heap.size (.int .i64 (st : Int)) (.int .i64 (ini : Int)) (.slice A2 n2 c2) (.slice B2 m2 d2);have hmade : ltsV ((st : Int), (ini : Int), joiF ts, es3) = true := made_valid (by omega) (by omega) (fun x hx => (hD.out x hx).imp id fun h => (nm5_lab x h).1) (by omega) (by omega) (fun e he => ⟨(hEd.out e he).1, (hEd.out e he).2.2⟩) hM.out;refine ⟨st, ini, A2, n2, c2, B2, m2, d2, ts, es3, rfl, ?_, ?_, hmade, by omega, by have := hM.out.2.1; omega, by omega, hD.out, ?_, ?_⟩
      ·exact (Sl.keep hA2.out (by omega) fun q h1 h2 h3 => put4_other _ _ _ _ _ _ (by omega)).more (by omega) (by omega)
      ·exact (Sl.keep hB2.out (by omega) fun q h1 h2 h3 => put4_other _ _ _ _ _ _ (by omega)).more (by omega) (by omega)
      ·exact (hS7.out.keep (by omega) fun q hq => put4_other _ _ _ _ _ _ (by omega)).more (by omega)
      ·exact put4_only (hon0.out.trans' hF.out) zR _ _ _ _
end Go.Proofs.YtnhomkmfbngmgaaGreatDoor
namespace Go.Proofs.YtnhomkmfbngmgaaGreatDoor
open Go
section
variable {P : Program} {ops : Array Oper} {Q : Exit → Act → World → Prop} {md : Region.Mode} {S : World → Prop} {st : Nat}
def lateT (P : Program) (md : Region.Mode) (ops : Array Oper) (Q : Exit → Act → World → Prop) (S : World → Prop) (st : Nat) : Nat → Array Bool → Act → World → Prop
 | 0, got, a, w => Region.ready md ops got = [] ∧ Q .normal a w
 | m + 1, got, a, w => (Region.ready md ops got = [] → Q .normal a w) ∧
  ∀ i ∈ Region.ready md ops got, wpOp P ops Q i (fun a' w' => (i ≠ st → S w') ∧ lateT P md ops Q S st m (got.setIfInBounds i true) a' w') a w
theorem lateT.any : ∀ (m : Nat) (got : Array Bool) (a : Act) (w : World), lateT P md ops Q S st m got a w → wpAny P md ops Q m got a w
 | 0, _, _, _, h => h
 | m + 1, got, _, _, h => ⟨h.1, fun i hi => wpOp_mono (fun a' w' k => lateT.any m _ a' w' k.2) (h.2 i hi)⟩
def chainW (md : Region.Mode) (ops : Array Oper) : Nat → List Nat → Bool
 | _, [] => true
 | i, d :: ds => Region.waitsFor md ops d i && chainW md ops d ds
def openW (got : Array Bool) (ds : List Nat) : Bool := ds.all fun d => !got.getD d true
theorem openW_mem {got : Array Bool} {ds : List Nat} (h : openW got ds = true) {d : Nat} (hd : d ∈ ds) : got.getD d true = false := by
 unfold openW at h;have := List.all_eq_true.1 h d hd
 simpa using this
theorem chainW_shut {got : Array Bool} : ∀ (ds : List Nat) (i : Nat), chainW md ops i ds = true → got.getD i true = false → openW got ds = true → ∀ d ∈ ds, d ∉ Region.ready md ops got
 | [], _, _, _, _, d, hd => by cases hd
 | e :: ds, i, h, hi, ho, d, hd => by
  unfold chainW at h;rw [Bool.and_eq_true] at h;have he : got.getD e true = false := openW_mem ho (by simp)
  rcases List.mem_cons.1 hd with rfl | hd
  ·intro hr
   obtain ⟨oj, h1, x, hx, hb, hon⟩ := Region.waitsFor_spec h.1;obtain ⟨-, o, h2, h3⟩ := mem_ready.1 hr;rw [h1] at h2;obtain rfl := Option.some.inj h2;have := h3 x hx hb;rw [hon, getD_both hi] at this
   cases this
  ·exact chainW_shut ds e h.2 he (by unfold openW at ho ⊢; rw [List.all_cons, Bool.and_eq_true] at ho; exact ho.2) d hd
theorem lateT_first {i : Nat} {oi : Oper} {v : Value} {ds : List Nat} (hi : ops[i]? = some oi) (hsel : Region.noSelect ops = true) (hc : chainW md ops i ds = true) (hst : st ∈ ds)
  (hQ : ∀ c a w, Q (.panic c) (a.put oi.dst v) w → Q (.panic c) a w) : ∀ (m : Nat) (got : Array Bool) (a : Act) (w : World),
   (∀ j oj, ops[j]? = some oj → j ≠ i → got.getD j true = false → (∀ e ∈ oj.after, Region.binds md e = true → e.on ≠ i) → oi.apart ops oj = true) →
   i ∈ Region.ready md ops got → openW got ds = true → YieldsIf P ops S oi v a → S w →
   lateT P md ops Q S st m (got.setIfInBounds i true) (a.put oi.dst v) w → lateT P md ops Q S st (m + 1) got a w
 | 0, got, a, w, _, hr, _, hy, hS, H => by
  refine ⟨fun h => (by rw [h] at hr; cases hr), fun j hj => ?_⟩
  by_cases hji : j = i
  ·subst hji; exact hy.wpOp hi hS ⟨fun _ => hS, H⟩
  ·have := ready_mono hj hji
   rw [H.1] at this
   cases this
 | m + 1, got, a, w, hfree, hr, ho, hy, hS, H => by
  refine ⟨fun h => (by rw [h] at hr; cases hr), fun j hj => ?_⟩
  by_cases hji : j = i
  ·subst hji; exact hy.wpOp hi hS ⟨fun _ => hS, H⟩
  ·have h1 := H.2 j (ready_mono hj hji)
   obtain ⟨hjun, oj, hoj, hall⟩ := mem_ready.1 hj;have hi0 := (mem_ready.1 hr).1;have hjd : j ∉ ds := fun hm => chainW_shut ds i hc hi0 ho j hm hj
   have hjst : j ≠ st := fun e => hjd (e ▸ hst)
   have hnot : ∀ e ∈ oj.after, Region.binds md e = true → e.on ≠ i := fun e he hb heq => by
    have h2 := hall e he hb;rw [heq, getD_both hi0] at h2
    cases h2
   have h2 := wpOp_putIf hoj (hfree j oj hoj hji hjun hnot) (fun cs b => Region.noSelect_spec hsel i oi cs b hi) (fun cs b => Region.noSelect_spec hsel j oj cs b hoj) hQ hy h1;refine wpOp_mono (fun a' w' h3 => ⟨h3.2.1, lateT_first hi hsel hc hst hQ m (got.setIfInBounds j true) a' w' (fun k ok hk hki hun hno => ?_) (ready_mono hr (Ne.symm hji)) ?_ h3.1 (h3.2.1 hjst) ?_⟩) h2
   ·refine hfree k ok hk hki ?_ hno
    by_cases hjk : j = k
    ·subst hjk; exact hjun
    ·rw [getD_set_ne true hjk] at hun; exact hun
   ·unfold openW
    rw [List.all_eq_true];intro d hd;rw [getD_set_ne true (fun e : j = d => hjd (by rw [e]; exact hd)), openW_mem ho hd]
    rfl
   ·rw [Array.setIfInBounds_comm _ _ hji]
    exact h3.2.2
theorem lateT_take {i : Nat} {oi : Oper} {v : Value} {m : Nat} {got : Array Bool} {a : Act} {w : World} (ds : List Nat) (hi : ops[i]? = some oi) (hsel : Region.noSelect ops = true) (hf : Region.free md ops got i = true)
  (hr : (Region.ready md ops got).contains i = true) (hc : (chainW md ops i ds && openW got ds && ds.contains st) = true) (hQ : ∀ c a w, Q (.panic c) (a.put oi.dst v) w → Q (.panic c) a w) (hy : YieldsIf P ops S oi v a) (hS : S w)
  (h : lateT P md ops Q S st m (got.setIfInBounds i true) (a.put oi.dst v) w) : lateT P md ops Q S st (m + 1) got a w := by
 rw [Bool.and_eq_true, Bool.and_eq_true] at hc;exact lateT_first hi hsel hc.1.1 (by simpa using hc.2) hQ m got a w (Region.free_spec hi hf) (by simpa using hr) hc.1.2 hy hS h
theorem lateT_step {i : Nat} {o : Oper} {m : Nat} {got : Array Bool} {a : Act} {w : World} (hr : Region.ready md ops got = [i]) (ho : ops[i]? = some o)
  (h : ∀ K : Act → World → Prop, Shut (∀ a w, (i ≠ st → S w) → lateT P md ops Q S st m (got.setIfInBounds i true) a w → K a w) → if Region.wanted o (yielded ops a.tmps) = true then Oper.wp P o a w K Q else K (a.put o.dst undef) w) : lateT P md ops Q S st (m + 1) got a w := by
 refine ⟨fun h0 => (by rw [hr] at h0; cases h0), fun j hj => ?_⟩;rw [hr] at hj;obtain rfl := List.mem_singleton.1 hj;exact wpOp_step ho fun K hK => h K fun a w hS hl => hK a w ⟨hS, hl⟩
theorem sB {α : Type _} {x : α} {xs : List α} {a : α} : (x :: xs).set 0 a = a :: xs := rfl
theorem sC {α : Type _} {x : α} {xs : List α} {i : Nat} {a : α} : (x :: xs).set (i + 1) a = x :: xs.set i a := rfl
theorem sA {α : Type _} {l : List α} {i : Nat} {a : α} : l.toArray.setIfInBounds i a = (l.set i a).toArray := by rw [List.setIfInBounds_toArray]
theorem tkA (v : Value) (i : Nat) {oi : Oper} {m : Nat} {got : Array Bool} {a a' : Act} {w : World} (ds : List Nat) (hi : ops[i]? = some oi) (hy : YieldsIf P ops S oi v a) (hS : S w)
  (h : lateT P md ops Q S st m (got.setIfInBounds i true) a' w) (ha : a.put oi.dst v = a' := by first | (simp only [Act.put, sA, sB, sC]; rfl) | simp only [Act.put, sA, sB, sC] | rfl) (hsel : Region.noSelect ops = true := by kernel_rfl) (hf : Region.free md ops got i = true := by kernel_rfl)
  (hr : (Region.ready md ops got).contains i = true := by kernel_rfl) (hc : (chainW md ops i ds && openW got ds && ds.contains st) = true := by kernel_rfl) (hQ : ∀ c a w, Q (.panic c) (a.put oi.dst v) w → Q (.panic c) a w := by exact fun _ _ _ h => h) : lateT P md ops Q S st (m + 1) got a w := lateT_take ds hi hsel hf hr hc hQ hy hS (ha ▸ h)
theorem tkB (i : Nat) {v : Value} {oi : Oper} {m : Nat} {got : Array Bool} {a a' : Act} {w : World} (ds : List Nat) (hS : S w) (h : lateT P md ops Q S st m (got.setIfInBounds i true) a' w) (hi : ops[i]? = some oi := by rfl)
  (hy : YieldsIf P ops S oi v a := by (refine Or.inl ⟨by rfl, ?_⟩; intro w hSw; (try dsimp only at hSw); go_simp <;> with_reducible rfl)) (ha : a.put oi.dst v = a' := by first | (simp only [Act.put, sA, sB, sC]; rfl) | simp only [Act.put, sA, sB, sC] | rfl) (hsel : Region.noSelect ops = true := by kernel_rfl) (hf : Region.free md ops got i = true := by kernel_rfl)
  (hr : (Region.ready md ops got).contains i = true := by kernel_rfl) (hc : (chainW md ops i ds && openW got ds && ds.contains st) = true := by kernel_rfl) (hQ : ∀ c a w, Q (.panic c) (a.put oi.dst v) w → Q (.panic c) a w := by exact fun _ _ _ h => h) : lateT P md ops Q S st (m + 1) got a w := lateT_take ds hi hsel hf hr hc hQ hy hS (ha ▸ h)
theorem tkD (i : Nat) {v : Value} {oi : Oper} {m : Nat} {got : Array Bool} {a a' : Act} {w : World} (ds : List Nat) (hS : S w) (h : lateT P md ops Q S st m (got.setIfInBounds i true) a' w) (hi : ops[i]? = some oi := by rfl)
  (hy : YieldsIf P ops S oi v a := by (refine Or.inl ⟨by kernel_rfl, ?_⟩; intro w hSw; (try dsimp only at hSw); go_simp <;> with_reducible rfl)) (ha : a.put oi.dst v = a' := by first | (simp only [Act.put, sA, sB, sC]; rfl) | simp only [Act.put, sA, sB, sC] | rfl) (hsel : Region.noSelect ops = true := by kernel_rfl) (hf : Region.free md ops got i = true := by kernel_rfl)
  (hr : (Region.ready md ops got).contains i = true := by kernel_rfl) (hc : (chainW md ops i ds && openW got ds && ds.contains st) = true := by kernel_rfl) (hQ : ∀ c a w, Q (.panic c) (a.put oi.dst v) w → Q (.panic c) a w := by exact fun _ _ _ h => h) : lateT P md ops Q S st (m + 1) got a w := lateT_take ds hi hsel hf hr hc hQ hy hS (ha ▸ h)
theorem lS (i : Nat) {o : Oper} {m : Nat} {got : Array Bool} {a : Act} {w : World}
  (h : ∀ K : Act → World → Prop, Shut (∀ a w, (i ≠ st → S w) → lateT P md ops Q S st m (got.setIfInBounds i true) a w → K a w) → if Region.wanted o (yielded ops a.tmps) = true then Oper.wp P o a w K Q else K (a.put o.dst undef) w) (hr : Region.ready md ops got = [i] := by kernel_rfl) (ho : ops[i]? = some o := by rfl) : lateT P md ops Q S st (m + 1) got a w := lateT_step hr ho h
theorem tkC (i : Nat) {oi : Oper} {m : Nat} {got : Array Bool} {a a' : Act} {w : World} (ds : List Nat) (hS : S w) (h : lateT P md ops Q S st m (got.setIfInBounds i true) a' w) (hi : ops[i]? = some oi := by rfl)
  (hy : YieldsIf P ops S oi undef a := by exact Or.inr ⟨by kernel_rfl, rfl⟩) (ha : a.put oi.dst undef = a' := by first | (simp only [Act.put, sA, sB, sC]; rfl) | simp only [Act.put, sA, sB, sC] | rfl) (hsel : Region.noSelect ops = true := by kernel_rfl) (hf : Region.free md ops got i = true := by kernel_rfl)
  (hr : (Region.ready md ops got).contains i = true := by kernel_rfl) (hc : (chainW md ops i ds && openW got ds && ds.contains st) = true := by kernel_rfl) (hQ : ∀ c a w, Q (.panic c) (a.put oi.dst undef) w → Q (.panic c) a w := by exact fun _ _ _ h => h) : lateT P md ops Q S st (m + 1) got a w := lateT_take ds hi hsel hf hr hc hQ hy hS (ha ▸ h)
theorem kP {i m : Nat} {g : Array Bool} {K : Act → World → Prop} (hK : Shut (∀ a w, (i ≠ st → S w) → lateT P md ops Q S st m g a w → K a w)) {a a' : Act} {w : World} (hS : i ≠ st → S w) (h : lateT P md ops Q S st m g a' w) (ha : a = a' := by first | (simp only [Act.put, sA, sB, sC]; rfl) | simp only [Act.put, sA, sB, sC] | rfl) : K a w := hK.out _ _ hS (ha ▸ h)
theorem lateT_two {i j : Nat} {o o' : Oper} {m : Nat} {got : Array Bool} {a : Act} {w : World} (hr : Region.ready md ops got = [i, j]) (ho : ops[i]? = some o) (ho' : ops[j]? = some o')
  (h : ∀ K : Act → World → Prop, Shut (∀ a w, (i ≠ st → S w) → lateT P md ops Q S st m (got.setIfInBounds i true) a w → K a w) → if Region.wanted o (yielded ops a.tmps) = true then Oper.wp P o a w K Q else K (a.put o.dst undef) w)
  (h' : ∀ K : Act → World → Prop, Shut (∀ a w, (j ≠ st → S w) → lateT P md ops Q S st m (got.setIfInBounds j true) a w → K a w) → if Region.wanted o' (yielded ops a.tmps) = true then Oper.wp P o' a w K Q else K (a.put o'.dst undef) w) : lateT P md ops Q S st (m + 1) got a w := by
 refine ⟨fun h0 => (by rw [hr] at h0; cases h0), fun k hk => ?_⟩;rw [hr] at hk
 rcases List.mem_cons.1 hk with rfl | hk
 ·exact wpOp_step ho fun K hK => h K fun a w hS hl => hK a w ⟨hS, hl⟩
 ·obtain rfl := List.mem_singleton.1 hk
  exact wpOp_step ho' fun K hK => h' K fun a w hS hl => hK a w ⟨hS, hl⟩
theorem lateT_done {got : Array Bool} {a : Act} {w : World} (hr : Region.ready md ops got = []) (h : Q .normal a w) : ∀ m, lateT P md ops Q S st m got a w
 | 0 => ⟨hr, h⟩
 | _ + 1 => ⟨fun _ => h, by rw [hr]; simp⟩
theorem lateT_begin {id : Nat} {a : Act} {w : World} (hm : P.follows .mixedOrders = true) (h : lateT P .any ops Q S st ops.size (Array.replicate ops.size false) a w.drew) : (Code.region id ops true).wp P Q a w :=
 wp_region_any hm (lateT.any _ _ _ _ h)
end
end Go.Proofs.YtnhomkmfbngmgaaGreatDoor
namespace Go.Proofs.YtnhomkmfbngmgaaGreatDoor
open Go.ChangeShapes Go.WideShapes Go.ChangeAt Go.RowKit
def LtsBox (w : World) (g : Nat) (st ini : Int) (A : Option Addr) (n c : Nat) (B : Option Addr) (m d : Nat) : Prop := w.heap[g]? = some (.cells #[.int .i64 st, .int .i64 ini, .slice A n c, .slice B m d] 27 (0, 0))
section
variable {w : World} {g : Nat} {st ini : Int} {A : Option Addr} {n c : Nat} {B : Option Addr} {m d : Nat} (h : LtsBox w g st ini A n c B m d)
include h
theorem LtsBox.c0 : w.cell? ⟨g, 0, none⟩ = some (.int .i64 st) := cR 0 h
theorem LtsBox.c1 : w.cell? ⟨g, 1, none⟩ = some (.int .i64 ini) := cR 1 h
theorem LtsBox.c2 : w.cell? ⟨g, 2, none⟩ = some (.slice A n c) := cR 2 h
theorem LtsBox.c3 : w.cell? ⟨g, 3, none⟩ = some (.slice B m d) := cR 3 h
theorem LtsBox.f0 : w.frozen? ⟨g, 0, none⟩ = false := frozen_of_row _ _ 0 _ _ h
theorem LtsBox.f1 : w.frozen? ⟨g, 1, none⟩ = false := frozen_of_row _ _ 1 _ _ h
theorem LtsBox.f2 : w.frozen? ⟨g, 2, none⟩ = false := frozen_of_row _ _ 2 _ _ h
theorem LtsBox.f3 : w.frozen? ⟨g, 3, none⟩ = false := frozen_of_row _ _ 3 _ _ h
theorem LtsBox.lt : g < w.heap.size := (Array.getElem?_eq_some_iff.1 h).1
theorem LtsBox.only {lo hi : Nat} {w' : World} (g2 : Only lo hi w w') (hd : g < lo ∨ hi ≤ g) : LtsBox w' g st ini A n c B m d := (g2.block g h.lt hd).trans h
theorem LtsBox.below {K : Nat} {w' : World} (g2 : Below K w w') (hd : g < K) : LtsBox w' g st ini A n c B m d := (g2.block g hd).trans h
end
theorem ltsV_edge {st ini : Int} {ls : List ByteArray} {es : List Ed} (h : ltsV (st, ini, ls, es) = true) : (∀ e, e ∈ es → (0 ≤ e.1 ∧ e.1 < st) ∧ (0 ≤ e.2.1 ∧ e.2.1 < (ls.length : Int)) ∧ 0 ≤ e.2.2 ∧ e.2.2 < st) ∧ (1 ≤ st ∧ st ≤ 40) ∧ (0 ≤ ini ∧ ini < st) := by
 rw [ltsV_eq] at h;simp only [Bool.and_eq_true, decide_eq_true_eq] at h;obtain ⟨⟨h1, h2, h3, h4⟩, h5⟩ := h;have h1 := inB_true.1 h1;have h2 := inB_true.1 h2;refine ⟨fun e he => ?_, by omega, by omega⟩;obtain ⟨k, hk⟩ := List.getElem?_of_mem he;have hkl := (List.getElem?_eq_some_iff.1 hk).1;obtain ⟨f, lb, t⟩ := e;have hok := allK_get h5 hkl;have key : ∀ {b : Bool}, ((inB f 0 (st - 1) && (inB t 0 (st - 1) && inB lb 0 ((ls.length : Int) - 1))) && b) = true → (0 ≤ f ∧ f < st) ∧ (0 ≤ lb ∧ lb < (ls.length : Int)) ∧ 0 ≤ t ∧ t < st := fun h => by
  simp only [Bool.and_eq_true] at h;obtain ⟨⟨g1, g2, g3⟩, _⟩ := h;have g1 := inB_true.1 g1;have g2 := inB_true.1 g2;have g3 := inB_true.1 g3;omega
 by_cases k0 : k = 0
 ·subst k0
  rw [okE_zero hk] at hok;exact key (b := true) (by rw [Bool.and_true]; exact hok)
 ·obtain ⟨r, hr⟩ : ∃ r, es[k - 1]? = some r := ⟨_, List.getElem?_eq_getElem (by omega)⟩
  rw [okE_at hk (by omega) hr] at hok;exact key hok
end Go.Proofs.YtnhomkmfbngmgaaGreatDoor
