/-
  Lemmas that the law of this claim leans on. Conditions: sizes.
-/
import Derived.Test.YtnhomkmfbngmgaaGreatDoorBaseA
import Derived.Test.YtnhomkmfbngmgaaGreatDoorBaseB
import Derived.Test.YtnhomkmfbngmgaaGreatDoorBaseC
import Derived.Test.YtnhomkmfbngmgaaGreatDoorBaseE
import Derived.Test.YtnhomkmfbngmgaaGreatDoorBaseF
import Derived.Test.YtnhomkmfbngmgaaGreatDoorBaseG
import Derived.Test.YtnhomkmfbngmgaaGreatDoorBaseH
import Derived.Test.YtnhomkmfbngmgaaGreatDoorBaseI
import Derived.Test.YtnhomkmfbngmgaaGreatDoorBaseJ
import Derived.Test.YtnhomkmfbngmgaaGreatDoorBaseK
import Derived.Test.YtnhomkmfbngmgaaGreatDoorBaseL
import Derived.Deep.LoopGhost
import Derived.Deep.RegionLaw
import Derived.StillTailTactics
set_option maxHeartbeats 6400000
set_option maxRecDepth 100000
set_option linter.unusedSimpArgs false
set_option linter.unusedVariables false
namespace Go.Proofs.YtnhomkmfbngmgaaGreatDoor
open Go.ChangeShapes Go.WideShapes Go.ChangeAt Go.RowKit
theorem l00Put_calls (A : Option Addr) (n c : Nat) (l : List Int) (x : Int) (w : World) (lo hi : Nat) (h : SlI w lo hi A n l) (hasc : l.Pairwise (· < ·)) (hn : n ≤ 1048000) :
  Calls Tryz.prog 256 #[.slice A n c, .int .i64 x] w fun e w' => ∃ A' n' c', e = .returned (.slice A' n' c') ∧ Own 1 iv w' w.heap.size 2 A' n' c' (putI l x) ∧ n' ≤ n + 1 ∧ Below w.heap.size w w' := by
 have hE := hide elem_int64;have hlen := h.len;replace h := hide h.top;replace hasc := hide hasc;go_enter Tryz.func256, Tryz.ntmps256;go_wp2_with fail
 go_loopw [5, 6, 7] (fun v dn i wr => ∃ (k m : Nat) (Ao : Option Addr) (co : Nat), k ≤ n ∧ m ≤ k + 1 ∧ i = .int .i64 (k : Nat) ∧ v = .slice Ao m co ∧ dn = .bool (doneI l x k) ∧ Hid (Own 1 iv wr w.heap.size 2 Ao m co (outI l x k)) ∧ Below w.heap.size w wr) (fun _ _ i _ => n - (intOf i).toNat)
 case atStart => exact ⟨0, 0, _, 0, Nat.zero_le _, Nat.zero_le _, rfl, rfl, rfl, Own.made _ _ zR, bR.alloc zR _⟩
 case round =>
  obtain ⟨k, m, Ao, co, hk, hm, rfl, rfl, rfl, hown, hb⟩ := hrel
  by_cases hlt : k < n
  ·have hz := hb.size
   have hza : ∀ o, w.heap.size ≤ (wr.alloc o).heap.size := fun o => by rw [World.size_alloc]; omega
   obtain ⟨b, off, y, rfl, g1, g2, g3, hy, c0, -⟩ := SlI.get h.out hlt;replace c0 := (hb.cell (p := ⟨b, off + k, none⟩) g3).trans c0;have hd := doneI_succ (n := x) hy;have ho := outI_succ (n := x) hasc.out hy;have k0 : (0 : Int) ≤ (k : Int) := by omega
   have k1 : (k : Int) < (n : Int) := by omega
   replace hy := hide hy;replace hb := hide hb
   by_cases one : doneI l x k = false ∧ x < y
   ·obtain ⟨d0, hxy⟩ := one
    have hm2 : m ≤ k := by
     have h1 := hown.out.len;have h2 : outI l x k = l.take k := by unfold outI; rw [d0]; rfl
     rw [h2, List.length_take] at h1;omega
    have e1 : Hid (outI l x (k + 1) = outI l x k ++ [x] ++ [y]) := by show _ = _; rw [ho, if_pos ⟨d0, by omega, hxy⟩]
    have e2 : Hid (doneI l x (k + 1) = true) := by show _ = _; rw [hd, d0, decide_eq_true (show x ≤ y by omega)]; rfl
    have hge : decide (y ≥ x) = true := decide_eq_true (by omega);have hge2 : y ≥ x := by omega
    have hgt : y > x := hxy;rw [d0];clear hd ho d0;have c0a : ∀ o, (wr.alloc o).cell? ⟨b, off + k, none⟩ = some (.int .i64 y) := fun o => (((Below.refl wr.heap.size wr).alloc zR o).cell (p := ⟨b, off + k, none⟩) (by show b < wr.heap.size; omega)).trans c0
    have e4 := hide (show ∀ o, Below w.heap.size w (wr.alloc o) from fun o => hb.out.alloc hz o);go_wp2_with (first
     | (at_builtin; (with_reducible refine wpList_app rfl (.tmp 31) (.tmp 33) rfl hE.out flat_iv rfl (hown.out.alloc _) rfl (Sl.lit1' wr 2 x _ rfl 1 _ ?c0) ?c1 (hza _) ?_); rotate_right; intro A5 c5 w5 hown5 hgr5 hb5 _; have c5' := (hb5.cell (p := ⟨b, off + k, none⟩) g3).trans (c0a _); have hz5 := hb5.size; have hza5 : ∀ o, w.heap.size ≤ (w5.alloc o).heap.size := fun o => (by rw [World.size_alloc]; rw [World.size_alloc] at hz5; omega); have hz5' := Nat.le_trans (hza _) hz5; replace hown5 := hide hown5; replace hb5 := hide hb5; clear hgr5)
     | (at_builtin; (with_reducible refine wpList_app rfl (.tmp 35) (.tmp 40) rfl hE.out flat_iv rfl (hown5.out.alloc _) rfl (Sl.lit1' w5 2 y _ rfl 1 _ ?d0) ?d1 (hza5 _) ?_); rotate_right; intro A6 c6 w6 hown6 hgr6 hb6 _))
    case d0 => rfl
    case d1 => omega
    case c0 => rfl
    case c1 => omega
    have hb7 := hide ((e4.out _).trans (hb5.out.trans (bR.alloc hz5' _ |>.trans hb6)));rw [← e1.out] at hown6;go_roundw
    case rel => exact ⟨k + 1, m + 1 + 1, A6, c6, by omega, by omega, by go_num, rfl, by rw [e2.out], hown6, hb7.out⟩
    case measure => simp [intOf]; omega
   ·have e1 : Hid (outI l x (k + 1) = outI l x k ++ [y]) := by show _ = _; rw [ho, if_neg (fun c => one ⟨c.1, c.2.2⟩)]
    replace hd := hide hd;clear ho;have e4 := hide (show ∀ o, Below w.heap.size w (wr.alloc o) from fun o => hb.out.alloc hz o)
    cases d0 : doneI l x k with
    | true =>
     have e2 : Hid (doneI l x (k + 1) = true) := by show _ = _; rw [hd.out, d0]; rfl
     clear hd d0 one;go_wp2_with (first
      | (at_builtin; (with_reducible refine wpList_app rfl (.tmp 35) (.tmp 40) rfl hE.out flat_iv rfl (hown.out.alloc _) rfl (Sl.lit1' wr 2 y _ rfl 1 _ ?d0) ?d1 (hza _) ?_); rotate_right; intro A6 c6 w6 hown6 hgr6 hb6 _))
     case d0 => rfl
     case d1 => omega
     have hb7 := hide ((e4.out _).trans hb6);rw [← e1.out] at hown6;go_roundw
     case rel => exact ⟨k + 1, m + 1, A6, c6, by omega, by omega, by go_num, rfl, by rw [e2.out], hown6, hb7.out⟩
     case measure => simp [intOf]; omega
    | false =>
     by_cases hxy : x ≤ y
     ·have e2 : Hid (doneI l x (k + 1) = true) := by show _ = _; rw [hd.out, d0, decide_eq_true hxy]; rfl
      have hge : decide (y ≥ x) = true := decide_eq_true (by omega);have hge2 : y ≥ x := by omega
      have hgt : ¬ y > x := fun c => one ⟨d0, c⟩
      clear hd d0 one;go_wp2_with (first
       | (at_builtin; (with_reducible refine wpList_app rfl (.tmp 35) (.tmp 40) rfl hE.out flat_iv rfl (hown.out.alloc _) rfl (Sl.lit1' wr 2 y _ rfl 1 _ ?d0) ?d1 (hza _) ?_); rotate_right; intro A6 c6 w6 hown6 hgr6 hb6 _))
      case d0 => rfl
      case d1 => omega
      have hb7 := hide ((e4.out _).trans hb6);rw [← e1.out] at hown6;go_roundw
      case rel => exact ⟨k + 1, m + 1, A6, c6, by omega, by omega, by go_num, rfl, by rw [e2.out], hown6, hb7.out⟩
      case measure => simp [intOf]; omega
     ·have e2 : Hid (doneI l x (k + 1) = false) := by show _ = _; rw [hd.out, d0, decide_eq_false hxy]; rfl
      have hge : decide (y ≥ x) = false := decide_eq_false (by omega);have hge2 : ¬ y ≥ x := by omega
      clear hd d0 one;go_wp2_with (first
       | (at_builtin; (with_reducible refine wpList_app rfl (.tmp 35) (.tmp 40) rfl hE.out flat_iv rfl (hown.out.alloc _) rfl (Sl.lit1' wr 2 y _ rfl 1 _ ?d0) ?d1 (hza _) ?_); rotate_right; intro A6 c6 w6 hown6 hgr6 hb6 _))
      case d0 => rfl
      case d1 => omega
      have hb7 := hide ((e4.out _).trans hb6);rw [← e1.out] at hown6;go_roundw
      case rel => exact ⟨k + 1, m + 1, A6, c6, by omega, by omega, by go_num, rfl, by rw [e2.out], hown6, hb7.out⟩
      case measure => simp [intOf]; omega
  ·obtain rfl : k = n := by omega
   have hend := outI_end (n := x) hasc.out;rw [hlen] at hend;have hz := hb.size;replace hb := hide hb
   cases d0 : doneI l x k with
   | true =>
    rw [d0, if_pos rfl] at hend;rw [hend] at hown;clear hend;go_wp2_with fail;go_ret;exact ⟨_, _, _, rfl, hown.out, by omega, hb.out⟩
   | false =>
    rw [d0, if_neg Bool.false_ne_true] at hend;replace hend := hide hend;have hza : ∀ o, w.heap.size ≤ (wr.alloc o).heap.size := fun o => by rw [World.size_alloc]; omega
    have hm2 : m ≤ k := by
     have h1 := hown.out.len;have h2 : outI l x k = l.take k := by unfold outI; rw [d0]; rfl
     rw [h2, List.length_take] at h1;omega
    have e4 := hide (show ∀ o, Below w.heap.size w (wr.alloc o) from fun o => hb.out.alloc hz o);go_wp2_with (first
     | (at_builtin; (with_reducible refine wpList_app rfl (.tmp 44) (.tmp 46) rfl hE.out flat_iv rfl (hown.out.alloc _) rfl (Sl.lit1' wr 2 x _ rfl 1 _ ?d0) ?d1 (hza _) ?_); rotate_right; intro A6 c6 w6 hown6 hgr6 hb6 _))
    case d0 => rfl
    case d1 => omega
    have hb7 := hide ((e4.out _).trans hb6);rw [hend.out] at hown6;go_wp2_with fail;go_ret;exact ⟨_, _, _, rfl, hown6, by omega, hb7.out⟩
structure GrowH (w : World) (base : Nat) (A : Option Addr) (n c : Nat) (R : List (Hd × List Int)) : Prop where
 own : Own 1 (sv) w base 32 A n c (R.map (·.1))
 rows : ∀ r ∈ R, SlI w base w.heap.size r.1.1 r.1.2.1 r.2
 off : ∀ r ∈ R, 0 < r.1.2.1 → ∀ b off, r.1.1 = some ⟨b, off, none⟩ → (Value.slice A n c).ownBlock ≠ some b
section
variable {w w4 w5 w' : World} {base n c : Nat} {A : Option Addr} {R : List (Hd × List Int)}
theorem GrowH.len (h : GrowH w base A n c R) : R.length = n := by have := h.own.len; rwa [List.length_map] at this
theorem GrowH.nil_ (w : World) (base : Nat) : GrowH w base none 0 0 [] := ⟨Own.nil_ _ _ _, fun _ h => (List.not_mem_nil h).elim, fun _ h => (List.not_mem_nil h).elim⟩
theorem GrowH.keep (h : GrowH w base A n c R) (hs : w.heap.size ≤ w'.heap.size) (hk : ∀ b, base ≤ b → b < w.heap.size → w'.heap[b]? = w.heap[b]?) : GrowH w' base A n c R :=
 ⟨h.own.keep fun g hg => hk g (h.own.lt g hg).1 (h.own.lt g hg).2, fun r hr => ((h.rows r hr).keep hs fun b h1 _ h3 => hk b h1 h3).more zR hs, h.off⟩
theorem GrowH.below (h : GrowH w base A n c R) (hb : Below w.heap.size w w') : GrowH w' base A n c R := h.keep hb.size fun b _ h2 => hb.block b h2
theorem GrowH.one {Ah : Option Addr} {nh ch : Nat} {s : List Int} (hs : SlI w base w.heap.size Ah nh s) (hb : base ≤ w.heap.size) : GrowH (w.alloc (.cells #[.slice Ah nh ch] 32)) base (some ⟨w.heap.size, 0, none⟩) 1 1 [((Ah, nh, ch), s)] := by
 have hbel : Below w.heap.size w (w.alloc (.cells #[.slice Ah nh ch] 32)) := bR.alloc zR _;refine ⟨⟨rfl, by simp [sv], .inr ⟨w.heap.size, 1, #[.slice Ah nh ch], rfl, hb, heap_alloc_new w _, zR, by decide, rfl, rfl⟩⟩, fun r hr => ?_, fun r hr hN b off e => ?_⟩
 ·obtain rfl := List.mem_singleton.1 hr
  exact (hs.below hbel (.inr zR)).more zR hbel.size
 ·obtain rfl := List.mem_singleton.1 hr
  obtain ⟨b', off', e', -, -, g3, -⟩ := hs.at_ hN;have e : Ah = _ := e;rw [e] at e'
  cases e'
  intro e2;have e2 : some w.heap.size = some b := e2;injection e2 with e2;omega
theorem GrowH.push (h : GrowH w4 base A n c R) {Ah : Option Addr} {nh ch : Nat} {s : List Int} (hs : SlI w4 base w4.heap.size Ah nh s) (ho : ∀ b off, 0 < nh → Ah = some ⟨b, off, none⟩ → (Value.slice A n c).ownBlock ≠ some b)
  {A5 : Option Addr} {c5 : Nat} (hown : Own 1 (sv) w5 base 32 A5 (n + 1) c5 (R.map (·.1) ++ [(Ah, nh, ch)])) (hgr : w4.grownBy w5 (Value.slice A n c).ownBlock)
  (hat : (Value.slice A5 (n + 1) c5).ownBlock = (Value.slice A n c).ownBlock ∨ (Value.slice A5 (n + 1) c5).ownBlock = some w4.heap.size) :
  GrowH w5 base A5 (n + 1) c5 (R ++ [((Ah, nh, ch), s)]) := by
 have hz5 := hgr.size;have keepS : ∀ (B : Option Addr) (nb : Nat) (l : List Int), SlI w4 base w4.heap.size B nb l → (∀ b off, 0 < nb → B = some ⟨b, off, none⟩ → (Value.slice A n c).ownBlock ≠ some b) → SlI w5 base w5.heap.size B nb l := by
  intro B nb l hl hne;refine ⟨hl.1, fun hm => ?_⟩;obtain ⟨b, off, rfl, g1, g2, g3, hc⟩ := hl.2 hm;have hk := hgr.block b g3 (fun e => hne b off hm rfl e.symm);refine ⟨b, off, rfl, g1, by omega, by omega, fun k x hx j u hu => ?_⟩;obtain ⟨h1, h2⟩ := hc k x hx j u hu;exact ⟨(World.cell?_of_block (w := w4) (by simpa using hk)).trans h1, (World.frozen?_of_block (w := w4) (by simpa using hk)).trans h2⟩
 have hoff : ∀ (B : Option Addr) (nb : Nat) (l : List Int), SlI w4 base w4.heap.size B nb l → (∀ b off, 0 < nb → B = some ⟨b, off, none⟩ → (Value.slice A n c).ownBlock ≠ some b) → ∀ b off, 0 < nb → B = some ⟨b, off, none⟩ → (Value.slice A5 (n + 1) c5).ownBlock ≠ some b := by
  intro B nb l hl hne b off hN e
  rcases hat with h1 | h1
  ·rw [h1]; exact hne b off hN e
  ·rw [h1]
   obtain ⟨b', off', e', -, -, g3, -⟩ := hl.at_ hN;rw [e] at e'
   cases e'
   intro e2;injection e2 with e2;omega
 refine ⟨by rw [List.map_append]; exact hown, fun r hr => ?_, fun r hr hm b off e => ?_⟩
 ·rcases List.mem_append.1 hr with hr | hr
  ·exact keepS _ _ _ (h.rows r hr) fun b off hm e => h.off r hr hm b off e
  ·obtain rfl := List.mem_singleton.1 hr
   exact keepS _ _ _ hs ho
 ·rcases List.mem_append.1 hr with hr | hr
  ·exact hoff _ _ _ (h.rows r hr) (fun b off hm e => h.off r hr hm b off e) b off hm e
  ·obtain rfl := List.mem_singleton.1 hr
   exact hoff _ _ _ hs ho b off hm e
theorem GrowH.get (h : GrowH w base A n c R) {k : Nat} (hk : k < n) : ∃ b off Ah nh ch s, A = some ⟨b, off, none⟩ ∧ base ≤ b ∧ b < w.heap.size ∧ R[k]? = some ((Ah, nh, ch), s) ∧ w.cell? ⟨b, off + k, none⟩ = some (.slice Ah nh ch) ∧ SlI w base w.heap.size Ah nh s ∧
  ∀ b off, 0 < nh → Ah = some ⟨b, off, none⟩ → (Value.slice A n c).ownBlock ≠ some b := by
 have hl := h.len;obtain ⟨b, off, e, g1, g2, g3, hc⟩ := (h.own.sl flat_sv).at_ (by omega);have hr : R[k]? = some R[k] := List.getElem?_eq_getElem (by omega);have hm : R[k] ∈ R := List.getElem_mem _;have h0 := (hc k R[k].1 (by rw [List.getElem?_map, hr]; rfl) 0 _ rfl).1;rw [Nat.mul_one, Nat.add_zero] at h0;exact ⟨b, off, R[k].1.1, R[k].1.2.1, R[k].1.2.2, R[k].2, e, g1, g3, hr, h0, h.rows _ hm, fun b off hN e => h.off _ hm hN b off e⟩
end
open Go.Lib Go.Sort
theorem GrowH.made (w : World) : GrowH (w.alloc (.cells #[] 32)) w.heap.size (some ⟨w.heap.size, 0, none⟩) 0 0 [] := ⟨Own.made w _ zR, fun _ h => (List.not_mem_nil h).elim, fun _ h => (List.not_mem_nil h).elim⟩
def RowsTo (f : Nat → List Int) (k : Nat) (R : List (Hd × List Int)) : Prop := R.map (·.2) = (List.range k).map f ∧ ∀ r, r ∈ R → r.1.2.1 ≤ 1000
theorem RowsTo.get {f : Nat → List Int} {k : Nat} {R : List (Hd × List Int)} (h : RowsTo f k R) {i : Nat} (hi : i < k) {x : Hd} {s : List Int} (hr : R[i]? = some (x, s)) : s = f i := by
 have h1 : (R.map (·.2))[i]? = some s := by rw [List.getElem?_map, hr]; rfl
 rw [h.1, List.getElem?_map, List.getElem?_range hi] at h1;exact (Option.some.inj h1).symm
theorem RowsTo.push {f : Nat → List Int} {k : Nat} {R : List (Hd × List Int)} (h : RowsTo f k R) {x : Hd} {s : List Int} (hs : s = f k) (hx : x.2.1 ≤ 1000) : RowsTo f (k + 1) (R ++ [(x, s)]) := by
 refine ⟨by rw [List.map_append, h.1, List.range_succ, List.map_append, hs]; rfl, fun r hr => ?_⟩
 rcases List.mem_append.1 hr with hr | hr
 ·exact h.2 r hr
 ·obtain rfl := List.mem_singleton.1 hr
  exact hx
end Go.Proofs.YtnhomkmfbngmgaaGreatDoor
namespace Go.Proofs.YtnhomkmfbngmgaaGreatDoor
open Go.ChangeShapes Go.WideShapes Go.ChangeAt Go.RowKit Go.Sort
def SetsTo (es : List Ed) (ls : List ByteArray) (k : Nat) (R : List (Hd × List Int)) : Prop := R.length = k ∧ ∀ (i : Nat) (r : Hd × List Int), R[i]? = some r → (∀ v, v ∈ r.2 ↔ TauC es ls (· = (i : Int)) v) ∧ r.1.2.1 ≤ 41
theorem SetsTo.push {es : List Ed} {ls : List ByteArray} {k : Nat} {R : List (Hd × List Int)} (h : SetsTo es ls k R) {x : Hd} {s : List Int} (hs : ∀ v, v ∈ s ↔ TauC es ls (· = (k : Int)) v) (hx : x.2.1 ≤ 41) : SetsTo es ls (k + 1) (R ++ [(x, s)]) := by
 refine ⟨by rw [List.length_append, h.1]; rfl, fun i r hr => ?_⟩
 by_cases e : i < R.length
 ·rw [List.getElem?_append_left e] at hr
  exact h.2 i r hr
 ·rw [List.getElem?_append_right (by omega)] at hr
  have e2 : i - R.length = 0 := by
   have := (List.getElem?_eq_some_iff.1 hr).1
   simp at this
   omega
  rw [e2] at hr
  cases hr
  obtain rfl : i = k := by have := h.1; omega
  exact ⟨hs, hx⟩
theorem tau_star {es : List Ed} {ls : List ByteArray} {N : Nat} (he : EdIn N es) (hn : ls.Nodup) (h0 : ls[0]? = some tauB) (hl : ∀ e, e ∈ es → 0 ≤ e.2.1 ∧ e.2.1 < (ls.length : Int)) {k : Nat} {v : Int} : TauC es ls (· = (k : Int)) v ↔ 0 ≤ v ∧ StarR (fun x y => nE es x 0 y) k v.toNat := by
 constructor
 ·intro h
  induction h with
  | base h => subst h; exact ⟨Int.natCast_nonneg _, .refl _⟩
  | @step e h he2 hl2 ih =>
   have h1 := he e he2;have h2 := hl e he2;have h3 : e.2.1.toNat = 0 := by
    obtain ⟨a1, a2⟩ := List.getElem?_eq_some_iff.1 hl2;obtain ⟨b1, b2⟩ := List.getElem?_eq_some_iff.1 h0;exact (List.getElem_inj hn).1 (a2.trans b2.symm)
   refine ⟨h1.2.2.1, ih.2.snoc ?_⟩;unfold nE;rw [show ((e.1.toNat : Nat) : Int) = e.1 by omega, show ((e.2.2.toNat : Nat) : Int) = e.2.2 by omega, show (0 : Int) = e.2.1 by omega];exact he2
 ·rintro ⟨h0v, h⟩
  have key : ∀ {x y : Nat}, StarR (fun x y => nE es x 0 y) x y → TauC es ls (· = (k : Int)) (x : Int) → TauC es ls (· = (k : Int)) (y : Int) := by
   intro x y hs
   induction hs with
   | refl => exact id
   | step e _ ih =>
    intro hx;exact ih (TauC.step (e := (_, 0, _)) hx e h0)
  have := key h (.base rfl);rw [show ((v.toNat : Nat) : Int) = v by omega] at this;exact this
theorem GrowH.base {w : World} {b1 b2 n c : Nat} {A : Option Addr} {R : List (Hd × List Int)} (h : GrowH w b1 A n c R) (hb : b2 ≤ b1) : GrowH w b2 A n c R :=
 ⟨h.own.sink hb, fun r hr => (h.rows r hr).more hb zR, h.off⟩
theorem internalSetsA_calls {w : World} {N ini : Nat} {A : Option Addr} {n : Nat} {B : Option Addr} {m : Nat} {ls : List ByteArray} {es : List Ed} (h : SysA w N ini A n B m ls es) (c d : Nat) :
  Calls Tryz.prog 201 #[.agg #[.int .i64 (N : Int), .int .i64 (ini : Int), .slice A n c, .slice B m d]] w fun e w' => ∃ A' c' R, e = .returned (.slice A' N c') ∧ GrowH w' w.heap.size A' N c' R ∧ SetsTo es ls N R ∧ Below w.heap.size w w' ∧ ∀ r, r ∈ R → r.2.Pairwise (· ≤ ·) := by
 have hER := hide elem_rowI;have hm := h.many;have hbn := h.bounds;have hok := hide h.ok;have hB := h.box (c := c) (d := d);obtain ⟨w1, hw1⟩ : ∃ w1, w1 = w.alloc (ltsC N ini A n c B m d) := ⟨_, rfl⟩;rw [← hw1] at hB;have b0 := hB.box.c0;have hz1 := hB.bel.size;have hg0 : Hid (GrowH w1 w1.heap.size none 0 0 []) := ⟨Own.nil_ _ _ _, fun _ h => (List.not_mem_nil h).elim, fun _ h => (List.not_mem_nil h).elim⟩;replace hB := hide hB;clear h;go_enter Tryz.func201, Tryz.ntmps201;go_upto_region 1 with fail;rw [← show w1 = w.alloc (.cells #[.int .i64 (N : Int), .int .i64 (ini : Int), .slice A n c, .slice B m d] 27) from hw1];replace hw1 := hide hw1;go_wp2_with fail
 go_loopw [3, 7] (fun v3 v7 wr => ∃ (k c5 : Nat) (A5 : Option Addr) (R : List (Hd × List Int)), k ≤ N ∧ v7 = .int .i64 (k : Nat) ∧ v3 = .slice A5 k c5 ∧ Hid (GrowH wr w1.heap.size A5 k c5 R) ∧ Hid (SetsTo es ls k R) ∧ Hid (Below w1.heap.size w1 wr) ∧ Hid (∀ r, r ∈ R → r.2.Pairwise (· ≤ ·))) (fun _ v _ => N - (intOf v).toNat)
 case atStart => exact ⟨0, 0, none, [], Nat.zero_le _, rfl, rfl, hg0.out, ⟨rfl, fun i r hr => (by cases hr)⟩, bR, fun r hr => (List.not_mem_nil hr).elim⟩
 case round =>
  clear hg0 b0;obtain ⟨k, c5, A5, R, hk, rfl, rfl, hG, hRs, hb, hasc⟩ := hrel
  by_cases hlt : k < N
  ·have hBr := hB.out.below hb.out
   have k0 : (0 : Int) ≤ (k : Int) := by omega
   have k1 : (k : Int) < (N : Int) := by omega
   have hzr := hb.out.size;have b0 := hBr.box.c0;have b1 := hBr.box.c1;have b2 := hBr.box.c2;have b3 := hBr.box.c3;obtain ⟨wA, hwA⟩ : ∃ wA, wA = wr.alloc (.cells #[.int .i64 (k : Int)] 2) := ⟨_, rfl⟩;have hbA : Below wr.heap.size wr wA := by rw [hwA]; exact bR.alloc zR _
   have hSy := hBr.sys.below hbA zR;have hlit : SlI wA 0 (wr.heap.size + 1) (some ⟨wr.heap.size, 0, none⟩) 1 [(k : Int)] := by rw [hwA]; exact Sl.lit1' wr 2 (k : Int) #[.int .i64 (k : Int)] rfl 1 _ rfl
   have q := hide (internalA_calls (N : Int) (ini : Int) A n c B m d (some ⟨wr.heap.size, 0, none⟩) 1 1 [(k : Int)] ls es wA _ _ _ _ hSy.ss hSy.se hlit (by omega) (by omega) hok.out);have hGA0 := hide (hG.out.below hbA);have hzA := hbA.size;replace hbA := hide hbA;clear hSy hBr hlit hG;go_wp2_with fail;rw [← show wA = wr.alloc (.cells #[.int .i64 (k : Int)] 2) from hwA];refine q.out.mono ?_;rintro e w4 ⟨A4, n4, c4, R4, rfl, hO4, hR4, hn4, hb4, hasc4⟩;replace hasc4 := hide hasc4;have hz4 := hb4.size;have hbB : Below w4.heap.size w4 (w4.alloc (.cells #[.slice A4 n4 c4] 32)) := bR.alloc zR _;have hGA := hide ((hGA0.out.below hb4).below hbB);have hza : w1.heap.size ≤ (w4.alloc (.cells #[.slice A4 n4 c4] 32)).heap.size := by rw [World.size_alloc]; omega
   have hOa := hide hGA.out.own;have hown : Hid (∀ b off, 0 < n4 → A4 = some ⟨b, off, none⟩ → (Value.slice A5 k c5).ownBlock ≠ some b) := fun b off hn e e2 => by
    obtain ⟨b', o', e', g1, -⟩ := hO4.at_ hn;rw [e] at e'
    cases e'
    have := (hGA0.out.own.lt _ e2).2;omega
   have hsA := hide ((hO4.below hbB (.inr zR)).more (show w1.heap.size ≤ wA.heap.size by omega) hbB.size);have hbF := hide (((hb.out.trans (hbA.out.mono hzr)).trans (hb4.mono (by omega))).trans (hbB.mono (by omega)));have hR4' : Hid (∀ v, v ∈ R4 ↔ TauC es ls (· = (k : Int)) v) := fun v => (hR4 v).trans (TauC.congr (fun v => by simp) v)
   replace hwA := hide hwA;replace hb4 := hide hb4;clear q hO4 hbB b0 b1 b2 b3 hR4 hGA0;go_wp2_with (first | (at_builtin; (with_reducible refine wpList_app rfl (.tmp 10) (.tmp 15) rfl hER.out flat_sv rfl hOa.out rfl (Sl.lit1' w4 32 ((A4, n4, c4) : Hd) _ rfl 1 _ ?c0) ?c1 hza ?_); rotate_right; intro A6 c6 w6 hown6 hgr6 hb6 hat6))
   case c0 => rfl
   case c1 => omega
   have hG6 := hide (hGA.out.push hsA.out hown.out hown6 hgr6 hat6);have hR6 := hide (hRs.out.push (x := (A4, n4, c4)) hR4'.out (by show n4 ≤ 41; omega));have hb6' := hide (hbF.out.trans hb6);go_wp2_with fail;go_roundw
   case rel => exact ⟨k + 1, c6, A6, _, by omega, by go_num, rfl, hG6.out, hR6.out, hb6'.out, fun r hr => by
    rcases List.mem_append.1 hr with h1 | h1
    ·exact hasc.out r h1
    ·rw [List.mem_singleton.1 h1]; exact hasc4.out⟩
   case measure => simp [intOf]; omega
  ·obtain rfl : k = N := by omega
   have k1 : ¬ (k : Int) < (k : Int) := by omega
   have hbF := hide (hB.out.bel.trans (hb.out.mono hz1));go_wp2_with fail;go_ret;exact ⟨A5, c5, rfl, R, hG.out.base hz1, hRs.out, hbF.out, fun _ _ _ _ hr => hasc.out _ hr⟩
theorem internalSets_calls {w : World} {N ini : Nat} {A : Option Addr} {n : Nat} {B : Option Addr} {m : Nat} {ls : List ByteArray} {es : List Ed} (h : SysA w N ini A n B m ls es) (c d : Nat) :
  Calls Tryz.prog 201 #[.agg #[.int .i64 (N : Int), .int .i64 (ini : Int), .slice A n c, .slice B m d]] w fun e w' => ∃ A' c' R, e = .returned (.slice A' N c') ∧ GrowH w' w.heap.size A' N c' R ∧ SetsTo es ls N R ∧ Below w.heap.size w w' := by
 refine (internalSetsA_calls h c d).mono ?_;rintro e w' ⟨A', c', R, h1, h2, h3, h4, -⟩;exact ⟨A', c', R, h1, h2, h3, h4⟩
end Go.Proofs.YtnhomkmfbngmgaaGreatDoor
namespace Go.Proofs.YtnhomkmfbngmgaaGreatDoor
section
variable {K na nb : Int} {ea : List Ed} {la : List ByteArray} {eb : List Ed} {lb : List ByteArray}
end
open Classical in
noncomputable def tabR (n p : Nat) (S : Rel2) : List (List Bool) := (List.range n).map fun x : Nat => (List.range p).map fun y : Nat => decide (S (x : Int) (y : Int))
open Classical in
noncomputable def rowR2 (p : Nat) (S : Rel2) (x : Nat) : List Bool := (List.range p).map fun y : Nat => decide (S (x : Int) (y : Int))
theorem rowR2_len (p : Nat) (S : Rel2) (x : Nat) : (rowR2 p S x).length = p := by simp [rowR2]
theorem tabR_get {n p : Nat} {S : Rel2} {x : Nat} (h : x < n) : (tabR n p S)[x]? = some (rowR2 p S x) := by simp [tabR, rowR2, h]
open Classical in
theorem rowR2_get {p : Nat} {S : Rel2} {x y : Nat} (h : y < p) : (rowR2 p S x)[y]? = some (decide (S (x : Int) (y : Int))) := by simp [rowR2, h]
open Go.ChangeAt Go.ChangeShapes Go.RowKit Go.Sort Go.WideShapes
section
variable {α : Type} {size : Nat} {f : α → List Value} {w w' : World} {base n c : Nat} {e : TypeId} {A : Option Addr} {l : List α}
theorem Own.typedT (h : Own size f w base e A n c l) {g : Nat} (hg : (Value.slice A n c).ownBlock = some g) : base ≤ g ∧ g < w.heap.size ∧ ∃ cur, w.heap[g]? = some (.cells cur e (0, 0)) := by
 refine ⟨(h.lt g hg).1, (h.lt g hg).2, ?_⟩
 rcases h.2.2 with ⟨hv, _⟩ | ⟨b, cap, cur, hv, _, hb, _⟩
 ·rw [hv] at hg; cases hg
 ·rw [hv] at hg
  obtain rfl : b = g := by injection hg
  exact ⟨cur, hb⟩
theorem Own.otherT (h : Own size f w base e A n c l) {b : Nat} {cur : Array Value} {t : TypeId} {z : Nat × Nat} (hb : w.heap[b]? = some (.cells cur t z)) (ht : t ≠ e) : some b ≠ (Value.slice A n c).ownBlock := fun e1 => by
 obtain ⟨-, -, cu, h1⟩ := h.typedT e1.symm;rw [hb] at h1;injection h1 with h1;injection h1 with _ h1;exact ht h1
theorem grown_blockT {row : Option Nat} (hg : w.grownBy w' row) {b : Nat} {o : Obj} (hb : w.heap[b]? = some o) (hne : some b ≠ row) : w'.heap[b]? = some o :=
 (hg.block b (Array.getElem?_eq_some_iff.1 hb).1 hne).trans hb
end
structure RowsB (w : World) (base : Nat) (A : Option Addr) (n c : Nat) (H : List (Hd × List Bool)) : Prop where
 own : Own 1 sv w base 135 A n c (H.map (·.1))
 rows : ∀ r ∈ H, Own 1 bv w base 4 r.1.1 r.1.2.1 r.1.2.2 r.2
section
variable {w w' : World} {base n c : Nat} {A : Option Addr} {H : List (Hd × List Bool)}
theorem RowsB.len (h : RowsB w base A n c H) : H.length = n := by have := h.own.1; rwa [List.length_map] at this
theorem RowsB.kept (h : RowsB w base A n c H) (hk : ∀ b, b < w.heap.size → w'.heap[b]? = w.heap[b]?) : RowsB w' base A n c H :=
 ⟨h.own.keep fun g hg => hk g (h.own.lt g hg).2, fun r hr => (h.rows r hr).keep fun g hg => hk g ((h.rows r hr).lt g hg).2⟩
theorem RowsB.below (h : RowsB w base A n c H) (hb : Below w.heap.size w w') : RowsB w' base A n c H := h.kept hb.block
theorem RowsB.set (h : RowsB w base A n c H) {p : Addr} {cur : Array Value} {t : TypeId} {z : Nat × Nat} (hb : w.heap[p.block]? = some (.cells cur t z)) (h1 : t ≠ 135) (h2 : t ≠ 4) (u : Value) : RowsB (w.setCell p u) base A n c H :=
 ⟨h.own.keep fun g hg => Below.heap_setCell _ _ _ _ fun e => h.own.otherT hb h1 (by rw [hg, e]), fun r hr => (h.rows r hr).keep fun g hg => Below.heap_setCell _ _ _ _ fun e => (h.rows r hr).otherT hb h2 (by rw [hg, e])⟩
theorem RowsB.push (h : RowsB w base A n c H) {r : Hd × List Bool} (hr : Own 1 bv w base 4 r.1.1 r.1.2.1 r.1.2.2 r.2) {A' : Option Addr} {c' : Nat} (ho : Own 1 sv w' base 135 A' (n + 1) c' (H.map (·.1) ++ [r.1])) (hg : w.grownBy w' (Value.slice A n c).ownBlock) : RowsB w' base A' (n + 1) c' (H ++ [r]) :=
 ⟨by rw [List.map_append]; exact ho, fun x hx => by
  rcases List.mem_append.1 hx with hx | hx
  ·exact (h.rows x hx).kept hg ((h.rows x hx).apart h.own (by decide))
  ·rw [List.mem_singleton.1 hx]
   exact hr.kept hg (hr.apart h.own (by decide))⟩
theorem RowsB.at_ (h : RowsB w base A n c H) {k : Nat} {l : List Bool} (hk : (H.map (·.2))[k]? = some l) : ∃ b off Ah nh ch, A = some ⟨b, off, none⟩ ∧ base ≤ b ∧ b < w.heap.size ∧ k < n ∧ w.cell? ⟨b, off + k, none⟩ = some (.slice Ah nh ch) ∧ Own 1 bv w base 4 Ah nh ch l := by
 rw [List.getElem?_map] at hk;obtain ⟨⟨⟨Ah, nh, ch⟩, l'⟩, hr, e⟩ := Option.map_eq_some_iff.1 hk;have e : l' = l := e;subst e;have hlt : k < n := by rw [← h.len]; exact (List.getElem?_eq_some_iff.1 hr).1
 obtain ⟨b, off, e1, g1, -, g3, hc⟩ := (h.own.sl flat_sv).at_ (by omega);have h0 := hc k (Ah, nh, ch) (by rw [List.getElem?_map, hr]; rfl) 0 _ rfl;simp only [Nat.mul_one, Nat.add_zero] at h0;exact ⟨b, off, Ah, nh, ch, e1, g1, g3, hlt, h0.1, h.rows _ (List.mem_of_getElem? hr)⟩
theorem RowsB.get (h : RowsB w base A n c H) {m p : Nat} {S : Rel2} (hM : H.map (·.2) = tabR m p S) {x y : Nat} (hx : x < m) (hy : y < p) :
  ∃ b off b2 off2 c2 v, A = some ⟨b, off, none⟩ ∧ b < w.heap.size ∧ b2 < w.heap.size ∧ x < n ∧ w.cell? ⟨b, off + x, none⟩ = some (.slice (some ⟨b2, off2, none⟩) p c2) ∧ w.cell? ⟨b2, off2 + y, none⟩ = some (.bool v) ∧ (v = true ↔ S (x : Int) (y : Int)) := by
 have hk : (H.map (·.2))[x]? = some (rowR2 p S x) := by rw [hM]; exact tabR_get hx
 obtain ⟨b, off, Ah, nh, ch, e1, g1, g3, hlt, hc, ho⟩ := h.at_ hk;have hn : nh = p := by rw [← ho.len, rowR2_len]
 subst hn;obtain ⟨b2, off2, e2, -, -, g5, hv, hc2, -⟩ := SlB.get (ho.sl flat_bv) hy;subst e2;rw [rowR2_get hy] at hv;refine ⟨b, off, b2, off2, ch, _, e1, g3, g5, hlt, hc, hc2, ?_⟩;rw [← Option.some.inj hv];exact @decide_eq_true_iff _ (Classical.propDecidable _)
end
section
variable {w w' : World} {base bt ba bb n c : Nat} {K : Int} {A : Option Addr} {H : List (Hd × List Bool)}
end
structure OnlS (w wr : World) (s0 s1 : Int) (A2 : Option Addr) (n2 k2 : Nat) (A : Option Addr) (m c : Nat) (l : List Ed) : Prop where
 kR : wr.heap[w.heap.size + 1]? = some (.cells #[.int .i64 0, .int .i64 0, .slice none 0 0, .slice none 0 0] 27 (0, 0))
 kO : wr.heap[w.heap.size + 1 + 1]? = some (.cells #[.int .i64 s0, .int .i64 s1, .slice A2 n2 k2, .slice A m c] 27 (0, 0))
 own : Own 3 ev wr w.heap.size 84 A m c l
 bel : Below w.heap.size w wr
theorem OnlS.below {w wr wx : World} {s0 s1 : Int} {A2 : Option Addr} {n2 k2 : Nat} {A : Option Addr} {m c : Nat} {l : List Ed} (h : OnlS w wr s0 s1 A2 n2 k2 A m c l) (hb : Below wr.heap.size wr wx) : OnlS w wx s0 s1 A2 n2 k2 A m c l :=
 ⟨(hb.block _ (Array.getElem?_eq_some_iff.1 h.kR).1).trans h.kR, (hb.block _ (Array.getElem?_eq_some_iff.1 h.kO).1).trans h.kO, h.own.below hb zR, h.bel.trans (hb.mono h.bel.size)⟩
theorem OnlS.mid {w wr wx : World} {s0 s1 : Int} {A2 : Option Addr} {n2 k2 : Nat} {A : Option Addr} {m c : Nat} {l : List Ed} (h : OnlS w wr s0 s1 A2 n2 k2 A m c l) {o : Obj} (hg : (wr.alloc o).grownBy wx (Value.slice A m c).ownBlock) : wx.heap[w.heap.size + 1 + 1]? = some (.cells #[.int .i64 s0, .int .i64 s1, .slice A2 n2 k2, .slice A m c] 27 (0, 0)) :=
 grown_blockT hg ((Below.heap_alloc _ _ _ (Array.getElem?_eq_some_iff.1 h.kO).1).trans h.kO) (h.own.otherT h.kO (by decide))
theorem OnlS.next {w wr wx : World} {s0 s1 : Int} {A2 : Option Addr} {n2 k2 : Nat} {A : Option Addr} {m c : Nat} {l : List Ed} (h : OnlS w wr s0 s1 A2 n2 k2 A m c l) {o : Obj} (hg : (wr.alloc o).grownBy wx (Value.slice A m c).ownBlock) (hb : Below w.heap.size (wr.alloc o) wx)
  {A' : Option Addr} {c' : Nat} {l' : List Ed} (ho : Own 3 ev wx w.heap.size 84 A' (m + 1) c' l') : OnlS w (wx.setCell ⟨w.heap.size + 1 + 1, 3, none⟩ (.slice A' (m + 1) c')) s0 s1 A2 n2 k2 A' (m + 1) c' l' := by
 have k1 := h.mid hg;have k2 := grown_blockT hg ((Below.heap_alloc _ _ _ (Array.getElem?_eq_some_iff.1 h.kR).1).trans h.kR) (h.own.otherT h.kR (by decide));refine ⟨(Below.heap_setCell _ _ _ _ (by show _ ≠ w.heap.size + 1 + 1; omega)).trans k2, heap_setCell_same _ _ 3 _ _ _ k1, ?_, ?_⟩
 ·exact ho.keep fun g hg' => Below.heap_setCell _ _ _ _ fun e => ho.otherT k1 (by decide) (by rw [hg']; exact congrArg some e.symm)
 ·exact ((h.bel.alloc h.bel.size o).trans hb).setCell (by show w.heap.size ≤ w.heap.size + 1 + 1; omega) _
theorem only_calls (F : FuncId) (caps : Array Value) (G : Ed → Bool) (s0 s1 : Int) (A2 : Option Addr) (n2 k2 : Nat) (A3 : Option Addr) (n3 k3 : Nat) (es : List Ed) (w : World) (lo hi : Nat) (t3 : SlE w lo hi A3 n3 es) (hes : n3 ≤ 1048576)
  (hF : ∀ (v : Value) (W : World), Sem.run Tryz.prog (callFunc F (#[v] ++ caps)) W = .ok (.enter F (#[v] ++ caps)) W)
  (hcl : ∀ (f lb tg : Int), (f, lb, tg) ∈ es → ∀ (W : World), Below w.heap.size w W → Calls Tryz.prog F (#[.agg #[.int .i64 f, .int .i64 lb, .int .i64 tg]] ++ caps) W (Says (G (f, lb, tg)) W)) :
  Calls Tryz.prog 262 #[.agg #[.int .i64 s0, .int .i64 s1, .slice A2 n2 k2, .slice A3 n3 k3], .func (.func F) #[] caps] w fun e w' => ∃ A m c, e = .returned (.agg #[.int .i64 s0, .int .i64 s1, .slice A2 n2 k2, .slice A m c]) ∧ SlE w' w.heap.size w'.heap.size A m (es.filter G) ∧ m ≤ n3 ∧ Below w.heap.size w w' := by
 have l3 := hide t3.len;have hE := hide elem_edge;have z1 : (w.alloc (.cells #[.int .i64 s0, .int .i64 s1, .slice A2 n2 k2, .slice A3 n3 k3] 27)).heap.size = w.heap.size + 1 := World.size_alloc _ _;have z2 : ((w.alloc (.cells #[.int .i64 s0, .int .i64 s1, .slice A2 n2 k2, .slice A3 n3 k3] 27)).alloc (.cells #[.int .i64 0, .int .i64 0, .slice none 0 0, .slice none 0 0] 27)).heap.size = w.heap.size + 1 + 1 := by rw [World.size_alloc, z1]
 have hb1 : Below w.heap.size w ((w.alloc (.cells #[.int .i64 s0, .int .i64 s1, .slice A2 n2 k2, .slice A3 n3 k3] 27)).alloc (.cells #[.int .i64 0, .int .i64 0, .slice none 0 0, .slice none 0 0] 27)) := (bR.alloc zR _).alloc (by omega) _;have kE := (Below.heap_alloc (w.alloc (.cells #[.int .i64 s0, .int .i64 s1, .slice A2 n2 k2, .slice A3 n3 k3] 27)) (.cells #[.int .i64 0, .int .i64 0, .slice none 0 0, .slice none 0 0] 27) w.heap.size (by omega)).trans (heap_alloc_new w (.cells #[.int .i64 s0, .int .i64 s1, .slice A2 n2 k2, .slice A3 n3 k3] 27));have kR := heap_alloc_new (w.alloc (.cells #[.int .i64 s0, .int .i64 s1, .slice A2 n2 k2, .slice A3 n3 k3] 27)) (.cells #[.int .i64 0, .int .i64 0, .slice none 0 0, .slice none 0 0] 27);rw [z1] at kR;have a0 := (cell_of_row _ _ 0 _ _ (0, 0) kE).trans (show _ = some (Value.int .i64 s0) from rfl);have a1 := (cell_of_row _ _ 1 _ _ (0, 0) kE).trans (show _ = some (Value.int .i64 s1) from rfl);have a2 := (cell_of_row _ _ 2 _ _ (0, 0) kE).trans (show _ = some (Value.slice A2 n2 k2) from rfl);replace t3 := hide t3;replace hcl := hide hcl;clear z1;go_enter Tryz.func262, Tryz.ntmps262;go_upto_region 1 with fail;generalize ((w.alloc (.cells #[.int .i64 s0, .int .i64 s1, .slice A2 n2 k2, .slice A3 n3 k3] 27)).alloc (.cells #[.int .i64 0, .int .i64 0, .slice none 0 0, .slice none 0 0] 27)) = W1 at *;have hzO : (W1.alloc (.cells #[.int .i64 s0, .int .i64 s1, .slice A2 n2 k2, .slice none 0 0] 27)).heap.size = w.heap.size + 1 + 1 + 1 := by rw [World.size_alloc, z2]
 have kO := heap_alloc_new W1 (.cells #[.int .i64 s0, .int .i64 s1, .slice A2 n2 k2, .slice none 0 0] 27);rw [z2] at kO;have hst : Hid (OnlS w (W1.alloc (.cells #[.int .i64 s0, .int .i64 s1, .slice A2 n2 k2, .slice none 0 0] 27)) s0 s1 A2 n2 k2 none 0 0 (List.filter G (es.take 0))) :=
  ⟨(Below.heap_alloc _ _ _ (by omega)).trans kR, kO, Own.nil_ _ _ _, hb1.alloc hb1.size _⟩
 have kB3 := (Below.heap_alloc W1 (.cells #[.int .i64 s0, .int .i64 s1, .slice A2 n2 k2, .slice none 0 0] 27) w.heap.size (by omega)).trans kE;have a3 := (cell_of_row _ _ 3 _ _ (0, 0) kB3).trans (show _ = some (Value.slice A3 n3 k3) from rfl);replace hb1 := hide hb1;replace kB3 := hide kB3;clear kE kR kO;go_upto_region 2 with fail;clear a0 a1 a2;generalize (W1.alloc (.cells #[.int .i64 s0, .int .i64 s1, .slice A2 n2 k2, .slice none 0 0] 27)) = W2 at *;go_upto_region 3 with fail;clear a3
 go_loopg [18] n3 (fun J i wr => ∃ (k m c : Nat) (A : Option Addr), k ≤ n3 ∧ m ≤ k ∧ i = .int .i64 (k : Nat) ∧ Hid (OnlS w wr s0 s1 A2 n2 k2 A m c (List.filter G (es.take k))) ∧ Hid (n3 - k ≤ J))
 case atStart => exact ⟨0, 0, 0, none, Nat.zero_le _, zR, rfl, hst, by show _ ≤ _; omega⟩
 case round =>
  clear hst hb1 kB3 hzO z2;obtain ⟨k, m, c, A, hk, hmk, rfl, hs, hJ⟩ := hrel
  by_cases hlt : k < n3
  ·obtain ⟨J2, rfl⟩ : ∃ J2, gk = J2 + 1 := ⟨gk - 1, by have := hJ.out; omega⟩
   have hJ2 : Hid (n3 - (k + 1) ≤ J2) := by have := hJ.out; show _ ≤ _; omega
   obtain ⟨b, off, f, lb, tg, rfl, g1, g2, g3, hx, a0, a1, a2, -, -, -⟩ := SlE.get t3.out hlt;have hbr := hs.out.bel;replace a0 := (hbr.cell g3).trans a0;replace a1 := (hbr.cell (p := ⟨b, off + k * 3 + 1, none⟩) g3).trans a1;replace a2 := (hbr.cell (p := ⟨b, off + k * 3 + 2, none⟩) g3).trans a2;have hsu : List.filter G (es.take (k + 1)) = List.filter G (es.take k) ++ (if G (f, lb, tg) = true then [(f, lb, tg)] else []) := by
    rw [List.take_add_one, hx, List.filter_append]
    congr 1
    cases hG : G (f, lb, tg) <;> simp [hG]
   have hbE : Below wr.heap.size wr (wr.alloc (.cells #[.int .i64 f, .int .i64 lb, .int .i64 tg] 84)) := bR.alloc zR _;have kE := heap_alloc_new wr (.cells #[.int .i64 f, .int .i64 lb, .int .i64 tg] 84);have y0 : (wr.alloc (.cells #[.int .i64 f, .int .i64 lb, .int .i64 tg] 84)).cell? ⟨wr.heap.size, 0, none⟩ = some (.int .i64 f) := cR 0 kE;have y1 : (wr.alloc (.cells #[.int .i64 f, .int .i64 lb, .int .i64 tg] 84)).cell? ⟨wr.heap.size, 1, none⟩ = some (.int .i64 lb) := cR 1 kE;have y2 : (wr.alloc (.cells #[.int .i64 f, .int .i64 lb, .int .i64 tg] 84)).cell? ⟨wr.heap.size, 2, none⟩ = some (.int .i64 tg) := cR 2 kE;have hsE := hide (hs.out.below hbE);have hc := hcl.out f lb tg (List.mem_of_getElem? hx) _ (hbr.trans (hbE.mono hbr.size));have hzE : wr.heap.size < (wr.alloc (.cells #[.int .i64 f, .int .i64 lb, .int .i64 tg] 84)).heap.size := by rw [World.size_alloc]; omega
   clear hs hx kE hbE hbr;go_upto_region 5 with fail;clear a0 a1 a2;generalize (wr.alloc (.cells #[.int .i64 f, .int .i64 lb, .int .i64 tg] 84)) = WE at *;generalize wr.heap.size = bE at *
   cases hG : G (f, lb, tg) with
   | false =>
    rw [hG] at hc hsu;rw [if_neg (by decide), List.append_nil] at hsu;replace hsu := hide hsu;replace hc := hide hc;clear hG;go_wp2_with fail;refine hc.out.mono ?_;rintro e w1 ⟨rfl, hb1⟩;have hs1 : Hid (OnlS w w1 s0 s1 A2 n2 k2 A m c (List.filter G (es.take (k + 1)))) := by show OnlS _ _ _ _ _ _ _ _ _ _ _; rw [hsu.out]; exact hsE.out.below hb1
    clear hb1;go_wp2_with fail
    go_roundg J2
    case measure => omega
    case rel => exact ⟨k + 1, m, c, A, by omega, by omega, by go_num, hs1, hJ2⟩
   | true =>
    rw [hG] at hc hsu;rw [if_pos rfl] at hsu;replace hsu := hide hsu;replace hc := hide hc;clear hG;go_wp2_with fail;refine hc.out.mono ?_;rintro e w1 ⟨rfl, hb1⟩;have hs1 := hsE.out.below hb1;have u0 := (hb1.cell (p := ⟨bE, 0, none⟩) hzE).trans y0;have u1 := (hb1.cell (p := ⟨bE, 1, none⟩) hzE).trans y1;have u2 := (hb1.cell (p := ⟨bE, 2, none⟩) hzE).trans y2;have o3 := (cell_of_row _ _ 3 _ _ (0, 0) hs1.kO).trans (show _ = some (Value.slice A m c) from rfl);have hown := hide hs1.own;have hza : ∀ o, w.heap.size ≤ (w1.alloc o).heap.size := fun o => by rw [World.size_alloc]; have := hs1.bel.size; omega
    replace hs1 := hide hs1;clear hb1 y0 y1 y2 hsE;go_wp2_with (first | (at_builtin; (with_reducible refine wpList_app rfl (.tmp 26) (.tmp 28) rfl hE.out flat_ev rfl (hown.out.alloc _) rfl (Sl.lit1' w1 84 (f, lb, tg) _ rfl 3 _ ?c0) ?c1 (hza _) ?_); rotate_right; intro A7 c7 w7 hown7 hgr7 hb7 _; have k7 := hs1.out.mid hgr7; have k7f := frozen_of_row _ _ 3 _ _ k7; have hs7 := hide (hs1.out.next hgr7 hb7 hown7); have k7c := (cell_of_row _ _ 3 _ _ (0, 0) k7).trans (show _ = some (Value.slice A m c) from rfl); clear hgr7 hb7 hown7 k7))
    case c0 => rfl
    case c1 => omega
    rw [← hsu.out] at hs7
    go_roundg J2
    case measure => omega
    case rel => exact ⟨k + 1, m + 1, c7, A7, by omega, by omega, by go_num, hs7, hJ2⟩
  ·have hkn : k = n3 := by omega
   subst hkn;have hall : es.take k = es := List.take_of_length_le (by rw [l3.out]; exact zR);rw [hall] at hs;have o0 := (cell_of_row _ _ 0 _ _ (0, 0) hs.out.kO).trans (show _ = some (Value.int .i64 s0) from rfl);have o1 := (cell_of_row _ _ 1 _ _ (0, 0) hs.out.kO).trans (show _ = some (Value.int .i64 s1) from rfl);have o2 := (cell_of_row _ _ 2 _ _ (0, 0) hs.out.kO).trans (show _ = some (Value.slice A2 n2 k2) from rfl);have o3 := (cell_of_row _ _ 3 _ _ (0, 0) hs.out.kO).trans (show _ = some (Value.slice A m c) from rfl);have r0 := (cell_of_row _ _ 0 _ _ (0, 0) hs.out.kR).trans (show _ = some (Value.int .i64 0) from rfl);have r1 := (cell_of_row _ _ 1 _ _ (0, 0) hs.out.kR).trans (show _ = some (Value.int .i64 0) from rfl);have r2 := (cell_of_row _ _ 2 _ _ (0, 0) hs.out.kR).trans (show _ = some (Value.slice none 0 0) from rfl);have r3 := (cell_of_row _ _ 3 _ _ (0, 0) hs.out.kR).trans (show _ = some (Value.slice none 0 0) from rfl);have f0 := frozen_of_row _ _ 0 _ _ hs.out.kR;have f1 := frozen_of_row _ _ 1 _ _ hs.out.kR;have f2 := frozen_of_row _ _ 2 _ _ hs.out.kR;have f3 := frozen_of_row _ _ 3 _ _ hs.out.kR;have kF : ((((wr.setCell ⟨w.heap.size + 1, 0, none⟩ (.int .i64 s0)).setCell ⟨w.heap.size + 1, 1, none⟩ (.int .i64 s1)).setCell ⟨w.heap.size + 1, 2, none⟩ (.slice A2 n2 k2)).setCell ⟨w.heap.size + 1, 3, none⟩ (.slice A m c)).heap[w.heap.size + 1]? = some (.cells #[.int .i64 s0, .int .i64 s1, .slice A2 n2 k2, .slice A m c] 27 (0, 0)) := heap_setCell_same _ _ 3 _ _ _ (heap_setCell_same _ _ 2 _ _ _ (heap_setCell_same _ _ 1 _ _ _ (heap_setCell_same _ _ 0 _ _ _ hs.out.kR)));have rF0 : ((((wr.setCell ⟨w.heap.size + 1, 0, none⟩ (.int .i64 s0)).setCell ⟨w.heap.size + 1, 1, none⟩ (.int .i64 s1)).setCell ⟨w.heap.size + 1, 2, none⟩ (.slice A2 n2 k2)).setCell ⟨w.heap.size + 1, 3, none⟩ (.slice A m c)).cell? ⟨w.heap.size + 1, 0, none⟩ = some (.int .i64 s0) := cR 0 kF;have rF1 : ((((wr.setCell ⟨w.heap.size + 1, 0, none⟩ (.int .i64 s0)).setCell ⟨w.heap.size + 1, 1, none⟩ (.int .i64 s1)).setCell ⟨w.heap.size + 1, 2, none⟩ (.slice A2 n2 k2)).setCell ⟨w.heap.size + 1, 3, none⟩ (.slice A m c)).cell? ⟨w.heap.size + 1, 1, none⟩ = some (.int .i64 s1) := cR 1 kF;have rF2 : ((((wr.setCell ⟨w.heap.size + 1, 0, none⟩ (.int .i64 s0)).setCell ⟨w.heap.size + 1, 1, none⟩ (.int .i64 s1)).setCell ⟨w.heap.size + 1, 2, none⟩ (.slice A2 n2 k2)).setCell ⟨w.heap.size + 1, 3, none⟩ (.slice A m c)).cell? ⟨w.heap.size + 1, 2, none⟩ = some (.slice A2 n2 k2) := cR 2 kF;have rF3 : ((((wr.setCell ⟨w.heap.size + 1, 0, none⟩ (.int .i64 s0)).setCell ⟨w.heap.size + 1, 1, none⟩ (.int .i64 s1)).setCell ⟨w.heap.size + 1, 2, none⟩ (.slice A2 n2 k2)).setCell ⟨w.heap.size + 1, 3, none⟩ (.slice A m c)).cell? ⟨w.heap.size + 1, 3, none⟩ = some (.slice A m c) := cR 3 kF
   have hoF : Only (w.heap.size + 1) (w.heap.size + 1 + 1) wr ((((wr.setCell ⟨w.heap.size + 1, 0, none⟩ (.int .i64 s0)).setCell ⟨w.heap.size + 1, 1, none⟩ (.int .i64 s1)).setCell ⟨w.heap.size + 1, 2, none⟩ (.slice A2 n2 k2)).setCell ⟨w.heap.size + 1, 3, none⟩ (.slice A m c)) := ((((Only.refl (w.heap.size + 1) (w.heap.size + 1 + 1) wr).setCell (p := ⟨w.heap.size + 1, 0, none⟩) zR (Nat.lt_succ_self _) _).setCell (p := ⟨w.heap.size + 1, 1, none⟩) zR (Nat.lt_succ_self _) _).setCell (p := ⟨w.heap.size + 1, 2, none⟩) zR (Nat.lt_succ_self _) _).setCell (p := ⟨w.heap.size + 1, 3, none⟩) zR (Nat.lt_succ_self _) _;have hkR := hs.out.kR;have hown := hs.out.own;have hbF : Hid (Below w.heap.size w ((((wr.setCell ⟨w.heap.size + 1, 0, none⟩ (.int .i64 s0)).setCell ⟨w.heap.size + 1, 1, none⟩ (.int .i64 s1)).setCell ⟨w.heap.size + 1, 2, none⟩ (.slice A2 n2 k2)).setCell ⟨w.heap.size + 1, 3, none⟩ (.slice A m c))) := (((hs.out.bel.setCell (by show w.heap.size ≤ w.heap.size + 1; omega) _).setCell (by show w.heap.size ≤ w.heap.size + 1; omega) _).setCell (by show w.heap.size ≤ w.heap.size + 1; omega) _).setCell (by show w.heap.size ≤ w.heap.size + 1; omega) _;have hsl : Hid (SlE ((((wr.setCell ⟨w.heap.size + 1, 0, none⟩ (.int .i64 s0)).setCell ⟨w.heap.size + 1, 1, none⟩ (.int .i64 s1)).setCell ⟨w.heap.size + 1, 2, none⟩ (.slice A2 n2 k2)).setCell ⟨w.heap.size + 1, 3, none⟩ (.slice A m c)) w.heap.size ((((wr.setCell ⟨w.heap.size + 1, 0, none⟩ (.int .i64 s0)).setCell ⟨w.heap.size + 1, 1, none⟩ (.int .i64 s1)).setCell ⟨w.heap.size + 1, 2, none⟩ (.slice A2 n2 k2)).setCell ⟨w.heap.size + 1, 3, none⟩ (.slice A m c)).heap.size A m (List.filter G es)) := by
    have h1 : Own 3 ev ((((wr.setCell ⟨w.heap.size + 1, 0, none⟩ (.int .i64 s0)).setCell ⟨w.heap.size + 1, 1, none⟩ (.int .i64 s1)).setCell ⟨w.heap.size + 1, 2, none⟩ (.slice A2 n2 k2)).setCell ⟨w.heap.size + 1, 3, none⟩ (.slice A m c)) w.heap.size 84 A m c (List.filter G es) := hown.keep fun g hg => by
     have hne : g ≠ w.heap.size + 1 := fun e => hown.otherT hkR (by decide) (by rw [hg, e])
     rw [Below.heap_setCell _ _ _ _ hne, Below.heap_setCell _ _ _ _ hne, Below.heap_setCell _ _ _ _ hne, Below.heap_setCell _ _ _ _ hne]
    exact h1.sl flat_ev
   clear hall hkR hown hoF kF hs;go_wp2_with fail
   (try simp only [Exit.inBlock, Exit.then])
   clear o0 o1 o2 o3 r0 r1 r2 r3 f0 f1 f2 f3;generalize ((((wr.setCell ⟨w.heap.size + 1, 0, none⟩ (.int .i64 s0)).setCell ⟨w.heap.size + 1, 1, none⟩ (.int .i64 s1)).setCell ⟨w.heap.size + 1, 2, none⟩ (.slice A2 n2 k2)).setCell ⟨w.heap.size + 1, 3, none⟩ (.slice A m c)) = wF at *;refine bodyPost_ret (by simp [results, Tryz.results262, go_sem, rF0, rF1, rF2, rF3]; try rfl) rfl ?_;exact ⟨A, m, c, rfl, hsl.out, by omega, hbF.out⟩
def inG (p : List Int) (e : Ed) : Bool := decide (e.2.1 = 0) && decide (p[e.1.toNat]? = p[e.2.2.toNat]?)
theorem inG_true {p : List Int} {e : Ed} : inG p e = true ↔ e.2.1 = 0 ∧ p[e.1.toNat]? = p[e.2.2.toNat]? := by unfold inG; simp
theorem inert1_calls (N : Nat) (P : Option Addr) (cP : Nat) (p : List Int) (bP : Nat) (f l t : Int) (w : World) (lo hi : Nat) (hP : SlI w lo hi P N p) (hbl : bP < w.heap.size) (hb : w.cell? ⟨bP, 0, none⟩ = some (.slice P N cP)) (hf : 0 ≤ f ∧ f < (N : Int)) (ht : 0 ≤ t ∧ t < (N : Int)) :
  Calls Tryz.prog 263 #[.agg #[.int .i64 f, .int .i64 l, .int .i64 t], .pointer (some ⟨bP, 0, none⟩)] w (Says (inG p (f, l, t)) w) := by
 obtain ⟨f, rfl⟩ : ∃ k : Nat, f = (k : Int) := ⟨f.toNat, by omega⟩;obtain ⟨t, rfl⟩ : ∃ k : Nat, t = (k : Int) := ⟨t.toNat, by omega⟩;obtain ⟨gP, oP, pf, rfl, -, -, hgP, hpf, cf, -⟩ := SlI.get hP (show f < N by omega);obtain ⟨gP2, oP2, pt, e2, -, -, -, hpt, ct, -⟩ := SlI.get hP (show t < N by omega);cases e2;have hval : Hid (inG p ((f : Int), l, (t : Int)) = ((l == 0) && (pf == pt))) := by
  show _ = _
  unfold inG;simp only [Int.toNat_natCast, hpf, hpt]
  by_cases h1 : l = 0 <;> by_cases h2 : pf = pt <;> simp [h1, h2]
 have hb1 : Below w.heap.size w (w.alloc (.cells #[.int .i64 (f : Int), .int .i64 l, .int .i64 (t : Int)] 84)) := bR.alloc zR _;have k8 := heap_alloc_new w (.cells #[.int .i64 (f : Int), .int .i64 l, .int .i64 (t : Int)] 84);obtain ⟨w1, hw1⟩ : ∃ w1, w1 = w.alloc (.cells #[.int .i64 (f : Int), .int .i64 l, .int .i64 (t : Int)] 84) := ⟨_, rfl⟩;rw [← hw1] at hb1 k8;have c0 := (hb1.cell (p := ⟨bP, 0, none⟩) hbl).trans hb;replace cf := (hb1.cell (p := ⟨gP, oP + f, none⟩) hgP).trans cf;replace ct := (hb1.cell (p := ⟨gP, oP + t, none⟩) hgP).trans ct;have e0 : w1.cell? ⟨w.heap.size, 0, none⟩ = some (.int .i64 (f : Int)) := cR 0 k8;have e1 : w1.cell? ⟨w.heap.size, 1, none⟩ = some (.int .i64 l) := cR 1 k8;have e2 : w1.cell? ⟨w.heap.size, 2, none⟩ = some (.int .i64 (t : Int)) := cR 2 k8;have f0 : (0 : Int) ≤ (f : Int) := by omega
 have f1 : (f : Int) < (N : Int) := by omega
 have t0 : (0 : Int) ≤ (t : Int) := by omega
 have t1 : (t : Int) < (N : Int) := by omega
 replace hb1 := hide hb1;replace hpf := hide hpf;replace hpt := hide hpt;clear hP hb k8 hf ht
 by_cases hl : l = 0
 ·subst hl
  have g1 : ((0 : Int) == 0) = true := rfl;go_enter Tryz.func263, Tryz.ntmps263;go_upto_region 1 with fail;rw [← hw1];replace hw1 := hide hw1;go_quiet (fail);go_wp2_with fail;go_ret;exact ⟨by rw [hval.out]; rfl, hb1.out.trans (below_drewN _ _ |>.mono hb1.out.size)⟩
 ·have g1 : (l == 0) = false := beq_eq_false_iff_ne.2 hl
  go_enter Tryz.func263, Tryz.ntmps263;go_upto_region 1 with fail;rw [← hw1];replace hw1 := hide hw1;go_quiet (fail);go_wp2_with fail;go_ret;exact ⟨by rw [hval.out, g1]; rfl, hb1.out.trans (below_drewN _ _ |>.mono hb1.out.size)⟩
theorem inertOnly_calls {w : World} {N ini : Nat} {A : Option Addr} {n : Nat} {B : Option Addr} {m : Nat} {ls : List ByteArray} {es : List Ed} (h : SysA w N ini A n B m ls es) (c d : Nat) (P : Option Addr) (cP : Nat) (p : List Int) (hP : SlI w 0 w.heap.size P N p) :
  Calls Tryz.prog 200 #[.agg #[.int .i64 (N : Int), .int .i64 (ini : Int), .slice A n c, .slice B m d], .slice P N cP] w fun e w' => ∃ A' m' c', e = .returned (.agg #[.int .i64 (N : Int), .int .i64 (ini : Int), .slice A n c, .slice A' m' c']) ∧ SlE w' w.heap.size w'.heap.size A' m' (es.filter (inG p)) ∧ m' ≤ m ∧ Below w.heap.size w w' := by
 have hm := h.many;have hB := h.box (c := c) (d := d);obtain ⟨w3, hw3⟩ : ∃ w3, w3 = ((w.alloc (ltsC N ini A n c B m d)).alloc (.cells #[.slice P N cP] 32)).alloc (.cells #[.int .i64 0, .int .i64 0, .slice none 0 0, .slice none 0 0] 27) := ⟨_, rfl⟩;have z1 : (w.alloc (ltsC N ini A n c B m d)).heap.size = w.heap.size + 1 := World.size_alloc _ _;have hb2 : Below (w.heap.size + 1) (w.alloc (ltsC N ini A n c B m d)) w3 := by
  rw [hw3];exact (bR.alloc (by rw [z1]; exact zR) _).alloc (by rw [World.size_alloc, z1]; omega) _
 have hBw := hB.below (by rw [z1]; exact hb2);have z3 : w3.heap.size = w.heap.size + 3 := by rw [hw3, World.size_alloc, World.size_alloc, z1]
 have kP : w3.heap[w.heap.size + 1]? = some (.cells #[.slice P N cP] 32 (0, 0)) := by
  rw [hw3];refine (Below.heap_alloc _ _ _ (by rw [World.size_alloc, z1]; omega)).trans ?_;have := heap_alloc_new (w.alloc (ltsC N ini A n c B m d)) (.cells #[.slice P N cP] 32);rw [z1] at this;exact this
 have kR : w3.heap[w.heap.size + 2]? = some (.cells #[.int .i64 0, .int .i64 0, .slice none 0 0, .slice none 0 0] 27 (0, 0)) := by
  rw [hw3];have := heap_alloc_new ((w.alloc (ltsC N ini A n c B m d)).alloc (.cells #[.slice P N cP] 32)) (.cells #[.int .i64 0, .int .i64 0, .slice none 0 0, .slice none 0 0] 27);rw [World.size_alloc, z1] at this;exact this
 have hP3 := (hP.below hBw.bel (.inr zR)).here';have hends := hide h.ends;have qO := hide (only_calls 263 #[.pointer (some ⟨w.heap.size + 1, 0, none⟩)] (inG p) (N : Int) (ini : Int) A n c B m d es w3 _ _ hBw.sys.se (by omega) (fun v W => by kernel_rfl) fun f lb tg hx W hW =>
  inert1_calls N P cP p (w.heap.size + 1) f lb tg W _ _ (hP3.below hW (.inr zR)) (by have := hW.size; omega) ((cell_of_row _ _ 0 _ _ (0, 0) ((hW.block _ (by omega)).trans kP)).trans rfl) (hends.out _ hx).1 (hends.out _ hx).2)
 have b0 := hBw.box.c0;have b1 := hBw.box.c1;have b2 := hBw.box.c2;have b3 := hBw.box.c3;have zz : w.heap.size + 2 < w3.heap.size := by omega
 have zz2 : w.heap.size ≤ w3.heap.size := by omega
 replace kR := hide kR;replace kP := hide kP;have hbel := hide hBw.bel;replace z3 := hide z3;clear h hB hb2 hP hP3 hBw z1;go_enter Tryz.func200, Tryz.ntmps200;go_upto_region 1 with fail;rw [← show w3 = _ from hw3];replace hw3 := hide hw3;go_wp2_with fail;refine qO.out.mono ?_;rintro e w4 ⟨A', m', c', rfl, hO, hm', hb4⟩;have h8 : w4.heap[w.heap.size + 2]? = _ := (hb4.block _ zz).trans kR.out;have a0 : w4.cell? ⟨w.heap.size + 2, 0, none⟩ = some (.int .i64 0) := cR 0 h8;have a1 : w4.cell? ⟨w.heap.size + 2, 1, none⟩ = some (.int .i64 0) := cR 1 h8;have a2 : w4.cell? ⟨w.heap.size + 2, 2, none⟩ = some (.slice none 0 0) := cR 2 h8;have a3 : w4.cell? ⟨w.heap.size + 2, 3, none⟩ = some (.slice none 0 0) := cR 3 h8;have y0 : w4.frozen? ⟨w.heap.size + 2, 0, none⟩ = false := frozen_of_row _ _ 0 _ _ h8;have y1 : w4.frozen? ⟨w.heap.size + 2, 1, none⟩ = false := frozen_of_row _ _ 1 _ _ h8;have y2 : w4.frozen? ⟨w.heap.size + 2, 2, none⟩ = false := frozen_of_row _ _ 2 _ _ h8;have y3 : w4.frozen? ⟨w.heap.size + 2, 3, none⟩ = false := frozen_of_row _ _ 3 _ _ h8;have hbF := hide (hbel.out.trans (hb4.mono zz2));replace hb4 := hide hb4;replace h8 := hide h8;replace hO := hide hO;clear qO b0 b1 b2 b3;go_wp2_with fail
 (try simp only [Exit.inBlock, Exit.then])
 refine bodyPost_ret_by (v := .agg #[.int .i64 (N : Int), .int .i64 (ini : Int), .slice A n c, .slice A' m' c']) ?_ rfl ?_
 focus
  rw [results_cell1 rfl];go_simp
 change ∃ A9 m9 c9, _ ∧ SlE (put4 w4 (w.heap.size + 2) _ _ _ _) _ _ _ _ _ ∧ _ ∧ Below _ _ (put4 w4 (w.heap.size + 2) _ _ _ _)
 have hZs := put4_size w4 (w.heap.size + 2) (.int .i64 (N : Int)) (.int .i64 (ini : Int)) (.slice A n c) (.slice A' m' c');have hz4 := hb4.out.size;refine ⟨A', m', c', rfl, ?_, hm', ?_⟩
 ·exact (Sl.keep hO.out (by omega) fun q h1 h2 h3 => put4_other _ _ _ _ _ _ (by have := z3.out; omega)).more (by omega) (Nat.le_of_eq hZs.symm)
 ·exact ⟨hbF.out.os, hbF.out.tape, hbF.out.output, Nat.le_trans hbF.out.size (Nat.le_of_eq hZs.symm), fun q hq => (put4_other _ _ _ _ _ _ (by omega)).trans (hbF.out.block q hq)⟩
def tauE (es : List Ed) (x y : Nat) : Prop := nE es x 0 y
open Classical in
noncomputable def dvgL (es : List Ed) (N : Nat) : List Bool := setOf N fun k => decide (Dvg (tauE es) k)
theorem inS_dvgL {es : List Ed} {N k : Nat} (hk : k < N) : inS (dvgL es N) k = true ↔ Dvg (tauE es) k := by
 unfold dvgL;rw [inS_setOf]
 simp [hk]
def goD (b : List Bool) (e : Ed) : Bool := decide (e.2.1 = 0) && inS b e.2.2.toNat
theorem goD_any {N : Nat} {es : List Ed} (he : EdIn N es) {b : List Bool} {k : Nat} : (outE es (k : Int)).any (goD b) = true ↔ ∃ t, tauE es k t ∧ inS b t = true := by
 rw [List.any_eq_true]
 constructor
 ·rintro ⟨⟨f, l, t⟩, h1, h2⟩
  obtain ⟨h3, h4⟩ := List.mem_filter.1 h1;have h4 := of_decide_eq_true h4;unfold goD at h2;rw [Bool.and_eq_true] at h2;have h5 := of_decide_eq_true h2.1;have h6 := h2.2;have hin := he _ h3;dsimp only at h4 h5 h6 hin;refine ⟨t.toNat, ?_, h6⟩;unfold tauE nE;rw [← h4, ← h5, show ((t.toNat : Nat) : Int) = t by omega];exact h3
 ·rintro ⟨t, h1, h2⟩
  exact ⟨_, List.mem_filter.2 ⟨h1, by simp⟩, by unfold goD; simpa using h2⟩
theorem numBR_off {s : List Bool} {v : Nat} (hv : v < s.length) (hs : inS s v = true) : numBR (s.set v false) + 1 = numBR s := by
 have h1 := numBR_set (s := s.set v false) (v := v) (by rw [List.length_set]; exact hv) (by rw [inS_set hv, if_pos rfl]);rw [List.set_set] at h1;have h2 : s.set v true = s := by
  refine List.ext_getElem (by simp) fun i h3 h4 => ?_
  rw [List.getElem_set]
  split
  ·rename_i e
   subst e;unfold inS at hs;rw [List.getElem?_eq_getElem hv] at hs;exact hs.symm
  ·rfl
 rw [h2] at h1;omega
structure DvO (N : Nat) (es : List Ed) (b : List Bool) (ag : Bool) : Prop where
 len : b.length = N
 sup : ∀ k, k < N → Dvg (tauE es) k → inS b k = true
 cls : ag = false → ∀ k, k < N → inS b k = true → ∃ t, tauE es k t ∧ inS b t = true
structure DvI (N : Nat) (es : List Ed) (b0 b : List Bool) (j : Nat) (ag : Bool) : Prop where
 len : b.length = N
 sup : ∀ k, k < N → Dvg (tauE es) k → inS b k = true
 same : ag = false → b = b0 ∧ ∀ k, k < j → inS b0 k = true → ∃ t, tauE es k t ∧ inS b0 t = true
 drop : ag = true → numBR b < numBR b0
theorem DvO.start (N : Nat) (es : List Ed) : DvO N es (List.replicate N true) true := ⟨by simp, fun k hk _ => by unfold inS; rw [List.getElem?_replicate, if_pos hk]; rfl, fun h => by cases h⟩
theorem DvO.begin {N : Nat} {es : List Ed} {b : List Bool} {ag : Bool} (h : DvO N es b ag) : DvI N es b b 0 false := ⟨h.len, h.sup, fun _ => ⟨rfl, fun k hk => absurd hk (Nat.not_lt_zero k)⟩, fun h => by cases h⟩
theorem DvI.done {N : Nat} {es : List Ed} {b0 b : List Bool} {ag : Bool} (h : DvI N es b0 b N ag) : DvO N es b ag := ⟨h.len, h.sup, fun e k hk hb => by
 obtain ⟨e1, e2⟩ := h.same e;rw [e1] at hb ⊢;exact e2 k hk hb⟩
theorem DvI.keep {N : Nat} {es : List Ed} {b0 b : List Bool} {j : Nat} {ag : Bool} (h : DvI N es b0 b j ag) (hj : inS b j = true → ∃ t, tauE es j t ∧ inS b t = true) : DvI N es b0 b (j + 1) ag := ⟨h.len, h.sup, fun e => by
 obtain ⟨e1, e2⟩ := h.same e;refine ⟨e1, fun k hk hb => ?_⟩
 by_cases c : k < j
 ·exact e2 k c hb
 ·obtain rfl : k = j := by omega
  rw [e1] at hj;exact hj hb, h.drop⟩
theorem DvI.off {N : Nat} {es : List Ed} {b0 b : List Bool} {j : Nat} {ag : Bool} (h : DvI N es b0 b j ag) (he : EdIn N es) (hj : j < N) (hb : inS b j = true) (hn : ¬ ∃ t, tauE es j t ∧ inS b t = true) : DvI N es b0 (b.set j false) (j + 1) true := by
 have hl : j < b.length := by rw [h.len]; exact hj
 refine ⟨by rw [List.length_set]; exact h.len, fun k hk hd => ?_, fun e => (by cases e), fun _ => ?_⟩
 ·rw [inS_set hl]
  split
  ·rename_i e
   subst e;obtain ⟨t, h1, h2⟩ := hd.next;exact absurd ⟨t, h1, h.sup t (nE_in he h1).2 h2⟩ hn
  ·exact h.sup k hk hd
 ·have h1 := numBR_off hl hb
  cases hag : ag with
  | true => have := h.drop hag; omega
  | false => rw [← (h.same hag).1]; omega
theorem DvO.last {N : Nat} {es : List Ed} {b : List Bool} (h : DvO N es b false) (he : EdIn N es) : b = dvgL es N := by
 have hD : ∀ k, k < N → (inS b k = true ↔ Dvg (tauE es) k) := fun k hk => ⟨fun hb => ⟨fun k => k < N ∧ inS b k = true, ⟨hk, hb⟩, fun k hk => by
  obtain ⟨t, h1, h2⟩ := h.cls rfl k hk.1 hk.2;exact ⟨t, h1, (nE_in he h1).2, h2⟩⟩, h.sup k hk⟩
 refine List.ext_getElem (by rw [h.len]; simp [dvgL, setOf]) fun i h1 h2 => ?_
 have hi : i < N := by rw [← h.len]; exact h1
 have e1 : inS b i = b[i] := by unfold inS; rw [List.getElem?_eq_getElem h1]; rfl
 have e2 : inS (dvgL es N) i = (dvgL es N)[i] := by unfold inS; rw [List.getElem?_eq_getElem h2]; rfl
 rw [← e1, ← e2];have := (hD i hi).trans (inS_dvgL hi).symm
 cases h3 : inS b i <;> cases h4 : inS (dvgL es N) i <;> simp [h3, h4] at this ⊢
theorem dvgL_inert {N : Nat} {es : List Ed} {p : List Int} (he : EdIn N es) {k : Nat} : Dvg (tauE (es.filter (inG p))) k ↔ Dvg (inrE es p) k := by
 have key : ∀ x y, tauE (es.filter (inG p)) x y ↔ inrE es p x y := fun x y => by
  unfold tauE nE inrE inrt pq nE;rw [List.mem_filter, inG_true]
  simp
 exact ⟨Dvg.mono fun x y => (key x y).1, Dvg.mono fun x y => (key x y).2⟩
theorem div1_calls (N : Nat) (A : Option Addr) (cA : Nat) (b : List Bool) (bO : Nat) (f l t : Int) (w : World) (lo hi : Nat) (hP : SlB w lo hi A N b) (hbl : bO < w.heap.size) (hb : w.cell? ⟨bO, 0, none⟩ = some (.slice A N cA)) (ht : 0 ≤ t ∧ t < (N : Int)) :
  Calls Tryz.prog 208 #[.agg #[.int .i64 f, .int .i64 l, .int .i64 t], .pointer (some ⟨bO, 0, none⟩)] w (Says (goD b (f, l, t)) w) := by
 obtain ⟨t, rfl⟩ : ∃ k : Nat, t = (k : Int) := ⟨t.toNat, by omega⟩;obtain ⟨gP, oP, rfl, -, -, hgP, -, ct, -⟩ := SlB.get hP (show t < N by omega);obtain ⟨x, hx⟩ : ∃ x, x = inS b t := ⟨_, rfl⟩;rw [← hx] at ct;have hval : Hid (goD b (f, l, (t : Int)) = ((l == 0) && x)) := by
  show _ = _
  unfold goD;simp only [Int.toNat_natCast, hx]
  by_cases h1 : l = 0 <;> simp [h1]
 have hb1 : Below w.heap.size w (w.alloc (.cells #[.int .i64 f, .int .i64 l, .int .i64 (t : Int)] 84)) := bR.alloc zR _;have k8 := heap_alloc_new w (.cells #[.int .i64 f, .int .i64 l, .int .i64 (t : Int)] 84);obtain ⟨w1, hw1⟩ : ∃ w1, w1 = w.alloc (.cells #[.int .i64 f, .int .i64 l, .int .i64 (t : Int)] 84) := ⟨_, rfl⟩;rw [← hw1] at hb1 k8;have c0 := (hb1.cell (p := ⟨bO, 0, none⟩) hbl).trans hb;replace ct := (hb1.cell (p := ⟨gP, oP + t, none⟩) hgP).trans ct;have e1 : w1.cell? ⟨w.heap.size, 1, none⟩ = some (.int .i64 l) := cR 1 k8;have e2 : w1.cell? ⟨w.heap.size, 2, none⟩ = some (.int .i64 (t : Int)) := cR 2 k8;have t0 : (0 : Int) ≤ (t : Int) := by omega
 have t1 : (t : Int) < (N : Int) := by omega
 replace hb1 := hide hb1;replace hx := hide hx;clear hP hb k8 ht
 by_cases hl : l = 0
 ·subst hl
  have g1 : ((0 : Int) == 0) = true := rfl;go_enter Tryz.func208, Tryz.ntmps208;go_upto_region 1 with fail;rw [← hw1];replace hw1 := hide hw1;go_wp2_with fail;go_ret;exact ⟨by rw [hval.out]; rfl, hb1.out⟩
 ·have g1 : (l == 0) = false := beq_eq_false_iff_ne.2 hl
  go_enter Tryz.func208, Tryz.ntmps208;go_upto_region 1 with fail;rw [← hw1];replace hw1 := hide hw1;go_wp2_with fail;go_ret;exact ⟨by rw [hval.out, g1]; rfl, hb1.out⟩
structure DvW (w1 wr : World) (bO gA oA N cA : Nat) (b : List Bool) : Prop where
 row : SlB wr w1.heap.size wr.heap.size (some ⟨gA, oA, none⟩) N b
 box : wr.heap[bO]? = some (.cells #[.slice (some ⟨gA, oA, none⟩) N cA] 135 (0, 0))
 bel : Below w1.heap.size w1 wr
 ge : w1.heap.size ≤ bO
theorem DvW.below {w1 wr wx : World} {bO gA oA N cA : Nat} {b : List Bool} (h : DvW w1 wr bO gA oA N cA b) (hb : Below wr.heap.size wr wx) : DvW w1 wx bO gA oA N cA b :=
 ⟨(h.row.below hb (.inr zR)).more zR hb.size, (hb.block _ (Array.getElem?_eq_some_iff.1 h.box).1).trans h.box, h.bel.trans (hb.mono h.bel.size), h.ge⟩
theorem DvW.put {w1 wr : World} {bO gA oA N cA : Nat} {b : List Bool} (h : DvW w1 wr bO gA oA N cA b) {k : Nat} (hk : k < N) (hne : gA ≠ bO) (x : Bool) : DvW w1 (wr.setCell ⟨gA, oA + k, none⟩ (.bool x)) bO gA oA N cA (b.set k x) := by
 obtain ⟨-, -, g1, -, -⟩ := h.row.cell' hk;have hz : (wr.setCell ⟨gA, oA + k, none⟩ (.bool x)).heap.size = wr.heap.size := World.size_setCell _ _ _;exact ⟨by rw [hz]; exact h.row.put hk x, (Below.heap_setCell _ _ _ _ (by show bO ≠ gA; omega)).trans h.box, h.bel.setCell g1 _, h.ge⟩
theorem divergent_calls (N ini : Nat) (A : Option Addr) (n c : Nat) (B : Option Addr) (m d : Nat) (es : List Ed) (w : World) (hes : SlE w 0 w.heap.size B m es) (hm : m ≤ 1000) (hN1 : 1 ≤ N) (hN2 : N ≤ 40) (he : EdIn N es) :
  Calls Tryz.prog 112 #[.agg #[.int .i64 (N : Int), .int .i64 (ini : Int), .slice A n c, .slice B m d]] w fun e w' => ∃ A' c', e = .returned (.slice A' N c') ∧ SlB w' w.heap.size w'.heap.size A' N (dvgL es N) ∧ Below w.heap.size w w' := by
 obtain ⟨w1, hw1⟩ : ∃ w1, w1 = w.alloc (ltsC N ini A n c B m d) := ⟨_, rfl⟩;have hb1 : Below w.heap.size w w1 := by rw [hw1]; exact bR.alloc zR _
 have kT : LtsBox w1 w.heap.size (N : Int) (ini : Int) A n c B m d := by rw [hw1]; exact heap_alloc_new w _
 obtain ⟨wL, hwL⟩ : ∃ wL, wL = w1.alloc (.cells #[.bool true] 4) := ⟨_, rfl⟩;have hbL : Below w1.heap.size w1 wL := by rw [hwL]; exact bR.alloc zR _
 have hlit : SlB wL w1.heap.size (w1.heap.size + 1) (some ⟨w1.heap.size, 0, none⟩) 1 [true] := by rw [hwL]; exact Sl.lit1 (f := fun b => [.bool b]) w1 4 true #[.bool true] rfl 1 _ zR
 have qR := hide (repeatB_calls (some ⟨w1.heap.size, 0, none⟩) 1 true N wL _ _ hlit (by omega) (by omega));have b0 := kT.c0;have hAll := hide (fun (wx : World) (hx : Below w1.heap.size w1 wx) => And.intro (kT.below hx kT.lt) ((hes.below (hb1.trans (hx.mono hb1.size)) (.inr zR))));have he' := hide he;have hzT := kT.lt;replace hb1 := hide hb1;replace hbL := hide hbL;clear hes hlit he kT;go_enter Tryz.func112, Tryz.ntmps112;go_upto_region 1 with fail;rw [← show w1 = w.alloc (.cells #[.int .i64 (N : Int), .int .i64 (ini : Int), .slice A n c, .slice B m d] 27) from hw1];have hwL' := hide hwL;replace hw1 := hide hw1;go_wp2_with (first | (rw [← hwL]; go_at_call 207; (with_reducible refine qR.out.mono ?_); rintro e w3 ⟨AR, rfl, hR, hbR⟩));obtain ⟨gA, oA, rfl, gA1, -, gA2, -⟩ := hR.at_ hN1;have hzL := hbL.out.size;have hz3 := hbR.size;have hD0 : Hid (DvW w1 (w3.alloc (.cells #[.slice (some ⟨gA, oA, none⟩) N N] 135)) w3.heap.size gA oA N N (List.replicate N true)) := by
  have hba : Below w3.heap.size w3 (w3.alloc (.cells #[.slice (some ⟨gA, oA, none⟩) N N] 135)) := bR.alloc zR _;exact ⟨(hR.below hba (.inr zR)).more hzL hba.size, heap_alloc_new w3 _, (hbL.out.trans (hbR.mono hzL)).trans (hba.mono (by omega)), by omega⟩
 obtain ⟨bO, hbO⟩ : ∃ bO, bO = w3.heap.size := ⟨_, rfl⟩;rw [← hbO] at hD0 ⊢;have hne : gA ≠ bO := by omega
 have hge : w1.heap.size ≤ bO := by omega
 replace hbO := hide hbO;replace hR := hide hR;replace hbR := hide hbR;clear b0 qR hwL hwL'
 go_loopg [4] (N + 1) (fun G v4 wr => ∃ (b : List Bool) (ag : Bool), v4 = .bool ag ∧ Hid (DvW w1 wr bO gA oA N N b) ∧ Hid (DvO N es b ag) ∧ Hid (numBR b + (if ag = true then 1 else 0) ≤ G))
 case atStart => exact ⟨_, true, rfl, hD0.out, DvO.start N es, by show _ ≤ _; rw [if_pos rfl]; have := numBR_le (List.replicate N true); simp only [List.length_replicate] at this; omega⟩
 case round =>
  clear hD0;obtain ⟨b, ag, rfl, hW, hO, hG⟩ := hrel;have c0 := (cell_of_row _ _ 0 _ _ (0, 0) hW.out.box).trans (show _ = some (Value.slice (some ⟨gA, oA, none⟩) N N) from rfl)
  cases ag with
  | false =>
   have hlast := hO.out.last he'.out;have hrow := hW.out.row;rw [hlast] at hrow;have hz1 := hb1.out.size;have hF := hide (hrow.more hz1 zR);have hbF := hide (hb1.out.trans (hW.out.bel.mono hz1));clear hlast hrow;go_wp2_with fail;go_ret;exact ⟨_, N, rfl, hF.out, hbF.out⟩
  | true =>
   have hg1 := hG.out;rw [if_pos rfl] at hg1;obtain ⟨G2, rfl⟩ : ∃ G2, gk = G2 + 1 := ⟨gk - 1, by omega⟩;have hbeg := hide hO.out.begin;have hW0 := hW;obtain ⟨wo, rfl⟩ : ∃ wo : World, wo = wr := ⟨_, rfl⟩;clear hO hG hW;go_wp2_with fail
   go_loopw [4, 14] (fun v4 v14 wr => ∃ (j : Nat) (ag : Bool) (b2 : List Bool), j ≤ N ∧ v14 = .int .i64 (j : Nat) ∧ v4 = .bool ag ∧ Hid (DvW w1 wr bO gA oA N N b2) ∧ Hid (DvI N es b b2 j ag)) (fun _ v _ => N - (intOf v).toNat)
   case atStart => exact ⟨0, false, b, Nat.zero_le _, rfl, rfl, hW0.out, hbeg.out⟩
   case round =>
    clear hW0 hbeg c0;obtain ⟨j, ag, b2, hj, rfl, rfl, hW, hI⟩ := hrel
    by_cases hlt : j < N
    ·have j0 : (0 : Int) ≤ (j : Int) := by omega
     have j1 : (j : Int) < (N : Int) := by omega
     obtain ⟨kT, hse⟩ := hAll.out wr hW.out.bel;have b0 := kT.c0;have b1 := kT.c1;have b2' := kT.c2;have b3 := kT.c3;have qO := hide (out_calls (N : Int) (ini : Int) (.slice A n c) B m d (j : Int) es wr _ _ hse (by omega) ⟨_, _, _, rfl⟩);clear kT hse;go_upto_region 8 with fail;go_wp2_with fail;refine qO.out.mono ?_;rintro e w5 ⟨Ao, no, co, rfl, hOe, hno, hb5⟩;have hW5 := hide (hW.out.below hb5);have qC := hide (containsFuncEd_calls 208 #[.pointer (some ⟨bO, 0, none⟩)] (goD b2) Ao no co (outE es (j : Int)) w5 _ _ hOe hno (fun v W => by kernel_rfl) fun x y z W hx hWb => by
      have hW6 := hW5.out.below hWb;have hin := he'.out _ (List.mem_filter.1 hx).1;exact div1_calls N (some ⟨gA, oA, none⟩) N b2 bO x y z W _ _ hW6.row (Array.getElem?_eq_some_iff.1 hW6.box).1 (cR 0 hW6.box) ⟨hin.2.2.1, hin.2.2.2⟩)
     have hgo := goD_any (b := b2) (k := j) he'.out;generalize (outE es (j : Int)).any (goD b2) = go at qC hgo;replace hgo := hide hgo;clear qO b0 b1 b2' b3 hOe hb5 hW;go_wp2_with fail;refine qC.out.mono ?_;rintro e w6 ⟨rfl, hb6⟩;have hW6 := hide (hW5.out.below hb6);have c1 := (cell_of_row _ _ 0 _ _ (0, 0) hW6.out.box).trans (show _ = some (Value.slice (some ⟨gA, oA, none⟩) N N) from rfl);obtain ⟨d0, f0, -, -, dlt⟩ := hW6.out.row.cell' hlt;clear qC hb6 hW5
     by_cases hbj : inS b2 j = true
     ·rw [hbj] at d0
      cases go with
      | true =>
       have hI2 := hide (hI.out.keep fun _ => hgo.out.1 rfl);replace hbj := hide hbj;go_wp2_with fail;go_roundw
       case rel => exact ⟨j + 1, ag, b2, by omega, by go_num, rfl, hW6.out, hI2.out⟩
       case measure => simp [intOf]; omega
      | false =>
       have hI2 := hide (hI.out.off he'.out hlt hbj fun hx => by have := hgo.out.2 hx; cases this);have hW7 := hide (hW6.out.put hlt hne false);replace hbj := hide hbj;go_wp2_with fail;go_roundw
       case rel => exact ⟨j + 1, true, b2.set j false, by omega, by go_num, rfl, hW7.out, hI2.out⟩
       case measure => simp [intOf]; omega
     ·have hbf : inS b2 j = false := Bool.eq_false_iff.2 hbj
      rw [hbf] at d0;have hI2 := hide (hI.out.keep fun hx => absurd hx hbj);replace hbj := hide hbj;replace hbf := hide hbf;go_wp2_with fail;go_roundw
      case rel => exact ⟨j + 1, ag, b2, by omega, by go_num, rfl, hW6.out, hI2.out⟩
      case measure => simp [intOf]; omega
    ·obtain rfl : j = N := by omega
     have hDo := hide hI.out.done;have hG3 : Hid (numBR b2 + (if ag = true then 1 else 0) ≤ G2) := by
      show _ ≤ _
      cases hag : ag with
      | true => rw [if_pos rfl]; have := hI.out.drop hag; omega
      | false => rw [if_neg (by decide), (hI.out.same hag).1]; omega
     have j1 : ¬ (j : Int) < (j : Int) := by omega
     go_wp2_with fail
     go_roundg G2
     case rel => exact ⟨b2, ag, rfl, hW.out, hDo.out, hG3.out⟩
     case measure => exact Nat.lt_succ_self _
theorem labs_nodup {ls : List ByteArray} (h : namesB ls = true) : ls.Nodup := by
 refine List.pairwise_iff_getElem.2 fun i j hi hj hij e => ?_
 have := labs_rise h (List.getElem?_eq_getElem hi) (List.getElem?_eq_getElem hj) hij;rw [e, ltL_irr] at this
 cases this
theorem labs_zero {ls : List ByteArray} (h : namesB ls = true) : ls[0]? = some tauB := by
 unfold namesB at h;rw [Bool.and_eq_true] at h;have h1 := inB_true.1 h.1;have hx : ls[0]? = some (ls[0]'(by omega)) := List.getElem?_eq_getElem _;have h0 := allK_get h.2 (show 0 < ls.length by omega);rw [okL_zero hx] at h0;rw [hx, of_decide_eq_true h0]
theorem filter_valid {N ini : Nat} {ls : List ByteArray} {es : List Ed} (h : ltsV ((N : Int), (ini : Int), ls, es) = true) (G : Ed → Bool) : ltsV ((N : Int), (ini : Int), ls, es.filter G) = true := by
 have hb := (ltsV_edge h).2;have hl := ltsV_names h;have he := (ltsV_edge h).1;exact ltsV_of (by omega) (by omega) hl.1 (Nat.le_trans (List.length_filter_le _ _) hl.2) ((ltsV_rise h).filter _) fun e hx => he e (List.mem_filter.1 hx).1
theorem inert_star {N : Nat} {ls : List ByteArray} {es : List Ed} {p : List Int} (he : EdIn N es) (hn : namesB ls = true) (hl : ∀ e, e ∈ es → 0 ≤ e.2.1 ∧ e.2.1 < (ls.length : Int)) {k : Nat} {v : Int} : TauC (es.filter (inG p)) ls (· = (k : Int)) v ↔ 0 ≤ v ∧ StarR (inrE es p) k v.toNat := by
 rw [tau_star (N := N) (fun e hx => he e (List.mem_filter.1 hx).1) (labs_nodup hn) (labs_zero hn) fun e hx => hl e (List.mem_filter.1 hx).1];have key : ∀ x y, nE (es.filter (inG p)) x 0 y ↔ inrE es p x y := fun x y => by
  unfold nE inrE inrt pq nE;rw [List.mem_filter, inG_true]
  simp
 exact and_congr_right fun _ => ⟨StarR.mono fun x y => (key x y).1, StarR.mono fun x y => (key x y).2⟩
def ofG (p sk : List Int) (e : Ed) : Bool := decide (e.1 ∈ sk) && !(inG p e)
open Classical in
theorem offL_eq {N : Nat} {ls : List ByteArray} {es : List Ed} {p sk : List Int} (he : EdIn N es) {k : Nat} (hs : ∀ v, v ∈ sk ↔ 0 ≤ v ∧ StarR (inrE es p) k v.toNat) : (es.filter (ofG p sk)).map (cdE N p) = offL es N p k := by
 unfold offL
 congr 1
 refine List.filter_congr fun e hx => ?_
 have h1 := he e hx;rw [Bool.eq_iff_iff];unfold ofG;rw [Bool.and_eq_true, decide_eq_true_eq, hs, Bool.not_eq_true', Bool.eq_false_iff];have h2 : ¬ inG p e = true ↔ ¬ (e.2.1 = 0 ∧ pq p e.1.toNat = pq p e.2.2.toNat) := not_congr inG_true
 constructor
 ·rintro ⟨⟨_, a⟩, b⟩
  exact decide_eq_true ⟨a, h2.1 b⟩
 ·intro h
  have := of_decide_eq_true h;exact ⟨⟨h1.1.1, this.1⟩, h2.2 this.2⟩
theorem dvgI_eq {N : Nat} {es : List Ed} {p : List Int} {dv : Bool} (he : EdIn N es) {k : Nat} (hk : k < N) : dvgI es dv p k = if (dv && inS (dvgL (es.filter (inG p)) N) k) = true then 1 else 0 := by
 have h1 := (inS_dvgL (es := es.filter (inG p)) hk).trans (dvgL_inert he);unfold dvgI
 by_cases h2 : Dvg (inrE es p) k
 ·rw [h1.2 h2]
  cases dv <;> simp [h2]
 ·have h3 : inS (dvgL (es.filter (inG p)) N) k = false := Bool.eq_false_iff.2 fun h => h2 (h1.1 h)
  rw [h3]
  cases dv <;> simp [h2]
open Go.Lib
def sE (es : List Ed) (S : List Int) : List Ed := S.filterMap fun i => es[i.toNat]?
section
variable {es : List Ed} {S : List Int} {N ini : Nat} {ls : List ByteArray}
theorem sE_mem (h : ConfL es S) {e : Ed} : e ∈ sE es S ↔ ∃ k : Nat, (k : Int) ∈ S ∧ es[k]? = some e := by
 unfold sE;rw [List.mem_filterMap]
 constructor
 ·rintro ⟨i, hi, he⟩
  obtain ⟨k, f, t, rfl, -⟩ := h.tau i hi;exact ⟨k, hi, by rwa [Int.toNat_natCast] at he⟩
 ·rintro ⟨k, hk, he⟩
  exact ⟨(k : Int), hk, by rw [Int.toNat_natCast]; exact he⟩
theorem sE_step (h : ConfL es S) {x y : Nat} : nE (sE es S) x 0 y ↔ cS es S x y := sE_mem h
theorem sE_sub (h : ConfL es S) {e : Ed} (he : e ∈ sE es S) : e ∈ es := by
 obtain ⟨k, -, hk⟩ := (sE_mem h).1 he;exact List.mem_of_getElem? hk
theorem sE_rise (h : ConfL es S) (hS : S.Pairwise (· < ·)) (hr : RisE es) : RisE (sE es S) := by
 unfold sE RisE;refine List.Pairwise.filterMap (R := fun a b : Int => a < b ∧ 0 ≤ a) _ (fun a b hab x hx y hy => ?_) (List.Pairwise.imp_of_mem (fun {a b} ha hb hab => ⟨hab, ?_⟩) hS)
 ·have h1 := List.getElem?_eq_some_iff.1 hx
  have h2 := List.getElem?_eq_some_iff.1 hy;have := List.pairwise_iff_getElem.1 hr a.toNat b.toNat h1.1 h2.1 (by omega);rw [h1.2, h2.2] at this;exact this
 ·obtain ⟨k, -, -, rfl, -⟩ := h.tau a ha
  omega
theorem set_len (h : ConfL es S) (hS : S.Pairwise (· < ·)) : S.length ≤ es.length := by
 have h1 : S.length ≤ ((List.range es.length).map Int.ofNat).length := sub_len (hS.imp fun h => by omega) fun x hx => by
  obtain ⟨k, f, t, rfl, hk⟩ := h.tau x hx;exact List.mem_map.2 ⟨k, List.mem_range.2 (List.getElem?_eq_some_iff.1 hk).1, rfl⟩
 simpa using h1
theorem sE_len (h : ConfL es S) (hS : S.Pairwise (· < ·)) : (sE es S).length ≤ es.length := Nat.le_trans (List.length_filterMap_le _ _) (set_len h hS)
theorem sE_valid (h : ConfL es S) (hS : S.Pairwise (· < ·)) (hv : ltsV ((N : Int), (ini : Int), ls, es) = true) (hl : es.length ≤ 300) : ltsV ((N : Int), (ini : Int), ls, sE es S) = true := by
 obtain ⟨h1, h2, h3⟩ := ltsV_edge hv;have := sE_len h hS;exact ltsV_of h2 h3 (ltsV_names hv).1 (by omega) (sE_rise h hS (ltsV_rise hv)) fun e he => h1 e (sE_sub h he)
theorem RowL.of (h : ConfL es S) (hS : S.Pairwise (· < ·)) (hv : ltsV ((N : Int), (ini : Int), ls, es) = true) (he : EdIn N es) {R : List (Hd × List Int)} (hR : SetsTo (sE es S) ls N R) (ha : ∀ r, r ∈ R → r.2.Pairwise (· ≤ ·)) : RowL es S N (R.map Prod.snd) := by
 have heS : EdIn N (sE es S) := fun e hx => he e (sE_sub h hx)
 have hnm := ltsV_names hv;have hrow : ∀ {x : Nat} {row : List Int}, (R.map Prod.snd)[x]? = some row → ∃ r, R[x]? = some r ∧ r.2 = row := fun {x row} hx => by
  rw [List.getElem?_map] at hx
  cases hr : R[x]? with
  | none => rw [hr] at hx; cases hx
  | some r => rw [hr] at hx; cases hx; exact ⟨r, rfl, rfl⟩
 refine ⟨by rw [List.length_map]; exact hR.1, fun x row hx v => ?_, fun x row hx => ?_⟩
 ·obtain ⟨r, hr, rfl⟩ := hrow hx
  have h1 := (hR.2 x r hr).1 v;rw [h1, tau_star heS (labs_nodup hnm.1) (labs_zero hnm.1) (fun e hx => ((ltsV_edge hv).1 e (sE_sub h hx)).2.1)];rw [show (fun x y => nE (sE es S) x 0 y) = cS es S from funext fun x => funext fun y => propext (sE_step h)]
 ·obtain ⟨r, hr, rfl⟩ := hrow hx
  exact ha r (List.mem_of_getElem? hr)
theorem RepL.of {R : List (Hd × List Int)} {rp : List Int} (h : RowL es S N (R.map Prod.snd)) (hl : rp.length = N) (hh : ∀ (x : Nat) (r : Hd × List Int), R[x]? = some r → rp[x]? = (comL (R.map Prod.snd) r.2).head?) : RepL es S N (R.map Prod.snd) rp := by
 refine ⟨h, hl, fun x row hx => ?_⟩;rw [List.getElem?_map] at hx
 cases hr : R[x]? with
 | none => rw [hr] at hx; cases hx
 | some r => rw [hr] at hx; cases hx; exact hh x r hr
end
def tauI (es : List Ed) (k : Nat) : List Int := ((List.range k).filter fun i => decide ((edA es i).2.1 = 0)).map Int.ofNat
theorem tauI_succ (es : List Ed) (k : Nat) : tauI es (k + 1) = if (edA es k).2.1 = 0 then tauI es k ++ [(k : Int)] else tauI es k := by
 unfold tauI;rw [List.range_succ, List.filter_append, List.map_append]
 by_cases h : (edA es k).2.1 = 0
 ·rw [if_pos h]; simp [h]
 ·rw [if_neg h]; simp [h]
structure TauS (es : List Ed) (S : List Int) : Prop where
 up : S.Pairwise (· < ·)
 tau : ∀ i, i ∈ S → ∃ (k : Nat) (f t : Int), i = (k : Int) ∧ es[k]? = some (f, 0, t)
theorem tauI_set (es : List Ed) : TauS es (tauI es es.length) := by
 refine ⟨?_, fun i hi => ?_⟩
 ·unfold tauI
  exact List.Pairwise.map Int.ofNat (fun a b h => Int.ofNat_lt.2 h) (List.Pairwise.filter _ List.pairwise_lt_range)
 ·unfold tauI at hi
  obtain ⟨k, hk, rfl⟩ := List.mem_map.1 hi;obtain ⟨h1, h2⟩ := List.mem_filter.1 hk;obtain ⟨⟨f, l, t⟩, he⟩ : ∃ e, es[k]? = some e := ⟨_, List.getElem?_eq_getElem (List.mem_range.1 h1)⟩;rw [edA_at he, decide_eq_true_eq] at h2;have h2 : l = 0 := h2;subst h2;exact ⟨k, f, t, rfl, he⟩
theorem TauS.filter {es : List Ed} {S : List Int} (h : TauS es S) (G : Int → Bool) : TauS es (S.filter G) :=
 ⟨h.up.filter _, fun i hi => h.tau i (List.mem_filter.1 hi).1⟩
theorem TauS.conf {es : List Ed} {S : List Int} (h : TauS es S) (hl : (S.filter fun e => !disB es S e.toNat).length = S.length) : ConfL es S := by
 rw [List.length_filter_eq_length_iff] at hl;refine ⟨h.tau, fun k hk => ?_⟩;have := hl _ hk;rw [Int.toNat_natCast] at this
 rwa [Bool.not_eq_true'] at this
end Go.Proofs.YtnhomkmfbngmgaaGreatDoor
namespace Go.Proofs.YtnhomkmfbngmgaaGreatDoor
open Go.ChangeShapes Go.WideShapes Go.ChangeAt Go.RowKit
structure VarS (w w0 wr : World) (g : Nat) (A : Option Addr) (k c : Nat) (S : List Int) : Prop where
 box : wr.heap[g]? = some (.cells #[.slice A k c] 32 (0, 0))
 own : Own 1 iv wr w0.heap.size 2 A k c S
 lt : g < w0.heap.size
 hg : w.heap.size ≤ g
 bel : Below w.heap.size w wr
 oth : ∀ b, b < w0.heap.size → b ≠ g → wr.heap[b]? = w0.heap[b]?
 size : w0.heap.size ≤ wr.heap.size
section
variable {w w0 wr wx : World} {g : Nat} {A : Option Addr} {k c : Nat} {S : List Int}
theorem VarS.begin (hb : Below w.heap.size w w0) (hg : w.heap.size ≤ g) (h : w0.heap[g]? = some (.cells #[.slice none 0 0] 32 (0, 0))) : VarS w w0 w0 g none 0 0 [] :=
 ⟨h, Own.nil_ _ _ _, (Array.getElem?_eq_some_iff.1 h).1, hg, hb, fun _ _ _ => rfl, zR⟩
theorem VarS.below (h : VarS w w0 wr g A k c S) (hb : Below wr.heap.size wr wx) : VarS w w0 wx g A k c S :=
 ⟨(hb.block _ (Array.getElem?_eq_some_iff.1 h.box).1).trans h.box, h.own.below hb zR, h.lt, h.hg, h.bel.trans (hb.mono h.bel.size), fun b h1 h2 => (hb.block b (Nat.lt_of_lt_of_le h1 h.size)).trans (h.oth b h1 h2), Nat.le_trans h.size hb.size⟩
theorem VarS.cell (h : VarS w w0 wr g A k c S) : wr.cell? ⟨g, 0, none⟩ = some (.slice A k c) := cR 0 h.box
theorem VarS.froz (h : VarS w w0 wr g A k c S) : wr.frozen? ⟨g, 0, none⟩ = false := frozen_of_row _ _ 0 _ _ h.box
theorem VarS.mid (h : VarS w w0 wr g A k c S) (hb : Below w0.heap.size wr wx) : wx.heap[g]? = some (.cells #[.slice A k c] 32 (0, 0)) := (hb.block _ h.lt).trans h.box
theorem VarS.store (h : VarS w w0 wr g A k c S) (hb : Below w0.heap.size wr wx) {A' : Option Addr} {k' c' : Nat} {S' : List Int} (ho : Own 1 iv wx w0.heap.size 2 A' k' c' S') : VarS w w0 (wx.setCell ⟨g, 0, none⟩ (.slice A' k' c')) g A' k' c' S' := by
 have k1 := h.mid hb;refine ⟨heap_setCell_same _ _ 0 _ _ _ k1, ho.keep fun b hb' => Below.heap_setCell _ _ _ _ fun e => ?_, h.lt, h.hg, (h.bel.trans (hb.mono (Nat.le_trans h.hg (Nat.le_of_lt h.lt)))).setCell (by show w.heap.size ≤ g; exact h.hg) _, fun b h1 h2 => ?_, ?_⟩
 ·have := (ho.lt b hb').1
  have := h.lt;have e : b = g := e;omega
 ·exact (Below.heap_setCell _ _ _ _ h2).trans ((hb.block b h1).trans (h.oth b h1 h2))
 ·rw [World.size_setCell]
  exact Nat.le_trans h.size hb.size
end
structure VarR (w w0 wr : World) (g : Nat) (A : Option Addr) (k c : Nat) (S : List Int) : Prop where
 box : wr.heap[g]? = some (.cells #[.slice A k c] 32 (0, 0))
 sl : SlI wr w0.heap.size wr.heap.size A k S
 lt : g < w0.heap.size
 hg : w.heap.size ≤ g
 bel : Below w.heap.size w wr
 oth : ∀ b, b < w0.heap.size → b ≠ g → wr.heap[b]? = w0.heap[b]?
 size : w0.heap.size ≤ wr.heap.size
section
variable {w w0 wr wx : World} {g : Nat} {A : Option Addr} {k c : Nat} {S : List Int}
theorem VarS.toR (h : VarS w w0 wr g A k c S) : VarR w w0 wr g A k c S := ⟨h.box, h.own.sl flat_iv, h.lt, h.hg, h.bel, h.oth, h.size⟩
theorem VarR.below (h : VarR w w0 wr g A k c S) (hb : Below wr.heap.size wr wx) : VarR w w0 wx g A k c S :=
 ⟨(hb.block _ (Array.getElem?_eq_some_iff.1 h.box).1).trans h.box, (h.sl.below hb (.inr zR)).more zR hb.size, h.lt, h.hg, h.bel.trans (hb.mono h.bel.size), fun b h1 h2 => (hb.block b (Nat.lt_of_lt_of_le h1 h.size)).trans (h.oth b h1 h2), Nat.le_trans h.size hb.size⟩
theorem VarR.cell (h : VarR w w0 wr g A k c S) : wr.cell? ⟨g, 0, none⟩ = some (.slice A k c) := cR 0 h.box
theorem VarR.froz (h : VarR w w0 wr g A k c S) : wr.frozen? ⟨g, 0, none⟩ = false := frozen_of_row _ _ 0 _ _ h.box
theorem VarR.store (h : VarR w w0 wr g A k c S) {A' : Option Addr} {k' c' : Nat} {S' : List Int} (ho : SlI wr w0.heap.size wr.heap.size A' k' S') : VarR w w0 (wr.setCell ⟨g, 0, none⟩ (.slice A' k' c')) g A' k' c' S' := by
 refine ⟨heap_setCell_same _ _ 0 _ _ _ h.box, ?_, h.lt, h.hg, h.bel.setCell (by show w.heap.size ≤ g; exact h.hg) _, fun b h1 h2 => (Below.heap_setCell _ _ _ _ h2).trans (h.oth b h1 h2), by rw [World.size_setCell]; exact h.size⟩;have h1 := ho.only ((Only.refl g (g + 1) wr).setCell (p := ⟨g, 0, none⟩) zR (Nat.lt_succ_self _) (.slice A' k' c')) (.inr h.lt);rw [World.size_setCell];exact h1
def lenC (w : World) (g : Nat) : Nat := match w.cell? ⟨g, 0, none⟩ with
 | some (.slice _ n _) => n
 | _ => 0
theorem VarR.lenC (h : VarR w w0 wr g A k c S) : lenC wr g = k := by unfold Go.Proofs.YtnhomkmfbngmgaaGreatDoor.lenC; rw [h.cell]
end
structure LtsVar (w w0 wr : World) (g : Nat) (s i : Int) (A1 : Option Addr) (n1 c1 : Nat) (A : Option Addr) (k c : Nat) (E : List Ed) : Prop where
 box : LtsBox wr g s i A1 n1 c1 A k c
 own : Own 3 ev wr w0.heap.size 84 A k c E
 lt : g < w0.heap.size
 hg : w.heap.size ≤ g
 bel : Below w.heap.size w wr
 oth : ∀ b, b < w0.heap.size → b ≠ g → wr.heap[b]? = w0.heap[b]?
 size : w0.heap.size ≤ wr.heap.size
section
variable {w w0 wr wx : World} {g : Nat} {s i : Int} {A1 : Option Addr} {n1 c1 : Nat} {A : Option Addr} {k c : Nat} {E : List Ed}
theorem LtsVar.begin (hb : Below w.heap.size w w0) (hg : w.heap.size ≤ g) (h : LtsBox w0 g s i A1 n1 c1 none 0 0) : LtsVar w w0 w0 g s i A1 n1 c1 none 0 0 [] :=
 ⟨h, Own.nil_ _ _ _, h.lt, hg, hb, fun _ _ _ => rfl, zR⟩
theorem LtsVar.below (h : LtsVar w w0 wr g s i A1 n1 c1 A k c E) (hb : Below wr.heap.size wr wx) : LtsVar w w0 wx g s i A1 n1 c1 A k c E :=
 ⟨h.box.below hb h.box.lt, h.own.below hb zR, h.lt, h.hg, h.bel.trans (hb.mono h.bel.size), fun b h1 h2 => (hb.block b (Nat.lt_of_lt_of_le h1 h.size)).trans (h.oth b h1 h2), Nat.le_trans h.size hb.size⟩
theorem LtsVar.mid (h : LtsVar w w0 wr g s i A1 n1 c1 A k c E) (hb : Below w0.heap.size wr wx) : LtsBox wx g s i A1 n1 c1 A k c := h.box.below hb h.lt
theorem LtsVar.store (h : LtsVar w w0 wr g s i A1 n1 c1 A k c E) (hb : Below w0.heap.size wr wx) {A' : Option Addr} {k' c' : Nat} {E' : List Ed} (ho : Own 3 ev wx w0.heap.size 84 A' k' c' E') : LtsVar w w0 (wx.setCell ⟨g, 3, none⟩ (.slice A' k' c')) g s i A1 n1 c1 A' k' c' E' := by
 have k1 := h.mid hb;refine ⟨heap_setCell_same _ _ 3 _ _ _ k1, ho.keep fun b hb' => Below.heap_setCell _ _ _ _ fun e => ?_, h.lt, h.hg, (h.bel.trans (hb.mono (Nat.le_trans h.hg (Nat.le_of_lt h.lt)))).setCell (by show w.heap.size ≤ g; exact h.hg) _, fun b h1 h2 => ?_, ?_⟩
 ·have := (ho.lt b hb').1
  have := h.lt;have e : b = g := e;omega
 ·exact (Below.heap_setCell _ _ _ _ h2).trans ((hb.block b h1).trans (h.oth b h1 h2))
 ·rw [World.size_setCell]
  exact Nat.le_trans h.size hb.size
theorem LtsVar.done (h : LtsVar w w0 wr g s i A1 n1 c1 A k c E) {gR : Nat} (hR : w.heap.size ≤ gR) (hlt : gR < w0.heap.size) (v0 v1 v2 v3 : Value) :
  SlE (put4 wr gR v0 v1 v2 v3) w0.heap.size (put4 wr gR v0 v1 v2 v3).heap.size A k E ∧ Below w.heap.size w (put4 wr gR v0 v1 v2 v3) := by
 constructor
 ·exact (h.own.keep fun b hb' => put4_other _ _ _ _ _ _ (by have := (h.own.lt b hb').1; omega)).sl flat_ev
 ·unfold put4
  exact (((h.bel.setCell (by show w.heap.size ≤ gR; exact hR) _).setCell (by show w.heap.size ≤ gR; exact hR) _).setCell (by show w.heap.size ≤ gR; exact hR) _).setCell (by show w.heap.size ≤ gR; exact hR) _
end
section
variable {w : World} {N ini : Nat} {A : Option Addr} {n c : Nat} {B : Option Addr} {m d : Nat} {ls : List ByteArray} {es : List Ed}
theorem TauS.range {S : List Int} (h : TauS es S) : ∀ i, i ∈ S → 0 ≤ i ∧ i < (es.length : Int) := fun i hi => by
 obtain ⟨k, f, t, rfl, hk⟩ := h.tau i hi;have := (List.getElem?_eq_some_iff.1 hk).1;omega
theorem conf1_calls (h : SysA w N ini A n B m ls es) (bt bs : Nat) (x : Nat) (hx : x < m) (kt : LtsBox w bt (N : Int) (ini : Int) A n c B m d) (C : Option Addr) (q c2 : Nat) (S : List Int) (lo hi : Nat) (ks : w.heap[bs]? = some (.cells #[.slice C q c2] 32 (0, 0))) (hS : SlI w lo hi C q S) (hq : q ≤ 1048576) (hr : ∀ i, i ∈ S → 0 ≤ i ∧ i < (es.length : Int)) :
  Calls Tryz.prog 195 #[.int .i64 (x : Int), .pointer (some ⟨bt, 0, none⟩), .pointer (some ⟨bs, 0, none⟩)] w (Says (disB es S x) w) := by
 have q1 := hide (disagreement_calls (c := c) (d := d) h x hx C q c2 S lo hi hS hq hr);have b0 := kt.c0;have b1 := kt.c1;have b2 := kt.c2;have b3 := kt.c3;have cs := (cell_of_row _ _ 0 _ _ (0, 0) ks).trans (show _ = some (Value.slice C q c2) from rfl);clear h kt ks hS;go_enter Tryz.func195, Tryz.ntmps195;go_wp2_with fail;refine q1.out.mono ?_;rintro e w1 ⟨v, rfl, hv, hb⟩;replace hv := hide hv
 by_cases h0 : 0 ≤ v
 ·go_wp2_with fail
  go_ret;exact ⟨ret_b (by rw [hv.out.1 h0]), hb⟩
 ·have hn : Hid (disB es S x = false) := Bool.eq_false_iff.2 fun g => h0 (hv.out.2 g)
  go_wp2_with fail;go_ret
  exact ⟨ret_b (by rw [hn.out]; simp [h0]), hb⟩
theorem confluentEdges_calls (h : SysA w N ini A n B m ls es) :
  Calls Tryz.prog 104 #[.agg #[.int .i64 (N : Int), .int .i64 (ini : Int), .slice A n c, .slice B m d]] w fun e w' => ∃ C q c2 S, e = .returned (.slice C q c2) ∧ SlI w' w.heap.size w'.heap.size C q S ∧ TauS es S ∧ ConfL es S ∧ Below w.heap.size w w' := by
 have hEi := hide elem_int;have hmn := h.many;have hlen := h.se.len;obtain ⟨w1, hw1⟩ : ∃ w1, w1 = w.alloc (ltsC N ini A n c B m d) := ⟨_, rfl⟩;obtain ⟨w0, hw0⟩ : ∃ w0, w0 = w1.alloc (.cells #[.slice none 0 0] 32) := ⟨_, rfl⟩;have hB := h.box (c := c) (d := d);rw [← hw1] at hB;have e1 : w1.heap.size = w.heap.size + 1 := by rw [hw1]; exact World.size_alloc _ _
 have hb10 : Below w1.heap.size w1 w0 := by rw [hw0]; exact bR.alloc zR _
 have hB0 := hB.below hb10;have k0 : w0.heap[w.heap.size + 1]? = some (.cells #[.slice none 0 0] 32 (0, 0)) := by rw [hw0, ← e1]; exact heap_alloc_new w1 _
 have hV0 := hide (VarS.begin hB0.bel (Nat.le_succ _) k0);have hbl0 : w.heap.size < w0.heap.size := hB0.lt;have hAt : Hid (∀ {wx : World} {Sa : Option Addr} {k c2 : Nat} {S : List Int}, VarS w w0 wx (w.heap.size + 1) Sa k c2 S → LtsBox wx w.heap.size (N : Int) (ini : Int) A n c B m d ∧ SysA wx N ini A n B m ls es) := fun {wx Sa k c2 S} hv =>
  ⟨(hv.oth _ hbl0 (by omega)).trans hB0.box, h.below hv.bel zR⟩
 have hAtR : Hid (∀ {wx : World} {Sa : Option Addr} {k c2 : Nat} {S : List Int}, VarR w w0 wx (w.heap.size + 1) Sa k c2 S → LtsBox wx w.heap.size (N : Int) (ini : Int) A n c B m d ∧ SysA wx N ini A n B m ls es) := fun {wx Sa k c2 S} hv =>
  ⟨(hv.oth _ hbl0 (by omega)).trans hB0.box, h.below hv.bel zR⟩
 have b3 := hB0.box.c3;have hlen' := hide hlen;clear hB hB0 hb10 e1 k0 hlen h;go_enter Tryz.func104, Tryz.ntmps104;go_upto_region 2 with fail;rw [show (w.alloc (.cells #[.int .i64 (N : Int), .int .i64 (ini : Int), .slice A n c, .slice B m d] 27)).alloc (.cells #[.slice none 0 0] 32) = w0 by rw [hw0, hw1]];replace hw1 := hide hw1;replace hw0 := hide hw0;go_wp2_with fail;clear b3
 go_loopw [10] (fun v10 wr => ∃ (k q c2 : Nat) (C : Option Addr) (S : List Int), k ≤ m ∧ q ≤ k ∧ v10 = .int .i64 (k : Int) ∧ Hid (VarS w w0 wr (w.heap.size + 1) C q c2 S) ∧ Hid (S = tauI es k)) (fun v _ => m - (intOf v).toNat)
 case atStart => exact ⟨0, 0, 0, none, [], Nat.zero_le _, zR, rfl, hV0.out, rfl⟩
 case round =>
  obtain ⟨k, q, c2, C, S, hk, hqk, rfl, hV, hT⟩ := hrel;clear hV0;obtain ⟨hBx, hSy⟩ := hAt.out hV.out
  by_cases hlt : k < m
  ·obtain ⟨gX, oX, gf, gl, gt, eX, -, -, -, hxk, a0, a1, a2, -⟩ := SlE.get hSy.se hlt
   have hT2 : Hid (tauI es (k + 1) = if gl = 0 then tauI es k ++ [(k : Int)] else tauI es k) := by show _ = _; rw [tauI_succ, edA_at hxk]
   have b3 := hBx.c3;obtain ⟨w4, hw4⟩ : ∃ w4, w4 = wr.alloc (.cells #[.int .i64 gf, .int .i64 gl, .int .i64 gt] 84) := ⟨_, rfl⟩;have hb4 : Below wr.heap.size wr w4 := by rw [hw4]; exact bR.alloc zR _
   have hV4 := hV.out.below hb4;have k0 : (0 : Int) ≤ (k : Int) := by omega
   have k1 : (k : Int) < (m : Int) := by omega
   have v0 := hV4.cell;have hza : ∀ o, w0.heap.size ≤ (w4.alloc o).heap.size := fun o => by rw [World.size_alloc]; have := hV4.size; omega
   have hown := hide hV4.own;have kX : w4.heap[wr.heap.size]? = some (.cells #[.int .i64 gf, .int .i64 gl, .int .i64 gt] 84 (0, 0)) := by rw [hw4]; exact heap_alloc_new wr _
   have y1 := (cell_of_row _ _ 1 _ _ (0, 0) kX).trans (show _ = some (Value.int .i64 gl) from rfl);have hV4z := hV4.size;replace hV4 := hide hV4;subst eX;clear hSy hBx hxk hb4 kX;go_upto_region 5 with fail;rw [show wr.alloc (.cells #[.int .i64 gf, .int .i64 gl, .int .i64 gt] 84) = w4 from hw4.symm];replace hw4 := hide hw4;clear a0 a1 a2 b3
   by_cases hl : gl = 0
   ·subst hl
    have g0 : ((0 : Int) == 0) = true := rfl;have hS2 : Hid (S ++ [(k : Int)] = tauI es (k + 1)) := by show _ = _; rw [hT.out, hT2.out, if_pos rfl]
    go_wp2_with (first | (at_builtin; (with_reducible refine wpList_app rfl (.tmp 18) (.tmp 20) rfl hEi.out flat_iv rfl (hown.out.alloc _) rfl (Sl.lit1' w4 2 (k : Int) _ rfl 1 _ ?c0) ?c1 (hza _) ?_); rotate_right; intro C7 c7 w7 hown7 hgr7 hb7 _; have hbA := ((Below.refl w0.heap.size w4).alloc hV4z (.cells #[.int .i64 (k : Int)] 2)).trans hb7; have k7 := hV4.out.mid hbA; have k7f := frozen_of_row _ _ 0 _ _ k7; have k7c := (cell_of_row _ _ 0 _ _ (0, 0) k7).trans (show _ = some (Value.slice C q c2) from rfl); have hV7 := hide (hV4.out.store hbA hown7); clear k7 hbA hown7 hgr7 hb7))
    case c0 => rfl
    case c1 => omega
    go_roundw
    case rel => exact ⟨k + 1, q + 1, c7, C7, _, by omega, by omega, by go_num, hV7.out, hS2.out⟩
    case measure => simp [intOf]; omega
   ·have g0 : (gl == 0) = false := by rw [beq_eq_false_iff_ne]; exact hl
    have hS2 : Hid (S = tauI es (k + 1)) := by show _ = _; rw [hT.out, hT2.out, if_neg hl]
    clear hl;go_wp2_with fail;go_roundw
    case rel => exact ⟨k + 1, q, c2, C, S, by omega, by omega, by go_num, hV4.out, hS2.out⟩
    case measure => simp [intOf]; omega
  ·obtain rfl : k = m := by omega
   have k1 : ¬ (k : Int) < (k : Int) := by omega
   have hTS : Hid (TauS es S) := by show TauS es S; rw [hT.out, ← hlen'.out]; exact tauI_set es
   have hz0 := hV.out.size;have hgl := hV.out.lt;have hR0 := hide hV.out.toR;have hTS0 := hTS;clear hBx hSy hT hV hTS;go_wp2_with fail
   go_loopw [6] (fun v6 wx => ∃ (q c2 : Nat) (C : Option Addr) (S : List Int), q ≤ k ∧ Hid (VarR w w0 wx (w.heap.size + 1) C q c2 S) ∧ Hid (TauS es S)) (fun _ wx => lenC wx (w.heap.size + 1))
   case atStart => exact ⟨q, c2, C, S, hqk, hR0.out, hTS0.out⟩
   case round =>
    clear hTS0 hR0;obtain ⟨q, c2, C, S, hqk, hR, hTS⟩ := hrel;have hlS := hR.out.sl.len;have hq1 := hide (cloneT_calls C q c2 S wr _ _ hR.out.sl (by omega));have v0 := hR.out.cell;have hzr := hR.out.size;have hlenv := hide hR.out.lenC;go_upto_region 8 with fail;go_wp2_with fail;refine hq1.out.mono ?_;rintro e w3 ⟨A3, c3, rfl, hO3, hb3⟩;have hcap := hO3.le_cap;have hR3 := hide (hR.out.below hb3);have hz3 := hb3.size;have hq2 := hide (deleteFuncI_calls 195 #[.pointer (some ⟨w.heap.size, 0, none⟩), .pointer (some ⟨w.heap.size + 1, 0, none⟩)] (fun e => disB es S e.toNat) A3 q c3 S w3 wr.heap.size (hO3.sl flat_iv) hcap (by omega) hz3 (fun v W => by kernel_rfl) fun v W hv hW => by
     obtain ⟨x, f, t, rfl, hx⟩ := hTS.out.tau v hv;have hxm : x < k := by rw [← hlen'.out]; exact (List.getElem?_eq_some_iff.1 hx).1
     have hRW := hR.out.below (hb3.trans (hW.mono zR));obtain ⟨hBx, hSy⟩ := hAtR.out hRW;have := conf1_calls (c := c) (d := d) hSy w.heap.size (w.heap.size + 1) x hxm hBx C q c2 S _ _ hRW.box hRW.sl (by omega) hTS.out.range;rw [Int.toNat_natCast];exact this)
    have v3 := hR3.out.cell;clear hO3 v0 hq1;go_wp2_with fail;refine hq2.out.mono ?_;rintro e w4 ⟨m4, c4, rfl, hm4, hc4, hS4, hb4⟩;have hb34 : Below wr.heap.size wr w4 := hb3.trans hb4;have hR4 := hide (hR.out.below hb34);have v4 := hR4.out.cell;have f4 := hR4.out.froz;have hl4 := hS4.len;replace hS4 := hide hS4;replace hb3 := hide hb3;replace hb4 := hide hb4;clear hq2 v3
    by_cases hmq : m4 = q
    ·subst hmq
     have g1 : ((m4 : Int) == (m4 : Int)) = true := by simp
     have hcf : Hid (ConfL es S) := hTS.out.conf (by rw [hl4, hlS]);go_wp2_with fail;go_ret;exact ⟨C, m4, c2, S, rfl, hR4.out.sl.more (Nat.le_of_lt hbl0) zR, hTS.out, hcf.out, hR4.out.bel⟩
    ·have g1 : ((m4 : Int) == (q : Int)) = false := by rw [beq_eq_false_iff_ne]; omega
     have hR5 := hide (hR4.out.store (c' := c4) (hS4.out.more hzr zR));have hTS5 := hide (hTS.out.filter fun x => !disB es S x.toNat);have hl5 := hide hR5.out.lenC;go_wp2_with fail;go_roundw
     case rel => exact ⟨m4, c4, _, _, by omega, hR5.out, hTS5.out⟩
     case measure => rw [hl5.out, hlenv.out]; omega
end
end Go.Proofs.YtnhomkmfbngmgaaGreatDoor
