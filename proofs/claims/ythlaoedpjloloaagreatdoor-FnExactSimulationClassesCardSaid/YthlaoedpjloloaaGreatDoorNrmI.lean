/-
  Maps from numbers to numbers, lists of the first numbers, and the normal form of a list, by the program. Conditions: sizes.
-/
import Derived.Test.YthlaoedpjloloaaGreatDoorBaseF
import Derived.Test.YthlaoedpjloloaaGreatDoorBaseC
import Derived.Maps.OwnSet
import Derived.Maps.Views
import Derived.Carry
namespace Go.Proofs.YthlaoedpjloloaaGreatDoor
open Go.ChangeShapes Go.WideShapes Go.ChangeAt Go.RowKit
open Go.Maps (Keyed keyOf_int_mk)
set_option linter.unusedVariables false
set_option linter.unusedSimpArgs false

/-- Block b is a map of n entries that answers as f. -/
def MapN (w : World) (b n : Nat) (f : Int → Option Int) : Prop :=
  ∃ D : DataW Unit, w.ownsMap Tryz.prog 2 (plainElem Tryz.prog 2) b n D ∧ Maps.size D = n ∧ ∀ k : Int, (Lit.int .i64 k).wf = true → Maps.has D (.int .i64 k) = (f k).isSome ∧ ∀ c, f k = some c → D.atKey (.int .i64 k) (.lit (.int .i64 0)) = .lit (.int .i64 c)

theorem keyedN : Keyed Tryz.prog 2 := Go.Maps.int_keyed Tryz.underlying2
theorem zeroN (w : World) : (zeroValue 2).run Tryz.prog w = .ok (.int .i64 0) w := by kernel_rfl
theorem owns_tightN {H : Type} {P : Program} {k : TypeId} {R : Value → Option (DataW H × List MemPlace)} {w : World} {b n : Nat} {D : DataW H} (h : w.ownsMap P k R b n D) : w.ownsMap P k R b (Maps.size D) D := by
  obtain ⟨es, clock, hb, F, hs, rfl⟩ := h
  exact ⟨es, clock, hb, F, by simp [Maps.size, length_sorted], rfl⟩

section
variable {w w' : World} {b n : Nat} {f : Int → Option Int}
theorem MapN.made (w : World) : MapN (w.alloc (.map #[] 0)) w.heap.size 0 (fun _ => none) :=
  ⟨.map [], World.ownsMap_made _ _ _ _, rfl, fun k _ => ⟨rfl, fun c h => by cases h⟩⟩
theorem MapN.lt (h : MapN w b n f) : b < w.heap.size := by obtain ⟨D, h1, _⟩ := h; exact h1.lt
theorem MapN.keep (h : MapN w b n f) (hb : w'.heap[b]? = w.heap[b]?) : MapN w' b n f := by
  obtain ⟨D, ⟨es, clock, h1, r⟩, h2⟩ := h
  exact ⟨D, ⟨es, clock, hb.trans h1, r⟩, h2⟩
set_option maxRecDepth 100000 in
theorem MapN.lookOk (h : MapN w b n f) {k : Int} (hk : (Lit.int .i64 k).wf = true) : ∃ c : Int, (Instr.lookup 154 (.map (some b)) (.int .i64 k) true).run Tryz.prog w = .ok (.tuple #[.int .i64 c, .bool (f k).isSome]) w ∧ ∀ c', f k = some c' → c = c' := by
  obtain ⟨D, h1, -, h2⟩ := h
  obtain ⟨h3, h4⟩ := h2 k hk
  obtain ⟨v, ps, hr, hv⟩ := h1.look_ok keyedN Tryz.underlying154 (zeroN w) (plainElem_int Tryz.underlying2 (by decide)) (keyOf_int_mk Tryz.underlying2 hk)
  obtain ⟨c, rfl, hc, hw⟩ := plainElem_int_inv Tryz.underlying2 hv
  simp only [Prod.mk.injEq] at hc
  rw [h3] at hr
  refine ⟨c, hr, fun c' hc' => ?_⟩
  rw [h4 c' hc'] at hc
  have := hc.1
  injection this with e
  injection e with _ e
  exact e.symm
theorem MapN.len (h : MapN w b n f) (ty : TypeId) : (Builtin.len_ #[154] ty #[.map (some b)]).run Tryz.prog w = .ok (.int .i64 (n : Int)) w := by
  obtain ⟨D, h1, h2, -⟩ := h
  rw [h1.len Tryz.underlying154 ty, h2]
theorem MapN.add (h : MapN w b n f) (hn : n < maxLen) {k c : Int} (hk : (Lit.int .i64 k).wf = true) (hc : (Lit.int .i64 c).wf = true) (hno : f k = none) :
    ∃ w', (Instr.mapUpdate 154 (.map (some b)) (.int .i64 k) (.int .i64 c)).run Tryz.prog w = .ok () w' ∧ MapN w' b (n + 1) (fun i => if i = k then some c else f i) ∧ w.grownBy w' (some b) := by
  obtain ⟨D, h1, hs, h2⟩ := h
  have hm := h1.isMap
  obtain ⟨w', hr, h3, h4⟩ := h1.update keyedN Tryz.underlying154 hn (keyOf_int_mk Tryz.underlying2 hk) (plainElem_int Tryz.underlying2 hc)
  have hnh : Maps.has D (.int .i64 k) = false := by rw [(h2 k hk).1, hno]; rfl
  have hsz : Maps.size (D.put (.int .i64 k) (.lit (.int .i64 c))) = n + 1 := by
    rw [Go.Maps.size_put (h1.tidy keyedN), hnh, hs]
    rfl
  refine ⟨w', hr, ⟨_, hsz ▸ owns_tightN h3, hsz, fun i hi => ?_⟩, h4⟩
  by_cases e : i = k
  · subst e
    simp only [if_true]
    refine ⟨Go.Maps.has_true_of_atKey fun z => Go.Maps.atKey_put_same hm (by trivial) _ z, fun c' hc' => ?_⟩
    cases hc'
    exact Go.Maps.atKey_put_same hm (by trivial) _ _
  · simp only [if_neg e]
    have hne : (Lit.int .i64 i) ≠ (Lit.int .i64 k) := fun h => e (by injection h)
    obtain ⟨h5, h6⟩ := h2 i hi
    refine ⟨?_, fun c' hc' => by rw [Go.Maps.atKey_put_other hne]; exact h6 c' hc'⟩
    rw [← h5]
    exact Go.Maps.has_put_other hne _
end

theorem range_succ_intN (k : Nat) : (List.range (k + 1)).map Int.ofNat = (List.range k).map Int.ofNat ++ [(k : Int)] := by
  rw [List.range_succ, List.map_append]
  rfl
set_option maxRecDepth 100000 in
theorem upToN_calls (N : Nat) (hN : N ≤ 1048000) (w : World) :
    Calls Tryz.prog 100 #[.int .i64 (N : Int)] w fun e w' => ∃ A c, e = .returned (.slice A N c) ∧ Own 1 iv w' w.heap.size 2 A N c ((List.range N).map Int.ofNat) ∧ Below w.heap.size w w' := by
  have hE := hide elem_int64
  go_enter Tryz.func100, Tryz.ntmps100
  go_wp2
  go_loopw [3, 6] (fun v i wr => ∃ (k : Nat) (A : Option Addr) (c : Nat), k ≤ N ∧ i = .int .i64 (k : Nat) ∧ v = .slice A k c ∧ Hid (Own 1 iv wr w.heap.size 2 A k c ((List.range k).map Int.ofNat)) ∧ Below w.heap.size w wr) (fun _ i _ => N - (intOf i).toNat)
  case atStart => exact ⟨0, none, 0, Nat.zero_le _, rfl, rfl, Own.nil_ _ _ _, Below.refl _ _⟩
  case round =>
    obtain ⟨k, A, c, hk, rfl, rfl, hown, hb⟩ := hrel
    by_cases hlt : k < N
    · have hz := hb.size
      have hza : ∀ o, w.heap.size ≤ (wr.alloc o).heap.size := fun o => by rw [World.size_alloc]; omega
      have hst := hide (range_succ_intN k)
      replace hb := hide hb
      go_wp2_with (first | (at_builtin; (with_reducible refine wpList_app rfl (.tmp 9) (.tmp 11) rfl hE.out flat_iv rfl (hown.out.alloc _) rfl (Sl.lit1' wr 2 (k : Int) _ rfl 1 _ ?c0) ?c1 (hza _) ?_); rotate_right; intro A5 c5 w5 hown5 hgr5 hb5 _))
      case c0 => rfl
      case c1 => omega
      have hb6 := hide ((hb.out.alloc hz (.cells #[.int .i64 (k : Int)] 2)).trans hb5)
      go_roundw
      case rel => exact ⟨k + 1, A5, c5, by omega, by go_num, rfl, by rw [hst.out]; exact hown5, hb6.out⟩
      case measure => simp [intOf]; omega
    · have hkn : k = N := by omega
      subst hkn
      replace hb := hide hb
      go_wp2
      go_ret
      exact ⟨A, c, rfl, hown.out, hb.out⟩

theorem nrm_len {l : List Nat} : ∀ {k : Nat}, k ≤ l.length → (nrmE l k).1.length = k
  | 0, _ => rfl
  | k + 1, h => by
    have hx : l[k]? = some (l[k]'(by omega)) := List.getElem?_eq_getElem _
    conv => lhs; unfold nrmE
    rw [hx]
    dsimp only
    rw [List.length_append, nrm_len (by omega)]
    rfl
theorem nrm_succ {l : List Nat} {k x : Nat} (hx : l[k]? = some x) : nrmE l (k + 1) = ((nrmE l k).1 ++ [(plcE (nrmE l k).2 x : Int)], if x ∈ (nrmE l k).2 then (nrmE l k).2 else (nrmE l k).2 ++ [x]) := by
  conv => lhs; unfold nrmE
  rw [hx]
theorem nrm_pre {l : List Nat} {j k : Nat} (h : j ≤ k) (hk : k ≤ l.length) : (nrmE l j).1 <+: (nrmE l k).1 := by
  induction k with
  | zero =>
    obtain rfl : j = 0 := by omega
    exact List.prefix_refl _
  | succ k ih =>
    rcases Nat.lt_or_ge k j with h1 | h1
    · obtain rfl : j = k + 1 := by omega
      exact List.prefix_refl _
    · have hx : l[k]? = some (l[k]'(by omega)) := List.getElem?_eq_getElem _
      rw [nrm_succ hx]
      exact (ih h1 (by omega)).trans (List.prefix_append _ _)
theorem nrm_sub {l : List Nat} {k : Nat} : ∀ x ∈ (nrmE l k).2, x ∈ l := by
  induction k with
  | zero => intro x hx; cases hx
  | succ k ih =>
    intro x hx
    cases hl : l[k]? with
    | none =>
      unfold nrmE at hx
      rw [hl] at hx
      exact ih x hx
    | some y =>
      rw [nrm_succ hl] at hx
      dsimp only at hx
      split at hx
      · exact ih x hx
      · rcases List.mem_append.1 hx with hx | hx
        · exact ih x hx
        · rw [List.mem_singleton.1 hx]
          exact List.mem_of_getElem? hl
theorem nrm_blk {l : List Nat} {k : Nat} : (nrmE l k).2.length ≤ k := by
  induction k with
  | zero => exact Nat.le_refl _
  | succ k ih =>
    cases hl : l[k]? with
    | none => unfold nrmE; rw [hl]; dsimp only; omega
    | some y =>
      rw [nrm_succ hl]
      dsimp only
      split
      · omega
      · rw [List.length_append]; simp; omega
theorem plc_old {l : List Nat} {m j : Nat} (hj : j ∈ l) : plcE (l ++ [m]) j = plcE l j := by
  unfold plcE
  rw [List.findIdx?_append]
  cases hf : l.findIdx? fun x => decide (x = j) with
  | some i => simp
  | none =>
    rw [List.findIdx?_eq_none_iff] at hf
    have := hf j hj
    simp at this
theorem plc_new {l : List Nat} {k : Nat} (hl : ¬ k ∈ l) : plcE (l ++ [k]) k = l.length := by
  unfold plcE
  rw [List.findIdx?_append, List.findIdx?_eq_none_iff.2 (fun x hx => decide_eq_false fun e : x = k => hl (by rw [← e]; exact hx))]
  simp
theorem plc_out {l : List Nat} {k : Nat} (hl : ¬ k ∈ l) : plcE l k = l.length := by
  unfold plcE
  rw [List.findIdx?_eq_none_iff.2 (fun x hx => decide_eq_false fun e : x = k => hl (by rw [← e]; exact hx))]
  rfl
/-- What the map answers. -/
def fMN (l : List Nat) (i : Int) : Option Int := if 0 ≤ i ∧ i.toNat ∈ l then some (plcE l i.toNat : Int) else none
theorem fMN_add {l : List Nat} {x : Nat} (hx : ¬ x ∈ l) : (fun i => if i = (x : Int) then some (l.length : Int) else fMN l i) = fMN (l ++ [x]) := by
  funext i
  unfold fMN
  by_cases e : i = (x : Int)
  · subst e
    rw [if_pos rfl, if_pos ⟨by omega, by simp⟩, Int.toNat_natCast, plc_new hx]
  · rw [if_neg e]
    by_cases h : 0 ≤ i ∧ i.toNat ∈ l
    · rw [if_pos h, if_pos ⟨h.1, List.mem_append.2 (.inl h.2)⟩, plc_old h.2]
    · rw [if_neg h, if_neg]
      rintro ⟨h1, h2⟩
      rcases List.mem_append.1 h2 with h2 | h2
      · exact h ⟨h1, h2⟩
      · have := List.mem_singleton.1 h2
        omega

/-- Where the normal form stands. -/
structure NrmS (w wr : World) (bm bo n : Nat) (l : List Nat) (k : Nat) : Prop where
  map : MapN wr bm (nrmE l k).2.length (fMN (nrmE l k).2)
  out : SlI wr bo (bo + 1) (some ⟨bo, 0, none⟩) n (intK n k fun v => ((nrmE l n).1[v]?).getD 0)
  bel : Below w.heap.size w wr

set_option maxRecDepth 100000 in
set_option maxHeartbeats 3200000 in
theorem normal_calls (A : Option Addr) (n c : Nat) (l : List Nat) (w : World) (lo hi : Nat) (h : SlI w lo hi A n (l.map Int.ofNat)) (hn : n ≤ 1048576) (hl : ∀ x ∈ l, x ≤ 1048576) :
    Calls Tryz.prog 101 #[.slice A n c] w fun e w' => ∃ B, e = .returned (.slice (some ⟨B, 0, none⟩) n n) ∧ SlI w' w.heap.size w'.heap.size (some ⟨B, 0, none⟩) n (nrmE l n).1 ∧ Below w.heap.size w w' := by
  have hlen : l.length = n := by have := h.len; rwa [List.length_map] at this
  have hmm := @run_makeMap Tryz.prog
  have hmk := run_make_int n hn
  have z1 : (w.alloc (.map #[] 0)).heap.size = w.heap.size + 1 := World.size_alloc _ _
  have hA : Below (w.alloc (.map #[] 0)).heap.size (w.alloc (.map #[] 0)) ((w.alloc (.map #[] 0)).alloc (.cells (madeCells #[.int .i64 0] n) 2)) := (Below.refl _ _).alloc (Nat.le_refl _) _
  have hs0 : SlI ((w.alloc (.map #[] 0)).alloc (.cells (madeCells #[.int .i64 0] n) 2)) (w.heap.size + 1) (w.heap.size + 1 + 1) (some ⟨w.heap.size + 1, 0, none⟩) n (intK n 0 fun v => ((nrmE l n).1[v]?).getD 0) := by
    have := SlI.made (w.alloc (.map #[] 0)) n (fun v => ((nrmE l n).1[v]?).getD 0)
    rw [z1] at this
    exact this
  have hf0 : (fun _ : Int => (none : Option Int)) = fMN (nrmE l 0).2 := by
    funext i
    unfold fMN
    rw [if_neg]
    rintro ⟨-, h⟩
    cases h
  have hm0 := MapN.made w
  rw [hf0] at hm0
  have hst : Hid (NrmS w ((w.alloc (.map #[] 0)).alloc (.cells (madeCells #[.int .i64 0] n) 2)) w.heap.size (w.heap.size + 1) n l 0) :=
    ⟨hm0.keep (Below.heap_alloc _ _ _ (by omega)), hs0, ((Below.refl _ _).alloc (Nat.le_refl _) _).alloc (by omega) _⟩
  replace h := hide h
  replace hlen := hide hlen
  replace hl := hide hl
  clear hA hs0 hf0 hm0
  go_enter Tryz.func101, Tryz.ntmps101
  go_upto_region 2 with fail
  go_upto_region 3 with fail
  clear hmk hmm z1
  generalize ((w.alloc (.map #[] 0)).alloc (.cells (madeCells #[.int .i64 0] n) 2)) = W0 at *
  go_upto_region 4 with fail
  go_loopg [15] n (fun J i wr => ∃ k : Nat, k ≤ n ∧ i = .int .i64 (k : Int) ∧ Hid (NrmS w wr w.heap.size (w.heap.size + 1) n l k) ∧ Hid (n - k ≤ J))
  case atStart => exact ⟨0, Nat.zero_le _, rfl, hst, by show _ ≤ _; omega⟩
  case round =>
    clear hst
    obtain ⟨k, hk, rfl, hs, hJ⟩ := hrel
    by_cases hlt : k < n
    · obtain ⟨J2, rfl⟩ : ∃ J2, gk = J2 + 1 := ⟨gk - 1, by have := hJ.out; omega⟩
      have hJ2 : Hid (n - (k + 1) ≤ J2) := by have := hJ.out; show _ ≤ _; omega
      obtain ⟨b, off, u, rfl, -, -, g3, hx, p0, -⟩ := SlI.get (h.out.below hs.out.bel (.inr (Nat.le_refl _))) hlt
      rw [List.getElem?_map] at hx
      obtain ⟨x, hx', rfl⟩ := Option.map_eq_some_iff.1 hx
      clear hx
      have hx := hx'
      clear hx'
      replace p0 : wr.cell? ⟨b, off + k, none⟩ = some (.int .i64 (x : Int)) := p0
      have hxl := hl.out x (List.mem_of_getElem? hx)
      have hsu := nrm_succ hx
      have hbl := nrm_blk (l := l) (k := k)
      have hpk : (((nrmE l n).1[k]?).getD 0) = (plcE (nrmE l k).2 x : Int) := by
        have hp := nrm_pre (l := l) (show k + 1 ≤ n by omega) (by rw [hlen.out]; exact Nat.le_refl _)
        have h1 : (nrmE l (k + 1)).1[k]? = some (plcE (nrmE l k).2 x : Int) := by
          rw [hsu]
          dsimp only
          rw [List.getElem?_append_right (by rw [nrm_len (by rw [hlen.out]; omega)]; exact Nat.le_refl _), nrm_len (by rw [hlen.out]; omega), Nat.sub_self]
          rfl
        obtain ⟨t, ht⟩ := hp
        rw [← ht, List.getElem?_append_left (by rw [nrm_len (by rw [hlen.out]; omega)]; omega), h1]
        rfl
      have hstep := intK_step (p := fun v => ((nrmE l n).1[v]?).getD 0) hlt
      rw [hpk] at hstep
      have hwx : (Lit.int .i64 (x : Int)).wf = true := WalkArith.wf_i64 (by omega)
      obtain ⟨lc, hlk, hlv⟩ := hs.out.map.lookOk hwx
      have hI0 : (0 : Int) ≤ (k : Int) := by omega
      have hI1 : (k : Int) < (n : Int) := by omega
      by_cases hin : x ∈ (nrmE l k).2
      · have hf : fMN (nrmE l k).2 (x : Int) = some (plcE (nrmE l k).2 x : Int) := by unfold fMN; rw [if_pos ⟨by omega, by rw [Int.toNat_natCast]; exact hin⟩, Int.toNat_natCast]
        have hc := hlv _ hf
        subst hc
        rw [hf] at hlk
        replace hlk : (Instr.lookup 154 (.map (some w.heap.size)) (.int .i64 (x : Int)) true).run Tryz.prog wr = .ok (.tuple #[.int .i64 (plcE (nrmE l k).2 x : Int), .bool true]) wr := hlk
        obtain ⟨b', off', y, e9, -, -, g4, -, q0, q1⟩ := SlI.get hs.out.out hlt
        injection e9 with e9
        injection e9 with e9 e8
        subst e9 e8
        rw [Nat.zero_add] at q0 q1
        have hput := SlI.put' hs.out.out hlt (plcE (nrmE l k).2 x : Int)
        rw [hstep, Nat.zero_add] at hput
        rw [if_pos hin] at hsu
        have h2 : (nrmE l (k + 1)).2 = (nrmE l k).2 := by rw [hsu]
        have hsn : Hid (NrmS w (wr.setCell ⟨w.heap.size + 1, k, none⟩ (.int .i64 (plcE (nrmE l k).2 x : Int))) w.heap.size (w.heap.size + 1) n l (k + 1)) := by
          refine ⟨?_, hput, hs.out.bel.setCell (by show w.heap.size ≤ w.heap.size + 1; omega) _⟩
          rw [h2]
          exact hs.out.map.keep (Below.heap_setCell _ _ _ _ (by show w.heap.size ≠ w.heap.size + 1; omega))
        generalize plcE (nrmE l k).2 x = pv at *
        clear hs hx hsu hbl hpk hstep hlv hin hf hput h2 hwx
        go_wp2_with fail
        go_roundg J2
        case measure => omega
        case rel => exact ⟨k + 1, by omega, by go_num, hsn, hJ2⟩
      · have hf : fMN (nrmE l k).2 (x : Int) = none := by unfold fMN; rw [if_neg (fun g => hin (by have := g.2; rwa [Int.toNat_natCast] at this))]
        rw [hf] at hlk
        replace hlk : (Instr.lookup 154 (.map (some w.heap.size)) (.int .i64 (x : Int)) true).run Tryz.prog wr = .ok (.tuple #[.int .i64 lc, .bool false]) wr := hlk
        have hml := fun ty => hs.out.map.len ty
        rw [plc_out hin] at hstep hsu
        obtain ⟨w2, hu, hm2, hg2⟩ := hs.out.map.add (by unfold maxLen; omega) (c := ((nrmE l k).2.length : Int)) hwx (WalkArith.wf_i64 (by omega)) hf
        rw [fMN_add hin] at hm2
        rw [if_neg hin] at hsu
        have h2 : (nrmE l (k + 1)).2 = (nrmE l k).2 ++ [x] := by rw [hsu]
        have hs2 : SlI w2 (w.heap.size + 1) (w.heap.size + 1 + 1) (some ⟨w.heap.size + 1, 0, none⟩) n (intK n k fun v => ((nrmE l n).1[v]?).getD 0) := Sl.keep hs.out.out hg2.size fun b h1 h2 h3 => hg2.block b h3 (fun e => by have := Option.some.inj e; omega)
        obtain ⟨b', off', y, e9, -, -, g4, -, q0, q1⟩ := SlI.get hs2 hlt
        injection e9 with e9
        injection e9 with e9 e8
        subst e9 e8
        rw [Nat.zero_add] at q0 q1
        have hput := SlI.put' hs2 hlt ((nrmE l k).2.length : Int)
        rw [hstep, Nat.zero_add] at hput
        have hsn : Hid (NrmS w (w2.setCell ⟨w.heap.size + 1, k, none⟩ (.int .i64 ((nrmE l k).2.length : Int))) w.heap.size (w.heap.size + 1) n l (k + 1)) := by
          refine ⟨?_, hput, ?_⟩
          · rw [h2, List.length_append]
            exact hm2.keep (Below.heap_setCell _ _ _ _ (by show w.heap.size ≠ w.heap.size + 1; omega))
          · have hb2 : Below w.heap.size w w2 := ⟨hg2.os.trans hs.out.bel.os, hg2.tape.trans hs.out.bel.tape, hg2.output.trans hs.out.bel.output, Nat.le_trans hs.out.bel.size hg2.size, fun b hb => (hg2.block b (Nat.lt_of_lt_of_le hb hs.out.bel.size) (fun e => by have := Option.some.inj e; omega)).trans (hs.out.bel.block b hb)⟩
            exact hb2.setCell (by show w.heap.size ≤ w.heap.size + 1; omega) _
        generalize (nrmE l k).2.length = pv at *
        clear hs hx hsu hbl hpk hstep hlv hin hf hput h2 hwx hm2 hs2 hg2
        go_wp2_with fail
        go_roundg J2
        case measure => omega
        case rel => exact ⟨k + 1, by omega, by go_num, hsn, hJ2⟩
    · have hkn : k = n := by omega
      subst hkn
      have hall : (List.range k).map (fun v => ((nrmE l k).1[v]?).getD 0) = (nrmE l k).1 := by
        apply List.ext_getElem?
        intro i
        have hl := nrm_len (l := l) (k := k) (by rw [hlen.out]; exact Nat.le_refl _)
        by_cases hi : i < k
        · rw [List.getElem?_map, List.getElem?_range hi, Option.map_some, List.getElem?_eq_getElem (by omega)]
          rfl
        · rw [List.getElem?_eq_none (by simp; omega), List.getElem?_eq_none (by omega)]
      have hres := hs.out.out
      rw [intK_all, hall] at hres
      have hbw := hs.out.bel
      have hres2 := hide fun (hz : w.heap.size + 1 + 1 ≤ wr.heap.size) => hres.more (show w.heap.size ≤ w.heap.size + 1 by omega) hz
      have hz : Hid (k = 0 ∨ w.heap.size + 1 + 1 ≤ wr.heap.size) := by
        show _ ∨ _
        by_cases h0 : 0 < k
        · obtain ⟨b', off', y, e9, -, -, g4, -⟩ := SlI.get hs.out.out h0
          injection e9 with e9
          injection e9 with e9 e8
          subst e9
          exact .inr g4
        · exact .inl (by omega)
      replace hres := hide hres
      replace hbw := hide hbw
      clear hs hall
      go_wp2_with fail
      go_ret
      refine ⟨w.heap.size + 1, rfl, ?_, hbw.out⟩
      rcases hz.out with h0 | h1
      · have := hres.out
        exact ⟨this.1, fun hp => absurd hp (by omega)⟩
      · exact hres2.out h1

end Go.Proofs.YthlaoedpjloloaaGreatDoor
