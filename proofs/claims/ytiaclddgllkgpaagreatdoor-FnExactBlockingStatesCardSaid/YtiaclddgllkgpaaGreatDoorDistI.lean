/-
  Distances, by the program: a queue. Conditions: sizes.
-/
import Derived.Test.YtiaclddgllkgpaaGreatDoorDistEd
import Derived.Test.YtiaclddgllkgpaaGreatDoorQue
import Derived.Test.YtiaclddgllkgpaaGreatDoorBaseE
import Derived.StillTailTactics
import Derived.Deep.LoopGhost
namespace Go.Proofs.YtiaclddgllkgpaaGreatDoor
open Go.ChangeShapes Go.WideShapes Go.ChangeAt Go.RowKit Go.Sort
set_option linter.unusedVariables false
set_option linter.unusedSimpArgs false

theorem cloneO_calls (A : Option Addr) (n c : Nat) (l : List Int) (w : World) (lo hi : Nat) (h : SlI w lo hi A n l) (hn : n ≤ 1048576) :
    Calls Tryz.prog 122 #[.slice A n c] w fun e w' => ∃ A' c', e = .returned (.slice A' n c') ∧ Own 1 iv w' w.heap.size 2 A' n c' l ∧ Below w.heap.size w w' := by
  have hnil : ∀ (W : World) (a : Option Addr) (m d : Nat), (binOp .eql 26 (.slice a m d) (.slice none 0 0)).run Tryz.prog W = .ok (.bool a.isNone) W := fun W a m d => Lib.run_eql_slice_nil W 26 _ a m d 0 0 Tryz.underlying26
  have hE := hide elem_int64
  cases A with
  | none =>
    have hn0 : n = 0 := by
      rcases Nat.eq_zero_or_pos n with h0 | h0
      · exact h0
      · obtain ⟨b, off, e, _⟩ := h.at_ h0
        cases e
    subst hn0
    have hl := List.eq_nil_of_length_eq_zero h.len
    subst hl
    go_enter Tryz.func122, Tryz.ntmps122
    go_wp2_with fail
    go_ret
    exact ⟨none, 0, rfl, Own.nil_ _ _ _, Below.refl _ _⟩
  | some a =>
    have hs := hide (h.below ((Below.refl w.heap.size w).alloc (Nat.le_refl _) (.cells #[] 2)) (.inr (Nat.le_refl _)))
    have hz : w.heap.size ≤ (w.alloc (.cells #[] 2)).heap.size := by simp
    clear h
    go_enter Tryz.func122, Tryz.ntmps122
    go_wp2_with (first | (at_builtin; (with_reducible refine wpList_app rfl (.tmp 5) (.tmp 6) rfl hE.out flat_iv rfl (Own.made w 2 (Nat.le_refl _)) rfl hs.out ?c1 hz ?_); rotate_right; intro A2 c2 w2 hown2 hgr2 hb2 _))
    case c1 => omega
    go_ret
    rw [Nat.zero_add, List.nil_append] at hown2
    exact ⟨_, _, rfl, hown2, ((Below.refl _ _).alloc (Nat.le_refl _) _).trans hb2⟩

theorem Sl.tight' {α : Type} {size : Nat} {f : α → List Value} {w : World} {lo hi n b off : Nat} {l : List α} (h : Sl size f w lo hi (some ⟨b, off, none⟩) n l) (hn : 0 < n) : Sl size f w b (b + 1) (some ⟨b, off, none⟩) n l := by
  refine ⟨h.len, fun _ => ?_⟩
  obtain ⟨b', off', e, g1, g2, g3, hc⟩ := h.at_ hn
  cases e
  exact ⟨b, off, rfl, Nat.le_refl _, Nat.lt_succ_self _, g3, hc⟩
/-- The two things that the search writes. -/
structure MemD (W : World) (bo oo n : Nat) (out : List Int) (qb : Nat) (A : Option Addr) (q c : Nat) (todo : List Int) : Prop where
  out : SlI W bo (bo + 1) (some ⟨bo, oo, none⟩) n out
  que : OwnQ W qb A q c todo
  o1 : bo < qb
  o2 : qb ≤ W.heap.size
section
variable {W W' : World} {bo oo n qb q c : Nat} {out : List Int} {A : Option Addr} {todo : List Int}
theorem MemD.put (h : MemD W bo oo n out qb A q c todo) {k : Nat} (hk : k < n) (x : Int) : MemD (W.setCell ⟨bo, oo + k, none⟩ (.int .i64 x)) bo oo n (out.set k x) qb A q c todo :=
  ⟨SlI.put' h.out hk x, h.que.keep fun g hg _ => Below.heap_setCell _ _ _ _ (by have := h.o1; show g ≠ bo; omega), h.o1, by rw [World.size_setCell]; exact h.o2⟩
theorem MemD.alloc (h : MemD W bo oo n out qb A q c todo) (o : Obj) : MemD (W.alloc o) bo oo n out qb A q c todo := by
  have h1 := h.o1
  have h2 := h.o2
  exact ⟨Sl.keep h.out (by simp) fun b _ _ hb => Below.heap_alloc _ _ _ hb, h.que.alloc o, h1, by simp; omega⟩
theorem MemD.drewN (h : MemD W bo oo n out qb A q c todo) (k : Nat) : MemD (W.drewN k) bo oo n out qb A q c todo := ⟨h.out.drewN k, h.que.drewN k, h.o1, h.o2⟩
theorem MemD.app (h : MemD W bo oo n out qb A q c todo) {A' : Option Addr} {q' c' : Nat} {todo' : List Int} (hq : OwnQ W' qb A' q' c' todo') (hg : W.grownBy W' (Value.slice A q c).ownBlock) : MemD W' bo oo n out qb A' q' c' todo' := by
  have h1 := h.o1
  have h2 := h.o2
  have hne : ∀ b, b < qb → some b ≠ (Value.slice A q c).ownBlock := fun b hb e => by
    have := (h.que.lt b e.symm).1
    omega
  exact ⟨Sl.keep h.out hg.size fun b hb1 hb2 hb3 => hg.block b hb3 (hne b (by omega)), hq, h1, Nat.le_trans h2 hg.size⟩
theorem MemD.cut {x : Int} (h : MemD W bo oo n out qb A q c (x :: todo)) : MemD W bo oo n out qb (cutA A 1 c 1) (q - 1) (c - 1) todo := ⟨h.out, h.que.cut, h.o1, h.o2⟩
end

/-- The first k beginnings are marked. -/
def Marks (N : Nat) (l : List Int) (k : Nat) (out : List Int) : Prop := out.length = N ∧ ∀ (j : Nat) (x : Int), out[j]? = some x → (x = 0 ∧ (j : Int) ∈ l.take k) ∨ (x = -1 ∧ ¬ (j : Int) ∈ l.take k)
theorem Marks.zero (N : Nat) (l : List Int) : Marks N l 0 (List.replicate N (-1)) := by
  refine ⟨by simp, fun j x hx => .inr ⟨?_, by simp⟩⟩
  exact List.eq_of_mem_replicate (List.mem_of_getElem? hx)
theorem Marks.step {N : Nat} {l : List Int} {k v : Nat} {out : List Int} (h : Marks N l k out) (hx : l[k]? = some (v : Int)) : Marks N l (k + 1) (out.set v 0) := by
  refine ⟨by rw [List.length_set]; exact h.1, fun j x hj => ?_⟩
  have hmem : ∀ i : Nat, (i : Int) ∈ l.take (k + 1) ↔ (i : Int) ∈ l.take k ∨ i = v := fun i => by
    rw [List.take_add_one, hx, List.mem_append]
    constructor
    · rintro (h1 | h1)
      · exact .inl h1
      · simp at h1
        exact .inr (by omega)
    · rintro (h1 | h1)
      · exact .inl h1
      · subst h1
        exact .inr (by simp)
  by_cases e : v = j
  · subst e
    have hl : v < out.length := by
      have := (List.getElem?_eq_some_iff.1 hj).1
      rwa [List.length_set] at this
    rw [List.getElem?_set_self hl] at hj
    exact .inl ⟨(Option.some.inj hj).symm, (hmem v).2 (.inr rfl)⟩
  · rw [List.getElem?_set_ne e] at hj
    rcases h.2 j x hj with ⟨h1, h2⟩ | ⟨h1, h2⟩
    · exact .inl ⟨h1, (hmem j).2 (.inl h2)⟩
    · exact .inr ⟨h1, fun hc => by
        rcases (hmem j).1 hc with h3 | h3
        · exact h2 h3
        · exact e h3.symm⟩
theorem Marks.all {N n : Nat} {l : List Int} {out : List Int} (h : Marks N l n out) (hl : l.length ≤ n) : ∀ (j : Nat) (x : Int), out[j]? = some x → (x = 0 ∧ srcE l j) ∨ (x = -1 ∧ ¬ srcE l j) := fun j x hx => by
  have := h.2 j x hx
  rwa [List.take_of_length_le hl] at this

/-- The edges looked at lead from k to what was found. -/
def FoundE (fw : Bool) (es : List Ed) (i : Nat) (k : Nat) (out : List Int) : Prop := ∀ b, arcE fw (es.take i) k b → ∃ y : Int, out[b]? = some y ∧ 0 ≤ y
theorem arc_take_succ {fw : Bool} {es : List Ed} {i : Nat} {e : Ed} (hx : es[i]? = some e) {a b : Nat} (h : arcE fw (es.take (i + 1)) a b) : arcE fw (es.take i) a b ∨ (if fw = true then e.1 = (a : Int) ∧ e.2.2 = (b : Int) else e.2.2 = (a : Int) ∧ e.1 = (b : Int)) := by
  obtain ⟨e', hm, h⟩ := h
  rw [List.take_add_one, hx, List.mem_append] at hm
  rcases hm with hm | hm
  · exact .inl ⟨e', hm, h⟩
  · simp at hm
    subst hm
    exact .inr h
theorem FoundE.zero (fw : Bool) (es : List Ed) (k : Nat) (out : List Int) : FoundE fw es 0 k out := by
  rintro b ⟨e, hm, _⟩
  simp at hm
theorem FoundE.skip {fw : Bool} {es : List Ed} {i k : Nat} {out : List Int} {e : Ed} (h : FoundE fw es i k out) (hx : es[i]? = some e)
    (hs : ∀ b : Nat, (if fw = true then e.1 = (k : Int) ∧ e.2.2 = (b : Int) else e.2.2 = (k : Int) ∧ e.1 = (b : Int)) → ∃ y : Int, out[b]? = some y ∧ 0 ≤ y) : FoundE fw es (i + 1) k out := fun b hb => by
  rcases arc_take_succ hx hb with h1 | h1
  · exact h b h1
  · exact hs b h1
theorem FoundE.set {fw : Bool} {es : List Ed} {i k : Nat} {out : List Int} (h : FoundE fw es i k out) (v : Nat) {x : Int} (hx : 0 ≤ x) (hv : v < out.length) : FoundE fw es i k (out.set v x) := fun b hb => by
  obtain ⟨y, hy, hy0⟩ := h b hb
  by_cases e : v = b
  · subst e
    exact ⟨x, List.getElem?_set_self hv, hx⟩
  · exact ⟨y, by rw [List.getElem?_set_ne e]; exact hy, hy0⟩
/-- What is told is not more than how many are told. -/
def BoundD (N : Nat) (out : List Int) : Prop := ∀ (j : Nat) (x : Int), out[j]? = some x → x + (negs out : Int) ≤ (N : Int)
theorem BoundD.set {N v : Nat} {out : List Int} (h : BoundD N out) {k : Nat} {m z : Int} (hk : out[k]? = some m) (hz : out[v]? = some z) (hz0 : z < 0) (hm : 0 ≤ m) : BoundD N (out.set v (m + 1)) := fun j x hj => by
  have hn := negs_set (v := m + 1) hz hz0 (by omega)
  have h1 := h k m hk
  by_cases e : v = j
  · subst e
    rw [List.getElem?_set_self (List.getElem?_eq_some_iff.1 hz).1] at hj
    have := Option.some.inj hj
    omega
  · rw [List.getElem?_set_ne e] at hj
    have := h j x hj
    omega
theorem map_nat_mem {l : List Int} (h : ∀ v ∈ l, 0 ≤ v) (k : Nat) : (k : Int) ∈ l ↔ k ∈ l.map Int.toNat := by
  constructor
  · intro hk
    exact List.mem_map.2 ⟨_, hk, Int.toNat_natCast k⟩
  · intro hk
    obtain ⟨v, hv, e⟩ := List.mem_map.1 hk
    have := h v hv
    rw [show (k : Int) = v by omega]
    exact hv
theorem cell_block {W : World} {p : Addr} {v : Value} (h : W.cell? p = some v) : p.block < W.heap.size := by
  unfold World.cell? at h
  cases hb : W.heap[p.block]? with
  | none => rw [hb] at h; cases h
  | some o => exact (Array.getElem?_eq_some_iff.1 hb).1

set_option maxRecDepth 100000 in
set_option maxHeartbeats 3200000 in
theorem distancesF_calls (N : Nat) (s1 : Int) (v2 : Value) (A3 : Option Addr) (n3 k3 : Nat) (A1 : Option Addr) (n1 c1 : Nat) (es : List Ed) (l : List Int) (w : World) (lo hi lo1 hi1 : Nat)
    (t3 : SlE w lo hi A3 n3 es) (t1 : SlI w lo1 hi1 A1 n1 l) (hes : n3 ≤ 1048576) (hn1 : n1 ≤ 1000) (hN1 : 1 ≤ N) (hN2 : N ≤ 40)
    (hedge : ∀ e ∈ es, (0 ≤ e.1 ∧ e.1 < (N : Int)) ∧ (0 ≤ e.2.2 ∧ e.2.2 < (N : Int))) (hin : ∀ v ∈ l, 0 ≤ v ∧ v < (N : Int)) :
    Calls Tryz.prog 69 #[.agg #[.int .i64 (N : Int), .int .i64 s1, v2, .slice A3 n3 k3], .slice A1 n1 c1, .bool true] w fun e w' => ∃ A c, e = .returned (.slice A N c) ∧ SlI w' w.heap.size w'.heap.size A N (distF true N es l) ∧ DistIs (srcE l) (arcE true es) N (distF true N es l) ∧ Below w.heap.size w w' := by
  have harc := hide (fun a k => arcE_in (es := es) (N := N) hedge (fw := true) a k)
  have hsrc : Hid (∀ k, srcE l k → k < N) := fun k hk => by have := hin k hk; omega
  have l3 := hide t3.len
  have l1 := hide t1.len
  have hb0 : Below w.heap.size w (w.alloc (.cells #[.int .i64 (N : Int), .int .i64 s1, v2, .slice A3 n3 k3] 33)) := (Below.refl _ _).alloc (Nat.le_refl _) _
  have kE := heap_alloc_new w (.cells #[.int .i64 (N : Int), .int .i64 s1, v2, .slice A3 n3 k3] 33)
  have hz : w.heap.size < (w.alloc (.cells #[.int .i64 (N : Int), .int .i64 s1, v2, .slice A3 n3 k3] 33)).heap.size := by rw [World.size_alloc]; omega
  replace t3 := hide (t3.below hb0 (.inr (Nat.le_refl _)))
  replace t1 := t1.below hb0 (.inr (Nat.le_refl _))
  have hz' := Nat.le_of_lt hz
  replace hb0 := hide hb0
  replace hedge := hide hedge
  replace hin := hide hin
  go_enter Tryz.func69, Tryz.ntmps69
  go_upto_region 1 with fail
  generalize (w.alloc (.cells #[.int .i64 (N : Int), .int .i64 s1, v2, .slice A3 n3 k3] 33)) = W0 at *
  generalize hbm : w.heap.size = bm at *
  have c0 : W0.cell? ⟨bm, 0, none⟩ = some (.int .i64 (N : Int)) := (cell_of_row _ _ 0 _ _ (0, 0) kE).trans rfl
  have c3 : W0.cell? ⟨bm, 3, none⟩ = some (.slice A3 n3 k3) := (cell_of_row _ _ 3 _ _ (0, 0) kE).trans rfl
  clear kE
  have hb1 : Below W0.heap.size W0 (W0.alloc (.cells #[.int .i64 (-1)] 2)) := (Below.refl _ _).alloc (Nat.le_refl _) _
  have d0 : (W0.alloc (.cells #[.int .i64 (-1)] 2)).cell? ⟨bm, 0, none⟩ = some (.int .i64 (N : Int)) := (hb1.cell (p := ⟨bm, 0, none⟩) hz).trans c0
  have q1 := hide (repeatI_calls (some ⟨W0.heap.size, 0, none⟩) 1 (-1) N _ _ _ (Sl.lit1' W0 2 (-1 : Int) _ rfl 1 _ rfl) hN1 (by omega))
  have hb1z := hb1.size
  replace hb1 := hide hb1
  go_wp2_with fail
  refine q1.out.mono ?_
  rintro e w1 ⟨Ao, rfl, ho1, hb2⟩
  have hbA := hb1.out.trans (hb2.mono hb1z)
  obtain ⟨bo, oo, rfl, hbo1, hbo2, -, -⟩ := ho1.at_ hN1
  have q2 := hide (cloneO_calls A1 n1 c1 l w1 lo1 hi1 (t1.below hbA (.inr (Nat.le_refl _))) (by omega))
  have ho1t : SlI w1 bo (bo + 1) (some ⟨bo, oo, none⟩) N (List.replicate N (-1)) := ho1.tight' hN1
  have hbow : W0.heap.size ≤ bo := Nat.le_trans hb1z hbo1
  replace hbA := hide hbA
  clear c0 d0 q1 ho1 hb2
  go_wp2_with fail
  refine q2.out.mono ?_
  rintro e w2 ⟨Aq, cq, rfl, hq1, hb3⟩
  have hM0 : MemD w2 bo oo N (List.replicate N (-1)) w1.heap.size Aq n1 cq l := ⟨ho1t.below hb3 (.inl (by omega)), OwnQ.of hq1, hbo2, hb3.size⟩
  have hbB := hide (hbA.out.trans (hb3.mono hbA.out.size))
  replace hM0 := hide hM0
  have hmk0 := hide (Marks.zero N l)
  have hqb : Hid (bo < w1.heap.size) := hbo2
  generalize w1.heap.size = qb at *
  clear q2 ho1t hq1 hb3 hbA
  go_upto_region 4 with fail
  go_loopw [24] (fun i wr => ∃ (k : Nat) (out : List Int), k ≤ n1 ∧ i = .int .i64 (k : Nat) ∧ Hid (MemD wr bo oo N out qb Aq n1 cq l) ∧ Hid (Marks N l k out) ∧ Below W0.heap.size W0 wr) (fun i _ => n1 - (intOf i).toNat)
  case atStart => exact ⟨0, _, Nat.zero_le _, rfl, hM0, hmk0, hbB.out⟩
  case round =>
    clear hM0 hmk0 hbB
    obtain ⟨k, out, hk, rfl, hM, hmk, hb⟩ := hrel
    by_cases hlt : k < n1
    · obtain ⟨b, off, x, rfl, -, -, g3, hx, p0, -⟩ := SlI.get t1 hlt
      have hxin := hin.out x (List.mem_of_getElem? hx)
      obtain ⟨v, rfl⟩ : ∃ v : Nat, x = (v : Int) := ⟨x.toNat, by omega⟩
      have hv : v < N := by omega
      have hvI : (v : Int) < (N : Int) := by omega
      replace p0 := (hb.cell (p := ⟨b, off + k, none⟩) g3).trans p0
      obtain ⟨b6, o6, z, e6, -, -, -, -, cz, fz⟩ := SlI.get hM.out.out hv
      cases e6
      have hM1 := hide (hM.out.put hv 0)
      have hmk1 := hide (hmk.out.step hx)
      replace hb := hide hb
      clear hx hxin hM hmk
      go_wp2_with fail
      go_roundw
      case rel => exact ⟨k + 1, _, by omega, by go_num, hM1, hmk1, hb.out.setCell hbow _⟩
      case measure => simp [intOf]; omega
    · have hkn : k = n1 := by omega
      subst hkn
      have hmarks := hmk.out.all (by rw [l1.out]; exact Nat.le_refl _)
      have hqs : Hid (QueIs (srcE l) (arcE true es) N out (l.map Int.toNat)) := QueIs.start _ _ hmk.out.1 hmarks (fun j => map_nat_mem (fun v hv => (hin.out v hv).1) j) hsrc.out
      have hng := negs_le out
      rw [hmk.out.1] at hng
      have hbd : Hid (BoundD N out) := fun j x hj => by
        rcases hmarks j x hj with ⟨h1, -⟩ | ⟨h1, -⟩ <;> omega
      have hpos : Hid (∀ v ∈ l, 0 ≤ v) := fun v hv => (hin.out v hv).1
      have hll := l1.out
      replace hll := hide hll
      replace hb := hide hb
      clear hmk t1
      go_wp2_with fail
      go_loopg [8] (k + N) (fun G v wr => ∃ (out todo : List Int) (A : Option Addr) (q c : Nat), v = .slice A q c ∧ Hid (MemD wr bo oo N out qb A q c todo) ∧ Hid (QueIs (srcE l) (arcE true es) N out (todo.map Int.toNat)) ∧ Hid (∀ v ∈ todo, 0 ≤ v) ∧ Hid (q + negs out ≤ 1040) ∧ Hid (BoundD N out) ∧ Below W0.heap.size W0 wr ∧ Hid (q + negs out ≤ G))
      case atStart => exact ⟨out, l, Aq, k, cq, rfl, hM, hqs, hpos, by show _ ≤ _; omega, hbd, hb.out, by show _ ≤ _; omega⟩
      case round =>
        clear hM hqs hpos hb hng hbd hmarks
        obtain ⟨out, todo, A, q, c, rfl, hM, hQ, hpos, hcap, hbd, hb, hG⟩ := hrel
        cases todo with
        | nil =>
          have hq0 : q = 0 := hM.out.que.len.symm
          subst hq0
          have hd := QueIs.done _ _ hQ.out (fun a k h => harc.out a k h) hsrc.out
          have hf := hide (distF_of hd)
          replace hd := hide hd
          have hs := hide hM.out.out
          have ho1 := hM.out.o1
          have ho2 := hM.out.o2
          clear hM hQ hpos hcap hG hbd
          go_wp2_with fail
          go_ret
          have hs9 := hs.out.more (show bm ≤ bo by omega) (show bo + 1 ≤ wr.heap.size by omega)
          exact ⟨_, _, rfl, by first | (rw [hf.out]; exact hs9) | (rw [hbm, hf.out]; exact hs9), by rw [hf.out]; exact hd.out, by first | exact hb0.out.trans (hb.mono hz') | (rw [hbm]; exact hb0.out.trans (hb.mono hz'))⟩
        | cons t todo =>
          obtain ⟨kn, rfl⟩ : ∃ kn : Nat, t = (kn : Int) := ⟨t.toNat, by have := hpos.out t (by simp); omega⟩
          obtain ⟨qg, qo, rfl, e0, hq0, hqc⟩ := hM.out.que.head
          have hcut : ∀ W : World, (Instr.slice 26 (.slice (some ⟨qg, qo, none⟩) q c) (some (.int .i64 1)) none none).run Tryz.prog W = .ok (.slice (cutA (some ⟨qg, qo, none⟩) 1 c 1) (q - 1) (c - 1)) W := fun W => run_cut elem_int64 (some ⟨qg, qo, none⟩) q c 1 (by omega) W
          have hM2 := hide hM.out.cut
          have hQ2 : Hid (QueIs (srcE l) (arcE true es) N out (kn :: todo.map Int.toNat)) := by have := hQ.out; rwa [List.map_cons, Int.toNat_natCast] at this
          have hpos2 : Hid (∀ v ∈ todo, 0 ≤ v) := fun v hv => hpos.out v (List.mem_cons_of_mem _ hv)
          obtain ⟨mk, hmk, hmk0⟩ := hQ2.out.todo_ kn (by simp)
          have hknN : kn < N := by have := (List.getElem?_eq_some_iff.1 hmk).1; rw [hQ2.out.len] at this; exact this
          obtain ⟨G2, rfl⟩ : ∃ G2, gk = G2 + 1 := ⟨gk - 1, by have := hG.out; omega⟩
          have hcap2 : Hid (q - 1 + negs out ≤ 1039) := by have := hcap.out; show _ ≤ _; omega
          have hG2 : Hid (q - 1 + negs out ≤ G2) := by have := hG.out; show _ ≤ _; omega
          have y3 := (hb.cell (p := ⟨bm, 3, none⟩) hz).trans c3
          have hfz := hide (FoundE.zero true es kn out)
          have hmkv : Hid (out[kn]? = some mk) := hmk
          replace hb := hide hb
          clear hM hQ hpos hcap hG hmk
          generalize cutA (some ⟨qg, qo, none⟩) 1 c 1 = AC at *
          generalize c - 1 = cc at *
          go_upto_region 12 with fail
          clear y3 e0 hcut
          obtain ⟨wo, rfl⟩ : ∃ wo : World, wo = wr := ⟨_, rfl⟩
          go_loopw [8, 43] (fun v i wr => ∃ (j : Nat) (out todo : List Int) (A : Option Addr) (q c : Nat), j ≤ n3 ∧ v = .slice A q c ∧ i = .int .i64 (j : Nat) ∧ Hid (MemD wr bo oo N out qb A q c todo) ∧ Hid (QueIs (srcE l) (arcE true es) N out (kn :: todo.map Int.toNat)) ∧ Hid (∀ v ∈ todo, 0 ≤ v) ∧ Hid (q + negs out ≤ 1039) ∧ Hid (BoundD N out) ∧ Hid (out[kn]? = some mk) ∧ Hid (FoundE true es j kn out) ∧ Below W0.heap.size W0 wr ∧ Hid (q + negs out ≤ G2)) (fun _ i _ => n3 - (intOf i).toNat)
          case atStart => exact ⟨0, out, todo, AC, _, _, Nat.zero_le _, rfl, rfl, hM2, hQ2, hpos2, hcap2, hbd, hmkv, hfz, hb.out, hG2⟩
          case round =>
            clear hM2 hQ2 hpos2 hcap2 hmkv hfz hb hG2 hbd
            obtain ⟨j, out, todo, A, q, c, hj, rfl, rfl, hM, hQ, hpos, hcap, hbd, hmk, hfo, hb, hG⟩ := hrel
            by_cases hlt : j < n3
            · obtain ⟨b, off, f, lb, tg, rfl, -, -, g3, hx, p0, p1, p2, -, -, -⟩ := SlE.get t3.out hlt
              replace p0 := (hb.cell g3).trans p0
              replace p1 := (hb.cell (p := ⟨b, off + j * 3 + 1, none⟩) g3).trans p1
              replace p2 := (hb.cell (p := ⟨b, off + j * 3 + 2, none⟩) g3).trans p2
              have hed := hedge.out _ (List.mem_of_getElem? hx)
              dsimp only at hed
              obtain ⟨fn, rfl⟩ : ∃ fn : Nat, f = (fn : Int) := ⟨f.toNat, by omega⟩
              obtain ⟨tn, rfl⟩ : ∃ tn : Nat, tg = (tn : Int) := ⟨tg.toNat, by omega⟩
              have hbN : tn < N := by omega
              have hbI : (tn : Int) < (N : Int) := by omega
              have hb0I : (0 : Int) ≤ (tn : Int) := by omega
              have hkI : (kn : Int) < (N : Int) := by omega
              have hk0I : (0 : Int) ≤ (kn : Int) := by omega
              have y3 := (hb.cell (p := ⟨bm, 3, none⟩) hz).trans c3
              have hI0 : (0 : Int) ≤ (j : Int) := by omega
              have hI1 : (j : Int) < (n3 : Int) := by omega
              have hbE : Below wr.heap.size wr (wr.alloc (.cells #[.int .i64 (fn : Int), .int .i64 lb, .int .i64 (tn : Int)] 86)) := (Below.refl _ _).alloc (Nat.le_refl _) _
              have kE := heap_alloc_new wr (.cells #[.int .i64 (fn : Int), .int .i64 lb, .int .i64 (tn : Int)] 86)
              have hbB := hide (hb.trans (hbE.mono hb.size))
              have hME := hide (hM.out.alloc (.cells #[.int .i64 (fn : Int), .int .i64 lb, .int .i64 (tn : Int)] 86))
              have z0 : (wr.alloc (.cells #[.int .i64 (fn : Int), .int .i64 lb, .int .i64 (tn : Int)] 86)).cell? ⟨wr.heap.size, 0, none⟩ = some (.int .i64 (fn : Int)) := (cell_of_row _ _ 0 _ _ (0, 0) kE).trans rfl
              have z2 : (wr.alloc (.cells #[.int .i64 (fn : Int), .int .i64 lb, .int .i64 (tn : Int)] 86)).cell? ⟨wr.heap.size, 2, none⟩ = some (.int .i64 (tn : Int)) := (cell_of_row _ _ 2 _ _ (0, 0) kE).trans rfl
              clear kE hbE hM hb
              go_upto_region 14 with fail
              clear p0 p1 p2 y3
              generalize (wr.alloc (.cells #[.int .i64 (fn : Int), .int .i64 lb, .int .i64 (tn : Int)] 86)) = WE at *
              go_quiet (fail)
              have hMq : Hid (MemD (WE.drewN nq) bo oo N out qb A q c todo) := hME.out.drewN nq
              have hBq : Hid (Below W0.heap.size W0 (WE.drewN nq)) := ⟨hbB.out.os, hbB.out.tape, hbB.out.output, hbB.out.size, hbB.out.block⟩
              clear z0 z2 hME hbB
              generalize WE.drewN nq = wq at *
              have hbg : tn < out.length := by rw [hQ.out.len]; exact hbN
              obtain ⟨b6, o6, z, e6, -, -, -, hz6, cz, fz⟩ := SlI.get hMq.out.out hbN
              cases e6
              obtain ⟨b7, o7, z7, e7, -, -, -, hz7, ck, -⟩ := SlI.get hMq.out.out hknN
              cases e7
              rw [hmk.out] at hz7
              obtain rfl : mk = z7 := Option.some.inj hz7
              by_cases hak : fn = kn
              · subst hak
                by_cases hz0 : z < 0
                · have harcE : arcE true es fn tn := ⟨_, List.mem_of_getElem? hx, by simp⟩
                  have hne : tn ≠ fn := by
                    intro e
                    rw [e] at hz6
                    rw [hmk.out] at hz6
                    have := Option.some.inj hz6
                    omega
                  have hQ9 : Hid (QueIs (srcE l) (arcE true es) N (out.set tn (mk + 1)) (fn :: (todo ++ [(tn : Int)]).map Int.toNat)) := by
                    have := QueIs.add _ _ hQ.out hmk.out hz6 hz0 harcE
                    show QueIs _ _ _ _ _
                    rw [List.map_append, List.map_cons, List.map_nil, Int.toNat_natCast]
                    exact this
                  have hmk9 : Hid ((out.set tn (mk + 1))[fn]? = some mk) := by show _ = _; rw [List.getElem?_set_ne hne]; exact hmk.out
                  have hfo9 : Hid (FoundE true es (j + 1) fn (out.set tn (mk + 1))) := (hfo.out.set tn (x := mk + 1) (by omega) hbg).skip hx (fun b hb => by
                    have hbb : b = tn := by simp at hb; omega
                    subst hbb
                    exact ⟨_, List.getElem?_set_self hbg, by omega⟩)
                  have hnegs := negs_set (v := mk + 1) hz6 hz0 (by omega)
                  have hbd9 := hide (hbd.out.set hmk.out hz6 hz0 (by obtain ⟨y, hy, hy0⟩ := hQ.out.todo_ fn (by simp); rw [hmk.out] at hy; cases hy; exact hy0))
                  have hmkb : mk ≤ 40 := by have := hbd.out fn mk hmk.out; omega
                  have hmk0 : 0 ≤ mk := by obtain ⟨y, hy, hy0⟩ := hQ.out.todo_ fn (by simp); rw [hmk.out] at hy; cases hy; exact hy0
                  have hM9 := (hMq.out.put hbN (mk + 1)).alloc (.cells #[.int .i64 (tn : Int)] 2)
                  have hqlen := hM9.que.len
                  have hcell0 := cell_one_new (wq.setCell ⟨bo, oo + tn, none⟩ (.int .i64 (mk + 1))) (.int .i64 (tn : Int)) 2 0 _ rfl
                  rw [addr_add, Nat.zero_add, World.size_setCell] at hcell0
                  replace hcell0 := hide hcell0
                  have hbp := hide ((hBq.out.setCell (p := ⟨bo, oo + tn, none⟩) hbow (.int .i64 (mk + 1))).alloc (by rw [World.size_setCell]; exact hBq.out.size) (.cells #[.int .i64 (tn : Int)] 2))
                  have hzq : qb ≤ ((wq.setCell ⟨bo, oo + tn, none⟩ (.int .i64 (mk + 1))).alloc (.cells #[.int .i64 (tn : Int)] 2)).heap.size := hM9.o2
                  have hq9 : q + 1 ≤ 1048576 := by have := hcap.out; omega
                  have hcap9 : Hid (q + 1 + negs (out.set tn (mk + 1)) ≤ 1039) := by have := hcap.out; show _ ≤ _; omega
                  have hG9 : Hid (q + 1 + negs (out.set tn (mk + 1)) ≤ G2) := by have := hG.out; show _ ≤ _; omega
                  have hpos9 : Hid (∀ v ∈ todo ++ [(tn : Int)], 0 ≤ v) := fun v hv => by
                    rcases List.mem_append.1 hv with h1 | h1
                    · exact hpos.out v h1
                    · have : v = (tn : Int) := by simpa using h1
                      omega
                  have hqbo : W0.heap.size ≤ qb := by have := hM9.o1; omega
                  have d2 : decide (z < (0 : Int)) = true := decide_eq_true hz0
                  replace hM9 := hide hM9
                  clear hx hed hz6 hz0 hne hbd hnegs hmk hfo hQ hpos hcap hG hMq hBq harcE hqlen
                  go_wp2_with (first
                    | (at_builtin; (with_reducible refine wpList_appQ rfl (.tmp 73) (.tmp 75) rfl rfl hM9.out.que ⟨wq.heap.size, 0, none⟩ 1 (tn : Int) rfl hcell0.out hq9 hzq ?_); intro A5 c5 w5 hown5 hgr5 hb5 _))
                  have hM5 := hide (hM9.out.app hown5 hgr5)
                  have hb6 := hide (hbp.out.trans (hb5.mono hqbo))
                  clear hown5 hgr5 hb5 hM9
                  go_roundw
                  case rel => exact ⟨j + 1, _, _, A5, q + 1, c5, by omega, rfl, by go_num, hM5, hQ9, hpos9, hcap9, hbd9, hmk9, hfo9, hb6.out, hG9⟩
                  case measure => simp [intOf]; omega
                · have hfo9 : Hid (FoundE true es (j + 1) fn out) := hfo.out.skip hx (fun b hb => by
                    have hbb : b = tn := by simp at hb; omega
                    subst hbb
                    exact ⟨z, hz6, by omega⟩)
                  have d2 : decide (z < (0 : Int)) = false := decide_eq_false hz0
                  clear hx hed hz6
                  go_wp2_with fail
                  go_roundw
                  case rel => exact ⟨j + 1, _, _, A, q, c, by omega, rfl, by go_num, hMq, hQ, hpos, hcap, hbd, hmk, hfo9, hBq.out, hG⟩
                  case measure => simp [intOf]; omega
              · have hfo9 : Hid (FoundE true es (j + 1) kn out) := hfo.out.skip hx (fun b hb => by
                  exfalso
                  simp at hb
                  omega)
                have hne : ((fn : Int) == (kn : Int)) = false := by rw [beq_eq_false_iff_ne]; omega
                clear hx hed hz6
                go_wp2_with fail
                go_roundw
                case rel => exact ⟨j + 1, _, _, A, q, c, by omega, rfl, by go_num, hMq, hQ, hpos, hcap, hbd, hmk, hfo9, hBq.out, hG⟩
                case measure => simp [intOf]; omega
            · have hjn : j = n3 := by omega
              subst hjn
              have hQ9 : Hid (QueIs (srcE l) (arcE true es) N out (todo.map Int.toNat)) := QueIs.pop _ _ hQ.out (fun b hb => hfo.out b (by rw [List.take_of_length_le (by rw [l3.out]; exact Nat.le_refl _)]; exact hb))
              have hcap9 : Hid (q + negs out ≤ 1040) := by have := hcap.out; show _ ≤ _; omega
              replace hb := hide hb
              clear hQ hcap hfo hmk
              go_wp2_with fail
              go_roundg G2
              case measure => omega
              case rel => exact ⟨out, todo, A, q, c, rfl, hM, hQ9, hpos, hcap9, hbd, hb.out, hG⟩

set_option maxRecDepth 100000 in
set_option maxHeartbeats 3200000 in
theorem distancesB_calls (N : Nat) (s1 : Int) (v2 : Value) (A3 : Option Addr) (n3 k3 : Nat) (A1 : Option Addr) (n1 c1 : Nat) (es : List Ed) (l : List Int) (w : World) (lo hi lo1 hi1 : Nat)
    (t3 : SlE w lo hi A3 n3 es) (t1 : SlI w lo1 hi1 A1 n1 l) (hes : n3 ≤ 1048576) (hn1 : n1 ≤ 1000) (hN1 : 1 ≤ N) (hN2 : N ≤ 40)
    (hedge : ∀ e ∈ es, (0 ≤ e.1 ∧ e.1 < (N : Int)) ∧ (0 ≤ e.2.2 ∧ e.2.2 < (N : Int))) (hin : ∀ v ∈ l, 0 ≤ v ∧ v < (N : Int)) :
    Calls Tryz.prog 69 #[.agg #[.int .i64 (N : Int), .int .i64 s1, v2, .slice A3 n3 k3], .slice A1 n1 c1, .bool false] w fun e w' => ∃ A c, e = .returned (.slice A N c) ∧ SlI w' w.heap.size w'.heap.size A N (distF false N es l) ∧ DistIs (srcE l) (arcE false es) N (distF false N es l) ∧ Below w.heap.size w w' := by
  have harc := hide (fun a k => arcE_in (es := es) (N := N) hedge (fw := false) a k)
  have hsrc : Hid (∀ k, srcE l k → k < N) := fun k hk => by have := hin k hk; omega
  have l3 := hide t3.len
  have l1 := hide t1.len
  have hb0 : Below w.heap.size w (w.alloc (.cells #[.int .i64 (N : Int), .int .i64 s1, v2, .slice A3 n3 k3] 33)) := (Below.refl _ _).alloc (Nat.le_refl _) _
  have kE := heap_alloc_new w (.cells #[.int .i64 (N : Int), .int .i64 s1, v2, .slice A3 n3 k3] 33)
  have hz : w.heap.size < (w.alloc (.cells #[.int .i64 (N : Int), .int .i64 s1, v2, .slice A3 n3 k3] 33)).heap.size := by rw [World.size_alloc]; omega
  replace t3 := hide (t3.below hb0 (.inr (Nat.le_refl _)))
  replace t1 := t1.below hb0 (.inr (Nat.le_refl _))
  have hz' := Nat.le_of_lt hz
  replace hb0 := hide hb0
  replace hedge := hide hedge
  replace hin := hide hin
  go_enter Tryz.func69, Tryz.ntmps69
  go_upto_region 1 with fail
  generalize (w.alloc (.cells #[.int .i64 (N : Int), .int .i64 s1, v2, .slice A3 n3 k3] 33)) = W0 at *
  generalize hbm : w.heap.size = bm at *
  have c0 : W0.cell? ⟨bm, 0, none⟩ = some (.int .i64 (N : Int)) := (cell_of_row _ _ 0 _ _ (0, 0) kE).trans rfl
  have c3 : W0.cell? ⟨bm, 3, none⟩ = some (.slice A3 n3 k3) := (cell_of_row _ _ 3 _ _ (0, 0) kE).trans rfl
  clear kE
  have hb1 : Below W0.heap.size W0 (W0.alloc (.cells #[.int .i64 (-1)] 2)) := (Below.refl _ _).alloc (Nat.le_refl _) _
  have d0 : (W0.alloc (.cells #[.int .i64 (-1)] 2)).cell? ⟨bm, 0, none⟩ = some (.int .i64 (N : Int)) := (hb1.cell (p := ⟨bm, 0, none⟩) hz).trans c0
  have q1 := hide (repeatI_calls (some ⟨W0.heap.size, 0, none⟩) 1 (-1) N _ _ _ (Sl.lit1' W0 2 (-1 : Int) _ rfl 1 _ rfl) hN1 (by omega))
  have hb1z := hb1.size
  replace hb1 := hide hb1
  go_wp2_with fail
  refine q1.out.mono ?_
  rintro e w1 ⟨Ao, rfl, ho1, hb2⟩
  have hbA := hb1.out.trans (hb2.mono hb1z)
  obtain ⟨bo, oo, rfl, hbo1, hbo2, -, -⟩ := ho1.at_ hN1
  have q2 := hide (cloneO_calls A1 n1 c1 l w1 lo1 hi1 (t1.below hbA (.inr (Nat.le_refl _))) (by omega))
  have ho1t : SlI w1 bo (bo + 1) (some ⟨bo, oo, none⟩) N (List.replicate N (-1)) := ho1.tight' hN1
  have hbow : W0.heap.size ≤ bo := Nat.le_trans hb1z hbo1
  replace hbA := hide hbA
  clear c0 d0 q1 ho1 hb2
  go_wp2_with fail
  refine q2.out.mono ?_
  rintro e w2 ⟨Aq, cq, rfl, hq1, hb3⟩
  have hM0 : MemD w2 bo oo N (List.replicate N (-1)) w1.heap.size Aq n1 cq l := ⟨ho1t.below hb3 (.inl (by omega)), OwnQ.of hq1, hbo2, hb3.size⟩
  have hbB := hide (hbA.out.trans (hb3.mono hbA.out.size))
  replace hM0 := hide hM0
  have hmk0 := hide (Marks.zero N l)
  have hqb : Hid (bo < w1.heap.size) := hbo2
  generalize w1.heap.size = qb at *
  clear q2 ho1t hq1 hb3 hbA
  go_upto_region 4 with fail
  go_loopw [24] (fun i wr => ∃ (k : Nat) (out : List Int), k ≤ n1 ∧ i = .int .i64 (k : Nat) ∧ Hid (MemD wr bo oo N out qb Aq n1 cq l) ∧ Hid (Marks N l k out) ∧ Below W0.heap.size W0 wr) (fun i _ => n1 - (intOf i).toNat)
  case atStart => exact ⟨0, _, Nat.zero_le _, rfl, hM0, hmk0, hbB.out⟩
  case round =>
    clear hM0 hmk0 hbB
    obtain ⟨k, out, hk, rfl, hM, hmk, hb⟩ := hrel
    by_cases hlt : k < n1
    · obtain ⟨b, off, x, rfl, -, -, g3, hx, p0, -⟩ := SlI.get t1 hlt
      have hxin := hin.out x (List.mem_of_getElem? hx)
      obtain ⟨v, rfl⟩ : ∃ v : Nat, x = (v : Int) := ⟨x.toNat, by omega⟩
      have hv : v < N := by omega
      have hvI : (v : Int) < (N : Int) := by omega
      replace p0 := (hb.cell (p := ⟨b, off + k, none⟩) g3).trans p0
      obtain ⟨b6, o6, z, e6, -, -, -, -, cz, fz⟩ := SlI.get hM.out.out hv
      cases e6
      have hM1 := hide (hM.out.put hv 0)
      have hmk1 := hide (hmk.out.step hx)
      replace hb := hide hb
      clear hx hxin hM hmk
      go_wp2_with fail
      go_roundw
      case rel => exact ⟨k + 1, _, by omega, by go_num, hM1, hmk1, hb.out.setCell hbow _⟩
      case measure => simp [intOf]; omega
    · have hkn : k = n1 := by omega
      subst hkn
      have hmarks := hmk.out.all (by rw [l1.out]; exact Nat.le_refl _)
      have hqs : Hid (QueIs (srcE l) (arcE false es) N out (l.map Int.toNat)) := QueIs.start _ _ hmk.out.1 hmarks (fun j => map_nat_mem (fun v hv => (hin.out v hv).1) j) hsrc.out
      have hng := negs_le out
      rw [hmk.out.1] at hng
      have hbd : Hid (BoundD N out) := fun j x hj => by
        rcases hmarks j x hj with ⟨h1, -⟩ | ⟨h1, -⟩ <;> omega
      have hpos : Hid (∀ v ∈ l, 0 ≤ v) := fun v hv => (hin.out v hv).1
      have hll := l1.out
      replace hll := hide hll
      replace hb := hide hb
      clear hmk t1
      go_wp2_with fail
      go_loopg [8] (k + N) (fun G v wr => ∃ (out todo : List Int) (A : Option Addr) (q c : Nat), v = .slice A q c ∧ Hid (MemD wr bo oo N out qb A q c todo) ∧ Hid (QueIs (srcE l) (arcE false es) N out (todo.map Int.toNat)) ∧ Hid (∀ v ∈ todo, 0 ≤ v) ∧ Hid (q + negs out ≤ 1040) ∧ Hid (BoundD N out) ∧ Below W0.heap.size W0 wr ∧ Hid (q + negs out ≤ G))
      case atStart => exact ⟨out, l, Aq, k, cq, rfl, hM, hqs, hpos, by show _ ≤ _; omega, hbd, hb.out, by show _ ≤ _; omega⟩
      case round =>
        clear hM hqs hpos hb hng hbd hmarks
        obtain ⟨out, todo, A, q, c, rfl, hM, hQ, hpos, hcap, hbd, hb, hG⟩ := hrel
        cases todo with
        | nil =>
          have hq0 : q = 0 := hM.out.que.len.symm
          subst hq0
          have hd := QueIs.done _ _ hQ.out (fun a k h => harc.out a k h) hsrc.out
          have hf := hide (distF_of hd)
          replace hd := hide hd
          have hs := hide hM.out.out
          have ho1 := hM.out.o1
          have ho2 := hM.out.o2
          clear hM hQ hpos hcap hG hbd
          go_wp2_with fail
          go_ret
          have hs9 := hs.out.more (show bm ≤ bo by omega) (show bo + 1 ≤ wr.heap.size by omega)
          exact ⟨_, _, rfl, by first | (rw [hf.out]; exact hs9) | (rw [hbm, hf.out]; exact hs9), by rw [hf.out]; exact hd.out, by first | exact hb0.out.trans (hb.mono hz') | (rw [hbm]; exact hb0.out.trans (hb.mono hz'))⟩
        | cons t todo =>
          obtain ⟨kn, rfl⟩ : ∃ kn : Nat, t = (kn : Int) := ⟨t.toNat, by have := hpos.out t (by simp); omega⟩
          obtain ⟨qg, qo, rfl, e0, hq0, hqc⟩ := hM.out.que.head
          have hcut : ∀ W : World, (Instr.slice 26 (.slice (some ⟨qg, qo, none⟩) q c) (some (.int .i64 1)) none none).run Tryz.prog W = .ok (.slice (cutA (some ⟨qg, qo, none⟩) 1 c 1) (q - 1) (c - 1)) W := fun W => run_cut elem_int64 (some ⟨qg, qo, none⟩) q c 1 (by omega) W
          have hM2 := hide hM.out.cut
          have hQ2 : Hid (QueIs (srcE l) (arcE false es) N out (kn :: todo.map Int.toNat)) := by have := hQ.out; rwa [List.map_cons, Int.toNat_natCast] at this
          have hpos2 : Hid (∀ v ∈ todo, 0 ≤ v) := fun v hv => hpos.out v (List.mem_cons_of_mem _ hv)
          obtain ⟨mk, hmk, hmk0⟩ := hQ2.out.todo_ kn (by simp)
          have hknN : kn < N := by have := (List.getElem?_eq_some_iff.1 hmk).1; rw [hQ2.out.len] at this; exact this
          obtain ⟨G2, rfl⟩ : ∃ G2, gk = G2 + 1 := ⟨gk - 1, by have := hG.out; omega⟩
          have hcap2 : Hid (q - 1 + negs out ≤ 1039) := by have := hcap.out; show _ ≤ _; omega
          have hG2 : Hid (q - 1 + negs out ≤ G2) := by have := hG.out; show _ ≤ _; omega
          have y3 := (hb.cell (p := ⟨bm, 3, none⟩) hz).trans c3
          have hfz := hide (FoundE.zero false es kn out)
          have hmkv : Hid (out[kn]? = some mk) := hmk
          replace hb := hide hb
          clear hM hQ hpos hcap hG hmk
          generalize cutA (some ⟨qg, qo, none⟩) 1 c 1 = AC at *
          generalize c - 1 = cc at *
          go_upto_region 12 with fail
          clear y3 e0 hcut
          obtain ⟨wo, rfl⟩ : ∃ wo : World, wo = wr := ⟨_, rfl⟩
          go_loopw [8, 43] (fun v i wr => ∃ (j : Nat) (out todo : List Int) (A : Option Addr) (q c : Nat), j ≤ n3 ∧ v = .slice A q c ∧ i = .int .i64 (j : Nat) ∧ Hid (MemD wr bo oo N out qb A q c todo) ∧ Hid (QueIs (srcE l) (arcE false es) N out (kn :: todo.map Int.toNat)) ∧ Hid (∀ v ∈ todo, 0 ≤ v) ∧ Hid (q + negs out ≤ 1039) ∧ Hid (BoundD N out) ∧ Hid (out[kn]? = some mk) ∧ Hid (FoundE false es j kn out) ∧ Below W0.heap.size W0 wr ∧ Hid (q + negs out ≤ G2)) (fun _ i _ => n3 - (intOf i).toNat)
          case atStart => exact ⟨0, out, todo, AC, _, _, Nat.zero_le _, rfl, rfl, hM2, hQ2, hpos2, hcap2, hbd, hmkv, hfz, hb.out, hG2⟩
          case round =>
            clear hM2 hQ2 hpos2 hcap2 hmkv hfz hb hG2 hbd
            obtain ⟨j, out, todo, A, q, c, hj, rfl, rfl, hM, hQ, hpos, hcap, hbd, hmk, hfo, hb, hG⟩ := hrel
            by_cases hlt : j < n3
            · obtain ⟨b, off, f, lb, tg, rfl, -, -, g3, hx, p0, p1, p2, -, -, -⟩ := SlE.get t3.out hlt
              replace p0 := (hb.cell g3).trans p0
              replace p1 := (hb.cell (p := ⟨b, off + j * 3 + 1, none⟩) g3).trans p1
              replace p2 := (hb.cell (p := ⟨b, off + j * 3 + 2, none⟩) g3).trans p2
              have hed := hedge.out _ (List.mem_of_getElem? hx)
              dsimp only at hed
              obtain ⟨fn, rfl⟩ : ∃ fn : Nat, f = (fn : Int) := ⟨f.toNat, by omega⟩
              obtain ⟨tn, rfl⟩ : ∃ tn : Nat, tg = (tn : Int) := ⟨tg.toNat, by omega⟩
              have hbN : fn < N := by omega
              have hbI : (fn : Int) < (N : Int) := by omega
              have hb0I : (0 : Int) ≤ (fn : Int) := by omega
              have hkI : (kn : Int) < (N : Int) := by omega
              have hk0I : (0 : Int) ≤ (kn : Int) := by omega
              have y3 := (hb.cell (p := ⟨bm, 3, none⟩) hz).trans c3
              have hI0 : (0 : Int) ≤ (j : Int) := by omega
              have hI1 : (j : Int) < (n3 : Int) := by omega
              have hbE : Below wr.heap.size wr (wr.alloc (.cells #[.int .i64 (fn : Int), .int .i64 lb, .int .i64 (tn : Int)] 86)) := (Below.refl _ _).alloc (Nat.le_refl _) _
              have kE := heap_alloc_new wr (.cells #[.int .i64 (fn : Int), .int .i64 lb, .int .i64 (tn : Int)] 86)
              have hbB := hide (hb.trans (hbE.mono hb.size))
              have hME := hide (hM.out.alloc (.cells #[.int .i64 (fn : Int), .int .i64 lb, .int .i64 (tn : Int)] 86))
              have z0 : (wr.alloc (.cells #[.int .i64 (fn : Int), .int .i64 lb, .int .i64 (tn : Int)] 86)).cell? ⟨wr.heap.size, 0, none⟩ = some (.int .i64 (fn : Int)) := (cell_of_row _ _ 0 _ _ (0, 0) kE).trans rfl
              have z2 : (wr.alloc (.cells #[.int .i64 (fn : Int), .int .i64 lb, .int .i64 (tn : Int)] 86)).cell? ⟨wr.heap.size, 2, none⟩ = some (.int .i64 (tn : Int)) := (cell_of_row _ _ 2 _ _ (0, 0) kE).trans rfl
              clear kE hbE hM hb
              go_upto_region 14 with fail
              clear p0 p1 p2 y3
              generalize (wr.alloc (.cells #[.int .i64 (fn : Int), .int .i64 lb, .int .i64 (tn : Int)] 86)) = WE at *
              go_quiet (fail)
              have hMq : Hid (MemD (WE.drewN nq) bo oo N out qb A q c todo) := hME.out.drewN nq
              have hBq : Hid (Below W0.heap.size W0 (WE.drewN nq)) := ⟨hbB.out.os, hbB.out.tape, hbB.out.output, hbB.out.size, hbB.out.block⟩
              clear z0 z2 hME hbB
              generalize WE.drewN nq = wq at *
              have hbg : fn < out.length := by rw [hQ.out.len]; exact hbN
              obtain ⟨b6, o6, z, e6, -, -, -, hz6, cz, fz⟩ := SlI.get hMq.out.out hbN
              cases e6
              obtain ⟨b7, o7, z7, e7, -, -, -, hz7, ck, -⟩ := SlI.get hMq.out.out hknN
              cases e7
              rw [hmk.out] at hz7
              obtain rfl : mk = z7 := Option.some.inj hz7
              by_cases hak : tn = kn
              · subst hak
                by_cases hz0 : z < 0
                · have harcE : arcE false es tn fn := ⟨_, List.mem_of_getElem? hx, by simp⟩
                  have hne : fn ≠ tn := by
                    intro e
                    rw [e] at hz6
                    rw [hmk.out] at hz6
                    have := Option.some.inj hz6
                    omega
                  have hQ9 : Hid (QueIs (srcE l) (arcE false es) N (out.set fn (mk + 1)) (tn :: (todo ++ [(fn : Int)]).map Int.toNat)) := by
                    have := QueIs.add _ _ hQ.out hmk.out hz6 hz0 harcE
                    show QueIs _ _ _ _ _
                    rw [List.map_append, List.map_cons, List.map_nil, Int.toNat_natCast]
                    exact this
                  have hmk9 : Hid ((out.set fn (mk + 1))[tn]? = some mk) := by show _ = _; rw [List.getElem?_set_ne hne]; exact hmk.out
                  have hfo9 : Hid (FoundE false es (j + 1) tn (out.set fn (mk + 1))) := (hfo.out.set fn (x := mk + 1) (by omega) hbg).skip hx (fun b hb => by
                    have hbb : b = fn := by simp at hb; omega
                    subst hbb
                    exact ⟨_, List.getElem?_set_self hbg, by omega⟩)
                  have hnegs := negs_set (v := mk + 1) hz6 hz0 (by omega)
                  have hbd9 := hide (hbd.out.set hmk.out hz6 hz0 (by obtain ⟨y, hy, hy0⟩ := hQ.out.todo_ tn (by simp); rw [hmk.out] at hy; cases hy; exact hy0))
                  have hmkb : mk ≤ 40 := by have := hbd.out tn mk hmk.out; omega
                  have hmk0 : 0 ≤ mk := by obtain ⟨y, hy, hy0⟩ := hQ.out.todo_ tn (by simp); rw [hmk.out] at hy; cases hy; exact hy0
                  have hM9 := (hMq.out.put hbN (mk + 1)).alloc (.cells #[.int .i64 (fn : Int)] 2)
                  have hqlen := hM9.que.len
                  have hcell0 := cell_one_new (wq.setCell ⟨bo, oo + fn, none⟩ (.int .i64 (mk + 1))) (.int .i64 (fn : Int)) 2 0 _ rfl
                  rw [addr_add, Nat.zero_add, World.size_setCell] at hcell0
                  replace hcell0 := hide hcell0
                  have hbp := hide ((hBq.out.setCell (p := ⟨bo, oo + fn, none⟩) hbow (.int .i64 (mk + 1))).alloc (by rw [World.size_setCell]; exact hBq.out.size) (.cells #[.int .i64 (fn : Int)] 2))
                  have hzq : qb ≤ ((wq.setCell ⟨bo, oo + fn, none⟩ (.int .i64 (mk + 1))).alloc (.cells #[.int .i64 (fn : Int)] 2)).heap.size := hM9.o2
                  have hq9 : q + 1 ≤ 1048576 := by have := hcap.out; omega
                  have hcap9 : Hid (q + 1 + negs (out.set fn (mk + 1)) ≤ 1039) := by have := hcap.out; show _ ≤ _; omega
                  have hG9 : Hid (q + 1 + negs (out.set fn (mk + 1)) ≤ G2) := by have := hG.out; show _ ≤ _; omega
                  have hpos9 : Hid (∀ v ∈ todo ++ [(fn : Int)], 0 ≤ v) := fun v hv => by
                    rcases List.mem_append.1 hv with h1 | h1
                    · exact hpos.out v h1
                    · have : v = (fn : Int) := by simpa using h1
                      omega
                  have hqbo : W0.heap.size ≤ qb := by have := hM9.o1; omega
                  have d2 : decide (z < (0 : Int)) = true := decide_eq_true hz0
                  replace hM9 := hide hM9
                  clear hx hed hz6 hz0 hne hbd hnegs hmk hfo hQ hpos hcap hG hMq hBq harcE hqlen
                  go_wp2_with (first
                    | (at_builtin; (with_reducible refine wpList_appQ rfl (.tmp 73) (.tmp 75) rfl rfl hM9.out.que ⟨wq.heap.size, 0, none⟩ 1 (fn : Int) rfl hcell0.out hq9 hzq ?_); intro A5 c5 w5 hown5 hgr5 hb5 _))
                  have hM5 := hide (hM9.out.app hown5 hgr5)
                  have hb6 := hide (hbp.out.trans (hb5.mono hqbo))
                  clear hown5 hgr5 hb5 hM9
                  go_roundw
                  case rel => exact ⟨j + 1, _, _, A5, q + 1, c5, by omega, rfl, by go_num, hM5, hQ9, hpos9, hcap9, hbd9, hmk9, hfo9, hb6.out, hG9⟩
                  case measure => simp [intOf]; omega
                · have hfo9 : Hid (FoundE false es (j + 1) tn out) := hfo.out.skip hx (fun b hb => by
                    have hbb : b = fn := by simp at hb; omega
                    subst hbb
                    exact ⟨z, hz6, by omega⟩)
                  have d2 : decide (z < (0 : Int)) = false := decide_eq_false hz0
                  clear hx hed hz6
                  go_wp2_with fail
                  go_roundw
                  case rel => exact ⟨j + 1, _, _, A, q, c, by omega, rfl, by go_num, hMq, hQ, hpos, hcap, hbd, hmk, hfo9, hBq.out, hG⟩
                  case measure => simp [intOf]; omega
              · have hfo9 : Hid (FoundE false es (j + 1) kn out) := hfo.out.skip hx (fun b hb => by
                  exfalso
                  simp at hb
                  omega)
                have hne : ((tn : Int) == (kn : Int)) = false := by rw [beq_eq_false_iff_ne]; omega
                clear hx hed hz6
                go_wp2_with fail
                go_roundw
                case rel => exact ⟨j + 1, _, _, A, q, c, by omega, rfl, by go_num, hMq, hQ, hpos, hcap, hbd, hmk, hfo9, hBq.out, hG⟩
                case measure => simp [intOf]; omega
            · have hjn : j = n3 := by omega
              subst hjn
              have hQ9 : Hid (QueIs (srcE l) (arcE false es) N out (todo.map Int.toNat)) := QueIs.pop _ _ hQ.out (fun b hb => hfo.out b (by rw [List.take_of_length_le (by rw [l3.out]; exact Nat.le_refl _)]; exact hb))
              have hcap9 : Hid (q + negs out ≤ 1040) := by have := hcap.out; show _ ≤ _; omega
              replace hb := hide hb
              clear hQ hcap hfo hmk
              go_wp2_with fail
              go_roundg G2
              case measure => omega
              case rel => exact ⟨out, todo, A, q, c, rfl, hM, hQ9, hpos, hcap9, hbd, hb.out, hG⟩

end Go.Proofs.YtiaclddgllkgpaaGreatDoor
