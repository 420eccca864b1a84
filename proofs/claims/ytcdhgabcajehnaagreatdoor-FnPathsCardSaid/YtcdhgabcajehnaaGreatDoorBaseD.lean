/-
  Several texts in one:
  Distances, by the program: a queue. Conditions: sizes.
  Shortest paths from both ends; ways along numbered edges: plain. Conditions: none.
  Literals as lists of the call's own, cells set in them, and append at a step of a region that draws its order. Conditions: sizes.
  A growing row of lists of numbers, each in a block of its own. Conditions: none.
  slices.IndexFunc on rows of numbers and on edges: the first at which the test holds; slices.Equal on numbers. Conditions: at most 1048576 elements.
  The source of choices: a cell with the bytes, how far they are read, and a number that goes on behind them. Conditions: fewer than 10^9 choices are drawn.
  What drawing leaves, one of a list, and the source made from bytes: words for all drawing functions. Conditions: fewer than 10^9 choices.
  Finding a text in a list, the ends of edges with a label, and whether lists of texts are the same, by the reference. Conditions: sizes.
  Tables of answers, and least sets of pairs: plain. Conditions: none.
  What internal edges reach from some states: plain. Conditions: none.
  Rounds of simulations: plain. Conditions: none.
  The order of labels, and what sorting and compacting them gives: plain. Conditions: none.
-/
import Derived.Test.YtcdhgabcajehnaaGreatDoorBaseA
import Derived.Test.YtcdhgabcajehnaaGreatDoorBaseB
import Derived.Test.YtcdhgabcajehnaaGreatDoorBaseC
import Derived.StillTailTactics
import Derived.Deep.LoopGhost
import Derived.Deep.RegionLaw
import Derived.Test.YtcdhgabcajehnaaGreatDoorChecked
import Derived.Deep.QuietTactic
import Derived.BigQuiet
import Derived.Deep.CutBlock
import Derived.Deep.DeepCutAuto
import Derived.Shelf.Strings.Builder1
import Derived.Shelf.Strings.Builder2
import Derived.Shelf.Strings.OnBuilder
import Derived.Shelf.Small.Bits
import Derived.Shelf.Small.Strs
import Derived.Shelf.Strings.BuilderF
import Derived.Shelf.Strings.BuilderK
import Derived.Shelf.Utf8.RuneCount
import Derived.Shelf.Strings.Builder2Cap
import Derived.Shelf.Strconv.Itoa0
import Derived.Shelf.Strconv.Itoa1
import Derived.Shelf.LaysM
import Derived.Shelf.Strconv.Itoa2
import Derived.Shelf.Strconv.Itoa3
import Derived.Shelf.Strconv.Itoa4
import Derived.Shelf.Strconv.ParseIntEmpty
import Derived.Shelf.Strconv.Clone
import Derived.Shelf.Strconv.SyntaxError
import Derived.Shelf.LaysC
import Derived.Shelf.Strconv.ToError
import Derived.Shelf.Strconv.Lower
import Derived.Shelf.Strconv.ParseUint10
import Derived.Shelf.Strconv.ParseUint10Empty
import Derived.Shelf.Strconv.ParseUint10Any
import Derived.Shelf.Strconv.ParseInt10
import Derived.Shelf.Strconv.RangeError
import Derived.Shelf.Strconv.ToErrorRange
import Derived.Shelf.Strconv.ParseUintEmpty
import Derived.Shelf.Strconv.ParseUint10b64
import Derived.Shelf.Strconv.ParseUint10b32
import Derived.Shelf.Strconv.ParseUint10b16
import Derived.Shelf.Strconv.ParseUint10b8
import Derived.Shelf.Strconv.ParseUint10At
import Derived.Shelf.Strconv.ParseInt10At64
import Derived.Shelf.Strconv.ParseInt10At32
import Derived.Shelf.Strconv.ParseInt10At16
import Derived.Shelf.Strconv.ParseInt10At8
import Derived.Shelf.Strconv.ParseInt10All
import Derived.Shelf.Strconv.ParseIntPublic10
import Derived.Shelf.Strconv.ErrVarParseInt
import Derived.Shelf.Strings.Search1
import Derived.Shelf.Strings.Search2
import Derived.Shelf.Strings.Search3
import Derived.Shelf.Strings.Cut
import Derived.Shelf.Strings.Count
import Derived.Shelf.Strings.Shaped
import Derived.Shelf.Strings.Prefix
import Derived.Shelf.Strings.Split
import Derived.Shelf.Strings.SplitShaped
import Derived.Shelf.Unicode.Decode
import Derived.Shelf.Strings.RuneCount
import Derived.Shelf.Strings.Explode
import Derived.Shelf.Bits.Mul64
import Derived.Shelf.Unicode.DecodeSlow
import Derived.Shelf.Unicode.DecodeAny
import Derived.Shelf.Strings.BuilderCap
import Derived.Shelf.Slices.Turned
import Derived.Ground.Names2Prog
import Derived.Shelf.Slices.Clone
import Derived.Shelf.Slices.CompactS
import Derived.Shelf.Slices.Cells
import Derived.Ground.SlgnProg
import Derived.Shelf.SlicesG.Turned
import Derived.Shelf.SlicesG.Equal
import Derived.Shelf.SlicesG.Clone
import Derived.Shelf.SlicesG.CompactI
import Derived.Shelf.SlicesG.SearchI
import Derived.Shelf.SlicesG.Cells
import Derived.Shelf.SlicesE.Clone
import Derived.Ground.SlgcProg
import Derived.Shelf.SlicesG.Cmp
import Derived.Ground.SlsfProg
import Derived.Shelf.SlSortCmp.Insertion
import Derived.Ground.SlgmProg
import Derived.Shelf.SortM.Plain
import Derived.Shelf.SortM.SortNone
import Derived.Shelf.SlSortCmp.SiftDown1
import Derived.Shelf.SlSortCmp.HeapSort1
import Derived.Shelf.SlSortCmp.Insertion1
import Derived.Shelf.SlSortCmp.Median1
import Derived.Shelf.SlSortCmp.Pivot1
import Derived.Shelf.SlSortCmp.ReverseRange1
import Derived.Shelf.SlSortCmp.PartialInsertion1
import Derived.Shelf.SlSortCmp.PartitionEqual1
import Derived.Shelf.SlSortCmp.Partition1
import Derived.Shelf.SlSortCmp.Pdq1
import Derived.Shelf.SlSortCmp.Whole1
import Derived.Shelf.SlSortCmp.NoneTotal
import Derived.Test.YtcdhgabcajehnaaGreatDoorProg
import Derived.Sort.EncStr
import Derived.Shelf.SlGeneric
set_option linter.unusedSimpArgs false
set_option linter.unusedVariables false
namespace Go.Proofs.YtcdhgabcajehnaaGreatDoor
open Go.ChangeShapes Go.WideShapes Go.ChangeAt Go.RowKit Go.Sort
set_option linter.unusedVariables false
set_option linter.unusedSimpArgs false

theorem cloneO_calls (A : Option Addr) (n c : Nat) (l : List Int) (w : World) (lo hi : Nat) (h : SlI w lo hi A n l) (hn : n ≤ 1048576) :
    Calls Tryz.prog 75 #[.slice A n c] w fun e w' => ∃ A' c', e = .returned (.slice A' n c') ∧ Own 1 iv w' w.heap.size 2 A' n c' l ∧ Below w.heap.size w w' := by
  have hnil : ∀ (W : World) (a : Option Addr) (m d : Nat), (binOp .eql 31 (.slice a m d) (.slice none 0 0)).run Tryz.prog W = .ok (.bool a.isNone) W := fun W a m d => Lib.run_eql_slice_nil W 31 _ a m d 0 0 Tryz.underlying31
  have hE := hide elem_int64
  cases A with
  | none =>
    have hn0 : n = 0 := by
      rcases Nat.eq_zero_or_pos n with h0 | h0
      · exact h0
      · obtain ⟨b, off, e, _⟩ := h.at_ h0
        cases e
    subst hn0
    have hl := List.eq_nil_of_length_eq_zero h.len
    subst hl
    go_enter Tryz.func75, Tryz.ntmps75
    go_wp2_with fail
    go_ret
    exact ⟨none, 0, rfl, Own.nil_ _ _ _, Below.refl _ _⟩
  | some a =>
    have hs := hide (h.below ((Below.refl w.heap.size w).alloc (Nat.le_refl _) (.cells #[] 2)) (.inr (Nat.le_refl _)))
    have hz : w.heap.size ≤ (w.alloc (.cells #[] 2)).heap.size := by simp
    clear h
    go_enter Tryz.func75, Tryz.ntmps75
    go_wp2_with (first | (at_builtin; (with_reducible refine wpList_app rfl (.tmp 5) (.tmp 6) rfl hE.out flat_iv rfl (Own.made w 2 (Nat.le_refl _)) rfl hs.out ?c1 hz ?_); rotate_right; intro A2 c2 w2 hown2 hgr2 hb2 _))
    case c1 => omega
    go_ret
    rw [Nat.zero_add, List.nil_append] at hown2
    exact ⟨_, _, rfl, hown2, ((Below.refl _ _).alloc (Nat.le_refl _) _).trans hb2⟩

theorem Sl.tight' {α : Type} {size : Nat} {f : α → List Value} {w : World} {lo hi n b off : Nat} {l : List α} (h : Sl size f w lo hi (some ⟨b, off, none⟩) n l) (hn : 0 < n) : Sl size f w b (b + 1) (some ⟨b, off, none⟩) n l := by
  refine ⟨h.len, fun _ => ?_⟩
  obtain ⟨b', off', e, g1, g2, g3, hc⟩ := h.at_ hn
  cases e
  exact ⟨b, off, rfl, Nat.le_refl _, Nat.lt_succ_self _, g3, hc⟩
/-- The two things that the search writes. -/
structure MemD (W : World) (bo oo n : Nat) (out : List Int) (qb : Nat) (A : Option Addr) (q c : Nat) (todo : List Int) : Prop where
  out : SlI W bo (bo + 1) (some ⟨bo, oo, none⟩) n out
  que : OwnQ W qb A q c todo
  o1 : bo < qb
  o2 : qb ≤ W.heap.size
section
variable {W W' : World} {bo oo n qb q c : Nat} {out : List Int} {A : Option Addr} {todo : List Int}
theorem MemD.put (h : MemD W bo oo n out qb A q c todo) {k : Nat} (hk : k < n) (x : Int) : MemD (W.setCell ⟨bo, oo + k, none⟩ (.int .i64 x)) bo oo n (out.set k x) qb A q c todo :=
  ⟨SlI.put' h.out hk x, h.que.keep fun g hg _ => Below.heap_setCell _ _ _ _ (by have := h.o1; show g ≠ bo; omega), h.o1, by rw [World.size_setCell]; exact h.o2⟩
theorem MemD.alloc (h : MemD W bo oo n out qb A q c todo) (o : Obj) : MemD (W.alloc o) bo oo n out qb A q c todo := by
  have h1 := h.o1
  have h2 := h.o2
  exact ⟨Sl.keep h.out (by simp) fun b _ _ hb => Below.heap_alloc _ _ _ hb, h.que.alloc o, h1, by simp; omega⟩
theorem MemD.drewN (h : MemD W bo oo n out qb A q c todo) (k : Nat) : MemD (W.drewN k) bo oo n out qb A q c todo := ⟨h.out.drewN k, h.que.drewN k, h.o1, h.o2⟩
theorem MemD.app (h : MemD W bo oo n out qb A q c todo) {A' : Option Addr} {q' c' : Nat} {todo' : List Int} (hq : OwnQ W' qb A' q' c' todo') (hg : W.grownBy W' (Value.slice A q c).ownBlock) : MemD W' bo oo n out qb A' q' c' todo' := by
  have h1 := h.o1
  have h2 := h.o2
  have hne : ∀ b, b < qb → some b ≠ (Value.slice A q c).ownBlock := fun b hb e => by
    have := (h.que.lt b e.symm).1
    omega
  exact ⟨Sl.keep h.out hg.size fun b hb1 hb2 hb3 => hg.block b hb3 (hne b (by omega)), hq, h1, Nat.le_trans h2 hg.size⟩
theorem MemD.cut {x : Int} (h : MemD W bo oo n out qb A q c (x :: todo)) : MemD W bo oo n out qb (cutA A 1 c 1) (q - 1) (c - 1) todo := ⟨h.out, h.que.cut, h.o1, h.o2⟩
end

/-- The first k beginnings are marked. -/
def Marks (N : Nat) (l : List Int) (k : Nat) (out : List Int) : Prop := out.length = N ∧ ∀ (j : Nat) (x : Int), out[j]? = some x → (x = 0 ∧ (j : Int) ∈ l.take k) ∨ (x = -1 ∧ ¬ (j : Int) ∈ l.take k)
theorem Marks.zero (N : Nat) (l : List Int) : Marks N l 0 (List.replicate N (-1)) := by
  refine ⟨by simp, fun j x hx => .inr ⟨?_, by simp⟩⟩
  exact List.eq_of_mem_replicate (List.mem_of_getElem? hx)
theorem Marks.step {N : Nat} {l : List Int} {k v : Nat} {out : List Int} (h : Marks N l k out) (hx : l[k]? = some (v : Int)) : Marks N l (k + 1) (out.set v 0) := by
  refine ⟨by rw [List.length_set]; exact h.1, fun j x hj => ?_⟩
  have hmem : ∀ i : Nat, (i : Int) ∈ l.take (k + 1) ↔ (i : Int) ∈ l.take k ∨ i = v := fun i => by
    rw [List.take_add_one, hx, List.mem_append]
    constructor
    · rintro (h1 | h1)
      · exact .inl h1
      · simp at h1
        exact .inr (by omega)
    · rintro (h1 | h1)
      · exact .inl h1
      · subst h1
        exact .inr (by simp)
  by_cases e : v = j
  · subst e
    have hl : v < out.length := by
      have := (List.getElem?_eq_some_iff.1 hj).1
      rwa [List.length_set] at this
    rw [List.getElem?_set_self hl] at hj
    exact .inl ⟨(Option.some.inj hj).symm, (hmem v).2 (.inr rfl)⟩
  · rw [List.getElem?_set_ne e] at hj
    rcases h.2 j x hj with ⟨h1, h2⟩ | ⟨h1, h2⟩
    · exact .inl ⟨h1, (hmem j).2 (.inl h2)⟩
    · exact .inr ⟨h1, fun hc => by
        rcases (hmem j).1 hc with h3 | h3
        · exact h2 h3
        · exact e h3.symm⟩
theorem Marks.all {N n : Nat} {l : List Int} {out : List Int} (h : Marks N l n out) (hl : l.length ≤ n) : ∀ (j : Nat) (x : Int), out[j]? = some x → (x = 0 ∧ srcE l j) ∨ (x = -1 ∧ ¬ srcE l j) := fun j x hx => by
  have := h.2 j x hx
  rwa [List.take_of_length_le hl] at this

/-- The edges looked at lead from k to what was found. -/
def FoundE (fw : Bool) (es : List Ed) (i : Nat) (k : Nat) (out : List Int) : Prop := ∀ b, arcE fw (es.take i) k b → ∃ y : Int, out[b]? = some y ∧ 0 ≤ y
theorem arc_take_succ {fw : Bool} {es : List Ed} {i : Nat} {e : Ed} (hx : es[i]? = some e) {a b : Nat} (h : arcE fw (es.take (i + 1)) a b) : arcE fw (es.take i) a b ∨ (if fw = true then e.1 = (a : Int) ∧ e.2.2 = (b : Int) else e.2.2 = (a : Int) ∧ e.1 = (b : Int)) := by
  obtain ⟨e', hm, h⟩ := h
  rw [List.take_add_one, hx, List.mem_append] at hm
  rcases hm with hm | hm
  · exact .inl ⟨e', hm, h⟩
  · simp at hm
    subst hm
    exact .inr h
theorem FoundE.zero (fw : Bool) (es : List Ed) (k : Nat) (out : List Int) : FoundE fw es 0 k out := by
  rintro b ⟨e, hm, _⟩
  simp at hm
theorem FoundE.skip {fw : Bool} {es : List Ed} {i k : Nat} {out : List Int} {e : Ed} (h : FoundE fw es i k out) (hx : es[i]? = some e)
    (hs : ∀ b : Nat, (if fw = true then e.1 = (k : Int) ∧ e.2.2 = (b : Int) else e.2.2 = (k : Int) ∧ e.1 = (b : Int)) → ∃ y : Int, out[b]? = some y ∧ 0 ≤ y) : FoundE fw es (i + 1) k out := fun b hb => by
  rcases arc_take_succ hx hb with h1 | h1
  · exact h b h1
  · exact hs b h1
theorem FoundE.set {fw : Bool} {es : List Ed} {i k : Nat} {out : List Int} (h : FoundE fw es i k out) (v : Nat) {x : Int} (hx : 0 ≤ x) (hv : v < out.length) : FoundE fw es i k (out.set v x) := fun b hb => by
  obtain ⟨y, hy, hy0⟩ := h b hb
  by_cases e : v = b
  · subst e
    exact ⟨x, List.getElem?_set_self hv, hx⟩
  · exact ⟨y, by rw [List.getElem?_set_ne e]; exact hy, hy0⟩
/-- What is told is not more than how many are told. -/
def BoundD (N : Nat) (out : List Int) : Prop := ∀ (j : Nat) (x : Int), out[j]? = some x → x + (negs out : Int) ≤ (N : Int)
theorem BoundD.set {N v : Nat} {out : List Int} (h : BoundD N out) {k : Nat} {m z : Int} (hk : out[k]? = some m) (hz : out[v]? = some z) (hz0 : z < 0) (hm : 0 ≤ m) : BoundD N (out.set v (m + 1)) := fun j x hj => by
  have hn := negs_set (v := m + 1) hz hz0 (by omega)
  have h1 := h k m hk
  by_cases e : v = j
  · subst e
    rw [List.getElem?_set_self (List.getElem?_eq_some_iff.1 hz).1] at hj
    have := Option.some.inj hj
    omega
  · rw [List.getElem?_set_ne e] at hj
    have := h j x hj
    omega
theorem map_nat_mem {l : List Int} (h : ∀ v ∈ l, 0 ≤ v) (k : Nat) : (k : Int) ∈ l ↔ k ∈ l.map Int.toNat := by
  constructor
  · intro hk
    exact List.mem_map.2 ⟨_, hk, Int.toNat_natCast k⟩
  · intro hk
    obtain ⟨v, hv, e⟩ := List.mem_map.1 hk
    have := h v hv
    rw [show (k : Int) = v by omega]
    exact hv
theorem cell_block {W : World} {p : Addr} {v : Value} (h : W.cell? p = some v) : p.block < W.heap.size := by
  unfold World.cell? at h
  cases hb : W.heap[p.block]? with
  | none => rw [hb] at h; cases h
  | some o => exact (Array.getElem?_eq_some_iff.1 hb).1

set_option maxRecDepth 100000 in
set_option maxHeartbeats 3200000 in
theorem distancesF_calls (N : Nat) (s1 : Int) (v2 : Value) (A3 : Option Addr) (n3 k3 : Nat) (A1 : Option Addr) (n1 c1 : Nat) (es : List Ed) (l : List Int) (w : World) (lo hi lo1 hi1 : Nat)
    (t3 : SlE w lo hi A3 n3 es) (t1 : SlI w lo1 hi1 A1 n1 l) (hes : n3 ≤ 1048576) (hn1 : n1 ≤ 1000) (hN1 : 1 ≤ N) (hN2 : N ≤ 40)
    (hedge : ∀ e ∈ es, (0 ≤ e.1 ∧ e.1 < (N : Int)) ∧ (0 ≤ e.2.2 ∧ e.2.2 < (N : Int))) (hin : ∀ v ∈ l, 0 ≤ v ∧ v < (N : Int)) :
    Calls Tryz.prog 36 #[.agg #[.int .i64 (N : Int), .int .i64 s1, v2, .slice A3 n3 k3], .slice A1 n1 c1, .bool true] w fun e w' => ∃ A c, e = .returned (.slice A N c) ∧ SlI w' w.heap.size w'.heap.size A N (distF true N es l) ∧ DistIs (srcE l) (arcE true es) N (distF true N es l) ∧ Below w.heap.size w w' := by
  have harc := hide (fun a k => arcE_in (es := es) (N := N) hedge (fw := true) a k)
  have hsrc : Hid (∀ k, srcE l k → k < N) := fun k hk => by have := hin k hk; omega
  have l3 := hide t3.len
  have l1 := hide t1.len
  have hb0 : Below w.heap.size w (w.alloc (.cells #[.int .i64 (N : Int), .int .i64 s1, v2, .slice A3 n3 k3] 27)) := (Below.refl _ _).alloc (Nat.le_refl _) _
  have kE := heap_alloc_new w (.cells #[.int .i64 (N : Int), .int .i64 s1, v2, .slice A3 n3 k3] 27)
  have hz : w.heap.size < (w.alloc (.cells #[.int .i64 (N : Int), .int .i64 s1, v2, .slice A3 n3 k3] 27)).heap.size := by rw [World.size_alloc]; omega
  replace t3 := hide (t3.below hb0 (.inr (Nat.le_refl _)))
  replace t1 := t1.below hb0 (.inr (Nat.le_refl _))
  have hz' := Nat.le_of_lt hz
  replace hb0 := hide hb0
  replace hedge := hide hedge
  replace hin := hide hin
  go_enter Tryz.func36, Tryz.ntmps36
  go_upto_region 1 with fail
  generalize (w.alloc (.cells #[.int .i64 (N : Int), .int .i64 s1, v2, .slice A3 n3 k3] 27)) = W0 at *
  generalize hbm : w.heap.size = bm at *
  have c0 : W0.cell? ⟨bm, 0, none⟩ = some (.int .i64 (N : Int)) := (cell_of_row _ _ 0 _ _ (0, 0) kE).trans rfl
  have c3 : W0.cell? ⟨bm, 3, none⟩ = some (.slice A3 n3 k3) := (cell_of_row _ _ 3 _ _ (0, 0) kE).trans rfl
  clear kE
  have hb1 : Below W0.heap.size W0 (W0.alloc (.cells #[.int .i64 (-1)] 2)) := (Below.refl _ _).alloc (Nat.le_refl _) _
  have d0 : (W0.alloc (.cells #[.int .i64 (-1)] 2)).cell? ⟨bm, 0, none⟩ = some (.int .i64 (N : Int)) := (hb1.cell (p := ⟨bm, 0, none⟩) hz).trans c0
  have q1 := hide (repeatI_calls (some ⟨W0.heap.size, 0, none⟩) 1 (-1) N _ _ _ (Sl.lit1' W0 2 (-1 : Int) _ rfl 1 _ rfl) hN1 (by omega))
  have hb1z := hb1.size
  replace hb1 := hide hb1
  go_wp2_with fail
  refine q1.out.mono ?_
  rintro e w1 ⟨Ao, rfl, ho1, hb2⟩
  have hbA := hb1.out.trans (hb2.mono hb1z)
  obtain ⟨bo, oo, rfl, hbo1, hbo2, -, -⟩ := ho1.at_ hN1
  have q2 := hide (cloneO_calls A1 n1 c1 l w1 lo1 hi1 (t1.below hbA (.inr (Nat.le_refl _))) (by omega))
  have ho1t : SlI w1 bo (bo + 1) (some ⟨bo, oo, none⟩) N (List.replicate N (-1)) := ho1.tight' hN1
  have hbow : W0.heap.size ≤ bo := Nat.le_trans hb1z hbo1
  replace hbA := hide hbA
  clear c0 d0 q1 ho1 hb2
  go_wp2_with fail
  refine q2.out.mono ?_
  rintro e w2 ⟨Aq, cq, rfl, hq1, hb3⟩
  have hM0 : MemD w2 bo oo N (List.replicate N (-1)) w1.heap.size Aq n1 cq l := ⟨ho1t.below hb3 (.inl (by omega)), OwnQ.of hq1, hbo2, hb3.size⟩
  have hbB := hide (hbA.out.trans (hb3.mono hbA.out.size))
  replace hM0 := hide hM0
  have hmk0 := hide (Marks.zero N l)
  have hqb : Hid (bo < w1.heap.size) := hbo2
  generalize w1.heap.size = qb at *
  clear q2 ho1t hq1 hb3 hbA
  go_upto_region 4 with fail
  go_loopw [24] (fun i wr => ∃ (k : Nat) (out : List Int), k ≤ n1 ∧ i = .int .i64 (k : Nat) ∧ Hid (MemD wr bo oo N out qb Aq n1 cq l) ∧ Hid (Marks N l k out) ∧ Below W0.heap.size W0 wr) (fun i _ => n1 - (intOf i).toNat)
  case atStart => exact ⟨0, _, Nat.zero_le _, rfl, hM0, hmk0, hbB.out⟩
  case round =>
    clear hM0 hmk0 hbB
    obtain ⟨k, out, hk, rfl, hM, hmk, hb⟩ := hrel
    by_cases hlt : k < n1
    · obtain ⟨b, off, x, rfl, -, -, g3, hx, p0, -⟩ := SlI.get t1 hlt
      have hxin := hin.out x (List.mem_of_getElem? hx)
      obtain ⟨v, rfl⟩ : ∃ v : Nat, x = (v : Int) := ⟨x.toNat, by omega⟩
      have hv : v < N := by omega
      have hvI : (v : Int) < (N : Int) := by omega
      replace p0 := (hb.cell (p := ⟨b, off + k, none⟩) g3).trans p0
      obtain ⟨b6, o6, z, e6, -, -, -, -, cz, fz⟩ := SlI.get hM.out.out hv
      cases e6
      have hM1 := hide (hM.out.put hv 0)
      have hmk1 := hide (hmk.out.step hx)
      replace hb := hide hb
      clear hx hxin hM hmk
      go_wp2_with fail
      go_roundw
      case rel => exact ⟨k + 1, _, by omega, by go_num, hM1, hmk1, hb.out.setCell hbow _⟩
      case measure => simp [intOf]; omega
    · have hkn : k = n1 := by omega
      subst hkn
      have hmarks := hmk.out.all (by rw [l1.out]; exact Nat.le_refl _)
      have hqs : Hid (QueIs (srcE l) (arcE true es) N out (l.map Int.toNat)) := QueIs.start _ _ hmk.out.1 hmarks (fun j => map_nat_mem (fun v hv => (hin.out v hv).1) j) hsrc.out
      have hng := negs_le out
      rw [hmk.out.1] at hng
      have hbd : Hid (BoundD N out) := fun j x hj => by
        rcases hmarks j x hj with ⟨h1, -⟩ | ⟨h1, -⟩ <;> omega
      have hpos : Hid (∀ v ∈ l, 0 ≤ v) := fun v hv => (hin.out v hv).1
      have hll := l1.out
      replace hll := hide hll
      replace hb := hide hb
      clear hmk t1
      go_wp2_with fail
      go_loopg [8] (k + N) (fun G v wr => ∃ (out todo : List Int) (A : Option Addr) (q c : Nat), v = .slice A q c ∧ Hid (MemD wr bo oo N out qb A q c todo) ∧ Hid (QueIs (srcE l) (arcE true es) N out (todo.map Int.toNat)) ∧ Hid (∀ v ∈ todo, 0 ≤ v) ∧ Hid (q + negs out ≤ 1040) ∧ Hid (BoundD N out) ∧ Below W0.heap.size W0 wr ∧ Hid (q + negs out ≤ G))
      case atStart => exact ⟨out, l, Aq, k, cq, rfl, hM, hqs, hpos, by show _ ≤ _; omega, hbd, hb.out, by show _ ≤ _; omega⟩
      case round =>
        clear hM hqs hpos hb hng hbd hmarks
        obtain ⟨out, todo, A, q, c, rfl, hM, hQ, hpos, hcap, hbd, hb, hG⟩ := hrel
        cases todo with
        | nil =>
          have hq0 : q = 0 := hM.out.que.len.symm
          subst hq0
          have hd := QueIs.done _ _ hQ.out (fun a k h => harc.out a k h) hsrc.out
          have hf := hide (distF_of hd)
          replace hd := hide hd
          have hs := hide hM.out.out
          have ho1 := hM.out.o1
          have ho2 := hM.out.o2
          clear hM hQ hpos hcap hG hbd
          go_wp2_with fail
          go_ret
          have hs9 := hs.out.more (show bm ≤ bo by omega) (show bo + 1 ≤ wr.heap.size by omega)
          exact ⟨_, _, rfl, by first | (rw [hf.out]; exact hs9) | (rw [hbm, hf.out]; exact hs9), by rw [hf.out]; exact hd.out, by first | exact hb0.out.trans (hb.mono hz') | (rw [hbm]; exact hb0.out.trans (hb.mono hz'))⟩
        | cons t todo =>
          obtain ⟨kn, rfl⟩ : ∃ kn : Nat, t = (kn : Int) := ⟨t.toNat, by have := hpos.out t (by simp); omega⟩
          obtain ⟨qg, qo, rfl, e0, hq0, hqc⟩ := hM.out.que.head
          have hcut : ∀ W : World, (Instr.slice 31 (.slice (some ⟨qg, qo, none⟩) q c) (some (.int .i64 1)) none none).run Tryz.prog W = .ok (.slice (cutA (some ⟨qg, qo, none⟩) 1 c 1) (q - 1) (c - 1)) W := fun W => run_cut elem_int64 (some ⟨qg, qo, none⟩) q c 1 (by omega) W
          have hM2 := hide hM.out.cut
          have hQ2 : Hid (QueIs (srcE l) (arcE true es) N out (kn :: todo.map Int.toNat)) := by have := hQ.out; rwa [List.map_cons, Int.toNat_natCast] at this
          have hpos2 : Hid (∀ v ∈ todo, 0 ≤ v) := fun v hv => hpos.out v (List.mem_cons_of_mem _ hv)
          obtain ⟨mk, hmk, hmk0⟩ := hQ2.out.todo_ kn (by simp)
          have hknN : kn < N := by have := (List.getElem?_eq_some_iff.1 hmk).1; rw [hQ2.out.len] at this; exact this
          obtain ⟨G2, rfl⟩ : ∃ G2, gk = G2 + 1 := ⟨gk - 1, by have := hG.out; omega⟩
          have hcap2 : Hid (q - 1 + negs out ≤ 1039) := by have := hcap.out; show _ ≤ _; omega
          have hG2 : Hid (q - 1 + negs out ≤ G2) := by have := hG.out; show _ ≤ _; omega
          have y3 := (hb.cell (p := ⟨bm, 3, none⟩) hz).trans c3
          have hfz := hide (FoundE.zero true es kn out)
          have hmkv : Hid (out[kn]? = some mk) := hmk
          replace hb := hide hb
          clear hM hQ hpos hcap hG hmk
          generalize cutA (some ⟨qg, qo, none⟩) 1 c 1 = AC at *
          generalize c - 1 = cc at *
          go_upto_region 12 with fail
          clear y3 e0 hcut
          obtain ⟨wo, rfl⟩ : ∃ wo : World, wo = wr := ⟨_, rfl⟩
          go_loopw [8, 43] (fun v i wr => ∃ (j : Nat) (out todo : List Int) (A : Option Addr) (q c : Nat), j ≤ n3 ∧ v = .slice A q c ∧ i = .int .i64 (j : Nat) ∧ Hid (MemD wr bo oo N out qb A q c todo) ∧ Hid (QueIs (srcE l) (arcE true es) N out (kn :: todo.map Int.toNat)) ∧ Hid (∀ v ∈ todo, 0 ≤ v) ∧ Hid (q + negs out ≤ 1039) ∧ Hid (BoundD N out) ∧ Hid (out[kn]? = some mk) ∧ Hid (FoundE true es j kn out) ∧ Below W0.heap.size W0 wr ∧ Hid (q + negs out ≤ G2)) (fun _ i _ => n3 - (intOf i).toNat)
          case atStart => exact ⟨0, out, todo, AC, _, _, Nat.zero_le _, rfl, rfl, hM2, hQ2, hpos2, hcap2, hbd, hmkv, hfz, hb.out, hG2⟩
          case round =>
            clear hM2 hQ2 hpos2 hcap2 hmkv hfz hb hG2 hbd
            obtain ⟨j, out, todo, A, q, c, hj, rfl, rfl, hM, hQ, hpos, hcap, hbd, hmk, hfo, hb, hG⟩ := hrel
            by_cases hlt : j < n3
            · obtain ⟨b, off, f, lb, tg, rfl, -, -, g3, hx, p0, p1, p2, -, -, -⟩ := SlE.get t3.out hlt
              replace p0 := (hb.cell g3).trans p0
              replace p1 := (hb.cell (p := ⟨b, off + j * 3 + 1, none⟩) g3).trans p1
              replace p2 := (hb.cell (p := ⟨b, off + j * 3 + 2, none⟩) g3).trans p2
              have hed := hedge.out _ (List.mem_of_getElem? hx)
              dsimp only at hed
              obtain ⟨fn, rfl⟩ : ∃ fn : Nat, f = (fn : Int) := ⟨f.toNat, by omega⟩
              obtain ⟨tn, rfl⟩ : ∃ tn : Nat, tg = (tn : Int) := ⟨tg.toNat, by omega⟩
              have hbN : tn < N := by omega
              have hbI : (tn : Int) < (N : Int) := by omega
              have hb0I : (0 : Int) ≤ (tn : Int) := by omega
              have hkI : (kn : Int) < (N : Int) := by omega
              have hk0I : (0 : Int) ≤ (kn : Int) := by omega
              have y3 := (hb.cell (p := ⟨bm, 3, none⟩) hz).trans c3
              have hI0 : (0 : Int) ≤ (j : Int) := by omega
              have hI1 : (j : Int) < (n3 : Int) := by omega
              have hbE : Below wr.heap.size wr (wr.alloc (.cells #[.int .i64 (fn : Int), .int .i64 lb, .int .i64 (tn : Int)] 70)) := (Below.refl _ _).alloc (Nat.le_refl _) _
              have kE := heap_alloc_new wr (.cells #[.int .i64 (fn : Int), .int .i64 lb, .int .i64 (tn : Int)] 70)
              have hbB := hide (hb.trans (hbE.mono hb.size))
              have hME := hide (hM.out.alloc (.cells #[.int .i64 (fn : Int), .int .i64 lb, .int .i64 (tn : Int)] 70))
              have z0 : (wr.alloc (.cells #[.int .i64 (fn : Int), .int .i64 lb, .int .i64 (tn : Int)] 70)).cell? ⟨wr.heap.size, 0, none⟩ = some (.int .i64 (fn : Int)) := (cell_of_row _ _ 0 _ _ (0, 0) kE).trans rfl
              have z2 : (wr.alloc (.cells #[.int .i64 (fn : Int), .int .i64 lb, .int .i64 (tn : Int)] 70)).cell? ⟨wr.heap.size, 2, none⟩ = some (.int .i64 (tn : Int)) := (cell_of_row _ _ 2 _ _ (0, 0) kE).trans rfl
              clear kE hbE hM hb
              go_upto_region 14 with fail
              clear p0 p1 p2 y3
              generalize (wr.alloc (.cells #[.int .i64 (fn : Int), .int .i64 lb, .int .i64 (tn : Int)] 70)) = WE at *
              go_quiet (fail)
              have hMq : Hid (MemD (WE.drewN nq) bo oo N out qb A q c todo) := hME.out.drewN nq
              have hBq : Hid (Below W0.heap.size W0 (WE.drewN nq)) := ⟨hbB.out.os, hbB.out.tape, hbB.out.output, hbB.out.size, hbB.out.block⟩
              clear z0 z2 hME hbB
              generalize WE.drewN nq = wq at *
              have hbg : tn < out.length := by rw [hQ.out.len]; exact hbN
              obtain ⟨b6, o6, z, e6, -, -, -, hz6, cz, fz⟩ := SlI.get hMq.out.out hbN
              cases e6
              obtain ⟨b7, o7, z7, e7, -, -, -, hz7, ck, -⟩ := SlI.get hMq.out.out hknN
              cases e7
              rw [hmk.out] at hz7
              obtain rfl : mk = z7 := Option.some.inj hz7
              by_cases hak : fn = kn
              · subst hak
                by_cases hz0 : z < 0
                · have harcE : arcE true es fn tn := ⟨_, List.mem_of_getElem? hx, by simp⟩
                  have hne : tn ≠ fn := by
                    intro e
                    rw [e] at hz6
                    rw [hmk.out] at hz6
                    have := Option.some.inj hz6
                    omega
                  have hQ9 : Hid (QueIs (srcE l) (arcE true es) N (out.set tn (mk + 1)) (fn :: (todo ++ [(tn : Int)]).map Int.toNat)) := by
                    have := QueIs.add _ _ hQ.out hmk.out hz6 hz0 harcE
                    show QueIs _ _ _ _ _
                    rw [List.map_append, List.map_cons, List.map_nil, Int.toNat_natCast]
                    exact this
                  have hmk9 : Hid ((out.set tn (mk + 1))[fn]? = some mk) := by show _ = _; rw [List.getElem?_set_ne hne]; exact hmk.out
                  have hfo9 : Hid (FoundE true es (j + 1) fn (out.set tn (mk + 1))) := (hfo.out.set tn (x := mk + 1) (by omega) hbg).skip hx (fun b hb => by
                    have hbb : b = tn := by simp at hb; omega
                    subst hbb
                    exact ⟨_, List.getElem?_set_self hbg, by omega⟩)
                  have hnegs := negs_set (v := mk + 1) hz6 hz0 (by omega)
                  have hbd9 := hide (hbd.out.set hmk.out hz6 hz0 (by obtain ⟨y, hy, hy0⟩ := hQ.out.todo_ fn (by simp); rw [hmk.out] at hy; cases hy; exact hy0))
                  have hmkb : mk ≤ 40 := by have := hbd.out fn mk hmk.out; omega
                  have hmk0 : 0 ≤ mk := by obtain ⟨y, hy, hy0⟩ := hQ.out.todo_ fn (by simp); rw [hmk.out] at hy; cases hy; exact hy0
                  have hM9 := (hMq.out.put hbN (mk + 1)).alloc (.cells #[.int .i64 (tn : Int)] 2)
                  have hqlen := hM9.que.len
                  have hcell0 := cell_one_new (wq.setCell ⟨bo, oo + tn, none⟩ (.int .i64 (mk + 1))) (.int .i64 (tn : Int)) 2 0 _ rfl
                  rw [addr_add, Nat.zero_add, World.size_setCell] at hcell0
                  replace hcell0 := hide hcell0
                  have hbp := hide ((hBq.out.setCell (p := ⟨bo, oo + tn, none⟩) hbow (.int .i64 (mk + 1))).alloc (by rw [World.size_setCell]; exact hBq.out.size) (.cells #[.int .i64 (tn : Int)] 2))
                  have hzq : qb ≤ ((wq.setCell ⟨bo, oo + tn, none⟩ (.int .i64 (mk + 1))).alloc (.cells #[.int .i64 (tn : Int)] 2)).heap.size := hM9.o2
                  have hq9 : q + 1 ≤ 1048576 := by have := hcap.out; omega
                  have hcap9 : Hid (q + 1 + negs (out.set tn (mk + 1)) ≤ 1039) := by have := hcap.out; show _ ≤ _; omega
                  have hG9 : Hid (q + 1 + negs (out.set tn (mk + 1)) ≤ G2) := by have := hG.out; show _ ≤ _; omega
                  have hpos9 : Hid (∀ v ∈ todo ++ [(tn : Int)], 0 ≤ v) := fun v hv => by
                    rcases List.mem_append.1 hv with h1 | h1
                    · exact hpos.out v h1
                    · have : v = (tn : Int) := by simpa using h1
                      omega
                  have hqbo : W0.heap.size ≤ qb := by have := hM9.o1; omega
                  have d2 : decide (z < (0 : Int)) = true := decide_eq_true hz0
                  replace hM9 := hide hM9
                  clear hx hed hz6 hz0 hne hbd hnegs hmk hfo hQ hpos hcap hG hMq hBq harcE hqlen
                  go_wp2_with (first
                    | (at_builtin; (with_reducible refine wpList_appQ rfl (.tmp 73) (.tmp 75) rfl rfl hM9.out.que ⟨wq.heap.size, 0, none⟩ 1 (tn : Int) rfl hcell0.out hq9 hzq ?_); intro A5 c5 w5 hown5 hgr5 hb5 _))
                  have hM5 := hide (hM9.out.app hown5 hgr5)
                  have hb6 := hide (hbp.out.trans (hb5.mono hqbo))
                  clear hown5 hgr5 hb5 hM9
                  go_roundw
                  case rel => exact ⟨j + 1, _, _, A5, q + 1, c5, by omega, rfl, by go_num, hM5, hQ9, hpos9, hcap9, hbd9, hmk9, hfo9, hb6.out, hG9⟩
                  case measure => simp [intOf]; omega
                · have hfo9 : Hid (FoundE true es (j + 1) fn out) := hfo.out.skip hx (fun b hb => by
                    have hbb : b = tn := by simp at hb; omega
                    subst hbb
                    exact ⟨z, hz6, by omega⟩)
                  have d2 : decide (z < (0 : Int)) = false := decide_eq_false hz0
                  clear hx hed hz6
                  go_wp2_with fail
                  go_roundw
                  case rel => exact ⟨j + 1, _, _, A, q, c, by omega, rfl, by go_num, hMq, hQ, hpos, hcap, hbd, hmk, hfo9, hBq.out, hG⟩
                  case measure => simp [intOf]; omega
              · have hfo9 : Hid (FoundE true es (j + 1) kn out) := hfo.out.skip hx (fun b hb => by
                  exfalso
                  simp at hb
                  omega)
                have hne : ((fn : Int) == (kn : Int)) = false := by rw [beq_eq_false_iff_ne]; omega
                clear hx hed hz6
                go_wp2_with fail
                go_roundw
                case rel => exact ⟨j + 1, _, _, A, q, c, by omega, rfl, by go_num, hMq, hQ, hpos, hcap, hbd, hmk, hfo9, hBq.out, hG⟩
                case measure => simp [intOf]; omega
            · have hjn : j = n3 := by omega
              subst hjn
              have hQ9 : Hid (QueIs (srcE l) (arcE true es) N out (todo.map Int.toNat)) := QueIs.pop _ _ hQ.out (fun b hb => hfo.out b (by rw [List.take_of_length_le (by rw [l3.out]; exact Nat.le_refl _)]; exact hb))
              have hcap9 : Hid (q + negs out ≤ 1040) := by have := hcap.out; show _ ≤ _; omega
              replace hb := hide hb
              clear hQ hcap hfo hmk
              go_wp2_with fail
              go_roundg G2
              case measure => omega
              case rel => exact ⟨out, todo, A, q, c, rfl, hM, hQ9, hpos, hcap9, hbd, hb.out, hG⟩

set_option maxRecDepth 100000 in
set_option maxHeartbeats 3200000 in
theorem distancesB_calls (N : Nat) (s1 : Int) (v2 : Value) (A3 : Option Addr) (n3 k3 : Nat) (A1 : Option Addr) (n1 c1 : Nat) (es : List Ed) (l : List Int) (w : World) (lo hi lo1 hi1 : Nat)
    (t3 : SlE w lo hi A3 n3 es) (t1 : SlI w lo1 hi1 A1 n1 l) (hes : n3 ≤ 1048576) (hn1 : n1 ≤ 1000) (hN1 : 1 ≤ N) (hN2 : N ≤ 40)
    (hedge : ∀ e ∈ es, (0 ≤ e.1 ∧ e.1 < (N : Int)) ∧ (0 ≤ e.2.2 ∧ e.2.2 < (N : Int))) (hin : ∀ v ∈ l, 0 ≤ v ∧ v < (N : Int)) :
    Calls Tryz.prog 36 #[.agg #[.int .i64 (N : Int), .int .i64 s1, v2, .slice A3 n3 k3], .slice A1 n1 c1, .bool false] w fun e w' => ∃ A c, e = .returned (.slice A N c) ∧ SlI w' w.heap.size w'.heap.size A N (distF false N es l) ∧ DistIs (srcE l) (arcE false es) N (distF false N es l) ∧ Below w.heap.size w w' := by
  have harc := hide (fun a k => arcE_in (es := es) (N := N) hedge (fw := false) a k)
  have hsrc : Hid (∀ k, srcE l k → k < N) := fun k hk => by have := hin k hk; omega
  have l3 := hide t3.len
  have l1 := hide t1.len
  have hb0 : Below w.heap.size w (w.alloc (.cells #[.int .i64 (N : Int), .int .i64 s1, v2, .slice A3 n3 k3] 27)) := (Below.refl _ _).alloc (Nat.le_refl _) _
  have kE := heap_alloc_new w (.cells #[.int .i64 (N : Int), .int .i64 s1, v2, .slice A3 n3 k3] 27)
  have hz : w.heap.size < (w.alloc (.cells #[.int .i64 (N : Int), .int .i64 s1, v2, .slice A3 n3 k3] 27)).heap.size := by rw [World.size_alloc]; omega
  replace t3 := hide (t3.below hb0 (.inr (Nat.le_refl _)))
  replace t1 := t1.below hb0 (.inr (Nat.le_refl _))
  have hz' := Nat.le_of_lt hz
  replace hb0 := hide hb0
  replace hedge := hide hedge
  replace hin := hide hin
  go_enter Tryz.func36, Tryz.ntmps36
  go_upto_region 1 with fail
  generalize (w.alloc (.cells #[.int .i64 (N : Int), .int .i64 s1, v2, .slice A3 n3 k3] 27)) = W0 at *
  generalize hbm : w.heap.size = bm at *
  have c0 : W0.cell? ⟨bm, 0, none⟩ = some (.int .i64 (N : Int)) := (cell_of_row _ _ 0 _ _ (0, 0) kE).trans rfl
  have c3 : W0.cell? ⟨bm, 3, none⟩ = some (.slice A3 n3 k3) := (cell_of_row _ _ 3 _ _ (0, 0) kE).trans rfl
  clear kE
  have hb1 : Below W0.heap.size W0 (W0.alloc (.cells #[.int .i64 (-1)] 2)) := (Below.refl _ _).alloc (Nat.le_refl _) _
  have d0 : (W0.alloc (.cells #[.int .i64 (-1)] 2)).cell? ⟨bm, 0, none⟩ = some (.int .i64 (N : Int)) := (hb1.cell (p := ⟨bm, 0, none⟩) hz).trans c0
  have q1 := hide (repeatI_calls (some ⟨W0.heap.size, 0, none⟩) 1 (-1) N _ _ _ (Sl.lit1' W0 2 (-1 : Int) _ rfl 1 _ rfl) hN1 (by omega))
  have hb1z := hb1.size
  replace hb1 := hide hb1
  go_wp2_with fail
  refine q1.out.mono ?_
  rintro e w1 ⟨Ao, rfl, ho1, hb2⟩
  have hbA := hb1.out.trans (hb2.mono hb1z)
  obtain ⟨bo, oo, rfl, hbo1, hbo2, -, -⟩ := ho1.at_ hN1
  have q2 := hide (cloneO_calls A1 n1 c1 l w1 lo1 hi1 (t1.below hbA (.inr (Nat.le_refl _))) (by omega))
  have ho1t : SlI w1 bo (bo + 1) (some ⟨bo, oo, none⟩) N (List.replicate N (-1)) := ho1.tight' hN1
  have hbow : W0.heap.size ≤ bo := Nat.le_trans hb1z hbo1
  replace hbA := hide hbA
  clear c0 d0 q1 ho1 hb2
  go_wp2_with fail
  refine q2.out.mono ?_
  rintro e w2 ⟨Aq, cq, rfl, hq1, hb3⟩
  have hM0 : MemD w2 bo oo N (List.replicate N (-1)) w1.heap.size Aq n1 cq l := ⟨ho1t.below hb3 (.inl (by omega)), OwnQ.of hq1, hbo2, hb3.size⟩
  have hbB := hide (hbA.out.trans (hb3.mono hbA.out.size))
  replace hM0 := hide hM0
  have hmk0 := hide (Marks.zero N l)
  have hqb : Hid (bo < w1.heap.size) := hbo2
  generalize w1.heap.size = qb at *
  clear q2 ho1t hq1 hb3 hbA
  go_upto_region 4 with fail
  go_loopw [24] (fun i wr => ∃ (k : Nat) (out : List Int), k ≤ n1 ∧ i = .int .i64 (k : Nat) ∧ Hid (MemD wr bo oo N out qb Aq n1 cq l) ∧ Hid (Marks N l k out) ∧ Below W0.heap.size W0 wr) (fun i _ => n1 - (intOf i).toNat)
  case atStart => exact ⟨0, _, Nat.zero_le _, rfl, hM0, hmk0, hbB.out⟩
  case round =>
    clear hM0 hmk0 hbB
    obtain ⟨k, out, hk, rfl, hM, hmk, hb⟩ := hrel
    by_cases hlt : k < n1
    · obtain ⟨b, off, x, rfl, -, -, g3, hx, p0, -⟩ := SlI.get t1 hlt
      have hxin := hin.out x (List.mem_of_getElem? hx)
      obtain ⟨v, rfl⟩ : ∃ v : Nat, x = (v : Int) := ⟨x.toNat, by omega⟩
      have hv : v < N := by omega
      have hvI : (v : Int) < (N : Int) := by omega
      replace p0 := (hb.cell (p := ⟨b, off + k, none⟩) g3).trans p0
      obtain ⟨b6, o6, z, e6, -, -, -, -, cz, fz⟩ := SlI.get hM.out.out hv
      cases e6
      have hM1 := hide (hM.out.put hv 0)
      have hmk1 := hide (hmk.out.step hx)
      replace hb := hide hb
      clear hx hxin hM hmk
      go_wp2_with fail
      go_roundw
      case rel => exact ⟨k + 1, _, by omega, by go_num, hM1, hmk1, hb.out.setCell hbow _⟩
      case measure => simp [intOf]; omega
    · have hkn : k = n1 := by omega
      subst hkn
      have hmarks := hmk.out.all (by rw [l1.out]; exact Nat.le_refl _)
      have hqs : Hid (QueIs (srcE l) (arcE false es) N out (l.map Int.toNat)) := QueIs.start _ _ hmk.out.1 hmarks (fun j => map_nat_mem (fun v hv => (hin.out v hv).1) j) hsrc.out
      have hng := negs_le out
      rw [hmk.out.1] at hng
      have hbd : Hid (BoundD N out) := fun j x hj => by
        rcases hmarks j x hj with ⟨h1, -⟩ | ⟨h1, -⟩ <;> omega
      have hpos : Hid (∀ v ∈ l, 0 ≤ v) := fun v hv => (hin.out v hv).1
      have hll := l1.out
      replace hll := hide hll
      replace hb := hide hb
      clear hmk t1
      go_wp2_with fail
      go_loopg [8] (k + N) (fun G v wr => ∃ (out todo : List Int) (A : Option Addr) (q c : Nat), v = .slice A q c ∧ Hid (MemD wr bo oo N out qb A q c todo) ∧ Hid (QueIs (srcE l) (arcE false es) N out (todo.map Int.toNat)) ∧ Hid (∀ v ∈ todo, 0 ≤ v) ∧ Hid (q + negs out ≤ 1040) ∧ Hid (BoundD N out) ∧ Below W0.heap.size W0 wr ∧ Hid (q + negs out ≤ G))
      case atStart => exact ⟨out, l, Aq, k, cq, rfl, hM, hqs, hpos, by show _ ≤ _; omega, hbd, hb.out, by show _ ≤ _; omega⟩
      case round =>
        clear hM hqs hpos hb hng hbd hmarks
        obtain ⟨out, todo, A, q, c, rfl, hM, hQ, hpos, hcap, hbd, hb, hG⟩ := hrel
        cases todo with
        | nil =>
          have hq0 : q = 0 := hM.out.que.len.symm
          subst hq0
          have hd := QueIs.done _ _ hQ.out (fun a k h => harc.out a k h) hsrc.out
          have hf := hide (distF_of hd)
          replace hd := hide hd
          have hs := hide hM.out.out
          have ho1 := hM.out.o1
          have ho2 := hM.out.o2
          clear hM hQ hpos hcap hG hbd
          go_wp2_with fail
          go_ret
          have hs9 := hs.out.more (show bm ≤ bo by omega) (show bo + 1 ≤ wr.heap.size by omega)
          exact ⟨_, _, rfl, by first | (rw [hf.out]; exact hs9) | (rw [hbm, hf.out]; exact hs9), by rw [hf.out]; exact hd.out, by first | exact hb0.out.trans (hb.mono hz') | (rw [hbm]; exact hb0.out.trans (hb.mono hz'))⟩
        | cons t todo =>
          obtain ⟨kn, rfl⟩ : ∃ kn : Nat, t = (kn : Int) := ⟨t.toNat, by have := hpos.out t (by simp); omega⟩
          obtain ⟨qg, qo, rfl, e0, hq0, hqc⟩ := hM.out.que.head
          have hcut : ∀ W : World, (Instr.slice 31 (.slice (some ⟨qg, qo, none⟩) q c) (some (.int .i64 1)) none none).run Tryz.prog W = .ok (.slice (cutA (some ⟨qg, qo, none⟩) 1 c 1) (q - 1) (c - 1)) W := fun W => run_cut elem_int64 (some ⟨qg, qo, none⟩) q c 1 (by omega) W
          have hM2 := hide hM.out.cut
          have hQ2 : Hid (QueIs (srcE l) (arcE false es) N out (kn :: todo.map Int.toNat)) := by have := hQ.out; rwa [List.map_cons, Int.toNat_natCast] at this
          have hpos2 : Hid (∀ v ∈ todo, 0 ≤ v) := fun v hv => hpos.out v (List.mem_cons_of_mem _ hv)
          obtain ⟨mk, hmk, hmk0⟩ := hQ2.out.todo_ kn (by simp)
          have hknN : kn < N := by have := (List.getElem?_eq_some_iff.1 hmk).1; rw [hQ2.out.len] at this; exact this
          obtain ⟨G2, rfl⟩ : ∃ G2, gk = G2 + 1 := ⟨gk - 1, by have := hG.out; omega⟩
          have hcap2 : Hid (q - 1 + negs out ≤ 1039) := by have := hcap.out; show _ ≤ _; omega
          have hG2 : Hid (q - 1 + negs out ≤ G2) := by have := hG.out; show _ ≤ _; omega
          have y3 := (hb.cell (p := ⟨bm, 3, none⟩) hz).trans c3
          have hfz := hide (FoundE.zero false es kn out)
          have hmkv : Hid (out[kn]? = some mk) := hmk
          replace hb := hide hb
          clear hM hQ hpos hcap hG hmk
          generalize cutA (some ⟨qg, qo, none⟩) 1 c 1 = AC at *
          generalize c - 1 = cc at *
          go_upto_region 12 with fail
          clear y3 e0 hcut
          obtain ⟨wo, rfl⟩ : ∃ wo : World, wo = wr := ⟨_, rfl⟩
          go_loopw [8, 43] (fun v i wr => ∃ (j : Nat) (out todo : List Int) (A : Option Addr) (q c : Nat), j ≤ n3 ∧ v = .slice A q c ∧ i = .int .i64 (j : Nat) ∧ Hid (MemD wr bo oo N out qb A q c todo) ∧ Hid (QueIs (srcE l) (arcE false es) N out (kn :: todo.map Int.toNat)) ∧ Hid (∀ v ∈ todo, 0 ≤ v) ∧ Hid (q + negs out ≤ 1039) ∧ Hid (BoundD N out) ∧ Hid (out[kn]? = some mk) ∧ Hid (FoundE false es j kn out) ∧ Below W0.heap.size W0 wr ∧ Hid (q + negs out ≤ G2)) (fun _ i _ => n3 - (intOf i).toNat)
          case atStart => exact ⟨0, out, todo, AC, _, _, Nat.zero_le _, rfl, rfl, hM2, hQ2, hpos2, hcap2, hbd, hmkv, hfz, hb.out, hG2⟩
          case round =>
            clear hM2 hQ2 hpos2 hcap2 hmkv hfz hb hG2 hbd
            obtain ⟨j, out, todo, A, q, c, hj, rfl, rfl, hM, hQ, hpos, hcap, hbd, hmk, hfo, hb, hG⟩ := hrel
            by_cases hlt : j < n3
            · obtain ⟨b, off, f, lb, tg, rfl, -, -, g3, hx, p0, p1, p2, -, -, -⟩ := SlE.get t3.out hlt
              replace p0 := (hb.cell g3).trans p0
              replace p1 := (hb.cell (p := ⟨b, off + j * 3 + 1, none⟩) g3).trans p1
              replace p2 := (hb.cell (p := ⟨b, off + j * 3 + 2, none⟩) g3).trans p2
              have hed := hedge.out _ (List.mem_of_getElem? hx)
              dsimp only at hed
              obtain ⟨fn, rfl⟩ : ∃ fn : Nat, f = (fn : Int) := ⟨f.toNat, by omega⟩
              obtain ⟨tn, rfl⟩ : ∃ tn : Nat, tg = (tn : Int) := ⟨tg.toNat, by omega⟩
              have hbN : fn < N := by omega
              have hbI : (fn : Int) < (N : Int) := by omega
              have hb0I : (0 : Int) ≤ (fn : Int) := by omega
              have hkI : (kn : Int) < (N : Int) := by omega
              have hk0I : (0 : Int) ≤ (kn : Int) := by omega
              have y3 := (hb.cell (p := ⟨bm, 3, none⟩) hz).trans c3
              have hI0 : (0 : Int) ≤ (j : Int) := by omega
              have hI1 : (j : Int) < (n3 : Int) := by omega
              have hbE : Below wr.heap.size wr (wr.alloc (.cells #[.int .i64 (fn : Int), .int .i64 lb, .int .i64 (tn : Int)] 70)) := (Below.refl _ _).alloc (Nat.le_refl _) _
              have kE := heap_alloc_new wr (.cells #[.int .i64 (fn : Int), .int .i64 lb, .int .i64 (tn : Int)] 70)
              have hbB := hide (hb.trans (hbE.mono hb.size))
              have hME := hide (hM.out.alloc (.cells #[.int .i64 (fn : Int), .int .i64 lb, .int .i64 (tn : Int)] 70))
              have z0 : (wr.alloc (.cells #[.int .i64 (fn : Int), .int .i64 lb, .int .i64 (tn : Int)] 70)).cell? ⟨wr.heap.size, 0, none⟩ = some (.int .i64 (fn : Int)) := (cell_of_row _ _ 0 _ _ (0, 0) kE).trans rfl
              have z2 : (wr.alloc (.cells #[.int .i64 (fn : Int), .int .i64 lb, .int .i64 (tn : Int)] 70)).cell? ⟨wr.heap.size, 2, none⟩ = some (.int .i64 (tn : Int)) := (cell_of_row _ _ 2 _ _ (0, 0) kE).trans rfl
              clear kE hbE hM hb
              go_upto_region 14 with fail
              clear p0 p1 p2 y3
              generalize (wr.alloc (.cells #[.int .i64 (fn : Int), .int .i64 lb, .int .i64 (tn : Int)] 70)) = WE at *
              go_quiet (fail)
              have hMq : Hid (MemD (WE.drewN nq) bo oo N out qb A q c todo) := hME.out.drewN nq
              have hBq : Hid (Below W0.heap.size W0 (WE.drewN nq)) := ⟨hbB.out.os, hbB.out.tape, hbB.out.output, hbB.out.size, hbB.out.block⟩
              clear z0 z2 hME hbB
              generalize WE.drewN nq = wq at *
              have hbg : fn < out.length := by rw [hQ.out.len]; exact hbN
              obtain ⟨b6, o6, z, e6, -, -, -, hz6, cz, fz⟩ := SlI.get hMq.out.out hbN
              cases e6
              obtain ⟨b7, o7, z7, e7, -, -, -, hz7, ck, -⟩ := SlI.get hMq.out.out hknN
              cases e7
              rw [hmk.out] at hz7
              obtain rfl : mk = z7 := Option.some.inj hz7
              by_cases hak : tn = kn
              · subst hak
                by_cases hz0 : z < 0
                · have harcE : arcE false es tn fn := ⟨_, List.mem_of_getElem? hx, by simp⟩
                  have hne : fn ≠ tn := by
                    intro e
                    rw [e] at hz6
                    rw [hmk.out] at hz6
                    have := Option.some.inj hz6
                    omega
                  have hQ9 : Hid (QueIs (srcE l) (arcE false es) N (out.set fn (mk + 1)) (tn :: (todo ++ [(fn : Int)]).map Int.toNat)) := by
                    have := QueIs.add _ _ hQ.out hmk.out hz6 hz0 harcE
                    show QueIs _ _ _ _ _
                    rw [List.map_append, List.map_cons, List.map_nil, Int.toNat_natCast]
                    exact this
                  have hmk9 : Hid ((out.set fn (mk + 1))[tn]? = some mk) := by show _ = _; rw [List.getElem?_set_ne hne]; exact hmk.out
                  have hfo9 : Hid (FoundE false es (j + 1) tn (out.set fn (mk + 1))) := (hfo.out.set fn (x := mk + 1) (by omega) hbg).skip hx (fun b hb => by
                    have hbb : b = fn := by simp at hb; omega
                    subst hbb
                    exact ⟨_, List.getElem?_set_self hbg, by omega⟩)
                  have hnegs := negs_set (v := mk + 1) hz6 hz0 (by omega)
                  have hbd9 := hide (hbd.out.set hmk.out hz6 hz0 (by obtain ⟨y, hy, hy0⟩ := hQ.out.todo_ tn (by simp); rw [hmk.out] at hy; cases hy; exact hy0))
                  have hmkb : mk ≤ 40 := by have := hbd.out tn mk hmk.out; omega
                  have hmk0 : 0 ≤ mk := by obtain ⟨y, hy, hy0⟩ := hQ.out.todo_ tn (by simp); rw [hmk.out] at hy; cases hy; exact hy0
                  have hM9 := (hMq.out.put hbN (mk + 1)).alloc (.cells #[.int .i64 (fn : Int)] 2)
                  have hqlen := hM9.que.len
                  have hcell0 := cell_one_new (wq.setCell ⟨bo, oo + fn, none⟩ (.int .i64 (mk + 1))) (.int .i64 (fn : Int)) 2 0 _ rfl
                  rw [addr_add, Nat.zero_add, World.size_setCell] at hcell0
                  replace hcell0 := hide hcell0
                  have hbp := hide ((hBq.out.setCell (p := ⟨bo, oo + fn, none⟩) hbow (.int .i64 (mk + 1))).alloc (by rw [World.size_setCell]; exact hBq.out.size) (.cells #[.int .i64 (fn : Int)] 2))
                  have hzq : qb ≤ ((wq.setCell ⟨bo, oo + fn, none⟩ (.int .i64 (mk + 1))).alloc (.cells #[.int .i64 (fn : Int)] 2)).heap.size := hM9.o2
                  have hq9 : q + 1 ≤ 1048576 := by have := hcap.out; omega
                  have hcap9 : Hid (q + 1 + negs (out.set fn (mk + 1)) ≤ 1039) := by have := hcap.out; show _ ≤ _; omega
                  have hG9 : Hid (q + 1 + negs (out.set fn (mk + 1)) ≤ G2) := by have := hG.out; show _ ≤ _; omega
                  have hpos9 : Hid (∀ v ∈ todo ++ [(fn : Int)], 0 ≤ v) := fun v hv => by
                    rcases List.mem_append.1 hv with h1 | h1
                    · exact hpos.out v h1
                    · have : v = (fn : Int) := by simpa using h1
                      omega
                  have hqbo : W0.heap.size ≤ qb := by have := hM9.o1; omega
                  have d2 : decide (z < (0 : Int)) = true := decide_eq_true hz0
                  replace hM9 := hide hM9
                  clear hx hed hz6 hz0 hne hbd hnegs hmk hfo hQ hpos hcap hG hMq hBq harcE hqlen
                  go_wp2_with (first
                    | (at_builtin; (with_reducible refine wpList_appQ rfl (.tmp 73) (.tmp 75) rfl rfl hM9.out.que ⟨wq.heap.size, 0, none⟩ 1 (fn : Int) rfl hcell0.out hq9 hzq ?_); intro A5 c5 w5 hown5 hgr5 hb5 _))
                  have hM5 := hide (hM9.out.app hown5 hgr5)
                  have hb6 := hide (hbp.out.trans (hb5.mono hqbo))
                  clear hown5 hgr5 hb5 hM9
                  go_roundw
                  case rel => exact ⟨j + 1, _, _, A5, q + 1, c5, by omega, rfl, by go_num, hM5, hQ9, hpos9, hcap9, hbd9, hmk9, hfo9, hb6.out, hG9⟩
                  case measure => simp [intOf]; omega
                · have hfo9 : Hid (FoundE false es (j + 1) tn out) := hfo.out.skip hx (fun b hb => by
                    have hbb : b = fn := by simp at hb; omega
                    subst hbb
                    exact ⟨z, hz6, by omega⟩)
                  have d2 : decide (z < (0 : Int)) = false := decide_eq_false hz0
                  clear hx hed hz6
                  go_wp2_with fail
                  go_roundw
                  case rel => exact ⟨j + 1, _, _, A, q, c, by omega, rfl, by go_num, hMq, hQ, hpos, hcap, hbd, hmk, hfo9, hBq.out, hG⟩
                  case measure => simp [intOf]; omega
              · have hfo9 : Hid (FoundE false es (j + 1) kn out) := hfo.out.skip hx (fun b hb => by
                  exfalso
                  simp at hb
                  omega)
                have hne : ((tn : Int) == (kn : Int)) = false := by rw [beq_eq_false_iff_ne]; omega
                clear hx hed hz6
                go_wp2_with fail
                go_roundw
                case rel => exact ⟨j + 1, _, _, A, q, c, by omega, rfl, by go_num, hMq, hQ, hpos, hcap, hbd, hmk, hfo9, hBq.out, hG⟩
                case measure => simp [intOf]; omega
            · have hjn : j = n3 := by omega
              subst hjn
              have hQ9 : Hid (QueIs (srcE l) (arcE false es) N out (todo.map Int.toNat)) := QueIs.pop _ _ hQ.out (fun b hb => hfo.out b (by rw [List.take_of_length_le (by rw [l3.out]; exact Nat.le_refl _)]; exact hb))
              have hcap9 : Hid (q + negs out ≤ 1040) := by have := hcap.out; show _ ≤ _; omega
              replace hb := hide hb
              clear hQ hcap hfo hmk
              go_wp2_with fail
              go_roundg G2
              case measure => omega
              case rel => exact ⟨out, todo, A, q, c, rfl, hM, hQ9, hpos, hcap9, hbd, hb.out, hG⟩

end Go.Proofs.YtcdhgabcajehnaaGreatDoor

namespace Go.Proofs.YtcdhgabcajehnaaGreatDoor
set_option linter.unusedVariables false

/-- n arcs lead from x to y. -/
def stp (arc : Nat → Nat → Prop) : Nat → Nat → Nat → Prop
  | 0, x, y => x = y
  | n + 1, x, y => ∃ z, stp arc n x z ∧ arc z y
theorem stp_cons {arc : Nat → Nat → Prop} {n x y z : Nat} (h : arc x z) (g : stp arc n z y) : stp arc (n + 1) x y := by
  induction n generalizing y with
  | zero => exact ⟨x, rfl, (show z = y from g) ▸ h⟩
  | succ n ih =>
    obtain ⟨u, g1, g2⟩ := g
    exact ⟨u, ih g1, g2⟩
theorem stp_rev {arc brc : Nat → Nat → Prop} (hb : ∀ a b, arc a b → brc b a) {n x y : Nat} (h : stp arc n x y) : stp brc n y x := by
  induction n generalizing y with
  | zero => exact (show x = y from h).symm
  | succ n ih =>
    obtain ⟨z, h1, h2⟩ := h
    exact stp_cons (hb _ _ h2) (ih h1)
theorem lay_stp {arc : Nat → Nat → Prop} {n x y : Nat} : lay (srcE [(x : Int)]) arc n y ↔ ∃ m, m ≤ n ∧ stp arc m x y := by
  induction n generalizing y with
  | zero =>
    constructor
    · intro h
      have h : (y : Int) ∈ [(x : Int)] := h
      have := List.mem_singleton.1 h
      exact ⟨0, Nat.le_refl _, show x = y by omega⟩
    · rintro ⟨m, hm, h⟩
      obtain rfl : m = 0 := by omega
      have h : x = y := h
      subst h
      exact List.mem_singleton.2 rfl
  | succ n ih =>
    constructor
    · rintro (h | ⟨a, h, ha⟩)
      · obtain ⟨m, hm, g⟩ := ih.1 h
        exact ⟨m, by omega, g⟩
      · obtain ⟨m, hm, g⟩ := ih.1 h
        exact ⟨m + 1, by omega, a, g, ha⟩
    · rintro ⟨m, hm, g⟩
      by_cases e : m ≤ n
      · exact .inl (ih.2 ⟨m, e, g⟩)
      · obtain rfl : m = n + 1 := by omega
        obtain ⟨z, g1, g2⟩ := g
        exact .inr ⟨z, ih.2 ⟨n, Nat.le_refl _, g1⟩, g2⟩
theorem arc_flip {es : List Ed} {a b : Nat} : arcE true es a b ↔ arcE false es b a := by
  constructor
  · rintro ⟨e, he, h⟩
    exact ⟨e, he, by simpa using (show e.1 = (a : Int) ∧ e.2.2 = (b : Int) from by simpa using h).symm⟩
  · rintro ⟨e, he, h⟩
    exact ⟨e, he, by simpa using (show e.2.2 = (b : Int) ∧ e.1 = (a : Int) from by simpa using h).symm⟩
theorem lay_flip {es : List Ed} {n x y : Nat} : lay (srcE [(x : Int)]) (arcE true es) n y ↔ lay (srcE [(y : Int)]) (arcE false es) n x := by
  rw [lay_stp, lay_stp]
  constructor
  · rintro ⟨m, hm, h⟩; exact ⟨m, hm, stp_rev (fun a b h => arc_flip.1 h) h⟩
  · rintro ⟨m, hm, h⟩; exact ⟨m, hm, stp_rev (fun a b h => arc_flip.2 h) h⟩
theorem least_flip {es : List Ed} {d x y : Nat} : least (srcE [(x : Int)]) (arcE true es) d y ↔ least (srcE [(y : Int)]) (arcE false es) d x := by
  unfold least
  rw [lay_flip]
  refine and_congr_right fun _ => forall_congr' fun m => forall_congr' fun _ => ?_
  rw [lay_flip]
/-- Distances from x and to y. -/
theorem dist_flip {es : List Ed} {N x y : Nat} {far left : List Int} (hf : DistIs (srcE [(x : Int)]) (arcE true es) N far) (hl : DistIs (srcE [(y : Int)]) (arcE false es) N left) {a b : Int} (ha : far[y]? = some a) (hb : left[x]? = some b) : a = b := by
  obtain ⟨a1, a2⟩ := hf.2 y a ha
  obtain ⟨b1, b2⟩ := hl.2 x b hb
  by_cases h0 : 0 ≤ a
  · by_cases h1 : 0 ≤ b
    · have := least_uniq _ _ (least_flip.1 (a1 h0)) (b1 h1)
      omega
    · exact absurd (lay_flip.1 (a1 h0).1) ((b2 (by omega)).2 _)
  · by_cases h1 : 0 ≤ b
    · exact absurd (lay_flip.2 (b1 h1).1) ((a2 (by omega)).2 _)
    · rw [(a2 (by omega)).1, (b2 (by omega)).1]
/-- The edge e leads one nearer. -/
def nearE (left : List Int) (x : Nat) (d : Int) (e : Ed) : Bool := decide (e.1 = (x : Int)) && decide (left[e.2.2.toNat]? = some (d - 1))
theorem near_one {es : List Ed} {N y x : Nat} {left : List Int} (hl : DistIs (srcE [(y : Int)]) (arcE false es) N left) (he : ∀ e, e ∈ es → 0 ≤ e.2.2 ∧ e.2.2 < (N : Int)) {d : Int} (hd : left[x]? = some d) (h0 : 0 < d) : ∃ e, e ∈ es ∧ nearE left x d e = true := by
  have h1 := (hl.2 x d hd).1 (by omega)
  rw [show d.toNat = (d.toNat - 1) + 1 by omega] at h1
  obtain ⟨z, h2, h3⟩ := least_pred _ _ h1
  obtain ⟨e, hm, h3⟩ := h3
  have h3 : e.2.2 = (z : Int) ∧ e.1 = (x : Int) := by simpa using h3
  have hin := he e hm
  refine ⟨e, hm, ?_⟩
  unfold nearE
  rw [decide_eq_true h3.2, Bool.true_and, decide_eq_true_eq, show e.2.2.toNat = z by omega]
  have hz : left[z]? = some (left[z]'(by rw [hl.1]; omega)) := List.getElem?_eq_getElem _
  have g := hl.2 z _ hz
  rw [hz]
  congr 1
  by_cases hp : 0 ≤ left[z]'(by rw [hl.1]; omega)
  · have := least_uniq _ _ (g.1 hp) h2
    omega
  · exact absurd h2.1 ((g.2 (by omega)).2 _)
theorem dist_zero {es : List Ed} {N y x : Nat} {left : List Int} (hl : DistIs (srcE [(y : Int)]) (arcE false es) N left) (h : left[x]? = some 0) : x = y := by
  have h1 := ((hl.2 x 0 h).1 (Int.le_refl _)).1
  obtain ⟨m, hm, g⟩ := lay_stp.1 h1
  have : m = 0 := by omega
  subst this
  exact (show y = x from g).symm

/-- The edges with these numbers lead from x to y. -/
def WayE (es : List Ed) : Nat → List Int → Nat → Prop
  | x, [], y => x = y
  | x, i :: l, y => ∃ (e : Ed) (z : Nat), 0 ≤ i ∧ es[i.toNat]? = some e ∧ e.1 = (x : Int) ∧ e.2.2 = (z : Int) ∧ WayE es z l y
theorem WayE.snoc {es : List Ed} {x z : Nat} {l : List Int} {i : Int} {e : Ed} {y : Nat} (h : WayE es x l y) (h0 : 0 ≤ i) (hi : es[i.toNat]? = some e) (h1 : e.1 = (y : Int)) (h2 : e.2.2 = (z : Int)) : WayE es x (l ++ [i]) z := by
  induction l generalizing x with
  | nil =>
    have h : x = y := h
    subst h
    exact ⟨e, z, h0, hi, h1, h2, rfl⟩
  | cons j l ih =>
    obtain ⟨e', z', g0, g1, g2, g3, g4⟩ := h
    exact ⟨e', z', g0, g1, g2, g3, ih g4⟩
theorem WayE.range {es : List Ed} {x y : Nat} {l : List Int} (h : WayE es x l y) : ∀ i, i ∈ l → 0 ≤ i ∧ i < (es.length : Int) := by
  induction l generalizing x with
  | nil => exact fun i hi => absurd hi List.not_mem_nil
  | cons j l ih =>
    obtain ⟨e', z', g0, g1, g2, g3, g4⟩ := h
    intro i hi
    rcases List.mem_cons.1 hi with rfl | hi
    · have := (List.getElem?_eq_some_iff.1 g1).1
      omega
    · exact ih g4 i hi
theorem drop_cons {α : Type} {l : List α} {k : Nat} {x : α} (h : l[k]? = some x) : l.drop k = x :: l.drop (k + 1) := by
  obtain ⟨h1, h2⟩ := List.getElem?_eq_some_iff.1 h
  rw [List.drop_eq_getElem_cons h1, h2]
theorem WayE.step {es : List Ed} {x y k : Nat} {l : List Int} {i : Int} (h : WayE es x (l.drop k) y) (hi : l[k]? = some i) : ∃ (e : Ed) (z : Nat), 0 ≤ i ∧ es[i.toNat]? = some e ∧ e.1 = (x : Int) ∧ e.2.2 = (z : Int) ∧ WayE es z (l.drop (k + 1)) y := by
  rw [drop_cons hi] at h
  exact h
theorem WayE.done {es : List Ed} {x y k : Nat} {l : List Int} (h : WayE es x (l.drop k) y) (hk : l.length ≤ k) : x = y := by
  rw [List.drop_eq_nil_of_le hk] at h
  exact h
/-- The labels of the edges of a path. -/
def plabF (es : List Ed) (ls : List ByteArray) (l : List Int) : List ByteArray := l.map fun i => match es[i.toNat]? with
  | some e => (ls[e.2.1.toNat]?).getD ByteArray.empty
  | none => ByteArray.empty
end Go.Proofs.YtcdhgabcajehnaaGreatDoor

namespace Go.Proofs.YtcdhgabcajehnaaGreatDoor
open Go.ChangeShapes Go.WideShapes Go.ChangeAt Go.RowKit
set_option linter.unusedVariables false
set_option linter.unusedSimpArgs false

theorem Own.litL {α : Type} {f : α → List Value} {w : World} {g base : Nat} {e : TypeId} {x : α} {u : Value} (h : w.heap[g]? = some (.cells #[u] e (0, 0))) (hf : f x = [u]) (hb : base ≤ g) : Own 1 f w base e (some ⟨g, 0, none⟩) 1 1 [x] :=
  ⟨rfl, by simp [hf], .inr ⟨g, 1, #[u], rfl, hb, h, Nat.le_refl _, by unfold maxLen; omega, rfl, by simp [hf]⟩⟩
theorem strv_mapL (l : List ByteArray) : l.flatMap strv = l.map Value.string := by
  induction l with
  | nil => rfl
  | cons x l ih => rw [List.flatMap_cons, ih]; rfl
theorem Own.setS {w : World} {base g n c : Nat} {e : TypeId} {l : List ByteArray} (h : Own 1 strv w base e (some ⟨g, 0, none⟩) n c l) (k : Nat) (x : ByteArray) : Own 1 strv (w.setCell ⟨g, k, none⟩ (.string x)) base e (some ⟨g, 0, none⟩) n c (l.set k x) := by
  rcases h.2.2 with ⟨hv, -⟩ | ⟨g', cap, cur, hv, hb, hg, hnc, hcm, hcs, htake⟩
  · cases hv
  · cases hv
    refine ⟨by rw [List.length_set]; exact h.1, by rw [flat_length flat_strv, List.length_set]; have := h.1; omega, .inr ⟨g, c, cur.setIfInBounds k (.string x), rfl, hb, heap_setCell_same _ _ k _ _ _ hg, hnc, hcm, by simpa using hcs, ?_⟩⟩
    rw [Array.toList_setIfInBounds, List.take_set, htake, strv_mapL, strv_mapL, List.map_set]

theorem step_appL {P : Program} {α : Type} {size bytes : Nat} {f : α → List Value} {t e : TypeId} {w : World} {ops : Array Oper} {o : Oper} {a : Act} {K : Act → World → Prop} {Q : Exit → Act → World → Prop} {E : Prop} (hgd : o.guard = none) (s x : Operand)
    (ho : o.op = .call { callee := .builtin .append, args := #[s, x], argTypes := #[t, t] }) (hE : Elem P t e size bytes) (hf : Flat f size)
    {base n c : Nat} {A : Option Addr} {l : List α} (hs : a.eval s = .slice A n c) (hown : Own size f w base e A n c l)
    {B : Option Addr} {m d lo hi : Nat} {r : List α} (hx : a.eval x = .slice B m d) (hr : Sl size f w lo hi B m r) (hsz : (n + m) * bytes ≤ 140737488355328) (hbase : base ≤ w.heap.size)
    (h : ∀ A' c' w', Own size f w' base e A' (n + m) c' (l ++ r) → w.grownBy w' (Value.slice A n c).ownBlock → Below base w w' →
      ((Value.slice A' (n + m) c').ownBlock = (Value.slice A n c).ownBlock ∨ (Value.slice A' (n + m) c').ownBlock = some w.heap.size) → K (a.put o.dst (.slice A' (n + m) c')) w') :
    if Region.wanted o (yielded ops a.tmps) = true then Oper.wp P o a w K Q else E := by
  have hw : Region.wanted o (yielded ops a.tmps) = true := by simp [Region.wanted, hgd]
  rw [if_pos hw]
  obtain ⟨A', c', w', h1, h2, h3, h4⟩ := run_app w hE hf o.type hown (d := d) hr hsz hbase
  unfold Oper.wp execOp
  simp only [ho, resolve, invoke, builtin, Sem.run_bind, Sem.run_pure, Result.andThen_ok, List.map_toArray, List.map_cons, List.map_nil, hs, hx, h1]
  exact h _ _ _ h2 h3 ((Below.refl _ _).grown h3 hbase fun k hk => (hown.lt k hk).1) h4

end Go.Proofs.YtcdhgabcajehnaaGreatDoor

namespace Go.Proofs.YtcdhgabcajehnaaGreatDoor
open Go.ChangeShapes Go.WideShapes Go.ChangeAt Go.RowKit
set_option linter.unusedVariables false
set_option linter.unusedSimpArgs false

abbrev HI := Option Addr × Nat
def hiV (N : Nat) (x : HI) : List Value := [.slice x.1 N x.2]
theorem flat_hiV (N : Nat) : Flat (hiV N) 1 := ⟨fun _ => rfl, fun x u h => by simp [hiV] at h; subst h; rfl⟩
/-- Rows of N numbers; the row of their handles is the call's own. -/
structure GrowI (w : World) (base N : Nat) (A : Option Addr) (n c : Nat) (R : List (HI × List Int)) : Prop where
  own : Own 1 (hiV N) w base 31 A n c (R.map (·.1))
  rows : ∀ r ∈ R, SlI w base w.heap.size r.1.1 N r.2
  off : ∀ r ∈ R, 0 < N → ∀ b off, r.1.1 = some ⟨b, off, none⟩ → (Value.slice A n c).ownBlock ≠ some b
section
variable {w w4 w5 w' : World} {base N n c : Nat} {A : Option Addr} {R : List (HI × List Int)}
theorem GrowI.len (h : GrowI w base N A n c R) : R.length = n := by have := h.own.len; rwa [List.length_map] at this
theorem GrowI.nil_ (w : World) (base N : Nat) : GrowI w base N none 0 0 [] := ⟨Own.nil_ _ _ _, fun _ h => (List.not_mem_nil h).elim, fun _ h => (List.not_mem_nil h).elim⟩
/-- The blocks from base on stay. -/
theorem GrowI.keep (h : GrowI w base N A n c R) (hs : w.heap.size ≤ w'.heap.size) (hk : ∀ b, base ≤ b → b < w.heap.size → w'.heap[b]? = w.heap[b]?) : GrowI w' base N A n c R :=
  ⟨h.own.keep fun g hg => hk g (h.own.lt g hg).1 (h.own.lt g hg).2, fun r hr => ((h.rows r hr).keep hs fun b h1 _ h3 => hk b h1 h3).more (Nat.le_refl _) hs, h.off⟩
theorem GrowI.below (h : GrowI w base N A n c R) (hb : Below w.heap.size w w') : GrowI w' base N A n c R := h.keep hb.size fun b _ h2 => hb.block b h2
/-- A first row. -/
theorem GrowI.one {Ah : Option Addr} {ch : Nat} {s : List Int} (hs : SlI w base w.heap.size Ah N s) (hb : base ≤ w.heap.size) : GrowI (w.alloc (.cells #[.slice Ah N ch] 31)) base N (some ⟨w.heap.size, 0, none⟩) 1 1 [((Ah, ch), s)] := by
  have hbel : Below w.heap.size w (w.alloc (.cells #[.slice Ah N ch] 31)) := (Below.refl _ _).alloc (Nat.le_refl _) _
  refine ⟨⟨rfl, by simp [hiV], .inr ⟨w.heap.size, 1, #[.slice Ah N ch], rfl, hb, heap_alloc_new w _, Nat.le_refl _, by decide, rfl, rfl⟩⟩, fun r hr => ?_, fun r hr hN b off e => ?_⟩
  · obtain rfl := List.mem_singleton.1 hr
    exact (hs.below hbel (.inr (Nat.le_refl _))).more (Nat.le_refl _) hbel.size
  · obtain rfl := List.mem_singleton.1 hr
    obtain ⟨b', off', e', -, -, g3, -⟩ := hs.at_ hN
    have e : Ah = _ := e
    rw [e] at e'
    cases e'
    intro e2
    have e2 : some w.heap.size = some b := e2
    injection e2 with e2
    omega
/-- Row k. -/
theorem GrowI.get (h : GrowI w base N A n c R) {k : Nat} (hk : k < n) : ∃ b off Ah ch s, A = some ⟨b, off, none⟩ ∧ base ≤ b ∧ b < w.heap.size ∧ R[k]? = some ((Ah, ch), s) ∧ w.cell? ⟨b, off + k, none⟩ = some (.slice Ah N ch) ∧ SlI w base w.heap.size Ah N s ∧
    ∀ b off, 0 < N → Ah = some ⟨b, off, none⟩ → (Value.slice A n c).ownBlock ≠ some b := by
  have hl := h.len
  obtain ⟨b, off, e, g1, g2, g3, hc⟩ := (h.own.sl (flat_hiV N)).at_ (by omega)
  have hr : R[k]? = some R[k] := List.getElem?_eq_getElem (by omega)
  have hm : R[k] ∈ R := List.getElem_mem _
  have h0 := (hc k R[k].1 (by rw [List.getElem?_map, hr]; rfl) 0 _ rfl).1
  rw [Nat.mul_one, Nat.add_zero] at h0
  exact ⟨b, off, R[k].1.1, R[k].1.2, R[k].2, e, g1, g3, hr, h0, h.rows _ hm, fun b off hN e => h.off _ hm hN b off e⟩
end

end Go.Proofs.YtcdhgabcajehnaaGreatDoor

namespace Go.Proofs.YtcdhgabcajehnaaGreatDoor
open Go.ChangeShapes Go.WideShapes Go.ChangeAt Go.RowKit
set_option linter.unusedVariables false
set_option linter.unusedSimpArgs false

/-- The first element at which the test holds, or -1. -/
def fstG {α : Type} (G : α → Bool) (l : List α) (i : Int) : Prop := (i = -1 ∧ l.any G = false) ∨ ∃ k : Nat, i = k ∧ k < l.length ∧ (l.take k).any G = false ∧ ∃ x, l[k]? = some x ∧ G x = true
set_option maxRecDepth 100000 in
theorem indexFuncG_calls (F : FuncId) (caps : Array Value) (G : Ed → Bool) (A : Option Addr) (n c : Nat) (l : List Ed) (w : World) (lo hi : Nat) (h : SlE w lo hi A n l) (hn : n ≤ 1048576)
    (hF : ∀ (v : Value) (W : World), Sem.run Tryz.prog (callFunc F (#[v] ++ caps)) W = .ok (.enter F (#[v] ++ caps)) W)
    (hcl : ∀ (f lb tg : Int), (f, lb, tg) ∈ l → ∀ (W : World), Below w.heap.size w W → Calls Tryz.prog F (#[.agg #[.int .i64 f, .int .i64 lb, .int .i64 tg]] ++ caps) W (Says (G (f, lb, tg)) W)) :
    Calls Tryz.prog 76 #[.slice A n c, .func (.func F) #[] caps] w fun e w' => ∃ i : Int, e = .returned (.int .i64 i) ∧ fstG G l i ∧ Below w.heap.size w w' := by
  have hlen := hide h.len
  replace hcl := hide hcl
  go_enter Tryz.func76, Tryz.ntmps76
  go_wp2
  go_loopw [8] (fun i wr => ∃ k : Nat, k ≤ n ∧ i = .int .i64 k ∧ Below w.heap.size w wr ∧ Hid ((l.take k).any G = false)) (fun i _ => n - (intOf i).toNat)
  case atStart => exact ⟨0, Nat.zero_le _, rfl, Below.refl _ _, rfl⟩
  case round =>
    obtain ⟨k, hk, rfl, hb, ha⟩ := hrel
    by_cases hlt : k < n
    · obtain ⟨b, off, f, lb, tg, rfl, g1, g2, g3, hx, c0, c1, c2, -, -, -⟩ := SlE.get h hlt
      replace c0 := (hb.cell g3).trans c0
      replace c1 := (hb.cell (p := ⟨b, off + k * 3 + 1, none⟩) g3).trans c1
      replace c2 := (hb.cell (p := ⟨b, off + k * 3 + 2, none⟩) g3).trans c2
      have hc := hcl.out f lb tg (List.mem_of_getElem? hx) wr hb
      replace hx := hide hx
      clear h hcl
      by_cases hg : G (f, lb, tg) = true
      · rw [hg] at hc
        replace hc := hide hc
        have hy : Hid (fstG G l k) := .inr ⟨k, rfl, by rw [hlen.out]; exact hlt, ha.out, _, hx.out, hg⟩
        clear hg
        go_wp2_with fail
        refine hc.out.mono ?_
        rintro e w1 ⟨rfl, hb1⟩
        go_wp2_with fail
        go_ret
        exact ⟨_, rfl, hy.out, hb.trans (hb1.mono hb.size)⟩
      · replace hg := Bool.eq_false_iff.2 hg
        rw [hg] at hc
        replace hc := hide hc
        have hy := hide (any_take_succ ha.out hx.out hg)
        clear hg
        go_wp2_with fail
        refine hc.out.mono ?_
        rintro e w1 ⟨rfl, hb1⟩
        go_wp2_with fail
        go_roundw
        case rel => exact ⟨k + 1, by omega, by go_num, hb.trans (hb1.mono hb.size), hy⟩
        case measure => simp [intOf]; omega
    · have hkn : k = n := by omega
      subst hkn
      clear hcl
      go_wp2
      go_ret
      have hy := ha.out
      rw [List.take_of_length_le (by rw [hlen.out]; exact Nat.le_refl _)] at hy
      exact ⟨_, rfl, .inl ⟨rfl, hy⟩, hb⟩

end Go.Proofs.YtcdhgabcajehnaaGreatDoor

namespace Go.Proofs.YtcdhgabcajehnaaGreatDoor
open Go.ChangeShapes Go.WideShapes Go.ChangeAt Go.RowKit
set_option linter.unusedVariables false
set_option linter.unusedSimpArgs false

/-- A byte. -/
def byv (n : Int) : List Value := [.int .u8 n]
abbrev SlU := Sl 1 byv

/-- The source lies in block b; of its bytes at most N are read. -/
def SrcW (w : World) (b N : Nat) : Prop :=
  ∃ (A : Option Addr) (n c : Nat) (code : List Int) (at_ : Nat) (seed : Int), w.heap[b]? = some (.cells #[.slice A n c, .int .i64 (at_ : Int), .int .u64 seed] 88 (0, 0)) ∧ at_ ≤ N ∧ n ≤ maxLen ∧
    SlU w 0 b A n code ∧ ∀ x, x ∈ code → 0 ≤ x ∧ x ≤ 255
/-- What drawing does: the source alone changes. -/
structure SrcTo (w w' : World) (b N : Nat) : Prop where
  src : SrcW w' b N
  only : Only b (b + 1) w w'
  size : w'.heap.size = w.heap.size

section
variable {w w' w2 : World} {b N M : Nat}
theorem SrcW.lt (h : SrcW w b N) : b < w.heap.size := by
  obtain ⟨A, n, c, code, a, s, hb, _⟩ := h
  exact (Array.getElem?_eq_some_iff.1 hb).1
theorem SrcW.more (h : SrcW w b N) (hN : N ≤ M) : SrcW w b M := by
  obtain ⟨A, n, c, code, a, s, hb, ha, r⟩ := h
  exact ⟨A, n, c, code, a, s, hb, Nat.le_trans ha hN, r⟩
theorem SrcW.keep (h : SrcW w b N) (hs : w.heap.size ≤ w'.heap.size) (hk : ∀ k, k ≤ b → w'.heap[k]? = w.heap[k]?) : SrcW w' b N := by
  obtain ⟨A, n, c, code, a, s, hb, ha, hn, hc, r⟩ := h
  exact ⟨A, n, c, code, a, s, (hk b (Nat.le_refl _)).trans hb, ha, hn, hc.keep hs fun k _ h2 _ => hk k (by omega), r⟩
theorem SrcW.below {B : Nat} (h : SrcW w b N) (hb : Below B w w') (hB : b < B) : SrcW w' b N := h.keep hb.size fun k hk => hb.block k (by omega)
theorem SrcTo.refl (h : SrcW w b N) : SrcTo w w b N := ⟨h, Only.refl _ _ _, rfl⟩
theorem Only.trans' {lo hi : Nat} {a w w' : World} (h : Only lo hi a w) (g : Only lo hi w w') : Only lo hi a w' :=
  ⟨g.os.trans h.os, g.tape.trans h.tape, g.output.trans h.output, Nat.le_trans h.size g.size, fun k hk ho => (g.block k (Nat.lt_of_lt_of_le hk h.size) ho).trans (h.block k hk ho)⟩
theorem SrcTo.trans (h : SrcTo w w' b N) (g : SrcTo w' w2 b M) : SrcTo w w2 b M := ⟨g.src, h.only.trans' g.only, g.size.trans h.size⟩
theorem SrcTo.more (h : SrcTo w w' b N) (hN : N ≤ M) : SrcTo w w' b M := ⟨h.src.more hN, h.only, h.size⟩
theorem SrcW.put {A : Option Addr} {n c : Nat} {code : List Int} {a : Nat} {s s' : Int} (hb : w.heap[b]? = some (.cells #[.slice A n c, .int .i64 (a : Int), .int .u64 s] 88 (0, 0))) (hn : n ≤ maxLen) (hc : SlU w 0 b A n code) (hr : ∀ x, x ∈ code → 0 ≤ x ∧ x ≤ 255) (k0 k : Nat) :
    SrcTo w ((((w.drewN k0).setCell ⟨b, 1, none⟩ (.int .i64 ((a : Int) + 1))).setCell ⟨b, 2, none⟩ (.int .u64 s')).drewN k) b (a + 1) := by
  have hlt : b < w.heap.size := (Array.getElem?_eq_some_iff.1 hb).1
  replace hb : (w.drewN k0).heap[b]? = _ := hb
  have hc2 : SlU (w.drewN k0) 0 b A n code := hc.drewN k0
  have hO : Only b (b + 1) w (w.drewN k0) := ⟨rfl, rfl, rfl, Nat.le_refl _, fun _ _ _ => rfl⟩
  have hz : (w.drewN k0).heap.size = w.heap.size := rfl
  generalize w.drewN k0 = W at *
  refine ⟨⟨A, n, c, code, a + 1, s', ?_, Nat.le_refl _, hn, ?_, hr⟩, ?_, ?_⟩
  · have h1 := heap_setCell_same W b 1 _ _ (.int .i64 ((a : Int) + 1)) hb
    have h2 := heap_setCell_same _ b 2 _ _ (.int .u64 s') h1
    exact h2
  · refine Sl.drewN (w := (W.setCell ⟨b, 1, none⟩ (.int .i64 ((a : Int) + 1))).setCell ⟨b, 2, none⟩ (.int .u64 s')) ?_ k
    exact hc2.keep (by simp [World.size_setCell]) fun q _ h2 h3 => (Below.heap_setCell _ _ _ _ (by show q ≠ b; omega)).trans (Below.heap_setCell _ _ _ _ (by show q ≠ b; omega))
  · have h1 := (hO.setCell (p := ⟨b, 1, none⟩) (Nat.le_refl _) (Nat.lt_succ_self _) (.int .i64 ((a : Int) + 1))).setCell (p := ⟨b, 2, none⟩) (Nat.le_refl _) (Nat.lt_succ_self _) (.int .u64 s')
    exact ⟨h1.os, h1.tape, h1.output, h1.size, h1.block⟩
  · show ((W.setCell _ _).setCell _ _).heap.size = _
    rw [World.size_setCell, World.size_setCell]; exact hz
end

theorem byte_bits (x : Int) : 0 ≤ bits .and .u64 x 255 ∧ bits .and .u64 x 255 ≤ 255 := by
  have h : ((BitVec.ofInt 64 x &&& BitVec.ofInt 64 255).toNat) ≤ 255 := by
    rw [BitVec.toNat_and]
    exact Nat.le_trans Nat.and_le_right (by decide)
  have e : bits .and .u64 x 255 = IntKind.u64.wrap ((BitVec.ofInt 64 x &&& BitVec.ofInt 64 255).toNat : Nat) := rfl
  rw [e, IntKind.wrap_u64]
  omega

theorem byte_wrap (x : Int) : 0 ≤ wrap64 (bits .and .u64 x 255) ∧ wrap64 (bits .and .u64 x 255) ≤ 255 := by
  have h := byte_bits x
  have e : wrap64 (bits .and .u64 x 255) = bits .and .u64 x 255 := by unfold wrap64; omega
  rw [e]; exact h

set_option maxRecDepth 100000 in
set_option maxHeartbeats 1600000 in
theorem next_calls (b N : Nat) (w : World) (h : SrcW w b N) (hN : N ≤ 1000000000) :
    Calls Tryz.prog 85 #[.pointer (some ⟨b, 0, none⟩)] w fun e w' => ∃ x : Int, e = .returned (.int .i64 x) ∧ 0 ≤ x ∧ x ≤ 255 ∧ SrcTo w w' b (N + 1) := by
  obtain ⟨A, n, c, code, a, s, hb, ha, hn, hc, hr⟩ := h
  have hput := hide fun s' k0 k => (SrcW.put (s' := s') hb hn hc hr k0 k).more (M := N + 1) (by omega)
  have c0 : w.cell? ⟨b, 0, none⟩ = some (.slice A n c) := (cell_of_row w b 0 _ _ (0, 0) hb).trans rfl
  have c1 : w.cell? ⟨b, 1, none⟩ = some (.int .i64 (a : Int)) := (cell_of_row w b 1 _ _ (0, 0) hb).trans rfl
  have c2 : w.cell? ⟨b, 2, none⟩ = some (.int .u64 s) := (cell_of_row w b 2 _ _ (0, 0) hb).trans rfl
  have f1 := frozen_of_row w b 1 _ _ hb
  have f2 := frozen_of_row w b 2 _ _ hb
  have hnm : n ≤ 9223372036854775807 := Nat.le_trans hn (by unfold maxLen; omega)
  replace hb := hide hb
  by_cases hlt : a < n
  · obtain ⟨bc, oc, rfl, -, -, -, hat⟩ := hc.at_ (by omega)
    have hl : a < code.length := by rw [hc.len]; exact hlt
    have hx := hat a _ (List.getElem?_eq_getElem hl) 0 _ rfl
    simp only [Nat.mul_one, Nat.add_zero] at hx
    obtain ⟨x0, x1⟩ := hr _ (List.getElem_mem hl)
    generalize code[a] = x at *
    obtain ⟨hx, -⟩ := hx
    replace hc := hide hc
    clear hat hr
    have i0 : (0 : Int) ≤ (a : Int) := by omega
    have i1 : (a : Int) < (n : Int) := by omega
    have i2 : (a : Int) + 1 ≤ (n : Int) := by omega
    have j1 : decide ((a : Int) < (n : Int)) = true := decide_eq_true i1
    have j2 : decide ((a : Int) + 1 ≤ (n : Int)) = true := decide_eq_true i2
    go_enter Tryz.func85, Tryz.ntmps85
    go_wp2_with fail
    go_quiet (fail)
    go_wp2_with fail
    go_quiet (fail)
    go_wp2_with fail
    go_quiet (fail)
    go_wp2_with fail
    go_ret
    exact ⟨x, rfl, x0, x1, hput.out _ _ _⟩
  · replace hc := hide hc
    have i1 : ¬ (a : Int) < (n : Int) := by omega
    have i2 : ¬ (a : Int) + 1 ≤ (n : Int) := by omega
    have j1 : decide ((a : Int) < (n : Int)) = false := decide_eq_false i1
    have j2 : decide ((a : Int) + 1 ≤ (n : Int)) = false := decide_eq_false i2
    go_enter Tryz.func85, Tryz.ntmps85
    go_wp2_with fail
    go_quiet (fail)
    go_wp2_with fail
    go_quiet (fail)
    go_wp2_with fail
    go_ret
    exact ⟨_, rfl, (byte_wrap _).1, (byte_wrap _).2, hput.out _ _ _⟩

/-- A number below n (0 where n is 1 or less). -/
def PickR (b N : Nat) (n : Int) (w : World) (e : Ending) (w' : World) : Prop := ∃ x : Int, e = .returned (.int .i64 x) ∧ 0 ≤ x ∧ (x < n ∨ x = 0) ∧ SrcTo w w' b (N + 2)
theorem pick_rem (x : Int) {n : Int} (hn : 1 < n) : 0 ≤ x % n ∧ x % n < n := ⟨Int.emod_nonneg _ (by omega), Int.emod_lt_of_pos _ (by omega)⟩
set_option maxRecDepth 100000 in
set_option maxHeartbeats 1600000 in
theorem pick_calls (b N : Nat) (n : Int) (w : World) (h : SrcW w b N) (hN : N ≤ 900000000) :
    Calls Tryz.prog 48 #[.pointer (some ⟨b, 0, none⟩), .int .i64 n] w (PickR b N n w) := by
  have q1 := hide (next_calls b N w h (by omega))
  have hself := hide ((SrcTo.refl h).more (show N ≤ N + 2 by omega))
  clear h
  by_cases h1 : n ≤ 1
  · go_enter Tryz.func48, Tryz.ntmps48
    go_wp2_with fail
    go_ret
    exact ⟨0, rfl, by omega, .inr rfl, hself.out⟩
  · have hne : n ≠ 0 := by omega
    by_cases h2 : 200 < n
    · go_enter Tryz.func48, Tryz.ntmps48
      go_wp2_with fail
      refine q1.out.mono ?_
      rintro e w1 ⟨x, rfl, x0, x1, hs1⟩
      have q2 := hide (next_calls b (N + 1) w1 hs1.src (by omega))
      replace hs1 := hide hs1
      go_wp2_with fail
      refine q2.out.mono ?_
      rintro e w2 ⟨y, rfl, y0, y1, hs2⟩
      have hs3 := hide (hs1.out.trans hs2)
      clear hs1 hs2 q1 q2
      have hr := pick_rem (x * 256 + y) (show 1 < n by omega)
      go_wp2_with fail
      go_ret
      exact ⟨_, rfl, hr.1, .inl hr.2, hs3.out⟩
    · go_enter Tryz.func48, Tryz.ntmps48
      go_wp2_with fail
      refine q1.out.mono ?_
      rintro e w1 ⟨x, rfl, x0, x1, hs1⟩
      have hs3 := hide (hs1.more (show N + 1 ≤ N + 2 by omega))
      clear hs1 q1
      have hr := pick_rem x (show 1 < n by omega)
      go_wp2_with fail
      go_ret
      exact ⟨_, rfl, hr.1, .inl hr.2, hs3.out⟩
theorem one_calls (b N : Nat) (n : Int) (w : World) (h : SrcW w b N) (hN : N ≤ 900000000) :
    Calls Tryz.prog 59 #[.pointer (some ⟨b, 0, none⟩), .int .i64 n] w fun e w' => ∃ v : Bool, e = .returned (.bool v) ∧ SrcTo w w' b (N + 2) := by
  have q1 := hide (pick_calls b N n w h hN)
  clear h
  go_enter Tryz.func59, Tryz.ntmps59
  go_wp2_with fail
  refine q1.out.mono ?_
  rintro e w1 ⟨x, rfl, x0, x1, hs1⟩
  replace hs1 := hide hs1
  clear q1
  go_wp2_with fail
  go_ret
  exact ⟨_, rfl, hs1.out⟩

end Go.Proofs.YtcdhgabcajehnaaGreatDoor

namespace Go.Proofs.YtcdhgabcajehnaaGreatDoor
open Go.ChangeShapes Go.WideShapes Go.ChangeAt Go.RowKit
set_option linter.unusedVariables false
set_option linter.unusedSimpArgs false
theorem Only.alloc' {lo hi : Nat} {a w : World} (h : Only lo hi a w) (o : Obj) : Only lo hi a (w.alloc o) :=
  ⟨h.os, h.tape, h.output, by rw [World.size_alloc]; have := h.size; omega, fun q hq hd => (Below.heap_alloc _ _ _ (by have := h.size; omega)).trans (h.block q hq hd)⟩
theorem Only.setNew {lo hi : Nat} {a w : World} (h : Only lo hi a w) {p : Addr} (hp : a.heap.size ≤ p.block) (u : Value) : Only lo hi a (w.setCell p u) :=
  ⟨h.os, h.tape, h.output, by rw [World.size_setCell]; exact h.size, fun q hq hd => (Below.heap_setCell _ _ _ _ (by omega)).trans (h.block q hq hd)⟩
theorem Only.drew' {lo hi : Nat} {a w : World} (h : Only lo hi a w) : Only lo hi a w.drew := ⟨h.os, h.tape, h.output, h.size, h.block⟩
theorem Only.belowAt {lo hi B : Nat} {a w w' : World} (h : Only lo hi a w) (g : Below B w w') (hB : a.heap.size ≤ B) : Only lo hi a w' :=
  ⟨g.os.trans h.os, g.tape.trans h.tape, g.output.trans h.output, Nat.le_trans h.size g.size, fun q hq hd => (g.block q (by omega)).trans (h.block q hq hd)⟩
theorem Only.grow {lo hi : Nat} {a w w' : World} (h : Only lo hi a w) {row : Option Nat} (g : w.grownBy w' row) (hr : ∀ k, row = some k → a.heap.size ≤ k) : Only lo hi a w' :=
  ⟨g.os.trans h.os, g.tape.trans h.tape, g.output.trans h.output, Nat.le_trans h.size g.size, fun q hq hd => (g.block q (by have := h.size; omega) (fun e => by have := hr q e.symm; omega)).trans (h.block q hq hd)⟩

section
variable {w w' : World} {b N M : Nat}
theorem SrcW.alloc (h : SrcW w b N) (o : Obj) : SrcW (w.alloc o) b N := h.below ((Below.refl w.heap.size w).alloc (Nat.le_refl _) o) h.lt
theorem SrcW.drew (h : SrcW w b N) : SrcW w.drew b N := h
theorem SrcW.drewN (h : SrcW w b N) (k : Nat) : SrcW (w.drewN k) b N := h
theorem SrcW.setNew (h : SrcW w b N) {p : Addr} (hp : b < p.block) (u : Value) : SrcW (w.setCell p u) b N :=
  h.keep (by rw [World.size_setCell]; exact Nat.le_refl _) fun q hq => Below.heap_setCell _ _ _ _ (by omega)
theorem SrcW.grow (h : SrcW w b N) {row : Option Nat} (g : w.grownBy w' row) (hr : ∀ k, row = some k → b < k) : SrcW w' b N :=
  h.keep g.size fun q hq => g.block q (by have := h.lt; omega) (fun e => by have := hr q e.symm; omega)
end

set_option maxRecDepth 100000 in
theorem among_calls (b N : Nat) (A : Option Addr) (n c : Nat) (l : List Int) (w : World) (lo hi : Nat) (h : SrcW w b N) (hN : N ≤ 900000000) (hs : SlI w lo hi A n l) (hd : hi ≤ b ∨ b + 1 ≤ lo) (hn : 0 < n) (hm : n ≤ 1048576) :
    Calls Tryz.prog 50 #[.pointer (some ⟨b, 0, none⟩), .slice A n c] w fun e w' => ∃ x : Int, e = .returned (.int .i64 x) ∧ x ∈ l ∧ SrcTo w w' b (N + 2) := by
  have q1 := hide (pick_calls b N (n : Int) w h hN)
  obtain ⟨ba, oa, rfl, g1, g2, g3, -⟩ := hs.at_ hn
  replace hs := hide hs
  clear h
  go_enter Tryz.func50, Tryz.ntmps50
  go_wp2_with fail
  refine q1.out.mono ?_
  rintro e w1 ⟨x, rfl, x0, x1, hs1⟩
  obtain ⟨k, rfl⟩ : ∃ k : Nat, x = (k : Int) := ⟨x.toNat, by omega⟩
  have hk : k < n := by omega
  have hl := hs.out.only hs1.only (by omega)
  obtain ⟨b', o', y, e1, -, -, -, hy, c0, -⟩ := SlI.get hl hk
  cases e1
  replace hs1 := hide hs1
  have hmem := hide (List.mem_of_getElem? hy)
  have k0 : (0 : Int) ≤ (k : Int) := by omega
  have k1 : (k : Int) < (n : Int) := by omega
  clear q1 hl hy x0 x1
  go_wp2_with fail
  go_ret
  exact ⟨y, rfl, hmem.out, hs1.out⟩

theorem l00From_calls (A : Option Addr) (n c : Nat) (code : List Int) (w : World) (h : SlU w 0 w.heap.size A n code) (hc : ∀ x, x ∈ code → 0 ≤ x ∧ x ≤ 255) (hn : n ≤ maxLen) :
    Calls Tryz.prog 27 #[.slice A n c] w fun e w' => e = .returned (.pointer (some ⟨w.heap.size, 0, none⟩)) ∧ SrcW w' w.heap.size 0 ∧ Below w.heap.size w w' ∧ w'.heap.size = w.heap.size + 1 := by
  have hS : Hid (SrcW (w.alloc (.cells #[.slice A n c, .int .i64 0, .int .u64 0] 88)) w.heap.size 0) :=
    ⟨A, n, c, code, 0, 0, heap_alloc_new w _, Nat.le_refl _, hn, h.below ((Below.refl w.heap.size w).alloc (Nat.le_refl _) _) (.inr (Nat.le_refl _)), hc⟩
  clear h
  go_enter Tryz.func27, Tryz.ntmps27
  go_wp2_with fail
  go_ret
  exact ⟨rfl, hS.out, (Below.refl _ _).alloc (Nat.le_refl _) _, by rw [World.size_alloc]⟩

end Go.Proofs.YtcdhgabcajehnaaGreatDoor

namespace Go.Proofs.YtcdhgabcajehnaaGreatDoor
open Go.ChangeShapes Go.WideShapes Go.ChangeAt Go.RowKit Go.Sort
set_option linter.unusedVariables false
set_option linter.unusedSimpArgs false

def anyL (ls : List ByteArray) (lab : ByteArray) : Bool := ls.any (fun x => decide (x = lab))
theorem str_list_ne3 {a b : ByteArray} (h : ¬ a = b) : (b.toList == a.toList) = false ∧ ¬ b.toList = a.toList := by
  have h1 := str_neq (a := b) (b := a) (fun e => h e.symm)
  exact ⟨h1, fun e => by rw [e, beq_self_eq_true] at h1; cases h1⟩
/-- Where a text stands in a list: -1 if it does not. -/
def FindI (l : List ByteArray) (s : ByteArray) (i : Int) : Prop := (i = -1 ∧ anyL l s = false) ∨ ∃ k : Nat, i = (k : Int) ∧ l[k]? = some s ∧ anyL l s = true
set_option maxRecDepth 100000 in
theorem l11Find_calls (s : ByteArray) (A : Option Addr) (n c : Nat) (l : List ByteArray) (w : World) (lo hi : Nat) (h : SlS w lo hi A n l) (hn : n ≤ 1048576) :
    Calls Tryz.prog 100 #[.slice A n c, .string s] w fun e w' => ∃ i : Int, e = .returned (.int .i64 i) ∧ FindI l s i ∧ w = w' := by
  have hlen := hide h.len
  go_enter Tryz.func100, Tryz.ntmps100
  go_wp2
  go_loop [5] (fun i => ∃ k : Nat, k ≤ n ∧ i = .int .i64 k ∧ Hid ((l.take k).any (fun x => decide (x = s)) = false)) (fun i => n - (intOf i).toNat)
  case atStart => exact ⟨0, Nat.zero_le _, rfl, rfl⟩
  case round =>
    obtain ⟨k, hk, rfl, ha⟩ := hrel
    by_cases hlt : k < n
    · obtain ⟨b, off, x, rfl, g1, g2, g3, hx, c0, -⟩ := SlS.get h hlt
      clear h
      by_cases hq : x = s
      · subst hq
        have hy : Hid (FindI l x (k : Int)) := .inr ⟨k, rfl, hx, any_hit (G := fun y => decide (y = x)) hx (decide_eq_true rfl)⟩
        have hself : (x.toList == x.toList) = true := beq_self_eq_true _
        clear hx
        go_wp2
        go_ret
        exact ⟨_, rfl, hy.out, rfl⟩
      · have hy := hide (any_take_succ ha.out hx (decide_eq_false hq))
        obtain ⟨hne, hne2⟩ := str_list_ne3 hq
        have hne3 : (x.toList == s.toList) = false := by
          have := str_neq (a := x) (b := s) hq
          exact this
        have hne4 : ¬ x.toList = s.toList := fun e => hne2 e.symm
        clear hx hq
        go_wp2
        go_round
        case rel => exact ⟨k + 1, by omega, by go_num, hy⟩
        case measure => simp [intOf]; omega
    · have hkn : k = n := by omega
      subst hkn
      clear h
      have hy := ha.out
      rw [List.take_of_length_le (by rw [hlen.out]; exact Nat.le_refl _)] at hy
      have hf : Hid (FindI l s (-1)) := .inl ⟨rfl, hy⟩
      clear ha hy
      go_wp2
      go_ret
      exact ⟨_, rfl, hf.out, rfl⟩


end Go.Proofs.YtcdhgabcajehnaaGreatDoor

namespace Go.Proofs.YtcdhgabcajehnaaGreatDoor
set_option linter.unusedVariables false
set_option linter.unusedSimpArgs false

abbrev Rel2 := Int → Int → Prop
/-- The least set of pairs in R that is closed under F. -/
def Lf (R : Rel2) (F : Rel2 → Rel2) (x y : Int) : Prop := ∀ D : Rel2, (∀ x y, R x y → F D x y → D x y) → D x y
def MonoF (F : Rel2 → Rel2) : Prop := ∀ D E : Rel2, (∀ x y, D x y → E x y) → ∀ x y, F D x y → F E x y
theorem Lf.add {R : Rel2} {F : Rel2 → Rel2} (hm : MonoF F) {x y : Int} (hR : R x y) (h : F (Lf R F) x y) : Lf R F x y := fun D hD => hD x y hR (hm _ _ (fun u v h => h D hD) x y h)
theorem Lf.done {R : Rel2} {F : Rel2 → Rel2} {D : Rel2} (hs : ∀ x y, D x y → Lf R F x y) (hc : ∀ x y, R x y → F D x y → D x y) (x y : Int) : D x y ↔ Lf R F x y := ⟨hs x y, fun h => h D hc⟩

/-- A table of rows of answers. -/
def getM (M : List (List Bool)) (x y : Nat) : Option Bool := M[x]?.bind fun r => r[y]?
def setM (M : List (List Bool)) (x y : Nat) (b : Bool) : List (List Bool) := M.set x ((M[x]?.getD []).set y b)
theorem getM_row {M : List (List Bool)} {x y : Nat} {b : Bool} (h : getM M x y = some b) : ∃ r, M[x]? = some r ∧ r[y]? = some b := by
  unfold getM at h
  cases hr : M[x]? with
  | none => rw [hr] at h; cases h
  | some r => rw [hr] at h; exact ⟨r, rfl, h⟩
/-- n rows of p answers. -/
def ShM (n p : Nat) (M : List (List Bool)) : Prop := M.length = n ∧ ∀ r, r ∈ M → r.length = p
theorem ShM.get {n p : Nat} {M : List (List Bool)} (h : ShM n p M) {x y : Nat} (hx : x < n) (hy : y < p) : ∃ r b, M[x]? = some r ∧ r.length = p ∧ r[y]? = some b ∧ getM M x y = some b := by
  have h1 : M[x]? = some (M[x]'(by rw [h.1]; exact hx)) := List.getElem?_eq_getElem _
  have h2 := h.2 _ (List.mem_of_getElem? h1)
  have h3 : (M[x]'(by rw [h.1]; exact hx))[y]? = some ((M[x]'(by rw [h.1]; exact hx))[y]'(by rw [h2]; exact hy)) := List.getElem?_eq_getElem _
  exact ⟨_, _, h1, h2, h3, by unfold getM; rw [h1]; exact h3⟩
theorem ShM.set {n p : Nat} {M : List (List Bool)} (h : ShM n p M) {x y : Nat} (c : Bool) (hx : x < n) : ShM n p (setM M x y c) := by
  refine ⟨by unfold setM; rw [List.length_set]; exact h.1, fun r hr => ?_⟩
  unfold setM at hr
  rcases List.mem_or_eq_of_mem_set hr with h1 | h1
  · exact h.2 r h1
  · subst h1
    have h2 : M[x]? = some (M[x]'(by rw [h.1]; exact hx)) := List.getElem?_eq_getElem _
    rw [h2, List.length_set]
    exact h.2 _ (List.mem_of_getElem? h2)
theorem ShM.lt {n p : Nat} {M : List (List Bool)} (h : ShM n p M) {x y : Nat} {b : Bool} (hb : getM M x y = some b) : x < n ∧ y < p := by
  obtain ⟨r, h1, h2⟩ := getM_row hb
  have hx := (List.getElem?_eq_some_iff.1 h1).1
  have hy := (List.getElem?_eq_some_iff.1 h2).1
  rw [h.1] at hx
  rw [h.2 r (List.mem_of_getElem? h1)] at hy
  exact ⟨hx, hy⟩
def fillM (n p : Nat) (b : Bool) : List (List Bool) := List.replicate n (List.replicate p b)
theorem fillM_sh (n p : Nat) (b : Bool) : ShM n p (fillM n p b) := ⟨by simp [fillM], fun r hr => by rw [List.eq_of_mem_replicate hr, List.length_replicate]⟩
theorem fillM_get {n p : Nat} {b c : Bool} {x y : Nat} (h : getM (fillM n p b) x y = some c) : c = b := by
  obtain ⟨r, h1, h2⟩ := getM_row h
  have h3 := List.eq_of_mem_replicate (List.mem_of_getElem? h1)
  subst h3
  exact List.eq_of_mem_replicate (List.mem_of_getElem? h2)

/-- The pairs that are changed. -/
def ChM (b : Bool) (M : List (List Bool)) (x y : Int) : Prop := 0 ≤ x ∧ 0 ≤ y ∧ getM M x.toNat y.toNat = some (!b)
def RgN (n p : Nat) (x y : Int) : Prop := (0 ≤ x ∧ x < (n : Int)) ∧ 0 ≤ y ∧ y < (p : Int)
/-- The table while it is settled: what is changed is in the least set. -/
structure SetI (b : Bool) (n p : Nat) (F : Rel2 → Rel2) (M : List (List Bool)) : Prop where
  sh : ShM n p M
  sound : ∀ x y, ChM b M x y → Lf (RgN n p) F x y
theorem SetI.start (b : Bool) (n p : Nat) (F : Rel2 → Rel2) : SetI b n p F (fillM n p b) :=
  ⟨fillM_sh _ _ _, fun x y h => by have := fillM_get h.2.2; cases b <;> cases this⟩
/-- All pairs ahead of (x, y) are closed. -/
def ClosedTo (b : Bool) (p : Nat) (F : Rel2 → Rel2) (M : List (List Bool)) (x y : Nat) : Prop := ∀ u v : Nat, v < p → (u < x ∨ u = x ∧ v < y) → F (ChM b M) (u : Int) (v : Int) → ChM b M (u : Int) (v : Int)
theorem ClosedTo.start (b : Bool) (p : Nat) (F : Rel2 → Rel2) (M : List (List Bool)) : ClosedTo b p F M 0 0 := fun u v hv h => by omega
theorem ClosedTo.next {b : Bool} {p : Nat} {F : Rel2 → Rel2} {M : List (List Bool)} {x y : Nat} (h : ClosedTo b p F M x y) (hn : F (ChM b M) (x : Int) (y : Int) → ChM b M (x : Int) (y : Int)) : ClosedTo b p F M x (y + 1) := fun u v hv hl => by
  by_cases e : u = x ∧ v = y
  · obtain ⟨rfl, rfl⟩ := e
    exact hn
  · exact h u v hv (by omega)
theorem ClosedTo.row {b : Bool} {p : Nat} {F : Rel2 → Rel2} {M : List (List Bool)} {x : Nat} (h : ClosedTo b p F M x p) : ClosedTo b p F M (x + 1) 0 := fun u v hv hl => h u v hv (by omega)
theorem SetI.done {b : Bool} {n p : Nat} {F : Rel2 → Rel2} {M : List (List Bool)} (h : SetI b n p F M) (hc : ClosedTo b p F M n 0) (x y : Int) : ChM b M x y ↔ Lf (RgN n p) F x y := by
  refine Lf.done h.sound (fun u v hR hF => ?_) x y
  obtain ⟨⟨h1, h2⟩, h3, h4⟩ := hR
  have := hc u.toNat v.toNat (by omega) (.inl (by omega))
  rw [Int.toNat_of_nonneg h1, Int.toNat_of_nonneg h3] at this
  exact this hF

end Go.Proofs.YtcdhgabcajehnaaGreatDoor

namespace Go.Proofs.YtcdhgabcajehnaaGreatDoor
set_option linter.unusedVariables false
set_option linter.unusedSimpArgs false

/-- Reached from the states with P by internal edges. -/
inductive TauC (es : List Ed) (ls : List ByteArray) (P : Int → Prop) : Int → Prop where
  | base {v : Int} (h : P v) : TauC es ls P v
  | step {e : Ed} (h : TauC es ls P e.1) (he : e ∈ es) (hl : ls[e.2.1.toNat]? = some tauB) : TauC es ls P e.2.2

theorem TauC.imp {es : List Ed} {ls : List ByteArray} {P Q : Int → Prop} (h : ∀ v, P v → Q v) {v : Int} (hv : TauC es ls P v) : TauC es ls Q v := by
  induction hv with
  | base h1 => exact .base (h _ h1)
  | step _ he hl ih => exact .step ih he hl
end Go.Proofs.YtcdhgabcajehnaaGreatDoor

namespace Go.Proofs.YtcdhgabcajehnaaGreatDoor
set_option linter.unusedVariables false
set_option linter.unusedSimpArgs false

section
variable {K na nb : Int} {ea : List Ed} {la : List ByteArray} {eb : List Ed} {lb : List ByteArray}
end
/-- The first round in which a pair is missing, or -1. -/
def MisV (S : Nat → Rel2) (i j : Int) (m : Int) : Prop := (m = -1 ∧ ∀ r, S r i j) ∨ ∃ r : Nat, m = (r : Int) ∧ ¬ S r i j ∧ ∀ k, k < r → S k i j
theorem MisV.uniq {S : Nat → Rel2} {i j m m' : Int} (h : MisV S i j m) (g : MisV S i j m') : m = m' := by
  rcases h with ⟨rfl, h⟩ | ⟨r, rfl, h1, h2⟩
  · rcases g with ⟨rfl, -⟩ | ⟨r, rfl, g1, -⟩
    · rfl
    · exact absurd (h r) g1
  · rcases g with ⟨rfl, g⟩ | ⟨r', rfl, g1, g2⟩
    · exact absurd (g r) h1
    · rcases Nat.lt_trichotomy r r' with h3 | h3 | h3
      · exact absurd (g2 r h3) h1
      · rw [h3]
      · exact absurd (h2 r' h3) g1
end Go.Proofs.YtcdhgabcajehnaaGreatDoor

namespace Go.Proofs.YtcdhgabcajehnaaGreatDoor
open Go.Lib Go.Sort
set_option linter.unusedVariables false
set_option linter.unusedSimpArgs false

theorem cb_less : ∀ a b : List UInt8, Lib.compareBytes a b < 0 ↔ Op.bytesLess a b = true
  | [], [] => by simp [Lib.compareBytes, Op.bytesLess]
  | [], _ :: _ => by simp [Lib.compareBytes, Op.bytesLess]
  | _ :: _, [] => by simp [Lib.compareBytes, Op.bytesLess]
  | x :: a, y :: b => by
    have ih := cb_less a b
    unfold Lib.compareBytes Op.bytesLess
    by_cases h1 : x < y
    · simp [h1]
    · by_cases h2 : y < x
      · have h3 : ¬ x = y := fun e => by subst e; exact h1 h2
        simp [h1, h2, h3]
      · have h3 : x = y := by
          rw [UInt8.lt_iff_toNat_lt] at h1 h2
          exact UInt8.toNat_inj.1 (by omega)
        subst h3
        simp [h1, ih]
theorem bl_cases (a b : List UInt8) : Op.bytesLess a b = true ∨ a = b ∨ Op.bytesLess b a = true := by
  have := bytesLess_total a b
  by_cases h1 : Op.bytesLess a b = true
  · exact .inl h1
  · by_cases h2 : a = b
    · exact .inr (.inl h2)
    · have h3 : (a == b) = false := by simpa using h2
      rw [Bool.eq_false_iff.2 h1, h3] at this
      exact .inr (.inr this.symm)
def tauBL : List UInt8 := [116, 97, 117]
/-- The program's order of labels. -/
def cmpB (x y : List UInt8) : Int := if x = y then 0 else if x = tauBL then -1 else if y = tauBL then 1 else Lib.compareBytes x y
abbrev ltL := ltOf cmpB
theorem ltL_iff (x y : List UInt8) : ltL x y = true ↔ x ≠ y ∧ (x = tauBL ∨ (y ≠ tauBL ∧ Op.bytesLess x y = true)) := by
  unfold ltL ltOf cmpB
  rw [decide_eq_true_eq]
  by_cases h1 : x = y
  · simp [h1]
  · by_cases h2 : x = tauBL
    · rw [if_neg h1, if_pos h2]
      exact ⟨fun _ => ⟨h1, .inl h2⟩, fun _ => by omega⟩
    · by_cases h3 : y = tauBL
      · rw [if_neg h1, if_neg h2, if_pos h3]
        exact ⟨fun h => by omega, fun ⟨_, h⟩ => by rcases h with h | h; exact absurd h h2; exact absurd h3 h.1⟩
      · rw [if_neg h1, if_neg h2, if_neg h3, cb_less]
        exact ⟨fun h => ⟨h1, .inr ⟨h3, h⟩⟩, fun ⟨_, h⟩ => by rcases h with h | h; exact absurd h h2; exact h.2⟩
theorem ltL_total (x y : List UInt8) : ltL x y = true ∨ x = y ∨ ltL y x = true := by
  rw [ltL_iff, ltL_iff]
  by_cases h1 : x = y
  · exact .inr (.inl h1)
  · by_cases h2 : x = tauBL
    · exact .inl ⟨h1, .inl h2⟩
    · by_cases h3 : y = tauBL
      · exact .inr (.inr ⟨fun e => h1 e.symm, .inl h3⟩)
      · rcases bl_cases x y with h | h | h
        · exact .inl ⟨h1, .inr ⟨h3, h⟩⟩
        · exact absurd h h1
        · exact .inr (.inr ⟨fun e => h1 e.symm, .inr ⟨h2, h⟩⟩)
theorem ltL_irr (x : List UInt8) : ltL x x = false := Bool.eq_false_iff.2 fun h => ((ltL_iff x x).1 h).1 rfl
theorem ltL_trans {x y z : List UInt8} (h : ltL x y = true) (g : ltL y z = true) : ltL x z = true := by
  rw [ltL_iff] at h g ⊢
  obtain ⟨h1, h2⟩ := h
  obtain ⟨g1, g2⟩ := g
  rcases h2 with h2 | ⟨h2, h3⟩
  · refine ⟨fun e => ?_, .inl h2⟩
    rcases g2 with g2 | ⟨g2, g3⟩
    · exact h1 (h2.trans g2.symm)
    · exact g2 (e.symm.trans h2)
  · rcases g2 with g2 | ⟨g2, g3⟩
    · exact absurd g2 h2
    · refine ⟨fun e => ?_, .inr ⟨g2, bytesLess_trans h3 g3⟩⟩
      subst e
      have := bytesLess_trans h3 g3
      rw [bytesLess_irrefl] at this
      cases this
theorem ltL_asym {x y : List UInt8} (h : ltL x y = true) (g : ltL y x = true) : False := by
  have := ltL_trans h g
  rw [ltL_irr] at this
  cases this
theorem swoL : SWO ltL where
  irrefl := ltL_irr
  trans x y z h g := ltL_trans h g
  ntrans x y z h g := Bool.eq_false_iff.2 fun k => by
    rcases ltL_total y x with h1 | h1 | h1
    · have := ltL_trans h1 k
      rw [g] at this
      cases this
    · subst h1
      rw [g] at k
      cases k
    · rw [h] at h1
      cases h1
/-- Two rising lists with the same members are the same. -/
theorem rise_ext {α : Type} {r : α → α → Prop} (irr : ∀ a, ¬ r a a) (asy : ∀ a b, r a b → r b a → False) : ∀ {l m : List α}, l.Pairwise r → m.Pairwise r → (∀ x, x ∈ l ↔ x ∈ m) → l = m
  | [], [], _, _, _ => rfl
  | [], b :: m, _, _, h => by have := (h b).2 (List.mem_cons_self ..); cases this
  | a :: l, [], _, _, h => by have := (h a).1 (List.mem_cons_self ..); cases this
  | a :: l, b :: m, hl, hm, h => by
    obtain ⟨l1, l2⟩ := List.pairwise_cons.1 hl
    obtain ⟨m1, m2⟩ := List.pairwise_cons.1 hm
    have hab : a = b := by
      rcases List.mem_cons.1 ((h a).1 (List.mem_cons_self ..)) with e | e
      · exact e
      · rcases List.mem_cons.1 ((h b).2 (List.mem_cons_self ..)) with e2 | e2
        · exact e2.symm
        · exact (asy _ _ (l1 b e2) (m1 a e)).elim
    subst hab
    congr 1
    refine rise_ext irr asy l2 m2 fun x => ⟨fun hx => ?_, fun hx => ?_⟩
    · rcases List.mem_cons.1 ((h x).1 (List.mem_cons_of_mem _ hx)) with e | e
      · subst e; exact (irr _ (l1 _ hx)).elim
      · exact e
    · rcases List.mem_cons.1 ((h x).2 (List.mem_cons_of_mem _ hx)) with e | e
      · subst e; exact (irr _ (m1 _ hx)).elim
      · exact e
theorem compactL_mem {l : List (List UInt8)} {x : List UInt8} : x ∈ Lib.compact l ↔ x ∈ l := by
  unfold Lib.compact Lib.compactUpTo
  rw [List.mem_map]
  constructor
  · rintro ⟨k, hk, rfl⟩
    have hk' := List.mem_range.1 (List.mem_filter.1 hk).1
    rw [getElem!_pos _ k (by simpa using hk')]
    simp
  · intro hx
    obtain ⟨k, hk, rfl⟩ := List.mem_iff_getElem.1 hx
    have key : ∀ k, (hk : k < l.length) → ∃ a, a ∈ (List.range l.length).filter (Lib.keeps l.toArray) ∧ l.toArray[a]! = l[k] := by
      intro k
      induction k with
      | zero => exact fun hk => ⟨0, List.mem_filter.2 ⟨List.mem_range.2 hk, by simp [Lib.keeps]⟩, by rw [getElem!_pos _ 0 (by simpa using hk)]; simp⟩
      | succ k ih =>
        intro hk
        by_cases h : l.toArray[k + 1]! = l.toArray[k]!
        · obtain ⟨a, ha, e⟩ := ih (by omega)
          refine ⟨a, ha, ?_⟩
          rw [e]
          rw [getElem!_pos _ (k + 1) (by simpa using hk), getElem!_pos _ k (by simp; omega)] at h
          simpa using h.symm
        · exact ⟨k + 1, List.mem_filter.2 ⟨List.mem_range.2 hk, Lib.keeps_pos (by simpa using h)⟩, by rw [getElem!_pos _ (k + 1) (by simpa using hk)]; simp⟩
    exact key k hk
/-- A list that does not fall becomes a rising one. -/
theorem compact_rise {l : List (List UInt8)} (h : l.Pairwise fun x y => ltL y x = false) : (Lib.compact l).Pairwise fun x y => ltL x y = true := by
  unfold Lib.compact Lib.compactUpTo
  rw [List.pairwise_map]
  refine List.Pairwise.imp_of_mem (fun {p q} hp hq hpq => ?_) (List.Pairwise.filter _ (List.pairwise_lt_range (n := l.length)))
  obtain ⟨hp1, -⟩ := List.mem_filter.1 hp
  obtain ⟨hq1, hq2⟩ := List.mem_filter.1 hq
  have hp1 := List.mem_range.1 hp1
  have hq1 := List.mem_range.1 hq1
  unfold Lib.keeps at hq2
  rw [decide_eq_true_eq] at hq2
  have hne : l.toArray[q]! ≠ l.toArray[q - 1]! := hq2.resolve_left (by omega)
  rw [getElem!_pos _ q (by simpa using hq1), getElem!_pos _ (q - 1) (by simp; omega)] at hne
  rw [getElem!_pos _ p (by simpa using hp1), getElem!_pos _ q (by simpa using hq1)]
  simp only [List.getElem_toArray] at hne ⊢
  have h1 := List.pairwise_iff_getElem.1 h (q - 1) q (by omega) hq1 (by omega)
  have h2 : ltL l[q - 1] l[q] = true := by
    rcases ltL_total l[q - 1] l[q] with g | g | g
    · exact g
    · exact absurd g.symm hne
    · rw [h1] at g; cases g
  by_cases e : p = q - 1
  · subst e; exact h2
  · have h3 := List.pairwise_iff_getElem.1 h p (q - 1) hp1 (by omega) (by omega)
    rcases ltL_total l[p] l[q - 1] with g | g | g
    · exact ltL_trans g h2
    · rw [g]; exact h2
    · rw [h3] at g; cases g
theorem sortL_rise (l : List (List UInt8)) : (l.mergeSort fun x y => !(ltL y x)).Pairwise fun x y => ltL y x = false := by
  refine (List.pairwise_mergeSort (le := fun x y => !(ltL y x)) (fun a b c h g => ?_) (fun a b => ?_) l).imp fun {a b} h => ?_
  · simp only [Bool.not_eq_true'] at h g ⊢
    exact swoL.ntrans c b a g h
  · cases h : ltL b a with
    | false => simp [h]
    | true =>
      have : ltL a b = false := Bool.eq_false_iff.2 fun g => ltL_asym h g
      simp [this]
  · simpa using h
def toL (s : ByteArray) : List UInt8 := s.data.toList
def ofL (l : List UInt8) : ByteArray := ⟨l.toArray⟩
theorem ofL_toL (s : ByteArray) : ofL (toL s) = s := by unfold ofL toL; rfl
theorem toL_ofL (l : List UInt8) : toL (ofL l) = l := by unfold ofL toL; simp
theorem toL_eq (s : ByteArray) : s.toList = toL s := by
  obtain ⟨⟨x⟩⟩ := s
  exact ByteArray.toList_mk x
theorem toL_inj {a b : ByteArray} (h : toL a = toL b) : a = b := by rw [← ofL_toL a, h, ofL_toL]
theorem toL_tau : toL tauB = tauBL := by rw [← toL_eq, tau_list]; rfl
end Go.Proofs.YtcdhgabcajehnaaGreatDoor
