/-
  Several texts in one:
  A region that draws its order and ends in a store to a cell that it loads: reads are taken first, what is known of the world need not hold behind the last store. Conditions: none.
  The source of choices: a cell with the bytes, how far they are read, and a number that goes on behind them. Conditions: fewer than 10^9 choices are drawn.
  What drawing leaves, one of a list, and the source made from bytes: words for all drawing functions. Conditions: fewer than 10^9 choices.
  Finding a text in a list, the ends of edges with a label, and whether lists of texts are the same, by the reference. Conditions: sizes.
  The program's small tests on edges and states. Conditions: sizes.
  The program's test of a system. Conditions: sizes.
  Edges by a label in deterministic systems: at most one. Conditions: none.
  Tables of answers, and least sets of pairs: plain. Conditions: none.
  What internal edges reach from some states: plain. Conditions: none.
  The order of labels, and what sorting and compacting them gives: plain. Conditions: none.
  The list of labels of a list of texts, by the reference. Conditions: sizes.
  Rising lists of edges and an edge put into one: plain; an edge of a list of the call's own written anew. Conditions: none.
-/
import Derived.Test.YtcdhgabcajehnaaGreatDoorBaseA
import Derived.Test.YtcdhgabcajehnaaGreatDoorBaseB
import Derived.Test.YtcdhgabcajehnaaGreatDoorBaseC
import Derived.StillTail
import Derived.OrdersHeld
import Derived.Deep.RegionHeld3
import Derived.Test.YtcdhgabcajehnaaGreatDoorChecked
import Derived.StillTailTactics
import Derived.Deep.QuietTactic
import Derived.BigQuiet
import Derived.Deep.CutBlock
import Derived.Deep.DeepCutAuto
import Derived.Deep.LoopGhost
import Derived.Shelf.Strings.Builder1
import Derived.Shelf.Strings.Builder2
import Derived.Shelf.Strings.OnBuilder
import Derived.Shelf.Small.Bits
import Derived.Shelf.Small.Strs
import Derived.Shelf.Strings.BuilderF
import Derived.Shelf.Strings.BuilderK
import Derived.Shelf.Utf8.RuneCount
import Derived.Shelf.Strings.Builder2Cap
import Derived.Shelf.Strconv.Itoa0
import Derived.Shelf.Strconv.Itoa1
import Derived.Shelf.LaysM
import Derived.Shelf.Strconv.Itoa2
import Derived.Shelf.Strconv.Itoa3
import Derived.Shelf.Strconv.Itoa4
import Derived.Shelf.Strconv.ParseIntEmpty
import Derived.Shelf.Strconv.Clone
import Derived.Shelf.Strconv.SyntaxError
import Derived.Shelf.LaysC
import Derived.Shelf.Strconv.ToError
import Derived.Shelf.Strconv.Lower
import Derived.Shelf.Strconv.ParseUint10
import Derived.Shelf.Strconv.ParseUint10Empty
import Derived.Shelf.Strconv.ParseUint10Any
import Derived.Shelf.Strconv.ParseInt10
import Derived.Shelf.Strconv.RangeError
import Derived.Shelf.Strconv.ToErrorRange
import Derived.Shelf.Strconv.ParseUintEmpty
import Derived.Shelf.Strconv.ParseUint10b64
import Derived.Shelf.Strconv.ParseUint10b32
import Derived.Shelf.Strconv.ParseUint10b16
import Derived.Shelf.Strconv.ParseUint10b8
import Derived.Shelf.Strconv.ParseUint10At
import Derived.Shelf.Strconv.ParseInt10At64
import Derived.Shelf.Strconv.ParseInt10At32
import Derived.Shelf.Strconv.ParseInt10At16
import Derived.Shelf.Strconv.ParseInt10At8
import Derived.Shelf.Strconv.ParseInt10All
import Derived.Shelf.Strconv.ParseIntPublic10
import Derived.Shelf.Strconv.ErrVarParseInt
import Derived.Shelf.Strings.Search1
import Derived.Shelf.Strings.Search2
import Derived.Shelf.Strings.Search3
import Derived.Shelf.Strings.Cut
import Derived.Shelf.Strings.Count
import Derived.Shelf.Strings.Shaped
import Derived.Shelf.Strings.Prefix
import Derived.Shelf.Strings.Split
import Derived.Shelf.Strings.SplitShaped
import Derived.Shelf.Unicode.Decode
import Derived.Shelf.Strings.RuneCount
import Derived.Shelf.Strings.Explode
import Derived.Shelf.Bits.Mul64
import Derived.Shelf.Unicode.DecodeSlow
import Derived.Shelf.Unicode.DecodeAny
import Derived.Shelf.Strings.BuilderCap
import Derived.Shelf.Slices.Turned
import Derived.Ground.Names2Prog
import Derived.Shelf.Slices.Clone
import Derived.Shelf.Slices.CompactS
import Derived.Shelf.Slices.Cells
import Derived.Ground.SlgnProg
import Derived.Shelf.SlicesG.Turned
import Derived.Shelf.SlicesG.Equal
import Derived.Shelf.SlicesG.Clone
import Derived.Shelf.SlicesG.CompactI
import Derived.Shelf.SlicesG.SearchI
import Derived.Shelf.SlicesG.Cells
import Derived.Shelf.SlicesE.Clone
import Derived.Ground.SlgcProg
import Derived.Shelf.SlicesG.Cmp
import Derived.Ground.SlsfProg
import Derived.Shelf.SlSortCmp.Insertion
import Derived.Ground.SlgmProg
import Derived.Shelf.SortM.Plain
import Derived.Shelf.SortM.SortNone
import Derived.Shelf.SlSortCmp.SiftDown1
import Derived.Shelf.SlSortCmp.HeapSort1
import Derived.Shelf.SlSortCmp.Insertion1
import Derived.Shelf.SlSortCmp.Median1
import Derived.Shelf.SlSortCmp.Pivot1
import Derived.Shelf.SlSortCmp.ReverseRange1
import Derived.Shelf.SlSortCmp.PartialInsertion1
import Derived.Shelf.SlSortCmp.PartitionEqual1
import Derived.Shelf.SlSortCmp.Partition1
import Derived.Shelf.SlSortCmp.Pdq1
import Derived.Shelf.SlSortCmp.Whole1
import Derived.Shelf.SlSortCmp.NoneTotal
import Derived.Test.YtcdhgabcajehnaaGreatDoorProg
import Derived.Sort.EncStr
import Derived.Shelf.SlGeneric
set_option linter.unusedSimpArgs false
set_option linter.unusedVariables false
namespace Go.Proofs.YtcdhgabcajehnaaGreatDoor
open Go
set_option linter.unusedVariables false

section
variable {P : Program} {ops : Array Oper} {Q : Exit → Act → World → Prop} {md : Region.Mode} {S : World → Prop} {st : Nat}

/-- Any order from here on; S holds behind each operation but number st. -/
def lateT (P : Program) (md : Region.Mode) (ops : Array Oper) (Q : Exit → Act → World → Prop) (S : World → Prop) (st : Nat) : Nat → Array Bool → Act → World → Prop
  | 0, got, a, w => Region.ready md ops got = [] ∧ Q .normal a w
  | m + 1, got, a, w => (Region.ready md ops got = [] → Q .normal a w) ∧
    ∀ i ∈ Region.ready md ops got, wpOp P ops Q i (fun a' w' => (i ≠ st → S w') ∧ lateT P md ops Q S st m (got.setIfInBounds i true) a' w') a w
theorem lateT.any : ∀ (m : Nat) (got : Array Bool) (a : Act) (w : World), lateT P md ops Q S st m got a w → wpAny P md ops Q m got a w
  | 0, _, _, _, h => h
  | m + 1, got, _, _, h => ⟨h.1, fun i hi => wpOp_mono (fun a' w' k => lateT.any m _ a' w' k.2) (h.2 i hi)⟩

/-- Each of these waits for the one ahead of it. -/
def chainW (md : Region.Mode) (ops : Array Oper) : Nat → List Nat → Bool
  | _, [] => true
  | i, d :: ds => Region.waitsFor md ops d i && chainW md ops d ds
def openW (got : Array Bool) (ds : List Nat) : Bool := ds.all fun d => !got.getD d true
theorem openW_mem {got : Array Bool} {ds : List Nat} (h : openW got ds = true) {d : Nat} (hd : d ∈ ds) : got.getD d true = false := by
  unfold openW at h
  have := List.all_eq_true.1 h d hd
  simpa using this
theorem chainW_shut {got : Array Bool} : ∀ (ds : List Nat) (i : Nat), chainW md ops i ds = true → got.getD i true = false → openW got ds = true → ∀ d ∈ ds, d ∉ Region.ready md ops got
  | [], _, _, _, _, d, hd => by cases hd
  | e :: ds, i, h, hi, ho, d, hd => by
    unfold chainW at h
    rw [Bool.and_eq_true] at h
    have he : got.getD e true = false := openW_mem ho (by simp)
    rcases List.mem_cons.1 hd with rfl | hd
    · intro hr
      obtain ⟨oj, h1, x, hx, hb, hon⟩ := Region.waitsFor_spec h.1
      obtain ⟨-, o, h2, h3⟩ := mem_ready.1 hr
      rw [h1] at h2
      obtain rfl := Option.some.inj h2
      have := h3 x hx hb
      rw [hon, getD_both hi] at this
      cases this
    · exact chainW_shut ds e h.2 he (by unfold openW at ho ⊢; rw [List.all_cons, Bool.and_eq_true] at ho; exact ho.2) d hd

theorem lateT_first {i : Nat} {oi : Oper} {v : Value} {ds : List Nat} (hi : ops[i]? = some oi) (hsel : Region.noSelect ops = true) (hc : chainW md ops i ds = true) (hst : st ∈ ds)
    (hQ : ∀ c a w, Q (.panic c) (a.put oi.dst v) w → Q (.panic c) a w) : ∀ (m : Nat) (got : Array Bool) (a : Act) (w : World),
      (∀ j oj, ops[j]? = some oj → j ≠ i → got.getD j true = false → (∀ e ∈ oj.after, Region.binds md e = true → e.on ≠ i) → oi.apart ops oj = true) →
      i ∈ Region.ready md ops got → openW got ds = true → YieldsIf P ops S oi v a → S w →
      lateT P md ops Q S st m (got.setIfInBounds i true) (a.put oi.dst v) w → lateT P md ops Q S st (m + 1) got a w
  | 0, got, a, w, _, hr, _, hy, hS, H => by
    refine ⟨fun h => (by rw [h] at hr; cases hr), fun j hj => ?_⟩
    by_cases hji : j = i
    · subst hji; exact hy.wpOp hi hS ⟨fun _ => hS, H⟩
    · have := ready_mono hj hji
      rw [H.1] at this
      cases this
  | m + 1, got, a, w, hfree, hr, ho, hy, hS, H => by
    refine ⟨fun h => (by rw [h] at hr; cases hr), fun j hj => ?_⟩
    by_cases hji : j = i
    · subst hji; exact hy.wpOp hi hS ⟨fun _ => hS, H⟩
    · have h1 := H.2 j (ready_mono hj hji)
      obtain ⟨hjun, oj, hoj, hall⟩ := mem_ready.1 hj
      have hi0 := (mem_ready.1 hr).1
      have hjd : j ∉ ds := fun hm => chainW_shut ds i hc hi0 ho j hm hj
      have hjst : j ≠ st := fun e => hjd (e ▸ hst)
      have hnot : ∀ e ∈ oj.after, Region.binds md e = true → e.on ≠ i := fun e he hb heq => by
        have h2 := hall e he hb
        rw [heq, getD_both hi0] at h2
        cases h2
      have h2 := wpOp_putIf hoj (hfree j oj hoj hji hjun hnot) (fun cs b => Region.noSelect_spec hsel i oi cs b hi) (fun cs b => Region.noSelect_spec hsel j oj cs b hoj) hQ hy h1
      refine wpOp_mono (fun a' w' h3 => ⟨h3.2.1, lateT_first hi hsel hc hst hQ m (got.setIfInBounds j true) a' w' (fun k ok hk hki hun hno => ?_) (ready_mono hr (Ne.symm hji)) ?_ h3.1 (h3.2.1 hjst) ?_⟩) h2
      · refine hfree k ok hk hki ?_ hno
        by_cases hjk : j = k
        · subst hjk; exact hjun
        · rw [getD_set_ne true hjk] at hun; exact hun
      · unfold openW
        rw [List.all_eq_true]
        intro d hd
        rw [getD_set_ne true (fun e : j = d => hjd (by rw [e]; exact hd)), openW_mem ho hd]
        rfl
      · rw [Array.setIfInBounds_comm _ _ hji]
        exact h3.2.2
/-- A read, an address, a copy is taken first. -/
theorem lateT_take {i : Nat} {oi : Oper} {v : Value} {m : Nat} {got : Array Bool} {a : Act} {w : World} (ds : List Nat) (hi : ops[i]? = some oi) (hsel : Region.noSelect ops = true) (hf : Region.free md ops got i = true)
    (hr : (Region.ready md ops got).contains i = true) (hc : (chainW md ops i ds && openW got ds && ds.contains st) = true) (hQ : ∀ c a w, Q (.panic c) (a.put oi.dst v) w → Q (.panic c) a w) (hy : YieldsIf P ops S oi v a) (hS : S w)
    (h : lateT P md ops Q S st m (got.setIfInBounds i true) (a.put oi.dst v) w) : lateT P md ops Q S st (m + 1) got a w := by
  rw [Bool.and_eq_true, Bool.and_eq_true] at hc
  exact lateT_first hi hsel hc.1.1 (by simpa using hc.2) hQ m got a w (Region.free_spec hi hf) (by simpa using hr) hc.1.2 hy hS h
/-- The only operation that may come. -/
theorem lateT_step {i : Nat} {o : Oper} {m : Nat} {got : Array Bool} {a : Act} {w : World} (hr : Region.ready md ops got = [i]) (ho : ops[i]? = some o)
    (h : ∀ K : Act → World → Prop, Shut (∀ a w, (i ≠ st → S w) → lateT P md ops Q S st m (got.setIfInBounds i true) a w → K a w) → if Region.wanted o (yielded ops a.tmps) = true then Oper.wp P o a w K Q else K (a.put o.dst undef) w) : lateT P md ops Q S st (m + 1) got a w := by
  refine ⟨fun h0 => (by rw [hr] at h0; cases h0), fun j hj => ?_⟩
  rw [hr] at hj
  obtain rfl := List.mem_singleton.1 hj
  exact wpOp_step ho fun K hK => h K fun a w hS hl => hK a w ⟨hS, hl⟩
theorem lateT_done {got : Array Bool} {a : Act} {w : World} (hr : Region.ready md ops got = []) (h : Q .normal a w) : ∀ m, lateT P md ops Q S st m got a w
  | 0 => ⟨hr, h⟩
  | _ + 1 => ⟨fun _ => h, by rw [hr]; simp⟩
theorem lateT_begin {id : Nat} {a : Act} {w : World} (hm : P.follows .mixedOrders = true) (h : lateT P .any ops Q S st ops.size (Array.replicate ops.size false) a w.drew) : (Code.region id ops true).wp P Q a w :=
  wp_region_any hm (lateT.any _ _ _ _ h)
end

end Go.Proofs.YtcdhgabcajehnaaGreatDoor

namespace Go.Proofs.YtcdhgabcajehnaaGreatDoor
open Go.ChangeShapes Go.WideShapes Go.ChangeAt Go.RowKit
set_option linter.unusedVariables false
set_option linter.unusedSimpArgs false

/-- A byte. -/
def byv (n : Int) : List Value := [.int .u8 n]
abbrev SlU := Sl 1 byv

/-- The source lies in block b; of its bytes at most N are read. -/
def SrcW (w : World) (b N : Nat) : Prop :=
  ∃ (A : Option Addr) (n c : Nat) (code : List Int) (at_ : Nat) (seed : Int), w.heap[b]? = some (.cells #[.slice A n c, .int .i64 (at_ : Int), .int .u64 seed] 88 (0, 0)) ∧ at_ ≤ N ∧ n ≤ maxLen ∧
    SlU w 0 b A n code ∧ ∀ x, x ∈ code → 0 ≤ x ∧ x ≤ 255
/-- What drawing does: the source alone changes. -/
structure SrcTo (w w' : World) (b N : Nat) : Prop where
  src : SrcW w' b N
  only : Only b (b + 1) w w'
  size : w'.heap.size = w.heap.size

section
variable {w w' w2 : World} {b N M : Nat}
theorem SrcW.lt (h : SrcW w b N) : b < w.heap.size := by
  obtain ⟨A, n, c, code, a, s, hb, _⟩ := h
  exact (Array.getElem?_eq_some_iff.1 hb).1
theorem SrcW.more (h : SrcW w b N) (hN : N ≤ M) : SrcW w b M := by
  obtain ⟨A, n, c, code, a, s, hb, ha, r⟩ := h
  exact ⟨A, n, c, code, a, s, hb, Nat.le_trans ha hN, r⟩
theorem SrcW.keep (h : SrcW w b N) (hs : w.heap.size ≤ w'.heap.size) (hk : ∀ k, k ≤ b → w'.heap[k]? = w.heap[k]?) : SrcW w' b N := by
  obtain ⟨A, n, c, code, a, s, hb, ha, hn, hc, r⟩ := h
  exact ⟨A, n, c, code, a, s, (hk b (Nat.le_refl _)).trans hb, ha, hn, hc.keep hs fun k _ h2 _ => hk k (by omega), r⟩
theorem SrcW.below {B : Nat} (h : SrcW w b N) (hb : Below B w w') (hB : b < B) : SrcW w' b N := h.keep hb.size fun k hk => hb.block k (by omega)
theorem SrcTo.refl (h : SrcW w b N) : SrcTo w w b N := ⟨h, Only.refl _ _ _, rfl⟩
theorem Only.trans' {lo hi : Nat} {a w w' : World} (h : Only lo hi a w) (g : Only lo hi w w') : Only lo hi a w' :=
  ⟨g.os.trans h.os, g.tape.trans h.tape, g.output.trans h.output, Nat.le_trans h.size g.size, fun k hk ho => (g.block k (Nat.lt_of_lt_of_le hk h.size) ho).trans (h.block k hk ho)⟩
theorem SrcTo.trans (h : SrcTo w w' b N) (g : SrcTo w' w2 b M) : SrcTo w w2 b M := ⟨g.src, h.only.trans' g.only, g.size.trans h.size⟩
theorem SrcTo.more (h : SrcTo w w' b N) (hN : N ≤ M) : SrcTo w w' b M := ⟨h.src.more hN, h.only, h.size⟩
theorem SrcW.put {A : Option Addr} {n c : Nat} {code : List Int} {a : Nat} {s s' : Int} (hb : w.heap[b]? = some (.cells #[.slice A n c, .int .i64 (a : Int), .int .u64 s] 88 (0, 0))) (hn : n ≤ maxLen) (hc : SlU w 0 b A n code) (hr : ∀ x, x ∈ code → 0 ≤ x ∧ x ≤ 255) (k0 k : Nat) :
    SrcTo w ((((w.drewN k0).setCell ⟨b, 1, none⟩ (.int .i64 ((a : Int) + 1))).setCell ⟨b, 2, none⟩ (.int .u64 s')).drewN k) b (a + 1) := by
  have hlt : b < w.heap.size := (Array.getElem?_eq_some_iff.1 hb).1
  replace hb : (w.drewN k0).heap[b]? = _ := hb
  have hc2 : SlU (w.drewN k0) 0 b A n code := hc.drewN k0
  have hO : Only b (b + 1) w (w.drewN k0) := ⟨rfl, rfl, rfl, Nat.le_refl _, fun _ _ _ => rfl⟩
  have hz : (w.drewN k0).heap.size = w.heap.size := rfl
  generalize w.drewN k0 = W at *
  refine ⟨⟨A, n, c, code, a + 1, s', ?_, Nat.le_refl _, hn, ?_, hr⟩, ?_, ?_⟩
  · have h1 := heap_setCell_same W b 1 _ _ (.int .i64 ((a : Int) + 1)) hb
    have h2 := heap_setCell_same _ b 2 _ _ (.int .u64 s') h1
    exact h2
  · refine Sl.drewN (w := (W.setCell ⟨b, 1, none⟩ (.int .i64 ((a : Int) + 1))).setCell ⟨b, 2, none⟩ (.int .u64 s')) ?_ k
    exact hc2.keep (by simp [World.size_setCell]) fun q _ h2 h3 => (Below.heap_setCell _ _ _ _ (by show q ≠ b; omega)).trans (Below.heap_setCell _ _ _ _ (by show q ≠ b; omega))
  · have h1 := (hO.setCell (p := ⟨b, 1, none⟩) (Nat.le_refl _) (Nat.lt_succ_self _) (.int .i64 ((a : Int) + 1))).setCell (p := ⟨b, 2, none⟩) (Nat.le_refl _) (Nat.lt_succ_self _) (.int .u64 s')
    exact ⟨h1.os, h1.tape, h1.output, h1.size, h1.block⟩
  · show ((W.setCell _ _).setCell _ _).heap.size = _
    rw [World.size_setCell, World.size_setCell]; exact hz
end

theorem byte_bits (x : Int) : 0 ≤ bits .and .u64 x 255 ∧ bits .and .u64 x 255 ≤ 255 := by
  have h : ((BitVec.ofInt 64 x &&& BitVec.ofInt 64 255).toNat) ≤ 255 := by
    rw [BitVec.toNat_and]
    exact Nat.le_trans Nat.and_le_right (by decide)
  have e : bits .and .u64 x 255 = IntKind.u64.wrap ((BitVec.ofInt 64 x &&& BitVec.ofInt 64 255).toNat : Nat) := rfl
  rw [e, IntKind.wrap_u64]
  omega

theorem byte_wrap (x : Int) : 0 ≤ wrap64 (bits .and .u64 x 255) ∧ wrap64 (bits .and .u64 x 255) ≤ 255 := by
  have h := byte_bits x
  have e : wrap64 (bits .and .u64 x 255) = bits .and .u64 x 255 := by unfold wrap64; omega
  rw [e]; exact h

set_option maxRecDepth 100000 in
set_option maxHeartbeats 1600000 in
theorem next_calls (b N : Nat) (w : World) (h : SrcW w b N) (hN : N ≤ 1000000000) :
    Calls Tryz.prog 85 #[.pointer (some ⟨b, 0, none⟩)] w fun e w' => ∃ x : Int, e = .returned (.int .i64 x) ∧ 0 ≤ x ∧ x ≤ 255 ∧ SrcTo w w' b (N + 1) := by
  obtain ⟨A, n, c, code, a, s, hb, ha, hn, hc, hr⟩ := h
  have hput := hide fun s' k0 k => (SrcW.put (s' := s') hb hn hc hr k0 k).more (M := N + 1) (by omega)
  have c0 : w.cell? ⟨b, 0, none⟩ = some (.slice A n c) := (cell_of_row w b 0 _ _ (0, 0) hb).trans rfl
  have c1 : w.cell? ⟨b, 1, none⟩ = some (.int .i64 (a : Int)) := (cell_of_row w b 1 _ _ (0, 0) hb).trans rfl
  have c2 : w.cell? ⟨b, 2, none⟩ = some (.int .u64 s) := (cell_of_row w b 2 _ _ (0, 0) hb).trans rfl
  have f1 := frozen_of_row w b 1 _ _ hb
  have f2 := frozen_of_row w b 2 _ _ hb
  have hnm : n ≤ 9223372036854775807 := Nat.le_trans hn (by unfold maxLen; omega)
  replace hb := hide hb
  by_cases hlt : a < n
  · obtain ⟨bc, oc, rfl, -, -, -, hat⟩ := hc.at_ (by omega)
    have hl : a < code.length := by rw [hc.len]; exact hlt
    have hx := hat a _ (List.getElem?_eq_getElem hl) 0 _ rfl
    simp only [Nat.mul_one, Nat.add_zero] at hx
    obtain ⟨x0, x1⟩ := hr _ (List.getElem_mem hl)
    generalize code[a] = x at *
    obtain ⟨hx, -⟩ := hx
    replace hc := hide hc
    clear hat hr
    have i0 : (0 : Int) ≤ (a : Int) := by omega
    have i1 : (a : Int) < (n : Int) := by omega
    have i2 : (a : Int) + 1 ≤ (n : Int) := by omega
    have j1 : decide ((a : Int) < (n : Int)) = true := decide_eq_true i1
    have j2 : decide ((a : Int) + 1 ≤ (n : Int)) = true := decide_eq_true i2
    go_enter Tryz.func85, Tryz.ntmps85
    go_wp2_with fail
    go_quiet (fail)
    go_wp2_with fail
    go_quiet (fail)
    go_wp2_with fail
    go_quiet (fail)
    go_wp2_with fail
    go_ret
    exact ⟨x, rfl, x0, x1, hput.out _ _ _⟩
  · replace hc := hide hc
    have i1 : ¬ (a : Int) < (n : Int) := by omega
    have i2 : ¬ (a : Int) + 1 ≤ (n : Int) := by omega
    have j1 : decide ((a : Int) < (n : Int)) = false := decide_eq_false i1
    have j2 : decide ((a : Int) + 1 ≤ (n : Int)) = false := decide_eq_false i2
    go_enter Tryz.func85, Tryz.ntmps85
    go_wp2_with fail
    go_quiet (fail)
    go_wp2_with fail
    go_quiet (fail)
    go_wp2_with fail
    go_ret
    exact ⟨_, rfl, (byte_wrap _).1, (byte_wrap _).2, hput.out _ _ _⟩

/-- A number below n (0 where n is 1 or less). -/
def PickR (b N : Nat) (n : Int) (w : World) (e : Ending) (w' : World) : Prop := ∃ x : Int, e = .returned (.int .i64 x) ∧ 0 ≤ x ∧ (x < n ∨ x = 0) ∧ SrcTo w w' b (N + 2)
theorem pick_rem (x : Int) {n : Int} (hn : 1 < n) : 0 ≤ x % n ∧ x % n < n := ⟨Int.emod_nonneg _ (by omega), Int.emod_lt_of_pos _ (by omega)⟩
set_option maxRecDepth 100000 in
set_option maxHeartbeats 1600000 in
theorem pick_calls (b N : Nat) (n : Int) (w : World) (h : SrcW w b N) (hN : N ≤ 900000000) :
    Calls Tryz.prog 48 #[.pointer (some ⟨b, 0, none⟩), .int .i64 n] w (PickR b N n w) := by
  have q1 := hide (next_calls b N w h (by omega))
  have hself := hide ((SrcTo.refl h).more (show N ≤ N + 2 by omega))
  clear h
  by_cases h1 : n ≤ 1
  · go_enter Tryz.func48, Tryz.ntmps48
    go_wp2_with fail
    go_ret
    exact ⟨0, rfl, by omega, .inr rfl, hself.out⟩
  · have hne : n ≠ 0 := by omega
    by_cases h2 : 200 < n
    · go_enter Tryz.func48, Tryz.ntmps48
      go_wp2_with fail
      refine q1.out.mono ?_
      rintro e w1 ⟨x, rfl, x0, x1, hs1⟩
      have q2 := hide (next_calls b (N + 1) w1 hs1.src (by omega))
      replace hs1 := hide hs1
      go_wp2_with fail
      refine q2.out.mono ?_
      rintro e w2 ⟨y, rfl, y0, y1, hs2⟩
      have hs3 := hide (hs1.out.trans hs2)
      clear hs1 hs2 q1 q2
      have hr := pick_rem (x * 256 + y) (show 1 < n by omega)
      go_wp2_with fail
      go_ret
      exact ⟨_, rfl, hr.1, .inl hr.2, hs3.out⟩
    · go_enter Tryz.func48, Tryz.ntmps48
      go_wp2_with fail
      refine q1.out.mono ?_
      rintro e w1 ⟨x, rfl, x0, x1, hs1⟩
      have hs3 := hide (hs1.more (show N + 1 ≤ N + 2 by omega))
      clear hs1 q1
      have hr := pick_rem x (show 1 < n by omega)
      go_wp2_with fail
      go_ret
      exact ⟨_, rfl, hr.1, .inl hr.2, hs3.out⟩
theorem one_calls (b N : Nat) (n : Int) (w : World) (h : SrcW w b N) (hN : N ≤ 900000000) :
    Calls Tryz.prog 59 #[.pointer (some ⟨b, 0, none⟩), .int .i64 n] w fun e w' => ∃ v : Bool, e = .returned (.bool v) ∧ SrcTo w w' b (N + 2) := by
  have q1 := hide (pick_calls b N n w h hN)
  clear h
  go_enter Tryz.func59, Tryz.ntmps59
  go_wp2_with fail
  refine q1.out.mono ?_
  rintro e w1 ⟨x, rfl, x0, x1, hs1⟩
  replace hs1 := hide hs1
  clear q1
  go_wp2_with fail
  go_ret
  exact ⟨_, rfl, hs1.out⟩

end Go.Proofs.YtcdhgabcajehnaaGreatDoor

namespace Go.Proofs.YtcdhgabcajehnaaGreatDoor
open Go.ChangeShapes Go.WideShapes Go.ChangeAt Go.RowKit
set_option linter.unusedVariables false
set_option linter.unusedSimpArgs false
theorem Only.alloc' {lo hi : Nat} {a w : World} (h : Only lo hi a w) (o : Obj) : Only lo hi a (w.alloc o) :=
  ⟨h.os, h.tape, h.output, by rw [World.size_alloc]; have := h.size; omega, fun q hq hd => (Below.heap_alloc _ _ _ (by have := h.size; omega)).trans (h.block q hq hd)⟩
theorem Only.setNew {lo hi : Nat} {a w : World} (h : Only lo hi a w) {p : Addr} (hp : a.heap.size ≤ p.block) (u : Value) : Only lo hi a (w.setCell p u) :=
  ⟨h.os, h.tape, h.output, by rw [World.size_setCell]; exact h.size, fun q hq hd => (Below.heap_setCell _ _ _ _ (by omega)).trans (h.block q hq hd)⟩
theorem Only.drew' {lo hi : Nat} {a w : World} (h : Only lo hi a w) : Only lo hi a w.drew := ⟨h.os, h.tape, h.output, h.size, h.block⟩
theorem Only.belowAt {lo hi B : Nat} {a w w' : World} (h : Only lo hi a w) (g : Below B w w') (hB : a.heap.size ≤ B) : Only lo hi a w' :=
  ⟨g.os.trans h.os, g.tape.trans h.tape, g.output.trans h.output, Nat.le_trans h.size g.size, fun q hq hd => (g.block q (by omega)).trans (h.block q hq hd)⟩
theorem Only.grow {lo hi : Nat} {a w w' : World} (h : Only lo hi a w) {row : Option Nat} (g : w.grownBy w' row) (hr : ∀ k, row = some k → a.heap.size ≤ k) : Only lo hi a w' :=
  ⟨g.os.trans h.os, g.tape.trans h.tape, g.output.trans h.output, Nat.le_trans h.size g.size, fun q hq hd => (g.block q (by have := h.size; omega) (fun e => by have := hr q e.symm; omega)).trans (h.block q hq hd)⟩

section
variable {w w' : World} {b N M : Nat}
theorem SrcW.alloc (h : SrcW w b N) (o : Obj) : SrcW (w.alloc o) b N := h.below ((Below.refl w.heap.size w).alloc (Nat.le_refl _) o) h.lt
theorem SrcW.drew (h : SrcW w b N) : SrcW w.drew b N := h
theorem SrcW.drewN (h : SrcW w b N) (k : Nat) : SrcW (w.drewN k) b N := h
theorem SrcW.setNew (h : SrcW w b N) {p : Addr} (hp : b < p.block) (u : Value) : SrcW (w.setCell p u) b N :=
  h.keep (by rw [World.size_setCell]; exact Nat.le_refl _) fun q hq => Below.heap_setCell _ _ _ _ (by omega)
theorem SrcW.grow (h : SrcW w b N) {row : Option Nat} (g : w.grownBy w' row) (hr : ∀ k, row = some k → b < k) : SrcW w' b N :=
  h.keep g.size fun q hq => g.block q (by have := h.lt; omega) (fun e => by have := hr q e.symm; omega)
end

set_option maxRecDepth 100000 in
theorem among_calls (b N : Nat) (A : Option Addr) (n c : Nat) (l : List Int) (w : World) (lo hi : Nat) (h : SrcW w b N) (hN : N ≤ 900000000) (hs : SlI w lo hi A n l) (hd : hi ≤ b ∨ b + 1 ≤ lo) (hn : 0 < n) (hm : n ≤ 1048576) :
    Calls Tryz.prog 50 #[.pointer (some ⟨b, 0, none⟩), .slice A n c] w fun e w' => ∃ x : Int, e = .returned (.int .i64 x) ∧ x ∈ l ∧ SrcTo w w' b (N + 2) := by
  have q1 := hide (pick_calls b N (n : Int) w h hN)
  obtain ⟨ba, oa, rfl, g1, g2, g3, -⟩ := hs.at_ hn
  replace hs := hide hs
  clear h
  go_enter Tryz.func50, Tryz.ntmps50
  go_wp2_with fail
  refine q1.out.mono ?_
  rintro e w1 ⟨x, rfl, x0, x1, hs1⟩
  obtain ⟨k, rfl⟩ : ∃ k : Nat, x = (k : Int) := ⟨x.toNat, by omega⟩
  have hk : k < n := by omega
  have hl := hs.out.only hs1.only (by omega)
  obtain ⟨b', o', y, e1, -, -, -, hy, c0, -⟩ := SlI.get hl hk
  cases e1
  replace hs1 := hide hs1
  have hmem := hide (List.mem_of_getElem? hy)
  have k0 : (0 : Int) ≤ (k : Int) := by omega
  have k1 : (k : Int) < (n : Int) := by omega
  clear q1 hl hy x0 x1
  go_wp2_with fail
  go_ret
  exact ⟨y, rfl, hmem.out, hs1.out⟩

theorem l00From_calls (A : Option Addr) (n c : Nat) (code : List Int) (w : World) (h : SlU w 0 w.heap.size A n code) (hc : ∀ x, x ∈ code → 0 ≤ x ∧ x ≤ 255) (hn : n ≤ maxLen) :
    Calls Tryz.prog 27 #[.slice A n c] w fun e w' => e = .returned (.pointer (some ⟨w.heap.size, 0, none⟩)) ∧ SrcW w' w.heap.size 0 ∧ Below w.heap.size w w' ∧ w'.heap.size = w.heap.size + 1 := by
  have hS : Hid (SrcW (w.alloc (.cells #[.slice A n c, .int .i64 0, .int .u64 0] 88)) w.heap.size 0) :=
    ⟨A, n, c, code, 0, 0, heap_alloc_new w _, Nat.le_refl _, hn, h.below ((Below.refl w.heap.size w).alloc (Nat.le_refl _) _) (.inr (Nat.le_refl _)), hc⟩
  clear h
  go_enter Tryz.func27, Tryz.ntmps27
  go_wp2_with fail
  go_ret
  exact ⟨rfl, hS.out, (Below.refl _ _).alloc (Nat.le_refl _) _, by rw [World.size_alloc]⟩

end Go.Proofs.YtcdhgabcajehnaaGreatDoor

namespace Go.Proofs.YtcdhgabcajehnaaGreatDoor
open Go.ChangeShapes Go.WideShapes Go.ChangeAt Go.RowKit Go.Sort
set_option linter.unusedVariables false
set_option linter.unusedSimpArgs false

def anyL (ls : List ByteArray) (lab : ByteArray) : Bool := ls.any (fun x => decide (x = lab))
theorem str_list_ne3 {a b : ByteArray} (h : ¬ a = b) : (b.toList == a.toList) = false ∧ ¬ b.toList = a.toList := by
  have h1 := str_neq (a := b) (b := a) (fun e => h e.symm)
  exact ⟨h1, fun e => by rw [e, beq_self_eq_true] at h1; cases h1⟩
/-- Where a text stands in a list: -1 if it does not. -/
def FindI (l : List ByteArray) (s : ByteArray) (i : Int) : Prop := (i = -1 ∧ anyL l s = false) ∨ ∃ k : Nat, i = (k : Int) ∧ l[k]? = some s ∧ anyL l s = true
set_option maxRecDepth 100000 in
theorem l11Find_calls (s : ByteArray) (A : Option Addr) (n c : Nat) (l : List ByteArray) (w : World) (lo hi : Nat) (h : SlS w lo hi A n l) (hn : n ≤ 1048576) :
    Calls Tryz.prog 100 #[.slice A n c, .string s] w fun e w' => ∃ i : Int, e = .returned (.int .i64 i) ∧ FindI l s i ∧ w = w' := by
  have hlen := hide h.len
  go_enter Tryz.func100, Tryz.ntmps100
  go_wp2
  go_loop [5] (fun i => ∃ k : Nat, k ≤ n ∧ i = .int .i64 k ∧ Hid ((l.take k).any (fun x => decide (x = s)) = false)) (fun i => n - (intOf i).toNat)
  case atStart => exact ⟨0, Nat.zero_le _, rfl, rfl⟩
  case round =>
    obtain ⟨k, hk, rfl, ha⟩ := hrel
    by_cases hlt : k < n
    · obtain ⟨b, off, x, rfl, g1, g2, g3, hx, c0, -⟩ := SlS.get h hlt
      clear h
      by_cases hq : x = s
      · subst hq
        have hy : Hid (FindI l x (k : Int)) := .inr ⟨k, rfl, hx, any_hit (G := fun y => decide (y = x)) hx (decide_eq_true rfl)⟩
        have hself : (x.toList == x.toList) = true := beq_self_eq_true _
        clear hx
        go_wp2
        go_ret
        exact ⟨_, rfl, hy.out, rfl⟩
      · have hy := hide (any_take_succ ha.out hx (decide_eq_false hq))
        obtain ⟨hne, hne2⟩ := str_list_ne3 hq
        have hne3 : (x.toList == s.toList) = false := by
          have := str_neq (a := x) (b := s) hq
          exact this
        have hne4 : ¬ x.toList = s.toList := fun e => hne2 e.symm
        clear hx hq
        go_wp2
        go_round
        case rel => exact ⟨k + 1, by omega, by go_num, hy⟩
        case measure => simp [intOf]; omega
    · have hkn : k = n := by omega
      subst hkn
      clear h
      have hy := ha.out
      rw [List.take_of_length_le (by rw [hlen.out]; exact Nat.le_refl _)] at hy
      have hf : Hid (FindI l s (-1)) := .inl ⟨rfl, hy⟩
      clear ha hy
      go_wp2
      go_ret
      exact ⟨_, rfl, hf.out, rfl⟩


end Go.Proofs.YtcdhgabcajehnaaGreatDoor

namespace Go.Proofs.YtcdhgabcajehnaaGreatDoor
open Go.ChangeShapes Go.WideShapes Go.ChangeAt Go.RowKit Go.Sort
set_option linter.unusedVariables false

theorem isNaN_calls (x : Int) (w : World) : Calls Tryz.prog 125 #[.int .i64 x] w fun e w' => e = .returned (.bool false) ∧ w = w' := by
  go_enter Tryz.func125, Tryz.ntmps125
  go_wp2
  go_ret
  exact ⟨by simp, rfl⟩
def cmpI (x y : Int) : Int := if x < y then -1 else if y < x then 1 else 0
theorem compare_calls (x y : Int) (w : World) : Calls Tryz.prog 104 #[.int .i64 x, .int .i64 y] w fun e w' => e = .returned (.int .i64 (cmpI x y)) ∧ w = w' := by
  have q := hide isNaN_calls
  by_cases h1 : x < y
  · have hv : Hid (cmpI x y = -1) := by show _ = _; unfold cmpI; rw [if_pos h1]
    go_enter Tryz.func104, Tryz.ntmps104
    go_wp2_with (first | (go_at_call 125; (with_reducible refine (q.out _ _).mono ?_); rintro e w' ⟨rfl, rfl⟩))
    go_ret
    exact ⟨ret_i (by rw [hv.out]), rfl⟩
  · by_cases h2 : y < x
    · have hv : Hid (cmpI x y = 1) := by show _ = _; unfold cmpI; rw [if_neg h1, if_pos h2]
      go_enter Tryz.func104, Tryz.ntmps104
      go_wp2_with (first | (go_at_call 125; (with_reducible refine (q.out _ _).mono ?_); rintro e w' ⟨rfl, rfl⟩))
      go_ret
      exact ⟨ret_i (by rw [hv.out]), rfl⟩
    · have hv : Hid (cmpI x y = 0) := by show _ = _; unfold cmpI; rw [if_neg h1, if_neg h2]
      go_enter Tryz.func104, Tryz.ntmps104
      go_wp2_with (first | (go_at_call 125; (with_reducible refine (q.out _ _).mono ?_); rintro e w' ⟨rfl, rfl⟩))
      go_ret
      exact ⟨ret_i (by rw [hv.out]), rfl⟩

def orF (l : List Int) : Int := (l.find? fun x => decide (x ≠ 0)).getD 0
theorem orF_hit {l : List Int} {k : Nat} {x : Int} (hx : l[k]? = some x) (h0 : x ≠ 0) (hn : ∀ j y, j < k → l[j]? = some y → y = 0) : orF l = x := by
  unfold orF
  have key : ∀ (l : List Int) (k : Nat), l[k]? = some x → (∀ j y, j < k → l[j]? = some y → y = 0) → l.find? (fun x => decide (x ≠ 0)) = some x := by
    intro l
    induction l with
    | nil => intro k h _; simp at h
    | cons y l ih =>
      intro k h hn
      cases k with
      | zero =>
        simp at h
        subst h
        simp [h0]
      | succ k =>
        have hy := hn 0 y (by omega) rfl
        subst hy
        simp only [List.find?_cons]
        simp
        have := ih k (by simpa using h) (fun j z hj hz => hn (j + 1) z (by omega) (by simpa using hz))
        simpa using this
  rw [key l k hx hn]
  rfl
theorem orF_miss {l : List Int} (hn : ∀ (j : Nat) y, l[j]? = some y → y = 0) : orF l = 0 := by
  unfold orF
  have : l.find? (fun x => decide (x ≠ 0)) = none := by
    rw [List.find?_eq_none]
    intro x hx
    obtain ⟨j, hj⟩ := List.getElem?_of_mem hx
    simp [hn j x hj]
  rw [this]
  rfl
theorem or_calls (A : Option Addr) (n c : Nat) (l : List Int) (w : World) (lo hi : Nat) (h : SlI w lo hi A n l) (hn : n ≤ 1048576) :
    Calls Tryz.prog 103 #[.slice A n c] w fun e w' => e = .returned (.int .i64 (orF l)) ∧ w = w' := by
  have hlen := hide h.len
  replace h := hide h
  go_enter Tryz.func103, Tryz.ntmps103
  go_wp2
  go_loop [8] (fun i => ∃ k : Nat, k ≤ n ∧ i = .int .i64 k ∧ Hid (∀ j y, j < k → l[j]? = some y → y = 0)) (fun i => n - (intOf i).toNat)
  case atStart => exact ⟨0, Nat.zero_le _, rfl, fun j y hj => absurd hj (by omega)⟩
  case round =>
    obtain ⟨k, hk, rfl, ha⟩ := hrel
    by_cases hlt : k < n
    · obtain ⟨b, off, x, rfl, g1, g2, g3, hx, c0, -⟩ := SlI.get h.out hlt
      by_cases h0 : x = 0
      · have hnext : Hid (∀ j y, j < k + 1 → l[j]? = some y → y = 0) := fun j y hj hy => by
          rcases Nat.lt_or_ge j k with h1 | h1
          · exact ha.out j y h1 hy
          · have hjk : j = k := by omega
            rw [hjk, hx] at hy
            rw [← Option.some.inj hy, h0]
        subst h0
        clear h hx ha
        go_wp2
        go_round
        case rel => exact ⟨k + 1, by omega, by go_num, hnext⟩
        case measure => simp [intOf]; omega
      · have hv : Hid (orF l = x) := orF_hit hx h0 ha.out
        have hb : (x == 0) = false := by rw [beq_eq_false_iff_ne]; exact h0
        clear h hx ha h0
        go_wp2
        go_ret
        exact ⟨ret_i (by rw [hv.out]), rfl⟩
    · have hkn : k = n := by omega
      have hv : Hid (orF l = 0) := orF_miss fun j y hy => ha.out j y (by rw [hkn, ← hlen.out]; exact (List.getElem?_eq_some_iff.1 hy).1) hy
      subst hkn
      go_wp2
      go_ret
      exact ⟨ret_i (by rw [hv.out]), rfl⟩
def cmpE (a b : Ed) : Int := orF [cmpI a.1 b.1, cmpI a.2.1 b.2.1, cmpI a.2.2 b.2.2]
theorem cmpE_less (a b : Ed) : decide (0 ≤ cmpE a b) = !(edLess a b) := by
  obtain ⟨a1, a2, a3⟩ := a
  obtain ⟨b1, b2, b3⟩ := b
  have key : ∀ x y : Int, (x < y ∧ cmpI x y = -1) ∨ (x = y ∧ cmpI x y = 0) ∨ (y < x ∧ cmpI x y = 1) := fun x y => by
    unfold cmpI
    rcases Int.lt_trichotomy x y with h | h | h
    · exact .inl ⟨h, if_pos h⟩
    · exact .inr (.inl ⟨h, by rw [if_neg (by omega), if_neg (by omega)]⟩)
    · exact .inr (.inr ⟨h, by rw [if_neg (by omega), if_pos h]⟩)
  unfold cmpE edLess orF
  dsimp only
  rcases key a1 b1 with ⟨h1, e1⟩ | ⟨h1, e1⟩ | ⟨h1, e1⟩
  · have : a1 ≠ b1 := by omega
    rw [e1]
    simp [this, h1]
  · rcases key a2 b2 with ⟨h2, e2⟩ | ⟨h2, e2⟩ | ⟨h2, e2⟩
    · have : a2 ≠ b2 := by omega
      rw [e1, e2]
      simp [h1, this, h2]
    · rcases key a3 b3 with ⟨h3, e3⟩ | ⟨h3, e3⟩ | ⟨h3, e3⟩
      · rw [e1, e2, e3]
        simp [h1, h2, h3]
      · rw [e1, e2, e3]
        simp [h1, h2, h3]
      · have : b3 ≤ a3 := by omega
        rw [e1, e2, e3]
        simp [h1, h2, this]
    · have n2 : a2 ≠ b2 := by omega
      have : b2 ≤ a2 := by omega
      rw [e1, e2]
      simp [h1, n2, this]
  · have n1 : a1 ≠ b1 := by omega
    have : b1 ≤ a1 := by omega
    rw [e1]
    simp [n1, this]

theorem or3_calls (b : Nat) (c1 c2 c3 : Int) (t : TypeId) (w : World) (hb : w.heap[b]? = some (.cells #[.int .i64 c1, .int .i64 c2, .int .i64 c3] t (0, 0))) :
    Calls Tryz.prog 103 #[.slice (some ⟨b, 0, none⟩) 3 3] w fun e w' => e = .returned (.int .i64 (orF [c1, c2, c3])) ∧ w = w' := by
  have hlt : b < w.heap.size := (Array.getElem?_eq_some_iff.1 hb).1
  refine or_calls _ 3 3 [c1, c2, c3] w 0 w.heap.size ⟨rfl, fun _ => ⟨b, 0, rfl, Nat.zero_le _, hlt, hlt, fun k x hx j u hu => ?_⟩⟩ (by omega)
  match j, hu with
  | 0, hu =>
    simp [iv] at hu
    subst hu
    simp only [Nat.zero_add, Nat.mul_one, Nat.add_zero]
    refine ⟨(cell_of_row _ _ k _ t (0, 0) hb).trans ?_, frozen_of_row _ _ _ _ t hb⟩
    match k, hx with
    | 0, hx => cases hx; rfl
    | 1, hx => cases hx; rfl
    | 2, hx => cases hx; rfl
    | k + 3, hx => simp at hx

theorem isState_calls (s0 s1 k : Int) (v2 v3 : Value) (w : World) (h1 : 1 ≤ s0) (h2 : s0 ≤ 40) :
    Calls Tryz.prog 62 #[.agg #[.int .i64 s0, .int .i64 s1, v2, v3], .int .i64 k] w fun e w' => e = .returned (.bool (inB k 0 (s0 - 1))) ∧ Below w.heap.size w w' := by
  have hb0 : Below w.heap.size w (w.alloc (.cells #[.int .i64 s0, .int .i64 s1, v2, v3] 27)) := (Below.refl _ _).alloc (Nat.le_refl _) _
  have q := hide (fun W => within_calls k 0 (s0 - 1) W)
  replace hb0 := hide hb0
  go_enter Tryz.func62, Tryz.ntmps62
  go_wp2_with (first | (go_at_call 61; (with_reducible refine (q.out _).mono ?_); rintro e w' ⟨rfl, rfl⟩))
  go_ret
  exact ⟨rfl, hb0.out⟩

set_option maxRecDepth 100000 in
set_option maxHeartbeats 1600000 in
theorem compareEdges_calls (x1 x2 x3 y1 y2 y3 : Int) (w : World) :
    Calls Tryz.prog 64 #[.agg #[.int .i64 x1, .int .i64 x2, .int .i64 x3], .agg #[.int .i64 y1, .int .i64 y2, .int .i64 y3]] w fun e w' => e = .returned (.int .i64 (cmpE (x1, x2, x3) (y1, y2, y3))) ∧ Below w.heap.size w w' := by
  have hv : Hid (cmpE (x1, x2, x3) (y1, y2, y3) = orF [cmpI x1 y1, cmpI x2 y2, cmpI x3 y3]) := rfl
  have hbA : Below w.heap.size w ((w.alloc (.cells #[.int .i64 x1, .int .i64 x2, .int .i64 x3] 70)).alloc (.cells #[.int .i64 y1, .int .i64 y2, .int .i64 y3] 70)) := ((Below.refl _ _).alloc (Nat.le_refl _) _).alloc (by simp only [World.size_alloc]; omega) _
  have k0 := (Below.heap_alloc (w.alloc (.cells #[.int .i64 x1, .int .i64 x2, .int .i64 x3] 70)) (.cells #[.int .i64 y1, .int .i64 y2, .int .i64 y3] 70) w.heap.size (by simp only [World.size_alloc]; omega)).trans (heap_alloc_new w (.cells #[.int .i64 x1, .int .i64 x2, .int .i64 x3] 70))
  have k1 := heap_alloc_new (w.alloc (.cells #[.int .i64 x1, .int .i64 x2, .int .i64 x3] 70)) (.cells #[.int .i64 y1, .int .i64 y2, .int .i64 y3] 70)
  rw [World.size_alloc] at k1
  have q := hide compare_calls
  replace hbA := hide hbA
  replace k0 := hide k0
  replace k1 := hide k1
  go_enter Tryz.func64, Tryz.ntmps64
  go_wp2_with fail
  generalize hW : ((w.alloc (.cells #[.int .i64 x1, .int .i64 x2, .int .i64 x3] 70)).alloc (.cells #[.int .i64 y1, .int .i64 y2, .int .i64 y3] 70)) = W at *
  have a0 : W.cell? ⟨w.heap.size, 0, none⟩ = some (.int .i64 x1) := (cell_of_row _ _ 0 _ _ (0, 0) k0.out).trans rfl
  have a1 : W.cell? ⟨w.heap.size, 1, none⟩ = some (.int .i64 x2) := (cell_of_row _ _ 1 _ _ (0, 0) k0.out).trans rfl
  have a2 : W.cell? ⟨w.heap.size, 2, none⟩ = some (.int .i64 x3) := (cell_of_row _ _ 2 _ _ (0, 0) k0.out).trans rfl
  have b0 : W.cell? ⟨w.heap.size + 1, 0, none⟩ = some (.int .i64 y1) := (cell_of_row _ _ 0 _ _ (0, 0) k1.out).trans rfl
  have b1 : W.cell? ⟨w.heap.size + 1, 1, none⟩ = some (.int .i64 y2) := (cell_of_row _ _ 1 _ _ (0, 0) k1.out).trans rfl
  have b2 : W.cell? ⟨w.heap.size + 1, 2, none⟩ = some (.int .i64 y3) := (cell_of_row _ _ 2 _ _ (0, 0) k1.out).trans rfl
  clear hW
  go_region_held3 (fun w' => w'.cell? ⟨w.heap.size, 0, none⟩ = some (.int .i64 x1) ∧ w'.cell? ⟨w.heap.size, 1, none⟩ = some (.int .i64 x2) ∧ w'.cell? ⟨w.heap.size, 2, none⟩ = some (.int .i64 x3) ∧ w'.cell? ⟨w.heap.size + 1, 0, none⟩ = some (.int .i64 y1) ∧ w'.cell? ⟨w.heap.size + 1, 1, none⟩ = some (.int .i64 y2) ∧ w'.cell? ⟨w.heap.size + 1, 2, none⟩ = some (.int .i64 y3)) (first | exact ⟨a0, a1, a2, b0, b1, b2⟩ | go_keep)
    (first
      | (go_at_call 104; (with_reducible refine (q.out _ _ _).mono ?_); rintro e w' ⟨rfl, rfl⟩)
      | (go_at_call 103; (refine (or3_calls _ _ _ _ _ _ (by exact heap_alloc_new W _)).mono ?_); rintro e w' ⟨rfl, rfl⟩))
  all_goals go_wp2
  all_goals go_ret
  all_goals first | exact ⟨ret_i (by rw [hv.out]), hbA.out.drew.alloc hbA.out.size _⟩ | exact ⟨ret_i (by rw [hv.out]), (hbA.out.alloc hbA.out.size _).drew⟩

end Go.Proofs.YtcdhgabcajehnaaGreatDoor

namespace Go.Proofs.YtcdhgabcajehnaaGreatDoor
open Go.ChangeShapes Go.WideShapes Go.ChangeAt Go.RowKit Go.Sort
set_option linter.unusedVariables false

theorem okL_at2 {l : List ByteArray} {k : Nat} {x y : ByteArray} (hx : l[k]? = some x) (hk : 0 < k) (hy : l[k - 1]? = some y) : okL l k = ((labS x && !(decide (x = tauB))) && (decide (k ≤ 1) || !(Op.bytesLess x.toList y.toList || x.toList == y.toList))) := by
  rw [okL_at hx hk hy, bytesLess_total]
  rfl
theorem okL_bad {l : List ByteArray} {k : Nat} {x : ByteArray} (hx : l[k]? = some x) (h : labS x = false) : okL l k = false := by
  show okLab labS sLess l k = _
  unfold okLab
  rw [hx]
  simp [h]

set_option maxRecDepth 100000 in
set_option maxHeartbeats 3200000 in
theorem validLts_calls (x : CL) (d : DL) (w : World) (lo hi : Nat) (h : ReadL w lo hi x d) (htot : totL d ≤ 1048576) (he : Env w) :
    Calls Tryz.prog 29 #[.agg #[.int .i64 x.1, .int .i64 x.2.1, x.2.2.1, x.2.2.2]] w fun e w' => e = .returned (.bool (ltsV d)) ∧ Below w.heap.size w w' := by
  obtain ⟨s0, s1, v2, v3⟩ := x
  obtain ⟨st, ini, ls, es⟩ := d
  obtain ⟨e0, e1, ⟨A2, n2, k2, e2, hn2, hs2, t2⟩, ⟨A3, n3, k3, e3, hn3, t3⟩⟩ := h
  dsimp only at *
  subst e0 e1 e2 e3
  have l2 := t2.len
  have l3 := t3.len
  have hls : n2 ≤ 1048576 := by rw [← l2]; exact Nat.le_trans (totL_lab (s0, s1, ls, es)) htot
  have hes : n3 ≤ 1048576 := by rw [← l3]; exact Nat.le_trans (totL_edg (s0, s1, ls, es)) htot
  have hss : Hid (∀ s ∈ ls, s.size ≤ 1048576) := fun s hs => by
    have h1 : s.size ≤ (ls.map (·.size)).sum := mem_le_sum (List.mem_map.2 ⟨s, hs, rfl⟩)
    simp only [totL, totS] at htot
    omega
  have hval : ltsV (s0, s1, ls, es) = ((inB s0 1 40 && inB s1 0 (s0 - 1) && inB (n2 : Int) 1 12 && decide (n3 ≤ 300)) && (allK (okL ls) n2 && allK (okEd s0 (n2 : Int) es) n3)) := by rw [← l2, ← l3]; rfl
  replace l2 := hide l2
  replace l3 := hide l3
  replace t2 := hide t2
  replace t3 := hide t3
  have hW0 := hide ((Below.refl w.heap.size w).alloc (Nat.le_refl _) (.cells #[.int .i64 s0, .int .i64 s1, .slice A2 n2 k2, .slice A3 n3 k3] 27))
  have kE := heap_alloc_new w (.cells #[.int .i64 s0, .int .i64 s1, .slice A2 n2 k2, .slice A3 n3 k3] 27)
  have hbt : w.heap.size < (w.alloc (.cells #[.int .i64 s0, .int .i64 s1, .slice A2 n2 k2, .slice A3 n3 k3] 27)).heap.size := by rw [World.size_alloc]; omega
  replace he := hide he
  have hbt1 : w.heap.size + 1 ≤ (w.alloc (.cells #[.int .i64 s0, .int .i64 s1, .slice A2 n2 k2, .slice A3 n3 k3] 27)).heap.size := hbt
  clear htot hs2 hn2 hn3
  go_enter Tryz.func29, Tryz.ntmps29
  go_upto_region 1 with fail
  have c0 : (w.alloc (.cells #[.int .i64 s0, .int .i64 s1, .slice A2 n2 k2, .slice A3 n3 k3] 27)).cell? ⟨w.heap.size, 0, none⟩ = some (.int .i64 s0) := (cell_of_row _ _ 0 _ _ (0, 0) kE).trans rfl
  have c1 : (w.alloc (.cells #[.int .i64 s0, .int .i64 s1, .slice A2 n2 k2, .slice A3 n3 k3] 27)).cell? ⟨w.heap.size, 1, none⟩ = some (.int .i64 s1) := (cell_of_row _ _ 1 _ _ (0, 0) kE).trans rfl
  have c2 : (w.alloc (.cells #[.int .i64 s0, .int .i64 s1, .slice A2 n2 k2, .slice A3 n3 k3] 27)).cell? ⟨w.heap.size, 2, none⟩ = some (.slice A2 n2 k2) := (cell_of_row _ _ 2 _ _ (0, 0) kE).trans rfl
  have c3 : (w.alloc (.cells #[.int .i64 s0, .int .i64 s1, .slice A2 n2 k2, .slice A3 n3 k3] 27)).cell? ⟨w.heap.size, 3, none⟩ = some (.slice A3 n3 k3) := (cell_of_row _ _ 3 _ _ (0, 0) kE).trans rfl
  clear kE
  generalize hWW : (w.alloc (.cells #[.int .i64 s0, .int .i64 s1, .slice A2 n2 k2, .slice A3 n3 k3] 27)) = W0 at *
  clear hWW
  cases z0 : inB s0 1 40 with
  | false =>
    rw [z0] at hval
    have hv : Hid (ltsV (s0, s1, ls, es) = false) := hval
    clear hval
    go_wp2_with (first | (go_at_call 61; (with_reducible refine (within_calls _ _ _ _).mono ?_); rintro e w' ⟨rfl, rfl⟩))
    go_ret
    exact ⟨ret_b (by rw [hv.out]), hW0.out⟩
  | true =>
  have hst := inB_true.1 z0
  have hst1 := hst.1
  have hst2 := hst.2
  clear hst
  rw [z0] at hval
  cases z1 : inB s1 0 (s0 - 1) with
  | false =>
    rw [z1] at hval
    have hv : Hid (ltsV (s0, s1, ls, es) = false) := hval
    clear hval
    go_wp2_with (first | (go_at_call 61; (with_reducible refine (within_calls _ _ _ _).mono ?_); rintro e w' ⟨rfl, rfl⟩) | (go_at_call 62; (with_reducible refine (isState_calls _ _ _ _ _ _ hst1 hst2).mono ?_); rintro e w1 ⟨rfl, hb1⟩; have a2 := (hb1.cell (p := ⟨w.heap.size, 2, none⟩) hbt).trans c2; have a3 := (hb1.cell (p := ⟨w.heap.size, 3, none⟩) hbt).trans c3; replace hb1 := hide hb1))
    go_ret
    exact ⟨ret_b (by rw [hv.out]), hW0.out.trans (hb1.out.mono (Nat.le_of_lt hbt))⟩
  | true =>
  rw [z1] at hval
  cases z2 : inB (n2 : Int) 1 12 with
  | false =>
    rw [z2] at hval
    have hv : Hid (ltsV (s0, s1, ls, es) = false) := hval
    clear hval
    go_wp2_with (first | (go_at_call 61; (with_reducible refine (within_calls _ _ _ _).mono ?_); rintro e w' ⟨rfl, rfl⟩) | (go_at_call 62; (with_reducible refine (isState_calls _ _ _ _ _ _ hst1 hst2).mono ?_); rintro e w1 ⟨rfl, hb1⟩; have a2 := (hb1.cell (p := ⟨w.heap.size, 2, none⟩) hbt).trans c2; have a3 := (hb1.cell (p := ⟨w.heap.size, 3, none⟩) hbt).trans c3; replace hb1 := hide hb1))
    go_ret
    exact ⟨ret_b (by rw [hv.out]), hW0.out.trans (hb1.out.mono (Nat.le_of_lt hbt))⟩
  | true =>
  rw [z2] at hval
  by_cases h300 : n3 ≤ 300
  case neg =>
    rw [decide_eq_false h300] at hval
    have hv : Hid (ltsV (s0, s1, ls, es) = false) := hval
    have h3I : (300 : Int) < (n3 : Int) := by omega
    clear hval
    go_wp2_with (first | (go_at_call 61; (with_reducible refine (within_calls _ _ _ _).mono ?_); rintro e w' ⟨rfl, rfl⟩) | (go_at_call 62; (with_reducible refine (isState_calls _ _ _ _ _ _ hst1 hst2).mono ?_); rintro e w1 ⟨rfl, hb1⟩; have a2 := (hb1.cell (p := ⟨w.heap.size, 2, none⟩) hbt).trans c2; have a3 := (hb1.cell (p := ⟨w.heap.size, 3, none⟩) hbt).trans c3; replace hb1 := hide hb1))
    go_ret
    exact ⟨ret_b (by rw [hv.out]), hW0.out.trans (hb1.out.mono (Nat.le_of_lt hbt))⟩
  rw [decide_eq_true h300] at hval
  have hval2 : Hid (ltsV (s0, s1, ls, es) = (allK (okL ls) n2 && allK (okEd s0 (n2 : Int) es) n3)) := by show _ = _; rw [hval]; rfl
  have h3I : ¬ (300 : Int) < (n3 : Int) := by omega
  clear hval
  go_wp2_with (first | (go_at_call 61; (with_reducible refine (within_calls _ _ _ _).mono ?_); rintro e w' ⟨rfl, rfl⟩) | (go_at_call 62; (with_reducible refine (isState_calls _ _ _ _ _ _ hst1 hst2).mono ?_); rintro e w1 ⟨rfl, hb1⟩; have a2 := (hb1.cell (p := ⟨w.heap.size, 2, none⟩) hbt).trans c2; have a3 := (hb1.cell (p := ⟨w.heap.size, 3, none⟩) hbt).trans c3; replace hb1 := hide hb1))
  have hb1' := hide (hb1.out.mono hbt1)
  clear hb1
  go_loopw [34] (fun i wr => ∃ k : Nat, k ≤ n2 ∧ i = .int .i64 (k : Nat) ∧ Hid (∀ j, j < k → okL ls j = true) ∧ Below (w.heap.size + 1) W0 wr) (fun i _ => n2 - (intOf i).toNat)
  case atStart => exact ⟨0, Nat.zero_le _, rfl, fun j hj => absurd hj (by omega), hb1'.out⟩
  case round =>
    obtain ⟨k, hk, rfl, ha, hb⟩ := hrel
    have hwb := hW0.out.trans (hb.mono (Nat.le_succ _))
    have y2 := (hb.cell (p := ⟨w.heap.size, 2, none⟩) (Nat.lt_succ_self _)).trans c2
    have y3 := (hb.cell (p := ⟨w.heap.size, 3, none⟩) (Nat.lt_succ_self _)).trans c3
    have hgw := Nat.lt_of_lt_of_le hbt hb.size
    clear a2 a3
    by_cases hlt : k < n2
    · obtain ⟨b, off, s, rfl, g1, g2, g3, hx, p0, -⟩ := SlS.get t2.out hlt
      replace p0 := (hwb.cell (p := ⟨b, off + k, none⟩) g3).trans p0
      have hg := Nat.lt_of_lt_of_le g3 hwb.size
      have q := isLabel_calls s wr (hss.out s (List.mem_of_getElem? hx)) (he.out.below hwb (Nat.le_refl _))
      cases hlab : labS s with
      | false =>
        have hv : Hid (ltsV (s0, s1, ls, es) = false) := by show _ = _; rw [hval2.out, allK_bad hlt (okL_bad hx hlab)]; rfl
        rw [hlab] at q
        replace q := hide q
        clear hx ha hlab t2 t3 hss
        go_wp2_with (first | (go_at_call 63; (with_reducible refine q.out.mono ?_); rintro e w2 ⟨rfl, hb2⟩; have m2 := (hb2.cell (p := ⟨w.heap.size, 2, none⟩) hgw).trans y2; have m3 := (hb2.cell (p := ⟨w.heap.size, 3, none⟩) hgw).trans y3; replace hb2 := hide hb2))
        go_ret
        exact ⟨ret_b (by rw [hv.out]), hwb.trans (hb2.out.mono hwb.size)⟩
      | true =>
      rw [hlab] at q
      replace q := hide q
      by_cases hk0 : 0 < k
      · obtain ⟨b', off', r, eA, -, -, -, hy, p1, -⟩ := SlS.get t2.out (show k - 1 < n2 by omega)
        cases eA
        replace p1 := (hwb.cell (p := ⟨b, off + (k - 1), none⟩) g3).trans p1
        have hok := okL_at2 hx hk0 hy
        rw [hlab] at hok
        have hkb : ((k : Int) == 0) = false := by rw [beq_eq_false_iff_ne]; omega
        clear hx hy hlab
        by_cases htx : s = tauB
        · have hv : Hid (ltsV (s0, s1, ls, es) = false) := by show _ = _; rw [hval2.out, allK_bad hlt (by rw [hok, decide_eq_true htx]; rfl)]; rfl
          have htt : (s.toList == [116, 97, 117]) = true := by rw [htx, tau_list]; rfl
          clear ha hok htx t2 t3 hss
          go_wp2_with (first | (go_at_call 63; (with_reducible refine q.out.mono ?_); rintro e w2 ⟨rfl, hb2⟩; have m2 := (hb2.cell (p := ⟨w.heap.size, 2, none⟩) hgw).trans y2; have m3 := (hb2.cell (p := ⟨w.heap.size, 3, none⟩) hgw).trans y3; have m4 := (hb2.cell (p := ⟨b, off + (k - 1), none⟩) hg).trans p1; replace hb2 := hide hb2))
          go_ret
          exact ⟨ret_b (by rw [hv.out]), hwb.trans (hb2.out.mono hwb.size)⟩
        have hne := tau_ne htx
        rw [decide_eq_false htx] at hok
        by_cases h1 : k = 1
        · have hnext : Hid (∀ j, j < k + 1 → okL ls j = true) := lt_succ_cases ha.out (by rw [hok, h1]; rfl)
          have h1I : ¬ (1 : Int) < (k : Int) := by omega
          replace h1 := hide h1
          clear ha hok htx
          go_wp2_with (first | (go_at_call 63; (with_reducible refine q.out.mono ?_); rintro e w2 ⟨rfl, hb2⟩; have m2 := (hb2.cell (p := ⟨w.heap.size, 2, none⟩) hgw).trans y2; have m3 := (hb2.cell (p := ⟨w.heap.size, 3, none⟩) hgw).trans y3; have m4 := (hb2.cell (p := ⟨b, off + (k - 1), none⟩) hg).trans p1; replace hb2 := hide hb2))
          go_roundw
          case rel => exact ⟨k + 1, by omega, by go_num, hnext, hb.trans (hb2.out.mono hgw)⟩
          case measure => simp [intOf]; omega
        · have h1I : (1 : Int) < (k : Int) := by omega
          cases hsl : (Op.bytesLess s.toList r.toList || s.toList == r.toList) with
          | false =>
            have hnext : Hid (∀ j, j < k + 1 → okL ls j = true) := lt_succ_cases ha.out (by rw [hok, hsl]; simp)
            have hs1 : Op.bytesLess s.toList r.toList = false := (Bool.or_eq_false_iff.1 hsl).1
            have hs2 : (s.toList == r.toList) = false := (Bool.or_eq_false_iff.1 hsl).2
            clear ha hok htx hsl h1
            go_wp2_with (first | (go_at_call 63; (with_reducible refine q.out.mono ?_); rintro e w2 ⟨rfl, hb2⟩; have m2 := (hb2.cell (p := ⟨w.heap.size, 2, none⟩) hgw).trans y2; have m3 := (hb2.cell (p := ⟨w.heap.size, 3, none⟩) hgw).trans y3; have m4 := (hb2.cell (p := ⟨b, off + (k - 1), none⟩) hg).trans p1; replace hb2 := hide hb2))
            go_roundw
            case rel => exact ⟨k + 1, by omega, by go_num, hnext, hb.trans (hb2.out.mono hgw)⟩
            case measure => simp [intOf]; omega
          | true =>
            have hv : Hid (ltsV (s0, s1, ls, es) = false) := by show _ = _; rw [hval2.out, allK_bad hlt (by rw [hok, hsl, decide_eq_false (show ¬ k ≤ 1 by omega)]; rfl)]; rfl
            clear ha hok htx h1 t2 t3 hss
            cases hs1 : Op.bytesLess s.toList r.toList with
            | true =>
              clear hsl
              go_wp2_with (first | (go_at_call 63; (with_reducible refine q.out.mono ?_); rintro e w2 ⟨rfl, hb2⟩; have m2 := (hb2.cell (p := ⟨w.heap.size, 2, none⟩) hgw).trans y2; have m3 := (hb2.cell (p := ⟨w.heap.size, 3, none⟩) hgw).trans y3; have m4 := (hb2.cell (p := ⟨b, off + (k - 1), none⟩) hg).trans p1; replace hb2 := hide hb2))
              go_ret
              exact ⟨ret_b (by rw [hv.out]), hwb.trans (hb2.out.mono hwb.size)⟩
            | false =>
              have hs2 : (s.toList == r.toList) = true := by rw [hs1] at hsl; exact hsl
              clear hsl
              go_wp2_with (first | (go_at_call 63; (with_reducible refine q.out.mono ?_); rintro e w2 ⟨rfl, hb2⟩; have m2 := (hb2.cell (p := ⟨w.heap.size, 2, none⟩) hgw).trans y2; have m3 := (hb2.cell (p := ⟨w.heap.size, 3, none⟩) hgw).trans y3; have m4 := (hb2.cell (p := ⟨b, off + (k - 1), none⟩) hg).trans p1; replace hb2 := hide hb2))
              go_ret
              exact ⟨ret_b (by rw [hv.out]), hwb.trans (hb2.out.mono hwb.size)⟩
      · have hk00 : k = 0 := by omega
        subst hk00
        have hok := okL_zero hx
        simp only [Nat.add_zero] at p0
        clear hx hlab
        by_cases htx : s = tauB
        · have hnext : Hid (∀ j, j < 0 + 1 → okL ls j = true) := lt_succ_cases ha.out (by rw [hok, decide_eq_true htx])
          have htt : (s.toList == [116, 97, 117]) = true := by rw [htx, tau_list]; rfl
          clear ha hok htx
          go_wp2_with (first | (go_at_call 63; (with_reducible refine q.out.mono ?_); rintro e w2 ⟨rfl, hb2⟩; have m2 := (hb2.cell (p := ⟨w.heap.size, 2, none⟩) hgw).trans y2; have m3 := (hb2.cell (p := ⟨w.heap.size, 3, none⟩) hgw).trans y3; replace hb2 := hide hb2))
          go_roundw
          case rel => exact ⟨0 + 1, by omega, by go_num, hnext, hb.trans (hb2.out.mono hgw)⟩
          case measure => simp [intOf]; omega
        · have hv : Hid (ltsV (s0, s1, ls, es) = false) := by show _ = _; rw [hval2.out, allK_bad hlt (by rw [hok, decide_eq_false htx])]; rfl
          have hne := tau_ne htx
          clear ha hok htx t2 t3 hss
          go_wp2_with (first | (go_at_call 63; (with_reducible refine q.out.mono ?_); rintro e w2 ⟨rfl, hb2⟩; have m2 := (hb2.cell (p := ⟨w.heap.size, 2, none⟩) hgw).trans y2; have m3 := (hb2.cell (p := ⟨w.heap.size, 3, none⟩) hgw).trans y3; replace hb2 := hide hb2))
          go_ret
          exact ⟨ret_b (by rw [hv.out]), hwb.trans (hb2.out.mono hwb.size)⟩
    · have hkn : n2 = k := by omega
      have hall : allK (okL ls) n2 = true := allK_good (by rw [hkn]; exact ha.out)
      have hval3 : Hid (ltsV (s0, s1, ls, es) = allK (okEd s0 (n2 : Int) es) n3) := by show _ = _; rw [hval2.out, hall]; rfl
      subst hkn
      clear hval2 hall ha t2 hss
      go_wp2_with fail
      go_loopw [67] (fun i wr2 => ∃ k2 : Nat, k2 ≤ n3 ∧ i = .int .i64 (k2 : Nat) ∧ Hid (∀ j, j < k2 → okEd s0 (n2 : Int) es j = true) ∧ Below (w.heap.size + 1) W0 wr2) (fun i _ => n3 - (intOf i).toNat)
      case atStart => exact ⟨0, Nat.zero_le _, rfl, fun j hj => absurd hj (by omega), hb⟩
      case round =>
        clear hb hwb y2 y3 hgw
        obtain ⟨k, hk, rfl, ha, hb⟩ := hrel
        have hwb := hW0.out.trans (hb.mono (Nat.le_succ _))
        have y0 := (hb.cell (p := ⟨w.heap.size, 0, none⟩) (Nat.lt_succ_self _)).trans c0
        have y1 := (hb.cell (p := ⟨w.heap.size, 1, none⟩) (Nat.lt_succ_self _)).trans c1
        have y2 := (hb.cell (p := ⟨w.heap.size, 2, none⟩) (Nat.lt_succ_self _)).trans c2
        have y3 := (hb.cell (p := ⟨w.heap.size, 3, none⟩) (Nat.lt_succ_self _)).trans c3
        have hgt := Nat.lt_of_lt_of_le hbt hb.size
        by_cases hlt : k < n3
        · obtain ⟨b, off, f, lb, tg, rfl, g1, g2, g3, hx, p0, p1, p2, -, -, -⟩ := SlE.get t3.out hlt
          replace p0 := (hwb.cell g3).trans p0
          replace p1 := (hwb.cell (p := ⟨b, off + k * 3 + 1, none⟩) g3).trans p1
          replace p2 := (hwb.cell (p := ⟨b, off + k * 3 + 2, none⟩) g3).trans p2
          have hg := Nat.lt_of_lt_of_le g3 hwb.size
          have hbox : Below wr.heap.size wr (wr.alloc (.cells #[.int .i64 f, .int .i64 lb, .int .i64 tg] 70)) := (Below.refl _ _).alloc (Nat.le_refl _) _
          have kE := heap_alloc_new wr (.cells #[.int .i64 f, .int .i64 lb, .int .i64 tg] 70)
          have x0 := (hbox.cell (p := ⟨w.heap.size, 0, none⟩) hgt).trans y0
          have x1 := (hbox.cell (p := ⟨w.heap.size, 1, none⟩) hgt).trans y1
          have x2 := (hbox.cell (p := ⟨w.heap.size, 2, none⟩) hgt).trans y2
          have x3 := (hbox.cell (p := ⟨w.heap.size, 3, none⟩) hgt).trans y3
          have z0' : (wr.alloc (.cells #[.int .i64 f, .int .i64 lb, .int .i64 tg] 70)).cell? ⟨wr.heap.size, 0, none⟩ = some (.int .i64 f) := (cell_of_row _ _ 0 _ _ (0, 0) kE).trans rfl
          have z1' : (wr.alloc (.cells #[.int .i64 f, .int .i64 lb, .int .i64 tg] 70)).cell? ⟨wr.heap.size, 1, none⟩ = some (.int .i64 lb) := (cell_of_row _ _ 1 _ _ (0, 0) kE).trans rfl
          have z2' : (wr.alloc (.cells #[.int .i64 f, .int .i64 lb, .int .i64 tg] 70)).cell? ⟨wr.heap.size, 2, none⟩ = some (.int .i64 tg) := (cell_of_row _ _ 2 _ _ (0, 0) kE).trans rfl
          have hprev : 0 < k → ∃ r1 r2 r3, es[k - 1]? = some (r1, r2, r3) ∧ (wr.alloc (.cells #[.int .i64 f, .int .i64 lb, .int .i64 tg] 70)).cell? ⟨b, off + (k - 1) * 3, none⟩ = some (.int .i64 r1) ∧ (wr.alloc (.cells #[.int .i64 f, .int .i64 lb, .int .i64 tg] 70)).cell? ⟨b, off + (k - 1) * 3 + 1, none⟩ = some (.int .i64 r2) ∧ (wr.alloc (.cells #[.int .i64 f, .int .i64 lb, .int .i64 tg] 70)).cell? ⟨b, off + (k - 1) * 3 + 2, none⟩ = some (.int .i64 r3) := fun hk0 => by
            obtain ⟨b', off', r1, r2, r3, eA, -, -, -, hy, u0, u1, u2, -, -, -⟩ := SlE.get t3.out (show k - 1 < n3 by omega)
            cases eA
            exact ⟨r1, r2, r3, hy, (hbox.cell hg).trans ((hwb.cell g3).trans u0), (hbox.cell (p := ⟨b, off + (k - 1) * 3 + 1, none⟩) hg).trans ((hwb.cell (p := ⟨b, off + (k - 1) * 3 + 1, none⟩) g3).trans u1), (hbox.cell (p := ⟨b, off + (k - 1) * 3 + 2, none⟩) hg).trans ((hwb.cell (p := ⟨b, off + (k - 1) * 3 + 2, none⟩) g3).trans u2)⟩
          replace hprev := hide hprev
          have hbw := hide (hwb.trans (hbox.mono hwb.size))
          have hbB := hide (hb.trans (hbox.mono hgt))
          have hbBs : Hid (w.heap.size + 1 ≤ (wr.alloc (.cells #[.int .i64 f, .int .i64 lb, .int .i64 tg] 70)).heap.size) := by show _ ≤ _; rw [World.size_alloc]; omega
          have hI0 : (0 : Int) ≤ (k : Int) := by omega
          have hI1 : (k : Int) < (n3 : Int) := by omega
          clear t3 hg g1 g2 g3 y0 y1 y2 hwb hb hbox kE hgt
          go_wp2_with fail
          clear p0 p1 p2 y3
          generalize hWE : (wr.alloc (.cells #[.int .i64 f, .int .i64 lb, .int .i64 tg] 70)) = WE at *
          generalize hbE : wr.heap.size = bE at *
          clear hWE hbE
          have r0 : ∀ d os, Calls Tryz.prog 62 #[.agg #[.int .i64 s0, .int .i64 s1, .slice A2 n2 k2, .slice (some ⟨b, off, none⟩) n3 k3], .int .i64 f] (grow (redrawn WE d) os) (fun e w'' => e = .returned (.bool (inB f 0 (s0 - 1))) ∧ ∃ p : Regrown, w'' = grow (redrawn WE p.d) p.os) := fun d os => Calls.regrown_of (isState_calls s0 s1 f _ _ _ hst1 hst2)
          have r1 : ∀ d os, Calls Tryz.prog 62 #[.agg #[.int .i64 s0, .int .i64 s1, .slice A2 n2 k2, .slice (some ⟨b, off, none⟩) n3 k3], .int .i64 tg] (grow (redrawn WE d) os) (fun e w'' => e = .returned (.bool (inB tg 0 (s0 - 1))) ∧ ∃ p : Regrown, w'' = grow (redrawn WE p.d) p.os) := fun d os => Calls.regrown_of (isState_calls s0 s1 tg _ _ _ hst1 hst2)
          have r2 := same_regrown (w := WE) (fun W => index_calls lb n2 hls W)
          have f0 := fun d os => cell_regrown x0 d os
          have f1 := fun d os => cell_regrown x1 d os
          have f2 := fun d os => cell_regrown x2 d os
          have f3 := fun d os => cell_regrown x3 d os
          have u0 := fun d os => cell_regrown z0' d os
          have u1 := fun d os => cell_regrown z1' d os
          have u2 := fun d os => cell_regrown z2' d os
          cases w0 : inB f 0 (s0 - 1) with
          | false =>
            have hv : Hid (ltsV (s0, s1, ls, es) = false) := by show _ = _; rw [hval3.out]; exact allK_bad hlt (okE_bad hx (by rw [w0]; rfl))
            simp only [w0] at r0
            replace r0 := hide r0
            clear r1 r2 w0 hx hprev ha
            refine wp_region_quiet_below (by kernel_rfl) (by kernel_rfl) ?_
            repeat (go_big_quiet_step (first | (with_reducible exact r0.out _ _)))
            refine wpQuiet_nil ?_
            intro _ hw'
            obtain ⟨⟨dq, osq⟩, hw''⟩ := hw'
            subst hw''
            have hbq := below_regrown WE dq osq
            generalize grow (redrawn WE dq) osq = wq at *
            go_wp2
            go_ret
            exact ⟨ret_b (by rw [hv.out]), hbw.out.trans (hbq.mono hbw.out.size)⟩
          | true =>
          simp only [w0] at r0
          replace r0 := hide r0
          cases w1 : inB tg 0 (s0 - 1) with
          | false =>
            have hv : Hid (ltsV (s0, s1, ls, es) = false) := by show _ = _; rw [hval3.out]; exact allK_bad hlt (okE_bad hx (by rw [w0, w1]; rfl))
            simp only [w1] at r1
            replace r1 := hide r1
            clear r2 w0 w1 hx hprev ha
            refine wp_region_quiet_below (by kernel_rfl) (by kernel_rfl) ?_
            repeat (go_big_quiet_step (first | (with_reducible exact r0.out _ _) | (with_reducible exact r1.out _ _)))
            refine wpQuiet_nil ?_
            intro _ hw'
            obtain ⟨⟨dq, osq⟩, hw''⟩ := hw'
            subst hw''
            have hbq := below_regrown WE dq osq
            generalize grow (redrawn WE dq) osq = wq at *
            go_wp2
            go_ret
            exact ⟨ret_b (by rw [hv.out]), hbw.out.trans (hbq.mono hbw.out.size)⟩
          | true =>
          simp only [w1] at r1
          replace r1 := hide r1
          cases w2 : inB lb 0 ((n2 : Int) - 1) with
          | false =>
            have hv : Hid (ltsV (s0, s1, ls, es) = false) := by show _ = _; rw [hval3.out]; exact allK_bad hlt (okE_bad hx (by rw [w0, w1, w2]; rfl))
            simp only [w2] at r2
            replace r2 := hide r2
            clear w0 w1 w2 hx hprev ha
            refine wp_region_quiet_below (by kernel_rfl) (by kernel_rfl) ?_
            repeat (go_big_quiet_step (first | (with_reducible exact r0.out _ _) | (with_reducible exact r1.out _ _) | (with_reducible exact r2.out _ _)))
            refine wpQuiet_nil ?_
            intro _ hw'
            obtain ⟨⟨dq, osq⟩, hw''⟩ := hw'
            subst hw''
            have hbq := below_regrown WE dq osq
            generalize grow (redrawn WE dq) osq = wq at *
            go_wp2
            go_ret
            exact ⟨ret_b (by rw [hv.out]), hbw.out.trans (hbq.mono hbw.out.size)⟩
          | true =>
          simp only [w2] at r2
          replace r2 := hide r2
          by_cases hk0 : 0 < k
          · obtain ⟨q1, q2, q3, hy, v0, v1, v2⟩ := hprev.out hk0
            have hok := okE_at (st := s0) (m := (n2 : Int)) hx hk0 hy
            rw [w0, w1, w2] at hok
            have hlI : (0 : Int) < (k : Int) := by omega
            have hlJ : decide ((0 : Int) < (k : Int)) = true := decide_eq_true hlI
            have hI4 : (1 : Int) ≤ (k : Int) := by omega
            have hI3 : (k : Int) - 1 < (n3 : Int) := by omega
            have hI5 : ((k : Int) - 1).toNat = k - 1 := by omega
            have g0 := fun d os => cell_regrown v0 d os
            have g1 := fun d os => cell_regrown v1 d os
            have g2 := fun d os => cell_regrown v2 d os
            have r3 : ∀ d os, Calls Tryz.prog 64 #[.agg #[.int .i64 q1, .int .i64 q2, .int .i64 q3], .agg #[.int .i64 f, .int .i64 lb, .int .i64 tg]] (grow (redrawn WE d) os) (fun e w'' => e = .returned (.int .i64 (cmpE (q1, q2, q3) (f, lb, tg))) ∧ ∃ p : Regrown, w'' = grow (redrawn WE p.d) p.os) := fun d os => Calls.regrown_of (compareEdges_calls q1 q2 q3 f lb tg _)
            have hce := cmpE_less (q1, q2, q3) (f, lb, tg)
            generalize cmpE (q1, q2, q3) (f, lb, tg) = ce at *
            replace r3 := hide r3
            cases hls' : edLess (q1, q2, q3) (f, lb, tg) with
            | true =>
              rw [hls'] at hce
              replace hce : decide (0 ≤ ce) = false := hce
              have hce2 : ¬ (0 : Int) ≤ ce := of_decide_eq_false hce
              have hnext : Hid (∀ j, j < k + 1 → okEd s0 (n2 : Int) es j = true) := lt_succ_cases ha.out (by rw [hok, hls']; rfl)
              clear w0 w1 w2 hx hprev ha hok hy hls'
              refine wp_region_quiet_below (by kernel_rfl) (by kernel_rfl) ?_
              repeat (go_big_quiet_step (first | (with_reducible exact r0.out _ _) | (with_reducible exact r1.out _ _) | (with_reducible exact r2.out _ _) | (with_reducible exact r3.out _ _)))
              refine wpQuiet_nil ?_
              intro _ hw'
              obtain ⟨⟨dq, osq⟩, hw''⟩ := hw'
              subst hw''
              have hbq := below_regrown WE dq osq
              generalize grow (redrawn WE dq) osq = wq at *
              go_wp2
              go_roundw
              case rel => exact ⟨k + 1, by omega, by go_num, hnext, hbB.out.trans (hbq.mono hbBs.out)⟩
              case measure => simp [intOf]; omega
            | false =>
              rw [hls'] at hce
              replace hce : decide (0 ≤ ce) = true := hce
              have hce2 : (0 : Int) ≤ ce := of_decide_eq_true hce
              have hv : Hid (ltsV (s0, s1, ls, es) = false) := by show _ = _; rw [hval3.out]; exact allK_bad hlt (by rw [hok, hls']; rfl)
              clear w0 w1 w2 hx hprev ha hok hy hls'
              refine wp_region_quiet_below (by kernel_rfl) (by kernel_rfl) ?_
              repeat (go_big_quiet_step (first | (with_reducible exact r0.out _ _) | (with_reducible exact r1.out _ _) | (with_reducible exact r2.out _ _) | (with_reducible exact r3.out _ _)))
              refine wpQuiet_nil ?_
              intro _ hw'
              obtain ⟨⟨dq, osq⟩, hw''⟩ := hw'
              subst hw''
              have hbq := below_regrown WE dq osq
              generalize grow (redrawn WE dq) osq = wq at *
              go_wp2
              go_ret
              exact ⟨ret_b (by rw [hv.out]), hbw.out.trans (hbq.mono hbw.out.size)⟩
          · have hk00 : k = 0 := by omega
            subst hk00
            have hok := okE_zero (st := s0) (m := (n2 : Int)) hx
            rw [w0, w1, w2] at hok
            have hnext : Hid (∀ j, j < 0 + 1 → okEd s0 (n2 : Int) es j = true) := lt_succ_cases ha.out (by rw [hok]; rfl)
            clear w0 w1 w2 hx hprev ha hok
            refine wp_region_quiet_below (by kernel_rfl) (by kernel_rfl) ?_
            repeat (go_big_quiet_step (first | (with_reducible exact r0.out _ _) | (with_reducible exact r1.out _ _) | (with_reducible exact r2.out _ _)))
            refine wpQuiet_nil ?_
            intro _ hw'
            obtain ⟨⟨dq, osq⟩, hw''⟩ := hw'
            subst hw''
            have hbq := below_regrown WE dq osq
            generalize grow (redrawn WE dq) osq = wq at *
            go_wp2
            go_roundw
            case rel => exact ⟨0 + 1, by omega, by go_num, hnext, hbB.out.trans (hbq.mono hbBs.out)⟩
            case measure => simp [intOf]; omega
        · have hkn : k = n3 := by omega
          subst hkn
          have hv : Hid (ltsV (s0, s1, ls, es) = true) := by show _ = _; rw [hval3.out]; exact allK_good ha.out
          go_wp2_with fail
          go_ret
          exact ⟨ret_b (by rw [hv.out]), hwb⟩

end Go.Proofs.YtcdhgabcajehnaaGreatDoor

namespace Go.Proofs.YtcdhgabcajehnaaGreatDoor
open Go.ChangeShapes Go.WideShapes Go.ChangeAt Go.RowKit Go.Sort
set_option linter.unusedVariables false

theorem bytesLess_irrefl : ∀ a : List UInt8, Op.bytesLess a a = false
  | [] => rfl
  | x :: a => by
    have : ¬ x < x := by rw [UInt8.lt_iff_toNat_lt]; omega
    simp [Op.bytesLess, this, bytesLess_irrefl a]
theorem bytesLess_trans : ∀ {a b c : List UInt8}, Op.bytesLess a b = true → Op.bytesLess b c = true → Op.bytesLess a c = true
  | [], [], _, h, _ => by simp [Op.bytesLess] at h
  | [], _ :: _, [], _, h => by simp [Op.bytesLess] at h
  | [], _ :: _, _ :: _, _, _ => by simp [Op.bytesLess]
  | _ :: _, [], _, h, _ => by simp [Op.bytesLess] at h
  | _ :: _, _ :: _, [], _, h => by simp [Op.bytesLess] at h
  | x :: a, y :: b, z :: c, h, g => by
    simp only [Op.bytesLess, Bool.or_eq_true, decide_eq_true_eq, Bool.and_eq_true, beq_iff_eq] at h g ⊢
    rw [UInt8.lt_iff_toNat_lt] at h g ⊢
    rcases h with h | ⟨rfl, h⟩
    · rcases g with g | ⟨rfl, g⟩
      · exact .inl (by omega)
      · exact .inl h
    · rcases g with g | ⟨rfl, g⟩
      · exact .inl g
      · exact .inr ⟨rfl, bytesLess_trans h g⟩

end Go.Proofs.YtcdhgabcajehnaaGreatDoor

namespace Go.Proofs.YtcdhgabcajehnaaGreatDoor
set_option linter.unusedVariables false
set_option linter.unusedSimpArgs false

abbrev Rel2 := Int → Int → Prop
/-- The least set of pairs in R that is closed under F. -/
def Lf (R : Rel2) (F : Rel2 → Rel2) (x y : Int) : Prop := ∀ D : Rel2, (∀ x y, R x y → F D x y → D x y) → D x y
def MonoF (F : Rel2 → Rel2) : Prop := ∀ D E : Rel2, (∀ x y, D x y → E x y) → ∀ x y, F D x y → F E x y
theorem Lf.add {R : Rel2} {F : Rel2 → Rel2} (hm : MonoF F) {x y : Int} (hR : R x y) (h : F (Lf R F) x y) : Lf R F x y := fun D hD => hD x y hR (hm _ _ (fun u v h => h D hD) x y h)
theorem Lf.done {R : Rel2} {F : Rel2 → Rel2} {D : Rel2} (hs : ∀ x y, D x y → Lf R F x y) (hc : ∀ x y, R x y → F D x y → D x y) (x y : Int) : D x y ↔ Lf R F x y := ⟨hs x y, fun h => h D hc⟩

/-- A table of rows of answers. -/
def getM (M : List (List Bool)) (x y : Nat) : Option Bool := M[x]?.bind fun r => r[y]?
def setM (M : List (List Bool)) (x y : Nat) (b : Bool) : List (List Bool) := M.set x ((M[x]?.getD []).set y b)
theorem getM_row {M : List (List Bool)} {x y : Nat} {b : Bool} (h : getM M x y = some b) : ∃ r, M[x]? = some r ∧ r[y]? = some b := by
  unfold getM at h
  cases hr : M[x]? with
  | none => rw [hr] at h; cases h
  | some r => rw [hr] at h; exact ⟨r, rfl, h⟩
/-- n rows of p answers. -/
def ShM (n p : Nat) (M : List (List Bool)) : Prop := M.length = n ∧ ∀ r, r ∈ M → r.length = p
theorem ShM.get {n p : Nat} {M : List (List Bool)} (h : ShM n p M) {x y : Nat} (hx : x < n) (hy : y < p) : ∃ r b, M[x]? = some r ∧ r.length = p ∧ r[y]? = some b ∧ getM M x y = some b := by
  have h1 : M[x]? = some (M[x]'(by rw [h.1]; exact hx)) := List.getElem?_eq_getElem _
  have h2 := h.2 _ (List.mem_of_getElem? h1)
  have h3 : (M[x]'(by rw [h.1]; exact hx))[y]? = some ((M[x]'(by rw [h.1]; exact hx))[y]'(by rw [h2]; exact hy)) := List.getElem?_eq_getElem _
  exact ⟨_, _, h1, h2, h3, by unfold getM; rw [h1]; exact h3⟩
theorem ShM.set {n p : Nat} {M : List (List Bool)} (h : ShM n p M) {x y : Nat} (c : Bool) (hx : x < n) : ShM n p (setM M x y c) := by
  refine ⟨by unfold setM; rw [List.length_set]; exact h.1, fun r hr => ?_⟩
  unfold setM at hr
  rcases List.mem_or_eq_of_mem_set hr with h1 | h1
  · exact h.2 r h1
  · subst h1
    have h2 : M[x]? = some (M[x]'(by rw [h.1]; exact hx)) := List.getElem?_eq_getElem _
    rw [h2, List.length_set]
    exact h.2 _ (List.mem_of_getElem? h2)
theorem ShM.lt {n p : Nat} {M : List (List Bool)} (h : ShM n p M) {x y : Nat} {b : Bool} (hb : getM M x y = some b) : x < n ∧ y < p := by
  obtain ⟨r, h1, h2⟩ := getM_row hb
  have hx := (List.getElem?_eq_some_iff.1 h1).1
  have hy := (List.getElem?_eq_some_iff.1 h2).1
  rw [h.1] at hx
  rw [h.2 r (List.mem_of_getElem? h1)] at hy
  exact ⟨hx, hy⟩
def fillM (n p : Nat) (b : Bool) : List (List Bool) := List.replicate n (List.replicate p b)
theorem fillM_sh (n p : Nat) (b : Bool) : ShM n p (fillM n p b) := ⟨by simp [fillM], fun r hr => by rw [List.eq_of_mem_replicate hr, List.length_replicate]⟩
theorem fillM_get {n p : Nat} {b c : Bool} {x y : Nat} (h : getM (fillM n p b) x y = some c) : c = b := by
  obtain ⟨r, h1, h2⟩ := getM_row h
  have h3 := List.eq_of_mem_replicate (List.mem_of_getElem? h1)
  subst h3
  exact List.eq_of_mem_replicate (List.mem_of_getElem? h2)

/-- The pairs that are changed. -/
def ChM (b : Bool) (M : List (List Bool)) (x y : Int) : Prop := 0 ≤ x ∧ 0 ≤ y ∧ getM M x.toNat y.toNat = some (!b)
def RgN (n p : Nat) (x y : Int) : Prop := (0 ≤ x ∧ x < (n : Int)) ∧ 0 ≤ y ∧ y < (p : Int)
/-- The table while it is settled: what is changed is in the least set. -/
structure SetI (b : Bool) (n p : Nat) (F : Rel2 → Rel2) (M : List (List Bool)) : Prop where
  sh : ShM n p M
  sound : ∀ x y, ChM b M x y → Lf (RgN n p) F x y
theorem SetI.start (b : Bool) (n p : Nat) (F : Rel2 → Rel2) : SetI b n p F (fillM n p b) :=
  ⟨fillM_sh _ _ _, fun x y h => by have := fillM_get h.2.2; cases b <;> cases this⟩
/-- All pairs ahead of (x, y) are closed. -/
def ClosedTo (b : Bool) (p : Nat) (F : Rel2 → Rel2) (M : List (List Bool)) (x y : Nat) : Prop := ∀ u v : Nat, v < p → (u < x ∨ u = x ∧ v < y) → F (ChM b M) (u : Int) (v : Int) → ChM b M (u : Int) (v : Int)
theorem ClosedTo.start (b : Bool) (p : Nat) (F : Rel2 → Rel2) (M : List (List Bool)) : ClosedTo b p F M 0 0 := fun u v hv h => by omega
theorem ClosedTo.next {b : Bool} {p : Nat} {F : Rel2 → Rel2} {M : List (List Bool)} {x y : Nat} (h : ClosedTo b p F M x y) (hn : F (ChM b M) (x : Int) (y : Int) → ChM b M (x : Int) (y : Int)) : ClosedTo b p F M x (y + 1) := fun u v hv hl => by
  by_cases e : u = x ∧ v = y
  · obtain ⟨rfl, rfl⟩ := e
    exact hn
  · exact h u v hv (by omega)
theorem ClosedTo.row {b : Bool} {p : Nat} {F : Rel2 → Rel2} {M : List (List Bool)} {x : Nat} (h : ClosedTo b p F M x p) : ClosedTo b p F M (x + 1) 0 := fun u v hv hl => h u v hv (by omega)
theorem SetI.done {b : Bool} {n p : Nat} {F : Rel2 → Rel2} {M : List (List Bool)} (h : SetI b n p F M) (hc : ClosedTo b p F M n 0) (x y : Int) : ChM b M x y ↔ Lf (RgN n p) F x y := by
  refine Lf.done h.sound (fun u v hR hF => ?_) x y
  obtain ⟨⟨h1, h2⟩, h3, h4⟩ := hR
  have := hc u.toNat v.toNat (by omega) (.inl (by omega))
  rw [Int.toNat_of_nonneg h1, Int.toNat_of_nonneg h3] at this
  exact this hF

end Go.Proofs.YtcdhgabcajehnaaGreatDoor

namespace Go.Proofs.YtcdhgabcajehnaaGreatDoor
set_option linter.unusedVariables false
set_option linter.unusedSimpArgs false

/-- Reached from the states with P by internal edges. -/
inductive TauC (es : List Ed) (ls : List ByteArray) (P : Int → Prop) : Int → Prop where
  | base {v : Int} (h : P v) : TauC es ls P v
  | step {e : Ed} (h : TauC es ls P e.1) (he : e ∈ es) (hl : ls[e.2.1.toNat]? = some tauB) : TauC es ls P e.2.2

theorem TauC.imp {es : List Ed} {ls : List ByteArray} {P Q : Int → Prop} (h : ∀ v, P v → Q v) {v : Int} (hv : TauC es ls P v) : TauC es ls Q v := by
  induction hv with
  | base h1 => exact .base (h _ h1)
  | step _ he hl ih => exact .step ih he hl
end Go.Proofs.YtcdhgabcajehnaaGreatDoor

namespace Go.Proofs.YtcdhgabcajehnaaGreatDoor
open Go.Lib Go.Sort
set_option linter.unusedVariables false
set_option linter.unusedSimpArgs false

theorem cb_less : ∀ a b : List UInt8, Lib.compareBytes a b < 0 ↔ Op.bytesLess a b = true
  | [], [] => by simp [Lib.compareBytes, Op.bytesLess]
  | [], _ :: _ => by simp [Lib.compareBytes, Op.bytesLess]
  | _ :: _, [] => by simp [Lib.compareBytes, Op.bytesLess]
  | x :: a, y :: b => by
    have ih := cb_less a b
    unfold Lib.compareBytes Op.bytesLess
    by_cases h1 : x < y
    · simp [h1]
    · by_cases h2 : y < x
      · have h3 : ¬ x = y := fun e => by subst e; exact h1 h2
        simp [h1, h2, h3]
      · have h3 : x = y := by
          rw [UInt8.lt_iff_toNat_lt] at h1 h2
          exact UInt8.toNat_inj.1 (by omega)
        subst h3
        simp [h1, ih]
theorem bl_cases (a b : List UInt8) : Op.bytesLess a b = true ∨ a = b ∨ Op.bytesLess b a = true := by
  have := bytesLess_total a b
  by_cases h1 : Op.bytesLess a b = true
  · exact .inl h1
  · by_cases h2 : a = b
    · exact .inr (.inl h2)
    · have h3 : (a == b) = false := by simpa using h2
      rw [Bool.eq_false_iff.2 h1, h3] at this
      exact .inr (.inr this.symm)
def tauBL : List UInt8 := [116, 97, 117]
/-- The program's order of labels. -/
def cmpB (x y : List UInt8) : Int := if x = y then 0 else if x = tauBL then -1 else if y = tauBL then 1 else Lib.compareBytes x y
abbrev ltL := ltOf cmpB
theorem ltL_iff (x y : List UInt8) : ltL x y = true ↔ x ≠ y ∧ (x = tauBL ∨ (y ≠ tauBL ∧ Op.bytesLess x y = true)) := by
  unfold ltL ltOf cmpB
  rw [decide_eq_true_eq]
  by_cases h1 : x = y
  · simp [h1]
  · by_cases h2 : x = tauBL
    · rw [if_neg h1, if_pos h2]
      exact ⟨fun _ => ⟨h1, .inl h2⟩, fun _ => by omega⟩
    · by_cases h3 : y = tauBL
      · rw [if_neg h1, if_neg h2, if_pos h3]
        exact ⟨fun h => by omega, fun ⟨_, h⟩ => by rcases h with h | h; exact absurd h h2; exact absurd h3 h.1⟩
      · rw [if_neg h1, if_neg h2, if_neg h3, cb_less]
        exact ⟨fun h => ⟨h1, .inr ⟨h3, h⟩⟩, fun ⟨_, h⟩ => by rcases h with h | h; exact absurd h h2; exact h.2⟩
theorem ltL_total (x y : List UInt8) : ltL x y = true ∨ x = y ∨ ltL y x = true := by
  rw [ltL_iff, ltL_iff]
  by_cases h1 : x = y
  · exact .inr (.inl h1)
  · by_cases h2 : x = tauBL
    · exact .inl ⟨h1, .inl h2⟩
    · by_cases h3 : y = tauBL
      · exact .inr (.inr ⟨fun e => h1 e.symm, .inl h3⟩)
      · rcases bl_cases x y with h | h | h
        · exact .inl ⟨h1, .inr ⟨h3, h⟩⟩
        · exact absurd h h1
        · exact .inr (.inr ⟨fun e => h1 e.symm, .inr ⟨h2, h⟩⟩)
theorem ltL_irr (x : List UInt8) : ltL x x = false := Bool.eq_false_iff.2 fun h => ((ltL_iff x x).1 h).1 rfl
theorem ltL_trans {x y z : List UInt8} (h : ltL x y = true) (g : ltL y z = true) : ltL x z = true := by
  rw [ltL_iff] at h g ⊢
  obtain ⟨h1, h2⟩ := h
  obtain ⟨g1, g2⟩ := g
  rcases h2 with h2 | ⟨h2, h3⟩
  · refine ⟨fun e => ?_, .inl h2⟩
    rcases g2 with g2 | ⟨g2, g3⟩
    · exact h1 (h2.trans g2.symm)
    · exact g2 (e.symm.trans h2)
  · rcases g2 with g2 | ⟨g2, g3⟩
    · exact absurd g2 h2
    · refine ⟨fun e => ?_, .inr ⟨g2, bytesLess_trans h3 g3⟩⟩
      subst e
      have := bytesLess_trans h3 g3
      rw [bytesLess_irrefl] at this
      cases this
theorem ltL_asym {x y : List UInt8} (h : ltL x y = true) (g : ltL y x = true) : False := by
  have := ltL_trans h g
  rw [ltL_irr] at this
  cases this
theorem swoL : SWO ltL where
  irrefl := ltL_irr
  trans x y z h g := ltL_trans h g
  ntrans x y z h g := Bool.eq_false_iff.2 fun k => by
    rcases ltL_total y x with h1 | h1 | h1
    · have := ltL_trans h1 k
      rw [g] at this
      cases this
    · subst h1
      rw [g] at k
      cases k
    · rw [h] at h1
      cases h1
/-- Two rising lists with the same members are the same. -/
theorem rise_ext {α : Type} {r : α → α → Prop} (irr : ∀ a, ¬ r a a) (asy : ∀ a b, r a b → r b a → False) : ∀ {l m : List α}, l.Pairwise r → m.Pairwise r → (∀ x, x ∈ l ↔ x ∈ m) → l = m
  | [], [], _, _, _ => rfl
  | [], b :: m, _, _, h => by have := (h b).2 (List.mem_cons_self ..); cases this
  | a :: l, [], _, _, h => by have := (h a).1 (List.mem_cons_self ..); cases this
  | a :: l, b :: m, hl, hm, h => by
    obtain ⟨l1, l2⟩ := List.pairwise_cons.1 hl
    obtain ⟨m1, m2⟩ := List.pairwise_cons.1 hm
    have hab : a = b := by
      rcases List.mem_cons.1 ((h a).1 (List.mem_cons_self ..)) with e | e
      · exact e
      · rcases List.mem_cons.1 ((h b).2 (List.mem_cons_self ..)) with e2 | e2
        · exact e2.symm
        · exact (asy _ _ (l1 b e2) (m1 a e)).elim
    subst hab
    congr 1
    refine rise_ext irr asy l2 m2 fun x => ⟨fun hx => ?_, fun hx => ?_⟩
    · rcases List.mem_cons.1 ((h x).1 (List.mem_cons_of_mem _ hx)) with e | e
      · subst e; exact (irr _ (l1 _ hx)).elim
      · exact e
    · rcases List.mem_cons.1 ((h x).2 (List.mem_cons_of_mem _ hx)) with e | e
      · subst e; exact (irr _ (m1 _ hx)).elim
      · exact e
theorem compactL_mem {l : List (List UInt8)} {x : List UInt8} : x ∈ Lib.compact l ↔ x ∈ l := by
  unfold Lib.compact Lib.compactUpTo
  rw [List.mem_map]
  constructor
  · rintro ⟨k, hk, rfl⟩
    have hk' := List.mem_range.1 (List.mem_filter.1 hk).1
    rw [getElem!_pos _ k (by simpa using hk')]
    simp
  · intro hx
    obtain ⟨k, hk, rfl⟩ := List.mem_iff_getElem.1 hx
    have key : ∀ k, (hk : k < l.length) → ∃ a, a ∈ (List.range l.length).filter (Lib.keeps l.toArray) ∧ l.toArray[a]! = l[k] := by
      intro k
      induction k with
      | zero => exact fun hk => ⟨0, List.mem_filter.2 ⟨List.mem_range.2 hk, by simp [Lib.keeps]⟩, by rw [getElem!_pos _ 0 (by simpa using hk)]; simp⟩
      | succ k ih =>
        intro hk
        by_cases h : l.toArray[k + 1]! = l.toArray[k]!
        · obtain ⟨a, ha, e⟩ := ih (by omega)
          refine ⟨a, ha, ?_⟩
          rw [e]
          rw [getElem!_pos _ (k + 1) (by simpa using hk), getElem!_pos _ k (by simp; omega)] at h
          simpa using h.symm
        · exact ⟨k + 1, List.mem_filter.2 ⟨List.mem_range.2 hk, Lib.keeps_pos (by simpa using h)⟩, by rw [getElem!_pos _ (k + 1) (by simpa using hk)]; simp⟩
    exact key k hk
/-- A list that does not fall becomes a rising one. -/
theorem compact_rise {l : List (List UInt8)} (h : l.Pairwise fun x y => ltL y x = false) : (Lib.compact l).Pairwise fun x y => ltL x y = true := by
  unfold Lib.compact Lib.compactUpTo
  rw [List.pairwise_map]
  refine List.Pairwise.imp_of_mem (fun {p q} hp hq hpq => ?_) (List.Pairwise.filter _ (List.pairwise_lt_range (n := l.length)))
  obtain ⟨hp1, -⟩ := List.mem_filter.1 hp
  obtain ⟨hq1, hq2⟩ := List.mem_filter.1 hq
  have hp1 := List.mem_range.1 hp1
  have hq1 := List.mem_range.1 hq1
  unfold Lib.keeps at hq2
  rw [decide_eq_true_eq] at hq2
  have hne : l.toArray[q]! ≠ l.toArray[q - 1]! := hq2.resolve_left (by omega)
  rw [getElem!_pos _ q (by simpa using hq1), getElem!_pos _ (q - 1) (by simp; omega)] at hne
  rw [getElem!_pos _ p (by simpa using hp1), getElem!_pos _ q (by simpa using hq1)]
  simp only [List.getElem_toArray] at hne ⊢
  have h1 := List.pairwise_iff_getElem.1 h (q - 1) q (by omega) hq1 (by omega)
  have h2 : ltL l[q - 1] l[q] = true := by
    rcases ltL_total l[q - 1] l[q] with g | g | g
    · exact g
    · exact absurd g.symm hne
    · rw [h1] at g; cases g
  by_cases e : p = q - 1
  · subst e; exact h2
  · have h3 := List.pairwise_iff_getElem.1 h p (q - 1) hp1 (by omega) (by omega)
    rcases ltL_total l[p] l[q - 1] with g | g | g
    · exact ltL_trans g h2
    · rw [g]; exact h2
    · rw [h3] at g; cases g
theorem sortL_rise (l : List (List UInt8)) : (l.mergeSort fun x y => !(ltL y x)).Pairwise fun x y => ltL y x = false := by
  refine (List.pairwise_mergeSort (le := fun x y => !(ltL y x)) (fun a b c h g => ?_) (fun a b => ?_) l).imp fun {a b} h => ?_
  · simp only [Bool.not_eq_true'] at h g ⊢
    exact swoL.ntrans c b a g h
  · cases h : ltL b a with
    | false => simp [h]
    | true =>
      have : ltL a b = false := Bool.eq_false_iff.2 fun g => ltL_asym h g
      simp [this]
  · simpa using h
def toL (s : ByteArray) : List UInt8 := s.data.toList
def ofL (l : List UInt8) : ByteArray := ⟨l.toArray⟩
theorem ofL_toL (s : ByteArray) : ofL (toL s) = s := by unfold ofL toL; rfl
theorem toL_ofL (l : List UInt8) : toL (ofL l) = l := by unfold ofL toL; simp
theorem toL_eq (s : ByteArray) : s.toList = toL s := by
  obtain ⟨⟨x⟩⟩ := s
  exact ByteArray.toList_mk x
theorem toL_inj {a b : ByteArray} (h : toL a = toL b) : a = b := by rw [← ofL_toL a, h, ofL_toL]
theorem toL_tau : toL tauB = tauBL := by rw [← toL_eq, tau_list]; rfl
end Go.Proofs.YtcdhgabcajehnaaGreatDoor

namespace Go.Proofs.YtcdhgabcajehnaaGreatDoor
open Go.ChangeShapes Go.WideShapes Go.ChangeAt Go.RowKit Go.Sort
set_option linter.unusedVariables false
set_option linter.unusedSimpArgs false

/-- A rising list of labels with tau ahead. -/
structure JoiI (out : List ByteArray) (l : List ByteArray) : Prop where
  head : out[0]? = some tauB
  rise : (out.map toL).Pairwise fun x y => ltL x y = true
  mem : ∀ x, x ∈ out ↔ x = tauB ∨ x ∈ l
theorem JoiI.start : JoiI [tauB] [] := ⟨rfl, by simp, fun x => by simp⟩
theorem JoiI.old {out l : List ByteArray} (h : JoiI out l) {s : ByteArray} (hs : s ∈ out) : JoiI out (l ++ [s]) :=
  ⟨h.head, h.rise, fun x => by
    rw [h.mem, List.mem_append, List.mem_singleton]
    constructor
    · rintro (g | g)
      · exact .inl g
      · exact .inr (.inl g)
    · rintro (g | g | rfl)
      · exact .inl g
      · exact .inr g
      · exact (h.mem _).1 hs⟩
theorem JoiI.put {out l : List ByteArray} (h : JoiI out l) {s : ByteArray} (hs : ¬ s ∈ out) {k : Nat} (hk0 : 1 ≤ k) (hk : k ≤ out.length) (hlo : ∀ j, 1 ≤ j → j < k → ∀ x, out[j]? = some x → Op.bytesLess x.toList s.toList = true) (hhi : ∀ x, out[k]? = some x → Op.bytesLess x.toList s.toList = false) :
    JoiI (out.take k ++ s :: out.drop k) (l ++ [s]) := by
  have hst : s ≠ tauB := fun e => hs (e ▸ (h.mem tauB).2 (.inl rfl))
  have hsL : toL s ≠ tauBL := fun e => hst (toL_inj (e.trans toL_tau.symm))
  have hne : ∀ x ∈ out, toL x ≠ toL s := fun x hx e => hs (toL_inj e ▸ hx)
  have hlow : ∀ x ∈ out.take k, ltL (toL x) (toL s) = true := fun x hx => by
    obtain ⟨j, hj⟩ := List.getElem?_of_mem hx
    rw [List.getElem?_take] at hj
    split at hj
    · rename_i hjk
      have hxo := List.mem_of_getElem? hj
      rw [ltL_iff]
      refine ⟨hne x hxo, ?_⟩
      by_cases h0 : j = 0
      · subst h0
        rw [h.head] at hj
        have := Option.some.inj hj
        subst this
        exact .inl toL_tau
      · have := hlo j (by omega) hjk x hj
        rw [toL_eq, toL_eq] at this
        exact .inr ⟨hsL, this⟩
    · cases hj
  have hhigh : ∀ x ∈ out.drop k, ltL (toL s) (toL x) = true := fun x hx => by
    have hkl : k < out.length := by
      rcases Nat.lt_or_ge k out.length with h1 | h1
      · exact h1
      · rw [List.drop_eq_nil_of_le h1] at hx; cases hx
    have hy : out[k]? = some out[k] := List.getElem?_eq_getElem _
    have h1 : ltL (toL s) (toL out[k]) = true := by
      rcases ltL_total (toL s) (toL out[k]) with g | g | g
      · exact g
      · exact absurd g.symm (hne _ (List.mem_of_getElem? hy))
      · rw [ltL_iff] at g
        have h2 := hhi _ hy
        rw [toL_eq, toL_eq] at h2
        rcases g.2 with g2 | g2
        · have h3 : out[k] = tauB := toL_inj (g2.trans toL_tau.symm)
          have h4 := List.pairwise_iff_getElem.1 h.rise 0 k (by rw [List.length_map]; omega) (by rw [List.length_map]; omega) (by omega)
          rw [List.getElem_map, List.getElem_map, h3] at h4
          have h5 := h.head
          rw [List.getElem?_eq_getElem (by omega)] at h5
          rw [Option.some.inj h5, ltL_irr] at h4
          cases h4
        · rw [h2] at g2
          cases g2.2
    rw [List.drop_eq_getElem_cons hkl] at hx
    rcases List.mem_cons.1 hx with rfl | hx
    · exact h1
    · obtain ⟨j, hj⟩ := List.getElem?_of_mem hx
      rw [List.getElem?_drop] at hj
      have hjl := (List.getElem?_eq_some_iff.1 hj).1
      have h4 := List.pairwise_iff_getElem.1 h.rise k (k + 1 + j) (by rw [List.length_map]; omega) (by rw [List.length_map]; omega) (by omega)
      rw [List.getElem_map, List.getElem_map, (List.getElem?_eq_some_iff.1 hj).2] at h4
      exact ltL_trans h1 h4
  refine ⟨?_, ?_, fun x => ?_⟩
  · rw [List.getElem?_append_left (by rw [List.length_take]; omega), List.getElem?_take, if_pos (by omega)]
    exact h.head
  · rw [List.map_append, List.map_cons, List.pairwise_append]
    have hr := h.rise
    rw [← List.take_append_drop k out, List.map_append, List.pairwise_append] at hr
    refine ⟨hr.1, List.pairwise_cons.2 ⟨fun y hy => ?_, hr.2.1⟩, fun a ha b hb => ?_⟩
    · obtain ⟨x, hx, rfl⟩ := List.mem_map.1 hy
      exact hhigh x hx
    · obtain ⟨x, hx, rfl⟩ := List.mem_map.1 ha
      rcases List.mem_cons.1 hb with rfl | hb
      · exact hlow x hx
      · exact hr.2.2 _ ha _ hb
  · have hm := h.mem x
    rw [← List.take_append_drop k out, List.mem_append] at hm
    rw [List.mem_append, List.mem_cons, List.mem_append, List.mem_singleton]
    constructor
    · rintro (g | g | g)
      · rcases hm.1 (.inl g) with g | g
        · exact .inl g
        · exact .inr (.inl g)
      · exact .inr (.inr g)
      · rcases hm.1 (.inr g) with g | g
        · exact .inl g
        · exact .inr (.inl g)
    · rintro (g | g | g)
      · rcases hm.2 (.inl g) with g | g
        · exact .inl g
        · exact .inr (.inr g)
      · rcases hm.2 (.inr g) with g | g
        · exact .inl g
        · exact .inr (.inr g)
      · exact .inr (.inl g)
/-- What the program makes of the same texts. -/
def joiF (l : List ByteArray) : List ByteArray := (Lib.compact (((tauB :: l).map toL).mergeSort fun x y => !(ltL y x))).map ofL
theorem map_toL_ofL2 (d : List (List UInt8)) : (d.map ofL).map toL = d := by
  rw [List.map_map]
  exact (List.map_congr_left fun x _ => toL_ofL x).trans (List.map_id _)
theorem JoiI.done {out l : List ByteArray} (h : JoiI out l) : out = joiF l := by
  have h1 : out.map toL = Lib.compact (((tauB :: l).map toL).mergeSort fun x y => !(ltL y x)) := by
    refine rise_ext (r := fun x y => ltL x y = true) (fun a g => by rw [ltL_irr] at g; cases g) (fun a b g k => ltL_asym g k) h.rise (compact_rise (sortL_rise _)) fun y => ?_
    rw [compactL_mem, List.mem_mergeSort, List.mem_map, List.mem_map]
    constructor
    · rintro ⟨x, hx, rfl⟩
      exact ⟨x, by rw [List.mem_cons]; exact (h.mem x).1 hx, rfl⟩
    · rintro ⟨x, hx, rfl⟩
      exact ⟨x, by rw [List.mem_cons] at hx; exact (h.mem x).2 hx, rfl⟩
  unfold joiF
  rw [← h1, List.map_map]
  exact ((List.map_congr_left fun x _ => ofL_toL x).trans (List.map_id _)).symm
theorem JoiI.len {out l : List ByteArray} (h : JoiI out l) : out.length ≤ l.length + 1 := by
  rw [h.done]
  unfold joiF
  rw [List.length_map]
  refine Nat.le_trans (Go.Lib.compact_length_le _) ?_
  rw [List.length_mergeSort, List.length_map, List.length_cons]
  exact Nat.le_refl _

theorem any_of_mem {l : List ByteArray} {s : ByteArray} : anyL l s = true ↔ s ∈ l := by
  unfold anyL
  rw [List.any_eq_true]
  exact ⟨fun ⟨x, h, e⟩ => of_decide_eq_true e ▸ h, fun h => ⟨s, h, decide_eq_true rfl⟩⟩
theorem Own.ne {w : World} {base e n c : Nat} {A : Option Addr} {l : List ByteArray} (h : Own 1 strv w base e A n c l) (hn : 0 < n) : ∃ g, A = some ⟨g, 0, none⟩ ∧ base ≤ g := by
  rcases h.2.2 with ⟨-, hv⟩ | ⟨g, cap, cur, hv, hb, -⟩
  · omega
  · cases hv
    exact ⟨g, rfl, hb⟩
theorem shift_set {out : List ByteArray} {i : Nat} {z x : ByteArray} (hi : i < out.length) (hx : out[i]? = some x) : (out.take (i + 1) ++ z :: out.drop (i + 1)).set (i + 1) x = out.take i ++ x :: out.drop i := by
  have h1 : out.drop i = x :: out.drop (i + 1) := by rw [List.drop_eq_getElem_cons hi]; congr 1; exact Option.some.inj ((List.getElem?_eq_getElem hi).symm.trans hx)
  rw [List.set_append_right _ _ (by rw [List.length_take]; omega), List.length_take, Nat.min_eq_left (by omega), Nat.sub_self, List.set_cons_zero, List.take_add_one, hx, h1]
  simp
theorem shift_end {out : List ByteArray} {i : Nat} {z x : ByteArray} (hi : i ≤ out.length) : (out.take i ++ z :: out.drop i).set i x = out.take i ++ x :: out.drop i := by
  rw [List.set_append_right _ _ (by rw [List.length_take]; omega), List.length_take, Nat.min_eq_left (by omega), Nat.sub_self, List.set_cons_zero]
theorem shift_get {out : List ByteArray} {i : Nat} {z x : ByteArray} (hi : i < out.length) (hx : out[i]? = some x) : (out.take (i + 1) ++ z :: out.drop (i + 1))[i]? = some x := by
  rw [List.getElem?_append_left (by rw [List.length_take]; omega), List.getElem?_take, if_pos (by omega), hx]

set_option maxRecDepth 100000 in
set_option maxHeartbeats 3200000 in
theorem l11Join_calls (A : Option Addr) (n c : Nat) (l : List ByteArray) (w : World) (lo hi : Nat) (h : SlS w lo hi A n l) (hh : hi ≤ w.heap.size) (hn : n ≤ 100000) :
    Calls Tryz.prog 99 #[.slice A n c] w fun e w' => ∃ A' n' c', e = .returned (.slice A' n' c') ∧ Own 1 strv w' w.heap.size 9 A' n' c' (joiF l) ∧ Below w.heap.size w w' := by
  have hE := hide elem_str
  have hlen := hide h.len
  have k1 := heap_alloc_new w (.cells #[.string tauB] 9)
  have hst : Hid (Own 1 strv (w.alloc (.cells #[.string tauB] 9)) w.heap.size 9 (some ⟨w.heap.size, 0, none⟩) 1 1 [tauB]) := Own.litL k1 rfl (Nat.le_refl _)
  have hb0 := hide ((Below.refl w.heap.size w).alloc (Nat.le_refl _) (.cells #[.string tauB] 9))
  replace h := hide h
  clear k1
  go_enter Tryz.func99, Tryz.ntmps99
  go_upto_region 2 with fail
  go_upto_region 3 with fail
  go_loopg [3, 4] n (fun J o i wr => ∃ (k m c : Nat) (A : Option Addr) (out : List ByteArray), k ≤ n ∧ o = .slice A m c ∧ i = .int .i64 (k : Nat) ∧ Hid (Own 1 strv wr w.heap.size 9 A m c out) ∧ Hid (JoiI out (l.take k)) ∧ Hid (Below w.heap.size w wr) ∧ Hid (n - k ≤ J))
  case atStart => exact ⟨0, 1, 1, _, [tauB], Nat.zero_le _, rfl, rfl, hst.out, JoiI.start, hb0.out, by show _ ≤ _; omega⟩
  case round =>
    clear hst hb0
    obtain ⟨k, m, c2, A2, out, hk, rfl, rfl, hown, hj, hb, hG⟩ := hrel
    by_cases hlt : k < n
    · obtain ⟨J2, rfl⟩ : ∃ G2, gk = G2 + 1 := ⟨gk - 1, by have := hG.out; omega⟩
      have hJ2 : Hid (n - (k + 1) ≤ J2) := by have := hG.out; show _ ≤ _; omega
      obtain ⟨b, off, s, rfl, g1, g2, g3, hx, c0, -⟩ := SlS.get h.out hlt
      have hbb := hb.out
      have c00 := hide c0
      have z0 := (hbb.cell (p := ⟨b, off + k, none⟩) g3).trans c0
      have hml := hown.out.len
      have hm1 : 1 ≤ m ∧ m ≤ k + 1 := by
        have h1 := hj.out.len
        have h2 := hj.out.head
        rw [List.length_take] at h1
        have h3 := (List.getElem?_eq_some_iff.1 h2).1
        omega
      obtain ⟨hm0, hm1⟩ := hm1
      have q := l11Find_calls s A2 m c2 out wr _ _ (hown.out.sl flat_strv) (by omega)
      have htk : l.take (k + 1) = l.take k ++ [s] := by rw [List.take_add_one, hx]; rfl
      have hI0 : (0 : Int) ≤ (k : Int) := by omega
      have hI1 : (k : Int) < (n : Int) := by omega
      clear c0 hbb hG
      by_cases hin : s ∈ out
      · have hj2 : Hid (JoiI out (l.take (k + 1))) := by show JoiI _ _; rw [htk]; exact hj.out.old hin
        replace q := hide (q.mono (R' := fun e w' => ∃ i : Nat, e = .returned (.int .i64 (i : Int)) ∧ wr = w') (by
          rintro e w' ⟨i, rfl, hf, rfl⟩
          rcases hf with ⟨-, h2⟩ | ⟨k, rfl, -, -⟩
          · rw [any_of_mem.2 hin] at h2; cases h2
          · exact ⟨k, rfl, rfl⟩))
        clear hj hx htk hin hml
        go_wp2_with (first | (go_at_call 100; (with_reducible refine q.out.mono ?_); rintro e w5 ⟨i, rfl, rfl⟩; have hge : (0 : Int) ≤ (i : Int) := Int.natCast_nonneg _))
        go_roundg J2
        case measure => omega
        case rel => exact ⟨k + 1, m, c2, A2, out, by omega, rfl, by go_num, hown, hj2, hb, hJ2⟩
      · replace q := hide (q.mono (R' := fun e w' => e = .returned (.int .i64 (-1)) ∧ wr = w') (by
          rintro e w' ⟨i, rfl, hf, rfl⟩
          rcases hf with ⟨rfl, h2⟩ | ⟨k, rfl, -, h2⟩
          · exact ⟨rfl, rfl⟩
          · exact absurd (any_of_mem.1 h2) hin))
        have hna : Hid (∀ out', JoiI out' (l.take k ++ [s]) → JoiI out' (l.take (k + 1))) := fun out' h => by rw [htk]; exact h
        have hzw := hb.out.size
        clear hx htk
        go_upto_region 6 with (first | (go_at_call 100; (with_reducible refine q.out.mono ?_); rintro e w5 ⟨rfl, rfl⟩))
        go_upto_region 7 with fail
        obtain ⟨wO, rfl⟩ : ∃ wO : World, wO = wr := ⟨_, rfl⟩
        go_loopw [5] (fun i wr => ∃ t : Nat, 1 ≤ t ∧ t ≤ m ∧ i = .int .i64 (t : Nat) ∧ Hid (∀ j, 1 ≤ j → j < t → ∀ x, out[j]? = some x → Op.bytesLess x.toList s.toList = true) ∧ Hid (Own 1 strv wr w.heap.size 9 A2 m c2 out) ∧ Hid (Below w.heap.size w wr)) (fun i _ => m - (intOf i).toNat)
        case atStart => exact ⟨1, Nat.le_refl _, by omega, rfl, fun j h1 h2 => by omega, hown.out, hb.out⟩
        case round =>
          clear hown hb q z0
          obtain ⟨t, ht1, htm, rfl, hlo, hown, hb⟩ := hrel
          have z0 := (hb.out.cell (p := ⟨b, off + k, none⟩) g3).trans c00.out
          have t0 : (0 : Int) ≤ (t : Int) := by omega
          by_cases hgo : t < m ∧ ∃ x, out[t]? = some x ∧ Op.bytesLess x.toList s.toList = true
          · obtain ⟨htl, x, hx, hxs⟩ := hgo
            have t1 : (t : Int) < (m : Int) := by omega
            have f1 : decide ((t : Int) < (m : Int)) = true := decide_eq_true t1
            obtain ⟨ga, oa, x', rfl, -, -, -, hx', cx, -⟩ := SlS.get (hown.out.sl flat_strv) htl
            rw [hx] at hx'
            injection hx' with hx'
            subst hx'
            have hlo2 : Hid (∀ j, 1 ≤ j → j < t + 1 → ∀ x, out[j]? = some x → Op.bytesLess x.toList s.toList = true) := fun j h1 h2 y hy => by
              by_cases e : j = t
              · subst e; rw [hx] at hy; injection hy with hy; rw [← hy]; exact hxs
              · exact hlo.out j h1 (by omega) y hy
            clear hx hlo
            go_wp2_with fail
            go_quiet (fail)
            go_wp2_with fail
            go_roundw
            case rel => exact ⟨t + 1, by omega, by omega, by go_num, hlo2.out, hown.out.keep fun _ _ => rfl, hb.out.trans ((below_drewN _ nq).mono hb.out.size)⟩
            case measure => simp [intOf]; omega
          · have hput := hide (hj.out.put (s := s) hin ht1 (by omega) hlo.out (fun x hx => by
              have h3 := (List.getElem?_eq_some_iff.1 hx).1
              rw [Bool.eq_false_iff]
              exact fun h4 => hgo ⟨by omega, x, hx, h4⟩))
            have hstop : t = m ∨ ∃ x, t < m ∧ out[t]? = some x ∧ Op.bytesLess x.toList s.toList = false := by
              by_cases e : t = m
              · exact .inl e
              · obtain ⟨x, hx⟩ : ∃ x, out[t]? = some x := ⟨_, List.getElem?_eq_getElem (by omega)⟩
                exact .inr ⟨x, by omega, hx, Bool.eq_false_iff.2 fun h4 => hgo ⟨by omega, x, hx, h4⟩⟩
            clear hgo hlo
            have hAB : Hid (t < m → ∀ ga oa, A2 = some ⟨ga, oa, none⟩ → ∀ x, out[t]? = some x → wr.cell? ⟨ga, oa + t, none⟩ = some (.string x)) := fun h1 ga oa eA x hx => by
              obtain ⟨ga', oa', x', e', -, -, -, hx', cx, -⟩ := SlS.get (hown.out.sl flat_strv) h1
              rw [eA] at e'
              cases e'
              rw [hx] at hx'
              injection hx' with hx'
              rw [hx']; exact cx
            obtain ⟨gA, rfl, -⟩ := hown.out.ne (by omega)
            rcases hstop with hst | ⟨x, htl, hx, hxs⟩
            focus
              have t1 : ¬ (t : Int) < (m : Int) := by omega
              have f1 : decide ((t : Int) < (m : Int)) = false := decide_eq_false t1
              have f2 : decide (t < m) = false := decide_eq_false (by omega)
              have f3 : ¬ t < m := by omega
              clear hAB hst
              go_wp2_with fail
              go_quiet (fail)
              go_upto_region 9 with fail
              clear t1 f1 f2 f3
            rotate_left
            focus
              have t1 : (t : Int) < (m : Int) := by omega
              have f1 : decide ((t : Int) < (m : Int)) = true := decide_eq_true t1
              have f2 : decide (t < m) = true := decide_eq_true htl
              have cx := hAB.out htl gA 0 rfl x hx
              rw [Nat.zero_add] at cx
              clear hAB hx
              go_wp2_with fail
              go_quiet (fail)
              go_upto_region 9 with fail
              clear hxs cx htl t1 f1 f2
            all_goals
              obtain ⟨wq, hwq⟩ : ∃ wq, wq = wr.drewN nq := ⟨_, rfl⟩
              have hownq : Hid (Own 1 strv wq w.heap.size 9 (some ⟨gA, 0, none⟩) m c2 out) := by rw [hwq]; exact hown.out.keep fun _ _ => rfl
              have hbq : Hid (Below w.heap.size w wq) := by rw [hwq]; exact hb.out.trans ((below_drewN _ nq).mono hb.out.size)
              rw [← hwq]
              replace hwq := hide hwq
              have hzq := hbq.out.size
              have hza : w.heap.size ≤ (wq.alloc (.cells #[.string ⟨#[]⟩] 9)).heap.size := by rw [World.size_alloc]; omega
              have hba := hide (hbq.out.alloc hzq (.cells #[.string ⟨#[]⟩] 9))
              clear hown hb
              go_upto_region 10 with (first | (at_builtin; (with_reducible refine wpList_app rfl (.tmp 38) (.tmp 39) rfl hE.out flat_strv rfl (hownq.out.alloc _) rfl (Sl.lit1' wq 9 (⟨#[]⟩ : ByteArray) _ rfl 1 _ ?d0) ?d1 hza ?_); rotate_right; intro A6 c6 w6 hown6 hgr6 hb6 hat6))
              case d0 => rfl
              case d1 => omega
              obtain ⟨g6, rfl, hg6⟩ := hown6.ne (by omega)
              have hb7 := hide (hba.out.trans hb6)
              have hS0 : Hid (Own 1 strv w6 w.heap.size 9 (some ⟨g6, 0, none⟩) (m + 1) c6 (out.take m ++ (⟨#[]⟩ : ByteArray) :: out.drop m)) := by
                show Own _ _ _ _ _ _ _ _ _
                rw [List.take_of_length_le (by omega), List.drop_eq_nil_of_le (by omega)]
                exact hown6
              clear hown6 hgr6 hb6 hat6 hownq hbq hba hza
              go_wp2_with fail
              obtain ⟨wP, rfl⟩ : ∃ wP : World, wP = wr := ⟨_, rfl⟩
              go_loopw [6] (fun i wr => ∃ (q : Nat) (y : ByteArray), t ≤ q ∧ q ≤ m ∧ i = .int .i64 (q : Nat) ∧ Hid (Own 1 strv wr w.heap.size 9 (some ⟨g6, 0, none⟩) (m + 1) c6 (out.take q ++ y :: out.drop q)) ∧ Hid (Below w.heap.size w wr)) (fun i _ => (intOf i).toNat)
              case atStart => exact ⟨m, _, htm, Nat.le_refl _, by go_num, hS0.out, hb7.out⟩
              case round =>
                clear hS0 hb7
                obtain ⟨q, y, hq1, hq2, rfl, hS, hb⟩ := hrel
                by_cases hqt : t < q
                · have q0 : (t : Int) < (q : Int) := by omega
                  obtain ⟨q', rfl⟩ : ∃ q', q = q' + 1 := ⟨q - 1, by omega⟩
                  have q1 : (0 : Int) ≤ (q' : Int) := by omega
                  have q2 : (q' : Int) < (m : Int) + 1 := by omega
                  have q3 : (q' : Int) + 1 < (m : Int) + 1 := by omega
                  have q4 : (0 : Int) ≤ (q' : Int) + 1 := by omega
                  obtain ⟨x1, hx1⟩ : ∃ x, out[q']? = some x := ⟨_, List.getElem?_eq_getElem (by omega)⟩
                  obtain ⟨ga, oa, xa, ea, -, -, -, hxa, ca, -⟩ := SlS.get (hS.out.sl flat_strv) (show q' < m + 1 by omega)
                  cases ea
                  rw [Nat.zero_add] at ca
                  rw [shift_get (by omega) hx1] at hxa
                  injection hxa with hxa
                  subst hxa
                  obtain ⟨gb, ob, xb, eb, -, -, -, -, cb, fb⟩ := SlS.get (hS.out.sl flat_strv) (show q' + 1 < m + 1 by omega)
                  cases eb
                  rw [Nat.zero_add] at cb fb
                  have hset := hS.out.setS (q' + 1) x1
                  rw [shift_set (by omega) hx1] at hset
                  replace hset := hide hset
                  have hbs := hide (hb.out.setCell (p := ⟨g6, q' + 1, none⟩) hg6 (.string x1))
                  clear hx1
                  go_wp2_with fail
                  go_roundw
                  case rel => exact ⟨q', x1, by omega, by omega, by go_num, hset.out, hbs.out⟩
                  case measure => simp [intOf]
                · obtain rfl : q = t := by omega
                  have q0 : ¬ (q : Int) < (q : Int) := by omega
                  have q1 : (0 : Int) ≤ (q : Int) := by omega
                  have q2 : (q : Int) < ((m + 1 : Nat) : Int) := by omega
                  have z1 := (hb.out.cell (p := ⟨b, off + k, none⟩) g3).trans c00.out
                  obtain ⟨g6', o6, x6, e6, -, -, -, -, c6', f6⟩ := SlS.get (hS.out.sl flat_strv) (show q < m + 1 by omega)
                  cases e6
                  rw [Nat.zero_add] at c6' f6
                  have hset := hide (hS.out.setS q s)
                  have hfin := shift_end (z := y) (x := s) (show q ≤ out.length by omega)
                  rw [hfin] at hset
                  have hbs := hide (hb.out.setCell (p := ⟨g6, q, none⟩) hg6 (.string s))
                  have hJ := hide (hna.out _ hput.out)
                  clear hfin
                  go_wp2_with fail
                  go_roundg J2
                  case measure => omega
                  case rel => exact ⟨k + 1, m + 1, c6, _, _, by omega, rfl, by go_num, hset.out, hJ.out, hbs.out, hJ2.out⟩
    · obtain rfl : k = n := by omega
      have hkk : ¬ (k : Int) < (k : Int) := by omega
      have hdone : Hid (out = joiF l) := by
        have := hj.out.done
        rw [List.take_of_length_le (by rw [hlen.out]; exact Nat.le_refl _)] at this
        exact this
      clear hj
      go_wp2_with fail
      go_ret
      exact ⟨A2, m, c2, rfl, by rw [← hdone.out]; exact hown.out, hb.out⟩

end Go.Proofs.YtcdhgabcajehnaaGreatDoor

namespace Go.Proofs.YtcdhgabcajehnaaGreatDoor
open Go.ChangeShapes Go.WideShapes Go.ChangeAt Go.RowKit
set_option linter.unusedVariables false
set_option linter.unusedSimpArgs false

theorem edLess_iff (a b : Ed) : edLess a b = true ↔ a.1 < b.1 ∨ (a.1 = b.1 ∧ (a.2.1 < b.2.1 ∨ (a.2.1 = b.2.1 ∧ a.2.2 < b.2.2))) := by
  unfold edLess
  by_cases h1 : a.1 = b.1
  · by_cases h2 : a.2.1 = b.2.1
    · simp [h1, h2]
    · simp [h1, h2]
  · simp [h1]
theorem edLess_irr (a : Ed) : edLess a a = false := Bool.eq_false_iff.2 fun h => by rw [edLess_iff] at h; omega
theorem edLess_trans {a b c : Ed} (h : edLess a b = true) (g : edLess b c = true) : edLess a c = true := by
  rw [edLess_iff] at h g ⊢; omega
theorem edLess_total {a b : Ed} (h : a ≠ b) : edLess a b = true ∨ edLess b a = true := by
  rw [edLess_iff, edLess_iff]
  by_cases h1 : a.1 = b.1
  · by_cases h2 : a.2.1 = b.2.1
    · by_cases h3 : a.2.2 = b.2.2
      · exact absurd (Prod.ext h1 (Prod.ext h2 h3)) h
      · omega
    · omega
  · omega
/-- Strictly rising. -/
def RisE (l : List Ed) : Prop := l.Pairwise fun x y => edLess x y = true
/-- A list that has got one edge more. -/
def PutO (l : List Ed) (e : Ed) (l' : List Ed) : Prop := RisE l' ∧ (∀ x, x ∈ l' ↔ x = e ∨ x ∈ l) ∧ l'.length ≤ l.length + 1
theorem PutO.old {l : List Ed} {e : Ed} (h : RisE l) (he : e ∈ l) : PutO l e l := ⟨h, fun x => ⟨.inr, fun g => by rcases g with rfl | g; exact he; exact g⟩, by omega⟩
theorem PutO.new {l : List Ed} {e : Ed} (h : RisE l) {k : Nat} (hlo : k = 0 ∨ ∃ y, l[k - 1]? = some y ∧ edLess y e = true) (hhi : ∀ j x, k ≤ j → l[j]? = some x → edLess e x = true) : PutO l e (l.take k ++ e :: l.drop k) := by
  have hlow : ∀ x ∈ l.take k, edLess x e = true := fun x hx => by
    obtain ⟨j, hj⟩ := List.getElem?_of_mem hx
    rw [List.getElem?_take] at hj
    split at hj
    · rename_i hjk
      rcases hlo with rfl | ⟨y, hy, hye⟩
      · omega
      · by_cases e1 : j = k - 1
        · subst e1
          rw [hy] at hj
          injection hj with hj
          rw [← hj]; exact hye
        · have hj2 := (List.getElem?_eq_some_iff.1 hj)
          have hy2 := (List.getElem?_eq_some_iff.1 hy)
          have := List.pairwise_iff_getElem.1 h j (k - 1) hj2.1 hy2.1 (by omega)
          rw [hj2.2, hy2.2] at this
          exact edLess_trans this hye
    · cases hj
  have hhigh : ∀ x ∈ l.drop k, edLess e x = true := fun x hx => by
    obtain ⟨j, hj⟩ := List.getElem?_of_mem hx
    rw [List.getElem?_drop] at hj
    exact hhi (k + j) x (by omega) hj
  have hsplit : ∀ x, x ∈ l ↔ x ∈ l.take k ∨ x ∈ l.drop k := fun x => by rw [← List.mem_append, List.take_append_drop]
  refine ⟨?_, fun x => ?_, by simp only [List.length_append, List.length_cons, List.length_take, List.length_drop]; omega⟩
  · have hl : (l.take k ++ l.drop k).Pairwise fun x y => edLess x y = true := by rw [List.take_append_drop]; exact h
    obtain ⟨p1, p2, p3⟩ := List.pairwise_append.1 hl
    refine List.pairwise_append.2 ⟨p1, List.pairwise_cons.2 ⟨hhigh, p2⟩, fun a ha b hb => ?_⟩
    rcases List.mem_cons.1 hb with rfl | hb
    · exact hlow a ha
    · exact p3 a ha b hb
  · rw [List.mem_append, List.mem_cons, hsplit]
    constructor
    · rintro (g | g | g)
      · exact .inr (.inl g)
      · exact .inl g
      · exact .inr (.inr g)
    · rintro (g | g | g)
      · exact .inr (.inl g)
      · exact .inl g
      · exact .inr (.inr g)
section
variable {α : Type} {out : List α} {i : Nat} {z x : α}
theorem shiftG_set (hx : out[i]? = some x) : (out.take (i + 1) ++ z :: out.drop (i + 1)).set (i + 1) x = out.take i ++ x :: out.drop i := by
  obtain ⟨hi, hxe⟩ := List.getElem?_eq_some_iff.1 hx
  have h1 : out.drop i = x :: out.drop (i + 1) := by rw [List.drop_eq_getElem_cons hi, hxe]
  rw [List.set_append_right _ _ (by rw [List.length_take]; omega), List.length_take, Nat.min_eq_left (by omega), Nat.sub_self, List.set_cons_zero, List.take_add_one, hx, h1]
  simp
theorem shiftG_end (hi : i ≤ out.length) : (out.take i ++ z :: out.drop i).set i x = out.take i ++ x :: out.drop i := by
  rw [List.set_append_right _ _ (by rw [List.length_take]; omega), List.length_take, Nat.min_eq_left (by omega), Nat.sub_self, List.set_cons_zero]
theorem shiftG_get (hx : out[i]? = some x) : (out.take (i + 1) ++ z :: out.drop (i + 1))[i]? = some x := by
  obtain ⟨hi, hxe⟩ := List.getElem?_eq_some_iff.1 hx
  rw [List.getElem?_append_left (by rw [List.length_take]; omega), List.getElem?_take, if_pos (by omega), hx]
end
theorem ev_set : ∀ (l : List Ed) (k : Nat) (x y z : Int), (((l.flatMap ev).set (k * 3) (.int .i64 x)).set (k * 3 + 1) (.int .i64 y)).set (k * 3 + 2) (.int .i64 z) = (l.set k (x, y, z)).flatMap ev
  | [], _, _, _, _ => rfl
  | a :: l, 0, x, y, z => by simp [ev]
  | a :: l, k + 1, x, y, z => by
    have e0 : (k + 1) * 3 = k * 3 + 1 + 1 + 1 := by omega
    have e1 : (k + 1) * 3 + 1 = k * 3 + 1 + 1 + 1 + 1 := by omega
    have e2 : (k + 1) * 3 + 2 = k * 3 + 2 + 1 + 1 + 1 := by omega
    have ih := ev_set l k x y z
    rw [List.set_cons_succ, List.flatMap_cons, List.flatMap_cons, ← ih]
    unfold ev
    rw [e2, e1, e0]
    rfl
theorem Own.setE {w : World} {base g n c : Nat} {e : TypeId} {l : List Ed} (h : Own 3 ev w base e (some ⟨g, 0, none⟩) n c l) (k : Nat) (x y z : Int) :
    Own 3 ev (((w.setCell ⟨g, k * 3, none⟩ (.int .i64 x)).setCell ⟨g, k * 3 + 1, none⟩ (.int .i64 y)).setCell ⟨g, k * 3 + 2, none⟩ (.int .i64 z)) base e (some ⟨g, 0, none⟩) n c (l.set k (x, y, z)) := by
  rcases h.2.2 with ⟨hv, -⟩ | ⟨g', cap, cur, hv, hb, hg, hnc, hcm, hcs, htake⟩
  · cases hv
  · cases hv
    have h1 := heap_setCell_same w g (k * 3) cur _ (.int .i64 x) hg
    have h2 := heap_setCell_same _ g (k * 3 + 1) _ _ (.int .i64 y) h1
    have h3 := heap_setCell_same _ g (k * 3 + 2) _ _ (.int .i64 z) h2
    refine ⟨by rw [List.length_set]; exact h.1, by rw [flat_length flat_ev, List.length_set]; have := h.1; omega, .inr ⟨g, c, _, rfl, hb, h3, hnc, hcm, by simpa using hcs, ?_⟩⟩
    rw [Array.toList_setIfInBounds, Array.toList_setIfInBounds, Array.toList_setIfInBounds, List.take_set, List.take_set, List.take_set, htake]
    exact ev_set l k x y z
theorem Own.neE {w : World} {base e n c : Nat} {A : Option Addr} {l : List Ed} (h : Own 3 ev w base e A n c l) (hn : 0 < n) : ∃ g, A = some ⟨g, 0, none⟩ ∧ base ≤ g := by
  rcases h.2.2 with ⟨-, hv⟩ | ⟨g, cap, cur, hv, hb, -⟩
  · omega
  · cases hv
    exact ⟨g, rfl, hb⟩

end Go.Proofs.YtcdhgabcajehnaaGreatDoor
