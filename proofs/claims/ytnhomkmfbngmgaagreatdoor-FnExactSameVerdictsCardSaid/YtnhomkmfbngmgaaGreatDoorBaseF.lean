/-
  Several texts in one:
  The program's test of monitors. Conditions: sizes.
  Monitors as arguments of a law: words, sizes, copying, comparing. Conditions: sizes.
  Lists of numbers as arguments: words. Conditions: none.
  What a monitor's states say and lead to: plain. Conditions: none.
  The source of choices: a cell with the bytes, how far they are read, and a number that goes on behind them. Conditions: fewer than 10^9 choices are drawn.
  What drawing leaves, one of a list, and the source made from bytes: words for all drawing functions. Conditions: fewer than 10^9 choices.
  Literals as lists of the call's own, cells set in them, and append at a step of a region that draws its order. Conditions: sizes.
  Finding a text in a list, the ends of edges with a label, and whether lists of texts are the same, by the reference. Conditions: sizes.
  The shelf's contracts on strings and numbers at this seat's program, in plain words (printed by wip/shelf.py with the kit's lay-shelf and lay-plain). Conditions: sizes.
  The shelf's contract of SortFunc at []string, in plain words (printed by wip/shelf5.py with the kit's lay-plain). Conditions: sizes.
  What internal edges reach from some states: plain. Conditions: none.
  Rounds of simulations: plain. Conditions: none.
  The order of labels, and what sorting and compacting them gives: plain. Conditions: none.
-/
import Derived.Test.YtnhomkmfbngmgaaGreatDoorBaseA
import Derived.Test.YtnhomkmfbngmgaaGreatDoorBaseB
import Derived.Test.YtnhomkmfbngmgaaGreatDoorBaseC
import Derived.Test.YtnhomkmfbngmgaaGreatDoorBaseD
import Derived.Test.YtnhomkmfbngmgaaGreatDoorBaseE
import Derived.Test.YtnhomkmfbngmgaaGreatDoorChecked
import Derived.StillTailTactics
import Derived.Deep.QuietTactic
import Derived.BigQuiet
import Derived.Deep.CutBlock
import Derived.Deep.DeepCutAuto
import Derived.Deep.RegionLaw
import Derived.Deep.LoopGhost
import Derived.Shelf.Strings.Builder1
import Derived.Shelf.Strings.Builder2
import Derived.Shelf.Strings.OnBuilder
import Derived.Shelf.Small.Bits
import Derived.Shelf.Small.Strs
import Derived.Shelf.Strings.BuilderF
import Derived.Shelf.Strings.BuilderK
import Derived.Shelf.Utf8.RuneCount
import Derived.Shelf.Strings.Builder2Cap
import Derived.Shelf.Strconv.Itoa0
import Derived.Shelf.Strconv.Itoa1
import Derived.Shelf.LaysM
import Derived.Shelf.Strconv.Itoa2
import Derived.Shelf.Strconv.Itoa3
import Derived.Shelf.Strconv.Itoa4
import Derived.Shelf.Strconv.ParseIntEmpty
import Derived.Shelf.Strconv.Clone
import Derived.Shelf.Strconv.SyntaxError
import Derived.Shelf.LaysC
import Derived.Shelf.Strconv.ToError
import Derived.Shelf.Strconv.Lower
import Derived.Shelf.Strconv.ParseUint10
import Derived.Shelf.Strconv.ParseUint10Empty
import Derived.Shelf.Strconv.ParseUint10Any
import Derived.Shelf.Strconv.ParseInt10
import Derived.Shelf.Strconv.RangeError
import Derived.Shelf.Strconv.ToErrorRange
import Derived.Shelf.Strconv.ParseUintEmpty
import Derived.Shelf.Strconv.ParseUint10b64
import Derived.Shelf.Strconv.ParseUint10b32
import Derived.Shelf.Strconv.ParseUint10b16
import Derived.Shelf.Strconv.ParseUint10b8
import Derived.Shelf.Strconv.ParseUint10At
import Derived.Shelf.Strconv.ParseInt10At64
import Derived.Shelf.Strconv.ParseInt10At32
import Derived.Shelf.Strconv.ParseInt10At16
import Derived.Shelf.Strconv.ParseInt10At8
import Derived.Shelf.Strconv.ParseInt10All
import Derived.Shelf.Strconv.ParseIntPublic10
import Derived.Shelf.Strconv.ErrVarParseInt
import Derived.Shelf.Strings.Search1
import Derived.Shelf.Strings.Search2
import Derived.Shelf.Strings.Search3
import Derived.Shelf.Strings.Cut
import Derived.Shelf.Strings.Count
import Derived.Shelf.Strings.Shaped
import Derived.Shelf.Strings.Prefix
import Derived.Shelf.Strings.Split
import Derived.Shelf.Strings.SplitShaped
import Derived.Shelf.Unicode.Decode
import Derived.Shelf.Strings.RuneCount
import Derived.Shelf.Strings.Explode
import Derived.Shelf.Bits.Mul64
import Derived.Shelf.Unicode.DecodeSlow
import Derived.Shelf.Unicode.DecodeAny
import Derived.Shelf.Strings.BuilderCap
import Derived.Shelf.Slices.Turned
import Derived.Shelf.Slices.Equal
import Derived.Ground.Names2Prog
import Derived.Shelf.Slices.Clone
import Derived.Shelf.Slices.CompactS
import Derived.Shelf.Slices.Cells
import Derived.Shelf.Slices.Empties2
import Derived.Ground.SlgnProg
import Derived.Shelf.SlicesG.Turned
import Derived.Shelf.SlicesG.Clone
import Derived.Shelf.SlicesG.CompactI
import Derived.Shelf.SlicesG.SearchI
import Derived.Shelf.SlicesG.Cells
import Derived.Shelf.SlicesE.Clone
import Derived.Ground.SlgcProg
import Derived.Shelf.SlicesG.Cmp
import Derived.Ground.SlsfProg
import Derived.Shelf.SlSortCmp.Insertion
import Derived.Ground.SlgmProg
import Derived.Shelf.SortM.Plain
import Derived.Shelf.SortM.SortNone
import Derived.Shelf.SlSortCmp.SiftDown1
import Derived.Shelf.SlSortCmp.HeapSort1
import Derived.Shelf.SlSortCmp.Insertion1
import Derived.Shelf.SlSortCmp.Median1
import Derived.Shelf.SlSortCmp.Pivot1
import Derived.Shelf.SlSortCmp.ReverseRange1
import Derived.Shelf.SlSortCmp.PartialInsertion1
import Derived.Shelf.SlSortCmp.PartitionEqual1
import Derived.Shelf.SlSortCmp.Partition1
import Derived.Shelf.SlSortCmp.Pdq1
import Derived.Shelf.SlSortCmp.Whole1
import Derived.Test.YtnhomkmfbngmgaaGreatDoorProg
import Derived.Shelf.SlSortCmp.NoneTotal
import Derived.Sort.EncStr
import Derived.Shelf.SlGeneric
set_option linter.unusedSimpArgs false
set_option linter.unusedVariables false
namespace Go.Proofs.YtnhomkmfbngmgaaGreatDoor
open Go.ChangeShapes Go.WideShapes Go.ChangeAt Go.RowKit Go.Sort
set_option linter.unusedVariables false

def vAt (vs : List Int) (e : Ed) : Bool := vs.getD e.1.toNat 0 != 0
theorem mon_eq {st ini : Int} {ls : List ByteArray} {es : List Ed} {vs : List Int} (hl : ltsV (st, ini, ls, es) = true) (hn : (vs.length : Int) = st) :
    allK (okVd es vs) vs.length = (!(vs.any fun v => !(inB v 0 2)) && !(es.any (vAt vs))) := by
  rw [ltsV_eq, Bool.and_eq_true] at hl
  have hE : ∀ e ∈ es, 0 ≤ e.1 ∧ e.1 < st := fun e he => by
    obtain ⟨j, hj⟩ := List.getElem?_of_mem he
    have h1 := allK_get hl.2 (List.getElem?_eq_some_iff.1 hj).1
    unfold okEd at h1
    rw [hj] at h1
    simp only [Bool.and_eq_true] at h1
    have h2 := inB_true.1 h1.1.1.1
    omega
  rw [Bool.eq_iff_iff]
  constructor
  · intro h
    rw [Bool.and_eq_true]
    constructor
    · rw [Bool.not_eq_true', ← Bool.not_eq_true, List.any_eq_true]
      rintro ⟨v, hv, hb⟩
      obtain ⟨j, hj⟩ := List.getElem?_of_mem hv
      have h1 := allK_get h (List.getElem?_eq_some_iff.1 hj).1
      rw [okVd_at hj, Bool.and_eq_true] at h1
      rw [h1.1] at hb
      cases hb
    · rw [Bool.not_eq_true', ← Bool.not_eq_true, List.any_eq_true]
      rintro ⟨e, he, hb⟩
      obtain ⟨h0, h1⟩ := hE e he
      have hj : e.1.toNat < vs.length := by omega
      have hx : vs[e.1.toNat]? = some (vs[e.1.toNat]) := List.getElem?_eq_getElem hj
      have h2 := allK_get h hj
      rw [okVd_at hx, Bool.and_eq_true, Bool.or_eq_true] at h2
      unfold vAt at hb
      rw [List.getD_eq_getElem?_getD, hx] at hb
      rcases h2.2 with h3 | h3
      · rw [decide_eq_true_eq] at h3
        rw [h3] at hb
        cases hb
      · have h4 := List.isEmpty_iff.1 h3
        have h5 : e ∈ outE es ((e.1.toNat : Nat) : Int) := by
          unfold outE
          rw [List.mem_filter]
          exact ⟨he, by rw [decide_eq_true_eq]; omega⟩
        rw [h4] at h5
        cases h5
  · intro h
    rw [Bool.and_eq_true, Bool.not_eq_true', Bool.not_eq_true'] at h
    refine allK_good fun j hj => ?_
    have hx : vs[j]? = some (vs[j]) := List.getElem?_eq_getElem hj
    rw [okVd_at hx, Bool.and_eq_true, Bool.or_eq_true]
    constructor
    · have h1 := h.1
      rw [← Bool.not_eq_true, List.any_eq_true] at h1
      cases hb : inB vs[j] 0 2 with
      | true => rfl
      | false => exact absurd ⟨vs[j], List.getElem_mem hj, by rw [hb]; rfl⟩ h1
    · by_cases hv : vs[j] = 0
      · exact .inl (decide_eq_true hv)
      · right
        rw [List.isEmpty_iff]
        unfold outE
        rw [List.filter_eq_nil_iff]
        intro e he hc
        rw [decide_eq_true_eq] at hc
        have h2 := h.2
        rw [← Bool.not_eq_true, List.any_eq_true] at h2
        refine h2 ⟨e, he, ?_⟩
        unfold vAt
        rw [List.getD_eq_getElem?_getD, hc, Int.toNat_natCast, hx]
        simpa using hv

set_option maxRecDepth 100000 in
theorem mon1_calls (v : Int) (w : World) : Calls Tryz.prog 152 #[.int .i64 v] w (Says (!(inB v 0 2)) w) := by
  have q := hide (within_calls v 0 2 w)
  go_enter Tryz.func152, Tryz.ntmps152
  go_wp2_with fail
  refine q.out.mono ?_
  rintro e w1 ⟨rfl, rfl⟩
  go_wp2_with fail
  go_ret
  exact ⟨rfl, Below.refl _ _⟩

set_option maxRecDepth 100000 in
theorem mon2_calls (f lb tg : Int) (bm : Nat) (A4 : Option Addr) (n4 k4 : Nat) (vs : List Int) (W : World) (lo hi : Nat) (hc4 : W.cell? ⟨bm, 4, none⟩ = some (.slice A4 n4 k4)) (hbm : bm < W.heap.size) (t4 : SlI W lo hi A4 n4 vs) (hn4 : n4 ≤ 1048576) (hf0 : 0 ≤ f) (hf1 : f < (n4 : Int)) :
    Calls Tryz.prog 154 (#[.agg #[.int .i64 f, .int .i64 lb, .int .i64 tg]] ++ #[.pointer (some ⟨bm, 0, none⟩)]) W (Says (vAt vs (f, lb, tg)) W) := by
  have hb0 : Below W.heap.size W (W.alloc (.cells #[.int .i64 f, .int .i64 lb, .int .i64 tg] 84)) := (Below.refl _ _).alloc (Nat.le_refl _) _
  obtain ⟨k, rfl⟩ : ∃ k : Nat, f = (k : Int) := ⟨f.toNat, by omega⟩
  obtain ⟨b, off, v, rfl, g1, g2, g3, hx, p0, -⟩ := SlI.get t4 (show k < n4 by omega)
  have c4 := (hb0.cell (p := ⟨bm, 4, none⟩) hbm).trans hc4
  have p1 := (hb0.cell (p := ⟨b, off + k, none⟩) g3).trans p0
  have hv : Hid (vAt vs ((k : Int), lb, tg) = (v != 0)) := by
    show _ = _
    unfold vAt
    rw [List.getD_eq_getElem?_getD]
    simp only [Int.toNat_natCast]
    rw [hx]
    rfl
  replace hb0 := hide hb0
  clear t4 hx p0 hc4
  show Calls _ _ #[.agg #[.int .i64 (k : Int), .int .i64 lb, .int .i64 tg], .pointer (some ⟨bm, 0, none⟩)] W _
  by_cases h0 : v = 0
  · subst h0
    go_enter Tryz.func154, Tryz.ntmps154
    go_wp2_with fail
    go_ret
    exact ⟨ret_b (by rw [hv.out]; rfl), hb0.out⟩
  · have hvb : (v != 0) = true := by rw [bne_iff_ne]; exact h0
    have hvb2 : (v == 0) = false := by rw [beq_eq_false_iff_ne]; exact h0
    go_enter Tryz.func154, Tryz.ntmps154
    go_wp2_with fail
    go_ret
    exact ⟨ret_b (by rw [hv.out, hvb]), hb0.out⟩

set_option maxRecDepth 100000 in
set_option maxHeartbeats 1600000 in
theorem mon_calls (x : CL) (A4 : Option Addr) (n4 k4 : Nat) (d : DL) (vs : List Int) (w : World) (lo hi : Nat) (h : ReadL w lo hi x d) (t4 : SlI w lo hi A4 n4 vs) (hn4 : n4 ≤ 1048576) (htot : totL d ≤ 1048576) (he : Env w) :
    Calls Tryz.prog 71 #[.agg #[.int .i64 x.1, .int .i64 x.2.1, x.2.2.1, x.2.2.2, .slice A4 n4 k4]] w fun e w' => e = .returned (.bool (monV (d, vs))) ∧ Below w.heap.size w w' := by
  have hW0b : Below w.heap.size w (w.alloc (.cells #[.int .i64 x.1, .int .i64 x.2.1, x.2.2.1, x.2.2.2, .slice A4 n4 k4] 52)) := (Below.refl _ _).alloc (Nat.le_refl _) _
  have qv := isDet_calls x d _ lo hi (h.below hW0b (.inr (Nat.le_refl _))) htot (he.below hW0b (Nat.le_refl _))
  have tW := t4.below hW0b (.inr (Nat.le_refl _))
  have l4 := t4.len
  have hval : monV (d, vs) = (detV d && (decide ((n4 : Int) = d.1) && allK (okVd d.2.2.2 vs) n4)) := by rw [← l4]; rfl
  obtain ⟨s0, s1, v2, v3⟩ := x
  obtain ⟨st, ini, ls, es⟩ := d
  obtain ⟨e0, e1, ⟨A2, n2, k2, e2, hn2, hs2, t2⟩, ⟨A3, n3, k3, e3, hn3, t3⟩⟩ := h
  dsimp only at *
  subst e0 e1 e2 e3
  have hes : n3 ≤ 1048576 := by rw [← t3.len]; exact Nat.le_trans (totL_edg (s0, s1, ls, es)) htot
  have tE := t3.below hW0b (.inr (Nat.le_refl _))
  have hW0 := hide hW0b
  have kE := heap_alloc_new w (.cells #[.int .i64 s0, .int .i64 s1, .slice A2 n2 k2, .slice A3 n3 k3, .slice A4 n4 k4] 52)
  have hbt : w.heap.size < (w.alloc (.cells #[.int .i64 s0, .int .i64 s1, .slice A2 n2 k2, .slice A3 n3 k3, .slice A4 n4 k4] 52)).heap.size := by rw [World.size_alloc]; omega
  replace l4 := hide l4
  replace tW := hide tW
  replace tE := hide tE
  clear htot hs2 hn2 hn3 he t2 t3 t4 hW0b
  go_enter Tryz.func71, Tryz.ntmps71
  go_upto_region 1 with fail
  have c0 : (w.alloc (.cells #[.int .i64 s0, .int .i64 s1, .slice A2 n2 k2, .slice A3 n3 k3, .slice A4 n4 k4] 52)).cell? ⟨w.heap.size, 0, none⟩ = some (.int .i64 s0) := (cell_of_row _ _ 0 _ _ (0, 0) kE).trans rfl
  have c1 : (w.alloc (.cells #[.int .i64 s0, .int .i64 s1, .slice A2 n2 k2, .slice A3 n3 k3, .slice A4 n4 k4] 52)).cell? ⟨w.heap.size, 1, none⟩ = some (.int .i64 s1) := (cell_of_row _ _ 1 _ _ (0, 0) kE).trans rfl
  have c2 : (w.alloc (.cells #[.int .i64 s0, .int .i64 s1, .slice A2 n2 k2, .slice A3 n3 k3, .slice A4 n4 k4] 52)).cell? ⟨w.heap.size, 2, none⟩ = some (.slice A2 n2 k2) := (cell_of_row _ _ 2 _ _ (0, 0) kE).trans rfl
  have c3 : (w.alloc (.cells #[.int .i64 s0, .int .i64 s1, .slice A2 n2 k2, .slice A3 n3 k3, .slice A4 n4 k4] 52)).cell? ⟨w.heap.size, 3, none⟩ = some (.slice A3 n3 k3) := (cell_of_row _ _ 3 _ _ (0, 0) kE).trans rfl
  have c4 : (w.alloc (.cells #[.int .i64 s0, .int .i64 s1, .slice A2 n2 k2, .slice A3 n3 k3, .slice A4 n4 k4] 52)).cell? ⟨w.heap.size, 4, none⟩ = some (.slice A4 n4 k4) := (cell_of_row _ _ 4 _ _ (0, 0) kE).trans rfl
  clear kE
  generalize hWW : (w.alloc (.cells #[.int .i64 s0, .int .i64 s1, .slice A2 n2 k2, .slice A3 n3 k3, .slice A4 n4 k4] 52)) = W0 at *
  clear hWW
  cases hl : detV (s0, s1, ls, es) with
  | false =>
    rw [hl] at qv hval
    have hv : Hid (monV ((s0, s1, ls, es), vs) = false) := hval
    replace qv := hide qv
    clear hl hval tW tE
    go_wp2_with fail
    refine qv.out.mono ?_
    rintro e w1 ⟨rfl, hb1⟩
    replace hb1 := hide hb1
    go_wp2_with fail
    go_ret
    exact ⟨ret_b (by rw [hv.out]), hW0.out.trans (hb1.out.mono (Nat.le_of_lt hbt))⟩
  | true =>
  rw [hl] at qv hval
  replace qv := hide qv
  have hlv : ltsV (s0, s1, ls, es) = true := by
    unfold detV at hl
    rw [Bool.and_eq_true] at hl
    exact hl.1
  clear hl
  by_cases hst : (n4 : Int) = s0
  case neg =>
    rw [decide_eq_false hst] at hval
    have hv : Hid (monV ((s0, s1, ls, es), vs) = false) := hval
    have hsb : ((n4 : Int) != s0) = true := by rw [bne_iff_ne]; exact hst
    have hsb2 : ((n4 : Int) == s0) = false := by rw [beq_eq_false_iff_ne]; exact hst
    clear hlv hval tW tE hst
    go_wp2_with fail
    refine qv.out.mono ?_
    rintro e w1 ⟨rfl, hb1⟩
    have a0 := (hb1.cell (p := ⟨w.heap.size, 0, none⟩) hbt).trans c0
    have a4 := (hb1.cell (p := ⟨w.heap.size, 4, none⟩) hbt).trans c4
    replace hb1 := hide hb1
    go_wp2_with fail
    go_ret
    exact ⟨ret_b (by rw [hv.out]), hW0.out.trans (hb1.out.mono (Nat.le_of_lt hbt))⟩
  rw [decide_eq_true hst] at hval
  have hmq := mon_eq (vs := vs) hlv (by rw [l4.out]; exact hst)
  rw [l4.out] at hmq
  rw [hmq, Bool.true_and, Bool.true_and] at hval
  have hE : ∀ f lb tg : Int, (f, lb, tg) ∈ es → 0 ≤ f ∧ f < (n4 : Int) := fun f lb tg hm => by
    rw [ltsV_eq, Bool.and_eq_true] at hlv
    obtain ⟨j, hj⟩ := List.getElem?_of_mem hm
    have h1 := allK_get hlv.2 (List.getElem?_eq_some_iff.1 hj).1
    unfold okEd at h1
    rw [hj] at h1
    simp only [Bool.and_eq_true] at h1
    have h2 := inB_true.1 h1.1.1.1
    omega
  subst hst
  clear hlv hmq
  have q1 := fun (W : World) (hW : Below W0.heap.size W0 W) => containsFuncI_calls 152 #[] (fun v => !(inB v 0 2)) A4 n4 k4 vs W lo hi (tW.out.below hW (.inr (Nat.le_refl _))) hn4 (fun v W => by kernel_rfl) (fun v W _ => mon1_calls v W)
  have q2 := fun (W : World) (hW : Below W0.heap.size W0 W) => containsFuncEd_calls 154 #[.pointer (some ⟨w.heap.size, 0, none⟩)] (vAt vs) A3 n3 k3 es W lo hi (tE.out.below hW (.inr (Nat.le_refl _))) hes (fun v W => by kernel_rfl)
    (fun f lb tg W' hm hW' => mon2_calls f lb tg w.heap.size A4 n4 k4 vs W' lo hi (((hW.trans (hW'.mono hW.size)).cell (p := ⟨w.heap.size, 4, none⟩) hbt).trans c4) (Nat.lt_of_lt_of_le hbt (hW.trans (hW'.mono hW.size)).size) (tW.out.below (hW.trans (hW'.mono hW.size)) (.inr (Nat.le_refl _))) hn4 (hE f lb tg hm).1 (hE f lb tg hm).2)
  replace hE := hide hE
  replace tW := hide tW
  replace tE := hide tE
  cases hany : (vs.any fun v => !(inB v 0 2)) with
  | true =>
    rw [hany] at hval
    simp only [hany] at q1
    have hv : Hid (monV (((n4 : Int), s1, ls, es), vs) = false) := hval
    replace q1 := hide q1
    clear q2 hval hany
    go_wp2_with fail
    refine qv.out.mono ?_
    rintro e w1 ⟨rfl, hb1⟩
    have a0 := (hb1.cell (p := ⟨w.heap.size, 0, none⟩) hbt).trans c0
    have a4 := (hb1.cell (p := ⟨w.heap.size, 4, none⟩) hbt).trans c4
    replace hb1 := hide hb1
    go_wp2_with fail
    refine (q1.out _ hb1.out).mono ?_
    rintro e w2 ⟨rfl, hb2⟩
    replace hb2 := hide hb2
    go_wp2_with fail
    go_ret
    exact ⟨ret_b (by rw [hv.out]), hW0.out.trans ((hb1.out.trans (hb2.out.mono hb1.out.size)).mono (Nat.le_of_lt hbt))⟩
  | false =>
    rw [hany] at hval
    simp only [hany] at q1
    have hv : Hid (monV (((n4 : Int), s1, ls, es), vs) = !(es.any (vAt vs))) := hval
    replace q1 := hide q1
    replace q2 := hide q2
    clear hval hany
    generalize (es.any (vAt vs)) = bb at *
    go_wp2_with fail
    refine qv.out.mono ?_
    rintro e w1 ⟨rfl, hb1⟩
    have a0 := (hb1.cell (p := ⟨w.heap.size, 0, none⟩) hbt).trans c0
    have a4 := (hb1.cell (p := ⟨w.heap.size, 4, none⟩) hbt).trans c4
    replace hb1 := hide hb1
    go_wp2_with fail
    refine (q1.out _ hb1.out).mono ?_
    rintro e w2 ⟨rfl, hb2⟩
    have hb12 := hide (hb1.out.trans (hb2.mono hb1.out.size))
    have d3 := (hb12.out.cell (p := ⟨w.heap.size, 3, none⟩) hbt).trans c3
    clear hb2
    go_wp2_with fail
    refine (q2.out _ hb12.out).mono ?_
    rintro e w3 ⟨rfl, hb3⟩
    replace hb3 := hide hb3
    go_wp2_with fail
    go_ret
    exact ⟨ret_b (by rw [hv.out]), hW0.out.trans ((hb12.out.trans (hb3.out.mono hb12.out.size)).mono (Nat.le_of_lt hbt))⟩

end Go.Proofs.YtnhomkmfbngmgaaGreatDoor

namespace Go.Proofs.YtnhomkmfbngmgaaGreatDoor
open Go.ChangeShapes Go.WideShapes Go.ChangeAt Go.RowKit Go.Deep
set_option linter.unusedVariables false

theorem szInt64S_b {v : Value} {d : List Int} {left : Int} {w : World} {lo hi : Nat} (h : ArgI w lo hi v d) (h0 : 0 ≤ left) (h1 : left ≤ 1048576) :
    Calls Tryz.prog 66 #[v, .int .i64 left] w fun e w' => e = .returned (.int .i64 (szLeft left d.length)) ∧ Below w.heap.size w w' := by
  obtain ⟨A, n, c, rfl, h2, h3⟩ := h
  have hl := h3.len
  rw [hl]
  exact (szInt64S_calls A n c left w h2 h0 h1).mono fun e w' ⟨a, b⟩ => ⟨a, b ▸ Below.refl _ _⟩
abbrev DM := DL × List Int
instance decDM : DecidableEq DM := inferInstanceAs (DecidableEq (DL × List Int))
def ArgM (w : World) (lo hi : Nat) (v : Value) (d : DM) : Prop := ∃ (x : CL) (v4 : Value), v = .agg #[.int .i64 x.1, .int .i64 x.2.1, x.2.2.1, x.2.2.2, v4] ∧ ReadL w lo hi x d.1 ∧ ArgI w lo hi v4 d.2
def totM (d : DM) : Nat := totL d.1 + d.2.length
def FreshM (w : World) (lo hi : Nat) (v : Value) (d : DM) : Prop := ArgM w lo hi v d ∧ totM d ≤ 1048576
section
variable {w w' : World} {lo hi lo' hi' B : Nat} {v : Value} {d : DM}
theorem ArgM.below (h : ArgM w lo hi v d) (hb : Below B w w') (hB : hi ≤ B ∨ w.heap.size ≤ B) : ArgM w' lo hi v d := by
  obtain ⟨x, v4, e, h1, a0⟩ := h
  exact ⟨x, v4, e, h1.below hb hB, a0.below hb hB⟩
theorem FreshM.below (h : FreshM w lo hi v d) (hb : Below B w w') (hB : hi ≤ B ∨ w.heap.size ≤ B) : FreshM w' lo hi v d := ⟨h.1.below hb hB, h.2⟩
end

set_option maxHeartbeats 1600000 in
set_option maxRecDepth 100000 in
theorem szMonitor_u {v : Value} {d : DM} {left : Int} {w : World} {lo hi : Nat} (h : ArgM w lo hi v d) (h0 : 0 ≤ left) (h1 : left ≤ 1048576) :
    Calls Tryz.prog 20 #[v, .int .i64 left] w fun e w' => e = .returned (.int .i64 (szLeft left (totM d))) ∧ Below w.heap.size w w' := by
  obtain ⟨⟨s0, s1, v2, v3⟩, v4, rfl, hL, a0⟩ := h
  dsimp only at *
  have hb0 : Below w.heap.size w (w.alloc (.cells #[.int .i64 s0, .int .i64 s1, v2, v3, v4] 47)) := (Below.refl _ _).alloc (Nat.le_refl _) _
  have k0 := heap_alloc_new w (.cells #[.int .i64 s0, .int .i64 s1, v2, v3, v4] 47)
  have hz : w.heap.size < (w.alloc (.cells #[.int .i64 s0, .int .i64 s1, v2, v3, v4] 47)).heap.size := by rw [World.size_alloc]; omega
  have qL := szLts_b (left := left) (hL.below hb0 (.inr (Nat.le_refl _))) h0 h1
  dsimp only at qL
  have q0 := fun (L : Int) (hL0 : 0 ≤ L) (hL1 : L ≤ 1048576) (W : World) (hW : Below w.heap.size w W) => szInt64S_b (left := L) (a0.below hW (.inr (Nat.le_refl _))) hL0 hL1
  clear a0 hL
  have ht : Hid (totM d = totL d.1 + d.2.length) := rfl
  generalize totL d.1 = T0 at *
  generalize d.2.length = T1 at *
  generalize totM d = TT at *
  by_cases b0 : left < (T0 : Int)
  · rw [szLeft_big b0] at qL
    replace qL := hide qL
    have hv : Hid (szLeft left TT = -1) := by show _ = _; exact szLeft_big (by rw [ht.out]; omega)
    clear q0 b0 ht
    go_enter Tryz.func20, Tryz.ntmps20
    go_wp2_with fail
    refine qL.out.mono ?_
    rintro e w1 ⟨rfl, hb1⟩
    replace k0 := (hb1.block _ hz).trans k0
    replace hb0 := hb0.trans (hb1.mono hb0.size)
    replace hz := Nat.lt_of_lt_of_le hz hb1.size
    clear hb1
    have c0 : w1.cell? ⟨w.heap.size, 0, none⟩ = some (.int .i64 s0) := (cell_of_row _ _ 0 _ _ (0, 0) k0).trans rfl
    have c1 : w1.cell? ⟨w.heap.size, 1, none⟩ = some (.int .i64 s1) := (cell_of_row _ _ 1 _ _ (0, 0) k0).trans rfl
    have c2 : w1.cell? ⟨w.heap.size, 2, none⟩ = some (v2) := (cell_of_row _ _ 2 _ _ (0, 0) k0).trans rfl
    have c3 : w1.cell? ⟨w.heap.size, 3, none⟩ = some (v3) := (cell_of_row _ _ 3 _ _ (0, 0) k0).trans rfl
    have c4 : w1.cell? ⟨w.heap.size, 4, none⟩ = some (v4) := (cell_of_row _ _ 4 _ _ (0, 0) k0).trans rfl
    replace hb0 := hide hb0
    clear k0 hz
    go_wp2_with fail
    go_ret
    exact ⟨ret_i hv.out, hb0.out⟩
  rw [szLeft_fits b0] at qL
  replace qL := hide qL
  have r0 : ¬ left - (T0 : Int) < 0 := by omega
  replace q0 := q0 (left - (T0 : Int)) (by omega) (by omega)
  by_cases b1 : left - (T0 : Int) < (T1 : Int)
  · simp only [szLeft_big b1] at q0
    replace q0 := hide q0
    have hv : Hid (szLeft left TT = -1) := by show _ = _; exact szLeft_big (by rw [ht.out]; omega)
    clear ht b0 b1 
    go_enter Tryz.func20, Tryz.ntmps20
    go_wp2_with fail
    refine qL.out.mono ?_
    rintro e w1 ⟨rfl, hb1⟩
    replace k0 := (hb1.block _ hz).trans k0
    replace hb0 := hb0.trans (hb1.mono hb0.size)
    replace hz := Nat.lt_of_lt_of_le hz hb1.size
    clear hb1
    have c0 : w1.cell? ⟨w.heap.size, 0, none⟩ = some (.int .i64 s0) := (cell_of_row _ _ 0 _ _ (0, 0) k0).trans rfl
    have c1 : w1.cell? ⟨w.heap.size, 1, none⟩ = some (.int .i64 s1) := (cell_of_row _ _ 1 _ _ (0, 0) k0).trans rfl
    have c2 : w1.cell? ⟨w.heap.size, 2, none⟩ = some (v2) := (cell_of_row _ _ 2 _ _ (0, 0) k0).trans rfl
    have c3 : w1.cell? ⟨w.heap.size, 3, none⟩ = some (v3) := (cell_of_row _ _ 3 _ _ (0, 0) k0).trans rfl
    have c4 : w1.cell? ⟨w.heap.size, 4, none⟩ = some (v4) := (cell_of_row _ _ 4 _ _ (0, 0) k0).trans rfl
    go_wp2_with fail
    refine (q0.out _ hb0).mono ?_
    rintro e w2 ⟨rfl, hb1⟩
    clear c0 c1 c2 c3 c4
    replace k0 := (hb1.block _ hz).trans k0
    replace hb0 := hb0.trans (hb1.mono hb0.size)
    replace hz := Nat.lt_of_lt_of_le hz hb1.size
    clear hb1
    have c0 : w2.cell? ⟨w.heap.size, 0, none⟩ = some (.int .i64 s0) := (cell_of_row _ _ 0 _ _ (0, 0) k0).trans rfl
    have c1 : w2.cell? ⟨w.heap.size, 1, none⟩ = some (.int .i64 s1) := (cell_of_row _ _ 1 _ _ (0, 0) k0).trans rfl
    have c2 : w2.cell? ⟨w.heap.size, 2, none⟩ = some (v2) := (cell_of_row _ _ 2 _ _ (0, 0) k0).trans rfl
    have c3 : w2.cell? ⟨w.heap.size, 3, none⟩ = some (v3) := (cell_of_row _ _ 3 _ _ (0, 0) k0).trans rfl
    have c4 : w2.cell? ⟨w.heap.size, 4, none⟩ = some (v4) := (cell_of_row _ _ 4 _ _ (0, 0) k0).trans rfl
    replace hb0 := hide hb0
    clear k0 hz
    go_wp2_with fail
    go_ret
    exact ⟨ret_i hv.out, hb0.out⟩
  simp only [szLeft_fits b1] at q0
  replace q0 := hide q0
  have r1 : ¬ left - (T0 : Int) - (T1 : Int) < 0 := by omega
  have hv : Hid (szLeft left TT = left - (T0 : Int) - (T1 : Int)) := by show _ = _; rw [szLeft_fits (by rw [ht.out]; omega), ht.out]; omega
  clear ht b0 b1
  go_enter Tryz.func20, Tryz.ntmps20
  go_wp2_with fail
  refine qL.out.mono ?_
  rintro e w1 ⟨rfl, hb1⟩
  replace k0 := (hb1.block _ hz).trans k0
  replace hb0 := hb0.trans (hb1.mono hb0.size)
  replace hz := Nat.lt_of_lt_of_le hz hb1.size
  clear hb1
  have c0 : w1.cell? ⟨w.heap.size, 0, none⟩ = some (.int .i64 s0) := (cell_of_row _ _ 0 _ _ (0, 0) k0).trans rfl
  have c1 : w1.cell? ⟨w.heap.size, 1, none⟩ = some (.int .i64 s1) := (cell_of_row _ _ 1 _ _ (0, 0) k0).trans rfl
  have c2 : w1.cell? ⟨w.heap.size, 2, none⟩ = some (v2) := (cell_of_row _ _ 2 _ _ (0, 0) k0).trans rfl
  have c3 : w1.cell? ⟨w.heap.size, 3, none⟩ = some (v3) := (cell_of_row _ _ 3 _ _ (0, 0) k0).trans rfl
  have c4 : w1.cell? ⟨w.heap.size, 4, none⟩ = some (v4) := (cell_of_row _ _ 4 _ _ (0, 0) k0).trans rfl
  go_wp2_with fail
  refine (q0.out _ hb0).mono ?_
  rintro e w2 ⟨rfl, hb1⟩
  clear c0 c1 c2 c3 c4
  replace k0 := (hb1.block _ hz).trans k0
  replace hb0 := hb0.trans (hb1.mono hb0.size)
  replace hz := Nat.lt_of_lt_of_le hz hb1.size
  clear hb1
  have c0 : w2.cell? ⟨w.heap.size, 0, none⟩ = some (.int .i64 s0) := (cell_of_row _ _ 0 _ _ (0, 0) k0).trans rfl
  have c1 : w2.cell? ⟨w.heap.size, 1, none⟩ = some (.int .i64 s1) := (cell_of_row _ _ 1 _ _ (0, 0) k0).trans rfl
  have c2 : w2.cell? ⟨w.heap.size, 2, none⟩ = some (v2) := (cell_of_row _ _ 2 _ _ (0, 0) k0).trans rfl
  have c3 : w2.cell? ⟨w.heap.size, 3, none⟩ = some (v3) := (cell_of_row _ _ 3 _ _ (0, 0) k0).trans rfl
  have c4 : w2.cell? ⟨w.heap.size, 4, none⟩ = some (v4) := (cell_of_row _ _ 4 _ _ (0, 0) k0).trans rfl
  replace hb0 := hide hb0
  clear k0 hz
  go_wp2_with fail
  go_ret
  exact ⟨ret_i hv.out, hb0.out⟩

set_option maxHeartbeats 3200000 in
set_option maxRecDepth 100000 in
theorem toMonitor_u {v : Value} {d : DM} {w : World} {lo hi : Nat} (h : ArgM w lo hi v d) (ht : totM d ≤ 1048576) :
    Calls Tryz.prog 22 #[v] w fun e w' => ∃ v', e = .returned v' ∧ FreshM w' w.heap.size w'.heap.size v' d ∧ Below w.heap.size w w' := by
  have htt := hide ht
  obtain ⟨⟨s0, s1, v2, v3⟩, v4, rfl, hL, a0⟩ := h
  dsimp only at *
  simp only [totM, totL, totS] at ht
  have qL := hide (fun W (hW : Below w.heap.size w W) => toLts_a (hL.below hW (.inr (Nat.le_refl _))) (by simp only [totL, totS]; omega))
  dsimp only at qL
  have q0 := hide (fun W (hW : Below w.heap.size w W) => toInt64S_a (a0.below hW (.inr (Nat.le_refl _))) (by omega))
  clear a0 hL ht
  have k0 : (((w.alloc (.cells #[.int .i64 s0, .int .i64 s1, v2, v3, v4] 47)).alloc (.cells #[.int .i64 0, .int .i64 0, .slice none 0 0, .slice none 0 0, .slice none 0 0] 52)).alloc (.cells #[.int .i64 0, .int .i64 0, .slice none 0 0, .slice none 0 0, .slice none 0 0] 52)).heap[w.heap.size]? = some (.cells #[.int .i64 s0, .int .i64 s1, v2, v3, v4] 47 (0, 0)) := (Below.heap_alloc _ _ _ (by simp only [World.size_alloc]; omega)).trans ((Below.heap_alloc _ _ _ (by simp only [World.size_alloc]; omega)).trans (heap_alloc_new w _))
  have k1 : (((w.alloc (.cells #[.int .i64 s0, .int .i64 s1, v2, v3, v4] 47)).alloc (.cells #[.int .i64 0, .int .i64 0, .slice none 0 0, .slice none 0 0, .slice none 0 0] 52)).alloc (.cells #[.int .i64 0, .int .i64 0, .slice none 0 0, .slice none 0 0, .slice none 0 0] 52)).heap[w.heap.size + 1]? = some (.cells #[.int .i64 0, .int .i64 0, .slice none 0 0, .slice none 0 0, .slice none 0 0] 52 (0, 0)) := by have h := heap_alloc_new (w.alloc (.cells #[.int .i64 s0, .int .i64 s1, v2, v3, v4] 47)) (.cells #[.int .i64 0, .int .i64 0, .slice none 0 0, .slice none 0 0, .slice none 0 0] 52); rw [World.size_alloc] at h; exact (Below.heap_alloc _ _ _ (by simp only [World.size_alloc]; omega)).trans h
  have k2 : (((w.alloc (.cells #[.int .i64 s0, .int .i64 s1, v2, v3, v4] 47)).alloc (.cells #[.int .i64 0, .int .i64 0, .slice none 0 0, .slice none 0 0, .slice none 0 0] 52)).alloc (.cells #[.int .i64 0, .int .i64 0, .slice none 0 0, .slice none 0 0, .slice none 0 0] 52)).heap[w.heap.size + 1 + 1]? = some (.cells #[.int .i64 0, .int .i64 0, .slice none 0 0, .slice none 0 0, .slice none 0 0] 52 (0, 0)) := by have h := heap_alloc_new ((w.alloc (.cells #[.int .i64 s0, .int .i64 s1, v2, v3, v4] 47)).alloc (.cells #[.int .i64 0, .int .i64 0, .slice none 0 0, .slice none 0 0, .slice none 0 0] 52)) (.cells #[.int .i64 0, .int .i64 0, .slice none 0 0, .slice none 0 0, .slice none 0 0] 52); rw [World.size_alloc, World.size_alloc] at h; exact h
  have hb : Below w.heap.size w (((w.alloc (.cells #[.int .i64 s0, .int .i64 s1, v2, v3, v4] 47)).alloc (.cells #[.int .i64 0, .int .i64 0, .slice none 0 0, .slice none 0 0, .slice none 0 0] 52)).alloc (.cells #[.int .i64 0, .int .i64 0, .slice none 0 0, .slice none 0 0, .slice none 0 0] 52)) := (((Below.refl _ _).alloc (Nat.le_refl _) _).alloc (by simp only [World.size_alloc]; omega) _).alloc (by simp only [World.size_alloc]; omega) _
  have hz : w.heap.size + 1 + 1 < (((w.alloc (.cells #[.int .i64 s0, .int .i64 s1, v2, v3, v4] 47)).alloc (.cells #[.int .i64 0, .int .i64 0, .slice none 0 0, .slice none 0 0, .slice none 0 0] 52)).alloc (.cells #[.int .i64 0, .int .i64 0, .slice none 0 0, .slice none 0 0, .slice none 0 0] 52)).heap.size := by simp only [World.size_alloc]; omega
  go_enter Tryz.func22, Tryz.ntmps22
  go_wp2_with fail
  generalize (((w.alloc (.cells #[.int .i64 s0, .int .i64 s1, v2, v3, v4] 47)).alloc (.cells #[.int .i64 0, .int .i64 0, .slice none 0 0, .slice none 0 0, .slice none 0 0] 52)).alloc (.cells #[.int .i64 0, .int .i64 0, .slice none 0 0, .slice none 0 0, .slice none 0 0] 52)) = W at *
  refine (qL.out _ hb).mono ?_
  rintro e w1 ⟨⟨y0, y1, y2, y3⟩, rfl, gL, hb1⟩
  dsimp only at *
  obtain ⟨A2, n2, c2, e2⟩ := gL.2.2.1.shape
  obtain ⟨A3, n3, c3, e3⟩ := gL.2.2.2.shape
  dsimp only at e2 e3
  subst e2 e3
  replace k0 := (hb1.block _ (by omega)).trans k0
  replace k1 := (hb1.block _ (by omega)).trans k1
  replace k2 := (hb1.block _ (by omega)).trans k2
  have hz1 := hb1.size
  try simp only [World.size_setCell] at hz1
  replace gL := gL.more (lo' := w.heap.size + 1 + 1 + 1) (hi' := w1.heap.size) hz (Nat.le_refl _)
  replace hb := hb.trans (hb1.mono hb.size)
  replace hz := Nat.lt_of_lt_of_le hz hb1.size
  clear hz1 hb1
  have a0 : w1.cell? ⟨w.heap.size, 0, none⟩ = some (.int .i64 s0) := (cell_of_row _ _ 0 _ _ (0, 0) k0).trans rfl
  have b0 : w1.cell? ⟨w.heap.size + 1 + 1, 0, none⟩ = some (.int .i64 0) := (cell_of_row _ _ 0 _ _ (0, 0) k2).trans rfl
  have f0 := frozen_of_row _ _ 0 _ _ k2
  have r0 : w1.cell? ⟨w.heap.size + 1, 0, none⟩ = some (.int .i64 0) := (cell_of_row _ _ 0 _ _ (0, 0) k1).trans rfl
  have s0' := frozen_of_row _ _ 0 _ _ k1
  have a1 : w1.cell? ⟨w.heap.size, 1, none⟩ = some (.int .i64 s1) := (cell_of_row _ _ 1 _ _ (0, 0) k0).trans rfl
  have b1 : w1.cell? ⟨w.heap.size + 1 + 1, 1, none⟩ = some (.int .i64 0) := (cell_of_row _ _ 1 _ _ (0, 0) k2).trans rfl
  have f1 := frozen_of_row _ _ 1 _ _ k2
  have r1 : w1.cell? ⟨w.heap.size + 1, 1, none⟩ = some (.int .i64 0) := (cell_of_row _ _ 1 _ _ (0, 0) k1).trans rfl
  have s1' := frozen_of_row _ _ 1 _ _ k1
  have a2 : w1.cell? ⟨w.heap.size, 2, none⟩ = some (v2) := (cell_of_row _ _ 2 _ _ (0, 0) k0).trans rfl
  have b2 : w1.cell? ⟨w.heap.size + 1 + 1, 2, none⟩ = some (.slice none 0 0) := (cell_of_row _ _ 2 _ _ (0, 0) k2).trans rfl
  have f2 := frozen_of_row _ _ 2 _ _ k2
  have r2 : w1.cell? ⟨w.heap.size + 1, 2, none⟩ = some (.slice none 0 0) := (cell_of_row _ _ 2 _ _ (0, 0) k1).trans rfl
  have s2' := frozen_of_row _ _ 2 _ _ k1
  have a3 : w1.cell? ⟨w.heap.size, 3, none⟩ = some (v3) := (cell_of_row _ _ 3 _ _ (0, 0) k0).trans rfl
  have b3 : w1.cell? ⟨w.heap.size + 1 + 1, 3, none⟩ = some (.slice none 0 0) := (cell_of_row _ _ 3 _ _ (0, 0) k2).trans rfl
  have f3 := frozen_of_row _ _ 3 _ _ k2
  have r3 : w1.cell? ⟨w.heap.size + 1, 3, none⟩ = some (.slice none 0 0) := (cell_of_row _ _ 3 _ _ (0, 0) k1).trans rfl
  have s3' := frozen_of_row _ _ 3 _ _ k1
  have a4 : w1.cell? ⟨w.heap.size, 4, none⟩ = some (v4) := (cell_of_row _ _ 4 _ _ (0, 0) k0).trans rfl
  have b4 : w1.cell? ⟨w.heap.size + 1 + 1, 4, none⟩ = some (.slice none 0 0) := (cell_of_row _ _ 4 _ _ (0, 0) k2).trans rfl
  have f4 := frozen_of_row _ _ 4 _ _ k2
  have r4 : w1.cell? ⟨w.heap.size + 1, 4, none⟩ = some (.slice none 0 0) := (cell_of_row _ _ 4 _ _ (0, 0) k1).trans rfl
  have s4' := frozen_of_row _ _ 4 _ _ k1
  go_wp2_with fail
  replace k0 : (w1.setCell ⟨w.heap.size + 1 + 1, 0, none⟩ (.int .i64 y0)).heap[w.heap.size]? = _ := (Below.heap_setCell _ _ _ _ (by show w.heap.size ≠ w.heap.size + 1 + 1; omega)).trans k0
  replace k1 : (w1.setCell ⟨w.heap.size + 1 + 1, 0, none⟩ (.int .i64 y0)).heap[w.heap.size + 1]? = _ := (Below.heap_setCell _ _ _ _ (by show w.heap.size + 1 ≠ w.heap.size + 1 + 1; omega)).trans k1
  replace k2 : (w1.setCell ⟨w.heap.size + 1 + 1, 0, none⟩ (.int .i64 y0)).heap[w.heap.size + 1 + 1]? = some (.cells #[.int .i64 y0, .int .i64 0, .slice none 0 0, .slice none 0 0, .slice none 0 0] 52 (0, 0)) := heap_setCell_same _ _ _ _ _ _ k2
  replace hb : Below w.heap.size w (w1.setCell ⟨w.heap.size + 1 + 1, 0, none⟩ (.int .i64 y0)) := hb.setCell (by show w.heap.size ≤ w.heap.size + 1 + 1; omega) _
  replace hz : w.heap.size + 1 + 1 < (w1.setCell ⟨w.heap.size + 1 + 1, 0, none⟩ (.int .i64 y0)).heap.size := by rw [World.size_setCell]; exact hz
  replace gL := gL.only ((Only.refl (w.heap.size + 1 + 1) (w.heap.size + 1 + 1 + 1) w1).setCell (p := ⟨w.heap.size + 1 + 1, 0, none⟩) (Nat.le_refl _) (Nat.lt_succ_self _) (.int .i64 y0)) (.inr (by omega))
  replace k0 : ((w1.setCell ⟨w.heap.size + 1 + 1, 0, none⟩ (.int .i64 y0)).setCell ⟨w.heap.size + 1 + 1, 1, none⟩ (.int .i64 y1)).heap[w.heap.size]? = _ := (Below.heap_setCell _ _ _ _ (by show w.heap.size ≠ w.heap.size + 1 + 1; omega)).trans k0
  replace k1 : ((w1.setCell ⟨w.heap.size + 1 + 1, 0, none⟩ (.int .i64 y0)).setCell ⟨w.heap.size + 1 + 1, 1, none⟩ (.int .i64 y1)).heap[w.heap.size + 1]? = _ := (Below.heap_setCell _ _ _ _ (by show w.heap.size + 1 ≠ w.heap.size + 1 + 1; omega)).trans k1
  replace k2 : ((w1.setCell ⟨w.heap.size + 1 + 1, 0, none⟩ (.int .i64 y0)).setCell ⟨w.heap.size + 1 + 1, 1, none⟩ (.int .i64 y1)).heap[w.heap.size + 1 + 1]? = some (.cells #[.int .i64 y0, .int .i64 y1, .slice none 0 0, .slice none 0 0, .slice none 0 0] 52 (0, 0)) := heap_setCell_same _ _ _ _ _ _ k2
  replace hb : Below w.heap.size w ((w1.setCell ⟨w.heap.size + 1 + 1, 0, none⟩ (.int .i64 y0)).setCell ⟨w.heap.size + 1 + 1, 1, none⟩ (.int .i64 y1)) := hb.setCell (by show w.heap.size ≤ w.heap.size + 1 + 1; omega) _
  replace hz : w.heap.size + 1 + 1 < ((w1.setCell ⟨w.heap.size + 1 + 1, 0, none⟩ (.int .i64 y0)).setCell ⟨w.heap.size + 1 + 1, 1, none⟩ (.int .i64 y1)).heap.size := by rw [World.size_setCell]; exact hz
  replace gL := gL.only ((Only.refl (w.heap.size + 1 + 1) (w.heap.size + 1 + 1 + 1) (w1.setCell ⟨w.heap.size + 1 + 1, 0, none⟩ (.int .i64 y0))).setCell (p := ⟨w.heap.size + 1 + 1, 1, none⟩) (Nat.le_refl _) (Nat.lt_succ_self _) (.int .i64 y1)) (.inr (by omega))
  replace k0 : (((w1.setCell ⟨w.heap.size + 1 + 1, 0, none⟩ (.int .i64 y0)).setCell ⟨w.heap.size + 1 + 1, 1, none⟩ (.int .i64 y1)).setCell ⟨w.heap.size + 1 + 1, 2, none⟩ (.slice A2 n2 c2)).heap[w.heap.size]? = _ := (Below.heap_setCell _ _ _ _ (by show w.heap.size ≠ w.heap.size + 1 + 1; omega)).trans k0
  replace k1 : (((w1.setCell ⟨w.heap.size + 1 + 1, 0, none⟩ (.int .i64 y0)).setCell ⟨w.heap.size + 1 + 1, 1, none⟩ (.int .i64 y1)).setCell ⟨w.heap.size + 1 + 1, 2, none⟩ (.slice A2 n2 c2)).heap[w.heap.size + 1]? = _ := (Below.heap_setCell _ _ _ _ (by show w.heap.size + 1 ≠ w.heap.size + 1 + 1; omega)).trans k1
  replace k2 : (((w1.setCell ⟨w.heap.size + 1 + 1, 0, none⟩ (.int .i64 y0)).setCell ⟨w.heap.size + 1 + 1, 1, none⟩ (.int .i64 y1)).setCell ⟨w.heap.size + 1 + 1, 2, none⟩ (.slice A2 n2 c2)).heap[w.heap.size + 1 + 1]? = some (.cells #[.int .i64 y0, .int .i64 y1, .slice A2 n2 c2, .slice none 0 0, .slice none 0 0] 52 (0, 0)) := heap_setCell_same _ _ _ _ _ _ k2
  replace hb : Below w.heap.size w (((w1.setCell ⟨w.heap.size + 1 + 1, 0, none⟩ (.int .i64 y0)).setCell ⟨w.heap.size + 1 + 1, 1, none⟩ (.int .i64 y1)).setCell ⟨w.heap.size + 1 + 1, 2, none⟩ (.slice A2 n2 c2)) := hb.setCell (by show w.heap.size ≤ w.heap.size + 1 + 1; omega) _
  replace hz : w.heap.size + 1 + 1 < (((w1.setCell ⟨w.heap.size + 1 + 1, 0, none⟩ (.int .i64 y0)).setCell ⟨w.heap.size + 1 + 1, 1, none⟩ (.int .i64 y1)).setCell ⟨w.heap.size + 1 + 1, 2, none⟩ (.slice A2 n2 c2)).heap.size := by rw [World.size_setCell]; exact hz
  replace gL := gL.only ((Only.refl (w.heap.size + 1 + 1) (w.heap.size + 1 + 1 + 1) ((w1.setCell ⟨w.heap.size + 1 + 1, 0, none⟩ (.int .i64 y0)).setCell ⟨w.heap.size + 1 + 1, 1, none⟩ (.int .i64 y1))).setCell (p := ⟨w.heap.size + 1 + 1, 2, none⟩) (Nat.le_refl _) (Nat.lt_succ_self _) (.slice A2 n2 c2)) (.inr (by omega))
  replace k0 : ((((w1.setCell ⟨w.heap.size + 1 + 1, 0, none⟩ (.int .i64 y0)).setCell ⟨w.heap.size + 1 + 1, 1, none⟩ (.int .i64 y1)).setCell ⟨w.heap.size + 1 + 1, 2, none⟩ (.slice A2 n2 c2)).setCell ⟨w.heap.size + 1 + 1, 3, none⟩ (.slice A3 n3 c3)).heap[w.heap.size]? = _ := (Below.heap_setCell _ _ _ _ (by show w.heap.size ≠ w.heap.size + 1 + 1; omega)).trans k0
  replace k1 : ((((w1.setCell ⟨w.heap.size + 1 + 1, 0, none⟩ (.int .i64 y0)).setCell ⟨w.heap.size + 1 + 1, 1, none⟩ (.int .i64 y1)).setCell ⟨w.heap.size + 1 + 1, 2, none⟩ (.slice A2 n2 c2)).setCell ⟨w.heap.size + 1 + 1, 3, none⟩ (.slice A3 n3 c3)).heap[w.heap.size + 1]? = _ := (Below.heap_setCell _ _ _ _ (by show w.heap.size + 1 ≠ w.heap.size + 1 + 1; omega)).trans k1
  replace k2 : ((((w1.setCell ⟨w.heap.size + 1 + 1, 0, none⟩ (.int .i64 y0)).setCell ⟨w.heap.size + 1 + 1, 1, none⟩ (.int .i64 y1)).setCell ⟨w.heap.size + 1 + 1, 2, none⟩ (.slice A2 n2 c2)).setCell ⟨w.heap.size + 1 + 1, 3, none⟩ (.slice A3 n3 c3)).heap[w.heap.size + 1 + 1]? = some (.cells #[.int .i64 y0, .int .i64 y1, .slice A2 n2 c2, .slice A3 n3 c3, .slice none 0 0] 52 (0, 0)) := heap_setCell_same _ _ _ _ _ _ k2
  replace hb : Below w.heap.size w ((((w1.setCell ⟨w.heap.size + 1 + 1, 0, none⟩ (.int .i64 y0)).setCell ⟨w.heap.size + 1 + 1, 1, none⟩ (.int .i64 y1)).setCell ⟨w.heap.size + 1 + 1, 2, none⟩ (.slice A2 n2 c2)).setCell ⟨w.heap.size + 1 + 1, 3, none⟩ (.slice A3 n3 c3)) := hb.setCell (by show w.heap.size ≤ w.heap.size + 1 + 1; omega) _
  replace hz : w.heap.size + 1 + 1 < ((((w1.setCell ⟨w.heap.size + 1 + 1, 0, none⟩ (.int .i64 y0)).setCell ⟨w.heap.size + 1 + 1, 1, none⟩ (.int .i64 y1)).setCell ⟨w.heap.size + 1 + 1, 2, none⟩ (.slice A2 n2 c2)).setCell ⟨w.heap.size + 1 + 1, 3, none⟩ (.slice A3 n3 c3)).heap.size := by rw [World.size_setCell]; exact hz
  replace gL := gL.only ((Only.refl (w.heap.size + 1 + 1) (w.heap.size + 1 + 1 + 1) (((w1.setCell ⟨w.heap.size + 1 + 1, 0, none⟩ (.int .i64 y0)).setCell ⟨w.heap.size + 1 + 1, 1, none⟩ (.int .i64 y1)).setCell ⟨w.heap.size + 1 + 1, 2, none⟩ (.slice A2 n2 c2))).setCell (p := ⟨w.heap.size + 1 + 1, 3, none⟩) (Nat.le_refl _) (Nat.lt_succ_self _) (.slice A3 n3 c3)) (.inr (by omega))
  refine (q0.out _ hb).mono ?_
  rintro e w2 ⟨u0, rfl, g0, hb1⟩
  clear a0 b0 f0 r0 s0' a1 b1 f1 r1 s1' a2 b2 f2 r2 s2' a3 b3 f3 r3 s3' a4 b4 f4 r4 s4'
  obtain ⟨B0, m0, k0', rfl⟩ := g0.shape
  replace k0 := (hb1.block _ (by omega)).trans k0
  replace k1 := (hb1.block _ (by omega)).trans k1
  replace k2 := (hb1.block _ (by omega)).trans k2
  have hz1 := hb1.size
  try simp only [World.size_setCell] at hz1
  replace gL := (gL.below hb1 (.inr (Nat.le_refl _))).more (lo' := w.heap.size + 1 + 1 + 1) (hi' := w2.heap.size) (Nat.le_refl _) hz1
  replace g0 := g0.more (lo' := w.heap.size + 1 + 1 + 1) (hi' := w2.heap.size) hz (Nat.le_refl _)
  replace hb := hb.trans (hb1.mono hb.size)
  replace hz := Nat.lt_of_lt_of_le hz hb1.size
  clear hz1 hb1
  have a0 : w2.cell? ⟨w.heap.size, 0, none⟩ = some (.int .i64 s0) := (cell_of_row _ _ 0 _ _ (0, 0) k0).trans rfl
  have b0 : w2.cell? ⟨w.heap.size + 1 + 1, 0, none⟩ = some (.int .i64 y0) := (cell_of_row _ _ 0 _ _ (0, 0) k2).trans rfl
  have f0 := frozen_of_row _ _ 0 _ _ k2
  have r0 : w2.cell? ⟨w.heap.size + 1, 0, none⟩ = some (.int .i64 0) := (cell_of_row _ _ 0 _ _ (0, 0) k1).trans rfl
  have s0' := frozen_of_row _ _ 0 _ _ k1
  have a1 : w2.cell? ⟨w.heap.size, 1, none⟩ = some (.int .i64 s1) := (cell_of_row _ _ 1 _ _ (0, 0) k0).trans rfl
  have b1 : w2.cell? ⟨w.heap.size + 1 + 1, 1, none⟩ = some (.int .i64 y1) := (cell_of_row _ _ 1 _ _ (0, 0) k2).trans rfl
  have f1 := frozen_of_row _ _ 1 _ _ k2
  have r1 : w2.cell? ⟨w.heap.size + 1, 1, none⟩ = some (.int .i64 0) := (cell_of_row _ _ 1 _ _ (0, 0) k1).trans rfl
  have s1' := frozen_of_row _ _ 1 _ _ k1
  have a2 : w2.cell? ⟨w.heap.size, 2, none⟩ = some (v2) := (cell_of_row _ _ 2 _ _ (0, 0) k0).trans rfl
  have b2 : w2.cell? ⟨w.heap.size + 1 + 1, 2, none⟩ = some (.slice A2 n2 c2) := (cell_of_row _ _ 2 _ _ (0, 0) k2).trans rfl
  have f2 := frozen_of_row _ _ 2 _ _ k2
  have r2 : w2.cell? ⟨w.heap.size + 1, 2, none⟩ = some (.slice none 0 0) := (cell_of_row _ _ 2 _ _ (0, 0) k1).trans rfl
  have s2' := frozen_of_row _ _ 2 _ _ k1
  have a3 : w2.cell? ⟨w.heap.size, 3, none⟩ = some (v3) := (cell_of_row _ _ 3 _ _ (0, 0) k0).trans rfl
  have b3 : w2.cell? ⟨w.heap.size + 1 + 1, 3, none⟩ = some (.slice A3 n3 c3) := (cell_of_row _ _ 3 _ _ (0, 0) k2).trans rfl
  have f3 := frozen_of_row _ _ 3 _ _ k2
  have r3 : w2.cell? ⟨w.heap.size + 1, 3, none⟩ = some (.slice none 0 0) := (cell_of_row _ _ 3 _ _ (0, 0) k1).trans rfl
  have s3' := frozen_of_row _ _ 3 _ _ k1
  have a4 : w2.cell? ⟨w.heap.size, 4, none⟩ = some (v4) := (cell_of_row _ _ 4 _ _ (0, 0) k0).trans rfl
  have b4 : w2.cell? ⟨w.heap.size + 1 + 1, 4, none⟩ = some (.slice none 0 0) := (cell_of_row _ _ 4 _ _ (0, 0) k2).trans rfl
  have f4 := frozen_of_row _ _ 4 _ _ k2
  have r4 : w2.cell? ⟨w.heap.size + 1, 4, none⟩ = some (.slice none 0 0) := (cell_of_row _ _ 4 _ _ (0, 0) k1).trans rfl
  have s4' := frozen_of_row _ _ 4 _ _ k1
  go_wp2_with fail
  replace k0 : (w2.setCell ⟨w.heap.size + 1 + 1, 4, none⟩ (.slice B0 m0 k0')).heap[w.heap.size]? = _ := (Below.heap_setCell _ _ _ _ (by show w.heap.size ≠ w.heap.size + 1 + 1; omega)).trans k0
  replace k1 : (w2.setCell ⟨w.heap.size + 1 + 1, 4, none⟩ (.slice B0 m0 k0')).heap[w.heap.size + 1]? = _ := (Below.heap_setCell _ _ _ _ (by show w.heap.size + 1 ≠ w.heap.size + 1 + 1; omega)).trans k1
  replace k2 : (w2.setCell ⟨w.heap.size + 1 + 1, 4, none⟩ (.slice B0 m0 k0')).heap[w.heap.size + 1 + 1]? = some (.cells #[.int .i64 y0, .int .i64 y1, .slice A2 n2 c2, .slice A3 n3 c3, .slice B0 m0 k0'] 52 (0, 0)) := heap_setCell_same _ _ _ _ _ _ k2
  replace hb : Below w.heap.size w (w2.setCell ⟨w.heap.size + 1 + 1, 4, none⟩ (.slice B0 m0 k0')) := hb.setCell (by show w.heap.size ≤ w.heap.size + 1 + 1; omega) _
  replace hz : w.heap.size + 1 + 1 < (w2.setCell ⟨w.heap.size + 1 + 1, 4, none⟩ (.slice B0 m0 k0')).heap.size := by rw [World.size_setCell]; exact hz
  replace gL := gL.only ((Only.refl (w.heap.size + 1 + 1) (w.heap.size + 1 + 1 + 1) w2).setCell (p := ⟨w.heap.size + 1 + 1, 4, none⟩) (Nat.le_refl _) (Nat.lt_succ_self _) (.slice B0 m0 k0')) (.inr (by omega))
  replace g0 := g0.only ((Only.refl (w.heap.size + 1 + 1) (w.heap.size + 1 + 1 + 1) w2).setCell (p := ⟨w.heap.size + 1 + 1, 4, none⟩) (Nat.le_refl _) (Nat.lt_succ_self _) (.slice B0 m0 k0')) (.inr (by omega))
  have hbF : Below w.heap.size w ((((((w2.setCell ⟨w.heap.size + 1 + 1, 4, none⟩ (.slice B0 m0 k0')).setCell ⟨w.heap.size + 1, 0, none⟩ (.int .i64 y0)).setCell ⟨w.heap.size + 1, 1, none⟩ (.int .i64 y1)).setCell ⟨w.heap.size + 1, 2, none⟩ (.slice A2 n2 c2)).setCell ⟨w.heap.size + 1, 3, none⟩ (.slice A3 n3 c3)).setCell ⟨w.heap.size + 1, 4, none⟩ (.slice B0 m0 k0')) := (((((hb.setCell (by show w.heap.size ≤ w.heap.size + 1; omega) _).setCell (by show w.heap.size ≤ w.heap.size + 1; omega) _).setCell (by show w.heap.size ≤ w.heap.size + 1; omega) _).setCell (by show w.heap.size ≤ w.heap.size + 1; omega) _).setCell (by show w.heap.size ≤ w.heap.size + 1; omega) _)
  have hoF : Only (w.heap.size + 1) (w.heap.size + 1 + 1) (w2.setCell ⟨w.heap.size + 1 + 1, 4, none⟩ (.slice B0 m0 k0')) ((((((w2.setCell ⟨w.heap.size + 1 + 1, 4, none⟩ (.slice B0 m0 k0')).setCell ⟨w.heap.size + 1, 0, none⟩ (.int .i64 y0)).setCell ⟨w.heap.size + 1, 1, none⟩ (.int .i64 y1)).setCell ⟨w.heap.size + 1, 2, none⟩ (.slice A2 n2 c2)).setCell ⟨w.heap.size + 1, 3, none⟩ (.slice A3 n3 c3)).setCell ⟨w.heap.size + 1, 4, none⟩ (.slice B0 m0 k0')) := ((((((Only.refl (w.heap.size + 1) (w.heap.size + 1 + 1) (w2.setCell ⟨w.heap.size + 1 + 1, 4, none⟩ (.slice B0 m0 k0'))).setCell (p := ⟨w.heap.size + 1, 0, none⟩) (Nat.le_refl _) (Nat.lt_succ_self _) (.int .i64 y0)).setCell (p := ⟨w.heap.size + 1, 1, none⟩) (Nat.le_refl _) (Nat.lt_succ_self _) (.int .i64 y1)).setCell (p := ⟨w.heap.size + 1, 2, none⟩) (Nat.le_refl _) (Nat.lt_succ_self _) (.slice A2 n2 c2)).setCell (p := ⟨w.heap.size + 1, 3, none⟩) (Nat.le_refl _) (Nat.lt_succ_self _) (.slice A3 n3 c3)).setCell (p := ⟨w.heap.size + 1, 4, none⟩) (Nat.le_refl _) (Nat.lt_succ_self _) (.slice B0 m0 k0'))
  replace gL := (gL.only hoF (.inr (by omega))).more (lo' := w.heap.size) (hi' := ((((((w2.setCell ⟨w.heap.size + 1 + 1, 4, none⟩ (.slice B0 m0 k0')).setCell ⟨w.heap.size + 1, 0, none⟩ (.int .i64 y0)).setCell ⟨w.heap.size + 1, 1, none⟩ (.int .i64 y1)).setCell ⟨w.heap.size + 1, 2, none⟩ (.slice A2 n2 c2)).setCell ⟨w.heap.size + 1, 3, none⟩ (.slice A3 n3 c3)).setCell ⟨w.heap.size + 1, 4, none⟩ (.slice B0 m0 k0')).heap.size) (by omega) (by simp only [World.size_setCell]; exact Nat.le_refl _)
  replace g0 := (g0.only hoF (.inr (by omega))).more (lo' := w.heap.size) (hi' := ((((((w2.setCell ⟨w.heap.size + 1 + 1, 4, none⟩ (.slice B0 m0 k0')).setCell ⟨w.heap.size + 1, 0, none⟩ (.int .i64 y0)).setCell ⟨w.heap.size + 1, 1, none⟩ (.int .i64 y1)).setCell ⟨w.heap.size + 1, 2, none⟩ (.slice A2 n2 c2)).setCell ⟨w.heap.size + 1, 3, none⟩ (.slice A3 n3 c3)).setCell ⟨w.heap.size + 1, 4, none⟩ (.slice B0 m0 k0')).heap.size) (by omega) (by simp only [World.size_setCell]; exact Nat.le_refl _)
  have kF : ((((((w2.setCell ⟨w.heap.size + 1 + 1, 4, none⟩ (.slice B0 m0 k0')).setCell ⟨w.heap.size + 1, 0, none⟩ (.int .i64 y0)).setCell ⟨w.heap.size + 1, 1, none⟩ (.int .i64 y1)).setCell ⟨w.heap.size + 1, 2, none⟩ (.slice A2 n2 c2)).setCell ⟨w.heap.size + 1, 3, none⟩ (.slice A3 n3 c3)).setCell ⟨w.heap.size + 1, 4, none⟩ (.slice B0 m0 k0')).heap[w.heap.size + 1]? = some (.cells #[.int .i64 y0, .int .i64 y1, .slice A2 n2 c2, .slice A3 n3 c3, .slice B0 m0 k0'] 52 (0, 0)) := (heap_setCell_same _ _ _ _ _ _ (heap_setCell_same _ _ _ _ _ _ (heap_setCell_same _ _ _ _ _ _ (heap_setCell_same _ _ _ _ _ _ (heap_setCell_same _ _ _ _ _ _ k1)))))
  clear a0 b0 f0 r0 s0' a1 b1 f1 r1 s1' a2 b2 f2 r2 s2' a3 b3 f3 r3 s3' a4 b4 f4 r4 s4'
  have rF0 : ((((((w2.setCell ⟨w.heap.size + 1 + 1, 4, none⟩ (.slice B0 m0 k0')).setCell ⟨w.heap.size + 1, 0, none⟩ (.int .i64 y0)).setCell ⟨w.heap.size + 1, 1, none⟩ (.int .i64 y1)).setCell ⟨w.heap.size + 1, 2, none⟩ (.slice A2 n2 c2)).setCell ⟨w.heap.size + 1, 3, none⟩ (.slice A3 n3 c3)).setCell ⟨w.heap.size + 1, 4, none⟩ (.slice B0 m0 k0')).cell? ⟨w.heap.size + 1, 0, none⟩ = some (.int .i64 y0) := (cell_of_row _ _ 0 _ _ (0, 0) kF).trans rfl
  have rF1 : ((((((w2.setCell ⟨w.heap.size + 1 + 1, 4, none⟩ (.slice B0 m0 k0')).setCell ⟨w.heap.size + 1, 0, none⟩ (.int .i64 y0)).setCell ⟨w.heap.size + 1, 1, none⟩ (.int .i64 y1)).setCell ⟨w.heap.size + 1, 2, none⟩ (.slice A2 n2 c2)).setCell ⟨w.heap.size + 1, 3, none⟩ (.slice A3 n3 c3)).setCell ⟨w.heap.size + 1, 4, none⟩ (.slice B0 m0 k0')).cell? ⟨w.heap.size + 1, 1, none⟩ = some (.int .i64 y1) := (cell_of_row _ _ 1 _ _ (0, 0) kF).trans rfl
  have rF2 : ((((((w2.setCell ⟨w.heap.size + 1 + 1, 4, none⟩ (.slice B0 m0 k0')).setCell ⟨w.heap.size + 1, 0, none⟩ (.int .i64 y0)).setCell ⟨w.heap.size + 1, 1, none⟩ (.int .i64 y1)).setCell ⟨w.heap.size + 1, 2, none⟩ (.slice A2 n2 c2)).setCell ⟨w.heap.size + 1, 3, none⟩ (.slice A3 n3 c3)).setCell ⟨w.heap.size + 1, 4, none⟩ (.slice B0 m0 k0')).cell? ⟨w.heap.size + 1, 2, none⟩ = some (.slice A2 n2 c2) := (cell_of_row _ _ 2 _ _ (0, 0) kF).trans rfl
  have rF3 : ((((((w2.setCell ⟨w.heap.size + 1 + 1, 4, none⟩ (.slice B0 m0 k0')).setCell ⟨w.heap.size + 1, 0, none⟩ (.int .i64 y0)).setCell ⟨w.heap.size + 1, 1, none⟩ (.int .i64 y1)).setCell ⟨w.heap.size + 1, 2, none⟩ (.slice A2 n2 c2)).setCell ⟨w.heap.size + 1, 3, none⟩ (.slice A3 n3 c3)).setCell ⟨w.heap.size + 1, 4, none⟩ (.slice B0 m0 k0')).cell? ⟨w.heap.size + 1, 3, none⟩ = some (.slice A3 n3 c3) := (cell_of_row _ _ 3 _ _ (0, 0) kF).trans rfl
  have rF4 : ((((((w2.setCell ⟨w.heap.size + 1 + 1, 4, none⟩ (.slice B0 m0 k0')).setCell ⟨w.heap.size + 1, 0, none⟩ (.int .i64 y0)).setCell ⟨w.heap.size + 1, 1, none⟩ (.int .i64 y1)).setCell ⟨w.heap.size + 1, 2, none⟩ (.slice A2 n2 c2)).setCell ⟨w.heap.size + 1, 3, none⟩ (.slice A3 n3 c3)).setCell ⟨w.heap.size + 1, 4, none⟩ (.slice B0 m0 k0')).cell? ⟨w.heap.size + 1, 4, none⟩ = some (.slice B0 m0 k0') := (cell_of_row _ _ 4 _ _ (0, 0) kF).trans rfl
  clear hoF hb hz k0 k1 k2 kF qL q0
  generalize ((((((w2.setCell ⟨w.heap.size + 1 + 1, 4, none⟩ (.slice B0 m0 k0')).setCell ⟨w.heap.size + 1, 0, none⟩ (.int .i64 y0)).setCell ⟨w.heap.size + 1, 1, none⟩ (.int .i64 y1)).setCell ⟨w.heap.size + 1, 2, none⟩ (.slice A2 n2 c2)).setCell ⟨w.heap.size + 1, 3, none⟩ (.slice A3 n3 c3)).setCell ⟨w.heap.size + 1, 4, none⟩ (.slice B0 m0 k0')) = WF at *
  refine bodyPost_ret (by simp [results, Tryz.results22, go_sem, rF0, rF1, rF2, rF3, rF4]; try rfl) rfl ?_
  exact ⟨_, rfl, ⟨⟨(y0, y1, .slice A2 n2 c2, .slice A3 n3 c3), _, rfl, gL, g0⟩, htt.out⟩, hbF⟩

set_option maxHeartbeats 1600000 in
set_option maxRecDepth 100000 in
theorem eqMonitor_u {v u : Value} {d e : DM} {w : World} {lo hi lo' hi' : Nat} (h : FreshM w lo hi v d) (g : FreshM w lo' hi' u e) :
    Calls Tryz.prog 25 #[v, u] w fun r w' => r = .returned (.bool (decide (d = e))) ∧ Below w.heap.size w w' := by
  obtain ⟨⟨⟨s0, s1, v2, v3⟩, v4, rfl, hL, a0⟩, ht⟩ := h
  obtain ⟨⟨⟨t0, t1, y2, y3⟩, y4, rfl, gL, g0⟩, gt⟩ := g
  dsimp only at *
  simp only [totM, totL, totS] at ht gt
  have k0 : ((w.alloc (.cells #[.int .i64 s0, .int .i64 s1, v2, v3, v4] 52)).alloc (.cells #[.int .i64 t0, .int .i64 t1, y2, y3, y4] 52)).heap[w.heap.size]? = some (.cells #[.int .i64 s0, .int .i64 s1, v2, v3, v4] 52 (0, 0)) := (Below.heap_alloc _ _ _ (by simp only [World.size_alloc]; omega)).trans (heap_alloc_new w _)
  have k1 : ((w.alloc (.cells #[.int .i64 s0, .int .i64 s1, v2, v3, v4] 52)).alloc (.cells #[.int .i64 t0, .int .i64 t1, y2, y3, y4] 52)).heap[w.heap.size + 1]? = some (.cells #[.int .i64 t0, .int .i64 t1, y2, y3, y4] 52 (0, 0)) := by have h := heap_alloc_new (w.alloc (.cells #[.int .i64 s0, .int .i64 s1, v2, v3, v4] 52)) (.cells #[.int .i64 t0, .int .i64 t1, y2, y3, y4] 52); rw [World.size_alloc] at h; exact h
  have hb : Below w.heap.size w ((w.alloc (.cells #[.int .i64 s0, .int .i64 s1, v2, v3, v4] 52)).alloc (.cells #[.int .i64 t0, .int .i64 t1, y2, y3, y4] 52)) := ((Below.refl _ _).alloc (Nat.le_refl _) _).alloc (by simp only [World.size_alloc]; omega) _
  have hz : w.heap.size + 1 < ((w.alloc (.cells #[.int .i64 s0, .int .i64 s1, v2, v3, v4] 52)).alloc (.cells #[.int .i64 t0, .int .i64 t1, y2, y3, y4] 52)).heap.size := by simp only [World.size_alloc]; omega
  have qL := fun W (hW : Below w.heap.size w W) => eqLts_a (hL.below hW (.inr (Nat.le_refl _))) (gL.below hW (.inr (Nat.le_refl _))) (by simp only [totL, totS]; omega) (by simp only [totL, totS]; omega)
  dsimp only at qL
  have q0 := fun W (hW : Below w.heap.size w W) => eqInt64S_a (a0.below hW (.inr (Nat.le_refl _))) (g0.below hW (.inr (Nat.le_refl _))) (by omega) (by omega)
  clear a0 g0 hL gL ht gt
  have hde : Hid (decide (d = e) = (decide (d.1 = e.1) && decide (d.2 = e.2))) := by
    show _ = _
    obtain ⟨d1, d2⟩ := d; obtain ⟨e1, e2⟩ := e
    rw [Bool.eq_iff_iff]; simp [Prod.mk.injEq]
  generalize decide (d.1 = e.1) = C0 at *
  generalize decide (d.2 = e.2) = C1 at *
  generalize decide (d = e) = CC at *
  cases C0 with
  | false =>
    replace qL := hide qL
    clear q0
    replace hde : Hid (CC = false) := by show _ = _; first | (rw [hde.out]; rfl) | rw [hde.out]
    go_enter Tryz.func25, Tryz.ntmps25
    go_wp2_with fail
    refine (qL.out _ hb).mono ?_
    rintro r w1 ⟨rfl, hb1⟩
    replace k0 := (hb1.block _ (by omega)).trans k0
    replace k1 := (hb1.block _ (by omega)).trans k1
    replace hb := hb.trans (hb1.mono hb.size)
    replace hz := Nat.lt_of_lt_of_le hz hb1.size
    clear hb1
    have a0 : w1.cell? ⟨w.heap.size, 0, none⟩ = some (.int .i64 s0) := (cell_of_row _ _ 0 _ _ (0, 0) k0).trans rfl
    have b0 : w1.cell? ⟨w.heap.size + 1, 0, none⟩ = some (.int .i64 t0) := (cell_of_row _ _ 0 _ _ (0, 0) k1).trans rfl
    have a1 : w1.cell? ⟨w.heap.size, 1, none⟩ = some (.int .i64 s1) := (cell_of_row _ _ 1 _ _ (0, 0) k0).trans rfl
    have b1 : w1.cell? ⟨w.heap.size + 1, 1, none⟩ = some (.int .i64 t1) := (cell_of_row _ _ 1 _ _ (0, 0) k1).trans rfl
    have a2 : w1.cell? ⟨w.heap.size, 2, none⟩ = some (v2) := (cell_of_row _ _ 2 _ _ (0, 0) k0).trans rfl
    have b2 : w1.cell? ⟨w.heap.size + 1, 2, none⟩ = some (y2) := (cell_of_row _ _ 2 _ _ (0, 0) k1).trans rfl
    have a3 : w1.cell? ⟨w.heap.size, 3, none⟩ = some (v3) := (cell_of_row _ _ 3 _ _ (0, 0) k0).trans rfl
    have b3 : w1.cell? ⟨w.heap.size + 1, 3, none⟩ = some (y3) := (cell_of_row _ _ 3 _ _ (0, 0) k1).trans rfl
    have a4 : w1.cell? ⟨w.heap.size, 4, none⟩ = some (v4) := (cell_of_row _ _ 4 _ _ (0, 0) k0).trans rfl
    have b4 : w1.cell? ⟨w.heap.size + 1, 4, none⟩ = some (y4) := (cell_of_row _ _ 4 _ _ (0, 0) k1).trans rfl
    clear k0 k1 hz
    replace hb := hide hb
    go_wp2_with fail
    go_ret
    exact ⟨ret_b (by first | (rw [hde.out]; rfl) | rw [hde.out]), hb.out⟩
  | true =>
  replace qL := hide qL
  cases C1 with
  | false =>
    replace q0 := hide q0
    go_enter Tryz.func25, Tryz.ntmps25
    go_wp2_with fail
    refine (qL.out _ hb).mono ?_
    rintro r w1 ⟨rfl, hb1⟩
    replace k0 := (hb1.block _ (by omega)).trans k0
    replace k1 := (hb1.block _ (by omega)).trans k1
    replace hb := hb.trans (hb1.mono hb.size)
    replace hz := Nat.lt_of_lt_of_le hz hb1.size
    clear hb1
    have a0 : w1.cell? ⟨w.heap.size, 0, none⟩ = some (.int .i64 s0) := (cell_of_row _ _ 0 _ _ (0, 0) k0).trans rfl
    have b0 : w1.cell? ⟨w.heap.size + 1, 0, none⟩ = some (.int .i64 t0) := (cell_of_row _ _ 0 _ _ (0, 0) k1).trans rfl
    have a1 : w1.cell? ⟨w.heap.size, 1, none⟩ = some (.int .i64 s1) := (cell_of_row _ _ 1 _ _ (0, 0) k0).trans rfl
    have b1 : w1.cell? ⟨w.heap.size + 1, 1, none⟩ = some (.int .i64 t1) := (cell_of_row _ _ 1 _ _ (0, 0) k1).trans rfl
    have a2 : w1.cell? ⟨w.heap.size, 2, none⟩ = some (v2) := (cell_of_row _ _ 2 _ _ (0, 0) k0).trans rfl
    have b2 : w1.cell? ⟨w.heap.size + 1, 2, none⟩ = some (y2) := (cell_of_row _ _ 2 _ _ (0, 0) k1).trans rfl
    have a3 : w1.cell? ⟨w.heap.size, 3, none⟩ = some (v3) := (cell_of_row _ _ 3 _ _ (0, 0) k0).trans rfl
    have b3 : w1.cell? ⟨w.heap.size + 1, 3, none⟩ = some (y3) := (cell_of_row _ _ 3 _ _ (0, 0) k1).trans rfl
    have a4 : w1.cell? ⟨w.heap.size, 4, none⟩ = some (v4) := (cell_of_row _ _ 4 _ _ (0, 0) k0).trans rfl
    have b4 : w1.cell? ⟨w.heap.size + 1, 4, none⟩ = some (y4) := (cell_of_row _ _ 4 _ _ (0, 0) k1).trans rfl
    go_wp2_with fail
    refine (q0.out _ hb).mono ?_
    rintro r w2 ⟨rfl, hb1⟩
    clear a0 b0 a1 b1 a2 b2 a3 b3 a4 b4
    replace k0 := (hb1.block _ (by omega)).trans k0
    replace k1 := (hb1.block _ (by omega)).trans k1
    replace hb := hb.trans (hb1.mono hb.size)
    replace hz := Nat.lt_of_lt_of_le hz hb1.size
    clear hb1
    have a0 : w2.cell? ⟨w.heap.size, 0, none⟩ = some (.int .i64 s0) := (cell_of_row _ _ 0 _ _ (0, 0) k0).trans rfl
    have b0 : w2.cell? ⟨w.heap.size + 1, 0, none⟩ = some (.int .i64 t0) := (cell_of_row _ _ 0 _ _ (0, 0) k1).trans rfl
    have a1 : w2.cell? ⟨w.heap.size, 1, none⟩ = some (.int .i64 s1) := (cell_of_row _ _ 1 _ _ (0, 0) k0).trans rfl
    have b1 : w2.cell? ⟨w.heap.size + 1, 1, none⟩ = some (.int .i64 t1) := (cell_of_row _ _ 1 _ _ (0, 0) k1).trans rfl
    have a2 : w2.cell? ⟨w.heap.size, 2, none⟩ = some (v2) := (cell_of_row _ _ 2 _ _ (0, 0) k0).trans rfl
    have b2 : w2.cell? ⟨w.heap.size + 1, 2, none⟩ = some (y2) := (cell_of_row _ _ 2 _ _ (0, 0) k1).trans rfl
    have a3 : w2.cell? ⟨w.heap.size, 3, none⟩ = some (v3) := (cell_of_row _ _ 3 _ _ (0, 0) k0).trans rfl
    have b3 : w2.cell? ⟨w.heap.size + 1, 3, none⟩ = some (y3) := (cell_of_row _ _ 3 _ _ (0, 0) k1).trans rfl
    have a4 : w2.cell? ⟨w.heap.size, 4, none⟩ = some (v4) := (cell_of_row _ _ 4 _ _ (0, 0) k0).trans rfl
    have b4 : w2.cell? ⟨w.heap.size + 1, 4, none⟩ = some (y4) := (cell_of_row _ _ 4 _ _ (0, 0) k1).trans rfl
    clear k0 k1 hz
    replace hb := hide hb
    go_wp2_with fail
    go_ret
    exact ⟨ret_b (by first | (rw [hde.out]; rfl) | rw [hde.out]), hb.out⟩
  | true =>
  replace q0 := hide q0
  go_enter Tryz.func25, Tryz.ntmps25
  go_wp2_with fail
  refine (qL.out _ hb).mono ?_
  rintro r w1 ⟨rfl, hb1⟩
  replace k0 := (hb1.block _ (by omega)).trans k0
  replace k1 := (hb1.block _ (by omega)).trans k1
  replace hb := hb.trans (hb1.mono hb.size)
  replace hz := Nat.lt_of_lt_of_le hz hb1.size
  clear hb1
  have a0 : w1.cell? ⟨w.heap.size, 0, none⟩ = some (.int .i64 s0) := (cell_of_row _ _ 0 _ _ (0, 0) k0).trans rfl
  have b0 : w1.cell? ⟨w.heap.size + 1, 0, none⟩ = some (.int .i64 t0) := (cell_of_row _ _ 0 _ _ (0, 0) k1).trans rfl
  have a1 : w1.cell? ⟨w.heap.size, 1, none⟩ = some (.int .i64 s1) := (cell_of_row _ _ 1 _ _ (0, 0) k0).trans rfl
  have b1 : w1.cell? ⟨w.heap.size + 1, 1, none⟩ = some (.int .i64 t1) := (cell_of_row _ _ 1 _ _ (0, 0) k1).trans rfl
  have a2 : w1.cell? ⟨w.heap.size, 2, none⟩ = some (v2) := (cell_of_row _ _ 2 _ _ (0, 0) k0).trans rfl
  have b2 : w1.cell? ⟨w.heap.size + 1, 2, none⟩ = some (y2) := (cell_of_row _ _ 2 _ _ (0, 0) k1).trans rfl
  have a3 : w1.cell? ⟨w.heap.size, 3, none⟩ = some (v3) := (cell_of_row _ _ 3 _ _ (0, 0) k0).trans rfl
  have b3 : w1.cell? ⟨w.heap.size + 1, 3, none⟩ = some (y3) := (cell_of_row _ _ 3 _ _ (0, 0) k1).trans rfl
  have a4 : w1.cell? ⟨w.heap.size, 4, none⟩ = some (v4) := (cell_of_row _ _ 4 _ _ (0, 0) k0).trans rfl
  have b4 : w1.cell? ⟨w.heap.size + 1, 4, none⟩ = some (y4) := (cell_of_row _ _ 4 _ _ (0, 0) k1).trans rfl
  go_wp2_with fail
  refine (q0.out _ hb).mono ?_
  rintro r w2 ⟨rfl, hb1⟩
  clear a0 b0 a1 b1 a2 b2 a3 b3 a4 b4
  replace k0 := (hb1.block _ (by omega)).trans k0
  replace k1 := (hb1.block _ (by omega)).trans k1
  replace hb := hb.trans (hb1.mono hb.size)
  replace hz := Nat.lt_of_lt_of_le hz hb1.size
  clear hb1
  have a0 : w2.cell? ⟨w.heap.size, 0, none⟩ = some (.int .i64 s0) := (cell_of_row _ _ 0 _ _ (0, 0) k0).trans rfl
  have b0 : w2.cell? ⟨w.heap.size + 1, 0, none⟩ = some (.int .i64 t0) := (cell_of_row _ _ 0 _ _ (0, 0) k1).trans rfl
  have a1 : w2.cell? ⟨w.heap.size, 1, none⟩ = some (.int .i64 s1) := (cell_of_row _ _ 1 _ _ (0, 0) k0).trans rfl
  have b1 : w2.cell? ⟨w.heap.size + 1, 1, none⟩ = some (.int .i64 t1) := (cell_of_row _ _ 1 _ _ (0, 0) k1).trans rfl
  have a2 : w2.cell? ⟨w.heap.size, 2, none⟩ = some (v2) := (cell_of_row _ _ 2 _ _ (0, 0) k0).trans rfl
  have b2 : w2.cell? ⟨w.heap.size + 1, 2, none⟩ = some (y2) := (cell_of_row _ _ 2 _ _ (0, 0) k1).trans rfl
  have a3 : w2.cell? ⟨w.heap.size, 3, none⟩ = some (v3) := (cell_of_row _ _ 3 _ _ (0, 0) k0).trans rfl
  have b3 : w2.cell? ⟨w.heap.size + 1, 3, none⟩ = some (y3) := (cell_of_row _ _ 3 _ _ (0, 0) k1).trans rfl
  have a4 : w2.cell? ⟨w.heap.size, 4, none⟩ = some (v4) := (cell_of_row _ _ 4 _ _ (0, 0) k0).trans rfl
  have b4 : w2.cell? ⟨w.heap.size + 1, 4, none⟩ = some (y4) := (cell_of_row _ _ 4 _ _ (0, 0) k1).trans rfl
  clear k0 k1 hz
  replace hb := hide hb
  go_wp2_with fail
  go_ret
  exact ⟨ret_b (by first | (rw [hde.out]; rfl) | rw [hde.out]), hb.out⟩

end Go.Proofs.YtnhomkmfbngmgaaGreatDoor

namespace Go.Proofs.YtnhomkmfbngmgaaGreatDoor
open Go.ChangeShapes Go.WideShapes Go.ChangeAt Go.RowKit
set_option linter.unusedVariables false

theorem ArgI.long {w : World} {lo hi : Nat} {v : Value} {d : List Int} (h : ArgI w lo hi v d) : ∃ A n c, v = .slice A n c ∧ SlI w lo hi A n d := by
  obtain ⟨A, n, c, h1, h2, h3⟩ := h
  exact ⟨A, n, c, h1, h3⟩
theorem SlI.top {w : World} {lo hi : Nat} {A : Option Addr} {n : Nat} {l : List Int} (h : SlI w lo hi A n l) (hh : hi ≤ w.heap.size) : SlI w 0 w.heap.size A n l := h.more (Nat.zero_le _) hh

end Go.Proofs.YtnhomkmfbngmgaaGreatDoor

namespace Go.Proofs.YtnhomkmfbngmgaaGreatDoor
open Go.ChangeShapes Go.WideShapes Go.ChangeAt Go.RowKit Go.Sort
set_option linter.unusedVariables false
set_option linter.unusedSimpArgs false

/-- The verdict of a state. -/
def verM (d : DM) (s : Int) : Int := (d.2[s.toNat]?).getD 0
theorem monV_det {d : DM} (h : monV d = true) : detV d.1 = true := by
  unfold monV at h
  rw [Bool.and_eq_true] at h
  exact h.1
theorem monV_lts {d : DM} (h : monV d = true) : ltsV d.1 = true := by
  have := monV_det h
  unfold detV at this
  rw [Bool.and_eq_true] at this
  exact this.1
theorem monV_len {d : DM} (h : monV d = true) : (d.2.length : Int) = d.1.1 := by
  unfold monV at h
  simp only [Bool.and_eq_true, decide_eq_true_eq] at h
  exact h.2.1
theorem lts_states {st ini : Int} {ls : List ByteArray} {es : List Ed} (h : ltsV (st, ini, ls, es) = true) : (1 ≤ st ∧ st ≤ 40) ∧ (0 ≤ ini ∧ ini ≤ st - 1) := by
  unfold ltsV ltsB at h
  simp only [Bool.and_eq_true] at h
  exact ⟨inB_true.1 h.1.1.1.1, inB_true.1 h.1.1.1.2⟩
theorem goE_range {st ini : Int} {ls : List ByteArray} {es : List Ed} (h : ltsV (st, ini, ls, es) = true) (lab : ByteArray) (s : Int) : -1 ≤ goE es ls lab s ∧ goE es ls lab s ≤ st - 1 := by
  have hst := (lts_states h).1
  unfold goE
  cases hf : folE es ls lab s with
  | nil => simp; omega
  | cons a t =>
    have : a ∈ folE es ls lab s := by rw [hf]; simp
    unfold folE at this
    obtain ⟨⟨f, lb, tg⟩, he, rfl⟩ := List.mem_map.1 this
    obtain ⟨k, hk⟩ := List.getElem?_of_mem (List.mem_filter.1 he).1
    have := (edge_of h hk).2.1
    simp
    omega
end Go.Proofs.YtnhomkmfbngmgaaGreatDoor

namespace Go.Proofs.YtnhomkmfbngmgaaGreatDoor
open Go.ChangeShapes Go.WideShapes Go.ChangeAt Go.RowKit
set_option linter.unusedVariables false
set_option linter.unusedSimpArgs false

/-- A byte. -/
def byv (n : Int) : List Value := [.int .u8 n]
abbrev SlU := Sl 1 byv

/-- The source lies in block b; of its bytes at most N are read. -/
def SrcW (w : World) (b N : Nat) : Prop :=
  ∃ (A : Option Addr) (n c : Nat) (code : List Int) (at_ : Nat) (seed : Int), w.heap[b]? = some (.cells #[.slice A n c, .int .i64 (at_ : Int), .int .u64 seed] 139 (0, 0)) ∧ at_ ≤ N ∧ n ≤ maxLen ∧
    SlU w 0 b A n code ∧ ∀ x, x ∈ code → 0 ≤ x ∧ x ≤ 255
/-- What drawing does: the source alone changes. -/
structure SrcTo (w w' : World) (b N : Nat) : Prop where
  src : SrcW w' b N
  only : Only b (b + 1) w w'
  size : w'.heap.size = w.heap.size

section
variable {w w' w2 : World} {b N M : Nat}
theorem SrcW.lt (h : SrcW w b N) : b < w.heap.size := by
  obtain ⟨A, n, c, code, a, s, hb, _⟩ := h
  exact (Array.getElem?_eq_some_iff.1 hb).1
theorem SrcW.more (h : SrcW w b N) (hN : N ≤ M) : SrcW w b M := by
  obtain ⟨A, n, c, code, a, s, hb, ha, r⟩ := h
  exact ⟨A, n, c, code, a, s, hb, Nat.le_trans ha hN, r⟩
theorem SrcW.keep (h : SrcW w b N) (hs : w.heap.size ≤ w'.heap.size) (hk : ∀ k, k ≤ b → w'.heap[k]? = w.heap[k]?) : SrcW w' b N := by
  obtain ⟨A, n, c, code, a, s, hb, ha, hn, hc, r⟩ := h
  exact ⟨A, n, c, code, a, s, (hk b (Nat.le_refl _)).trans hb, ha, hn, hc.keep hs fun k _ h2 _ => hk k (by omega), r⟩
theorem SrcW.below {B : Nat} (h : SrcW w b N) (hb : Below B w w') (hB : b < B) : SrcW w' b N := h.keep hb.size fun k hk => hb.block k (by omega)
theorem SrcTo.refl (h : SrcW w b N) : SrcTo w w b N := ⟨h, Only.refl _ _ _, rfl⟩
theorem Only.trans' {lo hi : Nat} {a w w' : World} (h : Only lo hi a w) (g : Only lo hi w w') : Only lo hi a w' :=
  ⟨g.os.trans h.os, g.tape.trans h.tape, g.output.trans h.output, Nat.le_trans h.size g.size, fun k hk ho => (g.block k (Nat.lt_of_lt_of_le hk h.size) ho).trans (h.block k hk ho)⟩
theorem SrcTo.trans (h : SrcTo w w' b N) (g : SrcTo w' w2 b M) : SrcTo w w2 b M := ⟨g.src, h.only.trans' g.only, g.size.trans h.size⟩
theorem SrcTo.more (h : SrcTo w w' b N) (hN : N ≤ M) : SrcTo w w' b M := ⟨h.src.more hN, h.only, h.size⟩
theorem SrcW.put {A : Option Addr} {n c : Nat} {code : List Int} {a : Nat} {s s' : Int} (hb : w.heap[b]? = some (.cells #[.slice A n c, .int .i64 (a : Int), .int .u64 s] 139 (0, 0))) (hn : n ≤ maxLen) (hc : SlU w 0 b A n code) (hr : ∀ x, x ∈ code → 0 ≤ x ∧ x ≤ 255) (k0 k : Nat) :
    SrcTo w ((((w.drewN k0).setCell ⟨b, 1, none⟩ (.int .i64 ((a : Int) + 1))).setCell ⟨b, 2, none⟩ (.int .u64 s')).drewN k) b (a + 1) := by
  have hlt : b < w.heap.size := (Array.getElem?_eq_some_iff.1 hb).1
  replace hb : (w.drewN k0).heap[b]? = _ := hb
  have hc2 : SlU (w.drewN k0) 0 b A n code := hc.drewN k0
  have hO : Only b (b + 1) w (w.drewN k0) := ⟨rfl, rfl, rfl, Nat.le_refl _, fun _ _ _ => rfl⟩
  have hz : (w.drewN k0).heap.size = w.heap.size := rfl
  generalize w.drewN k0 = W at *
  refine ⟨⟨A, n, c, code, a + 1, s', ?_, Nat.le_refl _, hn, ?_, hr⟩, ?_, ?_⟩
  · have h1 := heap_setCell_same W b 1 _ _ (.int .i64 ((a : Int) + 1)) hb
    have h2 := heap_setCell_same _ b 2 _ _ (.int .u64 s') h1
    exact h2
  · refine Sl.drewN (w := (W.setCell ⟨b, 1, none⟩ (.int .i64 ((a : Int) + 1))).setCell ⟨b, 2, none⟩ (.int .u64 s')) ?_ k
    exact hc2.keep (by simp [World.size_setCell]) fun q _ h2 h3 => (Below.heap_setCell _ _ _ _ (by show q ≠ b; omega)).trans (Below.heap_setCell _ _ _ _ (by show q ≠ b; omega))
  · have h1 := (hO.setCell (p := ⟨b, 1, none⟩) (Nat.le_refl _) (Nat.lt_succ_self _) (.int .i64 ((a : Int) + 1))).setCell (p := ⟨b, 2, none⟩) (Nat.le_refl _) (Nat.lt_succ_self _) (.int .u64 s')
    exact ⟨h1.os, h1.tape, h1.output, h1.size, h1.block⟩
  · show ((W.setCell _ _).setCell _ _).heap.size = _
    rw [World.size_setCell, World.size_setCell]; exact hz
end

end Go.Proofs.YtnhomkmfbngmgaaGreatDoor

namespace Go.Proofs.YtnhomkmfbngmgaaGreatDoor
open Go.ChangeShapes Go.WideShapes Go.ChangeAt Go.RowKit
set_option linter.unusedVariables false
set_option linter.unusedSimpArgs false
theorem Only.grow {lo hi : Nat} {a w w' : World} (h : Only lo hi a w) {row : Option Nat} (g : w.grownBy w' row) (hr : ∀ k, row = some k → a.heap.size ≤ k) : Only lo hi a w' :=
  ⟨g.os.trans h.os, g.tape.trans h.tape, g.output.trans h.output, Nat.le_trans h.size g.size, fun q hq hd => (g.block q (by have := h.size; omega) (fun e => by have := hr q e.symm; omega)).trans (h.block q hq hd)⟩

section
variable {w w' : World} {b N M : Nat}
theorem SrcW.alloc (h : SrcW w b N) (o : Obj) : SrcW (w.alloc o) b N := h.below ((Below.refl w.heap.size w).alloc (Nat.le_refl _) o) h.lt
theorem SrcW.drew (h : SrcW w b N) : SrcW w.drew b N := h
theorem SrcW.drewN (h : SrcW w b N) (k : Nat) : SrcW (w.drewN k) b N := h
theorem SrcW.grow (h : SrcW w b N) {row : Option Nat} (g : w.grownBy w' row) (hr : ∀ k, row = some k → b < k) : SrcW w' b N :=
  h.keep g.size fun q hq => g.block q (by have := h.lt; omega) (fun e => by have := hr q e.symm; omega)
end

end Go.Proofs.YtnhomkmfbngmgaaGreatDoor

namespace Go.Proofs.YtnhomkmfbngmgaaGreatDoor
open Go.ChangeShapes Go.WideShapes Go.ChangeAt Go.RowKit
set_option linter.unusedVariables false
set_option linter.unusedSimpArgs false

theorem Own.litL {α : Type} {f : α → List Value} {w : World} {g base : Nat} {e : TypeId} {x : α} {u : Value} (h : w.heap[g]? = some (.cells #[u] e (0, 0))) (hf : f x = [u]) (hb : base ≤ g) : Own 1 f w base e (some ⟨g, 0, none⟩) 1 1 [x] :=
  ⟨rfl, by simp [hf], .inr ⟨g, 1, #[u], rfl, hb, h, Nat.le_refl _, by unfold maxLen; omega, rfl, by simp [hf]⟩⟩
theorem strv_mapL (l : List ByteArray) : l.flatMap strv = l.map Value.string := by
  induction l with
  | nil => rfl
  | cons x l ih => rw [List.flatMap_cons, ih]; rfl
theorem Own.setS {w : World} {base g n c : Nat} {e : TypeId} {l : List ByteArray} (h : Own 1 strv w base e (some ⟨g, 0, none⟩) n c l) (k : Nat) (x : ByteArray) : Own 1 strv (w.setCell ⟨g, k, none⟩ (.string x)) base e (some ⟨g, 0, none⟩) n c (l.set k x) := by
  rcases h.2.2 with ⟨hv, -⟩ | ⟨g', cap, cur, hv, hb, hg, hnc, hcm, hcs, htake⟩
  · cases hv
  · cases hv
    refine ⟨by rw [List.length_set]; exact h.1, by rw [flat_length flat_strv, List.length_set]; have := h.1; omega, .inr ⟨g, c, cur.setIfInBounds k (.string x), rfl, hb, heap_setCell_same _ _ k _ _ _ hg, hnc, hcm, by simpa using hcs, ?_⟩⟩
    rw [Array.toList_setIfInBounds, List.take_set, htake, strv_mapL, strv_mapL, List.map_set]

theorem step_appL {P : Program} {α : Type} {size bytes : Nat} {f : α → List Value} {t e : TypeId} {w : World} {ops : Array Oper} {o : Oper} {a : Act} {K : Act → World → Prop} {Q : Exit → Act → World → Prop} {E : Prop} (hgd : o.guard = none) (s x : Operand)
    (ho : o.op = .call { callee := .builtin .append, args := #[s, x], argTypes := #[t, t] }) (hE : Elem P t e size bytes) (hf : Flat f size)
    {base n c : Nat} {A : Option Addr} {l : List α} (hs : a.eval s = .slice A n c) (hown : Own size f w base e A n c l)
    {B : Option Addr} {m d lo hi : Nat} {r : List α} (hx : a.eval x = .slice B m d) (hr : Sl size f w lo hi B m r) (hsz : (n + m) * bytes ≤ 140737488355328) (hbase : base ≤ w.heap.size)
    (h : ∀ A' c' w', Own size f w' base e A' (n + m) c' (l ++ r) → w.grownBy w' (Value.slice A n c).ownBlock → Below base w w' →
      ((Value.slice A' (n + m) c').ownBlock = (Value.slice A n c).ownBlock ∨ (Value.slice A' (n + m) c').ownBlock = some w.heap.size) → K (a.put o.dst (.slice A' (n + m) c')) w') :
    if Region.wanted o (yielded ops a.tmps) = true then Oper.wp P o a w K Q else E := by
  have hw : Region.wanted o (yielded ops a.tmps) = true := by simp [Region.wanted, hgd]
  rw [if_pos hw]
  obtain ⟨A', c', w', h1, h2, h3, h4⟩ := run_app w hE hf o.type hown (d := d) hr hsz hbase
  unfold Oper.wp execOp
  simp only [ho, resolve, invoke, builtin, Sem.run_bind, Sem.run_pure, Result.andThen_ok, List.map_toArray, List.map_cons, List.map_nil, hs, hx, h1]
  exact h _ _ _ h2 h3 ((Below.refl _ _).grown h3 hbase fun k hk => (hown.lt k hk).1) h4

end Go.Proofs.YtnhomkmfbngmgaaGreatDoor

namespace Go.Proofs.YtnhomkmfbngmgaaGreatDoor
open Go.ChangeShapes Go.WideShapes Go.ChangeAt Go.RowKit Go.Sort
set_option linter.unusedVariables false
set_option linter.unusedSimpArgs false

def anyL (ls : List ByteArray) (lab : ByteArray) : Bool := ls.any (fun x => decide (x = lab))
theorem str_list_ne3 {a b : ByteArray} (h : ¬ a = b) : (b.toList == a.toList) = false ∧ ¬ b.toList = a.toList := by
  have h1 := str_neq (a := b) (b := a) (fun e => h e.symm)
  exact ⟨h1, fun e => by rw [e, beq_self_eq_true] at h1; cases h1⟩
/-- Where a text stands in a list: -1 if it does not. -/
def FindI (l : List ByteArray) (s : ByteArray) (i : Int) : Prop := (i = -1 ∧ anyL l s = false) ∨ ∃ k : Nat, i = (k : Int) ∧ l[k]? = some s ∧ anyL l s = true
set_option maxRecDepth 100000 in
theorem l11Find_calls (s : ByteArray) (A : Option Addr) (n c : Nat) (l : List ByteArray) (w : World) (lo hi : Nat) (h : SlS w lo hi A n l) (hn : n ≤ 1048576) :
    Calls Tryz.prog 174 #[.slice A n c, .string s] w fun e w' => ∃ i : Int, e = .returned (.int .i64 i) ∧ FindI l s i ∧ w = w' := by
  have hlen := hide h.len
  go_enter Tryz.func174, Tryz.ntmps174
  go_wp2
  go_loop [5] (fun i => ∃ k : Nat, k ≤ n ∧ i = .int .i64 k ∧ Hid ((l.take k).any (fun x => decide (x = s)) = false)) (fun i => n - (intOf i).toNat)
  case atStart => exact ⟨0, Nat.zero_le _, rfl, rfl⟩
  case round =>
    obtain ⟨k, hk, rfl, ha⟩ := hrel
    by_cases hlt : k < n
    · obtain ⟨b, off, x, rfl, g1, g2, g3, hx, c0, -⟩ := SlS.get h hlt
      clear h
      by_cases hq : x = s
      · subst hq
        have hy : Hid (FindI l x (k : Int)) := .inr ⟨k, rfl, hx, any_hit (G := fun y => decide (y = x)) hx (decide_eq_true rfl)⟩
        have hself : (x.toList == x.toList) = true := beq_self_eq_true _
        clear hx
        go_wp2
        go_ret
        exact ⟨_, rfl, hy.out, rfl⟩
      · have hy := hide (any_take_succ ha.out hx (decide_eq_false hq))
        obtain ⟨hne, hne2⟩ := str_list_ne3 hq
        have hne3 : (x.toList == s.toList) = false := by
          have := str_neq (a := x) (b := s) hq
          exact this
        have hne4 : ¬ x.toList = s.toList := fun e => hne2 e.symm
        clear hx hq
        go_wp2
        go_round
        case rel => exact ⟨k + 1, by omega, by go_num, hy⟩
        case measure => simp [intOf]; omega
    · have hkn : k = n := by omega
      subst hkn
      clear h
      have hy := ha.out
      rw [List.take_of_length_le (by rw [hlen.out]; exact Nat.le_refl _)] at hy
      have hf : Hid (FindI l s (-1)) := .inl ⟨rfl, hy⟩
      clear ha hy
      go_wp2
      go_ret
      exact ⟨_, rfl, hf.out, rfl⟩


end Go.Proofs.YtnhomkmfbngmgaaGreatDoor

namespace Go.Proofs
open Go.Shelf
def Tryz.lays106_ren : Go.Shelf.Ren := ⟨fun | 106 => 292 | 213 => 352 | 265 => 378 | n => n, fun | 9 => 9 | 3 => 3 | n => n, fun | n => n⟩
theorem Tryz.lays106 : Go.Proofs.Lays.n106 Tryz.prog Tryz.lays106_ren := {
  mixed := by kernel_rfl
  f106 := Tryz.func292.trans (congrArg some (by kernel_rfl))
  f213 := Tryz.func352.trans (congrArg some (by kernel_rfl))
  f265 := Tryz.func378.trans (congrArg some (by kernel_rfl))
  t3 := Tryz.underlying3
  a3 := Tryz.isAgg3
  z3 := Tryz.sizeOf3
  v3 := Tryz.zeroValue3
  t9 := Tryz.underlying9
  a9 := Tryz.isAgg9
  z9 := Tryz.sizeOf9
  v9 := Tryz.zeroValue9 }
open Go.RowKit in
/-- strings.Compare: "Compare returns an integer comparing two strings lexicographically. The result will be 0 if a == b, -1 if a < b, and +1 if a > b.": IT RETURNS 'Lib.compareBytes a b'; the world is as it was. (LAID: no walk: one application.) -/
theorem Tryz.strings_Compare (a b : ByteArray) (w : World) :
    Calls Tryz.prog 292 #[.string a, .string b] w fun e w' => e = .returned (.int .i64 (Lib.compareBytes a.data.toList b.data.toList)) ∧ w' = w := Any.strings_Compare Tryz.lays106 a b w
def Tryz.lays194_ren : Go.Shelf.Ren := ⟨fun | 194 => 227 | n => n, fun | 31 => 24 | 9 => 9 | 3 => 3 | 4 => 4 | 0 => 0 | n => n, fun | n => n⟩
theorem Tryz.lays194 : Go.Proofs.Lays.n194 Tryz.prog Tryz.lays194_ren := {
  mixed := by kernel_rfl
  f194 := Tryz.func227.trans (congrArg some (by kernel_rfl))
  t0 := Tryz.underlying0
  a0 := Tryz.isAgg0
  z0 := Tryz.sizeOf0
  v0 := Tryz.zeroValue0
  t3 := Tryz.underlying3
  a3 := Tryz.isAgg3
  z3 := Tryz.sizeOf3
  v3 := Tryz.zeroValue3
  t4 := Tryz.underlying4
  a4 := Tryz.isAgg4
  z4 := Tryz.sizeOf4
  v4 := Tryz.zeroValue4
  t9 := Tryz.underlying9
  a9 := Tryz.isAgg9
  z9 := Tryz.sizeOf9
  v9 := Tryz.zeroValue9
  t31 := Tryz.underlying24
  a31 := Tryz.isAgg24
  z31 := Tryz.sizeOf24
  v31 := Tryz.zeroValue24 }
open Go.RowKit Go.Lib Go.Sort in
/-- slices.Compact at []string: "Compact replaces consecutive runs of equal elements with a single copy. This is like the uniq command found on Unix. Compact modifies the contents of the slice s and returns the modified slice, which may have a smaller length. Compact zeroes the elements between the new length and the original length. The result preserves the nilness of s.": IT RETURNS THE SLICE CUT TO 'Lib.compact zs'; ITS CELLS HOLD 'Lib.compact zs', THEN ZERO VALUES up to the old length; all else is as it was, but for the count of draws. IN THE WORDS OF slices.Sort's CONTRACT ('Holds', 'putRow'): so the everyday 'slices.Sort(xs); xs = slices.Compact(xs)' goes from the one contract to the other. It asks 'zs.length ≤ cap' (every slice's: the reslicing 's[:k]' looks at it). Length 0, nil: '.._empty'. (LAID: no walk: one application.) -/
theorem Tryz.slices_Compact_string (blk off cap : Nat) (zs : List (List UInt8)) (w : World) (hH : Holds encStr w blk off zs.toArray) (hsz : zs.length ≤ 9223372036854775807) (hcap : zs.length ≤ cap) :
    Calls Tryz.prog 227 #[.slice (some ⟨blk, off, none⟩) zs.length cap] w fun e w' => e = .returned (.slice (some ⟨blk, off, none⟩) (Lib.compact zs).length cap) ∧ ∃ q, w' = putRow encStr (Sort.ahead w q) blk off (Lib.compact zs ++ List.replicate (zs.length - (Lib.compact zs).length) []).toArray := Any.slices_Compact_string Tryz.lays194 blk off cap zs w hH hsz hcap
open Go.RowKit Go.Lib Go.Sort in
/-- The same at a slice of length 0, a nil one too: it comes back as it is. (LAID: no walk: one application.) -/
theorem Tryz.slices_Compact_string_empty (a : Option Addr) (cap : Nat) (w : World) :
    Calls Tryz.prog 227 #[.slice a 0 cap] w fun e w' => e = .returned (.slice a 0 cap) ∧ w' = w := Any.slices_Compact_string_empty Tryz.lays194 a cap w
end Go.Proofs

namespace Go.Proofs
open Go.Shelf
def Tryz.laysSortF_ren : Go.Shelf.Ren := ⟨fun | 6 => 225 | 15 => 224 | 14 => 291 | 28 => 289 | 29 => 290 | 20 => 344 | 21 => 345 | 22 => 346 | 23 => 347 | 24 => 348 | 25 => 349 | 26 => 350 | 27 => 351 | 46 => 375 | 47 => 340 | 48 => 341 | 49 => 376 | 50 => 377 | 57 => 386 | n => n, fun | 22 => 24 | 24 => 9 | 25 => 221 | 3 => 3 | 39 => 243 | 0 => 0 | 53 => 292 | 55 => 137 | 4 => 4 | 46 => 285 | 45 => 284 | 50 => 289 | 5 => 5 | 9 => 9 | 66 => 327 | 70 => 331 | 76 => 352 | 77 => 353 | n => n, fun | n => n⟩
theorem Tryz.laysSortF : Go.Proofs.SlLaysF.n6 Tryz.prog Tryz.laysSortF_ren := {
  mixed := by kernel_rfl
  f6 := ⟨Tryz.f225.name, by decide, Tryz.func225.trans (congrArg some (by kernel_rfl))⟩
  f14 := ⟨Tryz.f291.name, by decide, Tryz.func291.trans (congrArg some (by kernel_rfl))⟩
  f15 := Tryz.func224.trans (congrArg some (by kernel_rfl))
  f20 := ⟨Tryz.f344.name, by decide, Tryz.func344.trans (congrArg some (by kernel_rfl))⟩
  f21 := ⟨Tryz.f345.name, by decide, Tryz.func345.trans (congrArg some (by kernel_rfl))⟩
  f22 := ⟨Tryz.f346.name, by decide, Tryz.func346.trans (congrArg some (by kernel_rfl))⟩
  f23 := ⟨Tryz.f347.name, by decide, Tryz.func347.trans (congrArg some (by kernel_rfl))⟩
  f24 := ⟨Tryz.f348.name, by decide, Tryz.func348.trans (congrArg some (by kernel_rfl))⟩
  f25 := ⟨Tryz.f349.name, by decide, Tryz.func349.trans (congrArg some (by kernel_rfl))⟩
  f26 := ⟨Tryz.f350.name, by decide, Tryz.func350.trans (congrArg some (by kernel_rfl))⟩
  f27 := ⟨Tryz.f351.name, by decide, Tryz.func351.trans (congrArg some (by kernel_rfl))⟩
  f28 := Tryz.func289.trans (congrArg some (by kernel_rfl))
  f29 := Tryz.func290.trans (congrArg some (by kernel_rfl))
  f46 := ⟨Tryz.f375.name, by decide, Tryz.func375.trans (congrArg some (by kernel_rfl))⟩
  f47 := Tryz.func340.trans (congrArg some (by kernel_rfl))
  f48 := Tryz.func341.trans (congrArg some (by kernel_rfl))
  f49 := ⟨Tryz.f376.name, by decide, Tryz.func376.trans (congrArg some (by kernel_rfl))⟩
  f50 := ⟨Tryz.f377.name, by decide, Tryz.func377.trans (congrArg some (by kernel_rfl))⟩
  f57 := ⟨Tryz.f386.name, by decide, Tryz.func386.trans (congrArg some (by kernel_rfl))⟩
  t0 := Tryz.underlying0
  a0 := Tryz.isAgg0
  z0 := Tryz.sizeOf0
  v0 := Tryz.zeroValue0
  t3 := Tryz.underlying3
  a3 := Tryz.isAgg3
  z3 := Tryz.sizeOf3
  v3 := Tryz.zeroValue3
  t4 := Tryz.underlying4
  a4 := Tryz.isAgg4
  z4 := Tryz.sizeOf4
  v4 := Tryz.zeroValue4
  t5 := Tryz.underlying5
  a5 := Tryz.isAgg5
  z5 := Tryz.sizeOf5
  v5 := Tryz.zeroValue5
  t9 := Tryz.underlying9
  a9 := Tryz.isAgg9
  z9 := Tryz.sizeOf9
  v9 := Tryz.zeroValue9
  t22 := Tryz.underlying24
  a22 := Tryz.isAgg24
  z22 := Tryz.sizeOf24
  v22 := Tryz.zeroValue24
  a24 := Tryz.isAgg9
  z24 := Tryz.sizeOf9
  t25 := Tryz.underlying221
  a25 := Tryz.isAgg221
  z25 := Tryz.sizeOf221
  v25 := Tryz.zeroValue221
  t39 := Tryz.underlying243
  a39 := Tryz.isAgg243
  z39 := Tryz.sizeOf243
  v39 := Tryz.zeroValue243
  t45 := Tryz.underlying284
  a45 := Tryz.isAgg284
  z45 := Tryz.sizeOf284
  v45 := Tryz.zeroValue284
  t46 := Tryz.underlying285
  a46 := Tryz.isAgg285
  z46 := Tryz.sizeOf285
  v46 := Tryz.zeroValue285
  t50 := Tryz.underlying289
  a50 := Tryz.isAgg289
  z50 := Tryz.sizeOf289
  v50 := Tryz.zeroValue289
  t53 := Tryz.underlying292
  a53 := Tryz.isAgg292
  z53 := Tryz.sizeOf292
  v53 := Tryz.zeroValue292
  t55 := Tryz.underlying137
  a55 := Tryz.isAgg137
  z55 := Tryz.sizeOf137
  v55 := Tryz.zeroValue137
  t66 := Tryz.underlying327
  a66 := Tryz.isAgg327
  z66 := Tryz.sizeOf327
  v66 := Tryz.zeroValue327
  t70 := Tryz.underlying331
  a70 := Tryz.isAgg331
  z70 := Tryz.sizeOf331
  v70 := Tryz.zeroValue331
  t76 := Tryz.underlying352
  a76 := Tryz.isAgg352
  z76 := Tryz.sizeOf352
  v76 := Tryz.zeroValue352
  t77 := Tryz.underlying353
  a77 := Tryz.isAgg353
  z77 := Tryz.sizeOf353
  v77 := Tryz.zeroValue353 }
open Go.Shelf Go.RowKit Go.Lib Go.Sort in
theorem Tryz.slices_SortFunc_string (cf : List UInt8 → List UInt8 → Int) (hO : SWO (ltOf cf)) (g : Nat) (cb : Array Value) (blk off cap : Nat) (d : Array (List UInt8)) (w : World) (eg : ∀ args w, (callFunc g args).run Tryz.prog w = .ok (.enter g args) w) (hcmp : CmpLays1 Tryz.prog g cb encStr cf blk off d.size w) (hH : Holds encStr w blk off d) (hblk : blk < w.heap.size) (hsz : d.size < 4611686018427387904) (hT : ∀ x y, (ltOf cf) x y = false → (ltOf cf) y x = false → x = y) :
    Calls Tryz.prog 225 #[.slice (some ⟨blk, off, none⟩) d.size cap, .func (.func g) #[] cb] w fun e w' =>
      e = .returned (.tuple #[]) ∧ ∃ n os, w' = sortWorld encStr w blk off n (d.toList.mergeSort fun x y => !(ltOf cf) y x).toArray os := Any.slices_SortFunc_total Tryz.laysSortF encStr (fun _ => rfl) cf hO g cb blk off cap d w eg hcmp hH hblk hsz hT
open Go.Shelf Go.RowKit Go.Lib Go.Sort in
theorem Tryz.slices_SortFunc_string_none (p : Option Addr) (cap : Nat) (fv : Value) (w : World) :
    Calls Tryz.prog 225 #[.slice p 0 cap, fv] w fun e w' => e = .returned (.tuple #[]) ∧ w' = w := AnyF.slices_SortFunc_none { Tryz.laysSortF with } p cap fv w
end Go.Proofs

namespace Go.Proofs.YtnhomkmfbngmgaaGreatDoor
set_option linter.unusedVariables false
set_option linter.unusedSimpArgs false

/-- Reached from the states with P by internal edges. -/
inductive TauC (es : List Ed) (ls : List ByteArray) (P : Int → Prop) : Int → Prop where
  | base {v : Int} (h : P v) : TauC es ls P v
  | step {e : Ed} (h : TauC es ls P e.1) (he : e ∈ es) (hl : ls[e.2.1.toNat]? = some tauB) : TauC es ls P e.2.2

theorem TauC.imp {es : List Ed} {ls : List ByteArray} {P Q : Int → Prop} (h : ∀ v, P v → Q v) {v : Int} (hv : TauC es ls P v) : TauC es ls Q v := by
  induction hv with
  | base h1 => exact .base (h _ h1)
  | step _ he hl ih => exact .step ih he hl
end Go.Proofs.YtnhomkmfbngmgaaGreatDoor

namespace Go.Proofs.YtnhomkmfbngmgaaGreatDoor
set_option linter.unusedVariables false
set_option linter.unusedSimpArgs false

section
variable {K na nb : Int} {ea : List Ed} {la : List ByteArray} {eb : List Ed} {lb : List ByteArray}
end
/-- The first round in which a pair is missing, or -1. -/
def MisV (S : Nat → Rel2) (i j : Int) (m : Int) : Prop := (m = -1 ∧ ∀ r, S r i j) ∨ ∃ r : Nat, m = (r : Int) ∧ ¬ S r i j ∧ ∀ k, k < r → S k i j
theorem MisV.uniq {S : Nat → Rel2} {i j m m' : Int} (h : MisV S i j m) (g : MisV S i j m') : m = m' := by
  rcases h with ⟨rfl, h⟩ | ⟨r, rfl, h1, h2⟩
  · rcases g with ⟨rfl, -⟩ | ⟨r, rfl, g1, -⟩
    · rfl
    · exact absurd (h r) g1
  · rcases g with ⟨rfl, g⟩ | ⟨r', rfl, g1, g2⟩
    · exact absurd (g r) h1
    · rcases Nat.lt_trichotomy r r' with h3 | h3 | h3
      · exact absurd (g2 r h3) h1
      · rw [h3]
      · exact absurd (h2 r' h3) g1
/-- A search that has come to a round from which nothing changes. -/
theorem MisV.stop {S : Nat → Rel2} {i j : Int} {n : Nat} (h1 : ∀ k, k ≤ n → S k i j) (h2 : ∀ k, S n i j → S (n + k) i j) : MisV S i j (-1) :=
  .inl ⟨rfl, fun r => by
    rcases Nat.lt_or_ge n r with h3 | h3
    · obtain ⟨k, rfl⟩ : ∃ k, r = n + k := ⟨r - n, by omega⟩
      exact h2 k (h1 n (Nat.le_refl _))
    · exact h1 r h3⟩

end Go.Proofs.YtnhomkmfbngmgaaGreatDoor

namespace Go.Proofs.YtnhomkmfbngmgaaGreatDoor
open Go.Lib Go.Sort
set_option linter.unusedVariables false
set_option linter.unusedSimpArgs false

theorem cb_less : ∀ a b : List UInt8, Lib.compareBytes a b < 0 ↔ Op.bytesLess a b = true
  | [], [] => by simp [Lib.compareBytes, Op.bytesLess]
  | [], _ :: _ => by simp [Lib.compareBytes, Op.bytesLess]
  | _ :: _, [] => by simp [Lib.compareBytes, Op.bytesLess]
  | x :: a, y :: b => by
    have ih := cb_less a b
    unfold Lib.compareBytes Op.bytesLess
    by_cases h1 : x < y
    · simp [h1]
    · by_cases h2 : y < x
      · have h3 : ¬ x = y := fun e => by subst e; exact h1 h2
        simp [h1, h2, h3]
      · have h3 : x = y := by
          rw [UInt8.lt_iff_toNat_lt] at h1 h2
          exact UInt8.toNat_inj.1 (by omega)
        subst h3
        simp [h1, ih]
theorem bl_cases (a b : List UInt8) : Op.bytesLess a b = true ∨ a = b ∨ Op.bytesLess b a = true := by
  have := bytesLess_total a b
  by_cases h1 : Op.bytesLess a b = true
  · exact .inl h1
  · by_cases h2 : a = b
    · exact .inr (.inl h2)
    · have h3 : (a == b) = false := by simpa using h2
      rw [Bool.eq_false_iff.2 h1, h3] at this
      exact .inr (.inr this.symm)
def tauBL : List UInt8 := [116, 97, 117]
/-- The program's order of labels. -/
def cmpB (x y : List UInt8) : Int := if x = y then 0 else if x = tauBL then -1 else if y = tauBL then 1 else Lib.compareBytes x y
abbrev ltL := ltOf cmpB
theorem ltL_iff (x y : List UInt8) : ltL x y = true ↔ x ≠ y ∧ (x = tauBL ∨ (y ≠ tauBL ∧ Op.bytesLess x y = true)) := by
  unfold ltL ltOf cmpB
  rw [decide_eq_true_eq]
  by_cases h1 : x = y
  · simp [h1]
  · by_cases h2 : x = tauBL
    · rw [if_neg h1, if_pos h2]
      exact ⟨fun _ => ⟨h1, .inl h2⟩, fun _ => by omega⟩
    · by_cases h3 : y = tauBL
      · rw [if_neg h1, if_neg h2, if_pos h3]
        exact ⟨fun h => by omega, fun ⟨_, h⟩ => by rcases h with h | h; exact absurd h h2; exact absurd h3 h.1⟩
      · rw [if_neg h1, if_neg h2, if_neg h3, cb_less]
        exact ⟨fun h => ⟨h1, .inr ⟨h3, h⟩⟩, fun ⟨_, h⟩ => by rcases h with h | h; exact absurd h h2; exact h.2⟩
theorem ltL_total (x y : List UInt8) : ltL x y = true ∨ x = y ∨ ltL y x = true := by
  rw [ltL_iff, ltL_iff]
  by_cases h1 : x = y
  · exact .inr (.inl h1)
  · by_cases h2 : x = tauBL
    · exact .inl ⟨h1, .inl h2⟩
    · by_cases h3 : y = tauBL
      · exact .inr (.inr ⟨fun e => h1 e.symm, .inl h3⟩)
      · rcases bl_cases x y with h | h | h
        · exact .inl ⟨h1, .inr ⟨h3, h⟩⟩
        · exact absurd h h1
        · exact .inr (.inr ⟨fun e => h1 e.symm, .inr ⟨h2, h⟩⟩)
theorem ltL_irr (x : List UInt8) : ltL x x = false := Bool.eq_false_iff.2 fun h => ((ltL_iff x x).1 h).1 rfl
theorem ltL_trans {x y z : List UInt8} (h : ltL x y = true) (g : ltL y z = true) : ltL x z = true := by
  rw [ltL_iff] at h g ⊢
  obtain ⟨h1, h2⟩ := h
  obtain ⟨g1, g2⟩ := g
  rcases h2 with h2 | ⟨h2, h3⟩
  · refine ⟨fun e => ?_, .inl h2⟩
    rcases g2 with g2 | ⟨g2, g3⟩
    · exact h1 (h2.trans g2.symm)
    · exact g2 (e.symm.trans h2)
  · rcases g2 with g2 | ⟨g2, g3⟩
    · exact absurd g2 h2
    · refine ⟨fun e => ?_, .inr ⟨g2, bytesLess_trans h3 g3⟩⟩
      subst e
      have := bytesLess_trans h3 g3
      rw [bytesLess_irrefl] at this
      cases this
theorem ltL_asym {x y : List UInt8} (h : ltL x y = true) (g : ltL y x = true) : False := by
  have := ltL_trans h g
  rw [ltL_irr] at this
  cases this
theorem swoL : SWO ltL where
  irrefl := ltL_irr
  trans x y z h g := ltL_trans h g
  ntrans x y z h g := Bool.eq_false_iff.2 fun k => by
    rcases ltL_total y x with h1 | h1 | h1
    · have := ltL_trans h1 k
      rw [g] at this
      cases this
    · subst h1
      rw [g] at k
      cases k
    · rw [h] at h1
      cases h1
theorem apartL (x y : List UInt8) (h : ltL x y = false) (g : ltL y x = false) : x = y := by
  rcases ltL_total x y with h1 | h1 | h1
  · rw [h] at h1; cases h1
  · exact h1
  · rw [g] at h1; cases h1

/-- Two rising lists with the same members are the same. -/
theorem rise_ext {α : Type} {r : α → α → Prop} (irr : ∀ a, ¬ r a a) (asy : ∀ a b, r a b → r b a → False) : ∀ {l m : List α}, l.Pairwise r → m.Pairwise r → (∀ x, x ∈ l ↔ x ∈ m) → l = m
  | [], [], _, _, _ => rfl
  | [], b :: m, _, _, h => by have := (h b).2 (List.mem_cons_self ..); cases this
  | a :: l, [], _, _, h => by have := (h a).1 (List.mem_cons_self ..); cases this
  | a :: l, b :: m, hl, hm, h => by
    obtain ⟨l1, l2⟩ := List.pairwise_cons.1 hl
    obtain ⟨m1, m2⟩ := List.pairwise_cons.1 hm
    have hab : a = b := by
      rcases List.mem_cons.1 ((h a).1 (List.mem_cons_self ..)) with e | e
      · exact e
      · rcases List.mem_cons.1 ((h b).2 (List.mem_cons_self ..)) with e2 | e2
        · exact e2.symm
        · exact (asy _ _ (l1 b e2) (m1 a e)).elim
    subst hab
    congr 1
    refine rise_ext irr asy l2 m2 fun x => ⟨fun hx => ?_, fun hx => ?_⟩
    · rcases List.mem_cons.1 ((h x).1 (List.mem_cons_of_mem _ hx)) with e | e
      · subst e; exact (irr _ (l1 _ hx)).elim
      · exact e
    · rcases List.mem_cons.1 ((h x).2 (List.mem_cons_of_mem _ hx)) with e | e
      · subst e; exact (irr _ (m1 _ hx)).elim
      · exact e
theorem compactL_mem {l : List (List UInt8)} {x : List UInt8} : x ∈ Lib.compact l ↔ x ∈ l := by
  unfold Lib.compact Lib.compactUpTo
  rw [List.mem_map]
  constructor
  · rintro ⟨k, hk, rfl⟩
    have hk' := List.mem_range.1 (List.mem_filter.1 hk).1
    rw [getElem!_pos _ k (by simpa using hk')]
    simp
  · intro hx
    obtain ⟨k, hk, rfl⟩ := List.mem_iff_getElem.1 hx
    have key : ∀ k, (hk : k < l.length) → ∃ a, a ∈ (List.range l.length).filter (Lib.keeps l.toArray) ∧ l.toArray[a]! = l[k] := by
      intro k
      induction k with
      | zero => exact fun hk => ⟨0, List.mem_filter.2 ⟨List.mem_range.2 hk, by simp [Lib.keeps]⟩, by rw [getElem!_pos _ 0 (by simpa using hk)]; simp⟩
      | succ k ih =>
        intro hk
        by_cases h : l.toArray[k + 1]! = l.toArray[k]!
        · obtain ⟨a, ha, e⟩ := ih (by omega)
          refine ⟨a, ha, ?_⟩
          rw [e]
          rw [getElem!_pos _ (k + 1) (by simpa using hk), getElem!_pos _ k (by simp; omega)] at h
          simpa using h.symm
        · exact ⟨k + 1, List.mem_filter.2 ⟨List.mem_range.2 hk, Lib.keeps_pos (by simpa using h)⟩, by rw [getElem!_pos _ (k + 1) (by simpa using hk)]; simp⟩
    exact key k hk
/-- A list that does not fall becomes a rising one. -/
theorem compact_rise {l : List (List UInt8)} (h : l.Pairwise fun x y => ltL y x = false) : (Lib.compact l).Pairwise fun x y => ltL x y = true := by
  unfold Lib.compact Lib.compactUpTo
  rw [List.pairwise_map]
  refine List.Pairwise.imp_of_mem (fun {p q} hp hq hpq => ?_) (List.Pairwise.filter _ (List.pairwise_lt_range (n := l.length)))
  obtain ⟨hp1, -⟩ := List.mem_filter.1 hp
  obtain ⟨hq1, hq2⟩ := List.mem_filter.1 hq
  have hp1 := List.mem_range.1 hp1
  have hq1 := List.mem_range.1 hq1
  unfold Lib.keeps at hq2
  rw [decide_eq_true_eq] at hq2
  have hne : l.toArray[q]! ≠ l.toArray[q - 1]! := hq2.resolve_left (by omega)
  rw [getElem!_pos _ q (by simpa using hq1), getElem!_pos _ (q - 1) (by simp; omega)] at hne
  rw [getElem!_pos _ p (by simpa using hp1), getElem!_pos _ q (by simpa using hq1)]
  simp only [List.getElem_toArray] at hne ⊢
  have h1 := List.pairwise_iff_getElem.1 h (q - 1) q (by omega) hq1 (by omega)
  have h2 : ltL l[q - 1] l[q] = true := by
    rcases ltL_total l[q - 1] l[q] with g | g | g
    · exact g
    · exact absurd g.symm hne
    · rw [h1] at g; cases g
  by_cases e : p = q - 1
  · subst e; exact h2
  · have h3 := List.pairwise_iff_getElem.1 h p (q - 1) hp1 (by omega) (by omega)
    rcases ltL_total l[p] l[q - 1] with g | g | g
    · exact ltL_trans g h2
    · rw [g]; exact h2
    · rw [h3] at g; cases g
theorem sortL_rise (l : List (List UInt8)) : (l.mergeSort fun x y => !(ltL y x)).Pairwise fun x y => ltL y x = false := by
  refine (List.pairwise_mergeSort (le := fun x y => !(ltL y x)) (fun a b c h g => ?_) (fun a b => ?_) l).imp fun {a b} h => ?_
  · simp only [Bool.not_eq_true'] at h g ⊢
    exact swoL.ntrans c b a g h
  · cases h : ltL b a with
    | false => simp [h]
    | true =>
      have : ltL a b = false := Bool.eq_false_iff.2 fun g => ltL_asym h g
      simp [this]
  · simpa using h
def toL (s : ByteArray) : List UInt8 := s.data.toList
def ofL (l : List UInt8) : ByteArray := ⟨l.toArray⟩
theorem ofL_toL (s : ByteArray) : ofL (toL s) = s := by unfold ofL toL; rfl
theorem toL_ofL (l : List UInt8) : toL (ofL l) = l := by unfold ofL toL; simp
theorem toL_eq (s : ByteArray) : s.toList = toL s := by
  obtain ⟨⟨x⟩⟩ := s
  exact ByteArray.toList_mk x
theorem toL_inj {a b : ByteArray} (h : toL a = toL b) : a = b := by rw [← ofL_toL a, h, ofL_toL]
theorem toL_tau : toL tauB = tauBL := by rw [← toL_eq, tau_list]; rfl
end Go.Proofs.YtnhomkmfbngmgaaGreatDoor
