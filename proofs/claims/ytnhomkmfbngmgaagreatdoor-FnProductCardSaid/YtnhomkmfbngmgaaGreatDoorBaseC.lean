/-
  Lemmas that the law of this claim leans on. Conditions: sizes.
-/
import Derived.Test.YtnhomkmfbngmgaaGreatDoorBaseA
import Derived.Test.YtnhomkmfbngmgaaGreatDoorBaseB
import Derived.Lib.QuietBelow
import Derived.BigQuiet
import Derived.Laws.Cover1
import Derived.IntWalk
import Derived.Deep.RegionHeld3
import Derived.Ground.SlsfProg
import Derived.Shelf.SlSortCmp.NoneTotal
import Derived.Sort.EncStr
import Derived.Shelf.SlGeneric
import Derived.Test.YtnhomkmfbngmgaaGreatDoorProg
import Derived.Test.YtnhomkmfbngmgaaGreatDoorChecked
import Derived.StillTailTactics
import Derived.Deep.QuietTactic
import Derived.Deep.CutBlock
import Derived.Deep.DeepCutAuto
import Derived.Lib.SliceRun
import Derived.Shelf.Strings.Builder1
import Derived.Shelf.Strings.Builder2
import Derived.Shelf.Strings.OnBuilder
import Derived.Shelf.Small.Bits
import Derived.Shelf.Small.Strs
import Derived.Shelf.Strings.BuilderF
import Derived.Shelf.Strings.BuilderK
import Derived.Shelf.Utf8.RuneCount
import Derived.Shelf.Strings.Builder2Cap
import Derived.Shelf.Strconv.Itoa0
import Derived.Shelf.Strconv.Itoa1
import Derived.Shelf.LaysM
import Derived.Shelf.Strconv.Itoa2
import Derived.Shelf.Strconv.Itoa3
import Derived.Shelf.Strconv.Itoa4
import Derived.Shelf.Strconv.ParseIntEmpty
import Derived.Shelf.Strconv.Clone
import Derived.Shelf.Strconv.SyntaxError
import Derived.Shelf.LaysC
import Derived.Shelf.Strconv.ToError
import Derived.Shelf.Strconv.Lower
import Derived.Shelf.Strconv.ParseUint10
import Derived.Shelf.Strconv.ParseUint10Empty
import Derived.Shelf.Strconv.ParseUint10Any
import Derived.Shelf.Strconv.ParseInt10
import Derived.Shelf.Strconv.RangeError
import Derived.Shelf.Strconv.ToErrorRange
import Derived.Shelf.Strconv.ParseUintEmpty
import Derived.Shelf.Strconv.ParseUint10b64
import Derived.Shelf.Strconv.ParseUint10b32
import Derived.Shelf.Strconv.ParseUint10b16
import Derived.Shelf.Strconv.ParseUint10b8
import Derived.Shelf.Strconv.ParseUint10At
import Derived.Shelf.Strconv.ParseInt10At64
import Derived.Shelf.Strconv.ParseInt10At32
import Derived.Shelf.Strconv.ParseInt10At16
import Derived.Shelf.Strconv.ParseInt10At8
import Derived.Shelf.Strconv.ParseInt10All
import Derived.Shelf.Strconv.ParseIntPublic10
import Derived.Shelf.Strconv.ErrVarParseInt
import Derived.Shelf.Strings.Search1
import Derived.Shelf.Strings.Search2
import Derived.Shelf.Strings.Search3
import Derived.Shelf.Strings.Cut
import Derived.Shelf.Strings.Count
import Derived.Shelf.Strings.Shaped
import Derived.Shelf.Strings.Prefix
import Derived.Shelf.Strings.Split
import Derived.Shelf.Strings.SplitShaped
import Derived.Shelf.Unicode.Decode
import Derived.Shelf.Strings.RuneCount
import Derived.Shelf.Strings.Explode
import Derived.Shelf.Bits.Mul64
import Derived.Shelf.Unicode.DecodeSlow
import Derived.Shelf.Unicode.DecodeAny
import Derived.Shelf.Strings.BuilderCap
import Derived.Shelf.Slices.Turned
import Derived.Shelf.Slices.Equal
import Derived.Ground.Names2Prog
import Derived.Shelf.Slices.Clone
import Derived.Shelf.Slices.CompactS
import Derived.Shelf.Slices.Cells
import Derived.Shelf.Slices.Empties2
import Derived.Ground.SlgnProg
import Derived.Shelf.SlicesG.Turned
import Derived.Shelf.SlicesG.Clone
import Derived.Shelf.SlicesG.CompactI
import Derived.Shelf.SlicesG.SearchI
import Derived.Shelf.SlicesG.Cells
import Derived.Shelf.SlicesE.Clone
import Derived.Ground.SlgcProg
import Derived.Shelf.SlicesG.Cmp
import Derived.Shelf.SlSortCmp.Insertion
import Derived.Ground.SlgmProg
import Derived.Shelf.SortM.Plain
import Derived.Shelf.SortM.SortNone
import Derived.Shelf.SlSortCmp.SiftDown1
import Derived.Shelf.SlSortCmp.HeapSort1
import Derived.Shelf.SlSortCmp.Insertion1
import Derived.Shelf.SlSortCmp.Median1
import Derived.Shelf.SlSortCmp.Pivot1
import Derived.Shelf.SlSortCmp.ReverseRange1
import Derived.Shelf.SlSortCmp.PartialInsertion1
import Derived.Shelf.SlSortCmp.PartitionEqual1
import Derived.Shelf.SlSortCmp.Partition1
import Derived.Shelf.SlSortCmp.Pdq1
import Derived.Shelf.SlSortCmp.Whole1
set_option maxHeartbeats 6400000
set_option maxRecDepth 100000
set_option linter.unusedSimpArgs false
set_option linter.unusedVariables false
namespace Go.Proofs.YtnhomkmfbngmgaaGreatDoor
open Go.ChangeShapes Go.WideShapes Go.ChangeAt Go.RowKit
theorem nameL_tau : nameL tauL = true := by decide
def numsR (l : List UInt8) : Option (List Int) := if (Lib.cut l [40]).2.2 then numsOf numS (splitC 44 (Lib.trimSuffix (Lib.cut l [40]).2.1 [41])) else some []
theorem labS_none {s : ByteArray} (h : numsR s.data.toList = none) : labS s = false := by
 unfold labS;rw [← valsP_eq nameL nameL_tau];unfold valsP;rw [numP_fun];unfold numsR at h;rw [h]
 rfl
theorem labS_some {s : ByteArray} {ns : List Int} (h : numsR s.data.toList = some ns) : labS s = decide (labOf nameL (Lib.cut s.data.toList [40]).1 ns = some s.data.toList) := by
 unfold labS;rw [← valsP_eq nameL nameL_tau];unfold valsP;rw [numP_fun];unfold numsR at h;rw [h]
 by_cases hc : labOf nameL (Lib.cut s.data.toList [40]).1 ns = some s.data.toList
 ·simp only [if_pos hc, decide_eq_true hc]
  rfl
 ·simp only [if_neg hc, decide_eq_false hc]
  rfl
theorem Sl.laid (w : World) (t : TypeId) (l : List ByteArray) (lo : Nat) (hlo : lo ≤ w.heap.size) : SlS (w.alloc (.cells (l.map Value.string).toArray t)) lo (w.heap.size + 1) (some ⟨w.heap.size, 0, none⟩) l.length l := by
 refine ⟨rfl, fun _ => ⟨w.heap.size, 0, rfl, hlo, by omega, by simp, fun k x hx j u hu => ?_⟩⟩
 match j, hu with
 | 0, hu =>
  simp [strv] at hu
  subst hu;simp only [Nat.zero_add, Nat.mul_one, Nat.add_zero];have hg := heap_alloc_new w (.cells (l.map Value.string).toArray t);refine ⟨(cell_of_row _ _ k _ t (0, 0) hg).trans ?_, frozen_of_row _ _ _ _ t hg⟩
  simp [hx]
theorem split_data (t : ByteArray) : (Lib.splitB ⟨#[44]⟩ 0 (Lib.countB t ⟨#[44]⟩) t).map (·.data.toList) = splitC 44 t.data.toList := by
 rw [Lib.splitB_data, ← split_one]
 rfl
theorem split_calls (t : ByteArray) (w : World) (hs : t.size ≤ 1048576) (he : Env w) :
  Calls Tryz.prog 50 #[.string t, .string ⟨#[44]⟩] w fun e w' => ∃ A n PB, e = .returned (.slice A n n) ∧ SlS w' w.heap.size w'.heap.size A n PB ∧ dataL PB = splitC 44 t.data.toList ∧ n ≤ 1048577 ∧ (∀ s ∈ PB, s.size ≤ 1048576) ∧ Below w.heap.size w w' := by
 have hc := Lib.splitB_all ⟨#[44]⟩ (by decide) 0 _ t rfl;have hd := split_data t;refine (Tryz.strings_Split_shaped t ⟨#[44]⟩ w he.good.shape (by omega) (by decide)).mono ?_;rintro e w' ⟨rfl, rfl⟩;generalize Lib.splitB ⟨#[44]⟩ 0 (Lib.countB t ⟨#[44]⟩) t = PB at *;rw [← hc];refine ⟨_, _, PB, rfl, ?_, hd, ?_, ?_, bR.alloc zR _⟩
 ·rw [World.size_alloc]
  exact Sl.laid w _ PB _ zR
 ·have h1 := splitC_len 44 t.data.toList
  rw [← hd, List.length_map, bsize] at h1;omega
 ·intro s hsm
  have h1 := splitC_mem_len 44 t.data.toList s.data.toList (by rw [← hd]; exact List.mem_map.2 ⟨s, hsm, rfl⟩);rw [bsize, bsize] at h1;omega
def ReadLab (w w' : World) (s : ByteArray) (e : Ending) : Prop := ∃ nm A n c, e = .returned (.tuple #[.string nm, .slice A n c, .bool (labS s)]) ∧ nm = (if labS s then mkB (Lib.cut s.data.toList [40]).1 else ⟨#[]⟩) ∧ Below w.heap.size w w'
theorem readLabel_calls (s : ByteArray) (w : World) (hs : s.size ≤ 1048576) (he : Env w) :
  Calls Tryz.prog 186 #[.string s] w fun e w' => ReadLab w w' s e := by
 have q0 : Calls Tryz.prog 252 #[.string s, .string ⟨#[40]⟩] w fun e w' => e = .returned (.tuple #[.string (mkB (Lib.cut s.data.toList [40]).1), .string (mkB (Lib.cut s.data.toList [40]).2.1), .bool (Lib.cut s.data.toList [40]).2.2]) ∧ Below w.heap.size w w' :=
  (Tryz.strings_Cut_shaped s ⟨#[40]⟩ w he.good.shape (by omega)).mono fun e w' ⟨a, n, b⟩ => ⟨a, b ▸ below_drewN w n⟩
 have hS := @labS_some s;have hN := @labS_none s;have hlen : (Lib.cut s.data.toList [40]).1.length ≤ 1048576 ∧ (Lib.cut s.data.toList [40]).2.1.length ≤ 1048576 := by
  unfold Lib.cut;have := bsize s
  split <;> simp only [List.length_take, List.length_drop, List.length_nil] <;> omega
 unfold numsR at hS hN;generalize hcut : Lib.cut s.data.toList [40] = C at *;obtain ⟨a, b, more⟩ := C;dsimp only at *;replace hcut := hide hcut;have has : (mkB a).size ≤ 1048576 := by rw [mkB_size]; exact hlen.1
 replace q0 := hide q0;have q5 := fun (A : Option Addr) (n c : Nat) (L : List Int) (W : World) (lo hi : Nat) (h : SlI W lo hi A n L) (hn : n ≤ 1048577) (hW : Below w.heap.size w W) => labelOf_calls (mkB a) A n c L W lo hi has h hn (he.below hW zR)
 rw [mkB_data] at q5;replace q5 := hide q5
 cases more with
 | false =>
  have hS2 := hide (hS (ns := []) rfl);clear hS hN he;go_enter Tryz.func186, Tryz.ntmps186;go_wp2_with fail;refine q0.out.mono ?_;rintro e w1 ⟨rfl, hb1⟩;go_wp2_with fail;refine (q5.out none 0 0 [] w1 0 0 Sl.nil_ (by omega) hb1).mono ?_;rintro e w9 ⟨t, ok, rfl, hok, hb9⟩;replace hb9 := hb1.trans (hb9.mono hb1.size)
  cases ok with
  | false =>
   have hv : Hid (labS s = false) := by
    show _ = _
    rw [hS2.out, hok]
    simp
   clear hS2 hok;go_wp2_with fail
   go_returns
   exact ⟨⟨#[]⟩, none, 0, 0, by rw [hv.out]; rfl, by rw [hv.out]; rfl, hb9⟩
  | true =>
   by_cases hts : t = s
   ·have hv : Hid (labS s = true) := by
     show _ = _
     rw [hS2.out, hok, hts]
     simp
    subst hts;clear hS2 hok;go_wp2_with fail
    go_returns
    exact ⟨mkB a, none, 0, 0, by rw [hv.out]; rfl, by rw [hv.out, hcut.out]; rfl, hb9⟩
   ·have hv : Hid (labS s = false) := by
     show _ = _
     rw [hS2.out, hok, decide_eq_false_iff_not];intro e
     apply hts
     have := Option.some.inj e;rw [← bytes_eta t, this, bytes_eta]
    have hne := str_neq hts;clear hS2 hok hts;go_wp2_with fail
    go_returns
    exact ⟨⟨#[]⟩, none, 0, 0, by rw [hv.out]; rfl, by rw [hv.out]; rfl, hb9⟩
 | true =>
  simp only [if_true] at hS hN;have q1 : ∀ W, Calls Tryz.prog 253 #[.string (mkB b), .string ⟨#[41]⟩] W fun e w' => e = .returned (.string (mkB (Lib.trimSuffix b [41]))) ∧ w' = W := fun W => Tryz.strings_TrimSuffix (mkB b) ⟨#[41]⟩ W (by rw [mkB_size]; omega)
  have htl : (Lib.trimSuffix b [41]).length ≤ 1048576 := by
   unfold Lib.trimSuffix
   split
   ·rw [List.length_take]; omega
   ·exact hlen.2
  have q2 := fun (W : World) (hW : Below w.heap.size w W) => split_calls (mkB (Lib.trimSuffix b [41])) W (by rw [mkB_size]; exact htl) (he.below hW zR)
  rw [mkB_data] at q2;have q3 := fun (A : Option Addr) (n c : Nat) (l : List ByteArray) (W : World) (lo hi : Nat) (h : SlS W lo hi A n l) (hn : n ≤ 1048577) (hss : ∀ s ∈ l, s.size ≤ 1048576) (hW : Below w.heap.size w W) => readNumbers_calls A n c l W lo hi h hn hss (he.below hW zR)
  replace q1 := hide q1;replace q2 := hide q2;replace q3 := hide q3;clear he htl hlen
  cases hns : numsOf numS (splitC 44 (Lib.trimSuffix b [41])) with
  | none =>
   have hv : Hid (labS s = false) := hN hns;replace hns := hide hns;clear hS hN q5;go_enter Tryz.func186, Tryz.ntmps186;go_wp2_with fail;refine q0.out.mono ?_;rintro e w1 ⟨rfl, hb1⟩;go_wp2_with fail;refine (q1.out _).mono ?_;rintro e w2 ⟨rfl, rfl⟩;go_wp2_with fail;refine (q2.out _ hb1).mono ?_;rintro e w3 ⟨A3, n3, PB, rfl, hsl, hdat, hn3, hps, hb3⟩;replace hb3 := hb1.trans (hb3.mono hb1.size);have q4 := q3.out A3 n3 n3 PB w3 _ _ hsl hn3 hps hb3;rw [hdat, hns.out] at q4;replace q4 := hide q4;clear hsl hdat hps;go_wp2_with fail;refine q4.out.mono ?_;rintro e w4 ⟨he4, hb4⟩
   change e = _ at he4
   subst he4;go_wp2_with fail
   go_returns
   exact ⟨⟨#[]⟩, none, 0, 0, by rw [hv.out]; rfl, by rw [hv.out]; rfl, hb3.trans (hb4.mono hb3.size)⟩
  | some ns =>
   have hS2 := hide (hS hns);replace hns := hide hns;clear hS hN;go_enter Tryz.func186, Tryz.ntmps186;go_wp2_with fail;refine q0.out.mono ?_;rintro e w1 ⟨rfl, hb1⟩;go_wp2_with fail;refine (q1.out _).mono ?_;rintro e w2 ⟨rfl, rfl⟩;go_wp2_with fail;refine (q2.out _ hb1).mono ?_;rintro e w3 ⟨A3, n3, PB, rfl, hsl, hdat, hn3, hps, hb3⟩;replace hb3 := hb1.trans (hb3.mono hb1.size);have q4 := q3.out A3 n3 n3 PB w3 _ _ hsl hn3 hps hb3;rw [hdat, hns.out] at q4;replace q4 := hide q4;clear hsl hdat hps;go_wp2_with fail;refine q4.out.mono ?_;rintro e w4 ⟨⟨A4, c4, rfl, hs4⟩, hb4⟩;replace hb4 := hb3.trans (hb4.mono hb3.size);replace hs4 := hide hs4;go_wp2_with fail;refine (q5.out A4 n3 c4 ns w4 _ _ hs4.out hn3 hb4).mono ?_;rintro e w9 ⟨t, ok, rfl, hok, hb9⟩;replace hb9 := hb4.trans (hb9.mono hb4.size)
   cases ok with
   | false =>
    have hv : Hid (labS s = false) := by
     show _ = _
     rw [hS2.out, hok]
     simp
    clear hS2 hok;go_wp2_with fail
    go_returns
    exact ⟨⟨#[]⟩, none, 0, 0, by rw [hv.out]; rfl, by rw [hv.out]; rfl, hb9⟩
   | true =>
    by_cases hts : t = s
    ·have hv : Hid (labS s = true) := by
      show _ = _
      rw [hS2.out, hok, hts]
      simp
     subst hts;clear hS2 hok;go_wp2_with fail
     go_returns
     exact ⟨mkB a, A4, n3, c4, by rw [hv.out]; rfl, by rw [hv.out, hcut.out]; rfl, hb9⟩
    ·have hv : Hid (labS s = false) := by
      show _ = _
      rw [hS2.out, hok, decide_eq_false_iff_not];intro e
      apply hts
      have := Option.some.inj e;rw [← bytes_eta t, this, bytes_eta]
     have hne := str_neq hts;clear hS2 hok hts;go_wp2_with fail
     go_returns
     exact ⟨⟨#[]⟩, none, 0, 0, by rw [hv.out]; rfl, by rw [hv.out]; rfl, hb9⟩
theorem isLabel_calls (s : ByteArray) (w : World) (hs : s.size ≤ 1048576) (he : Env w) :
  Calls Tryz.prog 120 #[.string s] w fun e w' => e = .returned (.bool (labS s)) ∧ Below w.heap.size w w' := by
 have q := hide (readLabel_calls s w hs he);clear he;go_enter Tryz.func120, Tryz.ntmps120;go_wp2_with fail;refine q.out.mono ?_;rintro e w1 ⟨nm, A, n, c, rfl, -, hb⟩;go_wp2_with fail;go_ret;exact ⟨rfl, hb⟩
open Go.Sort
theorem labS_tau : labS tauB = true := by
 have h : (40 : UInt8) ∉ tauB.data.toList := by decide
 rw [labS_miss h]
 decide
def sLess (a b : ByteArray) : Bool := Op.bytesLess a.toList b.toList
theorem bytesLess_total : ∀ a b : List UInt8, (!(Op.bytesLess a b || a == b)) = Op.bytesLess b a
 | [], [] => rfl
 | [], _ :: _ => by simp [Op.bytesLess]
 | _ :: _, [] => by simp [Op.bytesLess]
 | x :: a, y :: b => by
  have ih := bytesLess_total a b;simp only [Op.bytesLess]
  by_cases h1 : x = y
  ·subst h1
   have h2 : ¬ x < x := by rw [UInt8.lt_iff_toNat_lt]; omega
   simp only [decide_eq_false h2, Bool.false_or, beq_self_eq_true, Bool.true_and];rw [← ih]
   congr 2
   simp
  ·have h3 : ¬ y = x := fun e => h1 e.symm
   have hn : x.toNat ≠ y.toNat := fun e => h1 (UInt8.toNat_inj.1 e)
   by_cases h2 : x < y
   ·have h4 : ¬ y < x := by rw [UInt8.lt_iff_toNat_lt] at h2 ⊢; omega
    simp [h2, h3, h4]
   ·have h4 : y < x := by rw [UInt8.lt_iff_toNat_lt] at h2 ⊢; omega
    simp [h1, h2, h4]
abbrev okL := okLab labS sLess
theorem okL_at {l : List ByteArray} {k : Nat} {x y : ByteArray} (hx : l[k]? = some x) (hk : 0 < k) (hy : l[k - 1]? = some y) : okL l k = ((labS x && !(decide (x = tauB))) && (decide (k ≤ 1) || sLess y x)) := by
 show okLab labS sLess l k = _
 unfold okLab;rw [hx, hy];have : decide (k = 0) = false := decide_eq_false (by omega);simp only [this]
 cases h : decide (x = tauB) <;> rfl
theorem okL_zero {l : List ByteArray} {x : ByteArray} (hx : l[0]? = some x) : okL l 0 = decide (x = tauB) := by
 show okLab labS sLess l 0 = _
 unfold okLab;rw [hx]
 by_cases h : x = tauB
 ·subst h
  simp [labS_tau]
 ·simp [h]
def namesB (l : List ByteArray) : Bool := inB (l.length : Int) 1 12 && allK (okL l) l.length
theorem same_regrown {f : FuncId} {args : Array Value} {w : World} {v : Value} (h : ∀ W, Calls Tryz.prog f args W fun e w' => e = .returned v ∧ W = w') (d : Nat) (os : Array Obj) :
  Calls Tryz.prog f args (grow (redrawn w d) os) fun e w'' => e = .returned v ∧ ∃ p : Regrown, w'' = grow (redrawn w p.d) p.os := (h _).mono fun _ _ ⟨a, b⟩ => ⟨a, ⟨d, os⟩, b.symm⟩
def LtsAt (w : World) (bt : Nat) (x : CL) (d : DL) : Prop := ReadL w 0 w.heap.size x d ∧ totL d ≤ 1048576 ∧ bt < w.heap.size ∧ w.cell? ⟨bt, 0, none⟩ = some (.int .i64 x.1) ∧ w.cell? ⟨bt, 1, none⟩ = some (.int .i64 x.2.1) ∧ w.cell? ⟨bt, 2, none⟩ = some x.2.2.1 ∧ w.cell? ⟨bt, 3, none⟩ = some x.2.2.2
theorem LtsAt.below {w w' : World} {bt B : Nat} {x : CL} {d : DL} (h : LtsAt w bt x d) (hb : Below B w w') (hB : w.heap.size ≤ B) : LtsAt w' bt x d := by
 obtain ⟨h1, h2, h3, c0, c1, c2, c3⟩ := h;have hs := hb.size;exact ⟨(h1.below hb (.inr hB)).more zR hs, h2, by omega, (hb.cell (p := ⟨bt, 0, none⟩) (by show bt < B; omega)).trans c0, (hb.cell (p := ⟨bt, 1, none⟩) (by show bt < B; omega)).trans c1, (hb.cell (p := ⟨bt, 2, none⟩) (by show bt < B; omega)).trans c2, (hb.cell (p := ⟨bt, 3, none⟩) (by show bt < B; omega)).trans c3⟩
theorem l11Less_calls (b1 o1 b2 o2 : Nat) (x1 x2 x3 y1 y2 y3 : Int) (w : World)
  (c0 : w.cell? ⟨b1, o1, none⟩ = some (.int .i64 x1)) (c1 : w.cell? ⟨b1, o1 + 1, none⟩ = some (.int .i64 x2)) (c2 : w.cell? ⟨b1, o1 + 2, none⟩ = some (.int .i64 x3))
  (d0 : w.cell? ⟨b2, o2, none⟩ = some (.int .i64 y1)) (d1 : w.cell? ⟨b2, o2 + 1, none⟩ = some (.int .i64 y2)) (d2 : w.cell? ⟨b2, o2 + 2, none⟩ = some (.int .i64 y3)) :
  Calls Tryz.prog 232 #[.pointer (some ⟨b1, o1, none⟩), .pointer (some ⟨b2, o2, none⟩)] w fun e w' => e = .returned (.bool (edLess (x1, x2, x3) (y1, y2, y3))) ∧ ∃ m, w' = w.drewN m := by
 by_cases h1 : x1 = y1
 ·subst h1
  by_cases h2 : x2 = y2
  ·subst h2
   have hv : Hid (edLess (x1, x2, x3) (x1, x2, y3) = decide (x3 < y3)) := by show _ = _; simp [edLess]
   go_enter Tryz.func232, Tryz.ntmps232
   go_wp2
   go_quiet (fail)
   go_wp2
   go_quiet (fail)
   go_wp2
   go_quiet (fail)
   go_wp2
   go_ret;exact ⟨ret_b (by rw [hv.out]), _, by rw [World.drewN_drewN, World.drewN_drewN]⟩
  ·have hv : Hid (edLess (x1, x2, x3) (x1, y2, y3) = decide (x2 < y2)) := by show _ = _; simp [edLess, h2]
   have hq : (x2 != y2) = true := by simpa using h2
   clear h2;go_enter Tryz.func232, Tryz.ntmps232
   go_wp2
   go_quiet (fail)
   go_wp2
   go_quiet (fail)
   go_wp2
   go_quiet (fail)
   go_wp2
   go_ret;exact ⟨ret_b (by rw [hv.out]), _, by rw [World.drewN_drewN, World.drewN_drewN]⟩
 ·have hv : Hid (edLess (x1, x2, x3) (y1, y2, y3) = decide (x1 < y1)) := by show _ = _; simp [edLess, h1]
  have hq : (x1 != y1) = true := by simpa using h1
  clear h1;go_enter Tryz.func232, Tryz.ntmps232
  go_wp2
  go_quiet (fail)
  go_wp2
  go_quiet (fail)
  go_wp2
  go_ret;exact ⟨ret_b (by rw [hv.out]), _, by rw [World.drewN_drewN]⟩
theorem okE_at {st m : Int} {es : List Ed} {k : Nat} {f lb tg : Int} {r : Ed} (hx : es[k]? = some (f, lb, tg)) (hk : 0 < k) (hy : es[k - 1]? = some r) : okEd st m es k = ((inB f 0 (st - 1) && (inB tg 0 (st - 1) && inB lb 0 (m - 1))) && edLess r (f, lb, tg)) := by
 unfold okEd;rw [hx, hy];have : decide (k = 0) = false := decide_eq_false (by omega);simp only [this, Bool.false_or, Bool.and_assoc]
theorem okE_zero {st m : Int} {es : List Ed} {f lb tg : Int} (hx : es[0]? = some (f, lb, tg)) : okEd st m es 0 = (inB f 0 (st - 1) && (inB tg 0 (st - 1) && inB lb 0 (m - 1))) := by
 unfold okEd;rw [hx]
 simp [Bool.and_assoc]
theorem okE_bad {st m : Int} {es : List Ed} {k : Nat} {f lb tg : Int} (hx : es[k]? = some (f, lb, tg)) (h : (inB f 0 (st - 1) && (inB tg 0 (st - 1) && inB lb 0 (m - 1))) = false) : okEd st m es k = false := by
 unfold okEd;rw [hx];simp only [Bool.and_assoc] at h ⊢;rw [← Bool.and_assoc, ← Bool.and_assoc, Bool.and_assoc (inB f 0 (st - 1)), h]
 rfl
abbrev ltsV := ltsB labS sLess
theorem ltsV_eq (st ini : Int) (ls : List ByteArray) (es : List Ed) : ltsV (st, ini, ls, es) = ((inB st 1 40 && (inB ini 0 (st - 1) && (namesB ls && decide (es.length ≤ 300)))) && allK (okEd st ls.length es) es.length) := by
 show ltsB labS sLess (st, ini, ls, es) = _
 unfold ltsB namesB;simp only
 cases inB st 1 40 <;> cases inB ini 0 (st - 1) <;> cases inB (ls.length : Int) 1 12 <;> cases decide (es.length ≤ 300) <;> cases allK (okLab labS sLess ls) ls.length <;> simp
theorem mem_le_sum : ∀ {l : List Nat} {x : Nat}, x ∈ l → x ≤ l.sum
 | y :: l, x, h => by
  rw [List.sum_cons]
  rcases List.mem_cons.1 h with rfl | h
  ·omega
  ·have := mem_le_sum h
   omega
theorem flat_ev : Flat ev 3 := ⟨fun _ => rfl, fun x u h => by simp [ev] at h; rcases h with rfl | rfl | rfl <;> rfl⟩
theorem elem_edge : Elem Tryz.prog 25 84 3 24 := Elem.of Tryz.underlying25 info_implEdge rfl (by decide) (by decide)
def outE (es : List Ed) (s : Int) : List Ed := es.filter fun e => decide (e.1 = s)
theorem outE_succ {es : List Ed} {k : Nat} {e : Ed} {s : Int} (hx : es[k]? = some e) : outE (es.take (k + 1)) s = outE (es.take k) s ++ (if e.1 = s then [e] else []) := by
 unfold outE;rw [List.take_add_one, hx, List.filter_append]
 congr 1
 by_cases h : e.1 = s <;> simp [h]
theorem l11Out_calls (bt : Nat) (x : CL) (d : DL) (s : Int) (w : World) (h : LtsAt w bt x d) :
  Calls Tryz.prog 145 #[.pointer (some ⟨bt, 0, none⟩), .int .i64 s] w fun e w' => ∃ A n c, e = .returned (.slice A n c) ∧ SlE w' w.heap.size w'.heap.size A n (outE d.2.2.2 s) ∧ n ≤ 1048576 ∧ Below w.heap.size w w' := by
 obtain ⟨s0, s1, v2, v3⟩ := x;obtain ⟨st, ini, ls, es⟩ := d;obtain ⟨⟨e0, e1, -, ⟨A3, n3, k3, e3, hn3, t3⟩⟩, htot, hbt, -, -, -, c3⟩ := h;dsimp only at *;subst e0 e1 e3;have l3 := hide t3.len;have hes : n3 ≤ 1048576 := by rw [← l3.out]; exact Nat.le_trans (totL_edg (s0, s1, ls, es)) htot
 have hE := hide elem_edge;replace t3 := hide t3;clear htot hn3;go_enter Tryz.func145, Tryz.ntmps145
 go_wp2
 go_loopw [5, 6] (fun o i wr => ∃ k m c A, k ≤ n3 ∧ m ≤ k ∧ o = .slice A m c ∧ i = .int .i64 (k : Nat) ∧ Hid (Own 3 ev wr w.heap.size 84 A m c (outE (es.take k) s)) ∧ Below w.heap.size w wr ∧ wr.cell? ⟨bt, 3, none⟩ = some (.slice A3 n3 k3)) (fun _ i _ => n3 - (intOf i).toNat)
 case atStart => exact ⟨0, 0, 0, _, Nat.zero_le _, zR, rfl, rfl, Own.made w 84 zR, bR.alloc zR _, (((Below.refl w.heap.size w).alloc zR _).cell (p := ⟨bt, 3, none⟩) hbt).trans c3⟩
 case round =>
  obtain ⟨k, m, c, A, hk, hmk, rfl, rfl, hown, hb, y3⟩ := hrel;clear c3;have hz := hb.size;have hza : ∀ o, w.heap.size ≤ (wr.alloc o).heap.size := fun o => by rw [World.size_alloc]; omega
  by_cases hlt : k < n3
  ·obtain ⟨b, off, f, lb, tg, rfl, g1, g2, g3, hx, a0, a1, a2, -, -, -⟩ := SlE.get t3.out hlt
   replace a0 := (hb.cell g3).trans a0;replace a1 := (hb.cell (p := ⟨b, off + k * 3 + 1, none⟩) g3).trans a1;replace a2 := (hb.cell (p := ⟨b, off + k * 3 + 2, none⟩) g3).trans a2;have hsu := outE_succ (s := s) hx;clear t3 hx g1 g2
   by_cases hf : f = s
   ·subst hf
    rw [if_pos rfl] at hsu;replace hsu := hide hsu;go_wp2_with (first | (at_builtin; (with_reducible refine wpList_app rfl (.tmp 27) (.tmp 35) rfl hE.out flat_ev rfl (hown.out.alloc _) rfl (Sl.lit1' wr 84 (f, lb, tg) _ rfl 3 _ ?c0) ?c1 (hza _) ?_); rotate_right; intro A5 c5 w5 hown5 hgr5 hb5 _))
    case c0 => rfl
    case c1 => omega
    have hb6 := (hb.alloc hz (.cells #[.int .i64 f, .int .i64 lb, .int .i64 tg] 84)).trans hb5;have y5 := (((hb.alloc hz (.cells #[.int .i64 f, .int .i64 lb, .int .i64 tg] 84)).trans hb5).cell (p := ⟨bt, 3, none⟩) hbt);have y30 := (hb.cell (p := ⟨bt, 3, none⟩) hbt);rw [y3] at y30;have y6 := y5.trans y30.symm;replace hown5 : Hid (Own 3 ev w5 w.heap.size 84 A5 (m + 1) c5 (outE (es.take (k + 1)) f)) := by show Own _ _ _ _ _ _ _ _ _; rw [hsu.out]; exact hown5
    go_roundw
    case rel => exact ⟨k + 1, m + 1, c5, A5, by omega, by omega, rfl, by go_num, hown5, hb6, y6⟩
    case measure => simp [intOf]; omega
   ·rw [if_neg hf, List.append_nil] at hsu
    have hfb : (f == s) = false := by rw [beq_eq_false_iff_ne]; exact hf
    replace hown : Hid (Own 3 ev wr w.heap.size 84 A m c (outE (es.take (k + 1)) s)) := by show Own _ _ _ _ _ _ _ _ _; rw [hsu]; exact hown.out
    clear hsu hf;go_wp2_with fail;go_roundw
    case rel => exact ⟨k + 1, m, c, A, by omega, by omega, rfl, by go_num, hown, hb, y3⟩
    case measure => simp [intOf]; omega
  ·have hkn : k = n3 := by omega
   have hall : es.take k = es := List.take_of_length_le (by rw [l3.out, hkn]; exact zR);have hsl := hide (hown.out.sl flat_ev);replace hall := hide hall;subst hkn;go_wp2_with fail;go_ret;have h1 := hsl.out;rw [hall.out] at h1;exact ⟨A, m, c, rfl, h1, by omega, hb⟩
theorem isNaN_calls (x : Int) (w : World) : Calls Tryz.prog 274 #[.int .i64 x] w fun e w' => e = .returned (.bool false) ∧ w = w' := by
 go_enter Tryz.func274, Tryz.ntmps274
 go_wp2
 go_ret;exact ⟨by simp, rfl⟩
def cmpI (x y : Int) : Int := if x < y then -1 else if y < x then 1 else 0
theorem compare_calls (x y : Int) (w : World) : Calls Tryz.prog 216 #[.int .i64 x, .int .i64 y] w fun e w' => e = .returned (.int .i64 (cmpI x y)) ∧ w = w' := by
 have q := hide isNaN_calls
 by_cases h1 : x < y
 ·have hv : Hid (cmpI x y = -1) := by show _ = _; unfold cmpI; rw [if_pos h1]
  go_enter Tryz.func216, Tryz.ntmps216;go_wp2_with (first | (go_at_call 274; (with_reducible refine (q.out _ _).mono ?_); rintro e w' ⟨rfl, rfl⟩));go_ret;exact ⟨ret_i (by rw [hv.out]), rfl⟩
 ·by_cases h2 : y < x
  ·have hv : Hid (cmpI x y = 1) := by show _ = _; unfold cmpI; rw [if_neg h1, if_pos h2]
   go_enter Tryz.func216, Tryz.ntmps216;go_wp2_with (first | (go_at_call 274; (with_reducible refine (q.out _ _).mono ?_); rintro e w' ⟨rfl, rfl⟩));go_ret;exact ⟨ret_i (by rw [hv.out]), rfl⟩
  ·have hv : Hid (cmpI x y = 0) := by show _ = _; unfold cmpI; rw [if_neg h1, if_neg h2]
   go_enter Tryz.func216, Tryz.ntmps216;go_wp2_with (first | (go_at_call 274; (with_reducible refine (q.out _ _).mono ?_); rintro e w' ⟨rfl, rfl⟩));go_ret;exact ⟨ret_i (by rw [hv.out]), rfl⟩
def orF (l : List Int) : Int := (l.find? fun x => decide (x ≠ 0)).getD 0
theorem orF_hit {l : List Int} {k : Nat} {x : Int} (hx : l[k]? = some x) (h0 : x ≠ 0) (hn : ∀ j y, j < k → l[j]? = some y → y = 0) : orF l = x := by
 unfold orF;have key : ∀ (l : List Int) (k : Nat), l[k]? = some x → (∀ j y, j < k → l[j]? = some y → y = 0) → l.find? (fun x => decide (x ≠ 0)) = some x := by
  intro l
  induction l with
  | nil => intro k h _; simp at h
  | cons y l ih =>
   intro k h hn
   cases k with
   | zero =>
    simp at h
    subst h
    simp [h0]
   | succ k =>
    have hy := hn 0 y (by omega) rfl;subst hy;simp only [List.find?_cons]
    simp
    have := ih k (by simpa using h) (fun j z hj hz => hn (j + 1) z (by omega) (by simpa using hz))
    simpa using this
 rw [key l k hx hn]
 rfl
theorem orF_miss {l : List Int} (hn : ∀ (j : Nat) y, l[j]? = some y → y = 0) : orF l = 0 := by
 unfold orF;have : l.find? (fun x => decide (x ≠ 0)) = none := by
  rw [List.find?_eq_none];intro x hx;obtain ⟨j, hj⟩ := List.getElem?_of_mem hx
  simp [hn j x hj]
 rw [this]
 rfl
theorem or_calls (A : Option Addr) (n c : Nat) (l : List Int) (w : World) (lo hi : Nat) (h : SlI w lo hi A n l) (hn : n ≤ 1048576) :
  Calls Tryz.prog 215 #[.slice A n c] w fun e w' => e = .returned (.int .i64 (orF l)) ∧ w = w' := by
 have hlen := hide h.len;replace h := hide h;go_enter Tryz.func215, Tryz.ntmps215
 go_wp2
 go_loop [8] (fun i => ∃ k : Nat, k ≤ n ∧ i = .int .i64 k ∧ Hid (∀ j y, j < k → l[j]? = some y → y = 0)) (fun i => n - (intOf i).toNat)
 case atStart => exact ⟨0, Nat.zero_le _, rfl, fun j y hj => absurd hj (by omega)⟩
 case round =>
  obtain ⟨k, hk, rfl, ha⟩ := hrel
  by_cases hlt : k < n
  ·obtain ⟨b, off, x, rfl, g1, g2, g3, hx, c0, -⟩ := SlI.get h.out hlt
   by_cases h0 : x = 0
   ·have hnext : Hid (∀ j y, j < k + 1 → l[j]? = some y → y = 0) := fun j y hj hy => by
     rcases Nat.lt_or_ge j k with h1 | h1
     ·exact ha.out j y h1 hy
     ·have hjk : j = k := by omega
      rw [hjk, hx] at hy;rw [← Option.some.inj hy, h0]
    subst h0;clear h hx ha
    go_wp2
    go_round
    case rel => exact ⟨k + 1, by omega, by go_num, hnext⟩
    case measure => simp [intOf]; omega
   ·have hv : Hid (orF l = x) := orF_hit hx h0 ha.out
    have hb : (x == 0) = false := by rw [beq_eq_false_iff_ne]; exact h0
    clear h hx ha h0
    go_wp2
    go_ret;exact ⟨ret_i (by rw [hv.out]), rfl⟩
  ·have hkn : k = n := by omega
   have hv : Hid (orF l = 0) := orF_miss fun j y hy => ha.out j y (by rw [hkn, ← hlen.out]; exact (List.getElem?_eq_some_iff.1 hy).1) hy
   subst hkn
   go_wp2
   go_ret;exact ⟨ret_i (by rw [hv.out]), rfl⟩
def cmpE (a b : Ed) : Int := orF [cmpI a.1 b.1, cmpI a.2.1 b.2.1, cmpI a.2.2 b.2.2]
theorem cmpE_less (a b : Ed) : decide (0 ≤ cmpE a b) = !(edLess a b) := by
 obtain ⟨a1, a2, a3⟩ := a;obtain ⟨b1, b2, b3⟩ := b;have key : ∀ x y : Int, (x < y ∧ cmpI x y = -1) ∨ (x = y ∧ cmpI x y = 0) ∨ (y < x ∧ cmpI x y = 1) := fun x y => by
  unfold cmpI
  rcases Int.lt_trichotomy x y with h | h | h
  ·exact .inl ⟨h, if_pos h⟩
  ·exact .inr (.inl ⟨h, by rw [if_neg (by omega), if_neg (by omega)]⟩)
  ·exact .inr (.inr ⟨h, by rw [if_neg (by omega), if_pos h]⟩)
 unfold cmpE edLess orF;dsimp only
 rcases key a1 b1 with ⟨h1, e1⟩ | ⟨h1, e1⟩ | ⟨h1, e1⟩
 ·have : a1 ≠ b1 := by omega
  rw [e1]
  simp [this, h1]
 ·rcases key a2 b2 with ⟨h2, e2⟩ | ⟨h2, e2⟩ | ⟨h2, e2⟩
  ·have : a2 ≠ b2 := by omega
   rw [e1, e2]
   simp [h1, this, h2]
  ·rcases key a3 b3 with ⟨h3, e3⟩ | ⟨h3, e3⟩ | ⟨h3, e3⟩
   ·rw [e1, e2, e3]
    simp [h1, h2, h3]
   ·rw [e1, e2, e3]
    simp [h1, h2, h3]
   ·have : b3 ≤ a3 := by omega
    rw [e1, e2, e3]
    simp [h1, h2, this]
  ·have n2 : a2 ≠ b2 := by omega
   have : b2 ≤ a2 := by omega
   rw [e1, e2]
   simp [h1, n2, this]
 ·have n1 : a1 ≠ b1 := by omega
  have : b1 ≤ a1 := by omega
  rw [e1]
  simp [n1, this]
theorem or3_calls (b : Nat) (c1 c2 c3 : Int) (t : TypeId) (w : World) (hb : w.heap[b]? = some (.cells #[.int .i64 c1, .int .i64 c2, .int .i64 c3] t (0, 0))) :
  Calls Tryz.prog 215 #[.slice (some ⟨b, 0, none⟩) 3 3] w fun e w' => e = .returned (.int .i64 (orF [c1, c2, c3])) ∧ w = w' := by
 have hlt : b < w.heap.size := (Array.getElem?_eq_some_iff.1 hb).1;refine or_calls _ 3 3 [c1, c2, c3] w 0 w.heap.size ⟨rfl, fun _ => ⟨b, 0, rfl, Nat.zero_le _, hlt, hlt, fun k x hx j u hu => ?_⟩⟩ (by omega)
 match j, hu with
 | 0, hu =>
  simp [iv] at hu
  subst hu;simp only [Nat.zero_add, Nat.mul_one, Nat.add_zero];refine ⟨(cell_of_row _ _ k _ t (0, 0) hb).trans ?_, frozen_of_row _ _ _ _ t hb⟩
  match k, hx with
  | 0, hx => cases hx; rfl
  | 1, hx => cases hx; rfl
  | 2, hx => cases hx; rfl
  | k + 3, hx => simp at hx
theorem isState_calls (s0 s1 k : Int) (v2 v3 : Value) (w : World) (h1 : 1 ≤ s0) (h2 : s0 ≤ 40) :
  Calls Tryz.prog 119 #[.agg #[.int .i64 s0, .int .i64 s1, v2, v3], .int .i64 k] w fun e w' => e = .returned (.bool (inB k 0 (s0 - 1))) ∧ Below w.heap.size w w' := by
 have hb0 : Below w.heap.size w (w.alloc (.cells #[.int .i64 s0, .int .i64 s1, v2, v3] 27)) := bR.alloc zR _;have q := hide (fun W => within_calls k 0 (s0 - 1) W);replace hb0 := hide hb0;go_enter Tryz.func119, Tryz.ntmps119;go_wp2_with (first | (go_at_call 118; (with_reducible refine (q.out _).mono ?_); rintro e w' ⟨rfl, rfl⟩));go_ret;exact ⟨rfl, hb0.out⟩
theorem compareEdges_calls (x1 x2 x3 y1 y2 y3 : Int) (w : World) :
  Calls Tryz.prog 122 #[.agg #[.int .i64 x1, .int .i64 x2, .int .i64 x3], .agg #[.int .i64 y1, .int .i64 y2, .int .i64 y3]] w fun e w' => e = .returned (.int .i64 (cmpE (x1, x2, x3) (y1, y2, y3))) ∧ Below w.heap.size w w' := by
 have hv : Hid (cmpE (x1, x2, x3) (y1, y2, y3) = orF [cmpI x1 y1, cmpI x2 y2, cmpI x3 y3]) := rfl;have hbA : Below w.heap.size w ((w.alloc (.cells #[.int .i64 x1, .int .i64 x2, .int .i64 x3] 84)).alloc (.cells #[.int .i64 y1, .int .i64 y2, .int .i64 y3] 84)) := (bR.alloc zR _).alloc (by simp only [World.size_alloc]; omega) _;have k0 := (Below.heap_alloc (w.alloc (.cells #[.int .i64 x1, .int .i64 x2, .int .i64 x3] 84)) (.cells #[.int .i64 y1, .int .i64 y2, .int .i64 y3] 84) w.heap.size (by simp only [World.size_alloc]; omega)).trans (heap_alloc_new w (.cells #[.int .i64 x1, .int .i64 x2, .int .i64 x3] 84));have k1 := heap_alloc_new (w.alloc (.cells #[.int .i64 x1, .int .i64 x2, .int .i64 x3] 84)) (.cells #[.int .i64 y1, .int .i64 y2, .int .i64 y3] 84);rw [World.size_alloc] at k1;have q := hide compare_calls;replace hbA := hide hbA;replace k0 := hide k0;replace k1 := hide k1;go_enter Tryz.func122, Tryz.ntmps122;go_wp2_with fail;generalize hW : ((w.alloc (.cells #[.int .i64 x1, .int .i64 x2, .int .i64 x3] 84)).alloc (.cells #[.int .i64 y1, .int .i64 y2, .int .i64 y3] 84)) = W at *;have a0 : W.cell? ⟨w.heap.size, 0, none⟩ = some (.int .i64 x1) := cR 0 k0.out;have a1 : W.cell? ⟨w.heap.size, 1, none⟩ = some (.int .i64 x2) := cR 1 k0.out;have a2 : W.cell? ⟨w.heap.size, 2, none⟩ = some (.int .i64 x3) := cR 2 k0.out;have b0 : W.cell? ⟨w.heap.size + 1, 0, none⟩ = some (.int .i64 y1) := cR 0 k1.out;have b1 : W.cell? ⟨w.heap.size + 1, 1, none⟩ = some (.int .i64 y2) := cR 1 k1.out;have b2 : W.cell? ⟨w.heap.size + 1, 2, none⟩ = some (.int .i64 y3) := cR 2 k1.out;clear hW
 go_region_held3 (fun w' => w'.cell? ⟨w.heap.size, 0, none⟩ = some (.int .i64 x1) ∧ w'.cell? ⟨w.heap.size, 1, none⟩ = some (.int .i64 x2) ∧ w'.cell? ⟨w.heap.size, 2, none⟩ = some (.int .i64 x3) ∧ w'.cell? ⟨w.heap.size + 1, 0, none⟩ = some (.int .i64 y1) ∧ w'.cell? ⟨w.heap.size + 1, 1, none⟩ = some (.int .i64 y2) ∧ w'.cell? ⟨w.heap.size + 1, 2, none⟩ = some (.int .i64 y3)) (first | exact ⟨a0, a1, a2, b0, b1, b2⟩ | go_keep)
  (first
   | (go_at_call 216; (with_reducible refine (q.out _ _ _).mono ?_); rintro e w' ⟨rfl, rfl⟩)
   | (go_at_call 215; (refine (or3_calls _ _ _ _ _ _ (by exact heap_alloc_new W _)).mono ?_); rintro e w' ⟨rfl, rfl⟩))
 all_goals go_wp2
 all_goals go_ret
 all_goals first | exact ⟨ret_i (by rw [hv.out]), hbA.out.drew.alloc hbA.out.size _⟩ | exact ⟨ret_i (by rw [hv.out]), (hbA.out.alloc hbA.out.size _).drew⟩
end Go.Proofs.YtnhomkmfbngmgaaGreatDoor
namespace Go.Proofs.YtnhomkmfbngmgaaGreatDoor
open Go.ChangeShapes Go.WideShapes Go.ChangeAt Go.RowKit
theorem edLess_iff (a b : Ed) : edLess a b = true ↔ a.1 < b.1 ∨ (a.1 = b.1 ∧ (a.2.1 < b.2.1 ∨ (a.2.1 = b.2.1 ∧ a.2.2 < b.2.2))) := by
 unfold edLess
 by_cases h1 : a.1 = b.1
 ·by_cases h2 : a.2.1 = b.2.1
  ·simp [h1, h2]
  ·simp [h1, h2]
 ·simp [h1]
theorem edLess_irr (a : Ed) : edLess a a = false := Bool.eq_false_iff.2 fun h => by rw [edLess_iff] at h; omega
theorem edLess_trans {a b c : Ed} (h : edLess a b = true) (g : edLess b c = true) : edLess a c = true := by
 rw [edLess_iff] at h g ⊢; omega
theorem edLess_total {a b : Ed} (h : a ≠ b) : edLess a b = true ∨ edLess b a = true := by
 rw [edLess_iff, edLess_iff]
 by_cases h1 : a.1 = b.1
 ·by_cases h2 : a.2.1 = b.2.1
  ·by_cases h3 : a.2.2 = b.2.2
   ·exact absurd (Prod.ext h1 (Prod.ext h2 h3)) h
   ·omega
  ·omega
 ·omega
def RisE (l : List Ed) : Prop := l.Pairwise fun x y => edLess x y = true
def PutO (l : List Ed) (e : Ed) (l' : List Ed) : Prop := RisE l' ∧ (∀ x, x ∈ l' ↔ x = e ∨ x ∈ l) ∧ l'.length ≤ l.length + 1
theorem PutO.old {l : List Ed} {e : Ed} (h : RisE l) (he : e ∈ l) : PutO l e l := ⟨h, fun x => ⟨.inr, fun g => by rcases g with rfl | g; exact he; exact g⟩, by omega⟩
theorem PutO.new {l : List Ed} {e : Ed} (h : RisE l) {k : Nat} (hlo : k = 0 ∨ ∃ y, l[k - 1]? = some y ∧ edLess y e = true) (hhi : ∀ j x, k ≤ j → l[j]? = some x → edLess e x = true) : PutO l e (l.take k ++ e :: l.drop k) := by
 have hlow : ∀ x ∈ l.take k, edLess x e = true := fun x hx => by
  obtain ⟨j, hj⟩ := List.getElem?_of_mem hx;rw [List.getElem?_take] at hj
  split at hj
  ·rename_i hjk
   rcases hlo with rfl | ⟨y, hy, hye⟩
   ·omega
   ·by_cases e1 : j = k - 1
    ·subst e1
     rw [hy] at hj;injection hj with hj;rw [← hj]; exact hye
    ·have hj2 := (List.getElem?_eq_some_iff.1 hj)
     have hy2 := (List.getElem?_eq_some_iff.1 hy);have := List.pairwise_iff_getElem.1 h j (k - 1) hj2.1 hy2.1 (by omega);rw [hj2.2, hy2.2] at this;exact edLess_trans this hye
  ·cases hj
 have hhigh : ∀ x ∈ l.drop k, edLess e x = true := fun x hx => by
  obtain ⟨j, hj⟩ := List.getElem?_of_mem hx;rw [List.getElem?_drop] at hj;exact hhi (k + j) x (by omega) hj
 have hsplit : ∀ x, x ∈ l ↔ x ∈ l.take k ∨ x ∈ l.drop k := fun x => by rw [← List.mem_append, List.take_append_drop]
 refine ⟨?_, fun x => ?_, by simp only [List.length_append, List.length_cons, List.length_take, List.length_drop]; omega⟩
 ·have hl : (l.take k ++ l.drop k).Pairwise fun x y => edLess x y = true := by rw [List.take_append_drop]; exact h
  obtain ⟨p1, p2, p3⟩ := List.pairwise_append.1 hl;refine List.pairwise_append.2 ⟨p1, List.pairwise_cons.2 ⟨hhigh, p2⟩, fun a ha b hb => ?_⟩
  rcases List.mem_cons.1 hb with rfl | hb
  ·exact hlow a ha
  ·exact p3 a ha b hb
 ·rw [List.mem_append, List.mem_cons, hsplit]
  constructor
  ·rintro (g | g | g)
   ·exact .inr (.inl g)
   ·exact .inl g
   ·exact .inr (.inr g)
  ·rintro (g | g | g)
   ·exact .inr (.inl g)
   ·exact .inl g
   ·exact .inr (.inr g)
section
variable {α : Type} {out : List α} {i : Nat} {z x : α}
theorem shiftG_set (hx : out[i]? = some x) : (out.take (i + 1) ++ z :: out.drop (i + 1)).set (i + 1) x = out.take i ++ x :: out.drop i := by
 obtain ⟨hi, hxe⟩ := List.getElem?_eq_some_iff.1 hx;have h1 : out.drop i = x :: out.drop (i + 1) := by rw [List.drop_eq_getElem_cons hi, hxe]
 rw [List.set_append_right _ _ (by rw [List.length_take]; omega), List.length_take, Nat.min_eq_left (by omega), Nat.sub_self, List.set_cons_zero, List.take_add_one, hx, h1]
 simp
theorem shiftG_end (hi : i ≤ out.length) : (out.take i ++ z :: out.drop i).set i x = out.take i ++ x :: out.drop i := by
 rw [List.set_append_right _ _ (by rw [List.length_take]; omega), List.length_take, Nat.min_eq_left (by omega), Nat.sub_self, List.set_cons_zero]
theorem shiftG_get (hx : out[i]? = some x) : (out.take (i + 1) ++ z :: out.drop (i + 1))[i]? = some x := by
 obtain ⟨hi, hxe⟩ := List.getElem?_eq_some_iff.1 hx;rw [List.getElem?_append_left (by rw [List.length_take]; omega), List.getElem?_take, if_pos (by omega), hx]
end
theorem ev_set : ∀ (l : List Ed) (k : Nat) (x y z : Int), (((l.flatMap ev).set (k * 3) (.int .i64 x)).set (k * 3 + 1) (.int .i64 y)).set (k * 3 + 2) (.int .i64 z) = (l.set k (x, y, z)).flatMap ev
 | [], _, _, _, _ => rfl
 | a :: l, 0, x, y, z => by simp [ev]
 | a :: l, k + 1, x, y, z => by
  have e0 : (k + 1) * 3 = k * 3 + 1 + 1 + 1 := by omega
  have e1 : (k + 1) * 3 + 1 = k * 3 + 1 + 1 + 1 + 1 := by omega
  have e2 : (k + 1) * 3 + 2 = k * 3 + 2 + 1 + 1 + 1 := by omega
  have ih := ev_set l k x y z;rw [List.set_cons_succ, List.flatMap_cons, List.flatMap_cons, ← ih];unfold ev;rw [e2, e1, e0]
  rfl
theorem Own.setE {w : World} {base g n c : Nat} {e : TypeId} {l : List Ed} (h : Own 3 ev w base e (some ⟨g, 0, none⟩) n c l) (k : Nat) (x y z : Int) :
  Own 3 ev (((w.setCell ⟨g, k * 3, none⟩ (.int .i64 x)).setCell ⟨g, k * 3 + 1, none⟩ (.int .i64 y)).setCell ⟨g, k * 3 + 2, none⟩ (.int .i64 z)) base e (some ⟨g, 0, none⟩) n c (l.set k (x, y, z)) := by
 rcases h.2.2 with ⟨hv, -⟩ | ⟨g', cap, cur, hv, hb, hg, hnc, hcm, hcs, htake⟩
 ·cases hv
 ·cases hv
  have h1 := heap_setCell_same w g (k * 3) cur _ (.int .i64 x) hg;have h2 := heap_setCell_same _ g (k * 3 + 1) _ _ (.int .i64 y) h1;have h3 := heap_setCell_same _ g (k * 3 + 2) _ _ (.int .i64 z) h2;refine ⟨by rw [List.length_set]; exact h.1, by rw [flat_length flat_ev, List.length_set]; have := h.1; omega, .inr ⟨g, c, _, rfl, hb, h3, hnc, hcm, by simpa using hcs, ?_⟩⟩;rw [Array.toList_setIfInBounds, Array.toList_setIfInBounds, Array.toList_setIfInBounds, List.take_set, List.take_set, List.take_set, htake];exact ev_set l k x y z
theorem Own.neE {w : World} {base e n c : Nat} {A : Option Addr} {l : List Ed} (h : Own 3 ev w base e A n c l) (hn : 0 < n) : ∃ g, A = some ⟨g, 0, none⟩ ∧ base ≤ g := by
 rcases h.2.2 with ⟨-, hv⟩ | ⟨g, cap, cur, hv, hb, -⟩
 ·omega
 ·cases hv
  exact ⟨g, rfl, hb⟩
end Go.Proofs.YtnhomkmfbngmgaaGreatDoor
namespace Go.Proofs
open Go.Shelf
def Tryz.laysSortG_ren : Go.Shelf.Ren := ⟨fun | 6 => 132 | 15 => 224 | 14 => 223 | 28 => 289 | 29 => 290 | 20 => 281 | 21 => 282 | 22 => 283 | 23 => 284 | 24 => 285 | 25 => 286 | 26 => 287 | 27 => 288 | 46 => 339 | 47 => 340 | 48 => 341 | 49 => 342 | 50 => 343 | 57 => 374 | n => n, fun | 22 => 25 | 24 => 84 | 25 => 147 | 3 => 3 | 39 => 243 | 0 => 0 | 53 => 292 | 55 => 137 | 4 => 4 | 46 => 285 | 45 => 284 | 50 => 289 | 5 => 5 | 9 => 9 | 66 => 327 | 70 => 331 | 76 => 352 | 77 => 353 | n => n, fun | n => n⟩
theorem Tryz.laysSortG : Go.Proofs.SlLaysF0.n6 Tryz.prog Tryz.laysSortG_ren := {
 mixed := by kernel_rfl
 f6 := ⟨Tryz.f132.name, by decide, Tryz.func132.trans (congrArg some (by kernel_rfl))⟩
 f14 := ⟨Tryz.f223.name, by decide, Tryz.func223.trans (congrArg some (by kernel_rfl))⟩
 f15 := Tryz.func224.trans (congrArg some (by kernel_rfl))
 f20 := ⟨Tryz.f281.name, by decide, Tryz.func281.trans (congrArg some (by kernel_rfl))⟩
 f21 := ⟨Tryz.f282.name, by decide, Tryz.func282.trans (congrArg some (by kernel_rfl))⟩
 f22 := ⟨Tryz.f283.name, by decide, Tryz.func283.trans (congrArg some (by kernel_rfl))⟩
 f23 := ⟨Tryz.f284.name, by decide, Tryz.func284.trans (congrArg some (by kernel_rfl))⟩
 f24 := ⟨Tryz.f285.name, by decide, Tryz.func285.trans (congrArg some (by kernel_rfl))⟩
 f25 := ⟨Tryz.f286.name, by decide, Tryz.func286.trans (congrArg some (by kernel_rfl))⟩
 f26 := ⟨Tryz.f287.name, by decide, Tryz.func287.trans (congrArg some (by kernel_rfl))⟩
 f27 := ⟨Tryz.f288.name, by decide, Tryz.func288.trans (congrArg some (by kernel_rfl))⟩
 f28 := Tryz.func289.trans (congrArg some (by kernel_rfl))
 f29 := Tryz.func290.trans (congrArg some (by kernel_rfl))
 f46 := ⟨Tryz.f339.name, by decide, Tryz.func339.trans (congrArg some (by kernel_rfl))⟩
 f47 := Tryz.func340.trans (congrArg some (by kernel_rfl))
 f48 := Tryz.func341.trans (congrArg some (by kernel_rfl))
 f49 := ⟨Tryz.f342.name, by decide, Tryz.func342.trans (congrArg some (by kernel_rfl))⟩
 f50 := ⟨Tryz.f343.name, by decide, Tryz.func343.trans (congrArg some (by kernel_rfl))⟩
 f57 := ⟨Tryz.f374.name, by decide, Tryz.func374.trans (congrArg some (by kernel_rfl))⟩
 t0 := Tryz.underlying0
 a0 := Tryz.isAgg0
 z0 := Tryz.sizeOf0
 v0 := Tryz.zeroValue0
 t3 := Tryz.underlying3
 a3 := Tryz.isAgg3
 z3 := Tryz.sizeOf3
 v3 := Tryz.zeroValue3
 t4 := Tryz.underlying4
 a4 := Tryz.isAgg4
 z4 := Tryz.sizeOf4
 v4 := Tryz.zeroValue4
 t5 := Tryz.underlying5
 a5 := Tryz.isAgg5
 z5 := Tryz.sizeOf5
 v5 := Tryz.zeroValue5
 t9 := Tryz.underlying9
 a9 := Tryz.isAgg9
 z9 := Tryz.sizeOf9
 v9 := Tryz.zeroValue9
 t22 := Tryz.underlying25
 a22 := Tryz.isAgg25
 z22 := Tryz.sizeOf25
 v22 := Tryz.zeroValue25
 t25 := Tryz.underlying147
 a25 := Tryz.isAgg147
 z25 := Tryz.sizeOf147
 v25 := Tryz.zeroValue147
 t39 := Tryz.underlying243
 a39 := Tryz.isAgg243
 z39 := Tryz.sizeOf243
 v39 := Tryz.zeroValue243
 t45 := Tryz.underlying284
 a45 := Tryz.isAgg284
 z45 := Tryz.sizeOf284
 v45 := Tryz.zeroValue284
 t46 := Tryz.underlying285
 a46 := Tryz.isAgg285
 z46 := Tryz.sizeOf285
 v46 := Tryz.zeroValue285
 t50 := Tryz.underlying289
 a50 := Tryz.isAgg289
 z50 := Tryz.sizeOf289
 v50 := Tryz.zeroValue289
 t53 := Tryz.underlying292
 a53 := Tryz.isAgg292
 z53 := Tryz.sizeOf292
 v53 := Tryz.zeroValue292
 t55 := Tryz.underlying137
 a55 := Tryz.isAgg137
 z55 := Tryz.sizeOf137
 v55 := Tryz.zeroValue137
 t66 := Tryz.underlying327
 a66 := Tryz.isAgg327
 z66 := Tryz.sizeOf327
 v66 := Tryz.zeroValue327
 t70 := Tryz.underlying331
 a70 := Tryz.isAgg331
 z70 := Tryz.sizeOf331
 v70 := Tryz.zeroValue331
 t76 := Tryz.underlying352
 a76 := Tryz.isAgg352
 z76 := Tryz.sizeOf352
 v76 := Tryz.zeroValue352
 t77 := Tryz.underlying353
 a77 := Tryz.isAgg353
 z77 := Tryz.sizeOf353
 v77 := Tryz.zeroValue353 }
open Go.Shelf Go.RowKit Go.Lib Go.Sort in
theorem Tryz.slices_SortFunc_edge {α : Type} [Inhabited α] (enc : α → List Value) (hk : ∀ x, (enc x).length = 3) (h1 : ∀ x, ∀ v ∈ enc x, v.oneCell' = true) (cf : α → α → Int) (hO : SWO (ltOf cf)) (g : Nat) (cb : Array Value) (blk off cap : Nat) (d : Array α) (w : World) (eg : ∀ args w, (callFunc g args).run Tryz.prog w = .ok (.enter g args) w) (hcmp : CmpLays Tryz.prog g cb enc 3 cf blk off d.size w) (hH : HoldsK enc 3 w blk off d) (hblk : blk < w.heap.size) (hsz : d.size < 4611686018427387904) (hT : ∀ x y, (ltOf cf) x y = false → (ltOf cf) y x = false → x = y) :
  Calls Tryz.prog 132 #[.slice (some ⟨blk, off, none⟩) d.size cap, .func (.func g) #[] cb] w fun e w' =>
   e = .returned (.tuple #[]) ∧ ∃ n os, w' = sortWorldK enc 3 w blk off n (d.toList.mergeSort fun x y => !(ltOf cf) y x).toArray os := AnyQ.slices_SortFunc_total Tryz.laysSortG 3 Tryz.isAgg84 Tryz.sizeOf84 enc hk h1 cf hO g cb blk off cap d w eg hcmp hH hblk hsz hT
open Go.Shelf Go.RowKit Go.Lib Go.Sort in
theorem Tryz.slices_SortFunc_edge_none (p : Option Addr) (cap : Nat) (fv : Value) (w : World) :
  Calls Tryz.prog 132 #[.slice p 0 cap, fv] w fun e w' => e = .returned (.tuple #[]) ∧ w' = w := AnyF.slices_SortFunc_none Tryz.laysSortG p cap fv w
end Go.Proofs
namespace Go.Proofs.YtnhomkmfbngmgaaGreatDoor
open Go.ChangeShapes Go.WideShapes Go.ChangeAt Go.RowKit
def byv (n : Int) : List Value := [.int .u8 n]
abbrev SlU := Sl 1 byv
def SrcW (w : World) (b N : Nat) : Prop :=
 ∃ (A : Option Addr) (n c : Nat) (code : List Int) (at_ : Nat) (seed : Int), w.heap[b]? = some (.cells #[.slice A n c, .int .i64 (at_ : Int), .int .u64 seed] 139 (0, 0)) ∧ at_ ≤ N ∧ n ≤ maxLen ∧
  SlU w 0 b A n code ∧ ∀ x, x ∈ code → 0 ≤ x ∧ x ≤ 255
structure SrcTo (w w' : World) (b N : Nat) : Prop where
 src : SrcW w' b N
 only : Only b (b + 1) w w'
 size : w'.heap.size = w.heap.size
section
variable {w w' w2 : World} {b N M : Nat}
theorem SrcW.lt (h : SrcW w b N) : b < w.heap.size := by
 obtain ⟨A, n, c, code, a, s, hb, _⟩ := h;exact (Array.getElem?_eq_some_iff.1 hb).1
theorem SrcW.more (h : SrcW w b N) (hN : N ≤ M) : SrcW w b M := by
 obtain ⟨A, n, c, code, a, s, hb, ha, r⟩ := h;exact ⟨A, n, c, code, a, s, hb, Nat.le_trans ha hN, r⟩
theorem SrcW.keep (h : SrcW w b N) (hs : w.heap.size ≤ w'.heap.size) (hk : ∀ k, k ≤ b → w'.heap[k]? = w.heap[k]?) : SrcW w' b N := by
 obtain ⟨A, n, c, code, a, s, hb, ha, hn, hc, r⟩ := h;exact ⟨A, n, c, code, a, s, (hk b zR).trans hb, ha, hn, hc.keep hs fun k _ h2 _ => hk k (by omega), r⟩
theorem SrcW.below {B : Nat} (h : SrcW w b N) (hb : Below B w w') (hB : b < B) : SrcW w' b N := h.keep hb.size fun k hk => hb.block k (by omega)
theorem SrcTo.refl (h : SrcW w b N) : SrcTo w w b N := ⟨h, Only.refl _ _ _, rfl⟩
theorem Only.trans' {lo hi : Nat} {a w w' : World} (h : Only lo hi a w) (g : Only lo hi w w') : Only lo hi a w' :=
 ⟨g.os.trans h.os, g.tape.trans h.tape, g.output.trans h.output, Nat.le_trans h.size g.size, fun k hk ho => (g.block k (Nat.lt_of_lt_of_le hk h.size) ho).trans (h.block k hk ho)⟩
theorem SrcTo.trans (h : SrcTo w w' b N) (g : SrcTo w' w2 b M) : SrcTo w w2 b M := ⟨g.src, h.only.trans' g.only, g.size.trans h.size⟩
theorem SrcTo.more (h : SrcTo w w' b N) (hN : N ≤ M) : SrcTo w w' b M := ⟨h.src.more hN, h.only, h.size⟩
theorem SrcW.put {A : Option Addr} {n c : Nat} {code : List Int} {a : Nat} {s s' : Int} (hb : w.heap[b]? = some (.cells #[.slice A n c, .int .i64 (a : Int), .int .u64 s] 139 (0, 0))) (hn : n ≤ maxLen) (hc : SlU w 0 b A n code) (hr : ∀ x, x ∈ code → 0 ≤ x ∧ x ≤ 255) (k0 k : Nat) :
  SrcTo w ((((w.drewN k0).setCell ⟨b, 1, none⟩ (.int .i64 ((a : Int) + 1))).setCell ⟨b, 2, none⟩ (.int .u64 s')).drewN k) b (a + 1) := by
 have hlt : b < w.heap.size := (Array.getElem?_eq_some_iff.1 hb).1;replace hb : (w.drewN k0).heap[b]? = _ := hb;have hc2 : SlU (w.drewN k0) 0 b A n code := hc.drewN k0;have hO : Only b (b + 1) w (w.drewN k0) := ⟨rfl, rfl, rfl, zR, fun _ _ _ => rfl⟩;have hz : (w.drewN k0).heap.size = w.heap.size := rfl;generalize w.drewN k0 = W at *;refine ⟨⟨A, n, c, code, a + 1, s', ?_, zR, hn, ?_, hr⟩, ?_, ?_⟩
 ·have h1 := heap_setCell_same W b 1 _ _ (.int .i64 ((a : Int) + 1)) hb
  have h2 := heap_setCell_same _ b 2 _ _ (.int .u64 s') h1;exact h2
 ·refine Sl.drewN (w := (W.setCell ⟨b, 1, none⟩ (.int .i64 ((a : Int) + 1))).setCell ⟨b, 2, none⟩ (.int .u64 s')) ?_ k
  exact hc2.keep (by simp [World.size_setCell]) fun q _ h2 h3 => (Below.heap_setCell _ _ _ _ (by show q ≠ b; omega)).trans (Below.heap_setCell _ _ _ _ (by show q ≠ b; omega))
 ·have h1 := (hO.setCell (p := ⟨b, 1, none⟩) zR (Nat.lt_succ_self _) (.int .i64 ((a : Int) + 1))).setCell (p := ⟨b, 2, none⟩) zR (Nat.lt_succ_self _) (.int .u64 s')
  exact ⟨h1.os, h1.tape, h1.output, h1.size, h1.block⟩
 ·show ((W.setCell _ _).setCell _ _).heap.size = _
  rw [World.size_setCell, World.size_setCell]; exact hz
end
theorem byte_bits (x : Int) : 0 ≤ bits .and .u64 x 255 ∧ bits .and .u64 x 255 ≤ 255 := by
 have h : ((BitVec.ofInt 64 x &&& BitVec.ofInt 64 255).toNat) ≤ 255 := by
  rw [BitVec.toNat_and];exact Nat.le_trans Nat.and_le_right (by decide)
 have e : bits .and .u64 x 255 = IntKind.u64.wrap ((BitVec.ofInt 64 x &&& BitVec.ofInt 64 255).toNat : Nat) := rfl;rw [e, IntKind.wrap_u64];omega
theorem byte_wrap (x : Int) : 0 ≤ wrap64 (bits .and .u64 x 255) ∧ wrap64 (bits .and .u64 x 255) ≤ 255 := by
 have h := byte_bits x;have e : wrap64 (bits .and .u64 x 255) = bits .and .u64 x 255 := by unfold wrap64; omega
 rw [e]; exact h
theorem next_calls (b N : Nat) (w : World) (h : SrcW w b N) (hN : N ≤ 1000000000) :
  Calls Tryz.prog 166 #[.pointer (some ⟨b, 0, none⟩)] w fun e w' => ∃ x : Int, e = .returned (.int .i64 x) ∧ 0 ≤ x ∧ x ≤ 255 ∧ SrcTo w w' b (N + 1) := by
 obtain ⟨A, n, c, code, a, s, hb, ha, hn, hc, hr⟩ := h;have hput := hide fun s' k0 k => (SrcW.put (s' := s') hb hn hc hr k0 k).more (M := N + 1) (by omega)
 have c0 : w.cell? ⟨b, 0, none⟩ = some (.slice A n c) := (cell_of_row w b 0 _ _ (0, 0) hb).trans rfl;have c1 : w.cell? ⟨b, 1, none⟩ = some (.int .i64 (a : Int)) := (cell_of_row w b 1 _ _ (0, 0) hb).trans rfl;have c2 : w.cell? ⟨b, 2, none⟩ = some (.int .u64 s) := (cell_of_row w b 2 _ _ (0, 0) hb).trans rfl;have f1 := frozen_of_row w b 1 _ _ hb;have f2 := frozen_of_row w b 2 _ _ hb;have hnm : n ≤ 9223372036854775807 := Nat.le_trans hn (by unfold maxLen; omega);replace hb := hide hb
 by_cases hlt : a < n
 ·obtain ⟨bc, oc, rfl, -, -, -, hat⟩ := hc.at_ (by omega)
  have hl : a < code.length := by rw [hc.len]; exact hlt
  have hx := hat a _ (List.getElem?_eq_getElem hl) 0 _ rfl;simp only [Nat.mul_one, Nat.add_zero] at hx;obtain ⟨x0, x1⟩ := hr _ (List.getElem_mem hl);generalize code[a] = x at *;obtain ⟨hx, -⟩ := hx;replace hc := hide hc;clear hat hr;have i0 : (0 : Int) ≤ (a : Int) := by omega
  have i1 : (a : Int) < (n : Int) := by omega
  have i2 : (a : Int) + 1 ≤ (n : Int) := by omega
  have j1 : decide ((a : Int) < (n : Int)) = true := decide_eq_true i1;have j2 : decide ((a : Int) + 1 ≤ (n : Int)) = true := decide_eq_true i2;go_enter Tryz.func166, Tryz.ntmps166;go_wp2_with fail;go_quiet (fail);go_wp2_with fail;go_quiet (fail);go_wp2_with fail;go_quiet (fail);go_wp2_with fail;go_ret;exact ⟨x, rfl, x0, x1, hput.out _ _ _⟩
 ·replace hc := hide hc
  have i1 : ¬ (a : Int) < (n : Int) := by omega
  have i2 : ¬ (a : Int) + 1 ≤ (n : Int) := by omega
  have j1 : decide ((a : Int) < (n : Int)) = false := decide_eq_false i1;have j2 : decide ((a : Int) + 1 ≤ (n : Int)) = false := decide_eq_false i2;go_enter Tryz.func166, Tryz.ntmps166;go_wp2_with fail;go_quiet (fail);go_wp2_with fail;go_quiet (fail);go_wp2_with fail;go_ret;exact ⟨_, rfl, (byte_wrap _).1, (byte_wrap _).2, hput.out _ _ _⟩
def PickR (b N : Nat) (n : Int) (w : World) (e : Ending) (w' : World) : Prop := ∃ x : Int, e = .returned (.int .i64 x) ∧ 0 ≤ x ∧ (x < n ∨ x = 0) ∧ SrcTo w w' b (N + 2)
theorem pick_rem (x : Int) {n : Int} (hn : 1 < n) : 0 ≤ x % n ∧ x % n < n := ⟨Int.emod_nonneg _ (by omega), Int.emod_lt_of_pos _ (by omega)⟩
theorem pick_calls (b N : Nat) (n : Int) (w : World) (h : SrcW w b N) (hN : N ≤ 900000000) :
  Calls Tryz.prog 84 #[.pointer (some ⟨b, 0, none⟩), .int .i64 n] w (PickR b N n w) := by
 have q1 := hide (next_calls b N w h (by omega));have hself := hide ((SrcTo.refl h).more (show N ≤ N + 2 by omega));clear h
 by_cases h1 : n ≤ 1
 ·go_enter Tryz.func84, Tryz.ntmps84
  go_wp2_with fail;go_ret
  exact ⟨0, rfl, by omega, .inr rfl, hself.out⟩
 ·have hne : n ≠ 0 := by omega
  by_cases h2 : 200 < n
  ·go_enter Tryz.func84, Tryz.ntmps84
   go_wp2_with fail;refine q1.out.mono ?_
   rintro e w1 ⟨x, rfl, x0, x1, hs1⟩;have q2 := hide (next_calls b (N + 1) w1 hs1.src (by omega));replace hs1 := hide hs1;go_wp2_with fail;refine q2.out.mono ?_;rintro e w2 ⟨y, rfl, y0, y1, hs2⟩;have hs3 := hide (hs1.out.trans hs2);clear hs1 hs2 q1 q2;have hr := pick_rem (x * 256 + y) (show 1 < n by omega);go_wp2_with fail;go_ret;exact ⟨_, rfl, hr.1, .inl hr.2, hs3.out⟩
  ·go_enter Tryz.func84, Tryz.ntmps84
   go_wp2_with fail;refine q1.out.mono ?_
   rintro e w1 ⟨x, rfl, x0, x1, hs1⟩;have hs3 := hide (hs1.more (show N + 1 ≤ N + 2 by omega));clear hs1 q1;have hr := pick_rem x (show 1 < n by omega);go_wp2_with fail;go_ret;exact ⟨_, rfl, hr.1, .inl hr.2, hs3.out⟩
theorem one_calls (b N : Nat) (n : Int) (w : World) (h : SrcW w b N) (hN : N ≤ 900000000) :
  Calls Tryz.prog 92 #[.pointer (some ⟨b, 0, none⟩), .int .i64 n] w fun e w' => ∃ v : Bool, e = .returned (.bool v) ∧ SrcTo w w' b (N + 2) := by
 have q1 := hide (pick_calls b N n w h hN);clear h;go_enter Tryz.func92, Tryz.ntmps92;go_wp2_with fail;refine q1.out.mono ?_;rintro e w1 ⟨x, rfl, x0, x1, hs1⟩;replace hs1 := hide hs1;clear q1;go_wp2_with fail;go_ret;exact ⟨_, rfl, hs1.out⟩
theorem Only.alloc' {lo hi : Nat} {a w : World} (h : Only lo hi a w) (o : Obj) : Only lo hi a (w.alloc o) :=
 ⟨h.os, h.tape, h.output, by rw [World.size_alloc]; have := h.size; omega, fun q hq hd => (Below.heap_alloc _ _ _ (by have := h.size; omega)).trans (h.block q hq hd)⟩
theorem Only.setNew {lo hi : Nat} {a w : World} (h : Only lo hi a w) {p : Addr} (hp : a.heap.size ≤ p.block) (u : Value) : Only lo hi a (w.setCell p u) :=
 ⟨h.os, h.tape, h.output, by rw [World.size_setCell]; exact h.size, fun q hq hd => (Below.heap_setCell _ _ _ _ (by omega)).trans (h.block q hq hd)⟩
theorem Only.drew' {lo hi : Nat} {a w : World} (h : Only lo hi a w) : Only lo hi a w.drew := ⟨h.os, h.tape, h.output, h.size, h.block⟩
theorem Only.belowAt {lo hi B : Nat} {a w w' : World} (h : Only lo hi a w) (g : Below B w w') (hB : a.heap.size ≤ B) : Only lo hi a w' :=
 ⟨g.os.trans h.os, g.tape.trans h.tape, g.output.trans h.output, Nat.le_trans h.size g.size, fun q hq hd => (g.block q (by omega)).trans (h.block q hq hd)⟩
theorem Only.grow {lo hi : Nat} {a w w' : World} (h : Only lo hi a w) {row : Option Nat} (g : w.grownBy w' row) (hr : ∀ k, row = some k → a.heap.size ≤ k) : Only lo hi a w' :=
 ⟨g.os.trans h.os, g.tape.trans h.tape, g.output.trans h.output, Nat.le_trans h.size g.size, fun q hq hd => (g.block q (by have := h.size; omega) (fun e => by have := hr q e.symm; omega)).trans (h.block q hq hd)⟩
section
variable {w w' : World} {b N M : Nat}
theorem SrcW.alloc (h : SrcW w b N) (o : Obj) : SrcW (w.alloc o) b N := h.below ((Below.refl w.heap.size w).alloc zR o) h.lt
theorem SrcW.drew (h : SrcW w b N) : SrcW w.drew b N := h
theorem SrcW.drewN (h : SrcW w b N) (k : Nat) : SrcW (w.drewN k) b N := h
theorem SrcW.setNew (h : SrcW w b N) {p : Addr} (hp : b < p.block) (u : Value) : SrcW (w.setCell p u) b N :=
 h.keep (by rw [World.size_setCell]; exact zR) fun q hq => Below.heap_setCell _ _ _ _ (by omega)
theorem SrcW.grow (h : SrcW w b N) {row : Option Nat} (g : w.grownBy w' row) (hr : ∀ k, row = some k → b < k) : SrcW w' b N :=
 h.keep g.size fun q hq => g.block q (by have := h.lt; omega) (fun e => by have := hr q e.symm; omega)
end
theorem among_calls (b N : Nat) (A : Option Addr) (n c : Nat) (l : List Int) (w : World) (lo hi : Nat) (h : SrcW w b N) (hN : N ≤ 900000000) (hs : SlI w lo hi A n l) (hd : hi ≤ b ∨ b + 1 ≤ lo) (hn : 0 < n) (hm : n ≤ 1048576) :
  Calls Tryz.prog 86 #[.pointer (some ⟨b, 0, none⟩), .slice A n c] w fun e w' => ∃ x : Int, e = .returned (.int .i64 x) ∧ x ∈ l ∧ SrcTo w w' b (N + 2) := by
 have q1 := hide (pick_calls b N (n : Int) w h hN);obtain ⟨ba, oa, rfl, g1, g2, g3, -⟩ := hs.at_ hn;replace hs := hide hs;clear h;go_enter Tryz.func86, Tryz.ntmps86;go_wp2_with fail;refine q1.out.mono ?_;rintro e w1 ⟨x, rfl, x0, x1, hs1⟩;obtain ⟨k, rfl⟩ : ∃ k : Nat, x = (k : Int) := ⟨x.toNat, by omega⟩;have hk : k < n := by omega
 have hl := hs.out.only hs1.only (by omega);obtain ⟨b', o', y, e1, -, -, -, hy, c0, -⟩ := SlI.get hl hk;cases e1;replace hs1 := hide hs1;have hmem := hide (List.mem_of_getElem? hy);have k0 : (0 : Int) ≤ (k : Int) := by omega
 have k1 : (k : Int) < (n : Int) := by omega
 clear q1 hl hy x0 x1;go_wp2_with fail;go_ret;exact ⟨y, rfl, hmem.out, hs1.out⟩
theorem l00From_calls (A : Option Addr) (n c : Nat) (code : List Int) (w : World) (h : SlU w 0 w.heap.size A n code) (hc : ∀ x, x ∈ code → 0 ≤ x ∧ x ≤ 255) (hn : n ≤ maxLen) :
  Calls Tryz.prog 48 #[.slice A n c] w fun e w' => e = .returned (.pointer (some ⟨w.heap.size, 0, none⟩)) ∧ SrcW w' w.heap.size 0 ∧ Below w.heap.size w w' ∧ w'.heap.size = w.heap.size + 1 := by
 have hS : Hid (SrcW (w.alloc (.cells #[.slice A n c, .int .i64 0, .int .u64 0] 139)) w.heap.size 0) :=
  ⟨A, n, c, code, 0, 0, heap_alloc_new w _, zR, hn, h.below ((Below.refl w.heap.size w).alloc zR _) (.inr zR), hc⟩
 clear h;go_enter Tryz.func48, Tryz.ntmps48;go_wp2_with fail;go_ret;exact ⟨rfl, hS.out, bR.alloc zR _, by rw [World.size_alloc]⟩
open Go.Lib Go.Sort
theorem push3 (h : Array Obj) (a b o : Obj) : ((h.push a).push b).push o = h ++ #[a, b, o] := by
 apply Array.ext'
 simp
theorem grow3a (w : World) (a b o : Obj) : (((w.alloc a).alloc b).drew).alloc o = grow (w.drewN 1) #[a, b, o] := by
 unfold grow;rw [← push3]
 rfl
theorem grow3b (w : World) (a b o : Obj) : (((w.alloc a).alloc b).alloc o).drew = grow (w.drewN 1) #[a, b, o] := by
 unfold grow;rw [← push3]
 rfl
theorem compareEdgesG_calls (x1 x2 x3 y1 y2 y3 : Int) (w : World) :
  Calls Tryz.prog 122 #[.agg #[.int .i64 x1, .int .i64 x2, .int .i64 x3], .agg #[.int .i64 y1, .int .i64 y2, .int .i64 y3]] w fun e w' => e = .returned (.int .i64 (cmpE (x1, x2, x3) (y1, y2, y3))) ∧ ∃ q os, w' = grow (w.drewN q) os := by
 have hv : Hid (cmpE (x1, x2, x3) (y1, y2, y3) = orF [cmpI x1 y1, cmpI x2 y2, cmpI x3 y3]) := rfl;have hbA : Below w.heap.size w ((w.alloc (.cells #[.int .i64 x1, .int .i64 x2, .int .i64 x3] 84)).alloc (.cells #[.int .i64 y1, .int .i64 y2, .int .i64 y3] 84)) := (bR.alloc zR _).alloc (by simp only [World.size_alloc]; omega) _;have k0 := (Below.heap_alloc (w.alloc (.cells #[.int .i64 x1, .int .i64 x2, .int .i64 x3] 84)) (.cells #[.int .i64 y1, .int .i64 y2, .int .i64 y3] 84) w.heap.size (by simp only [World.size_alloc]; omega)).trans (heap_alloc_new w (.cells #[.int .i64 x1, .int .i64 x2, .int .i64 x3] 84));have k1 := heap_alloc_new (w.alloc (.cells #[.int .i64 x1, .int .i64 x2, .int .i64 x3] 84)) (.cells #[.int .i64 y1, .int .i64 y2, .int .i64 y3] 84);rw [World.size_alloc] at k1;have q := hide compare_calls;have hgr1 : Hid (∀ o : Obj, ∃ (q : Nat) (os : Array Obj), (((w.alloc (.cells #[.int .i64 x1, .int .i64 x2, .int .i64 x3] 84)).alloc (.cells #[.int .i64 y1, .int .i64 y2, .int .i64 y3] 84)).drew).alloc o = grow (w.drewN q) os) := fun o => ⟨1, _, grow3a w _ _ o⟩
 have hgr2 : Hid (∀ o : Obj, ∃ (q : Nat) (os : Array Obj), (((w.alloc (.cells #[.int .i64 x1, .int .i64 x2, .int .i64 x3] 84)).alloc (.cells #[.int .i64 y1, .int .i64 y2, .int .i64 y3] 84)).alloc o).drew = grow (w.drewN q) os) := fun o => ⟨1, _, grow3b w _ _ o⟩
 replace hbA := hide hbA;replace k0 := hide k0;replace k1 := hide k1;go_enter Tryz.func122, Tryz.ntmps122;go_wp2_with fail;generalize hW : ((w.alloc (.cells #[.int .i64 x1, .int .i64 x2, .int .i64 x3] 84)).alloc (.cells #[.int .i64 y1, .int .i64 y2, .int .i64 y3] 84)) = W at *;have a0 : W.cell? ⟨w.heap.size, 0, none⟩ = some (.int .i64 x1) := cR 0 k0.out;have a1 : W.cell? ⟨w.heap.size, 1, none⟩ = some (.int .i64 x2) := cR 1 k0.out;have a2 : W.cell? ⟨w.heap.size, 2, none⟩ = some (.int .i64 x3) := cR 2 k0.out;have b0 : W.cell? ⟨w.heap.size + 1, 0, none⟩ = some (.int .i64 y1) := cR 0 k1.out;have b1 : W.cell? ⟨w.heap.size + 1, 1, none⟩ = some (.int .i64 y2) := cR 1 k1.out;have b2 : W.cell? ⟨w.heap.size + 1, 2, none⟩ = some (.int .i64 y3) := cR 2 k1.out;clear hW
 go_region_held3 (fun w' => w'.cell? ⟨w.heap.size, 0, none⟩ = some (.int .i64 x1) ∧ w'.cell? ⟨w.heap.size, 1, none⟩ = some (.int .i64 x2) ∧ w'.cell? ⟨w.heap.size, 2, none⟩ = some (.int .i64 x3) ∧ w'.cell? ⟨w.heap.size + 1, 0, none⟩ = some (.int .i64 y1) ∧ w'.cell? ⟨w.heap.size + 1, 1, none⟩ = some (.int .i64 y2) ∧ w'.cell? ⟨w.heap.size + 1, 2, none⟩ = some (.int .i64 y3)) (first | exact ⟨a0, a1, a2, b0, b1, b2⟩ | go_keep)
  (first
   | (go_at_call 216; (with_reducible refine (q.out _ _ _).mono ?_); rintro e w' ⟨rfl, rfl⟩)
   | (go_at_call 215; (refine (or3_calls _ _ _ _ _ _ (by exact heap_alloc_new W _)).mono ?_); rintro e w' ⟨rfl, rfl⟩))
 all_goals go_wp2
 all_goals go_ret
 all_goals
  first
   | exact ⟨ret_i (by rw [hv.out]), hgr1.out _⟩
   | exact ⟨ret_i (by rw [hv.out]), hgr2.out _⟩
theorem ltOf_cmpE (a b : Ed) : ltOf cmpE a b = edLess a b := by
 have h := cmpE_less a b;unfold ltOf
 by_cases e : cmpE a b < 0
 ·rw [decide_eq_false (by omega)] at h
  have : edLess a b = true := by cases h2 : edLess a b <;> simp_all
  rw [this]; exact decide_eq_true e
 ·rw [decide_eq_true (by omega)] at h
  have : edLess a b = false := by cases h2 : edLess a b <;> simp_all
  rw [this]; exact decide_eq_false e
theorem swoE : SWO (ltOf cmpE) where
 irrefl x := by rw [ltOf_cmpE]; exact edLess_irr x
 trans x y z h1 h2 := by rw [ltOf_cmpE] at *; exact edLess_trans h1 h2
 ntrans x y z h1 h2 := by
  rw [ltOf_cmpE] at *
  by_cases e1 : x = y
  ·rw [e1]; exact h2
  ·by_cases e2 : y = z
   ·rw [← e2]; exact h1
   ·have g1 := (edLess_total e1).resolve_left (by rw [h1]; decide)
    have g2 := (edLess_total e2).resolve_left (by rw [h2]; decide);exact Bool.eq_false_iff.2 fun h => by
     have := edLess_trans (edLess_trans h g2) g1;rw [edLess_irr] at this; cases this
theorem apartE (x y : Ed) (h : ltOf cmpE x y = false) (g : ltOf cmpE y x = false) : x = y := by
 rw [ltOf_cmpE] at h g
 by_cases e : x = y
 ·exact e
 ·rcases edLess_total e with h1 | h1
  ·rw [h] at h1; cases h1
  ·rw [g] at h1; cases h1
def sortE (l : List Ed) : List Ed := l.mergeSort fun x y => !(ltOf cmpE) y x
theorem sortE_len (l : List Ed) : (sortE l).length = l.length := List.length_mergeSort _
theorem sortE_le (l : List Ed) : (sortE l).Pairwise fun x y => edLess y x = false := by
 have := List.pairwise_mergeSort (le := fun x y : Ed => !(ltOf cmpE) y x) (fun a b c h1 h2 => by
  simp only [Bool.not_eq_true', ltOf_cmpE] at *;exact Bool.eq_false_iff.2 fun h => by
   by_cases e : a = b
   ·rw [e] at h; rw [h] at h2; cases h2
   ·have g := (edLess_total e).resolve_right (by rw [h1]; decide)
    have := edLess_trans h g;rw [this] at h2; cases h2) (fun a b => by
  simp only [Bool.or_eq_true, Bool.not_eq_true', ltOf_cmpE]
  by_cases h : edLess b a = true
  ·right
   exact Bool.eq_false_iff.2 fun g => by
    have := edLess_trans h g;rw [edLess_irr] at this; cases this
  ·left; exact Bool.eq_false_iff.2 h) l
 exact this.imp fun h => by simpa [ltOf_cmpE] using h
section
variable {w : World} {base g n c q : Nat} {e : TypeId} {l d : List Ed} {os : Array Obj}
theorem flatE_get (d : List Ed) {j : Nat} (hj : j < d.length * 3) : (flatK ev 3 d.toArray)[j]? = (d.flatMap ev)[j]? := by
 have h1 : (flatK ev 3 d.toArray)[j]? = some ((flatK ev 3 d.toArray)[j]!) := by
  rw [getElem!_pos _ j (by simpa using hj), Array.getElem?_eq_getElem (by simpa using hj)]
 rw [h1, get_flatK ev 3 d.toArray j (by simpa using hj)];have hk : j / 3 < d.length := by omega
 have := flat_at flat_ev d (j / 3) d[j / 3] (List.getElem?_eq_getElem hk) (j % 3) ((ev d[j / 3])[j % 3]'(by rw [flat_ev.len]; omega)) (List.getElem?_eq_getElem _);rw [show j / 3 * 3 + j % 3 = j by omega] at this;rw [this, getElem!_pos _ (j / 3) (by simpa using hk)];simp only [List.getElem_toArray];rw [getElem!_pos _ (j % 3) (by rw [flat_ev.len]; omega)]
theorem Own.holdsE (h : Own 3 ev w base e (some ⟨g, 0, none⟩) n c l) : HoldsK ev 3 w g 0 l.toArray := by
 intro j hj;have hj' : j < l.length * 3 := by simpa using hj
 have hs := h.sl flat_ev;have hn := h.len;obtain ⟨b', off', e', -, -, -, hc⟩ := hs.at_ (by omega)
 cases e'
 have hk : j / 3 < l.length := by omega
 have h1 := flatE_get l hj';have h2 := flat_at flat_ev l (j / 3) l[j / 3] (List.getElem?_eq_getElem hk) (j % 3) ((ev l[j / 3])[j % 3]'(by rw [flat_ev.len]; omega)) (List.getElem?_eq_getElem _);rw [show j / 3 * 3 + j % 3 = j by omega] at h2;rw [h2] at h1;have h3 : (flatK ev 3 l.toArray)[j]! = (ev l[j / 3])[j % 3]'(by rw [flat_ev.len]; omega) := by
  rw [getElem!_pos _ j (by simpa using hj)];have := Array.getElem?_eq_getElem (xs := flatK ev 3 l.toArray) (i := j) (by simpa using hj);rw [this] at h1;exact Option.some.inj h1
 have := hc (j / 3) l[j / 3] (List.getElem?_eq_getElem hk) (j % 3) _ (List.getElem?_eq_getElem (by rw [flat_ev.len]; omega));rw [show j / 3 * 3 + j % 3 = j by omega] at this
 show w.cell? ⟨g, 0 + j, none⟩ = some (id ((flatK ev 3 l.toArray)[j]!)) ∧ _
 rw [h3];exact this
theorem putE_block (w : World) (g q : Nat) (F : Array Value) (os : Array Obj) (hg : g < w.heap.size) :
  (grow (putRow id (Sort.ahead w q) g 0 F) os).heap[g]? = (w.heap[g]?).map (onCells (Go.Sort.putCells id 0 F)) := by
 rw [heap_grow_old _ _ (by simpa [putRow, mapBlock, Sort.ahead] using hg)]
 simp [putRow, mapBlock, Sort.ahead, Array.getElem?_modify]
theorem putE_grown (w : World) (g q : Nat) (F : Array Value) (os : Array Obj) : w.grownBy (grow (putRow id (Sort.ahead w q) g 0 F) os) (some g) := by
 refine ⟨rfl, rfl, rfl, by simp [putRow, mapBlock, Sort.ahead], fun k hk hne => ?_⟩;rw [heap_grow_old _ _ (by simpa [putRow, mapBlock, Sort.ahead] using hk)];have hne' : g ≠ k := fun h => hne (by rw [h])
 simp [putRow, mapBlock, Sort.ahead, Array.getElem?_modify, hne']
theorem Own.putK (h : Own 3 ev w base e (some ⟨g, 0, none⟩) n c l) (hd : d.length = n) : Own 3 ev (sortWorldK ev 3 w g 0 q d.toArray os) base e (some ⟨g, 0, none⟩) n c d := by
 rcases h.2.2 with ⟨hv, -⟩ | ⟨g', cap, cur, hv, hb, hg, hnc, hcm, hcs, htake⟩
 ·cases hv
 ·cases hv
  have hlt : g < w.heap.size := (Array.getElem?_eq_some_iff.1 hg).1;refine ⟨hd, by rw [flat_length flat_ev, hd], .inr ⟨g, c, Go.Sort.putCells id 0 (flatK ev 3 d.toArray) cur, rfl, hb, ?_, hnc, hcm, by simp [Go.Sort.putCells, hcs], ?_⟩⟩
  ·unfold sortWorldK putRowK
   rw [putE_block _ _ _ _ _ hlt, hg]
   rfl
  ·apply List.ext_getElem?
   intro k
   by_cases hk : k < n * 3
   ·have hkc : k < cur.size := by omega
    rw [List.getElem?_take, if_pos hk, Array.getElem?_toList];simp only [Go.Sort.putCells, Array.getElem?_mapIdx, Array.getElem?_eq_getElem hkc, Option.map_some];rw [if_pos ⟨Nat.zero_le _, by simp [hd]; omega⟩, Nat.sub_zero];have := flatE_get d (j := k) (by rw [hd]; exact hk);rw [← this, Array.getElem?_eq_getElem (by simp [hd]; omega), getElem!_pos _ k (by simp [hd]; omega)]
    rfl
   ·rw [List.getElem?_eq_none (by simp; omega), List.getElem?_eq_none (by rw [flat_length flat_ev, hd]; omega)]
end
section
variable {w : World} {base n c : Nat} {A : Option Addr} {l : List Ed}
theorem sortE_calls (h : Own 3 ev w base 84 A n c l) (hn : n ≤ 1000000000) :
  Calls Tryz.prog 132 #[.slice A n c, .func (.func 122) #[] #[]] w fun e w' => e = .returned (.tuple #[]) ∧ Own 3 ev w' base 84 A n c (sortE l) ∧ w.grownBy w' (Value.slice A n c).ownBlock := by
 rcases h.2.2 with ⟨hv, hn0⟩ | ⟨g, cap, cur, hv, hb, hg, hnc, hcm, hcs, htake⟩
 ·cases hv
  have hl := List.eq_nil_of_length_eq_zero h.len;subst hl;refine (Tryz.slices_SortFunc_edge_none none 0 _ w).mono ?_;rintro e w' ⟨rfl, rfl⟩;refine ⟨rfl, ?_, ⟨rfl, rfl, rfl, zR, fun _ _ _ => rfl⟩⟩
  simpa [sortE] using h
 ·cases hv
  have hlt : g < w.heap.size := (Array.getElem?_eq_some_iff.1 hg).1;have eg : ∀ args w, (callFunc 122 args).run Tryz.prog w = .ok (.enter 122 args) w := enters_of Tryz.func122 (by kernel_rfl) rfl;have hsz : l.toArray.size = n := by simp [h.len]
  have hcmp : CmpLays Tryz.prog 122 #[] ev 3 cmpE g 0 l.toArray.size w := fun m os dk hs x y => compareEdgesG_calls x.1 x.2.1 x.2.2 y.1 y.2.1 y.2.2 _
  have hq := Tryz.slices_SortFunc_edge ev (fun x => flat_ev.len x) (fun x v hv => flat_ev.one x v hv) cmpE swoE 122 #[] g 0 c l.toArray w eg hcmp h.holdsE hlt (by rw [hsz]; omega) apartE;rw [hsz] at hq;refine hq.mono ?_;rintro e w' ⟨rfl, q, os, rfl⟩;exact ⟨rfl, h.putK (d := sortE l) ((sortE_len l).trans h.len), putE_grown _ _ _ _ _⟩
end
theorem setCells_heap9 (g : Nat) (e : TypeId) : ∀ (vs : List Value) (o : Nat) (w : World) (cur : Array Value), w.heap[g]? = some (.cells cur e (0, 0)) → ∃ cur' : Array Value, (w.setCells g o vs).heap[g]? = some (.cells cur' e (0, 0)) ∧ cur'.size = cur.size ∧ ∀ i, i < o → cur'[i]? = cur[i]?
 | [], o, w, cur, h => ⟨cur, h, rfl, fun _ _ => rfl⟩
 | v :: r, o, w, cur, h => by
  have h1 := heap_setCell_same w g o cur _ v h;obtain ⟨cur', a, b, c⟩ := setCells_heap9 g e r (o + 1) _ _ h1;refine ⟨cur', a, by rw [b]; simp, fun i hi => ?_⟩;rw [c i (by omega), Array.getElem?_setIfInBounds_ne (by omega)]
theorem setCells_only9 (g : Nat) : ∀ (vs : List Value) (o : Nat) (w : World), Only g (g + 1) w (w.setCells g o vs)
 | [], o, w => Only.refl _ _ _
 | v :: r, o, w => by
  have h1 := (Only.refl g (g + 1) w).setCell (p := ⟨g, o, none⟩) zR (Nat.lt_succ_self _) v;exact h1.trans' (setCells_only9 g r (o + 1) _)
theorem Own.clearE {w : World} {base g n c k : Nat} {e : TypeId} {l : List Ed} (h : Own 3 ev w base e (some ⟨g, 0, none⟩) n c l) (hk : k ≤ n) (vs : List Value) : Own 3 ev (w.setCells g (k * 3) vs) base e (some ⟨g, 0, none⟩) k c (l.take k) := by
 rcases h.2.2 with ⟨hv, -⟩ | ⟨g', cap, cur, hv, hb, hg, hnc, hcm, hcs, htake⟩
 ·cases hv
 ·cases hv
  have hn := h.len;have hl : (l.take k).length = k := by rw [List.length_take]; omega
  obtain ⟨cur', a, b, d⟩ := setCells_heap9 g e vs (k * 3) w cur hg;refine ⟨hl, by rw [flat_length flat_ev, hl], .inr ⟨g, c, cur', rfl, hb, a, by omega, hcm, by rw [b]; exact hcs, ?_⟩⟩
  apply List.ext_getElem?
  intro i
  by_cases hi : i < k * 3
  ·rw [List.getElem?_take, if_pos hi, Array.getElem?_toList, d i hi]
   have h1 : (cur.toList.take (n * 3))[i]? = (l.flatMap ev)[i]? := by rw [htake]
   rw [List.getElem?_take, if_pos (by omega), Array.getElem?_toList] at h1;rw [h1];have h2 : l.flatMap ev = (l.take k).flatMap ev ++ (l.drop k).flatMap ev := by rw [← List.flatMap_append, List.take_append_drop]
   rw [h2, List.getElem?_append_left (by rw [flat_length flat_ev, hl]; exact hi)]
  ·rw [List.getElem?_eq_none (by simp; omega), List.getElem?_eq_none (by rw [flat_length flat_ev, hl]; omega)]
theorem run_clearE (w : World) (ty : TypeId) (b o n c : Nat) (hn : 0 < n) (hc : ∀ j, j < n * 3 → (w.cell? ⟨b, o + j, none⟩).isSome = true) (hf : ∀ j, j < n * 3 → w.frozen? ⟨b, o + j, none⟩ = false) :
  (Builtin.clear_ #[25] ty #[.slice (some ⟨b, o, none⟩) n c]).run Tryz.prog w = .ok (.tuple #[]) (w.setCells b o (List.replicate (n * 3) (.int .i64 0))) := by
 have hv : ∀ w, (zeroValue 84).run Tryz.prog w = .ok (.agg #[.int .i64 0, .int .i64 0, .int .i64 0]) w := fun w => by kernel_rfl
 have hzc : (Builtin.zeroCells (Value.agg #[.int .i64 0, .int .i64 0, .int .i64 0]).cells n).toList = List.replicate (n * 3) (.int .i64 0) := by
  have e : (Value.agg #[.int .i64 0, .int .i64 0, .int .i64 0]).cells = #[.int .i64 0, .int .i64 0, .int .i64 0] := rfl;rw [e]
  apply List.ext_getElem
  ·simp [Builtin.zeroCells, Nat.mul_comm]
  ·intro i h1 h2
   simp only [Builtin.zeroCells, List.getElem_replicate];have : i % 3 = 0 ∨ i % 3 = 1 ∨ i % 3 = 2 := by omega
   rcases this with h | h | h <;> simp [h]
 have hst := run_storeCells_cells (P := Tryz.prog) b o (List.replicate (n * 3) (.int .i64 0)) 0 w (by simpa using hc) (by simpa using hf) (by intro v hv'; rw [List.eq_of_mem_replicate hv']; rfl);simp only [Nat.add_zero] at hst;obtain ⟨m, rfl⟩ : ∃ m, n = m + 1 := ⟨n - 1, by omega⟩
 simp [Builtin.clear_, run_underlying Tryz.underlying25, hv, hzc, hst]
theorem ed_cases (x1 x2 x3 y1 y2 y3 : Int) : (y1 = x1 ∧ y2 = x2 ∧ y3 = x3) ∨ (((x1, x2, x3) : Ed) ≠ (y1, y2, y3) ∧ ((x1 == y1) = false ∨ (y1 = x1 ∧ (x2 == y2) = false) ∨ (y1 = x1 ∧ y2 = x2 ∧ (x3 == y3) = false))) := by
 by_cases a : x1 = y1
 ·by_cases b : x2 = y2
  ·by_cases c : x3 = y3
   ·exact .inl ⟨a.symm, b.symm, c.symm⟩
   ·exact .inr ⟨fun e => c (by injection e with _ e; injection e with _ e), .inr (.inr ⟨a.symm, b.symm, beq_eq_false_iff_ne.2 c⟩)⟩
  ·exact .inr ⟨fun e => b (by injection e with _ e; injection e with e _), .inr (.inl ⟨a.symm, beq_eq_false_iff_ne.2 b⟩)⟩
 ·exact .inr ⟨fun e => a (by injection e with e _), .inl (beq_eq_false_iff_ne.2 a)⟩
theorem gete {l : List Ed} {k : Nat} {x : Ed} (h : l[k]? = some x) : l.toArray[k]! = x := by
 obtain ⟨h1, h2⟩ := List.getElem?_eq_some_iff.1 h;rw [getElem!_pos _ k (by simpa using h1)]
 simpa using h2
theorem only_grown {w w' : World} {g : Nat} (h : Only g (g + 1) w w') : w.grownBy w' (some g) := ⟨h.os, h.tape, h.output, h.size, fun k hk hne => h.block k hk (by
 have : g ≠ k := fun e => hne (by rw [e])
 omega)⟩
theorem cells_all {w : World} {base g n c j : Nat} {e : TypeId} {l : List Ed} (h : Own 3 ev w base e (some ⟨g, 0, none⟩) n c l) (hj : j < n * 3) :
  (w.cell? ⟨g, j, none⟩).isSome = true ∧ w.frozen? ⟨g, j, none⟩ = false := by
 obtain ⟨g', o', x1, x2, x3, ex, -, -, -, hx, c0, c1, c2, f0, f1, f2⟩ := SlE.get (h.sl flat_ev) (show j / 3 < n by omega)
 cases ex
 rw [Nat.zero_add] at c0 c1 c2 f0 f1 f2;have : j = j / 3 * 3 ∨ j = j / 3 * 3 + 1 ∨ j = j / 3 * 3 + 2 := by omega
 rcases this with e | e | e <;> rw [e]
 ·exact ⟨by rw [c0]; rfl, f0⟩
 ·exact ⟨by rw [c1]; rfl, f1⟩
 ·exact ⟨by rw [c2]; rfl, f2⟩
theorem _root_.Go.Lib.CompInv.takeE {l M : List Ed} {m kk n : Nat} (h : CompInv l.toArray m kk M.toArray) (hl : l.length = n) (hm : m = n) : M.take kk = Lib.compact l := by
 subst hm;have h1 : Lib.compact l = compactUpTo l.toArray m := by unfold compact; rw [hl]
 have h2 := h.size;have h3 := h.lt;simp only [List.size_toArray] at h2;rw [h1]
 apply List.ext_getElem?
 intro j
 by_cases hj : j < kk
 ·rw [h.low j hj, List.getElem?_take, if_pos hj, List.getElem?_eq_getElem (show j < M.length by omega), getElem!_pos _ j (by simp; omega)]
  simp
 ·rw [List.getElem?_eq_none (by simp; omega), List.getElem?_eq_none (by rw [h.len]; omega)]
theorem compactE_mem {l : List Ed} {x : Ed} : x ∈ Lib.compact l ↔ x ∈ l := by
 unfold Lib.compact Lib.compactUpTo;rw [List.mem_map]
 constructor
 ·rintro ⟨k, hk, rfl⟩
  have hk' := List.mem_range.1 (List.mem_filter.1 hk).1;rw [getElem!_pos _ k (by simpa using hk')]
  simp
 ·intro hx
  obtain ⟨k, hk, rfl⟩ := List.mem_iff_getElem.1 hx;have key : ∀ k, (hk : k < l.length) → ∃ a, a ∈ (List.range l.length).filter (Lib.keeps l.toArray) ∧ l.toArray[a]! = l[k] := by
   intro k
   induction k with
   | zero => exact fun hk => ⟨0, List.mem_filter.2 ⟨List.mem_range.2 hk, by simp [Lib.keeps]⟩, by rw [getElem!_pos _ 0 (by simpa using hk)]; simp⟩
   | succ k ih =>
    intro hk
    by_cases h : l.toArray[k + 1]! = l.toArray[k]!
    ·obtain ⟨a, ha, e⟩ := ih (by omega)
     refine ⟨a, ha, ?_⟩;rw [e];rw [getElem!_pos _ (k + 1) (by simpa using hk), getElem!_pos _ k (by simp; omega)] at h
     simpa using h.symm
    ·exact ⟨k + 1, List.mem_filter.2 ⟨List.mem_range.2 hk, Lib.keeps_pos (by simpa using h)⟩, by rw [getElem!_pos _ (k + 1) (by simpa using hk)]; simp⟩
  exact key k hk
theorem compactE_len (l : List Ed) : (Lib.compact l).length ≤ l.length := by
 unfold Lib.compact Lib.compactUpTo;rw [List.length_map];exact Nat.le_trans (List.length_filter_le _ _) (by simp)
theorem compactE_calls {w : World} {base n c : Nat} {A : Option Addr} {l : List Ed} (h : Own 3 ev w base 84 A n c l) (hn : n ≤ 1000000000) (hnc : n ≤ c) :
  Calls Tryz.prog 228 #[.slice A n c] w fun e w' => e = .returned (.slice A (Lib.compact l).length c) ∧ Own 3 ev w' base 84 A (Lib.compact l).length c (Lib.compact l) ∧ w.grownBy w' (Value.slice A n c).ownBlock := by
 have hll := h.len
 by_cases hn2 : n < 2
 ·have g1 : (n : Int) < 2 := by omega
  have hc0 : Lib.compact l = l := compact_all l fun j hj => by
   have : j = 0 := by omega
   subst this
   simp [keeps]
  rw [hc0, hll];replace h := hide h;go_enter Tryz.func228, Tryz.ntmps228;go_wp2_with fail;go_ret;exact ⟨rfl, h.out, ⟨rfl, rfl, rfl, zR, fun _ _ _ => rfl⟩⟩
 have g1 : ¬ (n : Int) < 2 := by omega
 have hEe := hide elem_edge;obtain ⟨g, rfl, hbg⟩ := h.neE (by omega);have hbl := (h.lt g rfl).2
 show Calls _ _ _ _ fun e w' => _ ∧ _ ∧ w.grownBy w' (some g)
 replace h := hide h;go_enter Tryz.func228, Tryz.ntmps228;go_wp2_with fail
 go_loopw [3] (fun v wr => ∃ u : Nat, u + 1 ≤ n ∧ v = .int .i64 ((u + 1 : Nat) : Int) ∧ Hid (∃ nq, wr = w.drewN nq) ∧ Hid (∀ j, j ≤ u → keeps l.toArray j = true)) (fun v _ => n - (intOf v).toNat)
 case atStart => exact ⟨0, by omega, rfl, ⟨0, rfl⟩, fun j hj => by
  have : j = 0 := by omega
  subst this
  simp [keeps]⟩
 case round =>
  obtain ⟨u, hu, rfl, hw, hall⟩ := hrel;have hO : Hid (Own 3 ev wr base 84 (some ⟨g, 0, none⟩) n c l) := by
   obtain ⟨nq, e⟩ := hw.out
   show Own _ _ _ _ _ _ _ _ _
   rw [e];exact h.out.keep fun _ _ => rfl
  by_cases hlt : u + 1 < n
  ·have k1 : ((u + 1 : Nat) : Int) < (n : Int) := by omega
   have k0 : (0 : Int) ≤ ((u + 1 : Nat) : Int) := by omega
   have hi1 : IntKind.i64.wrap (((u + 1 : Nat) : Int) - 1) = (u : Int) := by rw [IntWalk.i64_in _ (by omega)]; omega
   have hi2 : ((u + 1 : Nat) : Int) - 1 = (u : Int) := by omega
   have u0 : (0 : Int) ≤ (u : Int) := by omega
   have u1 : (u : Int) < (n : Int) := by omega
   obtain ⟨gx, ox, x1, x2, x3, ex, -, -, -, hx, c0, c1, c2, -⟩ := SlE.get (hO.out.sl flat_ev) hlt;obtain ⟨gy, oy, y1, y2, y3, ey, -, -, -, hy, d0, d1, d2, -⟩ := SlE.get (hO.out.sl flat_ev) (show u < n by omega)
   cases ex
   cases ey
   rw [Nat.zero_add] at c0 c1 c2 d0 d1 d2
   rcases ed_cases x1 x2 x3 y1 y2 y3 with ⟨e1, e2, e3⟩ | ⟨hne, hc⟩
   ·subst e1 e2 e3
    have hdup : Hid (keeps l.toArray (u + 1) = false) := keeps_neg (by omega) (by rw [gete hx]; exact (gete hy).symm);have hs1 : ∀ W : World, (Instr.slice 25 (.slice (some ⟨g, 0, none⟩) n c) (some (.int .i64 ((u + 1 : Nat) : Int))) none none).run Tryz.prog W = .ok (.slice (some ⟨g, (u + 1) * 3, none⟩) (n - (u + 1)) (c - (u + 1))) W := fun W => by
     rw [run_cut hEe.out _ n c (u + 1) (by omega) W];unfold cutA;rw [if_neg (by omega)]
     simp [Addr.add]
    go_upto_region 6 with fail;go_quiet (fail);obtain ⟨wi, hwi⟩ : ∃ wi, wi = wr.drewN nq := ⟨_, rfl⟩;have hOi : Hid (Own 3 ev wi base 84 (some ⟨g, 0, none⟩) n c l) := by rw [hwi]; exact hO.out.keep fun _ _ => rfl
    have hon : Hid (Only g (g + 1) w wi) := by
     obtain ⟨nq2, e⟩ := hw.out;rw [hwi, e];exact ⟨rfl, rfl, rfl, zR, fun _ _ _ => rfl⟩
    rw [← hwi];replace hwi := hide hwi;replace hx := hide hx;replace hy := hide hy;clear c0 c1 c2 d0 d1 d2 hO hw;go_wp2_with fail;obtain ⟨wQ, rfl⟩ : ∃ wQ : World, wQ = wr := ⟨_, rfl⟩
    go_loopw [3, 5] (fun v3 v5 wz => ∃ (kk v : Nat) (M : List Ed), v3 = .int .i64 (kk : Nat) ∧ v5 = .int .i64 ((v + 1 : Nat) : Int) ∧ u + 1 + v + 1 ≤ n ∧ Hid (Own 3 ev wz base 84 (some ⟨g, 0, none⟩) n c M) ∧ Hid (CompInv l.toArray (u + 1 + v + 1) kk M.toArray) ∧ Hid (Only g (g + 1) w wz)) (fun _ v _ => n - (intOf v).toNat)
    case atStart => exact ⟨u + 1, 0, l, rfl, rfl, by omega, hOi.out, CompInv.start (fun j hj => hall.out j (by omega)) hdup.out, hon.out⟩
    case round =>
     clear hOi hon;obtain ⟨kk, v, M, rfl, rfl, hv, hOM, hI, hon⟩ := hrel;have hMl := hOM.out.len;have hkm := hI.out.lt
     by_cases hlt2 : u + 1 + (v + 1) < n
     ·have k2 : ((v + 1 : Nat) : Int) < ((n - (u + 1) : Nat) : Int) := by omega
      have k20 : (0 : Int) ≤ ((v + 1 : Nat) : Int) := by omega
      have hi3 : IntKind.i64.wrap (((v + 1 : Nat) : Int) - 1) = (v : Int) := by rw [IntWalk.i64_in _ (by omega)]; omega
      have hi4 : ((v + 1 : Nat) : Int) - 1 = (v : Int) := by omega
      have v0 : (0 : Int) ≤ (v : Int) := by omega
      have v1 : (v : Int) < ((n - (u + 1) : Nat) : Int) := by omega
      have kk0 : (0 : Int) ≤ (kk : Int) := by omega
      have kk1 : (kk : Int) < (n : Int) := by omega
      have hki : IntKind.i64.wrap ((kk : Int) + 1) = ((kk + 1 : Nat) : Int) := by rw [IntWalk.i64_in _ (by omega)]; omega
      have hvi : IntKind.i64.wrap (((v + 1 : Nat) : Int) + 1) = ((v + 1 + 1 : Nat) : Int) := by rw [IntWalk.i64_in _ (by omega)]; omega
      obtain ⟨gx, ox, x1, x2, x3, ex, -, -, -, hx, c0, c1, c2, -⟩ := SlE.get (hOM.out.sl flat_ev) hlt2;obtain ⟨gy, oy, y1, y2, y3, ey, -, -, -, hy, d0, d1, d2, -⟩ := SlE.get (hOM.out.sl flat_ev) (show u + 1 + v < n by omega);obtain ⟨gz, oz, z1, z2, z3, ez, -, -, -, hz, z0c, z1c, z2c, z0f, z1f, z2f⟩ := SlE.get (hOM.out.sl flat_ev) (show kk < n by omega)
      cases ex
      cases ey
      cases ez
      rw [Nat.zero_add] at c0 c1 c2 d0 d1 d2 z0c z1c z2c z0f z1f z2f;rw [show (u + 1 + (v + 1)) * 3 = (u + 1) * 3 + (v + 1) * 3 from Nat.add_mul _ _ _] at c0 c1 c2;rw [show (u + 1 + v) * 3 = (u + 1) * 3 + v * 3 from Nat.add_mul _ _ _] at d0 d1 d2;have hx' : l.toArray[u + 1 + v + 1]! = (x1, x2, x3) := by
       rw [← hI.out.high (u + 1 + v + 1) (by omega)];exact gete hx
      have hy' : l.toArray[u + 1 + v]! = (y1, y2, y3) := by
       rw [← hI.out.high _ (by omega)];exact gete hy
      replace hx := hide hx;replace hy := hide hy;replace hz := hide hz;replace hx' := hide hx';replace hy' := hide hy'
      rcases ed_cases x1 x2 x3 y1 y2 y3 with ⟨e1, e2, e3⟩ | ⟨hne, hc⟩
      ·subst e1 e2 e3
       have hI2 : Hid (CompInv l.toArray (u + 1 + v + 1 + 1) kk M.toArray) := hI.out.skip (keeps_neg (by omega) (by rw [hx'.out, show u + 1 + v + 1 - 1 = u + 1 + v by omega]; exact hy'.out.symm));go_upto_region 11 with fail;go_quiet (fail);obtain ⟨wj, hwj⟩ : ∃ wj, wj = wr.drewN nq := ⟨_, rfl⟩;have hOj : Hid (Own 3 ev wj base 84 (some ⟨g, 0, none⟩) n c M) := by rw [hwj]; exact hOM.out.keep fun _ _ => rfl
       have hoj : Hid (Only g (g + 1) w wj) := by rw [hwj]; exact ⟨hon.out.os, hon.out.tape, hon.out.output, hon.out.size, hon.out.block⟩
       rw [← hwj];replace hwj := hide hwj;clear c0 c1 c2 d0 d1 d2 z0c z1c z2c z0f z1f z2f;go_wp2_with fail;go_roundw
       ·exact ⟨kk, v + 1, M, rfl, rfl, by omega, hOj.out, hI2.out, hoj.out⟩
       ·simp [intOf]; omega
      ·have hI2 : Hid (CompInv l.toArray (u + 1 + v + 1 + 1) (kk + 1) (M.set kk (x1, x2, x3)).toArray) := by
        have h1 := hI.out.keep (by simp; omega) (keeps_pos (by rw [hx'.out, show u + 1 + v + 1 - 1 = u + 1 + v by omega, hy'.out]; exact hne));rw [hx'.out, List.setIfInBounds_toArray] at h1;exact h1
       replace hne := hide hne
       rcases hc with e3 | ⟨e4, e3⟩ | ⟨e4, e5, e3⟩
       rotate_left
       subst e4
       rotate_left
       subst e4 e5
       rotate_left
       all_goals
        go_upto_region 11 with fail;go_quiet (fail);go_wp2_with fail;go_roundw
       all_goals
        first
         | refine ⟨kk + 1, v + 1, M.set kk (_, _, _), by go_num, by go_num, by omega, (hOM.out.keep fun _ _ => rfl).setE kk _ _ _, hI2.out, ?_⟩
         | (simp [intOf]; omega)
       all_goals
        have o1 : Only g (g + 1) w (wr.drewN nq) := ⟨hon.out.os, hon.out.tape, hon.out.output, hon.out.size, hon.out.block⟩;have o2 := fun v => o1.setCell (p := ⟨g, kk * 3, none⟩) zR (Nat.lt_succ_self _) v
        have o3 := fun v u => (o2 v).setCell (p := ⟨g, kk * 3 + 1, none⟩) zR (Nat.lt_succ_self _) u
        exact (o3 _ _).setCell (p := ⟨g, kk * 3 + 2, none⟩) zR (Nat.lt_succ_self _) _
     ·have hend : u + 1 + v + 1 = n := by omega
      have hcl := run_clearE wr 0 g (kk * 3) (n - kk) (c - kk) (by omega) (fun j hj => (cells_all hOM.out (j := kk * 3 + j) (by omega)).1) (fun j hj => (cells_all hOM.out (j := kk * 3 + j) (by omega)).2);have hcO := hide (hOM.out.clearE (k := kk) (by omega) (List.replicate ((n - kk) * 3) (.int .i64 0)));have hcon := hide (hon.out.trans' (setCells_only9 g (List.replicate ((n - kk) * 3) (.int .i64 0)) (kk * 3) wr));have hcL := hide (show M.take kk = Lib.compact l from hI.out.takeE hll hend);have hcn : (Lib.compact l).length = kk := by rw [← hcL.out, List.length_take]; omega
      have hs2 := run_head hEe.out (some ⟨g, 0, none⟩) n c kk (by omega);generalize wr.setCells g (kk * 3) (List.replicate ((n - kk) * 3) (.int .i64 0)) = wC at *;go_wp2_with fail;go_ret;have e1 := hcO.out;rw [hcL.out] at e1;rw [hcn];exact ⟨rfl, e1, only_grown hcon.out⟩
   ·have hkeep : Hid (∀ j, j ≤ u + 1 → keeps l.toArray j = true) := fun j hj => by
     by_cases e : j = u + 1
     ·subst e
      exact keeps_pos (by rw [gete hx]; simp only [Nat.add_sub_cancel]; rw [gete hy]; exact hne)
     ·exact hall.out j (by omega)
    replace hx := hide hx;replace hy := hide hy;replace hne := hide hne
    rcases hc with e3 | ⟨e4, e3⟩ | ⟨e4, e5, e3⟩
    rotate_left
    subst e4
    rotate_left
    subst e4 e5
    rotate_left
    all_goals
     go_upto_region 6 with fail;go_quiet (fail);obtain ⟨wi, hwi⟩ : ∃ wi, wi = wr.drewN nq := ⟨_, rfl⟩;have hw2 : Hid (∃ nq, wi = w.drewN nq) := by
      obtain ⟨nq2, e⟩ := hw.out;exact ⟨nq2 + nq, by rw [hwi, e, World.drewN_drewN]⟩
     rw [← hwi];replace hwi := hide hwi;clear c0 c1 c2 d0 d1 d2 e3;go_wp2_with fail;go_roundw
    all_goals
     first
      | exact ⟨u + 1, by omega, by go_num, hw2.out, hkeep.out⟩
      | (simp [intOf]; omega)
  ·obtain rfl : u + 1 = n := by omega
   have hcL : Lib.compact l = l := compact_all l fun j hj => hall.out j (by omega)
   have hon : Hid (w.grownBy wr (some g)) := by
    obtain ⟨nq, e⟩ := hw.out
    show w.grownBy wr (some g)
    rw [e];exact ⟨rfl, rfl, rfl, zR, fun _ _ _ => rfl⟩
   go_wp2_with fail;go_ret
   rw [hcL, hll];exact ⟨rfl, hO.out, hon.out⟩
end Go.Proofs.YtnhomkmfbngmgaaGreatDoor
namespace Go.Proofs
open Go.Shelf
def Tryz.lays106_ren : Go.Shelf.Ren := ⟨fun | 106 => 292 | 213 => 352 | 265 => 378 | n => n, fun | 9 => 9 | 3 => 3 | n => n, fun | n => n⟩
theorem Tryz.lays106 : Go.Proofs.Lays.n106 Tryz.prog Tryz.lays106_ren := {
 mixed := by kernel_rfl
 f106 := Tryz.func292.trans (congrArg some (by kernel_rfl))
 f213 := Tryz.func352.trans (congrArg some (by kernel_rfl))
 f265 := Tryz.func378.trans (congrArg some (by kernel_rfl))
 t3 := Tryz.underlying3
 a3 := Tryz.isAgg3
 z3 := Tryz.sizeOf3
 v3 := Tryz.zeroValue3
 t9 := Tryz.underlying9
 a9 := Tryz.isAgg9
 z9 := Tryz.sizeOf9
 v9 := Tryz.zeroValue9 }
open Go.RowKit in
theorem Tryz.strings_Compare (a b : ByteArray) (w : World) :
  Calls Tryz.prog 292 #[.string a, .string b] w fun e w' => e = .returned (.int .i64 (Lib.compareBytes a.data.toList b.data.toList)) ∧ w' = w := Any.strings_Compare Tryz.lays106 a b w
def Tryz.lays194_ren : Go.Shelf.Ren := ⟨fun | 194 => 227 | n => n, fun | 31 => 24 | 9 => 9 | 3 => 3 | 4 => 4 | 0 => 0 | n => n, fun | n => n⟩
theorem Tryz.lays194 : Go.Proofs.Lays.n194 Tryz.prog Tryz.lays194_ren := {
 mixed := by kernel_rfl
 f194 := Tryz.func227.trans (congrArg some (by kernel_rfl))
 t0 := Tryz.underlying0
 a0 := Tryz.isAgg0
 z0 := Tryz.sizeOf0
 v0 := Tryz.zeroValue0
 t3 := Tryz.underlying3
 a3 := Tryz.isAgg3
 z3 := Tryz.sizeOf3
 v3 := Tryz.zeroValue3
 t4 := Tryz.underlying4
 a4 := Tryz.isAgg4
 z4 := Tryz.sizeOf4
 v4 := Tryz.zeroValue4
 t9 := Tryz.underlying9
 a9 := Tryz.isAgg9
 z9 := Tryz.sizeOf9
 v9 := Tryz.zeroValue9
 t31 := Tryz.underlying24
 a31 := Tryz.isAgg24
 z31 := Tryz.sizeOf24
 v31 := Tryz.zeroValue24 }
open Go.RowKit Go.Lib Go.Sort in
theorem Tryz.slices_Compact_string (blk off cap : Nat) (zs : List (List UInt8)) (w : World) (hH : Holds encStr w blk off zs.toArray) (hsz : zs.length ≤ 9223372036854775807) (hcap : zs.length ≤ cap) :
  Calls Tryz.prog 227 #[.slice (some ⟨blk, off, none⟩) zs.length cap] w fun e w' => e = .returned (.slice (some ⟨blk, off, none⟩) (Lib.compact zs).length cap) ∧ ∃ q, w' = putRow encStr (Sort.ahead w q) blk off (Lib.compact zs ++ List.replicate (zs.length - (Lib.compact zs).length) []).toArray := Any.slices_Compact_string Tryz.lays194 blk off cap zs w hH hsz hcap
open Go.RowKit Go.Lib Go.Sort in
theorem Tryz.slices_Compact_string_empty (a : Option Addr) (cap : Nat) (w : World) :
  Calls Tryz.prog 227 #[.slice a 0 cap] w fun e w' => e = .returned (.slice a 0 cap) ∧ w' = w := Any.slices_Compact_string_empty Tryz.lays194 a cap w
end Go.Proofs
namespace Go.Proofs
open Go.Shelf
def Tryz.laysSortF_ren : Go.Shelf.Ren := ⟨fun | 6 => 225 | 15 => 224 | 14 => 291 | 28 => 289 | 29 => 290 | 20 => 344 | 21 => 345 | 22 => 346 | 23 => 347 | 24 => 348 | 25 => 349 | 26 => 350 | 27 => 351 | 46 => 375 | 47 => 340 | 48 => 341 | 49 => 376 | 50 => 377 | 57 => 386 | n => n, fun | 22 => 24 | 24 => 9 | 25 => 221 | 3 => 3 | 39 => 243 | 0 => 0 | 53 => 292 | 55 => 137 | 4 => 4 | 46 => 285 | 45 => 284 | 50 => 289 | 5 => 5 | 9 => 9 | 66 => 327 | 70 => 331 | 76 => 352 | 77 => 353 | n => n, fun | n => n⟩
theorem Tryz.laysSortF : Go.Proofs.SlLaysF.n6 Tryz.prog Tryz.laysSortF_ren := {
 mixed := by kernel_rfl
 f6 := ⟨Tryz.f225.name, by decide, Tryz.func225.trans (congrArg some (by kernel_rfl))⟩
 f14 := ⟨Tryz.f291.name, by decide, Tryz.func291.trans (congrArg some (by kernel_rfl))⟩
 f15 := Tryz.func224.trans (congrArg some (by kernel_rfl))
 f20 := ⟨Tryz.f344.name, by decide, Tryz.func344.trans (congrArg some (by kernel_rfl))⟩
 f21 := ⟨Tryz.f345.name, by decide, Tryz.func345.trans (congrArg some (by kernel_rfl))⟩
 f22 := ⟨Tryz.f346.name, by decide, Tryz.func346.trans (congrArg some (by kernel_rfl))⟩
 f23 := ⟨Tryz.f347.name, by decide, Tryz.func347.trans (congrArg some (by kernel_rfl))⟩
 f24 := ⟨Tryz.f348.name, by decide, Tryz.func348.trans (congrArg some (by kernel_rfl))⟩
 f25 := ⟨Tryz.f349.name, by decide, Tryz.func349.trans (congrArg some (by kernel_rfl))⟩
 f26 := ⟨Tryz.f350.name, by decide, Tryz.func350.trans (congrArg some (by kernel_rfl))⟩
 f27 := ⟨Tryz.f351.name, by decide, Tryz.func351.trans (congrArg some (by kernel_rfl))⟩
 f28 := Tryz.func289.trans (congrArg some (by kernel_rfl))
 f29 := Tryz.func290.trans (congrArg some (by kernel_rfl))
 f46 := ⟨Tryz.f375.name, by decide, Tryz.func375.trans (congrArg some (by kernel_rfl))⟩
 f47 := Tryz.func340.trans (congrArg some (by kernel_rfl))
 f48 := Tryz.func341.trans (congrArg some (by kernel_rfl))
 f49 := ⟨Tryz.f376.name, by decide, Tryz.func376.trans (congrArg some (by kernel_rfl))⟩
 f50 := ⟨Tryz.f377.name, by decide, Tryz.func377.trans (congrArg some (by kernel_rfl))⟩
 f57 := ⟨Tryz.f386.name, by decide, Tryz.func386.trans (congrArg some (by kernel_rfl))⟩
 t0 := Tryz.underlying0
 a0 := Tryz.isAgg0
 z0 := Tryz.sizeOf0
 v0 := Tryz.zeroValue0
 t3 := Tryz.underlying3
 a3 := Tryz.isAgg3
 z3 := Tryz.sizeOf3
 v3 := Tryz.zeroValue3
 t4 := Tryz.underlying4
 a4 := Tryz.isAgg4
 z4 := Tryz.sizeOf4
 v4 := Tryz.zeroValue4
 t5 := Tryz.underlying5
 a5 := Tryz.isAgg5
 z5 := Tryz.sizeOf5
 v5 := Tryz.zeroValue5
 t9 := Tryz.underlying9
 a9 := Tryz.isAgg9
 z9 := Tryz.sizeOf9
 v9 := Tryz.zeroValue9
 t22 := Tryz.underlying24
 a22 := Tryz.isAgg24
 z22 := Tryz.sizeOf24
 v22 := Tryz.zeroValue24
 a24 := Tryz.isAgg9
 z24 := Tryz.sizeOf9
 t25 := Tryz.underlying221
 a25 := Tryz.isAgg221
 z25 := Tryz.sizeOf221
 v25 := Tryz.zeroValue221
 t39 := Tryz.underlying243
 a39 := Tryz.isAgg243
 z39 := Tryz.sizeOf243
 v39 := Tryz.zeroValue243
 t45 := Tryz.underlying284
 a45 := Tryz.isAgg284
 z45 := Tryz.sizeOf284
 v45 := Tryz.zeroValue284
 t46 := Tryz.underlying285
 a46 := Tryz.isAgg285
 z46 := Tryz.sizeOf285
 v46 := Tryz.zeroValue285
 t50 := Tryz.underlying289
 a50 := Tryz.isAgg289
 z50 := Tryz.sizeOf289
 v50 := Tryz.zeroValue289
 t53 := Tryz.underlying292
 a53 := Tryz.isAgg292
 z53 := Tryz.sizeOf292
 v53 := Tryz.zeroValue292
 t55 := Tryz.underlying137
 a55 := Tryz.isAgg137
 z55 := Tryz.sizeOf137
 v55 := Tryz.zeroValue137
 t66 := Tryz.underlying327
 a66 := Tryz.isAgg327
 z66 := Tryz.sizeOf327
 v66 := Tryz.zeroValue327
 t70 := Tryz.underlying331
 a70 := Tryz.isAgg331
 z70 := Tryz.sizeOf331
 v70 := Tryz.zeroValue331
 t76 := Tryz.underlying352
 a76 := Tryz.isAgg352
 z76 := Tryz.sizeOf352
 v76 := Tryz.zeroValue352
 t77 := Tryz.underlying353
 a77 := Tryz.isAgg353
 z77 := Tryz.sizeOf353
 v77 := Tryz.zeroValue353 }
open Go.Shelf Go.RowKit Go.Lib Go.Sort in
theorem Tryz.slices_SortFunc_string (cf : List UInt8 → List UInt8 → Int) (hO : SWO (ltOf cf)) (g : Nat) (cb : Array Value) (blk off cap : Nat) (d : Array (List UInt8)) (w : World) (eg : ∀ args w, (callFunc g args).run Tryz.prog w = .ok (.enter g args) w) (hcmp : CmpLays1 Tryz.prog g cb encStr cf blk off d.size w) (hH : Holds encStr w blk off d) (hblk : blk < w.heap.size) (hsz : d.size < 4611686018427387904) (hT : ∀ x y, (ltOf cf) x y = false → (ltOf cf) y x = false → x = y) :
  Calls Tryz.prog 225 #[.slice (some ⟨blk, off, none⟩) d.size cap, .func (.func g) #[] cb] w fun e w' =>
   e = .returned (.tuple #[]) ∧ ∃ n os, w' = sortWorld encStr w blk off n (d.toList.mergeSort fun x y => !(ltOf cf) y x).toArray os := Any.slices_SortFunc_total Tryz.laysSortF encStr (fun _ => rfl) cf hO g cb blk off cap d w eg hcmp hH hblk hsz hT
open Go.Shelf Go.RowKit Go.Lib Go.Sort in
theorem Tryz.slices_SortFunc_string_none (p : Option Addr) (cap : Nat) (fv : Value) (w : World) :
  Calls Tryz.prog 225 #[.slice p 0 cap, fv] w fun e w' => e = .returned (.tuple #[]) ∧ w' = w := AnyF.slices_SortFunc_none { Tryz.laysSortF with } p cap fv w
end Go.Proofs
