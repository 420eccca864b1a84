/-
  Lemmas that the law of this claim leans on. Conditions: sizes.
-/
import Derived.Test.YtnhomkmfbngmgaaGreatDoorBaseA
import Derived.Test.YtnhomkmfbngmgaaGreatDoorBaseB
import Derived.Shelf.Strings.Builder1
import Derived.Shelf.Strings.Builder2
import Derived.Shelf.Strings.OnBuilder
import Derived.Shelf.Small.Bits
import Derived.Shelf.Small.Strs
import Derived.Shelf.Strings.BuilderF
import Derived.Shelf.Strings.BuilderK
import Derived.Shelf.Utf8.RuneCount
import Derived.Shelf.Strings.Builder2Cap
import Derived.Shelf.Strconv.Itoa0
import Derived.Shelf.Strconv.Itoa1
import Derived.Shelf.LaysM
import Derived.Shelf.Strconv.Itoa2
import Derived.Shelf.Strconv.Itoa3
import Derived.Shelf.Strconv.Itoa4
import Derived.Shelf.Strconv.ParseIntEmpty
import Derived.Shelf.Strconv.Clone
import Derived.Shelf.Strconv.SyntaxError
import Derived.Shelf.LaysC
import Derived.Shelf.Strconv.ToError
import Derived.Shelf.Strconv.Lower
import Derived.Shelf.Strconv.ParseUint10
import Derived.Shelf.Strconv.ParseUint10Empty
import Derived.Shelf.Strconv.ParseUint10Any
import Derived.Shelf.Strconv.ParseInt10
import Derived.Shelf.Strconv.RangeError
import Derived.Shelf.Strconv.ToErrorRange
import Derived.Shelf.Strconv.ParseUintEmpty
import Derived.Shelf.Strconv.ParseUint10b64
import Derived.Shelf.Strconv.ParseUint10b32
import Derived.Shelf.Strconv.ParseUint10b16
import Derived.Shelf.Strconv.ParseUint10b8
import Derived.Shelf.Strconv.ParseUint10At
import Derived.Shelf.Strconv.ParseInt10At64
import Derived.Shelf.Strconv.ParseInt10At32
import Derived.Shelf.Strconv.ParseInt10At16
import Derived.Shelf.Strconv.ParseInt10At8
import Derived.Shelf.Strconv.ParseInt10All
import Derived.Shelf.Strconv.ParseIntPublic10
import Derived.Shelf.Strconv.ErrVarParseInt
import Derived.Shelf.Strings.Search1
import Derived.Shelf.Strings.Search2
import Derived.Shelf.Strings.Search3
import Derived.Shelf.Strings.Cut
import Derived.Shelf.Strings.Count
import Derived.Shelf.Strings.Shaped
import Derived.Shelf.Strings.Prefix
import Derived.Shelf.Strings.Split
import Derived.Shelf.Strings.SplitShaped
import Derived.Shelf.Unicode.Decode
import Derived.Shelf.Strings.RuneCount
import Derived.Shelf.Strings.Explode
import Derived.Shelf.Bits.Mul64
import Derived.Shelf.Unicode.DecodeSlow
import Derived.Shelf.Unicode.DecodeAny
import Derived.Shelf.Strings.FieldsFuncAny
import Derived.Shelf.Strings.BuilderCap
import Derived.Shelf.Slices.Turned
import Derived.Shelf.Slices.Equal
import Derived.Ground.Names2Prog
import Derived.Shelf.Slices.Clone
import Derived.Shelf.Slices.CompactS
import Derived.Shelf.Slices.Cells
import Derived.Shelf.Slices.Empties2
import Derived.Ground.SlgnProg
import Derived.Shelf.SlicesG.Turned
import Derived.Shelf.SlicesG.Clone
import Derived.Shelf.SlicesG.CompactI
import Derived.Shelf.SlicesG.SearchI
import Derived.Shelf.SlicesG.Cells
import Derived.Shelf.SlicesE.Clone
import Derived.Ground.SlgcProg
import Derived.Shelf.SlicesG.Cmp
import Derived.Ground.SlsfProg
import Derived.Shelf.SlSortCmp.Insertion
import Derived.Ground.SlgmProg
import Derived.Shelf.SortM.Plain
import Derived.Shelf.SortM.SortNone
import Derived.Shelf.SlSortCmp.SiftDown1
import Derived.Shelf.SlSortCmp.HeapSort1
import Derived.Shelf.SlSortCmp.Insertion1
import Derived.Shelf.SlSortCmp.Median1
import Derived.Shelf.SlSortCmp.Pivot1
import Derived.Shelf.SlSortCmp.ReverseRange1
import Derived.Shelf.SlSortCmp.PartialInsertion1
import Derived.Shelf.SlSortCmp.PartitionEqual1
import Derived.Shelf.SlSortCmp.Partition1
import Derived.Shelf.SlSortCmp.Pdq1
import Derived.Shelf.SlSortCmp.Whole1
import Derived.Shelf.SlSortCmp.NoneTotal
import Derived.Test.YtnhomkmfbngmgaaGreatDoorProg
import Derived.Test.YtnhomkmfbngmgaaGreatDoorChecked
import Derived.StillTailTactics
import Derived.Deep.QuietTactic
import Derived.BigQuiet
import Derived.Deep.CutBlock
import Derived.Deep.DeepCutAuto
import Derived.Deep.RegionLaw
import Derived.Lib.QuietBelow
import Derived.Laws.Cover1
import Derived.IntWalk
import Derived.Deep.LoopGhost
import Derived.Sort.EncStr
import Derived.Shelf.SlGeneric
import Derived.Deep.RegionHeld3
set_option maxHeartbeats 3200000
set_option maxRecDepth 100000
set_option linter.unusedSimpArgs false
set_option linter.unusedVariables false
namespace Go.Proofs.YtnhomkmfbngmgaaGreatDoor
open Go.ChangeShapes Go.WideShapes Go.ChangeAt Go.RowKit
theorem nameL_tau : nameL tauL = true := by decide
def numsR (l : List UInt8) : Option (List Int) := if (Lib.cut l [40]).2.2 then numsOf numS (splitC 44 (Lib.trimSuffix (Lib.cut l [40]).2.1 [41])) else some []
theorem labS_none {s : ByteArray} (h : numsR s.data.toList = none) : labS s = false := by
 unfold labS;rw [← valsP_eq nameL nameL_tau];unfold valsP;rw [numP_fun];unfold numsR at h;rw [h]
 rfl
theorem labS_some {s : ByteArray} {ns : List Int} (h : numsR s.data.toList = some ns) : labS s = decide (labOf nameL (Lib.cut s.data.toList [40]).1 ns = some s.data.toList) := by
 unfold labS;rw [← valsP_eq nameL nameL_tau];unfold valsP;rw [numP_fun];unfold numsR at h;rw [h]
 by_cases hc : labOf nameL (Lib.cut s.data.toList [40]).1 ns = some s.data.toList
 ·simp only [if_pos hc, decide_eq_true hc]
  rfl
 ·simp only [if_neg hc, decide_eq_false hc]
  rfl
theorem Sl.laid (w : World) (t : TypeId) (l : List ByteArray) (lo : Nat) (hlo : lo ≤ w.heap.size) : SlS (w.alloc (.cells (l.map Value.string).toArray t)) lo (w.heap.size + 1) (some ⟨w.heap.size, 0, none⟩) l.length l := by
 refine ⟨rfl, fun _ => ⟨w.heap.size, 0, rfl, hlo, by omega, by simp, fun k x hx j u hu => ?_⟩⟩
 match j, hu with
 | 0, hu =>
  simp [strv] at hu
  subst hu;simp only [Nat.zero_add, Nat.mul_one, Nat.add_zero];have hg := heap_alloc_new w (.cells (l.map Value.string).toArray t);refine ⟨(cell_of_row _ _ k _ t (0, 0) hg).trans ?_, frozen_of_row _ _ _ _ t hg⟩
  simp [hx]
theorem split_data (t : ByteArray) : (Lib.splitB ⟨#[44]⟩ 0 (Lib.countB t ⟨#[44]⟩) t).map (·.data.toList) = splitC 44 t.data.toList := by
 rw [Lib.splitB_data, ← split_one]
 rfl
theorem split_calls (t : ByteArray) (w : World) (hs : t.size ≤ 1048576) (he : Env w) :
  Calls Tryz.prog 50 #[.string t, .string ⟨#[44]⟩] w fun e w' => ∃ A n PB, e = .returned (.slice A n n) ∧ SlS w' w.heap.size w'.heap.size A n PB ∧ dataL PB = splitC 44 t.data.toList ∧ n ≤ 1048577 ∧ (∀ s ∈ PB, s.size ≤ 1048576) ∧ Below w.heap.size w w' := by
 have hc := Lib.splitB_all ⟨#[44]⟩ (by decide) 0 _ t rfl;have hd := split_data t;refine (Tryz.strings_Split_shaped t ⟨#[44]⟩ w he.good.shape (by omega) (by decide)).mono ?_;rintro e w' ⟨rfl, rfl⟩;generalize Lib.splitB ⟨#[44]⟩ 0 (Lib.countB t ⟨#[44]⟩) t = PB at *;rw [← hc];refine ⟨_, _, PB, rfl, ?_, hd, ?_, ?_, bR.alloc zR _⟩
 ·rw [World.size_alloc]
  exact Sl.laid w _ PB _ zR
 ·have h1 := splitC_len 44 t.data.toList
  rw [← hd, List.length_map, bsize] at h1;omega
 ·intro s hsm
  have h1 := splitC_mem_len 44 t.data.toList s.data.toList (by rw [← hd]; exact List.mem_map.2 ⟨s, hsm, rfl⟩);rw [bsize, bsize] at h1;omega
def ReadLab (w w' : World) (s : ByteArray) (e : Ending) : Prop := ∃ nm A n c, e = .returned (.tuple #[.string nm, .slice A n c, .bool (labS s)]) ∧ nm = (if labS s then mkB (Lib.cut s.data.toList [40]).1 else ⟨#[]⟩) ∧ Below w.heap.size w w'
theorem readLabel_calls (s : ByteArray) (w : World) (hs : s.size ≤ 1048576) (he : Env w) :
  Calls Tryz.prog 186 #[.string s] w fun e w' => ReadLab w w' s e := by
 have q0 : Calls Tryz.prog 252 #[.string s, .string ⟨#[40]⟩] w fun e w' => e = .returned (.tuple #[.string (mkB (Lib.cut s.data.toList [40]).1), .string (mkB (Lib.cut s.data.toList [40]).2.1), .bool (Lib.cut s.data.toList [40]).2.2]) ∧ Below w.heap.size w w' :=
  (Tryz.strings_Cut_shaped s ⟨#[40]⟩ w he.good.shape (by omega)).mono fun e w' ⟨a, n, b⟩ => ⟨a, b ▸ below_drewN w n⟩
 have hS := @labS_some s;have hN := @labS_none s;have hlen : (Lib.cut s.data.toList [40]).1.length ≤ 1048576 ∧ (Lib.cut s.data.toList [40]).2.1.length ≤ 1048576 := by
  unfold Lib.cut;have := bsize s
  split <;> simp only [List.length_take, List.length_drop, List.length_nil] <;> omega
 unfold numsR at hS hN;generalize hcut : Lib.cut s.data.toList [40] = C at *;obtain ⟨a, b, more⟩ := C;dsimp only at *;replace hcut := hide hcut;have has : (mkB a).size ≤ 1048576 := by rw [mkB_size]; exact hlen.1
 replace q0 := hide q0;have q5 := fun (A : Option Addr) (n c : Nat) (L : List Int) (W : World) (lo hi : Nat) (h : SlI W lo hi A n L) (hn : n ≤ 1048577) (hW : Below w.heap.size w W) => labelOf_calls (mkB a) A n c L W lo hi has h hn (he.below hW zR)
 rw [mkB_data] at q5;replace q5 := hide q5
 cases more with
 | false =>
  have hS2 := hide (hS (ns := []) rfl);clear hS hN he;go_enter Tryz.func186, Tryz.ntmps186;go_wp2_with fail;refine q0.out.mono ?_;rintro e w1 ⟨rfl, hb1⟩;go_wp2_with fail;refine (q5.out none 0 0 [] w1 0 0 Sl.nil_ (by omega) hb1).mono ?_;rintro e w9 ⟨t, ok, rfl, hok, hb9⟩;replace hb9 := hb1.trans (hb9.mono hb1.size)
  cases ok with
  | false =>
   have hv : Hid (labS s = false) := by
    show _ = _
    rw [hS2.out, hok]
    simp
   clear hS2 hok;go_wp2_with fail
   go_returns
   exact ⟨⟨#[]⟩, none, 0, 0, by rw [hv.out]; rfl, by rw [hv.out]; rfl, hb9⟩
  | true =>
   by_cases hts : t = s
   ·have hv : Hid (labS s = true) := by
     show _ = _
     rw [hS2.out, hok, hts]
     simp
    subst hts;clear hS2 hok;go_wp2_with fail
    go_returns
    exact ⟨mkB a, none, 0, 0, by rw [hv.out]; rfl, by rw [hv.out, hcut.out]; rfl, hb9⟩
   ·have hv : Hid (labS s = false) := by
     show _ = _
     rw [hS2.out, hok, decide_eq_false_iff_not];intro e
     apply hts
     have := Option.some.inj e;rw [← bytes_eta t, this, bytes_eta]
    have hne := str_neq hts;clear hS2 hok hts;go_wp2_with fail
    go_returns
    exact ⟨⟨#[]⟩, none, 0, 0, by rw [hv.out]; rfl, by rw [hv.out]; rfl, hb9⟩
 | true =>
  simp only [if_true] at hS hN;have q1 : ∀ W, Calls Tryz.prog 253 #[.string (mkB b), .string ⟨#[41]⟩] W fun e w' => e = .returned (.string (mkB (Lib.trimSuffix b [41]))) ∧ w' = W := fun W => Tryz.strings_TrimSuffix (mkB b) ⟨#[41]⟩ W (by rw [mkB_size]; omega)
  have htl : (Lib.trimSuffix b [41]).length ≤ 1048576 := by
   unfold Lib.trimSuffix
   split
   ·rw [List.length_take]; omega
   ·exact hlen.2
  have q2 := fun (W : World) (hW : Below w.heap.size w W) => split_calls (mkB (Lib.trimSuffix b [41])) W (by rw [mkB_size]; exact htl) (he.below hW zR)
  rw [mkB_data] at q2;have q3 := fun (A : Option Addr) (n c : Nat) (l : List ByteArray) (W : World) (lo hi : Nat) (h : SlS W lo hi A n l) (hn : n ≤ 1048577) (hss : ∀ s ∈ l, s.size ≤ 1048576) (hW : Below w.heap.size w W) => readNumbers_calls A n c l W lo hi h hn hss (he.below hW zR)
  replace q1 := hide q1;replace q2 := hide q2;replace q3 := hide q3;clear he htl hlen
  cases hns : numsOf numS (splitC 44 (Lib.trimSuffix b [41])) with
  | none =>
   have hv : Hid (labS s = false) := hN hns;replace hns := hide hns;clear hS hN q5;go_enter Tryz.func186, Tryz.ntmps186;go_wp2_with fail;refine q0.out.mono ?_;rintro e w1 ⟨rfl, hb1⟩;go_wp2_with fail;refine (q1.out _).mono ?_;rintro e w2 ⟨rfl, rfl⟩;go_wp2_with fail;refine (q2.out _ hb1).mono ?_;rintro e w3 ⟨A3, n3, PB, rfl, hsl, hdat, hn3, hps, hb3⟩;replace hb3 := hb1.trans (hb3.mono hb1.size);have q4 := q3.out A3 n3 n3 PB w3 _ _ hsl hn3 hps hb3;rw [hdat, hns.out] at q4;replace q4 := hide q4;clear hsl hdat hps;go_wp2_with fail;refine q4.out.mono ?_;rintro e w4 ⟨he4, hb4⟩
   change e = _ at he4
   subst he4;go_wp2_with fail
   go_returns
   exact ⟨⟨#[]⟩, none, 0, 0, by rw [hv.out]; rfl, by rw [hv.out]; rfl, hb3.trans (hb4.mono hb3.size)⟩
  | some ns =>
   have hS2 := hide (hS hns);replace hns := hide hns;clear hS hN;go_enter Tryz.func186, Tryz.ntmps186;go_wp2_with fail;refine q0.out.mono ?_;rintro e w1 ⟨rfl, hb1⟩;go_wp2_with fail;refine (q1.out _).mono ?_;rintro e w2 ⟨rfl, rfl⟩;go_wp2_with fail;refine (q2.out _ hb1).mono ?_;rintro e w3 ⟨A3, n3, PB, rfl, hsl, hdat, hn3, hps, hb3⟩;replace hb3 := hb1.trans (hb3.mono hb1.size);have q4 := q3.out A3 n3 n3 PB w3 _ _ hsl hn3 hps hb3;rw [hdat, hns.out] at q4;replace q4 := hide q4;clear hsl hdat hps;go_wp2_with fail;refine q4.out.mono ?_;rintro e w4 ⟨⟨A4, c4, rfl, hs4⟩, hb4⟩;replace hb4 := hb3.trans (hb4.mono hb3.size);replace hs4 := hide hs4;go_wp2_with fail;refine (q5.out A4 n3 c4 ns w4 _ _ hs4.out hn3 hb4).mono ?_;rintro e w9 ⟨t, ok, rfl, hok, hb9⟩;replace hb9 := hb4.trans (hb9.mono hb4.size)
   cases ok with
   | false =>
    have hv : Hid (labS s = false) := by
     show _ = _
     rw [hS2.out, hok]
     simp
    clear hS2 hok;go_wp2_with fail
    go_returns
    exact ⟨⟨#[]⟩, none, 0, 0, by rw [hv.out]; rfl, by rw [hv.out]; rfl, hb9⟩
   | true =>
    by_cases hts : t = s
    ·have hv : Hid (labS s = true) := by
      show _ = _
      rw [hS2.out, hok, hts]
      simp
     subst hts;clear hS2 hok;go_wp2_with fail
     go_returns
     exact ⟨mkB a, A4, n3, c4, by rw [hv.out]; rfl, by rw [hv.out, hcut.out]; rfl, hb9⟩
    ·have hv : Hid (labS s = false) := by
      show _ = _
      rw [hS2.out, hok, decide_eq_false_iff_not];intro e
      apply hts
      have := Option.some.inj e;rw [← bytes_eta t, this, bytes_eta]
     have hne := str_neq hts;clear hS2 hok hts;go_wp2_with fail
     go_returns
     exact ⟨⟨#[]⟩, none, 0, 0, by rw [hv.out]; rfl, by rw [hv.out]; rfl, hb9⟩
theorem isLabel_calls (s : ByteArray) (w : World) (hs : s.size ≤ 1048576) (he : Env w) :
  Calls Tryz.prog 120 #[.string s] w fun e w' => e = .returned (.bool (labS s)) ∧ Below w.heap.size w w' := by
 have q := hide (readLabel_calls s w hs he);clear he;go_enter Tryz.func120, Tryz.ntmps120;go_wp2_with fail;refine q.out.mono ?_;rintro e w1 ⟨nm, A, n, c, rfl, -, hb⟩;go_wp2_with fail;go_ret;exact ⟨rfl, hb⟩
end Go.Proofs.YtnhomkmfbngmgaaGreatDoor
namespace Go.Proofs
open Go.Shelf
def Tryz.lays229_ren : Go.Shelf.Ren := ⟨fun | 229 => 116 | n => n, fun | 9 => 9 | 40 => 144 | 31 => 24 | 152 => 227 | 3 => 3 | 0 => 0 | 4 => 4 | 21 => 21 | 154 => 229 | n => n, fun | n => n⟩
theorem Tryz.lays229 : Go.Proofs.Lays.n229 Tryz.prog Tryz.lays229_ren := {
 mixed := by kernel_rfl
 f229 := Tryz.func116.trans (congrArg some (by kernel_rfl))
 t0 := Tryz.underlying0
 a0 := Tryz.isAgg0
 z0 := Tryz.sizeOf0
 v0 := Tryz.zeroValue0
 t3 := Tryz.underlying3
 a3 := Tryz.isAgg3
 z3 := Tryz.sizeOf3
 v3 := Tryz.zeroValue3
 t4 := Tryz.underlying4
 a4 := Tryz.isAgg4
 z4 := Tryz.sizeOf4
 v4 := Tryz.zeroValue4
 t9 := Tryz.underlying9
 a9 := Tryz.isAgg9
 z9 := Tryz.sizeOf9
 v9 := Tryz.zeroValue9
 t21 := Tryz.underlying21
 a21 := Tryz.isAgg21
 z21 := Tryz.sizeOf21
 v21 := Tryz.zeroValue21
 t31 := Tryz.underlying24
 a31 := Tryz.isAgg24
 z31 := Tryz.sizeOf24
 v31 := Tryz.zeroValue24
 t40 := Tryz.underlying144
 a40 := Tryz.isAgg144
 z40 := Tryz.sizeOf144
 v40 := Tryz.zeroValue144
 t152 := Tryz.underlying227
 a152 := Tryz.isAgg227
 z152 := Tryz.sizeOf227
 v152 := Tryz.zeroValue227
 t154 := Tryz.underlying229
 a154 := Tryz.isAgg229
 z154 := Tryz.sizeOf229
 v154 := Tryz.zeroValue229 }
open Go.RowKit Go.Lib in
theorem Tryz.strings_FieldsFunc (g : Nat) (lb : Array Value) (eg : ∀ args w, (callFunc g args).run Tryz.prog w = .ok (.enter g args) w) (p : Nat → Bool) (s : ByteArray) (w : World) (hs : s.size ≤ 4294967296) (hp : PredAt Tryz.prog g lb encR p w) :
  Calls Tryz.prog 116 #[.string s, .func (.func g) #[] lb] w fun e w' => ∃ A, e = .returned (.slice (some ⟨A, 0, none⟩) (Lib.goFieldsP p s).length (Lib.goFieldsP p s).length) ∧ w.heap.size ≤ A ∧
   w'.ownsRow w.heap.size 9 1 (.slice (some ⟨A, 0, none⟩) (Lib.goFieldsP p s).length (Lib.goFieldsP p s).length) (Lib.goFieldsP p s).length ((Lib.goFieldsP p s).map Value.string) ∧ Below w.heap.size w w' := Any.strings_FieldsFunc Tryz.lays229 g lb eg p s w hs hp (by kernel_rfl) (by kernel_rfl)
end Go.Proofs
namespace Go.Proofs.YtnhomkmfbngmgaaGreatDoor
open Go.ChangeShapes Go.WideShapes Go.ChangeAt Go.RowKit
theorem splitD_data (sep : UInt8) (t : ByteArray) : (Lib.splitB ⟨#[sep]⟩ 0 (Lib.countB t ⟨#[sep]⟩) t).map (·.data.toList) = splitC sep t.data.toList := by
 rw [Lib.splitB_data, ← split_one]
 rfl
theorem splitD_calls (sep : UInt8) (t : ByteArray) (w : World) (hs : t.size ≤ 1048576) (he : Env w) :
  Calls Tryz.prog 50 #[.string t, .string ⟨#[sep]⟩] w fun e w' => ∃ A n PB, e = .returned (.slice A n n) ∧ SlS w' w.heap.size w'.heap.size A n PB ∧ dataL PB = splitC sep t.data.toList ∧ n ≤ 1048577 ∧ (∀ s ∈ PB, s.size ≤ 1048576) ∧ Below w.heap.size w w' := by
 have hc := Lib.splitB_all ⟨#[sep]⟩ (Nat.le_refl 1) 0 _ t rfl;have hd := splitD_data sep t;refine (Tryz.strings_Split_shaped t ⟨#[sep]⟩ w he.good.shape (by omega) (by exact Nat.le_refl 1)).mono ?_;rintro e w' ⟨rfl, rfl⟩;generalize Lib.splitB ⟨#[sep]⟩ 0 (Lib.countB t ⟨#[sep]⟩) t = PB at *;rw [← hc];refine ⟨_, _, PB, rfl, ?_, hd, ?_, ?_, bR.alloc zR _⟩
 ·rw [World.size_alloc]
  exact Sl.laid w _ PB _ zR
 ·have h1 := splitC_len sep t.data.toList
  rw [← hd, List.length_map, bsize] at h1;omega
 ·intro s hsm
  have h1 := splitC_mem_len sep t.data.toList s.data.toList (by rw [← hd]; exact List.mem_map.2 ⟨s, hsm, rfl⟩);rw [bsize, bsize] at h1;omega
theorem joinedC_calls (sep : UInt8) (A : Option Addr) (n c : Nat) (L : List Int) (w : World) (lo hi : Nat) (h : SlI w lo hi A n L) (hn : n ≤ 1048576) (hL : ∀ v ∈ L, -9223372036854775808 ≤ v ∧ v ≤ 9223372036854775807) (he : Env w) :
  Calls Tryz.prog 55 #[.slice A n c, .string ⟨#[sep]⟩] w fun e w' => e = .returned (.string (mkB (Lib.join (L.map Lib.itoa) [sep]))) ∧ Below w.heap.size w w' := by
 obtain ⟨i0, hi0, hz0, hz1, hz2⟩ := info_parts info_string;have hmk := fun W => make_row (P := Tryz.prog) 24 9 i0 _ _ n Tryz.underlying24 hi0 hz0 hz1 (by rw [hz2]; omega) (by omega) W
 clear hi0 hz0 hz1 hz2;have hlen := hide h.len;replace hL := hide hL;go_enter Tryz.func55, Tryz.ntmps55
 go_wp2
 go_loopw [13] (fun i wr => ∃ k : Nat, k ≤ n ∧ i = .int .i64 k ∧ Below w.heap.size w wr ∧ Fill 1 strv wr w.heap.size 9 n k (L.map decB)) (fun i _ => n - (intOf i).toNat)
 case atStart => exact ⟨0, Nat.zero_le _, rfl, bR.alloc zR _, Fill.start _ _ _ _ (by simp [madeCells])⟩
 case round =>
  obtain ⟨k, hk, rfl, hb, hf⟩ := hrel;clear hmk
  by_cases hlt : k < n
  ·obtain ⟨b, off, x, rfl, g1, g2, g3, hx, c0, -⟩ := h.get hlt
   replace c0 := (hb.cell (p := ⟨b, off + k, none⟩) g3).trans c0;have hxb := hL.out x (List.mem_of_getElem? hx);have q := hide (decimal_calls x hxb.1 hxb.2 wr (he.below hb zR));have hx2 : Hid ((L.map decB)[k]? = some (decB x)) := by show _ = _; rw [List.getElem?_map, hx]; rfl
   clear h hx hxb he;go_wp2_with fail;refine q.out.mono ?_;rintro e w1 ⟨rfl, hb1⟩;have hf1 := hf.keep (hb1.block _ hf.lt);obtain ⟨v0, d0⟩ := hf1.cell (i := k) (by omega);have z0 := hf1.frozen k;go_wp2_with fail;go_roundw
   case rel => exact ⟨k + 1, by omega, by go_num, (hb.trans (hb1.mono hb.size)).setCell zR _, hf1.set1 hlt (fun _ => rfl) hx2.out rfl⟩
   case measure => simp [intOf]; omega
  ·have hkn : k = n := by omega
   subst hkn;have hml : (L.map decB).length = k := by rw [List.length_map]; exact hlen.out
   have hsl := hf.done hml zR hf.lt;have hdat : (L.map decB).map (·.data.toList) = L.map Lib.itoa := by rw [List.map_map]; rfl
   have hjl := join_len [sep] 21 (L.map Lib.itoa) (fun y hy => by
    obtain ⟨v, hv, rfl⟩ := List.mem_map.1 hy;exact Lib.itoa_length_le v (hL.out v hv).1 (hL.out v hv).2)
   rw [List.length_map, hlen.out, show 21 + ([sep] : List UInt8).length = 22 from rfl] at hjl;have q : Calls Tryz.prog 123 #[.slice (some ⟨w.heap.size, 0, none⟩) k k, .string ⟨#[sep]⟩] wr fun e w' => e = .returned (.string (mkB (Lib.join (L.map Lib.itoa) [sep]))) ∧ Below wr.heap.size wr w' := by
    have := Tryz.strings_Join w.heap.size 0 k (L.map decB) ⟨#[sep]⟩ wr (fun j x hx => by
     have hj : j < k := by rw [← hml]; exact (List.getElem?_eq_some_iff.1 hx).1
     obtain ⟨b, off, e1, _, _, _, hcell⟩ := hsl.at_ (by omega);cases e1;have := (hcell j x hx 0 _ rfl).1
     simpa using this) hf.lt (by rw [hml]; omega) (by rw [hml]; exact zR) (by
      rw [hdat]
      show (Lib.join (L.map Lib.itoa) [sep]).length ≤ _
      omega)
    rw [hml, hdat] at this;exact this
   replace q := hide q;clear h hsl hdat hjl he;go_wp2_with fail;refine q.out.mono ?_;rintro e w1 ⟨rfl, hb1⟩;go_wp2_with fail;go_ret;exact ⟨rfl, hb.trans (hb1.mono hb.size)⟩
def wordsL (ws : List (List UInt8)) : List UInt8 := if ws = [] then [45] else Lib.join ws [32]
theorem words_calls (A : Option Addr) (n c : Nat) (l : List ByteArray) (w : World) (lo hi : Nat) (h : SlS w lo hi A n l) (hn : n ≤ 1048576) (hc : n ≤ c) (hl : (Lib.join (dataL l) [32]).length ≤ 140737488355328) :
  Calls Tryz.prog 57 #[.slice A n c] w fun e w' => e = .returned (.string (mkB (wordsL (dataL l)))) ∧ Below w.heap.size w w' := by
 have hlen := h.len
 by_cases hz : n = 0
 ·subst hz
  obtain rfl : l = [] := List.eq_nil_of_length_eq_zero hlen;clear h;go_enter Tryz.func57, Tryz.ntmps57;go_wp2_with fail;go_ret;exact ⟨rfl, bR⟩
 ·obtain ⟨b, off, rfl, g1, g2, g3, hcell⟩ := h.at_ (by omega)
  have q : Calls Tryz.prog 123 #[.slice (some ⟨b, off, none⟩) n c, .string ⟨#[32]⟩] w fun e w' => e = .returned (.string (mkB (Lib.join (dataL l) [32]))) ∧ Below w.heap.size w w' := by
   have := Tryz.strings_Join b off c l ⟨#[32]⟩ w (fun j x hx => by
    have := (hcell j x hx 0 _ rfl).1
    simpa using this) g3 (by rw [hlen]; omega) (by rw [hlen]; exact hc) hl
   rw [hlen] at this;exact this
  have hne : Hid (wordsL (dataL l) = Lib.join (dataL l) [32]) := by
   show _ = _
   unfold wordsL;rw [if_neg];intro e;have h2 := congrArg List.length e;unfold dataL at h2;rw [List.length_map, hlen] at h2;exact hz h2
  have hz2 : ¬ (n : Int) = 0 := by omega
  have hz3 : ((n : Int) == 0) = false := beq_eq_false_iff_ne.2 hz2;replace q := hide q;clear h hcell hlen hl;go_enter Tryz.func57, Tryz.ntmps57;go_wp2_with fail;refine q.out.mono ?_;rintro e w1 ⟨rfl, hb1⟩;go_wp2_with fail;go_ret;exact ⟨by rw [hne.out]; rfl, hb1⟩
theorem blank_calls (x : Nat) (w : World) : Calls Tryz.prog 117 #[encR x] w fun e w' => e = .returned (.bool (blank x)) ∧ w' = w := by
 by_cases hx : x = 32
 ·subst hx
  go_enter Tryz.func117, Tryz.ntmps117;unfold encR;go_wp2_with fail;go_ret;exact ⟨rfl, rfl⟩
 ·have h1 : ¬ (x : Int) = 32 := by omega
  have h2 : ((x : Int) == 32) = false := beq_eq_false_iff_ne.2 h1;have h3 : Hid (blank x = false) := beq_eq_false_iff_ne.2 hx;replace hx := hide hx;go_enter Tryz.func117, Tryz.ntmps117;unfold encR;go_wp2_with fail;go_ret;exact ⟨by rw [h3.out]; rfl, rfl⟩
theorem splitWords_calls (s : ByteArray) (hs : s.size ≤ 1048576) (w : World) :
  Calls Tryz.prog 52 #[.string s] w fun e w' => ∃ A, e = .returned (.slice (some ⟨A, 0, none⟩) (Lib.goFieldsP blank s).length (Lib.goFieldsP blank s).length) ∧ SlS w' w.heap.size w'.heap.size (some ⟨A, 0, none⟩) (Lib.goFieldsP blank s).length (Lib.goFieldsP blank s) ∧ Below w.heap.size w w' := by
 have q := hide (Tryz.strings_FieldsFunc 117 #[] (enters_of Tryz.func117 (by kernel_rfl) rfl) blank s w (by omega) (fun W x hW => ((blank_calls x W).mono (by rintro e w' ⟨rfl, rfl⟩; exact ⟨rfl, 0, rfl⟩))));go_enter Tryz.func52, Tryz.ntmps52;go_wp2_with fail;refine q.out.mono ?_;rintro e w1 ⟨A1, rfl, hA, hrow, hb⟩;have hO : Own 1 strv w1 w.heap.size 9 (some ⟨A1, 0, none⟩) (Lib.goFieldsP blank s).length (Lib.goFieldsP blank s).length (Lib.goFieldsP blank s) := ⟨rfl, by
  have e : (Lib.goFieldsP blank s).flatMap strv = (Lib.goFieldsP blank s).map Value.string := by
   generalize Lib.goFieldsP blank s = l
   induction l with
   | nil => rfl
   | cons x l ih => rw [List.flatMap_cons, ih]; rfl
  rw [e]; exact hrow⟩
 have hS := hide (hO.sl flat_strv);clear hO hrow;go_wp2_with fail;go_ret;exact ⟨_, rfl, hS.out, hb⟩
theorem itoaZ_ok {v : Int} (h : 0 ≤ v ∧ v < 301) : okW (Lib.itoa v) ∧ numS (Lib.itoa v) = some v ∧ (∀ x, x ∈ Lib.itoa v → x ≠ 58 ∧ x ≠ 124) ∧ (Lib.itoa v).length ≤ 3 := by
 obtain ⟨n, rfl⟩ : ∃ n : Nat, v = (n : Int) := ⟨v.toNat, by omega⟩;exact itoa_ok n (by omega)
theorem join_no {c d : UInt8} (hc : c ≠ d) : ∀ {ws : List (List UInt8)}, (∀ u, u ∈ ws → c ∉ u) → c ∉ Lib.join ws [d]
 | [], _ => by rw [show Lib.join [] [d] = [] from rfl]; exact List.not_mem_nil
 | [u], h => by rw [Lib.join_one]; exact h u (List.mem_cons_self ..)
 | u :: v :: r, h => by
  rw [join_cons2, List.mem_append, List.mem_append];rintro ((a | a) | a)
  ·exact h u (List.mem_cons_self ..) a
  ·exact hc (List.mem_singleton.1 a)
  ·exact join_no hc (fun y hy => h y (List.mem_cons_of_mem _ hy)) a
theorem mkB_eta (s : ByteArray) : mkB s.data.toList = s := bytes_eta s
theorem mkB_dataL (l : List ByteArray) : (dataL l).map mkB = l := by
 unfold dataL;rw [List.map_map];exact (List.map_congr_left fun x _ => mkB_eta x).trans (List.map_id _)
theorem mkB_app (a b : List UInt8) : mkB a ++ mkB b = mkB (a ++ b) := by
 apply ByteArray.ext
 apply Array.ext'
 simp [mkB]
def byv (n : Int) : List Value := [.int .u8 n]
abbrev SlU := Sl 1 byv
def SrcW (w : World) (b N : Nat) : Prop :=
 ∃ (A : Option Addr) (n c : Nat) (code : List Int) (at_ : Nat) (seed : Int), w.heap[b]? = some (.cells #[.slice A n c, .int .i64 (at_ : Int), .int .u64 seed] 139 (0, 0)) ∧ at_ ≤ N ∧ n ≤ maxLen ∧
  SlU w 0 b A n code ∧ ∀ x, x ∈ code → 0 ≤ x ∧ x ≤ 255
structure SrcTo (w w' : World) (b N : Nat) : Prop where
 src : SrcW w' b N
 only : Only b (b + 1) w w'
 size : w'.heap.size = w.heap.size
section
variable {w w' w2 : World} {b N M : Nat}
theorem SrcW.lt (h : SrcW w b N) : b < w.heap.size := by
 obtain ⟨A, n, c, code, a, s, hb, _⟩ := h;exact (Array.getElem?_eq_some_iff.1 hb).1
theorem SrcW.more (h : SrcW w b N) (hN : N ≤ M) : SrcW w b M := by
 obtain ⟨A, n, c, code, a, s, hb, ha, r⟩ := h;exact ⟨A, n, c, code, a, s, hb, Nat.le_trans ha hN, r⟩
theorem SrcW.keep (h : SrcW w b N) (hs : w.heap.size ≤ w'.heap.size) (hk : ∀ k, k ≤ b → w'.heap[k]? = w.heap[k]?) : SrcW w' b N := by
 obtain ⟨A, n, c, code, a, s, hb, ha, hn, hc, r⟩ := h;exact ⟨A, n, c, code, a, s, (hk b zR).trans hb, ha, hn, hc.keep hs fun k _ h2 _ => hk k (by omega), r⟩
theorem SrcW.below {B : Nat} (h : SrcW w b N) (hb : Below B w w') (hB : b < B) : SrcW w' b N := h.keep hb.size fun k hk => hb.block k (by omega)
theorem SrcTo.refl (h : SrcW w b N) : SrcTo w w b N := ⟨h, Only.refl _ _ _, rfl⟩
theorem Only.trans' {lo hi : Nat} {a w w' : World} (h : Only lo hi a w) (g : Only lo hi w w') : Only lo hi a w' :=
 ⟨g.os.trans h.os, g.tape.trans h.tape, g.output.trans h.output, Nat.le_trans h.size g.size, fun k hk ho => (g.block k (Nat.lt_of_lt_of_le hk h.size) ho).trans (h.block k hk ho)⟩
theorem SrcTo.trans (h : SrcTo w w' b N) (g : SrcTo w' w2 b M) : SrcTo w w2 b M := ⟨g.src, h.only.trans' g.only, g.size.trans h.size⟩
theorem SrcTo.more (h : SrcTo w w' b N) (hN : N ≤ M) : SrcTo w w' b M := ⟨h.src.more hN, h.only, h.size⟩
theorem SrcW.put {A : Option Addr} {n c : Nat} {code : List Int} {a : Nat} {s s' : Int} (hb : w.heap[b]? = some (.cells #[.slice A n c, .int .i64 (a : Int), .int .u64 s] 139 (0, 0))) (hn : n ≤ maxLen) (hc : SlU w 0 b A n code) (hr : ∀ x, x ∈ code → 0 ≤ x ∧ x ≤ 255) (k0 k : Nat) :
  SrcTo w ((((w.drewN k0).setCell ⟨b, 1, none⟩ (.int .i64 ((a : Int) + 1))).setCell ⟨b, 2, none⟩ (.int .u64 s')).drewN k) b (a + 1) := by
 have hlt : b < w.heap.size := (Array.getElem?_eq_some_iff.1 hb).1;replace hb : (w.drewN k0).heap[b]? = _ := hb;have hc2 : SlU (w.drewN k0) 0 b A n code := hc.drewN k0;have hO : Only b (b + 1) w (w.drewN k0) := ⟨rfl, rfl, rfl, zR, fun _ _ _ => rfl⟩;have hz : (w.drewN k0).heap.size = w.heap.size := rfl;generalize w.drewN k0 = W at *;refine ⟨⟨A, n, c, code, a + 1, s', ?_, zR, hn, ?_, hr⟩, ?_, ?_⟩
 ·have h1 := heap_setCell_same W b 1 _ _ (.int .i64 ((a : Int) + 1)) hb
  have h2 := heap_setCell_same _ b 2 _ _ (.int .u64 s') h1;exact h2
 ·refine Sl.drewN (w := (W.setCell ⟨b, 1, none⟩ (.int .i64 ((a : Int) + 1))).setCell ⟨b, 2, none⟩ (.int .u64 s')) ?_ k
  exact hc2.keep (by simp [World.size_setCell]) fun q _ h2 h3 => (Below.heap_setCell _ _ _ _ (by show q ≠ b; omega)).trans (Below.heap_setCell _ _ _ _ (by show q ≠ b; omega))
 ·have h1 := (hO.setCell (p := ⟨b, 1, none⟩) zR (Nat.lt_succ_self _) (.int .i64 ((a : Int) + 1))).setCell (p := ⟨b, 2, none⟩) zR (Nat.lt_succ_self _) (.int .u64 s')
  exact ⟨h1.os, h1.tape, h1.output, h1.size, h1.block⟩
 ·show ((W.setCell _ _).setCell _ _).heap.size = _
  rw [World.size_setCell, World.size_setCell]; exact hz
end
theorem byte_bits (x : Int) : 0 ≤ bits .and .u64 x 255 ∧ bits .and .u64 x 255 ≤ 255 := by
 have h : ((BitVec.ofInt 64 x &&& BitVec.ofInt 64 255).toNat) ≤ 255 := by
  rw [BitVec.toNat_and];exact Nat.le_trans Nat.and_le_right (by decide)
 have e : bits .and .u64 x 255 = IntKind.u64.wrap ((BitVec.ofInt 64 x &&& BitVec.ofInt 64 255).toNat : Nat) := rfl;rw [e, IntKind.wrap_u64];omega
theorem byte_wrap (x : Int) : 0 ≤ wrap64 (bits .and .u64 x 255) ∧ wrap64 (bits .and .u64 x 255) ≤ 255 := by
 have h := byte_bits x;have e : wrap64 (bits .and .u64 x 255) = bits .and .u64 x 255 := by unfold wrap64; omega
 rw [e]; exact h
theorem next_calls (b N : Nat) (w : World) (h : SrcW w b N) (hN : N ≤ 1000000000) :
  Calls Tryz.prog 166 #[.pointer (some ⟨b, 0, none⟩)] w fun e w' => ∃ x : Int, e = .returned (.int .i64 x) ∧ 0 ≤ x ∧ x ≤ 255 ∧ SrcTo w w' b (N + 1) := by
 obtain ⟨A, n, c, code, a, s, hb, ha, hn, hc, hr⟩ := h;have hput := hide fun s' k0 k => (SrcW.put (s' := s') hb hn hc hr k0 k).more (M := N + 1) (by omega)
 have c0 : w.cell? ⟨b, 0, none⟩ = some (.slice A n c) := (cell_of_row w b 0 _ _ (0, 0) hb).trans rfl;have c1 : w.cell? ⟨b, 1, none⟩ = some (.int .i64 (a : Int)) := (cell_of_row w b 1 _ _ (0, 0) hb).trans rfl;have c2 : w.cell? ⟨b, 2, none⟩ = some (.int .u64 s) := (cell_of_row w b 2 _ _ (0, 0) hb).trans rfl;have f1 := frozen_of_row w b 1 _ _ hb;have f2 := frozen_of_row w b 2 _ _ hb;have hnm : n ≤ 9223372036854775807 := Nat.le_trans hn (by unfold maxLen; omega);replace hb := hide hb
 by_cases hlt : a < n
 ·obtain ⟨bc, oc, rfl, -, -, -, hat⟩ := hc.at_ (by omega)
  have hl : a < code.length := by rw [hc.len]; exact hlt
  have hx := hat a _ (List.getElem?_eq_getElem hl) 0 _ rfl;simp only [Nat.mul_one, Nat.add_zero] at hx;obtain ⟨x0, x1⟩ := hr _ (List.getElem_mem hl);generalize code[a] = x at *;obtain ⟨hx, -⟩ := hx;replace hc := hide hc;clear hat hr;have i0 : (0 : Int) ≤ (a : Int) := by omega
  have i1 : (a : Int) < (n : Int) := by omega
  have i2 : (a : Int) + 1 ≤ (n : Int) := by omega
  have j1 : decide ((a : Int) < (n : Int)) = true := decide_eq_true i1;have j2 : decide ((a : Int) + 1 ≤ (n : Int)) = true := decide_eq_true i2;go_enter Tryz.func166, Tryz.ntmps166;go_wp2_with fail;go_quiet (fail);go_wp2_with fail;go_quiet (fail);go_wp2_with fail;go_quiet (fail);go_wp2_with fail;go_ret;exact ⟨x, rfl, x0, x1, hput.out _ _ _⟩
 ·replace hc := hide hc
  have i1 : ¬ (a : Int) < (n : Int) := by omega
  have i2 : ¬ (a : Int) + 1 ≤ (n : Int) := by omega
  have j1 : decide ((a : Int) < (n : Int)) = false := decide_eq_false i1;have j2 : decide ((a : Int) + 1 ≤ (n : Int)) = false := decide_eq_false i2;go_enter Tryz.func166, Tryz.ntmps166;go_wp2_with fail;go_quiet (fail);go_wp2_with fail;go_quiet (fail);go_wp2_with fail;go_ret;exact ⟨_, rfl, (byte_wrap _).1, (byte_wrap _).2, hput.out _ _ _⟩
def PickR (b N : Nat) (n : Int) (w : World) (e : Ending) (w' : World) : Prop := ∃ x : Int, e = .returned (.int .i64 x) ∧ 0 ≤ x ∧ (x < n ∨ x = 0) ∧ SrcTo w w' b (N + 2)
theorem pick_rem (x : Int) {n : Int} (hn : 1 < n) : 0 ≤ x % n ∧ x % n < n := ⟨Int.emod_nonneg _ (by omega), Int.emod_lt_of_pos _ (by omega)⟩
theorem pick_calls (b N : Nat) (n : Int) (w : World) (h : SrcW w b N) (hN : N ≤ 900000000) :
  Calls Tryz.prog 84 #[.pointer (some ⟨b, 0, none⟩), .int .i64 n] w (PickR b N n w) := by
 have q1 := hide (next_calls b N w h (by omega));have hself := hide ((SrcTo.refl h).more (show N ≤ N + 2 by omega));clear h
 by_cases h1 : n ≤ 1
 ·go_enter Tryz.func84, Tryz.ntmps84
  go_wp2_with fail;go_ret
  exact ⟨0, rfl, by omega, .inr rfl, hself.out⟩
 ·have hne : n ≠ 0 := by omega
  by_cases h2 : 200 < n
  ·go_enter Tryz.func84, Tryz.ntmps84
   go_wp2_with fail;refine q1.out.mono ?_
   rintro e w1 ⟨x, rfl, x0, x1, hs1⟩;have q2 := hide (next_calls b (N + 1) w1 hs1.src (by omega));replace hs1 := hide hs1;go_wp2_with fail;refine q2.out.mono ?_;rintro e w2 ⟨y, rfl, y0, y1, hs2⟩;have hs3 := hide (hs1.out.trans hs2);clear hs1 hs2 q1 q2;have hr := pick_rem (x * 256 + y) (show 1 < n by omega);go_wp2_with fail;go_ret;exact ⟨_, rfl, hr.1, .inl hr.2, hs3.out⟩
  ·go_enter Tryz.func84, Tryz.ntmps84
   go_wp2_with fail;refine q1.out.mono ?_
   rintro e w1 ⟨x, rfl, x0, x1, hs1⟩;have hs3 := hide (hs1.more (show N + 1 ≤ N + 2 by omega));clear hs1 q1;have hr := pick_rem x (show 1 < n by omega);go_wp2_with fail;go_ret;exact ⟨_, rfl, hr.1, .inl hr.2, hs3.out⟩
theorem one_calls (b N : Nat) (n : Int) (w : World) (h : SrcW w b N) (hN : N ≤ 900000000) :
  Calls Tryz.prog 92 #[.pointer (some ⟨b, 0, none⟩), .int .i64 n] w fun e w' => ∃ v : Bool, e = .returned (.bool v) ∧ SrcTo w w' b (N + 2) := by
 have q1 := hide (pick_calls b N n w h hN);clear h;go_enter Tryz.func92, Tryz.ntmps92;go_wp2_with fail;refine q1.out.mono ?_;rintro e w1 ⟨x, rfl, x0, x1, hs1⟩;replace hs1 := hide hs1;clear q1;go_wp2_with fail;go_ret;exact ⟨_, rfl, hs1.out⟩
theorem Only.alloc' {lo hi : Nat} {a w : World} (h : Only lo hi a w) (o : Obj) : Only lo hi a (w.alloc o) :=
 ⟨h.os, h.tape, h.output, by rw [World.size_alloc]; have := h.size; omega, fun q hq hd => (Below.heap_alloc _ _ _ (by have := h.size; omega)).trans (h.block q hq hd)⟩
theorem Only.setNew {lo hi : Nat} {a w : World} (h : Only lo hi a w) {p : Addr} (hp : a.heap.size ≤ p.block) (u : Value) : Only lo hi a (w.setCell p u) :=
 ⟨h.os, h.tape, h.output, by rw [World.size_setCell]; exact h.size, fun q hq hd => (Below.heap_setCell _ _ _ _ (by omega)).trans (h.block q hq hd)⟩
theorem Only.drew' {lo hi : Nat} {a w : World} (h : Only lo hi a w) : Only lo hi a w.drew := ⟨h.os, h.tape, h.output, h.size, h.block⟩
theorem Only.belowAt {lo hi B : Nat} {a w w' : World} (h : Only lo hi a w) (g : Below B w w') (hB : a.heap.size ≤ B) : Only lo hi a w' :=
 ⟨g.os.trans h.os, g.tape.trans h.tape, g.output.trans h.output, Nat.le_trans h.size g.size, fun q hq hd => (g.block q (by omega)).trans (h.block q hq hd)⟩
theorem Only.grow {lo hi : Nat} {a w w' : World} (h : Only lo hi a w) {row : Option Nat} (g : w.grownBy w' row) (hr : ∀ k, row = some k → a.heap.size ≤ k) : Only lo hi a w' :=
 ⟨g.os.trans h.os, g.tape.trans h.tape, g.output.trans h.output, Nat.le_trans h.size g.size, fun q hq hd => (g.block q (by have := h.size; omega) (fun e => by have := hr q e.symm; omega)).trans (h.block q hq hd)⟩
section
variable {w w' : World} {b N M : Nat}
theorem SrcW.alloc (h : SrcW w b N) (o : Obj) : SrcW (w.alloc o) b N := h.below ((Below.refl w.heap.size w).alloc zR o) h.lt
theorem SrcW.drew (h : SrcW w b N) : SrcW w.drew b N := h
theorem SrcW.drewN (h : SrcW w b N) (k : Nat) : SrcW (w.drewN k) b N := h
theorem SrcW.setNew (h : SrcW w b N) {p : Addr} (hp : b < p.block) (u : Value) : SrcW (w.setCell p u) b N :=
 h.keep (by rw [World.size_setCell]; exact zR) fun q hq => Below.heap_setCell _ _ _ _ (by omega)
theorem SrcW.grow (h : SrcW w b N) {row : Option Nat} (g : w.grownBy w' row) (hr : ∀ k, row = some k → b < k) : SrcW w' b N :=
 h.keep g.size fun q hq => g.block q (by have := h.lt; omega) (fun e => by have := hr q e.symm; omega)
end
theorem among_calls (b N : Nat) (A : Option Addr) (n c : Nat) (l : List Int) (w : World) (lo hi : Nat) (h : SrcW w b N) (hN : N ≤ 900000000) (hs : SlI w lo hi A n l) (hd : hi ≤ b ∨ b + 1 ≤ lo) (hn : 0 < n) (hm : n ≤ 1048576) :
  Calls Tryz.prog 86 #[.pointer (some ⟨b, 0, none⟩), .slice A n c] w fun e w' => ∃ x : Int, e = .returned (.int .i64 x) ∧ x ∈ l ∧ SrcTo w w' b (N + 2) := by
 have q1 := hide (pick_calls b N (n : Int) w h hN);obtain ⟨ba, oa, rfl, g1, g2, g3, -⟩ := hs.at_ hn;replace hs := hide hs;clear h;go_enter Tryz.func86, Tryz.ntmps86;go_wp2_with fail;refine q1.out.mono ?_;rintro e w1 ⟨x, rfl, x0, x1, hs1⟩;obtain ⟨k, rfl⟩ : ∃ k : Nat, x = (k : Int) := ⟨x.toNat, by omega⟩;have hk : k < n := by omega
 have hl := hs.out.only hs1.only (by omega);obtain ⟨b', o', y, e1, -, -, -, hy, c0, -⟩ := SlI.get hl hk;cases e1;replace hs1 := hide hs1;have hmem := hide (List.mem_of_getElem? hy);have k0 : (0 : Int) ≤ (k : Int) := by omega
 have k1 : (k : Int) < (n : Int) := by omega
 clear q1 hl hy x0 x1;go_wp2_with fail;go_ret;exact ⟨y, rfl, hmem.out, hs1.out⟩
theorem l00From_calls (A : Option Addr) (n c : Nat) (code : List Int) (w : World) (h : SlU w 0 w.heap.size A n code) (hc : ∀ x, x ∈ code → 0 ≤ x ∧ x ≤ 255) (hn : n ≤ maxLen) :
  Calls Tryz.prog 48 #[.slice A n c] w fun e w' => e = .returned (.pointer (some ⟨w.heap.size, 0, none⟩)) ∧ SrcW w' w.heap.size 0 ∧ Below w.heap.size w w' ∧ w'.heap.size = w.heap.size + 1 := by
 have hS : Hid (SrcW (w.alloc (.cells #[.slice A n c, .int .i64 0, .int .u64 0] 139)) w.heap.size 0) :=
  ⟨A, n, c, code, 0, 0, heap_alloc_new w _, zR, hn, h.below ((Below.refl w.heap.size w).alloc zR _) (.inr zR), hc⟩
 clear h;go_enter Tryz.func48, Tryz.ntmps48;go_wp2_with fail;go_ret;exact ⟨rfl, hS.out, bR.alloc zR _, by rw [World.size_alloc]⟩
theorem Own.litL {α : Type} {f : α → List Value} {w : World} {g base : Nat} {e : TypeId} {x : α} {u : Value} (h : w.heap[g]? = some (.cells #[u] e (0, 0))) (hf : f x = [u]) (hb : base ≤ g) : Own 1 f w base e (some ⟨g, 0, none⟩) 1 1 [x] :=
 ⟨rfl, by simp [hf], .inr ⟨g, 1, #[u], rfl, hb, h, zR, by unfold maxLen; omega, rfl, by simp [hf]⟩⟩
theorem strv_mapL (l : List ByteArray) : l.flatMap strv = l.map Value.string := by
 induction l with
 | nil => rfl
 | cons x l ih => rw [List.flatMap_cons, ih]; rfl
theorem Own.setS {w : World} {base g n c : Nat} {e : TypeId} {l : List ByteArray} (h : Own 1 strv w base e (some ⟨g, 0, none⟩) n c l) (k : Nat) (x : ByteArray) : Own 1 strv (w.setCell ⟨g, k, none⟩ (.string x)) base e (some ⟨g, 0, none⟩) n c (l.set k x) := by
 rcases h.2.2 with ⟨hv, -⟩ | ⟨g', cap, cur, hv, hb, hg, hnc, hcm, hcs, htake⟩
 ·cases hv
 ·cases hv
  refine ⟨by rw [List.length_set]; exact h.1, by rw [flat_length flat_strv, List.length_set]; have := h.1; omega, .inr ⟨g, c, cur.setIfInBounds k (.string x), rfl, hb, heap_setCell_same _ _ k _ _ _ hg, hnc, hcm, by simpa using hcs, ?_⟩⟩;rw [Array.toList_setIfInBounds, List.take_set, htake, strv_mapL, strv_mapL, List.map_set]
theorem step_appL {P : Program} {α : Type} {size bytes : Nat} {f : α → List Value} {t e : TypeId} {w : World} {ops : Array Oper} {o : Oper} {a : Act} {K : Act → World → Prop} {Q : Exit → Act → World → Prop} {E : Prop} (hgd : o.guard = none) (s x : Operand)
  (ho : o.op = .call { callee := .builtin .append, args := #[s, x], argTypes := #[t, t] }) (hE : Elem P t e size bytes) (hf : Flat f size)
  {base n c : Nat} {A : Option Addr} {l : List α} (hs : a.eval s = .slice A n c) (hown : Own size f w base e A n c l)
  {B : Option Addr} {m d lo hi : Nat} {r : List α} (hx : a.eval x = .slice B m d) (hr : Sl size f w lo hi B m r) (hsz : (n + m) * bytes ≤ 140737488355328) (hbase : base ≤ w.heap.size)
  (h : ∀ A' c' w', Own size f w' base e A' (n + m) c' (l ++ r) → w.grownBy w' (Value.slice A n c).ownBlock → Below base w w' →
   ((Value.slice A' (n + m) c').ownBlock = (Value.slice A n c).ownBlock ∨ (Value.slice A' (n + m) c').ownBlock = some w.heap.size) → K (a.put o.dst (.slice A' (n + m) c')) w') :
  if Region.wanted o (yielded ops a.tmps) = true then Oper.wp P o a w K Q else E := by
 have hw : Region.wanted o (yielded ops a.tmps) = true := by simp [Region.wanted, hgd]
 rw [if_pos hw];obtain ⟨A', c', w', h1, h2, h3, h4⟩ := run_app w hE hf o.type hown (d := d) hr hsz hbase;unfold Oper.wp execOp;simp only [ho, resolve, invoke, builtin, Sem.run_bind, Sem.run_pure, Result.andThen_ok, List.map_toArray, List.map_cons, List.map_nil, hs, hx, h1];exact h _ _ _ h2 h3 (bR.grown h3 hbase fun k hk => (hown.lt k hk).1) h4
open Go.Sort
theorem labS_tau : labS tauB = true := by
 have h : (40 : UInt8) ∉ tauB.data.toList := by decide
 rw [labS_miss h]
 decide
def sLess (a b : ByteArray) : Bool := Op.bytesLess a.toList b.toList
theorem bytesLess_total : ∀ a b : List UInt8, (!(Op.bytesLess a b || a == b)) = Op.bytesLess b a
 | [], [] => rfl
 | [], _ :: _ => by simp [Op.bytesLess]
 | _ :: _, [] => by simp [Op.bytesLess]
 | x :: a, y :: b => by
  have ih := bytesLess_total a b;simp only [Op.bytesLess]
  by_cases h1 : x = y
  ·subst h1
   have h2 : ¬ x < x := by rw [UInt8.lt_iff_toNat_lt]; omega
   simp only [decide_eq_false h2, Bool.false_or, beq_self_eq_true, Bool.true_and];rw [← ih]
   congr 2
   simp
  ·have h3 : ¬ y = x := fun e => h1 e.symm
   have hn : x.toNat ≠ y.toNat := fun e => h1 (UInt8.toNat_inj.1 e)
   by_cases h2 : x < y
   ·have h4 : ¬ y < x := by rw [UInt8.lt_iff_toNat_lt] at h2 ⊢; omega
    simp [h2, h3, h4]
   ·have h4 : y < x := by rw [UInt8.lt_iff_toNat_lt] at h2 ⊢; omega
    simp [h1, h2, h4]
abbrev okL := okLab labS sLess
theorem okL_at {l : List ByteArray} {k : Nat} {x y : ByteArray} (hx : l[k]? = some x) (hk : 0 < k) (hy : l[k - 1]? = some y) : okL l k = ((labS x && !(decide (x = tauB))) && (decide (k ≤ 1) || sLess y x)) := by
 show okLab labS sLess l k = _
 unfold okLab;rw [hx, hy];have : decide (k = 0) = false := decide_eq_false (by omega);simp only [this]
 cases h : decide (x = tauB) <;> rfl
theorem okL_zero {l : List ByteArray} {x : ByteArray} (hx : l[0]? = some x) : okL l 0 = decide (x = tauB) := by
 show okLab labS sLess l 0 = _
 unfold okLab;rw [hx]
 by_cases h : x = tauB
 ·subst h
  simp [labS_tau]
 ·simp [h]
def namesB (l : List ByteArray) : Bool := inB (l.length : Int) 1 12 && allK (okL l) l.length
theorem same_regrown {f : FuncId} {args : Array Value} {w : World} {v : Value} (h : ∀ W, Calls Tryz.prog f args W fun e w' => e = .returned v ∧ W = w') (d : Nat) (os : Array Obj) :
  Calls Tryz.prog f args (grow (redrawn w d) os) fun e w'' => e = .returned v ∧ ∃ p : Regrown, w'' = grow (redrawn w p.d) p.os := (h _).mono fun _ _ ⟨a, b⟩ => ⟨a, ⟨d, os⟩, b.symm⟩
def LtsAt (w : World) (bt : Nat) (x : CL) (d : DL) : Prop := ReadL w 0 w.heap.size x d ∧ totL d ≤ 1048576 ∧ bt < w.heap.size ∧ w.cell? ⟨bt, 0, none⟩ = some (.int .i64 x.1) ∧ w.cell? ⟨bt, 1, none⟩ = some (.int .i64 x.2.1) ∧ w.cell? ⟨bt, 2, none⟩ = some x.2.2.1 ∧ w.cell? ⟨bt, 3, none⟩ = some x.2.2.2
theorem LtsAt.below {w w' : World} {bt B : Nat} {x : CL} {d : DL} (h : LtsAt w bt x d) (hb : Below B w w') (hB : w.heap.size ≤ B) : LtsAt w' bt x d := by
 obtain ⟨h1, h2, h3, c0, c1, c2, c3⟩ := h;have hs := hb.size;exact ⟨(h1.below hb (.inr hB)).more zR hs, h2, by omega, (hb.cell (p := ⟨bt, 0, none⟩) (by show bt < B; omega)).trans c0, (hb.cell (p := ⟨bt, 1, none⟩) (by show bt < B; omega)).trans c1, (hb.cell (p := ⟨bt, 2, none⟩) (by show bt < B; omega)).trans c2, (hb.cell (p := ⟨bt, 3, none⟩) (by show bt < B; omega)).trans c3⟩
theorem l11Less_calls (b1 o1 b2 o2 : Nat) (x1 x2 x3 y1 y2 y3 : Int) (w : World)
  (c0 : w.cell? ⟨b1, o1, none⟩ = some (.int .i64 x1)) (c1 : w.cell? ⟨b1, o1 + 1, none⟩ = some (.int .i64 x2)) (c2 : w.cell? ⟨b1, o1 + 2, none⟩ = some (.int .i64 x3))
  (d0 : w.cell? ⟨b2, o2, none⟩ = some (.int .i64 y1)) (d1 : w.cell? ⟨b2, o2 + 1, none⟩ = some (.int .i64 y2)) (d2 : w.cell? ⟨b2, o2 + 2, none⟩ = some (.int .i64 y3)) :
  Calls Tryz.prog 232 #[.pointer (some ⟨b1, o1, none⟩), .pointer (some ⟨b2, o2, none⟩)] w fun e w' => e = .returned (.bool (edLess (x1, x2, x3) (y1, y2, y3))) ∧ ∃ m, w' = w.drewN m := by
 by_cases h1 : x1 = y1
 ·subst h1
  by_cases h2 : x2 = y2
  ·subst h2
   have hv : Hid (edLess (x1, x2, x3) (x1, x2, y3) = decide (x3 < y3)) := by show _ = _; simp [edLess]
   go_enter Tryz.func232, Tryz.ntmps232
   go_wp2
   go_quiet (fail)
   go_wp2
   go_quiet (fail)
   go_wp2
   go_quiet (fail)
   go_wp2
   go_ret;exact ⟨ret_b (by rw [hv.out]), _, by rw [World.drewN_drewN, World.drewN_drewN]⟩
  ·have hv : Hid (edLess (x1, x2, x3) (x1, y2, y3) = decide (x2 < y2)) := by show _ = _; simp [edLess, h2]
   have hq : (x2 != y2) = true := by simpa using h2
   clear h2;go_enter Tryz.func232, Tryz.ntmps232
   go_wp2
   go_quiet (fail)
   go_wp2
   go_quiet (fail)
   go_wp2
   go_quiet (fail)
   go_wp2
   go_ret;exact ⟨ret_b (by rw [hv.out]), _, by rw [World.drewN_drewN, World.drewN_drewN]⟩
 ·have hv : Hid (edLess (x1, x2, x3) (y1, y2, y3) = decide (x1 < y1)) := by show _ = _; simp [edLess, h1]
  have hq : (x1 != y1) = true := by simpa using h1
  clear h1;go_enter Tryz.func232, Tryz.ntmps232
  go_wp2
  go_quiet (fail)
  go_wp2
  go_quiet (fail)
  go_wp2
  go_ret;exact ⟨ret_b (by rw [hv.out]), _, by rw [World.drewN_drewN]⟩
theorem okE_at {st m : Int} {es : List Ed} {k : Nat} {f lb tg : Int} {r : Ed} (hx : es[k]? = some (f, lb, tg)) (hk : 0 < k) (hy : es[k - 1]? = some r) : okEd st m es k = ((inB f 0 (st - 1) && (inB tg 0 (st - 1) && inB lb 0 (m - 1))) && edLess r (f, lb, tg)) := by
 unfold okEd;rw [hx, hy];have : decide (k = 0) = false := decide_eq_false (by omega);simp only [this, Bool.false_or, Bool.and_assoc]
theorem okE_zero {st m : Int} {es : List Ed} {f lb tg : Int} (hx : es[0]? = some (f, lb, tg)) : okEd st m es 0 = (inB f 0 (st - 1) && (inB tg 0 (st - 1) && inB lb 0 (m - 1))) := by
 unfold okEd;rw [hx]
 simp [Bool.and_assoc]
theorem okE_bad {st m : Int} {es : List Ed} {k : Nat} {f lb tg : Int} (hx : es[k]? = some (f, lb, tg)) (h : (inB f 0 (st - 1) && (inB tg 0 (st - 1) && inB lb 0 (m - 1))) = false) : okEd st m es k = false := by
 unfold okEd;rw [hx];simp only [Bool.and_assoc] at h ⊢;rw [← Bool.and_assoc, ← Bool.and_assoc, Bool.and_assoc (inB f 0 (st - 1)), h]
 rfl
abbrev ltsV := ltsB labS sLess
theorem ltsV_eq (st ini : Int) (ls : List ByteArray) (es : List Ed) : ltsV (st, ini, ls, es) = ((inB st 1 40 && (inB ini 0 (st - 1) && (namesB ls && decide (es.length ≤ 300)))) && allK (okEd st ls.length es) es.length) := by
 show ltsB labS sLess (st, ini, ls, es) = _
 unfold ltsB namesB;simp only
 cases inB st 1 40 <;> cases inB ini 0 (st - 1) <;> cases inB (ls.length : Int) 1 12 <;> cases decide (es.length ≤ 300) <;> cases allK (okLab labS sLess ls) ls.length <;> simp
theorem mem_le_sum : ∀ {l : List Nat} {x : Nat}, x ∈ l → x ≤ l.sum
 | y :: l, x, h => by
  rw [List.sum_cons]
  rcases List.mem_cons.1 h with rfl | h
  ·omega
  ·have := mem_le_sum h
   omega
theorem flat_ev : Flat ev 3 := ⟨fun _ => rfl, fun x u h => by simp [ev] at h; rcases h with rfl | rfl | rfl <;> rfl⟩
theorem elem_edge : Elem Tryz.prog 25 84 3 24 := Elem.of Tryz.underlying25 info_implEdge rfl (by decide) (by decide)
def anyL (ls : List ByteArray) (lab : ByteArray) : Bool := ls.any (fun x => decide (x = lab))
theorem str_list_ne3 {a b : ByteArray} (h : ¬ a = b) : (b.toList == a.toList) = false ∧ ¬ b.toList = a.toList := by
 have h1 := str_neq (a := b) (b := a) (fun e => h e.symm);exact ⟨h1, fun e => by rw [e, beq_self_eq_true] at h1; cases h1⟩
def FindI (l : List ByteArray) (s : ByteArray) (i : Int) : Prop := (i = -1 ∧ anyL l s = false) ∨ ∃ k : Nat, i = (k : Int) ∧ l[k]? = some s ∧ anyL l s = true
theorem l11Find_calls (s : ByteArray) (A : Option Addr) (n c : Nat) (l : List ByteArray) (w : World) (lo hi : Nat) (h : SlS w lo hi A n l) (hn : n ≤ 1048576) :
  Calls Tryz.prog 174 #[.slice A n c, .string s] w fun e w' => ∃ i : Int, e = .returned (.int .i64 i) ∧ FindI l s i ∧ w = w' := by
 have hlen := hide h.len;go_enter Tryz.func174, Tryz.ntmps174
 go_wp2
 go_loop [5] (fun i => ∃ k : Nat, k ≤ n ∧ i = .int .i64 k ∧ Hid ((l.take k).any (fun x => decide (x = s)) = false)) (fun i => n - (intOf i).toNat)
 case atStart => exact ⟨0, Nat.zero_le _, rfl, rfl⟩
 case round =>
  obtain ⟨k, hk, rfl, ha⟩ := hrel
  by_cases hlt : k < n
  ·obtain ⟨b, off, x, rfl, g1, g2, g3, hx, c0, -⟩ := SlS.get h hlt
   clear h
   by_cases hq : x = s
   ·subst hq
    have hy : Hid (FindI l x (k : Int)) := .inr ⟨k, rfl, hx, any_hit (G := fun y => decide (y = x)) hx (decide_eq_true rfl)⟩;have hself : (x.toList == x.toList) = true := beq_self_eq_true _;clear hx
    go_wp2
    go_ret;exact ⟨_, rfl, hy.out, rfl⟩
   ·have hy := hide (any_take_succ ha.out hx (decide_eq_false hq))
    obtain ⟨hne, hne2⟩ := str_list_ne3 hq;have hne3 : (x.toList == s.toList) = false := by
     have := str_neq (a := x) (b := s) hq;exact this
    have hne4 : ¬ x.toList = s.toList := fun e => hne2 e.symm
    clear hx hq
    go_wp2
    go_round
    case rel => exact ⟨k + 1, by omega, by go_num, hy⟩
    case measure => simp [intOf]; omega
  ·have hkn : k = n := by omega
   subst hkn;clear h;have hy := ha.out;rw [List.take_of_length_le (by rw [hlen.out]; exact zR)] at hy;have hf : Hid (FindI l s (-1)) := .inl ⟨rfl, hy⟩;clear ha hy
   go_wp2
   go_ret;exact ⟨_, rfl, hf.out, rfl⟩
end Go.Proofs.YtnhomkmfbngmgaaGreatDoor
namespace Go.Proofs
open Go.Shelf
def Tryz.lays106_ren : Go.Shelf.Ren := ⟨fun | 106 => 292 | 213 => 352 | 265 => 378 | n => n, fun | 9 => 9 | 3 => 3 | n => n, fun | n => n⟩
theorem Tryz.lays106 : Go.Proofs.Lays.n106 Tryz.prog Tryz.lays106_ren := {
 mixed := by kernel_rfl
 f106 := Tryz.func292.trans (congrArg some (by kernel_rfl))
 f213 := Tryz.func352.trans (congrArg some (by kernel_rfl))
 f265 := Tryz.func378.trans (congrArg some (by kernel_rfl))
 t3 := Tryz.underlying3
 a3 := Tryz.isAgg3
 z3 := Tryz.sizeOf3
 v3 := Tryz.zeroValue3
 t9 := Tryz.underlying9
 a9 := Tryz.isAgg9
 z9 := Tryz.sizeOf9
 v9 := Tryz.zeroValue9 }
open Go.RowKit in
theorem Tryz.strings_Compare (a b : ByteArray) (w : World) :
  Calls Tryz.prog 292 #[.string a, .string b] w fun e w' => e = .returned (.int .i64 (Lib.compareBytes a.data.toList b.data.toList)) ∧ w' = w := Any.strings_Compare Tryz.lays106 a b w
def Tryz.lays194_ren : Go.Shelf.Ren := ⟨fun | 194 => 227 | n => n, fun | 31 => 24 | 9 => 9 | 3 => 3 | 4 => 4 | 0 => 0 | n => n, fun | n => n⟩
theorem Tryz.lays194 : Go.Proofs.Lays.n194 Tryz.prog Tryz.lays194_ren := {
 mixed := by kernel_rfl
 f194 := Tryz.func227.trans (congrArg some (by kernel_rfl))
 t0 := Tryz.underlying0
 a0 := Tryz.isAgg0
 z0 := Tryz.sizeOf0
 v0 := Tryz.zeroValue0
 t3 := Tryz.underlying3
 a3 := Tryz.isAgg3
 z3 := Tryz.sizeOf3
 v3 := Tryz.zeroValue3
 t4 := Tryz.underlying4
 a4 := Tryz.isAgg4
 z4 := Tryz.sizeOf4
 v4 := Tryz.zeroValue4
 t9 := Tryz.underlying9
 a9 := Tryz.isAgg9
 z9 := Tryz.sizeOf9
 v9 := Tryz.zeroValue9
 t31 := Tryz.underlying24
 a31 := Tryz.isAgg24
 z31 := Tryz.sizeOf24
 v31 := Tryz.zeroValue24 }
open Go.RowKit Go.Lib Go.Sort in
theorem Tryz.slices_Compact_string (blk off cap : Nat) (zs : List (List UInt8)) (w : World) (hH : Holds encStr w blk off zs.toArray) (hsz : zs.length ≤ 9223372036854775807) (hcap : zs.length ≤ cap) :
  Calls Tryz.prog 227 #[.slice (some ⟨blk, off, none⟩) zs.length cap] w fun e w' => e = .returned (.slice (some ⟨blk, off, none⟩) (Lib.compact zs).length cap) ∧ ∃ q, w' = putRow encStr (Sort.ahead w q) blk off (Lib.compact zs ++ List.replicate (zs.length - (Lib.compact zs).length) []).toArray := Any.slices_Compact_string Tryz.lays194 blk off cap zs w hH hsz hcap
open Go.RowKit Go.Lib Go.Sort in
theorem Tryz.slices_Compact_string_empty (a : Option Addr) (cap : Nat) (w : World) :
  Calls Tryz.prog 227 #[.slice a 0 cap] w fun e w' => e = .returned (.slice a 0 cap) ∧ w' = w := Any.slices_Compact_string_empty Tryz.lays194 a cap w
end Go.Proofs
namespace Go.Proofs
open Go.Shelf
def Tryz.laysSortF_ren : Go.Shelf.Ren := ⟨fun | 6 => 225 | 15 => 224 | 14 => 291 | 28 => 289 | 29 => 290 | 20 => 344 | 21 => 345 | 22 => 346 | 23 => 347 | 24 => 348 | 25 => 349 | 26 => 350 | 27 => 351 | 46 => 375 | 47 => 340 | 48 => 341 | 49 => 376 | 50 => 377 | 57 => 386 | n => n, fun | 22 => 24 | 24 => 9 | 25 => 221 | 3 => 3 | 39 => 243 | 0 => 0 | 53 => 292 | 55 => 137 | 4 => 4 | 46 => 285 | 45 => 284 | 50 => 289 | 5 => 5 | 9 => 9 | 66 => 327 | 70 => 331 | 76 => 352 | 77 => 353 | n => n, fun | n => n⟩
theorem Tryz.laysSortF : Go.Proofs.SlLaysF.n6 Tryz.prog Tryz.laysSortF_ren := {
 mixed := by kernel_rfl
 f6 := ⟨Tryz.f225.name, by decide, Tryz.func225.trans (congrArg some (by kernel_rfl))⟩
 f14 := ⟨Tryz.f291.name, by decide, Tryz.func291.trans (congrArg some (by kernel_rfl))⟩
 f15 := Tryz.func224.trans (congrArg some (by kernel_rfl))
 f20 := ⟨Tryz.f344.name, by decide, Tryz.func344.trans (congrArg some (by kernel_rfl))⟩
 f21 := ⟨Tryz.f345.name, by decide, Tryz.func345.trans (congrArg some (by kernel_rfl))⟩
 f22 := ⟨Tryz.f346.name, by decide, Tryz.func346.trans (congrArg some (by kernel_rfl))⟩
 f23 := ⟨Tryz.f347.name, by decide, Tryz.func347.trans (congrArg some (by kernel_rfl))⟩
 f24 := ⟨Tryz.f348.name, by decide, Tryz.func348.trans (congrArg some (by kernel_rfl))⟩
 f25 := ⟨Tryz.f349.name, by decide, Tryz.func349.trans (congrArg some (by kernel_rfl))⟩
 f26 := ⟨Tryz.f350.name, by decide, Tryz.func350.trans (congrArg some (by kernel_rfl))⟩
 f27 := ⟨Tryz.f351.name, by decide, Tryz.func351.trans (congrArg some (by kernel_rfl))⟩
 f28 := Tryz.func289.trans (congrArg some (by kernel_rfl))
 f29 := Tryz.func290.trans (congrArg some (by kernel_rfl))
 f46 := ⟨Tryz.f375.name, by decide, Tryz.func375.trans (congrArg some (by kernel_rfl))⟩
 f47 := Tryz.func340.trans (congrArg some (by kernel_rfl))
 f48 := Tryz.func341.trans (congrArg some (by kernel_rfl))
 f49 := ⟨Tryz.f376.name, by decide, Tryz.func376.trans (congrArg some (by kernel_rfl))⟩
 f50 := ⟨Tryz.f377.name, by decide, Tryz.func377.trans (congrArg some (by kernel_rfl))⟩
 f57 := ⟨Tryz.f386.name, by decide, Tryz.func386.trans (congrArg some (by kernel_rfl))⟩
 t0 := Tryz.underlying0
 a0 := Tryz.isAgg0
 z0 := Tryz.sizeOf0
 v0 := Tryz.zeroValue0
 t3 := Tryz.underlying3
 a3 := Tryz.isAgg3
 z3 := Tryz.sizeOf3
 v3 := Tryz.zeroValue3
 t4 := Tryz.underlying4
 a4 := Tryz.isAgg4
 z4 := Tryz.sizeOf4
 v4 := Tryz.zeroValue4
 t5 := Tryz.underlying5
 a5 := Tryz.isAgg5
 z5 := Tryz.sizeOf5
 v5 := Tryz.zeroValue5
 t9 := Tryz.underlying9
 a9 := Tryz.isAgg9
 z9 := Tryz.sizeOf9
 v9 := Tryz.zeroValue9
 t22 := Tryz.underlying24
 a22 := Tryz.isAgg24
 z22 := Tryz.sizeOf24
 v22 := Tryz.zeroValue24
 a24 := Tryz.isAgg9
 z24 := Tryz.sizeOf9
 t25 := Tryz.underlying221
 a25 := Tryz.isAgg221
 z25 := Tryz.sizeOf221
 v25 := Tryz.zeroValue221
 t39 := Tryz.underlying243
 a39 := Tryz.isAgg243
 z39 := Tryz.sizeOf243
 v39 := Tryz.zeroValue243
 t45 := Tryz.underlying284
 a45 := Tryz.isAgg284
 z45 := Tryz.sizeOf284
 v45 := Tryz.zeroValue284
 t46 := Tryz.underlying285
 a46 := Tryz.isAgg285
 z46 := Tryz.sizeOf285
 v46 := Tryz.zeroValue285
 t50 := Tryz.underlying289
 a50 := Tryz.isAgg289
 z50 := Tryz.sizeOf289
 v50 := Tryz.zeroValue289
 t53 := Tryz.underlying292
 a53 := Tryz.isAgg292
 z53 := Tryz.sizeOf292
 v53 := Tryz.zeroValue292
 t55 := Tryz.underlying137
 a55 := Tryz.isAgg137
 z55 := Tryz.sizeOf137
 v55 := Tryz.zeroValue137
 t66 := Tryz.underlying327
 a66 := Tryz.isAgg327
 z66 := Tryz.sizeOf327
 v66 := Tryz.zeroValue327
 t70 := Tryz.underlying331
 a70 := Tryz.isAgg331
 z70 := Tryz.sizeOf331
 v70 := Tryz.zeroValue331
 t76 := Tryz.underlying352
 a76 := Tryz.isAgg352
 z76 := Tryz.sizeOf352
 v76 := Tryz.zeroValue352
 t77 := Tryz.underlying353
 a77 := Tryz.isAgg353
 z77 := Tryz.sizeOf353
 v77 := Tryz.zeroValue353 }
open Go.Shelf Go.RowKit Go.Lib Go.Sort in
theorem Tryz.slices_SortFunc_string (cf : List UInt8 → List UInt8 → Int) (hO : SWO (ltOf cf)) (g : Nat) (cb : Array Value) (blk off cap : Nat) (d : Array (List UInt8)) (w : World) (eg : ∀ args w, (callFunc g args).run Tryz.prog w = .ok (.enter g args) w) (hcmp : CmpLays1 Tryz.prog g cb encStr cf blk off d.size w) (hH : Holds encStr w blk off d) (hblk : blk < w.heap.size) (hsz : d.size < 4611686018427387904) (hT : ∀ x y, (ltOf cf) x y = false → (ltOf cf) y x = false → x = y) :
  Calls Tryz.prog 225 #[.slice (some ⟨blk, off, none⟩) d.size cap, .func (.func g) #[] cb] w fun e w' =>
   e = .returned (.tuple #[]) ∧ ∃ n os, w' = sortWorld encStr w blk off n (d.toList.mergeSort fun x y => !(ltOf cf) y x).toArray os := Any.slices_SortFunc_total Tryz.laysSortF encStr (fun _ => rfl) cf hO g cb blk off cap d w eg hcmp hH hblk hsz hT
open Go.Shelf Go.RowKit Go.Lib Go.Sort in
theorem Tryz.slices_SortFunc_string_none (p : Option Addr) (cap : Nat) (fv : Value) (w : World) :
  Calls Tryz.prog 225 #[.slice p 0 cap, fv] w fun e w' => e = .returned (.tuple #[]) ∧ w' = w := AnyF.slices_SortFunc_none { Tryz.laysSortF with } p cap fv w
end Go.Proofs
namespace Go.Proofs.YtnhomkmfbngmgaaGreatDoor
open Go.ChangeShapes Go.WideShapes Go.ChangeAt Go.RowKit Go.Sort
theorem isNaN_calls (x : Int) (w : World) : Calls Tryz.prog 274 #[.int .i64 x] w fun e w' => e = .returned (.bool false) ∧ w = w' := by
 go_enter Tryz.func274, Tryz.ntmps274
 go_wp2
 go_ret;exact ⟨by simp, rfl⟩
def cmpI (x y : Int) : Int := if x < y then -1 else if y < x then 1 else 0
theorem compare_calls (x y : Int) (w : World) : Calls Tryz.prog 216 #[.int .i64 x, .int .i64 y] w fun e w' => e = .returned (.int .i64 (cmpI x y)) ∧ w = w' := by
 have q := hide isNaN_calls
 by_cases h1 : x < y
 ·have hv : Hid (cmpI x y = -1) := by show _ = _; unfold cmpI; rw [if_pos h1]
  go_enter Tryz.func216, Tryz.ntmps216;go_wp2_with (first | (go_at_call 274; (with_reducible refine (q.out _ _).mono ?_); rintro e w' ⟨rfl, rfl⟩));go_ret;exact ⟨ret_i (by rw [hv.out]), rfl⟩
 ·by_cases h2 : y < x
  ·have hv : Hid (cmpI x y = 1) := by show _ = _; unfold cmpI; rw [if_neg h1, if_pos h2]
   go_enter Tryz.func216, Tryz.ntmps216;go_wp2_with (first | (go_at_call 274; (with_reducible refine (q.out _ _).mono ?_); rintro e w' ⟨rfl, rfl⟩));go_ret;exact ⟨ret_i (by rw [hv.out]), rfl⟩
  ·have hv : Hid (cmpI x y = 0) := by show _ = _; unfold cmpI; rw [if_neg h1, if_neg h2]
   go_enter Tryz.func216, Tryz.ntmps216;go_wp2_with (first | (go_at_call 274; (with_reducible refine (q.out _ _).mono ?_); rintro e w' ⟨rfl, rfl⟩));go_ret;exact ⟨ret_i (by rw [hv.out]), rfl⟩
def orF (l : List Int) : Int := (l.find? fun x => decide (x ≠ 0)).getD 0
theorem orF_hit {l : List Int} {k : Nat} {x : Int} (hx : l[k]? = some x) (h0 : x ≠ 0) (hn : ∀ j y, j < k → l[j]? = some y → y = 0) : orF l = x := by
 unfold orF;have key : ∀ (l : List Int) (k : Nat), l[k]? = some x → (∀ j y, j < k → l[j]? = some y → y = 0) → l.find? (fun x => decide (x ≠ 0)) = some x := by
  intro l
  induction l with
  | nil => intro k h _; simp at h
  | cons y l ih =>
   intro k h hn
   cases k with
   | zero =>
    simp at h
    subst h
    simp [h0]
   | succ k =>
    have hy := hn 0 y (by omega) rfl;subst hy;simp only [List.find?_cons]
    simp
    have := ih k (by simpa using h) (fun j z hj hz => hn (j + 1) z (by omega) (by simpa using hz))
    simpa using this
 rw [key l k hx hn]
 rfl
theorem orF_miss {l : List Int} (hn : ∀ (j : Nat) y, l[j]? = some y → y = 0) : orF l = 0 := by
 unfold orF;have : l.find? (fun x => decide (x ≠ 0)) = none := by
  rw [List.find?_eq_none];intro x hx;obtain ⟨j, hj⟩ := List.getElem?_of_mem hx
  simp [hn j x hj]
 rw [this]
 rfl
theorem or_calls (A : Option Addr) (n c : Nat) (l : List Int) (w : World) (lo hi : Nat) (h : SlI w lo hi A n l) (hn : n ≤ 1048576) :
  Calls Tryz.prog 215 #[.slice A n c] w fun e w' => e = .returned (.int .i64 (orF l)) ∧ w = w' := by
 have hlen := hide h.len;replace h := hide h;go_enter Tryz.func215, Tryz.ntmps215
 go_wp2
 go_loop [8] (fun i => ∃ k : Nat, k ≤ n ∧ i = .int .i64 k ∧ Hid (∀ j y, j < k → l[j]? = some y → y = 0)) (fun i => n - (intOf i).toNat)
 case atStart => exact ⟨0, Nat.zero_le _, rfl, fun j y hj => absurd hj (by omega)⟩
 case round =>
  obtain ⟨k, hk, rfl, ha⟩ := hrel
  by_cases hlt : k < n
  ·obtain ⟨b, off, x, rfl, g1, g2, g3, hx, c0, -⟩ := SlI.get h.out hlt
   by_cases h0 : x = 0
   ·have hnext : Hid (∀ j y, j < k + 1 → l[j]? = some y → y = 0) := fun j y hj hy => by
     rcases Nat.lt_or_ge j k with h1 | h1
     ·exact ha.out j y h1 hy
     ·have hjk : j = k := by omega
      rw [hjk, hx] at hy;rw [← Option.some.inj hy, h0]
    subst h0;clear h hx ha
    go_wp2
    go_round
    case rel => exact ⟨k + 1, by omega, by go_num, hnext⟩
    case measure => simp [intOf]; omega
   ·have hv : Hid (orF l = x) := orF_hit hx h0 ha.out
    have hb : (x == 0) = false := by rw [beq_eq_false_iff_ne]; exact h0
    clear h hx ha h0
    go_wp2
    go_ret;exact ⟨ret_i (by rw [hv.out]), rfl⟩
  ·have hkn : k = n := by omega
   have hv : Hid (orF l = 0) := orF_miss fun j y hy => ha.out j y (by rw [hkn, ← hlen.out]; exact (List.getElem?_eq_some_iff.1 hy).1) hy
   subst hkn
   go_wp2
   go_ret;exact ⟨ret_i (by rw [hv.out]), rfl⟩
def cmpE (a b : Ed) : Int := orF [cmpI a.1 b.1, cmpI a.2.1 b.2.1, cmpI a.2.2 b.2.2]
theorem cmpE_less (a b : Ed) : decide (0 ≤ cmpE a b) = !(edLess a b) := by
 obtain ⟨a1, a2, a3⟩ := a;obtain ⟨b1, b2, b3⟩ := b;have key : ∀ x y : Int, (x < y ∧ cmpI x y = -1) ∨ (x = y ∧ cmpI x y = 0) ∨ (y < x ∧ cmpI x y = 1) := fun x y => by
  unfold cmpI
  rcases Int.lt_trichotomy x y with h | h | h
  ·exact .inl ⟨h, if_pos h⟩
  ·exact .inr (.inl ⟨h, by rw [if_neg (by omega), if_neg (by omega)]⟩)
  ·exact .inr (.inr ⟨h, by rw [if_neg (by omega), if_pos h]⟩)
 unfold cmpE edLess orF;dsimp only
 rcases key a1 b1 with ⟨h1, e1⟩ | ⟨h1, e1⟩ | ⟨h1, e1⟩
 ·have : a1 ≠ b1 := by omega
  rw [e1]
  simp [this, h1]
 ·rcases key a2 b2 with ⟨h2, e2⟩ | ⟨h2, e2⟩ | ⟨h2, e2⟩
  ·have : a2 ≠ b2 := by omega
   rw [e1, e2]
   simp [h1, this, h2]
  ·rcases key a3 b3 with ⟨h3, e3⟩ | ⟨h3, e3⟩ | ⟨h3, e3⟩
   ·rw [e1, e2, e3]
    simp [h1, h2, h3]
   ·rw [e1, e2, e3]
    simp [h1, h2, h3]
   ·have : b3 ≤ a3 := by omega
    rw [e1, e2, e3]
    simp [h1, h2, this]
  ·have n2 : a2 ≠ b2 := by omega
   have : b2 ≤ a2 := by omega
   rw [e1, e2]
   simp [h1, n2, this]
 ·have n1 : a1 ≠ b1 := by omega
  have : b1 ≤ a1 := by omega
  rw [e1]
  simp [n1, this]
theorem or3_calls (b : Nat) (c1 c2 c3 : Int) (t : TypeId) (w : World) (hb : w.heap[b]? = some (.cells #[.int .i64 c1, .int .i64 c2, .int .i64 c3] t (0, 0))) :
  Calls Tryz.prog 215 #[.slice (some ⟨b, 0, none⟩) 3 3] w fun e w' => e = .returned (.int .i64 (orF [c1, c2, c3])) ∧ w = w' := by
 have hlt : b < w.heap.size := (Array.getElem?_eq_some_iff.1 hb).1;refine or_calls _ 3 3 [c1, c2, c3] w 0 w.heap.size ⟨rfl, fun _ => ⟨b, 0, rfl, Nat.zero_le _, hlt, hlt, fun k x hx j u hu => ?_⟩⟩ (by omega)
 match j, hu with
 | 0, hu =>
  simp [iv] at hu
  subst hu;simp only [Nat.zero_add, Nat.mul_one, Nat.add_zero];refine ⟨(cell_of_row _ _ k _ t (0, 0) hb).trans ?_, frozen_of_row _ _ _ _ t hb⟩
  match k, hx with
  | 0, hx => cases hx; rfl
  | 1, hx => cases hx; rfl
  | 2, hx => cases hx; rfl
  | k + 3, hx => simp at hx
theorem isState_calls (s0 s1 k : Int) (v2 v3 : Value) (w : World) (h1 : 1 ≤ s0) (h2 : s0 ≤ 40) :
  Calls Tryz.prog 119 #[.agg #[.int .i64 s0, .int .i64 s1, v2, v3], .int .i64 k] w fun e w' => e = .returned (.bool (inB k 0 (s0 - 1))) ∧ Below w.heap.size w w' := by
 have hb0 : Below w.heap.size w (w.alloc (.cells #[.int .i64 s0, .int .i64 s1, v2, v3] 27)) := bR.alloc zR _;have q := hide (fun W => within_calls k 0 (s0 - 1) W);replace hb0 := hide hb0;go_enter Tryz.func119, Tryz.ntmps119;go_wp2_with (first | (go_at_call 118; (with_reducible refine (q.out _).mono ?_); rintro e w' ⟨rfl, rfl⟩));go_ret;exact ⟨rfl, hb0.out⟩
theorem compareEdges_calls (x1 x2 x3 y1 y2 y3 : Int) (w : World) :
  Calls Tryz.prog 122 #[.agg #[.int .i64 x1, .int .i64 x2, .int .i64 x3], .agg #[.int .i64 y1, .int .i64 y2, .int .i64 y3]] w fun e w' => e = .returned (.int .i64 (cmpE (x1, x2, x3) (y1, y2, y3))) ∧ Below w.heap.size w w' := by
 have hv : Hid (cmpE (x1, x2, x3) (y1, y2, y3) = orF [cmpI x1 y1, cmpI x2 y2, cmpI x3 y3]) := rfl;have hbA : Below w.heap.size w ((w.alloc (.cells #[.int .i64 x1, .int .i64 x2, .int .i64 x3] 84)).alloc (.cells #[.int .i64 y1, .int .i64 y2, .int .i64 y3] 84)) := (bR.alloc zR _).alloc (by simp only [World.size_alloc]; omega) _;have k0 := (Below.heap_alloc (w.alloc (.cells #[.int .i64 x1, .int .i64 x2, .int .i64 x3] 84)) (.cells #[.int .i64 y1, .int .i64 y2, .int .i64 y3] 84) w.heap.size (by simp only [World.size_alloc]; omega)).trans (heap_alloc_new w (.cells #[.int .i64 x1, .int .i64 x2, .int .i64 x3] 84));have k1 := heap_alloc_new (w.alloc (.cells #[.int .i64 x1, .int .i64 x2, .int .i64 x3] 84)) (.cells #[.int .i64 y1, .int .i64 y2, .int .i64 y3] 84);rw [World.size_alloc] at k1;have q := hide compare_calls;replace hbA := hide hbA;replace k0 := hide k0;replace k1 := hide k1;go_enter Tryz.func122, Tryz.ntmps122;go_wp2_with fail;generalize hW : ((w.alloc (.cells #[.int .i64 x1, .int .i64 x2, .int .i64 x3] 84)).alloc (.cells #[.int .i64 y1, .int .i64 y2, .int .i64 y3] 84)) = W at *;have a0 : W.cell? ⟨w.heap.size, 0, none⟩ = some (.int .i64 x1) := cR 0 k0.out;have a1 : W.cell? ⟨w.heap.size, 1, none⟩ = some (.int .i64 x2) := cR 1 k0.out;have a2 : W.cell? ⟨w.heap.size, 2, none⟩ = some (.int .i64 x3) := cR 2 k0.out;have b0 : W.cell? ⟨w.heap.size + 1, 0, none⟩ = some (.int .i64 y1) := cR 0 k1.out;have b1 : W.cell? ⟨w.heap.size + 1, 1, none⟩ = some (.int .i64 y2) := cR 1 k1.out;have b2 : W.cell? ⟨w.heap.size + 1, 2, none⟩ = some (.int .i64 y3) := cR 2 k1.out;clear hW
 go_region_held3 (fun w' => w'.cell? ⟨w.heap.size, 0, none⟩ = some (.int .i64 x1) ∧ w'.cell? ⟨w.heap.size, 1, none⟩ = some (.int .i64 x2) ∧ w'.cell? ⟨w.heap.size, 2, none⟩ = some (.int .i64 x3) ∧ w'.cell? ⟨w.heap.size + 1, 0, none⟩ = some (.int .i64 y1) ∧ w'.cell? ⟨w.heap.size + 1, 1, none⟩ = some (.int .i64 y2) ∧ w'.cell? ⟨w.heap.size + 1, 2, none⟩ = some (.int .i64 y3)) (first | exact ⟨a0, a1, a2, b0, b1, b2⟩ | go_keep)
  (first
   | (go_at_call 216; (with_reducible refine (q.out _ _ _).mono ?_); rintro e w' ⟨rfl, rfl⟩)
   | (go_at_call 215; (refine (or3_calls _ _ _ _ _ _ (by exact heap_alloc_new W _)).mono ?_); rintro e w' ⟨rfl, rfl⟩))
 all_goals go_wp2
 all_goals go_ret
 all_goals first | exact ⟨ret_i (by rw [hv.out]), hbA.out.drew.alloc hbA.out.size _⟩ | exact ⟨ret_i (by rw [hv.out]), (hbA.out.alloc hbA.out.size _).drew⟩
theorem okL_at2 {l : List ByteArray} {k : Nat} {x y : ByteArray} (hx : l[k]? = some x) (hk : 0 < k) (hy : l[k - 1]? = some y) : okL l k = ((labS x && !(decide (x = tauB))) && (decide (k ≤ 1) || !(Op.bytesLess x.toList y.toList || x.toList == y.toList))) := by
 rw [okL_at hx hk hy, bytesLess_total]
 rfl
theorem okL_bad {l : List ByteArray} {k : Nat} {x : ByteArray} (hx : l[k]? = some x) (h : labS x = false) : okL l k = false := by
 show okLab labS sLess l k = _
 unfold okLab;rw [hx]
 simp [h]
theorem validLts_calls (x : CL) (d : DL) (w : World) (lo hi : Nat) (h : ReadL w lo hi x d) (htot : totL d ≤ 1048576) (he : Env w) :
  Calls Tryz.prog 54 #[.agg #[.int .i64 x.1, .int .i64 x.2.1, x.2.2.1, x.2.2.2]] w fun e w' => e = .returned (.bool (ltsV d)) ∧ Below w.heap.size w w' := by
 obtain ⟨s0, s1, v2, v3⟩ := x;obtain ⟨st, ini, ls, es⟩ := d;obtain ⟨e0, e1, ⟨A2, n2, k2, e2, hn2, hs2, t2⟩, ⟨A3, n3, k3, e3, hn3, t3⟩⟩ := h;dsimp only at *;subst e0 e1 e2 e3;have l2 := t2.len;have l3 := t3.len;have hls : n2 ≤ 1048576 := by rw [← l2]; exact Nat.le_trans (totL_lab (s0, s1, ls, es)) htot
 have hes : n3 ≤ 1048576 := by rw [← l3]; exact Nat.le_trans (totL_edg (s0, s1, ls, es)) htot
 have hss : Hid (∀ s ∈ ls, s.size ≤ 1048576) := fun s hs => by
  have h1 : s.size ≤ (ls.map (·.size)).sum := mem_le_sum (List.mem_map.2 ⟨s, hs, rfl⟩);simp only [totL, totS] at htot;omega
 have hval : ltsV (s0, s1, ls, es) = ((inB s0 1 40 && inB s1 0 (s0 - 1) && inB (n2 : Int) 1 12 && decide (n3 ≤ 300)) && (allK (okL ls) n2 && allK (okEd s0 (n2 : Int) es) n3)) := by rw [← l2, ← l3]; rfl
 replace l2 := hide l2;replace l3 := hide l3;replace t2 := hide t2;replace t3 := hide t3;have hW0 := hide ((Below.refl w.heap.size w).alloc zR (.cells #[.int .i64 s0, .int .i64 s1, .slice A2 n2 k2, .slice A3 n3 k3] 27));have kE := heap_alloc_new w (.cells #[.int .i64 s0, .int .i64 s1, .slice A2 n2 k2, .slice A3 n3 k3] 27);have hbt : w.heap.size < (w.alloc (.cells #[.int .i64 s0, .int .i64 s1, .slice A2 n2 k2, .slice A3 n3 k3] 27)).heap.size := by rw [World.size_alloc]; omega
 replace he := hide he;have hbt1 : w.heap.size + 1 ≤ (w.alloc (.cells #[.int .i64 s0, .int .i64 s1, .slice A2 n2 k2, .slice A3 n3 k3] 27)).heap.size := hbt;clear htot hs2 hn2 hn3;go_enter Tryz.func54, Tryz.ntmps54;go_upto_region 1 with fail;have c0 : (w.alloc (.cells #[.int .i64 s0, .int .i64 s1, .slice A2 n2 k2, .slice A3 n3 k3] 27)).cell? ⟨w.heap.size, 0, none⟩ = some (.int .i64 s0) := cR 0 kE;have c1 : (w.alloc (.cells #[.int .i64 s0, .int .i64 s1, .slice A2 n2 k2, .slice A3 n3 k3] 27)).cell? ⟨w.heap.size, 1, none⟩ = some (.int .i64 s1) := cR 1 kE;have c2 : (w.alloc (.cells #[.int .i64 s0, .int .i64 s1, .slice A2 n2 k2, .slice A3 n3 k3] 27)).cell? ⟨w.heap.size, 2, none⟩ = some (.slice A2 n2 k2) := cR 2 kE;have c3 : (w.alloc (.cells #[.int .i64 s0, .int .i64 s1, .slice A2 n2 k2, .slice A3 n3 k3] 27)).cell? ⟨w.heap.size, 3, none⟩ = some (.slice A3 n3 k3) := cR 3 kE;clear kE;generalize hWW : (w.alloc (.cells #[.int .i64 s0, .int .i64 s1, .slice A2 n2 k2, .slice A3 n3 k3] 27)) = W0 at *;clear hWW
 cases z0 : inB s0 1 40 with
 | false =>
  rw [z0] at hval;have hv : Hid (ltsV (s0, s1, ls, es) = false) := hval;clear hval;go_wp2_with (first | (go_at_call 118; (with_reducible refine (within_calls _ _ _ _).mono ?_); rintro e w' ⟨rfl, rfl⟩));go_ret;exact ⟨ret_b (by rw [hv.out]), hW0.out⟩
 | true =>
 have hst := inB_true.1 z0;have hst1 := hst.1;have hst2 := hst.2;clear hst;rw [z0] at hval
 cases z1 : inB s1 0 (s0 - 1) with
 | false =>
  rw [z1] at hval;have hv : Hid (ltsV (s0, s1, ls, es) = false) := hval;clear hval;go_wp2_with (first | (go_at_call 118; (with_reducible refine (within_calls _ _ _ _).mono ?_); rintro e w' ⟨rfl, rfl⟩) | (go_at_call 119; (with_reducible refine (isState_calls _ _ _ _ _ _ hst1 hst2).mono ?_); rintro e w1 ⟨rfl, hb1⟩; have a2 := (hb1.cell (p := ⟨w.heap.size, 2, none⟩) hbt).trans c2; have a3 := (hb1.cell (p := ⟨w.heap.size, 3, none⟩) hbt).trans c3; replace hb1 := hide hb1));go_ret;exact ⟨ret_b (by rw [hv.out]), hW0.out.trans (hb1.out.mono (Nat.le_of_lt hbt))⟩
 | true =>
 rw [z1] at hval
 cases z2 : inB (n2 : Int) 1 12 with
 | false =>
  rw [z2] at hval;have hv : Hid (ltsV (s0, s1, ls, es) = false) := hval;clear hval;go_wp2_with (first | (go_at_call 118; (with_reducible refine (within_calls _ _ _ _).mono ?_); rintro e w' ⟨rfl, rfl⟩) | (go_at_call 119; (with_reducible refine (isState_calls _ _ _ _ _ _ hst1 hst2).mono ?_); rintro e w1 ⟨rfl, hb1⟩; have a2 := (hb1.cell (p := ⟨w.heap.size, 2, none⟩) hbt).trans c2; have a3 := (hb1.cell (p := ⟨w.heap.size, 3, none⟩) hbt).trans c3; replace hb1 := hide hb1));go_ret;exact ⟨ret_b (by rw [hv.out]), hW0.out.trans (hb1.out.mono (Nat.le_of_lt hbt))⟩
 | true =>
 rw [z2] at hval
 by_cases h300 : n3 ≤ 300
 case neg =>
  rw [decide_eq_false h300] at hval;have hv : Hid (ltsV (s0, s1, ls, es) = false) := hval;have h3I : (300 : Int) < (n3 : Int) := by omega
  clear hval;go_wp2_with (first | (go_at_call 118; (with_reducible refine (within_calls _ _ _ _).mono ?_); rintro e w' ⟨rfl, rfl⟩) | (go_at_call 119; (with_reducible refine (isState_calls _ _ _ _ _ _ hst1 hst2).mono ?_); rintro e w1 ⟨rfl, hb1⟩; have a2 := (hb1.cell (p := ⟨w.heap.size, 2, none⟩) hbt).trans c2; have a3 := (hb1.cell (p := ⟨w.heap.size, 3, none⟩) hbt).trans c3; replace hb1 := hide hb1));go_ret;exact ⟨ret_b (by rw [hv.out]), hW0.out.trans (hb1.out.mono (Nat.le_of_lt hbt))⟩
 rw [decide_eq_true h300] at hval;have hval2 : Hid (ltsV (s0, s1, ls, es) = (allK (okL ls) n2 && allK (okEd s0 (n2 : Int) es) n3)) := by show _ = _; rw [hval]; rfl
 have h3I : ¬ (300 : Int) < (n3 : Int) := by omega
 clear hval;go_wp2_with (first | (go_at_call 118; (with_reducible refine (within_calls _ _ _ _).mono ?_); rintro e w' ⟨rfl, rfl⟩) | (go_at_call 119; (with_reducible refine (isState_calls _ _ _ _ _ _ hst1 hst2).mono ?_); rintro e w1 ⟨rfl, hb1⟩; have a2 := (hb1.cell (p := ⟨w.heap.size, 2, none⟩) hbt).trans c2; have a3 := (hb1.cell (p := ⟨w.heap.size, 3, none⟩) hbt).trans c3; replace hb1 := hide hb1));have hb1' := hide (hb1.out.mono hbt1);clear hb1
 go_loopw [34] (fun i wr => ∃ k : Nat, k ≤ n2 ∧ i = .int .i64 (k : Nat) ∧ Hid (∀ j, j < k → okL ls j = true) ∧ Below (w.heap.size + 1) W0 wr) (fun i _ => n2 - (intOf i).toNat)
 case atStart => exact ⟨0, Nat.zero_le _, rfl, fun j hj => absurd hj (by omega), hb1'.out⟩
 case round =>
  obtain ⟨k, hk, rfl, ha, hb⟩ := hrel;have hwb := hW0.out.trans (hb.mono (Nat.le_succ _));have y2 := (hb.cell (p := ⟨w.heap.size, 2, none⟩) (Nat.lt_succ_self _)).trans c2;have y3 := (hb.cell (p := ⟨w.heap.size, 3, none⟩) (Nat.lt_succ_self _)).trans c3;have hgw := Nat.lt_of_lt_of_le hbt hb.size;clear a2 a3
  by_cases hlt : k < n2
  ·obtain ⟨b, off, s, rfl, g1, g2, g3, hx, p0, -⟩ := SlS.get t2.out hlt
   replace p0 := (hwb.cell (p := ⟨b, off + k, none⟩) g3).trans p0;have hg := Nat.lt_of_lt_of_le g3 hwb.size;have q := isLabel_calls s wr (hss.out s (List.mem_of_getElem? hx)) (he.out.below hwb zR)
   cases hlab : labS s with
   | false =>
    have hv : Hid (ltsV (s0, s1, ls, es) = false) := by show _ = _; rw [hval2.out, allK_bad hlt (okL_bad hx hlab)]; rfl
    rw [hlab] at q;replace q := hide q;clear hx ha hlab t2 t3 hss;go_wp2_with (first | (go_at_call 120; (with_reducible refine q.out.mono ?_); rintro e w2 ⟨rfl, hb2⟩; have m2 := (hb2.cell (p := ⟨w.heap.size, 2, none⟩) hgw).trans y2; have m3 := (hb2.cell (p := ⟨w.heap.size, 3, none⟩) hgw).trans y3; replace hb2 := hide hb2));go_ret;exact ⟨ret_b (by rw [hv.out]), hwb.trans (hb2.out.mono hwb.size)⟩
   | true =>
   rw [hlab] at q;replace q := hide q
   by_cases hk0 : 0 < k
   ·obtain ⟨b', off', r, eA, -, -, -, hy, p1, -⟩ := SlS.get t2.out (show k - 1 < n2 by omega)
    cases eA
    replace p1 := (hwb.cell (p := ⟨b, off + (k - 1), none⟩) g3).trans p1;have hok := okL_at2 hx hk0 hy;rw [hlab] at hok;have hkb : ((k : Int) == 0) = false := by rw [beq_eq_false_iff_ne]; omega
    clear hx hy hlab
    by_cases htx : s = tauB
    ·have hv : Hid (ltsV (s0, s1, ls, es) = false) := by show _ = _; rw [hval2.out, allK_bad hlt (by rw [hok, decide_eq_true htx]; rfl)]; rfl
     have htt : (s.toList == [116, 97, 117]) = true := by rw [htx, tau_list]; rfl
     clear ha hok htx t2 t3 hss;go_wp2_with (first | (go_at_call 120; (with_reducible refine q.out.mono ?_); rintro e w2 ⟨rfl, hb2⟩; have m2 := (hb2.cell (p := ⟨w.heap.size, 2, none⟩) hgw).trans y2; have m3 := (hb2.cell (p := ⟨w.heap.size, 3, none⟩) hgw).trans y3; have m4 := (hb2.cell (p := ⟨b, off + (k - 1), none⟩) hg).trans p1; replace hb2 := hide hb2));go_ret;exact ⟨ret_b (by rw [hv.out]), hwb.trans (hb2.out.mono hwb.size)⟩
    have hne := tau_ne htx;rw [decide_eq_false htx] at hok
    by_cases h1 : k = 1
    ·have hnext : Hid (∀ j, j < k + 1 → okL ls j = true) := lt_succ_cases ha.out (by rw [hok, h1]; rfl)
     have h1I : ¬ (1 : Int) < (k : Int) := by omega
     replace h1 := hide h1;clear ha hok htx;go_wp2_with (first | (go_at_call 120; (with_reducible refine q.out.mono ?_); rintro e w2 ⟨rfl, hb2⟩; have m2 := (hb2.cell (p := ⟨w.heap.size, 2, none⟩) hgw).trans y2; have m3 := (hb2.cell (p := ⟨w.heap.size, 3, none⟩) hgw).trans y3; have m4 := (hb2.cell (p := ⟨b, off + (k - 1), none⟩) hg).trans p1; replace hb2 := hide hb2));go_roundw
     case rel => exact ⟨k + 1, by omega, by go_num, hnext, hb.trans (hb2.out.mono hgw)⟩
     case measure => simp [intOf]; omega
    ·have h1I : (1 : Int) < (k : Int) := by omega
     cases hsl : (Op.bytesLess s.toList r.toList || s.toList == r.toList) with
     | false =>
      have hnext : Hid (∀ j, j < k + 1 → okL ls j = true) := lt_succ_cases ha.out (by rw [hok, hsl]; simp);have hs1 : Op.bytesLess s.toList r.toList = false := (Bool.or_eq_false_iff.1 hsl).1;have hs2 : (s.toList == r.toList) = false := (Bool.or_eq_false_iff.1 hsl).2;clear ha hok htx hsl h1;go_wp2_with (first | (go_at_call 120; (with_reducible refine q.out.mono ?_); rintro e w2 ⟨rfl, hb2⟩; have m2 := (hb2.cell (p := ⟨w.heap.size, 2, none⟩) hgw).trans y2; have m3 := (hb2.cell (p := ⟨w.heap.size, 3, none⟩) hgw).trans y3; have m4 := (hb2.cell (p := ⟨b, off + (k - 1), none⟩) hg).trans p1; replace hb2 := hide hb2));go_roundw
      case rel => exact ⟨k + 1, by omega, by go_num, hnext, hb.trans (hb2.out.mono hgw)⟩
      case measure => simp [intOf]; omega
     | true =>
      have hv : Hid (ltsV (s0, s1, ls, es) = false) := by show _ = _; rw [hval2.out, allK_bad hlt (by rw [hok, hsl, decide_eq_false (show ¬ k ≤ 1 by omega)]; rfl)]; rfl
      clear ha hok htx h1 t2 t3 hss
      cases hs1 : Op.bytesLess s.toList r.toList with
      | true =>
       clear hsl;go_wp2_with (first | (go_at_call 120; (with_reducible refine q.out.mono ?_); rintro e w2 ⟨rfl, hb2⟩; have m2 := (hb2.cell (p := ⟨w.heap.size, 2, none⟩) hgw).trans y2; have m3 := (hb2.cell (p := ⟨w.heap.size, 3, none⟩) hgw).trans y3; have m4 := (hb2.cell (p := ⟨b, off + (k - 1), none⟩) hg).trans p1; replace hb2 := hide hb2));go_ret;exact ⟨ret_b (by rw [hv.out]), hwb.trans (hb2.out.mono hwb.size)⟩
      | false =>
       have hs2 : (s.toList == r.toList) = true := by rw [hs1] at hsl; exact hsl
       clear hsl;go_wp2_with (first | (go_at_call 120; (with_reducible refine q.out.mono ?_); rintro e w2 ⟨rfl, hb2⟩; have m2 := (hb2.cell (p := ⟨w.heap.size, 2, none⟩) hgw).trans y2; have m3 := (hb2.cell (p := ⟨w.heap.size, 3, none⟩) hgw).trans y3; have m4 := (hb2.cell (p := ⟨b, off + (k - 1), none⟩) hg).trans p1; replace hb2 := hide hb2));go_ret;exact ⟨ret_b (by rw [hv.out]), hwb.trans (hb2.out.mono hwb.size)⟩
   ·have hk00 : k = 0 := by omega
    subst hk00;have hok := okL_zero hx;simp only [Nat.add_zero] at p0;clear hx hlab
    by_cases htx : s = tauB
    ·have hnext : Hid (∀ j, j < 0 + 1 → okL ls j = true) := lt_succ_cases ha.out (by rw [hok, decide_eq_true htx])
     have htt : (s.toList == [116, 97, 117]) = true := by rw [htx, tau_list]; rfl
     clear ha hok htx;go_wp2_with (first | (go_at_call 120; (with_reducible refine q.out.mono ?_); rintro e w2 ⟨rfl, hb2⟩; have m2 := (hb2.cell (p := ⟨w.heap.size, 2, none⟩) hgw).trans y2; have m3 := (hb2.cell (p := ⟨w.heap.size, 3, none⟩) hgw).trans y3; replace hb2 := hide hb2));go_roundw
     case rel => exact ⟨0 + 1, by omega, by go_num, hnext, hb.trans (hb2.out.mono hgw)⟩
     case measure => simp [intOf]; omega
    ·have hv : Hid (ltsV (s0, s1, ls, es) = false) := by show _ = _; rw [hval2.out, allK_bad hlt (by rw [hok, decide_eq_false htx])]; rfl
     have hne := tau_ne htx;clear ha hok htx t2 t3 hss;go_wp2_with (first | (go_at_call 120; (with_reducible refine q.out.mono ?_); rintro e w2 ⟨rfl, hb2⟩; have m2 := (hb2.cell (p := ⟨w.heap.size, 2, none⟩) hgw).trans y2; have m3 := (hb2.cell (p := ⟨w.heap.size, 3, none⟩) hgw).trans y3; replace hb2 := hide hb2));go_ret;exact ⟨ret_b (by rw [hv.out]), hwb.trans (hb2.out.mono hwb.size)⟩
  ·have hkn : n2 = k := by omega
   have hall : allK (okL ls) n2 = true := allK_good (by rw [hkn]; exact ha.out);have hval3 : Hid (ltsV (s0, s1, ls, es) = allK (okEd s0 (n2 : Int) es) n3) := by show _ = _; rw [hval2.out, hall]; rfl
   subst hkn;clear hval2 hall ha t2 hss;go_wp2_with fail
   go_loopw [67] (fun i wr2 => ∃ k2 : Nat, k2 ≤ n3 ∧ i = .int .i64 (k2 : Nat) ∧ Hid (∀ j, j < k2 → okEd s0 (n2 : Int) es j = true) ∧ Below (w.heap.size + 1) W0 wr2) (fun i _ => n3 - (intOf i).toNat)
   case atStart => exact ⟨0, Nat.zero_le _, rfl, fun j hj => absurd hj (by omega), hb⟩
   case round =>
    clear hb hwb y2 y3 hgw;obtain ⟨k, hk, rfl, ha, hb⟩ := hrel;have hwb := hW0.out.trans (hb.mono (Nat.le_succ _));have y0 := (hb.cell (p := ⟨w.heap.size, 0, none⟩) (Nat.lt_succ_self _)).trans c0;have y1 := (hb.cell (p := ⟨w.heap.size, 1, none⟩) (Nat.lt_succ_self _)).trans c1;have y2 := (hb.cell (p := ⟨w.heap.size, 2, none⟩) (Nat.lt_succ_self _)).trans c2;have y3 := (hb.cell (p := ⟨w.heap.size, 3, none⟩) (Nat.lt_succ_self _)).trans c3;have hgt := Nat.lt_of_lt_of_le hbt hb.size
    by_cases hlt : k < n3
    ·obtain ⟨b, off, f, lb, tg, rfl, g1, g2, g3, hx, p0, p1, p2, -, -, -⟩ := SlE.get t3.out hlt
     replace p0 := (hwb.cell g3).trans p0;replace p1 := (hwb.cell (p := ⟨b, off + k * 3 + 1, none⟩) g3).trans p1;replace p2 := (hwb.cell (p := ⟨b, off + k * 3 + 2, none⟩) g3).trans p2;have hg := Nat.lt_of_lt_of_le g3 hwb.size;have hbox : Below wr.heap.size wr (wr.alloc (.cells #[.int .i64 f, .int .i64 lb, .int .i64 tg] 84)) := bR.alloc zR _;have kE := heap_alloc_new wr (.cells #[.int .i64 f, .int .i64 lb, .int .i64 tg] 84);have x0 := (hbox.cell (p := ⟨w.heap.size, 0, none⟩) hgt).trans y0;have x1 := (hbox.cell (p := ⟨w.heap.size, 1, none⟩) hgt).trans y1;have x2 := (hbox.cell (p := ⟨w.heap.size, 2, none⟩) hgt).trans y2;have x3 := (hbox.cell (p := ⟨w.heap.size, 3, none⟩) hgt).trans y3;have z0' : (wr.alloc (.cells #[.int .i64 f, .int .i64 lb, .int .i64 tg] 84)).cell? ⟨wr.heap.size, 0, none⟩ = some (.int .i64 f) := cR 0 kE;have z1' : (wr.alloc (.cells #[.int .i64 f, .int .i64 lb, .int .i64 tg] 84)).cell? ⟨wr.heap.size, 1, none⟩ = some (.int .i64 lb) := cR 1 kE;have z2' : (wr.alloc (.cells #[.int .i64 f, .int .i64 lb, .int .i64 tg] 84)).cell? ⟨wr.heap.size, 2, none⟩ = some (.int .i64 tg) := cR 2 kE;have hprev : 0 < k → ∃ r1 r2 r3, es[k - 1]? = some (r1, r2, r3) ∧ (wr.alloc (.cells #[.int .i64 f, .int .i64 lb, .int .i64 tg] 84)).cell? ⟨b, off + (k - 1) * 3, none⟩ = some (.int .i64 r1) ∧ (wr.alloc (.cells #[.int .i64 f, .int .i64 lb, .int .i64 tg] 84)).cell? ⟨b, off + (k - 1) * 3 + 1, none⟩ = some (.int .i64 r2) ∧ (wr.alloc (.cells #[.int .i64 f, .int .i64 lb, .int .i64 tg] 84)).cell? ⟨b, off + (k - 1) * 3 + 2, none⟩ = some (.int .i64 r3) := fun hk0 => by
      obtain ⟨b', off', r1, r2, r3, eA, -, -, -, hy, u0, u1, u2, -, -, -⟩ := SlE.get t3.out (show k - 1 < n3 by omega)
      cases eA
      exact ⟨r1, r2, r3, hy, (hbox.cell hg).trans ((hwb.cell g3).trans u0), (hbox.cell (p := ⟨b, off + (k - 1) * 3 + 1, none⟩) hg).trans ((hwb.cell (p := ⟨b, off + (k - 1) * 3 + 1, none⟩) g3).trans u1), (hbox.cell (p := ⟨b, off + (k - 1) * 3 + 2, none⟩) hg).trans ((hwb.cell (p := ⟨b, off + (k - 1) * 3 + 2, none⟩) g3).trans u2)⟩
     replace hprev := hide hprev;have hbw := hide (hwb.trans (hbox.mono hwb.size));have hbB := hide (hb.trans (hbox.mono hgt));have hbBs : Hid (w.heap.size + 1 ≤ (wr.alloc (.cells #[.int .i64 f, .int .i64 lb, .int .i64 tg] 84)).heap.size) := by show _ ≤ _; rw [World.size_alloc]; omega
     have hI0 : (0 : Int) ≤ (k : Int) := by omega
     have hI1 : (k : Int) < (n3 : Int) := by omega
     clear t3 hg g1 g2 g3 y0 y1 y2 hwb hb hbox kE hgt;go_wp2_with fail;clear p0 p1 p2 y3;generalize hWE : (wr.alloc (.cells #[.int .i64 f, .int .i64 lb, .int .i64 tg] 84)) = WE at *;generalize hbE : wr.heap.size = bE at *;clear hWE hbE;have r0 : ∀ d os, Calls Tryz.prog 119 #[.agg #[.int .i64 s0, .int .i64 s1, .slice A2 n2 k2, .slice (some ⟨b, off, none⟩) n3 k3], .int .i64 f] (grow (redrawn WE d) os) (fun e w'' => e = .returned (.bool (inB f 0 (s0 - 1))) ∧ ∃ p : Regrown, w'' = grow (redrawn WE p.d) p.os) := fun d os => Calls.regrown_of (isState_calls s0 s1 f _ _ _ hst1 hst2)
     have r1 : ∀ d os, Calls Tryz.prog 119 #[.agg #[.int .i64 s0, .int .i64 s1, .slice A2 n2 k2, .slice (some ⟨b, off, none⟩) n3 k3], .int .i64 tg] (grow (redrawn WE d) os) (fun e w'' => e = .returned (.bool (inB tg 0 (s0 - 1))) ∧ ∃ p : Regrown, w'' = grow (redrawn WE p.d) p.os) := fun d os => Calls.regrown_of (isState_calls s0 s1 tg _ _ _ hst1 hst2)
     have r2 := same_regrown (w := WE) (fun W => index_calls lb n2 hls W);have f0 := fun d os => cell_regrown x0 d os
     have f1 := fun d os => cell_regrown x1 d os
     have f2 := fun d os => cell_regrown x2 d os
     have f3 := fun d os => cell_regrown x3 d os
     have u0 := fun d os => cell_regrown z0' d os
     have u1 := fun d os => cell_regrown z1' d os
     have u2 := fun d os => cell_regrown z2' d os
     cases w0 : inB f 0 (s0 - 1) with
     | false =>
      have hv : Hid (ltsV (s0, s1, ls, es) = false) := by show _ = _; rw [hval3.out]; exact allK_bad hlt (okE_bad hx (by rw [w0]; rfl))
      simp only [w0] at r0;replace r0 := hide r0;clear r1 r2 w0 hx hprev ha;refine wp_region_quiet_below (by kernel_rfl) (by kernel_rfl) ?_
      repeat (go_big_quiet_step (first | (with_reducible exact r0.out _ _)))
      refine wpQuiet_nil ?_;intro _ hw';obtain ⟨⟨dq, osq⟩, hw''⟩ := hw';subst hw'';have hbq := below_regrown WE dq osq;generalize grow (redrawn WE dq) osq = wq at *
      go_wp2
      go_ret;exact ⟨ret_b (by rw [hv.out]), hbw.out.trans (hbq.mono hbw.out.size)⟩
     | true =>
     simp only [w0] at r0;replace r0 := hide r0
     cases w1 : inB tg 0 (s0 - 1) with
     | false =>
      have hv : Hid (ltsV (s0, s1, ls, es) = false) := by show _ = _; rw [hval3.out]; exact allK_bad hlt (okE_bad hx (by rw [w0, w1]; rfl))
      simp only [w1] at r1;replace r1 := hide r1;clear r2 w0 w1 hx hprev ha;refine wp_region_quiet_below (by kernel_rfl) (by kernel_rfl) ?_
      repeat (go_big_quiet_step (first | (with_reducible exact r0.out _ _) | (with_reducible exact r1.out _ _)))
      refine wpQuiet_nil ?_;intro _ hw';obtain ⟨⟨dq, osq⟩, hw''⟩ := hw';subst hw'';have hbq := below_regrown WE dq osq;generalize grow (redrawn WE dq) osq = wq at *
      go_wp2
      go_ret;exact ⟨ret_b (by rw [hv.out]), hbw.out.trans (hbq.mono hbw.out.size)⟩
     | true =>
     simp only [w1] at r1;replace r1 := hide r1
     cases w2 : inB lb 0 ((n2 : Int) - 1) with
     | false =>
      have hv : Hid (ltsV (s0, s1, ls, es) = false) := by show _ = _; rw [hval3.out]; exact allK_bad hlt (okE_bad hx (by rw [w0, w1, w2]; rfl))
      simp only [w2] at r2;replace r2 := hide r2;clear w0 w1 w2 hx hprev ha;refine wp_region_quiet_below (by kernel_rfl) (by kernel_rfl) ?_
      repeat (go_big_quiet_step (first | (with_reducible exact r0.out _ _) | (with_reducible exact r1.out _ _) | (with_reducible exact r2.out _ _)))
      refine wpQuiet_nil ?_;intro _ hw';obtain ⟨⟨dq, osq⟩, hw''⟩ := hw';subst hw'';have hbq := below_regrown WE dq osq;generalize grow (redrawn WE dq) osq = wq at *
      go_wp2
      go_ret;exact ⟨ret_b (by rw [hv.out]), hbw.out.trans (hbq.mono hbw.out.size)⟩
     | true =>
     simp only [w2] at r2;replace r2 := hide r2
     by_cases hk0 : 0 < k
     ·obtain ⟨q1, q2, q3, hy, v0, v1, v2⟩ := hprev.out hk0
      have hok := okE_at (st := s0) (m := (n2 : Int)) hx hk0 hy;rw [w0, w1, w2] at hok;have hlI : (0 : Int) < (k : Int) := by omega
      have hlJ : decide ((0 : Int) < (k : Int)) = true := decide_eq_true hlI;have hI4 : (1 : Int) ≤ (k : Int) := by omega
      have hI3 : (k : Int) - 1 < (n3 : Int) := by omega
      have hI5 : ((k : Int) - 1).toNat = k - 1 := by omega
      have g0 := fun d os => cell_regrown v0 d os
      have g1 := fun d os => cell_regrown v1 d os
      have g2 := fun d os => cell_regrown v2 d os
      have r3 : ∀ d os, Calls Tryz.prog 122 #[.agg #[.int .i64 q1, .int .i64 q2, .int .i64 q3], .agg #[.int .i64 f, .int .i64 lb, .int .i64 tg]] (grow (redrawn WE d) os) (fun e w'' => e = .returned (.int .i64 (cmpE (q1, q2, q3) (f, lb, tg))) ∧ ∃ p : Regrown, w'' = grow (redrawn WE p.d) p.os) := fun d os => Calls.regrown_of (compareEdges_calls q1 q2 q3 f lb tg _)
      have hce := cmpE_less (q1, q2, q3) (f, lb, tg);generalize cmpE (q1, q2, q3) (f, lb, tg) = ce at *;replace r3 := hide r3
      cases hls' : edLess (q1, q2, q3) (f, lb, tg) with
      | true =>
       rw [hls'] at hce;replace hce : decide (0 ≤ ce) = false := hce;have hce2 : ¬ (0 : Int) ≤ ce := of_decide_eq_false hce;have hnext : Hid (∀ j, j < k + 1 → okEd s0 (n2 : Int) es j = true) := lt_succ_cases ha.out (by rw [hok, hls']; rfl);clear w0 w1 w2 hx hprev ha hok hy hls';refine wp_region_quiet_below (by kernel_rfl) (by kernel_rfl) ?_
       repeat (go_big_quiet_step (first | (with_reducible exact r0.out _ _) | (with_reducible exact r1.out _ _) | (with_reducible exact r2.out _ _) | (with_reducible exact r3.out _ _)))
       refine wpQuiet_nil ?_;intro _ hw';obtain ⟨⟨dq, osq⟩, hw''⟩ := hw';subst hw'';have hbq := below_regrown WE dq osq;generalize grow (redrawn WE dq) osq = wq at *
       go_wp2
       go_roundw
       case rel => exact ⟨k + 1, by omega, by go_num, hnext, hbB.out.trans (hbq.mono hbBs.out)⟩
       case measure => simp [intOf]; omega
      | false =>
       rw [hls'] at hce;replace hce : decide (0 ≤ ce) = true := hce;have hce2 : (0 : Int) ≤ ce := of_decide_eq_true hce;have hv : Hid (ltsV (s0, s1, ls, es) = false) := by show _ = _; rw [hval3.out]; exact allK_bad hlt (by rw [hok, hls']; rfl)
       clear w0 w1 w2 hx hprev ha hok hy hls';refine wp_region_quiet_below (by kernel_rfl) (by kernel_rfl) ?_
       repeat (go_big_quiet_step (first | (with_reducible exact r0.out _ _) | (with_reducible exact r1.out _ _) | (with_reducible exact r2.out _ _) | (with_reducible exact r3.out _ _)))
       refine wpQuiet_nil ?_;intro _ hw';obtain ⟨⟨dq, osq⟩, hw''⟩ := hw';subst hw'';have hbq := below_regrown WE dq osq;generalize grow (redrawn WE dq) osq = wq at *
       go_wp2
       go_ret;exact ⟨ret_b (by rw [hv.out]), hbw.out.trans (hbq.mono hbw.out.size)⟩
     ·have hk00 : k = 0 := by omega
      subst hk00;have hok := okE_zero (st := s0) (m := (n2 : Int)) hx;rw [w0, w1, w2] at hok;have hnext : Hid (∀ j, j < 0 + 1 → okEd s0 (n2 : Int) es j = true) := lt_succ_cases ha.out (by rw [hok]; rfl);clear w0 w1 w2 hx hprev ha hok;refine wp_region_quiet_below (by kernel_rfl) (by kernel_rfl) ?_
      repeat (go_big_quiet_step (first | (with_reducible exact r0.out _ _) | (with_reducible exact r1.out _ _) | (with_reducible exact r2.out _ _)))
      refine wpQuiet_nil ?_;intro _ hw';obtain ⟨⟨dq, osq⟩, hw''⟩ := hw';subst hw'';have hbq := below_regrown WE dq osq;generalize grow (redrawn WE dq) osq = wq at *
      go_wp2
      go_roundw
      case rel => exact ⟨0 + 1, by omega, by go_num, hnext, hbB.out.trans (hbq.mono hbBs.out)⟩
      case measure => simp [intOf]; omega
    ·have hkn : k = n3 := by omega
     subst hkn;have hv : Hid (ltsV (s0, s1, ls, es) = true) := by show _ = _; rw [hval3.out]; exact allK_good ha.out
     go_wp2_with fail;go_ret
     exact ⟨ret_b (by rw [hv.out]), hwb⟩
end Go.Proofs.YtnhomkmfbngmgaaGreatDoor
