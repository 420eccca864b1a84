/-
  Lemmas that the law of this claim leans on. Conditions: sizes.
-/
import Derived.Test.YtnhomkmfbngmgaaGreatDoorBaseF
import Derived.Test.YtnhomkmfbngmgaaGreatDoorBaseJ
set_option maxHeartbeats 6400000
set_option maxRecDepth 100000
set_option linter.unusedSimpArgs false
set_option linter.unusedVariables false
namespace Go.Proofs.YtnhomkmfbngmgaaGreatDoor
open Go.ChangeShapes Go.WideShapes Go.ChangeAt Go.RowKit Go.Sort Go.Lib
structure AlcW (wb w : World) (J : List ByteArray) (g : Option Nat) (q : Option (Option Addr × Nat × Nat)) : Prop where
 below : Below wb.heap.size wb w
 box : ∀ b, g = some b → wb.heap.size ≤ b ∧ LtsBox w b 0 0 none 0 0 none 0 0
 lab : ∀ h, q = some h → Own 1 strv w wb.heap.size 9 h.1 h.2.1 h.2.2 J ∧ ∀ b, g = some b → some b ≠ (Value.slice h.1 h.2.1 h.2.2).ownBlock
section
variable {wb w w' : World} {J : List ByteArray} {g : Option Nat} {q : Option (Option Addr × Nat × Nat)}
theorem AlcW.start (wb : World) (J : List ByteArray) : AlcW wb wb J none none := ⟨bR, fun b e => (by cases e), fun h e => (by cases e)⟩
theorem AlcW.drew (h : AlcW wb w J g q) : AlcW wb w.drew J g q := ⟨h.below.drew, h.box, fun k e => ⟨(h.lab k e).1.keep fun _ _ => rfl, (h.lab k e).2⟩⟩
theorem AlcW.alloc (h : AlcW wb w J none q) : AlcW wb (w.alloc (.cells #[.int .i64 0, .int .i64 0, .slice none 0 0, .slice none 0 0] 27)) J (some w.heap.size) q where
 below := h.below.alloc h.below.size _
 box := fun b e => by
  cases e
  exact ⟨h.below.size, heap_alloc_new w _⟩
 lab := fun k e => ⟨(h.lab k e).1.alloc _, fun b e2 e3 => by
  cases e2;have := ((h.lab k e).1.lt _ e3.symm).2
  omega⟩
theorem AlcW.clone (h : AlcW wb w J g none) {A : Option Addr} {n c : Nat} (hb : Below w.heap.size w w') (ho : Own 1 strv w' w.heap.size 9 A n c J) : AlcW wb w' J g (some (A, n, c)) where
 below := h.below.trans (hb.mono h.below.size)
 box := fun b e => ⟨(h.box b e).1, (h.box b e).2.below hb (h.box b e).2.lt⟩
 lab := fun k e => by
  cases e
  refine ⟨ho.sink h.below.size, fun b e2 e3 => ?_⟩;have h1 := (h.box b e2).2.lt;have h2 := (ho.lt _ e3.symm).1;omega
theorem AlcW.keep (h : AlcW wb w J g q) (hb : Below w.heap.size w w') : AlcW wb w' J g q where
 below := h.below.trans (hb.mono h.below.size)
 box := fun b e => ⟨(h.box b e).1, (h.box b e).2.below hb (h.box b e).2.lt⟩
 lab := fun k e => ⟨(h.lab k e).1.below hb zR, (h.lab k e).2⟩
end
structure LtmP (w wr : World) (g9 e0 : Nat) (s i : Int) (A1 : Option Addr) (n2 c1 : Nat) (J : List ByteArray) (A3 : Option Addr) (k c3 : Nat) (E : List Ed) : Prop where
 box : LtsBox wr g9 s i A1 n2 c1 A3 k c3
 res : LtsBox wr w.heap.size 0 0 none 0 0 none 0 0
 labs : Own 1 strv wr (w.heap.size + 1) 9 A1 n2 c1 J
 eds : Own 3 ev wr e0 84 A3 k c3 E
 bel : Below w.heap.size w wr
 base : w.heap.size < g9 ∧ g9 < e0
 lt : ∀ q, (Value.slice A1 n2 c1).ownBlock = some q → q ≠ g9 ∧ q < e0
 top : e0 ≤ wr.heap.size
section
variable {w wr w' : World} {g9 e0 : Nat} {s i : Int} {A1 : Option Addr} {n2 c1 : Nat} {J : List ByteArray} {A3 : Option Addr} {k c3 : Nat} {E : List Ed}
theorem LtmP.below (h : LtmP w wr g9 e0 s i A1 n2 c1 J A3 k c3 E) (hb : Below wr.heap.size wr w') : LtmP w w' g9 e0 s i A1 n2 c1 J A3 k c3 E where
 box := h.box.below hb h.box.lt
 res := h.res.below hb h.res.lt
 labs := h.labs.below hb zR
 eds := h.eds.below hb zR
 bel := h.bel.trans (hb.mono h.bel.size)
 base := h.base
 lt := h.lt
 top := Nat.le_trans h.top hb.size
theorem LtmP.same (h : LtmP w wr g9 e0 s i A1 n2 c1 J A3 k c3 E) {E' : List Ed} (hg : wr.grownBy w' (Value.slice A3 k c3).ownBlock) (ho : Own 3 ev w' e0 84 A3 k c3 E') : LtmP w w' g9 e0 s i A1 n2 c1 J A3 k c3 E' := by
 have hb0 := h.base;have ha : ∀ q, q < e0 → some q ≠ (Value.slice A3 k c3).ownBlock := fun q hq e => by
  have := (h.eds.lt q e.symm).1;omega
 exact ⟨h.box.grown hg (ha _ (by omega)), h.res.grown hg (ha _ (by omega)), h.labs.keep fun q hq => hg.block q (h.labs.lt q hq).2 (ha q (h.lt q hq).2), ho, h.bel.grown hg h.bel.size fun q e => by have := (h.eds.lt q e).1; omega, hb0, h.lt, Nat.le_trans h.top hg.size⟩
theorem LtmP.grown (h : LtmP w wr g9 e0 s i A1 n2 c1 J A3 k c3 E) {A7 : Option Addr} {k7 c7 : Nat} {E' : List Ed} (hg : wr.grownBy w' (Value.slice A3 k c3).ownBlock) (ho : Own 3 ev w' e0 84 A7 k7 c7 E') : LtsBox w' g9 s i A1 n2 c1 A3 k c3 ∧ LtmP w (w'.setCell ⟨g9, 3, none⟩ (.slice A7 k7 c7)) g9 e0 s i A1 n2 c1 J A7 k7 c7 E' := by
 have hb0 := h.base;have ha : ∀ q, q < e0 → some q ≠ (Value.slice A3 k c3).ownBlock := fun q hq e => by
  have := (h.eds.lt q e.symm).1;omega
 have hbx := h.box.grown hg (ha _ (by omega));have hrs := h.res.grown hg (ha _ (by omega));have hO : Only g9 (g9 + 1) w' (w'.setCell ⟨g9, 3, none⟩ (.slice A7 k7 c7)) := (Only.refl g9 (g9 + 1) w').setCell (p := ⟨g9, 3, none⟩) zR (Nat.lt_succ_self _) _;have hbel : Below w.heap.size w w' := h.bel.grown hg h.bel.size fun q e => by have := (h.eds.lt q e).1; omega
 refine ⟨hbx, hbx.set3, hrs.only hO (.inl (by omega)), ?_, ?_, Only.below hbel hO (by omega) hbel.size, hb0, h.lt, by rw [World.size_setCell]; exact Nat.le_trans h.top hg.size⟩
 ·have hl : Own 1 strv w' (w.heap.size + 1) 9 A1 n2 c1 J := h.labs.keep fun q hq => hg.block q (h.labs.lt q hq).2 (ha q (h.lt q hq).2)
  exact hl.asideL (fun e => (h.lt _ e.symm).1 rfl) _
 ·exact ho.asideL (fun e => by have := (ho.lt _ e.symm).1; omega) _
theorem LtmP.done (h : LtmP w wr g9 e0 s i A1 n2 c1 J A3 k c3 E) {wf : World} (a b c d : Value)
  (hw : wf = (((wr.setCell ⟨w.heap.size, 0, none⟩ a).setCell ⟨w.heap.size, 1, none⟩ b).setCell ⟨w.heap.size, 2, none⟩ c).setCell ⟨w.heap.size, 3, none⟩ d) :
  SlS wf w.heap.size wf.heap.size A1 n2 J ∧ Own 3 ev wf w.heap.size 84 A3 k c3 E ∧ Below w.heap.size w wf := by
 have hb0 := h.base;have n1 : some w.heap.size ≠ (Value.slice A1 n2 c1).ownBlock := fun e => by have := (h.labs.lt _ e.symm).1; omega
 have n3 : some w.heap.size ≠ (Value.slice A3 k c3).ownBlock := fun e => by have := (h.eds.lt _ e.symm).1; omega
 have o1 := (Only.refl w.heap.size (w.heap.size + 1) wr).setCell (p := ⟨w.heap.size, 0, none⟩) zR (Nat.lt_succ_self _) a;have o2 := o1.setCell (p := ⟨w.heap.size, 1, none⟩) zR (Nat.lt_succ_self _) b;have o3 := o2.setCell (p := ⟨w.heap.size, 2, none⟩) zR (Nat.lt_succ_self _) c;have o4 := o3.setCell (p := ⟨w.heap.size, 3, none⟩) zR (Nat.lt_succ_self _) d;rw [hw];refine ⟨?_, ?_, Only.below h.bel o4 zR h.bel.size⟩
 ·exact (((((h.labs.asideL n1 _).asideL n1 _).asideL n1 _).asideL n1 _).sl flat_strv).more (by omega) zR
 ·exact (((((h.eds.asideL n3 _).asideL n3 _).asideL n3 _).asideL n3 _)).sink (by omega)
theorem LtmP.doneL (h : LtmP w wr g9 e0 s i A1 n2 c1 J A3 k c3 E) {wf : World} (a b c d : Value)
  (hw : wf = (((wr.setCell ⟨w.heap.size, 0, none⟩ a).setCell ⟨w.heap.size, 1, none⟩ b).setCell ⟨w.heap.size, 2, none⟩ c).setCell ⟨w.heap.size, 3, none⟩ d) :
  Own 1 strv wf w.heap.size 9 A1 n2 c1 J := by
 have n1 : some w.heap.size ≠ (Value.slice A1 n2 c1).ownBlock := fun e => by have := (h.labs.lt _ e.symm).1; omega
 rw [hw];exact ((((h.labs.asideL n1 _).asideL n1 _).asideL n1 _).asideL n1 _).sink (by omega)
theorem AlcW.fill {wb w1 : World} {A : Option Addr} {n c g : Nat} (h : AlcW wb w1 J (some g) (some (A, n, c))) (hr : LtsBox wb w.heap.size 0 0 none 0 0 none 0 0) (hw : w.heap.size + 1 ≤ wb.heap.size) (hbel : Below w.heap.size w wb) (s i : Int) {e0 : Nat} (he0 : e0 = w1.heap.size) :
  LtmP w ((((w1.setCell ⟨g, 0, none⟩ (.int .i64 s)).setCell ⟨g, 1, none⟩ (.int .i64 i)).setCell ⟨g, 2, none⟩ (.slice A n c)).setCell ⟨g, 3, none⟩ (.slice none 0 0)) g e0 s i A n c J none 0 0 [] := by
 obtain ⟨hg, hx⟩ := h.box g rfl;obtain ⟨hl, hne⟩ := h.lab _ rfl;have hne := hne g rfl;have hgl := hx.lt;have x0 : (w1.setCell ⟨g, 0, none⟩ (.int .i64 s)).heap[g]? = _ := heap_setCell_same w1 g 0 _ _ _ hx;have x1 := heap_setCell_same _ g 1 _ _ (.int .i64 i) x0;have x2 := heap_setCell_same _ g 2 _ _ (.slice A n c) x1;have x3 := heap_setCell_same _ g 3 _ _ (.slice none 0 0) x2;have o1 := (Only.refl g (g + 1) w1).setCell (p := ⟨g, 0, none⟩) zR (Nat.lt_succ_self _) (.int .i64 s);have o2 := o1.setCell (p := ⟨g, 1, none⟩) zR (Nat.lt_succ_self _) (.int .i64 i);have o3 := o2.setCell (p := ⟨g, 2, none⟩) zR (Nat.lt_succ_self _) (.slice A n c);have o4 := o3.setCell (p := ⟨g, 3, none⟩) zR (Nat.lt_succ_self _) (.slice none 0 0);have hbw : Below w.heap.size w w1 := hbel.trans (h.below.mono (by omega));exact ⟨x3, (hr.below h.below (by omega)).only o4 (.inl (by omega)), ((((hl.asideL hne _).asideL hne _).asideL hne _).asideL hne _).sink (by omega), Own.nil_ _ _ _, Only.below hbw o4 (by omega) hbw.size, ⟨by omega, by omega⟩, fun q hq => ⟨fun e => hne (by rw [← e]; exact hq.symm), by have := (hl.lt q hq).2; omega⟩, by simp [he0]⟩
end
def posZ (l : List Int) (v : Int) : Int := if v ∈ l then ((l.idxOf v : Nat) : Int) else -1
theorem FstI.pos {l : List Int} {v i : Int} (hn : l.Nodup) (h : FstI l v i) : i = posZ l v := by
 unfold posZ
 rcases h with ⟨rfl, h1⟩ | ⟨k, rfl, hk, hx⟩
 ·rw [if_neg h1]
 ·have hm := List.mem_of_getElem? hx
  rw [if_pos hm];have h2 : l.idxOf v < l.length := List.idxOf_lt_length_iff.2 hm;have h3 : l[l.idxOf v] = v := List.getElem_idxOf h2;have h4 : l[k] = v := by
   rw [List.getElem?_eq_getElem hk] at hx;exact Option.some.inj hx
  have := (List.getElem_inj hn).1 (h4.trans h3.symm);omega
theorem posZ_at {l : List Int} (hn : l.Nodup) {v : Int} {k : Nat} : posZ l v = (k : Int) ↔ l[k]? = some v := by
 unfold posZ
 constructor
 ·intro h
  by_cases hm : v ∈ l
  ·rw [if_pos hm] at h
   have h2 : l.idxOf v < l.length := List.idxOf_lt_length_iff.2 hm;have h3 : l[l.idxOf v] = v := List.getElem_idxOf h2;have : l.idxOf v = k := by omega
   subst this;rw [List.getElem?_eq_getElem h2, h3]
  ·rw [if_neg hm] at h
   omega
 ·intro hx
  have hm := List.mem_of_getElem? hx;rw [if_pos hm];have h2 : l.idxOf v < l.length := List.idxOf_lt_length_iff.2 hm;have h3 : l[l.idxOf v] = v := List.getElem_idxOf h2;obtain ⟨hk, h4⟩ := List.getElem?_eq_some_iff.1 hx;have := (List.getElem_inj hn).1 (h4.trans h3.symm);omega
def partO (S : List Int) (e : Ed) : Option Ed := if 0 ≤ posZ S e.1 ∧ 0 ≤ posZ S e.2.2 then some (posZ S e.1, e.2.1, posZ S e.2.2) else none
def partF (S : List Int) (es : List Ed) : List Ed := sortE (es.filterMap (partO S))
theorem part1_calls (v : Int) (b : Nat) (P : Option Addr) (q cP : Nat) (S : List Int) (W : World) (lo hi : Nat) (hb : W.cell? ⟨b, 0, none⟩ = some (.slice P q cP)) (h : SlI W lo hi P q S) (hq : q ≤ 1000) (hn : S.Nodup) :
  Calls Tryz.prog 129 (#[.int .i64 v] ++ #[.pointer (some ⟨b, 0, none⟩)]) W fun e w' => e = .returned (.int .i64 (posZ S v)) ∧ w' = W := by
 have hq1 := hide (indexX_calls v P q cP S W lo hi h (by omega));clear h;go_enter Tryz.func129, Tryz.ntmps129;go_wp2_with fail;refine hq1.out.mono ?_;rintro e w2 ⟨i, rfl, hi, rfl⟩;have hp := hide (hi.pos hn);clear hi hq1;go_wp2_with fail;go_ret;exact ⟨ret_i hp.out.symm, rfl⟩
theorem part_calls {w : World} {N ini : Nat} {A : Option Addr} {n : Nat} {B : Option Addr} {m : Nat} {ls : List ByteArray} {es : List Ed} (h : SysA w N ini A n B m ls es) (c d : Nat) (P : Option Addr) (q cP lo hi : Nat) (S : List Int) (hP : SlI w lo hi P q S) (hhi : hi ≤ w.heap.size) (hq : q ≤ 1000) (hn : S.Nodup) :
  Calls Tryz.prog 59 #[.agg #[.int .i64 (N : Int), .int .i64 (ini : Int), .slice A n c, .slice B m d], .slice P q cP] w fun e w' => ∃ A2 c2 A3 n3 c3, e = .returned (.agg #[.int .i64 (q : Int), .int .i64 (posZ S (ini : Int)), .slice A2 n c2, .slice A3 n3 c3]) ∧ SlS w' w.heap.size w'.heap.size A2 n ls ∧ SlE w' w.heap.size w'.heap.size A3 n3 (partF S es) ∧ Below w.heap.size w w' := by
 have hEe := hide elem_edge;obtain ⟨hm, hn12, hn1, hle, hll⟩ := h.many;obtain ⟨wB, hwB⟩ : ∃ wB, wB = (w.alloc (ltsC N ini A n c B m d)).alloc (.cells #[.slice P q cP] 32) := ⟨_, rfl⟩;have za : (w.alloc (ltsC N ini A n c B m d)).heap.size = w.heap.size + 1 := World.size_alloc _ _;have zB : wB.heap.size = w.heap.size + 1 + 1 := by rw [hwB, World.size_alloc, za]
 have bB : Below w.heap.size w wB := by rw [hwB]; exact ((Below.refl w.heap.size w).alloc zR _).alloc (by omega) _
 have xB : LtsBox wB w.heap.size (N : Int) (ini : Int) A n c B m d := by
  rw [hwB];have x1 : LtsBox (w.alloc (ltsC N ini A n c B m d)) w.heap.size (N : Int) (ini : Int) A n c B m d := heap_alloc_new w _;exact x1.below (K := w.heap.size + 1) (bR.alloc (by omega) _) (by omega)
 have sB : wB.heap[w.heap.size + 1]? = some (.cells #[.slice P q cP] 32 (0, 0)) := by rw [hwB, ← za]; exact heap_alloc_new _ _
 have sC : wB.cell? ⟨w.heap.size + 1, 0, none⟩ = some (.slice P q cP) := cR 0 sB;obtain ⟨w1, hw1⟩ : ∃ w1, w1 = wB.alloc (.cells #[.int .i64 0, .int .i64 0, .slice none 0 0, .slice none 0 0] 27) := ⟨_, rfl⟩;have hbel1 : Hid (Below wB.heap.size wB w1) := by show Below _ _ _; rw [hw1]; exact bR.alloc zR _
 have hr1 : Hid (LtsBox w1 wB.heap.size 0 0 none 0 0 none 0 0) := by show LtsBox _ _ _ _ _ _ _ _ _ _; rw [hw1]; exact heap_alloc_new wB _
 have hz1 : Hid (wB.heap.size + 1 ≤ w1.heap.size) := hr1.out.lt;have hAll : ∀ wx, Below wB.heap.size wB wx → SysA wx N ini A n B m ls es ∧ LtsBox wx w.heap.size (N : Int) (ini : Int) A n c B m d ∧ wx.cell? ⟨w.heap.size + 1, 0, none⟩ = some (.slice P q cP) ∧ SlI wx lo hi P q S := fun wx hx =>
  ⟨h.below (bB.trans (hx.mono bB.size)) zR, xB.below hx (by omega), (hx.cell (p := ⟨w.heap.size + 1, 0, none⟩) (by show w.heap.size + 1 < _; omega)).trans sC, hP.below (bB.trans (hx.mono bB.size)) (.inl hhi)⟩
 have hSS : Hid (∀ wx, Below w1.heap.size w1 wx → wx.cell? ⟨w.heap.size, 1, none⟩ = some (.int .i64 (ini : Int)) ∧ wx.cell? ⟨w.heap.size, 2, none⟩ = some (.slice A n c) ∧ wx.cell? ⟨w.heap.size + 1, 0, none⟩ = some (.slice P q cP)) := fun wx hx => by
  obtain ⟨-, y, z, -⟩ := hAll wx (hbel1.out.trans (hx.mono hbel1.out.size));exact ⟨y.c1, y.c2, z⟩
 have hPos : Hid (∀ wx, Below w1.heap.size w1 wx → Calls Tryz.prog 129 #[.int .i64 (ini : Int), .pointer (some ⟨w.heap.size + 1, 0, none⟩)] wx fun e w' => e = .returned (.int .i64 (posZ S (ini : Int))) ∧ w' = wx) := fun wx hx => by
  obtain ⟨-, -, z, y⟩ := hAll wx (hbel1.out.trans (hx.mono hbel1.out.size));exact part1_calls _ _ _ _ _ _ _ _ _ z y hq hn
 have hCl : Hid (∀ wx, Below w1.heap.size w1 wx → Calls Tryz.prog 131 #[.slice A n c] wx fun e w' => ∃ A' c', e = .returned (.slice A' n c') ∧ Own 1 strv w' wx.heap.size 9 A' n c' ls ∧ Below wx.heap.size wx w') := fun wx hx => by
  obtain ⟨y, -, -, -⟩ := hAll wx (hbel1.out.trans (hx.mono hbel1.out.size));exact cloneS_calls _ _ _ _ _ _ _ y.ss (by omega)
 replace hAll := hide hAll;replace zB := hide zB;replace za := hide za;have hbBh := hide bB;clear bB xB sB sC h hP;go_enter Tryz.func59, Tryz.ntmps59;go_upto_region 1 with fail;rw [show (((w.alloc (.cells #[.int .i64 (N : Int), .int .i64 (ini : Int), .slice A n c, .slice B m d] 27)).alloc (.cells #[.slice P q cP] 32)).alloc (.cells #[.int .i64 0, .int .i64 0, .slice none 0 0, .slice none 0 0] 27)) = w1 from by rw [hw1, hwB]];replace hw1 := hide hw1;replace hwB := hide hwB;go_upto_region 2 with fail
 go_cut [6] (fun v6 wx => ∃ g9 e0 A1 c1, v6 = .pointer (some ⟨g9, 0, none⟩) ∧ Hid (LtmP wB wx g9 e0 (q : Int) (posZ S (ini : Int)) A1 n c1 ls none 0 0 []))
 case first =>
  refine lateT_begin (S := fun w' => w'.cell? ⟨w.heap.size, 1, none⟩ = some (.int .i64 (ini : Int)) ∧ w'.cell? ⟨w.heap.size, 2, none⟩ = some (.slice A n c) ∧ w'.cell? ⟨w.heap.size + 1, 0, none⟩ = some (.slice P q cP)) (st := 11) (by kernel_rfl) ?_;have hD := (AlcW.start w1 ls).drew;generalize w1.drew = wA at *;have hS0 := hSS.out _ hD.below;refine tkA _ 0 [11] rfl (Or.inl ⟨by rfl, by intro w9 hSw; obtain ⟨s0, s1, s2⟩ := hSw; go_simp <;> with_reducible rfl⟩) hS0 ?_;refine tkA _ 2 [11] rfl (Or.inl ⟨by rfl, by intro w9 hSw; obtain ⟨s0, s1, s2⟩ := hSw; go_simp <;> with_reducible rfl⟩) hS0 ?_;refine tkA _ 3 [11] rfl (Or.inl ⟨by rfl, by intro w9 hSw; obtain ⟨s0, s1, s2⟩ := hSw; go_simp <;> with_reducible rfl⟩) hS0 ?_;refine tkA _ 4 [11] rfl (Or.inl ⟨by rfl, by intro w9 hSw; obtain ⟨s0, s1, s2⟩ := hSw; go_simp <;> with_reducible rfl⟩) hS0 ?_;refine tkA _ 6 [11] rfl (Or.inl ⟨by rfl, by intro w9 hSw; obtain ⟨s0, s1, s2⟩ := hSw; go_simp <;> with_reducible rfl⟩) hS0 ?_;refine tkA _ 7 [11] rfl (Or.inl ⟨by rfl, by intro w9 hSw; obtain ⟨s0, s1, s2⟩ := hSw; go_simp <;> with_reducible rfl⟩) hS0 ?_;refine tkA _ 1 [11] rfl (Or.inl ⟨by rfl, by intro w9 hSw; obtain ⟨s0, s1, s2⟩ := hSw; go_simp <;> with_reducible rfl⟩) hS0 ?_;refine lateT_two (i := 5) (j := 10) (by kernel_rfl) rfl rfl (fun K hK => ?_) (fun K hK => ?_)
  ·go_simp
   go_at_call 129; (with_reducible refine (hPos.out _ hD.below).mono ?_); rintro e w6 ⟨rfl, e6⟩; rw [e6]; clear e6 w6
   (try go_wp2_with fail)
   refine kP hK (fun _ => hSS.out _ hD.below) ?_;clear hK K;refine lateT_two (i := 8) (j := 10) (by kernel_rfl) rfl rfl (fun K hK => ?_) (fun K hK => ?_)
   ·go_simp
    go_at_call 131; (with_reducible refine (hCl.out _ hD.below).mono ?_); rintro e wA ⟨A1, c1, rfl, hO6, hb6⟩;replace hD := hD.clone hb6 hO6;clear hO6 hb6
    (try go_wp2_with fail)
    refine kP hK (fun _ => hSS.out _ hD.below) ?_;clear hK K;refine lateT_two (i := 9) (j := 10) (by kernel_rfl) rfl rfl (fun K hK => ?_) (fun K hK => ?_)
    ·go_simp
     refine kP hK (fun _ => hSS.out _ hD.below) ?_;clear hK K;refine lS 10 fun K hK => ?_
     go_simp;replace hD := hD.alloc
     refine kP hK (fun _ => hSS.out _ hD.below) ?_;clear hK K;generalize wA.alloc (.cells #[.int .i64 0, .int .i64 0, .slice none 0 0, .slice none 0 0] 27) = wA at *;refine lS 11 fun K hK => ?_
     have hbx := (hD.box _ rfl).2;have z0 := hbx.c0;have z1 := hbx.c1;have z2 := hbx.c2;have z3 := hbx.c3;have f0 := hbx.f0;have f1 := hbx.f1;have f2 := hbx.f2;have f3 := hbx.f3;go_simp;refine kP hK nH ?_;clear hK K;refine lateT_done (by kernel_rfl) ?_ _;have hM := hD.fill hr1.out hz1.out hbel1.out (q : Int) (posZ S (ini : Int)) rfl;go_wp2_with fail;go_meet;exact ⟨_, _, _, _, rfl, hide hM⟩
    ·go_simp
     replace hD := hD.alloc;refine kP hK (fun _ => hSS.out _ hD.below) ?_;clear hK K;generalize wA.alloc (.cells #[.int .i64 0, .int .i64 0, .slice none 0 0, .slice none 0 0] 27) = wA at *;refine lS 9 fun K hK => ?_
     go_simp;refine kP hK (fun _ => hSS.out _ hD.below) ?_
     clear hK K;refine lS 11 fun K hK => ?_
     have hbx := (hD.box _ rfl).2;have z0 := hbx.c0;have z1 := hbx.c1;have z2 := hbx.c2;have z3 := hbx.c3;have f0 := hbx.f0;have f1 := hbx.f1;have f2 := hbx.f2;have f3 := hbx.f3;go_simp;refine kP hK nH ?_;clear hK K;refine lateT_done (by kernel_rfl) ?_ _;have hM := hD.fill hr1.out hz1.out hbel1.out (q : Int) (posZ S (ini : Int)) rfl;go_wp2_with fail;go_meet;exact ⟨_, _, _, _, rfl, hide hM⟩
   ·go_simp
    replace hD := hD.alloc;refine kP hK (fun _ => hSS.out _ hD.below) ?_;clear hK K;generalize wA.alloc (.cells #[.int .i64 0, .int .i64 0, .slice none 0 0, .slice none 0 0] 27) = wA at *;refine lS 8 fun K hK => ?_
    go_simp;go_at_call 131; (with_reducible refine (hCl.out _ hD.below).mono ?_); rintro e wA ⟨A1, c1, rfl, hO6, hb6⟩
    replace hD := hD.clone hb6 hO6;clear hO6 hb6
    (try go_wp2_with fail)
    refine kP hK (fun _ => hSS.out _ hD.below) ?_;clear hK K;refine lS 9 fun K hK => ?_
    go_simp;refine kP hK (fun _ => hSS.out _ hD.below) ?_
    clear hK K;refine lS 11 fun K hK => ?_
    have hbx := (hD.box _ rfl).2;have z0 := hbx.c0;have z1 := hbx.c1;have z2 := hbx.c2;have z3 := hbx.c3;have f0 := hbx.f0;have f1 := hbx.f1;have f2 := hbx.f2;have f3 := hbx.f3;go_simp;refine kP hK nH ?_;clear hK K;refine lateT_done (by kernel_rfl) ?_ _;have hM := hD.fill hr1.out hz1.out hbel1.out (q : Int) (posZ S (ini : Int)) rfl;go_wp2_with fail;go_meet;exact ⟨_, _, _, _, rfl, hide hM⟩
  ·go_simp
   replace hD := hD.alloc;refine kP hK (fun _ => hSS.out _ hD.below) ?_;clear hK K;generalize wA.alloc (.cells #[.int .i64 0, .int .i64 0, .slice none 0 0, .slice none 0 0] 27) = wA at *;refine lS 5 fun K hK => ?_
   go_simp;go_at_call 129; (with_reducible refine (hPos.out _ hD.below).mono ?_); rintro e w6 ⟨rfl, e6⟩; rw [e6]; clear e6 w6
   (try go_wp2_with fail)
   refine kP hK (fun _ => hSS.out _ hD.below) ?_;clear hK K;refine lS 8 fun K hK => ?_
   go_simp;go_at_call 131; (with_reducible refine (hCl.out _ hD.below).mono ?_); rintro e wA ⟨A1, c1, rfl, hO6, hb6⟩
   replace hD := hD.clone hb6 hO6;clear hO6 hb6
   (try go_wp2_with fail)
   refine kP hK (fun _ => hSS.out _ hD.below) ?_;clear hK K;refine lS 9 fun K hK => ?_
   go_simp;refine kP hK (fun _ => hSS.out _ hD.below) ?_
   clear hK K;refine lS 11 fun K hK => ?_
   have hbx := (hD.box _ rfl).2;have z0 := hbx.c0;have z1 := hbx.c1;have z2 := hbx.c2;have z3 := hbx.c3;have f0 := hbx.f0;have f1 := hbx.f1;have f2 := hbx.f2;have f3 := hbx.f3;go_simp;refine kP hK nH ?_;clear hK K;refine lateT_done (by kernel_rfl) ?_ _;have hM := hD.fill hr1.out hz1.out hbel1.out (q : Int) (posZ S (ini : Int)) rfl;go_wp2_with fail;go_meet;exact ⟨_, _, _, _, rfl, hide hM⟩
 case rest =>
  obtain ⟨g9, e9, A1, c1, rfl, hL0⟩ := hcut;have b3 := (hAll.out wc hL0.out.bel).2.1.c3;clear hSS hPos hCl hbel1 hr1 hz1;go_wp2_with fail
  go_loopw [25] (fun v25 wr => ∃ (k k3 : Nat) (A3 : Option Addr) (c3 : Nat), k ≤ m ∧ v25 = .int .i64 (k : Nat) ∧ k3 ≤ k ∧ Hid (LtmP wB wr g9 e9 (q : Int) (posZ S (ini : Int)) A1 n c1 ls A3 k3 c3 ((es.take k).filterMap (partO S)))) (fun v _ => m - (intOf v).toNat)
  case atStart => exact ⟨0, 0, none, 0, Nat.zero_le _, rfl, zR, hL0.out⟩
  case round =>
   clear hL0 b3;obtain ⟨k, k3, A3, c3, hk, rfl, hk3, hL⟩ := hrel
   by_cases hlt : k < m
   ·obtain ⟨hSy, -, -, -⟩ := hAll.out wr hL.out.bel
    obtain ⟨gB, oB, f, l, t, rfl, -, -, hgB, hx, x0, x1, x2, -⟩ := SlE.get hSy.se hlt;clear hSy;have k0 : (0 : Int) ≤ (k : Int) := by omega
    have k1 : (k : Int) < (m : Int) := by omega
    have hstep : Hid ((es.take (k + 1)).filterMap (partO S) = (es.take k).filterMap (partO S) ++ (partO S (f, l, t)).toList) := by
     show _ = _
     rw [List.take_add_one, hx, List.filterMap_append]
     congr 1
    obtain ⟨bA, hbA⟩ : ∃ bA, bA = wr.heap.size := ⟨_, rfl⟩;obtain ⟨wA, hwA⟩ : ∃ wA, wA = wr.alloc (.cells #[.int .i64 f, .int .i64 l, .int .i64 t] 84) := ⟨_, rfl⟩;have ka : wA.heap[bA]? = some (.cells #[.int .i64 f, .int .i64 l, .int .i64 t] 84 (0, 0)) := by rw [hwA, hbA]; exact heap_alloc_new wr _
    obtain ⟨wD, hwD⟩ : ∃ wD, wD = wA.drew := ⟨_, rfl⟩;have hbD : Below wr.heap.size wr wD := by rw [hwD, hwA]; exact (bR.alloc zR _).drew
    have hLD := hide (hL.out.below hbD);have kd : wD.heap[bA]? = some (.cells #[.int .i64 f, .int .i64 l, .int .i64 t] 84 (0, 0)) := by rw [hwD]; exact ka
    have e0 := (cell_of_row _ _ 0 _ _ (0, 0) kd).trans (show _ = some (Value.int .i64 f) from rfl);have e1 := (cell_of_row _ _ 1 _ _ (0, 0) kd).trans (show _ = some (Value.int .i64 l) from rfl);have e2 := (cell_of_row _ _ 2 _ _ (0, 0) kd).trans (show _ = some (Value.int .i64 t) from rfl);obtain ⟨-, -, hSc, hSl⟩ := hAll.out wD hLD.out.bel;have hPf := part1_calls f (w.heap.size + 1) P q cP S wD _ _ hSc hSl hq hn;have hPt := part1_calls t (w.heap.size + 1) P q cP S wD _ _ hSc hSl hq hn;have hpo : partO S (f, l, t) = if 0 ≤ posZ S f ∧ 0 ≤ posZ S t then some (posZ S f, l, posZ S t) else none := rfl;rw [show partO S (f, l, t) = if 0 ≤ posZ S f ∧ 0 ≤ posZ S t then some (posZ S f, l, posZ S t) else none from rfl] at hstep;clear hpo;generalize posZ S f = pf at hPf hstep;generalize posZ S t = pt at hPt hstep;replace hPf : Hid (Calls Tryz.prog 129 #[.int .i64 f, .pointer (some ⟨w.heap.size + 1, 0, none⟩)] wD fun e w' => e = .returned (.int .i64 pf) ∧ w' = wD) := hPf;replace hPt : Hid (Calls Tryz.prog 129 #[.int .i64 t, .pointer (some ⟨w.heap.size + 1, 0, none⟩)] wD fun e w' => e = .returned (.int .i64 pt) ∧ w' = wD) := hPt;replace hx := hide hx;replace hbD := hide hbD;clear kd ka hSc hSl;go_upto_region 6 with fail;rw [← show bA = _ from hbA];rw [← show wA = _ from hwA];replace hwA := hide hwA;replace hwD := hide hwD;replace hbA := hide hbA;clear x0 x1 x2;refine lateT_begin (S := fun w' => w'.cell? ⟨bA, 0, none⟩ = some (.int .i64 f) ∧ w'.cell? ⟨bA, 2, none⟩ = some (.int .i64 t)) (st := 9) (by kernel_rfl) ?_;rw [← show wD = _ from hwD.out];have hS0 : (fun w' : World => w'.cell? ⟨bA, 0, none⟩ = some (.int .i64 f) ∧ w'.cell? ⟨bA, 2, none⟩ = some (.int .i64 t)) wD := ⟨e0, e2⟩;refine tkB 0 [9] hS0 ?_;refine tkB 1 [9] hS0 ?_;refine tkB 2 [9] hS0 ?_;refine tkB 4 [9] hS0 ?_;refine tkB 5 [9] hS0 ?_;refine tkB 6 [9] hS0 ?_;refine lS 3 fun K hK => ?_
    go_simp;go_at_call 129
    (with_reducible refine hPf.out.mono ?_)
    rintro e w6 ⟨rfl, e6⟩;rw [e6];clear e6 w6
    (try go_wp2_with fail)
    refine kP hK (fun _ => ⟨e0, e2⟩) ?_;clear hK K;refine lS 7 fun K hK => ?_
    go_simp;go_at_call 129
    (with_reducible refine hPt.out.mono ?_)
    rintro e w6 ⟨rfl, e6⟩;rw [e6];clear e6 w6
    (try go_wp2_with fail)
    refine kP hK (fun _ => ⟨e0, e2⟩) ?_;clear hK K;refine lS 8 fun K hK => ?_
    go_simp;refine kP hK (fun _ => ⟨e0, e2⟩) ?_
    clear hK K;refine lS 9 fun K hK => ?_
    go_simp;refine kP hK nH ?_
    clear hK K;refine lateT_done (by kernel_rfl) ?_ _;clear hPf hPt
    by_cases p1 : 0 ≤ pf
    ·by_cases p2 : 0 ≤ pt
     ·have hs2 := hstep.out
      rw [if_pos ⟨p1, p2⟩] at hs2;replace hs2 := hide hs2;have b3 := hLD.out.box.c3;obtain ⟨wL, hwL⟩ : ∃ wL, wL = wD.alloc (.cells #[.int .i64 pf, .int .i64 l, .int .i64 pt] 84) := ⟨_, rfl⟩;have hbl : Below wD.heap.size wD wL := by rw [hwL]; exact bR.alloc zR _
      have hLL := hLD.out.below hbl;rw [hwL] at hLL;replace hLL := hide hLL;have hOL := hide hLL.out.eds;have hlit : Hid (Sl 3 ev (wD.alloc (.cells #[.int .i64 pf, .int .i64 l, .int .i64 pt] 84)) 0 (wD.heap.size + 1) (some ⟨wD.heap.size, 0, none⟩) 1 [(pf, l, pt)]) := Sl.lit1' (f := ev) wD 84 (pf, l, pt) #[.int .i64 pf, .int .i64 l, .int .i64 pt] rfl 3 _ rfl;have hsz : (k3 + 1) * 24 ≤ 140737488355328 := by omega
      have hb9 := hLL.out.top;have hs3 : Hid ((es.take (k + 1)).filterMap (partO S) = (es.take k).filterMap (partO S) ++ [(pf, l, pt)]) := hs2.out;replace hwL := hide hwL;clear hs2 hstep hL hbl;go_upto_region 8 with fail;go_wp2_with (first | (at_builtin; (with_reducible refine wpList_app rfl (.tmp 44) (.tmp 50) rfl hEe.out flat_ev rfl hOL.out rfl hlit.out ?d1 hb9 ?_); rotate_right; intro A7 c7 w7 hown7 hgr7 hb7 hat7; obtain ⟨hbx7, hL8⟩ := hLL.out.grown hgr7 hown7; have d3 := hbx7.c3; have f3 := hbx7.f3; rw [← hs3.out] at hL8; replace hL8 := hide hL8; clear hown7 hgr7 hb7 hat7 hbx7))
      case d1 => exact hsz
      go_roundw
      case rel => exact ⟨k + 1, k3 + 1, A7, c7, by omega, by go_num, by omega, hL8.out⟩
      case measure => simp [intOf]; omega
     ·have hs2 := hstep.out
      rw [if_neg (fun e => p2 e.2)] at hs2;have hL9 := hLD.out;rw [show (es.take k).filterMap (partO S) = (es.take (k + 1)).filterMap (partO S) by rw [hs2]; simp] at hL9;replace hL9 := hide hL9;clear hs2 hstep hL hLD;go_wp2_with fail;go_roundw
      case rel => exact ⟨k + 1, k3, A3, c3, by omega, by go_num, by omega, hL9.out⟩
      case measure => simp [intOf]; omega
    ·have hs2 := hstep.out
     rw [if_neg (fun e => p1 e.1)] at hs2;have hL9 := hLD.out;rw [show (es.take k).filterMap (partO S) = (es.take (k + 1)).filterMap (partO S) by rw [hs2]; simp] at hL9;replace hL9 := hide hL9;clear hs2 hstep hL hLD;go_wp2_with fail;go_roundw
     case rel => exact ⟨k + 1, k3, A3, c3, by omega, by go_num, by omega, hL9.out⟩
     case measure => simp [intOf]; omega
   ·have hkm : k = m := by omega
    subst hkm;have hLm := hL.out;rw [List.take_of_length_le (by omega)] at hLm;have c3a := hLm.box.c3;have hqS := hide (sortE_calls hLm.eds (by omega));replace hLm := hide hLm;clear hL;go_upto_region 11 with (first | (go_at_call 132; (with_reducible refine hqS.out.mono ?_); rintro e w6 ⟨rfl, hO6, hg6⟩));have hL6 := hLm.out.same hg6 hO6;have hres : LtsBox w6 (w.heap.size + 1 + 1) 0 0 none 0 0 none 0 0 := by rw [← zB.out]; exact hL6.res
    have y0 := hL6.box.c0;have y1 := hL6.box.c1;have y2 := hL6.box.c2;have y3 := hL6.box.c3;have r0 := hres.c0;have r1 := hres.c1;have r2 := hres.c2;have r3 := hres.c3;have v0 := hres.f0;have v1 := hres.f1;have v2 := hres.f2;have v3 := hres.f3;replace hL6 := hide hL6;clear hO6 hg6 hqS c3a hLm hres;go_wp2_with fail
    (try simp only [Exit.inBlock, Exit.then])
    refine bodyPost_ret_by (v := .agg #[.int .i64 (q : Int), .int .i64 (posZ S (ini : Int)), .slice A1 n c1, .slice A3 k3 c3]) ?_ rfl ?_
    focus
     rw [results_cell1 rfl];go_simp
    obtain ⟨f1, f2, f3⟩ := hL6.out.done (.int .i64 (q : Int)) (.int .i64 (posZ S (ini : Int))) (.slice A1 n c1) (.slice A3 k3 c3) (by rw [zB.out]);have hzB := zB.out;exact ⟨A1, c1, A3, k3, c3, rfl, f1.more (by omega) zR, (f2.sl flat_ev).more (by omega) zR, hbBh.out.trans (f3.mono (by omega))⟩
def MaxL (l : List Int) (M : Int) : Prop := M ∈ l ∧ ∀ x, x ∈ l → x ≤ M
theorem MaxL.step {l : List Int} {k : Nat} {x M : Int} (h : MaxL (l.take k) M) (hx : l[k]? = some x) : MaxL (l.take (k + 1)) (if M < x then x else M) := by
 rw [List.take_add_one, hx]
 by_cases c : M < x
 ·rw [if_pos c]
  refine ⟨List.mem_append_right _ (List.mem_singleton.2 rfl), fun y hy => ?_⟩
  rcases List.mem_append.1 hy with g | g
  ·have := h.2 y g; omega
  ·have := List.mem_singleton.1 g; omega
 ·rw [if_neg c]
  refine ⟨List.mem_append_left _ h.1, fun y hy => ?_⟩
  rcases List.mem_append.1 hy with g | g
  ·exact h.2 y g
  ·have := List.mem_singleton.1 g; omega
theorem maxI_calls (A : Option Addr) (n c : Nat) (l : List Int) (w : World) (lo hi : Nat) (h : SlI w lo hi A n l) (hn : 0 < n) (hn2 : n ≤ 1000000) :
  Calls Tryz.prog 245 #[.slice A n c] w fun e w' => ∃ M, e = .returned (.int .i64 M) ∧ MaxL l M ∧ w' = w := by
 have hlen := hide h.len;have g1 : ¬ (n : Int) < 1 := by omega
 obtain ⟨b, off, x0, rfl, -, -, -, hx0, c0, -⟩ := SlI.get h hn;rw [Nat.add_zero] at c0;have n0 : (0 : Int) < (n : Int) := by omega
 have hst : Hid (MaxL (l.take 1) x0) := by
  show MaxL _ _
  rw [show 1 = 0 + 1 from rfl, List.take_add_one, hx0];exact ⟨List.mem_singleton.2 rfl, fun y hy => by have := List.mem_singleton.1 hy; omega⟩
 clear hx0;go_enter Tryz.func245, Tryz.ntmps245;go_wp2_with fail
 go_loopw [3, 4] (fun v3 v4 wr => ∃ (k : Nat) (M : Int), 1 ≤ k ∧ k ≤ n ∧ v4 = .int .i64 (k : Nat) ∧ v3 = .int .i64 M ∧ Hid (MaxL (l.take k) M) ∧ wr = w) (fun _ v _ => n - (intOf v).toNat)
 case atStart => exact ⟨1, x0, zR, by omega, rfl, rfl, hst.out, rfl⟩
 case round =>
  clear hst c0;obtain ⟨k, M, hk1, hk, rfl, rfl, hM, rfl⟩ := hrel
  by_cases hlt : k < n
  ·obtain ⟨b2, o2, x, e2, -, -, -, hx, cx, -⟩ := SlI.get h hlt
   cases e2;have hM2 := hide (hM.out.step hx)
   have k0 : (0 : Int) ≤ (k : Int) := by omega
   have k1 : (k : Int) < (n : Int) := by omega
   clear h hx
   by_cases c : M < x
   ·have hM3 := hM2.out
    rw [if_pos c] at hM3;replace hM3 := hide hM3;have c2 : ¬ x < M := by omega
    have c3 : M ≤ x := by omega
    clear hM2;go_wp2_with fail;go_roundw
    case rel => exact ⟨k + 1, x, by omega, by omega, by go_num, by rw [Int.max_eq_right c3], hM3.out, trivial⟩
    case measure => simp [intOf]; omega
   ·have hM3 := hM2.out
    rw [if_neg c] at hM3;replace hM3 := hide hM3;have c2 : x ≤ M := by omega
    clear hM2;go_wp2_with fail;go_roundw
    case rel => exact ⟨k + 1, M, by omega, by omega, by go_num, by rw [Int.max_eq_left c2], hM3.out, trivial⟩
    case measure => simp [intOf]; omega
  ·obtain rfl : k = n := by omega
   have hF := hM.out;rw [List.take_of_length_le (by rw [hlen.out]; exact zR)] at hF;replace hF := hide hF;clear h;go_wp2_with fail;go_ret;exact ⟨M, rfl, hF.out, rfl⟩
theorem blockCount_calls (A : Option Addr) (n c : Nat) (l : List Int) (w : World) (lo hi : Nat) (h : SlI w lo hi A n l) (hn : 0 < n) (hn2 : n ≤ 1000000) (hl : ∀ x, x ∈ l → 0 ≤ x ∧ x ≤ 1000000) :
  Calls Tryz.prog 168 #[.slice A n c] w fun e w' => ∃ M, e = .returned (.int .i64 (M + 1)) ∧ MaxL l M ∧ w' = w := by
 have q := hide (maxI_calls A n c l w lo hi h hn hn2);clear h;go_enter Tryz.func168, Tryz.ntmps168;go_wp2_with fail;refine q.out.mono ?_;rintro e w2 ⟨M, rfl, hM, rfl⟩;have hb := hl M hM.1;have hw : IntKind.i64.wrap (M + 1) = M + 1 := IntWalk.i64_in _ (by omega);replace hM := hide hM;clear q;go_wp2_with fail;go_ret;exact ⟨M, rfl, hM.out, rfl⟩
theorem tidy_calls {wq w : World} {g9 e0 : Nat} {s i : Int} {A1 : Option Addr} {n2 c1 : Nat} {J : List ByteArray} {A3 : Option Addr} {k c3 : Nat} {E : List Ed} (h : LtmP wq w g9 e0 s i A1 n2 c1 J A3 k c3 E) (hk : k ≤ 1000000) :
  Calls Tryz.prog 169 #[.pointer (some ⟨g9, 0, none⟩)] w fun e w' => ∃ n3, e = .returned (.tuple #[]) ∧ LtmP wq w' g9 e0 s i A1 n2 c1 J A3 n3 c3 (Lib.compact (sortE E)) := by
 have c3a := h.box.c3;have hqS := hide (sortE_calls h.eds (by omega));replace h := hide h;go_enter Tryz.func169, Tryz.ntmps169;go_upto_region 1 with (first | (go_at_call 132; (with_reducible refine hqS.out.mono ?_); rintro e w6 ⟨rfl, hO6, hg6⟩));have hL6 := h.out.same hg6 hO6;have c36 := hL6.box.c3;obtain ⟨n3, hn3⟩ : ∃ n3, n3 = (Lib.compact (sortE E)).length := ⟨_, rfl⟩;have hqC := compactE_calls hO6 (by omega) hO6.le_cap;rw [← hn3] at hqC;replace hqC := hide hqC;replace hL6 := hide hL6;replace hn3 := hide hn3;clear hO6 hg6 hqS c3a h;go_wp2_with (first | (go_at_call 228; (with_reducible refine hqC.out.mono ?_); rintro e w7 ⟨rfl, hO7, hg7⟩; obtain ⟨hbx7, hL8⟩ := hL6.out.grown hg7 hO7; have c37 := hbx7.c3; have f37 := hbx7.f3))
 go_returns
 exact ⟨n3, rfl, hL8⟩
def pv (p : List Int) (x : Int) : Int := p[x.toNat]?.getD 0
def quoO (p : List Int) (e : Ed) : Ed := (pv p e.1, e.2.1, pv p e.2.2)
def quoF (p : List Int) (G : Ed → Bool) (es : List Ed) : List Ed := Lib.compact (sortE ((es.filter G).map (quoO p)))
theorem maxL_ex : ∀ l : List Int, l ≠ [] → ∃ M, MaxL l M
 | [], h => absurd rfl h
 | [x], _ => ⟨x, List.mem_singleton.2 rfl, fun y hy => by have := List.mem_singleton.1 hy; omega⟩
 | x :: y :: r, _ => by
  obtain ⟨M, h1, h2⟩ := maxL_ex (y :: r) (by simp)
  by_cases c : M < x
  ·refine ⟨x, List.mem_cons_self, fun z hz => ?_⟩
   rcases List.mem_cons.1 hz with rfl | g
   ·omega
   ·have := h2 z g; omega
  ·refine ⟨M, List.mem_cons_of_mem _ h1, fun z hz => ?_⟩
   rcases List.mem_cons.1 hz with rfl | g
   ·omega
   ·exact h2 z g
theorem quotient_calls {w : World} {N ini : Nat} {A : Option Addr} {n : Nat} {B : Option Addr} {m : Nat} {ls : List ByteArray} {es : List Ed} (h : SysA w N ini A n B m ls es) (c d : Nat) (P : Option Addr) (cP : Nat) (p : List Int) (hP : SlI w 0 w.heap.size P N p) (hp : ∀ x, x ∈ p → 0 ≤ x ∧ x ≤ 1000000) (F : FuncId) (caps : Array Value) (G : Ed → Bool)
  (hF : ∀ (v : Value) (W : World), Sem.run Tryz.prog (callFunc F (#[v] ++ caps)) W = .ok (.enter F (#[v] ++ caps)) W)
  (hcl : ∀ (e : Ed) (W : World), e ∈ es → Below w.heap.size w W → Calls Tryz.prog F (#[.agg #[.int .i64 e.1, .int .i64 e.2.1, .int .i64 e.2.2]] ++ caps) W (Says (G e) W)) :
  Calls Tryz.prog 88 #[.agg #[.int .i64 (N : Int), .int .i64 (ini : Int), .slice A n c, .slice B m d], .slice P N cP, .func (.func F) #[] caps] w fun e w' => ∃ M A2 c2 A3 n3 c3, MaxL p M ∧ e = .returned (.agg #[.int .i64 (M + 1), .int .i64 (pv p (ini : Int)), .slice A2 n c2, .slice A3 n3 c3]) ∧ SlS w' w.heap.size w'.heap.size A2 n ls ∧ SlE w' w.heap.size w'.heap.size A3 n3 (quoF p G es) ∧ Below w.heap.size w w' ∧ Own 1 strv w' w.heap.size 9 A2 n c2 ls ∧ Own 3 ev w' w.heap.size 84 A3 n3 c3 (quoF p G es) := by
 have hEe := hide elem_edge;obtain ⟨hm, hn12, hn1, hle, hll⟩ := h.many;obtain ⟨⟨hN1, hN2⟩, hini⟩ := h.bounds;have hlab3 := h.three;obtain ⟨gP, oP, pini, rfl, -, -, hgP, hpx, cp, -⟩ := SlI.get hP hini;have hpini : pini = pv p (ini : Int) := by unfold pv; rw [Int.toNat_natCast, hpx]; rfl
 obtain ⟨wB, hwB⟩ : ∃ wB, wB = w.alloc (ltsC N ini A n c B m d) := ⟨_, rfl⟩;have zB : wB.heap.size = w.heap.size + 1 := by rw [hwB]; exact World.size_alloc _ _
 have bB : Below w.heap.size w wB := by rw [hwB]; exact (Below.refl w.heap.size w).alloc zR _
 have xB : LtsBox wB w.heap.size (N : Int) (ini : Int) A n c B m d := by rw [hwB]; exact heap_alloc_new w _
 obtain ⟨w1, hw1⟩ : ∃ w1, w1 = wB.alloc (.cells #[.int .i64 0, .int .i64 0, .slice none 0 0, .slice none 0 0] 27) := ⟨_, rfl⟩;have hbel1 : Hid (Below wB.heap.size wB w1) := by show Below _ _ _; rw [hw1]; exact bR.alloc zR _
 have hr1 : Hid (LtsBox w1 wB.heap.size 0 0 none 0 0 none 0 0) := by show LtsBox _ _ _ _ _ _ _ _ _ _; rw [hw1]; exact heap_alloc_new wB _
 have hz1 : Hid (wB.heap.size + 1 ≤ w1.heap.size) := hr1.out.lt;have hAll : ∀ wx, Below wB.heap.size wB wx → SysA wx N ini A n B m ls es ∧ LtsBox wx w.heap.size (N : Int) (ini : Int) A n c B m d ∧ SlI wx 0 w.heap.size (some ⟨gP, oP, none⟩) N p ∧ Below w.heap.size w wx := fun wx hx =>
  ⟨h.below (bB.trans (hx.mono bB.size)) zR, xB.below hx (by omega), hP.below (bB.trans (hx.mono bB.size)) (.inl zR), bB.trans (hx.mono bB.size)⟩
 obtain ⟨M, hM, hPos⟩ : ∃ M, MaxL p M ∧ Hid (∀ wx, Below w1.heap.size w1 wx → Calls Tryz.prog 168 #[.slice (some ⟨gP, oP, none⟩) N cP] wx fun e w' => e = .returned (.int .i64 (M + 1)) ∧ w' = wx) := by
  obtain ⟨M, hM⟩ : ∃ M, MaxL p M := maxL_ex p (fun e => by rw [e] at hpx; cases hpx);refine ⟨M, hM, fun wx hx => ?_⟩;obtain ⟨-, -, y, -⟩ := hAll wx (hbel1.out.trans (hx.mono hbel1.out.size));refine (blockCount_calls _ _ _ _ _ _ _ y (by omega) (by omega) hp).mono ?_;rintro e w' ⟨M', rfl, h1, h2⟩;have : M' = M := Int.le_antisymm (hM.2 _ h1.1) (h1.2 _ hM.1);subst this;exact ⟨rfl, h2⟩
 have hSS : Hid (∀ wx, Below w1.heap.size w1 wx → wx.cell? ⟨w.heap.size, 1, none⟩ = some (.int .i64 (ini : Int)) ∧ wx.cell? ⟨w.heap.size, 2, none⟩ = some (.slice A n c) ∧ wx.cell? ⟨gP, oP + ini, none⟩ = some (.int .i64 pini)) := fun wx hx => by
  obtain ⟨-, y, -, z⟩ := hAll wx (hbel1.out.trans (hx.mono hbel1.out.size));exact ⟨y.c1, y.c2, (z.cell (p := ⟨gP, oP + ini, none⟩) hgP).trans cp⟩
 have hCl : Hid (∀ wx, Below w1.heap.size w1 wx → Calls Tryz.prog 131 #[.slice A n c] wx fun e w' => ∃ A' c', e = .returned (.slice A' n c') ∧ Own 1 strv w' wx.heap.size 9 A' n c' ls ∧ Below wx.heap.size wx w') := fun wx hx => by
  obtain ⟨y, -, -, -⟩ := hAll wx (hbel1.out.trans (hx.mono hbel1.out.size));exact cloneS_calls _ _ _ _ _ _ _ y.ss (by omega)
 have i0 : (0 : Int) ≤ (ini : Int) := by omega
 have i1 : (ini : Int) < (N : Int) := by omega
 replace hAll := hide hAll;replace zB := hide zB;replace hcl := hide hcl;replace hpini := hide hpini;replace hlab3 := hide hlab3;have hbBh := hide bB;clear bB xB h hP cp hpx;go_enter Tryz.func88, Tryz.ntmps88;go_upto_region 1 with fail;rw [show ((w.alloc (.cells #[.int .i64 (N : Int), .int .i64 (ini : Int), .slice A n c, .slice B m d] 27)).alloc (.cells #[.int .i64 0, .int .i64 0, .slice none 0 0, .slice none 0 0] 27)) = w1 from by rw [hw1, hwB]];replace hw1 := hide hw1;replace hwB := hide hwB
 go_cut [7] (fun v7 wx => ∃ g9 e9 A1 c1, v7 = .pointer (some ⟨g9, 0, none⟩) ∧ Hid (LtmP wB wx g9 e9 (M + 1) pini A1 n c1 ls none 0 0 []))
 case first =>
  refine lateT_begin (S := fun w' => w'.cell? ⟨w.heap.size, 1, none⟩ = some (.int .i64 (ini : Int)) ∧ w'.cell? ⟨w.heap.size, 2, none⟩ = some (.slice A n c) ∧ w'.cell? ⟨gP, oP + ini, none⟩ = some (.int .i64 pini)) (st := 12) (by kernel_rfl) ?_;have hD := (AlcW.start w1 ls).drew;generalize w1.drew = wA at *;have hS0 := hSS.out _ hD.below;refine tkA _ 0 [12] rfl (Or.inl ⟨by rfl, by intro w9 hSw; obtain ⟨s0, s1, s2⟩ := hSw; go_simp <;> with_reducible rfl⟩) hS0 ?_;refine tkA _ 2 [12] rfl (Or.inl ⟨by rfl, by intro w9 hSw; obtain ⟨s0, s1, s2⟩ := hSw; go_simp <;> with_reducible rfl⟩) hS0 ?_;refine tkA _ 3 [12] rfl (Or.inl ⟨by rfl, by intro w9 hSw; obtain ⟨s0, s1, s2⟩ := hSw; go_simp <;> with_reducible rfl⟩) hS0 ?_;refine tkA _ 4 [12] rfl (Or.inl ⟨by rfl, by intro w9 hSw; obtain ⟨s0, s1, s2⟩ := hSw; go_simp <;> with_reducible rfl⟩) hS0 ?_;refine tkA _ 5 [12] rfl (Or.inl ⟨by rfl, by intro w9 hSw; obtain ⟨s0, s1, s2⟩ := hSw; go_simp <;> with_reducible rfl⟩) hS0 ?_;refine tkA _ 6 [12] rfl (Or.inl ⟨by rfl, by intro w9 hSw; obtain ⟨s0, s1, s2⟩ := hSw; go_simp <;> with_reducible rfl⟩) hS0 ?_;refine tkA _ 7 [12] rfl (Or.inl ⟨by rfl, by intro w9 hSw; obtain ⟨s0, s1, s2⟩ := hSw; go_simp <;> with_reducible rfl⟩) hS0 ?_;refine tkA _ 8 [12] rfl (Or.inl ⟨by rfl, by intro w9 hSw; obtain ⟨s0, s1, s2⟩ := hSw; go_simp <;> with_reducible rfl⟩) hS0 ?_;refine lateT_two (i := 1) (j := 11) (by kernel_rfl) rfl rfl (fun K hK => ?_) (fun K hK => ?_)
  ·go_simp
   go_at_call 168; (with_reducible refine (hPos.out _ hD.below).mono ?_); rintro e w6 ⟨rfl, e6⟩; rw [e6]; clear e6 w6
   (try go_wp2_with fail)
   refine kP hK (fun _ => hSS.out _ hD.below) ?_;clear hK K;refine lateT_two (i := 9) (j := 11) (by kernel_rfl) rfl rfl (fun K hK => ?_) (fun K hK => ?_)
   ·go_simp
    go_at_call 131; (with_reducible refine (hCl.out _ hD.below).mono ?_); rintro e wA ⟨A1, c1, rfl, hO6, hb6⟩;replace hD := hD.clone hb6 hO6;clear hO6 hb6
    (try go_wp2_with fail)
    refine kP hK (fun _ => hSS.out _ hD.below) ?_;clear hK K;refine lateT_two (i := 10) (j := 11) (by kernel_rfl) rfl rfl (fun K hK => ?_) (fun K hK => ?_)
    ·go_simp
     refine kP hK (fun _ => hSS.out _ hD.below) ?_;clear hK K;refine lS 11 fun K hK => ?_
     go_simp;replace hD := hD.alloc
     refine kP hK (fun _ => hSS.out _ hD.below) ?_;clear hK K;generalize wA.alloc (.cells #[.int .i64 0, .int .i64 0, .slice none 0 0, .slice none 0 0] 27) = wA at *;refine lS 12 fun K hK => ?_
     have hbx := (hD.box _ rfl).2;have z0 := hbx.c0;have z1 := hbx.c1;have z2 := hbx.c2;have z3 := hbx.c3;have f0 := hbx.f0;have f1 := hbx.f1;have f2 := hbx.f2;have f3 := hbx.f3;go_simp;refine kP hK nH ?_;clear hK K;refine lateT_done (by kernel_rfl) ?_ _;have hM := hD.fill hr1.out hz1.out hbel1.out (M + 1) pini rfl;go_wp2_with fail;go_meet;exact ⟨_, _, _, _, rfl, hide hM⟩
    ·go_simp
     replace hD := hD.alloc;refine kP hK (fun _ => hSS.out _ hD.below) ?_;clear hK K;generalize wA.alloc (.cells #[.int .i64 0, .int .i64 0, .slice none 0 0, .slice none 0 0] 27) = wA at *;refine lS 10 fun K hK => ?_
     go_simp;refine kP hK (fun _ => hSS.out _ hD.below) ?_
     clear hK K;refine lS 12 fun K hK => ?_
     have hbx := (hD.box _ rfl).2;have z0 := hbx.c0;have z1 := hbx.c1;have z2 := hbx.c2;have z3 := hbx.c3;have f0 := hbx.f0;have f1 := hbx.f1;have f2 := hbx.f2;have f3 := hbx.f3;go_simp;refine kP hK nH ?_;clear hK K;refine lateT_done (by kernel_rfl) ?_ _;have hM := hD.fill hr1.out hz1.out hbel1.out (M + 1) pini rfl;go_wp2_with fail;go_meet;exact ⟨_, _, _, _, rfl, hide hM⟩
   ·go_simp
    replace hD := hD.alloc;refine kP hK (fun _ => hSS.out _ hD.below) ?_;clear hK K;generalize wA.alloc (.cells #[.int .i64 0, .int .i64 0, .slice none 0 0, .slice none 0 0] 27) = wA at *;refine lS 9 fun K hK => ?_
    go_simp;go_at_call 131; (with_reducible refine (hCl.out _ hD.below).mono ?_); rintro e wA ⟨A1, c1, rfl, hO6, hb6⟩
    replace hD := hD.clone hb6 hO6;clear hO6 hb6
    (try go_wp2_with fail)
    refine kP hK (fun _ => hSS.out _ hD.below) ?_;clear hK K;refine lS 10 fun K hK => ?_
    go_simp;refine kP hK (fun _ => hSS.out _ hD.below) ?_
    clear hK K;refine lS 12 fun K hK => ?_
    have hbx := (hD.box _ rfl).2;have z0 := hbx.c0;have z1 := hbx.c1;have z2 := hbx.c2;have z3 := hbx.c3;have f0 := hbx.f0;have f1 := hbx.f1;have f2 := hbx.f2;have f3 := hbx.f3;go_simp;refine kP hK nH ?_;clear hK K;refine lateT_done (by kernel_rfl) ?_ _;have hM := hD.fill hr1.out hz1.out hbel1.out (M + 1) pini rfl;go_wp2_with fail;go_meet;exact ⟨_, _, _, _, rfl, hide hM⟩
  ·go_simp
   replace hD := hD.alloc;refine kP hK (fun _ => hSS.out _ hD.below) ?_;clear hK K;generalize wA.alloc (.cells #[.int .i64 0, .int .i64 0, .slice none 0 0, .slice none 0 0] 27) = wA at *;refine lS 1 fun K hK => ?_
   go_simp;go_at_call 168; (with_reducible refine (hPos.out _ hD.below).mono ?_); rintro e w6 ⟨rfl, e6⟩; rw [e6]; clear e6 w6
   (try go_wp2_with fail)
   refine kP hK (fun _ => hSS.out _ hD.below) ?_;clear hK K;refine lS 9 fun K hK => ?_
   go_simp;go_at_call 131; (with_reducible refine (hCl.out _ hD.below).mono ?_); rintro e wA ⟨A1, c1, rfl, hO6, hb6⟩
   replace hD := hD.clone hb6 hO6;clear hO6 hb6
   (try go_wp2_with fail)
   refine kP hK (fun _ => hSS.out _ hD.below) ?_;clear hK K;refine lS 10 fun K hK => ?_
   go_simp;refine kP hK (fun _ => hSS.out _ hD.below) ?_
   clear hK K;refine lS 12 fun K hK => ?_
   have hbx := (hD.box _ rfl).2;have z0 := hbx.c0;have z1 := hbx.c1;have z2 := hbx.c2;have z3 := hbx.c3;have f0 := hbx.f0;have f1 := hbx.f1;have f2 := hbx.f2;have f3 := hbx.f3;go_simp;refine kP hK nH ?_;clear hK K;refine lateT_done (by kernel_rfl) ?_ _;have hM := hD.fill hr1.out hz1.out hbel1.out (M + 1) pini rfl;go_wp2_with fail;go_meet;exact ⟨_, _, _, _, rfl, hide hM⟩
 case rest =>
  obtain ⟨g9, e9, A1, c1, rfl, hL0⟩ := hcut;have b3 := (hAll.out wc hL0.out.bel).2.1.c3;clear hSS hPos hCl hbel1 hr1 hz1;go_wp2_with fail
  go_loopw [24] (fun v24 wr => ∃ (k k3 : Nat) (A3 : Option Addr) (c3 : Nat), k ≤ m ∧ v24 = .int .i64 (k : Nat) ∧ k3 ≤ k ∧ Hid (LtmP wB wr g9 e9 (M + 1) pini A1 n c1 ls A3 k3 c3 (((es.take k).filter G).map (quoO p)))) (fun v _ => m - (intOf v).toNat)
  case atStart => exact ⟨0, 0, none, 0, Nat.zero_le _, rfl, zR, hL0.out⟩
  case round =>
   clear hL0 b3;obtain ⟨k, k3, A3, c3, hk, rfl, hk3, hL⟩ := hrel
   by_cases hlt : k < m
   ·obtain ⟨hSy, -, -, hbw⟩ := hAll.out wr hL.out.bel
    obtain ⟨gB, oB, f, l, t, rfl, -, -, hgB, hx, x0, x1, x2, -⟩ := SlE.get hSy.se hlt;have hmem := List.mem_of_getElem? hx;have h3 := hlab3.out _ hmem
    (try dsimp only at h3)
    have k0 : (0 : Int) ≤ (k : Int) := by omega
    have k1 : (k : Int) < (m : Int) := by omega
    have hstep : Hid (((es.take (k + 1)).filter G).map (quoO p) = ((es.take k).filter G).map (quoO p) ++ if G (f, l, t) = true then [quoO p (f, l, t)] else []) := by
     show _ = _
     rw [List.take_add_one, hx, List.filter_append, List.map_append]
     congr 1
     show List.map (quoO p) (List.filter G [(f, l, t)]) = _
     by_cases c : G (f, l, t) = true
     ·rw [List.filter_cons_of_pos c, if_pos c]
      rfl
     ·rw [List.filter_cons_of_neg c, if_neg c]
      rfl
    obtain ⟨bA, hbA⟩ : ∃ bA, bA = wr.heap.size := ⟨_, rfl⟩;obtain ⟨wA, hwA⟩ : ∃ wA, wA = wr.alloc (.cells #[.int .i64 f, .int .i64 l, .int .i64 t] 84) := ⟨_, rfl⟩;have ka : wA.heap[bA]? = some (.cells #[.int .i64 f, .int .i64 l, .int .i64 t] 84 (0, 0)) := by rw [hwA, hbA]; exact heap_alloc_new wr _
    have hbAA : Below wr.heap.size wr wA := by rw [hwA]; exact bR.alloc zR _
    have hLA := hL.out.below hbAA;have e0 := (cell_of_row _ _ 0 _ _ (0, 0) ka).trans (show _ = some (Value.int .i64 f) from rfl);have e1 := (cell_of_row _ _ 1 _ _ (0, 0) ka).trans (show _ = some (Value.int .i64 l) from rfl);have e2 := (cell_of_row _ _ 2 _ _ (0, 0) ka).trans (show _ = some (Value.int .i64 t) from rfl);have hcx := hide (hcl.out (f, l, t) wA hmem (hAll.out wA hLA.bel).2.2.2);have hnAr : some bA ≠ (Value.slice A3 k3 c3).ownBlock := fun e => by have := (hL.out.eds.lt bA e.symm).2; omega
    replace hx := hide hx;clear hmem hSy hbw hbAA;go_upto_region 5 with fail;rw [← show bA = _ from hbA];rw [← show wA = _ from hwA];replace hwA := hide hwA;replace hbA := hide hbA;clear x0 x1 x2;go_wp2_with fail;refine hcx.out.mono ?_;rintro e w5 ⟨rfl, hb5⟩;have hL5 := hide (hLA.below hb5);have k5 : w5.heap[bA]? = some (.cells #[.int .i64 f, .int .i64 l, .int .i64 t] 84 (0, 0)) := (hb5.block bA (Array.getElem?_eq_some_iff.1 ka).1).trans ka;clear e0 e1 e2 hcx hLA ka hb5
    cases hG : G (f, l, t) with
    | false =>
     have hs2 := hstep.out;rw [hG, if_neg Bool.false_ne_true, List.append_nil] at hs2;have hL9 := hL5.out;rw [← hs2] at hL9;replace hL9 := hide hL9;replace hG := hide hG;clear hs2 hstep hL hL5;go_wp2_with fail;go_roundw
     case rel => exact ⟨k + 1, k3, A3, c3, by omega, by go_num, by omega, hL9.out⟩
     case measure => simp [intOf]; omega
    | true =>
     have hs2 := hstep.out;rw [hG, if_pos rfl] at hs2;obtain ⟨wD, hwD⟩ : ∃ wD, wD = w5.drew := ⟨_, rfl⟩;have hLD := hide (hL5.out.below (w' := wD) (by rw [hwD]; exact bR.drew));have kd : wD.heap[bA]? = some (.cells #[.int .i64 f, .int .i64 l, .int .i64 t] 84 (0, 0)) := by rw [hwD]; exact k5
     have hbD : bA < wD.heap.size := (Array.getElem?_eq_some_iff.1 kd).1;have b3 := hLD.out.box.c3;have e0 := (cell_of_row _ _ 0 _ _ (0, 0) kd).trans (show _ = some (Value.int .i64 f) from rfl);have e1 := (cell_of_row _ _ 1 _ _ (0, 0) kd).trans (show _ = some (Value.int .i64 l) from rfl);have e2 := (cell_of_row _ _ 2 _ _ (0, 0) kd).trans (show _ = some (Value.int .i64 t) from rfl);obtain ⟨-, -, hSp, hbwD⟩ := hAll.out wD hLD.out.bel;obtain ⟨g1, o1, pf, ee, -, -, hg1, hpf, cf, -⟩ := SlI.get hSp (show f.toNat < N by omega)
     cases ee
     obtain ⟨g2, o2, pt, ee, -, -, hg2, hpt, ct, -⟩ := SlI.get hSp (show t.toNat < N by omega)
     cases ee
     have hq : quoO p (f, l, t) = (pf, l, pt) := by
      show (pv p f, l, pv p t) = _
      unfold pv;rw [hpf, hpt]
      rfl
     rw [hq] at hs2;replace hs2 := hide hs2;obtain ⟨f0, f1⟩ := h3.1;obtain ⟨t0, t1⟩ := h3.2.2;obtain ⟨wL, hwL⟩ : ∃ wL, wL = wD.alloc (.cells #[.int .i64 pf, .int .i64 l, .int .i64 pt] 84) := ⟨_, rfl⟩;have hbl : Below wD.heap.size wD wL := by rw [hwL]; exact bR.alloc zR _
     have hLL := hide (hLD.out.below hbl);have hOL := hide hLL.out.eds;have a3 := hLL.out.box.c3;have a0 := (hbl.cell (p := ⟨bA, 0, none⟩) hbD).trans e0;have a1 := (hbl.cell (p := ⟨bA, 1, none⟩) hbD).trans e1;have a2 := (hbl.cell (p := ⟨bA, 2, none⟩) hbD).trans e2;have af := (hbl.cell (p := ⟨gP, oP + f.toNat, none⟩) hg1).trans cf;have at_ := (hbl.cell (p := ⟨gP, oP + t.toNat, none⟩) hg1).trans ct;have hzbl := hbl.size;have hbL : bA < wL.heap.size := by omega
     have hgPL : gP < wL.heap.size := by omega
     have hnA := hnAr;have hzB := zB.out;have hnP : some gP ≠ (Value.slice A3 k3 c3).ownBlock := fun e => by
      have h1 := (hLD.out.eds.lt gP e.symm).1;have h2 := hLD.out.base;omega
     have hlit : Hid (Sl 3 ev wL 0 (wD.heap.size + 1) (some ⟨wD.heap.size, 0, none⟩) 1 [(pf, l, pt)]) := by
      rw [hwL];exact Sl.lit1' (f := ev) wD 84 (pf, l, pt) #[.int .i64 pf, .int .i64 l, .int .i64 pt] rfl 3 _ rfl
     have hsz : (k3 + 1) * 24 ≤ 140737488355328 := by omega
     have hza := hLL.out.top;replace hwL := hide hwL;replace hG := hide hG;replace hzB := hide hzB;replace hpf := hide hpf;replace hpt := hide hpt;clear hstep hL hbl kd k5 hSp hbwD hzbl hq;go_upto_region 6 with fail;replace hwD := hide hwD;refine lateT_begin (S := fun w' => w'.cell? ⟨g9, 3, none⟩ = some (.slice A3 k3 c3) ∧ w'.cell? ⟨bA, 0, none⟩ = some (.int .i64 f) ∧ w'.cell? ⟨bA, 1, none⟩ = some (.int .i64 l) ∧ w'.cell? ⟨bA, 2, none⟩ = some (.int .i64 t) ∧ w'.cell? ⟨gP, oP + f.toNat, none⟩ = some (.int .i64 pf) ∧ w'.cell? ⟨gP, oP + t.toNat, none⟩ = some (.int .i64 pt)) (st := 18) (by kernel_rfl) ?_;rw [← show wD = _ from hwD.out];have hS0 : (fun w' : World => w'.cell? ⟨g9, 3, none⟩ = some (.slice A3 k3 c3) ∧ w'.cell? ⟨bA, 0, none⟩ = some (.int .i64 f) ∧ w'.cell? ⟨bA, 1, none⟩ = some (.int .i64 l) ∧ w'.cell? ⟨bA, 2, none⟩ = some (.int .i64 t) ∧ w'.cell? ⟨gP, oP + f.toNat, none⟩ = some (.int .i64 pf) ∧ w'.cell? ⟨gP, oP + t.toNat, none⟩ = some (.int .i64 pt)) wD := ⟨b3, e0, e1, e2, cf, ct⟩;refine tkB 0 [18] hS0 ?_;refine tkB 1 [18] hS0 ?_;refine tkB 2 [18] hS0 ?_;refine tkB 3 [18] hS0 ?_;refine tkB 4 [18] hS0 ?_;refine tkB 5 [18] hS0 ?_;refine tkB 6 [18] hS0 ?_;refine tkB 7 [18] hS0 ?_;refine tkB 8 [18] hS0 ?_;refine tkB 9 [18] hS0 ?_;refine tkB 10 [18] hS0 ?_;refine tkB 11 [18] hS0 ?_;refine tkB 12 [18] hS0 ?_;refine tkB 13 [18] hS0 ?_;refine tkB 14 [18] hS0 ?_;refine lS 15 fun K hK => ?_
     go_simp;rw [← show wL = _ from hwL.out]
     refine kP hK (fun _ => ⟨a3, a0, a1, a2, af, at_⟩) ?_;clear hK K;refine lS 16 fun K hK => ?_
     refine step_appL (m := 1) (d := 1) (by rfl) (.tmp 32) (.tmp 46) (by rfl) hEe.out flat_ev (by go_simp) hOL.out (by go_simp) hlit.out hsz hza ?_;intro A7 c7 w7 hown7 hgr7 hb7 hat7;obtain ⟨hbx7, hL8⟩ := hLL.out.grown hgr7 hown7;have d3 := hbx7.c3;have df := hbx7.f3;have d4 := grown_cell8 hgr7 hbL hnA a0;have d5 := grown_cell8 hgr7 hbL hnA a1;have d6 := grown_cell8 hgr7 hbL hnA a2;have d7 := grown_cell8 hgr7 hgPL hnP af;have d8 := grown_cell8 hgr7 hgPL hnP at_;refine kP hK (fun _ => ⟨d3, d4, d5, d6, d7, d8⟩) ?_;clear hK K;refine lS 17 fun K hK => ?_
     go_simp;refine kP hK (fun _ => ⟨d3, d4, d5, d6, d7, d8⟩) ?_
     clear hK K;refine lS 18 fun K hK => ?_
     go_simp;refine kP hK nH ?_
     clear hK K;refine lateT_done (by kernel_rfl) ?_ _;have hL9 := hL8;rw [← hs2.out] at hL9;replace hL9 := hide hL9;clear hL8 hown7 hgr7 hb7 hat7 hbx7;go_wp2_with fail;go_roundw
     case rel => exact ⟨k + 1, k3 + 1, A7, c7, by omega, by go_num, by omega, hL9.out⟩
     case measure => simp [intOf]; omega
   ·have hkm : k = m := by omega
    subst hkm;have hLm := hL.out;rw [List.take_of_length_le (by omega)] at hLm;have hqT := hide (tidy_calls hLm (by omega));clear hL hLm;go_upto_region 9 with (first | (go_at_call 169; (with_reducible refine hqT.out.mono ?_); rintro e w6 ⟨n3, rfl, hL6⟩));have hres : LtsBox w6 (w.heap.size + 1) 0 0 none 0 0 none 0 0 := by rw [← zB.out]; exact hL6.res
    have y0 := hL6.box.c0;have y1 := hL6.box.c1;have y2 := hL6.box.c2;have y3 := hL6.box.c3;have r0 := hres.c0;have r1 := hres.c1;have r2 := hres.c2;have r3 := hres.c3;have v0 := hres.f0;have v1 := hres.f1;have v2 := hres.f2;have v3 := hres.f3;replace hL6 := hide hL6;clear hqT hres;go_wp2_with fail
    (try simp only [Exit.inBlock, Exit.then])
    refine bodyPost_ret_by (v := .agg #[.int .i64 (M + 1), .int .i64 pini, .slice A1 n c1, .slice A3 n3 c3]) ?_ rfl ?_
    focus
     rw [results_cell1 rfl];go_simp
    obtain ⟨f1, f2, f3⟩ := hL6.out.done (.int .i64 (M + 1)) (.int .i64 pini) (.slice A1 n c1) (.slice A3 n3 c3) (by rw [zB.out]);have f4 := hL6.out.doneL (.int .i64 (M + 1)) (.int .i64 pini) (.slice A1 n c1) (.slice A3 n3 c3) (by rw [zB.out]);have hzB := zB.out;exact ⟨M, A1, c1, A3, n3, c3, hM, by rw [← hpini.out], f1.more (by omega) zR, (f2.sl flat_ev).more (by omega) zR, hbBh.out.trans (f3.mono (by omega)), f4.sink (by omega), f2.sink (by omega)⟩
theorem compactE_rise {l : List Ed} (h : l.Pairwise fun x y => edLess y x = false) : RisE (Lib.compact l) := by
 unfold RisE Lib.compact Lib.compactUpTo;rw [List.pairwise_map];refine List.Pairwise.imp_of_mem (fun {p q} hp hq hpq => ?_) (List.Pairwise.filter _ (List.pairwise_lt_range (n := l.length)));obtain ⟨hp1, -⟩ := List.mem_filter.1 hp;obtain ⟨hq1, hq2⟩ := List.mem_filter.1 hq;have hp1 := List.mem_range.1 hp1;have hq1 := List.mem_range.1 hq1;unfold Lib.keeps at hq2;rw [decide_eq_true_eq] at hq2;have hne : l.toArray[q]! ≠ l.toArray[q - 1]! := hq2.resolve_left (by omega);rw [getElem!_pos _ q (by simpa using hq1), getElem!_pos _ (q - 1) (by simp; omega)] at hne;rw [getElem!_pos _ p (by simpa using hp1), getElem!_pos _ q (by simpa using hq1)];simp only [List.getElem_toArray] at hne ⊢;have h1 := List.pairwise_iff_getElem.1 h (q - 1) q (by omega) hq1 (by omega);have h2 : edLess l[q - 1] l[q] = true := by
  rcases edLess_total (fun e => hne e.symm) with g | g
  ·exact g
  ·rw [h1] at g; cases g
 by_cases e : p = q - 1
 ·subst e; exact h2
 ·have h3 := List.pairwise_iff_getElem.1 h p (q - 1) hp1 (by omega) (by omega)
  by_cases e2 : l[p] = l[q - 1]
  ·rw [e2]; exact h2
  ·rcases edLess_total e2 with g | g
   ·exact edLess_trans g h2
   ·rw [h3] at g; cases g
theorem sortE_rise {l : List Ed} (hn : l.Nodup) : RisE (sortE l) := by
 have h1 := sortE_le l;have h2 : (sortE l).Nodup := (List.mergeSort_perm l _).nodup_iff.2 hn;refine List.pairwise_iff_getElem.2 fun i j hi hj hij => ?_
 have h3 := List.pairwise_iff_getElem.1 h1 i j hi hj hij;have h4 := List.pairwise_iff_getElem.1 h2 i j hi hj hij
 rcases edLess_total h4 with g | g
 ·exact g
 ·rw [h3] at g; cases g
theorem rise_nodup {l : List Ed} (h : RisE l) : l.Nodup := h.imp fun {a b} g e => by rw [e, edLess_irr] at g; cases g
theorem ltsV_of {st ini : Int} {ls : List ByteArray} {es : List Ed} (h1 : 1 ≤ st ∧ st ≤ 40) (h2 : 0 ≤ ini ∧ ini < st) (hn : namesB ls = true) (hes : es.length ≤ 300) (hr : RisE es)
  (he : ∀ e, e ∈ es → (0 ≤ e.1 ∧ e.1 < st) ∧ (0 ≤ e.2.1 ∧ e.2.1 < (ls.length : Int)) ∧ 0 ≤ e.2.2 ∧ e.2.2 < st) : ltsV (st, ini, ls, es) = true := by
 rw [ltsV_eq];simp only [Bool.and_eq_true, decide_eq_true_eq];refine ⟨⟨inB_true.2 (by omega), inB_true.2 (by omega), hn, hes⟩, allK_good fun k hk => ?_⟩;obtain ⟨⟨f, lb, t⟩, hx⟩ : ∃ x, es[k]? = some x := ⟨_, List.getElem?_eq_getElem hk⟩;have hb := he _ (List.mem_of_getElem? hx)
 (try dsimp only at hb)
 have b1 : inB f 0 (st - 1) = true := inB_true.2 (by omega);have b2 : inB t 0 (st - 1) = true := inB_true.2 (by omega);have b3 : inB lb 0 ((ls.length : Int) - 1) = true := inB_true.2 (by omega)
 by_cases k0 : k = 0
 ·subst k0
  have := okE_zero (st := st) (m := ls.length) hx;rw [this, b1, b2, b3]; rfl
 ·obtain ⟨r, hrr⟩ : ∃ r, es[k - 1]? = some r := ⟨_, List.getElem?_eq_getElem (by omega)⟩
  have := okE_at (st := st) (m := ls.length) hx (by omega) hrr;rw [this, b1, b2, b3];have p := List.pairwise_iff_getElem.1 hr (k - 1) k (by omega) hk (by omega);rw [(List.getElem?_eq_some_iff.1 hrr).2, (List.getElem?_eq_some_iff.1 hx).2] at p;rw [p]; rfl
theorem ltsV_names {st ini : Int} {ls : List ByteArray} {es : List Ed} (h : ltsV (st, ini, ls, es) = true) : namesB ls = true ∧ es.length ≤ 300 := by
 rw [ltsV_eq] at h;simp only [Bool.and_eq_true, decide_eq_true_eq] at h;exact ⟨h.1.2.2.1, h.1.2.2.2⟩
theorem rise_near {es : List Ed} (h : ∀ k r e, 0 < k → es[k - 1]? = some r → es[k]? = some e → edLess r e = true) : RisE es := by
 have key : ∀ d i (hi : i < es.length) (hj : i + 1 + d < es.length), edLess es[i] es[i + 1 + d] = true := by
  intro d
  induction d with
  | zero => exact fun i hi hj => h (i + 1) _ _ (by omega) (List.getElem?_eq_getElem hi) (List.getElem?_eq_getElem hj)
  | succ d ih => exact fun i hi hj => edLess_trans (ih i hi (by omega)) (h (i + 1 + (d + 1)) _ _ (by omega) (List.getElem?_eq_getElem (show i + 1 + (d + 1) - 1 < es.length by omega)) (List.getElem?_eq_getElem hj))
 refine List.pairwise_iff_getElem.2 fun i j hi hj hij => ?_
 have := key (j - i - 1) i hi (by omega);have e : i + 1 + (j - i - 1) = j := by omega
 simpa only [e] using this
theorem ltsV_rise {st ini : Int} {ls : List ByteArray} {es : List Ed} (h : ltsV (st, ini, ls, es) = true) : RisE es := by
 rw [ltsV_eq] at h;simp only [Bool.and_eq_true] at h;refine rise_near fun k r e hk hr he => ?_
 obtain ⟨f, lb, t⟩ := e;have h1 := allK_get h.2 (List.getElem?_eq_some_iff.1 he).1;rw [okE_at he hk hr] at h1;simp only [Bool.and_eq_true] at h1;exact h1.2
theorem partF_part {S : List Int} {es : List Ed} (hn : S.Nodup) : PartE S es (partF S es) := by
 intro f l t;unfold partF;rw [sortE_mem, List.mem_filterMap]
 constructor
 ·rintro ⟨⟨a, l', b⟩, he, h⟩
  unfold partO at h;dsimp only at h
  by_cases c : 0 ≤ posZ S a ∧ 0 ≤ posZ S b
  ·rw [if_pos c] at h
   injection h with h;injection h with h1 h2;injection h2 with h2 h3;obtain ⟨i, hi⟩ : ∃ i : Nat, posZ S a = (i : Int) := ⟨(posZ S a).toNat, by omega⟩;obtain ⟨j, hj⟩ : ∃ j : Nat, posZ S b = (j : Int) := ⟨(posZ S b).toNat, by omega⟩;exact ⟨i, j, a, b, by omega, by omega, (posZ_at hn).1 hi, (posZ_at hn).1 hj, h2 ▸ he⟩
  ·rw [if_neg c] at h
   cases h
 ·rintro ⟨i, j, a, b, rfl, rfl, hi, hj, he⟩
  refine ⟨(a, l, b), he, ?_⟩;have h1 := (posZ_at hn).2 hi;have h2 := (posZ_at hn).2 hj;unfold partO;dsimp only;rw [h1, h2, if_pos ⟨by omega, by omega⟩]
theorem posZ_inj {l : List Int} {u v : Int} (h : posZ l u = posZ l v) (h0 : 0 ≤ posZ l u) : u = v := by
 unfold posZ at h h0
 by_cases hu : u ∈ l
 ·by_cases hv : v ∈ l
  ·rw [if_pos hu, if_pos hv] at h
   have h2 : l.idxOf u < l.length := List.idxOf_lt_length_iff.2 hu;have h3 : l.idxOf v < l.length := List.idxOf_lt_length_iff.2 hv;have e : l.idxOf u = l.idxOf v := by omega
   have g1 : l[l.idxOf u] = u := List.getElem_idxOf h2;have g2 : l[l.idxOf v] = v := List.getElem_idxOf h3;rw [← g1, ← g2]
   congr 1
  ·rw [if_pos hu, if_neg hv] at h
   omega
 ·rw [if_neg hu] at h0
  omega
theorem filterMap_nodup {α β : Type} {f : α → Option β} (hf : ∀ a b c, f a = some c → f b = some c → a = b) : ∀ {l : List α}, l.Nodup → (l.filterMap f).Nodup
 | [], _ => List.nodup_nil
 | a :: r, h => by
  obtain ⟨h1, h2⟩ := List.nodup_cons.1 h
  cases hfa : f a with
  | none => rw [List.filterMap_cons_none hfa]; exact filterMap_nodup hf h2
  | some c =>
   rw [List.filterMap_cons_some hfa];refine List.nodup_cons.2 ⟨fun hm => ?_, filterMap_nodup hf h2⟩;obtain ⟨b, hb, e⟩ := List.mem_filterMap.1 hm;exact h1 (hf a b c hfa e ▸ hb)
theorem partF_rise {S : List Int} {es : List Ed} (h : RisE es) : RisE (partF S es) := by
 unfold partF;refine sortE_rise (filterMap_nodup (fun a b c ha hb => ?_) (rise_nodup h));unfold partO at ha hb
 by_cases c1 : 0 ≤ posZ S a.1 ∧ 0 ≤ posZ S a.2.2
 ·by_cases c2 : 0 ≤ posZ S b.1 ∧ 0 ≤ posZ S b.2.2
  ·rw [if_pos c1] at ha
   rw [if_pos c2] at hb;have e := Option.some.inj (ha.trans hb.symm);injection e with e1 e2;injection e2 with e2 e3;have g1 := posZ_inj e1 c1.1;have g3 := posZ_inj e3 c1.2;obtain ⟨x, y, z⟩ := a;obtain ⟨x', y', z'⟩ := b;simp only at g1 g3 e2;rw [g1, g3, e2]
  ·rw [if_neg c2] at hb; cases hb
 ·rw [if_neg c1] at ha; cases ha
theorem partF_len {S : List Int} {es : List Ed} : (partF S es).length ≤ es.length := by
 unfold partF;rw [sortE_len];exact List.length_filterMap_le _ _
theorem part_valid {N ini : Nat} {ls : List ByteArray} {es : List Ed} {S : List Int} (h : ltsV ((N : Int), (ini : Int), ls, es) = true) (hn : S.Nodup) (hS : S.length ≤ 40) (hi : (ini : Int) ∈ S) :
  ltsV ((S.length : Int), posZ S (ini : Int), ls, partF S es) = true ∧ 0 ≤ posZ S (ini : Int) := by
 have h2 : S.idxOf (ini : Int) < S.length := List.idxOf_lt_length_iff.2 hi;have hp : posZ S (ini : Int) = ((S.idxOf (ini : Int) : Nat) : Int) := by unfold posZ; rw [if_pos hi]
 have hnm := ltsV_names h;have hl := partF_len (S := S) (es := es);refine ⟨ltsV_of (by omega) (by omega) hnm.1 (by omega) (partF_rise (ltsV_rise h)) fun e he => ?_, by omega⟩;obtain ⟨f, l, t⟩ := e;obtain ⟨i, j, a, b, rfl, rfl, hi, hj, hm⟩ := (partF_part hn f l t).1 he;have h1 := (List.getElem?_eq_some_iff.1 hi).1;have h3 := (List.getElem?_eq_some_iff.1 hj).1;have h4 := ((ltsV_edge h).1 _ hm).2.1;dsimp only at h4 ⊢;omega
theorem max_numB {N : Nat} {p : List Int} {M : Int} (hp : PartN N p) (hM : MaxL p M) : M + 1 = (numB p : Int) := by
 have h1 := part_lt hp hM.1;have h2 : 0 < numB p := by omega
 have h3 := hM.2 _ (part_mem hp (show numB p - 1 < numB p by omega));omega
theorem reach_mem {N : Nat} {es : List Ed} {ini a : Int} : a ∈ reachF N es ini ↔ ∃ k : Nat, a = (k : Int) ∧ k < N ∧ ReachE es ini k := by
 unfold reachF;rw [List.mem_map]
 constructor
 ·rintro ⟨k, hk, rfl⟩
  obtain ⟨h1, h2⟩ := List.mem_filter.1 hk;exact ⟨k, rfl, List.mem_range.1 h1, reachB_true.1 h2⟩
 ·rintro ⟨k, rfl, h1, h2⟩
  exact ⟨k, List.mem_filter.2 ⟨List.mem_range.2 h1, reachB_true.2 h2⟩, rfl⟩
theorem reach_ini {N ini : Nat} {es : List Ed} (h : ini < N) : (ini : Int) ∈ reachF N es (ini : Int) :=
 reach_mem.2 ⟨ini, rfl, h, 0, by simp [lay, srcE]⟩
theorem reach_closed {N : Nat} {es : List Ed} {ini : Int} (he : EdIn N es) (a l b : Int) (ha : a ∈ reachF N es ini) (h : (a, l, b) ∈ es) : b ∈ reachF N es ini := by
 obtain ⟨k, rfl, h1, h2⟩ := reach_mem.1 ha;have h3 := he _ h;dsimp only at h3;obtain ⟨j, rfl⟩ : ∃ j : Nat, b = (j : Int) := ⟨b.toNat, by omega⟩;exact reach_mem.2 ⟨j, rfl, by omega, h2.step ⟨_, h, by simp⟩⟩
theorem part_in {N : Nat} {es : List Ed} {S : List Int} (he : EdIn N es) (hn : S.Nodup) : EdIn S.length (partF S es) := by
 rintro ⟨f, l, t⟩ hm;obtain ⟨i, j, a, b, rfl, rfl, hi, hj, hx⟩ := (partF_part hn f l t).1 hm;have h1 := (List.getElem?_eq_some_iff.1 hi).1;have h2 := (List.getElem?_eq_some_iff.1 hj).1;have h3 := he _ hx;dsimp only at h3 ⊢;omega
theorem joi_nodup (l : List ByteArray) : (joiF l).Nodup := by
 unfold joiF;refine List.Pairwise.map ofL (fun a b h e => ?_) (compact_rise (sortL_rise _));have : a = b := by rw [← toL_ofL a, ← toL_ofL b, e]
 rw [this, ltL_irr] at h
 cases h
theorem uni_lab {la : List ByteArray} {ea : List Ed} {lb : List ByteArray} {eb : List Ed} {Na : Nat}
  (ha : ∀ e, e ∈ ea → 0 ≤ e.2.1 ∧ e.2.1 < (la.length : Int)) (hb : ∀ e, e ∈ eb → 0 ≤ e.2.1 ∧ e.2.1 < (lb.length : Int)) :
  ∀ e, e ∈ uniE la ea lb eb Na → 0 ≤ e.2.1 ∧ e.2.1 < ((joiF (la ++ lb)).length : Int) := by
 intro e he;obtain ⟨a, hm, rfl⟩ := ltsEs_mem.1 he;have lab : ∀ s, s ∈ la ++ lb → 0 ≤ idxZ (joiF (la ++ lb)) s ∧ idxZ (joiF (la ++ lb)) s < ((joiF (la ++ lb)).length : Int) := fun s hs => by
  obtain ⟨k, h1, h2⟩ := idxZ_get ((joi_mem_iff (la ++ lb) s).2 (.inr hs));have := (List.getElem?_eq_some_iff.1 h2).1;omega
 unfold uniA at hm
 rcases List.mem_append.1 hm with h | h
 ·obtain ⟨x, hx, rfl⟩ := List.mem_map.1 h
  exact lab _ (List.mem_append_left lb (arcOf_mem (ha x hx)))
 ·obtain ⟨y, hy, rfl⟩ := List.mem_map.1 h
  obtain ⟨x, hx, rfl⟩ := List.mem_map.1 hy;exact lab _ (List.mem_append_right la (arcOf_mem (hb x hx)))
end Go.Proofs.YtnhomkmfbngmgaaGreatDoor
namespace Go.Proofs.YtnhomkmfbngmgaaGreatDoor
open Go.Sort
section
variable {L : Type} {A B C : Nat → L → Nat → Prop} {f g : Nat → Nat}
theorem Emb.comp (h : Emb A B f) (k : Emb B C g) : Emb A C fun i => g (f i) := by
 refine ⟨fun i l j e => k.up _ _ _ (h.up _ _ _ e), fun i l y e => ?_⟩;obtain ⟨j, rfl, e2⟩ := k.down (f i) l y e;obtain ⟨m, rfl, e3⟩ := h.down i l j e2;exact ⟨m, rfl, e3⟩
end
section
variable {ls : List ByteArray} {ea eb : List Ed} {f : Nat → Nat}
theorem Emb.text (h : Emb (nE ea) (nE eb) f) : Emb (tE ls ea) (tE ls eb) f := by
 refine ⟨fun i s j e => ?_, fun i s y e => ?_⟩
 ·obtain ⟨l, g1, g2⟩ := e
  exact ⟨l, h.up _ _ _ g1, g2⟩
 ·obtain ⟨l, g1, g2⟩ := e
  obtain ⟨j, rfl, k⟩ := h.down _ _ _ g1;exact ⟨j, rfl, l, k, g2⟩
end
def atL (S : List Int) (z i : Nat) : Nat := match S[i]? with
 | some a => a.toNat
 | none => z
theorem atL_some {S : List Int} {z i : Nat} {a : Int} (h : S[i]? = some a) : atL S z i = a.toNat := by unfold atL; rw [h]
theorem atL_none {S : List Int} {z i : Nat} (h : ¬ i < S.length) : atL S z i = z := by unfold atL; rw [List.getElem?_eq_none (by omega)]
theorem part_emb {S : List Int} {es es2 : List Ed} {N z : Nat} (he : EdIn N es) (hp : PartE S es es2) (hc : ∀ a l b, a ∈ S → (a, l, b) ∈ es → b ∈ S) (hnn : ∀ a, a ∈ S → 0 ≤ a) (hz : N ≤ z) : Emb (nE es2) (nE es) (atL S z) := by
 refine ⟨fun i l j h => ?_, fun i l y h => ?_⟩
 ·obtain ⟨i', j', a, b, e1, e2, h1, h2, h3⟩ := (hp _ _ _).1 h
  obtain rfl : i = i' := by omega
  obtain rfl : j = j' := by omega
  unfold nE;rw [atL_some h1, atL_some h2, show ((a.toNat : Nat) : Int) = a by have := hnn a (List.mem_of_getElem? h1); omega, show ((b.toNat : Nat) : Int) = b by have := hnn b (List.mem_of_getElem? h2); omega];exact h3
 ·by_cases hi : i < S.length
  ·have h1 : S[i]? = some S[i] := List.getElem?_eq_getElem hi
   generalize S[i] = a at h1;have ha := hnn a (List.mem_of_getElem? h1);unfold nE at h;rw [atL_some h1, show ((a.toNat : Nat) : Int) = a by omega] at h;obtain ⟨j, hj, e⟩ := List.getElem_of_mem (hc _ _ _ (List.mem_of_getElem? h1) h);have h2 : S[j]? = some (y : Int) := by rw [List.getElem?_eq_getElem hj, e]
   exact ⟨j, by rw [atL_some h2]; rfl, (hp _ _ _).2 ⟨i, j, a, y, rfl, rfl, h1, h2, h⟩⟩
  ·rw [atL_none hi] at h
   have := (nE_in he h).1;omega
def QuoBE (er : List Ed) (n : Nat) (d : Bool) (p : List Int) (em : List Ed) : Prop :=
 ∀ f l t, (f, l, t) ∈ em ↔ (∃ e, e ∈ er ∧ p[e.1.toNat]? = some f ∧ e.2.1 = l ∧ p[e.2.2.toNat]? = some t ∧ ¬ (l = 0 ∧ f = t)) ∨ (d = true ∧ l = 0 ∧ f = t ∧ ∃ k : Nat, k < n ∧ p[k]? = some f ∧ Dvg (inrE er p) k)
section
variable {er em : List Ed} {n : Nat} {d : Bool} {p : List Int} {ls : List ByteArray}
theorem PartN.atL_inj (hp : PartN n p) {x y : Nat} (h : atL p (numB p) x = atL p (numB p) y) : pq p x = pq p y := by
 unfold pq;have key : ∀ {x : Nat} {a : Int}, p[x]? = some a → atL p (numB p) x = a.toNat ∧ 0 ≤ a ∧ a < numB p := fun {x a} hx => ⟨atL_some hx, part_lt hp (List.mem_of_getElem? hx)⟩
 by_cases h1 : x < p.length
 ·have e1 : p[x]? = some p[x] := List.getElem?_eq_getElem h1
  obtain ⟨a1, a2, a3⟩ := key e1
  by_cases h2 : y < p.length
  ·have e2 : p[y]? = some p[y] := List.getElem?_eq_getElem h2
   obtain ⟨b1, b2, b3⟩ := key e2;rw [e1, e2]
   congr 1
   omega
  ·rw [atL_none h2] at h; omega
 ·by_cases h2 : y < p.length
  ·have e2 : p[y]? = some p[y] := List.getElem?_eq_getElem h2
   obtain ⟨b1, b2, b3⟩ := key e2;rw [atL_none h1] at h; omega
  ·rw [List.getElem?_eq_none (by omega), List.getElem?_eq_none (by omega)]
theorem atL_of (z : Nat) {x y : Nat} (h : pq p x = pq p y) : atL p z x = atL p z y := by unfold atL; unfold pq at h; rw [h]
theorem atL_iff (hp : PartN n p) {x y : Nat} : atL p (numB p) x = atL p (numB p) y ↔ pq p x = pq p y := ⟨hp.atL_inj, atL_of _⟩
theorem inrt_atL (hp : PartN n p) {L : Type} (E : Nat → L → Nat → Prop) (τ : L) : inrt E τ (atL p (numB p)) = inrt E τ (pq p) := by
 funext x y
 exact propext (and_congr_right fun _ => atL_iff hp)
theorem stb_atL (hp : PartN n p) {L : Type} {E : Nat → L → Nat → Prop} {τ : L} {dp : Prop} (h : Stb E τ dp (pq p)) : Stb E τ dp (atL p (numB p)) := by
 refine ⟨fun x y l b hq ho => ?_, fun hd x y hq hx => ?_⟩
 ·obtain ⟨x1, x2, h1, h2, h3, h4⟩ := ho
  rw [inrt_atL hp] at h1;obtain ⟨y1, y2, g1, g2, g3, g4⟩ := h.off x y l (pq p x2) (hp.atL_inj hq) ⟨x1, x2, h1, h2, rfl, fun e => h4 ⟨e.1, atL_of _ e.2⟩⟩;refine ⟨y1, y2, by rw [inrt_atL hp]; exact g1, g2, by rw [← h3]; exact atL_of _ g3, fun e => g4 ⟨e.1, hp.atL_inj e.2⟩⟩
 ·rw [inrt_atL hp] at hx ⊢
  exact h.dvg hd x y (hp.atL_inj hq) hx
theorem quoB_of (he : EdIn n er) (hp : PartN n p) (hm : QuoBE er n d p em) : QuoB (nE er) (nE em) (0 : Int) (d = true) (atL p (numB p)) := by
 intro b l c;have hnn : ∀ {k : Nat} {a : Int}, p[k]? = some a → 0 ≤ a := fun h => (part_lt hp (List.mem_of_getElem? h)).1
 constructor
 ·intro h
  rcases (hm _ _ _).1 h with ⟨⟨ef, el, et⟩, h1, h2, h3, h4, h5⟩ | ⟨h1, h2, h3, k, h4, h5, h6⟩
  ·left
   dsimp only at h2 h3 h4;have hin := he _ h1;dsimp only at hin;subst h3;refine ⟨ef.toNat, et.toNat, ?_, by rw [atL_some h2]; rfl, by rw [atL_some h4]; rfl, fun e => h5 ⟨e.1, ?_⟩⟩
   ·unfold nE
    rw [show ((ef.toNat : Nat) : Int) = ef by omega, show ((et.toNat : Nat) : Int) = et by omega];exact h1
   ·have := e.2
    rw [atL_some h2, atL_some h4] at this;simp only [Int.toNat_natCast] at this;rw [this]
  ·right
   refine ⟨h1, h2, by omega, k, by rw [atL_some h5]; rfl, ?_⟩;rw [inrt_atL hp];exact h6
 ·rintro (⟨x, x', h1, h2, h3, h4⟩ | ⟨h1, h2, h3, k, h4, h5⟩)
  ·have hx := nE_in he h1
   have e1 : p[x]? = some (p[x]'(by rw [hp.len]; exact hx.1)) := List.getElem?_eq_getElem _;have e2 : p[x']? = some (p[x']'(by rw [hp.len]; exact hx.2)) := List.getElem?_eq_getElem _;generalize (p[x]'(by rw [hp.len]; exact hx.1)) = a at e1;generalize (p[x']'(by rw [hp.len]; exact hx.2)) = a' at e2;have n1 := hnn e1;have n2 := hnn e2;rw [atL_some e1] at h2;rw [atL_some e2] at h3;obtain rfl : a = (b : Int) := by omega
   obtain rfl : a' = (c : Int) := by omega
   exact (hm _ _ _).2 (.inl ⟨_, h1, by simpa using e1, rfl, by simpa using e2, fun e => h4 ⟨e.1, by rw [atL_some e1, atL_some e2, e.2]⟩⟩)
  ·rw [inrt_atL hp] at h5
   have hk : k < n := Classical.byContradiction fun g => none_dvg he g h5
   have e1 : p[k]? = some (p[k]'(by rw [hp.len]; exact hk)) := List.getElem?_eq_getElem _;generalize (p[k]'(by rw [hp.len]; exact hk)) = a at e1;have n1 := hnn e1;rw [atL_some e1] at h4;obtain rfl : a = (b : Int) := by omega
   exact (hm _ _ _).2 (.inr ⟨h1, h2, by rw [h3], k, hk, e1, h5⟩)
theorem quoB_text {E M : List Ed} {t0 : ByteArray} {dp : Prop} {P : Nat → Nat} (hn : ls.Nodup) (h0 : ls[0]? = some t0) (h : QuoB (nE E) (nE M) (0 : Int) dp P) : QuoB (tE ls E) (tE ls M) t0 dp P := by
 intro b s c
 constructor
 ·rintro ⟨l, h1, h2⟩
  rcases (h _ _ _).1 h1 with ⟨x, x', g1, g2, g3, g4⟩ | ⟨g1, g2, g3, k, g4, g5⟩
  ·exact .inl ⟨x, x', ⟨l, g1, h2⟩, g2, g3, fun e => g4 ⟨by
    have := e.1;subst this;rw [nd_inj hn h2 h0]; rfl, e.2⟩⟩
  ·refine .inr ⟨g1, ?_, g3, k, g4, by rw [inrt_text hn h0]; exact g5⟩
   have : l = 0 := by omega
   rw [this, h0] at h2;exact (Option.some.inj h2).symm
 ·rintro (⟨x, x', ⟨l, g1, g2⟩, g3, g4, g5⟩ | ⟨g1, g2, g3, k, g4, g5⟩)
  ·exact ⟨l, (h _ _ _).2 (.inl ⟨x, x', g1, g3, g4, fun e => g5 ⟨by
    have := e.1;have : l = 0 := by omega
    rw [this, h0] at g2;exact (Option.some.inj g2).symm, e.2⟩⟩), g2⟩
  ·rw [inrt_text hn h0] at g5
   subst g2;exact ⟨0, (h _ _ _).2 (.inr ⟨g1, rfl, g3, k, g4, g5⟩), h0⟩
theorem quoBE_in (he : EdIn n er) (hp : PartN n p) (hm : QuoBE er n d p em) : EdIn (numB p) em := by
 rintro ⟨f, l, t⟩ h;have hin := (hm _ _ _).1 h;dsimp only
 rcases hin with ⟨e, h1, h2, h3, h4, h5⟩ | ⟨h1, h2, h3, k, h4, h5, h6⟩
 ·have a1 := part_lt hp (List.mem_of_getElem? h2)
  have a2 := part_lt hp (List.mem_of_getElem? h4);have a3 := he e h1;omega
 ·have a1 := part_lt hp (List.mem_of_getElem? h5)
  omega
end
theorem numB_vals {p q : List Int} (h : ∀ x, x ∈ p ↔ x ∈ q) : numB p = numB q := by
 have key : ∀ {p q : List Int}, (∀ x, x ∈ p ↔ x ∈ q) → numB p ≤ numB q := fun {p q} h => sub_len (firsts_nd p) fun x hx => by
  rcases firsts_mem.1 hx with g | g
  ·exact (List.not_mem_nil g).elim
  ·exact firsts_mem.2 (.inr ((h x).1 g))
 exact Nat.le_antisymm (key h) (key fun x => (h x).symm)
theorem fnot : ¬ (false = true) := by decide
structure OntoP (n m : Nat) (P : Nat → Nat) : Prop where
 dom : ∀ i, i < n ↔ P i < m
 sur : ∀ b, b < m → ∃ i, P i = b
section
variable {n m : Nat} {er em : List Ed} {P : Nat → Nat}
theorem quo_classes (he : EdIn n er) (hem : EdIn m em) (hs : Stb (nE er) (0 : Int) (false = true) P) (hM : QuoB (nE er) (nE em) (0 : Int) (false = true) P) (hP : OntoP n m P) {r r' : Nat} (hL : LastG (refB er n false) n r) (hL' : LastG (refB em m false) m r') {x y : Nat} (hx : x < n) (hy : y < n) :
  sameB (itP (refB er n false) n r) x y ↔ sameB (itP (refB em m false) m r') (P x) (P y) := by
 classical
 have hp := itP_part (refB_ref (d := false) he) r;have hp' := itP_part (refB_ref (d := false) hem) r';have hst := stable_stb he hp hL.1;have hst' := stable_stb hem hp' hL'.1
 constructor
 ·intro h
  -- the classes of the system, on its quotient
  have hPP : ∀ {a b : Nat}, a < n → P a = P b → sameB (itP (refB er n false) n r) a b := fun {a b} ha e =>
   stb_rnd he hs (fun x y e => by rw [hP.dom, hP.dom, e]) r ha ((hP.dom b).2 (e ▸ (hP.dom a).1 ha)) e
  obtain ⟨ch, hch⟩ : ∃ ch : Nat → Nat, ∀ b, b < m → P (ch b) = b := ⟨fun b => if hb : b < m then (hP.sur b hb).choose else 0, fun b hb => by dsimp only; rw [dif_pos hb]; exact (hP.sur b hb).choose_spec⟩;have hpm : ∀ a, (fun u => if u < m then pq (itP (refB er n false) n r) (ch u) else none) (P a) = pq (itP (refB er n false) n r) a := fun a => by
   dsimp only
   by_cases ha : a < n
   ·have h1 := (hP.dom a).1 ha
    rw [if_pos h1];have h2 := hch _ h1;exact hPP ((hP.dom _).2 (by rw [h2]; exact h1)) h2
   ·rw [if_neg fun g => ha ((hP.dom a).2 g)]
    unfold pq;rw [List.getElem?_eq_none (by rw [hp.len]; omega)]
  have hin : ∀ u, u < m → ∃ z, (fun u => if u < m then pq (itP (refB er n false) n r) (ch u) else none) u = some z := fun u hu => by
   dsimp only;rw [if_pos hu];have := (hP.dom (ch u)).2 (by rw [hch u hu]; exact hu);exact ⟨_, List.getElem?_eq_getElem (by rw [hp.len]; exact this)⟩
  have hout : ∀ u, ¬ u < m → (fun u => if u < m then pq (itP (refB er n false) n r) (ch u) else none) u = none := fun u hu => if_neg hu
  have hr : ∀ u v, (fun u => if u < m then pq (itP (refB er n false) n r) (ch u) else none) u = (fun u => if u < m then pq (itP (refB er n false) n r) (ch u) else none) v → (u < m ↔ v < m) := fun u v e => by
   constructor
   ·intro hu
    obtain ⟨z, hz⟩ := hin u hu;exact Classical.byContradiction fun hv => by rw [e, hout v hv] at hz; cases hz
   ·intro hv
    obtain ⟨z, hz⟩ := hin v hv;exact Classical.byContradiction fun hu => by rw [← e, hout u hu] at hz; cases hz
  have h1 : Stb (nE em) (0 : Int) (false = true) (fun u => if u < m then pq (itP (refB er n false) n r) (ch u) else none) := by
   refine stb_down fnot hs hM ?_ fun u v l b hq ho => ?_
   ·rw [show (fun x => (fun u => if u < m then pq (itP (refB er n false) n r) (ch u) else none) (P x)) = pq (itP (refB er n false) n r) from funext hpm]
    exact hst
   ·have hu : u < m := Classical.byContradiction fun hu => none_off hem hu ho
    exact ⟨ch u, ch v, hch u hu, hch v ((hr u v hq).1 hu)⟩
  refine stb_rnd hem h1 hr r' ((hP.dom x).1 hx) ((hP.dom y).1 hy) ?_;have e1 := hpm x;have e2 := hpm y;dsimp only at e1 e2 ⊢;rw [e1, e2];exact h
 ·intro h
  have h1 := comp_stb hs hM hst';exact stb_rnd he h1 (fun a b e => by
   have e : pq (itP (refB em m false) m r') (P a) = pq (itP (refB em m false) m r') (P b) := e;rw [hP.dom, hP.dom];exact pq_in hp'.len e) r hx hy h
theorem quo_numB (he : EdIn n er) (hem : EdIn m em) (hs : Stb (nE er) (0 : Int) (false = true) P) (hM : QuoB (nE er) (nE em) (0 : Int) (false = true) P) (hP : OntoP n m P) {r r' : Nat} (hL : LastG (refB er n false) n r) (hL' : LastG (refB em m false) m r') :
  numB (itP (refB em m false) m r') = numB (itP (refB er n false) n r) := by
 have hp := itP_part (refB_ref (d := false) he) r;have hp' := itP_part (refB_ref (d := false) hem) r';obtain ⟨p2, hp2⟩ : ∃ p2, p2 = (List.range n).map fun i => ((itP (refB em m false) m r')[P i]?).getD 0 := ⟨_, rfl⟩
 have hl2 : p2.length = n := by rw [hp2]; simp
 have hat : ∀ i, i < n → p2[i]? = (itP (refB em m false) m r')[P i]? := fun i hi => by
  have h1 : P i < (itP (refB em m false) m r').length := by rw [hp'.len]; exact (hP.dom i).1 hi
  rw [hp2, List.getElem?_map, List.getElem?_range hi, Option.map_some, List.getElem?_eq_getElem h1]
  rfl
 have hsame : ∀ i j, i < n → j < n → (sameB p2 i j ↔ sameB (itP (refB er n false) n r) i j) := fun i j hi hj => by
  rw [quo_classes he hem hs hM hP hL hL' hi hj];unfold sameB;rw [hat i hi, hat j hj]
 have h1 : numB p2 = numB (itP (refB er n false) n r) := by
  refine Nat.le_antisymm (numB_fine (p := p2) (q := itP (refB er n false) n r) (by rw [hl2, hp.len]) fun i j hi hj h => (hsame i j (by omega) (by omega)).2 h).1 (numB_fine (p := itP (refB er n false) n r) (q := p2) (by rw [hl2, hp.len]) fun i j hi hj h => ?_).1;rw [hp.len] at hi hj;exact (hsame i j hi hj).1 h
 rw [← h1];refine numB_vals fun z => ?_
 constructor
 ·intro hz
  obtain ⟨b, hb⟩ := List.getElem?_of_mem hz;have hbm := (List.getElem?_eq_some_iff.1 hb).1;rw [hp'.len] at hbm;obtain ⟨i, rfl⟩ := hP.sur b hbm;exact List.mem_of_getElem? ((hat i ((hP.dom i).2 hbm)).trans hb)
 ·intro hz
  obtain ⟨i, hi⟩ := List.getElem?_of_mem hz;have hin := (List.getElem?_eq_some_iff.1 hi).1;rw [hl2] at hin;rw [hat i hin] at hi;exact List.mem_of_getElem? hi
end
end Go.Proofs.YtnhomkmfbngmgaaGreatDoor
