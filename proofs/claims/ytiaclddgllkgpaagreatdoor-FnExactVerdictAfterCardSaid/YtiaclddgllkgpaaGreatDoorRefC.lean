/-
  The states after a trace, by the reference. Conditions: sizes.
-/
import Derived.Test.YtiaclddgllkgpaaGreatDoorSettle
import Derived.Test.YtiaclddgllkgpaaGreatDoorDistS
import Derived.Test.YtiaclddgllkgpaaGreatDoorRunU
import Derived.Test.YtiaclddgllkgpaaGreatDoorAlong
import Derived.Test.YtiaclddgllkgpaaGreatDoorObsW
namespace Go.Proofs.YtiaclddgllkgpaaGreatDoor
open Go.ChangeShapes Go.WideShapes Go.ChangeAt Go.RowKit Go.Sort
set_option linter.unusedVariables false
set_option linter.unusedSimpArgs false

theorem lab_zero {st ini : Int} {ls : List ByteArray} {es : List Ed} (h : ltsV (st, ini, ls, es) = true) : ls[0]? = some tauB := by
  have hn := names_of h
  unfold namesB at hn
  rw [Bool.and_eq_true] at hn
  have hl := inB_true.1 hn.1
  have hx : ls[0]? = some (ls[0]'(by omega)) := List.getElem?_eq_getElem _
  have h0 := allK_get hn.2 (show 0 < ls.length by omega)
  rw [okL_zero hx] at h0
  rw [hx, of_decide_eq_true h0]
theorem lab_at {st ini : Int} {ls : List ByteArray} {es : List Ed} (h : ltsV (st, ini, ls, es) = true) {e : Ed} (he : e ∈ es) {k : Nat} {x : ByteArray} (hk : ls[k]? = some x) : ls[e.2.1.toNat]? = some x ↔ e.2.1 = (k : Int) := by
  obtain ⟨j, hj⟩ := List.getElem?_of_mem he
  obtain ⟨f, lb, tg⟩ := e
  have hb := (edge_of h hj).2.2
  dsimp only
  constructor
  · intro h1
    have := labs_uniq (names_of h) h1 hk
    omega
  · intro h1
    rw [h1, Int.toNat_natCast]
    exact hk

/-- The set while it is closed: what is in it is reached; the edges ahead of j lead within it. -/
structure CloI (es : List Ed) (ls : List ByteArray) (l0 l : List Bool) (n j : Nat) (more : Bool) : Prop where
  len : l.length = n
  sound : ∀ v : Nat, inS l v = true → TauC es ls (fun u => 0 ≤ u ∧ inS l0 u.toNat = true) (v : Int)
  base : ∀ v : Nat, inS l0 v = true → inS l v = true
  clos : more = false → ∀ i, i < j → ∀ e, es[i]? = some e → e.2.1 = 0 → inS l e.1.toNat = true → inS l e.2.2.toNat = true
theorem CloI.start {es : List Ed} {ls : List ByteArray} {l0 : List Bool} {n : Nat} (h : l0.length = n) (more : Bool) : CloI es ls l0 l0 n 0 more :=
  ⟨h, fun v hv => .base ⟨by omega, by rw [Int.toNat_natCast]; exact hv⟩, fun v hv => hv, fun _ i hi => by omega⟩
theorem CloI.again {es : List Ed} {ls : List ByteArray} {l0 l : List Bool} {n j : Nat} {m : Bool} (h : CloI es ls l0 l n j m) : CloI es ls l0 l n 0 false := ⟨h.len, h.sound, h.base, fun _ i hi => by omega⟩
theorem CloI.skip {es : List Ed} {ls : List ByteArray} {l0 l : List Bool} {n j : Nat} {m : Bool} (h : CloI es ls l0 l n j m) {e : Ed} (hx : es[j]? = some e) (hn : e.2.1 = 0 → inS l e.1.toNat = true → inS l e.2.2.toNat = true) : CloI es ls l0 l n (j + 1) m :=
  ⟨h.len, h.sound, h.base, fun hm i hi e' he' => by
    by_cases hij : i = j
    · subst hij
      rw [hx] at he'
      cases he'
      exact hn
    · exact h.clos hm i (by omega) e' he'⟩
theorem CloI.hit {st ini : Int} {es : List Ed} {ls : List ByteArray} (hval : ltsV (st, ini, ls, es) = true) {l0 l : List Bool} {n j : Nat} {m : Bool} (h : CloI es ls l0 l n j m) {e : Ed} (hx : es[j]? = some e) (h0 : e.2.1 = 0) (hf : inS l e.1.toNat = true) (ht : e.2.2.toNat < n) : CloI es ls l0 (l.set e.2.2.toNat true) n (j + 1) true := by
  have hl : e.2.2.toNat < l.length := by rw [h.len]; exact ht
  obtain ⟨f, lb, tg⟩ := e
  have hb := edge_of hval hx
  dsimp only at h0 hf ht hl ⊢
  refine ⟨by rw [List.length_set]; exact h.len, fun v hv => ?_, fun v hv => ?_, fun e => by cases e⟩
  · rw [inS_set hl] at hv
    split at hv
    · rename_i e1
      subst e1
      have h1 := h.sound _ hf
      rw [Int.toNat_of_nonneg hb.1.1] at h1
      rw [Int.toNat_of_nonneg hb.2.1.1]
      exact .step (e := (f, lb, tg)) h1 (List.mem_of_getElem? hx) ((lab_at hval (List.mem_of_getElem? hx) (lab_zero hval)).2 h0)
    · exact h.sound v hv
  · rw [inS_set hl]
    split
    · rfl
    · exact h.base v hv
theorem CloI.done {st ini : Int} {es : List Ed} {ls : List ByteArray} (hval : ltsV (st, ini, ls, es) = true) {l0 l : List Bool} {n j : Nat} (h : CloI es ls l0 l n j false) (hj : es.length ≤ j) (v : Int) (hv : 0 ≤ v) : inS l v.toNat = true ↔ TauC es ls (fun u => 0 ≤ u ∧ inS l0 u.toNat = true) v := by
  constructor
  · intro h1
    have := h.sound _ h1
    rwa [Int.toNat_of_nonneg hv] at this
  · intro h1
    clear hv
    induction h1 with
    | base h2 => exact h.base _ h2.2
    | @step e _ he hl ih =>
      obtain ⟨i, hi⟩ := List.getElem?_of_mem he
      exact h.clos rfl i (by have := (List.getElem?_eq_some_iff.1 hi).1; omega) e hi ((lab_at hval he (lab_zero hval)).1 hl) ih
/-- Where a set lies. -/
def BoB (w : World) (B n : Nat) (l : List Bool) : Prop := SlB w B (B + 1) (some ⟨B, 0, none⟩) n l
theorem BoB.sav {w w' : World} {B n x : Nat} {l : List Bool} (h : BoB w B n l) (hs : Sav x w w') (hx : B ≠ x) : BoB w' B n l := Sl.keep h hs.size fun b h1 h2 h3 => hs.block b h3 (by omega)
theorem BoB.below {w w' : World} {B n : Nat} {l : List Bool} (h : BoB w B n l) (hs : Below w.heap.size w w') : BoB w' B n l := Sl.below h hs (.inr (Nat.le_refl _))
theorem BoB.get {w : World} {B n : Nat} {l : List Bool} (h : BoB w B n l) {k : Nat} (hk : k < n) : w.cell? ⟨B, k, none⟩ = some (.bool (inS l k)) ∧ w.frozen? ⟨B, k, none⟩ = false ∧ B < w.heap.size ∧ ∀ c, BoB (w.setCell ⟨B, k, none⟩ (.bool c)) B n (l.set k c) := by
  obtain ⟨b, o, e, -, -, g, -, c0, c1⟩ := SlB.get h hk
  injection e with e
  injection e with e1 e2
  subst e1 e2
  rw [Nat.zero_add] at c0 c1
  exact ⟨c0, c1, g, fun c => by have := SlB.put h hk c; rwa [Nat.zero_add] at this⟩
theorem BoB.made (w : World) (n : Nat) : BoB (w.alloc (.cells (madeCells #[.bool false] n) 4)) w.heap.size n (setOf n fun _ => false) := SlB.made w n

set_option maxRecDepth 100000 in
set_option maxHeartbeats 1600000 in
theorem l12Marks_calls (bt : Nat) (x : CL) (n : Nat) (ini : Int) (ls : List ByteArray) (es : List Ed) (A1 : Option Addr) (n1 c1 : Nat) (S : List Int) (w : World) (lo hi : Nat) (h : LtsAt w bt x ((n : Int), ini, ls, es)) (t1 : SlI w lo hi A1 n1 S) (hn1 : n1 ≤ 1048576) (hn : n ≤ 1000) (hS : ∀ v, v ∈ S → 0 ≤ v ∧ v < (n : Int)) :
    Calls Tryz.prog 181 #[.pointer (some ⟨bt, 0, none⟩), .slice A1 n1 c1] w fun e w' => ∃ B l, e = .returned (.slice (some ⟨B, 0, none⟩) n n) ∧ BoB w' B n l ∧ w.heap.size ≤ B ∧ (∀ v : Int, 0 ≤ v → (inS l v.toNat = true ↔ v ∈ S)) ∧ Below w.heap.size w w' := by
  obtain ⟨s0, s1, v2, v3⟩ := x
  obtain ⟨⟨e0, e1, -, -⟩, -, hbt, c0, -, -, -⟩ := h
  dsimp only at *
  subst e0 e1
  have hmk := run_make_bool n (by omega)
  have l1 := hide t1.len
  have hb0 : Below w.heap.size w (w.alloc (.cells (madeCells #[.bool false] n) 4)) := (Below.refl _ _).alloc (Nat.le_refl _) _
  have hst : Hid (BoB (w.alloc (.cells (madeCells #[.bool false] n) 4)) w.heap.size n (setOf n fun _ => false)) := BoB.made w n
  have hinv : Hid (∀ v : Int, 0 ≤ v → (inS (setOf n fun _ => false) v.toNat = true ↔ v ∈ S.take 0)) := fun v _ => by rw [inS_setOf]; simp
  replace t1 := hide t1
  replace hS := hide hS
  go_enter Tryz.func181, Tryz.ntmps181
  go_upto_region 3 with fail
  clear hmk
  generalize (w.alloc (.cells (madeCells #[.bool false] n) 4)) = W0 at *
  go_loopg [6] n1 (fun G i wr => ∃ (k : Nat) (l : List Bool), k ≤ n1 ∧ i = .int .i64 (k : Nat) ∧ Hid (BoB wr w.heap.size n l) ∧ Hid (∀ v : Int, 0 ≤ v → (inS l v.toNat = true ↔ v ∈ S.take k)) ∧ Below w.heap.size w wr ∧ Hid (n1 - k ≤ G))
  case atStart => exact ⟨0, _, Nat.zero_le _, rfl, hst, hinv, hb0, by show _ ≤ _; omega⟩
  case round =>
    clear hst hinv hb0
    obtain ⟨k, l, hk, rfl, hst, hinv, hb, hG⟩ := hrel
    by_cases hlt : k < n1
    · obtain ⟨G2, rfl⟩ : ∃ G2, gk = G2 + 1 := ⟨gk - 1, by have := hG.out; omega⟩
      have hG2 : Hid (n1 - (k + 1) ≤ G2) := by have := hG.out; show _ ≤ _; omega
      obtain ⟨b, off, u, rfl, -, -, g3, hx, p0, -⟩ := SlI.get (t1.out.below hb (.inr (Nat.le_refl _))) hlt
      have hu := hS.out u (List.mem_of_getElem? hx)
      obtain ⟨y, rfl⟩ : ∃ y : Nat, u = (y : Int) := ⟨u.toNat, by omega⟩
      obtain ⟨d0, d1, d2, d3⟩ := hst.out.get (k := y) (by omega)
      have hst' := hide (d3 true)
      have hinv' : Hid (∀ v : Int, 0 ≤ v → (inS (l.set y true) v.toNat = true ↔ v ∈ S.take (k + 1))) := fun v hv => by
        have hl : l.length = n := hst.out.1
        rw [inS_set (by rw [hl]; omega), List.take_add_one, hx, List.mem_append]
        by_cases e : y = v.toNat
        · rw [if_pos e]
          simp only [true_iff]
          exact .inr (by simp; omega)
        · rw [if_neg e, hinv.out v hv]
          constructor
          · exact .inl
          · rintro (h1 | h1)
            · exact h1
            · simp at h1; omega
      have hbw := hide (hb.setCell (p := ⟨w.heap.size, y, none⟩) (Nat.le_refl _) (.bool true))
      have hI0 : (0 : Int) ≤ (k : Int) := by omega
      have hI1 : (k : Int) < (n1 : Int) := by omega
      have hI2 : (0 : Int) ≤ (y : Int) := by omega
      have hI3 : (y : Int) < (n : Int) := hu.2
      clear hst hinv hx hu d3 hb
      go_wp2_with fail
      go_roundg G2
      case measure => omega
      case rel => exact ⟨k + 1, _, by omega, by go_num, hst', hinv', hbw.out, hG2⟩
    · have hkn : k = n1 := by omega
      subst hkn
      have hall : S.take k = S := List.take_of_length_le (by rw [l1.out]; exact Nat.le_refl _)
      rw [hall] at hinv
      replace hb := hide hb
      go_wp2_with fail
      go_ret
      exact ⟨_, l, rfl, hst.out, Nat.le_refl _, hinv.out, hb.out⟩

set_option maxRecDepth 100000 in
set_option maxHeartbeats 3200000 in
theorem l12Close_calls (bt : Nat) (x : CL) (n : Nat) (ini : Int) (ls : List ByteArray) (es : List Ed) (B : Nat) (l0 : List Bool) (w0 w : World) (h : LtsAt w0 bt x ((n : Int), ini, ls, es)) (hval : ltsV ((n : Int), ini, ls, es) = true) (h0 : Below w0.heap.size w0 w) (hB : w0.heap.size ≤ B) (hl0 : BoB w B n l0) :
    Calls Tryz.prog 182 #[.pointer (some ⟨bt, 0, none⟩), .slice (some ⟨B, 0, none⟩) n n] w fun e w' => e = .returned (.tuple #[]) ∧ ∃ l, BoB w' B n l ∧ (∀ v : Int, 0 ≤ v → (inS l v.toNat = true ↔ TauC es ls (fun u => 0 ≤ u ∧ inS l0 u.toNat = true) v)) ∧ Sav B w w' := by
  obtain ⟨s0, s1, v2, v3⟩ := x
  obtain ⟨⟨e0, e1, -, ⟨A3, n3, k3, e3, hn3, t3⟩⟩, htot, hbt, -, -, -, c3⟩ := h
  dsimp only at *
  subst e0 e1 e3
  have l3 := t3.len
  have hes : n3 ≤ 1048576 := by rw [← l3]; exact Nat.le_trans (totL_edg ((n : Int), s1, ls, es)) htot
  replace l3 := hide l3
  replace t3 := hide t3
  replace hval := hide hval
  have hBw := (hl0.2 (by have := lts_boundsA hval.out; omega))
  have hst : Hid (CloI es ls l0 l0 n n3 true) := ⟨hl0.1, fun v hv => .base ⟨by omega, by rw [Int.toNat_natCast]; exact hv⟩, fun v hv => hv, fun e => by cases e⟩
  replace hl0 := hide hl0
  clear htot hn3 hBw
  go_enter Tryz.func182, Tryz.ntmps182
  go_upto_region 1 with fail
  go_loopg [4] (l0.count false + 1) (fun N m wr => ∃ (l : List Bool) (mm : Bool), m = .bool mm ∧ Hid (CloI es ls l0 l n n3 mm) ∧ Hid (BoB wr B n l) ∧ Hid (l.count false + mm.toNat ≤ N) ∧ Sav B w wr)
  case atStart => exact ⟨l0, true, rfl, hst, hl0, by show _ ≤ _; simp, Sav.refl _ _⟩
  case round =>
    clear hst hl0
    obtain ⟨l, mm, rfl, hc, hbo, hN, hsv⟩ := hrel
    cases mm with
    | false =>
      have hfin := hide (fun v hv => hc.out.done hval.out (by have := l3.out; omega) v hv)
      clear hc
      go_wp2_with fail
      go_end0
      exact ⟨rfl, l, hbo.out, hfin.out, hsv⟩
    | true =>
      obtain ⟨N, rfl⟩ : ∃ N, gk = N + 1 := ⟨gk - 1, by have := hN.out; simp only [Bool.toNat_true] at this; omega⟩
      have hc1 := hide hc.out.again
      have hN1 : Hid (l.count false + false.toNat ≤ N) := by have := hN.out; simp only [Bool.toNat_true] at this; show _ ≤ _; simp; omega
      clear hc hN
      go_upto_region 4 with fail
      go_loopg [4, 5] n3 (fun G m i wr => ∃ (j : Nat) (l : List Bool) (mm : Bool), j ≤ n3 ∧ m = .bool mm ∧ i = .int .i64 (j : Nat) ∧ Hid (CloI es ls l0 l n j mm) ∧ Hid (BoB wr B n l) ∧ Hid (l.count false + mm.toNat ≤ N) ∧ Sav B w wr ∧ Hid (n3 - j ≤ G))
      case atStart => exact ⟨0, l, false, Nat.zero_le _, rfl, rfl, hc1, hbo, hN1, hsv, by show _ ≤ _; omega⟩
      case round =>
        clear hc1 hbo hN1 hsv
        obtain ⟨j, l, mm, hj, rfl, rfl, hc, hbo, hN, hsv, hG⟩ := hrel
        have hb9 := h0.trans (hsv.below hB h0.size)
        have y3 := (hb9.cell (p := ⟨bt, 3, none⟩) hbt).trans c3
        by_cases hlt : j < n3
        · obtain ⟨G2, rfl⟩ : ∃ G2, gk = G2 + 1 := ⟨gk - 1, by have := hG.out; omega⟩
          have hG2 : Hid (n3 - (j + 1) ≤ G2) := by have := hG.out; show _ ≤ _; omega
          obtain ⟨b, off, f, lb, tg, rfl, -, -, g3, hx, p0, p1, p2, -, -, -⟩ := SlE.get t3.out hlt
          replace p0 := (hb9.cell g3).trans p0
          replace p1 := (hb9.cell (p := ⟨b, off + j * 3 + 1, none⟩) g3).trans p1
          replace p2 := (hb9.cell (p := ⟨b, off + j * 3 + 2, none⟩) g3).trans p2
          have hed := edge_of hval.out hx
          obtain ⟨fn, rfl⟩ : ∃ fn : Nat, f = (fn : Int) := ⟨f.toNat, by omega⟩
          obtain ⟨tn, rfl⟩ : ∃ tn : Nat, tg = (tn : Int) := ⟨tg.toNat, by omega⟩
          have hbE : Below wr.heap.size wr (wr.alloc (.cells #[.int .i64 (fn : Int), .int .i64 lb, .int .i64 (tn : Int)] 86)) := (Below.refl _ _).alloc (Nat.le_refl _) _
          have kE := heap_alloc_new wr (.cells #[.int .i64 (fn : Int), .int .i64 lb, .int .i64 (tn : Int)] 86)
          have z0 : (wr.alloc (.cells #[.int .i64 (fn : Int), .int .i64 lb, .int .i64 (tn : Int)] 86)).cell? ⟨wr.heap.size, 0, none⟩ = some (.int .i64 (fn : Int)) := (cell_of_row _ _ 0 _ _ (0, 0) kE).trans rfl
          have z1 : (wr.alloc (.cells #[.int .i64 (fn : Int), .int .i64 lb, .int .i64 (tn : Int)] 86)).cell? ⟨wr.heap.size, 1, none⟩ = some (.int .i64 lb) := (cell_of_row _ _ 1 _ _ (0, 0) kE).trans rfl
          have z2 : (wr.alloc (.cells #[.int .i64 (fn : Int), .int .i64 lb, .int .i64 (tn : Int)] 86)).cell? ⟨wr.heap.size, 2, none⟩ = some (.int .i64 (tn : Int)) := (cell_of_row _ _ 2 _ _ (0, 0) kE).trans rfl
          have hboE := hbo.out.below hbE
          obtain ⟨f0, f1, f2, -⟩ := hboE.get (k := fn) (by omega)
          obtain ⟨m0, m1, -, m3⟩ := hboE.get (k := tn) (by omega)
          have hsE := hide (hsv.trans (Sav.of_below hbE))
          have hI0 : (0 : Int) ≤ (j : Int) := by omega
          have hI1 : (j : Int) < (n3 : Int) := by omega
          have hI2 : (0 : Int) ≤ (fn : Int) := by omega
          have hI3 : (fn : Int) < (n : Int) := by omega
          have hI4 : (0 : Int) ≤ (tn : Int) := by omega
          have hI5 : (tn : Int) < (n : Int) := by omega
          have hmt := hide (m3 true)
          have hboE' := hide hboE
          have hx' := hide hx
          clear kE hbE hbo hb9 hboE hed m3 hsv hx
          by_cases hl : lb = 0
          · subst hl
            cases hf : inS l fn with
            | false =>
              have hc2 := hide (hc.out.skip hx'.out fun _ h1 => by dsimp only at h1; rw [Int.toNat_natCast, hf] at h1; cases h1)
              rw [hf] at f0
              clear hc hf hmt
              go_wp2_with fail
              go_roundg G2
              case measure => omega
              case rel => exact ⟨j + 1, l, mm, by omega, rfl, by go_num, hc2, hboE', hN, hsE.out, hG2⟩
            | true =>
              rw [hf] at f0
              cases ht : inS l tn with
              | true =>
                have hc2 := hide (hc.out.skip hx'.out fun _ _ => by dsimp only; rw [Int.toNat_natCast]; exact ht)
                rw [ht] at m0
                clear hc hf ht hmt
                go_wp2_with fail
                go_roundg G2
                case measure => omega
                case rel => exact ⟨j + 1, l, mm, by omega, rfl, by go_num, hc2, hboE', hN, hsE.out, hG2⟩
              | false =>
                have hc2 := hide (hc.out.hit hval.out hx'.out rfl (by dsimp only; rw [Int.toNat_natCast]; exact hf) (by dsimp only; rw [Int.toNat_natCast]; omega))
                simp only [Int.toNat_natCast] at hc2
                have hcnt : Hid ((l.set tn true).count false + true.toNat ≤ N) := by
                  have h1 := inS_get (s := l) (v := tn) (by rw [hc.out.len]; omega)
                  rw [ht] at h1
                  have h2 := count_set h1
                  have h3 := hN.out
                  simp only [Bool.not_false] at h2
                  show _ ≤ _
                  simp only [Bool.toNat_true]
                  omega
                rw [ht] at m0
                have hs2 := hide (hsE.out.trans (Sav.set _ ⟨B, tn, none⟩ (.bool true)))
                clear hc hf ht hN hsE hboE'
                go_wp2_with fail
                go_roundg G2
                case measure => omega
                case rel => exact ⟨j + 1, _, true, by omega, rfl, by go_num, hc2, hmt, hcnt, hs2.out, hG2⟩
          · have hc2 := hide (hc.out.skip hx'.out fun h1 => absurd h1 hl)
            have hl' : (lb == 0) = false := by rw [beq_eq_false_iff_ne]; exact hl
            clear hc hmt
            go_wp2_with fail
            go_roundg G2
            case measure => omega
            case rel => exact ⟨j + 1, l, mm, by omega, rfl, by go_num, hc2, hboE', hN, hsE.out, hG2⟩
        · have hjn : j = n3 := by omega
          subst hjn
          replace hb9 := hide hb9
          go_wp2_with fail
          go_roundg N
          case measure => omega
          case rel => exact ⟨l, mm, rfl, hc, hbo, hN, hsv⟩

/-- The places of a list that hold. -/
def lstB (l : List Bool) (k : Nat) : List Int := ((List.range k).filter (inS l)).map fun v : Nat => (v : Int)
theorem lstB_succ {l : List Bool} {k : Nat} : lstB l (k + 1) = lstB l k ++ (if inS l k = true then [(k : Int)] else []) := by
  unfold lstB
  rw [List.range_succ, List.filter_append, List.map_append]
  congr 1
  by_cases h : inS l k = true
  · simp [h]
  · simp [h]
theorem lstB_mem {l : List Bool} {v : Int} : v ∈ lstB l l.length ↔ 0 ≤ v ∧ inS l v.toNat = true := by
  unfold lstB
  rw [List.mem_map]
  constructor
  · rintro ⟨k, hk, rfl⟩
    rw [Int.toNat_natCast]
    exact ⟨by omega, (List.mem_filter.1 hk).2⟩
  · rintro ⟨h0, h1⟩
    exact ⟨v.toNat, List.mem_filter.2 ⟨List.mem_range.2 (inS_lt h1), h1⟩, by omega⟩
theorem lstB_len (l : List Bool) (k : Nat) : (lstB l k).length ≤ k := by
  unfold lstB
  rw [List.length_map]
  exact Nat.le_trans (List.length_filter_le _ _) (by rw [List.length_range]; exact Nat.le_refl _)

set_option maxRecDepth 100000 in
set_option maxHeartbeats 1600000 in
theorem l14List_calls (B n : Nat) (l : List Bool) (w : World) (h : BoB w B n l) (hn : n ≤ 1000) :
    Calls Tryz.prog 183 #[.slice (some ⟨B, 0, none⟩) n n] w fun e w' => ∃ A m c R, e = .returned (.slice A m c) ∧ SlI w' w.heap.size w'.heap.size A m R ∧ m ≤ n ∧ (∀ v, v ∈ R ↔ 0 ≤ v ∧ inS l v.toNat = true) ∧ Below w.heap.size w w' := by
  have hE := hide elem_int
  have hlen := h.1
  go_enter Tryz.func183, Tryz.ntmps183
  go_upto_region 3 with fail
  go_loopg [3, 4] n (fun G o i wr => ∃ (k m c : Nat) (A : Option Addr), k ≤ n ∧ m ≤ k ∧ o = .slice A m c ∧ i = .int .i64 (k : Nat) ∧ Hid (Own 1 iv wr w.heap.size 2 A m c (lstB l k)) ∧ Below w.heap.size w wr ∧ Hid (n - k ≤ G))
  case atStart => first
    | exact ⟨0, 0, 0, none, Nat.zero_le _, Nat.le_refl _, rfl, rfl, Own.nil_ _ _ _, Below.refl _ _, by show _ ≤ _; omega⟩
    | exact ⟨0, 0, 0, _, Nat.zero_le _, Nat.le_refl _, rfl, rfl, Own.made w 2 (Nat.le_refl _), (Below.refl _ _).alloc (Nat.le_refl _) _, by show _ ≤ _; omega⟩
  case round =>
    obtain ⟨k, m, c, A, hk, hmk, rfl, rfl, hown, hb, hG⟩ := hrel
    by_cases hlt : k < n
    · obtain ⟨G2, rfl⟩ : ∃ G2, gk = G2 + 1 := ⟨gk - 1, by have := hG.out; omega⟩
      have hG2 : Hid (n - (k + 1) ≤ G2) := by have := hG.out; show _ ≤ _; omega
      obtain ⟨p0, -, p1, -⟩ := BoB.get h hlt
      replace p0 := (hb.cell (p := ⟨B, k, none⟩) p1).trans p0
      have hI0 : (0 : Int) ≤ (k : Int) := by omega
      have hI1 : (k : Int) < (n : Int) := by omega
      have hsu := lstB_succ (l := l) (k := k)
      cases hv : inS l k with
      | false =>
        rw [hv] at p0 hsu
        rw [if_neg (by decide), List.append_nil] at hsu
        have hown2 : Hid (Own 1 iv wr w.heap.size 2 A m c (lstB l (k + 1))) := by show Own _ _ _ _ _ _ _ _ _; rw [hsu]; exact hown.out
        clear hsu hv hown
        go_wp2_with fail
        go_roundg G2
        case measure => omega
        case rel => exact ⟨k + 1, m, c, A, by omega, by omega, rfl, by go_num, hown2, hb, hG2⟩
      | true =>
        rw [hv] at p0 hsu
        rw [if_pos rfl] at hsu
        replace hsu := hide hsu
        have hza : ∀ o, w.heap.size ≤ (wr.alloc o).heap.size := fun o => by rw [World.size_alloc]; have := hb.size; omega
        have hbs := hb.size
        replace hb := hide hb
        clear hv
        go_wp2_with (first | (at_builtin; (with_reducible refine wpList_app rfl (.tmp 16) (.tmp 18) rfl hE.out flat_iv rfl (hown.out.alloc _) rfl (Sl.lit1' wr 2 (k : Int) _ rfl 1 _ ?c0) ?c1 (hza _) ?_); rotate_right; intro A7 c7 w7 hown7 hgr7 hb7 _))
        case c0 => rfl
        case c1 => omega
        have hb8 := hide ((hb.out.alloc hbs (.cells #[.int .i64 (k : Int)] 2)).trans hb7)
        replace hown7 : Hid (Own 1 iv w7 w.heap.size 2 A7 (m + 1) c7 (lstB l (k + 1))) := by show Own _ _ _ _ _ _ _ _ _; rw [hsu.out]; exact hown7
        clear hgr7 hb7
        go_roundg G2
        case measure => omega
        case rel => exact ⟨k + 1, m + 1, c7, A7, by omega, by omega, rfl, by go_num, hown7, hb8.out, hG2⟩
    · have hkn : k = n := by omega
      subst hkn
      have hres := hide (hown.out.sl flat_iv)
      have hmem : Hid (∀ v, v ∈ lstB l k ↔ 0 ≤ v ∧ inS l v.toNat = true) := fun v => by rw [← hlen]; exact lstB_mem
      clear hown
      go_wp2_with fail
      go_ret
      exact ⟨A, m, c, _, rfl, hres.out, hmk, hmem.out, hb⟩

end Go.Proofs.YtiaclddgllkgpaaGreatDoor
