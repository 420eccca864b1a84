/-
  The first label at a pair that is prevented and not controlled, by the program. Conditions: sizes.
-/
import Derived.Test.YtiaclddgllkgpaaGreatDoorCtl
import Derived.Test.YtiaclddgllkgpaaGreatDoorPrevI
namespace Go.Proofs.YtiaclddgllkgpaaGreatDoor
open Go.ChangeShapes Go.WideShapes Go.ChangeAt Go.RowKit Go.Sort
set_option linter.unusedVariables false
set_option linter.unusedSimpArgs false

def ctlB (ns : List ByteArray) (lab : ByteArray) : Bool := anyL ns (namS lab)
theorem totS_mem : ∀ {l : List ByteArray} {s : ByteArray}, s ∈ l → s.size ≤ totS l
  | a :: l, s, h => by
    rcases List.mem_cons.1 h with rfl | h
    · unfold totS; simp; omega
    · have := totS_mem h
      unfold totS at this ⊢
      simp
      omega
theorem labE_ok {st ini : Int} {ls : List ByteArray} {es : List Ed} (h : detV (st, ini, ls, es) = true) {e : Ed} (he : e ∈ es) : labS (labE ls e) = true := by
  have h1 := det_first h e he
  have h2 := labE_at h he
  have hn := names_of (det_ltsA h)
  unfold namesB at hn
  rw [Bool.and_eq_true] at hn
  have hlt := (List.getElem?_eq_some_iff.1 h2).1
  have hk := allK_get hn.2 hlt
  obtain ⟨z, hz⟩ : ∃ z, ls[e.2.1.toNat - 1]? = some z := ⟨_, List.getElem?_eq_getElem (by omega)⟩
  rw [okL_at h2 (by omega) hz] at hk
  simp only [Bool.and_eq_true] at hk
  exact hk.1.1
theorem prv_lab {st ini : Int} {ls : List ByteArray} {es : List Ed} (h : detV (st, ini, ls, es) = true) (s : DL) (x y : Int) : ∀ r ∈ prvL (st, ini, ls, es) s x y, labS r = true := fun r hr => by
  unfold prvL prvE at hr
  obtain ⟨e, he, rfl⟩ := List.mem_map.1 hr
  exact labE_ok h (List.mem_filter.1 (List.mem_filter.1 he).1).1
theorem labS_ne {r : ByteArray} (h : labS r = true) : r ≠ ⟨#[]⟩ := by
  rintro rfl
  revert h
  decide +kernel
theorem find_take {l : List ByteArray} {f : ByteArray → Bool} {k : Nat} {x : ByteArray} (hx : l[k]? = some x) (h : (l.take k).find? f = none) : (f x = true → l.find? f = some x) ∧ (f x = false → (l.take (k + 1)).find? f = none) := by
  constructor
  · intro hf
    conv => lhs; rw [← List.take_append_drop k l]
    rw [List.find?_append, h, drop_cons hx]
    simp [hf]
  · intro hf
    rw [List.take_add_one, hx, List.find?_append, h]
    simp [hf]

set_option maxRecDepth 100000 in
set_option maxHeartbeats 1600000 in
theorem fault_calls (b : Nat) (p0 p1 r0 r1 : Int) (A2 A3 B2 B3 A4 A5 : Option Addr) (n2 k2 n3 k3 m2 j2 m3 j3 n4 k4 n5 k5 : Nat) (ls ms ns : List ByteArray) (es fs : List Ed) (AP : Option Addr) (cp : Nat) (x y : Int) (w : World) (lo hi lo' hi' lo2 hi2 : Nat)
    (h : TogAt w b p0 p1 A2 n2 k2 A3 n3 k3 r0 r1 B2 m2 j2 B3 m3 j3) (c4 : w.cell? ⟨b, 4, none⟩ = some (.slice A4 n4 k4)) (c5 : w.cell? ⟨b, 5, none⟩ = some (.slice A5 n5 k5)) (t2 : SlS w lo hi A2 n2 ls) (t3 : SlE w lo hi A3 n3 es) (t5 : SlS w lo hi A5 n5 ns) (u2 : SlS w lo' hi' B2 m2 ms) (u3 : SlE w lo' hi' B3 m3 fs)
    (hes : n3 ≤ 1048576) (hfs : m3 ≤ 1048576) (hms : m2 ≤ 1048576) (h5 : n5 ≤ 1048576) (htot : totS ls ≤ 1048576) (he : Env w) (hp : SlI w lo2 hi2 AP 2 [x, y]) (hv : detV (p0, p1, ls, es) = true) (hs : detV (r0, r1, ms, fs) = true) :
    Calls Tryz.prog 110 #[.pointer (some ⟨b, 0, none⟩), .slice AP 2 cp] w fun e w' => e = .returned (.string ((fauL (ctlB ns) (p0, p1, ls, es) (r0, r1, ms, fs) (x, y)).getD ⟨#[]⟩)) ∧ Below w.heap.size w w' := by
  have q := hide (prevented_calls b p0 p1 r0 r1 A2 A3 B2 B3 n2 k2 n3 k3 m2 j2 m3 j3 ls ms es fs AP cp x y w lo hi lo' hi' lo2 hi2 h t2 t3 u2 u3 hes hfs hms hp hv hs)
  obtain ⟨lt, c0, c1, c2, c3, -, -, -, -⟩ := h
  have qc := fun (lab : ByteArray) (hl : lab.size ≤ 1048576) (hlv : labS lab = true) W (hW : Below w.heap.size w W) => controlled_calls p0 p1 A2 A3 A4 A5 n2 k2 n3 k3 n4 k4 n5 k5 ns lab W lo hi (t5.below hW (.inr (Nat.le_refl _))) h5 hl (he.below hW (Nat.le_refl _)) hlv
  have hlab := prv_lab hv (r0, r1, ms, fs) x y
  have hmem := prv_mem hv (r0, r1, ms, fs) x y
  have hsz : ∀ r ∈ prvL (p0, p1, ls, es) (r0, r1, ms, fs) x y, r.size ≤ 1048576 := fun r hr => Nat.le_trans (totS_mem (hmem r hr)) htot
  have hfew := prv_few hv (r0, r1, ms, fs) x y
  have hval : Hid (fauL (ctlB ns) (p0, p1, ls, es) (r0, r1, ms, fs) (x, y) = (prvL (p0, p1, ls, es) (r0, r1, ms, fs) x y).find? fun l => !(ctlB ns l)) := rfl
  generalize prvL (p0, p1, ls, es) (r0, r1, ms, fs) x y = L at *
  replace qc := hide qc
  replace hfew := hide hfew
  replace hlab := hide hlab
  replace hsz := hide hsz
  clear t2 t3 t5 u2 u3 hp hv hs he hmem
  go_enter Tryz.func110, Tryz.ntmps110
  go_wp2_with fail
  refine q.out.mono ?_
  rintro e w1 ⟨Ar, nr, cr, rfl, hsl, hb⟩
  have hnr : nr ≤ 12 := by rw [← hsl.len]; exact hfew.out
  have hlen := hide hsl.len
  have d0 := (hb.cell (p := ⟨b, 0, none⟩) lt).trans c0
  have d1 := (hb.cell (p := ⟨b, 1, none⟩) lt).trans c1
  have d2 := (hb.cell (p := ⟨b, 2, none⟩) lt).trans c2
  have d3 := (hb.cell (p := ⟨b, 3, none⟩) lt).trans c3
  have d4 := (hb.cell (p := ⟨b, 4, none⟩) lt).trans c4
  have d5 := (hb.cell (p := ⟨b, 5, none⟩) lt).trans c5
  have hbs := hb.size
  have lt1 : b < w1.heap.size := Nat.lt_of_lt_of_le lt hbs
  replace hb := hide hb
  replace hsl := hide hsl
  clear c0 c1 c2 c3 c4 c5 q
  go_upto_region 2 with fail
  go_loopw [11] (fun i wr => ∃ k : Nat, k ≤ nr ∧ i = .int .i64 (k : Nat) ∧ Hid ((L.take k).find? (fun l => !(ctlB ns l)) = none) ∧ Below w1.heap.size w1 wr) (fun i _ => nr - (intOf i).toNat)
  case atStart => exact ⟨0, Nat.zero_le _, rfl, rfl, Below.refl _ _⟩
  case round =>
    obtain ⟨k, hk, rfl, hn, hbr⟩ := hrel
    have hbw := hb.out.trans (hbr.mono hbs)
    by_cases hlt : k < nr
    · obtain ⟨bl, ol, lab, rfl, -, -, gl, hx, p0', -⟩ := SlS.get hsl.out hlt
      have p1' := (hbr.cell (p := ⟨bl, ol + k, none⟩) gl).trans p0'
      have e0 := (hbr.cell (p := ⟨b, 0, none⟩) lt1).trans d0
      have e1 := (hbr.cell (p := ⟨b, 1, none⟩) lt1).trans d1
      have e2 := (hbr.cell (p := ⟨b, 2, none⟩) lt1).trans d2
      have e3 := (hbr.cell (p := ⟨b, 3, none⟩) lt1).trans d3
      have e4 := (hbr.cell (p := ⟨b, 4, none⟩) lt1).trans d4
      have e5 := (hbr.cell (p := ⟨b, 5, none⟩) lt1).trans d5
      obtain ⟨hf1, hf2⟩ := find_take (f := fun l => !(ctlB ns l)) hx hn.out
      have qd := qc.out lab (hsz.out lab (List.mem_of_getElem? hx)) (hlab.out lab (List.mem_of_getElem? hx)) wr hbw
      have hI0 : (0 : Int) ≤ (k : Int) := by omega
      have hI1 : (k : Int) < (nr : Int) := by omega
      have hbrs := hbr.size
      replace hbw := hide hbw
      replace hbr := hide hbr
      cases hc : anyL ns (namS lab) with
      | false =>
        have hv : Hid ((fauL (ctlB ns) (p0, p1, ls, es) (r0, r1, ms, fs) (x, y)).getD ⟨#[]⟩ = lab) := by
          show _ = _
          rw [hval.out, hf1 (by show (!(anyL ns (namS lab))) = true; rw [hc]; rfl)]
          rfl
        rw [hc] at qd
        replace qd := hide qd
        clear hx hf1 hf2 hc
        go_wp2_with fail
        refine qd.out.mono ?_
        rintro e w5 ⟨rfl, hb5⟩
        have hbz := hide (hbw.out.trans (hb5.mono hbw.out.size))
        clear hb5 e0 e1 e2 e3 e4 e5 p1'
        go_wp2_with fail
        go_ret
        exact ⟨by rw [hv.out]; rfl, hbz.out⟩
      | true =>
        have hn2 := hide (hf2 (by show (!(anyL ns (namS lab))) = false; rw [hc]; rfl))
        rw [hc] at qd
        replace qd := hide qd
        clear hx hf1 hf2 hc
        go_wp2_with fail
        refine qd.out.mono ?_
        rintro e w5 ⟨rfl, hb5⟩
        have hbz := hide (hbr.out.trans (hb5.mono hbrs))
        clear hb5 e0 e1 e2 e3 e4 e5 p1'
        go_wp2_with fail
        go_roundw
        case rel => exact ⟨k + 1, by omega, by go_num, hn2, hbz.out⟩
        case measure => simp [intOf]; omega
    · have hkn : k = nr := by omega
      subst hkn
      have hv : Hid ((fauL (ctlB ns) (p0, p1, ls, es) (r0, r1, ms, fs) (x, y)).getD ⟨#[]⟩ = ⟨#[]⟩) := by
        show _ = _
        have h1 := hn.out
        rw [List.take_of_length_le (by rw [hlen.out]; exact Nat.le_refl _)] at h1
        rw [hval.out, h1]
        rfl
      replace hbw := hide hbw
      go_wp2_with fail
      go_ret
      exact ⟨by rw [hv.out]; rfl, hbw.out⟩

end Go.Proofs.YtiaclddgllkgpaaGreatDoor
