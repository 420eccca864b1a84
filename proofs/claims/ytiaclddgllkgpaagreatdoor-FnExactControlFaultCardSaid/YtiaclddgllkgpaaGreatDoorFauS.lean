/-
  The first label at fault at a pair, by the reference. Conditions: sizes.
-/
import Derived.Test.YtiaclddgllkgpaaGreatDoorBlkS2
import Derived.Test.YtiaclddgllkgpaaGreatDoorPairs2
namespace Go.Proofs.YtiaclddgllkgpaaGreatDoor
open Go.ChangeShapes Go.WideShapes Go.ChangeAt Go.RowKit Go.Sort
set_option linter.unusedVariables false
set_option linter.unusedSimpArgs false

/-- The pairs of the reference as they lie. -/
structure RefW (w : World) (bx bp bd : Nat) (xp xs : CL) (dp ds : DL) (A5 : Option Addr) (n5 k5 : Nat) (ns : List ByteArray) (Ar : Option Addr) (nr cr : Nat) (R : List (Hd × List Int)) : Prop where
  lt : bx < w.heap.size
  c0 : w.cell? ⟨bx, 0, none⟩ = some (.pointer (some ⟨bp, 0, none⟩))
  c1 : w.cell? ⟨bx, 1, none⟩ = some (.pointer (some ⟨bd, 0, none⟩))
  c2 : w.cell? ⟨bx, 2, none⟩ = some (.slice Ar nr cr)
  hp : LtsAt w bp xp dp
  hs : LtsAt w bd xs ds
  c5 : w.cell? ⟨bp, 5, none⟩ = some (.slice A5 n5 k5)
  t5 : SlS w 0 w.heap.size A5 n5 ns
  rows : Nest 1 iv w 0 w.heap.size Ar nr R
theorem RefW.below {w w' : World} {bx bp bd : Nat} {xp xs : CL} {dp ds : DL} {A5 : Option Addr} {n5 k5 : Nat} {ns : List ByteArray} {Ar : Option Addr} {nr cr : Nat} {R : List (Hd × List Int)} (h : RefW w bx bp bd xp xs dp ds A5 n5 k5 ns Ar nr cr R) (hb : Below w.heap.size w w') : RefW w' bx bp bd xp xs dp ds A5 n5 k5 ns Ar nr cr R :=
  ⟨Nat.lt_of_lt_of_le h.lt hb.size, (hb.cell (p := ⟨bx, 0, none⟩) h.lt).trans h.c0, (hb.cell (p := ⟨bx, 1, none⟩) h.lt).trans h.c1, (hb.cell (p := ⟨bx, 2, none⟩) h.lt).trans h.c2, h.hp.below hb (Nat.le_refl _), h.hs.below hb (Nat.le_refl _),
   (hb.cell (p := ⟨bp, 5, none⟩) h.hp.2.2.1).trans h.c5, (h.t5.below hb (.inr (Nat.le_refl _))).more (Nat.le_refl _) hb.size, (h.rows.below hb (.inr (Nat.le_refl _))).more (Nat.le_refl _) hb.size⟩

def notC (ns ls : List ByteArray) (n : Int) : Bool := !(ctlB ns ((ls[n.toNat]?).getD ⟨#[]⟩))
theorem find_takeG {α : Type} {l : List α} {f : α → Bool} {k : Nat} {x : α} (hx : l[k]? = some x) (h : (l.take k).find? f = none) : (f x = true → l.find? f = some x) ∧ (f x = false → (l.take (k + 1)).find? f = none) := by
  obtain ⟨hlt, rfl⟩ := List.getElem?_eq_some_iff.1 hx
  constructor
  · intro hf
    conv => lhs; rw [← List.take_append_drop k l]
    rw [List.find?_append, h, List.drop_eq_getElem_cons hlt, List.find?_cons, hf]
    rfl
  · intro hf
    rw [List.take_add_one, hx, List.find?_append, h]
    simp [hf]

set_option maxRecDepth 100000 in
set_option maxHeartbeats 1600000 in
theorem faultS_calls (bx bp bd : Nat) (xp xs : CL) (p0 p1 : Int) (ls ns : List ByteArray) (es : List Ed) (ds : DL) (A5 : Option Addr) (n5 k5 : Nat) (Ar : Option Addr) (nr cr : Nat) (R : List (Hd × List Int)) (k0 : Nat) (hd0 : Hd) (x y : Int) (w : World)
    (h : RefW w bx bp bd xp xs (p0, p1, ls, es) ds A5 n5 k5 ns Ar nr cr R) (hk : R[k0]? = some (hd0, [x, y])) (hnr : nr ≤ 1048576) (h5 : n5 ≤ 1048576) (htot : totS ls ≤ 1048576) (hv : detV (p0, p1, ls, es) = true) (hvs : detV ds = true) :
    Calls Tryz.prog 97 #[.pointer (some ⟨bx, 0, none⟩), .int .i64 (k0 : Int)] w fun e w' => e = .returned (.int .i64 (fauN ns (p0, p1, ls, es) ds (x, y))) ∧ Below w.heap.size w w' := by
  have q := hide (blocked_calls bx bp bd xp xs p0 p1 ls es ds Ar nr cr R k0 hd0 x y w 0 w.heap.size h.lt h.c0 h.c1 h.c2 h.hp h.hs h.rows hk hnr hv hvs)
  obtain ⟨⟨-, -, ⟨A2, n2, k2, e2, -, -, t2⟩, -⟩, -, hbp, -, -, d2, -⟩ := id h.hp
  try dsimp only at e2
  rw [e2] at d2
  have hval : Hid (fauN ns (p0, p1, ls, es) ds (x, y) = ((blkL (p0, p1, ls, es) ds x y).find? (notC ns ls)).getD (-1)) := rfl
  have hmem : ∀ n ∈ blkL (p0, p1, ls, es) ds x y, 0 ≤ n ∧ ∃ lab, ls[n.toNat]? = some lab ∧ lab.size ≤ 1048576 := fun n hn => by
    unfold blkL blkE at hn
    obtain ⟨e, he, rfl⟩ := List.mem_map.1 hn
    have hes := (List.mem_filter.1 (List.mem_filter.1 he).1).1
    have h1 := det_first hv e hes
    have h2 := labE_at hv hes
    exact ⟨by omega, _, h2, Nat.le_trans (totS_mem (List.mem_of_getElem? h2)) htot⟩
  have hfew : (blkL (p0, p1, ls, es) ds x y).length ≤ 12 := by
    unfold blkL blkE
    rw [List.length_map]
    exact Nat.le_trans (List.length_filter_le _ _) (out_few hv x)
  generalize blkL (p0, p1, ls, es) ds x y = L at *
  have qc := fun (n : Int) (lab : ByteArray) (hn : 0 ≤ n) (hl : ls[n.toNat]? = some lab) (hs : lab.size ≤ 1048576) W (hW : Below w.heap.size w W) => ctlS_calls bx bp A2 A5 n2 k2 n5 k5 ls ns n lab W 0 w.heap.size ((hW.cell (p := ⟨bx, 0, none⟩) h.lt).trans h.c0) ((hW.cell (p := ⟨bp, 2, none⟩) hbp).trans d2) ((hW.cell (p := ⟨bp, 5, none⟩) hbp).trans h.c5) (t2.below hW (.inr (Nat.le_refl _))) (h.t5.below hW (.inr (Nat.le_refl _))) h5 hn hl hs
  replace qc := hide qc
  replace hmem := hide hmem
  replace hfew := hide hfew
  clear h hk d2 t2
  go_enter Tryz.func97, Tryz.ntmps97
  go_wp2_with fail
  refine q.out.mono ?_
  rintro e w1 ⟨Ab, nb, cb, rfl, hsl, hb⟩
  have hlen := hide hsl.len
  have hnb : nb ≤ 12 := by rw [← hsl.len]; exact hfew.out
  have hbs := hb.size
  replace hb := hide hb
  replace hsl := hide hsl
  clear q
  go_upto_region 3 with fail
  go_loopw [6] (fun i wr => ∃ k : Nat, k ≤ nb ∧ i = .int .i64 (k : Nat) ∧ Hid ((L.take k).find? (notC ns ls) = none) ∧ Below w1.heap.size w1 wr) (fun i _ => nb - (intOf i).toNat)
  case atStart => exact ⟨0, Nat.zero_le _, rfl, rfl, Below.refl _ _⟩
  case round =>
    obtain ⟨k, hk, rfl, hn, hbr⟩ := hrel
    have hbw := hb.out.trans (hbr.mono hbs)
    by_cases hlt : k < nb
    · obtain ⟨bl, ol, n, rfl, -, -, gl, hx, p0', -⟩ := SlI.get hsl.out hlt
      have p1' := (hbr.cell (p := ⟨bl, ol + k, none⟩) gl).trans p0'
      obtain ⟨hn0, lab, hlab, hsz⟩ := hmem.out n (List.mem_of_getElem? hx)
      obtain ⟨hf1, hf2⟩ := find_takeG (f := notC ns ls) hx hn.out
      have qd := qc.out n lab hn0 hlab hsz wr hbw
      have hI0 : (0 : Int) ≤ (k : Int) := by omega
      have hI1 : (k : Int) < (nb : Int) := by omega
      have hbrs := hbr.size
      replace hbw := hide hbw
      replace hbr := hide hbr
      cases hc : anyL ns (namS lab) with
      | false =>
        have hv : Hid (fauN ns (p0, p1, ls, es) ds (x, y) = n) := by
          show _ = _
          rw [hval.out, hf1 (by show (!(anyL ns (namS ((ls[n.toNat]?).getD ⟨#[]⟩)))) = true; rw [hlab]; show (!(anyL ns (namS lab))) = true; rw [hc]; rfl)]
          rfl
        rw [hc] at qd
        replace qd := hide qd
        clear hx hf1 hf2 hc hlab p0'
        go_wp2_with fail
        refine qd.out.mono ?_
        rintro e w5 ⟨rfl, hb5⟩
        have p2' := (hb5.cell (p := ⟨bl, ol + k, none⟩) (Nat.lt_of_lt_of_le gl hbrs)).trans p1'
        have hbz := hide (hbw.out.trans (hb5.mono hbw.out.size))
        clear hb5 p1'
        go_wp2_with fail
        go_ret
        exact ⟨by rw [hv.out]; rfl, hbz.out⟩
      | true =>
        have hn2 := hide (hf2 (by show (!(anyL ns (namS ((ls[n.toNat]?).getD ⟨#[]⟩)))) = false; rw [hlab]; show (!(anyL ns (namS lab))) = false; rw [hc]; rfl))
        rw [hc] at qd
        replace qd := hide qd
        clear hx hf1 hf2 hc hlab p0'
        go_wp2_with fail
        refine qd.out.mono ?_
        rintro e w5 ⟨rfl, hb5⟩
        have hbz := hide (hbr.out.trans (hb5.mono hbrs))
        clear hb5 p1'
        go_wp2_with fail
        go_roundw
        case rel => exact ⟨k + 1, by omega, by go_num, hn2, hbz.out⟩
        case measure => simp [intOf]; omega
    · have hkn : k = nb := by omega
      subst hkn
      have hv : Hid (fauN ns (p0, p1, ls, es) ds (x, y) = -1) := by
        show _ = _
        have h1 := hn.out
        rw [List.take_of_length_le (by rw [hlen.out]; exact Nat.le_refl _)] at h1
        rw [hval.out, h1]
        rfl
      replace hbw := hide hbw
      go_wp2_with fail
      go_ret
      exact ⟨by rw [hv.out]; rfl, hbw.out⟩

end Go.Proofs.YtiaclddgllkgpaaGreatDoor
