/-
  The program's test of a label, and its name. Conditions: sizes.
-/
import Derived.Test.YtiaclddgllkgpaaGreatDoorLabel
namespace Go.Proofs.YtiaclddgllkgpaaGreatDoor
open Go.ChangeShapes Go.WideShapes Go.ChangeAt Go.RowKit
set_option linter.unusedVariables false

theorem nameL_tau : nameL tauL = true := by decide
/-- The values that the program reads out of a label. -/
def numsR (l : List UInt8) : Option (List Int) := if (Lib.cut l [40]).2.2 then numsOf numS (splitC 44 (Lib.trimSuffix (Lib.cut l [40]).2.1 [41])) else some []
theorem labS_none {s : ByteArray} (h : numsR s.data.toList = none) : labS s = false := by
  unfold labS
  rw [← valsP_eq nameL nameL_tau]
  unfold valsP
  rw [numP_fun]
  unfold numsR at h
  rw [h]
  rfl
theorem labS_some {s : ByteArray} {ns : List Int} (h : numsR s.data.toList = some ns) : labS s = decide (labOf nameL (Lib.cut s.data.toList [40]).1 ns = some s.data.toList) := by
  unfold labS
  rw [← valsP_eq nameL nameL_tau]
  unfold valsP
  rw [numP_fun]
  unfold numsR at h
  rw [h]
  by_cases hc : labOf nameL (Lib.cut s.data.toList [40]).1 ns = some s.data.toList
  · simp only [if_pos hc, decide_eq_true hc]
    rfl
  · simp only [if_neg hc, decide_eq_false hc]
    rfl
theorem Sl.laid (w : World) (t : TypeId) (l : List ByteArray) (lo : Nat) (hlo : lo ≤ w.heap.size) : SlS (w.alloc (.cells (l.map Value.string).toArray t)) lo (w.heap.size + 1) (some ⟨w.heap.size, 0, none⟩) l.length l := by
  refine ⟨rfl, fun _ => ⟨w.heap.size, 0, rfl, hlo, by omega, by simp, fun k x hx j u hu => ?_⟩⟩
  match j, hu with
  | 0, hu =>
    simp [strv] at hu
    subst hu
    simp only [Nat.zero_add, Nat.mul_one, Nat.add_zero]
    have hg := heap_alloc_new w (.cells (l.map Value.string).toArray t)
    refine ⟨(cell_of_row _ _ k _ t (0, 0) hg).trans ?_, frozen_of_row _ _ _ _ t hg⟩
    simp [hx]
theorem split_data (t : ByteArray) : (Lib.splitB ⟨#[44]⟩ 0 (Lib.countB t ⟨#[44]⟩) t).map (·.data.toList) = splitC 44 t.data.toList := by
  rw [Lib.splitB_data, ← split_one]
  rfl
theorem split_calls (t : ByteArray) (w : World) (hs : t.size ≤ 1048576) (he : Env w) :
    Calls Tryz.prog 218 #[.string t, .string ⟨#[44]⟩] w fun e w' => ∃ A n PB, e = .returned (.slice A n n) ∧ SlS w' w.heap.size w'.heap.size A n PB ∧ dataL PB = splitC 44 t.data.toList ∧ n ≤ 1048577 ∧ (∀ s ∈ PB, s.size ≤ 1048576) ∧ Below w.heap.size w w' := by
  have hc := Lib.splitB_all ⟨#[44]⟩ (by decide) 0 _ t rfl
  have hd := split_data t
  refine (Tryz.strings_Split_shaped t ⟨#[44]⟩ w he.good.shape (by omega) (by decide)).mono ?_
  rintro e w' ⟨rfl, rfl⟩
  generalize Lib.splitB ⟨#[44]⟩ 0 (Lib.countB t ⟨#[44]⟩) t = PB at *
  rw [← hc]
  refine ⟨_, _, PB, rfl, ?_, hd, ?_, ?_, (Below.refl _ _).alloc (Nat.le_refl _) _⟩
  · rw [World.size_alloc]
    exact Sl.laid w _ PB _ (Nat.le_refl _)
  · have h1 := splitC_len 44 t.data.toList
    rw [← hd, List.length_map, bsize] at h1
    omega
  · intro s hsm
    have h1 := splitC_mem_len 44 t.data.toList s.data.toList (by rw [← hd]; exact List.mem_map.2 ⟨s, hsm, rfl⟩)
    rw [bsize, bsize] at h1
    omega

/-- What readLabel hands back. -/
def ReadLab (w w' : World) (s : ByteArray) (e : Ending) : Prop := ∃ nm A n c, e = .returned (.tuple #[.string nm, .slice A n c, .bool (labS s)]) ∧ nm = (if labS s then mkB (Lib.cut s.data.toList [40]).1 else ⟨#[]⟩) ∧ Below w.heap.size w w'

set_option maxRecDepth 100000 in
set_option maxHeartbeats 1600000 in
theorem readLabel_calls (s : ByteArray) (w : World) (hs : s.size ≤ 1048576) (he : Env w) :
    Calls Tryz.prog 192 #[.string s] w fun e w' => ReadLab w w' s e := by
  have q0 : Calls Tryz.prog 216 #[.string s, .string ⟨#[40]⟩] w fun e w' => e = .returned (.tuple #[.string (mkB (Lib.cut s.data.toList [40]).1), .string (mkB (Lib.cut s.data.toList [40]).2.1), .bool (Lib.cut s.data.toList [40]).2.2]) ∧ Below w.heap.size w w' :=
    (Tryz.strings_Cut_shaped s ⟨#[40]⟩ w he.good.shape (by omega)).mono fun e w' ⟨a, n, b⟩ => ⟨a, b ▸ below_drewN w n⟩
  have hS := @labS_some s
  have hN := @labS_none s
  have hlen : (Lib.cut s.data.toList [40]).1.length ≤ 1048576 ∧ (Lib.cut s.data.toList [40]).2.1.length ≤ 1048576 := by
    unfold Lib.cut
    have := bsize s
    split <;> simp only [List.length_take, List.length_drop, List.length_nil] <;> omega
  unfold numsR at hS hN
  generalize hcut : Lib.cut s.data.toList [40] = C at *
  obtain ⟨a, b, more⟩ := C
  dsimp only at *
  replace hcut := hide hcut
  have has : (mkB a).size ≤ 1048576 := by rw [mkB_size]; exact hlen.1
  replace q0 := hide q0
  have q5 := fun (A : Option Addr) (n c : Nat) (L : List Int) (W : World) (lo hi : Nat) (h : SlI W lo hi A n L) (hn : n ≤ 1048577) (hW : Below w.heap.size w W) => labelOf_calls (mkB a) A n c L W lo hi has h hn (he.below hW (Nat.le_refl _))
  rw [mkB_data] at q5
  replace q5 := hide q5
  cases more with
  | false =>
    have hS2 := hide (hS (ns := []) rfl)
    clear hS hN he
    go_enter Tryz.func192, Tryz.ntmps192
    go_wp2_with fail
    refine q0.out.mono ?_
    rintro e w1 ⟨rfl, hb1⟩
    go_wp2_with fail
    refine (q5.out none 0 0 [] w1 0 0 Sl.nil_ (by omega) hb1).mono ?_
    rintro e w9 ⟨t, ok, rfl, hok, hb9⟩
    replace hb9 := hb1.trans (hb9.mono hb1.size)
    cases ok with
    | false =>
      have hv : Hid (labS s = false) := by
        show _ = _
        rw [hS2.out, hok]
        simp
      clear hS2 hok
      go_wp2_with fail
      go_returns
      exact ⟨⟨#[]⟩, none, 0, 0, by rw [hv.out]; rfl, by rw [hv.out]; rfl, hb9⟩
    | true =>
      by_cases hts : t = s
      · have hv : Hid (labS s = true) := by
          show _ = _
          rw [hS2.out, hok, hts]
          simp
        subst hts
        clear hS2 hok
        go_wp2_with fail
        go_returns
        exact ⟨mkB a, none, 0, 0, by rw [hv.out]; rfl, by rw [hv.out, hcut.out]; rfl, hb9⟩
      · have hv : Hid (labS s = false) := by
          show _ = _
          rw [hS2.out, hok, decide_eq_false_iff_not]
          intro e
          apply hts
          have := Option.some.inj e
          rw [← bytes_eta t, this, bytes_eta]
        have hne := str_neq hts
        clear hS2 hok hts
        go_wp2_with fail
        go_returns
        exact ⟨⟨#[]⟩, none, 0, 0, by rw [hv.out]; rfl, by rw [hv.out]; rfl, hb9⟩
  | true =>
    simp only [if_true] at hS hN
    have q1 : ∀ W, Calls Tryz.prog 219 #[.string (mkB b), .string ⟨#[41]⟩] W fun e w' => e = .returned (.string (mkB (Lib.trimSuffix b [41]))) ∧ w' = W := fun W => Tryz.strings_TrimSuffix (mkB b) ⟨#[41]⟩ W (by rw [mkB_size]; omega)
    have htl : (Lib.trimSuffix b [41]).length ≤ 1048576 := by
      unfold Lib.trimSuffix
      split
      · rw [List.length_take]; omega
      · exact hlen.2
    have q2 := fun (W : World) (hW : Below w.heap.size w W) => split_calls (mkB (Lib.trimSuffix b [41])) W (by rw [mkB_size]; exact htl) (he.below hW (Nat.le_refl _))
    rw [mkB_data] at q2
    have q3 := fun (A : Option Addr) (n c : Nat) (l : List ByteArray) (W : World) (lo hi : Nat) (h : SlS W lo hi A n l) (hn : n ≤ 1048577) (hss : ∀ s ∈ l, s.size ≤ 1048576) (hW : Below w.heap.size w W) => readNumbers_calls A n c l W lo hi h hn hss (he.below hW (Nat.le_refl _))
    replace q1 := hide q1
    replace q2 := hide q2
    replace q3 := hide q3
    clear he htl hlen
    cases hns : numsOf numS (splitC 44 (Lib.trimSuffix b [41])) with
    | none =>
      have hv : Hid (labS s = false) := hN hns
      replace hns := hide hns
      clear hS hN q5
      go_enter Tryz.func192, Tryz.ntmps192
      go_wp2_with fail
      refine q0.out.mono ?_
      rintro e w1 ⟨rfl, hb1⟩
      go_wp2_with fail
      refine (q1.out _).mono ?_
      rintro e w2 ⟨rfl, rfl⟩
      go_wp2_with fail
      refine (q2.out _ hb1).mono ?_
      rintro e w3 ⟨A3, n3, PB, rfl, hsl, hdat, hn3, hps, hb3⟩
      replace hb3 := hb1.trans (hb3.mono hb1.size)
      have q4 := q3.out A3 n3 n3 PB w3 _ _ hsl hn3 hps hb3
      rw [hdat, hns.out] at q4
      replace q4 := hide q4
      clear hsl hdat hps
      go_wp2_with fail
      refine q4.out.mono ?_
      rintro e w4 ⟨he4, hb4⟩
      change e = _ at he4
      subst he4
      go_wp2_with fail
      go_returns
      exact ⟨⟨#[]⟩, none, 0, 0, by rw [hv.out]; rfl, by rw [hv.out]; rfl, hb3.trans (hb4.mono hb3.size)⟩
    | some ns =>
      have hS2 := hide (hS hns)
      replace hns := hide hns
      clear hS hN
      go_enter Tryz.func192, Tryz.ntmps192
      go_wp2_with fail
      refine q0.out.mono ?_
      rintro e w1 ⟨rfl, hb1⟩
      go_wp2_with fail
      refine (q1.out _).mono ?_
      rintro e w2 ⟨rfl, rfl⟩
      go_wp2_with fail
      refine (q2.out _ hb1).mono ?_
      rintro e w3 ⟨A3, n3, PB, rfl, hsl, hdat, hn3, hps, hb3⟩
      replace hb3 := hb1.trans (hb3.mono hb1.size)
      have q4 := q3.out A3 n3 n3 PB w3 _ _ hsl hn3 hps hb3
      rw [hdat, hns.out] at q4
      replace q4 := hide q4
      clear hsl hdat hps
      go_wp2_with fail
      refine q4.out.mono ?_
      rintro e w4 ⟨⟨A4, c4, rfl, hs4⟩, hb4⟩
      replace hb4 := hb3.trans (hb4.mono hb3.size)
      replace hs4 := hide hs4
      go_wp2_with fail
      refine (q5.out A4 n3 c4 ns w4 _ _ hs4.out hn3 hb4).mono ?_
      rintro e w9 ⟨t, ok, rfl, hok, hb9⟩
      replace hb9 := hb4.trans (hb9.mono hb4.size)
      cases ok with
      | false =>
        have hv : Hid (labS s = false) := by
          show _ = _
          rw [hS2.out, hok]
          simp
        clear hS2 hok
        go_wp2_with fail
        go_returns
        exact ⟨⟨#[]⟩, none, 0, 0, by rw [hv.out]; rfl, by rw [hv.out]; rfl, hb9⟩
      | true =>
        by_cases hts : t = s
        · have hv : Hid (labS s = true) := by
            show _ = _
            rw [hS2.out, hok, hts]
            simp
          subst hts
          clear hS2 hok
          go_wp2_with fail
          go_returns
          exact ⟨mkB a, A4, n3, c4, by rw [hv.out]; rfl, by rw [hv.out, hcut.out]; rfl, hb9⟩
        · have hv : Hid (labS s = false) := by
            show _ = _
            rw [hS2.out, hok, decide_eq_false_iff_not]
            intro e
            apply hts
            have := Option.some.inj e
            rw [← bytes_eta t, this, bytes_eta]
          have hne := str_neq hts
          clear hS2 hok hts
          go_wp2_with fail
          go_returns
          exact ⟨⟨#[]⟩, none, 0, 0, by rw [hv.out]; rfl, by rw [hv.out]; rfl, hb9⟩

theorem isLabel_calls (s : ByteArray) (w : World) (hs : s.size ≤ 1048576) (he : Env w) :
    Calls Tryz.prog 154 #[.string s] w fun e w' => e = .returned (.bool (labS s)) ∧ Below w.heap.size w w' := by
  have q := hide (readLabel_calls s w hs he)
  clear he
  go_enter Tryz.func154, Tryz.ntmps154
  go_wp2_with fail
  refine q.out.mono ?_
  rintro e w1 ⟨nm, A, n, c, rfl, -, hb⟩
  go_wp2_with fail
  go_ret
  exact ⟨rfl, hb⟩

end Go.Proofs.YtiaclddgllkgpaaGreatDoor
