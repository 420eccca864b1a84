/-
  Several texts in one:
  Words for games and sets in memory, at an address that is known. Conditions: none.
  Whole sets, equality of sets: by the reference. Conditions: sizes.
  Patterns of labels, and what they select: by the reference and by the program. Conditions: sizes; labels that are ones.
  Patterns of labels, and what they select: by the program. Conditions: sizes; labels that are ones.
  A modality's step: by the reference. Conditions: a valid system.
  Where a part of a formula ends, what binds a variable, what stands around a node: by the reference. Conditions: the formula's shape, kinds in range.
  What binds a variable, what stands around a node, whether a part is closed: by the reference. Conditions: the formula's shape, kinds in range.
  Words for the reference's evaluation of a formula: its sets of variables, saved sets and closed sets in memory. Conditions: none.
  The reference's evaluation of a fixed point's body, of one fixed point. Conditions: the parts within are evaluated rightly.
  Literals as lists of the call's own, cells set in them, and append at a step of a region that draws its order. Conditions: sizes.
-/
import Derived.Test.YtanlgnjgpbjebaaGreatDoorBaseB
import Derived.Test.YtanlgnjgpbjebaaGreatDoorBaseC
import Derived.Test.YtanlgnjgpbjebaaGreatDoorBaseD
import Derived.Test.YtanlgnjgpbjebaaGreatDoorBaseE
import Derived.Test.YtanlgnjgpbjebaaGreatDoorBaseF
import Derived.Test.YtanlgnjgpbjebaaGreatDoorBaseG
import Derived.Deep.DeepCutAuto
import Derived.Deep.RegionLaw
import Derived.Deep.LoopGhost
import Derived.Deep.RegionHeld3
namespace Go.Proofs.YtanlgnjgpbjebaaGreatDoor
open Go.RowKit
set_option linter.unusedVariables false

theorem Sl.tight' {α : Type} {size : Nat} {f : α → List Value} {w : World} {lo hi n b off : Nat} {l : List α} (h : Sl size f w lo hi (some ⟨b, off, none⟩) n l) (hn : 0 < n) : Sl size f w b (b + 1) (some ⟨b, off, none⟩) n l := by
  have := h.tight 0
  rwa [spanOf_pos b off 0 hn] at this

/-- A game lies here. -/
def GameAt (w : World) (A : Option Addr) (n : Nat) (g : DV) : Prop := ∃ R, RowsV 1048576 w 0 w.heap.size A n R ∧ R.map dV = g ∧ n = g.length
/-- A set lies here. -/
def SetAt (w : World) (A : Option Addr) (n : Nat) (s : List Bool) : Prop := SlB w 0 w.heap.size A n s

section
variable {w w' : World} {A : Option Addr} {n b off k lo hi : Nat} {g : DV} {s : List Bool}
theorem GameAt.len (h : GameAt w A n g) : n = g.length := by obtain ⟨R, _, _, h⟩ := h; exact h
theorem SetAt.len (h : SetAt w A n s) : s.length = n := Sl.len h
theorem SetAt.sl (h : SetAt w A n s) : Sl 1 bv w 0 w.heap.size A n s := h
theorem GameAt.below {B : Nat} (h : GameAt w A n g) (hb : Below B w w') (hB : w.heap.size ≤ B) : GameAt w' A n g := by
  obtain ⟨R, h1, h2, h3⟩ := h
  exact ⟨R, (h1.below hb (.inl hB)).more (Nat.le_refl _) hb.size, h2, h3⟩
theorem SetAt.below {B : Nat} (h : SetAt w A n s) (hb : Below B w w') (hB : w.heap.size ≤ B) : SetAt w' A n s := (Sl.below h hb (.inl hB)).more (Nat.le_refl _) hb.size
theorem GameAt.drewN (h : GameAt w A n g) (k : Nat) : GameAt (w.drewN k) A n g := h.below (below_drewN w k) (Nat.le_refl _)
theorem SetAt.drewN (h : SetAt w A n s) (k : Nat) : SetAt (w.drewN k) A n s := h.below (below_drewN w k) (Nat.le_refl _)
theorem SlB.at_set (h : SlB w lo hi A n s) : SetAt w A n s := h.top.more (Nat.zero_le _) (Nat.le_refl _)
theorem GameAt.addr (h : GameAt w A n g) (hn : 0 < n) : ∃ b off, A = some ⟨b, off, none⟩ ∧ b < w.heap.size := by
  obtain ⟨R, h1, _⟩ := h
  obtain ⟨b, off, e, _, _, h3, _⟩ := h1.outer.at_ hn
  exact ⟨b, off, e, h3⟩
theorem SetAt.addr (h : SetAt w A n s) (hn : 0 < n) : ∃ b off, A = some ⟨b, off, none⟩ ∧ b < w.heap.size := by
  obtain ⟨b, off, e, _, _, h3, _⟩ := Sl.at_ h hn
  exact ⟨b, off, e, h3⟩
theorem SlB.cell (h : SlB w lo hi (some ⟨b, off, none⟩) n s) (hk : k < n) : w.cell? ⟨b, off + k, none⟩ = some (.bool (inS s k)) ∧ w.frozen? ⟨b, off + k, none⟩ = false ∧ lo ≤ b ∧ b < hi ∧ b < w.heap.size := by
  obtain ⟨b', off', e, h1, h2, h3, _, h4, h5⟩ := h.get hk
  cases e
  exact ⟨h4, h5, h1, h2, h3⟩
theorem SetAt.cell (h : SetAt w (some ⟨b, off, none⟩) n s) (hk : k < n) : w.cell? ⟨b, off + k, none⟩ = some (.bool (inS s k)) := (SlB.cell h hk).1
theorem SlI.cell {l : List Int} (h : SlI w lo hi (some ⟨b, off, none⟩) n l) (hk : k < n) : ∃ x, l[k]? = some x ∧ w.cell? ⟨b, off + k, none⟩ = some (.int .i64 x) ∧ w.frozen? ⟨b, off + k, none⟩ = false := by
  obtain ⟨b', off', x, e, h1, h2, h3, h4, h5, h6⟩ := h.get hk
  cases e
  exact ⟨x, h4, h5, h6⟩
/-- Vertex k. -/
theorem GameAt.cell (h : GameAt w (some ⟨b, off, none⟩) n g) (ok : GameBig g) (hk : k < n) :
    ∃ o p l Ah nh ch, g[k]? = some (o, p, l) ∧ w.cell? ⟨b, off + k * 3, none⟩ = some (.int .i64 o) ∧ w.cell? ⟨b, off + k * 3 + 1, none⟩ = some (.int .i64 p) ∧ w.cell? ⟨b, off + k * 3 + 2, none⟩ = some (.slice Ah nh ch) ∧
      SlI w 0 w.heap.size Ah nh l ∧ nh ≤ 1048576 ∧ (0 ≤ o ∧ o ≤ 1) ∧ (0 ≤ p ∧ p ≤ 1000) ∧ Inc n l := by
  obtain ⟨R, h1, rfl, h3⟩ := h
  obtain ⟨b', off', o, p, Ah, nh, ch, l, e, g1, g2, g3, hx, c0, c1, c2, -, -, hs, hn⟩ := h1.atV hk
  cases e
  have hx2 : (R.map dV)[k]? = some (o, p, l) := by rw [List.getElem?_map, hx]; rfl
  have hv := ok.at_ hx2
  rw [← h3] at hv
  exact ⟨o, p, l, Ah, nh, ch, hx2, c0, c1, c2, hs, hn, hv.1, hv.2.1, hv.2.2⟩
end

end Go.Proofs.YtanlgnjgpbjebaaGreatDoor

namespace Go.Proofs.YtanlgnjgpbjebaaGreatDoor
open Go.ChangeShapes Go.WideShapes Go.ChangeAt Go.RowKit
set_option linter.unusedVariables false
set_option linter.unusedSimpArgs false

theorem l21Whole_calls (bt : Nat) (x : CL) (N : Nat) (ini : Int) (ls : List ByteArray) (es : List Ed) (all : Bool) (w : World) (h : LtsAt w bt x ((N : Int), ini, ls, es)) (hN : N ≤ 1048576) :
    Calls Tryz.prog 101 #[.pointer (some ⟨bt, 0, none⟩), .bool all] w fun e w' => ∃ A', e = .returned (.slice A' N N) ∧ SlB w' w.heap.size w'.heap.size A' N (whlS N all) ∧ Below w.heap.size w w' := by
  have hmk := run_make_bool N hN
  have hstart := SlB.made w N
  rw [← setK_zero N (fun _ => all)] at hstart
  replace hstart := hide hstart
  have c0 := h.2.2.2.1
  rw [h.1.1] at c0
  clear h
  go_enter Tryz.func101, Tryz.ntmps101
  go_wp2
  go_loopw [6] (fun i wr => ∃ k : Nat, k ≤ N ∧ i = .int .i64 k ∧ SlB wr w.heap.size (w.heap.size + 1) (some ⟨w.heap.size, 0, none⟩) N (setK N k fun _ => all) ∧ Below w.heap.size w wr ∧ w.heap.size < wr.heap.size) (fun i _ => N - (intOf i).toNat)
  case atStart => exact ⟨0, Nat.zero_le _, rfl, hstart.out, (Below.refl _ _).alloc (Nat.le_refl _) _, by simp⟩
  case round =>
    obtain ⟨k, hk, rfl, hs, hb, hz⟩ := hrel
    clear hmk hstart
    by_cases hlt : k < N
    · obtain ⟨d0, z0⟩ := SlB.cell hs hlt
      rw [Nat.zero_add] at d0 z0
      have hnext := hs.put hlt all
      rw [setK_step hlt rfl, Nat.zero_add] at hnext
      replace hnext := hide hnext
      clear hs
      go_wp2
      go_roundw
      case rel => exact ⟨k + 1, by omega, by go_num, hnext.out, hb.setCell (Nat.le_refl _) _, by rw [World.size_setCell]; exact hz⟩
      case measure => simp [intOf]; omega
    · have hkn : k = N := by omega
      subst hkn
      rw [setK_all] at hs
      replace hs := hide hs
      go_wp2
      go_ret
      exact ⟨_, rfl, hs.out.more (Nat.le_refl _) hz, hb⟩
set_option maxRecDepth 100000 in
theorem l21Equal_calls (A B : Option Addr) (n c d : Nat) (l r : List Bool) (w : World) (lo hi lo' hi' : Nat) (h : SlB w lo hi A n l) (g : SlB w lo' hi' B n r) (hn : n ≤ 1048576) :
    Calls Tryz.prog 69 #[.slice A n c, .slice B n d] w fun e w' => e = .returned (.bool (decide (l = r))) ∧ ∃ N, w' = w.drewN N := by
  have hl := hide h.len
  have hr := hide g.len
  go_enter Tryz.func69, Tryz.ntmps69
  go_wp2
  go_loopw [5] (fun i wr => ∃ k N : Nat, k ≤ n ∧ i = .int .i64 k ∧ wr = w.drewN N ∧ Hid (l.take k = r.take k)) (fun i _ => n - (intOf i).toNat)
  case atStart => exact ⟨0, 0, Nat.zero_le _, rfl, rfl, rfl⟩
  case round =>
    obtain ⟨k, N, hk, rfl, rfl, he⟩ := hrel
    by_cases hlt : k < n
    · obtain ⟨b, off, rfl, -, -, -, hx, c0, -⟩ := SlB.get h hlt
      obtain ⟨b', off', rfl, -, -, -, hy, d0, -⟩ := SlB.get g hlt
      replace hx := hide hx
      replace hy := hide hy
      have hk0 : (0 : Int) ≤ (k : Int) := by omega
      have hk1 : (k : Int) < (n : Int) := by omega
      clear h g
      generalize inS l k = u at *
      generalize inS r k = v at *
      by_cases hxy : u = v
      · subst hxy
        have hb : (u != u) = false := by simp
        go_wp2
        go_quiet (fail)
        go_wp2
        go_roundw
        case rel => exact ⟨k + 1, _, by omega, by go_num, rfl, take_step he.out hx.out hy.out rfl⟩
        case measure => simp [intOf]; omega
      · have hne := hide (take_stop hx.out hy.out hxy)
        have hb : (u == v) = false := beq_eq_false_iff_ne.2 hxy
        clear hxy
        go_wp2
        go_quiet (fail)
        go_wp2
        go_ret
        exact ⟨ret_b (decide_eq_false hne.out), _, World.drewN_drewN _ _ _⟩
    · have hkn : k = n := by omega
      subst hkn
      have hq : Hid (decide (l = r) = true) := decide_eq_true (take_all he.out hl.out hr.out)
      go_wp2
      go_ret
      exact ⟨ret_b hq.out, _, rfl⟩

end Go.Proofs.YtanlgnjgpbjebaaGreatDoor

namespace Go.Proofs.YtanlgnjgpbjebaaGreatDoor
open Go.ChangeShapes Go.WideShapes Go.ChangeAt Go.RowKit
set_option linter.unusedVariables false
set_option linter.unusedSimpArgs false

theorem ba_ext {a b : ByteArray} (h : a.toList = b.toList) : a = b := by
  apply Classical.byContradiction
  intro hn
  have := str_neq hn
  rw [h] at this
  simp at this
theorem size_zero {s : ByteArray} (h : s.size = 0) : s = ⟨#[]⟩ := by
  obtain ⟨d⟩ := s
  have : d.size = 0 := h
  rw [Array.eq_empty_of_size_eq_zero this]
theorem last_byte {s : ByteArray} {k : Nat} (h : k < s.size) (hk : k = s.size - 1) : starB s = decide ((s[k].toNat : Int) = 42) := by
  subst hk
  obtain ⟨d⟩ := s
  have hs : (⟨d⟩ : ByteArray).size = d.size := rfl
  have e : (⟨d⟩ : ByteArray).extract ((⟨d⟩ : ByteArray).size - 1) (⟨d⟩ : ByteArray).size = ⟨#[(⟨d⟩ : ByteArray)[(⟨d⟩ : ByteArray).size - 1]'h]⟩ := by
    rw [extract_mk]
    unfold mkB
    congr 1
    apply Array.toList_inj.1
    have h' : d.size - 1 < d.size := h
    show (List.take (d.size - (d.size - 1)) (List.drop (d.size - 1) d.toList)).toArray.toList = [d[d.size - 1]'h']
    rw [List.drop_eq_getElem_cons (by simpa using h'), show d.size - (d.size - 1) = 1 by omega]
    simp
  unfold starB
  rw [e]
  have : ((⟨#[(⟨d⟩ : ByteArray)[(⟨d⟩ : ByteArray).size - 1]'h]⟩ : ByteArray) = ⟨#[42]⟩) ↔ ((((⟨d⟩ : ByteArray)[(⟨d⟩ : ByteArray).size - 1]'h).toNat : Nat) : Int) = 42 := by
    generalize (⟨d⟩ : ByteArray)[(⟨d⟩ : ByteArray).size - 1]'h = x
    constructor
    · intro h
      injection h with h
      simp at h
      subst h
      rfl
    · intro h
      have : x = 42 := UInt8.toNat_inj.1 (by have : x.toNat = 42 := by omega
                                             rw [this]; rfl)
      rw [this]
  rw [decide_eq_decide]
  rw [← this]
  exact ⟨fun h => h.2, fun g => ⟨by omega, g⟩⟩

set_option maxRecDepth 100000 in
theorem l14Pattern_calls (s : ByteArray) (w : World) (hs : s.size ≤ 1048576) : Calls Tryz.prog 130 #[.string s] w fun e w' => e = .returned (.bool (patB s)) ∧ Below w.heap.size w w' := by
  by_cases h0 : s.size = 0
  · have hv : Hid (patB s = true) := by show _ = _; unfold patB; simp [h0]
    rw [size_zero h0] at hv ⊢
    go_enter Tryz.func130, Tryz.ntmps130
    go_wp2
    go_ret
    exact ⟨ret_b hv.out, Below.refl _ _⟩
  · have hne : ¬ s.toList = [] := fun c => h0 (by rw [ba_ext (a := s) (b := ⟨#[]⟩) (by rw [c]; exact (ByteArray.toList_mk _).symm)]; rfl)
    have hne2 : (s.toList == []) = false := by simpa using hne
    have q := l01Label_calls s w hs
    cases hl : labS s with
    | true =>
      rw [hl] at q
      replace q := hide q
      have hv : Hid (patB s = true) := by show _ = _; unfold patB; simp [hl]
      clear hl h0
      go_enter Tryz.func130, Tryz.ntmps130
      go_wp2_with (first | (go_at_call 131; (with_reducible refine q.out.mono ?_); rintro e w1 ⟨rfl, hb1⟩))
      go_ret
      exact ⟨ret_b hv.out, hb1⟩
    | false =>
      rw [hl] at q
      replace q := hide q
      have hk : s.size - 1 < s.size := by omega
      have hst := last_byte hk rfl
      have hi : IntKind.i64.wrap ((s.size : Int) - 1) = ((s.size - 1 : Nat) : Int) := by rw [IntWalk.i64_in _ (by omega)]; omega
      have hi2 : (s.size : Int) - 1 = ((s.size - 1 : Nat) : Int) := by omega
      have qa := fun W => l01Action_calls (s.extract 0 (s.size - 1)) W (by rw [ByteArray.size_extract]; omega)
      by_cases h42 : (s[s.size - 1].toNat : Int) = 42
      · have hv : Hid (patB s = actB (s.extract 0 (s.size - 1))) := by show _ = _; unfold patB cutB; rw [hl, hst, decide_eq_true h42]; simp [h0]
        rw [← hv.out] at qa
        replace qa := hide qa
        generalize hc : (s[s.size - 1].toNat : Int) = c at *
        have hgetk : ∀ h : s.size - 1 < s.size, (s[s.size - 1].toNat : Int) = c := fun _ => hc
        subst h42
        clear hst hl hv
        go_enter Tryz.func130, Tryz.ntmps130
        go_wp2_with (first | (go_at_call 131; (with_reducible refine q.out.mono ?_); rintro e w1 ⟨rfl, hb1⟩) | (go_at_call 154; (with_reducible refine (qa.out _).mono ?_); rintro e w2 ⟨rfl, rfl⟩))
        go_ret
        exact ⟨rfl, hb1⟩
      · have hv : Hid (patB s = false) := by show _ = _; unfold patB; rw [hl, hst, decide_eq_false h42]; simp [h0]
        generalize hc : (s[s.size - 1].toNat : Int) = c at *
        have hgetk : ∀ h : s.size - 1 < s.size, (s[s.size - 1].toNat : Int) = c := fun _ => hc
        have h42b : (c == 42) = false := by simpa using h42
        clear hst hl qa
        go_enter Tryz.func130, Tryz.ntmps130
        go_wp2_with (first | (go_at_call 131; (with_reducible refine q.out.mono ?_); rintro e w1 ⟨rfl, hb1⟩))
        go_ret
        exact ⟨ret_b hv.out, hb1⟩

set_option maxRecDepth 100000 in
theorem l14Selects_calls (p : ByteArray) (no : Bool) (l : ByteArray) (w : World) (hp : p.size ≤ 1048576) (hl : l.size ≤ 1048576) (hlab : starB l = false) : Calls Tryz.prog 133 #[.string p, .bool no, .string l] w fun e w' => e = .returned (.bool (selB p no l)) ∧ ∃ N, w' = w.drewN N := by
  by_cases h0 : p.size = 0
  · have hv : Hid (selB p no l = !no) := by show _ = _; unfold selB; simp [h0]
    rw [size_zero h0] at hv ⊢
    go_enter Tryz.func133, Tryz.ntmps133
    go_wp2
    go_ret
    exact ⟨ret_b hv.out, 0, rfl⟩
  · have hk : p.size - 1 < p.size := by omega
    have hst := last_byte hk rfl
    have hi : IntKind.i64.wrap ((p.size : Int) - 1) = ((p.size - 1 : Nat) : Int) := by rw [IntWalk.i64_in _ (by omega)]; omega
    have hi2 : (p.size : Int) - 1 = ((p.size - 1 : Nat) : Int) := by omega
    have h00 : ((p.size : Int) == 0) = false := by rw [beq_eq_false_iff_ne]; omega
    by_cases h42 : (p[p.size - 1].toNat : Int) = 42
    · have hpl : ¬ p = l := fun e => by subst e; rw [hst, decide_eq_true h42] at hlab; cases hlab
      have q := fun N => l01LabelName_calls l (w.drewN N) hl
      have hv : Hid (selB p no l = (decide (namS l = p.extract 0 (p.size - 1)) != no)) := by
        show _ = _; unfold selB cutB; rw [hst, decide_eq_true h42]; simp [h0, hpl]
      generalize hc : (p[p.size - 1].toNat : Int) = c at *
      have hgetk : ∀ h : p.size - 1 < p.size, (p[p.size - 1].toNat : Int) = c := fun _ => hc
      subst h42
      clear hst hlab
      replace q := hide q
      by_cases he : namS l = p.extract 0 (p.size - 1)
      · rw [decide_eq_true he] at hv
        have he2 : ((namS l).toList == (p.extract 0 (p.size - 1)).toList) = true := by rw [he]; simp
        clear he
        generalize namS l = nm at *
        go_enter Tryz.func133, Tryz.ntmps133
        go_wp2
        go_quiet ((go_at_call 158; with_reducible exact same_quiet (q.out _)))
        go_wp2
        go_ret
        exact ⟨ret_b (hv.out.trans (by simp)), _, rfl⟩
      · rw [decide_eq_false he] at hv
        have he2 := str_neq he
        clear he
        generalize namS l = nm at *
        go_enter Tryz.func133, Tryz.ntmps133
        go_wp2
        go_quiet ((go_at_call 158; with_reducible exact same_quiet (q.out _)))
        go_wp2
        go_ret
        exact ⟨ret_b (hv.out.trans (by simp)), _, rfl⟩
    · have hv : Hid (selB p no l = (decide (p = l) != no)) := by
        show _ = _; unfold selB; rw [hst, decide_eq_false h42]; simp [h0]
      generalize hc : (p[p.size - 1].toNat : Int) = c at *
      have hgetk : ∀ h : p.size - 1 < p.size, (p[p.size - 1].toNat : Int) = c := fun _ => hc
      have h42b : (c == 42) = false := by simpa using h42
      clear hst hlab
      by_cases he : p = l
      · rw [decide_eq_true he] at hv
        subst he
        go_enter Tryz.func133, Tryz.ntmps133
        go_wp2
        go_ret
        exact ⟨ret_b (hv.out.trans (by simp)), 0, rfl⟩
      · rw [decide_eq_false he] at hv
        have he2 := str_neq he
        clear he
        go_enter Tryz.func133, Tryz.ntmps133
        go_wp2
        go_ret
        exact ⟨ret_b (hv.out.trans (by simp)), 0, rfl⟩

end Go.Proofs.YtanlgnjgpbjebaaGreatDoor

namespace Go.Proofs.YtanlgnjgpbjebaaGreatDoor
open Go.ChangeShapes Go.WideShapes Go.ChangeAt Go.RowKit
set_option linter.unusedVariables false
set_option linter.unusedSimpArgs false

/-- A label does not end in a star. -/
theorem lab_star {s : ByteArray} (h : labS s = true) : starB s = false := by
  refine Bool.eq_false_iff.2 fun hst => ?_
  have h0 : s.size ≠ 0 := by unfold starB at hst; exact (of_decide_eq_true hst).1
  have hk : s.size - 1 < s.size := by omega
  rw [last_byte hk rfl] at hst
  have h42 := of_decide_eq_true hst
  have hget : s.data.toList[s.size - 1]? = some s[s.size - 1] := by
    rw [List.getElem?_eq_getElem (by simpa using hk)]
    simp
    rfl
  unfold labS valsS at h
  split at h
  · split at h
    · rename_i hn
      unfold nameL at hn
      have e : mkB s.data.toList = s := rfl
      rw [e] at hn
      unfold nameB at hn
      rw [Bool.and_eq_true, List.all_eq_true] at hn
      have := hn.1 (s.size - 1) (List.mem_range.2 hk)
      rw [badAt_get s _ hk, h42] at this
      simp [badX, smallB, digitB] at this
    · cases h
  · split at h
    · rename_i hn
      rw [Bool.and_eq_true] at hn
      have h2 := hn.2
      rw [List.getLast?_eq_getElem?] at h2
      have hl : s.data.toList.length = s.size := by simp
      rw [hl, hget] at h2
      have : s[s.size - 1] = 41 := by simpa using h2
      rw [this] at h42
      cases h42
    · cases h

set_option maxRecDepth 100000 in
theorem hasSuffix_calls (s : ByteArray) (w : World) (hs : s.size ≤ 1048576) : Calls Tryz.prog 181 #[.string s, .string ⟨#[42]⟩] w fun e w' => e = .returned (.bool (starB s)) ∧ w = w' := by
  have hb : (⟨#[42]⟩ : ByteArray).size = 1 := rfl
  have hb2 : (((⟨#[42]⟩ : ByteArray).size : Nat) : Int) = 1 := rfl
  by_cases h0 : s.size = 0
  · have hv : Hid (starB s = false) := by show _ = _; unfold starB; simp [h0]
    rw [size_zero h0] at hv ⊢
    go_enter Tryz.func181, Tryz.ntmps181
    go_wp2
    go_ret
    exact ⟨ret_b hv.out, rfl⟩
  · have hi : IntKind.i64.wrap ((s.size : Int) - 1) = ((s.size - 1 : Nat) : Int) := by rw [IntWalk.i64_in _ (by omega)]; omega
    have hi2 : (s.size : Int) - 1 = ((s.size - 1 : Nat) : Int) := by omega
    have hge : (1 : Int) ≤ (s.size : Int) := by omega
    by_cases he : s.extract (s.size - 1) s.size = ⟨#[42]⟩
    · have hv : Hid (starB s = true) := by show _ = _; unfold starB; exact decide_eq_true ⟨h0, he⟩
      have he2 : (s.extract (s.size - 1) s.size).toList = [42] := by rw [he]; exact ByteArray.toList_mk _
      go_enter Tryz.func181, Tryz.ntmps181
      go_wp2
      go_ret
      exact ⟨ret_b hv.out, rfl⟩
    · have hv : Hid (starB s = false) := by show _ = _; unfold starB; exact decide_eq_false fun c => he c.2
      have he2 : ((s.extract (s.size - 1) s.size).toList == [42]) = false := by
        have := str_neq he
        rwa [show (⟨#[42]⟩ : ByteArray).toList = [42] from ByteArray.toList_mk _] at this
      go_enter Tryz.func181, Tryz.ntmps181
      go_wp2
      go_ret
      exact ⟨ret_b hv.out, rfl⟩
def cutV (s : ByteArray) : ByteArray := if starB s then cutB s else s
set_option maxRecDepth 100000 in
theorem cutSuffixL_calls (s : ByteArray) (w : World) (hs : s.size ≤ 1048576) : Calls Tryz.prog 167 #[.string s, .string ⟨#[42]⟩] w fun e w' => e = .returned (.tuple #[.string (cutV s), .bool (starB s)]) ∧ w = w' := by
  have q := hasSuffix_calls s w hs
  have hb2 : (((⟨#[42]⟩ : ByteArray).size : Nat) : Int) = 1 := rfl
  cases hst : starB s with
  | false =>
    rw [hst] at q
    replace q := hide q
    have hv : Hid (cutV s = s) := by show _ = _; unfold cutV; rw [hst]; rfl
    rw [hv.out]
    go_enter Tryz.func167, Tryz.ntmps167
    go_wp2_with (first | (go_at_call 181; (with_reducible refine q.out.mono ?_); rintro e w1 ⟨rfl, rfl⟩))
    go_ret2
    exact ⟨rfl, rfl⟩
  | true =>
    rw [hst] at q
    replace q := hide q
    have h0 : s.size ≠ 0 := by unfold starB at hst; exact (of_decide_eq_true hst).1
    have hv : Hid (cutV s = s.extract 0 (s.size - 1)) := by show _ = _; unfold cutV cutB; rw [hst]; rfl
    have hi : IntKind.i64.wrap ((s.size : Int) - 1) = ((s.size - 1 : Nat) : Int) := by rw [IntWalk.i64_in _ (by omega)]; omega
    have hi2 : (s.size : Int) - 1 = ((s.size - 1 : Nat) : Int) := by omega
    rw [hv.out]
    go_enter Tryz.func167, Tryz.ntmps167
    go_wp2_with (first | (go_at_call 181; (with_reducible refine q.out.mono ?_); rintro e w1 ⟨rfl, rfl⟩))
    go_ret2
    exact ⟨rfl, rfl⟩
theorem cutSuffix_calls (s : ByteArray) (w : World) (hs : s.size ≤ 1048576) : Calls Tryz.prog 149 #[.string s, .string ⟨#[42]⟩] w fun e w' => e = .returned (.tuple #[.string (cutV s), .bool (starB s)]) ∧ w = w' := by
  have q := hide (cutSuffixL_calls s w hs)
  go_enter Tryz.func149, Tryz.ntmps149
  go_wp2_with (first | (go_at_call 167; (with_reducible refine q.out.mono ?_); rintro e w1 ⟨rfl, rfl⟩))
  go_ret2
  exact ⟨rfl, rfl⟩

set_option maxRecDepth 100000 in
theorem isPattern_calls (s : ByteArray) (w : World) (hs : s.size ≤ 1048576) (he : Env w) : Calls Tryz.prog 140 #[.string s] w fun e w' => e = .returned (.bool (patB s)) ∧ Below w.heap.size w w' := by
  have qc := hide (cutSuffix_calls s w hs)
  by_cases h0 : s.size = 0
  · have hv : Hid (patB s = true) := by show _ = _; unfold patB; simp [h0]
    rw [size_zero h0] at hv qc ⊢
    generalize cutV ⟨#[]⟩ = cv at *
    generalize starB ⟨#[]⟩ = st at *
    go_enter Tryz.func140, Tryz.ntmps140
    go_wp2_with (first | (go_at_call 149; (with_reducible refine qc.out.mono ?_); rintro e w1 ⟨rfl, rfl⟩))
    go_ret
    exact ⟨ret_b hv.out, Below.refl _ _⟩
  · have hne : ¬ s.toList = [] := fun c => h0 (by rw [ba_ext (a := s) (b := ⟨#[]⟩) (by rw [c]; exact (ByteArray.toList_mk _).symm)]; rfl)
    have hne2 : (s.toList == []) = false := by simpa using hne
    have q := isLabel_calls s w hs he
    cases hl : labS s with
    | true =>
      rw [hl] at q
      replace q := hide q
      have hv : Hid (patB s = true) := by show _ = _; unfold patB; simp [hl]
      generalize cutV s = cv at *
      generalize starB s = st at *
      clear hl h0
      go_enter Tryz.func140, Tryz.ntmps140
      go_wp2_with (first | (go_at_call 149; (with_reducible refine qc.out.mono ?_); rintro e w1 ⟨rfl, rfl⟩) | (go_at_call 108; (with_reducible refine q.out.mono ?_); rintro e w2 ⟨rfl, hb1⟩))
      go_ret
      exact ⟨ret_b hv.out, hb1⟩
    | false =>
      rw [hl] at q
      replace q := hide q
      cases hst : starB s with
      | false =>
        rw [hst] at qc
        have hv : Hid (patB s = false) := by show _ = _; unfold patB; rw [hl, hst]; simp [h0]
        generalize cutV s = cv at *
        clear hl h0 hst
        go_enter Tryz.func140, Tryz.ntmps140
        go_wp2_with (first | (go_at_call 149; (with_reducible refine qc.out.mono ?_); rintro e w1 ⟨rfl, rfl⟩) | (go_at_call 108; (with_reducible refine q.out.mono ?_); rintro e w2 ⟨rfl, hb1⟩))
        go_ret
        exact ⟨ret_b hv.out, hb1⟩
      | true =>
        rw [hst] at qc
        have hv : Hid (patB s = actB (cutV s)) := by show _ = _; unfold patB cutV; rw [hl, hst]; simp [h0]
        have hcs : (cutV s).size ≤ 1048576 := by unfold cutV cutB; rw [hst]; simp only [if_true, ByteArray.size_extract]; omega
        have qa := fun W => isAction_calls (cutV s) W hcs
        rw [← hv.out] at qa
        replace qa := hide qa
        generalize cutV s = cv at *
        clear hl h0 hst hcs hv
        go_enter Tryz.func140, Tryz.ntmps140
        go_wp2_with (first | (go_at_call 149; (with_reducible refine qc.out.mono ?_); rintro e w1 ⟨rfl, rfl⟩) | (go_at_call 108; (with_reducible refine q.out.mono ?_); rintro e w2 ⟨rfl, hb1⟩) | (go_at_call 165; (with_reducible refine (qa.out _).mono ?_); rintro e w3 ⟨rfl, rfl⟩))
        go_ret
        exact ⟨rfl, hb1⟩

end Go.Proofs.YtanlgnjgpbjebaaGreatDoor

namespace Go.Proofs.YtanlgnjgpbjebaaGreatDoor
open Go.ChangeShapes Go.WideShapes Go.ChangeAt Go.RowKit
set_option linter.unusedVariables false
set_option linter.unusedSimpArgs false

/-- All labels of a valid system are ones. -/
theorem lts_lab {st ini : Int} {ls : List ByteArray} {es : List Ed} (h : ltsV (st, ini, ls, es) = true) {s : ByteArray} (hs : s ∈ ls) : labS s = true := by
  obtain ⟨k, hk⟩ := List.getElem?_of_mem hs
  unfold ltsV ltsB at h
  simp only [Bool.and_eq_true] at h
  have h1 := allK_get h.2.1 (List.getElem?_eq_some_iff.1 hk).1
  unfold okLab at h1
  simp only [hk, Bool.and_eq_true] at h1
  exact h1.1.1
theorem totS_memN : ∀ {l : List ByteArray} {s : ByteArray}, s ∈ l → s.size ≤ totS l
  | [], s, h => by cases h
  | a :: l, s, h => by
    unfold totS
    simp only [List.map_cons, List.sum_cons, List.length_cons]
    rcases List.mem_cons.1 h with rfl | h
    · omega
    · have := totS_memN h
      unfold totS at this
      omega
theorem setOf_put {n k : Nat} {p p' : Nat → Bool} {b : Bool} (hk : k < n) (h : ∀ x, x < n → p' x = if x = k then b else p x) : (setOf n p).set k b = setOf n p' := by
  apply List.ext_getElem?
  intro i
  by_cases e : k = i
  · subst e
    rw [List.getElem?_set_self (by rw [setOf_len]; exact hk), setOf_get hk, h k hk, if_pos rfl]
  · rw [List.getElem?_set_ne e]
    by_cases hi : i < n
    · rw [setOf_get hi, setOf_get hi, h i hi, if_neg (fun c => e c.symm)]
    · rw [List.getElem?_eq_none (by rw [setOf_len]; omega), List.getElem?_eq_none (by rw [setOf_len]; omega)]
/-- What a step has after the first j edges. -/
def stpB (nd : Nd) (ls : List ByteArray) (es : List Ed) (S : List Bool) (j : Nat) (x : Nat) : Bool :=
  if nd.1 = 5 then (es.take j).all (fun e => !(hitN nd ls (x : Int) e) || inS S e.2.2.toNat) else (es.take j).any (fun e => hitN nd ls (x : Int) e && inS S e.2.2.toNat)
theorem stpB_next {nd : Nd} {ls : List ByteArray} {es : List Ed} {S : List Bool} {j : Nat} {e : Ed} (hx : es[j]? = some e) (x : Nat) :
    stpB nd ls es S (j + 1) x = if nd.1 = 5 then stpB nd ls es S j x && (!(hitN nd ls (x : Int) e) || inS S e.2.2.toNat) else stpB nd ls es S j x || (hitN nd ls (x : Int) e && inS S e.2.2.toNat) := by
  unfold stpB
  rw [List.take_add_one, hx]
  split <;> simp
/-- The step of a modality. -/
def stpV (nd : Nd) (d : DL) (S : List Bool) : List Bool := setOf d.1.toNat fun x => stpB nd d.2.2.1 d.2.2.2 S d.2.2.2.length x
theorem stp_any {nd : Nd} {ls : List ByteArray} {es : List Ed} {S : List Bool} {x : Nat} : stpB nd ls es S es.length x = if nd.1 = 5 then ((tgtN nd ls es (x : Int)).map Int.toNat).all (inS S) else ((tgtN nd ls es (x : Int)).map Int.toNat).any (inS S) := by
  unfold stpB tgtN
  rw [List.take_length]
  split
  · rw [Bool.eq_iff_iff, List.all_eq_true, List.all_eq_true]
    constructor
    · intro h y hy
      obtain ⟨z, hz, rfl⟩ := List.mem_map.1 hy
      obtain ⟨e, he, rfl⟩ := List.mem_map.1 hz
      have h1 := List.mem_filter.1 he
      have := h e h1.1
      rw [h1.2] at this
      simpa using this
    · intro h e he
      cases hh : hitN nd ls (x : Int) e with
      | false => simp
      | true =>
        have := h e.2.2.toNat (List.mem_map.2 ⟨e.2.2, List.mem_map.2 ⟨e, List.mem_filter.2 ⟨he, hh⟩, rfl⟩, rfl⟩)
        simp [this]
  · rw [Bool.eq_iff_iff, List.any_eq_true, List.any_eq_true]
    constructor
    · rintro ⟨e, he, h⟩
      rw [Bool.and_eq_true] at h
      exact ⟨e.2.2.toNat, List.mem_map.2 ⟨e.2.2, List.mem_map.2 ⟨e, List.mem_filter.2 ⟨he, h.1⟩, rfl⟩, rfl⟩, h.2⟩
    · rintro ⟨y, hy, h⟩
      obtain ⟨z, hz, rfl⟩ := List.mem_map.1 hy
      obtain ⟨e, he, rfl⟩ := List.mem_map.1 hz
      have h1 := List.mem_filter.1 he
      exact ⟨e, h1.1, by rw [Bool.and_eq_true]; exact ⟨h1.2, h⟩⟩

theorem same_quiet3 {P : Program} {f : FuncId} {args : Array Value} {w : World} {n : Nat} {v : Value} (h : Calls P f args (w.drewN n) fun e w' => e = .returned v ∧ ∃ m, w' = (w.drewN n).drewN m) :
    Calls P f args (w.drewN n) fun e w'' => e = .returned v ∧ ∃ m, w'' = w.drewN m := h.mono fun _ _ ⟨he, m, hm⟩ => ⟨he, n + m, by rw [hm, World.drewN_drewN]⟩
set_option maxRecDepth 100000 in
set_option maxHeartbeats 6400000 in
theorem l14Step_calls (bn on : Nat) (q v : Int) (p : ByteArray) (no : Bool) (bt : Nat) (x : CL) (N : Nat) (ini : Int) (ls : List ByteArray) (es : List Ed) (A : Option Addr) (c : Nat) (S : List Bool) (w : World) (h : LtsAt w bt x ((N : Int), ini, ls, es))
    (hval : ltsV ((N : Int), ini, ls, es) = true) (n0 : w.cell? ⟨bn, on, none⟩ = some (.int .i64 q)) (n2 : w.cell? ⟨bn, on + 2, none⟩ = some (.string p)) (n3 : w.cell? ⟨bn, on + 3, none⟩ = some (.bool no)) (hbn : bn < w.heap.size) (hp : p.size ≤ 1048576) (hq : q = 4 ∨ q = 5)
    (lo hi : Nat) (hS : SlB w lo hi A N S) :
    Calls Tryz.prog 106 #[.pointer (some ⟨bn, on, none⟩), .pointer (some ⟨bt, 0, none⟩), .slice A N c] w fun e w' => ∃ A', e = .returned (.slice A' N N) ∧ SlB w' w.heap.size w'.heap.size A' N (stpV (q, v, p, no) ((N : Int), ini, ls, es) S) ∧ Below w.heap.size w w' := by
  have hb40 : 1 ≤ (N : Int) ∧ (N : Int) ≤ 40 := (lts_boundsB hval).1
  have hmk := run_make_bool N (by omega)
  have hstart := SlB.made w N
  rw [← setK_zero N (fun _ => decide (q = 5))] at hstart
  replace hstart := hide hstart
  have hN0 := h.1.1
  have hL := hide h
  obtain ⟨⟨hr0, hr1, ⟨A2, n2', k2, e2, hn2, hs2, t2⟩, ⟨A3, n3', k3, e3, hn3, t3⟩⟩, htot, hbt, l0, l1, l2, l3⟩ := h
  dsimp only at hr0 hr1 e2 e3
  rw [hr0] at l0
  rw [e2] at l2
  rw [e3] at l3
  have hes : n3' = es.length := t3.len.symm
  have hls : n2' = ls.length := t2.len.symm
  have hes3 : n3' ≤ 1048576 := by have := totL_edg ((N : Int), ini, ls, es); dsimp only at this; omega
  have hE := hide (fun k f lb tg hx => edge_of (k := k) (f := f) (lb := lb) (tg := tg) hval hx)
  have hLab := hide (fun s (hs : s ∈ ls) => (show labS s = true from lts_lab hval hs))
  have hLsz := hide (fun s (hs : s ∈ ls) => (show s.size ≤ 1048576 from by have := totS_memN hs; unfold totL at htot; dsimp only at htot; omega))
  have hv : Hid (stpV (q, v, p, no) ((N : Int), ini, ls, es) S = setOf N (stpB (q, v, p, no) ls es S es.length)) := by show _ = _; unfold stpV; simp
  have hst0 : Hid (setOf N (fun _ => decide (q = 5)) = setOf N (stpB (q, v, p, no) ls es S 0)) := setOf_congr fun x _ => by
    unfold stpB
    rcases hq with rfl | rfl <;> simp
  have hnx := hide (fun (j : Nat) (e : Ed) (hx : es[j]? = some e) (y : Nat) => stpB_next (nd := (q, v, p, no)) (ls := ls) (S := S) hx y)
  replace hval := hide hval
  have hS' := hide hS
  clear hN0 htot hL l1 hr0 hr1 e2 e3 hn2 hs2 hn3 hS
  subst hes hls
  rw [hv.out]
  have L2 := hide l2
  have L3 := hide l3
  have M0 := hide n0
  have M2 := hide n2
  have M3 := hide n3
  replace hv := hv
  go_enter Tryz.func106, Tryz.ntmps106
  go_wp2
  go_loopw [8] (fun i wr => ∃ k : Nat, k ≤ N ∧ i = .int .i64 k ∧ SlB wr w.heap.size (w.heap.size + 1) (some ⟨w.heap.size, 0, none⟩) N (setK N k fun _ => decide (q = 5)) ∧ Below w.heap.size w wr ∧ w.heap.size < wr.heap.size) (fun i _ => N - (intOf i).toNat)
  case atStart => exact ⟨0, Nat.zero_le _, rfl, hstart.out, (Below.refl _ _).alloc (Nat.le_refl _) _, by simp⟩
  case round =>
    obtain ⟨k, hk, rfl, hs, hb, hz⟩ := hrel
    clear hmk hstart
    replace l0 := (hb.cell (p := ⟨bt, 0, none⟩) hbt).trans l0
    replace l2 := (hb.cell (p := ⟨bt, 2, none⟩) hbt).trans l2
    replace l3 := (hb.cell (p := ⟨bt, 3, none⟩) hbt).trans l3
    replace n0 := (hb.cell (p := ⟨bn, on, none⟩) hbn).trans n0
    by_cases hlt : k < N
    · obtain ⟨d0, z0⟩ := SlB.cell hs hlt
      rw [Nat.zero_add] at d0 z0
      have hnext := hs.put hlt (decide (q = 5))
      rw [setK_step hlt rfl, Nat.zero_add] at hnext
      replace hnext := hide hnext
      have hq5 : (q == 5) = decide (q = 5) := by rw [Bool.eq_iff_iff]; simp
      replace hb := hide hb
      clear hs
      rcases hq with rfl | rfl
      all_goals
        go_wp2
        go_roundw
        case rel => exact ⟨k + 1, by omega, by go_num, hnext.out, hb.out.setCell (Nat.le_refl _) _, by rw [World.size_setCell]; exact hz⟩
        case measure => simp [intOf]; omega
    · have hkn : k = N := by omega
      subst hkn
      rw [setK_all, hst0.out] at hs
      replace hs := hide hs
      have hb0 := hide hb
      clear hk hlt l2 l3 n0 n2 n3
      have hw0 := hide hz
      go_wp2
      clear l0 hz hb
      generalize wr = W1 at *
      go_loopw [9] (fun i wr => ∃ j : Nat, j ≤ es.length ∧ i = .int .i64 (j : Nat) ∧ Hid (SlB wr w.heap.size (w.heap.size + 1) (some ⟨w.heap.size, 0, none⟩) k (setOf k (stpB (q, v, p, no) ls es S j))) ∧ Below w.heap.size w wr ∧ w.heap.size < wr.heap.size) (fun i _ => es.length - (intOf i).toNat)
      case atStart => exact ⟨0, Nat.zero_le _, rfl, hs.out, hb0.out, hw0.out⟩
      case round =>
        clear hs hb0 hw0 hst0
        obtain ⟨j, hj, rfl, hs, hb, hz⟩ := hrel
        have l3 := (hb.cell (p := ⟨bt, 3, none⟩) hbt).trans L3.out
        by_cases hlt : j < es.length
        · have l2 := (hb.cell (p := ⟨bt, 2, none⟩) hbt).trans L2.out
          have n0 := (hb.cell (p := ⟨bn, on, none⟩) hbn).trans M0.out
          have n2 := (hb.cell (p := ⟨bn, on + 2, none⟩) hbn).trans M2.out
          have n3 := (hb.cell (p := ⟨bn, on + 3, none⟩) hbn).trans M3.out
          obtain ⟨b3, o3, ef, el, et, rfl, -, -, g3, hx, c0, c1, c2, -⟩ := SlE.get t3 hlt
          obtain ⟨⟨hf0, hf1⟩, ⟨ht0, ht1⟩, hl0, hl1⟩ := hE.out _ _ _ _ hx
          obtain ⟨fn, rfl⟩ : ∃ fn : Nat, ef = (fn : Int) := ⟨ef.toNat, by omega⟩
          obtain ⟨ln, rfl⟩ : ∃ ln : Nat, el = (ln : Int) := ⟨el.toNat, by omega⟩
          obtain ⟨tn, rfl⟩ : ∃ tn : Nat, et = (tn : Int) := ⟨et.toNat, by omega⟩
          have hfn : fn < k := by omega
          have htn : tn < k := by omega
          have hln : ln < ls.length := by omega
          obtain ⟨b2, o2, lab, rfl, -, -, g2, hlx, d0, -⟩ := SlS.get t2 hln
          obtain ⟨bS, oS, rfl, -, -, gS, hSx, s0, -⟩ := SlB.get hS'.out htn
          replace c0 := (hb.cell (p := ⟨b3, o3 + j * 3, none⟩) g3).trans c0
          replace c1 := (hb.cell (p := ⟨b3, o3 + j * 3 + 1, none⟩) g3).trans c1
          replace c2 := (hb.cell (p := ⟨b3, o3 + j * 3 + 2, none⟩) g3).trans c2
          replace d0 := (hb.cell (p := ⟨b2, o2 + ln, none⟩) g2).trans d0
          replace s0 := (hb.cell (p := ⟨bS, oS + tn, none⟩) gS).trans s0
          have hlm := List.mem_of_getElem? hlx
          have hst := lab_star (hLab.out lab hlm)
          have hlz := hLsz.out lab hlm
          have hnext := fun y => hnx.out j _ hx y
          have hhit : ∀ y : Nat, hitN (q, v, p, no) ls (y : Int) ((fn : Int), (ln : Int), (tn : Int)) = (decide (fn = y) && selB p no lab) := fun y => by
            unfold hitN selN labE
            simp only [Int.toNat_natCast, hlx, Option.getD_some]
            congr 1
            rw [decide_eq_decide]
            omega
          simp only [hhit, Int.toNat_natCast] at hnext
          have qs := hide (fun (W : World) (N : Nat) => l14Selects_calls p no lab (W.drewN N) hp hlz hst)
          have hbE : Below wr.heap.size wr (wr.alloc (.cells #[.int .i64 (fn : Int), .int .i64 (ln : Int), .int .i64 (tn : Int)] 108)) := (Below.refl _ _).alloc (Nat.le_refl _) _
          have kE := heap_alloc_new wr (.cells #[.int .i64 (fn : Int), .int .i64 (ln : Int), .int .i64 (tn : Int)] 108)
          have hsz := hb.size
          have En0 := (hbE.cell (p := ⟨bn, on, none⟩) (show bn < wr.heap.size by omega)).trans n0
          have En2 := (hbE.cell (p := ⟨bn, on + 2, none⟩) (show bn < wr.heap.size by omega)).trans n2
          have En3 := (hbE.cell (p := ⟨bn, on + 3, none⟩) (show bn < wr.heap.size by omega)).trans n3
          have El2 := (hbE.cell (p := ⟨bt, 2, none⟩) (show bt < wr.heap.size by omega)).trans l2
          have El3 := (hbE.cell (p := ⟨bt, 3, none⟩) (show bt < wr.heap.size by omega)).trans l3
          have Ed0 := (hbE.cell (p := ⟨b2, o2 + ln, none⟩) (show b2 < wr.heap.size by omega)).trans d0
          have Es0 := (hbE.cell (p := ⟨bS, oS + tn, none⟩) (show bS < wr.heap.size by omega)).trans s0
          have e0 : (wr.alloc (.cells #[.int .i64 (fn : Int), .int .i64 (ln : Int), .int .i64 (tn : Int)] 108)).cell? ⟨wr.heap.size, 0, none⟩ = some (.int .i64 (fn : Int)) := (cell_of_row _ _ 0 _ _ (0, 0) kE).trans rfl
          have e1 : (wr.alloc (.cells #[.int .i64 (fn : Int), .int .i64 (ln : Int), .int .i64 (tn : Int)] 108)).cell? ⟨wr.heap.size, 1, none⟩ = some (.int .i64 (ln : Int)) := (cell_of_row _ _ 1 _ _ (0, 0) kE).trans rfl
          have e2 : (wr.alloc (.cells #[.int .i64 (fn : Int), .int .i64 (ln : Int), .int .i64 (tn : Int)] 108)).cell? ⟨wr.heap.size, 2, none⟩ = some (.int .i64 (tn : Int)) := (cell_of_row _ _ 2 _ _ (0, 0) kE).trans rfl
          have hsE := hide (hs.out.below hbE (.inl (show w.heap.size + 1 ≤ wr.heap.size from hz)))
          have hzE : w.heap.size < (wr.alloc (.cells #[.int .i64 (fn : Int), .int .i64 (ln : Int), .int .i64 (tn : Int)] 108)).heap.size := by rw [World.size_alloc]; omega
          have hbF := hide (hb.trans (hbE.mono hb.size))
          clear hx hlx hSx hhit hst hlz hlm kE hbE gS g2 g3 n0 n2 n3 l2 d0 s0 t3 t2 hs
          replace L3 := L3
          go_upto_region 10 with fail
          clear c0 c1 c2 l3
          generalize hWE : (wr.alloc (.cells #[.int .i64 (fn : Int), .int .i64 (ln : Int), .int .i64 (tn : Int)] 108)) = WE at *
          generalize wr.heap.size = bE at *
          clear hWE
          have hk0 : (0 : Int) ≤ (ln : Int) := by omega
          have hk1 : (ln : Int) < (ls.length : Int) := by omega
          generalize inS S tn = u at *
          generalize selB p no lab = sel at *
          go_quiet ((go_at_call 133; with_reducible exact same_quiet3 (qs.out _ _)))
          have Qn0 : (WE.drewN nq).cell? ⟨bn, on, none⟩ = _ := En0
          have Qn2 : (WE.drewN nq).cell? ⟨bn, on + 2, none⟩ = _ := En2
          have Qn3 : (WE.drewN nq).cell? ⟨bn, on + 3, none⟩ = _ := En3
          have Ql2 : (WE.drewN nq).cell? ⟨bt, 2, none⟩ = _ := El2
          have Ql3 : (WE.drewN nq).cell? ⟨bt, 3, none⟩ = _ := El3
          have Qd0 : (WE.drewN nq).cell? ⟨b2, o2 + ln, none⟩ = _ := Ed0
          have Qs0 : (WE.drewN nq).cell? ⟨bS, oS + tn, none⟩ = _ := Es0
          have q0 : (WE.drewN nq).cell? ⟨bE, 0, none⟩ = _ := e0
          have q1 : (WE.drewN nq).cell? ⟨bE, 1, none⟩ = _ := e1
          have q2 : (WE.drewN nq).cell? ⟨bE, 2, none⟩ = _ := e2
          have hsQ : Hid (SlB (WE.drewN nq) w.heap.size (w.heap.size + 1) (some ⟨w.heap.size, 0, none⟩) k (setOf k (stpB (q, v, p, no) ls es S j))) := hsE.out.drewN nq
          have hzQ : w.heap.size < (WE.drewN nq).heap.size := hzE
          have hbQ : Hid (Below w.heap.size w (WE.drewN nq)) := hbF.out.trans ((below_drewN WE nq).mono hbF.out.size)
          clear En0 En2 En3 El2 El3 Ed0 Es0 e0 e1 e2 hsE hzE hbF
          generalize WE.drewN nq = WQ at *
          obtain ⟨d1, z1⟩ := SlB.cell hsQ.out hfn
          rw [Nat.zero_add] at d1 z1
          have hfn0 : (0 : Int) ≤ (fn : Int) := by omega
          have hfn1 : (fn : Int) < (k : Int) := by omega
          have htn0 : (0 : Int) ≤ (tn : Int) := by omega
          have htn1 : (tn : Int) < (k : Int) := by omega
          have hput := fun b => hsQ.out.put hfn b
          simp only [Nat.zero_add] at hput
          replace hput := hide hput
          replace hnext := hide hnext
          rcases hq with rfl | rfl
          · cases sel
            · have hnew : Hid (SlB WQ w.heap.size (w.heap.size + 1) (some ⟨w.heap.size, 0, none⟩) k (setOf k (stpB (4, v, p, no) ls es S (j + 1)))) := by
                show SlB _ _ _ _ _ _
                rw [setOf_congr (q := stpB (4, v, p, no) ls es S j) fun y _ => by rw [hnext.out y]; simp]
                exact hsQ.out
              clear hput hnext hsQ
              go_wp2
              go_roundw
              case rel => exact ⟨j + 1, by omega, by go_num, hnew, hbQ.out, hzQ⟩
              case measure => simp [intOf]; omega
            · cases u
              · have hnew : Hid (SlB WQ w.heap.size (w.heap.size + 1) (some ⟨w.heap.size, 0, none⟩) k (setOf k (stpB (4, v, p, no) ls es S (j + 1)))) := by
                  show SlB _ _ _ _ _ _
                  rw [setOf_congr (q := stpB (4, v, p, no) ls es S j) fun y _ => by rw [hnext.out y]; simp]
                  exact hsQ.out
                clear hput hnext hsQ
                go_wp2
                go_roundw
                case rel => exact ⟨j + 1, by omega, by go_num, hnew, hbQ.out, hzQ⟩
                case measure => simp [intOf]; omega
              · have hnew : Hid (SlB (WQ.setCell ⟨w.heap.size, fn, none⟩ (.bool true)) w.heap.size (w.heap.size + 1) (some ⟨w.heap.size, 0, none⟩) k (setOf k (stpB (4, v, p, no) ls es S (j + 1)))) := by
                  show SlB _ _ _ _ _ _
                  rw [← setOf_put (b := true) (p := stpB (4, v, p, no) ls es S j) hfn fun y _ => by rw [hnext.out y]; by_cases hy : y = fn <;> simp [hy, eq_comm (a := fn) (b := y)]]
                  exact hput.out true
                clear hput hnext hsQ
                go_wp2
                go_roundw
                case rel => exact ⟨j + 1, by omega, by go_num, hnew, hbQ.out.setCell (Nat.le_refl _) _, by rw [World.size_setCell]; exact hzQ⟩
                case measure => simp [intOf]; omega
          · cases sel
            · have hnew : Hid (SlB WQ w.heap.size (w.heap.size + 1) (some ⟨w.heap.size, 0, none⟩) k (setOf k (stpB (5, v, p, no) ls es S (j + 1)))) := by
                show SlB _ _ _ _ _ _
                rw [setOf_congr (q := stpB (5, v, p, no) ls es S j) fun y _ => by rw [hnext.out y]; simp]
                exact hsQ.out
              clear hput hnext hsQ
              go_wp2
              go_roundw
              case rel => exact ⟨j + 1, by omega, by go_num, hnew, hbQ.out, hzQ⟩
              case measure => simp [intOf]; omega
            · cases u
              · have hnew : Hid (SlB (WQ.setCell ⟨w.heap.size, fn, none⟩ (.bool false)) w.heap.size (w.heap.size + 1) (some ⟨w.heap.size, 0, none⟩) k (setOf k (stpB (5, v, p, no) ls es S (j + 1)))) := by
                  show SlB _ _ _ _ _ _
                  rw [← setOf_put (b := false) (p := stpB (5, v, p, no) ls es S j) hfn fun y _ => by rw [hnext.out y]; by_cases hy : y = fn <;> simp [hy, eq_comm (a := fn) (b := y)]]
                  exact hput.out false
                clear hput hnext hsQ
                go_wp2
                go_roundw
                case rel => exact ⟨j + 1, by omega, by go_num, hnew, hbQ.out.setCell (Nat.le_refl _) _, by rw [World.size_setCell]; exact hzQ⟩
                case measure => simp [intOf]; omega
              · have hnew : Hid (SlB WQ w.heap.size (w.heap.size + 1) (some ⟨w.heap.size, 0, none⟩) k (setOf k (stpB (5, v, p, no) ls es S (j + 1)))) := by
                  show SlB _ _ _ _ _ _
                  rw [setOf_congr (q := stpB (5, v, p, no) ls es S j) fun y _ => by rw [hnext.out y]; simp]
                  exact hsQ.out
                clear hput hnext hsQ
                go_wp2
                go_roundw
                case rel => exact ⟨j + 1, by omega, by go_num, hnew, hbQ.out, hzQ⟩
                case measure => simp [intOf]; omega
        · have hje : j = es.length := by omega
          subst hje
          clear hE hLab hLsz hnx
          go_wp2
          go_ret
          exact ⟨_, rfl, hs.out.more (Nat.le_refl _) hz, hb⟩

end Go.Proofs.YtanlgnjgpbjebaaGreatDoor

namespace Go.Proofs.YtanlgnjgpbjebaaGreatDoor
open Go.ChangeShapes Go.WideShapes Go.ChangeAt Go.RowKit
set_option linter.unusedVariables false
set_option linter.unusedSimpArgs false

theorem l14Arity_calls (q : Int) (h0 : 0 ≤ q) (h8 : q ≤ 8) (w : World) : Calls Tryz.prog 105 #[.int .i64 q] w fun e w' => e = .returned (.int .i64 (arityQ q : Nat)) ∧ w = w' := by
  have : q = 0 ∨ q = 1 ∨ q = 2 ∨ q = 3 ∨ q = 4 ∨ q = 5 ∨ q = 6 ∨ q = 7 ∨ q = 8 := by omega
  rcases this with rfl | rfl | rfl | rfl | rfl | rfl | rfl | rfl | rfl
  all_goals
    go_enter Tryz.func105, Tryz.ntmps105
    go_wp2
    go_ret
    exact ⟨rfl, rfl⟩
theorem l19Fixed_calls (b off : Nat) (q : Int) (w : World) (c0 : w.cell? ⟨b, off, none⟩ = some (.int .i64 q)) : Calls Tryz.prog 80 #[.pointer (some ⟨b, off, none⟩)] w fun e w' => e = .returned (.bool (isFx q)) ∧ w = w' := by
  by_cases h7 : q = 7
  · subst h7
    go_enter Tryz.func80, Tryz.ntmps80
    go_wp2
    go_ret
    exact ⟨rfl, rfl⟩
  · by_cases h8 : q = 8
    · subst h8
      go_enter Tryz.func80, Tryz.ntmps80
      go_wp2
      go_ret
      exact ⟨rfl, rfl⟩
    · have hv : Hid (isFx q = false) := by show _ = _; unfold isFx; simp [h7, h8]
      have e7 : (q == 7) = false := by simpa using h7
      have e8 : (q == 8) = false := by simpa using h8
      go_enter Tryz.func80, Tryz.ntmps80
      go_wp2
      go_ret
      exact ⟨ret_b (by rw [hv.out]), rfl⟩

/-- A place in a formula of a good shape. -/
structure Shp (f : DN) : Prop where
  shape : ShapeF f
  kind : ∀ k, k < f.length → 0 ≤ qF f k ∧ qF f k ≤ 8
  len : f.length ≤ 30
theorem ValF.shp {f : DN} (h : ValF f) : Shp f := ⟨h.shape, h.kind, h.len.2⟩

theorem l19End_calls (A : Option Addr) (n c : Nat) (f : DN) (k : Nat) (w : World) (lo hi : Nat) (h : SlN w lo hi A n f) (hs : Shp f) (hk : k < n) :
    Calls Tryz.prog 81 #[.slice A n c, .int .i64 (k : Nat)] w fun e w' => e = .returned (.int .i64 (endF f k : Nat)) ∧ w = w' := by
  have hlen := h.len
  have hn : n ≤ 30 := by rw [← hlen]; exact hs.len
  obtain ⟨e1, e2, e3, e4⟩ := end_need hs.shape (k := k) (by omega)
  have hE : endF f k ≤ n := by omega
  have hNd : Hid (∀ i, k ≤ i → i < endF f k → ndI (qF f) k ≤ ndI (qF f) i) := e4
  have hEnd : Hid (ndI (qF f) (endF f k) = ndI (qF f) k - 1) := e3
  have hKi : Hid (∀ i, i < n → 0 ≤ qF f i ∧ qF f i ≤ 8) := fun i hi => hs.kind i (by omega)
  have hB := hide (ndI_bounds (qF f))
  generalize endF f k = E at *
  replace hlen := hide hlen
  have hq := hide (fun q h0 h8 => l14Arity_calls q h0 h8 w)
  clear e3 e4 hs
  go_enter Tryz.func81, Tryz.ntmps81
  go_wp2
  go_loopw [1, 5] (fun kk s wr => ∃ (i : Nat) (z : Int), k ≤ i ∧ i ≤ E ∧ kk = .int .i64 (i : Nat) ∧ s = .int .i64 z ∧ Hid (z = ndI (qF f) i - ndI (qF f) k + 1) ∧ w = wr) (fun kk _ _ => E - (intOf kk).toNat)
  case atStart => exact ⟨k, 1, Nat.le_refl _, by omega, rfl, rfl, by show _ = _; omega, rfl⟩
  case round =>
    obtain ⟨i, z, hi1, hi2, rfl, rfl, hz, rfl⟩ := hrel
    have hb1 := hB.out i
    have hb2 := hB.out k
    by_cases hlt : i < E
    · obtain ⟨b, off, x, y, s, t, rfl, g1, g2, g3, hx, c0, -⟩ := SlN.get h (show i < n by omega)
      have hqi : qF f i = x := qF_at hx
      have hk8 := hKi.out i (by omega)
      rw [hqi] at hk8
      have hq2 := hide (hq.out x hk8.1 hk8.2)
      have hzp : 0 < z := by have := hNd.out i hi1 hlt; have := hz.out; omega
      have hzb : -100 ≤ z ∧ z ≤ 100 := by have := hz.out; omega
      have hstep : ndI (qF f) (i + 1) = ndI (qF f) i + (arityQ x : Int) - 1 := by rw [← hqi]; rfl
      have hz2 : Hid (z + ((arityQ x : Int) - 1) = ndI (qF f) (i + 1) - ndI (qF f) k + 1) := by have := hz.out; show _ = _; omega
      have ha : arityQ x ≤ 2 := by
        unfold arityQ
        split
        · omega
        · split <;> omega
      clear hx hqi hk8 hstep hb1 hb2 hz h g1 g2
      generalize arityQ x = ar at *
      go_wp2_with (first | (go_at_call 105; (with_reducible refine hq2.out.mono ?_); rintro e w1 ⟨rfl, rfl⟩))
      go_roundw
      case rel => exact ⟨i + 1, _, by omega, by omega, by go_num, by go_num, hz2, trivial⟩
      case measure => simp [intOf]; omega
    · have hiE : i = E := by omega
      subst hiE
      have hz0 : z = 0 := by have := hz.out; have := hEnd.out; omega
      subst hz0
      clear hz hb1 hb2
      go_wp2
      go_ret
      exact ⟨rfl, rfl⟩

end Go.Proofs.YtanlgnjgpbjebaaGreatDoor

namespace Go.Proofs.YtanlgnjgpbjebaaGreatDoor
open Go.ChangeShapes Go.WideShapes Go.ChangeAt Go.RowKit
set_option linter.unusedVariables false
set_option linter.unusedSimpArgs false

def optI (o : Option Nat) : Int := match o with | some i => (i : Int) | none => -1
theorem SlN.at2 {w : World} {lo hi n : Nat} {A : Option Addr} {l : List Nd} (h : SlN w lo hi A n l) {i k : Nat} (hi' : i < n) (hk : k < n) :
    ∃ b off x y s z x' y' s' z', A = some ⟨b, off, none⟩ ∧ b < w.heap.size ∧ l[i]? = some (x, y, s, z) ∧ l[k]? = some (x', y', s', z') ∧ w.cell? ⟨b, off + i * 4, none⟩ = some (.int .i64 x) ∧ w.cell? ⟨b, off + i * 4 + 1, none⟩ = some (.int .i64 y) ∧ w.cell? ⟨b, off + k * 4, none⟩ = some (.int .i64 x') ∧ w.cell? ⟨b, off + k * 4 + 1, none⟩ = some (.int .i64 y') := by
  obtain ⟨b, off, x, y, s, z, rfl, -, -, g3, hx, c0, c1, -⟩ := h.get hi'
  obtain ⟨b', off', x', y', s', z', e, -, -, -, hx', d0, d1, -⟩ := h.get hk
  cases e
  exact ⟨b, off, x, y, s, z, x', y', s', z', rfl, g3, hx, hx', c0, c1, d0, d1⟩

set_option maxRecDepth 100000 in
set_option maxHeartbeats 1600000 in
theorem l19Binder_calls (A : Option Addr) (n c : Nat) (f : DN) (k : Nat) (w : World) (lo hi : Nat) (h : SlN w lo hi A n f) (hs : Shp f) (hk : k < n) :
    Calls Tryz.prog 97 #[.slice A n c, .int .i64 (k : Nat)] w fun e w' => e = .returned (.int .i64 (optI (bindF f k))) ∧ ∃ N, w' = w.drewN N := by
  have hlen := h.len
  have hn : n ≤ 30 := by rw [← hlen]; exact hs.len
  have qE := hide (fun (i : Nat) (hi' : i < n) N => l19End_calls A n c f i (w.drewN N) lo hi (h.drewN N) hs hi')
  replace hlen := hide hlen
  clear hs
  go_enter Tryz.func97, Tryz.ntmps97
  go_wp2
  go_loopg [5] (k + 1) (fun G s wr => ∃ (j N : Nat), j ≤ k ∧ s = .int .i64 ((j : Int) - 1) ∧ Hid (bindF f k = lastP (bindP f k) 0 j) ∧ wr = w.drewN N ∧ j ≤ G)
  case atStart => exact ⟨k, 0, Nat.le_refl _, by go_num, rfl, rfl, by omega⟩
  case round =>
    obtain ⟨j, N, hj, rfl, hb, rfl, hG⟩ := hrel
    cases j with
    | zero =>
      have hv : Hid (optI (bindF f k) = -1) := by show _ = _; rw [hb.out]; rfl
      clear hb h
      rw [show ((0 : Nat) : Int) - 1 = -1 from rfl]
      go_wp2
      go_ret
      exact ⟨ret_i hv.out, _, rfl⟩
    | succ m =>
      obtain ⟨G2, rfl⟩ : ∃ G2, gk = G2 + 1 := ⟨gk - 1, by omega⟩
      obtain ⟨b, off, x, y, s, z, x', y', s', z', rfl, g3, hx, hx', c0, c1, d0, d1⟩ := SlN.at2 h (show m < n by omega) hk
      have hp := bindP_eq f k m
      rw [qF_at hx, vF_at hx, vF_at hx'] at hp
      dsimp only at hp
      have hm1 : ((m + 1 : Nat) : Int) - 1 = (m : Int) := by omega
      rw [hm1]
      have hi0 : (0 : Int) ≤ (m : Int) := by omega
      have hi1 : (m : Int) < (n : Int) := by omega
      have hk0 : (0 : Int) ≤ (k : Int) := by omega
      have hk1 : (k : Int) < (n : Int) := by omega
      have qF1 := hide (fun N => l19Fixed_calls b (off + m * 4) x (w.drewN N) (show (w.drewN N).cell? _ = _ from c0))
      have qE1 := hide (fun N => qE.out m (by omega) N)
      have hE0 : (0 : Int) ≤ (endF f m : Int) := by omega
      have hrec : bindP f k m = false → Hid (bindF f k = lastP (bindP f k) 0 m) := fun hf => by
        show _ = _
        rw [hb.out]
        conv => lhs; unfold lastP
        rw [Nat.zero_add, hf]
        rfl
      have hhit : bindP f k m = true → Hid (optI (bindF f k) = (m : Int)) := fun hf => by
        show _ = _
        rw [hb.out]
        conv => lhs; unfold lastP
        rw [Nat.zero_add, hf]
        rfl
      generalize endF f m = E at *
      clear hx hx' h hb
      by_cases hf : isFx x = true
      · rw [hf] at qF1 hp
        by_cases hvv : y = y'
        · have hvb : (y == y') = true := by simpa using hvv
          by_cases hE : k < E
          · have hEb : decide ((E : Int) > (k : Int)) = true := decide_eq_true (by omega)
            have hE2 : (k : Int) < (E : Int) := by omega
            have hh := hhit (by rw [hp]; simp [hvv, hE])
            clear hrec hhit hp hf hvv hE
            go_wp2
            go_quiet (first | (go_at_call 80; with_reducible exact same_quiet2 (qF1.out _)) | (go_at_call 81; with_reducible exact same_quiet2 (qE1.out _)))
            go_wp2
            go_ret
            exact ⟨ret_i hh.out, _, World.drewN_drewN _ _ _⟩
          · have hEb : decide ((E : Int) > (k : Int)) = false := decide_eq_false (by omega)
            have hE2 : ¬ (k : Int) < (E : Int) := by omega
            have hh := hrec (by rw [hp]; simp [hE])
            clear hrec hhit hp hf hvv hE
            go_wp2
            go_quiet (first | (go_at_call 80; with_reducible exact same_quiet2 (qF1.out _)) | (go_at_call 81; with_reducible exact same_quiet2 (qE1.out _)))
            go_wp2
            go_roundg G2
            case measure => omega
            case rel => exact ⟨m, _, by omega, by go_num, hh, rfl, by omega⟩
        · have hvb : (y == y') = false := by simpa using hvv
          have hh := hrec (by rw [hp]; simp [hvv])
          clear hrec hhit hp hf hvv
          go_wp2
          go_quiet (first | (go_at_call 80; with_reducible exact same_quiet2 (qF1.out _)) | (go_at_call 81; with_reducible exact same_quiet2 (qE1.out _)))
          go_wp2
          go_roundg G2
          case measure => omega
          case rel => exact ⟨m, _, by omega, by go_num, hh, rfl, by omega⟩
      · have hf' : isFx x = false := Bool.eq_false_iff.2 hf
        rw [hf'] at qF1 hp
        have hh := hrec (by rw [hp]; rfl)
        clear hrec hhit hp hf hf'
        go_wp2
        go_quiet (first | (go_at_call 80; with_reducible exact same_quiet2 (qF1.out _)) | (go_at_call 81; with_reducible exact same_quiet2 (qE1.out _)))
        go_wp2
        go_roundg G2
        case measure => omega
        case rel => exact ⟨m, _, by omega, by go_num, hh, rfl, by omega⟩

set_option maxRecDepth 100000 in
set_option maxHeartbeats 1600000 in
theorem l21Around_calls (A : Option Addr) (n c : Nat) (f : DN) (k : Nat) (w : World) (lo hi : Nat) (h : SlN w lo hi A n f) (hs : Shp f) (hk : k < n) :
    Calls Tryz.prog 134 #[.slice A n c, .int .i64 (k : Nat)] w fun e w' => e = .returned (.int .i64 (optI (arouF f k))) ∧ w = w' := by
  have hlen := h.len
  have hn : n ≤ 30 := by rw [← hlen]; exact hs.len
  have qE := hide (fun (i : Nat) (hi' : i < n) => l19End_calls A n c f i w lo hi h hs hi')
  replace hlen := hide hlen
  clear hs
  go_enter Tryz.func134, Tryz.ntmps134
  go_wp2
  go_loopg [5] (k + 1) (fun G s wr => ∃ (j : Nat), j ≤ k ∧ s = .int .i64 ((j : Int) - 1) ∧ Hid (arouF f k = lastP (fixP f k) 0 j) ∧ w = wr ∧ j ≤ G)
  case atStart => exact ⟨k, Nat.le_refl _, by go_num, rfl, rfl, by omega⟩
  case round =>
    obtain ⟨j, hj, rfl, hb, rfl, hG⟩ := hrel
    cases j with
    | zero =>
      have hv : Hid (optI (arouF f k) = -1) := by show _ = _; rw [hb.out]; rfl
      clear hb h
      rw [show ((0 : Nat) : Int) - 1 = -1 from rfl]
      go_wp2
      go_ret
      exact ⟨ret_i hv.out, rfl⟩
    | succ m =>
      obtain ⟨G2, rfl⟩ : ∃ G2, gk = G2 + 1 := ⟨gk - 1, by omega⟩
      obtain ⟨b, off, x, y, s, z, rfl, g1, g2, g3, hx, c0, -⟩ := SlN.get h (show m < n by omega)
      have hp := fixP_eq f k m
      rw [qF_at hx] at hp
      dsimp only at hp
      have hm1 : ((m + 1 : Nat) : Int) - 1 = (m : Int) := by omega
      rw [hm1]
      have qF1 := hide (l19Fixed_calls b (off + m * 4) x w c0)
      have qE1 := hide (qE.out m (by omega))
      have hrec : fixP f k m = false → Hid (arouF f k = lastP (fixP f k) 0 m) := fun hf => by
        show _ = _
        rw [hb.out]
        conv => lhs; unfold lastP
        rw [Nat.zero_add, hf]
        rfl
      have hhit : fixP f k m = true → Hid (optI (arouF f k) = (m : Int)) := fun hf => by
        show _ = _
        rw [hb.out]
        conv => lhs; unfold lastP
        rw [Nat.zero_add, hf]
        rfl
      generalize endF f m = E at *
      clear hx h hb c0
      by_cases hf : isFx x = true
      · rw [hf] at qF1 hp
        by_cases hE : k < E
        · have hE2 : (k : Int) < (E : Int) := by omega
          have hh := hhit (by rw [hp]; simp [hE])
          clear hrec hhit hp hf hE
          go_wp2_with (first | (go_at_call 80; (with_reducible refine qF1.out.mono ?_); rintro e w1 ⟨rfl, rfl⟩) | (go_at_call 81; (with_reducible refine qE1.out.mono ?_); rintro e w1 ⟨rfl, rfl⟩))
          go_ret
          exact ⟨ret_i hh.out, rfl⟩
        · have hE2 : ¬ (k : Int) < (E : Int) := by omega
          have hh := hrec (by rw [hp]; simp [hE])
          clear hrec hhit hp hf hE
          go_wp2_with (first | (go_at_call 80; (with_reducible refine qF1.out.mono ?_); rintro e w1 ⟨rfl, rfl⟩) | (go_at_call 81; (with_reducible refine qE1.out.mono ?_); rintro e w1 ⟨rfl, rfl⟩))
          go_roundg G2
          case measure => omega
          case rel => exact ⟨m, by omega, by go_num, hh, rfl, by omega⟩
      · have hf' : isFx x = false := Bool.eq_false_iff.2 hf
        rw [hf'] at qF1 hp
        have hh := hrec (by rw [hp]; rfl)
        clear hrec hhit hp hf hf'
        go_wp2_with (first | (go_at_call 80; (with_reducible refine qF1.out.mono ?_); rintro e w1 ⟨rfl, rfl⟩) | (go_at_call 81; (with_reducible refine qE1.out.mono ?_); rintro e w1 ⟨rfl, rfl⟩))
        go_roundg G2
        case measure => omega
        case rel => exact ⟨m, by omega, by go_num, hh, rfl, by omega⟩

open Classical in
noncomputable def cloF (f : DN) (k : Nat) : Bool := decide (∀ i, k ≤ i → i < endF f k → qF f i = 6 → ∃ b, bindF f i = some b ∧ k ≤ b)
theorem optI_lt {o : Option Nat} {k : Nat} : optI o < (k : Int) ↔ ¬ ∃ b, o = some b ∧ k ≤ b := by
  cases o with
  | none => exact ⟨fun _ ⟨b, e, _⟩ => (by cases e), fun _ => (by show (-1 : Int) < _; omega)⟩
  | some i =>
    constructor
    · rintro h ⟨b, e, hb⟩
      cases e
      have : (i : Int) < k := h
      omega
    · intro h
      show (i : Int) < k
      have : ¬ k ≤ i := fun c => h ⟨i, rfl, c⟩
      omega
open Classical in
set_option maxRecDepth 100000 in
set_option maxHeartbeats 1600000 in
theorem l21Closed_calls (A : Option Addr) (n c : Nat) (f : DN) (k : Nat) (w : World) (lo hi : Nat) (h : SlN w lo hi A n f) (hs : Shp f) (hk : k < n) :
    Calls Tryz.prog 135 #[.slice A n c, .int .i64 (k : Nat)] w fun e w' => e = .returned (.bool (cloF f k)) ∧ ∃ N, w' = w.drewN N := by
  have hlen := h.len
  have hn : n ≤ 30 := by rw [← hlen]; exact hs.len
  have qE := hide (l19End_calls A n c f k w lo hi h hs hk)
  have qB := hide (fun (i : Nat) (hi' : i < n) N => l19Binder_calls A n c f i (w.drewN N) lo hi (h.drewN N) hs hi')
  obtain ⟨e1, e2, -, -⟩ := end_need hs.shape (k := k) (by omega)
  have hEn : endF f k ≤ n := by omega
  have hdef : Hid (cloF f k = decide (∀ i, k ≤ i → i < endF f k → qF f i = 6 → ∃ b, bindF f i = some b ∧ k ≤ b)) := rfl
  generalize endF f k = E at *
  replace hlen := hide hlen
  clear hs
  go_enter Tryz.func135, Tryz.ntmps135
  go_wp2_with (first | (go_at_call 81; (with_reducible refine qE.out.mono ?_); rintro e w1 ⟨rfl, rfl⟩))
  go_loopw [6] (fun s wr => ∃ (i N : Nat), k ≤ i ∧ i ≤ E ∧ s = .int .i64 (i : Nat) ∧ Hid (∀ j, k ≤ j → j < i → qF f j = 6 → ∃ b, bindF f j = some b ∧ k ≤ b) ∧ wr = w.drewN N) (fun s _ => E - (intOf s).toNat)
  case atStart => exact ⟨k, 0, Nat.le_refl _, by omega, rfl, fun j h1 h2 => by omega, rfl⟩
  case round =>
    obtain ⟨i, N, hi1, hi2, rfl, hall, rfl⟩ := hrel
    by_cases hlt : i < E
    · obtain ⟨b, off, x, y, s, z, rfl, g1, g2, g3, hx, c0, -⟩ := SlN.get h (show i < n by omega)
      have hqi : qF f i = x := qF_at hx
      have qB1 := hide (fun N => qB.out i (by omega) N)
      have hi0 : (0 : Int) ≤ (i : Int) := by omega
      have hi1' : (i : Int) < (n : Int) := by omega
      clear hx h g1 g2
      by_cases h6 : x = 6
      · subst h6
        by_cases hb : optI (bindF f i) < (k : Int)
        · have hv : Hid (cloF f k = false) := by
            show _ = _
            rw [hdef.out]
            exact decide_eq_false fun hc => optI_lt.1 hb (hc i hi1 hlt hqi)
          generalize optI (bindF f i) = B at *
          have hb2 : decide (B < (k : Int)) = true := decide_eq_true hb
          go_wp2_with (first | (go_at_call 97; (with_reducible refine (qB1.out _).mono ?_); rintro e w1 ⟨rfl, M, rfl⟩))
          go_ret
          exact ⟨ret_b hv.out, _, rfl⟩
        · have hnext : Hid (∀ j, k ≤ j → j < i + 1 → qF f j = 6 → ∃ b, bindF f j = some b ∧ k ≤ b) := fun j h1 h2 h3 => by
            by_cases hj : j = i
            · subst hj
              exact Classical.byContradiction fun hc => hb (optI_lt.2 hc)
            · exact hall.out j h1 (by omega) h3
          generalize optI (bindF f i) = B at *
          have hb2 : decide (B < (k : Int)) = false := decide_eq_false hb
          go_wp2_with (first | (go_at_call 97; (with_reducible refine (qB1.out _).mono ?_); rintro e w1 ⟨rfl, M, rfl⟩))
          go_roundw
          case rel => exact ⟨i + 1, _, by omega, by omega, by go_num, hnext, rfl⟩
          case measure => simp [intOf]; omega
      · have h6b : (x == 6) = false := by simpa using h6
        have hnext : Hid (∀ j, k ≤ j → j < i + 1 → qF f j = 6 → ∃ b, bindF f j = some b ∧ k ≤ b) := fun j h1 h2 h3 => by
          by_cases hj : j = i
          · subst hj
            exact absurd (hqi.symm.trans h3) h6
          · exact hall.out j h1 (by omega) h3
        clear hqi
        go_wp2
        go_roundw
        case rel => exact ⟨i + 1, _, by omega, by omega, by go_num, hnext, rfl⟩
        case measure => simp [intOf]; omega
    · have hiE : i = E := by omega
      subst hiE
      have hv : Hid (cloF f k = true) := by show _ = _; rw [hdef.out]; exact decide_eq_true hall.out
      clear hall
      go_wp2
      go_ret
      exact ⟨ret_b hv.out, _, rfl⟩

end Go.Proofs.YtanlgnjgpbjebaaGreatDoor

namespace Go.Proofs.YtanlgnjgpbjebaaGreatDoor
open Go.ChangeShapes Go.WideShapes Go.ChangeAt Go.RowKit
set_option linter.unusedVariables false
set_option linter.unusedSimpArgs false

theorem arT_self (M : Sy) (T : Tr) (k : Nat) (q : Int) : arT M T k q k = q := by cases T <;> simp [arT]
theorem arT_sub {M : Sy} {T : Tr} {k j i : Nat} {q : Int} (h1 : k ≤ j) (h2 : j < k + T.size) (g1 : j ≤ i) (g2 : i < j + (subT T k j).size) : arT M T k q i = arT M (subT T k j) j (arT M T k q j) i := by
  induction T generalizing k q with
  | leaf =>
    have : j = k := by simp only [Tr.size] at h2; omega
    subst this
    rfl
  | one a ih =>
    by_cases hj : j = k
    · subst hj; rw [subT_self, arT_self]
    · simp only [Tr.size] at h2
      have e1 : subT (.one a) k j = subT a (k + 1) j := by conv => lhs; unfold subT; rw [if_neg hj]
      rw [e1] at g2 ⊢
      have e2 : ∀ x, x ≠ k → arT M (.one a) k q x = arT M a (k + 1) (if isFx (M.q k) then M.q k else q) x := fun x hx => by conv => lhs; unfold arT; rw [if_neg hx]
      rw [e2 i (by omega), e2 j hj]
      exact ih (by omega) (by omega) g2
  | two a b iha ihb =>
    by_cases hj : j = k
    · subst hj; rw [subT_self, arT_self]
    · simp only [Tr.size] at h2
      by_cases hl : j < k + 1 + a.size
      · have e1 : subT (.two a b) k j = subT a (k + 1) j := by conv => lhs; unfold subT; rw [if_neg hj, if_pos hl]
        rw [e1] at g2 ⊢
        have hr := sub_range (T := a) (k := k + 1) (j := j) (by omega) hl
        have e2 : ∀ x, x ≠ k → x < k + 1 + a.size → arT M (.two a b) k q x = arT M a (k + 1) q x := fun x hx hx2 => by conv => lhs; unfold arT; rw [if_neg hx, if_pos hx2]
        rw [e2 i (by omega) (by omega), e2 j hj hl]
        exact iha (by omega) (by omega) g2
      · have e1 : subT (.two a b) k j = subT b (k + 1 + a.size) j := by conv => lhs; unfold subT; rw [if_neg hj, if_neg hl]
        rw [e1] at g2 ⊢
        have e2 : ∀ x, k + 1 + a.size ≤ x → arT M (.two a b) k q x = arT M b (k + 1 + a.size) q x := fun x hx => by conv => lhs; unfold arT; rw [if_neg (by omega), if_neg (by omega)]
        rw [e2 i (by omega), e2 j (by omega)]
        exact ihb (by omega) (by omega) g2
noncomputable def arK (f : DN) (k : Nat) : Int := match arouF f k with | some i => qF f i | none => 0
theorem arK_eq {f : DN} (h : ShapeF f) (M : Sy) (hq : M.q = qF f) {k : Nat} (hk : k < f.length) : arK f k = arT M (treeF f) 0 0 k := by
  obtain ⟨hA, hs⟩ := treeF_is h
  rw [ar_last (by rw [hq]; exact hA) (Nat.zero_le _) (by omega), hq]
  rfl
/-- The part at a place of a formula. -/
structure PartF (f : DN) (T : Tr) (k : Nat) : Prop where
  lt : k < f.length
  sub : subT (treeF f) 0 k = T
section
variable {f : DN} {T a b : Tr} {k : Nat}
theorem PartF.at_ (h : PartF f T k) (hs : ShapeF f) : AtT (qF f) T k := by
  obtain ⟨hA, hz⟩ := treeF_is hs
  have := hA.sub (Nat.zero_le k) (by have := h.lt; omega)
  rwa [h.sub] at this
theorem PartF.end_ (h : PartF f T k) (hs : ShapeF f) : k + T.size ≤ f.length := by
  obtain ⟨hA, hz⟩ := treeF_is hs
  have := sub_range (T := treeF f) (k := 0) (j := k) (Nat.zero_le k) (by have := h.lt; omega)
  rw [h.sub] at this
  omega
theorem PartF.endF_ (h : PartF f T k) : endF f k = k + T.size := by unfold endF endP; rw [h.sub]
theorem PartF.one (h : PartF f (.one a) k) (hs : ShapeF f) : PartF f a (k + 1) ∧ (isFx (qF f k) = true → arK f (k + 1) = qF f k) ∧ (isFx (qF f k) = false → arK f (k + 1) = arK f k) := by
  obtain ⟨hA, hz⟩ := treeF_is hs
  have he := h.end_ hs
  simp only [Tr.size] at he
  have hp := a.size_pos
  have hss := sub_sub (T := treeF f) (k := 0) (j := k) (i := k + 1) (Nat.zero_le _) (by omega) (by omega) (by rw [h.sub]; simp only [Tr.size]; omega)
  have e : subT (.one a) k (k + 1) = a := by
    conv => lhs; unfold subT
    rw [if_neg (by omega), subT_self]
  rw [h.sub, e] at hss
  have har := arT_sub (M := ⟨0, qF f, vF f, fun _ _ => []⟩) (T := treeF f) (k := 0) (j := k) (i := k + 1) (q := 0) (Nat.zero_le _) (by omega) (by omega) (by rw [h.sub]; simp only [Tr.size]; omega)
  rw [h.sub] at har
  have e2 : arT ⟨0, qF f, vF f, fun _ _ => []⟩ (.one a) k (arT ⟨0, qF f, vF f, fun _ _ => []⟩ (treeF f) 0 0 k) (k + 1) = if isFx (qF f k) then qF f k else arT ⟨0, qF f, vF f, fun _ _ => []⟩ (treeF f) 0 0 k := by
    conv => lhs; unfold arT
    rw [if_neg (by omega), arT_self]
  rw [e2, ← arK_eq hs ⟨0, qF f, vF f, fun _ _ => []⟩ rfl (by omega), ← arK_eq hs ⟨0, qF f, vF f, fun _ _ => []⟩ rfl (by omega)] at har
  exact ⟨⟨by omega, hss.symm⟩, fun hf => by rw [har, if_pos hf], fun hf => by rw [har, if_neg (by rw [hf]; decide)]⟩
theorem PartF.two (h : PartF f (.two a b) k) (hs : ShapeF f) : PartF f a (k + 1) ∧ PartF f b (k + 1 + a.size) ∧ arK f (k + 1) = arK f k ∧ arK f (k + 1 + a.size) = arK f k := by
  obtain ⟨hA, hz⟩ := treeF_is hs
  have he := h.end_ hs
  simp only [Tr.size] at he
  have hp := a.size_pos
  have hpb := b.size_pos
  have part : ∀ i, k + 1 ≤ i → i < k + (Tr.two a b).size → subT (treeF f) 0 i = subT (.two a b) k i ∧ arK f i = arT ⟨0, qF f, vF f, fun _ _ => []⟩ (.two a b) k (arK f k) i := fun i h1 h2 => by
    simp only [Tr.size] at h2
    have hss := sub_sub (T := treeF f) (k := 0) (j := k) (i := i) (Nat.zero_le _) (by omega) (by omega) (by rw [h.sub]; simp only [Tr.size]; omega)
    have har := arT_sub (M := ⟨0, qF f, vF f, fun _ _ => []⟩) (T := treeF f) (k := 0) (j := k) (i := i) (q := 0) (Nat.zero_le _) (by omega) (by omega) (by rw [h.sub]; simp only [Tr.size]; omega)
    rw [h.sub] at har hss
    rw [← arK_eq hs ⟨0, qF f, vF f, fun _ _ => []⟩ rfl (by omega), ← arK_eq hs ⟨0, qF f, vF f, fun _ _ => []⟩ rfl (by omega)] at har
    exact ⟨hss.symm, har⟩
  obtain ⟨p1, p2⟩ := part (k + 1) (by omega) (by simp only [Tr.size]; omega)
  obtain ⟨p3, p4⟩ := part (k + 1 + a.size) (by omega) (by simp only [Tr.size]; omega)
  have e1 : subT (.two a b) k (k + 1) = a := by
    conv => lhs; unfold subT
    rw [if_neg (by omega), if_pos (by omega), subT_self]
  have e2 : subT (.two a b) k (k + 1 + a.size) = b := by
    conv => lhs; unfold subT
    rw [if_neg (by omega), if_neg (by omega), subT_self]
  have e3 : arT ⟨0, qF f, vF f, fun _ _ => []⟩ (.two a b) k (arK f k) (k + 1) = arK f k := by
    conv => lhs; unfold arT
    rw [if_neg (by omega), if_pos (by omega), arT_self]
  have e4 : arT ⟨0, qF f, vF f, fun _ _ => []⟩ (.two a b) k (arK f k) (k + 1 + a.size) = arK f k := by
    conv => lhs; unfold arT
    rw [if_neg (by omega), if_neg (by omega), arT_self]
  exact ⟨⟨by omega, p1.trans e1⟩, ⟨by omega, p3.trans e2⟩, p2.trans e3, p4.trans e4⟩
end

/-- The blocks that are written. -/
def RunT (bE bS bC : Nat) (b : Nat) : Prop := b = bE ∨ b = bS ∨ b = bC
/-- .. and the blocks that are the caller's own. -/
def RunP (P : Nat → Prop) (bE bS bC : Nat) (b : Nat) : Prop := P b ∨ RunT bE bS bC b
/-- .. and the block of a slice. -/
def AddP (P : Nat → Prop) (A : Option Addr) (b : Nat) : Prop := P b ∨ ∃ a, A = some a ∧ a.block = b
structure RunAt (w : World) (P : Nat → Prop) (br bE bS bC cE : Nat) (Af : Option Addr) (cf : Nat) (f : DN) (bt N : Nat) (ρ : EnvS) (sv cl : Tab) : Prop where
  cells : w.heap[br]? = some (.cells #[.slice Af f.length cf, .pointer (some ⟨bt, 0, none⟩), .slice (some ⟨bE, 0, none⟩) 3 cE, .slice (some ⟨bS, 0, none⟩) f.length f.length, .slice (some ⟨bC, 0, none⟩) f.length f.length] 103 (0, 0))
  env : TabB (RunP P bE bS bC) w bE 3 65 fun j => ρ (j : Int)
  sav : TabB (RunP P bE bS bC) w bS f.length 65 sv
  clo : TabB (RunP P bE bS bC) w bC f.length 65 cl
  el : ∀ j : Nat, j < 3 → (ρ (j : Int)).length = N
  sl : ∀ j, j < f.length → sv j = [] ∨ (sv j).length = N
  kl : ∀ j, j < f.length → cl j = [] ∨ (cl j).length = N
  pv : ∀ b, P b → b < w.heap.size
  pn : ¬ P br ∧ ¬ P bE ∧ ¬ P bS ∧ ¬ P bC
  ne : bE ≠ bS ∧ bE ≠ bC ∧ bS ≠ bC ∧ br ≠ bE ∧ br ≠ bS ∧ br ≠ bC
section
variable {w w' : World} {P P' : Nat → Prop} {br bE bS bC cE cf bt N : Nat} {Af : Option Addr} {f : DN} {ρ ρ' : EnvS} {sv cl : Tab}
theorem RunAt.facts (h : RunAt w P br bE bS bC cE Af cf f bt N ρ sv cl) : w.cell? ⟨br, 0, none⟩ = some (.slice Af f.length cf) ∧ w.cell? ⟨br, 1, none⟩ = some (.pointer (some ⟨bt, 0, none⟩)) ∧ w.cell? ⟨br, 2, none⟩ = some (.slice (some ⟨bE, 0, none⟩) 3 cE) ∧ w.cell? ⟨br, 3, none⟩ = some (.slice (some ⟨bS, 0, none⟩) f.length f.length) ∧ w.cell? ⟨br, 4, none⟩ = some (.slice (some ⟨bC, 0, none⟩) f.length f.length) :=
  ⟨(cell_of_row _ _ 0 _ _ (0, 0) h.cells).trans rfl, (cell_of_row _ _ 1 _ _ (0, 0) h.cells).trans rfl, (cell_of_row _ _ 2 _ _ (0, 0) h.cells).trans rfl, (cell_of_row _ _ 3 _ _ (0, 0) h.cells).trans rfl, (cell_of_row _ _ 4 _ _ (0, 0) h.cells).trans rfl⟩
theorem RunAt.below (h : RunAt w P br bE bS bC cE Af cf f bt N ρ sv cl) (hb : Below w.heap.size w w') : RunAt w' P br bE bS bC cE Af cf f bt N ρ sv cl :=
  ⟨(hb.block br (Array.getElem?_eq_some_iff.1 h.cells).1).trans h.cells, h.env.below hb, h.sav.below hb, h.clo.below hb, h.el, h.sl, h.kl, fun b hb2 => Nat.lt_of_lt_of_le (h.pv b hb2) hb.size, h.pn, h.ne⟩
theorem RunAt.cells_set (h : RunAt w P br bE bS bC cE Af cf f bt N ρ sv cl) {p : Addr} (hp : RunT bE bS bC p.block) (v : Value) : (w.setCell p v).heap[br]? = some (.cells #[.slice Af f.length cf, .pointer (some ⟨bt, 0, none⟩), .slice (some ⟨bE, 0, none⟩) 3 cE, .slice (some ⟨bS, 0, none⟩) f.length f.length, .slice (some ⟨bC, 0, none⟩) f.length f.length] 103 (0, 0)) := by
  obtain ⟨-, -, -, n1, n2, n3⟩ := h.ne
  refine (Below.heap_setCell _ _ _ _ ?_).trans h.cells
  rcases hp with e | e | e <;> rw [e] <;> assumption
theorem RunAt.setE (h : RunAt w P br bE bS bC cE Af cf f bt N ρ sv cl) {v : Nat} {u : Value} {X : List Bool} (hu : HasB (RunP P bE bS bC) w u X) (hX : X.length = N) : RunAt (w.setCell ⟨bE, v, none⟩ u) P br bE bS bC cE Af cf f bt N (upE ρ (v : Int) X) sv cl := by
  have hT : RunT bE bS bC bE := .inl rfl
  have hbut : But (fun b => b = bE) w (w.setCell ⟨bE, v, none⟩ u) := But.set w ⟨bE, v, none⟩ u rfl
  have hsub : ∀ x, x = bE → RunP P bE bS bC x := fun x e => .inr (.inl e)
  obtain ⟨n1, n2, n3, -⟩ := h.ne
  refine ⟨h.cells_set hT u, ?_, h.sav.but hbut hsub (fun e => n1 e.symm), h.clo.but hbut hsub (fun e => n2 e.symm), fun j hj => ?_, h.sl, h.kl, fun b hb => by rw [World.size_setCell]; exact h.pv b hb, h.pn, h.ne⟩
  · have := h.env.set (.inr hT) v hu
    refine cast (congrArg (TabB _ _ _ _ _) (funext fun i => ?_)) this
    unfold upE
    by_cases e : i = v
    · rw [if_pos e, if_pos (by omega)]
    · rw [if_neg e, if_neg (by omega)]
  · unfold upE
    split
    · exact hX
    · exact h.el j hj
theorem RunAt.setS (h : RunAt w P br bE bS bC cE Af cf f bt N ρ sv cl) {k : Nat} {u : Value} {X : List Bool} (hu : HasB (RunP P bE bS bC) w u X) (hX : X = [] ∨ X.length = N) : RunAt (w.setCell ⟨bS, k, none⟩ u) P br bE bS bC cE Af cf f bt N ρ (fun i => if i = k then X else sv i) cl := by
  have hT : RunT bE bS bC bS := .inr (.inl rfl)
  have hbut : But (fun b => b = bS) w (w.setCell ⟨bS, k, none⟩ u) := But.set w ⟨bS, k, none⟩ u rfl
  have hsub : ∀ x, x = bS → RunP P bE bS bC x := fun x e => .inr (.inr (.inl e))
  obtain ⟨n1, n2, n3, -⟩ := h.ne
  refine ⟨h.cells_set hT u, h.env.but hbut hsub n1, h.sav.set (.inr hT) k hu, h.clo.but hbut hsub (fun e => n3 e.symm), h.el, fun j hj => ?_, h.kl, fun b hb => by rw [World.size_setCell]; exact h.pv b hb, h.pn, h.ne⟩
  try dsimp only
  split
  · exact hX
  · exact h.sl j hj
theorem RunAt.setC (h : RunAt w P br bE bS bC cE Af cf f bt N ρ sv cl) {k : Nat} {u : Value} {X : List Bool} (hu : HasB (RunP P bE bS bC) w u X) (hX : X = [] ∨ X.length = N) : RunAt (w.setCell ⟨bC, k, none⟩ u) P br bE bS bC cE Af cf f bt N ρ sv (fun i => if i = k then X else cl i) := by
  have hT : RunT bE bS bC bC := .inr (.inr rfl)
  have hbut : But (fun b => b = bC) w (w.setCell ⟨bC, k, none⟩ u) := But.set w ⟨bC, k, none⟩ u rfl
  have hsub : ∀ x, x = bC → RunP P bE bS bC x := fun x e => .inr (.inr (.inr e))
  obtain ⟨n1, n2, n3, -⟩ := h.ne
  refine ⟨h.cells_set hT u, h.env.but hbut hsub n2, h.sav.but hbut hsub n3, h.clo.set (.inr hT) k hu, h.el, h.sl, fun j hj => ?_, fun b hb => by rw [World.size_setCell]; exact h.pv b hb, h.pn, h.ne⟩
  try dsimp only
  split
  · exact hX
  · exact h.kl j hj
theorem RunAt.high (h : RunAt w P br bE bS bC cE Af cf f bt N ρ sv cl) : ∀ b, RunT bE bS bC b → b < w.heap.size := fun b hb => by
  rcases hb with rfl | rfl | rfl
  · exact h.env.lt
  · exact h.sav.lt
  · exact h.clo.lt
theorem RunAt.high2 (h : RunAt w P br bE bS bC cE Af cf f bt N ρ sv cl) : ∀ b, RunP P bE bS bC b → b < w.heap.size := fun b hb => hb.elim (h.pv b) (h.high b)
theorem RunAt.eqE (h : RunAt w P br bE bS bC cE Af cf f bt N ρ sv cl) (e : ∀ j : Nat, j < 3 → ρ' (j : Int) = ρ (j : Int)) : RunAt w P br bE bS bC cE Af cf f bt N ρ' sv cl := by
  refine ⟨h.cells, ?_, h.sav, h.clo, fun j hj => by rw [e j hj]; exact h.el j hj, h.sl, h.kl, h.pv, h.pn, h.ne⟩
  obtain ⟨cur, h1, h2, h3⟩ := h.env
  refine ⟨cur, h1, h2, fun j hj => ?_⟩
  obtain ⟨v, e1, hv⟩ := h3 j hj
  exact ⟨v, e1, by dsimp only; rw [e j hj]; exact hv⟩
/-- .. with other blocks of the caller's own. -/
theorem RunAt.re (h : RunAt w P br bE bS bC cE Af cf f bt N ρ sv cl) (hb : Below w.heap.size w w') (hP : ∀ b, P' b → P b ∨ w.heap.size ≤ b) (hv : ∀ b, P' b → b < w'.heap.size) : RunAt w' P' br bE bS bC cE Af cf f bt N ρ sv cl := by
  have hR : ∀ b, RunP P' bE bS bC b → RunP P bE bS bC b ∨ w.heap.size ≤ b := fun b hb => by
    rcases hb with e | e
    · rcases hP b e with e | e
      · exact .inl (.inl e)
      · exact .inr e
    · exact .inl (.inr e)
  obtain ⟨p0, p1, p2, p3⟩ := h.pn
  have z0 := (Array.getElem?_eq_some_iff.1 h.cells).1
  have hn : ∀ b, ¬ P b → b < w.heap.size → ¬ P' b := fun b h1 h2 h3 => by
    rcases hP b h3 with e | e
    · exact h1 e
    · omega
  exact ⟨(hb.block br z0).trans h.cells, (h.env.re hR).below hb, (h.sav.re hR).below hb, (h.clo.re hR).below hb, h.el, h.sl, h.kl, hv, ⟨hn _ p0 z0, hn _ p1 h.env.lt, hn _ p2 h.sav.lt, hn _ p3 h.clo.lt⟩, h.ne⟩
theorem RunAt.weak {A : Option Addr} (h : RunAt w (AddP P A) br bE bS bC cE Af cf f bt N ρ sv cl) : RunAt w P br bE bS bC cE Af cf f bt N ρ sv cl :=
  h.re (Below.refl _ _) (fun b hb => .inl (.inl hb)) fun b hb => h.pv b (.inl hb)
theorem RunAt.wide {A : Option Addr} {N' : Nat} {X : List Bool} (h : RunAt w P br bE bS bC cE Af cf f bt N ρ sv cl) (hb : Below w.heap.size w w') (hs : SlB w' w.heap.size w'.heap.size A N' X) (h0 : 0 < N') : RunAt w' (AddP P A) br bE bS bC cE Af cf f bt N ρ sv cl := by
  obtain ⟨b, off, rfl, g1, g2, -⟩ := hs.at_ h0
  refine h.re hb (fun x hx => ?_) fun x hx => ?_
  · rcases hx with e | ⟨a, e, rfl⟩
    · exact .inl e
    · cases e; exact .inr g1
  · rcases hx with e | ⟨a, e, rfl⟩
    · exact Nat.lt_of_lt_of_le (h.pv x e) hb.size
    · cases e; exact g2
/-- What is the caller's own is written. -/
theorem RunAt.own (h : RunAt w P br bE bS bC cE Af cf f bt N ρ sv cl) (hb : But P w w') : RunAt w' P br bE bS bC cE Af cf f bt N ρ sv cl := by
  obtain ⟨p0, p1, p2, p3⟩ := h.pn
  exact ⟨hb.kept h.cells p0, h.env.but hb (fun x hx => .inl hx) p1, h.sav.but hb (fun x hx => .inl hx) p2, h.clo.but hb (fun x hx => .inl hx) p3, h.el, h.sl, h.kl, fun b hx => Nat.lt_of_lt_of_le (h.pv b hx) hb.size, h.pn, h.ne⟩
end

end Go.Proofs.YtanlgnjgpbjebaaGreatDoor

namespace Go.Proofs.YtanlgnjgpbjebaaGreatDoor
open Go.ChangeShapes Go.WideShapes Go.ChangeAt Go.RowKit
set_option linter.unusedVariables false
set_option linter.unusedSimpArgs false

/-- What lies still while a formula is evaluated. -/
structure RunD (w0 : World) (Af : Option Addr) (f : DN) (bt : Nat) (x : CL) (N : Nat) (ini : Int) (ls : List ByteArray) (es : List Ed) : Prop where
  fs : SlN w0 0 w0.heap.size Af f.length f
  ft : totN f ≤ 1048576
  val : ValF f
  lt : LtsAt w0 bt x ((N : Int), ini, ls, es)
  lv : ltsV ((N : Int), ini, ls, es) = true
/-- A part is evaluated rightly. -/
def AtOk (w0 : World) (br bE bS bC cE : Nat) (Af : Option Addr) (cf : Nat) (f : DN) (bt N : Nat) (ini : Int) (ls : List ByteArray) (es : List Ed) (T : Tr) (k : Nat) : Prop :=
  ∀ (P : Nat → Prop) (ρ : EnvS) (sv cl : Tab) (w : World), Below w0.heap.size w0 w → RunAt w P br bE bS bC cE Af cf f bt N ρ sv cl → PreR (sysF f ((N : Int), ini, ls, es)) sv cl T k ρ (arK f k) →
    Calls Tryz.prog 82 #[.pointer (some ⟨br, 0, none⟩), .int .i64 (k : Nat)] w fun e w' => ∃ A' c' sv' cl', e = .returned (.slice A' N c') ∧ SlB w' w.heap.size w'.heap.size A' N (sem (sysF f ((N : Int), ini, ls, es)) T k ρ) ∧
      RunAt w' (AddP P A') br bE bS bC cE Af cf f bt N ρ sv' cl' ∧ PostR (sysF f ((N : Int), ini, ls, es)) sv cl sv' cl' T k ρ (arK f k) ∧ But (RunT bE bS bC) w w'
section
variable {w0 : World} {P : Nat → Prop} {br bE bS bC cE : Nat} {Af : Option Addr} {cf : Nat} {f : DN} {bt N : Nat} {x : CL} {ini : Int} {ls : List ByteArray} {es : List Ed}
theorem RunD.N40 (h : RunD w0 Af f bt x N ini ls es) : 1 ≤ N ∧ N ≤ 40 := by have := (lts_boundsB h.lv).1; omega
/-- A node's cells. -/
theorem RunD.node (h : RunD w0 Af f bt x N ini ls es) {w : World} (hb : Below w0.heap.size w0 w) {k : Nat} (hk : k < f.length) :
    ∃ b off y s z, Af = some ⟨b, off, none⟩ ∧ b < w0.heap.size ∧ f[k]? = some (qF f k, y, s, z) ∧ vF f k = y ∧ s.size ≤ 1048576 ∧ w.cell? ⟨b, off + k * 4, none⟩ = some (.int .i64 (qF f k)) ∧ w.cell? ⟨b, off + k * 4 + 1, none⟩ = some (.int .i64 y) ∧ w.cell? ⟨b, off + k * 4 + 2, none⟩ = some (.string s) ∧ w.cell? ⟨b, off + k * 4 + 3, none⟩ = some (.bool z) := by
  obtain ⟨b, off, q, y, s, z, rfl, -, -, g3, hx, c0, c1, c2, c3⟩ := h.fs.get hk
  have hq : qF f k = q := qF_at hx
  have hs := lab_le (List.mem_of_getElem? hx)
  have ht := h.ft
  unfold totN at ht
  refine ⟨b, off, y, s, z, rfl, g3, by rw [hq]; exact hx, vF_at hx, by dsimp only at hs; omega, ?_, ?_, ?_, ?_⟩
  · rw [hq]; exact (hb.cell (p := ⟨b, off + k * 4, none⟩) g3).trans c0
  · exact (hb.cell (p := ⟨b, off + k * 4 + 1, none⟩) g3).trans c1
  · exact (hb.cell (p := ⟨b, off + k * 4 + 2, none⟩) g3).trans c2
  · exact (hb.cell (p := ⟨b, off + k * 4 + 3, none⟩) g3).trans c3
/-- The variable of a fixed point, or of a variable, is one of three. -/
theorem RunD.var (h : RunD w0 Af f bt x N ini ls es) {k : Nat} (hk : k < f.length) (hq : isFx (qF f k) = true ∨ qF f k = 6) : ∃ v : Nat, v < 3 ∧ vF f k = (v : Int) := by
  have h1 := h.val.node _ (List.getElem_mem hk)
  have hx := List.getElem?_eq_getElem hk
  have e1 := qF_at hx
  have e2 := vF_at hx
  unfold nodB at h1
  rw [Bool.and_eq_true, Bool.and_eq_true] at h1
  have h2 := h1.2
  unfold bouB at h2
  rw [← e1, ← e2, if_pos (by rcases hq with hq | hq <;> simp [hq])] at h2
  have := inB_true.1 h2
  exact ⟨(vF f k).toNat, by omega, by omega⟩
set_option maxRecDepth 100000 in
set_option maxHeartbeats 3200000 in
theorem body_calls (hD : RunD w0 Af f bt x N ini ls es) {a : Tr} {k : Nat} (hP : PartF f (.one a) k) (hf : isFx (qF f k) = true) (IH : AtOk w0 br bE bS bC cE Af cf f bt N ini ls es a (k + 1))
    (hbase : ∀ b, RunT bE bS bC b → w0.heap.size ≤ b) (ρ : EnvS) (sv cl : Tab) (A : Option Addr) (c : Nat) (X : List Bool) (w : World) (hw : Below w0.heap.size w0 w) (hr : RunAt w P br bE bS bC cE Af cf f bt N ρ sv cl)
    (hX : HasB (RunP P bE bS bC) w (.slice A N c) X) (hl : X.length = N) (hpre : PreR (sysF f ((N : Int), ini, ls, es)) sv cl a (k + 1) (upE ρ (vF f k) X) (qF f k)) :
    Calls Tryz.prog 71 #[.pointer (some ⟨br, 0, none⟩), .int .i64 (k : Nat), .slice A N c] w fun e w' => ∃ A' c' sv' cl', e = .returned (.slice A' N c') ∧ SlB w' w.heap.size w'.heap.size A' N (bodyF (sysF f ((N : Int), ini, ls, es)) a k ρ X) ∧
      RunAt w' (AddP P A') br bE bS bC cE Af cf f bt N ρ sv' cl' ∧ PostR (sysF f ((N : Int), ini, ls, es)) sv cl sv' cl' a (k + 1) (upE ρ (vF f k) X) (qF f k) ∧ But (RunT bE bS bC) w w' := by
  have hk := hP.lt
  have hr3 := hr
  obtain ⟨b, off, y, s, z, rfl, g3, hx, hy, -, c0, c1, -, -⟩ := hD.node hw hk
  obtain ⟨v, hv3, hv⟩ := hD.var hk (.inl hf)
  rw [hv] at hpre ⊢
  obtain ⟨rfl⟩ : y = (v : Int) := hy.symm.trans hv
  obtain ⟨r0, r1, r2, r3, r4⟩ := hr.facts
  obtain ⟨Ao, mo, co, eo, fo, -, so, ho⟩ := hr.env.get hv3
  have hmo : mo = N := by rw [← Sl.len so]; exact hr.el v hv3
  subst hmo
  have hrw := hr.setE hX hl (v := v)
  have hbut1 : But (RunT bE bS bC) w (w.setCell ⟨bE, v, none⟩ (.slice A mo c)) := But.set w ⟨bE, v, none⟩ _ (.inl rfl)
  have hwB : Below w0.heap.size w0 (w.setCell ⟨bE, v, none⟩ (.slice A mo c)) := hw.trans (hbut1.below hbase hw.size)
  have ark := (hP.one hD.val.shape).2.1 hf
  rw [← ark] at hpre
  have q := IH P (upE ρ (v : Int) X) sv cl _ hwB hrw hpre
  rw [show ((k + 1 : Nat) : Int) = (k : Int) + 1 by omega, ark] at q
  replace q := hide q
  have hlen := hD.val.len
  have ho1 := hide (ho.but (hbut1.more fun x hx => .inr hx))
  have R0 := hrw.facts
  obtain ⟨R0, R1, R2, R3, R4⟩ := R0
  have hk0 : (0 : Int) ≤ (k : Int) := by omega
  have hk1 : (k : Int) < (f.length : Int) := by omega
  have hv0 : (0 : Int) ≤ (v : Int) := by omega
  have hv1 : (v : Int) < 3 := by omega
  replace hbut1 := hide hbut1
  clear hr hX hrw hwB hpre IH so ho ark hx hy c0
  have hE := hr3.env.lt
  replace hr3 := hide hr3
  go_enter Tryz.func71, Tryz.ntmps71
  go_wp2_with (first | (go_at_call 82; (with_reducible refine q.out.mono ?_); rintro e w2 ⟨A2, c2, sv2, cl2, rfl, hs2, hr2, hp2, hb2⟩; obtain ⟨Q0, Q1, Q2, Q3, Q4⟩ := hr2.facts; obtain ⟨Ao2, mo2, co2, eo2, fo2, -, -, -⟩ := hr2.env.get hv3; replace hs2 := hide hs2; replace hr2 := hide hr2; replace hp2 := hide hp2; replace hb2 := hide hb2; clear q R0 R1 R2 R3 R4))
  go_ret
  have ho2 := (ho1.out.re (T' := RunP (AddP P A2) bE bS bC) fun y hy => by
    rcases hy with (e | ⟨a, e, rfl⟩) | e
    · exact .inl (.inl e)
    · obtain ⟨bb, oo, e2, g1, -⟩ := hs2.out.at_ (show 0 < mo by have := hD.N40; omega)
      rw [e] at e2
      cases e2
      exact .inr g1
    · exact .inl (.inr e)).but (hb2.out.more fun x hx => .inr hx)
  have hbut3 : But (RunT bE bS bC) w2 (w2.setCell ⟨bE, v, none⟩ (.slice Ao mo co)) := But.set w2 ⟨bE, v, none⟩ _ (.inl rfl)
  have hres := hr2.out.setE (v := v) ho2 (hr3.out.el v hv3)
  have hs3 := hs2.out
  rw [World.size_setCell] at hs3
  have hbod : bodyF (sysF f ((mo : Int), ini, ls, es)) a k ρ X = sem (sysF f ((mo : Int), ini, ls, es)) a (k + 1) (upE ρ (v : Int) X) := by
    unfold bodyF
    rw [show (sysF f ((mo : Int), ini, ls, es)).v k = (v : Int) from hv]
  rw [hbod]
  refine ⟨A2, c2, sv2, cl2, rfl, ?_, hres.eqE fun j hj => ?_, hp2.out, (hbut1.out.trans hb2.out).trans hbut3⟩
  · rw [World.size_setCell]
    refine hs3.but hbut3 fun b hb => .inl ?_
    exact hr3.out.high b hb
  · unfold upE
    by_cases e : (j : Int) = (v : Int)
    · rw [if_pos e, e]
    · rw [if_neg e, if_neg e]
end

end Go.Proofs.YtanlgnjgpbjebaaGreatDoor

namespace Go.Proofs.YtanlgnjgpbjebaaGreatDoor
open Go.ChangeShapes Go.WideShapes Go.ChangeAt Go.RowKit
set_option linter.unusedVariables false
set_option linter.unusedSimpArgs false

theorem strv_mapL (l : List ByteArray) : l.flatMap strv = l.map Value.string := by
  induction l with
  | nil => rfl
  | cons x l ih => rw [List.flatMap_cons, ih]; rfl
theorem Own.setS {w : World} {base g n c : Nat} {e : TypeId} {l : List ByteArray} (h : Own 1 strv w base e (some ⟨g, 0, none⟩) n c l) (k : Nat) (x : ByteArray) : Own 1 strv (w.setCell ⟨g, k, none⟩ (.string x)) base e (some ⟨g, 0, none⟩) n c (l.set k x) := by
  rcases h.2.2 with ⟨hv, -⟩ | ⟨g', cap, cur, hv, hb, hg, hnc, hcm, hcs, htake⟩
  · cases hv
  · cases hv
    refine ⟨by rw [List.length_set]; exact h.1, by rw [flat_length flat_strv, List.length_set]; have := h.1; omega, .inr ⟨g, c, cur.setIfInBounds k (.string x), rfl, hb, heap_setCell_same _ _ k _ _ _ hg, hnc, hcm, by simpa using hcs, ?_⟩⟩
    rw [Array.toList_setIfInBounds, List.take_set, htake, strv_mapL, strv_mapL, List.map_set]

theorem step_appL {P : Program} {α : Type} {size bytes : Nat} {f : α → List Value} {t e : TypeId} {w : World} {ops : Array Oper} {o : Oper} {a : Act} {K : Act → World → Prop} {Q : Exit → Act → World → Prop} {E : Prop} (hgd : o.guard = none) (s x : Operand)
    (ho : o.op = .call { callee := .builtin .append, args := #[s, x], argTypes := #[t, t] }) (hE : Elem P t e size bytes) (hf : Flat f size)
    {base n c : Nat} {A : Option Addr} {l : List α} (hs : a.eval s = .slice A n c) (hown : Own size f w base e A n c l)
    {B : Option Addr} {m d lo hi : Nat} {r : List α} (hx : a.eval x = .slice B m d) (hr : Sl size f w lo hi B m r) (hsz : (n + m) * bytes ≤ 140737488355328) (hbase : base ≤ w.heap.size)
    (h : ∀ A' c' w', Own size f w' base e A' (n + m) c' (l ++ r) → w.grownBy w' (Value.slice A n c).ownBlock → Below base w w' →
      ((Value.slice A' (n + m) c').ownBlock = (Value.slice A n c).ownBlock ∨ (Value.slice A' (n + m) c').ownBlock = some w.heap.size) → K (a.put o.dst (.slice A' (n + m) c')) w') :
    if Region.wanted o (yielded ops a.tmps) = true then Oper.wp P o a w K Q else E := by
  have hw : Region.wanted o (yielded ops a.tmps) = true := by simp [Region.wanted, hgd]
  rw [if_pos hw]
  obtain ⟨A', c', w', h1, h2, h3, h4⟩ := run_app w hE hf o.type hown (d := d) hr hsz hbase
  unfold Oper.wp execOp
  simp only [ho, resolve, invoke, builtin, Sem.run_bind, Sem.run_pure, Result.andThen_ok, List.map_toArray, List.map_cons, List.map_nil, hs, hx, h1]
  exact h _ _ _ h2 h3 ((Below.refl _ _).grown h3 hbase fun k hk => (hown.lt k hk).1) h4

end Go.Proofs.YtanlgnjgpbjebaaGreatDoor
