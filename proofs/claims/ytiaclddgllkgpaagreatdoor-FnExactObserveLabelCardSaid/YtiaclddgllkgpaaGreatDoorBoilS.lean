/-
  The laws' helpers on lists of strings: sizes, copying, comparing. Conditions: sizes.
-/
import Derived.Test.YtiaclddgllkgpaaGreatDoorArgI
import Derived.StillTailTactics
namespace Go.Proofs.YtiaclddgllkgpaaGreatDoor
open Go.ChangeShapes Go.WideShapes Go.ChangeAt Go.RowKit
set_option linter.unusedVariables false

def strv (s : ByteArray) : List Value := [.string s]
abbrev SlS := Sl 1 strv
theorem SlS.get {w : World} {lo hi n : Nat} {A : Option Addr} {l : List ByteArray} (h : SlS w lo hi A n l) {k : Nat} (hk : k < n) :
    ∃ b off x, A = some ⟨b, off, none⟩ ∧ lo ≤ b ∧ b < hi ∧ b < w.heap.size ∧ l[k]? = some x ∧ w.cell? ⟨b, off + k, none⟩ = some (.string x) ∧ w.frozen? ⟨b, off + k, none⟩ = false := by
  obtain ⟨b, off, e, g1, g2, g3, hc⟩ := h.at_ (by omega)
  have hl : k < l.length := by rw [h.len]; exact hk
  have h0 := hc k l[k] (List.getElem?_eq_getElem hl) 0 _ rfl
  simp only [Nat.mul_one, Nat.add_zero] at h0
  exact ⟨b, off, l[k], e, g1, g2, g3, List.getElem?_eq_getElem hl, h0.1, h0.2⟩
theorem str_neq {a b : ByteArray} (h : a ≠ b) : (a.toList == b.toList) = false := by
  obtain ⟨⟨x⟩⟩ := a
  obtain ⟨⟨y⟩⟩ := b
  have e1 : (ByteArray.mk ⟨x⟩).toList = x := ByteArray.toList_mk x
  have e2 : (ByteArray.mk ⟨y⟩).toList = y := ByteArray.toList_mk y
  rw [e1, e2, beq_eq_false_iff_ne]
  rintro rfl
  exact h rfl
/-- How much of `left` is there behind n. -/
def totS (l : List ByteArray) : Nat := l.length + (l.map (·.size)).sum
def preS (l : List ByteArray) (k : Nat) : Nat := ((l.take k).map (·.size)).sum
theorem preS_zero (l : List ByteArray) : preS l 0 = 0 := rfl
theorem preS_succ {l : List ByteArray} {k : Nat} {x : ByteArray} (h : l[k]? = some x) : preS l (k + 1) = preS l k + x.size := by
  unfold preS
  rw [List.take_add_one, h]
  simp
theorem preS_all {l : List ByteArray} {n : Nat} (h : l.length = n) : totS l = n + preS l n := by
  unfold totS preS
  rw [List.take_of_length_le (by omega), h]
theorem preS_mono (l : List ByteArray) {k n : Nat} (h : k ≤ n) : preS l k ≤ preS l n := by
  induction n with
  | zero =>
    have : k = 0 := by omega
    subst this; exact Nat.le_refl _
  | succ n ih =>
    rcases Nat.lt_or_ge k (n + 1) with h1 | h1
    · refine Nat.le_trans (ih (by omega)) ?_
      unfold preS
      rw [List.take_add_one, List.map_append, List.sum_append]
      omega
    · have : k = n + 1 := by omega
      subst this
      exact Nat.le_refl _

theorem szStringS_calls (A : Option Addr) (n c : Nat) (l : List ByteArray) (left : Int) (w : World) (lo hi : Nat) (h : SlS w lo hi A n l) (hn : n ≤ maxLen) (hs : ∀ s ∈ l, s.size ≤ maxLen) (h0 : 0 ≤ left) (h1 : left ≤ 1048576) :
    Calls Tryz.prog 34 #[.slice A n c, .int .i64 left] w fun e w' => e = .returned (.int .i64 (szLeft left (totS l))) ∧ Below w.heap.size w w' := by
  unfold maxLen at hn hs
  have hall := hide (preS_all h.len)
  by_cases hb : left < n
  · have hv : Hid (szLeft left (totS l) = -1) := by show _ = _; rw [hall.out]; exact szLeft_big (by omega)
    clear h
    go_enter Tryz.func34, Tryz.ntmps34
    go_wp2
    go_ret
    exact ⟨ret_i hv.out, Below.refl _ _⟩
  · replace hs := hide hs
    go_enter Tryz.func34, Tryz.ntmps34
    go_wp2
    go_loopw [1, 5] (fun s i wr => ∃ k : Nat, ∃ pre : Nat, k ≤ n ∧ i = .int .i64 k ∧ s = .int .i64 (left - (n : Int) - (pre : Int)) ∧ Hid (pre = preS l k) ∧ (n : Int) + (pre : Int) ≤ left ∧ Below w.heap.size w wr) (fun _ i _ => n - (intOf i).toNat)
    case atStart => exact ⟨0, 0, Nat.zero_le _, rfl, by go_num, rfl, by omega, Below.refl _ _⟩
    case round =>
      obtain ⟨k, pre, hk, rfl, rfl, hp, hle, hbw⟩ := hrel
      by_cases hlt : k < n
      · obtain ⟨b, off, x, rfl, g1, g2, g3, hx, c0, -⟩ := h.get hlt
        replace c0 := (hbw.cell (p := ⟨b, off + k, none⟩) g3).trans c0
        have hxs := hs.out x (List.mem_of_getElem? hx)
        have hnext := hide (preS_succ hx)
        have hmono := hide (preS_mono l (show k + 1 ≤ n by omega))
        clear h hx
        by_cases hbig : left - (n : Int) - (pre : Int) - (x.size : Int) < 0
        · have hv : Hid (szLeft left (totS l) = -1) := by
            show _ = _
            rw [hall.out]
            refine szLeft_big ?_
            have e1 := hnext.out; have e2 := hmono.out; have e3 := hp.out
            omega
          go_wp2
          go_ret
          exact ⟨ret_i hv.out, hbw⟩
        · go_wp2
          go_roundw
          case rel => exact ⟨k + 1, pre + x.size, by omega, by go_num, by go_num, (by show _ = _; rw [hnext.out, hp.out]), by omega, hbw⟩
          case measure => simp [intOf]; omega
      · have hkn : k = n := by omega
        subst hkn
        go_wp2
        go_ret
        refine ⟨ret_i ?_, hbw⟩
        rw [hall.out, ← hp.out, szLeft_fits (by omega)]
        omega

theorem info_string : (Tryz.prog.info? 9).map (fun i => (i.zero, i.size, i.bytes)) = some (some (.string ByteArray.empty), 1, 16) := by kernel_rfl

theorem toStringS_calls (A : Option Addr) (n c : Nat) (l : List ByteArray) (w : World) (lo hi : Nat) (h : SlS w lo hi A n l) (hn : n ≤ 1048576) :
    Calls Tryz.prog 36 #[.slice A n c] w fun e w' => ∃ A', e = .returned (.slice A' n n) ∧ Below w.heap.size w w' ∧ SlS w' w.heap.size w'.heap.size A' n l := by
  obtain ⟨i0, hi0, hz0, hz1, hz2⟩ := info_parts info_string
  have hmk := fun W => make_row (P := Tryz.prog) 22 9 i0 _ _ n Tryz.underlying22 hi0 hz0 hz1 (by rw [hz2]; omega) (by omega) W
  clear hi0 hz0 hz1 hz2
  have hlen := hide h.len
  go_enter Tryz.func36, Tryz.ntmps36
  go_wp2
  go_loopw [4] (fun i wr => ∃ k : Nat, k ≤ n ∧ i = .int .i64 k ∧ Below w.heap.size w wr ∧ Fill 1 strv wr w.heap.size 9 n k l) (fun i _ => n - (intOf i).toNat)
  case atStart => exact ⟨0, Nat.zero_le _, rfl, (Below.refl _ _).alloc (Nat.le_refl _) _, Fill.start _ _ _ _ (by simp [madeCells])⟩
  case round =>
    obtain ⟨k, hk, rfl, hb, hf⟩ := hrel
    clear hmk
    by_cases hlt : k < n
    · obtain ⟨b, off, x, rfl, g1, g2, g3, hx, c0, -⟩ := h.get hlt
      replace c0 := (hb.cell (p := ⟨b, off + k, none⟩) g3).trans c0
      obtain ⟨v0, d0⟩ := hf.cell (i := k) (by omega)
      have z0 := hf.frozen k
      replace hx := hide hx
      clear h
      go_wp2
      go_roundw
      case rel => exact ⟨k + 1, by omega, by go_num, hb.setCell (Nat.le_refl _) _, hf.set1 hlt (fun _ => rfl) hx.out rfl⟩
      case measure => simp [intOf]; omega
    · have : k = n := by omega
      subst this
      go_wp2
      go_ret
      exact ⟨_, rfl, hb, hf.done hlen.out (Nat.le_refl _) hf.lt⟩

set_option maxRecDepth 100000 in
theorem eqStringS_calls (A B : Option Addr) (n m c d : Nat) (l r : List ByteArray) (w : World) (lo hi lo' hi' : Nat) (h : SlS w lo hi A n l) (g : SlS w lo' hi' B m r) (hn : n ≤ maxLen) (hm : m ≤ maxLen) :
    Calls Tryz.prog 38 #[.slice A n c, .slice B m d] w fun e w' => e = .returned (.bool (decide (l = r))) ∧ Below w.heap.size w w' := by
  unfold maxLen at hn hm
  have hl := hide h.len
  have hr := hide g.len
  by_cases hnm : n = m
  · subst hnm
    go_enter Tryz.func38, Tryz.ntmps38
    go_wp2
    go_loopw [5] (fun i wr => ∃ k : Nat, k ≤ n ∧ i = .int .i64 k ∧ Below w.heap.size w wr ∧ Hid (l.take k = r.take k)) (fun i _ => n - (intOf i).toNat)
    case atStart => exact ⟨0, Nat.zero_le _, rfl, (Below.refl _ _), rfl⟩
    case round =>
      obtain ⟨k, hk, rfl, hb, he⟩ := hrel
      by_cases hlt : k < n
      · obtain ⟨b, off, x, rfl, g1, g2, g3, hx, c0, -⟩ := h.get hlt
        obtain ⟨b', off', y, rfl, g1', g2', g3', hy, d0, -⟩ := g.get hlt
        replace c0 := (hb.cell (p := ⟨b, off + k, none⟩) g3).trans c0
        replace d0 := (hb.cell (p := ⟨b', off' + k, none⟩) g3').trans d0
        replace hx := hide hx
        replace hy := hide hy
        clear h g
        have hk0 : (0 : Int) ≤ (k : Int) := by omega
        have hk1 : (k : Int) < (n : Int) := by omega
        by_cases hxy : x = y
        · subst hxy
          go_wp2
          go_quiet (fail)
          go_wp2
          go_roundw
          case rel => exact ⟨k + 1, by omega, by go_num, by first | exact hb | exact ⟨hb.os, hb.tape, hb.output, hb.size, hb.block⟩, take_step he.out hx.out hy.out rfl⟩
          case measure => simp [intOf]; omega
        · have hne := hide (take_stop hx.out hy.out hxy)
          have hq : (x.toList == y.toList) = false := str_neq hxy
          clear hxy
          go_wp2
          go_quiet (fail)
          go_wp2
          go_ret
          exact ⟨by simp [hne.out], by first | exact hb | exact ⟨hb.os, hb.tape, hb.output, hb.size, hb.block⟩⟩
      · have hkn : k = n := by omega
        subst hkn
        go_wp2
        go_ret
        exact ⟨by rw [take_all he.out hl.out hr.out]; simp, hb⟩
  · have hne : Hid (l ≠ r) := fun e => hnm (by rw [← hl.out, ← hr.out, e])
    have hb0 : ((n : Int) != (m : Int)) = true := by rw [bne_iff_ne]; omega
    go_enter Tryz.func38, Tryz.ntmps38
    go_wp2
    go_ret
    exact ⟨by simp [hne.out], Below.refl _ _⟩

end Go.Proofs.YtiaclddgllkgpaaGreatDoor
