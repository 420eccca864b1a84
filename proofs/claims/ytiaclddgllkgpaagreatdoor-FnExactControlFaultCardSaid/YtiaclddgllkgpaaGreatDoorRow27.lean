/-
  Equality of lists, and the first row that equals a list, by the reference. Conditions: at most 1048576 elements.
-/
import Derived.Test.YtiaclddgllkgpaaGreatDoorFauI
namespace Go.Proofs.YtiaclddgllkgpaaGreatDoor
open Go.ChangeShapes Go.WideShapes Go.ChangeAt Go.RowKit
set_option linter.unusedVariables false

set_option maxRecDepth 100000 in
theorem l00Same_calls (A B : Option Addr) (n m c d : Nat) (l r : List Int) (w : World) (lo hi lo' hi' : Nat) (h : SlI w lo hi A n l) (g : SlI w lo' hi' B m r) (hn : n ≤ 1048576) (hm : m ≤ 1048576) :
    Calls Tryz.prog 179 #[.slice A n c, .slice B m d] w fun e w' => e = .returned (.bool (decide (l = r))) ∧ Below w.heap.size w w' := by
  have hl := hide h.len
  have hr := hide g.len
  by_cases hnm : n = m
  · subst hnm
    replace h := hide h
    replace g := hide g
    go_enter Tryz.func179, Tryz.ntmps179
    go_wp2
    go_loopw [5] (fun i wr => ∃ k : Nat, k ≤ n ∧ i = .int .i64 k ∧ Below w.heap.size w wr ∧ l.take k = r.take k) (fun i _ => n - (intOf i).toNat)
    case atStart => exact ⟨0, Nat.zero_le _, rfl, (Below.refl _ _), rfl⟩
    case round =>
      obtain ⟨k, hk, rfl, hb, he⟩ := hrel
      replace he := hide he
      by_cases hlt : k < n
      · obtain ⟨b, off, x, rfl, g1, g2, g3, hx, c0, -⟩ := h.out.get hlt
        obtain ⟨b', off', y, rfl, g1', g2', g3', hy, d0, -⟩ := g.out.get hlt
        replace c0 := (hb.cell (p := ⟨b, off + k, none⟩) g3).trans c0
        replace d0 := (hb.cell (p := ⟨b', off' + k, none⟩) g3').trans d0
        replace hx := hide hx
        replace hy := hide hy
        clear h g
        have hk0 : (0 : Int) ≤ (k : Int) := by omega
        have hk1 : (k : Int) < (n : Int) := by omega
        by_cases hxy : x = y
        · subst hxy
          have hq : (x != x) = false := by simp
          go_wp2
          go_quiet (fail)
          go_wp2
          go_roundw
          case rel => exact ⟨k + 1, by omega, by go_num, by first | exact hb | exact ⟨hb.os, hb.tape, hb.output, hb.size, hb.block⟩, take_step he.out hx.out hy.out rfl⟩
          case measure => simp [intOf]; omega
        · have hne := hide (take_stop hx.out hy.out hxy)
          have hq : (x != y) = true := by rw [bne_iff_ne]; exact hxy
          go_wp2
          go_quiet (fail)
          go_wp2
          go_ret
          exact ⟨by simp [hne.out], by first | exact hb | exact ⟨hb.os, hb.tape, hb.output, hb.size, hb.block⟩⟩
      · have hkn : k = n := by omega
        subst hkn
        clear h g
        go_wp2
        go_ret
        exact ⟨by rw [take_all he.out hl.out hr.out]; simp, hb⟩
  · have hne : Hid (l ≠ r) := fun e => hnm (by rw [← hl.out, ← hr.out, e])
    have hb0 : ((n : Int) != (m : Int)) = true := by rw [bne_iff_ne]; omega
    clear h g
    go_enter Tryz.func179, Tryz.ntmps179
    go_wp2
    go_ret
    exact ⟨by simp [hne.out], Below.refl _ _⟩


/-- Where a list first stands among rows: -1 if nowhere. -/
def rowI (L : List (List Int)) (r : List Int) : Int := match L.findIdx? (fun l => decide (l = r)) with | some k => (k : Int) | none => -1
theorem rowI_at {L : List (List Int)} {r : List Int} {k : Nat} (h : (L.take k).any (fun l => decide (l = r)) = false) (hk : L[k]? = some r) : rowI L r = (k : Int) := by
  unfold rowI
  have : L.findIdx? (fun l => decide (l = r)) = some k := by
    obtain ⟨hlt, hg⟩ := List.getElem?_eq_some_iff.1 hk
    rw [List.findIdx?_eq_some_iff_getElem]
    refine ⟨hlt, by simp [hg], fun j hj => ?_⟩
    rw [List.any_eq_false] at h
    have := h L[j] (List.mem_of_getElem? (i := j) (by rw [List.getElem?_take, if_pos hj]; exact List.getElem?_eq_getElem _))
    simpa using this
  rw [this]
theorem rowI_none {L : List (List Int)} {r : List Int} (h : L.any (fun l => decide (l = r)) = false) : rowI L r = -1 := by
  unfold rowI
  have : L.findIdx? (fun l => decide (l = r)) = none := by
    rw [List.findIdx?_eq_none_iff]
    intro x hx
    rw [List.any_eq_false] at h
    simpa using h x hx
  rw [this]
set_option maxRecDepth 100000 in
set_option maxHeartbeats 800000 in
theorem l27Row_calls (A B : Option Addr) (n m c d : Nat) (R : List (Hd × List Int)) (r : List Int) (w : World) (lo hi lo' hi' : Nat) (h : Nest 1 iv w lo hi A n R) (g : SlI w lo' hi' B m r) (hn : n ≤ 1048576) (hm : m ≤ 1048576) :
    Calls Tryz.prog 136 #[.slice A n c, .slice B m d] w fun e w' => e = .returned (.int .i64 (rowI (R.map (·.2)) r)) ∧ Below w.heap.size w w' := by
  have hlen := hide h.len
  replace h := hide h
  replace g := hide g
  go_enter Tryz.func136, Tryz.ntmps136
  go_wp2
  go_loopw [5] (fun i wr => ∃ k : Nat, k ≤ n ∧ i = .int .i64 (k : Nat) ∧ Hid (((R.map (·.2)).take k).any (fun l => decide (l = r)) = false) ∧ Below w.heap.size w wr) (fun i _ => n - (intOf i).toNat)
  case atStart => exact ⟨0, Nat.zero_le _, rfl, rfl, Below.refl _ _⟩
  case round =>
    obtain ⟨k, hk, rfl, ha, hb⟩ := hrel
    by_cases hlt : k < n
    · obtain ⟨b, off, Ah, nh, ch, s, rfl, -, -, g3, hr, p0, -, hs, hnh⟩ := h.out.get hlt
      have p1 := (hb.cell (p := ⟨b, off + k, none⟩) g3).trans p0
      have hx : (R.map (·.2))[k]? = some s := by rw [List.getElem?_map, hr]; rfl
      have q := l00Same_calls Ah B nh m ch d s r wr lo hi lo' hi' (hs.below hb (.inr (Nat.le_refl _))) (g.out.below hb (.inr (Nat.le_refl _))) hnh hm
      have hbs := hb.size
      replace hb := hide hb
      have hI0 : (0 : Int) ≤ (k : Int) := by omega
      have hI1 : (k : Int) < (n : Int) := by omega
      by_cases he : s = r
      · have hv : Hid (rowI (R.map (·.2)) r = (k : Int)) := rowI_at ha.out (by rw [hx, he])
        rw [decide_eq_true he] at q
        replace q := hide q
        clear hx hr hs he p0
        go_wp2_with fail
        refine q.out.mono ?_
        rintro e w1 ⟨rfl, hb1⟩
        have hbw := hide (hb.out.trans (hb1.mono hbs))
        clear hb1 p1
        go_wp2_with fail
        go_ret
        exact ⟨by rw [hv.out]; rfl, hbw.out⟩
      · have hn2 := hide (any_take_succ ha.out hx (decide_eq_false he))
        rw [decide_eq_false he] at q
        replace q := hide q
        clear hx hr hs he p0
        go_wp2_with fail
        refine q.out.mono ?_
        rintro e w1 ⟨rfl, hb1⟩
        have hbw := hide (hb.out.trans (hb1.mono hbs))
        clear hb1 p1
        go_wp2_with fail
        go_roundw
        case rel => exact ⟨k + 1, by omega, by go_num, hn2, hbw.out⟩
        case measure => simp [intOf]; omega
    · have hkn : k = n := by omega
      subst hkn
      have hv : Hid (rowI (R.map (·.2)) r = -1) := rowI_none (by
        have h1 := ha.out
        rwa [List.take_of_length_le (by rw [List.length_map, hlen.out]; exact Nat.le_refl _)] at h1)
      replace hb := hide hb
      go_wp2_with fail
      go_ret
      exact ⟨by rw [hv.out]; rfl, hb.out⟩

end Go.Proofs.YtiaclddgllkgpaaGreatDoor
