/-
  Pairs of the reference: what is controlled, blocked and at fault. Conditions: sizes.
-/
import Derived.Test.YtiaclddgllkgpaaGreatDoorRow27
namespace Go.Proofs.YtiaclddgllkgpaaGreatDoor
open Go.ChangeShapes Go.WideShapes Go.ChangeAt Go.RowKit Go.Sort
set_option linter.unusedVariables false
set_option linter.unusedSimpArgs false

/-- Where a text first stands in a list: -1 if nowhere. -/
def fstI (l : List ByteArray) (s : ByteArray) : Int := match l.findIdx? (fun x => decide (x = s)) with | some k => (k : Int) | none => -1
theorem fstI_at {l : List ByteArray} {s : ByteArray} {k : Nat} (h : (l.take k).any (fun x => decide (x = s)) = false) (hk : l[k]? = some s) : fstI l s = (k : Int) := by
  unfold fstI
  have : l.findIdx? (fun x => decide (x = s)) = some k := by
    obtain ⟨hlt, hg⟩ := List.getElem?_eq_some_iff.1 hk
    rw [List.findIdx?_eq_some_iff_getElem]
    refine ⟨hlt, by simp [hg], fun j hj => ?_⟩
    rw [List.any_eq_false] at h
    have := h l[j] (List.mem_of_getElem? (i := j) (by rw [List.getElem?_take, if_pos hj]; exact List.getElem?_eq_getElem _))
    simpa using this
  rw [this]
theorem fstI_none {l : List ByteArray} {s : ByteArray} (h : l.any (fun x => decide (x = s)) = false) : fstI l s = -1 := by
  unfold fstI
  have : l.findIdx? (fun x => decide (x = s)) = none := by
    rw [List.findIdx?_eq_none_iff]
    intro x hx
    rw [List.any_eq_false] at h
    simpa using h x hx
  rw [this]
theorem fstI_any (l : List ByteArray) (s : ByteArray) : decide (0 ≤ fstI l s) = anyL l s := by
  unfold fstI anyL
  cases h : l.findIdx? (fun x => decide (x = s)) with
  | none =>
    rw [List.findIdx?_eq_none_iff] at h
    symm
    show _ = false
    rw [List.any_eq_false]
    intro x hx
    rw [h x hx]
    decide
  | some k =>
    obtain ⟨hlt, hg, -⟩ := List.findIdx?_eq_some_iff_getElem.1 h
    symm
    rw [decide_eq_true (show (0 : Int) ≤ (k : Int) by omega), List.any_eq_true]
    exact ⟨_, List.getElem_mem hlt, hg⟩
set_option maxRecDepth 100000 in
theorem l11Find_first (s : ByteArray) (A : Option Addr) (n c : Nat) (l : List ByteArray) (w : World) (lo hi : Nat) (h : SlS w lo hi A n l) (hn : n ≤ 1048576) :
    Calls Tryz.prog 84 #[.slice A n c, .string s] w fun e w' => e = .returned (.int .i64 (fstI l s)) ∧ w = w' := by
  have hlen := hide h.len
  go_enter Tryz.func84, Tryz.ntmps84
  go_wp2
  go_loop [5] (fun i => ∃ k : Nat, k ≤ n ∧ i = .int .i64 k ∧ Hid ((l.take k).any (fun x => decide (x = s)) = false)) (fun i => n - (intOf i).toNat)
  case atStart => exact ⟨0, Nat.zero_le _, rfl, rfl⟩
  case round =>
    obtain ⟨k, hk, rfl, ha⟩ := hrel
    by_cases hlt : k < n
    · obtain ⟨b, off, x, rfl, g1, g2, g3, hx, c0, -⟩ := SlS.get h hlt
      clear h
      by_cases hq : x = s
      · subst hq
        have hy : Hid (fstI l x = (k : Int)) := fstI_at ha.out hx
        have hself : (x.toList == x.toList) = true := beq_self_eq_true _
        clear hx
        go_wp2
        go_ret
        exact ⟨by rw [hy.out]; rfl, rfl⟩
      · have hy := hide (any_take_succ ha.out hx (decide_eq_false hq))
        obtain ⟨hne, hne2⟩ := str_list_ne hq
        have hne3 : (x.toList == s.toList) = false := by
          have := str_neq (a := x) (b := s) hq
          exact this
        have hne4 : ¬ x.toList = s.toList := fun e => hne2 e.symm
        clear hx hq
        go_wp2
        go_round
        case rel => exact ⟨k + 1, by omega, by go_num, hy⟩
        case measure => simp [intOf]; omega
    · have hkn : k = n := by omega
      subst hkn
      clear h
      have hy := ha.out
      rw [List.take_of_length_le (by rw [hlen.out]; exact Nat.le_refl _)] at hy
      have hf : Hid (fstI l s = -1) := fstI_none hy
      clear ha hy
      go_wp2
      go_ret
      exact ⟨by rw [hf.out]; rfl, rfl⟩


set_option maxRecDepth 100000 in
set_option maxHeartbeats 1600000 in
theorem ctlS_calls (bx bp : Nat) (A2 A5 : Option Addr) (n2 k2 n5 k5 : Nat) (ls ns : List ByteArray) (lb : Int) (lab : ByteArray) (w : World) (lo hi : Nat) (c0 : w.cell? ⟨bx, 0, none⟩ = some (.pointer (some ⟨bp, 0, none⟩))) (c2 : w.cell? ⟨bp, 2, none⟩ = some (.slice A2 n2 k2)) (c5 : w.cell? ⟨bp, 5, none⟩ = some (.slice A5 n5 k5))
    (t2 : SlS w lo hi A2 n2 ls) (t5 : SlS w lo hi A5 n5 ns) (h5 : n5 ≤ 1048576) (h0 : 0 ≤ lb) (hx : ls[lb.toNat]? = some lab) (hs : lab.size ≤ 1048576) :
    Calls Tryz.prog 138 #[.pointer (some ⟨bx, 0, none⟩), .int .i64 lb] w fun e w' => e = .returned (.bool (anyL ns (namS lab))) ∧ Below w.heap.size w w' := by
  have hln : lb.toNat < n2 := by rw [← t2.len]; exact (List.getElem?_eq_some_iff.1 hx).1
  have hl9 : lb < (n2 : Int) := by omega
  obtain ⟨b6, o6, r6, rfl, -, -, -, hr6, p6, -⟩ := SlS.get t2 hln
  rw [hx] at hr6
  obtain rfl := Option.some.inj hr6
  have q1 := hide fun N => l01LabelName_calls lab (w.drewN N) hs
  have hv : Hid (decide (0 ≤ fstI ns (namS lab)) = anyL ns (namS lab)) := fstI_any _ _
  have q2 := hide fun N => l11Find_first (namS lab) A5 n5 k5 ns (w.drewN N) lo hi (t5.below (below_drewN w N) (.inr (Nat.le_refl _))) h5
  clear t2 t5 hx
  go_enter Tryz.func138, Tryz.ntmps138
  go_wp2
  go_quiet (first
    | (go_at_call 180; with_reducible exact same_quiet (q1.out _))
    | (go_at_call 84; with_reducible exact same_quiet (q2.out _)))
  go_wp2
  go_ret
  exact ⟨by rw [← hv.out]; rfl, below_drewN w nq⟩

end Go.Proofs.YtiaclddgllkgpaaGreatDoor
