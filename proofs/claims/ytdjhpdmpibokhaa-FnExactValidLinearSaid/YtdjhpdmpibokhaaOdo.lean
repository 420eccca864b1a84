/-
  The reference's step to the next list of values. Conditions: values within bounds, at most 1048576 of them.
-/
import Derived.Test.YtdjhpdmpibokhaaOdoMath
import Derived.Test.YtdjhpdmpibokhaaEval3
namespace Go.Proofs.Ytdjhpdmpibokhaa
open Go.ChangeShapes Go.WideShapes Go.ChangeAt Go.RowKit
set_option linter.unusedVariables false

theorem Only.drewN {lo hi : Nat} {a w : World} (h : Only lo hi a w) (k : Nat) : Only lo hi a (w.drewN k) := ⟨h.os, h.tape, h.output, h.size, h.block⟩

theorem set_mid {vals : List Int} {n j : Nat} {v : Int} (hl : vals.length = n) (hv : vals[j]? = some v) (x : Int) : (vals.take (j + 1) ++ List.replicate (n - (j + 1)) 0).set j x = vals.take j ++ x :: List.replicate (n - (j + 1)) 0 := by
  have hj : j < vals.length := (List.getElem?_eq_some_iff.1 hv).1
  have h1 : (vals.take j).length = j := by rw [List.length_take]; omega
  rw [List.take_add_one, hv, Option.toList_some, List.append_assoc, List.set_append_right _ _ (by omega), h1, Nat.sub_self]
  rfl
theorem get_mid {vals : List Int} {n j : Nat} {v : Int} (hv : vals[j]? = some v) : (vals.take (j + 1) ++ List.replicate (n - (j + 1)) (0 : Int))[j]? = some v := by
  have hj : j < vals.length := (List.getElem?_eq_some_iff.1 hv).1
  rw [List.getElem?_append_left (by rw [List.length_take]; omega), List.getElem?_take, if_pos (by omega), hv]
theorem zero_mid {n j : Nat} (hj : j < n) (l : List Int) : l ++ 0 :: List.replicate (n - (j + 1)) (0 : Int) = l ++ List.replicate (n - j) 0 := by
  have : n - j = (n - (j + 1)) + 1 := by omega
  rw [this, List.replicate_succ]

/-- What has been found from the right, down to place j. -/
def NextAt (vals bs : List Int) (n j : Nat) : Prop := nextV vals bs = (incR (vals.take j).reverse (bs.take j).reverse).map (fun r => r.reverse ++ List.replicate (n - j) 0)

theorem NextAt.start {vals bs : List Int} {n : Nat} (h1 : vals.length = n) (h2 : bs.length = n) : NextAt vals bs n n := by
  unfold NextAt nextV
  rw [List.take_of_length_le (by omega), List.take_of_length_le (by omega)]
  congr 1
  funext r
  simp
theorem NextAt.hit {vals bs : List Int} {n j : Nat} {v b : Int} (h : NextAt vals bs n (j + 1)) (hv : vals[j]? = some v) (hb : bs[j]? = some b) (hlt : v < b) : nextV vals bs = some (vals.take j ++ (v + 1) :: List.replicate (n - (j + 1)) 0) := by
  unfold NextAt at h
  rw [h, next_step hv hb, if_pos hlt]
  simp
theorem NextAt.down {vals bs : List Int} {n j : Nat} {v b : Int} (h : NextAt vals bs n (j + 1)) (hv : vals[j]? = some v) (hb : bs[j]? = some b) (hge : ¬ v < b) (hjn : j < n) : NextAt vals bs n j := by
  unfold NextAt at h ⊢
  rw [h, next_step hv hb, if_neg hge, Option.map_map]
  congr 1
  funext r
  simp only [Function.comp, List.reverse_cons, List.append_assoc, List.singleton_append]
  exact zero_mid hjn _
theorem NextAt.none_ {vals bs : List Int} {n : Nat} (h : NextAt vals bs n 0) : nextV vals bs = none := by
  unfold NextAt at h
  rw [h]
  rfl

set_option maxHeartbeats 800000 in
set_option maxRecDepth 100000 in
theorem l03Next_calls (A B : Option Addr) (n c d : Nat) (vals bs : List Int) (w : World) (lo hi lo' hi' : Nat) (h : SlI w lo hi A n vals) (g : SlI w lo' hi' B n bs) (hd : hi ≤ lo' ∨ hi' ≤ lo) (hn : n ≤ 1048576) (hvb : ∀ x ∈ vals, 0 ≤ x ∧ x ≤ 63) :
    Calls Try.prog 76 #[.slice A n c, .slice B n d] w fun e w' => e = .returned (.bool (nextV vals bs).isSome) ∧ SlI w' lo hi A n ((nextV vals bs).getD (List.replicate n 0)) ∧ Only lo hi w w' := by
  have hvl := h.len
  have hbl := g.len
  have h0 := hide (NextAt.start hvl hbl)
  have hs0 : SlI w lo hi A n (vals.take n ++ List.replicate (n - n) 0) := by
    rw [List.take_of_length_le (by omega), Nat.sub_self]
    simpa using h
  replace hvl := hide hvl
  replace hbl := hide hbl
  replace hvb := hide hvb
  go_enter Try.func76, Try.ntmps76
  go_wp2_with fail
  go_loopw [5] (fun i wr => ∃ j : Nat, j ≤ n ∧ i = .int .i64 ((j : Int) - 1) ∧ SlI wr lo hi A n (vals.take j ++ List.replicate (n - j) 0) ∧ Only lo hi w wr ∧ Hid (NextAt vals bs n j)) (fun i _ => (intOf i + 1).toNat)
  case atStart => exact ⟨n, Nat.le_refl _, rfl, hs0, Only.refl _ _ _, h0⟩
  case round =>
    obtain ⟨j, hj, rfl, hs, ho, hna⟩ := hrel
    clear hs0 h h0
    by_cases hlt : j = 0
    · subst hlt
      have hnn := hide hna.out.none_
      clear hna
      replace hs := hide hs
      go_wp2_with fail
      go_ret
      refine ⟨by rw [hnn.out]; rfl, ?_, ho⟩
      rw [hnn.out]
      have := hs.out
      simpa using this
    · obtain ⟨j, rfl⟩ : ∃ j', j = j' + 1 := ⟨j - 1, by omega⟩
      have hjv : j < vals.length := by rw [hvl.out]; omega
      have hjb : j < bs.length := by rw [hbl.out]; omega
      obtain ⟨v, hv⟩ : ∃ v, vals[j]? = some v := ⟨_, List.getElem?_eq_getElem hjv⟩
      obtain ⟨x, hx⟩ : ∃ x, bs[j]? = some x := ⟨_, List.getElem?_eq_getElem hjb⟩
      obtain ⟨b, off, v', rfl, g1, g2, g3, hv', c0, z0⟩ := hs.get (k := j) (by omega)
      rw [get_mid hv] at hv'
      injection hv' with hv'
      subst hv'
      obtain ⟨b', off', x', rfl, g1', g2', g3', hx', d0, -⟩ := SlI.get (g.only ho (by omega)) (k := j) (by omega)
      rw [hx] at hx'
      injection hx' with hx'
      subst hx'
      have hvv := hvb.out v (List.mem_of_getElem? hv)
      have hv0 := hvv.1
      have hv1 := hvv.2
      have ej : (((j + 1 : Nat) : Int) - 1) = (j : Int) := by omega
      rw [ej]
      have hj0 : (0 : Int) ≤ (j : Int) := by omega
      have hj1 : (j : Int) < (n : Int) := by omega
      have hset := hide (fun y => set_mid hvl.out hv y)
      by_cases hlt2 : v < x
      · have hnn := hide (hna.out.hit hv hx hlt2)
        have hput := hs.put (k := j) (by omega) (v + 1)
        rw [hset.out] at hput
        replace hput := hide hput
        clear hs hv hx hna hvv ej hjv hjb
        go_wp2_with fail
        go_quiet (fail)
        go_wp2_with fail
        go_ret
        refine ⟨by rw [hnn.out]; rfl, ?_, (ho.drewN _).setCell g1 g2 _⟩
        rw [hnn.out]
        exact hput.out.drewN _
      · have hnn := hide (hna.out.down hv hx hlt2 (by omega))
        have hput := hs.put (k := j) (by omega) 0
        rw [hset.out, zero_mid (by omega)] at hput
        replace hput := hide hput
        clear hs hv hx hna hvv ej hjv hjb
        go_wp2_with fail
        go_quiet (fail)
        go_wp2_with fail
        go_roundw
        case rel => exact ⟨j, by omega, by go_num, hput.out.drewN _, (ho.drewN _).setCell g1 g2 _, hnn⟩
        case measure => simp [intOf]

end Go.Proofs.Ytdjhpdmpibokhaa
