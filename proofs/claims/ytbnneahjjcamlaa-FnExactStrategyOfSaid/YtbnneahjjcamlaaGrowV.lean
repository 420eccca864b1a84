/-
  Copies of lists of numbers, and lists of vertices that grow in the call's own memory. Conditions: at most 1048576 elements.
-/
import Derived.Test.YtbnneahjjcamlaaEqI2
import Derived.Test.YtbnneahjjcamlaaMem
import Derived.StillTailTactics
namespace Go.Proofs.Ytbnneahjjcamlaa
open Go.ChangeShapes Go.WideShapes Go.ChangeAt Go.RowKit
set_option linter.unusedVariables false

theorem l00Own_calls (A : Option Addr) (n c : Nat) (l : List Int) (w : World) (lo hi : Nat) (h : SlI w lo hi A n l) (hn : n ≤ 1048576) :
    Calls Try.prog 100 #[.slice A n c] w fun e w' => ∃ A' c', e = .returned (.slice A' n c') ∧ SlI w' w.heap.size w'.heap.size A' n l ∧ Below w.heap.size w w' := by
  have hE := hide elem_int64
  have hs := hide (h.below ((Below.refl w.heap.size w).alloc (Nat.le_refl _) (.cells #[] 2)) (.inr (Nat.le_refl _)))
  have hz : w.heap.size ≤ (w.alloc (.cells #[] 2)).heap.size := by simp
  clear h
  go_enter Try.func100, Try.ntmps100
  go_wp2_with (first | (at_builtin; (with_reducible refine wpList_app rfl (.tmp 3) (.tmp 4) rfl hE.out flat_iv rfl (Own.made w 2 (Nat.le_refl _)) rfl hs.out ?c1 hz ?_); rotate_right; intro A2 c2 w2 hown2 hgr2 hb2 _))
  case c1 => omega
  go_ret
  rw [Nat.zero_add, List.nil_append] at hown2
  exact ⟨_, _, rfl, hown2.sl flat_iv, ((Below.refl _ _).alloc (Nat.le_refl _) _).trans hb2⟩

theorem cloneI_calls (A : Option Addr) (n c : Nat) (l : List Int) (w : World) (lo hi : Nat) (h : SlI w lo hi A n l) (hn : n ≤ 1048576) :
    Calls Try.prog 104 #[.slice A n c] w fun e w' => ∃ A' c', e = .returned (.slice A' n c') ∧ SlI w' w.heap.size w'.heap.size A' n l ∧ Below w.heap.size w w' := by
  have hnil : ∀ (W : World) (a : Option Addr) (m d : Nat), (binOp .eql 24 (.slice a m d) (.slice none 0 0)).run Try.prog W = .ok (.bool a.isNone) W := fun W a m d => Lib.run_eql_slice_nil W 24 _ a m d 0 0 Try.underlying24
  have hE := hide elem_int64
  cases A with
  | none =>
    have hn0 : n = 0 := by
      rcases Nat.eq_zero_or_pos n with h0 | h0
      · exact h0
      · obtain ⟨b, off, e, _⟩ := h.at_ h0
        cases e
    subst hn0
    have hl := List.eq_nil_of_length_eq_zero h.len
    subst hl
    go_enter Try.func104, Try.ntmps104
    go_wp2_with fail
    go_ret
    exact ⟨none, 0, rfl, Sl.nil_, Below.refl _ _⟩
  | some a =>
    have hs := hide (h.below ((Below.refl w.heap.size w).alloc (Nat.le_refl _) (.cells #[] 2)) (.inr (Nat.le_refl _)))
    have hz : w.heap.size ≤ (w.alloc (.cells #[] 2)).heap.size := by simp
    clear h
    go_enter Try.func104, Try.ntmps104
    go_wp2_with (first | (at_builtin; (with_reducible refine wpList_app rfl (.tmp 5) (.tmp 6) rfl hE.out flat_iv rfl (Own.made w 2 (Nat.le_refl _)) rfl hs.out ?c1 hz ?_); rotate_right; intro A2 c2 w2 hown2 hgr2 hb2 _))
    case c1 => omega
    go_ret
    rw [Nat.zero_add, List.nil_append] at hown2
    exact ⟨_, _, rfl, hown2.sl flat_iv, ((Below.refl _ _).alloc (Nat.le_refl _) _).trans hb2⟩

theorem flat_gV : Flat gV 3 := ⟨fun _ => rfl, fun x u h => by simp [gV] at h; rcases h with rfl | rfl | rfl <;> rfl⟩
theorem elem_vertex : Elem Try.prog 27 66 3 40 := Elem.of Try.underlying27 info_impV rfl (by omega) (by omega)

/-- A list of vertices in a row of the call's own, the lists in it in other blocks. -/
structure GrowV (w : World) (base : Nat) (A : Option Addr) (n c : Nat) (R : List (CV × List Int)) : Prop where
  own : Own 3 gV w base 66 A n c (R.map (·.1))
  rows : ∀ r ∈ R, SlI w base w.heap.size (hdV r.1).1 (hdV r.1).2.1 r.2 ∧ (hdV r.1).2.1 ≤ 1048576
  off : ∀ r ∈ R, 0 < (hdV r.1).2.1 → ∀ b off, (hdV r.1).1 = some ⟨b, off, none⟩ → (Value.slice A n c).ownBlock ≠ some b

section
variable {w w4 w5 : World} {base n c : Nat} {A : Option Addr} {R : List (CV × List Int)}
theorem GrowV.nil_ (w : World) (base : Nat) : GrowV w base none 0 0 [] := ⟨Own.nil_ _ _ _, fun _ h => (List.not_mem_nil h).elim, fun _ h => (List.not_mem_nil h).elim⟩
theorem GrowV.made (w : World) (base : Nat) (hb : base ≤ w.heap.size) : GrowV (w.alloc (.cells #[] 66)) base (some ⟨w.heap.size, 0, none⟩) 0 0 [] := ⟨Own.made w _ hb, fun _ h => (List.not_mem_nil h).elim, fun _ h => (List.not_mem_nil h).elim⟩
theorem GrowV.push (h : GrowV w base A n c R) (hb : Below w.heap.size w w4) (hbase : base ≤ w.heap.size) {o p : Int} {Ah : Option Addr} {nh ch : Nat} {s : List Int} (hs : SlI w4 w.heap.size w4.heap.size Ah nh s) (hnh : nh ≤ 1048576)
    {A5 : Option Addr} {c5 : Nat} (hown : Own 3 gV w5 base 66 A5 (n + 1) c5 (R.map (·.1) ++ [(o, p, Ah, nh, ch)])) (hgr : w4.grownBy w5 (Value.slice A n c).ownBlock)
    (hat : (Value.slice A5 (n + 1) c5).ownBlock = (Value.slice A n c).ownBlock ∨ (Value.slice A5 (n + 1) c5).ownBlock = some w4.heap.size) :
    GrowV w5 base A5 (n + 1) c5 (R ++ [((o, p, Ah, nh, ch), s)]) := by
  have hz4 := hb.size
  have hz5 := hgr.size
  have keepS : ∀ (B : Option Addr) (m lo hi : Nat) (l : List Int), SlI w4 lo hi B m l → (∀ b off, 0 < m → B = some ⟨b, off, none⟩ → (Value.slice A n c).ownBlock ≠ some b) → SlI w5 lo w5.heap.size B m l := by
    intro B m lo hi l hl hne
    refine ⟨hl.1, fun hm => ?_⟩
    obtain ⟨b, off, rfl, g1, g2, g3, hc⟩ := hl.2 hm
    have hk := hgr.block b g3 (fun e => hne b off hm rfl e.symm)
    refine ⟨b, off, rfl, g1, by omega, by omega, fun k x hx j u hu => ?_⟩
    obtain ⟨h1, h2⟩ := hc k x hx j u hu
    exact ⟨(World.cell?_of_block (w := w4) (by simpa using hk)).trans h1, (World.frozen?_of_block (w := w4) (by simpa using hk)).trans h2⟩
  have hold : ∀ r ∈ R, SlI w4 base w.heap.size (hdV r.1).1 (hdV r.1).2.1 r.2 := fun r hr => (h.rows r hr).1.below hb (.inr (Nat.le_refl _))
  refine ⟨by rw [List.map_append]; exact hown, fun r hr => ?_, fun r hr hm b off e => ?_⟩
  · rcases List.mem_append.1 hr with hr | hr
    · exact ⟨keepS _ _ _ _ _ (hold r hr) (fun b off hm e => h.off r hr hm b off e), (h.rows r hr).2⟩
    · have := List.mem_singleton.1 hr
      subst this
      refine ⟨(keepS _ _ _ _ _ hs (fun b off hm e => ?_)).more hbase (Nat.le_refl _), hnh⟩
      obtain ⟨b', off', e', g1, -⟩ := hs.at_ hm
      rw [e] at e'
      cases e'
      intro e2
      have := (h.own.lt b e2).2
      omega
  · rcases List.mem_append.1 hr with hr | hr
    · obtain ⟨b', off', e', g1, g2, g3, -⟩ := (hold r hr).at_ hm
      rw [e] at e'
      cases e'
      rcases hat with h1 | h1
      · rw [h1]; exact h.off r hr hm b off e
      · rw [h1]
        intro e2
        injection e2 with e2
        omega
    · have := List.mem_singleton.1 hr
      subst this
      obtain ⟨b', off', e', g1, g2, g3, -⟩ := hs.at_ hm
      have e : Ah = _ := e
      rw [e] at e'
      cases e'
      rcases hat with h1 | h1
      · rw [h1]
        intro e2
        have := (h.own.lt b e2).2
        omega
      · rw [h1]
        intro e2
        injection e2 with e2
        omega
theorem GrowV.game (h : GrowV w base A n c R) : GameAt w A n (R.map dV) :=
  ⟨R, ⟨(h.own.sl flat_gV).more (Nat.zero_le _) (Nat.le_refl _), fun r hr => ⟨(h.rows r hr).1.more (Nat.zero_le _) (Nat.le_refl _), (h.rows r hr).2⟩⟩, rfl, by have := h.own.len; rw [List.length_map] at this; rw [List.length_map]; exact this.symm⟩
end


end Go.Proofs.Ytbnneahjjcamlaa
