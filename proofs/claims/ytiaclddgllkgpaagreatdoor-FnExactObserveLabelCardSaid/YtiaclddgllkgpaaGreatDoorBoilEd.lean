/-
  The laws' helpers on lists of edges (three numbers each): sizes, copying, comparing. Conditions: sizes.
-/
import Derived.Test.YtiaclddgllkgpaaGreatDoorBoilS
import Derived.Outline
namespace Go.Proofs.YtiaclddgllkgpaaGreatDoor
open Go.ChangeShapes Go.WideShapes Go.ChangeAt Go.RowKit
set_option linter.unusedVariables false

abbrev Ed := Int × Int × Int
def ev (e : Ed) : List Value := [.int .i64 e.1, .int .i64 e.2.1, .int .i64 e.2.2]
abbrev SlE := Sl 3 ev
theorem SlE.get {w : World} {lo hi n : Nat} {A : Option Addr} {l : List Ed} (h : SlE w lo hi A n l) {k : Nat} (hk : k < n) :
    ∃ b off x y z, A = some ⟨b, off, none⟩ ∧ lo ≤ b ∧ b < hi ∧ b < w.heap.size ∧ l[k]? = some (x, y, z) ∧ w.cell? ⟨b, off + k * 3, none⟩ = some (.int .i64 x) ∧ w.cell? ⟨b, off + k * 3 + 1, none⟩ = some (.int .i64 y) ∧ w.cell? ⟨b, off + k * 3 + 2, none⟩ = some (.int .i64 z) ∧
      w.frozen? ⟨b, off + k * 3, none⟩ = false ∧ w.frozen? ⟨b, off + k * 3 + 1, none⟩ = false ∧ w.frozen? ⟨b, off + k * 3 + 2, none⟩ = false := by
  obtain ⟨b, off, e, g1, g2, g3, hc⟩ := h.at_ (by omega)
  have hl : k < l.length := by rw [h.len]; exact hk
  have h0 := hc k l[k] (List.getElem?_eq_getElem hl) 0 _ rfl
  have h1 := hc k l[k] (List.getElem?_eq_getElem hl) 1 _ rfl
  have h2 := hc k l[k] (List.getElem?_eq_getElem hl) 2 _ rfl
  rw [← Nat.add_assoc] at h1 h2
  exact ⟨b, off, l[k].1, l[k].2.1, l[k].2.2, e, g1, g2, g3, List.getElem?_eq_getElem hl, h0.1, h1.1, h2.1, h0.2, h1.2, h2.2⟩

theorem Fill.set3 {α : Type} {f : α → List Value} {w : World} {B n k : Nat} {t : TypeId} {l : List α} (h : Fill 3 f w B t n k l) (hk : k < n) (hlen : ∀ x, (f x).length = 3) {x : α} (hx : l[k]? = some x) {u v z : Value} (hf : f x = [u, v, z]) :
    Fill 3 f (((w.setCell ⟨B, k * 3, none⟩ u).setCell ⟨B, k * 3 + 1, none⟩ v).setCell ⟨B, k * 3 + 2, none⟩ z) B t n (k + 1) l :=
  h.step hlen hx fun cur hc hs => ⟨((cur.setIfInBounds (k * 3) u).setIfInBounds (k * 3 + 1) v).setIfInBounds (k * 3 + 2) z, heap_setCell_same _ B _ _ t z (heap_setCell_same _ B _ _ t v (heap_setCell_same w B _ cur t u hc)), by simp,
    fun i hi => by rw [Array.getElem?_setIfInBounds_ne (by omega), Array.getElem?_setIfInBounds_ne (by omega), Array.getElem?_setIfInBounds_ne (by omega)], fun j q hq => by
    rw [hf] at hq
    match j, hq with
    | 0, hq =>
      simp at hq
      subst hq
      rw [Array.getElem?_setIfInBounds_ne (by omega), Array.getElem?_setIfInBounds_ne (by omega)]
      simp [Array.getElem?_setIfInBounds]
      omega
    | 1, hq =>
      simp at hq
      subst hq
      rw [Array.getElem?_setIfInBounds_ne (by omega)]
      simp [Array.getElem?_setIfInBounds]
      omega
    | 2, hq =>
      simp at hq
      subst hq
      simp [Array.getElem?_setIfInBounds]
      omega⟩

theorem info_implEdge : (Tryz.prog.info? 86).map (fun i => (i.zero, i.size, i.bytes)) = some (some (.agg #[.int .i64 0, .int .i64 0, .int .i64 0]), 3, 24) := by kernel_rfl

theorem toEdge_calls (a b c : Int) (w : World) :
    Calls Tryz.prog 128 #[.agg #[.int .i64 a, .int .i64 b, .int .i64 c]] w fun e w' => e = .returned (.agg #[.int .i64 a, .int .i64 b, .int .i64 c]) ∧ Below w.heap.size w w' := by
  go_enter Tryz.func128, Tryz.ntmps128
  go_wp2
  go_returns
  refine ⟨rfl, ?_⟩
  go_grown

theorem szEdgeS_calls (A : Option Addr) (n c : Nat) (left : Int) (w : World) (hn : n ≤ maxLen) (h0 : 0 ≤ left) (h1 : left ≤ 1048576) :
    Calls Tryz.prog 82 #[.slice A n c, .int .i64 left] w fun e w' => e = .returned (.int .i64 (szLeft left n)) ∧ w = w' := by
  unfold maxLen at hn
  by_cases h : left < n
  · go_enter Tryz.func82, Tryz.ntmps82
    go_wp2
    go_ret
    exact ⟨by rw [szLeft_big h]; rfl, rfl⟩
  · go_enter Tryz.func82, Tryz.ntmps82
    go_wp2
    go_ret
    exact ⟨by rw [szLeft_fits (by omega)]; rfl, rfl⟩

theorem toEdgeS_calls (A : Option Addr) (n c : Nat) (l : List Ed) (w : World) (lo hi : Nat) (h : SlE w lo hi A n l) (hn : n ≤ 1048576) :
    Calls Tryz.prog 88 #[.slice A n c] w fun e w' => ∃ A', e = .returned (.slice A' n n) ∧ Below w.heap.size w w' ∧ SlE w' w.heap.size w'.heap.size A' n l := by
  obtain ⟨i0, hi0, hz0, hz1, hz2⟩ := info_parts info_implEdge
  have hmk := fun W => make_row (P := Tryz.prog) 31 86 i0 _ _ n Tryz.underlying31 hi0 hz0 hz1 (by rw [hz2]; omega) (by omega) W
  clear hi0 hz0 hz1 hz2
  have hlen := hide h.len
  go_enter Tryz.func88, Tryz.ntmps88
  go_wp2
  go_loopw [4] (fun i wr => ∃ k : Nat, k ≤ n ∧ i = .int .i64 k ∧ Below w.heap.size w wr ∧ Fill 3 ev wr w.heap.size 86 n k l) (fun i _ => n - (intOf i).toNat)
  case atStart => exact ⟨0, Nat.zero_le _, rfl, (Below.refl _ _).alloc (Nat.le_refl _) _, Fill.start _ _ _ _ (by simp [madeCells])⟩
  case round =>
    obtain ⟨k, hk, rfl, hb, hf⟩ := hrel
    clear hmk
    by_cases hlt : k < n
    · obtain ⟨b, off, x1, x2, x3, rfl, g1, g2, g3, hx, c0, c1, c2, -, -, -⟩ := h.get hlt
      replace c0 := (hb.cell g3).trans c0
      replace c1 := (hb.cell (p := ⟨b, off + k * 3 + 1, none⟩) g3).trans c1
      replace c2 := (hb.cell (p := ⟨b, off + k * 3 + 2, none⟩) g3).trans c2
      replace hx := hide hx
      clear h
      go_wp2_with (first | (go_at_call 128; refine (toEdge_calls _ _ _ _).mono ?_; rintro e w1 ⟨rfl, hb1⟩; have hf1 := hf.keep (hb1.block _ hf.lt); obtain ⟨v0, d0⟩ := hf1.cell (i := k * 3) (by omega); obtain ⟨v1, d1⟩ := hf1.cell (i := k * 3 + 1) (by omega); obtain ⟨v2, d2⟩ := hf1.cell (i := k * 3 + 2) (by omega); have z0 := hf1.frozen (k * 3); have z1 := hf1.frozen (k * 3 + 1); have z2 := hf1.frozen (k * 3 + 2)))
      go_roundw
      case rel => exact ⟨k + 1, by omega, by go_num, (((hb.trans (hb1.mono hb.size)).setCell (Nat.le_refl _) _).setCell (Nat.le_refl _) _).setCell (Nat.le_refl _) _, hf1.set3 hlt (fun _ => rfl) hx.out rfl⟩
      case measure => simp [intOf]; omega
    · have : k = n := by omega
      subst this
      go_wp2
      go_ret
      exact ⟨_, rfl, hb, hf.done hlen.out (Nat.le_refl _) hf.lt⟩

theorem eqEdge_calls (a1 a2 a3 b1 b2 b3 : Int) (w : World) :
    Calls Tryz.prog 135 #[.agg #[.int .i64 a1, .int .i64 a2, .int .i64 a3], .agg #[.int .i64 b1, .int .i64 b2, .int .i64 b3]] w fun e w' => e = .returned (.bool (decide (((a1, a2, a3) : Ed) = (b1, b2, b3)))) ∧ Below w.heap.size w w' := by
  by_cases h1 : a1 = b1 <;> by_cases h2 : a2 = b2 <;> by_cases h3 : a3 = b3
  all_goals
    go_enter Tryz.func135, Tryz.ntmps135
    go_wp2
    all_goals first | (exfalso; simp_all; done) | skip
    all_goals go_returns
    all_goals refine ⟨by simp [h1, h2, h3], ?_⟩
    all_goals go_grown

set_option maxRecDepth 100000 in
theorem eqEdgeS_calls (A B : Option Addr) (n m c d : Nat) (l r : List Ed) (w : World) (lo hi lo' hi' : Nat) (h : SlE w lo hi A n l) (g : SlE w lo' hi' B m r) (hn : n ≤ maxLen) (hm : m ≤ maxLen) :
    Calls Tryz.prog 94 #[.slice A n c, .slice B m d] w fun e w' => e = .returned (.bool (decide (l = r))) ∧ Below w.heap.size w w' := by
  unfold maxLen at hn hm
  have hl := hide h.len
  have hr := hide g.len
  by_cases hnm : n = m
  · subst hnm
    go_enter Tryz.func94, Tryz.ntmps94
    go_wp2
    go_loopw [5] (fun i wr => ∃ k : Nat, k ≤ n ∧ i = .int .i64 k ∧ Below w.heap.size w wr ∧ Hid (l.take k = r.take k)) (fun i _ => n - (intOf i).toNat)
    case atStart => exact ⟨0, Nat.zero_le _, rfl, (Below.refl _ _), rfl⟩
    case round =>
      obtain ⟨k, hk, rfl, hb, he⟩ := hrel
      by_cases hlt : k < n
      · obtain ⟨b, off, x1, x2, x3, rfl, g1, g2, g3, hx, c0, c1, c2, -, -, -⟩ := h.get hlt
        obtain ⟨b', off', y1, y2, y3, rfl, g1', g2', g3', hy, d0, d1, d2, -, -, -⟩ := g.get hlt
        replace c0 := (hb.cell g3).trans c0
        replace c1 := (hb.cell (p := ⟨b, off + k * 3 + 1, none⟩) g3).trans c1
        replace c2 := (hb.cell (p := ⟨b, off + k * 3 + 2, none⟩) g3).trans c2
        replace d0 := (hb.cell g3').trans d0
        replace d1 := (hb.cell (p := ⟨b', off' + k * 3 + 1, none⟩) g3').trans d1
        replace d2 := (hb.cell (p := ⟨b', off' + k * 3 + 2, none⟩) g3').trans d2
        replace hx := hide hx
        replace hy := hide hy
        clear h g
        have hq := eqEdge_calls x1 x2 x3 y1 y2 y3 wr.drew
        by_cases hxy : ((x1, x2, x3) : Ed) = (y1, y2, y3)
        · rw [decide_eq_true hxy] at hq
          replace hq := hide hq
          replace hxy := hide hxy
          go_wp2
          go_still_tail 8, (by kernel_rfl)
          change wpList _ _ _ _ _ wr.drew
          go_wp2_with (go_at_call 135; refine hq.out.mono ?_; rintro e w1 ⟨rfl, hb1⟩)
          go_roundw
          case rel => exact ⟨k + 1, by omega, by go_num, hb.drew.trans (hb1.mono hb.size), take_step he.out hx.out hy.out hxy.out⟩
          case measure => simp [intOf]; omega
        · rw [decide_eq_false hxy] at hq
          replace hq := hide hq
          have hne := hide (take_stop hx.out hy.out hxy)
          clear hxy
          go_wp2
          go_still_tail 8, (by kernel_rfl)
          change wpList _ _ _ _ _ wr.drew
          go_wp2_with (go_at_call 135; refine hq.out.mono ?_; rintro e w1 ⟨rfl, hb1⟩)
          go_ret
          exact ⟨by simp [hne.out], hb.drew.trans (hb1.mono hb.size)⟩
      · have hkn : k = n := by omega
        subst hkn
        go_wp2
        go_ret
        exact ⟨by rw [take_all he.out hl.out hr.out]; simp, hb⟩
  · have hne : Hid (l ≠ r) := fun e => hnm (by rw [← hl.out, ← hr.out, e])
    have hb0 : ((n : Int) != (m : Int)) = true := by rw [bne_iff_ne]; omega
    go_enter Tryz.func94, Tryz.ntmps94
    go_wp2
    go_ret
    exact ⟨by simp [hne.out], Below.refl _ _⟩

end Go.Proofs.YtiaclddgllkgpaaGreatDoor
