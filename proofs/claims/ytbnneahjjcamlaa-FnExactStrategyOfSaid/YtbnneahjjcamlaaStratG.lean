/-
  Copies of games in the call's own memory, whose moves may be written anew. Conditions: at most 1048576 vertices.
-/
import Derived.Test.YtbnneahjjcamlaaStrat0
import Derived.Test.YtbnneahjjcamlaaGameS
namespace Go.Proofs.Ytbnneahjjcamlaa
open Go.ChangeShapes Go.WideShapes Go.ChangeAt Go.RowKit
set_option linter.unusedVariables false

/-- A game lies at b, its lists in other blocks. -/
def GameW (w : World) (b off n : Nat) (g : DV) : Prop :=
  ∃ R, RowsV 1048576 w 0 w.heap.size (some ⟨b, off, none⟩) n R ∧ R.map dV = g ∧ ∀ r ∈ R, 0 < (hdV r.1).2.1 → ∀ b' o', (hdV r.1).1 = some ⟨b', o', none⟩ → b' ≠ b
section
variable {w w' : World} {b off n k : Nat} {g : DV}
theorem GameW.at (h : GameW w b off n g) : GameAt w (some ⟨b, off, none⟩) n g := by
  obtain ⟨R, h1, rfl, _⟩ := h
  exact ⟨R, h1, rfl, by rw [List.length_map, h1.len]⟩
theorem GameW.below {B : Nat} (h : GameW w b off n g) (hb : Below B w w') (hB : w.heap.size ≤ B) : GameW w' b off n g := by
  obtain ⟨R, h1, h2, h3⟩ := h
  exact ⟨R, (h1.below hb (.inl hB)).more (Nat.le_refl _) hb.size, h2, h3⟩
theorem GameW.frozen (h : GameW w b off n g) (hk : k < n) : w.frozen? ⟨b, off + k * 3 + 2, none⟩ = false ∧ b < w.heap.size := by
  obtain ⟨R, h1, _, _⟩ := h
  obtain ⟨b', off', x, s, e, g1, g2, g3, hr, hc, hs, hn⟩ := h1.get hk
  cases e
  exact ⟨(hc 2 _ rfl).2, g3⟩
theorem GameW.put (h : GameW w b off n g) (hk : k < n) {A2 : Option Addr} {nh c2 : Nat} {l : List Int} (hs : SlI w 0 w.heap.size A2 nh l) (hnh : nh ≤ 1048576) (hne : 0 < nh → ∀ b' o', A2 = some ⟨b', o', none⟩ → b' ≠ b) :
    GameW (w.setCell ⟨b, off + k * 3 + 2, none⟩ (.slice A2 nh c2)) b off n (putN g k l) := by
  obtain ⟨R, h1, rfl, h3⟩ := h
  obtain ⟨b', off', ⟨x, y, hd0⟩, s0, e, g1, g2, g3, hr, hc0, -, -⟩ := h1.get hk
  cases e
  have hkl : k < R.length := (List.getElem?_eq_some_iff.1 hr).1
  have keepS : ∀ (B : Option Addr) (m : Nat) (s : List Int), SlI w 0 w.heap.size B m s → (0 < m → ∀ b' o', B = some ⟨b', o', none⟩ → b' ≠ b) → SlI (w.setCell ⟨b, off + k * 3 + 2, none⟩ (.slice A2 nh c2)) 0 (w.setCell ⟨b, off + k * 3 + 2, none⟩ (.slice A2 nh c2)).heap.size B m s := by
    intro B m s hl hn
    refine ⟨hl.1, fun hm => ?_⟩
    obtain ⟨b2, o2, rfl, q1, q2, q3, q4⟩ := hl.2 hm
    have hk2 : (w.setCell ⟨b, off + k * 3 + 2, none⟩ (.slice A2 nh c2)).heap[b2]? = w.heap[b2]? := Below.heap_setCell _ _ _ _ (hn hm b2 o2 rfl)
    refine ⟨b2, o2, rfl, q1, by rw [World.size_setCell]; exact q2, by rw [World.size_setCell]; exact q3, fun i z hz j u hu => ?_⟩
    obtain ⟨r1, r2⟩ := q4 i z hz j u hu
    exact ⟨(World.cell?_of_block (w := w) (by simpa using hk2)).trans r1, (World.frozen?_of_block (w := w) (by simpa using hk2)).trans r2⟩
  refine ⟨R.set k ((x, y, A2, nh, c2), l), ⟨⟨by rw [List.length_map, List.length_set, h1.len], fun hn0 => ?_⟩, fun r hr' => ?_⟩, ?_, fun r hr' => ?_⟩
  · obtain ⟨b3, o3, e3, p1, p2, p3, p4⟩ := h1.outer.2 hn0
    cases e3
    refine ⟨b, off, rfl, p1, by rw [World.size_setCell]; exact p2, by rw [World.size_setCell]; exact p3, fun i z hz j u hu => ?_⟩
    have hj : j < 3 := by have := (List.getElem?_eq_some_iff.1 hu).1; simpa [gV] using this
    rw [World.frozen?_setCell]
    rw [List.map_set] at hz
    by_cases hik : k = i
    · subst hik
      rw [List.getElem?_set_self (by rw [List.length_map]; exact hkl)] at hz
      cases hz
      have hold := p4 k (x, y, hd0) (by rw [List.getElem?_map, hr]; rfl)
      match j, hj with
      | 0, _ => exact ⟨(World.cell?_setCell_other _ _ _ _ (by intro e; injection e with _ e _; omega)).trans ((hold 0 _ rfl).1.trans hu), (hold 0 _ rfl).2⟩
      | 1, _ => exact ⟨(World.cell?_setCell_other _ _ _ _ (by intro e; injection e with _ e _; omega)).trans ((hold 1 _ rfl).1.trans hu), (hold 1 _ rfl).2⟩
      | 2, _ =>
        have h2 := hold 2 _ rfl
        refine ⟨?_, h2.2⟩
        have h4 := World.cell?_setCell_same w ⟨b, off + (k * 3 + 2), none⟩ (.slice A2 nh c2) h2.1
        simp [gV] at hu
        subst hu
        exact h4
    · rw [List.getElem?_set_ne hik] at hz
      obtain ⟨q1, q2⟩ := p4 i z hz j u hu
      exact ⟨(World.cell?_setCell_other _ _ _ _ (by intro e; injection e with _ e _; omega)).trans q1, q2⟩
  · rcases List.mem_or_eq_of_mem_set hr' with hr' | hr'
    · exact ⟨keepS _ _ _ (h1.rows r hr').1 (h3 r hr'), (h1.rows r hr').2⟩
    · subst hr'
      exact ⟨keepS _ _ _ hs hne, hnh⟩
  · have hx : (R.map dV)[k]? = some (x, y, s0) := by rw [List.getElem?_map, hr]; rfl
    rw [List.map_set]
    unfold putN
    rw [gOwn_at hx, gPri_at hx]
    rfl
  · rcases List.mem_or_eq_of_mem_set hr' with hr' | hr'
    · exact h3 r hr'
    · subst hr'
      exact hne
theorem GrowV.atW {base c : Nat} {A : Option Addr} {R : List (CV × List Int)} (h : GrowV w base A n c R) (hn : 0 < n) : ∃ b, A = some ⟨b, 0, none⟩ ∧ base ≤ b ∧ GameW w b 0 n (R.map dV) := by
  obtain ⟨R', h1, h2, h3⟩ := h.game
  obtain ⟨b, hA, hb, hbl⟩ : ∃ b, A = some ⟨b, 0, none⟩ ∧ base ≤ b ∧ (Value.slice A n c).ownBlock = some b := by
    rcases h.own.2.2 with ⟨hv, h0⟩ | ⟨g, cap, cur, hv, hb, _⟩
    · omega
    · injection hv with h4 _ _
      subst h4
      exact ⟨g, rfl, hb, rfl⟩
  subst hA
  exact ⟨b, rfl, hb, R, ⟨(h.own.sl flat_gV).more (Nat.zero_le _) (Nat.le_refl _), fun r hr => ⟨(h.rows r hr).1.more (Nat.zero_le _) (Nat.le_refl _), (h.rows r hr).2⟩⟩, rfl, fun r hr h0 b' o' e e2 => h.off r hr h0 b' o' e (by rw [hbl, e2])⟩
end

theorem row_new {w : World} {lo hi n b : Nat} {A : Option Addr} {l : List Int} (h : SlI w lo hi A n l) (hb : b < lo) : 0 < n → ∀ b' o', A = some ⟨b', o', none⟩ → b' ≠ b := fun h0 b' o' e => by
  obtain ⟨b9, o9, e9, h9, -⟩ := h.at_ h0
  rw [e] at e9
  cases e9
  omega

set_option maxHeartbeats 1600000 in
set_option maxRecDepth 100000 in
theorem cloneV_calls (A : Option Addr) (n c : Nat) (g : DV) (w : World) (h : GameAt w A n g) (hn : 0 < n ∧ n ≤ 1048576) :
    Calls Try.prog 122 #[.slice A n c] w fun e w' => ∃ b c', e = .returned (.slice (some ⟨b, 0, none⟩) n c') ∧ GameW w' b 0 n g ∧ w.heap.size ≤ b ∧ Below w.heap.size w w' := by
  have hnil : ∀ (W : World) (a : Option Addr) (m d : Nat), (binOp .eql 27 (.slice a m d) (.slice none 0 0)).run Try.prog W = .ok (.bool a.isNone) W := fun W a m d => Lib.run_eql_slice_nil W 27 _ a m d 0 0 Try.underlying27
  have hE := hide elem_vertex
  obtain ⟨hn0, hn1⟩ := hn
  obtain ⟨R, hR, rfl, hl⟩ := h
  obtain ⟨b1, o1, rfl, q1, q2, q3, -⟩ := hR.outer.at_ hn0
  have hs := hide (hR.outer.below ((Below.refl w.heap.size w).alloc (Nat.le_refl _) (.cells #[] 66)) (.inr (Nat.le_refl _)))
  have hz : w.heap.size ≤ (w.alloc (.cells #[] 66)).heap.size := by simp
  replace hR := hide hR
  clear hl
  go_enter Try.func122, Try.ntmps122
  go_wp2_with (first | (at_builtin; (with_reducible refine wpList_app rfl (.tmp 5) (.tmp 6) rfl hE.out flat_gV rfl (Own.made w 66 (Nat.le_refl _)) rfl hs.out ?c1 hz ?_); rotate_right; intro A2 c2 w2 hown2 hgr2 hb2 _))
  case c1 => omega
  go_ret
  rw [Nat.zero_add, List.nil_append] at hown2
  have hbF : Below w.heap.size w w2 := ((Below.refl _ _).alloc (Nat.le_refl _) _).trans hb2
  have hsl := hown2.sl flat_gV
  obtain ⟨b, hA, hb⟩ : ∃ b, A2 = some ⟨b, 0, none⟩ ∧ w.heap.size ≤ b := by
    rcases hown2.2.2 with ⟨hv, h0⟩ | ⟨g, cap, cur, hv, hb, _⟩
    · omega
    · injection hv with h4 _ _
      subst h4
      exact ⟨g, rfl, hb⟩
  subst hA
  have e0 : 0 + n = n := Nat.zero_add n
  refine ⟨b, c2, by first | rfl | rw [e0], ⟨R, ⟨by first | exact hsl.more (Nat.zero_le _) (Nat.le_refl _) | (rw [e0] at hsl; exact hsl.more (Nat.zero_le _) (Nat.le_refl _)), fun r hr => ⟨((hR.out.rows r hr).1.below hbF (.inl (Nat.le_refl _))).more (Nat.le_refl _) hbF.size, (hR.out.rows r hr).2⟩⟩, rfl, fun r hr h0 b' o' e => ?_⟩, hb, hbF⟩
  obtain ⟨b9, o9, e9, -, h9, -⟩ := (hR.out.rows r hr).1.at_ h0
  rw [e] at e9
  cases e9
  omega

set_option maxHeartbeats 1600000 in
set_option maxRecDepth 100000 in
theorem cloneGame_calls (A : Option Addr) (n c : Nat) (g : DV) (w : World) (h : GameAt w A n g) (ok : GameOk g) :
    Calls Try.prog 77 #[.slice A n c] w fun e w' => ∃ b c', e = .returned (.slice (some ⟨b, 0, none⟩) n c') ∧ GameW w' b 0 n g ∧ w.heap.size ≤ b ∧ Below w.heap.size w w' := by
  have hgl := h.len
  have hn : 0 < n ∧ n ≤ 120 := by have := ok.1; omega
  obtain ⟨hn0, hn1⟩ := hn
  have q0 := hide (cloneV_calls A n c g w h ⟨hn0, by omega⟩)
  replace ok := hide ok
  replace hgl := hide hgl
  clear h
  go_enter Try.func77, Try.ntmps77
  go_wp2_with fail
  refine q0.out.mono ?_
  rintro e w1 ⟨b, c1, rfl, hG, hbb, hb1⟩
  replace hG := hide hG
  have hz1 := hb1.size
  clear q0
  go_wp2_with fail
  go_loopw [9] (fun i wr => ∃ k : Nat, k ≤ n ∧ i = .int .i64 k ∧ GameW wr b 0 n g ∧ Below w.heap.size w wr) (fun i _ => n - (intOf i).toNat)
  case atStart => exact ⟨0, Nat.zero_le _, rfl, hG.out, hb1⟩
  case round =>
    obtain ⟨k, hk, rfl, hW, hb⟩ := hrel
    clear hG
    by_cases hlt : k < n
    · obtain ⟨o, p, l, Ah, nh, ch, hx, c0, c1', c2, hs, hnh, -⟩ := hW.at.cell ok.out hlt
      obtain ⟨f2, hbl⟩ := hW.frozen hlt
      simp only [Nat.zero_add] at c0 c1' c2 f2
      have hq := hide (cloneI_calls Ah nh ch l wr _ _ hs hnh)
      have hraw := hide (gRaw_at hx)
      have hz := hb.size
      replace hW := hide hW
      clear hx hs
      go_wp2_with (first | (go_at_call 104; (refine hq.out.mono ?_); rintro e w2 ⟨A2, k2, rfl, hs2, hb2⟩; have d2 := (hb2.cell (p := ⟨b, k * 3 + 2, none⟩) hbl).trans c2; have z2 := (hb2.frozen (p := ⟨b, k * 3 + 2, none⟩) hbl).trans f2; have hW2 := hide ((hW.out.below hb2 (Nat.le_refl _)).put (c2 := k2) hlt (hs2.more (Nat.zero_le _) (Nat.le_refl _)) hnh (row_new hs2 hbl)); have hb3 := hide (hb.trans (hb2.mono hz)); clear hs2 hb2))
      go_roundw
      case rel =>
        refine ⟨k + 1, by omega, by go_num, ?_, hb3.out.setCell hbb _⟩
        have h9 := hW2.out
        rw [← hraw.out, putN_raw (by rw [← hgl.out]; exact hlt)] at h9
        simpa only [Nat.zero_add] using h9
      case measure => simp [intOf]; omega
    · have hkn : k = n := by omega
      subst hkn
      replace hW := hide hW
      go_wp2
      go_ret
      exact ⟨b, _, rfl, hW.out, hbb, hb⟩

end Go.Proofs.Ytbnneahjjcamlaa
