/-
  Expressions as trees in memory, and the functions that build them. Conditions: at most 60 terms.
-/
import Derived.Test.YtdjhpdmpibokhaaSeg
import Derived.Test.YtdjhpdmpibokhaaSubst
namespace Go.Proofs.Ytdjhpdmpibokhaa
open Go.ChangeShapes Go.WideShapes Go.ChangeAt Go.RowKit
set_option linter.unusedVariables false

/-- A pointer to a block's head. -/
def pv (g : Nat) : List Value := [.pointer (some ⟨g, 0, none⟩)]
theorem flat_pv : Flat pv 1 := ⟨fun _ => rfl, fun x u h => by simp [pv] at h; subst h; rfl⟩

/-- The slice value `.slice A n c` holds pointers to the blocks ps; its cells lie in a block of S. -/
def Row (w : World) (S : Nat → Prop) (A : Option Addr) (n : Nat) (ps : List Nat) : Prop :=
  ps.length = n ∧ (0 < n → ∃ b off, A = some ⟨b, off, none⟩ ∧ S b ∧ b < w.heap.size ∧ ∀ k q, ps[k]? = some q → w.cell? ⟨b, off + k, none⟩ = some (.pointer (some ⟨q, 0, none⟩)))

/-- Block p is a tree of the segment e, all of whose blocks are in S. -/
def TreeAt (T : TypeId) : Nat → World → (Nat → Prop) → Nat → List (Int × Int) → Prop
  | 0, _, _, _, _ => False
  | d + 1, w, S, p, e => ∃ (t : Int × Int) (ps : List (Nat × List (Int × Int))) (A : Option Addr) (n c : Nat), e = t :: (ps.map (·.2)).flatten ∧ (n : Int) = arity t ∧ S p ∧
      w.heap[p]? = some (.cells #[.int .i64 t.1, .int .i64 t.2, .slice A n c] T (0, 0)) ∧ Row w S A n (ps.map (·.1)) ∧ ∀ s ∈ ps, TreeAt T d w S s.1 s.2

theorem lt_of_block {w : World} {p : Nat} {o : Obj} (h : w.heap[p]? = some o) : p < w.heap.size := by
  rcases Nat.lt_or_ge p w.heap.size with hl | hl
  · exact hl
  · rw [Array.getElem?_eq_none hl] at h; cases h

theorem Row.keep {w w' : World} {S S' : Nat → Prop} {A : Option Addr} {n : Nat} {ps : List Nat} (h : Row w S A n ps) (hs : w.heap.size ≤ w'.heap.size) (hk : ∀ b, S b → b < w.heap.size → w'.heap[b]? = w.heap[b]? ∧ S' b) : Row w' S' A n ps :=
  ⟨h.1, fun hn => by
    obtain ⟨b, off, e, g1, g2, hc⟩ := h.2 hn
    obtain ⟨k1, k2⟩ := hk b g1 g2
    exact ⟨b, off, e, k2, by omega, fun k q hq => (World.cell?_of_block (w := w) (by simpa using k1)).trans (hc k q hq)⟩⟩

theorem TreeAt.keep {T : TypeId} : ∀ {d : Nat} {w w' : World} {S S' : Nat → Prop} {p : Nat} {e : List (Int × Int)}, TreeAt T d w S p e → w.heap.size ≤ w'.heap.size → (∀ b, S b → b < w.heap.size → w'.heap[b]? = w.heap[b]? ∧ S' b) → TreeAt T d w' S' p e := by
  intro d
  induction d with
  | zero => intro w w' S S' p e h; exact h.elim
  | succ d ih =>
    intro w w' S S' p e h hs hk
    obtain ⟨t, ps, A, n, c, he, hn, hS, hp, hr, hc⟩ := h
    obtain ⟨k1, k2⟩ := hk p hS (lt_of_block hp)
    exact ⟨t, ps, A, n, c, he, hn, k2, k1.trans hp, hr.keep hs hk, fun s hm => ih (hc s hm) hs hk⟩

theorem TreeAt.below {T : TypeId} {d : Nat} {w w' : World} {S : Nat → Prop} {p : Nat} {e : List (Int × Int)} (h : TreeAt T d w S p e) {B : Nat} (hb : Below B w w') (hB : w.heap.size ≤ B) : TreeAt T d w' S p e :=
  h.keep hb.size fun b h1 h2 => ⟨hb.block b (by omega), h1⟩

theorem TreeAt.seg {T : TypeId} : ∀ {d : Nat} {w : World} {S : Nat → Prop} {p : Nat} {e : List (Int × Int)}, TreeAt T d w S p e → Seg d e := by
  intro d
  induction d with
  | zero => intro w S p e h; exact h.elim
  | succ d ih =>
    intro w S p e h
    obtain ⟨t, ps, A, n, c, he, hn, hS, hp, hr, hc⟩ := h
    refine ⟨t, ps.map (·.2), he, ?_, ?_⟩
    · rw [List.length_map]
      have := hr.1
      rw [List.length_map] at this
      omega
    · intro s hs
      obtain ⟨x, hx, rfl⟩ := List.mem_map.1 hs
      exact ih (hc x hx)


theorem elem_ptrs : Elem Try.prog 109 81 1 8 :=
  Elem.of (z := .pointer none) Try.underlying109 (by kernel_rfl) rfl (by omega) (by omega)

/-- A child stays a tree over a round of treeFrom's loop. -/
theorem TreeAt.step {T : TypeId} {d g p : Nat} {wr w2 w4 : World} {e : List (Int × Int)} {v3 v4 : Option Nat} {S : Nat → Prop} {o : Obj} {u : Value} (h : TreeAt T d wr S p e) (hS : ∀ b, S b → b < wr.heap.size → g < b ∧ some b ≠ v3)
    (hb : Below wr.heap.size wr w2) (hgr : (w2.alloc o).grownBy w4 v3) (hat : v4 = v3 ∨ v4 = some (w2.alloc o).heap.size) : TreeAt T d (w4.setCell ⟨g, 2, none⟩ u) (fun b => g < b ∧ some b ≠ v4) p e := by
  have hs2 := hb.size
  have hs4 := hgr.size
  rw [World.size_alloc] at hs4
  refine h.keep (by simp [World.setCell]; omega) fun b h1 h2 => ?_
  obtain ⟨h3, h4⟩ := hS b h1 h2
  refine ⟨?_, h3, ?_⟩
  · rw [Below.heap_setCell _ _ _ _ (by show b ≠ g; omega), hgr.block b (by rw [World.size_alloc]; omega) h4, Below.heap_alloc _ _ _ (by omega)]
    exact hb.block b h2
  · rcases hat with e | e
    · rw [e]; exact h4
    · rw [e, World.size_alloc]
      intro e2
      injection e2 with e2
      omega

theorem kept_grown {w2 w5 : World} {g : Nat} {x o : Obj} {v : Option Nat} (hx : w2.heap[g]? = some x) (hgr : (w2.alloc o).grownBy w5 v) (hne : some g ≠ v) : w5.heap[g]? = some x := by
  have hlt := lt_of_block hx
  rw [hgr.block g (by rw [World.size_alloc]; omega) hne, Below.heap_alloc _ _ _ hlt]
  exact hx

theorem own_setCell {α : Type} {size : Nat} {f : α → List Value} {w : World} {base n c : Nat} {e : TypeId} {A : Option Addr} {l : List α} (h : Own size f w base e A n c l) {a : Addr} (ha : a.block < base) (u : Value) : Own size f (w.setCell a u) base e A n c l :=
  h.keep fun g hg => Below.heap_setCell _ _ _ _ (by have := (h.lt g hg).1; omega)

set_option maxRecDepth 100000 in
theorem treeFrom_calls (d : Nat) : ∀ (A : Option Addr) (n c : Nat) (l : List (Int × Int)) (q : Int) (w : World) (lo hi : Nat), SlT w lo hi A n l → hi ≤ w.heap.size → n ≤ c → n ≤ 60 → n ≤ d → 1 ≤ q → isLoop l 29 q = true →
    Calls Try.prog 95 #[.slice A n c] w fun e w' => ∃ (p : Nat) (e' r : List (Int × Int)) (A' : Option Addr) (n' c' : Nat), e = .returned (.tuple #[.pointer (some ⟨p, 0, none⟩), .slice A' n' c']) ∧ l = e' ++ r ∧ isLoop r 29 (q - 1) = true ∧
      TreeAt 111 d w' (fun b => w.heap.size ≤ b) p e' ∧ SlT w' lo hi A' n' r ∧ n' ≤ c' ∧ Below w.heap.size w w' := by
  induction d with
  | zero =>
    intro A n c l q w lo hi h hhi hc hn hd hq hl
    have := isLoop_pos hl (by omega)
    have := h.len
    omega
  | succ d ih =>
    intro A n c l q w lo hi h hhi hc hn hd hq hl
    have hpos := isLoop_pos hl (by omega)
    rw [h.len] at hpos
    obtain ⟨b, off, x1, x2, rfl, g1, g2, g3, hx, c0, c1, -, -⟩ := h.get hpos
    simp only [Nat.zero_mul, Nat.add_zero] at c0 c1
    have hcut : ∀ W, (Instr.slice 25 (.slice (some ⟨b, off, none⟩) n c) (some (.int .i64 1)) none none).run Try.prog W = .ok (.slice (cutA (some ⟨b, off, none⟩) 1 c 2) (n - 1) (c - 1)) W := run_cut (P := Try.prog) elem_implTerm (some ⟨b, off, none⟩) n c 1 hpos
    have hsl := h.cut (k := 1) hpos hc
    generalize cutA (some ⟨b, off, none⟩) 1 c 2 = A1 at hcut hsl
    replace hsl := hide hsl
    obtain ⟨l0, hl0⟩ : ∃ l0, l0 = l.drop 1 := ⟨_, rfl⟩
    rw [← hl0] at hsl
    have hle : Hid (l = (x1, x2) :: l0) := by
      have hkl := (List.getElem?_eq_some_iff.1 hx).1
      have h0 := List.drop_eq_getElem_cons hkl
      rw [List.drop_zero] at h0
      rw [hl0]
      have h1 := (List.getElem?_eq_some_iff.1 hx).2
      rw [h1] at h0
      exact h0
    have hl2 := hl
    rw [hle.out] at hl2
    obtain ⟨_, hok, hl3⟩ := isLoop_cons hl2
    replace hl3 := hide hl3
    have hab := arity_bd (x1, x2)
    have har : ∃ m : Nat, m ≤ 2 ∧ arity (x1, x2) = (m : Int) := ⟨(arity (x1, x2)).toNat, by omega, by omega⟩
    obtain ⟨m, hm2, harm⟩ := har
    rw [harm] at hl3 
    have hop := fun W => operands_calls x1 x2 W
    simp only [harm] at hop
    replace hop := hide hop
    replace harm := hide harm
    replace ih := hide ih
    have hE := hide elem_ptrs
    clear h hl hl2 hx hok hab hl0
    go_enter Try.func95, Try.ntmps95
    go_wp2_with (first | (go_at_call 54; (with_reducible refine (hop.out _).mono ?_); rintro e w1 ⟨rfl, hb1⟩))
    have hs1 := hb1.size
    simp only [World.size_alloc] at hs1
    have hx0 : Hid (w1.heap[w.heap.size]? = some (.cells #[.int .i64 x1, .int .i64 x2, .slice none 0 0] 111)) := (hb1.block _ (by simp)).trans (heap_alloc_new w _)
    have hbw1 : Below w.heap.size w w1 := ((Below.refl _ _).alloc (Nat.le_refl _) _).trans (hb1.mono (by simp))
    clear hb1 hcut c0 c1
    go_loopw [5, 18] (fun s i wr => ∃ (k n2 c2 : Nat) (ps : List (Nat × List (Int × Int))) (r : List (Int × Int)) (A2 A3 : Option Addr) (c3 : Nat), k ≤ m ∧ i = .int .i64 k ∧ s = .slice A2 n2 c2 ∧ n2 ≤ c2 ∧ n2 ≤ d ∧ n2 ≤ 60 ∧ SlT wr lo hi A2 n2 r ∧ Hid (l0 = (ps.map (·.2)).flatten ++ r) ∧ Hid (isLoop r 29 (q + (m - k : Int) - 1) = true) ∧ Below w.heap.size w wr ∧ w.heap.size < wr.heap.size ∧ Hid (wr.heap[w.heap.size]? = some (.cells #[.int .i64 x1, .int .i64 x2, .slice A3 k c3] 111)) ∧ Own 1 pv wr (w.heap.size + 1) 81 A3 k c3 (ps.map (·.1)) ∧ ∀ s ∈ ps, TreeAt 111 d wr (fun b => w.heap.size < b ∧ some b ≠ (Value.slice A3 k c3).ownBlock) s.1 s.2) (fun _ i _ => m - (intOf i).toNat)
    case atStart => exact ⟨0, n - 1, _, [], l0, _, none, 0, Nat.zero_le _, rfl, rfl, by omega, by omega, by omega, hsl.out.below hbw1 (.inr (Nat.le_refl _)), rfl, by simpa using hl3, hbw1, by omega, hx0, Own.nil_ _ _ _, fun s hs => by cases hs⟩
    case round =>
      obtain ⟨k, n2, c2, ps, r, A2, A3, c3, hk, rfl, rfl, hnc, hnd, hn6, hs, hlr, hil, hbr, hzr, hx1, hown, htr⟩ := hrel
      by_cases hlt : k < m
      · have hcall := hide (ih.out A2 n2 c2 r (q + (m - k : Int) - 1) wr lo hi hs (by omega) hnc (by omega) hnd (by omega) hil.out)
        have hlen_r := hide hs.len
        clear ih hs hil hop hsl hl3
        replace htr := hide htr
        go_wp2_with fail
        refine hcall.out.mono ?_
        rintro e w2 ⟨p, e2, r2, A4, n4, c4, rfl, hr2, hl2, ht2, hs2, hnc2, hb2⟩
        have hz2 := hb2.size
        have hln := hs2.len
        have hlr2 : Hid (l0 = ((ps ++ [(p, e2)]).map (·.2)).flatten ++ r2) := hide (by rw [hlr.out, hr2, List.map_append, List.flatten_append]; simp [List.append_assoc])
        have hn4 : n4 ≤ n2 := by
          have := congrArg List.length hr2
          rw [List.length_append, hlen_r.out, hln] at this
          omega
        have hx2 : Hid (w2.heap[w.heap.size]? = some (.cells #[.int .i64 x1, .int .i64 x2, .slice A3 k c3] 111)) := (hb2.block _ hzr).trans hx1.out
        have y0 := cell_of_row _ _ 2 _ _ _ hx2.out
        have y1 := frozen_of_row _ _ 2 _ _ hx2.out
        have hown2 := (hown.below hb2 (Nat.le_refl _)).alloc (.cells #[.pointer (some ⟨p, 0, none⟩)] 81)
        replace hl2 := hide hl2
        replace ht2 := hide ht2
        replace hs2 := hide hs2
        replace hln := hide hln
        clear hr2 hlr hx1 hcall
        replace hown := hide hown
        simp at y0
        have hne : Hid (some w.heap.size ≠ (Value.slice A3 k c3).ownBlock) := fun e => by have := (hown2.lt _ e.symm).1; omega
        go_wp2_with (first | (at_builtin; (with_reducible refine wpList_app rfl (.tmp 29) (.tmp 31) rfl hE.out flat_pv rfl hown2 rfl (Sl.lit1' w2 81 p _ rfl 1 _ ?c0) ?c1 ?c2 ?_); rotate_right; intro A5 c5 w5 hown5 hgr5 hb5 hat5; have hx5 := kept_grown hx2.out hgr5 hne.out; have y2 := cell_of_row _ _ 2 _ _ _ hx5; have y3 := frozen_of_row _ _ 2 _ _ hx5; replace hx5 := hide hx5; simp at y2; replace hgr5 := hide hgr5; replace hat5 := hide hat5))
        case c0 => rfl
        case c1 => omega
        case c2 => simp; omega
        have hz5 := hb5.size
        rw [World.size_alloc] at hz5
        have hbl : Below w.heap.size w (w5.setCell ⟨w.heap.size, 2, none⟩ (.slice A5 (k + 1) c5)) :=
          ((hbr.trans (hb2.mono (by omega))).trans (((Below.refl _ _).alloc (by omega) _).trans (hb5.mono (by omega)))).setCell (Nat.le_refl _) _
        go_roundw
        case rel =>
          refine ⟨k + 1, n4, c4, ps ++ [(p, e2)], r2, _, A5, c5, by omega, by go_num, rfl, hnc2, by omega, by omega, ?_, hlr2, ?_, hbl, by simp [World.setCell]; omega, ?_, ?_, ?_⟩
          · exact hs2.out.keep (by simp [World.setCell]; omega) fun b k1 k2 k3 => by
              rw [Below.heap_setCell _ _ _ _ (by show b ≠ w.heap.size; omega), hb5.block b (by omega), Below.heap_alloc _ _ _ k3]
          · refine hide ?_
            rw [show q + ((m : Int) - ((k + 1 : Nat) : Int)) - 1 = q + ((m : Int) - (k : Int)) - 1 - 1 from by omega]
            exact hl2.out
          · exact hide (by rw [heap_setCell_same _ _ _ _ _ _ hx5.out]; rfl)
          · rw [List.map_append]
            exact own_setCell hown5 (by show w.heap.size < w.heap.size + 1; omega) _
          · intro s hs
            rcases List.mem_append.1 hs with hs | hs
            · exact (htr.out s hs).step (fun b h1 _ => h1) hb2 hgr5.out hat5.out
            · have := List.mem_singleton.1 hs
              subst this
              exact ht2.out.step (wr := w2) (fun b h1 _ => ⟨by omega, fun e => by have := (hown.out.lt b e.symm).2; omega⟩) (Below.refl _ _) hgr5.out hat5.out
        case measure => simp [intOf]; omega
      · have hkm : k = m := by omega
        subst hkm
        have hil2 : Hid (isLoop r 29 (q - 1) = true) := by
          have h1 := hil.out
          rw [show q + ((k : Int) - k) - 1 = q - 1 from by omega] at h1
          exact h1
        clear ih hop hil
        replace hs := hide hs
        replace htr := hide htr
        go_wp2
        go_ret2
        refine ⟨_, (x1, x2) :: (ps.map (·.2)).flatten, r, _, _, _, rfl, by rw [hle.out, hlr.out]; rfl, hil2.out, ?_, hs.out, hnc, hbr⟩
        refine ⟨(x1, x2), ps, A3, k, c3, rfl, harm.out.symm, Nat.le_refl _, hx1.out, ?_, fun s hs => (htr.out s hs).keep (Nat.le_refl _) fun b h1 _ => ⟨rfl, by omega⟩⟩
        have hsl3 := hown.sl flat_pv
        refine ⟨hsl3.len, fun h0 => ?_⟩
        obtain ⟨b, off, e, k1, k2, k3, hcl⟩ := hsl3.at_ h0
        refine ⟨b, off, e, by show w.heap.size ≤ b; omega, k3, fun i z hz => ?_⟩
        have := (hcl i z hz 0 _ rfl).1
        simpa using this


theorem tree_calls (A : Option Addr) (n c : Nat) (l : List (Int × Int)) (w : World) (lo hi : Nat) (h : SlT w lo hi A n l) (hc : n ≤ c) (hl : isTerms l 29 60 = true) :
    Calls Try.prog 59 #[.slice A n c] w fun e w' => ∃ p, e = .returned (.pointer (some ⟨p, 0, none⟩)) ∧ TreeAt 111 60 w' (fun b => w.heap.size ≤ b) p l ∧ Below w.heap.size w w' := by
  have hlen := isTerms_len hl
  rw [h.len] at hlen
  have hq : isLoop l 29 1 = true := by
    unfold isTerms at hl
    split at hl
    · cases hl
    · exact hl
  have key := hide (treeFrom_calls 60 A n c l 1 w lo w.heap.size h.top (Nat.le_refl _) hc (by omega) (by omega) (by omega) hq)
  clear h hl hq
  go_enter Try.func59, Try.ntmps59
  go_wp2_with fail
  refine key.out.mono ?_
  rintro e w1 ⟨p, e1, r, A1, n1, c1, rfl, hr, hl1, ht, hs, hc1, hb⟩
  have hr0 := isLoop_zero_nil hl1
  subst hr0
  rw [List.append_nil] at hr
  subst hr
  replace ht := hide ht
  clear hs hl1
  go_wp2_with fail
  go_ret
  exact ⟨p, rfl, ht.out, hb⟩

end Go.Proofs.Ytdjhpdmpibokhaa
