/-
  All pairs that are reached, by the reference. Conditions: sizes; both systems are valid and deterministic.
-/
import Derived.Test.YtiaclddgllkgpaaGreatDoorReachW
import Derived.Deep.CutRange
import Derived.Deep.RegionLaw
import Derived.Deep.DeepCutAuto
namespace Go.Proofs.YtiaclddgllkgpaaGreatDoor
open Go.ChangeShapes Go.WideShapes Go.ChangeAt Go.RowKit Go.Sort
set_option linter.unusedVariables false
set_option linter.unusedSimpArgs false

theorem GoodR.go {p s : DL} (hp : detV p = true) (hs : detV s = true) : ∀ (f k : Nat) (R : List PQ), GoodR p s R → GoodR p s (goR p s f k R)
  | 0, _, _, h => h
  | f + 1, k, R, h => by
    unfold goR
    split
    · rename_i q hq
      exact GoodR.go hp hs f (k + 1) _ (h.expP hp hs hq)
    · exact h
theorem allR_good {p s : DL} (hp : detV p = true) (hs : detV s = true) (hpi : 0 ≤ p.2.1 ∧ p.2.1 < p.1) (hsi : 0 ≤ s.2.1 ∧ s.2.1 < s.1) : GoodR p s (allR p s) := GoodR.go hp hs _ _ _ (GoodR.start hpi hsi)
theorem expL_take {p s : DL} {q : PQ} {R : List PQ} (l : List Ed) (j : Nat) : expL p s q R (l.take j) <+: expL p s q R l := by
  have : expL p s q R l = expL p s q (expL p s q R (l.take j)) (l.drop j) := by
    conv => lhs; rw [← List.take_append_drop j l]
    unfold expL
    rw [List.foldl_append]
  rw [this]
  exact expL_pre _ _ _ _ _
/-- A pair that was found. -/
theorem row_old {p s : DL} {R : List PQ} {nq : PR} {path : List ByteArray} (hg : GoodR p s (allR p s)) (hpre : R <+: allR p s) (hm : nq ∈ R.map (·.1)) :
    ∃ i : Nat, rowI (rowsO R) (rowO nq) = (i : Int) ∧ rowI (rowsO (allR p s)) (rowO nq) = (i : Int) ∧ addP R nq path = R := by
  obtain ⟨x, hx, rfl⟩ := List.mem_map.1 hm
  rcases rowI_cases (rowsO R) (rowO x.1) with ⟨-, h2⟩ | ⟨i, e, hi⟩
  · exact absurd (rows_mem.2 hm) h2
  · unfold rowsO at hi
    rw [List.getElem?_map] at hi
    obtain ⟨y, hy, ey⟩ := Option.map_eq_some_iff.1 hi
    have := rowI_idx hg (pre_at hpre hy)
    rw [ey] at this
    exact ⟨i, e, this, if_pos hm⟩
/-- A pair that is new. -/
theorem row_new {p s : DL} {R : List PQ} {nq : PR} {path : List ByteArray} (hg : GoodR p s (allR p s)) (hpre : addP R nq path <+: allR p s) (hm : nq ∉ R.map (·.1)) :
    rowI (rowsO R) (rowO nq) = -1 ∧ rowI (rowsO (allR p s)) (rowO nq) = (R.length : Int) ∧ addP R nq path = R ++ [(nq, path)] := by
  have e : addP R nq path = R ++ [(nq, path)] := if_neg hm
  rw [e] at hpre
  refine ⟨?_, rowI_idx hg (pre_at hpre (k := R.length) (x := (nq, path)) (by simp)), e⟩
  rcases rowI_cases (rowsO R) (rowO nq) with ⟨h1, -⟩ | ⟨i, -, hi⟩
  · exact h1
  · exact absurd (rows_mem.1 (List.mem_of_getElem? hi)) hm

def GotR (w : World) (bp bd : Nat) (p s : DL) (e : Ending) (w' : World) : Prop :=
  ∃ (bx : Nat) (A : Option Addr) (n c : Nat) (G : List (Nat × PR)) (B : Option Addr) (m d : Nat) (fl : Bool), e = .returned (.pointer (some ⟨bx, 0, none⟩)) ∧ ReachS w' w.heap.size bx bp bd A n c G B m d (edgR p s (allR p s).length) fl ∧ G.map (·.2) = (allR p s).map (·.1) ∧ Below w.heap.size w w'
structure InvR (w wr : World) (bx bp bd : Nat) (p s : DL) (k : Nat) (A : Option Addr) (n c : Nat) (G : List (Nat × PR)) (B : Option Addr) (m d : Nat) (R : List PQ) : Prop where
  st : ReachS wr w.heap.size bx bp bd A n c G B m d (edgR p s k) false
  at_ : AtR p s k R
  eq : G.map (·.2) = R.map (·.1)
  bel : Below w.heap.size w wr
structure InvI (w wr : World) (bx bp bd : Nat) (p s : DL) (k : Nat) (q : PQ) (R : List PQ) (s0 s1 : Nat) (Ao : Option Addr) (no j : Nat) (A : Option Addr) (n c : Nat) (G : List (Nat × PR)) (B : Option Addr) (m d : Nat) : Prop where
  st : ReachS wr w.heap.size bx bp bd A n c G B m d (edgR p s k ++ edgK p s k q.1.2 ((outE p.2.2.2 q.1.1).take j)) false
  eq : G.map (·.2) = (expL p s q R ((outE p.2.2.2 q.1.1).take j)).map (·.1)
  aw : AwayS bx A B n c m d s0 s1
  lst : SlE wr s0 s1 Ao no (outE p.2.2.2 q.1.1)
  bel : Below w.heap.size w wr
  hi : s1 ≤ wr.heap.size
theorem InvI.below {w wr w' : World} {bx bp bd k s0 s1 no j n c m d : Nat} {p s : DL} {q : PQ} {R : List PQ} {Ao A B : Option Addr} {G : List (Nat × PR)} (h : InvI w wr bx bp bd p s k q R s0 s1 Ao no j A n c G B m d) (hb : Below wr.heap.size wr w') : InvI w w' bx bp bd p s k q R s0 s1 Ao no j A n c G B m d :=
  ⟨h.st.below hb, h.eq, h.aw, h.lst.below hb (.inr (Nat.le_refl _)), h.bel.trans (hb.mono h.bel.size), Nat.le_trans h.hi hb.size⟩
/-- .. the pair laid, its edge not yet. -/
structure InvJ (w wr : World) (bx bp bd : Nat) (p s : DL) (k : Nat) (q : PQ) (R : List PQ) (s0 s1 : Nat) (Ao : Option Addr) (no j : Nat) (A : Option Addr) (n c : Nat) (G : List (Nat × PR)) (B : Option Addr) (m d : Nat) : Prop where
  st : ReachS wr w.heap.size bx bp bd A n c G B m d (edgR p s k ++ edgK p s k q.1.2 ((outE p.2.2.2 q.1.1).take j)) false
  eq : G.map (·.2) = (expL p s q R ((outE p.2.2.2 q.1.1).take (j + 1))).map (·.1)
  aw : AwayS bx A B n c m d s0 s1
  lst : SlE wr s0 s1 Ao no (outE p.2.2.2 q.1.1)
  bel : Below w.heap.size w wr
  hi : s1 ≤ wr.heap.size
theorem rows_of {G : List (Nat × PR)} {R : List PQ} (h : G.map (·.2) = R.map (·.1)) : (G.map fun g => (hdG g, [g.2.1, g.2.2])).map (·.2) = rowsO R := by
  have e1 : (G.map fun g => (hdG g, [g.2.1, g.2.2])).map (·.2) = (G.map (·.2)).map rowO := by rw [List.map_map, List.map_map]; rfl
  rw [e1, h, List.map_map]
  rfl
/-- A row of the pairs, where the walk reads it. -/
theorem GrowP.at_ {w : World} {base n c : Nat} {A : Option Addr} {G : List (Nat × PR)} (h : GrowP w base A n c G) {k : Nat} {q : PR} (hk : (G.map (·.2))[k]? = some q) :
    ∃ b off g, A = some ⟨b, off, none⟩ ∧ b < w.heap.size ∧ k < n ∧ G[k]? = some (g, q) ∧ g < w.heap.size ∧ w.cell? ⟨b, off + k, none⟩ = some (.slice (some ⟨g, 0, none⟩) 2 2) ∧ w.cell? ⟨g, 0, none⟩ = some (.int .i64 q.1) ∧ w.cell? ⟨g, 0 + 1, none⟩ = some (.int .i64 q.2) := by
  rw [List.getElem?_map] at hk
  obtain ⟨⟨g, q'⟩, hg, e⟩ := Option.map_eq_some_iff.1 hk
  have e : q' = q := e
  subst e
  have hlt : k < n := by rw [← h.len]; exact (List.getElem?_eq_some_iff.1 hg).1
  obtain ⟨b, off, Ah, nh, ch, s, e1, -, -, hb, hr, pr, -⟩ := h.nest.get hlt
  rw [List.getElem?_map, hg] at hr
  have hr := Option.some.inj hr
  injection hr with e2 e3
  injection e2 with e4 e5
  injection e5 with e6 e7
  subst e4 e6 e7
  have h2 := (h.rows _ (List.mem_of_getElem? hg)).2
  exact ⟨b, off, g, e1, hb, hlt, hg, (Array.getElem?_eq_some_iff.1 h2).1, pr, (cell_of_row _ _ 0 _ _ (0, 0) h2).trans rfl, (cell_of_row _ _ 1 _ _ (0, 0) h2).trans rfl⟩

theorem Own.lit1 {α : Type} {f : α → List Value} {w : World} {g base : Nat} {e : TypeId} {x : α} {u : Value} (h : w.heap[g]? = some (.cells #[u] e (0, 0))) (hf : f x = [u]) (hb : base ≤ g) : Own 1 f w base e (some ⟨g, 0, none⟩) 1 1 [x] :=
  ⟨rfl, by simp [hf], .inr ⟨g, 1, #[u], rfl, hb, h, Nat.le_refl _, by unfold maxLen; omega, rfl, by simp [hf]⟩⟩
theorem InvR.start (w : World) (bp bd : Nat) {p s : DL} (h : AtR p s 0 (startR p s)) : InvR w (((w.alloc (.cells #[.int .i64 p.2.1, .int .i64 s.2.1] 2)).alloc (.cells #[.slice (some ⟨w.heap.size, 0, none⟩) 2 2] 26)).alloc (.cells #[.pointer (some ⟨bp, 0, none⟩), .pointer (some ⟨bd, 0, none⟩), .slice (some ⟨w.heap.size + 1, 0, none⟩) 1 1, .slice none 0 0, .bool false] 126)).drew
    (w.heap.size + 2) bp bd p s 0 (some ⟨w.heap.size + 1, 0, none⟩) 1 1 [(w.heap.size, (p.2.1, s.2.1))] none 0 0 (startR p s) := by
  have z1 : (w.alloc (.cells #[.int .i64 p.2.1, .int .i64 s.2.1] 2)).heap.size = w.heap.size + 1 := World.size_alloc _ _
  have z2 : ((w.alloc (.cells #[.int .i64 p.2.1, .int .i64 s.2.1] 2)).alloc (.cells #[.slice (some ⟨w.heap.size, 0, none⟩) 2 2] 26)).heap.size = w.heap.size + 2 := by rw [World.size_alloc, z1]
  have k1 : (w.alloc (.cells #[.int .i64 p.2.1, .int .i64 s.2.1] 2)).heap[w.heap.size]? = some (.cells #[.int .i64 p.2.1, .int .i64 s.2.1] 2 (0, 0)) := heap_alloc_new _ _
  have k2 := heap_alloc_new (w.alloc (.cells #[.int .i64 p.2.1, .int .i64 s.2.1] 2)) (.cells #[.slice (some ⟨w.heap.size, 0, none⟩) 2 2] 26)
  rw [z1] at k2
  generalize hW1 : w.alloc (.cells #[.int .i64 p.2.1, .int .i64 s.2.1] 2) = W1 at *
  have k1' := (Below.heap_alloc W1 (.cells #[.slice (some ⟨w.heap.size, 0, none⟩) 2 2] 26) w.heap.size (by omega)).trans k1
  generalize hW2 : W1.alloc (.cells #[.slice (some ⟨w.heap.size, 0, none⟩) 2 2] 26) = W2 at *
  have k3 := heap_alloc_new W2 (.cells #[.pointer (some ⟨bp, 0, none⟩), .pointer (some ⟨bd, 0, none⟩), .slice (some ⟨w.heap.size + 1, 0, none⟩) 1 1, .slice none 0 0, .bool false] 126)
  rw [z2] at k3
  have k1'' := (Below.heap_alloc W2 (.cells #[.pointer (some ⟨bp, 0, none⟩), .pointer (some ⟨bd, 0, none⟩), .slice (some ⟨w.heap.size + 1, 0, none⟩) 1 1, .slice none 0 0, .bool false] 126) w.heap.size (by omega)).trans k1'
  have k2' := (Below.heap_alloc W2 (.cells #[.pointer (some ⟨bp, 0, none⟩), .pointer (some ⟨bd, 0, none⟩), .slice (some ⟨w.heap.size + 1, 0, none⟩) 1 1, .slice none 0 0, .bool false] 126) (w.heap.size + 1) (by omega)).trans k2
  refine ⟨⟨by omega, k3, ⟨Own.lit1 k2' rfl (by omega), fun g hg => ?_, by simp⟩, Own.nil_ _ _ _⟩, h, rfl, ?_⟩
  · obtain rfl := List.mem_singleton.1 hg
    exact ⟨Nat.le_refl _, k1''⟩
  · subst hW2 hW1
    exact ((((Below.refl _ _).alloc (Nat.le_refl _) _).alloc (by rw [World.size_alloc]; omega) _).alloc (by rw [World.size_alloc, World.size_alloc]; omega) _).drew

set_option maxRecDepth 100000 in
set_option maxHeartbeats 3200000 in
theorem l29Reach_calls (bp bd : Nat) (xp xs : CL) (p0 p1 : Int) (ls : List ByteArray) (es : List Ed) (r0 r1 : Int) (ms : List ByteArray) (fs : List Ed) (w : World) (hp : LtsAt w bp xp (p0, p1, ls, es)) (hs : LtsAt w bd xs (r0, r1, ms, fs)) (hv : detV (p0, p1, ls, es) = true) (hvs : detV (r0, r1, ms, fs) = true) :
    Calls Tryz.prog 96 #[.pointer (some ⟨bp, 0, none⟩), .pointer (some ⟨bd, 0, none⟩)] w (GotR w bp bd (p0, p1, ls, es) (r0, r1, ms, fs)) := by
  have hEs := hide elem_int64S
  have hEe := hide elem_edge
  have hbP := lts_boundsA (det_ltsA hv)
  have hbS := lts_boundsA (det_ltsA hvs)
  have hpi : 0 ≤ p1 ∧ p1 < p0 := by omega
  have hsi : 0 ≤ r1 ∧ r1 < r0 := by omega
  have hp4 : p0 ≤ 40 := hbP.1.2
  have hs4 : r0 ≤ 40 := hbS.1.2
  have hgood := hide (allR_good (p := (p0, p1, ls, es)) (s := (r0, r1, ms, fs)) hv hvs hpi hsi)
  obtain ⟨⟨e0p, e1p, ⟨A2, n2, k2, e2, -, -, t2⟩, -⟩, -, hbp, -, cp1, d2, -⟩ := id hp
  obtain ⟨⟨e0s, e1s, -, -⟩, -, hbd, -, cs1, -, -⟩ := id hs
  try dsimp only at e0p e1p e2 e0s e1s
  rw [e2] at d2
  rw [e1p] at cp1
  rw [e1s] at cs1
  have hst0 := hide (AtR.start (p := (p0, p1, ls, es)) (s := (r0, r1, ms, fs)) hpi hsi)
  replace hp := hide hp
  replace hs := hide hs
  replace t2 := hide t2
  have d2' := hide d2
  clear e0p e1p e2 e0s e1s hbP hbS d2
  have u1 := World.new_ne w ⟨bp, 1, none⟩ cp1
  have u2 := World.new_ne w ⟨bd, 1, none⟩ cs1
  go_enter Tryz.func96, Tryz.ntmps96
  go_upto_region 1 with fail
  go_cut [5] (fun v wx => ∃ (bx : Nat) (A : Option Addr) (n c : Nat) (G : List (Nat × PR)) (B : Option Addr) (m d : Nat) (R : List PQ), v = .pointer (some ⟨bx, 0, none⟩) ∧ InvR w wx bx bp bd (p0, p1, ls, es) (r0, r1, ms, fs) 0 A n c G B m d R)
  case first =>
    go_region_held3 (fun w' => w'.cell? ⟨bp, 1, none⟩ = some (.int .i64 p1) ∧ w'.cell? ⟨bd, 1, none⟩ = some (.int .i64 r1)) (first | exact ⟨cp1, cs1⟩ | exact ⟨alloc_some cp1, alloc_some cs1⟩ | exact ⟨alloc_some (alloc_some cp1), alloc_some (alloc_some cs1)⟩ | exact ⟨alloc_some (alloc_some (alloc_some cp1)), alloc_some (alloc_some (alloc_some cs1))⟩ | go_keep) (fail)
    all_goals (go_wp2_with fail; go_meet)
    all_goals exact ⟨_, _, _, _, _, _, _, _, _, rfl, InvR.start w bp bd hst0.out⟩
  case rest =>
  obtain ⟨bx, A, n, c, G, B, m, d, R, rfl, hI0⟩ := hcut
  generalize wc = w0 at *
  replace hI0 := hide hI0
  clear hst0 cp1 cs1 u1 u2
  go_upto_region 3 with fail
  go_loopg [6] 1601 (fun gk i wr => ∃ (k : Nat) (A : Option Addr) (n c : Nat) (G : List (Nat × PR)) (B : Option Addr) (m d : Nat) (R : List PQ), i = .int .i64 (k : Nat) ∧ Hid (InvR w wr bx bp bd (p0, p1, ls, es) (r0, r1, ms, fs) k A n c G B m d R) ∧ Hid (1601 - k ≤ gk))
  case atStart => exact ⟨0, A, n, c, G, B, m, d, R, rfl, hI0, by show _ ≤ _; omega⟩
  case round =>
    clear hI0
    obtain ⟨k, A, n, c, G, B, m, d, R, rfl, hI, hG⟩ := hrel
    have hRl := hI.out.at_.good.len hp4 hs4
    have hnR : n = R.length := by rw [← hI.out.st.gp.len, ← List.length_map (f := (·.2)), hI.out.eq, List.length_map]
    have hk := hI.out.at_.le
    obtain ⟨-, -, x2, x3, x4⟩ := hI.out.st.facts
    have hn16 : n ≤ 1600 := by omega
    have hkn : k ≤ n := by omega
    replace hnR := hide hnR
    by_cases hlt : k < n
    · obtain ⟨G2, rfl⟩ : ∃ G2, gk = G2 + 1 := ⟨gk - 1, by have := hG.out; omega⟩
      have hG2 : Hid (1601 - (k + 1) ≤ G2) := by have := hG.out; show _ ≤ _; omega
      obtain ⟨q, hq⟩ : ∃ q, R[k]? = some q := ⟨_, List.getElem?_eq_getElem (by rw [← hnR.out]; exact hlt)⟩
      have hqa := pre_at hI.out.at_.pre hq
      have hrow : (G.map (·.2))[k]? = some q.1 := by rw [hI.out.eq, List.getElem?_map, hq]; rfl
      obtain ⟨br, or_, g, rfl, gbr, -, hGk, gg, f4, f5, -⟩ := hI.out.st.gp.at_ hrow
      have hbel := hI.out.bel
      have gbp : bp < wr.heap.size := Nat.lt_of_lt_of_le hbp hbel.size
      have hbxl := hI.out.st.lt
      have hI0 : (0 : Int) ≤ (k : Int) := by omega
      have hI1 : (k : Int) < (n : Int) := by omega
      have qo := hide (l11Out_calls bp xp (p0, p1, ls, es) q.1.1 wr.drew (hp.out.below hbel.drew (Nat.le_refl _)))
      have hE : Hid (edgR (p0, p1, ls, es) (r0, r1, ms, fs) (k + 1) = edgR (p0, p1, ls, es) (r0, r1, ms, fs) k ++ edgK (p0, p1, ls, es) (r0, r1, ms, fs) k q.1.2 (outE es q.1.1)) := edgR_succ hqa
      have hexp : Hid (expP (p0, p1, ls, es) (r0, r1, ms, fs) R q <+: allR (p0, p1, ls, es) (r0, r1, ms, fs)) := (hI.out.at_.step hv hvs hp4 hs4 hq).pre
      have hfew := out_few hv q.1.1
      have hmemE : ∀ e ∈ outE es q.1.1, e ∈ es := fun e he => (List.mem_filter.1 he).1
      have hlab : Hid (∀ e ∈ outE es q.1.1, ls[e.2.1.toNat]? = some (labE ls e)) := fun e he => labE_at hv (hmemE e he)
      have hlr : Hid (∀ e ∈ outE es q.1.1, 0 ≤ e.2.1 ∧ e.2.1 < (n2 : Int)) := fun e he => by
        have := det_first hv e (hmemE e he)
        have h9 : ls.length = n2 := t2.out.len
        omega
      have hyq : Hid (0 ≤ q.1.2 ∧ q.1.2 < r0) := (hI.out.at_.good.2 q (List.mem_of_getElem? hq)).2
      have hq' := hide hq
      have hrow' := hide hrow
      replace hbel := hide hbel
      clear hqa hq hrow hmemE hGk
      go_upto_region 5 with fail
      go_cut [7] (fun l wx => ∃ (Ao : Option Addr) (no co : Nat), l = .slice Ao no co ∧ SlE wx wr.heap.size wx.heap.size Ao no (outE es q.1.1) ∧ Below wr.heap.size wr wx)
      case first =>
        go_region_held3 (fun w' => w'.cell? ⟨bx, 2, none⟩ = some (.slice (some ⟨br, or_, none⟩) n c) ∧ w'.cell? ⟨br, or_ + k, none⟩ = some (.slice (some ⟨g, 0, none⟩) 2 2) ∧ w'.cell? ⟨g, 0, none⟩ = some (.int .i64 q.1.1)) (first | exact ⟨x2, f4, f5⟩ | exact ⟨g2, g4, g5⟩ | go_keep)
          (first | (go_at_call 87; (with_reducible refine qo.out.mono ?_); rintro e w5 ⟨Ao, no, co, rfl, ho, hno, hb5⟩; have g2 := (hb5.cell (p := ⟨bx, 2, none⟩) hbxl).trans x2; have g4 := (hb5.cell (p := ⟨br, or_ + k, none⟩) gbr).trans f4; have g5 := (hb5.cell (p := ⟨g, 0, none⟩) gg).trans f5; replace ho := hide ho; replace hb5 := hide hb5))
        all_goals (go_wp2_with fail; go_meet)
        all_goals exact ⟨Ao, no, co, rfl, ho.out, (Below.refl _ _).drew.trans hb5.out⟩
      case rest =>
      obtain ⟨Ao, no, co, rfl, ho, hb1⟩ := hcut
      generalize wc = w1 at *
      have hlen := hide ho.len
      rw [ho.len] at hfew
      have hIi : Hid (InvI w w1 bx bp bd (p0, p1, ls, es) (r0, r1, ms, fs) k q R wr.heap.size w1.heap.size Ao no 0 (some ⟨br, or_, none⟩) n c G B m d) :=
        ⟨by simpa [edgK] using hI.out.st.below hb1, hI.out.eq, ⟨.inl hbxl, fun g hg => .inl (hI.out.st.gp.own.lt g hg).2, fun g hg => .inl (hI.out.st.ge.lt g hg).2⟩, ho, hbel.out.trans (hb1.mono hbel.out.size), Nat.le_refl _⟩
      have hbase : Hid (w.heap.size ≤ wr.heap.size) := hbel.out.size
      have hm12 : Hid (m ≤ 12 * k) := by
        have h1 := edgR_len hv (r0, r1, ms, fs) k
        rw [hI.out.st.ge.len] at h1
        exact h1
      have hRk := hide (hI.out.at_)
      generalize wr.heap.size = s0 at *
      clear x2 x3 x4 f4 f5 qo ho hb1 hI hbel
      go_upto_region 7 with fail
      go_loopg [8] no (fun gk i wr => ∃ (j : Nat) (A : Option Addr) (n c : Nat) (G : List (Nat × PR)) (B : Option Addr) (m d : Nat), j ≤ no ∧ i = .int .i64 (j : Nat) ∧ Hid (InvI w wr bx bp bd (p0, p1, ls, es) (r0, r1, ms, fs) k q R s0 w1.heap.size Ao no j A n c G B m d) ∧ Hid (m ≤ 12 * k + j) ∧ Hid (no - j ≤ gk))
      case atStart => exact ⟨0, _, n, c, G, B, m, d, Nat.zero_le _, rfl, hIi, hm12, by show _ ≤ _; omega⟩
      case round =>
        clear hIi hm12
        obtain ⟨j, A', n', c', G', B', m', d', hj, rfl, hI, hm', hG3⟩ := hrel
        by_cases hlt2 : j < no
        · obtain ⟨G4, rfl⟩ : ∃ G4, gk = G4 + 1 := ⟨gk - 1, by have := hG3.out; omega⟩
          have hG4 : Hid (no - (j + 1) ≤ G4) := by have := hG3.out; show _ ≤ _; omega
          have hpre : R <+: expL (p0, p1, ls, es) (r0, r1, ms, fs) q R ((outE es q.1.1).take j) := expL_pre _ _ _ _ _
          have hrow2 : (G'.map (·.2))[k]? = some q.1 := by rw [hI.out.eq, List.getElem?_map, pre_at hpre hq'.out]; rfl
          obtain ⟨br', or', g', rfl, gbr, hkn', hGk, gg, f4, -, f6⟩ := hI.out.st.gp.at_ hrow2
          obtain ⟨-, -, x2, x3, -⟩ := hI.out.st.facts
          have hbxl := hI.out.st.lt
          have hbel := hI.out.bel
          obtain ⟨b5, o5, f, lb, tg, rfl, l5, h5, g5, hx, a0, a1, a2, -, -, -⟩ := SlE.get hI.out.lst hlt2
          have hl1 := hlab.out _ (List.mem_of_getElem? hx)
          have hl2 := hlr.out _ (List.mem_of_getElem? hx)
          dsimp only at hl1 hl2
          have hsx := expL_succ (p := (p0, p1, ls, es)) (s := (r0, r1, ms, fs)) (q := q) (R := R) hx
          have hse := edgK_succ (p := (p0, p1, ls, es)) (s := (r0, r1, ms, fs)) (k := k) (y := q.1.2) hx
          unfold expE at hsx
          unfold edgE at hse
          dsimp only at hsx hse
          generalize labE ls (f, lb, tg) = lab at *
          have hln : lb.toNat < n2 := by omega
          have hl0 : (0 : Int) ≤ lb := hl2.1
          have hl9 : lb < (n2 : Int) := hl2.2
          obtain ⟨b6, o6, r6, rfl, -, -, g6', hr6, p6', -⟩ := SlS.get t2.out hln
          rw [hl1] at hr6
          obtain rfl := Option.some.inj hr6
          have p6 := (hbel.cell (p := ⟨b6, o6 + lb.toNat, none⟩) g6').trans p6'
          have x1 := (hbel.cell (p := ⟨bp, 2, none⟩) hbp).trans d2'.out
          have gbp2 : bp < wr.heap.size := Nat.lt_of_lt_of_le hbp hbel.size
          have g6 : b6 < wr.heap.size := Nat.lt_of_lt_of_le g6' hbel.size
          have hK0 : (0 : Int) ≤ (k : Int) := by omega
          have hK1 : (k : Int) < (n' : Int) := by omega
          have hJ0 : (0 : Int) ≤ (j : Int) := by omega
          have hJ1 : (j : Int) < (no : Int) := by omega
          have qd := hide (l29Go_calls bd xs (r0, r1, ms, fs) q.1.2 lab wr.drew (hs.out.below hbel.drew (Nat.le_refl _)) hvs)
          replace hbel := hide hbel
          replace hsx := hide hsx
          replace hse := hide hse
          clear hx hl1 hl2 hr6 hpre hrow2 hGk p6' g6'
          go_upto_region 9 with fail
          go_cut [9, 10] (fun a b wx => ∃ v : Int, a = .int .i64 v ∧ b = .bool (aloOk (r0, r1, ms, fs) q.1.2 lab) ∧ (aloOk (r0, r1, ms, fs) q.1.2 lab = true → v = aloTo (r0, r1, ms, fs) q.1.2 lab) ∧ Below wr.heap.size wr wx)
          case first =>
            go_region_held3 (fun w' => w'.cell? ⟨bx, 2, none⟩ = some (.slice (some ⟨br', or', none⟩) n' c') ∧ w'.cell? ⟨bp, 2, none⟩ = some (.slice (some ⟨b6, o6, none⟩) n2 k2) ∧ w'.cell? ⟨br', or' + k, none⟩ = some (.slice (some ⟨g', 0, none⟩) 2 2) ∧ w'.cell? ⟨g', 0 + 1, none⟩ = some (.int .i64 q.1.2) ∧ w'.cell? ⟨b5, o5 + j * 3 + 1, none⟩ = some (.int .i64 lb) ∧ w'.cell? ⟨b6, o6 + lb.toNat, none⟩ = some (.string lab)) (first | exact ⟨x2, x1, f4, f6, a1, p6⟩ | exact ⟨v2, v1, v4, v6, u1, u6⟩ | go_keep)
              (first | (go_at_call 86; (with_reducible refine qd.out.mono ?_); rintro e w6 ⟨va, rfl, hva, hb6⟩; have v2 := (hb6.cell (p := ⟨bx, 2, none⟩) hbxl).trans x2; have v1 := (hb6.cell (p := ⟨bp, 2, none⟩) gbp2).trans x1; have v4 := (hb6.cell (p := ⟨br', or' + k, none⟩) gbr).trans f4; have v6 := (hb6.cell (p := ⟨g', 0 + 1, none⟩) gg).trans f6; have u1 := (hb6.cell (p := ⟨b5, o5 + j * 3 + 1, none⟩) g5).trans a1; have u6 := (hb6.cell (p := ⟨b6, o6 + lb.toNat, none⟩) g6).trans p6; replace hb6 := hide hb6; replace hva := hide hva))
            all_goals (go_wp2_with fail; go_meet)
            all_goals exact ⟨va, rfl, rfl, hva.out, (Below.refl wr.heap.size wr).drew.trans hb6.out⟩
          case rest =>
          obtain ⟨va, rfl, rfl, hva, hb6⟩ := hcut
          generalize wc = w6 at *
          have hI6 := hide (hI.out.below hb6)
          have y1 := (hb6.cell (p := ⟨_, _, none⟩) g5).trans a1
          have y2 := (hb6.cell (p := ⟨_, _, none⟩) g5).trans a2
          have g56 := Nat.lt_of_lt_of_le g5 hb6.size
          clear hI qd hb6 a0 a1 a2 p6 x1 x2 x3 f4 f6 hbel
          cases hok : aloOk (r0, r1, ms, fs) q.1.2 lab with
          | false =>
            rw [hok] at hsx hse
            have hI7 : Hid (InvI w w6 bx bp bd (p0, p1, ls, es) (r0, r1, ms, fs) k q R s0 w1.heap.size (some ⟨b5, o5, none⟩) no (j + 1) (some ⟨br', or', none⟩) n' c' G' B' m' d') :=
              ⟨by rw [hse.out, if_neg (by decide), List.append_nil]; exact hI6.out.st, by rw [hsx.out, if_neg (by decide)]; exact hI6.out.eq, hI6.out.aw, hI6.out.lst, hI6.out.bel, hI6.out.hi⟩
            have hm7 : Hid (m' ≤ 12 * k + (j + 1)) := by have := hm'.out; show _ ≤ _; omega
            clear hI6 hsx hse hok hva y1 y2
            go_wp2_with fail
            go_roundg G4
            case measure => omega
            case rel => exact ⟨j + 1, _, n', c', G', B', m', d', by omega, by go_num, hI7, hm7, hG4⟩
          | true =>
            rw [hok, if_pos rfl] at hsx hse
            obtain rfl := hva hok
            have hpreE := (expL_take (p := (p0, p1, ls, es)) (s := (r0, r1, ms, fs)) (q := q) (R := R) (outE es q.1.1) (j + 1)).trans hexp.out
            have hpreJ := (expL_take (p := (p0, p1, ls, es)) (s := (r0, r1, ms, fs)) (q := q) (R := R) (outE es q.1.1) j).trans hexp.out
            have hRl : (expL (p0, p1, ls, es) (r0, r1, ms, fs) q R ((outE es q.1.1).take j)).length ≤ 1600 := Nat.le_trans hpreJ.length_le (hgood.out.len hp4 hs4)
            have hnR2 : n' = (expL (p0, p1, ls, es) (r0, r1, ms, fs) q R ((outE es q.1.1).take j)).length := by have h1 := hI6.out.eq; dsimp only at h1; rw [← hI6.out.st.gp.len, ← List.length_map (f := (·.2)), h1, List.length_map]
            have hrows := rows_of hI6.out.eq
            have heqJ : G'.map (·.2) = (expL (p0, p1, ls, es) (r0, r1, ms, fs) q R ((outE es q.1.1).take j)).map (·.1) := hI6.out.eq
            rw [hsx.out] at hpreE
            dsimp only at hrows
            generalize aloTo (r0, r1, ms, fs) q.1.2 lab = va at *
            generalize expL (p0, p1, ls, es) (r0, r1, ms, fs) q R ((outE es q.1.1).take j) = RJ at *
            have hn16 : n' ≤ 1600 := by omega
            have hcase : Hid ((∃ i : Nat, rowI (rowsO RJ) [tg, va] = (i : Int) ∧ rowI (rowsO (allR (p0, p1, ls, es) (r0, r1, ms, fs))) [tg, va] = (i : Int) ∧ addP RJ (tg, va) (q.2 ++ [lab]) = RJ) ∨ (rowI (rowsO RJ) [tg, va] = -1 ∧ rowI (rowsO (allR (p0, p1, ls, es) (r0, r1, ms, fs))) [tg, va] = (n' : Int) ∧ addP RJ (tg, va) (q.2 ++ [lab]) = RJ ++ [((tg, va), q.2 ++ [lab])])) := by
              by_cases hm : (tg, va) ∈ RJ.map (·.1)
              · exact .inl (row_old hgood.out hpreJ hm)
              · refine .inr ?_
                rw [hnR2]
                exact row_new hgood.out hpreE hm
            have hba : Below w6.heap.size w6 (w6.alloc (.cells #[.int .i64 tg, .int .i64 va] 2)) := (Below.refl _ _).alloc (Nat.le_refl _) _
            have kN := heap_alloc_new w6 (.cells #[.int .i64 tg, .int .i64 va] 2)
            have hI8 := hide (hI6.out.below hba)
            have u1 := (hba.cell (p := ⟨b5, o5 + j * 3 + 1, none⟩) g56).trans y1
            have hfresh : Hid (w6.heap.size ∉ G'.map (·.1)) := fun hh => by
              obtain ⟨x, hx, ex⟩ := List.mem_map.1 hh
              have := (Array.getElem?_eq_some_iff.1 (hI6.out.st.gp.rows x hx).2).1
              omega
            have hb6 : Hid (w.heap.size ≤ w6.heap.size) := hI6.out.bel.size
            have hz6 : (w6.alloc (.cells #[.int .i64 tg, .int .i64 va] 2)).heap.size = w6.heap.size + 1 := World.size_alloc _ _
            obtain ⟨z, hz⟩ : ∃ z, rowI (rowsO RJ) [tg, va] = z := ⟨_, rfl⟩
            have q27 := l27Row_calls (some ⟨br', or', none⟩) (some ⟨w6.heap.size, 0, none⟩) n' 2 c' 2 _ [tg, va] _ 0 _ 0 _ hI8.out.st.gp.nest (Sl.pair kN (Nat.zero_le _) (Array.getElem?_eq_some_iff.1 kN).1) (by omega) (by decide)
            rw [hrows, hz] at q27
            rw [hz] at hcase
            replace q27 := hide q27
            obtain ⟨-, -, x2, -, -⟩ := hI8.out.st.facts
            replace hse := hide hse
            replace hsx := hide hsx
            replace heqJ := hide heqJ
            have kN' := hide kN
            have hz6' := hide hz6
            have hba' := hide hba
            clear hz hI6 hok hva hrows hRl hnR2 hpreE hpreJ kN hz6 hba
            go_upto_region 12 with fail
            generalize (w6.alloc (.cells #[.int .i64 tg, .int .i64 va] 2)) = w7 at *
            go_wp2_with fail
            refine q27.out.mono ?_
            rintro e w8 ⟨rfl, hb8⟩
            have hI9 := hide (hI8.out.below hb8)
            have u2 := (hb8.cell (p := ⟨b5, o5 + j * 3 + 1, none⟩) (Nat.lt_of_lt_of_le g56 (by have := hba'.out.size; omega))).trans u1
            have kN8 := hide ((hb8.block _ (Array.getElem?_eq_some_iff.1 kN'.out).1).trans kN'.out)
            have g58 : b5 < w8.heap.size := by have := hb8.size; have := hba'.out.size; omega
            obtain ⟨-, -, y2, y3, -⟩ := hI9.out.st.facts
            clear hI8 q27 hb8 u1 x2
            go_upto_if 98 with fail
            go_cut [12] (fun t wx => ∃ (A2 : Option Addr) (n2 c2 : Nat) (G2 : List (Nat × PR)), t = .int .i64 (rowI (rowsO (allR (p0, p1, ls, es) (r0, r1, ms, fs))) [tg, va]) ∧ InvJ w wx bx bp bd (p0, p1, ls, es) (r0, r1, ms, fs) k q R s0 w1.heap.size (some ⟨b5, o5, none⟩) no j A2 n2 c2 G2 B' m' d' ∧ wx.cell? ⟨b5, o5 + j * 3 + 1, none⟩ = some (.int .i64 lb) ∧ b5 < wx.heap.size)
            case first =>
              rcases hcase.out with ⟨i, rfl, e2, e3⟩ | ⟨rfl, e2, e3⟩
              · have hnn : ¬ ((i : Int) < 0) := by omega
                have e2' := hide e2
                have e3' := hide e3
                clear e2 e3 hcase
                go_wp2_with fail
                go_meet
                refine ⟨_, n', c', G', by rw [e2'.out], ⟨hI9.out.st, ?_, hI9.out.aw, hI9.out.lst, hI9.out.bel, hI9.out.hi⟩, u2, g58⟩
                rw [hsx.out, e3'.out]
                exact heqJ.out
              · have e2' := hide e2
                have e3' := hide e3
                have hza : w.heap.size ≤ (w8.alloc (.cells #[.slice (some ⟨w6.heap.size, 0, none⟩) 2 2] 26)).heap.size := by have := hI9.out.bel.size; rw [World.size_alloc]; omega
                have hown := hide (hI9.out.st.gp.own.alloc (.cells #[.slice (some ⟨w6.heap.size, 0, none⟩) 2 2] 26))
                have hsz : (n' + 1) * 24 ≤ 140737488355328 := by omega
                clear e2 e3 hcase
                go_wp2_with (first | (at_builtin; (with_reducible refine wpList_app rfl (.tmp 108) (.tmp 110) rfl hEs.out flat_sv rfl hown.out rfl (Sl.lit1' w8 26 (hdG (w6.heap.size, (tg, va))) _ rfl 1 _ ?c0) hsz hza ?_); rotate_right; intro A7 c7 w9 hown9 hgr9 hb9 hat9; have hm9 := hI9.out.st.mid2 hgr9; have v2 : w9.cell? ⟨bx, 2, none⟩ = some (.slice (some ⟨br', or', none⟩) n' c') := (cell_of_row _ _ 2 _ _ (0, 0) hm9).trans rfl; have f2 : w9.frozen? ⟨bx, 2, none⟩ = false := frozen_of_row _ _ 2 _ _ hm9; replace hm9 := hide hm9; replace hown9 := hide hown9; replace hgr9 := hide hgr9; replace hb9 := hide hb9; replace hat9 := hide hat9))
                case c0 => rfl
                go_meet
                have hrow9 := hI9.out.st.row (g := (w6.heap.size, (tg, va))) kN8.out hb6.out hfresh.out hown9.out hgr9.out
                have haw9 := hI9.out.aw.row hI9.out.hi hgr9.out hat9.out (.slice A7 (n' + 1) c7) 2
                have hsz9 : w8.heap.size ≤ (w9.setCell ⟨bx, 2, none⟩ (.slice A7 (n' + 1) c7)).heap.size := by rw [World.size_setCell]; have := hgr9.out.size; rw [World.size_alloc] at this; omega
                refine ⟨A7, n' + 1, c7, _, by rw [e2'.out], ⟨hrow9, ?_, haw9.1, hI9.out.lst.keep hsz9 fun b h1 h2 h3 => haw9.2 b h1 h2, ?_, Nat.le_trans hI9.out.hi hsz9⟩, ?_, Nat.lt_of_lt_of_le g58 hsz9⟩
                · rw [hsx.out, e3'.out, List.map_append, List.map_append, heqJ.out]
                  rfl
                · exact ((hI9.out.bel.alloc hI9.out.bel.size _).trans hb9.out).setCell hI9.out.st.lb _
                · exact (World.cell?_of_block (w := w8) (haw9.2 b5 l5 h5)).trans u2
            case rest =>
            obtain ⟨A2, n2', c2, G2', rfl, hJ, v1, g59⟩ := hcut
            generalize wc = w9 at *
            have hto : Hid (edgR (p0, p1, ls, es) (r0, r1, ms, fs) k ++ edgK (p0, p1, ls, es) (r0, r1, ms, fs) k q.1.2 ((outE es q.1.1).take (j + 1)) = (edgR (p0, p1, ls, es) (r0, r1, ms, fs) k ++ edgK (p0, p1, ls, es) (r0, r1, ms, fs) k q.1.2 ((outE es q.1.1).take j)) ++ [((k : Int), lb, rowI (rowsO (allR (p0, p1, ls, es) (r0, r1, ms, fs))) [tg, va])]) := by
              show _ = _
              rw [hse.out, ← List.append_assoc]
              rfl
            have hsz3 : (m' + 1) * 24 ≤ 140737488355328 := by have := hm'.out; omega
            have hm7 : Hid (m' + 1 ≤ 12 * k + (j + 1)) := by have := hm'.out; show _ ≤ _; omega
            clear hcase hse hsx heqJ hfresh hI9 u2 kN8 g58 y2 y3 y1 kN' hba' g56
            generalize rowI (rowsO (allR (p0, p1, ls, es) (r0, r1, ms, fs))) [tg, va] = z at *
            obtain ⟨-, -, -, x3, -⟩ := hJ.st.facts
            have hge := hJ.st.ge
            have hba : Below w9.heap.size w9 (w9.alloc (.cells #[.int .i64 (k : Int), .int .i64 lb, .int .i64 z] 86)) := (Below.refl _ _).alloc (Nat.le_refl _) _
            have y3 : (w9.alloc (.cells #[.int .i64 (k : Int), .int .i64 lb, .int .i64 z] 86)).cell? ⟨bx, 3, none⟩ = some (.slice B' m' d') := alloc_some x3
            have hgeA : Hid (Own 3 ev (w9.alloc (.cells #[.int .i64 (k : Int), .int .i64 lb, .int .i64 z] 86)).drew w.heap.size 86 B' m' d' (edgR (p0, p1, ls, es) (r0, r1, ms, fs) k ++ edgK (p0, p1, ls, es) (r0, r1, ms, fs) k q.1.2 ((outE es q.1.1).take j))) := hge.alloc _
            have hlit : Hid (Sl 3 ev (w9.alloc (.cells #[.int .i64 (k : Int), .int .i64 lb, .int .i64 z] 86)).drew 0 (w9.heap.size + 1) (some ⟨w9.heap.size, 0, none⟩) 1 [((k : Int), lb, z)]) := Sl.drew (Sl.lit1' w9 86 ((k : Int), lb, z) _ rfl 3 w9.heap.size rfl)
            have hza : Hid (w.heap.size ≤ (w9.alloc (.cells #[.int .i64 (k : Int), .int .i64 lb, .int .i64 z] 86)).drew.heap.size) := by show _ ≤ (w9.alloc (.cells #[.int .i64 (k : Int), .int .i64 lb, .int .i64 z] 86)).heap.size; have := hJ.bel.size; rw [World.size_alloc]; omega
            replace hJ := hide hJ
            replace hba := hide hba
            clear hge
            go_upto_region 16 with fail
            go_region_law (first
              | (refine step_app (d := 1) (by rfl) (.tmp 118) (.tmp 127) (by rfl) hEe.out flat_ev (by go_simp) hgeA.out (by go_simp) hlit.out hsz3 hza.out ?_; intro A7 c7 w10 hown10 hgr9 hb10 hat10; have hgr10 : (w9.alloc (.cells #[.int .i64 (k : Int), .int .i64 lb, .int .i64 z] 86)).grownBy w10 (Value.slice B' m' d').ownBlock := ⟨hgr9.os, hgr9.tape, hgr9.output, hgr9.size, hgr9.block⟩; clear hgr9; have hm10 := hJ.out.st.mid3 hgr10; have v3 : w10.cell? ⟨bx, 3, none⟩ = some (.slice B' m' d') := (cell_of_row _ _ 3 _ _ (0, 0) hm10).trans rfl; have f3 : w10.frozen? ⟨bx, 3, none⟩ = false := frozen_of_row _ _ 3 _ _ hm10; replace hm10 := hide hm10; replace hown10 := hide hown10; replace hgr10 := hide hgr10; replace hb10 := hide hb10; replace hat10 := hide hat10))
            all_goals (
              have hst9 := hJ.out.st.edge hown10.out hgr10.out
              have haw9 := hJ.out.aw.edge hJ.out.hi hgr10.out hat10.out (.slice A7 (m' + 1) c7) 3
              have hsz9 : w9.heap.size ≤ (w10.setCell ⟨bx, 3, none⟩ (.slice A7 (m' + 1) c7)).heap.size := by rw [World.size_setCell]; have := hgr10.out.size; rw [World.size_alloc] at this; omega
              have hI7 : Hid (InvI w (w10.setCell ⟨bx, 3, none⟩ (.slice A7 (m' + 1) c7)) bx bp bd (p0, p1, ls, es) (r0, r1, ms, fs) k q R s0 w1.heap.size (some ⟨b5, o5, none⟩) no (j + 1) A2 n2' c2 G2' A7 (m' + 1) c7) :=
                ⟨by rw [← hto.out] at hst9; exact hst9, hJ.out.eq, haw9.1, hJ.out.lst.keep hsz9 fun b h1 h2 h3 => haw9.2 b h1 h2, ((hJ.out.bel.trans (hba.out.mono hJ.out.bel.size)).trans ⟨hb10.out.os, hb10.out.tape, hb10.out.output, hb10.out.size, hb10.out.block⟩).setCell hJ.out.st.lb _, Nat.le_trans hJ.out.hi hsz9⟩
              clear hst9 haw9 hsz9 hJ hgeA hlit hown10 hgr10 hb10 hat10 hba hto x3 y3 v1
              go_wp2_with fail
              go_roundg G4
              case measure => omega
              case rel => exact ⟨j + 1, A2, n2', c2, G2', A7, m' + 1, c7, by omega, by go_num, hI7, hm7, hG4⟩)
        · have hjn : j = no := by omega
          subst hjn
          have hall : (outE es q.1.1).take j = outE es q.1.1 := List.take_of_length_le (by rw [hlen.out]; exact Nat.le_refl _)
          have hR2 : Hid (InvR w wr bx bp bd (p0, p1, ls, es) (r0, r1, ms, fs) (k + 1) A' n' c' G' B' m' d' (expP (p0, p1, ls, es) (r0, r1, ms, fs) R q)) :=
            ⟨by rw [hE.out]; have h1 := hI.out.st; dsimp only at h1; rw [hall] at h1; exact h1, hRk.out.step hv hvs hp4 hs4 hq'.out, by have h1 := hI.out.eq; dsimp only at h1; rw [hall] at h1; exact h1, hI.out.bel⟩
          clear hI hall
          go_wp2_with fail
          go_roundg G2
          case measure => omega
          case rel => exact ⟨k + 1, A', n', c', G', B', m', d', _, by go_num, hR2, hG2⟩
    · have hkR : R.length ≤ k := by rw [← hnR.out]; omega
      have hfin := hI.out.at_.fin hp4 hs4 hkR
      have hkk : k = n := by omega
      have hst : Hid (ReachS wr w.heap.size bx bp bd A n c G B m d (edgR (p0, p1, ls, es) (r0, r1, ms, fs) (allR (p0, p1, ls, es) (r0, r1, ms, fs)).length) false) := by
        have h1 := hI.out.st
        have h2 : R.length = k := by rw [← hnR.out]; omega
        rw [← hfin, h2]
        exact h1
      have heq : Hid (G.map (·.2) = (allR (p0, p1, ls, es) (r0, r1, ms, fs)).map (·.1)) := by show _ = _; rw [← hfin]; exact hI.out.eq
      have hbel := hide hI.out.bel
      have y4 := frozen_of_row _ _ 4 _ _ hI.out.st.cells
      clear hI hfin
      by_cases h40 : 40 < n
      · have hJ : (40 : Int) < (n : Int) := by omega
        all_goals (go_wp2_with fail; go_ret)
        all_goals exact ⟨bx, A, n, c, G, B, m, d, _, rfl, hst.out.flag _, heq.out, hbel.out.setCell hst.out.lb _⟩
      · have hJ : ¬ (40 : Int) < (n : Int) := by omega
        all_goals (go_wp2_with fail; go_ret)
        all_goals exact ⟨bx, A, n, c, G, B, m, d, _, rfl, hst.out.flag _, heq.out, hbel.out.setCell hst.out.lb _⟩

end Go.Proofs.YtiaclddgllkgpaaGreatDoor
