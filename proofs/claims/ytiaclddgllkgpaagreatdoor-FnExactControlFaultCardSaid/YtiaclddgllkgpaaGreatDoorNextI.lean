/-
  All edges from a pair, by the program. Conditions: sizes; both systems are valid and deterministic.
-/
import Derived.Test.YtiaclddgllkgpaaGreatDoorVisitI
import Derived.Deep.RegionLaw
namespace Go.Proofs.YtiaclddgllkgpaaGreatDoor
open Go.ChangeShapes Go.WideShapes Go.ChangeAt Go.RowKit Go.Sort
set_option linter.unusedVariables false
set_option linter.unusedSimpArgs false

/-- The boxes of the program's variables, and the row of a pair. -/
structure BoxT (w : World) (X bX bF bI g : Nat) (k : Nat) (x y : Int) : Prop where
  kX : w.heap[bX]? = some (.cells #[.pointer (some ⟨X, 0, none⟩)] 112 (0, 0))
  kF : w.heap[bF]? = some (.cells #[.func (.func 147) #[] #[.pointer (some ⟨bX, 0, none⟩)]] 173 (0, 0))
  kI : w.heap[bI]? = some (.cells #[.int .i64 (k : Int)] 3 (0, 0))
  kP : w.heap[g]? = some (.cells #[.int .i64 x, .int .i64 y] 2 (0, 0))
theorem BoxT.below {w w' : World} {X bX bF bI g k : Nat} {x y : Int} (h : BoxT w X bX bF bI g k x y) (hb : Below w.heap.size w w') : BoxT w' X bX bF bI g k x y :=
  ⟨(hb.block _ (Array.getElem?_eq_some_iff.1 h.kX).1).trans h.kX, (hb.block _ (Array.getElem?_eq_some_iff.1 h.kF).1).trans h.kF, (hb.block _ (Array.getElem?_eq_some_iff.1 h.kI).1).trans h.kI, (hb.block _ (Array.getElem?_eq_some_iff.1 h.kP).1).trans h.kP⟩
theorem BoxT.but {w w' : World} {X bX bF bI g k : Nat} {x y : Int} (h : BoxT w X bX bF bI g k x y) {base M n c d : Nat} {v : TV} {A C : Option Addr} {G : List (Nat × PR)} {H : List (Hd × List ByteArray)} {R : List PQ} (hs : TogS w base X M v A n c G C d H R) (hb : But (TogT X M A n c C d) w w') : BoxT w' X bX bF bI g k x y :=
  ⟨hb.kept h.kX (hs.other h.kX (by decide) (by decide) (by decide)), hb.kept h.kF (hs.other h.kF (by decide) (by decide) (by decide)), hb.kept h.kI (hs.other h.kI (by decide) (by decide) (by decide)), hb.kept h.kP (hs.other h.kP (by decide) (by decide) (by decide))⟩

/-- Where the walk over the edges of a pair stands. -/
structure InvN (w wr : World) (base X M : Nat) (v : TV) (A0 C0 : Option Addr) (n0 c0 d0 : Nat) (bX bF bI g k : Nat) (x y : Int) (s0 s1 : Nat) (Ao : Option Addr) (no : Nat) (L : List Ed) (A C : Option Addr) (n c d : Nat) (G : List (Nat × PR)) (H : List (Hd × List ByteArray)) (R : List PQ) : Prop where
  st : TogS wr base X M v A n c G C d H R
  box : BoxT wr X bX bF bI g k x y
  lst : SlE wr s0 s1 Ao no L
  aw : ∀ b, TogT X M A n c C d b → b < s0 ∨ s1 ≤ b
  but : But (TogT X M A0 n0 c0 C0 d0) w wr
  new : ∀ b, TogT X M A n c C d b → TogT X M A0 n0 c0 C0 d0 b ∨ w.heap.size ≤ b
  bel : Below base w wr
  hi : s1 ≤ wr.heap.size
section
variable {w wr w' : World} {base X M n c d n0 c0 d0 bX bF bI g k s0 s1 no : Nat} {v : TV} {A0 C0 A C Ao : Option Addr} {x y : Int} {L : List Ed} {G : List (Nat × PR)} {H : List (Hd × List ByteArray)} {R R' : List PQ}
theorem InvN.below (h : InvN w wr base X M v A0 C0 n0 c0 d0 bX bF bI g k x y s0 s1 Ao no L A C n c d G H R) (hb : Below wr.heap.size wr w') (h0 : base ≤ w.heap.size) : InvN w w' base X M v A0 C0 n0 c0 d0 bX bF bI g k x y s0 s1 Ao no L A C n c d G H R :=
  ⟨h.st.below hb, h.box.below hb, h.lst.below hb (.inr (Nat.le_refl _)), h.aw, h.but.trans (But.of_below (T := fun _ => False) hb) fun x hx => hx.elim, h.new, h.bel.trans (hb.mono (Nat.le_trans h0 h.bel.size)), Nat.le_trans h.hi hb.size⟩
theorem InvN.visit (h : InvN w wr base X M v A0 C0 n0 c0 d0 bX bF bI g k x y s0 s1 Ao no L A C n c d G H R) {e : Ending} (hg : GotF base X M v A n c C d R' wr e w') (hb : base ≤ w.heap.size) :
    e = .returned (.tuple #[]) ∧ ∃ (A' C' : Option Addr) (n' c' d' : Nat) (G' : List (Nat × PR)) (H' : List (Hd × List ByteArray)), InvN w w' base X M v A0 C0 n0 c0 d0 bX bF bI g k x y s0 s1 Ao no L A' C' n' c' d' G' H' R' := by
  obtain ⟨A', C', n', c', d', G', H', e1, h2, h3, h4⟩ := hg
  refine ⟨e1, A', C', n', c', d', G', H', h2, h.box.but h.st h3, h.lst.keep h3.size fun b h5 h6 h7 => h3.block b h7 fun ht => by have := h.aw b ht; omega, fun b hb' => ?_, h.but.trans h3 h.new, fun b hb' => ?_, h.bel.trans (h3.below h.st.low (Nat.le_trans hb h.bel.size)), Nat.le_trans h.hi h3.size⟩
  · rcases h4 b hb' with h5 | h5
    · exact h.aw b h5
    · exact .inr (Nat.le_trans h.hi h5)
  · rcases h4 b hb' with h5 | h5
    · exact h.new b h5
    · exact .inr (Nat.le_trans h.but.size h5)
end
abbrev tvOf (p0 p1 : Int) (A2 : Option Addr) (n2 k2 : Nat) (A3 : Option Addr) (n3 k3 : Nat) (A4 : Option Addr) (n4 k4 : Nat) (A5 : Option Addr) (n5 k5 : Nat) (r0 r1 : Int) (B2 : Option Addr) (m2 j2 : Nat) (B3 : Option Addr) (m3 j3 : Nat) : TV :=
  ⟨.int .i64 p0, .int .i64 p1, .slice A2 n2 k2, .slice A3 n3 k3, .slice A4 n4 k4, .slice A5 n5 k5, .int .i64 r0, .int .i64 r1, .slice B2 m2 j2, .slice B3 m3 j3⟩
theorem TogS.at_ {w : World} {base X M n c d : Nat} {p0 p1 r0 r1 : Int} {A2 A3 A4 A5 B2 B3 A C : Option Addr} {n2 k2 n3 k3 n4 k4 n5 k5 m2 j2 m3 j3 : Nat} {G : List (Nat × PR)} {H : List (Hd × List ByteArray)} {R : List PQ}
    (h : TogS w base X M (tvOf p0 p1 A2 n2 k2 A3 n3 k3 A4 n4 k4 A5 n5 k5 r0 r1 B2 m2 j2 B3 m3 j3) A n c G C d H R) : TogAt w X p0 p1 A2 n2 k2 A3 n3 k3 r0 r1 B2 m2 j2 B3 m3 j3 ∧ w.cell? ⟨X, 4, none⟩ = some (.slice A4 n4 k4) ∧ w.cell? ⟨X, 5, none⟩ = some (.slice A5 n5 k5) :=
  ⟨⟨h.lt, (cell_of_row _ _ 0 _ _ (0, 0) h.cell).trans rfl, (cell_of_row _ _ 1 _ _ (0, 0) h.cell).trans rfl, (cell_of_row _ _ 2 _ _ (0, 0) h.cell).trans rfl, (cell_of_row _ _ 3 _ _ (0, 0) h.cell).trans rfl,
    (cell_of_row _ _ 6 _ _ (0, 0) h.cell).trans rfl, (cell_of_row _ _ 7 _ _ (0, 0) h.cell).trans rfl, (cell_of_row _ _ 8 _ _ (0, 0) h.cell).trans rfl, (cell_of_row _ _ 9 _ _ (0, 0) h.cell).trans rfl⟩, (cell_of_row _ _ 4 _ _ (0, 0) h.cell).trans rfl, (cell_of_row _ _ 5 _ _ (0, 0) h.cell).trans rfl⟩

set_option maxRecDepth 100000 in
set_option maxHeartbeats 3200000 in
theorem next_calls (base X M bX bF bI g k : Nat) (p0 p1 r0 r1 : Int) (A2 A3 A4 A5 B2 B3 : Option Addr) (n2 k2 n3 k3 n4 k4 n5 k5 m2 j2 m3 j3 : Nat) (ls ms : List ByteArray) (es fs : List Ed) (A C : Option Addr) (n c d : Nat) (G : List (Nat × PR)) (H : List (Hd × List ByteArray)) (R : List PQ) (q : PQ) (w : World) (lo hi lo' hi' : Nat)
    (h : TogS w base X M (tvOf p0 p1 A2 n2 k2 A3 n3 k3 A4 n4 k4 A5 n5 k5 r0 r1 B2 m2 j2 B3 m3 j3) A n c G C d H R) (hB : BoxT w X bX bF bI g k q.1.1 q.1.2) (t2 : SlS w lo hi A2 n2 ls) (t3 : SlE w lo hi A3 n3 es) (hhi : hi ≤ base) (u2 : SlS w lo' hi' B2 m2 ms) (u3 : SlE w lo' hi' B3 m3 fs) (hhi' : hi' ≤ base)
    (hes : n3 ≤ 1048576) (hfs : m3 ≤ 1048576) (hms : m2 ≤ 1048576) (hv : detV (p0, p1, ls, es) = true) (hs : detV (r0, r1, ms, fs) = true) (hat : AtR (p0, p1, ls, es) (r0, r1, ms, fs) k R) (hq : R[k]? = some q) (hb : base ≤ w.heap.size) :
    Calls Tryz.prog 148 #[.pointer (some ⟨X, 0, none⟩), .slice (some ⟨g, 0, none⟩) 2 2, .func (.func 149) #[] #[.pointer (some ⟨bF, 0, none⟩), .pointer (some ⟨bX, 0, none⟩), .pointer (some ⟨bI, 0, none⟩)]] w
      (GotF base X M (tvOf p0 p1 A2 n2 k2 A3 n3 k3 A4 n4 k4 A5 n5 k5 r0 r1 B2 m2 j2 B3 m3 j3) A n c C d (expP (p0, p1, ls, es) (r0, r1, ms, fs) R q) w) := by
  have hbP := lts_boundsA (det_ltsA hv)
  have hbS := lts_boundsA (det_ltsA hs)
  have hp4 : p0 ≤ 40 := hbP.1.2
  have hs4 : r0 ≤ 40 := hbS.1.2
  have hF : Hid (expP (p0, p1, ls, es) (r0, r1, ms, fs) R q <+: allR (p0, p1, ls, es) (r0, r1, ms, fs)) := (hat.step hv hs hp4 hs4 hq).pre
  have hgood := hide (allR_good (p := (p0, p1, ls, es)) (s := (r0, r1, ms, fs)) hv hs (by have := hbP.2; show 0 ≤ p1 ∧ p1 < p0; omega) (by have := hbS.2; show 0 ≤ r1 ∧ r1 < r0; omega))
  have hpath := hide (allR_path (r0, r1, ms, fs) hv)
  have hyq := hide (hat.good.2 q (List.mem_of_getElem? hq))
  have hqk : k < 1600 ∧ q.2.length ≤ 1600 := by
    have h1 := pre_at hat.pre hq
    have h2 := (hpath.out k q h1).1
    have h3 := (List.getElem?_eq_some_iff.1 h1).1
    have h4 := hgood.out.len hp4 hs4
    omega
  obtain ⟨⟨lt, c0, c1, c2, c3, c6, c7, c8, c9⟩, -, -⟩ := h.at_
  have px : w.cell? ⟨g, 0, none⟩ = some (.int .i64 q.1.1) := (cell_of_row _ _ 0 _ _ (0, 0) hB.kP).trans rfl
  have qo := hide (out_calls p0 p1 (.slice A2 n2 k2) A3 n3 k3 q.1.1 es w.drew lo hi t3.drew hes ⟨_, _, _, rfl⟩)
  have hfew := out_few hv q.1.1
  have hmem : ∀ e ∈ outE es q.1.1, e ∈ es := fun e he => (List.mem_filter.1 he).1
  have hlab : Hid (∀ e ∈ outE es q.1.1, ls[e.2.1.toNat]? = some (labE ls e)) := fun e he => labE_at hv (hmem e he)
  have hlr : Hid (∀ e ∈ outE es q.1.1, 0 ≤ e.2.1 ∧ e.2.1 < (n2 : Int)) := fun e he => by
    have := det_first hv e (hmem e he)
    have h9 : ls.length = n2 := t2.len
    omega
  have hto : Hid (∀ e ∈ outE es q.1.1, 0 ≤ e.2.2 ∧ e.2.2 < p0) := fun e he => by
    obtain ⟨i, hi⟩ := List.getElem?_of_mem (hmem e he)
    obtain ⟨f, lb, tg⟩ := e
    have := (edge_of (det_ltsA hv) hi).2.1
    dsimp only
    omega
  have qa := hide fun (lab : ByteArray) (W : World) (hW : Below base w W) => along_calls r0 r1 B2 m2 j2 B3 m3 j3 q.1.2 lab ms fs W lo' hi' (u2.below hW (.inl hhi')) (u3.below hW (.inl hhi')) hfs hms hs
  replace t2 := hide t2
  have h' := hide h
  have hB' := hide hB
  have hq' := hide hq
  clear t3 u2 u3 h hB hmem hbP hbS hat hq
  go_enter Tryz.func148, Tryz.ntmps148
  go_wp2
  go_cut [19, 20, 21] (fun l n z wx => ∃ (Ao : Option Addr) (no co : Nat), l = .slice Ao no co ∧ n = .int .i64 (no : Nat) ∧ z = .int .i64 0 ∧ SlE wx w.heap.size wx.heap.size Ao no (outE es q.1.1) ∧ Below w.heap.size w wx)
  case first =>
    go_region_law (first | (go_simp; go_at_call 132; (with_reducible refine qo.out.mono ?_); rintro e w1 ⟨Ao, no, co, rfl, ho, hno, hb1⟩))
    all_goals (go_wp2_with fail; go_meet)
    all_goals exact ⟨Ao, no, co, rfl, rfl, rfl, ho, (Below.refl w.heap.size w).drew.trans hb1⟩
  case rest =>
  obtain ⟨Ao, no, co, rfl, rfl, rfl, ho, hb1⟩ := hcut
  generalize wc = w1 at *
  have hlen := hide ho.len
  rw [ho.len] at hfew
  have hI0 : Hid (InvN w w1 base X M (tvOf p0 p1 A2 n2 k2 A3 n3 k3 A4 n4 k4 A5 n5 k5 r0 r1 B2 m2 j2 B3 m3 j3) A C n c d bX bF bI g k q.1.1 q.1.2 w.heap.size w1.heap.size Ao no (outE es q.1.1) A C n c d G H (expL (p0, p1, ls, es) (r0, r1, ms, fs) q R ((outE es q.1.1).take 0))) :=
    ⟨h'.out.below hb1, hB'.out.below hb1, ho, fun b hb' => .inl (h'.out.high b hb'), But.of_below hb1, fun b hb' => .inl hb', hb1.mono hb, Nat.le_refl _⟩
  clear ho hb1 qo c0 c1 c2 c3 c6 c7 c8 c9 px h' hB'
  go_upto_region 1 with fail
  go_loopg [21] no (fun gk iw wr => ∃ (j n' c' d' : Nat) (A' C' : Option Addr) (G' : List (Nat × PR)) (H' : List (Hd × List ByteArray)), j ≤ no ∧ iw = .int .i64 (j : Nat) ∧ Hid (InvN w wr base X M (tvOf p0 p1 A2 n2 k2 A3 n3 k3 A4 n4 k4 A5 n5 k5 r0 r1 B2 m2 j2 B3 m3 j3) A C n c d bX bF bI g k q.1.1 q.1.2 w.heap.size w1.heap.size Ao no (outE es q.1.1) A' C' n' c' d' G' H' (expL (p0, p1, ls, es) (r0, r1, ms, fs) q R ((outE es q.1.1).take j))) ∧ Hid (no - j ≤ gk))
  case atStart => exact ⟨0, n, c, d, A, C, G, H, Nat.zero_le _, rfl, hI0, by show _ ≤ _; omega⟩
  case round =>
    clear hI0
    obtain ⟨j, n', c', d', A', C', G', H', hj, rfl, hI, hG⟩ := hrel
    by_cases hlt : j < no
    · obtain ⟨G2, rfl⟩ : ∃ G2, gk = G2 + 1 := ⟨gk - 1, by have := hG.out; omega⟩
      have hG2 : Hid (no - (j + 1) ≤ G2) := by have := hG.out; show _ ≤ _; omega
      obtain ⟨b5, o5, f, lb, tg, rfl, -, -, g5, hx, a0, a1, a2, -, -, -⟩ := SlE.get hI.out.lst hlt
      have hl1 := hlab.out _ (List.mem_of_getElem? hx)
      have hl2 := hlr.out _ (List.mem_of_getElem? hx)
      have hl3 := hto.out _ (List.mem_of_getElem? hx)
      dsimp only at hl1 hl2 hl3
      have hsx := expL_succ (p := (p0, p1, ls, es)) (s := (r0, r1, ms, fs)) (q := q) (R := R) hx
      unfold expE at hsx
      dsimp only at hsx
      have hpreJ := (expL_take (p := (p0, p1, ls, es)) (s := (r0, r1, ms, fs)) (q := q) (R := R) (outE es q.1.1) j).trans hF.out
      have hn16 : n' ≤ 1600 := by rw [← hI.out.st.len]; exact Nat.le_trans hpreJ.length_le (hgood.out.len hp4 hs4)
      have hqJ := pre_at (expL_pre (p0, p1, ls, es) (r0, r1, ms, fs) q ((outE es q.1.1).take j) R) hq'.out
      generalize labE ls (f, lb, tg) = lab at *
      generalize expL (p0, p1, ls, es) (r0, r1, ms, fs) q R ((outE es q.1.1).take j) = RJ at *
      have hbE : Below wr.heap.size wr (wr.alloc (.cells #[.int .i64 f, .int .i64 lb, .int .i64 tg] 86)) := (Below.refl _ _).alloc (Nat.le_refl _) _
      have kE := heap_alloc_new wr (.cells #[.int .i64 f, .int .i64 lb, .int .i64 tg] 86)
      have z1 : (wr.alloc (.cells #[.int .i64 f, .int .i64 lb, .int .i64 tg] 86)).cell? ⟨wr.heap.size, 1, none⟩ = some (.int .i64 lb) := (cell_of_row _ _ 1 _ _ (0, 0) kE).trans rfl
      have z2 : (wr.alloc (.cells #[.int .i64 f, .int .i64 lb, .int .i64 tg] 86)).cell? ⟨wr.heap.size, 2, none⟩ = some (.int .i64 tg) := (cell_of_row _ _ 2 _ _ (0, 0) kE).trans rfl
      have hIE := hI.out.below hbE hb
      obtain ⟨⟨lt', c0, c1, c2, c3, c6, c7, c8, c9⟩, -, -⟩ := hIE.st.at_
      have pyE : (wr.alloc (.cells #[.int .i64 f, .int .i64 lb, .int .i64 tg] 86)).cell? ⟨g, 1, none⟩ = some (.int .i64 q.1.2) := (cell_of_row _ _ 1 _ _ (0, 0) hIE.box.kP).trans rfl
      have hln : lb.toNat < n2 := by omega
      have hl0 : (0 : Int) ≤ lb := hl2.1
      have hl9 : lb < (n2 : Int) := hl2.2
      obtain ⟨b6, o6, r6, rfl, -, -, -, hr6, p6, -⟩ := SlS.get (t2.out.below hIE.bel (.inl hhi)) hln
      rw [hl1] at hr6
      obtain rfl := Option.some.inj hr6
      have hI0 : (0 : Int) ≤ (j : Int) := by omega
      have hI1 : (j : Int) < (no : Int) := by omega
      have hIE' := hide hIE
      replace hsx := hide hsx
      replace hpreJ := hide hpreJ
      replace hqJ := hide hqJ
      have lE := (Array.getElem?_eq_some_iff.1 kE).1
      clear hx hl1 hl2 hI hIE hbE hr6
      go_upto_region 3 with fail
      clear a0 a1 a2
      generalize (wr.alloc (.cells #[.int .i64 f, .int .i64 lb, .int .i64 tg] 86)) = WE at *
      generalize wr.heap.size = bE at *
      go_quiet (fail)
      go_upto_region 4 with fail
      have hbq : Below WE.heap.size WE (WE.drewN nq) := ⟨rfl, rfl, rfl, Nat.le_refl _, fun _ _ => rfl⟩
      have hIq := hIE'.out.below hbq hb
      have e6 : (WE.drewN nq).cell? ⟨X, 6, none⟩ = some (.int .i64 r0) := c6
      have e7 : (WE.drewN nq).cell? ⟨X, 7, none⟩ = some (.int .i64 r1) := c7
      have e8 : (WE.drewN nq).cell? ⟨X, 8, none⟩ = some (.slice B2 m2 j2) := c8
      have e9 : (WE.drewN nq).cell? ⟨X, 9, none⟩ = some (.slice B3 m3 j3) := c9
      have ey : (WE.drewN nq).cell? ⟨g, 1, none⟩ = some (.int .i64 q.1.2) := pyE
      have v2 : (WE.drewN nq).cell? ⟨bE, 2, none⟩ = some (.int .i64 tg) := z2
      have lEq : bE < (WE.drewN nq).heap.size := lE
      clear c0 c1 c2 c3 c6 c7 c8 c9 pyE p6 z1 z2 hIE' hbq kE lE
      generalize WE.drewN nq = wq at *
      have qd := hide (qa.out lab _ hIq.bel.drew)
      replace hIq := hide hIq
      go_cut [9, 10] (fun a b wx => a = .int .i64 (aloTo (r0, r1, ms, fs) q.1.2 lab) ∧ b = .bool (aloOk (r0, r1, ms, fs) q.1.2 lab) ∧ Below wq.heap.size wq wx)
      case first =>
        go_region_law (first | (go_simp; go_at_call 91; (with_reducible refine qd.out.mono ?_); rintro e w5 ⟨rfl, hb5⟩))
        all_goals (go_wp2_with fail; go_meet)
        all_goals exact ⟨rfl, rfl, (Below.refl wq.heap.size wq).drew.trans hb5⟩
      case rest =>
      obtain ⟨rfl, rfl, hb5⟩ := hcut
      generalize wc = w5 at *
      have hI5 := hIq.out.below hb5 hb
      have v5 := (hb5.cell (p := ⟨bE, 2, none⟩) lEq).trans v2
      clear e6 e7 e8 e9 ey qd hb5 v2 hIq
      cases hok : aloOk (r0, r1, ms, fs) q.1.2 lab with
      | true =>
        rw [hok, if_pos rfl] at hsx
        have hrng := alo_range (det_ltsA hs) hyq.out.2.1 hyq.out.2.2 hok
        try dsimp only at hrng
        have hfit : fitP (tg, aloTo (r0, r1, ms, fs) q.1.2 lab) := fit_of (by omega) (by omega) (by omega) (by omega)
        have qv := hide (visit_calls base X M bX bF bI _ A' C' n' c' d' G' H' RJ k q lab tg (aloTo (r0, r1, ms, fs) q.1.2 lab) w5 hI5.st hI5.box.kX hI5.box.kF hI5.box.kI hqJ.out hqk.2 hfit hn16 (Nat.le_trans hb hI5.but.size))
        have hI5' := hide hI5
        clear hI5 hok hrng hfit
        generalize aloTo (r0, r1, ms, fs) q.1.2 lab = va at *
        go_wp2_with fail
        go_at_call 149
        refine qv.out.mono ?_
        rintro e w6 hgot
        obtain ⟨rfl, A7, C7, n7, c7, d7, G7, H7, hI6⟩ := hI5'.out.visit hgot hb
        rw [← hsx.out] at hI6
        replace hI6 := hide hI6
        clear hgot hI5' qv v5 hsx
        go_wp2_with fail
        go_roundg G2
        case measure => omega
        case rel => exact ⟨j + 1, n7, c7, d7, A7, C7, G7, H7, by omega, by go_num, hI6, hG2⟩
      | false =>
        rw [hok, if_neg (by decide)] at hsx
        rw [← hsx.out] at hI5
        replace hI5 := hide hI5
        clear hok hsx
        go_wp2_with fail
        go_roundg G2
        case measure => omega
        case rel => exact ⟨j + 1, n', c', d', A', C', G', H', by omega, by go_num, hI5, hG2⟩
    · have hjn : j = no := by omega
      subst hjn
      have hall : (outE es q.1.1).take j = outE es q.1.1 := List.take_of_length_le (by rw [hlen.out]; exact Nat.le_refl _)
      rw [hall] at hI
      have hfin : Hid (GotF base X M (tvOf p0 p1 A2 n2 k2 A3 n3 k3 A4 n4 k4 A5 n5 k5 r0 r1 B2 m2 j2 B3 m3 j3) A n c C d (expP (p0, p1, ls, es) (r0, r1, ms, fs) R q) w (.returned (.tuple #[])) wr) := ⟨A', C', n', c', d', G', H', rfl, hI.out.st, hI.out.but, hI.out.new⟩
      clear hI hall
      go_wp2_with fail
      go_end0
      exact hfin.out

end Go.Proofs.YtiaclddgllkgpaaGreatDoor
