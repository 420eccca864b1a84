/-
  Several texts in one:
  The classes of branching bisimilar states, by the program.
  Branching bisimulation over texts, over the union of two
  A system and the least one for branching bisimulation: alike,
  Over the union of a system and the one that is least for
  The function that keeps the edges that are not inert; the
  MinimalStrong as a valid system, and AreBisimilar's answer on
  The union of two drawn systems is valid; so is the system of
  AreBranching by the program: the initial states in one class
  The system of the blocks for branching bisimulation, by the
-/
import Derived.Test.YtnhomkmfbngmgaaGreatDoorBaseF
import Derived.Test.YtnhomkmfbngmgaaGreatDoorBaseH
import Derived.Test.YtnhomkmfbngmgaaGreatDoorBaseI
import Derived.Test.YtnhomkmfbngmgaaGreatDoorBaseJ
import Derived.Test.YtnhomkmfbngmgaaGreatDoorBaseK
import Derived.Test.YtnhomkmfbngmgaaGreatDoorBaseL
import Derived.Test.YtnhomkmfbngmgaaGreatDoorBaseM
import Derived.Test.YtnhomkmfbngmgaaGreatDoorBaseO
set_option linter.unusedSimpArgs false
set_option linter.unusedVariables false
namespace Go.Proofs.YtnhomkmfbngmgaaGreatDoor
open Go.ChangeShapes Go.WideShapes Go.ChangeAt Go.RowKit Go.Sort
set_option linter.unusedVariables false
set_option linter.unusedSimpArgs false

section
variable {w : World} {N ini : Nat} {A : Option Addr} {n : Nat} {B : Option Addr} {m : Nat} {ls : List ByteArray} {es : List Ed}
set_option maxRecDepth 100000 in
set_option maxHeartbeats 1600000 in
theorem branching1_calls (h : SysA w N ini A n B m ls es) (c d : Nat) (bt bd : Nat) (hbx : LtsBox w bt (N : Int) (ini : Int) A n c B m d) (dv : Bool) (hd : w.cell? ⟨bd, 0, none⟩ = some (.bool dv)) (P : Option Addr) (cP : Nat) (p : List Int) (hP : SlI w 0 w.heap.size P N p) (hp : PartN N p) :
  Calls Tryz.prog 199 (#[.slice P N cP] ++ #[.pointer (some ⟨bt, 0, none⟩), .pointer (some ⟨bd, 0, none⟩)]) w fun e w' => ∃ Q c', e = .returned (.slice Q N c') ∧ SlI w' w.heap.size w'.heap.size Q N (refB es N dv p) ∧ Below w.heap.size w w' ∧ N ≤ c' := by
 have q := hide (refineBranching_calls h c d P cP p hP hp dv)
 have b0 := hbx.c0
 have b1 := hbx.c1
 have b2 := hbx.c2
 have b3 := hbx.c3
 clear h hbx hP
 show Calls Tryz.prog 199 #[.slice P N cP, .pointer (some ⟨bt, 0, none⟩), .pointer (some ⟨bd, 0, none⟩)] w _
 go_enter Tryz.func199, Tryz.ntmps199
 go_wp2_with fail
 refine q.out.mono ?_
 rintro e w2 ⟨Q, rfl, hQ, hb⟩
 replace hQ := hide hQ
 replace hb := hide hb
 clear q
 go_wp2_with fail
 go_ret
 exact ⟨_, N, rfl, hQ.out, hb.out, Nat.le_refl _⟩
set_option maxRecDepth 100000 in
set_option maxHeartbeats 3200000 in
theorem branching_calls (h : SysA w N ini A n B m ls es) (c d : Nat) (dv : Bool) :
  Calls Tryz.prog 107 #[.agg #[.int .i64 (N : Int), .int .i64 (ini : Int), .slice A n c, .slice B m d], .bool dv] w fun e w' => ∃ r P cP, e = .returned (.slice P N cP) ∧ LastG (refB es N dv) N r ∧ SlI w' w.heap.size w'.heap.size P N (itP (refB es N dv) N r) ∧ Below w.heap.size w w' ∧ N ≤ cP := by
 have hB := h.box (c := c) (d := d)
 have hed := h.edges
 obtain ⟨⟨hN1, hN2⟩, hini⟩ := h.bounds
 have hRf : RefG (refB es N dv) N := refB_ref hed
 obtain ⟨w1, hw1⟩ : ∃ w1, w1 = w.alloc (ltsC N ini A n c B m d) := ⟨_, rfl⟩
 rw [← hw1] at hB
 obtain ⟨w2, hw2⟩ : ∃ w2, w2 = w1.alloc (.cells #[.bool dv] 4) := ⟨_, rfl⟩
 have hb12 : Below w1.heap.size w1 w2 := by rw [hw2]; exact (Below.refl _ _).alloc (Nat.le_refl _) _
 have kD : w2.heap[w1.heap.size]? = some (.cells #[.bool dv] 4 (0, 0)) := by rw [hw2]; exact heap_alloc_new w1 _
 have z1 : w1.heap.size = w.heap.size + 1 := by rw [hw1]; exact World.size_alloc _ _
 rw [z1] at kD
 have hB2 := hB.below hb12
 have hkl : w.heap.size + 1 < w2.heap.size := (Array.getElem?_eq_some_iff.1 kD).1
 have hnx : NextOkG (refB es N dv) N 199 #[.pointer (some ⟨w.heap.size, 0, none⟩), .pointer (some ⟨w.heap.size + 1, 0, none⟩)] w2 := by
  intro k P cP W lo hi hW hP
  have hB3 := hB2.below hW
  exact branching1_calls hB3.sys c d w.heap.size (w.heap.size + 1) hB3.box dv ((cell_of_row _ _ 0 _ _ (0, 0) ((hW.block _ hkl).trans kD)).trans rfl) P cP _ hP.here' (itP_part hRf k)
 have q2 := hide (roundsG_calls (refB es N dv) N hN1 hN2 hRf 199 #[.pointer (some ⟨w.heap.size, 0, none⟩), .pointer (some ⟨w.heap.size + 1, 0, none⟩)] w2 hnx fun v W => by kernel_rfl)
 have b0 := hB2.box.c0
 have hz2 := hB2.bel.size
 replace hB2 := hide hB2
 replace kD := hide kD
 replace z1 := hide z1
 clear h hB hnx hb12
 go_enter Tryz.func107, Tryz.ntmps107
 go_upto_region 1 with fail
 have hw12 : (w.alloc (.cells #[.int .i64 (N : Int), .int .i64 (ini : Int), .slice A n c, .slice B m d] 27)).alloc (.cells #[.bool dv] 4) = w2 := by rw [hw2, hw1]
 rw [hw12]
 replace hw1 := hide hw1
 replace hw2 := hide hw2
 replace hw12 := hide hw12
 go_wp2_with fail
 refine q2.out.mono ?_
 rintro e w3 ⟨r, A3, c3, R, rfl, hL, hR⟩
 have hbF := hide (hB2.out.bel.trans (hR.below.mono hz2))
 have hr1 := itP_bound hRf hN1 hL.2
 obtain ⟨bo, oo, Ah, ch, s, rfl, go1, go2, hrj, co, hsj, hoff⟩ := hR.grow.get (show r < r + 1 by omega)
 have hs : s = itP (refB es N dv) N r := by
  have h1 : (R.map (·.2))[r]? = some s := by rw [List.getElem?_map, hrj]; rfl
  rw [hR.vals, List.getElem?_map, List.getElem?_range (by omega)] at h1
  exact (Option.some.inj h1).symm
 subst hs
 have q3 := hide (lastR_calls _ _ N r c3 R w3 hR.grow (by omega) hrj)
 have hsF := hide (hsj.more hz2 (Nat.le_refl _))
 have hcap := hide (hR.caps _ (List.mem_of_getElem? hrj))
 replace hL := hide hL
 replace hR := hide hR
 replace hsj := hide hsj
 clear q2 b0 co hrj hoff
 go_wp2_with fail
 refine q3.out.mono ?_
 rintro e w4 ⟨rfl, rfl⟩
 go_wp2_with fail
 go_ret
 exact ⟨r, Ah, ch, rfl, hL.out, hsF.out, hbF.out, hcap.out⟩
set_option maxRecDepth 100000 in
set_option maxHeartbeats 1600000 in
theorem branchingClassesP_calls (h : SysA w N ini A n B m ls es) (c d : Nat) (he : Env w) (dv : Bool) :
  Calls Tryz.prog 43 #[.agg #[.int .i64 (N : Int), .int .i64 (ini : Int), .slice A n c, .slice B m d], .bool dv] w fun e w' => ∃ r P cP, e = .returned (.tuple #[.slice P N cP, .int .i64 0]) ∧ LastG (refB es N dv) N r ∧ SlI w' w.heap.size w'.heap.size P N (itP (refB es N dv) N r) ∧ Below w.heap.size w w' ∧ N ≤ cP := by
 have hB := h.box (c := c) (d := d)
 obtain ⟨w1, hw1⟩ : ∃ w1, w1 = w.alloc (ltsC N ini A n c B m d) := ⟨_, rfl⟩
 rw [← hw1] at hB
 have he1 := he.below hB.bel (Nat.le_refl _)
 have q1 := hide (hB.sys.valid c d he1)
 have b0 := hB.box.c0
 have b1 := hB.box.c1
 have b2 := hB.box.c2
 have b3 := hB.box.c3
 replace hB := hide hB
 clear h he he1
 go_enter Tryz.func43, Tryz.ntmps43
 go_upto_region 1 with fail
 rw [← show w1 = w.alloc (.cells #[.int .i64 (N : Int), .int .i64 (ini : Int), .slice A n c, .slice B m d] 27) from hw1]
 replace hw1 := hide hw1
 go_wp2_with fail
 refine q1.out.mono ?_
 rintro e w2 ⟨rfl, hb2⟩
 have hB2 := hide (hB.out.below hb2)
 clear q1 b0 b1 b2 b3 hb2
 have b0 := hB2.out.box.c0
 have b1 := hB2.out.box.c1
 have b2 := hB2.out.box.c2
 have b3 := hB2.out.box.c3
 have q2 := hide (branching_calls hB2.out.sys c d dv)
 have hz2 := hB2.out.bel.size
 go_wp2_with fail
 refine q2.out.mono ?_
 rintro e w3 ⟨r, P, cP, rfl, hL, hP, hb3, hcap⟩
 have hbF := hide (hB2.out.bel.trans (hb3.mono hz2))
 have hPF := hide (hP.more hz2 (Nat.le_refl _))
 replace hL := hide hL
 clear q2 b0 b1 b2 b3 hP hb3
 go_wp2_with fail
 go_ret2
 exact ⟨r, P, cP, rfl, hL.out, hPF.out, hbF.out, hcap⟩
set_option maxRecDepth 100000 in
set_option maxHeartbeats 1600000 in
theorem isBranchingStable_calls (h : SysA w N ini A n B m ls es) (c d : Nat) (he : Env w) (P : Option Addr) (cp : Nat) (p : List Int) (hP : SlI w 0 w.heap.size P N p) (hp : PartN N p) (dv : Bool) :
  Calls Tryz.prog 44 #[.agg #[.int .i64 (N : Int), .int .i64 (ini : Int), .slice A n c, .slice B m d], .slice P N cp, .bool dv] w fun e w' => ∃ v : Bool, e = .returned (.bool v) ∧ (v = true ↔ refB es N dv p = p) ∧ Below w.heap.size w w' := by
 have hB := h.box (c := c) (d := d)
 obtain ⟨w1, hw1⟩ : ∃ w1, w1 = w.alloc (ltsC N ini A n c B m d) := ⟨_, rfl⟩
 rw [← hw1] at hB
 have hP1 := (hP.below hB.bel (.inr (Nat.le_refl _))).here'
 have q1 := hide (ltsPartition_calls hB.sys c d (he.below hB.bel (Nat.le_refl _)) P cp p hP1 hp)
 have b0 := hB.box.c0
 have b1 := hB.box.c1
 have b2 := hB.box.c2
 have b3 := hB.box.c3
 obtain ⟨hm, hn12, hn1, hle, hll⟩ := h.many
 replace hB := hide hB
 replace hP1 := hide hP1
 clear h he hP
 go_enter Tryz.func44, Tryz.ntmps44
 go_upto_region 1 with fail
 rw [← show w1 = w.alloc (.cells #[.int .i64 (N : Int), .int .i64 (ini : Int), .slice A n c, .slice B m d] 27) from hw1]
 replace hw1 := hide hw1
 go_wp2_with fail
 refine q1.out.mono ?_
 rintro e w2 ⟨rfl, hb2⟩
 have hB2 := hide (hB.out.below hb2)
 have hP2 := hide ((hP1.out.below hb2 (.inr (Nat.le_refl _))).here')
 clear q1 b0 b1 b2 b3 hb2
 have b0 := hB2.out.box.c0
 have b1 := hB2.out.box.c1
 have b2 := hB2.out.box.c2
 have b3 := hB2.out.box.c3
 have hbo := hB2.out.sys.bounds
 have q2 := hide (refineBranching_calls hB2.out.sys c d P cp p hP2.out hp dv)
 have hz2 := hB2.out.bel.size
 go_wp2_with fail
 refine q2.out.mono ?_
 rintro e w3 ⟨Q, rfl, hQ, hb3⟩
 have q3 := hide (equalI_calls (some ⟨Q, 0, none⟩) P N N N cp (refB es N dv p) p w3 _ _ _ _ hQ (hP2.out.below hb3 (.inr (Nat.le_refl _))) (by omega) (by omega))
 have hbF := hide (hB2.out.bel.trans (hb3.mono hz2))
 clear q2 b0 b1 b2 b3 hQ hb3
 go_wp2_with fail
 refine q3.out.mono ?_
 rintro e w4 ⟨rfl, hb4⟩
 have hbG := hide (hbF.out.trans (hb4.mono hbF.out.size))
 clear q3 hb4
 go_wp2_with fail
 go_ret
 exact ⟨_, rfl, by simp, hbG.out⟩
end
end Go.Proofs.YtnhomkmfbngmgaaGreatDoor

namespace Go.Proofs.YtnhomkmfbngmgaaGreatDoor
open Go.Sort
set_option linter.unusedVariables false

section
variable {ls : List ByteArray} {es : List Ed} {α : Type} {q : Nat → α} {t0 : ByteArray} {d : Prop}
theorem nd_inj (hn : ls.Nodup) {i j : Nat} {s : ByteArray} (h : ls[i]? = some s) (g : ls[j]? = some s) : i = j := by
 obtain ⟨hi, e1⟩ := List.getElem?_eq_some_iff.1 h
 obtain ⟨hj, e2⟩ := List.getElem?_eq_some_iff.1 g
 exact (List.getElem_inj hn).1 (e1.trans e2.symm)
theorem inrt_text (hn : ls.Nodup) (h0 : ls[0]? = some t0) : inrt (tE ls es) t0 q = inrt (nE es) (0 : Int) q := by
 funext x y
 refine propext ⟨fun h => ⟨?_, h.2⟩, fun h => ⟨⟨0, h.1, h0⟩, h.2⟩⟩
 obtain ⟨l, g1, g2⟩ := h.1
 rw [nd_inj hn g2 h0] at g1
 exact g1
theorem offr_text (hn : ls.Nodup) (h0 : ls[0]? = some t0) {x : Nat} {s : ByteArray} {b : α} : offr (tE ls es) t0 q x s b ↔ ∃ l : Nat, ls[l]? = some s ∧ offr (nE es) (0 : Int) q x (l : Int) b := by
 unfold offr
 rw [inrt_text hn h0]
 constructor
 ·rintro ⟨x1, x2, h1, ⟨l, g1, g2⟩, h3, h4⟩
  exact ⟨l, g2, x1, x2, h1, g1, h3, fun e => h4 ⟨by
   have : l = 0 := by omega
   rw [this, h0] at g2
   exact (Option.some.inj g2).symm, e.2⟩⟩
 ·rintro ⟨l, g2, x1, x2, h1, g1, h3, h4⟩
  exact ⟨x1, x2, h1, ⟨l, g1, g2⟩, h3, fun e => h4 ⟨by
   have := e.1
   subst this
   rw [nd_inj hn g2 h0]; rfl, e.2⟩⟩
theorem offr_lab (hl : ∀ e, e ∈ es → 0 ≤ e.2.1 ∧ e.2.1 < (ls.length : Int)) {x : Nat} {l : Int} {b : α} (h : offr (nE es) (0 : Int) q x l b) : ∃ (k : Nat) (s : ByteArray), l = (k : Int) ∧ ls[k]? = some s := by
 obtain ⟨x1, x2, -, h, -, -⟩ := h
 have := hl _ h
 dsimp only at this
 exact ⟨l.toNat, _, by omega, List.getElem?_eq_getElem (show l.toNat < ls.length by omega)⟩
theorem stb_text (hn : ls.Nodup) (h0 : ls[0]? = some t0) (hl : ∀ e, e ∈ es → 0 ≤ e.2.1 ∧ e.2.1 < (ls.length : Int)) : Stb (nE es) (0 : Int) d q ↔ Stb (tE ls es) t0 d q := by
 constructor
 ·intro h
  refine ⟨fun x y s b hq ho => ?_, by rw [inrt_text hn h0]; exact h.dvg⟩
  obtain ⟨l, g1, g2⟩ := (offr_text hn h0).1 ho
  exact (offr_text hn h0).2 ⟨l, g1, h.off x y _ b hq g2⟩
 ·intro h
  refine ⟨fun x y l b hq ho => ?_, by have := h.dvg; rw [inrt_text hn h0] at this; exact this⟩
  obtain ⟨k, s, rfl, hs⟩ := offr_lab hl ho
  obtain ⟨l2, g1, g2⟩ := (offr_text hn h0).1 (h.off x y s b hq ((offr_text hn h0).2 ⟨k, hs, ho⟩))
  rw [nd_inj hn hs g1]
  exact g2
end

section
variable {L : Type} {A B : Nat → L → Nat → Prop} {n m : Nat}
theorem emb_left (hA : ∀ x s y, A x s y → x < n ∧ y < n) (hB : ∀ x s y, B x s y → x < m ∧ y < m) {z : Nat} (hz : n + m ≤ z) : Emb A (sumE n A B) fun i => if i < n then i else z := by
 refine ⟨fun i l j h => ?_, fun i l y h => ?_⟩
 ·have := hA i l j h
  rw [if_pos this.1, if_pos this.2]
  exact .inl ⟨this.1, this.2, h⟩
 ·by_cases hi : i < n
  ·rw [if_pos hi] at h
   rcases h with ⟨_, h2, h⟩ | ⟨x', y', e, _, _⟩
   ·exact ⟨y, by rw [if_pos h2], h⟩
   ·omega
  ·rw [if_neg hi] at h
   rcases h with ⟨h2, _, _⟩ | ⟨x', y', e, _, h⟩
   ·omega
   ·have := hB _ _ _ h; omega
theorem emb_right : Emb B (sumE n A B) fun i => n + i := by
 refine ⟨fun i l j h => .inr ⟨i, j, rfl, rfl, h⟩, fun i l y h => ?_⟩
 rcases h with ⟨h1, _, _⟩ | ⟨x', y', e, rfl, h⟩
 ·omega
 ·obtain rfl : x' = i := by omega
  exact ⟨y', rfl, h⟩
end

section
variable {L : Type} {E M U : Nat → L → Nat → Prop} {τ : L} {d : Prop} {P : Nat → Nat} {f1 f2 : Nat → Nat} {q : Nat → Nat ⊕ Nat}
theorem quo_alike (hs : Stb E τ d P) (hM : QuoB E M τ d P) (h1 : Emb E U f1) (h2 : Emb M U f2) (q1 : ∀ i, q (f1 i) = .inl (P i)) (q2 : ∀ b, q (f2 b) = .inl b) (hc : ∀ u, (∃ i, u = f1 i) ∨ (∃ b, u = f2 b) ∨ q u = .inr u) : Stb U τ d q := by
 have hg : ∀ a b : Nat, (Sum.inl a : Nat ⊕ Nat) = Sum.inl b → a = b := fun a b h => Sum.inl.inj h
 have ho : ∀ u c, q u = .inl c → ∀ l b, offr U τ q u l b ↔ ∃ c', b = Sum.inl c' ∧ offr M τ (fun x => x) c l c' := by
  intro u c hu l b
  rcases hc u with ⟨i, rfl⟩ | ⟨k, rfl⟩ | e
  ·rw [q1] at hu
   rw [h1.off (P := P) (g := Sum.inl) q1 hg]
   have hu := Sum.inl.inj hu
   subst hu
   exact exists_congr fun c' => and_congr_right fun _ => quo_off hs hM
  ·rw [q2] at hu
   rw [h2.off (P := fun x => x) (g := Sum.inl) q2 hg]
   have hu := Sum.inl.inj hu
   subst hu
   exact Iff.rfl
  ·rw [e] at hu; cases hu
 have hd : d → ∀ u c, q u = .inl c → (Dvg (inrt U τ q) u ↔ Dvg (inrt M τ fun x => x) c) := by
  intro hd u c hu
  rcases hc u with ⟨i, rfl⟩ | ⟨k, rfl⟩ | e
  ·rw [q1] at hu
   rw [h1.dvg (P := P) (g := Sum.inl) q1 hg]
   have hu := Sum.inl.inj hu
   subst hu
   exact quo_dvg hs hM hd
  ·rw [q2] at hu
   rw [h2.dvg (P := fun x => x) (g := Sum.inl) q2 hg]
   have hu := Sum.inl.inj hu
   subst hu
   exact Iff.rfl
  ·rw [e] at hu; cases hu
 have hcase : ∀ u, (∃ c, q u = .inl c) ∨ q u = .inr u := fun u => by
  rcases hc u with ⟨i, rfl⟩ | ⟨k, rfl⟩ | e
  ·exact .inl ⟨_, q1 i⟩
  ·exact .inl ⟨_, q2 k⟩
  ·exact .inr e
 refine ⟨fun x y l b hq h => ?_, fun hd' x y hq h => ?_⟩
 ·rcases hcase x with ⟨c, e⟩ | e
  ·exact (ho y c (hq ▸ e) l b).2 ((ho x c e l b).1 h)
  ·rcases hcase y with ⟨c, e2⟩ | e2
   ·rw [hq, e2] at e; cases e
   ·rw [e, e2] at hq
    exact Sum.inr.inj hq ▸ h
 ·rcases hcase x with ⟨c, e⟩ | e
  ·exact (hd hd' y c (hq ▸ e)).2 ((hd hd' x c e).1 h)
  ·rcases hcase y with ⟨c, e2⟩ | e2
   ·rw [hq, e2] at e; cases e
   ·rw [e, e2] at hq
    exact Sum.inr.inj hq ▸ h
end
end Go.Proofs.YtnhomkmfbngmgaaGreatDoor

namespace Go.Proofs.YtnhomkmfbngmgaaGreatDoor
open Go.Sort
set_option linter.unusedVariables false

section
variable {L : Type} {A B C : Nat → L → Nat → Prop} {f g : Nat → Nat}
theorem Emb.comp (h : Emb A B f) (k : Emb B C g) : Emb A C fun i => g (f i) := by
 refine ⟨fun i l j e => k.up _ _ _ (h.up _ _ _ e), fun i l y e => ?_⟩
 obtain ⟨j, rfl, e2⟩ := k.down (f i) l y e
 obtain ⟨m, rfl, e3⟩ := h.down i l j e2
 exact ⟨m, rfl, e3⟩
end
section
variable {ls : List ByteArray} {ea eb : List Ed} {f : Nat → Nat}
theorem Emb.text (h : Emb (nE ea) (nE eb) f) : Emb (tE ls ea) (tE ls eb) f := by
 refine ⟨fun i s j e => ?_, fun i s y e => ?_⟩
 ·obtain ⟨l, g1, g2⟩ := e
  exact ⟨l, h.up _ _ _ g1, g2⟩
 ·obtain ⟨l, g1, g2⟩ := e
  obtain ⟨j, rfl, k⟩ := h.down _ _ _ g1
  exact ⟨j, rfl, l, k, g2⟩
end
def atL (S : List Int) (z i : Nat) : Nat := match S[i]? with
 | some a => a.toNat
 | none => z
theorem atL_some {S : List Int} {z i : Nat} {a : Int} (h : S[i]? = some a) : atL S z i = a.toNat := by unfold atL; rw [h]
theorem atL_none {S : List Int} {z i : Nat} (h : ¬ i < S.length) : atL S z i = z := by unfold atL; rw [List.getElem?_eq_none (by omega)]
theorem part_emb {S : List Int} {es es2 : List Ed} {N z : Nat} (he : EdIn N es) (hp : PartE S es es2) (hc : ∀ a l b, a ∈ S → (a, l, b) ∈ es → b ∈ S) (hnn : ∀ a, a ∈ S → 0 ≤ a) (hz : N ≤ z) : Emb (nE es2) (nE es) (atL S z) := by
 refine ⟨fun i l j h => ?_, fun i l y h => ?_⟩
 ·obtain ⟨i', j', a, b, e1, e2, h1, h2, h3⟩ := (hp _ _ _).1 h
  obtain rfl : i = i' := by omega
  obtain rfl : j = j' := by omega
  unfold nE
  rw [atL_some h1, atL_some h2, show ((a.toNat : Nat) : Int) = a by have := hnn a (List.mem_of_getElem? h1); omega, show ((b.toNat : Nat) : Int) = b by have := hnn b (List.mem_of_getElem? h2); omega]
  exact h3
 ·by_cases hi : i < S.length
  ·have h1 : S[i]? = some S[i] := List.getElem?_eq_getElem hi
   generalize S[i] = a at h1
   have ha := hnn a (List.mem_of_getElem? h1)
   unfold nE at h
   rw [atL_some h1, show ((a.toNat : Nat) : Int) = a by omega] at h
   obtain ⟨j, hj, e⟩ := List.getElem_of_mem (hc _ _ _ (List.mem_of_getElem? h1) h)
   have h2 : S[j]? = some (y : Int) := by rw [List.getElem?_eq_getElem hj, e]
   exact ⟨j, by rw [atL_some h2]; rfl, (hp _ _ _).2 ⟨i, j, a, y, rfl, rfl, h1, h2, h⟩⟩
  ·rw [atL_none hi] at h
   have := (nE_in he h).1
   omega
def QuoBE (er : List Ed) (n : Nat) (d : Bool) (p : List Int) (em : List Ed) : Prop :=
 ∀ f l t, (f, l, t) ∈ em ↔ (∃ e, e ∈ er ∧ p[e.1.toNat]? = some f ∧ e.2.1 = l ∧ p[e.2.2.toNat]? = some t ∧ ¬ (l = 0 ∧ f = t)) ∨ (d = true ∧ l = 0 ∧ f = t ∧ ∃ k : Nat, k < n ∧ p[k]? = some f ∧ Dvg (inrE er p) k)
section
variable {er em : List Ed} {n : Nat} {d : Bool} {p : List Int} {ls : List ByteArray}
theorem PartN.atL_inj (hp : PartN n p) {x y : Nat} (h : atL p (numB p) x = atL p (numB p) y) : pq p x = pq p y := by
 unfold pq
 have key : ∀ {x : Nat} {a : Int}, p[x]? = some a → atL p (numB p) x = a.toNat ∧ 0 ≤ a ∧ a < numB p := fun {x a} hx => ⟨atL_some hx, part_lt hp (List.mem_of_getElem? hx)⟩
 by_cases h1 : x < p.length
 ·have e1 : p[x]? = some p[x] := List.getElem?_eq_getElem h1
  obtain ⟨a1, a2, a3⟩ := key e1
  by_cases h2 : y < p.length
  ·have e2 : p[y]? = some p[y] := List.getElem?_eq_getElem h2
   obtain ⟨b1, b2, b3⟩ := key e2
   rw [e1, e2]
   congr 1
   omega
  ·rw [atL_none h2] at h; omega
 ·by_cases h2 : y < p.length
  ·have e2 : p[y]? = some p[y] := List.getElem?_eq_getElem h2
   obtain ⟨b1, b2, b3⟩ := key e2
   rw [atL_none h1] at h; omega
  ·rw [List.getElem?_eq_none (by omega), List.getElem?_eq_none (by omega)]
theorem atL_of (z : Nat) {x y : Nat} (h : pq p x = pq p y) : atL p z x = atL p z y := by unfold atL; unfold pq at h; rw [h]
theorem atL_iff (hp : PartN n p) {x y : Nat} : atL p (numB p) x = atL p (numB p) y ↔ pq p x = pq p y := ⟨hp.atL_inj, atL_of _⟩
theorem inrt_atL (hp : PartN n p) {L : Type} (E : Nat → L → Nat → Prop) (τ : L) : inrt E τ (atL p (numB p)) = inrt E τ (pq p) := by
 funext x y
 exact propext (and_congr_right fun _ => atL_iff hp)
theorem stb_atL (hp : PartN n p) {L : Type} {E : Nat → L → Nat → Prop} {τ : L} {dp : Prop} (h : Stb E τ dp (pq p)) : Stb E τ dp (atL p (numB p)) := by
 refine ⟨fun x y l b hq ho => ?_, fun hd x y hq hx => ?_⟩
 ·obtain ⟨x1, x2, h1, h2, h3, h4⟩ := ho
  rw [inrt_atL hp] at h1
  obtain ⟨y1, y2, g1, g2, g3, g4⟩ := h.off x y l (pq p x2) (hp.atL_inj hq) ⟨x1, x2, h1, h2, rfl, fun e => h4 ⟨e.1, atL_of _ e.2⟩⟩
  refine ⟨y1, y2, by rw [inrt_atL hp]; exact g1, g2, by rw [← h3]; exact atL_of _ g3, fun e => g4 ⟨e.1, hp.atL_inj e.2⟩⟩
 ·rw [inrt_atL hp] at hx ⊢
  exact h.dvg hd x y (hp.atL_inj hq) hx
theorem quoB_of (he : EdIn n er) (hp : PartN n p) (hm : QuoBE er n d p em) : QuoB (nE er) (nE em) (0 : Int) (d = true) (atL p (numB p)) := by
 intro b l c
 have hnn : ∀ {k : Nat} {a : Int}, p[k]? = some a → 0 ≤ a := fun h => (part_lt hp (List.mem_of_getElem? h)).1
 constructor
 ·intro h
  rcases (hm _ _ _).1 h with ⟨⟨ef, el, et⟩, h1, h2, h3, h4, h5⟩ | ⟨h1, h2, h3, k, h4, h5, h6⟩
  ·left
   dsimp only at h2 h3 h4
   have hin := he _ h1
   dsimp only at hin
   subst h3
   refine ⟨ef.toNat, et.toNat, ?_, by rw [atL_some h2]; rfl, by rw [atL_some h4]; rfl, fun e => h5 ⟨e.1, ?_⟩⟩
   ·unfold nE
    rw [show ((ef.toNat : Nat) : Int) = ef by omega, show ((et.toNat : Nat) : Int) = et by omega]
    exact h1
   ·have := e.2
    rw [atL_some h2, atL_some h4] at this
    simp only [Int.toNat_natCast] at this
    rw [this]
  ·right
   refine ⟨h1, h2, by omega, k, by rw [atL_some h5]; rfl, ?_⟩
   rw [inrt_atL hp]
   exact h6
 ·rintro (⟨x, x', h1, h2, h3, h4⟩ | ⟨h1, h2, h3, k, h4, h5⟩)
  ·have hx := nE_in he h1
   have e1 : p[x]? = some (p[x]'(by rw [hp.len]; exact hx.1)) := List.getElem?_eq_getElem _
   have e2 : p[x']? = some (p[x']'(by rw [hp.len]; exact hx.2)) := List.getElem?_eq_getElem _
   generalize (p[x]'(by rw [hp.len]; exact hx.1)) = a at e1
   generalize (p[x']'(by rw [hp.len]; exact hx.2)) = a' at e2
   have n1 := hnn e1
   have n2 := hnn e2
   rw [atL_some e1] at h2
   rw [atL_some e2] at h3
   obtain rfl : a = (b : Int) := by omega
   obtain rfl : a' = (c : Int) := by omega
   exact (hm _ _ _).2 (.inl ⟨_, h1, by simpa using e1, rfl, by simpa using e2, fun e => h4 ⟨e.1, by rw [atL_some e1, atL_some e2, e.2]⟩⟩)
  ·rw [inrt_atL hp] at h5
   have hk : k < n := Classical.byContradiction fun g => none_dvg he g h5
   have e1 : p[k]? = some (p[k]'(by rw [hp.len]; exact hk)) := List.getElem?_eq_getElem _
   generalize (p[k]'(by rw [hp.len]; exact hk)) = a at e1
   have n1 := hnn e1
   rw [atL_some e1] at h4
   obtain rfl : a = (b : Int) := by omega
   exact (hm _ _ _).2 (.inr ⟨h1, h2, by rw [h3], k, hk, e1, h5⟩)
theorem quoB_text {E M : List Ed} {t0 : ByteArray} {dp : Prop} {P : Nat → Nat} (hn : ls.Nodup) (h0 : ls[0]? = some t0) (h : QuoB (nE E) (nE M) (0 : Int) dp P) : QuoB (tE ls E) (tE ls M) t0 dp P := by
 intro b s c
 constructor
 ·rintro ⟨l, h1, h2⟩
  rcases (h _ _ _).1 h1 with ⟨x, x', g1, g2, g3, g4⟩ | ⟨g1, g2, g3, k, g4, g5⟩
  ·exact .inl ⟨x, x', ⟨l, g1, h2⟩, g2, g3, fun e => g4 ⟨by
    have := e.1
    subst this
    rw [nd_inj hn h2 h0]; rfl, e.2⟩⟩
  ·refine .inr ⟨g1, ?_, g3, k, g4, by rw [inrt_text hn h0]; exact g5⟩
   have : l = 0 := by omega
   rw [this, h0] at h2
   exact (Option.some.inj h2).symm
 ·rintro (⟨x, x', ⟨l, g1, g2⟩, g3, g4, g5⟩ | ⟨g1, g2, g3, k, g4, g5⟩)
  ·exact ⟨l, (h _ _ _).2 (.inl ⟨x, x', g1, g3, g4, fun e => g5 ⟨by
    have := e.1
    have : l = 0 := by omega
    rw [this, h0] at g2
    exact (Option.some.inj g2).symm, e.2⟩⟩), g2⟩
  ·rw [inrt_text hn h0] at g5
   subst g2
   exact ⟨0, (h _ _ _).2 (.inr ⟨g1, rfl, g3, k, g4, g5⟩), h0⟩
theorem quoBE_in (he : EdIn n er) (hp : PartN n p) (hm : QuoBE er n d p em) : EdIn (numB p) em := by
 rintro ⟨f, l, t⟩ h
 have hin := (hm _ _ _).1 h
 dsimp only
 rcases hin with ⟨e, h1, h2, h3, h4, h5⟩ | ⟨h1, h2, h3, k, h4, h5, h6⟩
 ·have a1 := part_lt hp (List.mem_of_getElem? h2)
  have a2 := part_lt hp (List.mem_of_getElem? h4)
  have a3 := he e h1
  omega
 ·have a1 := part_lt hp (List.mem_of_getElem? h5)
  omega
theorem minB_single {r r' : Nat} (he : EdIn n er) (hL : LastG (refB er n d) n r) (hm : QuoBE er n d (itP (refB er n d) n r) em) (hL' : LastG (refB em (numB (itP (refB er n d) n r)) d) (numB (itP (refB er n d) n r)) r') :
  numB (itP (refB em (numB (itP (refB er n d) n r)) d) (numB (itP (refB er n d) n r)) r') = numB (itP (refB er n d) n r) := by
 obtain ⟨p, hpe⟩ : ∃ p, p = itP (refB er n d) n r := ⟨_, rfl⟩
 rw [← hpe] at hm hL' ⊢
 have hp : PartN n p := by rw [hpe]; exact itP_part (refB_ref he) r
 have hs := stable_stb he hp (by rw [hpe]; exact hL.1)
 have hem := quoBE_in he hp hm
 obtain ⟨pm, hpme⟩ : ∃ pm, pm = itP (refB em (numB p) d) (numB p) r' := ⟨_, rfl⟩
 rw [← hpme]
 have hpm : PartN (numB p) pm := by rw [hpme]; exact itP_part (refB_ref hem) r'
 have hsm := stable_stb hem hpm (by rw [hpme]; exact hL'.1)
 have hq := comp_stb (stb_atL hp hs) (quoB_of he hp hm) hsm
 have hin : ∀ x, x < n ↔ (pq pm (atL p (numB p) x)).isSome = true := fun x => by
  unfold pq
  rw [isSome_at, hpm.len]
  by_cases hx : x < p.length
  ·have e1 : p[x]? = some p[x] := List.getElem?_eq_getElem hx
   have a1 := part_lt hp (List.mem_of_getElem? e1)
   rw [atL_some e1]
   rw [hp.len] at hx
   constructor
   ·intro _; omega
   ·intro _; exact hx
  ·rw [atL_none hx]
   rw [hp.len] at hx
   constructor
   ·intro h; exact absurd h hx
   ·intro h; exact absurd h (Nat.lt_irrefl _)
 rw [← hpm.len]
 refine numB_single fun i j hi hj hij => ?_
 rw [hpm.len] at hi hj
 obtain ⟨x, hx, ex⟩ := List.getElem_of_mem (part_mem hp hi)
 obtain ⟨y, hy, ey⟩ := List.getElem_of_mem (part_mem hp hj)
 have e1 : p[x]? = some (i : Int) := by rw [List.getElem?_eq_getElem hx, ex]
 have e2 : p[y]? = some (j : Int) := by rw [List.getElem?_eq_getElem hy, ey]
 have hxy : pq pm (atL p (numB p) x) = pq pm (atL p (numB p) y) := by
  rw [atL_some e1, atL_some e2]
  exact hij
 have := stb_rnd he hq (fun x y h => by rw [hin x, hin y, h]) r (by rw [← hp.len]; exact hx) (by rw [← hp.len]; exact hy) hxy
 rw [← hpe] at this
 unfold sameB at this
 rw [e1, e2] at this
 have := Option.some.inj this
 omega
end
end Go.Proofs.YtnhomkmfbngmgaaGreatDoor

namespace Go.Proofs.YtnhomkmfbngmgaaGreatDoor
open Go.ChangeShapes Go.WideShapes Go.ChangeAt Go.RowKit Go.Sort Go.Lib
set_option linter.unusedVariables false

theorem tE_in {ls : List ByteArray} {es : List Ed} {N : Nat} (he : EdIn N es) (x : Nat) (s : ByteArray) (y : Nat) (h : tE ls es x s y) : x < N ∧ y < N := by
 obtain ⟨l, h1, h2⟩ := h
 exact nE_in he h1
theorem uni_fun {la : List ByteArray} {ea : List Ed} {lb : List ByteArray} {eb : List Ed} {Na Nb : Nat}
  (ha : ∀ e, e ∈ ea → (0 ≤ e.1 ∧ e.1 < (Na : Int)) ∧ (0 ≤ e.2.1 ∧ e.2.1 < (la.length : Int)) ∧ (0 ≤ e.2.2 ∧ e.2.2 < (Na : Int)))
  (hb : ∀ e, e ∈ eb → (0 ≤ e.1 ∧ e.1 < (Nb : Int)) ∧ (0 ≤ e.2.1 ∧ e.2.1 < (lb.length : Int)) ∧ (0 ≤ e.2.2 ∧ e.2.2 < (Nb : Int))) :
  tE (joiF (la ++ lb)) (uniE la ea lb eb Na) = sumE Na (tE la ea) (tE lb eb) := by
 funext a s b
 exact propext (uni_tE ha fun e he => ⟨(hb e he).1.1, (hb e he).2.1, (hb e he).2.2.1⟩)
theorem uni_rnd {la : List ByteArray} {ea : List Ed} {lb : List ByteArray} {eb : List Ed} {Na Nb : Nat} {d : Bool} {α : Type} {q : Nat → α} (hla : la.length ≤ 100) (hlb : lb.length ≤ 100)
  (ha : ∀ e, e ∈ ea → (0 ≤ e.1 ∧ e.1 < (Na : Int)) ∧ (0 ≤ e.2.1 ∧ e.2.1 < (la.length : Int)) ∧ (0 ≤ e.2.2 ∧ e.2.2 < (Na : Int)))
  (hb : ∀ e, e ∈ eb → (0 ≤ e.1 ∧ e.1 < (Nb : Int)) ∧ (0 ≤ e.2.1 ∧ e.2.1 < (lb.length : Int)) ∧ (0 ≤ e.2.2 ∧ e.2.2 < (Nb : Int)))
  (hq : Stb (sumE Na (tE la ea) (tE lb eb)) tauB (d = true) q) (hr : ∀ x y, q x = q y → (x < Na + Nb ↔ y < Na + Nb)) (r : Nat) {x y : Nat} (hx : x < Na + Nb) (hy : y < Na + Nb) (h : q x = q y) :
  sameB (itP (refB (uniE la ea lb eb Na) (Na + Nb) d) (Na + Nb) r) x y := by
 rw [← uni_fun ha hb] at hq
 exact stb_rnd (uni_in hla hlb ha hb).1 ((stb_text (joi_nodup (la ++ lb)) (joi_head (la ++ lb)) (uni_lab (Na := Na) (fun e he => (ha e he).2.1) fun e he => (hb e he).2.1)).2 hq) hr r hx hy h
open Classical in
noncomputable def qM (N : Nat) (S : List Int) (P : Nat → Nat) (u : Nat) : Nat ⊕ Nat := if u < N then (if (u : Int) ∈ S then .inl (P (S.idxOf (u : Int))) else .inr u) else .inl (u - N)
theorem minB_alike {ls : List ByteArray} {es em : List Ed} {S : List Int} {N r i0 ini : Nat} {d : Bool} (hls : ls.length ≤ 100) (hnd : ls.Nodup) (h0 : ls[0]? = some tauB)
  (he : ∀ e, e ∈ es → (0 ≤ e.1 ∧ e.1 < (N : Int)) ∧ (0 ≤ e.2.1 ∧ e.2.1 < (ls.length : Int)) ∧ (0 ≤ e.2.2 ∧ e.2.2 < (N : Int))) (heN : EdIn N es)
  (hS : S = reachF N es (ini : Int)) (hi0 : S[i0]? = some (ini : Int))
  (hL : LastG (refB (partF S es) S.length d) S.length r) (hm : QuoBE (partF S es) S.length d (itP (refB (partF S es) S.length d) S.length r) em)
  (hml : ∀ e, e ∈ em → 0 ≤ e.2.1 ∧ e.2.1 < (ls.length : Int)) {c : Nat} (hc : (itP (refB (partF S es) S.length d) S.length r)[i0]? = some (c : Int)) (r' : Nat) :
  sameB (itP (refB (uniE ls es ls em N) (N + numB (itP (refB (partF S es) S.length d) S.length r)) d) (N + numB (itP (refB (partF S es) S.length d) S.length r)) r') ini (N + c) := by
 have hn : S.Nodup := by rw [hS]; exact reach_nodup
 have her := part_in heN hn
 have hcl : ∀ a l b, a ∈ S → (a, l, b) ∈ es → b ∈ S := fun a l b ha hx => by rw [hS] at ha ⊢; exact reach_closed heN a l b ha hx
 have hat : ∀ a, a ∈ S → ∃ k : Nat, a = (k : Int) ∧ k < N := fun a ha => by
  rw [hS] at ha
  obtain ⟨k, e, h1, -⟩ := reach_mem.1 ha
  exact ⟨k, e, h1⟩
 have hnn : ∀ a, a ∈ S → 0 ≤ a := fun a ha => by obtain ⟨k, rfl, -⟩ := hat a ha; omega
 obtain ⟨p, hpe⟩ : ∃ p, p = itP (refB (partF S es) S.length d) S.length r := ⟨_, rfl⟩
 rw [← hpe] at hm hc ⊢
 have hp : PartN S.length p := by rw [hpe]; exact itP_part (refB_ref her) r
 have hs := stable_stb her hp (by rw [hpe]; exact hL.1)
 have hem := quoBE_in her hp hm
 have hlr : ∀ e, e ∈ partF S es → 0 ≤ e.2.1 ∧ e.2.1 < (ls.length : Int) := by
  rintro ⟨f, l, t⟩ hx
  obtain ⟨i, j, a, b, -, -, -, -, hx⟩ := (partF_part hn f l t).1 hx
  exact (he _ hx).2.1
 have hb : ∀ e, e ∈ em → (0 ≤ e.1 ∧ e.1 < (numB p : Int)) ∧ (0 ≤ e.2.1 ∧ e.2.1 < (ls.length : Int)) ∧ (0 ≤ e.2.2 ∧ e.2.2 < (numB p : Int)) := fun e hx => ⟨(hem e hx).1, hml e hx, (hem e hx).2.2⟩
 have hsT := stb_atL hp ((stb_text hnd h0 hlr).1 hs)
 have hMT := quoB_text hnd h0 (quoB_of her hp hm)
 have e1 := (part_emb (z := N) heN (partF_part hn) hcl hnn (Nat.le_refl _)).text (ls := ls)
 have e2 := e1.comp (emb_left (A := tE ls es) (B := tE ls em) (tE_in heN) (tE_in hem) (Nat.le_refl (N + numB p)))
 have e3 := emb_right (A := tE ls es) (B := tE ls em) (n := N)
 have q1 : ∀ i, qM N S (atL p (numB p)) (if atL S N i < N then atL S N i else N + numB p) = .inl (atL p (numB p) i) := fun i => by
  by_cases hi : i < S.length
  ·have h1 : S[i]? = some S[i] := List.getElem?_eq_getElem hi
   obtain ⟨k, hk, hkN⟩ := hat _ (List.mem_of_getElem? h1)
   rw [hk] at h1
   rw [atL_some h1, Int.toNat_natCast, if_pos hkN]
   unfold qM
   rw [if_pos hkN, if_pos (List.mem_of_getElem? h1)]
   have : S.idxOf (k : Int) = i := by
    have h2 := idx_self hn hi
    rw [hk] at h2
    exact h2
   rw [this]
  ·rw [atL_none hi, if_neg (Nat.lt_irrefl _), atL_none (by rw [hp.len]; exact hi)]
   unfold qM
   rw [if_neg (by omega), Nat.add_sub_cancel_left]
 have q2 : ∀ b, qM N S (atL p (numB p)) (N + b) = .inl b := fun b => by
  unfold qM
  rw [if_neg (by omega), Nat.add_sub_cancel_left]
 have hcov : ∀ u, (∃ i, u = (if atL S N i < N then atL S N i else N + numB p)) ∨ (∃ b, u = N + b) ∨ qM N S (atL p (numB p)) u = .inr u := fun u => by
  by_cases hu : u < N
  ·by_cases hm : (u : Int) ∈ S
   ·obtain ⟨i, hi, e⟩ := List.getElem_of_mem hm
    have h1 : S[i]? = some (u : Int) := by rw [List.getElem?_eq_getElem hi, e]
    exact .inl ⟨i, by rw [atL_some h1, Int.toNat_natCast, if_pos hu]⟩
   ·right; right
    unfold qM
    rw [if_pos hu, if_neg hm]
  ·exact .inr (.inl ⟨u - N, by omega⟩)
 have hst := quo_alike hsT hMT e2 e3 q1 q2 hcov
 have hlt : ∀ i, i < S.length → atL p (numB p) i < numB p := fun i hi => by
  have e1 : p[i]? = some (p[i]'(by rw [hp.len]; exact hi)) := List.getElem?_eq_getElem _
  have a1 := part_lt hp (List.mem_of_getElem? e1)
  rw [atL_some e1]
  omega
 have hchar : ∀ u, u < N + numB p ↔ (match qM N S (atL p (numB p)) u with | .inl c => c < numB p | .inr _ => True) := fun u => by
  unfold qM
  by_cases hu : u < N
  ·rw [if_pos hu]
   by_cases hm : (u : Int) ∈ S
   ·rw [if_pos hm]
    have := hlt _ (List.idxOf_lt_length_of_mem hm)
    constructor
    ·intro _; exact this
    ·intro _; omega
   ·rw [if_neg hm]
    constructor
    ·intro _; trivial
    ·intro _; omega
  ·rw [if_neg hu]
   constructor
   ·intro h; show u - N < numB p; omega
   ·intro h
    have h : u - N < numB p := h
    omega
 have hiS : (ini : Int) ∈ S := List.mem_of_getElem? hi0
 have hiN : ini < N := by obtain ⟨k, e, h⟩ := hat _ hiS; omega
 have hidx : S.idxOf (ini : Int) = i0 := by
  have h1 := (List.getElem?_eq_some_iff.1 hi0).1
  have h2 := idx_self hn h1
  rw [(List.getElem?_eq_some_iff.1 hi0).2] at h2
  exact h2
 have hcn : c < numB p := by have := part_lt hp (List.mem_of_getElem? hc); omega
 refine uni_rnd hls hls he hb hst (fun x y h => by rw [hchar x, hchar y, h]) r' (by omega) (by omega) ?_
 rw [q2]
 unfold qM
 rw [if_pos hiN, if_pos hiS, hidx, atL_some hc, Int.toNat_natCast]
end Go.Proofs.YtnhomkmfbngmgaaGreatDoor

namespace Go.Proofs.YtnhomkmfbngmgaaGreatDoor
open Go.ChangeShapes Go.WideShapes Go.ChangeAt Go.RowKit Go.Sort Go.Lib
set_option linter.unusedVariables false
set_option linter.unusedSimpArgs false

def outG (p : List Int) (e : Ed) : Bool := !(inG p e)
set_option maxRecDepth 100000 in
set_option maxHeartbeats 1600000 in
theorem qub1_calls (N : Nat) (P : Option Addr) (cP : Nat) (p : List Int) (bP : Nat) (f l t : Int) (w : World) (lo hi : Nat) (hP : SlI w lo hi P N p) (hbl : bP < w.heap.size) (hb : w.cell? ⟨bP, 0, none⟩ = some (.slice P N cP)) (hf : 0 ≤ f ∧ f < (N : Int)) (ht : 0 ≤ t ∧ t < (N : Int)) :
  Calls Tryz.prog 261 #[.agg #[.int .i64 f, .int .i64 l, .int .i64 t], .pointer (some ⟨bP, 0, none⟩)] w (Says (outG p (f, l, t)) w) := by
 obtain ⟨f, rfl⟩ : ∃ k : Nat, f = (k : Int) := ⟨f.toNat, by omega⟩
 obtain ⟨t, rfl⟩ : ∃ k : Nat, t = (k : Int) := ⟨t.toNat, by omega⟩
 obtain ⟨gP, oP, pf, rfl, -, -, hgP, hpf, cf, -⟩ := SlI.get hP (show f < N by omega)
 obtain ⟨gP2, oP2, pt, e2, -, -, -, hpt, ct, -⟩ := SlI.get hP (show t < N by omega)
 cases e2
 have hval : Hid (outG p ((f : Int), l, (t : Int)) = ((l != 0) || (pf != pt))) := by
  show _ = _
  unfold outG inG
  simp only [Int.toNat_natCast, hpf, hpt]
  by_cases h1 : l = 0 <;> by_cases h2 : pf = pt <;> simp [h1, h2]
 have hb1 : Below w.heap.size w (w.alloc (.cells #[.int .i64 (f : Int), .int .i64 l, .int .i64 (t : Int)] 84)) := (Below.refl _ _).alloc (Nat.le_refl _) _
 have k8 := heap_alloc_new w (.cells #[.int .i64 (f : Int), .int .i64 l, .int .i64 (t : Int)] 84)
 obtain ⟨w1, hw1⟩ : ∃ w1, w1 = w.alloc (.cells #[.int .i64 (f : Int), .int .i64 l, .int .i64 (t : Int)] 84) := ⟨_, rfl⟩
 rw [← hw1] at hb1 k8
 have c0 := (hb1.cell (p := ⟨bP, 0, none⟩) hbl).trans hb
 replace cf := (hb1.cell (p := ⟨gP, oP + f, none⟩) hgP).trans cf
 replace ct := (hb1.cell (p := ⟨gP, oP + t, none⟩) hgP).trans ct
 have e0 : w1.cell? ⟨w.heap.size, 0, none⟩ = some (.int .i64 (f : Int)) := (cell_of_row _ _ 0 _ _ (0, 0) k8).trans rfl
 have e1 : w1.cell? ⟨w.heap.size, 1, none⟩ = some (.int .i64 l) := (cell_of_row _ _ 1 _ _ (0, 0) k8).trans rfl
 have e2 : w1.cell? ⟨w.heap.size, 2, none⟩ = some (.int .i64 (t : Int)) := (cell_of_row _ _ 2 _ _ (0, 0) k8).trans rfl
 have f0 : (0 : Int) ≤ (f : Int) := by omega
 have f1 : (f : Int) < (N : Int) := by omega
 have t0 : (0 : Int) ≤ (t : Int) := by omega
 have t1 : (t : Int) < (N : Int) := by omega
 replace hb1 := hide hb1
 replace hpf := hide hpf
 replace hpt := hide hpt
 clear hP hb k8 hf ht
 by_cases hl : l = 0
 ·subst hl
  have g1 : ((0 : Int) != 0) = false := rfl
  go_enter Tryz.func261, Tryz.ntmps261
  go_upto_region 1 with fail
  rw [← hw1]
  replace hw1 := hide hw1
  go_quiet (fail)
  go_wp2_with fail
  go_ret
  exact ⟨by rw [hval.out]; rfl, hb1.out.trans (below_drewN _ _ |>.mono hb1.out.size)⟩
 ·have g1 : (l != 0) = true := by rw [bne_iff_ne]; exact hl
  go_enter Tryz.func261, Tryz.ntmps261
  go_upto_region 1 with fail
  rw [← hw1]
  replace hw1 := hide hw1
  go_quiet (fail)
  go_wp2_with fail
  go_ret
  exact ⟨by rw [hval.out, g1]; rfl, hb1.out.trans (below_drewN _ _ |>.mono hb1.out.size)⟩
noncomputable def lpE (es : List Ed) (N : Nat) (p : List Int) (k : Nat) : List Ed := ((List.range k).filter fun i => inS (dvgL (es.filter (inG p)) N) i).map fun i => ((p[i]?).getD 0, 0, (p[i]?).getD 0)
theorem lpE_succ {es : List Ed} {N : Nat} {p : List Int} {k : Nat} : lpE es N p (k + 1) = lpE es N p k ++ if inS (dvgL (es.filter (inG p)) N) k = true then [((p[k]?).getD 0, 0, (p[k]?).getD 0)] else [] := by
 unfold lpE
 rw [List.range_succ, List.filter_append, List.map_append]
 congr 1
 by_cases h : inS (dvgL (es.filter (inG p)) N) k = true
 ·rw [List.filter_cons_of_pos h, if_pos h]; rfl
 ·rw [List.filter_cons_of_neg h, if_neg h]; rfl
theorem lpE_len {es : List Ed} {N : Nat} {p : List Int} {k : Nat} : (lpE es N p k).length ≤ k := by
 unfold lpE
 rw [List.length_map]
 exact Nat.le_trans (List.length_filter_le _ _) (by simp)
noncomputable def quoB (es : List Ed) (N : Nat) (dv : Bool) (p : List Int) : List Ed := if dv = true then Lib.compact (sortE (quoF p (outG p) es ++ lpE es N p N)) else quoF p (outG p) es
theorem quoFG_mem {p : List Int} {G : Ed → Bool} {es : List Ed} (hb : ∀ e, e ∈ es → e.1.toNat < p.length ∧ e.2.2.toNat < p.length) {f l t : Int} : (f, l, t) ∈ quoF p G es ↔ ∃ e, e ∈ es ∧ G e = true ∧ p[e.1.toNat]? = some f ∧ e.2.1 = l ∧ p[e.2.2.toNat]? = some t := by
 unfold quoF
 rw [compactE_mem, sortE_mem, List.mem_map]
 constructor
 ·rintro ⟨e, he, h⟩
  obtain ⟨he, hg⟩ := List.mem_filter.1 he
  unfold quoO pv at h
  injection h with h1 h2
  injection h2 with h2 h3
  have hh := hb e he
  rw [List.getElem?_eq_getElem hh.1, Option.getD_some] at h1
  rw [List.getElem?_eq_getElem hh.2, Option.getD_some] at h3
  exact ⟨e, he, hg, by rw [List.getElem?_eq_getElem hh.1, h1], h2, by rw [List.getElem?_eq_getElem hh.2, h3]⟩
 ·rintro ⟨e, he, hg, h1, h2, h3⟩
  refine ⟨e, List.mem_filter.2 ⟨he, hg⟩, ?_⟩
  unfold quoO pv
  rw [h1, h3, h2]
  rfl
theorem quoB_is {es : List Ed} {N : Nat} {dv : Bool} {p : List Int} (he : EdIn N es) (hp : PartN N p) : QuoBE es N dv p (quoB es N dv p) := by
 have hb : ∀ e, e ∈ es → e.1.toNat < p.length ∧ e.2.2.toNat < p.length := fun e hx => by
  have := he e hx
  rw [hp.len]
  omega
 intro f l t
 have h1 : (f, l, t) ∈ quoF p (outG p) es ↔ ∃ e, e ∈ es ∧ p[e.1.toNat]? = some f ∧ e.2.1 = l ∧ p[e.2.2.toNat]? = some t ∧ ¬ (l = 0 ∧ f = t) := by
  rw [quoFG_mem hb]
  refine exists_congr fun e => and_congr_right fun _ => ?_
  constructor
  ·rintro ⟨h1, h2, h3, h4⟩
   refine ⟨h2, h3, h4, fun h => ?_⟩
   have : inG p e = true := inG_true.2 ⟨by rw [h3]; exact h.1, by rw [h2, h4, h.2]⟩
   unfold outG at h1
   rw [this] at h1
   cases h1
  ·rintro ⟨h2, h3, h4, h5⟩
   refine ⟨?_, h2, h3, h4⟩
   unfold outG
   rw [Bool.not_eq_true', Bool.eq_false_iff]
   intro h
   have h6 := inG_true.1 h
   rw [h2, h4] at h6
   exact h5 ⟨by rw [← h3]; exact h6.1, Option.some.inj h6.2⟩
 have h2 : (f, l, t) ∈ lpE es N p N ↔ l = 0 ∧ f = t ∧ ∃ k : Nat, k < N ∧ p[k]? = some f ∧ Dvg (inrE es p) k := by
  unfold lpE
  rw [List.mem_map]
  constructor
  ·rintro ⟨k, hk, e⟩
   obtain ⟨hk1, hk2⟩ := List.mem_filter.1 hk
   have hk1 := List.mem_range.1 hk1
   injection e with e1 e2
   injection e2 with e2 e3
   refine ⟨e2.symm, by rw [← e1, ← e3], k, hk1, ?_, (dvgL_inert he).1 ((inS_dvgL hk1).1 hk2)⟩
   rw [← e1, List.getElem?_eq_getElem (by rw [hp.len]; exact hk1)]; rfl
  ·rintro ⟨rfl, rfl, k, hk, hpk, hd⟩
   refine ⟨k, List.mem_filter.2 ⟨List.mem_range.2 hk, (inS_dvgL hk).2 ((dvgL_inert he).2 hd)⟩, ?_⟩
   rw [hpk]; rfl
 unfold quoB
 cases dv with
 | false =>
  rw [if_neg (by decide), h1]
  constructor
  ·exact .inl
  ·rintro (h | ⟨h, -⟩)
   ·exact h
   ·cases h
 | true =>
  rw [if_pos rfl, compactE_mem, sortE_mem, List.mem_append, h1, h2]
  exact or_congr_right ⟨fun h => ⟨rfl, h⟩, fun h => h.2⟩
theorem quoB_rise {es : List Ed} {N : Nat} {dv : Bool} {p : List Int} : RisE (quoB es N dv p) := by
 unfold quoB
 split
 ·exact compactE_rise (sortE_le _)
 ·exact compactE_rise (sortE_le _)
theorem quoB_len {es : List Ed} {N : Nat} {dv : Bool} {p : List Int} : (quoB es N dv p).length ≤ es.length + N := by
 have h1 : (quoF p (outG p) es).length ≤ es.length := by
  unfold quoF
  refine Nat.le_trans (compactE_len _) ?_
  rw [sortE_len, List.length_map]
  exact List.length_filter_le _ _
 unfold quoB
 split
 ·refine Nat.le_trans (compactE_len _) ?_
  rw [sortE_len, List.length_append]
  have := lpE_len (es := es) (N := N) (p := p) (k := N)
  omega
 ·omega
end Go.Proofs.YtnhomkmfbngmgaaGreatDoor

namespace Go.Proofs.YtnhomkmfbngmgaaGreatDoor
open Go.ChangeShapes Go.WideShapes Go.ChangeAt Go.RowKit Go.Sort Go.Lib
set_option linter.unusedVariables false
set_option linter.unusedSimpArgs false

noncomputable def minP (N ini r : Nat) (es : List Ed) : List Int := rndP (partF (reachF N es (ini : Int)) es) (reachF N es (ini : Int)).length r
noncomputable def minE (N ini r : Nat) (es : List Ed) : List Ed := quoF (minP N ini r es) (fun _ => true) (partF (reachF N es (ini : Int)) es)
theorem reach_len {N : Nat} {es : List Ed} {ini : Int} : (reachF N es ini).length ≤ N := by
 unfold reachF
 rw [List.length_map]
 exact Nat.le_trans (List.length_filter_le _ _) (by simp)
set_option maxRecDepth 100000 in
theorem minimalS_calls {w : World} {N ini : Nat} {A : Option Addr} {n : Nat} {B : Option Addr} {m : Nat} {ls : List ByteArray} {es : List Ed} (h : SysA w N ini A n B m ls es) (c d : Nat) (he : Env w) :
  Calls Tryz.prog 32 #[.agg #[.int .i64 (N : Int), .int .i64 (ini : Int), .slice A n c, .slice B m d]] w fun e w' => ∃ (r c0 iR : Nat) (A2 : Option Addr) (c2 : Nat) (A3 : Option Addr) (n3 d3 : Nat),
   e = .returned (.tuple #[.agg #[.int .i64 ((numB (minP N ini r es) : Nat) : Int), .int .i64 (c0 : Int), .slice A2 n c2, .slice A3 n3 d3], .int .i64 0]) ∧ SysA w' (numB (minP N ini r es)) c0 A2 n A3 n3 ls (minE N ini r es) ∧
   LastR (partF (reachF N es (ini : Int)) es) (reachF N es (ini : Int)).length r ∧ posZ (reachF N es (ini : Int)) (ini : Int) = (iR : Int) ∧ pv (minP N ini r es) (iR : Int) = (c0 : Int) ∧ Below w.heap.size w w' := by
 have hini := h.bounds.2
 have hiR := reach_ini (es := es) hini
 have hRl := Nat.le_trans (reach_len (N := N) (es := es) (ini := (ini : Int))) h.bounds.1.2
 obtain ⟨hv1, hv0⟩ := part_valid h.ok reach_nodup hRl hiR
 obtain ⟨iR, hiRe⟩ : ∃ k : Nat, posZ (reachF N es (ini : Int)) (ini : Int) = (k : Int) := ⟨(posZ (reachF N es (ini : Int)) (ini : Int)).toNat, by omega⟩
 rw [hiRe] at hv1
 refine (minimalStrong_calls h c d he _ rfl hiR).mono ?_
 rintro e w' ⟨r, M, A2, c2, A3, n3, c3, hL, hM, rfl, hS, hE, hb⟩
 have hp := rnd_part (es := partF (reachF N es (ini : Int)) es) (N := (reachF N es (ini : Int)).length) r
 have hMn := max_numB hp hM
 obtain ⟨hv2, hv3⟩ := quo_valid hv1 hp hM
 rw [hiRe]
 obtain ⟨c0, hc0⟩ : ∃ k : Nat, pv (rndP (partF (reachF N es (ini : Int)) es) (reachF N es (ini : Int)).length r) (iR : Int) = (k : Int) := ⟨(pv (rndP (partF (reachF N es (ini : Int)) es) (reachF N es (ini : Int)).length r) (iR : Int)).toNat, by omega⟩
 rw [hMn, hc0] at hv2
 refine ⟨r, c0, iR, A2, c2, A3, n3, c3, by rw [hMn, hc0]; rfl, ⟨hS.here', hE.here', hv2, h.sz⟩, hL, rfl, hc0, hb⟩
end Go.Proofs.YtnhomkmfbngmgaaGreatDoor

namespace Go.Proofs.YtnhomkmfbngmgaaGreatDoor
open Go.ChangeShapes Go.WideShapes Go.ChangeAt Go.RowKit Go.Sort Go.Lib
set_option linter.unusedVariables false

theorem nodup_sub_le {α : Type} [BEq α] [LawfulBEq α] : ∀ {L M : List α}, L.Nodup → (∀ y, y ∈ L → y ∈ M) → L.length ≤ M.length
 | [], M, _, _ => Nat.zero_le _
 | x :: L, M, hn, h => by
  have hn2 := List.nodup_cons.1 hn
  have h1 := nodup_sub_le (M := M.erase x) hn2.2 fun y hy => (List.mem_erase_of_ne (fun e => hn2.1 (by rw [← e]; exact hy))).2 (h y (List.mem_cons_of_mem _ hy))
  have hx := h x (List.mem_cons_self ..)
  rw [List.length_erase_of_mem hx] at h1
  have := List.length_pos_of_mem hx
  rw [List.length_cons]; omega
theorem totS_le {b : Nat} : ∀ {l : List ByteArray}, (∀ s, s ∈ l → s.size ≤ b) → totS l ≤ l.length * (b + 1)
 | [], _ => by simp [totS]
 | x :: l, h => by
  have h1 := totS_le (l := l) fun s hs => h s (List.mem_cons_of_mem _ hs)
  have h2 := h x (List.mem_cons_self ..)
  unfold totS at h1 ⊢
  simp only [List.length_cons, List.map_cons, List.sum_cons]
  rw [Nat.add_mul]
  omega
theorem namD_mem {ls : List ByteArray} (h : NamD ls) {x : ByteArray} (hx : x ∈ joiF ls) : x ∈ tauB :: nm5 := by
 rcases (joi_mem_iff ls x).1 hx with rfl | hx
 ·exact List.mem_cons_self ..
 ·rcases h x hx with rfl | hx
  ·exact List.mem_cons_self ..
  ·exact List.mem_cons_of_mem _ hx
theorem namD_six {ls : List ByteArray} (h : NamD ls) : (joiF ls).length ≤ 6 := by
 have h1 : ((joiF ls).map toL).Nodup := (joi_rise ls).imp fun {a b} g e => by rw [e, ltL_irr] at g; cases g
 have h2 := nodup_sub_le (M := (tauB :: nm5).map toL) h1 fun y hy => by
  obtain ⟨x, hx, rfl⟩ := List.mem_map.1 hy
  exact List.mem_map_of_mem (namD_mem h hx)
 rw [List.length_map, List.length_map] at h2
 exact h2
theorem namD_size : ∀ x, x ∈ tauB :: nm5 → x.size ≤ 6 := by
 intro x hx
 unfold nm5 at hx
 simp only [List.mem_cons, List.mem_nil_iff, or_false] at hx
 rcases hx with rfl | rfl | rfl | rfl | rfl | rfl <;> decide
theorem namD_app {la lb : List ByteArray} (h : NamD la) (g : NamD lb) : NamD (la ++ lb) := fun x hx => by
 rcases List.mem_append.1 hx with hx | hx
 ·exact h x hx
 ·exact g x hx
theorem uni_valid {la : List ByteArray} {ea : List Ed} {lb : List ByteArray} {eb : List Ed} {Na Nb ia : Nat} (hla : NamD la) (hlb : NamD lb) (hl1 : la.length ≤ 100) (hl2 : lb.length ≤ 100)
  (ha : ∀ e, e ∈ ea → (0 ≤ e.1 ∧ e.1 < (Na : Int)) ∧ (0 ≤ e.2.1 ∧ e.2.1 < (la.length : Int)) ∧ (0 ≤ e.2.2 ∧ e.2.2 < (Na : Int)))
  (hb : ∀ e, e ∈ eb → (0 ≤ e.1 ∧ e.1 < (Nb : Int)) ∧ (0 ≤ e.2.1 ∧ e.2.1 < (lb.length : Int)) ∧ (0 ≤ e.2.2 ∧ e.2.2 < (Nb : Int)))
  (hia : ia < Na) (hN : Na + Nb ≤ 40) (hE : ea.length + eb.length ≤ 300) :
  ltsV (((Na + Nb : Nat) : Int), (ia : Int), joiF (la ++ lb), uniE la ea lb eb Na) = true ∧ totS (joiF (la ++ lb)) ≤ 100000 := by
 have hD := namD_app hla hlb
 have h6 := namD_six hD
 have hin := (uni_in hl1 hl2 ha hb).1
 have hlab := uni_lab (Na := Na) (fun e he => (ha e he).2.1) fun e he => (hb e he).2.1
 constructor
 ·refine ltsV_of (by omega) (by omega) (joi_names (fun x hx => ?_) (by omega)) ?_ ?_ fun e he => ?_
  ·rcases hD x hx with h | h
   ·exact .inl h
   ·exact .inr (nm5_lab x h).1
  ·refine Nat.le_trans (ltsEs_len _ _) ?_
   unfold uniA
   simp only [List.length_append, List.length_map]
   exact hE
  ·unfold uniE ltsEs
   exact compactE_rise (sortE_le _)
  ·have h1 := hin e he
   have h2 := hlab e he
   exact ⟨h1.1, h2, h1.2.2⟩
 ·have := totS_le (b := 6) (l := joiF (la ++ lb)) fun s hs => namD_size s (namD_mem hD hs)
  omega
theorem quoB_valid {N ini : Nat} {ls : List ByteArray} {es : List Ed} {p : List Int} {dv : Bool} (h : ltsV ((N : Int), (ini : Int), ls, es) = true) (hp : PartN N p) (hE : es.length + N ≤ 300) :
  ∃ c0 : Nat, pv p (ini : Int) = (c0 : Int) ∧ p[ini]? = some (c0 : Int) ∧ c0 < numB p ∧ ltsV ((numB p : Int), (c0 : Int), ls, quoB es N dv p) = true ∧ (∀ e, e ∈ quoB es N dv p → 0 ≤ e.2.1 ∧ e.2.1 < (ls.length : Int)) := by
 have hed := (ltsV_edge h).1
 have hbn := (ltsV_edge h).2
 have heI : EdIn N es := fun e he => ⟨(hed e he).1, (hed e he).2.1.1, (hed e he).2.2⟩
 have hq := quoB_is (dv := dv) heI hp
 have hin := quoBE_in heI hp hq
 have h0 := (List.getElem?_eq_some_iff.1 (labs_zero (ltsV_names h).1)).1
 have hini : ini < p.length := by rw [hp.len]; omega
 have e1 : p[ini]? = some p[ini] := List.getElem?_eq_getElem hini
 have hlt := part_lt hp (List.mem_of_getElem? e1)
 have hpv : pv p (ini : Int) = p[ini] := by unfold pv; rw [Int.toNat_natCast, e1]; rfl
 have hlb : ∀ e, e ∈ quoB es N dv p → 0 ≤ e.2.1 ∧ e.2.1 < (ls.length : Int) := by
  rintro ⟨f, l, t⟩ he
  rcases (hq f l t).1 he with ⟨e, h1, -, h2, -⟩ | ⟨-, h2, -⟩
  ·have := (hed e h1).2.1
   dsimp only
   omega
  ·dsimp only
   omega
 have hN := numB_le p
 rw [hp.len] at hN
 refine ⟨(p[ini]).toNat, by omega, by rw [e1]; congr 1; omega, by omega, ?_, hlb⟩
 refine ltsV_of (by omega) (by omega) (ltsV_names h).1 ?_ quoB_rise fun e he => ?_
 ·have := quoB_len (es := es) (N := N) (dv := dv) (p := p)
  omega
 ·have h1 := hin e he
  exact ⟨h1.1, hlb e he, h1.2.2⟩
end Go.Proofs.YtnhomkmfbngmgaaGreatDoor

namespace Go.Proofs.YtnhomkmfbngmgaaGreatDoor
open Go.ChangeShapes Go.WideShapes Go.ChangeAt Go.RowKit Go.Sort
set_option linter.unusedVariables false
set_option linter.unusedSimpArgs false

section
variable {w : World} {N ini : Nat} {A : Option Addr} {n : Nat} {B : Option Addr} {m : Nat} {ls : List ByteArray} {es : List Ed}
set_option maxRecDepth 100000 in
set_option maxHeartbeats 1600000 in
theorem brc1_calls (h : SysA w N ini A n B m ls es) (c d : Nat) (dv : Bool) (bd : Nat) (hbd : bd < w.heap.size) (hd : w.cell? ⟨bd, 0, none⟩ = some (.bool dv)) :
  Calls Tryz.prog 198 #[.agg #[.int .i64 (N : Int), .int .i64 (ini : Int), .slice A n c, .slice B m d], .pointer (some ⟨bd, 0, none⟩)] w fun e w' => ∃ r P cP, e = .returned (.slice P N cP) ∧ LastG (refB es N dv) N r ∧ SlI w' w.heap.size w'.heap.size P N (itP (refB es N dv) N r) ∧ Below w.heap.size w w' ∧ N ≤ cP := by
 have hB := h.box (c := c) (d := d)
 obtain ⟨w1, hw1⟩ : ∃ w1, w1 = w.alloc (ltsC N ini A n c B m d) := ⟨_, rfl⟩
 rw [← hw1] at hB
 have q := hide (branching_calls hB.sys c d dv)
 have b0 := hB.box.c0
 have b1 := hB.box.c1
 have b2 := hB.box.c2
 have b3 := hB.box.c3
 have d0 := (hB.bel.cell (p := ⟨bd, 0, none⟩) hbd).trans hd
 have hz1 := hB.bel.size
 replace hB := hide hB
 clear h hd
 go_enter Tryz.func198, Tryz.ntmps198
 go_upto_region 1 with fail
 rw [← show w1 = w.alloc (.cells #[.int .i64 (N : Int), .int .i64 (ini : Int), .slice A n c, .slice B m d] 27) from hw1]
 replace hw1 := hide hw1
 go_wp2_with fail
 refine q.out.mono ?_
 rintro e w2 ⟨r, P, cP, rfl, hL, hP, hb, hcap⟩
 have hPF := hide (hP.more hz1 (Nat.le_refl _))
 have hbF := hide (hB.out.bel.trans (hb.mono hz1))
 replace hL := hide hL
 clear q hP hb b0 b1 b2 b3 d0
 go_wp2_with fail
 go_ret
 exact ⟨r, P, cP, rfl, hL.out, hPF.out, hbF.out, hcap⟩
end
section
variable {w : World} {Na ia : Nat} {A : Option Addr} {n : Nat} {B : Option Addr} {m : Nat} {la : List ByteArray} {ea : List Ed} {Nb ib : Nat} {A' : Option Addr} {n' : Nat} {B' : Option Addr} {m' : Nat} {lb : List ByteArray} {eb : List Ed}
set_option maxRecDepth 100000 in
set_option maxHeartbeats 1600000 in
theorem bothB_calls (h : SysA w Na ia A n B m la ea) (g : SysA w Nb ib A' n' B' m' lb eb) (c d c' d' : Nat) (hsum : Na + Nb ≤ 40) (dv : Bool) (bd : Nat) (hbd : bd < w.heap.size) (hd : w.cell? ⟨bd, 0, none⟩ = some (.bool dv)) (huv : ltsV (((Na + Nb : Nat) : Int), (ia : Int), joiF (la ++ lb), uniE la ea lb eb Na) = true) (hus : totS (joiF (la ++ lb)) ≤ 100000) :
  Calls Tryz.prog 137 #[.agg #[.int .i64 (Na : Int), .int .i64 (ia : Int), .slice A n c, .slice B m d], .agg #[.int .i64 (Nb : Int), .int .i64 (ib : Int), .slice A' n' c', .slice B' m' d'], .func (.func 198) #[] #[.pointer (some ⟨bd, 0, none⟩)]] w fun e w' => ∃ r P cP, e = .returned (.slice P (Na + Nb) cP) ∧ LastG (refB (uniE la ea lb eb Na) (Na + Nb) dv) (Na + Nb) r ∧ SlI w' w.heap.size w'.heap.size P (Na + Nb) (itP (refB (uniE la ea lb eb Na) (Na + Nb) dv) (Na + Nb) r) ∧ Below w.heap.size w w' := by
 have hT := TwoS.start w Na ia A n c B m d Nb ib A' n' c' B' m' d'
 obtain ⟨w1, hw1⟩ : ∃ w1, w1 = (w.alloc (ltsC Na ia A n c B m d)).alloc (ltsC Nb ib A' n' c' B' m' d') := ⟨_, rfl⟩
 rw [← hw1] at hT
 obtain ⟨hm, hn12, hn1, hle, hll⟩ := h.many
 obtain ⟨hm', hn12', hn1', hle', hll'⟩ := g.many
 have hbo := h.bounds.1.1
 have hui := uni_in (la := la) (ea := ea) (lb := lb) (eb := eb) (by omega) (by omega) h.three g.three
 have hqU := hide (union_calls (h.below hT.bel (Nat.le_refl _)) (g.below hT.bel (Nat.le_refl _)) c d c' d')
 have hul : (uniE la ea lb eb Na).length ≤ 1000 := by
  refine Nat.le_trans (ltsEs_len _ _) ?_
  unfold uniA
  simp only [List.length_append, List.length_map]
  omega
 obtain ⟨a0, a1, a2, a3, b0, b1, b2, b3⟩ := hT.cells
 replace hui := hide hui
 have hbel := hide hT.bel
 clear hT h g
 go_enter Tryz.func137, Tryz.ntmps137
 go_upto_region 1 with fail
 rw [show ((w.alloc (.cells #[.int .i64 (Na : Int), .int .i64 (ia : Int), .slice A n c, .slice B m d] 27)).alloc (.cells #[.int .i64 (Nb : Int), .int .i64 (ib : Int), .slice A' n' c', .slice B' m' d'] 27)) = w1 from hw1.symm]
 replace hw1 := hide hw1
 go_wp2_with (go_at_call 229; refine hqU.out.mono ?_; rintro e w2 ⟨A2, n2, c2, A3, n3, c3, rfl, hS2, hE2, hb2⟩)
 have hlen : (uniE la ea lb eb Na).length = n3 := hE2.len
 have hz2 := hbel.out.size
 have hS : SysA w2 (Na + Nb) ia A2 n2 A3 n3 (joiF (la ++ lb)) (uniE la ea lb eb Na) := ⟨hS2.here', hE2.here', huv, hus⟩
 have hbw2 : Below w.heap.size w w2 := hbel.out.trans (hb2.mono hz2)
 have q := brc1_calls hS c2 c3 dv bd (by have := hbw2.size; omega) ((hbw2.cell (p := ⟨bd, 0, none⟩) hbd).trans hd)
 rw [Int.natCast_add] at q
 replace hS2 := hide hS2
 replace hE2 := hide hE2
 replace hlen := hide hlen
 replace q := hide q
 clear hS a0 a1 a2 a3 b0 b1 b2 b3 hd hbw2
 refine q.out.mono ?_
 rintro e w3 ⟨r, P, cP, rfl, hL, hP, hb3, -⟩
 have hbF := hide ((hbel.out.trans (hb2.mono hz2)).trans (hb3.mono (Nat.le_trans hz2 hb2.size)))
 have hPF := hide (hP.more (Nat.le_trans hz2 hb2.size) (Nat.le_refl _))
 replace hL := hide hL
 clear hb2 hb3 hP q
 go_wp2_with fail
 go_ret
 exact ⟨r, P, cP, rfl, hL.out, hPF.out, hbF.out⟩
set_option maxRecDepth 100000 in
set_option maxHeartbeats 3200000 in
theorem areAlikeB_calls (h : SysA w Na ia A n B m la ea) (g : SysA w Nb ib A' n' B' m' lb eb) (c d c' d' : Nat) (he : Env w) (hsum : Na + Nb ≤ 40) (dv : Bool) (bd : Nat) (hbd : bd < w.heap.size) (hd : w.cell? ⟨bd, 0, none⟩ = some (.bool dv)) (huv : ltsV (((Na + Nb : Nat) : Int), (ia : Int), joiF (la ++ lb), uniE la ea lb eb Na) = true) (hus : totS (joiF (la ++ lb)) ≤ 100000) :
  Calls Tryz.prog 63 #[.agg #[.int .i64 (Na : Int), .int .i64 (ia : Int), .slice A n c, .slice B m d], .agg #[.int .i64 (Nb : Int), .int .i64 (ib : Int), .slice A' n' c', .slice B' m' d'], .func (.func 198) #[] #[.pointer (some ⟨bd, 0, none⟩)]] w fun e w' => ∃ r, e = .returned (.tuple #[.bool (decide ((itP (refB (uniE la ea lb eb Na) (Na + Nb) dv) (Na + Nb) r)[ia]? = (itP (refB (uniE la ea lb eb Na) (Na + Nb) dv) (Na + Nb) r)[Na + ib]?)), .int .i64 0]) ∧ LastG (refB (uniE la ea lb eb Na) (Na + Nb) dv) (Na + Nb) r ∧ Below w.heap.size w w' := by
 have hT := TwoS.start w Na ia A n c B m d Nb ib A' n' c' B' m' d'
 obtain ⟨w1, hw1⟩ : ∃ w1, w1 = (w.alloc (ltsC Na ia A n c B m d)).alloc (ltsC Nb ib A' n' c' B' m' d') := ⟨_, rfl⟩
 rw [← hw1] at hT
 have hia := h.bounds.2
 have hib := g.bounds.2
 have hNa2 := h.bounds.1.2
 have hNb2 := g.bounds.1.2
 have he1 := he.below hT.bel (Nat.le_refl _)
 have hq1 := hide ((h.below hT.bel (Nat.le_refl _)).valid c d he1)
 obtain ⟨a0, a1, a2, a3, b0, b1, b2, b3⟩ := hT.cells
 replace hT := hide hT
 go_enter Tryz.func63, Tryz.ntmps63
 go_upto_region 1 with fail
 rw [show ((w.alloc (.cells #[.int .i64 (Na : Int), .int .i64 (ia : Int), .slice A n c, .slice B m d] 27)).alloc (.cells #[.int .i64 (Nb : Int), .int .i64 (ib : Int), .slice A' n' c', .slice B' m' d'] 27)) = w1 from hw1.symm]
 replace hw1 := hide hw1
 go_wp2_with fail
 refine hq1.out.mono ?_
 rintro e w2 ⟨rfl, hb2⟩
 have hT2 := hT.out.below hb2 (Nat.le_refl _)
 have he2 := he1.below hb2 (Nat.le_refl _)
 have hq2 := hide ((g.below hT2.bel (Nat.le_refl _)).valid c' d' he2)
 clear a0 a1 a2 a3 b0 b1 b2 b3 hb2 hq1
 obtain ⟨a0, a1, a2, a3, b0, b1, b2, b3⟩ := hT2.cells
 replace hT2 := hide hT2
 go_wp2_with fail
 refine hq2.out.mono ?_
 rintro e w3 ⟨rfl, hb3⟩
 have hT3 := hide (hT2.out.below hb3 (Nat.le_refl _))
 clear a0 a1 a2 a3 b0 b1 b2 b3 hb3 hq2
 go_wp2_with fail
 obtain ⟨wD, hwD⟩ : ∃ wD, wD = w3.drew := ⟨_, rfl⟩
 have hTD := hide (hT3.out.below (w2 := wD) (K := w3.heap.size) (by rw [hwD]; exact (Below.refl _ _).drew) (Nat.le_refl _))
 have hqB := hide (bothB_calls (h.below hTD.out.bel (Nat.le_refl _)) (g.below hTD.out.bel (Nat.le_refl _)) c d c' d' hsum dv bd (by have := hTD.out.bel.size; omega) ((hTD.out.bel.cell (p := ⟨bd, 0, none⟩) hbd).trans hd) huv hus)
 replace hwD := hide hwD
 clear h g he he1 he2 hd
 refine lateT_begin (S := fun w' => TwoC w w' Na ia A n c B m d Nb ib A' n' c' B' m' d') (st := 8) (by kernel_rfl) ?_
 rw [← show wD = _ from hwD.out]
 have hS0 : (fun w' : World => TwoC w w' Na ia A n c B m d Nb ib A' n' c' B' m' d') wD := hTD.out.cells
 refine tkA ?_ 0 [8] rfl (Or.inl ⟨by rfl, ?hy⟩) hS0 ?_
 case hy => (intro w9 hSw; obtain ⟨y0, y1, y2, y3, z0, z1, z2, z3⟩ := hSw; go_simp <;> with_reducible rfl)
 (try simp only [Act.put, sA, sB, sC])
 refine tkA ?_ 1 [8] rfl (Or.inl ⟨by rfl, ?hy⟩) hS0 ?_
 case hy => (intro w9 hSw; obtain ⟨y0, y1, y2, y3, z0, z1, z2, z3⟩ := hSw; go_simp <;> with_reducible rfl)
 (try simp only [Act.put, sA, sB, sC])
 refine tkA ?_ 2 [8] rfl (Or.inl ⟨by rfl, ?hy⟩) hS0 ?_
 case hy => (intro w9 hSw; obtain ⟨y0, y1, y2, y3, z0, z1, z2, z3⟩ := hSw; go_simp <;> with_reducible rfl)
 (try simp only [Act.put, sA, sB, sC])
 refine tkA ?_ 3 [8] rfl (Or.inl ⟨by rfl, ?hy⟩) hS0 ?_
 case hy => (intro w9 hSw; obtain ⟨y0, y1, y2, y3, z0, z1, z2, z3⟩ := hSw; go_simp <;> with_reducible rfl)
 (try simp only [Act.put, sA, sB, sC])
 refine tkA ?_ 4 [8] rfl (Or.inl ⟨by rfl, ?hy⟩) hS0 ?_
 case hy => (intro w9 hSw; obtain ⟨y0, y1, y2, y3, z0, z1, z2, z3⟩ := hSw; go_simp <;> with_reducible rfl)
 (try simp only [Act.put, sA, sB, sC])
 refine lateT_step (i := 5) (by kernel_rfl) rfl (fun K hK => ?_)
 go_simp
 go_at_call 137
 refine hqB.out.mono ?_
 rintro e w5 ⟨r, P, cP, rfl, hL, hP, hb5⟩
 have hT5 := hide (hTD.out.below hb5 (Nat.le_refl _))
 have hqI := hide (initialTogether_calls Na ia A n c B m d Nb ib A' n' c' B' m' d' P cP _ w5 _ _ hP (by omega) (by omega) hNa2 hNb2)
 have hb5h := hide hb5
 replace hL := hide hL
 clear hb5
 go_wp2_with fail
 refine hK.out _ _ (fun _ => hT5.out.cells) ?_
 clear hK K
 (try simp only [Act.put, sA, sB, sC])
 refine lateT_step (i := 6) (by kernel_rfl) rfl (fun K hK => ?_)
 go_simp
 go_at_call 136
 refine hqI.out.mono ?_
 rintro e w6 ⟨rfl, hb6⟩
 have hT6 := hide (hT5.out.below hb6 (Nat.le_refl _))
 clear hqI
 go_wp2_with fail
 refine hK.out _ _ (fun _ => hT6.out.cells) ?_
 clear hK K
 (try simp only [Act.put, sA, sB, sC])
 refine lateT_step (i := 7) (by kernel_rfl) rfl (fun K hK => ?_)
 go_simp
 refine hK.out _ _ (fun _ => hT6.out.cells) ?_
 clear hK K
 (try simp only [Act.put, sA, sB, sC])
 refine lateT_step (i := 8) (by kernel_rfl) rfl (fun K hK => ?_)
 go_simp
 refine hK.out _ _ (fun h => absurd rfl h) ?_
 clear hK K
 (try simp only [Act.put, sA, sB, sC])
 refine lateT_done (by kernel_rfl) ?_ _
 have hbF := hT6.out.bel
 go_wp2_with fail
 go_ret2
 exact ⟨r, rfl, hL.out, hbF⟩
set_option maxRecDepth 100000 in
theorem brC_calls (dv : Bool) (w : World) : Calls Tryz.prog 106 #[.bool dv] w fun e w' => e = .returned (.func (.func 198) #[] #[.pointer (some ⟨w.heap.size, 0, none⟩)]) ∧ w' = w.alloc (.cells #[.bool dv] 4) := by
 go_enter Tryz.func106, Tryz.ntmps106
 go_wp2_with fail
 go_ret
 exact ⟨rfl, rfl⟩
set_option maxRecDepth 100000 in
set_option maxHeartbeats 3200000 in
theorem areBranching_calls (h : SysA w Na ia A n B m la ea) (g : SysA w Nb ib A' n' B' m' lb eb) (c d c' d' : Nat) (he : Env w) (hsum : Na + Nb ≤ 40) (dv : Bool) (huv : ltsV (((Na + Nb : Nat) : Int), (ia : Int), joiF (la ++ lb), uniE la ea lb eb Na) = true) (hus : totS (joiF (la ++ lb)) ≤ 100000) :
  Calls Tryz.prog 42 #[.agg #[.int .i64 (Na : Int), .int .i64 (ia : Int), .slice A n c, .slice B m d], .agg #[.int .i64 (Nb : Int), .int .i64 (ib : Int), .slice A' n' c', .slice B' m' d'], .bool dv] w fun e w' => ∃ r, e = .returned (.tuple #[.bool (decide ((itP (refB (uniE la ea lb eb Na) (Na + Nb) dv) (Na + Nb) r)[ia]? = (itP (refB (uniE la ea lb eb Na) (Na + Nb) dv) (Na + Nb) r)[Na + ib]?)), .int .i64 0]) ∧ LastG (refB (uniE la ea lb eb Na) (Na + Nb) dv) (Na + Nb) r ∧ Below w.heap.size w w' := by
 have hT := TwoS.start w Na ia A n c B m d Nb ib A' n' c' B' m' d'
 obtain ⟨w1, hw1⟩ : ∃ w1, w1 = (w.alloc (ltsC Na ia A n c B m d)).alloc (ltsC Nb ib A' n' c' B' m' d') := ⟨_, rfl⟩
 rw [← hw1] at hT
 obtain ⟨wD, hwD⟩ : ∃ wD, wD = w1.drew := ⟨_, rfl⟩
 have hb1D : Below w1.heap.size w1 wD := by rw [hwD]; exact (Below.refl _ _).drew
 have hTD := hT.below hb1D (Nat.le_refl _)
 obtain ⟨w3, hw3⟩ : ∃ w3, w3 = wD.alloc (.cells #[.bool dv] 4) := ⟨_, rfl⟩
 have hbD3 : Below wD.heap.size wD w3 := by rw [hw3]; exact (Below.refl _ _).alloc (Nat.le_refl _) _
 have hT3 := hTD.below hbD3 (Nat.le_refl _)
 have kD : w3.heap[wD.heap.size]? = some (.cells #[.bool dv] 4 (0, 0)) := by rw [hw3]; exact heap_alloc_new wD _
 have hq := hide (areAlikeB_calls (h.below hT3.bel (Nat.le_refl _)) (g.below hT3.bel (Nat.le_refl _)) c d c' d' (he.below hT3.bel (Nat.le_refl _)) hsum dv wD.heap.size (Array.getElem?_eq_some_iff.1 kD).1 ((cell_of_row _ _ 0 _ _ (0, 0) kD).trans rfl) huv hus)
 have hqC := hide (brC_calls dv wD)
 have hS0c := hide hTD.cells
 have hS3c := hide hT3.cells
 have hbel := hide hT3.bel
 have hT3h := hide hT3
 replace hw3 := hide hw3
 clear hT hTD hT3 h g he kD hbD3 hb1D
 go_enter Tryz.func42, Tryz.ntmps42
 go_upto_region 1 with fail
 rw [show ((w.alloc (.cells #[.int .i64 (Na : Int), .int .i64 (ia : Int), .slice A n c, .slice B m d] 27)).alloc (.cells #[.int .i64 (Nb : Int), .int .i64 (ib : Int), .slice A' n' c', .slice B' m' d'] 27)) = w1 from hw1.symm]
 replace hw1 := hide hw1
 replace hwD := hide hwD
 refine lateT_begin (S := fun w' => TwoC w w' Na ia A n c B m d Nb ib A' n' c' B' m' d') (st := 8) (by kernel_rfl) ?_
 rw [← show wD = _ from hwD.out]
 have hS0 : (fun w' : World => TwoC w w' Na ia A n c B m d Nb ib A' n' c' B' m' d') wD := hS0c.out
 refine tkA ?_ 0 [8] rfl (Or.inl ⟨by kernel_rfl, ?hy⟩) hS0 ?_
 case hy => (intro w9 hSw; obtain ⟨u0, u1, u2, u3, u4, u5, u6, u7⟩ := hSw; go_simp <;> with_reducible rfl)
 (try simp only [Act.put, sA, sB, sC])
 refine tkA ?_ 1 [8] rfl (Or.inl ⟨by kernel_rfl, ?hy⟩) hS0 ?_
 case hy => (intro w9 hSw; obtain ⟨u0, u1, u2, u3, u4, u5, u6, u7⟩ := hSw; go_simp <;> with_reducible rfl)
 (try simp only [Act.put, sA, sB, sC])
 refine tkA ?_ 2 [8] rfl (Or.inl ⟨by kernel_rfl, ?hy⟩) hS0 ?_
 case hy => (intro w9 hSw; obtain ⟨u0, u1, u2, u3, u4, u5, u6, u7⟩ := hSw; go_simp <;> with_reducible rfl)
 (try simp only [Act.put, sA, sB, sC])
 refine lateT_step (i := 3) (by kernel_rfl) rfl (fun K hK => ?_)
 go_simp
 go_at_call 106
 (with_reducible refine hqC.out.mono ?_)
 rintro e w4 ⟨rfl, rfl⟩
 (try go_wp2_with fail)
 rw [← show w3 = wD.alloc (.cells #[.bool dv] 4) from hw3.out]
 have hS1 := hS3c.out
 refine hK.out _ _ (fun _ => hS1) ?_
 clear hK K
 (try simp only [Act.put, sA, sB, sC])
 refine lateT_step (i := 4) (by kernel_rfl) rfl (fun K hK => ?_)
 go_simp
 go_at_call 63
 (with_reducible refine hq.out.mono ?_)
 rintro e w5 ⟨r, rfl, hL, hb5⟩
 have hS5c := hide ((hT3h.out.below hb5 (Nat.le_refl _)).cells)
 (try go_wp2_with fail)
 have hS2 := hS5c.out
 refine hK.out _ _ (fun _ => hS2) ?_
 clear hK K
 (try simp only [Act.put, sA, sB, sC])
 refine tkA ?_ 5 [8] rfl (Or.inl ⟨by kernel_rfl, ?hy⟩) hS2 ?_
 case hy => (intro w9 hSw; obtain ⟨u0, u1, u2, u3, u4, u5, u6, u7⟩ := hSw; go_simp <;> with_reducible rfl)
 (try simp only [Act.put, sA, sB, sC])
 refine tkA ?_ 6 [8] rfl (Or.inl ⟨by kernel_rfl, ?hy⟩) hS2 ?_
 case hy => (intro w9 hSw; obtain ⟨u0, u1, u2, u3, u4, u5, u6, u7⟩ := hSw; go_simp <;> with_reducible rfl)
 (try simp only [Act.put, sA, sB, sC])
 refine tkA ?_ 7 [8] rfl (Or.inl ⟨by kernel_rfl, ?hy⟩) hS2 ?_
 case hy => (intro w9 hSw; obtain ⟨u0, u1, u2, u3, u4, u5, u6, u7⟩ := hSw; go_simp <;> with_reducible rfl)
 (try simp only [Act.put, sA, sB, sC])
 refine lateT_step (i := 8) (by kernel_rfl) rfl (fun K hK => ?_)
 go_simp
 refine hK.out _ _ (fun h => absurd rfl h) ?_
 clear hK K
 (try simp only [Act.put, sA, sB, sC])
 refine lateT_done (by kernel_rfl) ?_ _
 have hbF := hide (hbel.out.trans (hb5.mono hbel.out.size))
 replace hL := hide hL
 clear hb5
 go_wp2_with fail
 go_ret2
 exact ⟨r, rfl, hL.out, hbF.out⟩
end
end Go.Proofs.YtnhomkmfbngmgaaGreatDoor

namespace Go.Proofs.YtnhomkmfbngmgaaGreatDoor
open Go.ChangeShapes Go.WideShapes Go.ChangeAt Go.RowKit Go.Sort Go.Lib
set_option linter.unusedVariables false
set_option linter.unusedSimpArgs false

structure QbW (w wD wr : World) (b7 : Nat) (s i : Int) (A1 : Option Addr) (n2 c1 : Nat) (J : List ByteArray) (Ab : Option Addr) (kb cb : Nat) (A3 : Option Addr) (k c3 : Nat) (E : List Ed) : Prop where
 box : LtsBox wr b7 s i A1 n2 c1 Ab kb cb
 res : LtsBox wr (w.heap.size + 2) 0 0 none 0 0 none 0 0
 labs : Own 1 strv wr (w.heap.size + 3) 9 A1 n2 c1 J
 eds : Own 3 ev wr (w.heap.size + 3) 84 A3 k c3 E
 apart : ∀ q, (Value.slice A3 k c3).ownBlock = some q → q < b7 ∨ wD.heap.size ≤ q
 kept : ∀ q, q < wD.heap.size → (q < w.heap.size + 3 ∨ b7 < q) → wr.heap[q]? = wD.heap[q]?
 sz : wD.heap.size ≤ wr.heap.size
 env : wr.os = wD.os ∧ wr.tape = wD.tape ∧ wr.output = wD.output
 bel : Below w.heap.size w wD
 at_ : w.heap.size + 3 ≤ b7 ∧ b7 < wD.heap.size
section
variable {w wD wr w' : World} {b7 : Nat} {s i : Int} {A1 : Option Addr} {n2 c1 : Nat} {J : List ByteArray} {Ab : Option Addr} {kb cb : Nat} {A3 : Option Addr} {k c3 : Nat} {E : List Ed}
theorem QbW.below (h : QbW w wD wr b7 s i A1 n2 c1 J Ab kb cb A3 k c3 E) (hb : Below wr.heap.size wr w') : QbW w wD w' b7 s i A1 n2 c1 J Ab kb cb A3 k c3 E :=
 ⟨h.box.below hb h.box.lt, h.res.below hb h.res.lt, h.labs.below hb (Nat.le_refl _), h.eds.below hb (Nat.le_refl _), h.apart, fun q h1 h2 => (hb.block q (by have := h.sz; omega)).trans (h.kept q h1 h2), Nat.le_trans h.sz hb.size,
  ⟨hb.os.trans h.env.1, hb.tape.trans h.env.2.1, hb.output.trans h.env.2.2⟩, h.bel, h.at_⟩
theorem QbW.drew (h : QbW w wD wr b7 s i A1 n2 c1 J Ab kb cb A3 k c3 E) : QbW w wD wr.drew b7 s i A1 n2 c1 J Ab kb cb A3 k c3 E := h.below (Below.refl _ _).drew
theorem QbW.grown (h : QbW w wD wr b7 s i A1 n2 c1 J Ab kb cb A3 k c3 E) (hg : wr.grownBy w' (Value.slice A3 k c3).ownBlock) {A7 : Option Addr} {k7 c7 : Nat} {E' : List Ed} (ho : Own 3 ev w' (w.heap.size + 3) 84 A7 k7 c7 E')
  (hat : (Value.slice A7 k7 c7).ownBlock = (Value.slice A3 k c3).ownBlock ∨ (Value.slice A7 k7 c7).ownBlock = some wr.heap.size) : QbW w wD w' b7 s i A1 n2 c1 J Ab kb cb A7 k7 c7 E' := by
 have hb := h.eds.otherT h.box (by decide)
 have hr := h.eds.otherT h.res (by decide)
 refine ⟨(hg.block _ h.box.lt hb).trans h.box, (hg.block _ h.res.lt hr).trans h.res, h.labs.kept hg ?_, ho, fun q hq => ?_, fun q h1 h2 => ?_, Nat.le_trans h.sz hg.size, ⟨hg.os.trans h.env.1, hg.tape.trans h.env.2.1, hg.output.trans h.env.2.2⟩, h.bel, h.at_⟩
 ·rcases h.labs.2.2 with ⟨hv, hn⟩ | ⟨g, cap, cur, hv, hbg, hgc, -⟩
  ·exact .inl (by rw [hv]; rfl)
  ·right
   rw [hv]
   exact h.eds.otherT hgc (by decide)
 ·rcases hat with e | e
  ·exact h.apart q (by rw [← e]; exact hq)
  ·right
   have e2 := hq.symm.trans e
   injection e2 with e2
   have := h.sz
   omega
 ·refine (hg.block q (by have := h.sz; omega) fun e => ?_).trans (h.kept q h1 h2)
  have h3 := (h.eds.lt q e.symm).1
  have h4 := h.apart q e.symm
  rcases h2 with h2 | h2 <;> omega
theorem QbW.set (h : QbW w wD wr b7 s i A1 n2 c1 J Ab kb cb A3 k c3 E) : QbW w wD (wr.setCell ⟨b7, 3, none⟩ (.slice A3 k c3)) b7 s i A1 n2 c1 J A3 k c3 A3 k c3 E := by
 have hb := h.eds.otherT h.box (by decide)
 have hl : some b7 ≠ (Value.slice A1 n2 c1).ownBlock := h.labs.otherT h.box (by decide)
 refine ⟨h.box.set3, (Below.heap_setCell _ _ _ _ (by have := h.at_; show w.heap.size + 2 ≠ b7; omega)).trans h.res, h.labs.asideL hl _, h.eds.asideL hb _, h.apart, fun q h1 h2 => (Below.heap_setCell _ _ _ _ (by have := h.at_; show q ≠ b7; omega)).trans (h.kept q h1 h2), by rw [World.size_setCell]; exact h.sz, h.env, h.bel, h.at_⟩
theorem QbW.later (h : QbW w wD wD b7 s i A1 n2 c1 J Ab kb cb A3 k c3 E) (ha : ∀ q, (Value.slice A3 k c3).ownBlock = some q → q < b7) (hb : Below wD.heap.size wD w') : QbW w w' w' b7 s i A1 n2 c1 J Ab kb cb A3 k c3 E := by
 have h2 := h.below hb
 exact ⟨h2.box, h2.res, h2.labs, h2.eds, fun q hq => .inl (ha q hq), fun _ _ _ => rfl, Nat.le_refl _, ⟨rfl, rfl, rfl⟩, h.bel.trans (hb.mono h.bel.size), h.at_.1, by have := h.at_.2; have := hb.size; omega⟩
theorem QbW.done (h : QbW w wD wr b7 s i A1 n2 c1 J A3 k c3 A3 k c3 E) (v0 v1 v2 v3 : Value) :
  SlS (put4 wr (w.heap.size + 2) v0 v1 v2 v3) w.heap.size (put4 wr (w.heap.size + 2) v0 v1 v2 v3).heap.size A1 n2 J ∧ SlE (put4 wr (w.heap.size + 2) v0 v1 v2 v3) w.heap.size (put4 wr (w.heap.size + 2) v0 v1 v2 v3).heap.size A3 k E ∧ Below w.heap.size w (put4 wr (w.heap.size + 2) v0 v1 v2 v3) := by
 have hz := put4_size wr (w.heap.size + 2) v0 v1 v2 v3
 have ha := h.at_
 have hs := h.bel.size
 refine ⟨?_, ?_, ?_⟩
 ·exact (Sl.keep (h.labs.sl flat_strv) (Nat.le_of_eq hz.symm) fun q h1 h2 h3 => put4_other _ _ _ _ _ _ (by omega)).more (by omega) (Nat.le_of_eq hz.symm)
 ·exact (Sl.keep (h.eds.sl flat_ev) (Nat.le_of_eq hz.symm) fun q h1 h2 h3 => put4_other _ _ _ _ _ _ (by omega)).more (by omega) (Nat.le_of_eq hz.symm)
 ·refine ⟨h.env.1.trans h.bel.os, h.env.2.1.trans h.bel.tape, h.env.2.2.trans h.bel.output, by rw [hz]; exact Nat.le_trans hs h.sz, fun q hq => ?_⟩
  exact (put4_other _ _ _ _ _ _ (by omega)).trans ((h.kept q (by omega) (.inl (by omega))).trans (h.bel.block q hq))
end
set_option maxRecDepth 100000 in
set_option maxHeartbeats 1600000 in
theorem tidyB_calls {w wD wr : World} {b7 : Nat} {s i : Int} {A1 : Option Addr} {n2 c1 : Nat} {J : List ByteArray} {A3 : Option Addr} {k c3 : Nat} {E : List Ed} (h : QbW w wD wr b7 s i A1 n2 c1 J A3 k c3 A3 k c3 E) (hk : k ≤ 1000000) :
  Calls Tryz.prog 169 #[.pointer (some ⟨b7, 0, none⟩)] wr fun e w' => ∃ n3, e = .returned (.tuple #[]) ∧ QbW w wD w' b7 s i A1 n2 c1 J A3 n3 c3 A3 n3 c3 (Lib.compact (sortE E)) := by
 have c3a := h.box.c3
 have hqS := hide (sortE_calls h.eds (by omega))
 replace h := hide h
 go_enter Tryz.func169, Tryz.ntmps169
 go_upto_region 1 with (first | (go_at_call 132; (with_reducible refine hqS.out.mono ?_); rintro e w6 ⟨rfl, hO6, hg6⟩))
 have hL6 := h.out.grown hg6 hO6 (.inl rfl)
 have c36 := hL6.box.c3
 obtain ⟨n3, hn3⟩ : ∃ n3, n3 = (Lib.compact (sortE E)).length := ⟨_, rfl⟩
 have hqC := compactE_calls hO6 (by omega) hO6.le_cap
 rw [← hn3] at hqC
 replace hqC := hide hqC
 replace hL6 := hide hL6
 replace hn3 := hide hn3
 clear hO6 hg6 hqS c3a h
 go_wp2_with (first | (go_at_call 228; (with_reducible refine hqC.out.mono ?_); rintro e w7 ⟨rfl, hO7, hg7⟩; have hL8 := hL6.out.grown hg7 hO7 (.inl (by cases A3 <;> rfl)); have c37 := hL8.box.c3; have f37 := hL8.box.f3))
 go_returns
 exact ⟨n3, rfl, hL8.set⟩
set_option maxRecDepth 100000 in
set_option maxHeartbeats 6400000 in
theorem quotientBranching_calls {w : World} {N ini : Nat} {A : Option Addr} {n : Nat} {B : Option Addr} {m : Nat} {ls : List ByteArray} {es : List Ed} (h : SysA w N ini A n B m ls es) (c d : Nat) (P : Option Addr) (cP : Nat) (p : List Int) (hP : SlI w 0 w.heap.size P N p) (hp : PartN N p) (dv : Bool) :
  Calls Tryz.prog 197 #[.agg #[.int .i64 (N : Int), .int .i64 (ini : Int), .slice A n c, .slice B m d], .slice P N cP, .bool dv] w fun e w' => ∃ A2 c2 A3 n3 c3, e = .returned (.agg #[.int .i64 ((numB p : Nat) : Int), .int .i64 (pv p (ini : Int)), .slice A2 n c2, .slice A3 n3 c3]) ∧ SlS w' w.heap.size w'.heap.size A2 n ls ∧ SlE w' w.heap.size w'.heap.size A3 n3 (quoB es N dv p) ∧ Below w.heap.size w w' := by
 have hE := hide elem_edge
 have hm := h.many
 obtain ⟨⟨hN1, hN2⟩, hini⟩ := h.bounds
 have hB := h.box (c := c) (d := d)
 obtain ⟨w3, hw3⟩ : ∃ w3, w3 = ((w.alloc (ltsC N ini A n c B m d)).alloc (.cells #[.slice P N cP] 32)).alloc (.cells #[.int .i64 0, .int .i64 0, .slice none 0 0, .slice none 0 0] 27) := ⟨_, rfl⟩
 have z1 : (w.alloc (ltsC N ini A n c B m d)).heap.size = w.heap.size + 1 := World.size_alloc _ _
 have hb2 : Below (w.heap.size + 1) (w.alloc (ltsC N ini A n c B m d)) w3 := by
  rw [hw3]
  exact ((Below.refl _ _).alloc (by rw [z1]; exact Nat.le_refl _) _).alloc (by rw [World.size_alloc, z1]; omega) _
 have hBw := hB.below (by rw [z1]; exact hb2)
 have z3 : w3.heap.size = w.heap.size + 3 := by rw [hw3, World.size_alloc, World.size_alloc, z1]
 have kP : w3.heap[w.heap.size + 1]? = some (.cells #[.slice P N cP] 32 (0, 0)) := by
  rw [hw3]
  refine (Below.heap_alloc _ _ _ (by rw [World.size_alloc, z1]; omega)).trans ?_
  have := heap_alloc_new (w.alloc (ltsC N ini A n c B m d)) (.cells #[.slice P N cP] 32)
  rw [z1] at this
  exact this
 have kR : w3.heap[w.heap.size + 2]? = some (.cells #[.int .i64 0, .int .i64 0, .slice none 0 0, .slice none 0 0] 27 (0, 0)) := by
  rw [hw3]
  have := heap_alloc_new ((w.alloc (ltsC N ini A n c B m d)).alloc (.cells #[.slice P N cP] 32)) (.cells #[.int .i64 0, .int .i64 0, .slice none 0 0, .slice none 0 0] 27)
  rw [World.size_alloc, z1] at this
  exact this
 have hP3 := (hP.below hBw.bel (.inr (Nat.le_refl _))).here'
 have hends := hide h.ends
 have hprg := hp.range
 have qQ := hide (quotient_calls hBw.sys c d P cP p hP3 (fun x hx => by have := hprg x hx; omega) 261 #[.pointer (some ⟨w.heap.size + 1, 0, none⟩)] (outG p) (fun v W => by kernel_rfl) fun e W hx hW =>
  qub1_calls N P cP p (w.heap.size + 1) e.1 e.2.1 e.2.2 W _ _ (hP3.below hW (.inr (Nat.le_refl _))) (by have := hW.size; omega) ((cell_of_row _ _ 0 _ _ (0, 0) ((hW.block _ (by omega)).trans kP)).trans rfl) (hends.out _ hx).1 (hends.out _ hx).2)
 have b0 := hBw.box.c0
 have b1 := hBw.box.c1
 have b2 := hBw.box.c2
 have b3 := hBw.box.c3
 have p0 : w3.cell? ⟨w.heap.size + 1, 0, none⟩ = some (.slice P N cP) := (cell_of_row _ _ 0 _ _ (0, 0) kP).trans rfl
 have zz : w.heap.size + 2 < w3.heap.size := by omega
 have zz1 : w.heap.size + 1 < w3.heap.size := by omega
 have zz2 : w.heap.size ≤ w3.heap.size := by omega
 have zz3 : w.heap.size + 3 ≤ w3.heap.size := by omega
 have zz4 : w3.heap.size ≤ w.heap.size + 3 := by omega
 have hed := hide h.edges
 replace kR := hide kR
 replace kP := hide kP
 replace hBw := hide hBw
 replace z3 := hide z3
 replace hP3 := hide hP3
 clear h hB hb2 hP z1
 go_enter Tryz.func197, Tryz.ntmps197
 go_upto_region 1 with fail
 rw [← show w3 = _ from hw3]
 replace hw3 := hide hw3
 go_wp2_with fail
 refine qQ.out.mono ?_
 rintro e w4 ⟨M, A1, c1, A3, n3, c3, hM, rfl, hS4, hE4, hb4, hLO, hEO⟩
 have hMn : M + 1 = ((numB p : Nat) : Int) := max_numB hp hM
 rw [hMn]
 replace hMn := hide hMn
 have hz4 := hb4.size
 obtain ⟨w5, hw5⟩ : ∃ w5, w5 = w4.alloc (.cells #[.int .i64 ((numB p : Nat) : Int), .int .i64 (pv p (ini : Int)), .slice A1 n c1, .slice A3 n3 c3] 27) := ⟨_, rfl⟩
 obtain ⟨b7, hb7⟩ : ∃ b7, b7 = w4.heap.size := ⟨_, rfl⟩
 have hb45 : Below w4.heap.size w4 w5 := by rw [hw5]; exact (Below.refl _ _).alloc (Nat.le_refl _) _
 have hb35 := hb4.trans (hb45.mono hz4)
 have hz5 : w5.heap.size = w4.heap.size + 1 := by rw [hw5]; exact World.size_alloc _ _
 have hQ5 : QbW w w5 w5 b7 ((numB p : Nat) : Int) (pv p (ini : Int)) A1 n c1 ls A3 n3 c3 A3 n3 c3 (quoF p (outG p) es) :=
  ⟨by rw [hw5, hb7]; exact heap_alloc_new w4 _, (hb35.block _ zz).trans kR.out, (hLO.sink zz3).below hb45 (Nat.le_refl _), (hEO.sink zz3).below hb45 (Nat.le_refl _), fun q hq => .inl (by rw [hb7]; exact (hEO.lt q hq).2), fun _ _ _ => rfl, Nat.le_refl _, ⟨rfl, rfl, rfl⟩, hBw.out.bel.trans (hb35.mono zz2), by omega, by omega⟩
 have hap5 : ∀ q, (Value.slice A3 n3 c3).ownBlock = some q → q < b7 := fun q hq => by rw [hb7]; exact (hEO.lt q hq).2
 have hB5 := hide (hBw.out.below hb35)
 have hP5 := hide ((hP3.out.below hb35 (.inr (Nat.le_refl _))).here')
 have kP5 : Hid (w5.heap[w.heap.size + 1]? = some (.cells #[.slice P N cP] 32 (0, 0))) := (hb35.block _ zz1).trans kP.out
 have hzw5 : w3.heap.size ≤ w5.heap.size := hb35.size
 have hb7w : w.heap.size + 3 ≤ b7 := by omega
 have hn3 : n3 ≤ 300 := by
  have h1 := hE4.len
  have h2 : (quoF p (outG p) es).length ≤ es.length := by
   unfold quoF
   refine Nat.le_trans (compactE_len _) ?_
   rw [sortE_len, List.length_map]
   exact List.length_filter_le _ _
  omega
 replace hap5 := hide hap5
 replace hQ5 := hide hQ5
 replace hb45 := hide hb45
 replace hb35 := hide hb35
 replace hz5 := hide hz5
 replace hM := hide hM
 clear qQ hS4 hE4 hb4 hLO hEO b0 b1 b2 b3 p0
 go_upto_region 2 with fail
 rw [← show w5 = _ from hw5, ← hb7]
 replace hw5 := hide hw5
 replace hb7 := hide hb7
 cases dv with
 | false =>
  have y0 := hQ5.out.box.c0
  have y1 := hQ5.out.box.c1
  have y2 := hQ5.out.box.c2
  have y3 := hQ5.out.box.c3
  have r0 := hQ5.out.res.c0
  have r1 := hQ5.out.res.c1
  have r2 := hQ5.out.res.c2
  have r3 := hQ5.out.res.c3
  have v0 := hQ5.out.res.f0
  have v1 := hQ5.out.res.f1
  have v2 := hQ5.out.res.f2
  have v3 := hQ5.out.res.f3
  go_wp2_with fail
  (try simp only [Exit.inBlock, Exit.then])
  refine bodyPost_ret_by (v := .agg #[.int .i64 ((numB p : Nat) : Int), .int .i64 (pv p (ini : Int)), .slice A1 n c1, .slice A3 n3 c3]) ?_ rfl ?_
  focus
   rw [results_cell1 rfl]
   go_simp
  obtain ⟨f1, f2, f3⟩ := hQ5.out.done (.int .i64 ((numB p : Nat) : Int)) (.int .i64 (pv p (ini : Int))) (.slice A1 n c1) (.slice A3 n3 c3)
  exact ⟨A1, c1, A3, n3, c3, rfl, f1, f2, f3⟩
 | true =>
  have b0 := hB5.out.box.c0
  have b1 := hB5.out.box.c1
  have b2 := hB5.out.box.c2
  have b3 := hB5.out.box.c3
  have p0 : w5.cell? ⟨w.heap.size + 1, 0, none⟩ = some (.slice P N cP) := (cell_of_row _ _ 0 _ _ (0, 0) kP5.out).trans rfl
  have qI := hide (inertOnly_calls hB5.out.sys c d P cP p hP5.out)
  go_upto_region 3 with fail
  go_wp2_with fail
  refine qI.out.mono ?_
  rintro e w6 ⟨B2, m2, d2, rfl, hE2, hm2, hb6⟩
  have qD := hide (divergent_calls N ini A n c B2 m2 d2 (es.filter (inG p)) w6 hE2.here' (by omega) hN1 hN2 fun e hx => hed.out e (List.mem_filter.1 hx).1)
  have hz6 := hb6.size
  replace hb6 := hide hb6
  clear qI hE2 b0 b1 b2 b3 p0
  go_wp2_with fail
  refine qD.out.mono ?_
  rintro e w7 ⟨AD, cD, rfl, hD, hb7'⟩
  obtain ⟨wB, rfl⟩ : ∃ wB : World, wB = w7 := ⟨_, rfl⟩
  have hb5B := hide (hb6.out.trans (hb7'.mono hz6))
  have hQB := hide (hQ5.out.later hap5.out hb5B.out)
  have hPB := hide (hP5.out.below hb5B.out (.inr (Nat.le_refl _)))
  have kPB : Hid (wB.heap[w.heap.size + 1]? = some (.cells #[.slice P N cP] 32 (0, 0))) := (hb5B.out.block _ (by omega)).trans kP5.out
  have hPlo : Hid (SlI wB 0 w3.heap.size P N p) := (((hP3.out.below hb35.out (.inl (Nat.le_refl _))).below hb5B.out (.inl hzw5)))
  have hDB := hide hD
  have hz5B := hb5B.out.size
  have hb7lt : b7 < w5.heap.size := hQ5.out.at_.2
  clear qD hD hb7'
  go_wp2_with fail
  go_loopw [20] (fun v20 wr => ∃ (k k5 c5 : Nat) (A5 : Option Addr), k ≤ N ∧ v20 = .int .i64 (k : Nat) ∧ k5 ≤ n3 + k ∧ Hid (QbW w wB wr b7 ((numB p : Nat) : Int) (pv p (ini : Int)) A1 n c1 ls A5 k5 c5 A5 k5 c5 (quoF p (outG p) es ++ lpE es N p k))) (fun v _ => N - (intOf v).toNat)
  case atStart => exact ⟨0, n3, c3, A3, Nat.zero_le _, rfl, Nat.le_refl _, by
   have := hQB.out
   rw [show lpE es N p 0 = [] from rfl, List.append_nil]
   exact this⟩
  case round =>
   clear hQB
   obtain ⟨k, k5, c5, A5, hk, rfl, hk5, hQ⟩ := hrel
   by_cases hlt : k < N
   ·have k0 : (0 : Int) ≤ (k : Int) := by omega
    have k1 : (k : Int) < (N : Int) := by omega
    obtain ⟨gD, oD, rfl, gD1, gD2, gD3, -, cdk, -⟩ := SlB.get hDB.out hlt
    obtain ⟨gP, oP, pk, rfl, -, gP1, -, hpk, cpk, -⟩ := SlI.get hPlo.out hlt
    have hkeep : ∀ {wx : World} {A7 A8 : Option Addr} {q7 q8 r7 r8 : Nat} {E7 : List Ed}, QbW w wB wx b7 ((numB p : Nat) : Int) (pv p (ini : Int)) A1 n c1 ls A7 q7 r7 A8 q8 r8 E7 → ∀ q, q < wB.heap.size → (q < w.heap.size + 3 ∨ b7 < q) → wx.heap[q]? = wB.heap[q]? := fun hx => hx.kept
    obtain ⟨dk, hdk⟩ : ∃ dk, dk = inS (dvgL (es.filter (inG p)) N) k := ⟨_, rfl⟩
    rw [← hdk] at cdk
    have cdk2 : wr.cell? ⟨gD, oD + k, none⟩ = some (.bool dk) := (World.cell?_of_block (w := wB) (by simpa using hkeep hQ.out gD gD3 (.inr (by omega)))).trans cdk
    have hstep := hide (lpE_succ (es := es) (N := N) (p := p) (k := k))
    cases dk with
    | false =>
     have hQ2 : Hid (QbW w wB wr b7 ((numB p : Nat) : Int) (pv p (ini : Int)) A1 n c1 ls A5 k5 c5 A5 k5 c5 (quoF p (outG p) es ++ lpE es N p (k + 1))) := by
      show QbW _ _ _ _ _ _ _ _ _ _ _ _ _ _ _ _ _
      rw [hstep.out, ← hdk, if_neg (by decide), List.append_nil]
      exact hQ.out
     replace hdk := hide hdk
     replace hpk := hide hpk
     clear cdk cpk
     go_wp2_with fail
     go_roundw
     case rel => exact ⟨k + 1, k5, c5, A5, by omega, by go_num, by omega, hQ2.out⟩
     case measure => simp [intOf]; omega
    | true =>
     have hx1 : Hid (lpE es N p (k + 1) = lpE es N p k ++ [(pk, 0, pk)]) := by
      show _ = _
      rw [hstep.out, ← hdk, if_pos rfl, hpk]; rfl
     obtain ⟨wD, hwD⟩ : ∃ wD, wD = wr.drew := ⟨_, rfl⟩
     have hQD : Hid (QbW w wB wD b7 ((numB p : Nat) : Int) (pv p (ini : Int)) A1 n c1 ls A5 k5 c5 A5 k5 c5 (quoF p (outG p) es ++ lpE es N p k)) := by show QbW _ _ _ _ _ _ _ _ _ _ _ _ _ _ _ _ _; rw [hwD]; exact hQ.out.drew
     have hSX : Hid (∀ {A8 : Option Addr} {q8 r8 : Nat} {E7 : List Ed} (wx : World), QbW w wB wx b7 ((numB p : Nat) : Int) (pv p (ini : Int)) A1 n c1 ls A5 k5 c5 A8 q8 r8 E7 → wx.cell? ⟨b7, 3, none⟩ = some (.slice A5 k5 c5) ∧ wx.cell? ⟨w.heap.size + 1, 0, none⟩ = some (.slice (some ⟨gP, oP, none⟩) N cP) ∧ wx.cell? ⟨gP, oP + k, none⟩ = some (.int .i64 pk)) := fun wx hx => by
      have h1 := (hx.kept (w.heap.size + 1) (by omega) (.inl (by omega))).trans kPB.out
      refine ⟨hx.box.c3, (cell_of_row _ _ 0 _ _ (0, 0) h1).trans rfl, ?_⟩
      exact (World.cell?_of_block (w := wB) (by simpa using hx.kept gP (by omega) (.inl (by omega)))).trans cpk
     have hSD := hSX.out wD hQD.out
     have hlit := hide (Sl.lit1' (f := ev) wD 84 (pk, 0, pk) #[.int .i64 pk, .int .i64 0, .int .i64 pk] rfl 3 _ rfl)
     have hQL := hide (hQD.out.below ((Below.refl _ _).alloc (Nat.le_refl _) (.cells #[.int .i64 pk, .int .i64 0, .int .i64 pk] 84)))
     have hOL := hide hQL.out.eds
     have hSL := hSX.out _ hQL.out
     have hza : w.heap.size + 3 ≤ (wD.alloc (.cells #[.int .i64 pk, .int .i64 0, .int .i64 pk] 84)).heap.size := by rw [World.size_alloc]; have := hQD.out.sz; omega
     have hsz : (k5 + 1) * 24 ≤ 140737488355328 := by omega
     replace hdk := hide hdk
     replace hpk := hide hpk
     replace hwD := hide hwD
     clear cdk cpk
     go_upto_region 7 with fail
     clear cdk2
     focus
       refine lateT_begin (S := fun w' => w'.cell? ⟨b7, 3, none⟩ = some (.slice A5 k5 c5) ∧ w'.cell? ⟨w.heap.size + 1, 0, none⟩ = some (.slice (some ⟨gP, oP, none⟩) N cP) ∧ w'.cell? ⟨gP, oP + k, none⟩ = some (.int .i64 pk)) (st := 14) (by kernel_rfl) ?_
       rw [← show wD = _ from hwD.out]
       have hS0 : (fun w' : World => w'.cell? ⟨b7, 3, none⟩ = some (.slice A5 k5 c5) ∧ w'.cell? ⟨w.heap.size + 1, 0, none⟩ = some (.slice (some ⟨gP, oP, none⟩) N cP) ∧ w'.cell? ⟨gP, oP + k, none⟩ = some (.int .i64 pk)) wD := hSD
       refine tkA ?_ 0 [14] rfl (Or.inl ⟨by rfl, ?hy⟩) hS0 ?_
       case hy => intro w hSw; (try dsimp only at hSw); go_simp <;> with_reducible rfl
       (try simp only [Act.put, sA, sB, sC])
       refine tkA ?_ 1 [14] rfl (Or.inl ⟨by rfl, ?hy⟩) hS0 ?_
       case hy => intro w hSw; (try dsimp only at hSw); go_simp <;> with_reducible rfl
       (try simp only [Act.put, sA, sB, sC])
       refine tkA ?_ 2 [14] rfl (Or.inl ⟨by rfl, ?hy⟩) hS0 ?_
       case hy => intro w hSw; (try dsimp only at hSw); go_simp <;> with_reducible rfl
       (try simp only [Act.put, sA, sB, sC])
       refine tkA ?_ 3 [14] rfl (Or.inl ⟨by rfl, ?hy⟩) hS0 ?_
       case hy => intro w hSw; (try dsimp only at hSw); go_simp <;> with_reducible rfl
       (try simp only [Act.put, sA, sB, sC])
       refine tkA ?_ 4 [14] rfl (Or.inl ⟨by rfl, ?hy⟩) hS0 ?_
       case hy => intro w hSw; (try dsimp only at hSw); go_simp <;> with_reducible rfl
       (try simp only [Act.put, sA, sB, sC])
       refine tkA ?_ 5 [14] rfl (Or.inl ⟨by rfl, ?hy⟩) hS0 ?_
       case hy => intro w hSw; (try dsimp only at hSw); go_simp <;> with_reducible rfl
       (try simp only [Act.put, sA, sB, sC])
       refine tkA ?_ 6 [14] rfl (Or.inl ⟨by rfl, ?hy⟩) hS0 ?_
       case hy => intro w hSw; (try dsimp only at hSw); go_simp <;> with_reducible rfl
       (try simp only [Act.put, sA, sB, sC])
       refine tkA ?_ 7 [14] rfl (Or.inl ⟨by rfl, ?hy⟩) hS0 ?_
       case hy => intro w hSw; (try dsimp only at hSw); go_simp <;> with_reducible rfl
       (try simp only [Act.put, sA, sB, sC])
       refine tkA ?_ 8 [14] rfl (Or.inl ⟨by rfl, ?hy⟩) hS0 ?_
       case hy => intro w hSw; (try dsimp only at hSw); go_simp <;> with_reducible rfl
       (try simp only [Act.put, sA, sB, sC])
       refine tkA ?_ 9 [14] rfl (Or.inl ⟨by rfl, ?hy⟩) hS0 ?_
       case hy => intro w hSw; (try dsimp only at hSw); go_simp <;> with_reducible rfl
       (try simp only [Act.put, sA, sB, sC])
       refine tkA ?_ 10 [14] rfl (Or.inl ⟨by rfl, ?hy⟩) hS0 ?_
       case hy => intro w hSw; (try dsimp only at hSw); go_simp <;> with_reducible rfl
       (try simp only [Act.put, sA, sB, sC])
       refine lateT_step (i := 11) (by kernel_rfl) rfl (fun K hK => ?_)
       go_simp
       refine hK.out _ _ (fun _ => hSL) ?_
       clear hK K
       (try simp only [Act.put, sA, sB, sC])
       refine lateT_step (i := 12) (by kernel_rfl) rfl (fun K hK => ?_)
       refine step_appL (m := 1) (d := 1) (by rfl) (.tmp 27) (.tmp 37) (by rfl) hE.out flat_ev (by go_simp) hOL.out (by go_simp) hlit.out hsz hza ?_
       intro A6 c6 w6 hown6 hgr6 hb6 hat6
       have hQ6 := hQL.out.grown hgr6 hown6 hat6
       have hS6 := hSX.out w6 hQ6
       have y3 := hQ6.box.c3
       have v3 := hQ6.box.f3
       replace hQ6 := hide hQ6
       refine hK.out _ _ (fun _ => hS6) ?_
       clear hK K
       (try simp only [Act.put, sA, sB, sC])
       refine lateT_step (i := 13) (by kernel_rfl) rfl (fun K hK => ?_)
       go_simp
       refine hK.out _ _ (fun _ => hS6) ?_
       clear hK K
       (try simp only [Act.put, sA, sB, sC])
       refine lateT_step (i := 14) (by kernel_rfl) rfl (fun K hK => ?_)
       go_simp
       refine hK.out _ _ (fun h => absurd rfl h) ?_
       clear hK K
       (try simp only [Act.put, sA, sB, sC])
       refine lateT_done (by kernel_rfl) ?_ _
       have hQ7 := hQ6.out.set
       rw [List.append_assoc, ← hx1.out] at hQ7
       replace hQ7 := hide hQ7
       go_wp2_with fail
       go_roundw
       case rel => exact ⟨k + 1, k5 + 1, c6, A6, by omega, by go_num, by omega, hQ7.out⟩
       case measure => simp [intOf]; omega
   ·obtain rfl : k = N := by omega
    have i1 : ¬ (k : Int) < (k : Int) := by omega
    have qT := hide (tidyB_calls hQ.out (by omega))
    go_upto_region 10 with (first | (go_at_call 169; (with_reducible refine qT.out.mono ?_); rintro e w9 ⟨n9, rfl, hQ9⟩))
    have y0 := hQ9.box.c0
    have y1 := hQ9.box.c1
    have y2 := hQ9.box.c2
    have y3 := hQ9.box.c3
    have r0 := hQ9.res.c0
    have r1 := hQ9.res.c1
    have r2 := hQ9.res.c2
    have r3 := hQ9.res.c3
    have v0 := hQ9.res.f0
    have v1 := hQ9.res.f1
    have v2 := hQ9.res.f2
    have v3 := hQ9.res.f3
    replace hQ9 := hide hQ9
    clear qT
    go_wp2_with fail
    (try simp only [Exit.inBlock, Exit.then])
    refine bodyPost_ret_by (v := .agg #[.int .i64 ((numB p : Nat) : Int), .int .i64 (pv p (ini : Int)), .slice A1 n c1, .slice A5 n9 c5]) ?_ rfl ?_
    focus
     rw [results_cell1 rfl]
     go_simp
    obtain ⟨f1, f2, f3⟩ := hQ9.out.done (.int .i64 ((numB p : Nat) : Int)) (.int .i64 (pv p (ini : Int))) (.slice A1 n c1) (.slice A5 n9 c5)
    exact ⟨A1, c1, A5, n9, c5, rfl, f1, f2, f3⟩
end Go.Proofs.YtnhomkmfbngmgaaGreatDoor
