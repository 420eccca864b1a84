/-
  Lemmas that the law of this claim leans on. Conditions: sizes.
-/
import Derived.Test.YtnhomkmfbngmgaaGreatDoorBaseC
import Derived.Test.YtnhomkmfbngmgaaGreatDoorBaseF
import Derived.Test.YtnhomkmfbngmgaaGreatDoorBaseG
import Derived.Test.YtnhomkmfbngmgaaGreatDoorBaseI
import Derived.Test.YtnhomkmfbngmgaaGreatDoorBaseK
import Derived.Test.YtnhomkmfbngmgaaGreatDoorBaseL
import Derived.Test.YtnhomkmfbngmgaaGreatDoorBaseM
set_option maxHeartbeats 6400000
set_option maxRecDepth 100000
set_option linter.unusedSimpArgs false
set_option linter.unusedVariables false
namespace Go.Proofs.YtnhomkmfbngmgaaGreatDoor
open Go.ChangeShapes Go.WideShapes Go.ChangeAt Go.RowKit Go.Sort
section
variable {w : World} {N ini : Nat} {A : Option Addr} {n : Nat} {B : Option Addr} {m : Nat} {ls : List ByteArray} {es : List Ed}
theorem branching1_calls (h : SysA w N ini A n B m ls es) (c d : Nat) (bt bd : Nat) (hbx : LtsBox w bt (N : Int) (ini : Int) A n c B m d) (dv : Bool) (hd : w.cell? ⟨bd, 0, none⟩ = some (.bool dv)) (P : Option Addr) (cP : Nat) (p : List Int) (hP : SlI w 0 w.heap.size P N p) (hp : PartN N p) :
  Calls Tryz.prog 199 (#[.slice P N cP] ++ #[.pointer (some ⟨bt, 0, none⟩), .pointer (some ⟨bd, 0, none⟩)]) w fun e w' => ∃ Q c', e = .returned (.slice Q N c') ∧ SlI w' w.heap.size w'.heap.size Q N (refB es N dv p) ∧ Below w.heap.size w w' ∧ N ≤ c' := by
 have q := hide (refineBranching_calls h c d P cP p hP hp dv);have b0 := hbx.c0;have b1 := hbx.c1;have b2 := hbx.c2;have b3 := hbx.c3;clear h hbx hP
 show Calls Tryz.prog 199 #[.slice P N cP, .pointer (some ⟨bt, 0, none⟩), .pointer (some ⟨bd, 0, none⟩)] w _
 go_enter Tryz.func199, Tryz.ntmps199;go_wp2_with fail;refine q.out.mono ?_;rintro e w2 ⟨Q, rfl, hQ, hb⟩;replace hQ := hide hQ;replace hb := hide hb;clear q;go_wp2_with fail;go_ret;exact ⟨_, N, rfl, hQ.out, hb.out, zR⟩
theorem branching_calls (h : SysA w N ini A n B m ls es) (c d : Nat) (dv : Bool) :
  Calls Tryz.prog 107 #[.agg #[.int .i64 (N : Int), .int .i64 (ini : Int), .slice A n c, .slice B m d], .bool dv] w fun e w' => ∃ r P cP, e = .returned (.slice P N cP) ∧ LastG (refB es N dv) N r ∧ SlI w' w.heap.size w'.heap.size P N (itP (refB es N dv) N r) ∧ Below w.heap.size w w' ∧ N ≤ cP := by
 have hB := h.box (c := c) (d := d);have hed := h.edges;obtain ⟨⟨hN1, hN2⟩, hini⟩ := h.bounds;have hRf : RefG (refB es N dv) N := refB_ref hed;obtain ⟨w1, hw1⟩ : ∃ w1, w1 = w.alloc (ltsC N ini A n c B m d) := ⟨_, rfl⟩;rw [← hw1] at hB;obtain ⟨w2, hw2⟩ : ∃ w2, w2 = w1.alloc (.cells #[.bool dv] 4) := ⟨_, rfl⟩;have hb12 : Below w1.heap.size w1 w2 := by rw [hw2]; exact (Below.refl _ _).alloc zR _
 have kD : w2.heap[w1.heap.size]? = some (.cells #[.bool dv] 4 (0, 0)) := by rw [hw2]; exact heap_alloc_new w1 _
 have z1 : w1.heap.size = w.heap.size + 1 := by rw [hw1]; exact World.size_alloc _ _
 rw [z1] at kD;have hB2 := hB.below hb12;have hkl : w.heap.size + 1 < w2.heap.size := (Array.getElem?_eq_some_iff.1 kD).1;have hnx : NextOkG (refB es N dv) N 199 #[.pointer (some ⟨w.heap.size, 0, none⟩), .pointer (some ⟨w.heap.size + 1, 0, none⟩)] w2 := by
  intro k P cP W lo hi hW hP;have hB3 := hB2.below hW;exact branching1_calls hB3.sys c d w.heap.size (w.heap.size + 1) hB3.box dv ((cell_of_row _ _ 0 _ _ (0, 0) ((hW.block _ hkl).trans kD)).trans rfl) P cP _ hP.here' (itP_part hRf k)
 have q2 := hide (roundsG_calls (refB es N dv) N hN1 hN2 hRf 199 #[.pointer (some ⟨w.heap.size, 0, none⟩), .pointer (some ⟨w.heap.size + 1, 0, none⟩)] w2 hnx fun v W => by kernel_rfl);have b0 := hB2.box.c0;have hz2 := hB2.bel.size;replace hB2 := hide hB2;replace kD := hide kD;replace z1 := hide z1;clear h hB hnx hb12;go_enter Tryz.func107, Tryz.ntmps107;go_upto_region 1 with fail;have hw12 : (w.alloc (.cells #[.int .i64 (N : Int), .int .i64 (ini : Int), .slice A n c, .slice B m d] 27)).alloc (.cells #[.bool dv] 4) = w2 := by rw [hw2, hw1]
 rw [hw12];replace hw1 := hide hw1;replace hw2 := hide hw2;replace hw12 := hide hw12;go_wp2_with fail;refine q2.out.mono ?_;rintro e w3 ⟨r, A3, c3, R, rfl, hL, hR⟩;have hbF := hide (hB2.out.bel.trans (hR.below.mono hz2));have hr1 := itP_bound hRf hN1 hL.2;obtain ⟨bo, oo, Ah, ch, s, rfl, go1, go2, hrj, co, hsj, hoff⟩ := hR.grow.get (show r < r + 1 by omega);have hs : s = itP (refB es N dv) N r := by
  have h1 : (R.map (·.2))[r]? = some s := by rw [List.getElem?_map, hrj]; rfl
  rw [hR.vals, List.getElem?_map, List.getElem?_range (by omega)] at h1;exact (Option.some.inj h1).symm
 subst hs;have q3 := hide (lastR_calls _ _ N r c3 R w3 hR.grow (by omega) hrj);have hsF := hide (hsj.more hz2 zR);have hcap := hide (hR.caps _ (List.mem_of_getElem? hrj));replace hL := hide hL;replace hR := hide hR;replace hsj := hide hsj;clear q2 b0 co hrj hoff;go_wp2_with fail;refine q3.out.mono ?_;rintro e w4 ⟨rfl, rfl⟩;go_wp2_with fail;go_ret;exact ⟨r, Ah, ch, rfl, hL.out, hsF.out, hbF.out, hcap.out⟩
end
end Go.Proofs.YtnhomkmfbngmgaaGreatDoor
namespace Go.Proofs.YtnhomkmfbngmgaaGreatDoor
open Go.Sort
section
variable {ls : List ByteArray} {es : List Ed} {α : Type} {q : Nat → α} {t0 : ByteArray} {d : Prop}
theorem nd_inj (hn : ls.Nodup) {i j : Nat} {s : ByteArray} (h : ls[i]? = some s) (g : ls[j]? = some s) : i = j := by
 obtain ⟨hi, e1⟩ := List.getElem?_eq_some_iff.1 h;obtain ⟨hj, e2⟩ := List.getElem?_eq_some_iff.1 g;exact (List.getElem_inj hn).1 (e1.trans e2.symm)
theorem inrt_text (hn : ls.Nodup) (h0 : ls[0]? = some t0) : inrt (tE ls es) t0 q = inrt (nE es) (0 : Int) q := by
 funext x y
 refine propext ⟨fun h => ⟨?_, h.2⟩, fun h => ⟨⟨0, h.1, h0⟩, h.2⟩⟩;obtain ⟨l, g1, g2⟩ := h.1;rw [nd_inj hn g2 h0] at g1;exact g1
theorem offr_text (hn : ls.Nodup) (h0 : ls[0]? = some t0) {x : Nat} {s : ByteArray} {b : α} : offr (tE ls es) t0 q x s b ↔ ∃ l : Nat, ls[l]? = some s ∧ offr (nE es) (0 : Int) q x (l : Int) b := by
 unfold offr;rw [inrt_text hn h0]
 constructor
 ·rintro ⟨x1, x2, h1, ⟨l, g1, g2⟩, h3, h4⟩
  exact ⟨l, g2, x1, x2, h1, g1, h3, fun e => h4 ⟨by
   have : l = 0 := by omega
   rw [this, h0] at g2;exact (Option.some.inj g2).symm, e.2⟩⟩
 ·rintro ⟨l, g2, x1, x2, h1, g1, h3, h4⟩
  exact ⟨x1, x2, h1, ⟨l, g1, g2⟩, h3, fun e => h4 ⟨by
   have := e.1;subst this;rw [nd_inj hn g2 h0]; rfl, e.2⟩⟩
theorem offr_lab (hl : ∀ e, e ∈ es → 0 ≤ e.2.1 ∧ e.2.1 < (ls.length : Int)) {x : Nat} {l : Int} {b : α} (h : offr (nE es) (0 : Int) q x l b) : ∃ (k : Nat) (s : ByteArray), l = (k : Int) ∧ ls[k]? = some s := by
 obtain ⟨x1, x2, -, h, -, -⟩ := h;have := hl _ h;dsimp only at this;exact ⟨l.toNat, _, by omega, List.getElem?_eq_getElem (show l.toNat < ls.length by omega)⟩
theorem stb_text (hn : ls.Nodup) (h0 : ls[0]? = some t0) (hl : ∀ e, e ∈ es → 0 ≤ e.2.1 ∧ e.2.1 < (ls.length : Int)) : Stb (nE es) (0 : Int) d q ↔ Stb (tE ls es) t0 d q := by
 constructor
 ·intro h
  refine ⟨fun x y s b hq ho => ?_, by rw [inrt_text hn h0]; exact h.dvg⟩;obtain ⟨l, g1, g2⟩ := (offr_text hn h0).1 ho;exact (offr_text hn h0).2 ⟨l, g1, h.off x y _ b hq g2⟩
 ·intro h
  refine ⟨fun x y l b hq ho => ?_, by have := h.dvg; rw [inrt_text hn h0] at this; exact this⟩;obtain ⟨k, s, rfl, hs⟩ := offr_lab hl ho;obtain ⟨l2, g1, g2⟩ := (offr_text hn h0).1 (h.off x y s b hq ((offr_text hn h0).2 ⟨k, hs, ho⟩));rw [nd_inj hn hs g1];exact g2
end
section
variable {L : Type} {A B : Nat → L → Nat → Prop} {n m : Nat}
theorem emb_left (hA : ∀ x s y, A x s y → x < n ∧ y < n) (hB : ∀ x s y, B x s y → x < m ∧ y < m) {z : Nat} (hz : n + m ≤ z) : Emb A (sumE n A B) fun i => if i < n then i else z := by
 refine ⟨fun i l j h => ?_, fun i l y h => ?_⟩
 ·have := hA i l j h
  rw [if_pos this.1, if_pos this.2];exact .inl ⟨this.1, this.2, h⟩
 ·by_cases hi : i < n
  ·rw [if_pos hi] at h
   rcases h with ⟨_, h2, h⟩ | ⟨x', y', e, _, _⟩
   ·exact ⟨y, by rw [if_pos h2], h⟩
   ·omega
  ·rw [if_neg hi] at h
   rcases h with ⟨h2, _, _⟩ | ⟨x', y', e, _, h⟩
   ·omega
   ·have := hB _ _ _ h; omega
theorem emb_right : Emb B (sumE n A B) fun i => n + i := by
 refine ⟨fun i l j h => .inr ⟨i, j, rfl, rfl, h⟩, fun i l y h => ?_⟩
 rcases h with ⟨h1, _, _⟩ | ⟨x', y', e, rfl, h⟩
 ·omega
 ·obtain rfl : x' = i := by omega
  exact ⟨y', rfl, h⟩
end
section
variable {L : Type} {E M U : Nat → L → Nat → Prop} {τ : L} {d : Prop} {P : Nat → Nat} {f1 f2 : Nat → Nat} {q : Nat → Nat ⊕ Nat}
theorem quo_alike (hs : Stb E τ d P) (hM : QuoB E M τ d P) (h1 : Emb E U f1) (h2 : Emb M U f2) (q1 : ∀ i, q (f1 i) = .inl (P i)) (q2 : ∀ b, q (f2 b) = .inl b) (hc : ∀ u, (∃ i, u = f1 i) ∨ (∃ b, u = f2 b) ∨ q u = .inr u) : Stb U τ d q := by
 have hg : ∀ a b : Nat, (Sum.inl a : Nat ⊕ Nat) = Sum.inl b → a = b := fun a b h => Sum.inl.inj h
 have ho : ∀ u c, q u = .inl c → ∀ l b, offr U τ q u l b ↔ ∃ c', b = Sum.inl c' ∧ offr M τ (fun x => x) c l c' := by
  intro u c hu l b
  rcases hc u with ⟨i, rfl⟩ | ⟨k, rfl⟩ | e
  ·rw [q1] at hu
   rw [h1.off (P := P) (g := Sum.inl) q1 hg];have hu := Sum.inl.inj hu;subst hu;exact exists_congr fun c' => and_congr_right fun _ => quo_off hs hM
  ·rw [q2] at hu
   rw [h2.off (P := fun x => x) (g := Sum.inl) q2 hg];have hu := Sum.inl.inj hu;subst hu;exact Iff.rfl
  ·rw [e] at hu; cases hu
 have hd : d → ∀ u c, q u = .inl c → (Dvg (inrt U τ q) u ↔ Dvg (inrt M τ fun x => x) c) := by
  intro hd u c hu
  rcases hc u with ⟨i, rfl⟩ | ⟨k, rfl⟩ | e
  ·rw [q1] at hu
   rw [h1.dvg (P := P) (g := Sum.inl) q1 hg];have hu := Sum.inl.inj hu;subst hu;exact quo_dvg hs hM hd
  ·rw [q2] at hu
   rw [h2.dvg (P := fun x => x) (g := Sum.inl) q2 hg];have hu := Sum.inl.inj hu;subst hu;exact Iff.rfl
  ·rw [e] at hu; cases hu
 have hcase : ∀ u, (∃ c, q u = .inl c) ∨ q u = .inr u := fun u => by
  rcases hc u with ⟨i, rfl⟩ | ⟨k, rfl⟩ | e
  ·exact .inl ⟨_, q1 i⟩
  ·exact .inl ⟨_, q2 k⟩
  ·exact .inr e
 refine ⟨fun x y l b hq h => ?_, fun hd' x y hq h => ?_⟩
 ·rcases hcase x with ⟨c, e⟩ | e
  ·exact (ho y c (hq ▸ e) l b).2 ((ho x c e l b).1 h)
  ·rcases hcase y with ⟨c, e2⟩ | e2
   ·rw [hq, e2] at e; cases e
   ·rw [e, e2] at hq
    exact Sum.inr.inj hq ▸ h
 ·rcases hcase x with ⟨c, e⟩ | e
  ·exact (hd hd' y c (hq ▸ e)).2 ((hd hd' x c e).1 h)
  ·rcases hcase y with ⟨c, e2⟩ | e2
   ·rw [hq, e2] at e; cases e
   ·rw [e, e2] at hq
    exact Sum.inr.inj hq ▸ h
end
section
variable {L : Type} {A B C : Nat → L → Nat → Prop} {f g : Nat → Nat}
theorem Emb.comp (h : Emb A B f) (k : Emb B C g) : Emb A C fun i => g (f i) := by
 refine ⟨fun i l j e => k.up _ _ _ (h.up _ _ _ e), fun i l y e => ?_⟩;obtain ⟨j, rfl, e2⟩ := k.down (f i) l y e;obtain ⟨m, rfl, e3⟩ := h.down i l j e2;exact ⟨m, rfl, e3⟩
end
section
variable {ls : List ByteArray} {ea eb : List Ed} {f : Nat → Nat}
theorem Emb.text (h : Emb (nE ea) (nE eb) f) : Emb (tE ls ea) (tE ls eb) f := by
 refine ⟨fun i s j e => ?_, fun i s y e => ?_⟩
 ·obtain ⟨l, g1, g2⟩ := e
  exact ⟨l, h.up _ _ _ g1, g2⟩
 ·obtain ⟨l, g1, g2⟩ := e
  obtain ⟨j, rfl, k⟩ := h.down _ _ _ g1;exact ⟨j, rfl, l, k, g2⟩
end
def atL (S : List Int) (z i : Nat) : Nat := match S[i]? with
 | some a => a.toNat
 | none => z
theorem atL_some {S : List Int} {z i : Nat} {a : Int} (h : S[i]? = some a) : atL S z i = a.toNat := by unfold atL; rw [h]
theorem atL_none {S : List Int} {z i : Nat} (h : ¬ i < S.length) : atL S z i = z := by unfold atL; rw [List.getElem?_eq_none (by omega)]
theorem part_emb {S : List Int} {es es2 : List Ed} {N z : Nat} (he : EdIn N es) (hp : PartE S es es2) (hc : ∀ a l b, a ∈ S → (a, l, b) ∈ es → b ∈ S) (hnn : ∀ a, a ∈ S → 0 ≤ a) (hz : N ≤ z) : Emb (nE es2) (nE es) (atL S z) := by
 refine ⟨fun i l j h => ?_, fun i l y h => ?_⟩
 ·obtain ⟨i', j', a, b, e1, e2, h1, h2, h3⟩ := (hp _ _ _).1 h
  obtain rfl : i = i' := by omega
  obtain rfl : j = j' := by omega
  unfold nE;rw [atL_some h1, atL_some h2, show ((a.toNat : Nat) : Int) = a by have := hnn a (List.mem_of_getElem? h1); omega, show ((b.toNat : Nat) : Int) = b by have := hnn b (List.mem_of_getElem? h2); omega];exact h3
 ·by_cases hi : i < S.length
  ·have h1 : S[i]? = some S[i] := List.getElem?_eq_getElem hi
   generalize S[i] = a at h1;have ha := hnn a (List.mem_of_getElem? h1);unfold nE at h;rw [atL_some h1, show ((a.toNat : Nat) : Int) = a by omega] at h;obtain ⟨j, hj, e⟩ := List.getElem_of_mem (hc _ _ _ (List.mem_of_getElem? h1) h);have h2 : S[j]? = some (y : Int) := by rw [List.getElem?_eq_getElem hj, e]
   exact ⟨j, by rw [atL_some h2]; rfl, (hp _ _ _).2 ⟨i, j, a, y, rfl, rfl, h1, h2, h⟩⟩
  ·rw [atL_none hi] at h
   have := (nE_in he h).1;omega
def QuoBE (er : List Ed) (n : Nat) (d : Bool) (p : List Int) (em : List Ed) : Prop :=
 ∀ f l t, (f, l, t) ∈ em ↔ (∃ e, e ∈ er ∧ p[e.1.toNat]? = some f ∧ e.2.1 = l ∧ p[e.2.2.toNat]? = some t ∧ ¬ (l = 0 ∧ f = t)) ∨ (d = true ∧ l = 0 ∧ f = t ∧ ∃ k : Nat, k < n ∧ p[k]? = some f ∧ Dvg (inrE er p) k)
section
variable {er em : List Ed} {n : Nat} {d : Bool} {p : List Int} {ls : List ByteArray}
theorem PartN.atL_inj (hp : PartN n p) {x y : Nat} (h : atL p (numB p) x = atL p (numB p) y) : pq p x = pq p y := by
 unfold pq;have key : ∀ {x : Nat} {a : Int}, p[x]? = some a → atL p (numB p) x = a.toNat ∧ 0 ≤ a ∧ a < numB p := fun {x a} hx => ⟨atL_some hx, part_lt hp (List.mem_of_getElem? hx)⟩
 by_cases h1 : x < p.length
 ·have e1 : p[x]? = some p[x] := List.getElem?_eq_getElem h1
  obtain ⟨a1, a2, a3⟩ := key e1
  by_cases h2 : y < p.length
  ·have e2 : p[y]? = some p[y] := List.getElem?_eq_getElem h2
   obtain ⟨b1, b2, b3⟩ := key e2;rw [e1, e2]
   congr 1
   omega
  ·rw [atL_none h2] at h; omega
 ·by_cases h2 : y < p.length
  ·have e2 : p[y]? = some p[y] := List.getElem?_eq_getElem h2
   obtain ⟨b1, b2, b3⟩ := key e2;rw [atL_none h1] at h; omega
  ·rw [List.getElem?_eq_none (by omega), List.getElem?_eq_none (by omega)]
theorem atL_of (z : Nat) {x y : Nat} (h : pq p x = pq p y) : atL p z x = atL p z y := by unfold atL; unfold pq at h; rw [h]
theorem atL_iff (hp : PartN n p) {x y : Nat} : atL p (numB p) x = atL p (numB p) y ↔ pq p x = pq p y := ⟨hp.atL_inj, atL_of _⟩
theorem inrt_atL (hp : PartN n p) {L : Type} (E : Nat → L → Nat → Prop) (τ : L) : inrt E τ (atL p (numB p)) = inrt E τ (pq p) := by
 funext x y
 exact propext (and_congr_right fun _ => atL_iff hp)
theorem stb_atL (hp : PartN n p) {L : Type} {E : Nat → L → Nat → Prop} {τ : L} {dp : Prop} (h : Stb E τ dp (pq p)) : Stb E τ dp (atL p (numB p)) := by
 refine ⟨fun x y l b hq ho => ?_, fun hd x y hq hx => ?_⟩
 ·obtain ⟨x1, x2, h1, h2, h3, h4⟩ := ho
  rw [inrt_atL hp] at h1;obtain ⟨y1, y2, g1, g2, g3, g4⟩ := h.off x y l (pq p x2) (hp.atL_inj hq) ⟨x1, x2, h1, h2, rfl, fun e => h4 ⟨e.1, atL_of _ e.2⟩⟩;refine ⟨y1, y2, by rw [inrt_atL hp]; exact g1, g2, by rw [← h3]; exact atL_of _ g3, fun e => g4 ⟨e.1, hp.atL_inj e.2⟩⟩
 ·rw [inrt_atL hp] at hx ⊢
  exact h.dvg hd x y (hp.atL_inj hq) hx
theorem quoB_of (he : EdIn n er) (hp : PartN n p) (hm : QuoBE er n d p em) : QuoB (nE er) (nE em) (0 : Int) (d = true) (atL p (numB p)) := by
 intro b l c;have hnn : ∀ {k : Nat} {a : Int}, p[k]? = some a → 0 ≤ a := fun h => (part_lt hp (List.mem_of_getElem? h)).1
 constructor
 ·intro h
  rcases (hm _ _ _).1 h with ⟨⟨ef, el, et⟩, h1, h2, h3, h4, h5⟩ | ⟨h1, h2, h3, k, h4, h5, h6⟩
  ·left
   dsimp only at h2 h3 h4;have hin := he _ h1;dsimp only at hin;subst h3;refine ⟨ef.toNat, et.toNat, ?_, by rw [atL_some h2]; rfl, by rw [atL_some h4]; rfl, fun e => h5 ⟨e.1, ?_⟩⟩
   ·unfold nE
    rw [show ((ef.toNat : Nat) : Int) = ef by omega, show ((et.toNat : Nat) : Int) = et by omega];exact h1
   ·have := e.2
    rw [atL_some h2, atL_some h4] at this;simp only [Int.toNat_natCast] at this;rw [this]
  ·right
   refine ⟨h1, h2, by omega, k, by rw [atL_some h5]; rfl, ?_⟩;rw [inrt_atL hp];exact h6
 ·rintro (⟨x, x', h1, h2, h3, h4⟩ | ⟨h1, h2, h3, k, h4, h5⟩)
  ·have hx := nE_in he h1
   have e1 : p[x]? = some (p[x]'(by rw [hp.len]; exact hx.1)) := List.getElem?_eq_getElem _;have e2 : p[x']? = some (p[x']'(by rw [hp.len]; exact hx.2)) := List.getElem?_eq_getElem _;generalize (p[x]'(by rw [hp.len]; exact hx.1)) = a at e1;generalize (p[x']'(by rw [hp.len]; exact hx.2)) = a' at e2;have n1 := hnn e1;have n2 := hnn e2;rw [atL_some e1] at h2;rw [atL_some e2] at h3;obtain rfl : a = (b : Int) := by omega
   obtain rfl : a' = (c : Int) := by omega
   exact (hm _ _ _).2 (.inl ⟨_, h1, by simpa using e1, rfl, by simpa using e2, fun e => h4 ⟨e.1, by rw [atL_some e1, atL_some e2, e.2]⟩⟩)
  ·rw [inrt_atL hp] at h5
   have hk : k < n := Classical.byContradiction fun g => none_dvg he g h5
   have e1 : p[k]? = some (p[k]'(by rw [hp.len]; exact hk)) := List.getElem?_eq_getElem _;generalize (p[k]'(by rw [hp.len]; exact hk)) = a at e1;have n1 := hnn e1;rw [atL_some e1] at h4;obtain rfl : a = (b : Int) := by omega
   exact (hm _ _ _).2 (.inr ⟨h1, h2, by rw [h3], k, hk, e1, h5⟩)
theorem quoB_text {E M : List Ed} {t0 : ByteArray} {dp : Prop} {P : Nat → Nat} (hn : ls.Nodup) (h0 : ls[0]? = some t0) (h : QuoB (nE E) (nE M) (0 : Int) dp P) : QuoB (tE ls E) (tE ls M) t0 dp P := by
 intro b s c
 constructor
 ·rintro ⟨l, h1, h2⟩
  rcases (h _ _ _).1 h1 with ⟨x, x', g1, g2, g3, g4⟩ | ⟨g1, g2, g3, k, g4, g5⟩
  ·exact .inl ⟨x, x', ⟨l, g1, h2⟩, g2, g3, fun e => g4 ⟨by
    have := e.1;subst this;rw [nd_inj hn h2 h0]; rfl, e.2⟩⟩
  ·refine .inr ⟨g1, ?_, g3, k, g4, by rw [inrt_text hn h0]; exact g5⟩
   have : l = 0 := by omega
   rw [this, h0] at h2;exact (Option.some.inj h2).symm
 ·rintro (⟨x, x', ⟨l, g1, g2⟩, g3, g4, g5⟩ | ⟨g1, g2, g3, k, g4, g5⟩)
  ·exact ⟨l, (h _ _ _).2 (.inl ⟨x, x', g1, g3, g4, fun e => g5 ⟨by
    have := e.1;have : l = 0 := by omega
    rw [this, h0] at g2;exact (Option.some.inj g2).symm, e.2⟩⟩), g2⟩
  ·rw [inrt_text hn h0] at g5
   subst g2;exact ⟨0, (h _ _ _).2 (.inr ⟨g1, rfl, g3, k, g4, g5⟩), h0⟩
theorem quoBE_in (he : EdIn n er) (hp : PartN n p) (hm : QuoBE er n d p em) : EdIn (numB p) em := by
 rintro ⟨f, l, t⟩ h;have hin := (hm _ _ _).1 h;dsimp only
 rcases hin with ⟨e, h1, h2, h3, h4, h5⟩ | ⟨h1, h2, h3, k, h4, h5, h6⟩
 ·have a1 := part_lt hp (List.mem_of_getElem? h2)
  have a2 := part_lt hp (List.mem_of_getElem? h4);have a3 := he e h1;omega
 ·have a1 := part_lt hp (List.mem_of_getElem? h5)
  omega
end
open Go.ChangeAt Go.ChangeShapes Go.Lib Go.RowKit Go.WideShapes
theorem tE_in {ls : List ByteArray} {es : List Ed} {N : Nat} (he : EdIn N es) (x : Nat) (s : ByteArray) (y : Nat) (h : tE ls es x s y) : x < N ∧ y < N := by
 obtain ⟨l, h1, h2⟩ := h;exact nE_in he h1
theorem uni_fun {la : List ByteArray} {ea : List Ed} {lb : List ByteArray} {eb : List Ed} {Na Nb : Nat}
  (ha : ∀ e, e ∈ ea → (0 ≤ e.1 ∧ e.1 < (Na : Int)) ∧ (0 ≤ e.2.1 ∧ e.2.1 < (la.length : Int)) ∧ (0 ≤ e.2.2 ∧ e.2.2 < (Na : Int)))
  (hb : ∀ e, e ∈ eb → (0 ≤ e.1 ∧ e.1 < (Nb : Int)) ∧ (0 ≤ e.2.1 ∧ e.2.1 < (lb.length : Int)) ∧ (0 ≤ e.2.2 ∧ e.2.2 < (Nb : Int))) :
  tE (joiF (la ++ lb)) (uniE la ea lb eb Na) = sumE Na (tE la ea) (tE lb eb) := by
 funext a s b
 exact propext (uni_tE ha fun e he => ⟨(hb e he).1.1, (hb e he).2.1, (hb e he).2.2.1⟩)
theorem uni_rnd {la : List ByteArray} {ea : List Ed} {lb : List ByteArray} {eb : List Ed} {Na Nb : Nat} {d : Bool} {α : Type} {q : Nat → α} (hla : la.length ≤ 100) (hlb : lb.length ≤ 100)
  (ha : ∀ e, e ∈ ea → (0 ≤ e.1 ∧ e.1 < (Na : Int)) ∧ (0 ≤ e.2.1 ∧ e.2.1 < (la.length : Int)) ∧ (0 ≤ e.2.2 ∧ e.2.2 < (Na : Int)))
  (hb : ∀ e, e ∈ eb → (0 ≤ e.1 ∧ e.1 < (Nb : Int)) ∧ (0 ≤ e.2.1 ∧ e.2.1 < (lb.length : Int)) ∧ (0 ≤ e.2.2 ∧ e.2.2 < (Nb : Int)))
  (hq : Stb (sumE Na (tE la ea) (tE lb eb)) tauB (d = true) q) (hr : ∀ x y, q x = q y → (x < Na + Nb ↔ y < Na + Nb)) (r : Nat) {x y : Nat} (hx : x < Na + Nb) (hy : y < Na + Nb) (h : q x = q y) :
  sameB (itP (refB (uniE la ea lb eb Na) (Na + Nb) d) (Na + Nb) r) x y := by
 rw [← uni_fun ha hb] at hq;exact stb_rnd (uni_in hla hlb ha hb).1 ((stb_text (joi_nodup (la ++ lb)) (joi_head (la ++ lb)) (uni_lab (Na := Na) (fun e he => (ha e he).2.1) fun e he => (hb e he).2.1)).2 hq) hr r hx hy h
theorem uni_stb {la : List ByteArray} {ea : List Ed} {lb : List ByteArray} {eb : List Ed} {Na Nb r : Nat} {d : Bool} (hla : la.length ≤ 100) (hlb : lb.length ≤ 100)
  (ha : ∀ e, e ∈ ea → (0 ≤ e.1 ∧ e.1 < (Na : Int)) ∧ (0 ≤ e.2.1 ∧ e.2.1 < (la.length : Int)) ∧ (0 ≤ e.2.2 ∧ e.2.2 < (Na : Int)))
  (hb : ∀ e, e ∈ eb → (0 ≤ e.1 ∧ e.1 < (Nb : Int)) ∧ (0 ≤ e.2.1 ∧ e.2.1 < (lb.length : Int)) ∧ (0 ≤ e.2.2 ∧ e.2.2 < (Nb : Int)))
  (hL : LastG (refB (uniE la ea lb eb Na) (Na + Nb) d) (Na + Nb) r) :
  Stb (sumE Na (tE la ea) (tE lb eb)) tauB (d = true) (pq (itP (refB (uniE la ea lb eb Na) (Na + Nb) d) (Na + Nb) r)) := by
 have hU := (uni_in hla hlb ha hb).1;rw [← uni_fun ha hb];exact (stb_text (joi_nodup (la ++ lb)) (joi_head (la ++ lb)) (uni_lab (Na := Na) (fun e he => (ha e he).2.1) fun e he => (hb e he).2.1)).1 (stable_stb hU (itP_part (refB_ref hU) r) hL.1)
open Classical in
noncomputable def qM (N : Nat) (S : List Int) (P : Nat → Nat) (u : Nat) : Nat ⊕ Nat := if u < N then (if (u : Int) ∈ S then .inl (P (S.idxOf (u : Int))) else .inr u) else .inl (u - N)
theorem minB_alike {ls : List ByteArray} {es em : List Ed} {S : List Int} {N r i0 ini : Nat} {d : Bool} (hls : ls.length ≤ 100) (hnd : ls.Nodup) (h0 : ls[0]? = some tauB)
  (he : ∀ e, e ∈ es → (0 ≤ e.1 ∧ e.1 < (N : Int)) ∧ (0 ≤ e.2.1 ∧ e.2.1 < (ls.length : Int)) ∧ (0 ≤ e.2.2 ∧ e.2.2 < (N : Int))) (heN : EdIn N es)
  (hS : S = reachF N es (ini : Int)) (hi0 : S[i0]? = some (ini : Int))
  (hL : LastG (refB (partF S es) S.length d) S.length r) (hm : QuoBE (partF S es) S.length d (itP (refB (partF S es) S.length d) S.length r) em)
  (hml : ∀ e, e ∈ em → 0 ≤ e.2.1 ∧ e.2.1 < (ls.length : Int)) {c : Nat} (hc : (itP (refB (partF S es) S.length d) S.length r)[i0]? = some (c : Int)) (r' : Nat) :
  sameB (itP (refB (uniE ls es ls em N) (N + numB (itP (refB (partF S es) S.length d) S.length r)) d) (N + numB (itP (refB (partF S es) S.length d) S.length r)) r') ini (N + c) := by
 have hn : S.Nodup := by rw [hS]; exact reach_nodup
 have her := part_in heN hn;have hcl : ∀ a l b, a ∈ S → (a, l, b) ∈ es → b ∈ S := fun a l b ha hx => by rw [hS] at ha ⊢; exact reach_closed heN a l b ha hx
 have hat : ∀ a, a ∈ S → ∃ k : Nat, a = (k : Int) ∧ k < N := fun a ha => by
  rw [hS] at ha;obtain ⟨k, e, h1, -⟩ := reach_mem.1 ha;exact ⟨k, e, h1⟩
 have hnn : ∀ a, a ∈ S → 0 ≤ a := fun a ha => by obtain ⟨k, rfl, -⟩ := hat a ha; omega
 obtain ⟨p, hpe⟩ : ∃ p, p = itP (refB (partF S es) S.length d) S.length r := ⟨_, rfl⟩;rw [← hpe] at hm hc ⊢;have hp : PartN S.length p := by rw [hpe]; exact itP_part (refB_ref her) r
 have hs := stable_stb her hp (by rw [hpe]; exact hL.1);have hem := quoBE_in her hp hm;have hlr : ∀ e, e ∈ partF S es → 0 ≤ e.2.1 ∧ e.2.1 < (ls.length : Int) := by
  rintro ⟨f, l, t⟩ hx;obtain ⟨i, j, a, b, -, -, -, -, hx⟩ := (partF_part hn f l t).1 hx;exact (he _ hx).2.1
 have hb : ∀ e, e ∈ em → (0 ≤ e.1 ∧ e.1 < (numB p : Int)) ∧ (0 ≤ e.2.1 ∧ e.2.1 < (ls.length : Int)) ∧ (0 ≤ e.2.2 ∧ e.2.2 < (numB p : Int)) := fun e hx => ⟨(hem e hx).1, hml e hx, (hem e hx).2.2⟩
 have hsT := stb_atL hp ((stb_text hnd h0 hlr).1 hs);have hMT := quoB_text hnd h0 (quoB_of her hp hm);have e1 := (part_emb (z := N) heN (partF_part hn) hcl hnn zR).text (ls := ls);have e2 := e1.comp (emb_left (A := tE ls es) (B := tE ls em) (tE_in heN) (tE_in hem) (Nat.le_refl (N + numB p)));have e3 := emb_right (A := tE ls es) (B := tE ls em) (n := N);have q1 : ∀ i, qM N S (atL p (numB p)) (if atL S N i < N then atL S N i else N + numB p) = .inl (atL p (numB p) i) := fun i => by
  by_cases hi : i < S.length
  ·have h1 : S[i]? = some S[i] := List.getElem?_eq_getElem hi
   obtain ⟨k, hk, hkN⟩ := hat _ (List.mem_of_getElem? h1);rw [hk] at h1;rw [atL_some h1, Int.toNat_natCast, if_pos hkN];unfold qM;rw [if_pos hkN, if_pos (List.mem_of_getElem? h1)];have : S.idxOf (k : Int) = i := by
    have h2 := idx_self hn hi;rw [hk] at h2;exact h2
   rw [this]
  ·rw [atL_none hi, if_neg (Nat.lt_irrefl _), atL_none (by rw [hp.len]; exact hi)]
   unfold qM;rw [if_neg (by omega), Nat.add_sub_cancel_left]
 have q2 : ∀ b, qM N S (atL p (numB p)) (N + b) = .inl b := fun b => by
  unfold qM;rw [if_neg (by omega), Nat.add_sub_cancel_left]
 have hcov : ∀ u, (∃ i, u = (if atL S N i < N then atL S N i else N + numB p)) ∨ (∃ b, u = N + b) ∨ qM N S (atL p (numB p)) u = .inr u := fun u => by
  by_cases hu : u < N
  ·by_cases hm : (u : Int) ∈ S
   ·obtain ⟨i, hi, e⟩ := List.getElem_of_mem hm
    have h1 : S[i]? = some (u : Int) := by rw [List.getElem?_eq_getElem hi, e]
    exact .inl ⟨i, by rw [atL_some h1, Int.toNat_natCast, if_pos hu]⟩
   ·right; right
    unfold qM;rw [if_pos hu, if_neg hm]
  ·exact .inr (.inl ⟨u - N, by omega⟩)
 have hst := quo_alike hsT hMT e2 e3 q1 q2 hcov;have hlt : ∀ i, i < S.length → atL p (numB p) i < numB p := fun i hi => by
  have e1 : p[i]? = some (p[i]'(by rw [hp.len]; exact hi)) := List.getElem?_eq_getElem _;have a1 := part_lt hp (List.mem_of_getElem? e1);rw [atL_some e1];omega
 have hchar : ∀ u, u < N + numB p ↔ (match qM N S (atL p (numB p)) u with | .inl c => c < numB p | .inr _ => True) := fun u => by
  unfold qM
  by_cases hu : u < N
  ·rw [if_pos hu]
   by_cases hm : (u : Int) ∈ S
   ·rw [if_pos hm]
    have := hlt _ (List.idxOf_lt_length_of_mem hm)
    constructor
    ·intro _; exact this
    ·intro _; omega
   ·rw [if_neg hm]
    constructor
    ·intro _; trivial
    ·intro _; omega
  ·rw [if_neg hu]
   constructor
   ·intro h; show u - N < numB p; omega
   ·intro h
    have h : u - N < numB p := h;omega
 have hiS : (ini : Int) ∈ S := List.mem_of_getElem? hi0;have hiN : ini < N := by obtain ⟨k, e, h⟩ := hat _ hiS; omega
 have hidx : S.idxOf (ini : Int) = i0 := by
  have h1 := (List.getElem?_eq_some_iff.1 hi0).1;have h2 := idx_self hn h1;rw [(List.getElem?_eq_some_iff.1 hi0).2] at h2;exact h2
 have hcn : c < numB p := by have := part_lt hp (List.mem_of_getElem? hc); omega
 refine uni_rnd hls hls he hb hst (fun x y h => by rw [hchar x, hchar y, h]) r' (by omega) (by omega) ?_;rw [q2];unfold qM;rw [if_pos hiN, if_pos hiS, hidx, atL_some hc, Int.toNat_natCast]
def outG (p : List Int) (e : Ed) : Bool := !(inG p e)
theorem qub1_calls (N : Nat) (P : Option Addr) (cP : Nat) (p : List Int) (bP : Nat) (f l t : Int) (w : World) (lo hi : Nat) (hP : SlI w lo hi P N p) (hbl : bP < w.heap.size) (hb : w.cell? ⟨bP, 0, none⟩ = some (.slice P N cP)) (hf : 0 ≤ f ∧ f < (N : Int)) (ht : 0 ≤ t ∧ t < (N : Int)) :
  Calls Tryz.prog 261 #[.agg #[.int .i64 f, .int .i64 l, .int .i64 t], .pointer (some ⟨bP, 0, none⟩)] w (Says (outG p (f, l, t)) w) := by
 obtain ⟨f, rfl⟩ : ∃ k : Nat, f = (k : Int) := ⟨f.toNat, by omega⟩;obtain ⟨t, rfl⟩ : ∃ k : Nat, t = (k : Int) := ⟨t.toNat, by omega⟩;obtain ⟨gP, oP, pf, rfl, -, -, hgP, hpf, cf, -⟩ := SlI.get hP (show f < N by omega);obtain ⟨gP2, oP2, pt, e2, -, -, -, hpt, ct, -⟩ := SlI.get hP (show t < N by omega);cases e2;have hval : Hid (outG p ((f : Int), l, (t : Int)) = ((l != 0) || (pf != pt))) := by
  show _ = _
  unfold outG inG;simp only [Int.toNat_natCast, hpf, hpt]
  by_cases h1 : l = 0 <;> by_cases h2 : pf = pt <;> simp [h1, h2]
 have hb1 : Below w.heap.size w (w.alloc (.cells #[.int .i64 (f : Int), .int .i64 l, .int .i64 (t : Int)] 84)) := (Below.refl _ _).alloc zR _;have k8 := heap_alloc_new w (.cells #[.int .i64 (f : Int), .int .i64 l, .int .i64 (t : Int)] 84);obtain ⟨w1, hw1⟩ : ∃ w1, w1 = w.alloc (.cells #[.int .i64 (f : Int), .int .i64 l, .int .i64 (t : Int)] 84) := ⟨_, rfl⟩;rw [← hw1] at hb1 k8;have c0 := (hb1.cell (p := ⟨bP, 0, none⟩) hbl).trans hb;replace cf := (hb1.cell (p := ⟨gP, oP + f, none⟩) hgP).trans cf;replace ct := (hb1.cell (p := ⟨gP, oP + t, none⟩) hgP).trans ct;have e0 : w1.cell? ⟨w.heap.size, 0, none⟩ = some (.int .i64 (f : Int)) := cR 0 k8;have e1 : w1.cell? ⟨w.heap.size, 1, none⟩ = some (.int .i64 l) := cR 1 k8;have e2 : w1.cell? ⟨w.heap.size, 2, none⟩ = some (.int .i64 (t : Int)) := cR 2 k8;have f0 : (0 : Int) ≤ (f : Int) := by omega
 have f1 : (f : Int) < (N : Int) := by omega
 have t0 : (0 : Int) ≤ (t : Int) := by omega
 have t1 : (t : Int) < (N : Int) := by omega
 replace hb1 := hide hb1;replace hpf := hide hpf;replace hpt := hide hpt;clear hP hb k8 hf ht
 by_cases hl : l = 0
 ·subst hl
  have g1 : ((0 : Int) != 0) = false := rfl;go_enter Tryz.func261, Tryz.ntmps261;go_upto_region 1 with fail;rw [← hw1];replace hw1 := hide hw1;go_quiet (fail);go_wp2_with fail;go_ret;exact ⟨by rw [hval.out]; rfl, hb1.out.trans (below_drewN _ _ |>.mono hb1.out.size)⟩
 ·have g1 : (l != 0) = true := by rw [bne_iff_ne]; exact hl
  go_enter Tryz.func261, Tryz.ntmps261;go_upto_region 1 with fail;rw [← hw1];replace hw1 := hide hw1;go_quiet (fail);go_wp2_with fail;go_ret;exact ⟨by rw [hval.out, g1]; rfl, hb1.out.trans (below_drewN _ _ |>.mono hb1.out.size)⟩
noncomputable def lpE (es : List Ed) (N : Nat) (p : List Int) (k : Nat) : List Ed := ((List.range k).filter fun i => inS (dvgL (es.filter (inG p)) N) i).map fun i => ((p[i]?).getD 0, 0, (p[i]?).getD 0)
theorem lpE_succ {es : List Ed} {N : Nat} {p : List Int} {k : Nat} : lpE es N p (k + 1) = lpE es N p k ++ if inS (dvgL (es.filter (inG p)) N) k = true then [((p[k]?).getD 0, 0, (p[k]?).getD 0)] else [] := by
 unfold lpE;rw [List.range_succ, List.filter_append, List.map_append]
 congr 1
 by_cases h : inS (dvgL (es.filter (inG p)) N) k = true
 ·rw [List.filter_cons_of_pos h, if_pos h]; rfl
 ·rw [List.filter_cons_of_neg h, if_neg h]; rfl
theorem lpE_len {es : List Ed} {N : Nat} {p : List Int} {k : Nat} : (lpE es N p k).length ≤ k := by
 unfold lpE;rw [List.length_map];exact Nat.le_trans (List.length_filter_le _ _) (by simp)
noncomputable def quoB (es : List Ed) (N : Nat) (dv : Bool) (p : List Int) : List Ed := if dv = true then Lib.compact (sortE (quoF p (outG p) es ++ lpE es N p N)) else quoF p (outG p) es
theorem quoFG_mem {p : List Int} {G : Ed → Bool} {es : List Ed} (hb : ∀ e, e ∈ es → e.1.toNat < p.length ∧ e.2.2.toNat < p.length) {f l t : Int} : (f, l, t) ∈ quoF p G es ↔ ∃ e, e ∈ es ∧ G e = true ∧ p[e.1.toNat]? = some f ∧ e.2.1 = l ∧ p[e.2.2.toNat]? = some t := by
 unfold quoF;rw [compactE_mem, sortE_mem, List.mem_map]
 constructor
 ·rintro ⟨e, he, h⟩
  obtain ⟨he, hg⟩ := List.mem_filter.1 he;unfold quoO pv at h;injection h with h1 h2;injection h2 with h2 h3;have hh := hb e he;rw [List.getElem?_eq_getElem hh.1, Option.getD_some] at h1;rw [List.getElem?_eq_getElem hh.2, Option.getD_some] at h3;exact ⟨e, he, hg, by rw [List.getElem?_eq_getElem hh.1, h1], h2, by rw [List.getElem?_eq_getElem hh.2, h3]⟩
 ·rintro ⟨e, he, hg, h1, h2, h3⟩
  refine ⟨e, List.mem_filter.2 ⟨he, hg⟩, ?_⟩;unfold quoO pv;rw [h1, h3, h2]
  rfl
theorem quoB_is {es : List Ed} {N : Nat} {dv : Bool} {p : List Int} (he : EdIn N es) (hp : PartN N p) : QuoBE es N dv p (quoB es N dv p) := by
 have hb : ∀ e, e ∈ es → e.1.toNat < p.length ∧ e.2.2.toNat < p.length := fun e hx => by
  have := he e hx;rw [hp.len];omega
 intro f l t;have h1 : (f, l, t) ∈ quoF p (outG p) es ↔ ∃ e, e ∈ es ∧ p[e.1.toNat]? = some f ∧ e.2.1 = l ∧ p[e.2.2.toNat]? = some t ∧ ¬ (l = 0 ∧ f = t) := by
  rw [quoFG_mem hb];refine exists_congr fun e => and_congr_right fun _ => ?_
  constructor
  ·rintro ⟨h1, h2, h3, h4⟩
   refine ⟨h2, h3, h4, fun h => ?_⟩;have : inG p e = true := inG_true.2 ⟨by rw [h3]; exact h.1, by rw [h2, h4, h.2]⟩;unfold outG at h1;rw [this] at h1
   cases h1
  ·rintro ⟨h2, h3, h4, h5⟩
   refine ⟨?_, h2, h3, h4⟩;unfold outG;rw [Bool.not_eq_true', Bool.eq_false_iff];intro h;have h6 := inG_true.1 h;rw [h2, h4] at h6;exact h5 ⟨by rw [← h3]; exact h6.1, Option.some.inj h6.2⟩
 have h2 : (f, l, t) ∈ lpE es N p N ↔ l = 0 ∧ f = t ∧ ∃ k : Nat, k < N ∧ p[k]? = some f ∧ Dvg (inrE es p) k := by
  unfold lpE;rw [List.mem_map]
  constructor
  ·rintro ⟨k, hk, e⟩
   obtain ⟨hk1, hk2⟩ := List.mem_filter.1 hk;have hk1 := List.mem_range.1 hk1;injection e with e1 e2;injection e2 with e2 e3;refine ⟨e2.symm, by rw [← e1, ← e3], k, hk1, ?_, (dvgL_inert he).1 ((inS_dvgL hk1).1 hk2)⟩;rw [← e1, List.getElem?_eq_getElem (by rw [hp.len]; exact hk1)]; rfl
  ·rintro ⟨rfl, rfl, k, hk, hpk, hd⟩
   refine ⟨k, List.mem_filter.2 ⟨List.mem_range.2 hk, (inS_dvgL hk).2 ((dvgL_inert he).2 hd)⟩, ?_⟩;rw [hpk]; rfl
 unfold quoB
 cases dv with
 | false =>
  rw [if_neg (by decide), h1]
  constructor
  ·exact .inl
  ·rintro (h | ⟨h, -⟩)
   ·exact h
   ·cases h
 | true =>
  rw [if_pos rfl, compactE_mem, sortE_mem, List.mem_append, h1, h2];exact or_congr_right ⟨fun h => ⟨rfl, h⟩, fun h => h.2⟩
theorem quoB_rise {es : List Ed} {N : Nat} {dv : Bool} {p : List Int} : RisE (quoB es N dv p) := by
 unfold quoB
 split
 ·exact compactE_rise (sortE_le _)
 ·exact compactE_rise (sortE_le _)
theorem quoB_len {es : List Ed} {N : Nat} {dv : Bool} {p : List Int} : (quoB es N dv p).length ≤ es.length + N := by
 have h1 : (quoF p (outG p) es).length ≤ es.length := by
  unfold quoF;refine Nat.le_trans (compactE_len _) ?_;rw [sortE_len, List.length_map];exact List.length_filter_le _ _
 unfold quoB
 split
 ·refine Nat.le_trans (compactE_len _) ?_
  rw [sortE_len, List.length_append];have := lpE_len (es := es) (N := N) (p := p) (k := N);omega
 ·omega
theorem reach_len {N : Nat} {es : List Ed} {ini : Int} : (reachF N es ini).length ≤ N := by
 unfold reachF;rw [List.length_map];exact Nat.le_trans (List.length_filter_le _ _) (by simp)
theorem nodup_sub_le {α : Type} [BEq α] [LawfulBEq α] : ∀ {L M : List α}, L.Nodup → (∀ y, y ∈ L → y ∈ M) → L.length ≤ M.length
 | [], M, _, _ => Nat.zero_le _
 | x :: L, M, hn, h => by
  have hn2 := List.nodup_cons.1 hn;have h1 := nodup_sub_le (M := M.erase x) hn2.2 fun y hy => (List.mem_erase_of_ne (fun e => hn2.1 (by rw [← e]; exact hy))).2 (h y (List.mem_cons_of_mem _ hy))
  have hx := h x (List.mem_cons_self ..);rw [List.length_erase_of_mem hx] at h1;have := List.length_pos_of_mem hx;rw [List.length_cons]; omega
theorem totS_le {b : Nat} : ∀ {l : List ByteArray}, (∀ s, s ∈ l → s.size ≤ b) → totS l ≤ l.length * (b + 1)
 | [], _ => by simp [totS]
 | x :: l, h => by
  have h1 := totS_le (l := l) fun s hs => h s (List.mem_cons_of_mem _ hs)
  have h2 := h x (List.mem_cons_self ..);unfold totS at h1 ⊢;simp only [List.length_cons, List.map_cons, List.sum_cons];rw [Nat.add_mul];omega
theorem namD_mem {ls : List ByteArray} (h : NamD ls) {x : ByteArray} (hx : x ∈ joiF ls) : x ∈ tauB :: nm5 := by
 rcases (joi_mem_iff ls x).1 hx with rfl | hx
 ·exact List.mem_cons_self ..
 ·rcases h x hx with rfl | hx
  ·exact List.mem_cons_self ..
  ·exact List.mem_cons_of_mem _ hx
theorem namD_six {ls : List ByteArray} (h : NamD ls) : (joiF ls).length ≤ 6 := by
 have h1 : ((joiF ls).map toL).Nodup := (joi_rise ls).imp fun {a b} g e => by rw [e, ltL_irr] at g; cases g
 have h2 := nodup_sub_le (M := (tauB :: nm5).map toL) h1 fun y hy => by
  obtain ⟨x, hx, rfl⟩ := List.mem_map.1 hy;exact List.mem_map_of_mem (namD_mem h hx)
 rw [List.length_map, List.length_map] at h2;exact h2
theorem namD_size : ∀ x, x ∈ tauB :: nm5 → x.size ≤ 6 := by
 intro x hx;unfold nm5 at hx;simp only [List.mem_cons, List.mem_nil_iff, or_false] at hx
 rcases hx with rfl | rfl | rfl | rfl | rfl | rfl <;> decide
theorem namD_app {la lb : List ByteArray} (h : NamD la) (g : NamD lb) : NamD (la ++ lb) := fun x hx => by
 rcases List.mem_append.1 hx with hx | hx
 ·exact h x hx
 ·exact g x hx
theorem uni_valid {la : List ByteArray} {ea : List Ed} {lb : List ByteArray} {eb : List Ed} {Na Nb ia : Nat} (hla : NamD la) (hlb : NamD lb) (hl1 : la.length ≤ 100) (hl2 : lb.length ≤ 100)
  (ha : ∀ e, e ∈ ea → (0 ≤ e.1 ∧ e.1 < (Na : Int)) ∧ (0 ≤ e.2.1 ∧ e.2.1 < (la.length : Int)) ∧ (0 ≤ e.2.2 ∧ e.2.2 < (Na : Int)))
  (hb : ∀ e, e ∈ eb → (0 ≤ e.1 ∧ e.1 < (Nb : Int)) ∧ (0 ≤ e.2.1 ∧ e.2.1 < (lb.length : Int)) ∧ (0 ≤ e.2.2 ∧ e.2.2 < (Nb : Int)))
  (hia : ia < Na) (hN : Na + Nb ≤ 40) (hE : ea.length + eb.length ≤ 300) :
  ltsV (((Na + Nb : Nat) : Int), (ia : Int), joiF (la ++ lb), uniE la ea lb eb Na) = true ∧ totS (joiF (la ++ lb)) ≤ 100000 := by
 have hD := namD_app hla hlb;have h6 := namD_six hD;have hin := (uni_in hl1 hl2 ha hb).1;have hlab := uni_lab (Na := Na) (fun e he => (ha e he).2.1) fun e he => (hb e he).2.1
 constructor
 ·refine ltsV_of (by omega) (by omega) (joi_names (fun x hx => ?_) (by omega)) ?_ ?_ fun e he => ?_
  ·rcases hD x hx with h | h
   ·exact .inl h
   ·exact .inr (nm5_lab x h).1
  ·refine Nat.le_trans (ltsEs_len _ _) ?_
   unfold uniA;simp only [List.length_append, List.length_map];exact hE
  ·unfold uniE ltsEs
   exact compactE_rise (sortE_le _)
  ·have h1 := hin e he
   have h2 := hlab e he;exact ⟨h1.1, h2, h1.2.2⟩
 ·have := totS_le (b := 6) (l := joiF (la ++ lb)) fun s hs => namD_size s (namD_mem hD hs)
  omega
theorem quoB_valid {N ini : Nat} {ls : List ByteArray} {es : List Ed} {p : List Int} {dv : Bool} (h : ltsV ((N : Int), (ini : Int), ls, es) = true) (hp : PartN N p) (hE : es.length + N ≤ 300) :
  ∃ c0 : Nat, pv p (ini : Int) = (c0 : Int) ∧ p[ini]? = some (c0 : Int) ∧ c0 < numB p ∧ ltsV ((numB p : Int), (c0 : Int), ls, quoB es N dv p) = true ∧ (∀ e, e ∈ quoB es N dv p → 0 ≤ e.2.1 ∧ e.2.1 < (ls.length : Int)) := by
 have hed := (ltsV_edge h).1;have hbn := (ltsV_edge h).2;have heI : EdIn N es := fun e he => ⟨(hed e he).1, (hed e he).2.1.1, (hed e he).2.2⟩
 have hq := quoB_is (dv := dv) heI hp;have hin := quoBE_in heI hp hq;have h0 := (List.getElem?_eq_some_iff.1 (labs_zero (ltsV_names h).1)).1;have hini : ini < p.length := by rw [hp.len]; omega
 have e1 : p[ini]? = some p[ini] := List.getElem?_eq_getElem hini;have hlt := part_lt hp (List.mem_of_getElem? e1);have hpv : pv p (ini : Int) = p[ini] := by unfold pv; rw [Int.toNat_natCast, e1]; rfl
 have hlb : ∀ e, e ∈ quoB es N dv p → 0 ≤ e.2.1 ∧ e.2.1 < (ls.length : Int) := by
  rintro ⟨f, l, t⟩ he
  rcases (hq f l t).1 he with ⟨e, h1, -, h2, -⟩ | ⟨-, h2, -⟩
  ·have := (hed e h1).2.1
   dsimp only;omega
  ·dsimp only
   omega
 have hN := numB_le p;rw [hp.len] at hN;refine ⟨(p[ini]).toNat, by omega, by rw [e1]; congr 1; omega, by omega, ?_, hlb⟩;refine ltsV_of (by omega) (by omega) (ltsV_names h).1 ?_ quoB_rise fun e he => ?_
 ·have := quoB_len (es := es) (N := N) (dv := dv) (p := p)
  omega
 ·have h1 := hin e he
  exact ⟨h1.1, hlb e he, h1.2.2⟩
end Go.Proofs.YtnhomkmfbngmgaaGreatDoor
namespace Go.Proofs.YtnhomkmfbngmgaaGreatDoor
open Go.ChangeShapes Go.WideShapes Go.ChangeAt Go.RowKit Go.Sort
section
variable {w : World} {N ini : Nat} {A : Option Addr} {n : Nat} {B : Option Addr} {m : Nat} {ls : List ByteArray} {es : List Ed}
theorem brc1_calls (h : SysA w N ini A n B m ls es) (c d : Nat) (dv : Bool) (bd : Nat) (hbd : bd < w.heap.size) (hd : w.cell? ⟨bd, 0, none⟩ = some (.bool dv)) :
  Calls Tryz.prog 198 #[.agg #[.int .i64 (N : Int), .int .i64 (ini : Int), .slice A n c, .slice B m d], .pointer (some ⟨bd, 0, none⟩)] w fun e w' => ∃ r P cP, e = .returned (.slice P N cP) ∧ LastG (refB es N dv) N r ∧ SlI w' w.heap.size w'.heap.size P N (itP (refB es N dv) N r) ∧ Below w.heap.size w w' ∧ N ≤ cP := by
 have hB := h.box (c := c) (d := d);obtain ⟨w1, hw1⟩ : ∃ w1, w1 = w.alloc (ltsC N ini A n c B m d) := ⟨_, rfl⟩;rw [← hw1] at hB;have q := hide (branching_calls hB.sys c d dv);have b0 := hB.box.c0;have b1 := hB.box.c1;have b2 := hB.box.c2;have b3 := hB.box.c3;have d0 := (hB.bel.cell (p := ⟨bd, 0, none⟩) hbd).trans hd;have hz1 := hB.bel.size;replace hB := hide hB;clear h hd;go_enter Tryz.func198, Tryz.ntmps198;go_upto_region 1 with fail;rw [← show w1 = w.alloc (.cells #[.int .i64 (N : Int), .int .i64 (ini : Int), .slice A n c, .slice B m d] 27) from hw1];replace hw1 := hide hw1;go_wp2_with fail;refine q.out.mono ?_;rintro e w2 ⟨r, P, cP, rfl, hL, hP, hb, hcap⟩;have hPF := hide (hP.more hz1 zR);have hbF := hide (hB.out.bel.trans (hb.mono hz1));replace hL := hide hL;clear q hP hb b0 b1 b2 b3 d0;go_wp2_with fail;go_ret;exact ⟨r, P, cP, rfl, hL.out, hPF.out, hbF.out, hcap⟩
end
section
variable {w : World} {Na ia : Nat} {A : Option Addr} {n : Nat} {B : Option Addr} {m : Nat} {la : List ByteArray} {ea : List Ed} {Nb ib : Nat} {A' : Option Addr} {n' : Nat} {B' : Option Addr} {m' : Nat} {lb : List ByteArray} {eb : List Ed}
theorem bothB_calls (h : SysA w Na ia A n B m la ea) (g : SysA w Nb ib A' n' B' m' lb eb) (c d c' d' : Nat) (hsum : Na + Nb ≤ 40) (dv : Bool) (bd : Nat) (hbd : bd < w.heap.size) (hd : w.cell? ⟨bd, 0, none⟩ = some (.bool dv)) (huv : ltsV (((Na + Nb : Nat) : Int), (ia : Int), joiF (la ++ lb), uniE la ea lb eb Na) = true) (hus : totS (joiF (la ++ lb)) ≤ 100000) :
  Calls Tryz.prog 137 #[.agg #[.int .i64 (Na : Int), .int .i64 (ia : Int), .slice A n c, .slice B m d], .agg #[.int .i64 (Nb : Int), .int .i64 (ib : Int), .slice A' n' c', .slice B' m' d'], .func (.func 198) #[] #[.pointer (some ⟨bd, 0, none⟩)]] w fun e w' => ∃ r P cP, e = .returned (.slice P (Na + Nb) cP) ∧ LastG (refB (uniE la ea lb eb Na) (Na + Nb) dv) (Na + Nb) r ∧ SlI w' w.heap.size w'.heap.size P (Na + Nb) (itP (refB (uniE la ea lb eb Na) (Na + Nb) dv) (Na + Nb) r) ∧ Below w.heap.size w w' := by
 have hT := TwoS.start w Na ia A n c B m d Nb ib A' n' c' B' m' d';obtain ⟨w1, hw1⟩ : ∃ w1, w1 = (w.alloc (ltsC Na ia A n c B m d)).alloc (ltsC Nb ib A' n' c' B' m' d') := ⟨_, rfl⟩;rw [← hw1] at hT;obtain ⟨hm, hn12, hn1, hle, hll⟩ := h.many;obtain ⟨hm', hn12', hn1', hle', hll'⟩ := g.many;have hbo := h.bounds.1.1;have hui := uni_in (la := la) (ea := ea) (lb := lb) (eb := eb) (by omega) (by omega) h.three g.three;have hqU := hide (union_calls (h.below hT.bel zR) (g.below hT.bel zR) c d c' d');have hul : (uniE la ea lb eb Na).length ≤ 1000 := by
  refine Nat.le_trans (ltsEs_len _ _) ?_;unfold uniA;simp only [List.length_append, List.length_map];omega
 obtain ⟨a0, a1, a2, a3, b0, b1, b2, b3⟩ := hT.cells;replace hui := hide hui;have hbel := hide hT.bel;clear hT h g;go_enter Tryz.func137, Tryz.ntmps137;go_upto_region 1 with fail;rw [show ((w.alloc (.cells #[.int .i64 (Na : Int), .int .i64 (ia : Int), .slice A n c, .slice B m d] 27)).alloc (.cells #[.int .i64 (Nb : Int), .int .i64 (ib : Int), .slice A' n' c', .slice B' m' d'] 27)) = w1 from hw1.symm];replace hw1 := hide hw1
 go_wp2_with (go_at_call 229; refine hqU.out.mono ?_; rintro e w2 ⟨A2, n2, c2, A3, n3, c3, rfl, hS2, hE2, hb2⟩)
 have hlen : (uniE la ea lb eb Na).length = n3 := hE2.len;have hz2 := hbel.out.size;have hS : SysA w2 (Na + Nb) ia A2 n2 A3 n3 (joiF (la ++ lb)) (uniE la ea lb eb Na) := ⟨hS2.here', hE2.here', huv, hus⟩;have hbw2 : Below w.heap.size w w2 := hbel.out.trans (hb2.mono hz2);have q := brc1_calls hS c2 c3 dv bd (by have := hbw2.size; omega) ((hbw2.cell (p := ⟨bd, 0, none⟩) hbd).trans hd);rw [Int.natCast_add] at q;replace hS2 := hide hS2;replace hE2 := hide hE2;replace hlen := hide hlen;replace q := hide q;clear hS a0 a1 a2 a3 b0 b1 b2 b3 hd hbw2;refine q.out.mono ?_;rintro e w3 ⟨r, P, cP, rfl, hL, hP, hb3, -⟩;have hbF := hide ((hbel.out.trans (hb2.mono hz2)).trans (hb3.mono (Nat.le_trans hz2 hb2.size)));have hPF := hide (hP.more (Nat.le_trans hz2 hb2.size) zR);replace hL := hide hL;clear hb2 hb3 hP q;go_wp2_with fail;go_ret;exact ⟨r, P, cP, rfl, hL.out, hPF.out, hbF.out⟩
theorem areAlikeB_calls (h : SysA w Na ia A n B m la ea) (g : SysA w Nb ib A' n' B' m' lb eb) (c d c' d' : Nat) (he : Env w) (hsum : Na + Nb ≤ 40) (dv : Bool) (bd : Nat) (hbd : bd < w.heap.size) (hd : w.cell? ⟨bd, 0, none⟩ = some (.bool dv)) (huv : ltsV (((Na + Nb : Nat) : Int), (ia : Int), joiF (la ++ lb), uniE la ea lb eb Na) = true) (hus : totS (joiF (la ++ lb)) ≤ 100000) :
  Calls Tryz.prog 63 #[.agg #[.int .i64 (Na : Int), .int .i64 (ia : Int), .slice A n c, .slice B m d], .agg #[.int .i64 (Nb : Int), .int .i64 (ib : Int), .slice A' n' c', .slice B' m' d'], .func (.func 198) #[] #[.pointer (some ⟨bd, 0, none⟩)]] w fun e w' => ∃ r, e = .returned (.tuple #[.bool (decide ((itP (refB (uniE la ea lb eb Na) (Na + Nb) dv) (Na + Nb) r)[ia]? = (itP (refB (uniE la ea lb eb Na) (Na + Nb) dv) (Na + Nb) r)[Na + ib]?)), .int .i64 0]) ∧ LastG (refB (uniE la ea lb eb Na) (Na + Nb) dv) (Na + Nb) r ∧ Below w.heap.size w w' := by
 have hT := TwoS.start w Na ia A n c B m d Nb ib A' n' c' B' m' d';obtain ⟨w1, hw1⟩ : ∃ w1, w1 = (w.alloc (ltsC Na ia A n c B m d)).alloc (ltsC Nb ib A' n' c' B' m' d') := ⟨_, rfl⟩;rw [← hw1] at hT;have hia := h.bounds.2;have hib := g.bounds.2;have hNa2 := h.bounds.1.2;have hNb2 := g.bounds.1.2;have he1 := he.below hT.bel zR;have hq1 := hide ((h.below hT.bel zR).valid c d he1);obtain ⟨a0, a1, a2, a3, b0, b1, b2, b3⟩ := hT.cells;replace hT := hide hT;go_enter Tryz.func63, Tryz.ntmps63;go_upto_region 1 with fail;rw [show ((w.alloc (.cells #[.int .i64 (Na : Int), .int .i64 (ia : Int), .slice A n c, .slice B m d] 27)).alloc (.cells #[.int .i64 (Nb : Int), .int .i64 (ib : Int), .slice A' n' c', .slice B' m' d'] 27)) = w1 from hw1.symm];replace hw1 := hide hw1;go_wp2_with fail;refine hq1.out.mono ?_;rintro e w2 ⟨rfl, hb2⟩;have hT2 := hT.out.below hb2 zR;have he2 := he1.below hb2 zR;have hq2 := hide ((g.below hT2.bel zR).valid c' d' he2);clear a0 a1 a2 a3 b0 b1 b2 b3 hb2 hq1;obtain ⟨a0, a1, a2, a3, b0, b1, b2, b3⟩ := hT2.cells;replace hT2 := hide hT2;go_wp2_with fail;refine hq2.out.mono ?_;rintro e w3 ⟨rfl, hb3⟩;have hT3 := hide (hT2.out.below hb3 zR);clear a0 a1 a2 a3 b0 b1 b2 b3 hb3 hq2;go_wp2_with fail;obtain ⟨wD, hwD⟩ : ∃ wD, wD = w3.drew := ⟨_, rfl⟩;have hTD := hide (hT3.out.below (w2 := wD) (K := w3.heap.size) (by rw [hwD]; exact (Below.refl _ _).drew) zR);have hqB := hide (bothB_calls (h.below hTD.out.bel zR) (g.below hTD.out.bel zR) c d c' d' hsum dv bd (by have := hTD.out.bel.size; omega) ((hTD.out.bel.cell (p := ⟨bd, 0, none⟩) hbd).trans hd) huv hus);replace hwD := hide hwD;clear h g he he1 he2 hd;refine lateT_begin (S := fun w' => TwoC w w' Na ia A n c B m d Nb ib A' n' c' B' m' d') (st := 8) (by kernel_rfl) ?_;rw [← show wD = _ from hwD.out];have hS0 : (fun w' : World => TwoC w w' Na ia A n c B m d Nb ib A' n' c' B' m' d') wD := hTD.out.cells;refine tkA _ 0 [8] rfl (Or.inl ⟨by rfl, by intro w9 hSw; obtain ⟨y0, y1, y2, y3, z0, z1, z2, z3⟩ := hSw; go_simp <;> with_reducible rfl⟩) hS0 ?_;refine tkA _ 1 [8] rfl (Or.inl ⟨by rfl, by intro w9 hSw; obtain ⟨y0, y1, y2, y3, z0, z1, z2, z3⟩ := hSw; go_simp <;> with_reducible rfl⟩) hS0 ?_;refine tkA _ 2 [8] rfl (Or.inl ⟨by rfl, by intro w9 hSw; obtain ⟨y0, y1, y2, y3, z0, z1, z2, z3⟩ := hSw; go_simp <;> with_reducible rfl⟩) hS0 ?_;refine tkA _ 3 [8] rfl (Or.inl ⟨by rfl, by intro w9 hSw; obtain ⟨y0, y1, y2, y3, z0, z1, z2, z3⟩ := hSw; go_simp <;> with_reducible rfl⟩) hS0 ?_;refine tkA _ 4 [8] rfl (Or.inl ⟨by rfl, by intro w9 hSw; obtain ⟨y0, y1, y2, y3, z0, z1, z2, z3⟩ := hSw; go_simp <;> with_reducible rfl⟩) hS0 ?_;refine lS 5 fun K hK => ?_
 go_simp;go_at_call 137
 refine hqB.out.mono ?_;rintro e w5 ⟨r, P, cP, rfl, hL, hP, hb5⟩;have hT5 := hide (hTD.out.below hb5 zR);have hqI := hide (initialTogether_calls Na ia A n c B m d Nb ib A' n' c' B' m' d' P cP _ w5 _ _ hP (by omega) (by omega) hNa2 hNb2);have hb5h := hide hb5;replace hL := hide hL;clear hb5;go_wp2_with fail;refine hK.out _ _ (fun _ => hT5.out.cells) ?_;clear hK K;(try simp only [Act.put, sA, sB, sC]);refine lS 6 fun K hK => ?_
 go_simp;go_at_call 136
 refine hqI.out.mono ?_;rintro e w6 ⟨rfl, hb6⟩;have hT6 := hide (hT5.out.below hb6 zR);clear hqI;go_wp2_with fail;refine hK.out _ _ (fun _ => hT6.out.cells) ?_;clear hK K;(try simp only [Act.put, sA, sB, sC]);refine lS 7 fun K hK => ?_
 go_simp;refine hK.out _ _ (fun _ => hT6.out.cells) ?_
 clear hK K;(try simp only [Act.put, sA, sB, sC]);refine lS 8 fun K hK => ?_
 go_simp;refine hK.out _ _ nH ?_
 clear hK K;(try simp only [Act.put, sA, sB, sC]);refine lateT_done (by kernel_rfl) ?_ _;have hbF := hT6.out.bel;go_wp2_with fail;go_ret2;exact ⟨r, rfl, hL.out, hbF⟩
theorem brC_calls (dv : Bool) (w : World) : Calls Tryz.prog 106 #[.bool dv] w fun e w' => e = .returned (.func (.func 198) #[] #[.pointer (some ⟨w.heap.size, 0, none⟩)]) ∧ w' = w.alloc (.cells #[.bool dv] 4) := by
 go_enter Tryz.func106, Tryz.ntmps106;go_wp2_with fail;go_ret;exact ⟨rfl, rfl⟩
theorem areBranching_calls (h : SysA w Na ia A n B m la ea) (g : SysA w Nb ib A' n' B' m' lb eb) (c d c' d' : Nat) (he : Env w) (hsum : Na + Nb ≤ 40) (dv : Bool) (huv : ltsV (((Na + Nb : Nat) : Int), (ia : Int), joiF (la ++ lb), uniE la ea lb eb Na) = true) (hus : totS (joiF (la ++ lb)) ≤ 100000) :
  Calls Tryz.prog 42 #[.agg #[.int .i64 (Na : Int), .int .i64 (ia : Int), .slice A n c, .slice B m d], .agg #[.int .i64 (Nb : Int), .int .i64 (ib : Int), .slice A' n' c', .slice B' m' d'], .bool dv] w fun e w' => ∃ r, e = .returned (.tuple #[.bool (decide ((itP (refB (uniE la ea lb eb Na) (Na + Nb) dv) (Na + Nb) r)[ia]? = (itP (refB (uniE la ea lb eb Na) (Na + Nb) dv) (Na + Nb) r)[Na + ib]?)), .int .i64 0]) ∧ LastG (refB (uniE la ea lb eb Na) (Na + Nb) dv) (Na + Nb) r ∧ Below w.heap.size w w' := by
 have hT := TwoS.start w Na ia A n c B m d Nb ib A' n' c' B' m' d';obtain ⟨w1, hw1⟩ : ∃ w1, w1 = (w.alloc (ltsC Na ia A n c B m d)).alloc (ltsC Nb ib A' n' c' B' m' d') := ⟨_, rfl⟩;rw [← hw1] at hT;obtain ⟨wD, hwD⟩ : ∃ wD, wD = w1.drew := ⟨_, rfl⟩;have hb1D : Below w1.heap.size w1 wD := by rw [hwD]; exact (Below.refl _ _).drew
 have hTD := hT.below hb1D zR;obtain ⟨w3, hw3⟩ : ∃ w3, w3 = wD.alloc (.cells #[.bool dv] 4) := ⟨_, rfl⟩;have hbD3 : Below wD.heap.size wD w3 := by rw [hw3]; exact (Below.refl _ _).alloc zR _
 have hT3 := hTD.below hbD3 zR;have kD : w3.heap[wD.heap.size]? = some (.cells #[.bool dv] 4 (0, 0)) := by rw [hw3]; exact heap_alloc_new wD _
 have hq := hide (areAlikeB_calls (h.below hT3.bel zR) (g.below hT3.bel zR) c d c' d' (he.below hT3.bel zR) hsum dv wD.heap.size (Array.getElem?_eq_some_iff.1 kD).1 (cR 0 kD) huv hus);have hqC := hide (brC_calls dv wD);have hS0c := hide hTD.cells;have hS3c := hide hT3.cells;have hbel := hide hT3.bel;have hT3h := hide hT3;replace hw3 := hide hw3;clear hT hTD hT3 h g he kD hbD3 hb1D;go_enter Tryz.func42, Tryz.ntmps42;go_upto_region 1 with fail;rw [show ((w.alloc (.cells #[.int .i64 (Na : Int), .int .i64 (ia : Int), .slice A n c, .slice B m d] 27)).alloc (.cells #[.int .i64 (Nb : Int), .int .i64 (ib : Int), .slice A' n' c', .slice B' m' d'] 27)) = w1 from hw1.symm];replace hw1 := hide hw1;replace hwD := hide hwD;refine lateT_begin (S := fun w' => TwoC w w' Na ia A n c B m d Nb ib A' n' c' B' m' d') (st := 8) (by kernel_rfl) ?_;rw [← show wD = _ from hwD.out];have hS0 : (fun w' : World => TwoC w w' Na ia A n c B m d Nb ib A' n' c' B' m' d') wD := hS0c.out;refine tkA _ 0 [8] rfl (Or.inl ⟨by kernel_rfl, by intro w9 hSw; obtain ⟨u0, u1, u2, u3, u4, u5, u6, u7⟩ := hSw; go_simp <;> with_reducible rfl⟩) hS0 ?_;refine tkA _ 1 [8] rfl (Or.inl ⟨by kernel_rfl, by intro w9 hSw; obtain ⟨u0, u1, u2, u3, u4, u5, u6, u7⟩ := hSw; go_simp <;> with_reducible rfl⟩) hS0 ?_;refine tkA _ 2 [8] rfl (Or.inl ⟨by kernel_rfl, by intro w9 hSw; obtain ⟨u0, u1, u2, u3, u4, u5, u6, u7⟩ := hSw; go_simp <;> with_reducible rfl⟩) hS0 ?_;refine lS 3 fun K hK => ?_
 go_simp;go_at_call 106
 (with_reducible refine hqC.out.mono ?_)
 rintro e w4 ⟨rfl, rfl⟩
 (try go_wp2_with fail)
 rw [← show w3 = wD.alloc (.cells #[.bool dv] 4) from hw3.out];have hS1 := hS3c.out;refine hK.out _ _ (fun _ => hS1) ?_;clear hK K;(try simp only [Act.put, sA, sB, sC]);refine lS 4 fun K hK => ?_
 go_simp;go_at_call 63
 (with_reducible refine hq.out.mono ?_)
 rintro e w5 ⟨r, rfl, hL, hb5⟩;have hS5c := hide ((hT3h.out.below hb5 zR).cells)
 (try go_wp2_with fail)
 have hS2 := hS5c.out;refine hK.out _ _ (fun _ => hS2) ?_;clear hK K;(try simp only [Act.put, sA, sB, sC]);refine tkA _ 5 [8] rfl (Or.inl ⟨by kernel_rfl, by intro w9 hSw; obtain ⟨u0, u1, u2, u3, u4, u5, u6, u7⟩ := hSw; go_simp <;> with_reducible rfl⟩) hS2 ?_;refine tkA _ 6 [8] rfl (Or.inl ⟨by kernel_rfl, by intro w9 hSw; obtain ⟨u0, u1, u2, u3, u4, u5, u6, u7⟩ := hSw; go_simp <;> with_reducible rfl⟩) hS2 ?_;refine tkA _ 7 [8] rfl (Or.inl ⟨by kernel_rfl, by intro w9 hSw; obtain ⟨u0, u1, u2, u3, u4, u5, u6, u7⟩ := hSw; go_simp <;> with_reducible rfl⟩) hS2 ?_;refine lS 8 fun K hK => ?_
 go_simp;refine hK.out _ _ nH ?_
 clear hK K;(try simp only [Act.put, sA, sB, sC]);refine lateT_done (by kernel_rfl) ?_ _;have hbF := hide (hbel.out.trans (hb5.mono hbel.out.size));replace hL := hide hL;clear hb5;go_wp2_with fail;go_ret2;exact ⟨r, rfl, hL.out, hbF.out⟩
end
theorem root1_calls (Na Nb : Nat) (P : Option Addr) (cP : Nat) (p : List Int) (bp bt : Nat) (x y : Nat) (hx : x < Na) (hy : y < Nb) (w : World) (lo hi : Nat) (hP : SlI w lo hi P (Na + Nb) p) (cp : w.cell? ⟨bp, 0, none⟩ = some (.slice P ((Na + Nb : Nat) : Int).toNat cP)) (ct : w.cell? ⟨bt, 0, none⟩ = some (.int .i64 (Na : Int))) (hN : Na + Nb ≤ 40) :
  Calls Tryz.prog 203 #[.int .i64 (x : Int), .int .i64 (y : Int), .pointer (some ⟨bp, 0, none⟩), .pointer (some ⟨bt, 0, none⟩)] w (Says (decide (p[x]? = p[Na + y]?)) w) := by
 obtain ⟨gP, oP, px, rfl, -, -, -, hpx, cx, -⟩ := SlI.get hP (show x < Na + Nb by omega);obtain ⟨gP2, oP2, py, e2, -, -, -, hpy, cy, -⟩ := SlI.get hP (show Na + y < Na + Nb by omega);cases e2;rw [Int.toNat_natCast] at cp;have hval : decide (p[x]? = p[Na + y]?) = (px == py) := by
  rw [hpx, hpy]
  by_cases h : px = py <;> simp [h]
 rw [hval];have i0 : (0 : Int) ≤ (x : Int) := by omega
 have i1 : (x : Int) < ((Na + Nb : Nat) : Int) := by omega
 have hm : IntKind.i64.wrap ((Na : Int) + (y : Int)) = ((Na + y : Nat) : Int) := by rw [IntWalk.i64_in _ (by omega)]; omega
 have i2 : (0 : Int) ≤ ((Na + y : Nat) : Int) := by omega
 have i3 : ((Na + y : Nat) : Int) < ((Na + Nb : Nat) : Int) := by omega
 replace hpx := hide hpx;replace hpy := hide hpy;obtain ⟨M, hM⟩ : ∃ M, M = Na + Nb := ⟨_, rfl⟩;obtain ⟨z, hz⟩ : ∃ z, z = Na + y := ⟨_, rfl⟩;rw [← hM] at cp i1 i3;rw [← hz] at hm i2 i3 cy;replace hM := hide hM;replace hz := hide hz;clear hP hval;go_enter Tryz.func203, Tryz.ntmps203;go_upto_region 1 with fail;go_quiet (fail);go_wp2_with fail;go_ret;exact ⟨rfl, below_drewN _ _⟩
theorem turn1_calls (x0 x1 x2 x3 x4 x5 x6 x7 : Value) (Fh : FuncId) (caps : Array Value) (b : Bool) (br : Nat) (x y : Int) (w : World)
  (hFh : ∀ (a b : Value) (W : World), Sem.run Tryz.prog (callFunc Fh (#[a, b] ++ caps)) W = .ok (.enter Fh (#[a, b] ++ caps)) W)
  (k8 : w.cell? ⟨br, 8, none⟩ = some (.func (.func Fh) #[] caps)) (q0 : Calls Tryz.prog Fh (#[.int .i64 y, .int .i64 x] ++ caps) w (Says b w)) :
  Calls Tryz.prog 265 #[.int .i64 x, .int .i64 y, .pointer (some ⟨br, 0, none⟩)] w (Says b w) := by
 have q := hide q0;clear q0;go_enter Tryz.func265, Tryz.ntmps265;go_wp2_with fail;refine q.out.mono ?_;rintro e w5 ⟨rfl, hb5⟩;go_wp2_with fail;go_ret;exact ⟨rfl, hb5⟩
theorem turned_calls (s0 s1 : Int) (A2 : Option Addr) (n2 k2 : Nat) (A3 : Option Addr) (n3 k3 : Nat) (r0 r1 : Int) (B2 : Option Addr) (m2 j2 : Nat) (B3 : Option Addr) (m3 j3 : Nat) (F : Value) (hF : F.oneCell' = true) (w : World) :
  Calls Tryz.prog 205 #[.agg #[.int .i64 s0, .int .i64 s1, .slice A2 n2 k2, .slice A3 n3 k3, .int .i64 r0, .int .i64 r1, .slice B2 m2 j2, .slice B3 m3 j3, F]] w fun e w' => e = .returned (.agg #[.int .i64 r0, .int .i64 r1, .slice B2 m2 j2, .slice B3 m3 j3, .int .i64 s0, .int .i64 s1, .slice A2 n2 k2, .slice A3 n3 k3, .func (.func 265) #[] #[.pointer (some ⟨w.heap.size, 0, none⟩)]]) ∧ w'.cell? ⟨w.heap.size, 8, none⟩ = some F ∧ Below w.heap.size w w' := by
 go_enter Tryz.func205, Tryz.ntmps205;go_wp2_with fail;refine bodyPost_ret_by (v := .agg #[.int .i64 r0, .int .i64 r1, .slice B2 m2 j2, .slice B3 m3 j3, .int .i64 s0, .int .i64 s1, .slice A2 n2 k2, .slice A3 n3 k3, .func (.func 265) #[] #[.pointer (some ⟨w.heap.size, 0, none⟩)]]) ?_ rfl ?_
 focus
  rw [results_cell1 rfl];go_simp
 have hz := World.size_alloc w (.cells #[.int .i64 s0, .int .i64 s1, .slice A2 n2 k2, .slice A3 n3 k3, .int .i64 r0, .int .i64 r1, .slice B2 m2 j2, .slice B3 m3 j3, F] 215);refine ⟨rfl, ?_, ((Below.refl _ _).alloc zR _).alloc (by omega) _⟩;exact (cell_of_row _ _ 8 _ _ (0, 0) ((Below.heap_alloc _ _ _ (by omega)).trans (heap_alloc_new w _))).trans rfl
def twoH (p : List Int) (Na : Nat) (x y : Int) : Bool := decide (p[x.toNat]? = p[Na + y.toNat]?)
def rootQ (la : List ByteArray) (ea : List Ed) (lb : List ByteArray) (eb : List Ed) (p : List Int) (Na : Nat) (ia ib : Int) : Prop := relQ ea la eb lb (fun u v => twoH p Na u v = true) ia ib ∧ relQ eb lb ea la (fun u v => twoH p Na v u = true) ib ia
theorem ansS_calls (s0 s1 : Int) (A2 : Option Addr) (n2 k2 : Nat) (A3 : Option Addr) (n3 k3 : Nat) (r0 r1 : Int) (B2 : Option Addr) (m2 j2 : Nat) (B3 : Option Addr) (m3 j3 : Nat) (lt : List ByteArray) (et : List Ed) (lp : List ByteArray) (ep : List Ed) (Fh : FuncId) (caps : Array Value) (H : Int → Int → Bool) (hFh : ∀ (a b : Value) (W : World), Sem.run Tryz.prog (callFunc Fh (#[a, b] ++ caps)) W = .ok (.enter Fh (#[a, b] ++ caps)) W) (K0 : Nat) (x y : Int) (w : World) (hD : RelD w K0 s0 s1 A2 n2 k2 A3 n3 k3 r0 r1 B2 m2 j2 B3 m3 j3 lt et lp ep) (hK0 : K0 ≤ w.heap.size) (hr : s0 ≤ 40) (hr' : r0 ≤ 40) (hy : 0 ≤ y ∧ y < r0)
  (hH : ∀ (W : World) (x y : Int), Below w.heap.size w W → 0 ≤ x → x < s0 → 0 ≤ y → y < r0 → Calls Tryz.prog Fh (#[.int .i64 x, .int .i64 y] ++ caps) W (Says (H x y) W)) :
  Calls Tryz.prog 204 #[.agg #[.int .i64 s0, .int .i64 s1, .slice A2 n2 k2, .slice A3 n3 k3, .int .i64 r0, .int .i64 r1, .slice B2 m2 j2, .slice B3 m3 j3, .func (.func Fh) #[] caps], .int .i64 x, .int .i64 y, .func (.func 110) #[] #[]] w fun e w' => ∃ a : Bool, e = .returned (.bool a) ∧ (a = true ↔ relQ et lt ep lp (fun u v => H u v = true) x y) ∧ Below w.heap.size w w' :=
 answeredR_calls s0 s1 A2 n2 k2 A3 n3 k3 r0 r1 B2 m2 j2 B3 m3 j3 lt et lp ep 110 Fh caps H K0 x y w hD hK0 hr (fun a b c d e W => by kernel_rfl) fun lab v W hW hv =>
  stronglyR_calls s0 s1 A2 n2 k2 A3 n3 k3 r0 r1 B2 m2 j2 B3 m3 j3 lt et lp ep Fh caps H hFh K0 x y v lab W (hD.below hW hK0) (fun W' x y hW' => hH W' x y (hW.trans (hW'.mono hW.size))) hy hv hr'
section
variable {w : World} {Na ia : Nat} {A : Option Addr} {n : Nat} {B : Option Addr} {m : Nat} {la : List ByteArray} {ea : List Ed} {Nb ib : Nat} {A' : Option Addr} {n' : Nat} {B' : Option Addr} {m' : Nat} {lb : List ByteArray} {eb : List Ed}
theorem rooted_calls (h : SysA w Na ia A n B m la ea) (g : SysA w Nb ib A' n' B' m' lb eb) (c d c' d' : Nat) (he : Env w) (hsum : Na + Nb ≤ 40) (bd : Nat) (hbd : bd < w.heap.size) (hd : w.cell? ⟨bd, 0, none⟩ = some (.bool false)) (huv : ltsV (((Na + Nb : Nat) : Int), (ia : Int), joiF (la ++ lb), uniE la ea lb eb Na) = true) (hus : totS (joiF (la ++ lb)) ≤ 100000) :
  Calls Tryz.prog 109 #[.agg #[.int .i64 (Na : Int), .int .i64 (ia : Int), .slice A n c, .slice B m d], .agg #[.int .i64 (Nb : Int), .int .i64 (ib : Int), .slice A' n' c', .slice B' m' d'], .func (.func 198) #[] #[.pointer (some ⟨bd, 0, none⟩)], .func (.func 110) #[] #[]] w fun e w' => ∃ (r : Nat) (v : Bool), e = .returned (.tuple #[.bool v, .int .i64 0]) ∧ LastG (refB (uniE la ea lb eb Na) (Na + Nb) false) (Na + Nb) r ∧ (v = true ↔ rootQ la ea lb eb (itP (refB (uniE la ea lb eb Na) (Na + Nb) false) (Na + Nb) r) Na ia ib) ∧ Below w.heap.size w w' := by
 have hT := TwoS.start w Na ia A n c B m d Nb ib A' n' c' B' m' d';obtain ⟨w1, hw1⟩ : ∃ w1, w1 = (w.alloc (ltsC Na ia A n c B m d)).alloc (ltsC Nb ib A' n' c' B' m' d') := ⟨_, rfl⟩;rw [← hw1] at hT;have hia := h.bounds.2;have hib := g.bounds.2;have hNa2 := h.bounds.1.2;have hNb2 := g.bounds.1.2;have he1 := he.below hT.bel zR;have hq1 := hide ((h.below hT.bel zR).valid c d he1);obtain ⟨a0, a1, a2, a3, b0, b1, b2, b3⟩ := hT.cells;replace hT := hide hT;go_enter Tryz.func109, Tryz.ntmps109;go_upto_region 1 with fail;rw [show ((w.alloc (.cells #[.int .i64 (Na : Int), .int .i64 (ia : Int), .slice A n c, .slice B m d] 27)).alloc (.cells #[.int .i64 (Nb : Int), .int .i64 (ib : Int), .slice A' n' c', .slice B' m' d'] 27)) = w1 from hw1.symm];replace hw1 := hide hw1;go_wp2_with fail;refine hq1.out.mono ?_;rintro e w2 ⟨rfl, hb2⟩;have hT2 := hT.out.below hb2 zR;have he2 := he1.below hb2 zR;have hq2 := hide ((g.below hT2.bel zR).valid c' d' he2);clear a0 a1 a2 a3 b0 b1 b2 b3 hb2 hq1;obtain ⟨a0, a1, a2, a3, b0, b1, b2, b3⟩ := hT2.cells;replace hT2 := hide hT2;go_wp2_with fail;refine hq2.out.mono ?_;rintro e w3 ⟨rfl, hb3⟩;have hT3 := hide (hT2.out.below hb3 zR);clear a0 a1 a2 a3 b0 b1 b2 b3 hb3 hq2;have hqB := hide (bothB_calls (h.below hT3.out.bel zR) (g.below hT3.out.bel zR) c d c' d' hsum false bd (by have := hT3.out.bel.size; omega) ((hT3.out.bel.cell (p := ⟨bd, 0, none⟩) hbd).trans hd) huv hus);obtain ⟨a0, a1, a2, a3, b0, b1, b2, b3⟩ := hT3.out.cells;have hRD2 := hide (fun (wx : World) (hx : Below w.heap.size w wx) => (show RelD wx w.heap.size (Nb : Int) (ib : Int) A' n' c' B' m' d' (Na : Int) (ia : Int) A n c B m d lb eb la ea from ⟨g.ss.below hx (.inl zR), g.se.below hx (.inl zR), h.ss.below hx (.inl zR), h.se.below hx (.inl zR), by have := g.many; omega, by have := h.many; omega, g.ok, h.ok⟩));have hRD := hide (fun (wx : World) (hx : Below w.heap.size w wx) => (show RelD wx w.heap.size (Na : Int) (ia : Int) A n c B m d (Nb : Int) (ib : Int) A' n' c' B' m' d' la ea lb eb from ⟨h.ss.below hx (.inl zR), h.se.below hx (.inl zR), g.ss.below hx (.inl zR), g.se.below hx (.inl zR), by have := h.many; omega, by have := g.many; omega, h.ok, g.ok⟩));clear h g he he1 he2 hd;go_wp2_with fail;refine hqB.out.mono ?_;rintro e w5 ⟨r, P, cP, rfl, hL, hP, hb5⟩;clear a0 a1 a2 a3 b0 b1 b2 b3 hqB;have hbP := (Below.refl w5.heap.size w5).alloc zR (.cells #[.slice P (Na + Nb) cP] 32);have kP : (w5.alloc (.cells #[.slice P (Na + Nb) cP] 32)).heap[w5.heap.size]? = some (.cells #[.slice P (Na + Nb) cP] 32 (0, 0)) := heap_alloc_new w5 _;have zP : (w5.alloc (.cells #[.slice P (Na + Nb) cP] 32)).heap.size = w5.heap.size + 1 := World.size_alloc _ _;obtain ⟨wP, hwP⟩ : ∃ wP, wP = w5.alloc (.cells #[.slice P (Na + Nb) cP] 32) := ⟨_, rfl⟩;obtain ⟨bp, hbp⟩ : ∃ bp, bp = w5.heap.size := ⟨_, rfl⟩;rw [← hwP] at hbP kP zP;rw [← hbp] at kP
 have kR : (wP.alloc (.cells #[.int .i64 (Na : Int), .int .i64 (ia : Int), .slice A n c, .slice B m d, .int .i64 (Nb : Int), .int .i64 (ib : Int), .slice A' n' c', .slice B' m' d', .func (.func 203) #[] #[.pointer (some ⟨bp, 0, none⟩), .pointer (some ⟨w.heap.size, 0, none⟩)]] 215)).heap[wP.heap.size]? = some (.cells #[.int .i64 (Na : Int), .int .i64 (ia : Int), .slice A n c, .slice B m d, .int .i64 (Nb : Int), .int .i64 (ib : Int), .slice A' n' c', .slice B' m' d', .func (.func 203) #[] #[.pointer (some ⟨bp, 0, none⟩), .pointer (some ⟨w.heap.size, 0, none⟩)]] 215 (0, 0)) := heap_alloc_new wP _;have hbR := (Below.refl wP.heap.size wP).alloc zR (.cells #[.int .i64 (Na : Int), .int .i64 (ia : Int), .slice A n c, .slice B m d, .int .i64 (Nb : Int), .int .i64 (ib : Int), .slice A' n' c', .slice B' m' d', .func (.func 203) #[] #[.pointer (some ⟨bp, 0, none⟩), .pointer (some ⟨w.heap.size, 0, none⟩)]] 215);obtain ⟨wR, hwR⟩ : ∃ wR, wR = wP.alloc (.cells #[.int .i64 (Na : Int), .int .i64 (ia : Int), .slice A n c, .slice B m d, .int .i64 (Nb : Int), .int .i64 (ib : Int), .slice A' n' c', .slice B' m' d', .func (.func 203) #[] #[.pointer (some ⟨bp, 0, none⟩), .pointer (some ⟨w.heap.size, 0, none⟩)]] 215) := ⟨_, rfl⟩;obtain ⟨bR, hbRe⟩ : ∃ bR, bR = wP.heap.size := ⟨_, rfl⟩;rw [← hwR] at hbR kR;rw [← hbRe] at kR;have hbpl : bp < wP.heap.size := by omega
 have kPR : wR.heap[bp]? = some (.cells #[.slice P (Na + Nb) cP] 32 (0, 0)) := (hbR.block bp hbpl).trans kP;have hb5R := hbP.trans (hbR.mono (by omega));have hT5 := hT3.out.below hb5 zR;have hTR := hT5.below hb5R zR;have hPR := hP.below hb5R (.inl zR);have hSS : Hid (∀ wx : World, Below wR.heap.size wR wx → TwoC w wx Na ia A n c B m d Nb ib A' n' c' B' m' d' ∧ wx.cell? ⟨bR, 0, none⟩ = some (.int .i64 (Na : Int)) ∧ wx.cell? ⟨bR, 1, none⟩ = some (.int .i64 (ia : Int)) ∧ wx.cell? ⟨bR, 2, none⟩ = some (.slice A n c) ∧ wx.cell? ⟨bR, 3, none⟩ = some (.slice B m d) ∧ wx.cell? ⟨bR, 4, none⟩ = some (.int .i64 (Nb : Int)) ∧ wx.cell? ⟨bR, 5, none⟩ = some (.int .i64 (ib : Int)) ∧ wx.cell? ⟨bR, 6, none⟩ = some (.slice A' n' c') ∧ wx.cell? ⟨bR, 7, none⟩ = some (.slice B' m' d') ∧ wx.cell? ⟨bR, 8, none⟩ = some (.func (.func 203) #[] #[.pointer (some ⟨bp, 0, none⟩), .pointer (some ⟨w.heap.size, 0, none⟩)])) := fun wx hx => by
  have hk : wx.heap[bR]? = _ := (hx.block bR (Array.getElem?_eq_some_iff.1 kR).1).trans kR;exact ⟨(hTR.below hx zR).cells, cR 0 hk, cR 1 hk, cR 2 hk, cR 3 hk, cR 4 hk, cR 5 hk, cR 6 hk, cR 7 hk, cR 8 hk⟩
 have hRD1 := hide (fun (wx : World) (hx : Below wR.heap.size wR wx) => hRD.out wx (hTR.bel.trans (hx.mono hTR.bel.size)));have hRD3 := hide (fun (wx : World) (hx : Below wR.heap.size wR wx) => hRD2.out wx (hTR.bel.trans (hx.mono hTR.bel.size)));have hRoo := hide (fun (W : World) (hW : Below wR.heap.size wR W) (x y : Int) (hx0 : 0 ≤ x) (hx1 : x < (Na : Int)) (hy0 : 0 ≤ y) (hy1 : y < (Nb : Int)) => (show Calls Tryz.prog 203 (#[.int .i64 x, .int .i64 y] ++ #[.pointer (some ⟨bp, 0, none⟩), .pointer (some ⟨w.heap.size, 0, none⟩)]) W (Says (twoH (itP (refB (uniE la ea lb eb Na) (Na + Nb) false) (Na + Nb) r) Na x y) W) by
  obtain ⟨x, rfl⟩ : ∃ k : Nat, x = (k : Int) := ⟨x.toNat, by omega⟩;obtain ⟨y, rfl⟩ : ∃ k : Nat, y = (k : Int) := ⟨y.toNat, by omega⟩;have hk : W.heap[bp]? = _ := (hW.block bp (Array.getElem?_eq_some_iff.1 kPR).1).trans kPR;have hc := (hTR.below hW zR).cells;exact root1_calls Na Nb P cP (itP (refB (uniE la ea lb eb Na) (Na + Nb) false) (Na + Nb) r) bp w.heap.size x y (by omega) (by omega) W _ _ (hPR.below hW (.inl (by have := hb5R.size; omega))) ((cell_of_row _ _ 0 _ _ (0, 0) hk).trans (by rw [Int.toNat_natCast]; rfl)) hc.1 hsum))
 have hbelR := hide hTR.bel;obtain ⟨wD, hwD⟩ : ∃ wD, wD = wR.drew := ⟨_, rfl⟩;have hDD : Hid (Below wR.heap.size wR wD) := by show Below _ _ _; rw [hwD]; exact (Below.refl _ _).drew
 replace hwD := hide hwD;have hTw := hTR.bel.size;have qA0 := ansS_calls (Na : Int) (ia : Int) A n c B m d (Nb : Int) (ib : Int) A' n' c' B' m' d' la ea lb eb 203 #[.pointer (some ⟨bp, 0, none⟩), .pointer (some ⟨w.heap.size, 0, none⟩)] (twoH (itP (refB (uniE la ea lb eb Na) (Na + Nb) false) (Na + Nb) r) Na) (fun a b W => by kernel_rfl) w.heap.size (ia : Int) (ib : Int) wD (hRD1.out wD hDD.out) (Nat.le_trans hTw hDD.out.size) (by omega) (by omega) (by omega)
  (fun W x y hW hx0 hx1 hy0 hy1 => hRoo.out W (hDD.out.trans (hW.mono hDD.out.size)) x y hx0 hx1 hy0 hy1)
 have qB := hide (fun (w9 : World) (br : Nat) (h9 : Below wR.heap.size wR w9) (k8 : w9.cell? ⟨br, 8, none⟩ = some (.func (.func 203) #[] #[.pointer (some ⟨bp, 0, none⟩), .pointer (some ⟨w.heap.size, 0, none⟩)])) (hbr : br < w9.heap.size) =>
  ansS_calls (Nb : Int) (ib : Int) A' n' c' B' m' d' (Na : Int) (ia : Int) A n c B m d lb eb la ea 265 #[.pointer (some ⟨br, 0, none⟩)] (fun x y => twoH (itP (refB (uniE la ea lb eb Na) (Na + Nb) false) (Na + Nb) r) Na y x) (fun a b W => by kernel_rfl) w.heap.size (ib : Int) (ia : Int) w9 (hRD3.out w9 h9) (Nat.le_trans hTw h9.size) (by omega) (by omega) (by omega)
   (fun W x y hW hx0 hx1 hy0 hy1 => turn1_calls undef undef undef undef undef undef undef undef 203 #[.pointer (some ⟨bp, 0, none⟩), .pointer (some ⟨w.heap.size, 0, none⟩)] (twoH (itP (refB (uniE la ea lb eb Na) (Na + Nb) false) (Na + Nb) r) Na y x) br x y W (fun a b W => by kernel_rfl) ((hW.cell (p := ⟨br, 8, none⟩) hbr).trans k8) (hRoo.out W (h9.trans (hW.mono h9.size)) y x hy0 hy1 hx0 hx1)))
 obtain ⟨a0, a1, a2, a3, b0, b1, b2, b3⟩ := (hT5.below hbP zR).cells;replace hL := hide hL;replace kR := hide kR;clear hT5 hTR hPR hbP hbR kP kPR hb5R hP hb5 hT3 zP;go_upto_region 4 with fail;rw [← hwP, ← hbp];replace hwP := hide hwP;replace hbp := hide hbp;go_upto_region 5 with fail;rw [← hwR, ← hbRe];replace hwR := hide hwR;replace hbRe := hide hbRe;clear a0 a1 a2 a3 b0 b1 b2 b3
 by_cases h1 : relQ ea la eb lb (fun u v => twoH (itP (refB (uniE la ea lb eb Na) (Na + Nb) false) (Na + Nb) r) Na u v = true) (ia : Int) (ib : Int)
 ·have qA : Hid (Calls Tryz.prog 204 #[.agg #[.int .i64 (Na : Int), .int .i64 (ia : Int), .slice A n c, .slice B m d, .int .i64 (Nb : Int), .int .i64 (ib : Int), .slice A' n' c', .slice B' m' d', .func (.func 203) #[] #[.pointer (some ⟨bp, 0, none⟩), .pointer (some ⟨w.heap.size, 0, none⟩)]], .int .i64 (ia : Int), .int .i64 (ib : Int), .func (.func 110) #[] #[]] wD (Says true wD)) := qA0.mono (by
   rintro e w' ⟨a, rfl, h, hb⟩;exact ⟨by rw [h.2 h1], hb⟩)
  clear qA0;replace h1 := hide h1;refine lateT_begin (S := fun w' => TwoC w w' Na ia A n c B m d Nb ib A' n' c' B' m' d' ∧ w'.cell? ⟨bR, 0, none⟩ = some (.int .i64 (Na : Int)) ∧ w'.cell? ⟨bR, 1, none⟩ = some (.int .i64 (ia : Int)) ∧ w'.cell? ⟨bR, 2, none⟩ = some (.slice A n c) ∧ w'.cell? ⟨bR, 3, none⟩ = some (.slice B m d) ∧ w'.cell? ⟨bR, 4, none⟩ = some (.int .i64 (Nb : Int)) ∧ w'.cell? ⟨bR, 5, none⟩ = some (.int .i64 (ib : Int)) ∧ w'.cell? ⟨bR, 6, none⟩ = some (.slice A' n' c') ∧ w'.cell? ⟨bR, 7, none⟩ = some (.slice B' m' d') ∧ w'.cell? ⟨bR, 8, none⟩ = some (.func (.func 203) #[] #[.pointer (some ⟨bp, 0, none⟩), .pointer (some ⟨w.heap.size, 0, none⟩)])) (st := 18) (by kernel_rfl) ?_;rw [← show wD = _ from hwD.out];have hS0 : (fun w' : World => TwoC w w' Na ia A n c B m d Nb ib A' n' c' B' m' d' ∧ w'.cell? ⟨bR, 0, none⟩ = some (.int .i64 (Na : Int)) ∧ w'.cell? ⟨bR, 1, none⟩ = some (.int .i64 (ia : Int)) ∧ w'.cell? ⟨bR, 2, none⟩ = some (.slice A n c) ∧ w'.cell? ⟨bR, 3, none⟩ = some (.slice B m d) ∧ w'.cell? ⟨bR, 4, none⟩ = some (.int .i64 (Nb : Int)) ∧ w'.cell? ⟨bR, 5, none⟩ = some (.int .i64 (ib : Int)) ∧ w'.cell? ⟨bR, 6, none⟩ = some (.slice A' n' c') ∧ w'.cell? ⟨bR, 7, none⟩ = some (.slice B' m' d') ∧ w'.cell? ⟨bR, 8, none⟩ = some (.func (.func 203) #[] #[.pointer (some ⟨bp, 0, none⟩), .pointer (some ⟨w.heap.size, 0, none⟩)])) wD := hSS.out wD hDD.out;refine tkA _ 0 [18] rfl (Or.inl ⟨by kernel_rfl, by intro w' hSw; (try dsimp only at hSw); obtain ⟨⟨y0, y1, y2, y3, z0, z1, z2, z3⟩, v0, v1, v2, v3, v4, v5, v6, v7, v8⟩ := hSw; go_simp <;> with_reducible rfl⟩) hS0 ?_;refine tkD 1 [18] hS0 ?_;refine tkA _ 2 [18] rfl (Or.inl ⟨by kernel_rfl, by intro w' hSw; (try dsimp only at hSw); obtain ⟨⟨y0, y1, y2, y3, z0, z1, z2, z3⟩, v0, v1, v2, v3, v4, v5, v6, v7, v8⟩ := hSw; go_simp <;> with_reducible rfl⟩) hS0 ?_;refine tkD 3 [18] hS0 ?_;refine tkA _ 4 [18] rfl (Or.inl ⟨by kernel_rfl, by intro w' hSw; (try dsimp only at hSw); obtain ⟨⟨y0, y1, y2, y3, z0, z1, z2, z3⟩, v0, v1, v2, v3, v4, v5, v6, v7, v8⟩ := hSw; go_simp <;> with_reducible rfl⟩) hS0 ?_;refine tkD 5 [18] hS0 ?_;refine lS 6 fun K hK => ?_
  (try go_simp)
  go_at_call 204
  (with_reducible refine qA.out.mono ?_)
  rintro e w8 ⟨rfl, hb8⟩;have hb8h := hide (hDD.out.trans (hb8.mono hDD.out.size));have hc8 := hSS.out w8 hb8h.out;clear qA hb8
  (try go_wp2_with fail)
  have hS1 := hc8;refine hK.out _ _ (fun _ => hS1) ?_;clear hK K;(try simp only [Act.put, sA, sB, sC]);refine tkD 7 [18] hS1 ?_;refine tkA _ 8 [18] rfl (Or.inl ⟨by kernel_rfl, by intro w' hSw; (try dsimp only at hSw); obtain ⟨⟨y0, y1, y2, y3, z0, z1, z2, z3⟩, v0, v1, v2, v3, v4, v5, v6, v7, v8⟩ := hSw; go_simp <;> with_reducible rfl⟩) hS1 ?_;refine tkD 10 [18] hS1 ?_;refine tkA _ 11 [18] rfl (Or.inl ⟨by kernel_rfl, by intro w' hSw; (try dsimp only at hSw); obtain ⟨⟨y0, y1, y2, y3, z0, z1, z2, z3⟩, v0, v1, v2, v3, v4, v5, v6, v7, v8⟩ := hSw; go_simp <;> with_reducible rfl⟩) hS1 ?_;refine tkD 12 [18] hS1 ?_;refine tkA _ 13 [18] rfl (Or.inl ⟨by kernel_rfl, by intro w' hSw; (try dsimp only at hSw); obtain ⟨⟨y0, y1, y2, y3, z0, z1, z2, z3⟩, v0, v1, v2, v3, v4, v5, v6, v7, v8⟩ := hSw; go_simp <;> with_reducible rfl⟩) hS1 ?_;refine tkD 14 [18] hS1 ?_;refine lS 9 fun K hK => ?_
  (try go_simp)
  go_at_call 205
  (with_reducible refine (turned_calls (Na : Int) (ia : Int) A n c B m d (Nb : Int) (ib : Int) A' n' c' B' m' d' _ rfl w8).mono ?_)
  rintro e w9 ⟨rfl, k8, hb9⟩;have hb9h := hide (hb8h.out.trans (hb9.mono hb8h.out.size));have hc9 := hSS.out w9 hb9h.out;have qB2 := hide (qB.out w9 w8.heap.size hb9h.out k8 (World.block_lt_of_cell? _ _ k8));replace k8 := hide k8;clear hb9
  (try go_wp2_with fail)
  have hS2 := hc9;refine hK.out _ _ (fun _ => hS2) ?_;clear hK K;(try simp only [Act.put, sA, sB, sC]);refine lS 15 fun K hK => ?_
  (try go_simp)
  go_at_call 204
  (with_reducible refine qB2.out.mono ?_)
  rintro e w10 ⟨b, rfl, hbb, hb10⟩;have hb10h := hide (hb9h.out.trans (hb10.mono hb9h.out.size));have hc10 := hSS.out w10 hb10h.out;have hbbh := hide hbb;clear hb10 hbb qB2
  (try go_wp2_with fail)
  have hS3 := hc10;refine hK.out _ _ (fun _ => hS3) ?_;clear hK K;(try simp only [Act.put, sA, sB, sC]);refine tkD 16 [18] hS3 ?_;refine tkD 17 [18] hS3 ?_;refine lS 18 fun K hK => ?_
  go_simp;refine hK.out _ _ nH ?_
  clear hK K;(try simp only [Act.put, sA, sB, sC]);refine lateT_done (by kernel_rfl) ?_ _;have hbF := hide (hbelR.out.trans (hb10h.out.mono hbelR.out.size));go_wp2_with fail;go_ret2;exact ⟨r, b, rfl, hL.out, ⟨fun hb => ⟨h1.out, hbbh.out.1 hb⟩, fun hq => hbbh.out.2 hq.2⟩, hbF.out⟩
 ·have qA : Hid (Calls Tryz.prog 204 #[.agg #[.int .i64 (Na : Int), .int .i64 (ia : Int), .slice A n c, .slice B m d, .int .i64 (Nb : Int), .int .i64 (ib : Int), .slice A' n' c', .slice B' m' d', .func (.func 203) #[] #[.pointer (some ⟨bp, 0, none⟩), .pointer (some ⟨w.heap.size, 0, none⟩)]], .int .i64 (ia : Int), .int .i64 (ib : Int), .func (.func 110) #[] #[]] wD (Says false wD)) := qA0.mono (by
   rintro e w' ⟨a, rfl, h, hb⟩;exact ⟨by rw [Bool.eq_false_iff.2 fun ha => h1 (h.1 ha)], hb⟩)
  clear qA0;replace h1 := hide h1;refine lateT_begin (S := fun w' => TwoC w w' Na ia A n c B m d Nb ib A' n' c' B' m' d' ∧ w'.cell? ⟨bR, 0, none⟩ = some (.int .i64 (Na : Int)) ∧ w'.cell? ⟨bR, 1, none⟩ = some (.int .i64 (ia : Int)) ∧ w'.cell? ⟨bR, 2, none⟩ = some (.slice A n c) ∧ w'.cell? ⟨bR, 3, none⟩ = some (.slice B m d) ∧ w'.cell? ⟨bR, 4, none⟩ = some (.int .i64 (Nb : Int)) ∧ w'.cell? ⟨bR, 5, none⟩ = some (.int .i64 (ib : Int)) ∧ w'.cell? ⟨bR, 6, none⟩ = some (.slice A' n' c') ∧ w'.cell? ⟨bR, 7, none⟩ = some (.slice B' m' d') ∧ w'.cell? ⟨bR, 8, none⟩ = some (.func (.func 203) #[] #[.pointer (some ⟨bp, 0, none⟩), .pointer (some ⟨w.heap.size, 0, none⟩)])) (st := 18) (by kernel_rfl) ?_;rw [← show wD = _ from hwD.out];have hS0 : (fun w' : World => TwoC w w' Na ia A n c B m d Nb ib A' n' c' B' m' d' ∧ w'.cell? ⟨bR, 0, none⟩ = some (.int .i64 (Na : Int)) ∧ w'.cell? ⟨bR, 1, none⟩ = some (.int .i64 (ia : Int)) ∧ w'.cell? ⟨bR, 2, none⟩ = some (.slice A n c) ∧ w'.cell? ⟨bR, 3, none⟩ = some (.slice B m d) ∧ w'.cell? ⟨bR, 4, none⟩ = some (.int .i64 (Nb : Int)) ∧ w'.cell? ⟨bR, 5, none⟩ = some (.int .i64 (ib : Int)) ∧ w'.cell? ⟨bR, 6, none⟩ = some (.slice A' n' c') ∧ w'.cell? ⟨bR, 7, none⟩ = some (.slice B' m' d') ∧ w'.cell? ⟨bR, 8, none⟩ = some (.func (.func 203) #[] #[.pointer (some ⟨bp, 0, none⟩), .pointer (some ⟨w.heap.size, 0, none⟩)])) wD := hSS.out wD hDD.out;refine tkA _ 0 [18] rfl (Or.inl ⟨by kernel_rfl, by intro w' hSw; (try dsimp only at hSw); obtain ⟨⟨y0, y1, y2, y3, z0, z1, z2, z3⟩, v0, v1, v2, v3, v4, v5, v6, v7, v8⟩ := hSw; go_simp <;> with_reducible rfl⟩) hS0 ?_;refine tkD 1 [18] hS0 ?_;refine tkA _ 2 [18] rfl (Or.inl ⟨by kernel_rfl, by intro w' hSw; (try dsimp only at hSw); obtain ⟨⟨y0, y1, y2, y3, z0, z1, z2, z3⟩, v0, v1, v2, v3, v4, v5, v6, v7, v8⟩ := hSw; go_simp <;> with_reducible rfl⟩) hS0 ?_;refine tkD 3 [18] hS0 ?_;refine tkA _ 4 [18] rfl (Or.inl ⟨by kernel_rfl, by intro w' hSw; (try dsimp only at hSw); obtain ⟨⟨y0, y1, y2, y3, z0, z1, z2, z3⟩, v0, v1, v2, v3, v4, v5, v6, v7, v8⟩ := hSw; go_simp <;> with_reducible rfl⟩) hS0 ?_;refine tkD 5 [18] hS0 ?_;refine lS 6 fun K hK => ?_
  (try go_simp)
  go_at_call 204
  (with_reducible refine qA.out.mono ?_)
  rintro e w8 ⟨rfl, hb8⟩;have hb8h := hide (hDD.out.trans (hb8.mono hDD.out.size));have hc8 := hSS.out w8 hb8h.out;clear qA hb8
  (try go_wp2_with fail)
  have hS1 := hc8;refine hK.out _ _ (fun _ => hS1) ?_;clear hK K;(try simp only [Act.put, sA, sB, sC]);refine tkD 7 [18] hS1 ?_;refine tkC 8 [18] hS1 ?_;refine tkC 9 [18] hS1 ?_;refine tkC 10 [18] hS1 ?_;refine tkC 11 [18] hS1 ?_;refine tkC 12 [18] hS1 ?_;refine tkC 13 [18] hS1 ?_;refine tkC 14 [18] hS1 ?_;refine tkC 15 [18] hS1 ?_;refine tkD 16 [18] hS1 ?_;refine tkD 17 [18] hS1 ?_;refine lS 18 fun K hK => ?_
  go_simp;refine hK.out _ _ nH ?_
  clear hK K;(try simp only [Act.put, sA, sB, sC]);refine lateT_done (by kernel_rfl) ?_ _;have hbF := hide (hbelR.out.trans (hb8h.out.mono hbelR.out.size));go_wp2_with fail;go_ret2;exact ⟨r, false, rfl, hL.out, ⟨fun hb => by (cases hb), fun hq => absurd hq.1 h1.out⟩, hbF.out⟩
end
section
variable {w : World} {Na ia : Nat} {A : Option Addr} {n : Nat} {B : Option Addr} {m : Nat} {la : List ByteArray} {ea : List Ed} {Nb ib : Nat} {A' : Option Addr} {n' : Nat} {B' : Option Addr} {m' : Nat} {lb : List ByteArray} {eb : List Ed}
theorem areRooted_calls (h : SysA w Na ia A n B m la ea) (g : SysA w Nb ib A' n' B' m' lb eb) (c d c' d' : Nat) (he : Env w) (hsum : Na + Nb ≤ 40) (huv : ltsV (((Na + Nb : Nat) : Int), (ia : Int), joiF (la ++ lb), uniE la ea lb eb Na) = true) (hus : totS (joiF (la ++ lb)) ≤ 100000) :
  Calls Tryz.prog 45 #[.agg #[.int .i64 (Na : Int), .int .i64 (ia : Int), .slice A n c, .slice B m d], .agg #[.int .i64 (Nb : Int), .int .i64 (ib : Int), .slice A' n' c', .slice B' m' d']] w fun e w' => ∃ (r : Nat) (v : Bool), e = .returned (.tuple #[.bool v, .int .i64 0]) ∧ LastG (refB (uniE la ea lb eb Na) (Na + Nb) false) (Na + Nb) r ∧ (v = true ↔ rootQ la ea lb eb (itP (refB (uniE la ea lb eb Na) (Na + Nb) false) (Na + Nb) r) Na ia ib) ∧ Below w.heap.size w w' := by
 have hT := TwoS.start w Na ia A n c B m d Nb ib A' n' c' B' m' d';obtain ⟨w1, hw1⟩ : ∃ w1, w1 = (w.alloc (ltsC Na ia A n c B m d)).alloc (ltsC Nb ib A' n' c' B' m' d') := ⟨_, rfl⟩;rw [← hw1] at hT;obtain ⟨wD, hwD⟩ : ∃ wD, wD = w1.drew := ⟨_, rfl⟩;have hb1D : Below w1.heap.size w1 wD := by rw [hwD]; exact (Below.refl _ _).drew
 have hTD := hT.below hb1D zR;obtain ⟨w3, hw3⟩ : ∃ w3, w3 = wD.alloc (.cells #[.bool false] 4) := ⟨_, rfl⟩;have hbD3 : Below wD.heap.size wD w3 := by rw [hw3]; exact (Below.refl _ _).alloc zR _
 have hT3 := hTD.below hbD3 zR;have kD : w3.heap[wD.heap.size]? = some (.cells #[.bool false] 4 (0, 0)) := by rw [hw3]; exact heap_alloc_new wD _
 have hq := hide (rooted_calls (h.below hT3.bel zR) (g.below hT3.bel zR) c d c' d' (he.below hT3.bel zR) hsum wD.heap.size (Array.getElem?_eq_some_iff.1 kD).1 (cR 0 kD) huv hus);have hqC := hide (brC_calls false wD);have hS0c := hide hTD.cells;have hS3c := hide hT3.cells;have hbel := hide hT3.bel;have hT3h := hide hT3;replace hw3 := hide hw3;clear hT hTD hT3 h g he kD hbD3 hb1D;go_enter Tryz.func45, Tryz.ntmps45;go_upto_region 1 with fail;rw [show ((w.alloc (.cells #[.int .i64 (Na : Int), .int .i64 (ia : Int), .slice A n c, .slice B m d] 27)).alloc (.cells #[.int .i64 (Nb : Int), .int .i64 (ib : Int), .slice A' n' c', .slice B' m' d'] 27)) = w1 from hw1.symm];replace hw1 := hide hw1;replace hwD := hide hwD;refine lateT_begin (S := fun w' => TwoC w w' Na ia A n c B m d Nb ib A' n' c' B' m' d') (st := 7) (by kernel_rfl) ?_;rw [← show wD = _ from hwD.out];have hS0 : (fun w' : World => TwoC w w' Na ia A n c B m d Nb ib A' n' c' B' m' d') wD := hS0c.out;refine tkA _ 0 [7] rfl (Or.inl ⟨by rfl, by intro w9 hSw; obtain ⟨u0, u1, u2, u3, u4, u5, u6, u7⟩ := hSw; go_simp <;> with_reducible rfl⟩) hS0 ?_;refine tkA _ 1 [7] rfl (Or.inl ⟨by rfl, by intro w9 hSw; obtain ⟨u0, u1, u2, u3, u4, u5, u6, u7⟩ := hSw; go_simp <;> with_reducible rfl⟩) hS0 ?_;refine lS 2 fun K hK => ?_
 go_simp;go_at_call 106
 (with_reducible refine hqC.out.mono ?_)
 rintro e w4 ⟨rfl, rfl⟩
 (try go_wp2_with fail)
 rw [← show w3 = wD.alloc (.cells #[.bool false] 4) from hw3.out];refine hK.out _ _ (fun _ => hS3c.out) ?_;clear hK K;(try simp only [Act.put, sA, sB, sC]);refine lS 3 fun K hK => ?_
 go_simp;go_at_call 109
 (with_reducible refine hq.out.mono ?_)
 rintro e w5 ⟨r, v, rfl, hL, hv, hb5⟩;have hS5c := hide ((hT3h.out.below hb5 zR).cells)
 (try go_wp2_with fail)
 refine hK.out _ _ (fun _ => hS5c.out) ?_;clear hK K;(try simp only [Act.put, sA, sB, sC])
-- SEVERAL MAY COME: [4, 5]
 refine tkA _ 4 [7] rfl (Or.inl ⟨by kernel_rfl, by intro w9 hSw; obtain ⟨u0, u1, u2, u3, u4, u5, u6, u7⟩ := hSw; go_simp <;> with_reducible rfl⟩) hS5c.out ?_;refine tkA _ 5 [7] rfl (Or.inl ⟨by kernel_rfl, by intro w9 hSw; obtain ⟨u0, u1, u2, u3, u4, u5, u6, u7⟩ := hSw; go_simp <;> with_reducible rfl⟩) hS5c.out ?_;refine tkA _ 6 [7] rfl (Or.inl ⟨by kernel_rfl, by intro w9 hSw; obtain ⟨u0, u1, u2, u3, u4, u5, u6, u7⟩ := hSw; go_simp <;> with_reducible rfl⟩) hS5c.out ?_;refine lS 7 fun K hK => ?_
 go_simp;refine hK.out _ _ nH ?_
 clear hK K;(try simp only [Act.put, sA, sB, sC]);refine lateT_done (by kernel_rfl) ?_ _;have hbF := hide (hbel.out.trans (hb5.mono hbel.out.size));replace hL := hide hL;replace hv := hide hv;clear hb5;go_wp2_with fail;go_ret2;exact ⟨r, v, rfl, hL.out, hv.out, hbF.out⟩
end
end Go.Proofs.YtnhomkmfbngmgaaGreatDoor
