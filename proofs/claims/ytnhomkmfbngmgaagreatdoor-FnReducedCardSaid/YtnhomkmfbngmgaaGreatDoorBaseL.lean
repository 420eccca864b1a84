/-
  Lemmas that the law of this claim leans on. Conditions: sizes.
-/
import Derived.Test.YtnhomkmfbngmgaaGreatDoorBaseA
import Derived.Test.YtnhomkmfbngmgaaGreatDoorBaseD
import Derived.Test.YtnhomkmfbngmgaaGreatDoorBaseF
import Derived.Test.YtnhomkmfbngmgaaGreatDoorBaseJ
import Derived.Test.YtnhomkmfbngmgaaGreatDoorBaseK
import Derived.BigQuiet
import Derived.Deep.CutBlock
set_option maxHeartbeats 6400000
set_option maxRecDepth 100000
set_option linter.unusedSimpArgs false
set_option linter.unusedVariables false
namespace Go.Proofs.YtnhomkmfbngmgaaGreatDoor
open Go.ChangeShapes Go.WideShapes Go.ChangeAt Go.RowKit Go.Sort Go.Lib
structure MinW (wb w : World) (J : List ByteArray) (R : List Int) (E : List Ed) (g : Option Nat) (r : Option (Option Addr × Nat)) (q : Option ((Option Addr × Nat × Nat) × (Option Addr × Nat × Nat))) : Prop where
 below : Below wb.heap.size wb w
 box : ∀ b, g = some b → wb.heap.size ≤ b ∧ LtsBox w b 0 0 none 0 0 none 0 0
 rch : ∀ h, r = some h → SlI w 0 w.heap.size h.1 h.2 R
 prt : ∀ h, q = some h → ∃ lo hi, SlS w lo hi h.1.1 h.1.2.1 J ∧ SlE w lo hi h.2.1 h.2.2.1 E ∧ wb.heap.size ≤ lo ∧ hi ≤ w.heap.size ∧ ∀ b, g = some b → b < lo ∨ hi ≤ b
section
variable {wb w w' : World} {J : List ByteArray} {R : List Int} {E : List Ed} {g : Option Nat} {r : Option (Option Addr × Nat)} {q : Option ((Option Addr × Nat × Nat) × (Option Addr × Nat × Nat))}
theorem MinW.start (wb : World) (J : List ByteArray) (R : List Int) (E : List Ed) : MinW wb wb J R E none none none := ⟨bR, fun b e => (by cases e), fun h e => (by cases e), fun h e => (by cases e)⟩
theorem MinW.keep (h : MinW wb w J R E g r q) (hb : Below w.heap.size w w') : MinW wb w' J R E g r q where
 below := h.below.trans (hb.mono h.below.size)
 box := fun b e => ⟨(h.box b e).1, (h.box b e).2.below hb (h.box b e).2.lt⟩
 rch := fun k e => ((h.rch k e).below hb (.inr zR)).here'
 prt := fun k e => by
  obtain ⟨lo, hi, h1, h2, h3, h4, h5⟩ := h.prt k e;exact ⟨lo, hi, h1.below hb (.inl h4), h2.below hb (.inl h4), h3, Nat.le_trans h4 hb.size, h5⟩
theorem MinW.drew (h : MinW wb w J R E g r q) : MinW wb w.drew J R E g r q := h.keep bR.drew
theorem MinW.alloc (h : MinW wb w J R E none r q) : MinW wb (w.alloc (.cells #[.int .i64 0, .int .i64 0, .slice none 0 0, .slice none 0 0] 27)) J R E (some w.heap.size) r q := by
 have hb : Below w.heap.size w (w.alloc (.cells #[.int .i64 0, .int .i64 0, .slice none 0 0, .slice none 0 0] 27)) := bR.alloc zR _;have h1 := h.keep hb;refine ⟨h1.below, fun b e => ?_, h1.rch, fun k e => ?_⟩
 ·cases e
  exact ⟨h.below.size, heap_alloc_new w _⟩
 ·obtain ⟨lo, hi, g1, g2, g3, g4, g5⟩ := h.prt k e
  exact ⟨lo, hi, g1.below hb (.inl g4), g2.below hb (.inl g4), g3, Nat.le_trans g4 hb.size, fun b e2 => by cases e2; exact .inr g4⟩
theorem MinW.reach (h : MinW wb w J R E g none none) {A : Option Addr} {n : Nat} (hb : Below w.heap.size w w') (ho : SlI w' w.heap.size w'.heap.size A n R) : MinW wb w' J R E g (some (A, n)) none :=
 ⟨(h.keep hb).below, (h.keep hb).box, fun k e => by cases e; exact ho.here', fun k e => by cases e⟩
theorem MinW.part (h : MinW wb w J R E g r none) {A B : Option Addr} {n c m d : Nat} (hb : Below w.heap.size w w') (hs : SlS w' w.heap.size w'.heap.size A n J) (he : SlE w' w.heap.size w'.heap.size B m E) : MinW wb w' J R E g r (some ((A, n, c), (B, m, d))) :=
 ⟨(h.keep hb).below, (h.keep hb).box, (h.keep hb).rch, fun k e => by
  cases e
  exact ⟨_, _, hs, he, h.below.size, zR, fun b e2 => .inl (h.box b e2).2.lt⟩⟩
structure MinF (wb wf : World) (J : List ByteArray) (E : List Ed) (b : Nat) (s i : Int) (A : Option Addr) (n c : Nat) (B : Option Addr) (m d : Nat) : Prop where
 below : Below wb.heap.size wb wf
 box : LtsBox wf b s i A n c B m d
 base : wb.heap.size ≤ b
 ss : SlS wf 0 wf.heap.size A n J
 se : SlE wf 0 wf.heap.size B m E
theorem MinW.fill {A B : Option Addr} {n c m d b : Nat} (h : MinW wb w J R E (some b) r (some ((A, n, c), (B, m, d)))) (s i : Int) :
  MinF wb ((((w.setCell ⟨b, 0, none⟩ (.int .i64 s)).setCell ⟨b, 1, none⟩ (.int .i64 i)).setCell ⟨b, 2, none⟩ (.slice A n c)).setCell ⟨b, 3, none⟩ (.slice B m d)) J E b s i A n c B m d := by
 obtain ⟨hg, hx⟩ := h.box b rfl;obtain ⟨lo, hi, g1, g2, g3, g4, g5⟩ := h.prt _ rfl;have g5 := g5 b rfl;have x0 : (w.setCell ⟨b, 0, none⟩ (.int .i64 s)).heap[b]? = _ := heap_setCell_same w b 0 _ _ _ hx;have x1 := heap_setCell_same _ b 1 _ _ (.int .i64 i) x0;have x2 := heap_setCell_same _ b 2 _ _ (.slice A n c) x1;have x3 := heap_setCell_same _ b 3 _ _ (.slice B m d) x2;have o1 := (Only.refl b (b + 1) w).setCell (p := ⟨b, 0, none⟩) zR (Nat.lt_succ_self _) (.int .i64 s);have o2 := o1.setCell (p := ⟨b, 1, none⟩) zR (Nat.lt_succ_self _) (.int .i64 i);have o3 := o2.setCell (p := ⟨b, 2, none⟩) zR (Nat.lt_succ_self _) (.slice A n c);have o4 := o3.setCell (p := ⟨b, 3, none⟩) zR (Nat.lt_succ_self _) (.slice B m d);exact ⟨Only.below h.below o4 hg h.below.size, x3, hg, (g1.only o4 (by omega)).here', (g2.only o4 (by omega)).here'⟩
end
theorem reach_nodup {N : Nat} {es : List Ed} {ini : Int} : (reachF N es ini).Nodup := by
 unfold reachF;exact List.Pairwise.map Int.ofNat (fun a b h e => h (Int.ofNat.inj e)) (List.Pairwise.filter _ List.nodup_range)
theorem results_cs {fn : Func} {p q : Tmp} {ty : TypeId} (h : fn.results = #[.cell p ty, .tmp q]) (tmps : Array Value) (P : Program) (w : World) :
  (results fn tmps).run P w = ((asAddr (tmps.getD p undef)).run P w).andThen fun a w₁ => ((loadVar ty a).run P w₁).andThen fun v w₂ => .ok (.tuple #[v, tmps.getD q undef]) w₂ := by
 simp only [results, h]
 simp [Sem.run_bind, Result.andThen]
theorem tE_in {ls : List ByteArray} {es : List Ed} {N : Nat} (he : EdIn N es) (x : Nat) (s : ByteArray) (y : Nat) (h : tE ls es x s y) : x < N ∧ y < N := by
 obtain ⟨l, h1, h2⟩ := h;exact nE_in he h1
theorem uni_fun {la : List ByteArray} {ea : List Ed} {lb : List ByteArray} {eb : List Ed} {Na Nb : Nat}
  (ha : ∀ e, e ∈ ea → (0 ≤ e.1 ∧ e.1 < (Na : Int)) ∧ (0 ≤ e.2.1 ∧ e.2.1 < (la.length : Int)) ∧ (0 ≤ e.2.2 ∧ e.2.2 < (Na : Int)))
  (hb : ∀ e, e ∈ eb → (0 ≤ e.1 ∧ e.1 < (Nb : Int)) ∧ (0 ≤ e.2.1 ∧ e.2.1 < (lb.length : Int)) ∧ (0 ≤ e.2.2 ∧ e.2.2 < (Nb : Int))) :
  tE (joiF (la ++ lb)) (uniE la ea lb eb Na) = sumE Na (tE la ea) (tE lb eb) := by
 funext a s b
 exact propext (uni_tE ha fun e he => ⟨(hb e he).1.1, (hb e he).2.1, (hb e he).2.2.1⟩)
theorem uni_rnd {la : List ByteArray} {ea : List Ed} {lb : List ByteArray} {eb : List Ed} {Na Nb : Nat} {d : Bool} {α : Type} {q : Nat → α} (hla : la.length ≤ 100) (hlb : lb.length ≤ 100)
  (ha : ∀ e, e ∈ ea → (0 ≤ e.1 ∧ e.1 < (Na : Int)) ∧ (0 ≤ e.2.1 ∧ e.2.1 < (la.length : Int)) ∧ (0 ≤ e.2.2 ∧ e.2.2 < (Na : Int)))
  (hb : ∀ e, e ∈ eb → (0 ≤ e.1 ∧ e.1 < (Nb : Int)) ∧ (0 ≤ e.2.1 ∧ e.2.1 < (lb.length : Int)) ∧ (0 ≤ e.2.2 ∧ e.2.2 < (Nb : Int)))
  (hq : Stb (sumE Na (tE la ea) (tE lb eb)) tauB (d = true) q) (hr : ∀ x y, q x = q y → (x < Na + Nb ↔ y < Na + Nb)) (r : Nat) {x y : Nat} (hx : x < Na + Nb) (hy : y < Na + Nb) (h : q x = q y) :
  sameB (itP (refB (uniE la ea lb eb Na) (Na + Nb) d) (Na + Nb) r) x y := by
 rw [← uni_fun ha hb] at hq;exact stb_rnd (uni_in hla hlb ha hb).1 ((stb_text (joi_nodup (la ++ lb)) (joi_head (la ++ lb)) (uni_lab (Na := Na) (fun e he => (ha e he).2.1) fun e he => (hb e he).2.1)).2 hq) hr r hx hy h
open Classical in
noncomputable def qM (N : Nat) (S : List Int) (P : Nat → Nat) (u : Nat) : Nat ⊕ Nat := if u < N then (if (u : Int) ∈ S then .inl (P (S.idxOf (u : Int))) else .inr u) else .inl (u - N)
section
variable {L α : Type} {A B U : Nat → L → Nat → Prop} {τ : L} {d : Prop} {q : Nat → α} {f : Nat → Nat} {n m : Nat}
theorem Emb.stb (h : Emb A U f) (hq : Stb U τ d q) : Stb A τ d fun i => q (f i) := by
 have ho : ∀ i l b, offr U τ q (f i) l b ↔ offr A τ (fun i => q (f i)) i l b := fun i l b => (h.off (g := fun a => a) (P := fun i => q (f i)) (fun _ => rfl) (fun _ _ e => e)).trans ⟨fun ⟨c, e, g⟩ => e ▸ g, fun g => ⟨b, rfl, g⟩⟩
 have hv : ∀ i, Dvg (inrt U τ q) (f i) ↔ Dvg (inrt A τ fun i => q (f i)) i := fun i => h.dvg (g := fun a => a) (P := fun i => q (f i)) (fun _ => rfl) (fun _ _ e => e)
 exact ⟨fun x y l b e g => (ho y l b).1 (hq.off _ _ l b e ((ho x l b).2 g)), fun hd x y e g => (hv y).1 (hq.dvg hd _ _ e ((hv x).2 g))⟩
theorem emb_swap (hA : ∀ x s y, A x s y → x < n ∧ y < n) (hB : ∀ x s y, B x s y → x < m ∧ y < m) : Emb (sumE n A B) (sumE m B A) fun i => if i < n then m + i else if i < n + m then i - n else m + i := by
 refine ⟨fun i l j h => ?_, fun i l y h => ?_⟩
 ·rcases h with ⟨h1, h2, h⟩ | ⟨x', y', rfl, rfl, h⟩
  ·rw [if_pos h1, if_pos h2]
   exact .inr ⟨i, j, rfl, rfl, h⟩
  ·have := hB _ _ _ h
   rw [if_neg (by omega), if_pos (by omega), if_neg (by omega), if_pos (by omega)];exact .inl ⟨by omega, by omega, by rwa [Nat.add_sub_cancel_left, Nat.add_sub_cancel_left]⟩
 ·by_cases h1 : i < n
  ·rw [if_pos h1] at h
   rcases h with ⟨g, _, _⟩ | ⟨x', y', e, rfl, k⟩
   ·omega
   ·obtain rfl : x' = i := by omega
    have := hA _ _ _ k;exact ⟨y', by rw [if_pos this.2], .inl ⟨h1, this.2, k⟩⟩
  ·rw [if_neg h1] at h
   by_cases h2 : i < n + m
   ·rw [if_pos h2] at h
    rcases h with ⟨g1, g2, k⟩ | ⟨x', y', e, _, _⟩
    ·exact ⟨n + y, by rw [if_neg (by omega), if_pos (by omega), Nat.add_sub_cancel_left], .inr ⟨i - n, y, by omega, rfl, k⟩⟩
    ·omega
   ·rw [if_neg h2] at h
    rcases h with ⟨g, _, _⟩ | ⟨x', y', e, rfl, k⟩
    ·omega
    ·have := hA _ _ _ k
     omega
end
section
variable {ls : List ByteArray} {es em : List Ed} {S : List Int} {N K : Nat} {d : Prop} {P : Nat → Nat}
theorem quo_sum (heN : EdIn N es) (hem : EdIn K em) (hn : S.Nodup) (hat : ∀ a, a ∈ S → ∃ k : Nat, a = (k : Int) ∧ k < N) (hcl : ∀ a l b, a ∈ S → (a, l, b) ∈ es → b ∈ S)
  (hsT : Stb (tE ls (partF S es)) tauB d P) (hMT : QuoB (tE ls (partF S es)) (tE ls em) tauB d P) (hPo : ∀ i, ¬ i < S.length → P i = K) : Stb (sumE N (tE ls es) (tE ls em)) tauB d (qM N S P) := by
 have hnn : ∀ a, a ∈ S → 0 ≤ a := fun a ha => by obtain ⟨k, rfl, -⟩ := hat a ha; omega
 have e1 := (part_emb (z := N) heN (partF_part hn) hcl hnn zR).text (ls := ls);have e2 := e1.comp (emb_left (A := tE ls es) (B := tE ls em) (tE_in heN) (tE_in hem) (Nat.le_refl (N + K)));have e3 := emb_right (A := tE ls es) (B := tE ls em) (n := N);refine quo_alike hsT hMT e2 e3 (fun i => ?_) (fun b => ?_) fun u => ?_
 ·by_cases hi : i < S.length
  ·have h1 : S[i]? = some S[i] := List.getElem?_eq_getElem hi
   obtain ⟨k, hk, hkN⟩ := hat _ (List.mem_of_getElem? h1);rw [hk] at h1;rw [atL_some h1, Int.toNat_natCast, if_pos hkN];unfold qM;rw [if_pos hkN, if_pos (List.mem_of_getElem? h1)];have : S.idxOf (k : Int) = i := by
    have h2 := idx_self hn hi;rw [hk] at h2;exact h2
   rw [this]
  ·rw [atL_none hi, if_neg (Nat.lt_irrefl _), hPo i hi]
   unfold qM;rw [if_neg (by omega), Nat.add_sub_cancel_left]
 ·unfold qM
  rw [if_neg (by omega), Nat.add_sub_cancel_left]
 ·by_cases hu : u < N
  ·by_cases hm : (u : Int) ∈ S
   ·obtain ⟨i, hi, e⟩ := List.getElem_of_mem hm
    have h1 : S[i]? = some (u : Int) := by rw [List.getElem?_eq_getElem hi, e]
    exact .inl ⟨i, by rw [atL_some h1, Int.toNat_natCast, if_pos hu]⟩
   ·right; right
    unfold qM;rw [if_pos hu, if_neg hm]
  ·exact .inr (.inl ⟨u - N, by omega⟩)
theorem qM_in (hP : OntoP S.length K P) (u : Nat) : u < N + K ↔ (match qM N S P u with | .inl c => c < K | .inr _ => True) := by
 unfold qM
 by_cases hu : u < N
 ·rw [if_pos hu]
  by_cases hm : (u : Int) ∈ S
  ·rw [if_pos hm]
   have := (hP.dom _).1 (List.idxOf_lt_length_of_mem hm)
   constructor
   ·intro _; exact this
   ·intro _; omega
  ·rw [if_neg hm]
   constructor
   ·intro _; trivial
   ·intro _; omega
 ·rw [if_neg hu]
  constructor
  ·intro h; show u - N < K; omega
  ·intro h
   have h : u - N < K := h;omega
end
theorem quo_rnd {ls : List ByteArray} {es em : List Ed} {S : List Int} {N K i0 ini : Nat} {d : Bool} {P : Nat → Nat} (hls : ls.length ≤ 100) (hnd : ls.Nodup) (h0 : ls[0]? = some tauB)
  (he : ∀ e, e ∈ es → (0 ≤ e.1 ∧ e.1 < (N : Int)) ∧ (0 ≤ e.2.1 ∧ e.2.1 < (ls.length : Int)) ∧ (0 ≤ e.2.2 ∧ e.2.2 < (N : Int))) (heN : EdIn N es)
  (hm : ∀ e, e ∈ em → (0 ≤ e.1 ∧ e.1 < (K : Int)) ∧ (0 ≤ e.2.1 ∧ e.2.1 < (ls.length : Int)) ∧ (0 ≤ e.2.2 ∧ e.2.2 < (K : Int))) (hem : EdIn K em)
  (hS : S = reachF N es (ini : Int)) (hi0 : S[i0]? = some (ini : Int)) (hs : Stb (nE (partF S es)) (0 : Int) (d = true) P) (hM : QuoB (nE (partF S es)) (nE em) (0 : Int) (d = true) P) (hP : OntoP S.length K P) (hPo : ∀ i, ¬ i < S.length → P i = K) (r' : Nat) :
  sameB (itP (refB (uniE ls em ls es K) (K + N) d) (K + N) r') (P i0) (K + ini) := by
 have hn : S.Nodup := by rw [hS]; exact reach_nodup
 have hcl : ∀ a l b, a ∈ S → (a, l, b) ∈ es → b ∈ S := fun a l b ha hx => by rw [hS] at ha ⊢; exact reach_closed heN a l b ha hx
 have hat : ∀ a, a ∈ S → ∃ k : Nat, a = (k : Int) ∧ k < N := fun a ha => by
  rw [hS] at ha;obtain ⟨k, e, h1, -⟩ := reach_mem.1 ha;exact ⟨k, e, h1⟩
 have hlr : ∀ e, e ∈ partF S es → 0 ≤ e.2.1 ∧ e.2.1 < (ls.length : Int) := by
  rintro ⟨f, l, t⟩ hx;obtain ⟨i, j, a, b, -, -, -, -, hx⟩ := (partF_part hn f l t).1 hx;exact (he _ hx).2.1
 have hst := quo_sum heN hem hn hat hcl ((stb_text hnd h0 hlr).1 hs) (quoB_text hnd h0 hM) hPo;have hsw := (emb_swap (A := tE ls em) (B := tE ls es) (n := K) (m := N) (tE_in hem) (tE_in heN)).stb hst;have hiS : (ini : Int) ∈ S := List.mem_of_getElem? hi0;have hiN : ini < N := by obtain ⟨k, e, h⟩ := hat _ hiS; omega
 have hil := (List.getElem?_eq_some_iff.1 hi0).1;have hidx : S.idxOf (ini : Int) = i0 := by
  have h2 := idx_self hn hil;rw [(List.getElem?_eq_some_iff.1 hi0).2] at h2;exact h2
 have hcK := (hP.dom i0).1 hil;have hin : ∀ u, u < K + N ↔ (match qM N S P (if u < K then N + u else if u < K + N then u - K else N + u) with | .inl c => c < K | .inr _ => True) := fun u => by
  rw [← qM_in (N := N) hP]
  by_cases h1 : u < K
  ·rw [if_pos h1]; omega
  ·rw [if_neg h1]
   by_cases h2 : u < K + N
   ·rw [if_pos h2]; omega
   ·rw [if_neg h2]; omega
 refine uni_rnd hls hls hm he hsw (fun x y h => ?_) r' (by omega) (by omega) ?_
 ·rw [hin x, hin y]
  rw [h]
 ·rw [if_pos hcK, if_neg (by omega), if_pos (by omega), Nat.add_sub_cancel_left]
  unfold qM;rw [if_neg (by omega), Nat.add_sub_cancel_left, if_pos hiN, if_pos hiS, hidx]
section
variable {em : List Ed} {S : List Int} {m : Nat}
def posP (S : List Int) (m x : Nat) : Nat := if x < m then S.idxOf (x : Int) else S.length
structure AllS (S : List Int) (m : Nat) : Prop where
 nd : S.Nodup
 all : ∀ x : Nat, x < m → (x : Int) ∈ S
 only : ∀ a, a ∈ S → ∃ k : Nat, a = (k : Int) ∧ k < m
theorem AllS.pos (h : AllS S m) {x : Nat} (hx : x < m) : posP S m x < S.length ∧ S[posP S m x]? = some (x : Int) := by
 unfold posP;rw [if_pos hx];have h1 := List.idxOf_lt_length_of_mem (h.all x hx);exact ⟨h1, by rw [List.getElem?_eq_getElem h1, List.getElem_idxOf h1]⟩
theorem AllS.onto (h : AllS S m) : OntoP m S.length (posP S m) := by
 refine ⟨fun i => ⟨fun hi => (h.pos hi).1, fun hi => Classical.byContradiction fun hn => ?_⟩, fun b hb => ?_⟩
 ·unfold posP at hi
  rw [if_neg hn] at hi;omega
 ·obtain ⟨k, hk, hkm⟩ := h.only _ (List.getElem_mem hb)
  refine ⟨k, ?_⟩;unfold posP;rw [if_pos hkm, ← hk];exact idx_self h.nd hb
theorem AllS.inj (h : AllS S m) {x y : Nat} (hx : x < m) (e : posP S m x = posP S m y) : x = y := by
 have hy : y < m := (h.onto.dom y).2 (e ▸ (h.onto.dom x).1 hx);have h1 := (h.pos hx).2;rw [e, (h.pos hy).2] at h1;have := Option.some.inj h1;omega
theorem AllS.stb (h : AllS S m) (he : EdIn m em) {d : Prop} : Stb (nE em) (0 : Int) d (posP S m) := by
 refine ⟨fun x y l b hq ho => ?_, fun _ x y hq hx => ?_⟩
 ·by_cases hm : x < m
  ·rw [← h.inj hm hq]; exact ho
  ·exact absurd ho (none_off he hm)
 ·by_cases hm : x < m
  ·rw [← h.inj hm hq]; exact hx
  ·exact absurd hx (none_dvg he hm)
theorem AllS.quo (h : AllS S m) (he : EdIn m em) {d : Prop} (hd : ¬ d) (ht : ∀ x : Nat, ¬ nE em x 0 x) : QuoB (nE em) (nE (partF S em)) (0 : Int) d (posP S m) := by
 intro b l c
 constructor
 ·intro hx
  obtain ⟨i, j, x, y, e1, e2, h1, h2, h3⟩ := (partF_part h.nd _ _ _).1 hx;obtain rfl : b = i := by omega
  obtain rfl : c = j := by omega
  obtain ⟨kx, rfl, hkx⟩ := h.only x (List.mem_of_getElem? h1);obtain ⟨ky, rfl, hky⟩ := h.only y (List.mem_of_getElem? h2);have p1 : posP S m kx = b := by
   unfold posP;rw [if_pos hkx];have := idx_self h.nd (List.getElem?_eq_some_iff.1 h1).1;rw [(List.getElem?_eq_some_iff.1 h1).2] at this;exact this
  have p2 : posP S m ky = c := by
   unfold posP;rw [if_pos hky];have := idx_self h.nd (List.getElem?_eq_some_iff.1 h2).1;rw [(List.getElem?_eq_some_iff.1 h2).2] at this;exact this
  refine .inl ⟨kx, ky, h3, p1, p2, fun e => ?_⟩;obtain rfl := h.inj hkx e.2;obtain ⟨rfl, -⟩ := e;exact ht _ h3
 ·rintro (⟨x, y, h1, rfl, rfl, h4⟩ | ⟨k, _⟩)
  ·have hi := nE_in he h1
   exact (partF_part h.nd _ _ _).2 ⟨_, _, _, _, rfl, rfl, (h.pos hi.1).2, (h.pos hi.2).2, h1⟩
  ·exact (hd k).elim
end
def leadB (es : List Ed) (v u i : Int) : Bool := match es[i.toNat]? with
 | some e => decide (e.1 = v) && decide (e.2.2 = u)
 | none => false
def joinB (es : List Ed) (S : List Int) (v u : Int) : Bool := decide (v = u) || S.any (leadB es v u)
def edA (es : List Ed) (i : Nat) : Ed := (es[i]?).getD (0, 0, 0)
theorem edA_at {es : List Ed} {i : Nat} {e : Ed} (h : es[i]? = some e) : edA es i = e := by unfold edA; rw [h]; rfl
def agr1 (es : List Ed) (S : List Int) (f : Nat) (u : Int) (i : Nat) : Bool :=
 decide ((edA es i).1 = u) && decide ((edA es i).2.1 = (edA es f).2.1) && !(decide ((f : Int) ∈ S) && !decide ((i : Int) ∈ S)) && joinB es S (edA es f).2.2 (edA es i).2.2
def agrB (es : List Ed) (S : List Int) (e f : Nat) : Bool :=
 (decide ((edA es f).2.1 = 0) && joinB es S (edA es f).2.2 (edA es e).2.2) || (List.range es.length).any (agr1 es S f (edA es e).2.2)
def disB (es : List Ed) (S : List Int) (e : Nat) : Bool := (List.range es.length).any fun f => decide ((edA es f).1 = (edA es e).1) && !agrB es S e f
structure ConfL (es : List Ed) (S : List Int) : Prop where
 tau : ∀ i, i ∈ S → ∃ (k : Nat) (f t : Int), i = (k : Int) ∧ es[k]? = some (f, 0, t)
 dis : ∀ k : Nat, (k : Int) ∈ S → disB es S k = false
def cS (es : List Ed) (S : List Int) (x y : Nat) : Prop := ∃ k : Nat, (k : Int) ∈ S ∧ es[k]? = some ((x : Int), 0, (y : Int))
def JnS (es : List Ed) (S : List Int) (v u : Int) : Prop := v = u ∨ ∃ k : Nat, (k : Int) ∈ S ∧ es[k]? = some (v, 0, u)
section
variable {es : List Ed} {S : List Int} {N : Nat}
theorem ConfL.join (h : ConfL es S) {v u : Int} : joinB es S v u = true ↔ JnS es S v u := by
 unfold joinB JnS;rw [Bool.or_eq_true, decide_eq_true_eq, List.any_eq_true];refine or_congr_right ⟨?_, ?_⟩
 ·rintro ⟨i, hi, hl⟩
  obtain ⟨k, f, t, rfl, ek⟩ := h.tau i hi;unfold leadB at hl;rw [Int.toNat_natCast, ek] at hl;simp only [Bool.and_eq_true, decide_eq_true_eq] at hl;obtain ⟨rfl, rfl⟩ := hl;exact ⟨k, hi, ek⟩
 ·rintro ⟨k, hk, ek⟩
  refine ⟨(k : Int), hk, ?_⟩;unfold leadB;rw [Int.toNat_natCast, ek]
  simp
theorem ConfL.agr (h : ConfL es S) {k f : Nat} {x l v u : Int} (hk : (k : Int) ∈ S) (ek : es[k]? = some (x, 0, u)) (ef : es[f]? = some (x, l, v)) :
  (l = 0 ∧ JnS es S v u) ∨ ∃ (i : Nat) (t : Int), es[i]? = some (u, l, t) ∧ ((f : Int) ∈ S → (i : Int) ∈ S) ∧ JnS es S v t := by
 have hd := h.dis k hk;unfold disB at hd;rw [List.any_eq_false] at hd;have h1 := hd f (List.mem_range.2 (List.getElem?_eq_some_iff.1 ef).1);rw [edA_at ek, edA_at ef] at h1;simp only [decide_true, Bool.true_and, Bool.not_eq_true', Bool.not_eq_false] at h1;unfold agrB at h1;rw [edA_at ek, edA_at ef, Bool.or_eq_true, Bool.and_eq_true, decide_eq_true_eq, List.any_eq_true] at h1
 rcases h1 with ⟨g1, g2⟩ | ⟨i, hi, g⟩
 ·exact .inl ⟨g1, h.join.1 g2⟩
 ·unfold agr1 at g
  obtain ⟨⟨f', l', t'⟩, ei⟩ : ∃ e, es[i]? = some e := ⟨_, List.getElem?_eq_getElem (List.mem_range.1 hi)⟩;rw [edA_at ei, edA_at ef] at g;simp only [Bool.and_eq_true, decide_eq_true_eq] at g;obtain ⟨⟨⟨rfl, rfl⟩, g3⟩, g4⟩ := g;refine .inr ⟨i, t', ei, fun hf => ?_, h.join.1 g4⟩;rw [decide_eq_true hf, Bool.true_and, Bool.not_not] at g3;exact of_decide_eq_true g3
theorem ConfL.conf (h : ConfL es S) (he : EdIn N es) : ConfS (nE es) (0 : Int) (cS es S) := by
 have hJ : ∀ {x l : Int} {v u : Nat}, JnS es S (v : Int) (u : Int) → v = u ∨ cS es S v u := fun {x l v u} g => by
  rcases g with g | ⟨k, h1, h2⟩
  ·exact .inl (by omega)
  ·exact .inr ⟨k, h1, h2⟩
 have key : ∀ {x u v : Nat} {l : Int} {k f : Nat}, (k : Int) ∈ S → es[k]? = some ((x : Int), 0, (u : Int)) → es[f]? = some ((x : Int), l, (v : Int)) →
   (l = 0 ∧ (v = u ∨ cS es S v u)) ∨ ∃ (i v' : Nat), es[i]? = some ((u : Int), l, (v' : Int)) ∧ ((f : Int) ∈ S → (i : Int) ∈ S) ∧ (v = v' ∨ cS es S v v') := by
  intro x u v l k f hk ek ef
  rcases h.agr hk ek ef with ⟨g1, g2⟩ | ⟨i, t, g1, g2, g3⟩
  ·exact .inl ⟨g1, hJ (x := 0) (l := 0) g2⟩
  ·have hx := he _ (List.mem_of_getElem? g1)
   dsimp only at hx;obtain ⟨v', rfl⟩ : ∃ v' : Nat, t = (v' : Int) := ⟨t.toNat, by omega⟩;exact .inr ⟨i, v', g1, g2, hJ (x := 0) (l := 0) g3⟩
 refine ⟨?_, ?_, ?_⟩
 ·rintro x y ⟨k, -, e⟩
  exact List.mem_of_getElem? e
 ·rintro x u l v ⟨k, hk, ek⟩ hE
  obtain ⟨f, ef⟩ := List.getElem?_of_mem hE
  rcases key hk ek ef with g | ⟨i, v', g1, -, g3⟩
  ·exact .inl g
  ·exact .inr ⟨v', List.mem_of_getElem? g1, g3⟩
 ·rintro x u v ⟨k, hk, ek⟩ ⟨f, hf, ef⟩
  rcases key hk ek ef with g | ⟨i, v', g1, g2, g3⟩
  ·exact .inl g.2
  ·exact .inr ⟨v', ⟨i, g2 hf, g1⟩, g3⟩
def comL (L : List (List Int)) (row : List Int) : List Int := row.filter fun k => !row.any fun r => !decide (k ∈ (L[r.toNat]?).getD [])
structure RowL (es : List Ed) (S : List Int) (N : Nat) (L : List (List Int)) : Prop where
 rows : L.length = N
 mem : ∀ (x : Nat) (row : List Int), L[x]? = some row → ∀ v, v ∈ row ↔ 0 ≤ v ∧ StarR (cS es S) x v.toNat
 asc : ∀ (x : Nat) (row : List Int), L[x]? = some row → row.Pairwise (· ≤ ·)
structure RepL (es : List Ed) (S : List Int) (N : Nat) (L : List (List Int)) (rp : List Int) : Prop extends RowL es S N L where
 len : rp.length = N
 head : ∀ (x : Nat) (row : List Int), L[x]? = some row → rp[x]? = (comL L row).head?
def repF (N : Nat) (rp : List Int) (x : Nat) : Nat := if x < N then ((rp[x]?).getD 0).toNat else x
theorem cS_in (he : EdIn N es) {x y : Nat} (h : cS es S x y) : x < N ∧ y < N := by
 obtain ⟨k, -, e⟩ := h;exact nE_in he (l := 0) (List.mem_of_getElem? e)
theorem cStar_in (he : EdIn N es) {x y : Nat} (h : StarR (cS es S) x y) (hx : x < N) : y < N := by
 induction h with
 | refl => exact hx
 | step e _ ih => exact ih (cS_in he e).2
theorem cStar_out (he : EdIn N es) {x y : Nat} (h : StarR (cS es S) x y) (hx : ¬ x < N) : y = x := by
 cases h with
 | refl => rfl
 | step e _ => exact absurd (cS_in he e).1 hx
theorem RowL.row {L : List (List Int)} (h : RowL es S N L) {x : Nat} (hx : x < N) : ∃ row, L[x]? = some row := ⟨_, List.getElem?_eq_getElem (by rw [h.rows]; exact hx)⟩
theorem RowL.com {L : List (List Int)} (h : RowL es S N L) (he : EdIn N es) {x : Nat} (hx : x < N) {row : List Int} (hr : L[x]? = some row) {k : Int} : k ∈ comL L row ↔ 0 ≤ k ∧ comR (cS es S) x k.toNat := by
 have hm := h.mem x row hr;have hin : ∀ {r : Nat}, StarR (cS es S) x r → ∀ {v : Int}, (v ∈ (L[r]?).getD [] ↔ 0 ≤ v ∧ StarR (cS es S) r v.toNat) := fun {r} hs {v} => by
  obtain ⟨row', e⟩ := h.row (cStar_in he hs hx);rw [e, Option.getD_some];exact h.mem r row' e v
 unfold comL;rw [List.mem_filter]
 constructor
 ·rintro ⟨h1, h2⟩
  obtain ⟨h3, h4⟩ := (hm k).1 h1;refine ⟨h3, h4, fun r hs => ?_⟩;rw [Bool.not_eq_true', List.any_eq_false] at h2;have h5 := h2 (r : Int) ((hm _).2 ⟨Int.natCast_nonneg _, by rw [Int.toNat_natCast]; exact hs⟩);rw [Int.toNat_natCast, Bool.not_eq_true', Bool.not_eq_false, decide_eq_true_eq] at h5;exact ((hin hs).1 h5).2
 ·rintro ⟨h1, h2, h3⟩
  refine ⟨(hm k).2 ⟨h1, h2⟩, ?_⟩;rw [Bool.not_eq_true', List.any_eq_false];intro r hr';obtain ⟨h4, h5⟩ := (hm r).1 hr';rw [Bool.not_eq_true', Bool.not_eq_false, decide_eq_true_eq];exact (hin h5).2 ⟨h1, h3 _ h5⟩
theorem asc_head {l : List Int} (h : l.Pairwise (· ≤ ·)) {a : Int} (ha : l.head? = some a) : a ∈ l ∧ ∀ b, b ∈ l → a ≤ b := by
 cases l with
 | nil => cases ha
 | cons c l =>
  cases ha
  refine ⟨List.mem_cons_self .., fun b hb => ?_⟩
  rcases List.mem_cons.1 hb with rfl | hb
  ·exact Int.le_refl _
  ·exact (List.pairwise_cons.1 h).1 b hb
theorem RowL.ne {L : List (List Int)} (h : RowL es S N L) (he : EdIn N es) (hc : ConfS (nE es) (0 : Int) (cS es S)) {x : Nat} (hx : x < N) {row : List Int} (hr : L[x]? = some row) : ∃ a, (comL L row).head? = some a := by
 have hm := h.mem x row hr;obtain ⟨k, hk⟩ := hc.some (x := x) (l := row.map Int.toNat) fun r => by
  rw [List.mem_map]
  constructor
  ·rintro ⟨v, hv, rfl⟩
   exact ((hm v).1 hv).2
  ·intro hs
   exact ⟨(r : Int), (hm _).2 ⟨Int.natCast_nonneg _, by rw [Int.toNat_natCast]; exact hs⟩, Int.toNat_natCast _⟩
 have hk' : (k : Int) ∈ comL L row := (h.com he hx hr).2 ⟨Int.natCast_nonneg _, by rw [Int.toNat_natCast]; exact hk⟩
 cases hcl : comL L row with
 | nil => rw [hcl] at hk'; cases hk'
 | cons a l => exact ⟨a, rfl⟩
theorem RepL.one {L : List (List Int)} {rp : List Int} (h : RepL es S N L rp) (he : EdIn N es) (hc : ConfS (nE es) (0 : Int) (cS es S)) {x : Nat} (hx : x < N) : rp[x]? = some ((repF N rp x : Nat) : Int) ∧ comR (cS es S) x (repF N rp x) ∧ repF N rp x < N ∧ ∀ k : Nat, comR (cS es S) x k → repF N rp x ≤ k := by
 obtain ⟨row, hr⟩ := h.row hx;obtain ⟨a, ha⟩ := h.ne he hc hx hr;have hasc : (comL L row).Pairwise (· ≤ ·) := (h.asc x row hr).filter _;obtain ⟨h1, h2⟩ := asc_head hasc ha;have h3 := (h.com he hx hr).1 h1;have h4 := h.head x row hr;rw [ha] at h4;have h5 : repF N rp x = a.toNat := by unfold repF; rw [if_pos hx, h4]; rfl
 refine ⟨?_, by rw [h5]; exact h3.2, by rw [h5]; exact cStar_in he h3.2.1 hx, fun j hj => ?_⟩
 ·rw [h5, h4]
  congr 1
  omega
 ·have := h2 (j : Int) ((h.com he hx hr).2 ⟨Int.natCast_nonneg _, by rw [Int.toNat_natCast]; exact hj⟩)
  omega
theorem RepL.rep {L : List (List Int)} {rp : List Int} (h : RepL es S N L rp) (he : EdIn N es) (hc : ConfS (nE es) (0 : Int) (cS es S)) : RepC (cS es S) (repF N rp) := by
 have hout : ∀ {x : Nat}, ¬ x < N → repF N rp x = x := fun {x} hx => if_neg hx
 have hself : ∀ {x : Nat}, ¬ x < N → comR (cS es S) x x := fun {x} hx => ⟨.refl _, fun r hs => by rw [cStar_out he hs hx]; exact .refl _⟩
 refine ⟨fun x => ?_, fun x y hxy => ?_⟩
 ·by_cases hx : x < N
  ·exact (h.one he hc hx).2.1
  ·rw [hout hx]; exact hself hx
 ·by_cases hx : x < N
  ·by_cases hy : y < N
   ·obtain ⟨-, a1, -, a2⟩ := h.one he hc hx
    obtain ⟨-, b1, -, b2⟩ := h.one he hc hy;exact Nat.le_antisymm (a2 _ ((hxy _).2 b1)) (b2 _ ((hxy _).1 a1))
   ·have := cStar_in he ((hxy y).2 (hself hy)).1 hx
    exact absurd this hy
  ·have h1 := cStar_out he ((hxy (repF N rp y)).2 (by
    by_cases hy : y < N
    ·exact (h.one he hc hy).2.1
    ·rw [hout hy]; exact hself hy)).1 hx
   rw [hout hx, h1]
end
end Go.Proofs.YtnhomkmfbngmgaaGreatDoor
namespace Go.Proofs.YtnhomkmfbngmgaaGreatDoor
open Go.ChangeShapes Go.WideShapes Go.ChangeAt Go.RowKit
section
variable {w : World} {N ini : Nat} {A : Option Addr} {n c : Nat} {B : Option Addr} {m d : Nat} {ls : List ByteArray} {es : List Ed}
theorem joins1_calls (h : SysA w N ini A n B m ls es) (bt bv bu : Nat) (v u i : Int) (kt : LtsBox w bt (N : Int) (ini : Int) A n c B m d) (kv : w.heap[bv]? = some (.cells #[.int .i64 v] 2 (0, 0))) (ku : w.heap[bu]? = some (.cells #[.int .i64 u] 2 (0, 0))) (hi : 0 ≤ i ∧ i < (es.length : Int)) :
  Calls Tryz.prog 364 #[.int .i64 i, .pointer (some ⟨bt, 0, none⟩), .pointer (some ⟨bv, 0, none⟩), .pointer (some ⟨bu, 0, none⟩)] w (Says (leadB es v u i) w) := by
 have hm := h.many;obtain ⟨k, rfl⟩ : ∃ k : Nat, i = (k : Int) := ⟨i.toNat, by omega⟩;obtain ⟨gE, oE, f, l, t, rfl, -, -, hgE, hx, p0, p1, p2, -⟩ := SlE.get h.se (show k < m by omega);have hv : Hid (leadB es v u (k : Int) = (decide (f = v) && decide (t = u))) := by
  show _ = _
  unfold leadB;rw [Int.toNat_natCast, hx]
 have c3 := kt.c3;have cv := (cell_of_row _ _ 0 _ _ (0, 0) kv).trans (show _ = some (Value.int .i64 v) from rfl);have cu := (cell_of_row _ _ 0 _ _ (0, 0) ku).trans (show _ = some (Value.int .i64 u) from rfl);have i0 : (0 : Int) ≤ (k : Int) := by omega
 have i1 : (k : Int) < (m : Int) := by omega
 clear h kt kv ku hx
 by_cases e1 : f = v
 ·by_cases e2 : t = u
  ·subst e1 e2
   have hself : (f == f) = true := by simp
   have hself2 : (t == t) = true := by simp
   have hR : Hid (leadB es f t (k : Int) = true) := by show _ = _; rw [hv.out]; simp
   go_enter Tryz.func364, Tryz.ntmps364;go_upto_region 1 with fail;go_quiet (fail);go_wp2_with fail;go_ret;exact ⟨by rw [hR.out]; rfl, below_drewN _ _⟩
  ·subst e1
   have hself : (f == f) = true := by simp
   have hne : (t == u) = false := by rw [beq_eq_false_iff_ne]; exact e2
   have hR : Hid (leadB es f u (k : Int) = false) := by show _ = _; rw [hv.out]; simp [e2]
   clear e2;go_enter Tryz.func364, Tryz.ntmps364;go_upto_region 1 with fail;go_quiet (fail);go_wp2_with fail;go_ret;exact ⟨by rw [hR.out]; rfl, below_drewN _ _⟩
 ·have hne : (f == v) = false := by rw [beq_eq_false_iff_ne]; exact e1
  have hR : Hid (leadB es v u (k : Int) = false) := by show _ = _; rw [hv.out]; simp [e1]
  clear e1;go_enter Tryz.func364, Tryz.ntmps364;go_upto_region 1 with fail;go_quiet (fail);go_wp2_with fail;go_ret;exact ⟨by rw [hR.out]; rfl, below_drewN _ _⟩
theorem joins_calls (h : SysA w N ini A n B m ls es) (v u : Int) (C : Option Addr) (q c2 : Nat) (S : List Int) (lo hi : Nat) (hS : SlI w lo hi C q S) (hq : q ≤ 1048576) (hr : ∀ i, i ∈ S → 0 ≤ i ∧ i < (es.length : Int)) :
  Calls Tryz.prog 319 #[.agg #[.int .i64 (N : Int), .int .i64 (ini : Int), .slice A n c, .slice B m d], .int .i64 v, .int .i64 u, .slice C q c2] w (Says (joinB es S v u) w) := by
 obtain ⟨w1, hw1⟩ : ∃ w1, w1 = w.alloc (ltsC N ini A n c B m d) := ⟨_, rfl⟩;obtain ⟨w2, hw2⟩ : ∃ w2, w2 = w1.alloc (.cells #[.int .i64 v] 2) := ⟨_, rfl⟩;obtain ⟨w3, hw3⟩ : ∃ w3, w3 = w2.alloc (.cells #[.int .i64 u] 2) := ⟨_, rfl⟩;have hB := h.box (c := c) (d := d);rw [← hw1] at hB;have hb12 : Below w1.heap.size w1 w2 := by rw [hw2]; exact bR.alloc zR _
 have hb23 : Below w2.heap.size w2 w3 := by rw [hw3]; exact bR.alloc zR _
 have kv : w3.heap[w1.heap.size]? = some (.cells #[.int .i64 v] 2 (0, 0)) := by
  have h1 := heap_alloc_new w1 (.cells #[.int .i64 v] 2);rw [← hw2] at h1;exact (hb23.block _ (Array.getElem?_eq_some_iff.1 h1).1).trans h1
 have ku : w3.heap[w2.heap.size]? = some (.cells #[.int .i64 u] 2 (0, 0)) := by rw [hw3]; exact heap_alloc_new w2 _
 have hB3 := (hB.below hb12).below hb23;have e1 : w1.heap.size = w.heap.size + 1 := by rw [hw1]; exact World.size_alloc _ _
 have e2 : w2.heap.size = w.heap.size + 1 + 1 := by rw [hw2, World.size_alloc, e1]
 have hbel := hide hB3.bel;have hq1 : Hid (∀ W, Below w3.heap.size w3 W → ∀ i, i ∈ S → Calls Tryz.prog 364 (#[.int .i64 i] ++ #[.pointer (some ⟨w.heap.size, 0, none⟩), .pointer (some ⟨w.heap.size + 1, 0, none⟩), .pointer (some ⟨w.heap.size + 1 + 1, 0, none⟩)]) W (Says (leadB es v u i) W)) := fun W hW i hi => by
  have k1 := (hB3.below hW);refine joins1_calls (c := c) (d := d) k1.sys w.heap.size (w.heap.size + 1) (w.heap.size + 1 + 1) v u i k1.box ?_ ?_ (hr i hi)
  ·rw [← e1]; exact (hW.block _ (Array.getElem?_eq_some_iff.1 kv).1).trans kv
  ·rw [← e2]; exact (hW.block _ (Array.getElem?_eq_some_iff.1 ku).1).trans ku
 have q2 := hide (containsFuncM_calls 364 #[.pointer (some ⟨w.heap.size, 0, none⟩), .pointer (some ⟨w.heap.size + 1, 0, none⟩), .pointer (some ⟨w.heap.size + 1 + 1, 0, none⟩)] (leadB es v u) C q c2 S w3 lo hi (hS.below hB3.bel (.inr zR)) hq (fun v W => by kernel_rfl) (fun i hi W hW => hq1.out W hW i hi));have cv : w3.cell? ⟨w.heap.size + 1, 0, none⟩ = some (.int .i64 v) := by rw [← e1]; exact cR 0 kv
 have cu : w3.cell? ⟨w.heap.size + 1 + 1, 0, none⟩ = some (.int .i64 u) := by rw [← e2]; exact cR 0 ku
 have e1' := hide e1;have e2' := hide e2;clear hB hB3 hb12 hb23 kv ku h hS hq1 e1 e2
 by_cases e : v = u
 ·subst e
  have g1 : (v == v) = true := by simp
  have hv : Hid (joinB es S v v = true) := by show _ = _; unfold joinB; simp
  go_enter Tryz.func319, Tryz.ntmps319;go_upto_region 1 with fail;rw [show (((w.alloc (.cells #[.int .i64 (N : Int), .int .i64 (ini : Int), .slice A n c, .slice B m d] 27)).alloc (.cells #[.int .i64 v] 2)).alloc (.cells #[.int .i64 v] 2)) = w3 by rw [hw3, hw2, hw1]];replace hw1 := hide hw1;replace hw2 := hide hw2;replace hw3 := hide hw3;go_wp2_with fail;go_ret;exact ⟨by rw [hv.out]; rfl, hbel.out⟩
 ·have g1 : (v == u) = false := by rw [beq_eq_false_iff_ne]; exact e
  have hv : Hid (joinB es S v u = S.any (leadB es v u)) := by show _ = _; unfold joinB; simp [e]
  go_enter Tryz.func319, Tryz.ntmps319;go_upto_region 1 with fail;rw [show (((w.alloc (.cells #[.int .i64 (N : Int), .int .i64 (ini : Int), .slice A n c, .slice B m d] 27)).alloc (.cells #[.int .i64 v] 2)).alloc (.cells #[.int .i64 u] 2)) = w3 by rw [hw3, hw2, hw1]];replace hw1 := hide hw1;replace hw2 := hide hw2;replace hw3 := hide hw3;go_wp2_with fail;refine q2.out.mono ?_;rintro e w4 ⟨rfl, hb4⟩;go_wp2_with fail;go_ret;exact ⟨by rw [hv.out]; rfl, hbel.out.trans (hb4.mono hbel.out.size)⟩
end
section
variable {w : World} {N ini : Nat} {A : Option Addr} {n c : Nat} {B : Option Addr} {m d : Nat} {ls : List ByteArray} {es : List Ed}
theorem agrees_calls (h : SysA w N ini A n B m ls es) (x y : Nat) (hx : x < m) (hy : y < m) (C : Option Addr) (q c2 : Nat) (S : List Int) (lo hi : Nat) (hS : SlI w lo hi C q S) (hq : q ≤ 1048576) (hr : ∀ i, i ∈ S → 0 ≤ i ∧ i < (es.length : Int)) :
  Calls Tryz.prog 260 #[.agg #[.int .i64 (N : Int), .int .i64 (ini : Int), .slice A n c, .slice B m d], .int .i64 (x : Int), .int .i64 (y : Int), .slice C q c2] w (Says (agrB es S x y) w) := by
 have hmn := h.many;have hlen := h.se.len;obtain ⟨gE, oE, ef, el, et, rfl, -, -, hgE, hxe, p0, p1, p2, -⟩ := SlE.get h.se hx;obtain ⟨gE2, oE2, ff, fl, ft, e2, -, -, -, hxf, r0, r1, r2, -⟩ := SlE.get h.se hy;cases e2;have hAll : Hid (agrB es S x y = ((decide (fl = 0) && joinB es S ft et) || (List.range m).any (agr1 es S y et))) := by
  show _ = _
  unfold agrB;rw [edA_at hxe, edA_at hxf, hlen]
 obtain ⟨w1, hw1⟩ : ∃ w1, w1 = w.alloc (ltsC N ini A n c (some ⟨gE, oE, none⟩) m d) := ⟨_, rfl⟩;obtain ⟨wz, hwz⟩ : ∃ wz, wz = (w1.alloc (.cells #[.int .i64 0, .int .i64 0, .int .i64 0] 84)).drew := ⟨_, rfl⟩;obtain ⟨w2, hw2⟩ : ∃ w2, w2 = (w1.alloc (.cells #[.int .i64 ff, .int .i64 fl, .int .i64 ft] 84)).drew := ⟨_, rfl⟩;have hB := h.box (c := c) (d := d);rw [← hw1] at hB;have e1 : w1.heap.size = w.heap.size + 1 := by rw [hw1]; exact World.size_alloc _ _
 have hb1D : Below w1.heap.size w1 w1.drew := bR.drew;have hb1z : Below w1.heap.size w1 wz := by rw [hwz]; exact (bR.alloc zR _).drew
 have hb12 : Below w1.heap.size w1 w2 := by rw [hw2]; exact (bR.alloc zR _).drew
 have hB2 := hide (hB.below hb12);have ko : w2.heap[w1.heap.size]? = some (.cells #[.int .i64 ff, .int .i64 fl, .int .i64 ft] 84 (0, 0)) := by rw [hw2]; exact heap_alloc_new w1 _
 have hko : w1.heap.size < w2.heap.size := (Array.getElem?_eq_some_iff.1 ko).1;have hS2 := hide (hS.below hB2.out.bel (.inr zR));have hS0c : Hid ((fun w' : World => w'.cell? ⟨w.heap.size, 3, none⟩ = some (.slice (some ⟨gE, oE, none⟩) m d) ∧ w'.cell? ⟨gE, oE + x * 3 + 2, none⟩ = some (.int .i64 et) ∧ w'.cell? ⟨gE, oE + y * 3, none⟩ = some (.int .i64 ff) ∧ w'.cell? ⟨gE, oE + y * 3 + 1, none⟩ = some (.int .i64 fl) ∧ w'.cell? ⟨gE, oE + y * 3 + 2, none⟩ = some (.int .i64 ft)) w1.drew) := by
  have hb := hB.bel.trans (hb1D.mono hB.bel.size);exact ⟨hB.box.c3, (hb.cell (p := ⟨gE, oE + x * 3 + 2, none⟩) hgE).trans p2, (hb.cell (p := ⟨gE, oE + y * 3, none⟩) hgE).trans r0, (hb.cell (p := ⟨gE, oE + y * 3 + 1, none⟩) hgE).trans r1, (hb.cell (p := ⟨gE, oE + y * 3 + 2, none⟩) hgE).trans r2⟩
 have hSz : Hid ((fun w' : World => w'.cell? ⟨w.heap.size, 3, none⟩ = some (.slice (some ⟨gE, oE, none⟩) m d) ∧ w'.cell? ⟨gE, oE + x * 3 + 2, none⟩ = some (.int .i64 et) ∧ w'.cell? ⟨gE, oE + y * 3, none⟩ = some (.int .i64 ff) ∧ w'.cell? ⟨gE, oE + y * 3 + 1, none⟩ = some (.int .i64 fl) ∧ w'.cell? ⟨gE, oE + y * 3 + 2, none⟩ = some (.int .i64 ft)) wz) := by
  have hb := hB.bel.trans (hb1z.mono hB.bel.size);exact ⟨(hB.below hb1z).box.c3, (hb.cell (p := ⟨gE, oE + x * 3 + 2, none⟩) hgE).trans p2, (hb.cell (p := ⟨gE, oE + y * 3, none⟩) hgE).trans r0, (hb.cell (p := ⟨gE, oE + y * 3 + 1, none⟩) hgE).trans r1, (hb.cell (p := ⟨gE, oE + y * 3 + 2, none⟩) hgE).trans r2⟩
 have x0 : (0 : Int) ≤ (x : Int) := by omega
 have x1 : (x : Int) < (m : Int) := by omega
 have y0 : (0 : Int) ≤ (y : Int) := by omega
 have y1 : (y : Int) < (m : Int) := by omega
 have hlen' := hide hlen;have hxf' := hide hxf;have hko1 := hide ko;obtain ⟨e1a, e1b⟩ : w1.heap.size ≤ w.heap.size + 1 ∧ w.heap.size + 1 ≤ w1.heap.size := ⟨by omega, by omega⟩;clear h hB hb1D hb1z hb12 hS hxe hxf p0 p1 p2 r0 r1 r2 e1 hlen ko;go_enter Tryz.func260, Tryz.ntmps260;go_upto_region 1 with fail;rw [show w.alloc (.cells #[.int .i64 (N : Int), .int .i64 (ini : Int), .slice A n c, .slice (some ⟨gE, oE, none⟩) m d] 27) = w1 from hw1.symm];replace hw1 := hide hw1;refine lateT_begin (S := fun w' => w'.cell? ⟨w.heap.size, 3, none⟩ = some (.slice (some ⟨gE, oE, none⟩) m d) ∧ w'.cell? ⟨gE, oE + x * 3 + 2, none⟩ = some (.int .i64 et) ∧ w'.cell? ⟨gE, oE + y * 3, none⟩ = some (.int .i64 ff) ∧ w'.cell? ⟨gE, oE + y * 3 + 1, none⟩ = some (.int .i64 fl) ∧ w'.cell? ⟨gE, oE + y * 3 + 2, none⟩ = some (.int .i64 ft)) (st := 13) (by kernel_rfl) ?_;have hS0 := hS0c.out;refine tkA _ 0 [13] rfl (Or.inl ⟨by rfl, by intro w9 hSw; obtain ⟨u0, u1, u2, u3, u4⟩ := hSw; go_simp <;> with_reducible rfl⟩) hS0 ?_;refine tkA _ 1 [13] rfl (Or.inl ⟨by rfl, by intro w9 hSw; obtain ⟨u0, u1, u2, u3, u4⟩ := hSw; go_simp <;> with_reducible rfl⟩) hS0 ?_;refine tkA _ 2 [13] rfl (Or.inl ⟨by rfl, by intro w9 hSw; obtain ⟨u0, u1, u2, u3, u4⟩ := hSw; go_simp <;> with_reducible rfl⟩) hS0 ?_;refine tkA _ 3 [13] rfl (Or.inl ⟨by rfl, by intro w9 hSw; obtain ⟨u0, u1, u2, u3, u4⟩ := hSw; go_simp <;> with_reducible rfl⟩) hS0 ?_;refine tkA _ 4 [13] rfl (Or.inl ⟨by rfl, by intro w9 hSw; obtain ⟨u0, u1, u2, u3, u4⟩ := hSw; go_simp <;> with_reducible rfl⟩) hS0 ?_;refine tkA _ 5 [13] rfl (Or.inl ⟨by rfl, by intro w9 hSw; obtain ⟨u0, u1, u2, u3, u4⟩ := hSw; go_simp <;> with_reducible rfl⟩) hS0 ?_;refine tkA _ 6 [13] rfl (Or.inl ⟨by rfl, by intro w9 hSw; obtain ⟨u0, u1, u2, u3, u4⟩ := hSw; go_simp <;> with_reducible rfl⟩) hS0 ?_;refine tkA _ 7 [13] rfl (Or.inl ⟨by rfl, by intro w9 hSw; obtain ⟨u0, u1, u2, u3, u4⟩ := hSw; go_simp <;> with_reducible rfl⟩) hS0 ?_;refine tkA _ 8 [13] rfl (Or.inl ⟨by rfl, by intro w9 hSw; obtain ⟨u0, u1, u2, u3, u4⟩ := hSw; go_simp <;> with_reducible rfl⟩) hS0 ?_;refine tkA _ 9 [13] rfl (Or.inl ⟨by rfl, by intro w9 hSw; obtain ⟨u0, u1, u2, u3, u4⟩ := hSw; go_simp <;> with_reducible rfl⟩) hS0 ?_;refine tkA _ 10 [13] rfl (Or.inl ⟨by rfl, by intro w9 hSw; obtain ⟨u0, u1, u2, u3, u4⟩ := hSw; go_simp <;> with_reducible rfl⟩) hS0 ?_;refine lS 11 fun K hK => ?_
 go_simp
 (try rw [show (w1.alloc (.cells #[.int .i64 0, .int .i64 0, .int .i64 0] 84)).drew = wz from hwz.symm])
 refine kP hK (fun _ => hSz.out) ?_;clear hK K;refine lS 12 fun K hK => ?_
 go_simp
 (try rw [show (w1.alloc (.cells #[.int .i64 0, .int .i64 0, .int .i64 0] 84)).drew = wz from hwz.symm])
 refine kP hK (fun _ => hSz.out) ?_;clear hK K;refine lS 13 fun K hK => ?_
 go_simp;refine kP hK nH ?_
 clear hK K;refine lateT_done (by kernel_rfl) ?_ _;rw [show (w1.alloc (.cells #[.int .i64 ff, .int .i64 fl, .int .i64 ft] 84)).drew = w2 from hw2.symm];replace hwz := hide hwz;clear hSz;replace hw2 := hide hw2;clear hS0 hS0c;have d3 : w2.cell? ⟨w1.heap.size, 0, none⟩ = some (.int .i64 ff) := cR 0 hko1.out;have d4 : w2.cell? ⟨w1.heap.size, 1, none⟩ = some (.int .i64 fl) := cR 1 hko1.out;have d5 : w2.cell? ⟨w1.heap.size, 2, none⟩ = some (.int .i64 ft) := cR 2 hko1.out;have b0 := hB2.out.box.c0;have b1 := hB2.out.box.c1;have b2 := hB2.out.box.c2;have b3 := hB2.out.box.c3;have q1 := hide (joins_calls (c := c) (d := d) hB2.out.sys ft et C q c2 S _ _ hS2.out hq hr);go_upto_region 2 with fail
 go_cut [34] (fun v34 wx => v34 = .bool (decide (fl = 0) && joinB es S ft et) ∧ Hid (Below w2.heap.size w2 wx))
 case first =>
  by_cases hl : fl = 0
  ·subst hl
   have g0 : ((0 : Int) == 0) = true := rfl;go_wp2_with fail;refine q1.out.mono ?_;rintro e w3 ⟨rfl, hb3⟩;replace hb3 := hide hb3;go_wp2_with fail;go_meet;exact ⟨by simp, hb3.out⟩
  ·have g0 : (fl == 0) = false := by rw [beq_eq_false_iff_ne]; exact hl
   have g1 : Hid (decide (fl = 0) = false) := by show _ = _; simp [hl]
   go_wp2_with fail;go_meet
   exact ⟨by rw [g1.out]; rfl, bR⟩
 case rest =>
  obtain ⟨rfl, hb3⟩ := hcut;obtain ⟨w3, rfl⟩ : ∃ w3 : World, w3 = wc := ⟨_, rfl⟩;clear q1 b0 b1 b2 b3 d3 d4 d5;have hB3 := hide (hB2.out.below hb3.out);have hS3 := hide (hS2.out.below hb3.out (.inr zR));have hko3 := hide ((hb3.out.block _ hko).trans hko1.out);have hz3 := hb3.out.size;obtain ⟨bb, hbb⟩ : ∃ bb, bb = (decide (fl = 0) && joinB es S ft et) := ⟨_, rfl⟩;rw [← hbb] at hAll ⊢;replace hbb := hide hbb
  cases bb with
  | true =>
   go_wp2_with fail;go_ret
   exact ⟨by rw [hAll.out]; rfl, hB3.out.bel⟩
  | false =>
   have b3 := hB3.out.box.c3;go_upto_region 4 with fail;go_wp2_with fail;clear b3
   go_loopw [38] (fun v38 wr => ∃ k : Nat, k ≤ m ∧ v38 = .int .i64 (k : Int) ∧ Hid (Below w3.heap.size w3 wr) ∧ Hid (∀ i : Nat, i < k → agr1 es S y et i = false)) (fun v _ => m - (intOf v).toNat)
   case atStart => exact ⟨0, Nat.zero_le _, rfl, bR, fun i hi => absurd hi (Nat.not_lt_zero _)⟩
   case round =>
    obtain ⟨k, hk, rfl, hb, hno⟩ := hrel
    by_cases hlt : k < m
    ·have hBr := hB3.out.below hb.out
     obtain ⟨gX, oX, gf, gl, gt, eX, -, -, -, hxk, a0, a1, a2, -⟩ := SlE.get hBr.sys.se hlt
     cases eX
     have hv : Hid (agr1 es S y et k = (!(decide (gf ≠ et) || decide (gl ≠ fl) || (decide ((y : Int) ∈ S) && !decide ((k : Int) ∈ S))) && joinB es S ft gt)) := by
      show _ = _
      unfold agr1;rw [edA_at hxk, edA_at hxf'.out]
      by_cases t1 : gf = et <;> by_cases t2 : gl = fl <;> simp [t1, t2]
     obtain ⟨w4, hw4⟩ : ∃ w4, w4 = wr.alloc (.cells #[.int .i64 gf, .int .i64 gl, .int .i64 gt] 84) := ⟨_, rfl⟩;have hb4 : Below wr.heap.size wr w4 := by rw [hw4]; exact bR.alloc zR _
     have kX : w4.heap[wr.heap.size]? = some (.cells #[.int .i64 gf, .int .i64 gl, .int .i64 gt] 84 (0, 0)) := by rw [hw4]; exact heap_alloc_new wr _
     have kXl : wr.heap.size < w4.heap.size := (Array.getElem?_eq_some_iff.1 kX).1;have hzr := hb.out.size;have hB4 := hide (hBr.below hb4);have hS4 := hide ((hS3.out.below hb.out (.inr zR)).below hb4 (.inr zR));have hb34 := hide (hb.out.trans (hb4.mono hzr));have hko4 := hide ((hb34.out.block _ (Nat.lt_of_lt_of_le hko hz3)).trans hko3.out);have k0 : (0 : Int) ≤ (k : Int) := by omega
     have k1 : (k : Int) < (m : Int) := by omega
     have hxk' := hide hxk;replace hb4 := hide hb4;have kXh := hide kX;clear hBr hxk kX;go_upto_region 7 with fail;rw [show wr.alloc (.cells #[.int .i64 gf, .int .i64 gl, .int .i64 gt] 84) = w4 from hw4.symm];replace hw4 := hide hw4;clear a0 a1 a2;have x0 : w4.cell? ⟨wr.heap.size, 0, none⟩ = some (.int .i64 gf) := cR 0 kXh.out;have x1 : w4.cell? ⟨wr.heap.size, 1, none⟩ = some (.int .i64 gl) := cR 1 kXh.out;have x2 : w4.cell? ⟨wr.heap.size, 2, none⟩ = some (.int .i64 gt) := cR 2 kXh.out;have d3 : w4.cell? ⟨w1.heap.size, 0, none⟩ = some (.int .i64 ff) := cR 0 hko4.out;have d4 : w4.cell? ⟨w1.heap.size, 1, none⟩ = some (.int .i64 fl) := cR 1 hko4.out;have d5 : w4.cell? ⟨w1.heap.size, 2, none⟩ = some (.int .i64 ft) := cR 2 hko4.out;have qy := hide (containsX_calls (y : Int) C q c2 S w4 _ _ hS4.out hq);have qk := hide (containsX_calls (k : Int) C q c2 S w4 _ _ hS4.out hq);obtain ⟨bY, hbY⟩ : ∃ b, b = decide ((y : Int) ∈ S) := ⟨_, rfl⟩;obtain ⟨bK, hbK⟩ : ∃ b, b = decide ((k : Int) ∈ S) := ⟨_, rfl⟩;rw [← hbY, ← hbK] at hv;rw [← hbY] at qy;rw [← hbK] at qk;replace hbY := hide hbY;replace hbK := hide hbK
     go_cut [64] (fun v64 wx => v64 = .bool (decide (gf ≠ et) || decide (gl ≠ fl) || (bY && !bK)) ∧ wx = w4)
     case first =>
      by_cases t1 : gf = et
      ·subst t1
       have g1 : (gf == gf) = true := by simp
       by_cases t2 : gl = fl
       ·subst t2
        have g2 : (gl == gl) = true := by simp
        cases bY with
        | true =>
         go_wp2_with fail;refine qy.out.mono ?_
         rintro e w5 ⟨rfl, rfl⟩;go_wp2_with fail;refine qk.out.mono ?_;rintro e w5 ⟨rfl, rfl⟩;go_wp2_with fail;go_meet;exact ⟨by simp, rfl⟩
        | false =>
         go_wp2_with fail;refine qy.out.mono ?_
         rintro e w5 ⟨rfl, rfl⟩;go_wp2_with fail;go_meet;exact ⟨by simp, rfl⟩
       ·have g2 : (gl == fl) = false := by rw [beq_eq_false_iff_ne]; exact t2
        have f2 : Hid (decide (gl ≠ fl) = true) := by show _ = _; simp [t2]
        have g3 : (gl != fl) = true := by simp [t2]
        go_wp2_with fail;go_meet
        exact ⟨by rw [f2.out]; simp, rfl⟩
      ·have g1 : (gf == et) = false := by rw [beq_eq_false_iff_ne]; exact t1
       have f1 : Hid (decide (gf ≠ et) = true) := by show _ = _; simp [t1]
       have g3 : (gf != et) = true := by simp [t1]
       go_wp2_with fail;go_meet
       exact ⟨by rw [f1.out]; simp, rfl⟩
     case rest =>
      obtain ⟨rfl, rfl⟩ := hcut;clear qy qk x0 x1 d3 d4;obtain ⟨sk, hsk⟩ : ∃ sk, sk = (decide (gf ≠ et) || decide (gl ≠ fl) || (bY && !bK)) := ⟨_, rfl⟩;rw [← hsk] at hv ⊢;replace hsk := hide hsk
      cases sk with
      | true =>
       clear x2 d5;go_wp2_with fail;go_roundw
       case rel =>
        refine ⟨k + 1, by omega, by go_num, hb34.out, fun i hi => ?_⟩
        rcases Nat.lt_or_eq_of_le (Nat.le_of_lt_succ hi) with g | rfl
        ·exact hno.out i g
        ·rw [hv.out]; rfl
       case measure => simp [intOf]; omega
      | false =>
       have b0 := hB4.out.box.c0;have b1 := hB4.out.box.c1;have b2 := hB4.out.box.c2;have b3 := hB4.out.box.c3;have q8 := hide (joins_calls (c := c) (d := d) hB4.out.sys ft gt C q c2 S _ _ hS4.out hq hr);obtain ⟨jb, hjb⟩ : ∃ jb, jb = joinB es S ft gt := ⟨_, rfl⟩;rw [← hjb] at q8 hv;replace hjb := hide hjb
       cases jb with
       | true =>
        go_wp2_with fail;refine q8.out.mono ?_
        rintro e w5 ⟨rfl, hb5⟩;go_wp2_with fail;go_ret;refine ⟨?_, (hB4.out.below hb5).bel⟩;rw [hAll.out, List.any_eq_true.2 ⟨k, List.mem_range.2 hlt, by rw [hv.out]; rfl⟩]
        rfl
       | false =>
        go_wp2_with fail;refine q8.out.mono ?_
        rintro e w5 ⟨rfl, hb5⟩;have hb35 := hide (hb34.out.trans (hb5.mono hb34.out.size));clear hb5 b0 b1 b2 b3 x2 d5 q8;go_wp2_with fail;go_roundw
        case rel =>
         refine ⟨k + 1, by omega, by go_num, hb35.out, fun i hi => ?_⟩
         rcases Nat.lt_or_eq_of_le (Nat.le_of_lt_succ hi) with g | rfl
         ·exact hno.out i g
         ·rw [hv.out]; rfl
        case measure => simp [intOf]; omega
    ·obtain rfl : k = m := by omega
     have k1 : ¬ (k : Int) < (k : Int) := by omega
     go_wp2_with fail;go_ret
     refine ⟨?_, (hB3.out.below hb.out).bel⟩;rw [hAll.out, List.any_eq_false.2 fun i hi => by rw [hno.out i (List.mem_range.1 hi)]; decide]
     rfl
end
section
variable {w : World} {N ini : Nat} {A : Option Addr} {n c : Nat} {B : Option Addr} {m d : Nat} {ls : List ByteArray} {es : List Ed}
theorem disagreement_calls (h : SysA w N ini A n B m ls es) (x : Nat) (hx : x < m) (C : Option Addr) (q c2 : Nat) (S : List Int) (lo hi : Nat) (hS : SlI w lo hi C q S) (hq : q ≤ 1048576) (hr : ∀ i, i ∈ S → 0 ≤ i ∧ i < (es.length : Int)) :
  Calls Tryz.prog 196 #[.agg #[.int .i64 (N : Int), .int .i64 (ini : Int), .slice A n c, .slice B m d], .int .i64 (x : Int), .slice C q c2] w fun e w' => ∃ v : Int, e = .returned (.int .i64 v) ∧ (0 ≤ v ↔ disB es S x = true) ∧ Below w.heap.size w w' := by
 have hmn := h.many;have hlen := h.se.len;obtain ⟨gE, oE, ef, el, et, rfl, -, -, hgE, hxe, p0, p1, p2, -⟩ := SlE.get h.se hx;have hAll : Hid (disB es S x = (List.range m).any fun f => decide ((edA es f).1 = ef) && !agrB es S x f) := by
  show _ = _
  unfold disB;rw [edA_at hxe, hlen]
 obtain ⟨w1, hw1⟩ : ∃ w1, w1 = w.alloc (ltsC N ini A n c (some ⟨gE, oE, none⟩) m d) := ⟨_, rfl⟩;have hB := h.box (c := c) (d := d);rw [← hw1] at hB;have b3 := hB.box.c3;have hS1 := hide (hS.below hB.bel (.inr zR));have hp0 := hide ((hB.bel.cell (p := ⟨gE, oE + x * 3, none⟩) hgE).trans p0);have hgE1 : gE < w1.heap.size := Nat.lt_of_lt_of_le hgE hB.bel.size;have x0 : (0 : Int) ≤ (x : Int) := by omega
 have x1 : (x : Int) < (m : Int) := by omega
 replace hB := hide hB;clear h hS hxe p0 p1 p2 hlen;go_enter Tryz.func196, Tryz.ntmps196;go_upto_region 1 with fail;rw [show w.alloc (.cells #[.int .i64 (N : Int), .int .i64 (ini : Int), .slice A n c, .slice (some ⟨gE, oE, none⟩) m d] 27) = w1 from hw1.symm];replace hw1 := hide hw1;go_wp2_with fail;clear b3
 go_loopw [12] (fun v12 wr => ∃ k : Nat, k ≤ m ∧ v12 = .int .i64 (k : Int) ∧ Hid (Below w1.heap.size w1 wr) ∧ Hid (∀ i : Nat, i < k → (decide ((edA es i).1 = ef) && !agrB es S x i) = false)) (fun v _ => m - (intOf v).toNat)
 case atStart => exact ⟨0, Nat.zero_le _, rfl, bR, fun i hi => absurd hi (Nat.not_lt_zero _)⟩
 case round =>
  obtain ⟨k, hk, rfl, hb, hno⟩ := hrel
  by_cases hlt : k < m
  ·have hBr := hB.out.below hb.out
   obtain ⟨gX, oX, gf, gl, gt, eX, -, -, -, hxk, a0, a1, a2, -⟩ := SlE.get hBr.sys.se hlt
   cases eX
   have hv : Hid ((decide ((edA es k).1 = ef) && !agrB es S x k) = (decide (gf = ef) && !agrB es S x k)) := by show _ = _; rw [edA_at hxk]
   obtain ⟨w4, hw4⟩ : ∃ w4, w4 = wr.alloc (.cells #[.int .i64 gf, .int .i64 gl, .int .i64 gt] 84) := ⟨_, rfl⟩;have hb4 : Below wr.heap.size wr w4 := by rw [hw4]; exact bR.alloc zR _
   have kX : w4.heap[wr.heap.size]? = some (.cells #[.int .i64 gf, .int .i64 gl, .int .i64 gt] 84 (0, 0)) := by rw [hw4]; exact heap_alloc_new wr _
   have kXl : wr.heap.size < w4.heap.size := (Array.getElem?_eq_some_iff.1 kX).1;have hzr := hb.out.size;have hB4 := hide (hBr.below hb4);have hS4 := hide ((hS1.out.below hb.out (.inr zR)).below hb4 (.inr zR));have hb14 := hide (hb.out.trans (hb4.mono hzr));have hp4 := hide ((hb14.out.cell (p := ⟨gE, oE + x * 3, none⟩) hgE1).trans hp0.out);have hz4 : Hid (w4.drew.heap.size = w4.heap.size) := rfl;have hSs : Hid (∀ wx, Below w4.heap.size w4 wx → (fun w' : World => w'.cell? ⟨w.heap.size, 0, none⟩ = some (.int .i64 (N : Int)) ∧ w'.cell? ⟨w.heap.size, 1, none⟩ = some (.int .i64 (ini : Int)) ∧ w'.cell? ⟨w.heap.size, 2, none⟩ = some (.slice A n c) ∧ w'.cell? ⟨w.heap.size, 3, none⟩ = some (.slice (some ⟨gE, oE, none⟩) m d) ∧ w'.cell? ⟨gE, oE + x * 3, none⟩ = some (.int .i64 ef) ∧ w'.cell? ⟨wr.heap.size, 0, none⟩ = some (.int .i64 gf)) wx) := fun wx hb => by
    have hBx := (hB4.out.below hb).box;exact ⟨hBx.c0, hBx.c1, hBx.c2, hBx.c3, (hb.cell (p := ⟨gE, oE + x * 3, none⟩) (Nat.lt_of_lt_of_le hgE1 hb14.out.size)).trans hp4.out, (hb.cell (p := ⟨wr.heap.size, 0, none⟩) kXl).trans (cR 0 kX)⟩
   have k0 : (0 : Int) ≤ (k : Int) := by omega
   have k1 : (k : Int) < (m : Int) := by omega
   have b3 := hBr.box.c3;replace hb4 := hide hb4;clear hBr hxk kX;go_upto_region 4 with fail;rw [show wr.alloc (.cells #[.int .i64 gf, .int .i64 gl, .int .i64 gt] 84) = w4 from hw4.symm];replace hw4 := hide hw4;clear a0 a1 a2 b3;have hDr : Below w4.heap.size w4 w4.drew := bR.drew;obtain ⟨ab, hab⟩ : ∃ ab, ab = agrB es S x k := ⟨_, rfl⟩;obtain ⟨tv, htv⟩ : ∃ tv, tv = (decide ((edA es k).1 = ef) && !agrB es S x k) := ⟨_, rfl⟩;rw [← htv] at hv;rw [← hab] at hv
   go_cut [33] (fun v33 wx => v33 = .bool (decide (gf = ef) && !ab) ∧ Hid (Below w4.heap.size w4 wx))
   case first =>
    by_cases t1 : gf = ef
    ·subst t1
     have g1 : (gf == gf) = true := by simp
     have qA := hide (agrees_calls (c := c) (d := d) (hB4.out.below hDr).sys x k hx hlt C q c2 S _ _ (hS4.out.below hDr (.inr zR)) hq hr);rw [← hab] at qA;replace hab := hide hab;clear hAll hno hv htv
     focus
      refine lateT_begin (S := fun w' => w'.cell? ⟨w.heap.size, 0, none⟩ = some (.int .i64 (N : Int)) ∧ w'.cell? ⟨w.heap.size, 1, none⟩ = some (.int .i64 (ini : Int)) ∧ w'.cell? ⟨w.heap.size, 2, none⟩ = some (.slice A n c) ∧ w'.cell? ⟨w.heap.size, 3, none⟩ = some (.slice (some ⟨gE, oE, none⟩) m d) ∧ w'.cell? ⟨gE, oE + x * 3, none⟩ = some (.int .i64 gf) ∧ w'.cell? ⟨wr.heap.size, 0, none⟩ = some (.int .i64 gf)) (st := 16) (by kernel_rfl) ?_;have hS0 := hSs.out w4.drew hDr;refine tkA _ 0 [1,8,9,16] rfl (Or.inl ⟨by kernel_rfl, by intro w9 hSw; obtain ⟨u0, u1, u2, u3, u4, u5⟩ := hSw; go_simp <;> with_reducible rfl⟩) hS0 ?_;refine tkA _ 1 [8,9,16] rfl (Or.inl ⟨by kernel_rfl, by intro w9 hSw; obtain ⟨u0, u1, u2, u3, u4, u5⟩ := hSw; go_simp <;> with_reducible rfl⟩) hS0 ?_;refine tkA _ 2 [3,5,6,7,8,9,16] rfl (Or.inl ⟨by kernel_rfl, by intro w9 hSw; obtain ⟨u0, u1, u2, u3, u4, u5⟩ := hSw; go_simp <;> with_reducible rfl⟩) hS0 ?_;refine tkA _ 3 [5,6,7,8,9,16] rfl (Or.inl ⟨by kernel_rfl, by intro w9 hSw; obtain ⟨u0, u1, u2, u3, u4, u5⟩ := hSw; go_simp <;> with_reducible rfl⟩) hS0 ?_;refine tkA _ 4 [5,6,7,8,9,16] rfl (Or.inl ⟨by kernel_rfl, by intro w9 hSw; obtain ⟨u0, u1, u2, u3, u4, u5⟩ := hSw; go_simp <;> with_reducible rfl⟩) hS0 ?_;refine tkA _ 5 [6,7,8,9,16] rfl (Or.inl ⟨by kernel_rfl, by intro w9 hSw; obtain ⟨u0, u1, u2, u3, u4, u5⟩ := hSw; go_simp <;> with_reducible rfl⟩) hS0 ?_;refine tkA _ 6 [7,8,9,16] rfl (Or.inl ⟨by kernel_rfl, by intro w9 hSw; obtain ⟨u0, u1, u2, u3, u4, u5⟩ := hSw; go_simp <;> with_reducible rfl⟩) hS0 ?_;refine tkA _ 7 [8,9,16] rfl (Or.inl ⟨by kernel_rfl, by intro w9 hSw; obtain ⟨u0, u1, u2, u3, u4, u5⟩ := hSw; go_simp <;> with_reducible rfl⟩) hS0 ?_;refine tkA _ 8 [9,16] rfl (Or.inl ⟨by kernel_rfl, by intro w9 hSw; obtain ⟨u0, u1, u2, u3, u4, u5⟩ := hSw; go_simp <;> with_reducible rfl⟩) hS0 ?_;refine tkA _ 9 [16] rfl (Or.inl ⟨by kernel_rfl, by intro w9 hSw; obtain ⟨u0, u1, u2, u3, u4, u5⟩ := hSw; go_simp <;> with_reducible rfl⟩) hS0 ?_;refine tkA _ 10 [14,15,16] rfl (Or.inl ⟨by kernel_rfl, by intro w9 hSw; obtain ⟨u0, u1, u2, u3, u4, u5⟩ := hSw; go_simp <;> with_reducible rfl⟩) hS0 ?_;refine tkA _ 11 [14,15,16] rfl (Or.inl ⟨by kernel_rfl, by intro w9 hSw; obtain ⟨u0, u1, u2, u3, u4, u5⟩ := hSw; go_simp <;> with_reducible rfl⟩) hS0 ?_;refine tkA _ 12 [14,15,16] rfl (Or.inl ⟨by kernel_rfl, by intro w9 hSw; obtain ⟨u0, u1, u2, u3, u4, u5⟩ := hSw; go_simp <;> with_reducible rfl⟩) hS0 ?_;refine tkA _ 13 [14,15,16] rfl (Or.inl ⟨by kernel_rfl, by intro w9 hSw; obtain ⟨u0, u1, u2, u3, u4, u5⟩ := hSw; go_simp <;> with_reducible rfl⟩) hS0 ?_;refine lS 14 fun K hK => ?_
      go_simp;go_at_call 260
      refine qA.out.mono ?_;rintro e w6 ⟨rfl, hb6⟩;have hS6 := hide (hSs.out w6 (hDr.trans hb6));have hb6h := hide hb6;clear qA;go_wp2_with fail;refine kP hK (fun _ => hS6.out) ?_;clear hK K;refine lS 15 fun K hK => ?_
      go_simp;refine kP hK (fun _ => hS6.out) ?_
      clear hK K;refine lS 16 fun K hK => ?_
      go_simp;refine kP hK nH ?_
      clear hK K;refine lateT_done (by kernel_rfl) ?_ _;have hbF := hb6h.out;go_wp2_with fail;go_meet;exact ⟨by simp, (hDr.trans (hb6h.out.mono hDr.size))⟩
    ·have g1 : (gf == ef) = false := by rw [beq_eq_false_iff_ne]; exact t1
     replace hab := hide hab;have f1 : Hid (decide (gf = ef) = false) := by show _ = _; simp [t1]
     obtain ⟨u0, u1, u2, u3, u4, u5⟩ := hSs.out w4 bR;clear t1;go_quiet (fail);go_wp2_with fail;go_meet;exact ⟨by rw [f1.out]; rfl, below_drewN _ _⟩
   case rest =>
    obtain ⟨rfl, hb5⟩ := hcut;obtain ⟨w5, rfl⟩ : ∃ w5 : World, w5 = wc := ⟨_, rfl⟩;have hb15 := hide (hb14.out.trans (hb5.out.mono hb14.out.size));obtain ⟨sk, hsk⟩ : ∃ sk, sk = (decide (gf = ef) && !ab) := ⟨_, rfl⟩;replace hab := hide hab;rw [← hsk] at hv ⊢;replace hsk := hide hsk;have htvh := hide htv;clear htv
    cases sk with
    | true =>
     go_wp2_with fail;go_ret
     refine ⟨_, rfl, ?_, (hB.out.below hb15.out).bel⟩;rw [hAll.out, List.any_eq_true.2 ⟨k, List.mem_range.2 hlt, htvh.out.symm.trans hv.out⟩];exact ⟨fun _ => rfl, fun _ => by omega⟩
    | false =>
     go_wp2_with fail;go_roundw
     case rel =>
      refine ⟨k + 1, by omega, by go_num, hb15.out, fun i hi => ?_⟩
      rcases Nat.lt_or_eq_of_le (Nat.le_of_lt_succ hi) with g | rfl
      ·exact hno.out i g
      ·exact htvh.out.symm.trans hv.out
     case measure => simp [intOf]; omega
  ·obtain rfl : k = m := by omega
   have k1 : ¬ (k : Int) < (k : Int) := by omega
   go_wp2_with fail;go_ret
   refine ⟨_, rfl, ?_, (hB.out.below hb.out).bel⟩;rw [hAll.out, List.any_eq_false.2 fun i hi => by rw [hno.out i (List.mem_range.1 hi)]; decide];exact ⟨fun h => absurd h (by decide), fun h => absurd h (by decide)⟩
end
open Go.Lib Go.Sort
section
variable {L α β : Type} {E : Nat → L → Nat → Prop} {τ : L} {d : Prop} {q : Nat → α} {g : α → β}
theorem Stb.through (hg : ∀ x y, g (q x) = g (q y) → q x = q y) (h : Stb E τ d q) : Stb E τ d fun x => g (q x) := by
 have hi : inrt E τ (fun x => g (q x)) = inrt E τ q := by
  funext x y
  exact propext (and_congr_right fun _ => ⟨hg x y, fun e => congrArg g e⟩)
 refine ⟨fun x y l b e ho => ?_, fun hd x y e hx => ?_⟩
 ·obtain ⟨x1, x2, h1, h2, h3, h4⟩ := ho
  rw [hi] at h1;obtain ⟨y1, y2, k1, k2, k3, k4⟩ := h.off x y l (q x2) (hg _ _ e) ⟨x1, x2, h1, h2, rfl, fun e => h4 ⟨e.1, congrArg g e.2⟩⟩;exact ⟨y1, y2, by rw [hi]; exact k1, k2, (congrArg g k3).trans h3, fun e => k4 ⟨e.1, hg _ _ e.2⟩⟩
 ·rw [hi] at hx ⊢
  exact h.dvg hd x y (hg _ _ e) hx
end
structure QuoC (n m : Nat) (er em : List Ed) (P : Nat → Nat) : Prop where
 inr : EdIn n er
 inm : EdIn m em
 stb : Stb (nE er) (0 : Int) (false = true) P
 quo : QuoB (nE er) (nE em) (0 : Int) (false = true) P
 dom : ∀ i, i < n → P i < m
 out : ∀ i, ¬ i < n → P i = m
 sur : ∀ b, b < m → ∃ i, P i = b
section
variable {n m k : Nat} {er em eo : List Ed} {P P2 : Nat → Nat}
theorem QuoC.onto (h : QuoC n m er em P) : OntoP n m P :=
 ⟨fun i => ⟨h.dom i, fun g => Classical.byContradiction fun hn => by rw [h.out i hn] at g; omega⟩, h.sur⟩
theorem QuoC.comp (h : QuoC n m er em P) (g : QuoC m k em eo P2) : QuoC n k er eo fun x => P2 (P x) := by
 refine ⟨h.inr, g.inm, comp_stb h.stb h.quo g.stb, h.quo.comp fnot g.quo, fun i hi => g.dom _ (h.dom i hi), fun i hi => ?_, fun b hb => ?_⟩
 ·show P2 (P i) = k
  rw [h.out i hi];exact g.out m (Nat.lt_irrefl _)
 ·obtain ⟨c, hc⟩ := g.sur b hb
  have hcm : c < m := Classical.byContradiction fun hn => by rw [g.out c hn] at hc; omega
  obtain ⟨i, rfl⟩ := h.sur c hcm;exact ⟨i, hc⟩
theorem cls_quoc {r : Nat} {p : List Int} (he : EdIn n er) (hpe : p = itP (refB er n false) n r) (hL : LastG (refB er n false) n r) (hm : QuoBE er n false p em) : QuoC n (numB p) er em (atL p (numB p)) := by
 have hp : PartN n p := by rw [hpe]; exact itP_part (refB_ref he) r
 refine ⟨he, quoBE_in he hp hm, stb_atL hp (stable_stb he hp (by rw [hpe]; exact hL.1)), quoB_of he hp hm, fun i hi => ?_, fun i hi => atL_none (by rw [hp.len]; exact hi), fun b hb => ?_⟩
 ·have hil : i < p.length := by rw [hp.len]; exact hi
  have e1 : p[i]? = some p[i] := List.getElem?_eq_getElem hil;have := part_lt hp (List.mem_of_getElem? e1);rw [atL_some e1];omega
 ·obtain ⟨i, hi⟩ := List.getElem?_of_mem (part_mem hp hb)
  exact ⟨i, by rw [atL_some hi]; exact Int.toNat_natCast _⟩
end
section
variable {m i0 : Nat} {em es : List Ed} {S : List Int}
theorem arc_iff {a k : Nat} : arcE true es a k ↔ ∃ l, nE es a l k := by
 unfold arcE nE
 constructor
 ·rintro ⟨⟨f, l, t⟩, he, h⟩
  rw [if_pos rfl] at h;obtain ⟨rfl, rfl⟩ := h;exact ⟨l, he⟩
 ·rintro ⟨l, h⟩
  exact ⟨_, h, by rw [if_pos rfl]; exact ⟨rfl, rfl⟩⟩
theorem ReachE.ind {ini : Nat} {C : Nat → Prop} (h0 : C ini) (hc : ∀ a l k, nE es a l k → C a → C k) {k : Nat} (h : ReachE es (ini : Int) k) : C k := by
 obtain ⟨n, hn⟩ := h
 induction n generalizing k with
 | zero =>
  have : (k : Int) ∈ [(ini : Int)] := hn;have : k = ini := by simp at this; omega
  rw [this]; exact h0
 | succ n ih =>
  rcases hn with hn | ⟨a, ha, hk⟩
  ·exact ih hn
  ·obtain ⟨l, hl⟩ := arc_iff.1 hk
   exact hc a l k hl (ih ha)
theorem ReachE.begin {ini : Nat} : ReachE es (ini : Int) ini := ⟨0, by simp [lay, srcE]⟩
theorem ReachE.next {ini a k : Nat} {l : Int} (h : ReachE es (ini : Int) a) (ha : nE es a l k) : ReachE es (ini : Int) k := h.step (arc_iff.2 ⟨l, ha⟩)
structure FullR (m : Nat) (es : List Ed) (i0 : Nat) : Prop where
 ini : i0 < m
 all : ∀ x, x < m → ReachE es (i0 : Int) x
 loop : ∀ x : Nat, ¬ nE es x 0 x
theorem FullR.alls (h : FullR m em i0) : AllS (reachF m em (i0 : Int)) m :=
 ⟨reach_nodup, fun x hx => reach_mem.2 ⟨x, rfl, hx, h.all x hx⟩, fun a ha => by
  obtain ⟨k, e, hk, -⟩ := reach_mem.1 ha;exact ⟨k, e, hk⟩⟩
theorem AllS.quoc (h : AllS S m) (he : EdIn m em) (ht : ∀ x : Nat, ¬ nE em x 0 x) : QuoC m S.length em (partF S em) (posP S m) :=
 ⟨he, part_in he h.nd, h.stb he, h.quo he fnot ht, fun i hi => (h.pos hi).1, fun i hi => by unfold posP; rw [if_neg hi], h.onto.sur⟩
theorem FullR.part (h : FullR m em i0) (he : EdIn m em) (hS : S = reachF m em (i0 : Int)) : FullR S.length (partF S em) (posP S m i0) := by
 have hA : AllS S m := by rw [hS]; exact h.alls
 refine ⟨(hA.pos h.ini).1, fun j hj => ?_, fun x hx => ?_⟩
 ·obtain ⟨x, hx, hxm⟩ := hA.only _ (List.getElem_mem hj)
  have key : x < m ∧ ReachE (partF S em) ((posP S m i0 : Nat) : Int) (posP S m x) := by
   refine ReachE.ind (C := fun x => x < m ∧ ReachE (partF S em) ((posP S m i0 : Nat) : Int) (posP S m x)) ⟨h.ini, .begin⟩ (fun a l k hk hC => ?_) (h.all x hxm);have hi := nE_in he hk;exact ⟨hi.2, hC.2.next (l := l) ((partF_part hA.nd _ _ _).2 ⟨_, _, _, _, rfl, rfl, (hA.pos hi.1).2, (hA.pos hi.2).2, hk⟩)⟩
  have e : posP S m x = j := by
   unfold posP;rw [if_pos hxm, ← hx];exact idx_self hA.nd hj
  rw [e] at key;exact key.2
 ·obtain ⟨i, j, a, b, e1, e2, h1, h2, h3⟩ := (partF_part hA.nd _ _ _).1 hx
  obtain rfl : i = j := by omega
  rw [h1] at h2
  cases h2
  obtain ⟨k, rfl, -⟩ := hA.only _ (List.mem_of_getElem? h1);exact h.loop k h3
end
def redO (St rp : List Int) (e : Ed) : Option Ed := if decide (e.1 ∈ St) && (decide (e.2.1 ≠ 0) || decide (pv rp e.2.2 ≠ e.1)) then some (posZ St e.1, e.2.1, posZ St (pv rp e.2.2)) else none
def redF (St rp : List Int) (es : List Ed) : List Ed := Lib.compact (sortE (es.filterMap (redO St rp)))
structure RedD (N ini : Nat) (es : List Ed) (rep : Nat → Nat) (St : List Int) (er : List Ed) : Prop where
 nd : St.Nodup
 mem : ∀ v, v ∈ St ↔ ∃ k : Nat, (k : Int) ∈ reachF N es (ini : Int) ∧ v = ((rep k : Nat) : Int)
 eds : ∀ f l t, (f, l, t) ∈ er ↔ ∃ a b : Nat, nE es a l b ∧ (a : Int) ∈ St ∧ ¬ (l = 0 ∧ rep b = a) ∧ f = ((St.idxOf (a : Int) : Nat) : Int) ∧ t = ((St.idxOf ((rep b : Nat) : Int) : Nat) : Int)
section
variable {N ini : Nat} {es er : List Ed} {S St rp : List Int} {rep : Nat → Nat}
theorem star_reach (hc : ConfS (nE es) (0 : Int) (cS es S)) {x y : Nat} (h : StarR (cS es S) x y) (hx : ReachE es (ini : Int) x) : ReachE es (ini : Int) y := by
 induction h with
 | refl => exact hx
 | step e _ ih => exact ih (hx.next (hc.sub _ _ e))
theorem RedD.of (he : EdIn N es) (hn : St.Nodup) (hm : ∀ v, v ∈ St ↔ ∃ k : Nat, (k : Int) ∈ reachF N es (ini : Int) ∧ v = ((rep k : Nat) : Int)) (hp : ∀ x, x < N → rp[x]? = some ((rep x : Nat) : Int)) (hc : ConfS (nE es) (0 : Int) (cS es S)) (hr : RepC (cS es S) rep) : RedD N ini es rep St (redF St rp es) := by
 refine ⟨hn, hm, fun f l t => ?_⟩;have hStR : ∀ {a : Nat}, (a : Int) ∈ St → ReachE es (ini : Int) a := fun {a} ha => by
  obtain ⟨k, h1, h2⟩ := (hm _).1 ha;obtain ⟨k', e, -, h3⟩ := reach_mem.1 h1;obtain rfl : k = k' := by omega
  obtain rfl : a = rep k := by omega
  exact star_reach hc (hr.com k).1 h3
 have hpv : ∀ {b : Nat}, b < N → pv rp (b : Int) = ((rep b : Nat) : Int) := fun {b} hb => by unfold pv; rw [Int.toNat_natCast, hp b hb]; rfl
 have hpos : ∀ {v : Int}, v ∈ St → posZ St v = ((St.idxOf v : Nat) : Int) := fun {v} hv => if_pos hv
 have hto : ∀ {a b : Nat} {l : Int}, (a : Int) ∈ St → nE es a l b → ((rep b : Nat) : Int) ∈ St := fun {a b l} ha hE =>
  (hm _).2 ⟨b, reach_mem.2 ⟨b, rfl, (nE_in he hE).2, (hStR ha).next hE⟩, rfl⟩
 unfold redF;rw [compactE_mem, sortE_mem, List.mem_filterMap]
 constructor
 ·rintro ⟨⟨a, l', b⟩, hE, h⟩
  have hin := he _ hE;dsimp only at hin;obtain ⟨a, rfl⟩ : ∃ x : Nat, a = (x : Int) := ⟨a.toNat, by omega⟩;obtain ⟨b, rfl⟩ : ∃ x : Nat, b = (x : Int) := ⟨b.toNat, by omega⟩;unfold redO at h;dsimp only at h;rw [hpv (by omega)] at h
  split at h
  ·rename_i hcond
   rw [Bool.and_eq_true, Bool.or_eq_true, decide_eq_true_eq, decide_eq_true_eq, decide_eq_true_eq] at hcond;obtain ⟨g1, g2⟩ := hcond;rw [hpos g1, hpos (hto g1 hE)] at h;injection h with h;injection h with h1 h2;injection h2 with h2 h3;subst h2;refine ⟨a, b, hE, g1, fun e => ?_, h1.symm, h3.symm⟩
   rcases g2 with g2 | g2
   ·exact g2 e.1
   ·exact g2 (by rw [e.2])
  ·cases h
 ·rintro ⟨a, b, hE, g1, g2, rfl, rfl⟩
  have hin := nE_in he hE;refine ⟨_, hE, ?_⟩;unfold redO;dsimp only;rw [hpv hin.2, hpos g1, hpos (hto g1 hE), if_pos];rw [Bool.and_eq_true, Bool.or_eq_true, decide_eq_true_eq, decide_eq_true_eq, decide_eq_true_eq];refine ⟨g1, ?_⟩
  by_cases h0 : l = 0
  ·exact .inr fun e => g2 ⟨h0, by omega⟩
  ·exact .inl h0
theorem RedD.quoc (h : RedD N ini es rep St er) (he : EdIn N es) (hc : ConfS (nE es) (0 : Int) (cS es S)) (hr : RepC (cS es S) rep) (hN : ∀ x, x < N → rep x < N) (hO : ∀ x, ¬ x < N → rep x = x) {R : List Int} (hR : R = reachF N es (ini : Int)) :
  QuoC R.length St.length (partF R es) er fun i => posP St N (rep (atL R N i)) := by
 have hRn : R.Nodup := by rw [hR]; exact reach_nodup
 have hRm : ∀ {a : Int}, a ∈ R ↔ ∃ k : Nat, a = (k : Int) ∧ k < N ∧ ReachE es (ini : Int) k := fun {a} => by rw [hR]; exact reach_mem
 have hcl : ∀ a l b, a ∈ R → (a, l, b) ∈ es → b ∈ R := fun a l b ha hx => by rw [hR] at ha ⊢; exact reach_closed he a l b ha hx
 have hnn : ∀ a, a ∈ R → 0 ≤ a := fun a ha => by obtain ⟨k, rfl, -⟩ := hRm.1 ha; omega
 have hmem : ∀ v, v ∈ St ↔ ∃ k : Nat, (k : Int) ∈ R ∧ v = ((rep k : Nat) : Int) := fun v => by rw [hR]; exact h.mem v
 have hemb := part_emb (z := N) he (partF_part hRn) hcl hnn zR;have hst := hemb.stb (hr.stb (d := (false = true)) fnot hc)
 -- what the places know
 have hat : ∀ {i : Nat}, i < R.length → ∃ k : Nat, R[i]? = some (k : Int) ∧ k < N ∧ atL R N i = k := fun {i} hi => by
  have e : R[i]? = some R[i] := List.getElem?_eq_getElem hi;obtain ⟨k, hk, h1, -⟩ := hRm.1 (List.getElem_mem hi);rw [hk] at e;exact ⟨k, e, h1, by rw [atL_some e]; exact Int.toNat_natCast _⟩
 have hpin : ∀ {x : Nat}, x < N → (x : Int) ∈ St → posP St N x = St.idxOf (x : Int) ∧ posP St N x < St.length := fun {x} hx hm => by
  unfold posP;rw [if_pos hx];exact ⟨rfl, List.idxOf_lt_length_of_mem hm⟩
 have hrS : ∀ {i : Nat}, i < R.length → rep (atL R N i) < N ∧ ((rep (atL R N i) : Nat) : Int) ∈ St := fun {i} hi => by
  obtain ⟨k, h1, h2, h3⟩ := hat hi;rw [h3];exact ⟨hN k h2, (hmem _).2 ⟨k, List.mem_of_getElem? h1, rfl⟩⟩
 have hout : ∀ {i : Nat}, ¬ i < R.length → rep (atL R N i) = N ∧ posP St N (rep (atL R N i)) = St.length := fun {i} hi => by
  rw [atL_none hi, hO N (Nat.lt_irrefl _)];refine ⟨rfl, ?_⟩;unfold posP;rw [if_neg (Nat.lt_irrefl _)]
 have hinj : ∀ x y, posP St N (rep (atL R N x)) = posP St N (rep (atL R N y)) → rep (atL R N x) = rep (atL R N y) := fun x y e => by
  by_cases hx : x < R.length
  ·obtain ⟨x1, x2⟩ := hrS hx
   obtain ⟨p1, p2⟩ := hpin x1 x2
   by_cases hy : y < R.length
   ·obtain ⟨y1, y2⟩ := hrS hy
    obtain ⟨q1, q2⟩ := hpin y1 y2;rw [p1, q1] at e;have a1 := List.getElem_idxOf (List.idxOf_lt_length_of_mem x2);have a2 := List.getElem_idxOf (List.idxOf_lt_length_of_mem y2);have a3 : St[St.idxOf ((rep (atL R N x) : Nat) : Int)]? = St[St.idxOf ((rep (atL R N y) : Nat) : Int)]? := by rw [e]
    rw [List.getElem?_eq_getElem (List.idxOf_lt_length_of_mem x2), List.getElem?_eq_getElem (List.idxOf_lt_length_of_mem y2), a1, a2] at a3;have := Option.some.inj a3;omega
   ·rw [(hout hy).2] at e; omega
  ·by_cases hy : y < R.length
   ·obtain ⟨y1, y2⟩ := hrS hy
    obtain ⟨q1, q2⟩ := hpin y1 y2;rw [(hout hx).2] at e; omega
   ·rw [(hout hx).1, (hout hy).1]
 have hin : EdIn St.length er := by
  rintro ⟨f, l, t⟩ hx;obtain ⟨a, b, hE, g1, -, rfl, rfl⟩ := (h.eds f l t).1 hx;have h1 := List.idxOf_lt_length_of_mem g1;obtain ⟨k, k1, k2⟩ := (hmem _).1 g1;obtain ⟨k', e, k3, k4⟩ := hRm.1 k1;obtain rfl : k = k' := by omega
  obtain rfl : a = rep k := by omega
  have hb : (b : Int) ∈ R := hRm.2 ⟨b, rfl, (nE_in he hE).2, (star_reach hc (hr.com k).1 k4).next hE⟩;have h2 := List.idxOf_lt_length_of_mem ((hmem ((rep b : Nat) : Int)).2 ⟨b, hb, rfl⟩);have h3 := (he _ hE).2.1;dsimp only at h3 ⊢;omega
 refine ⟨part_in he hRn, hin, hst.through (g := posP St N) hinj, fun b l c => ?_, fun i hi => ?_, fun i hi => (hout hi).2, fun b hb => ?_⟩
 ·constructor
  ·intro hx
   obtain ⟨a, t, hE, g1, g2, e1, e2⟩ := (h.eds _ _ _).1 hx;obtain ⟨k, k1, k2⟩ := (hmem _).1 g1;obtain ⟨k', e, k3, k4⟩ := hRm.1 k1;obtain rfl : k = k' := by omega
   obtain rfl : a = rep k := by omega
   have ha : ((rep k : Nat) : Int) ∈ R := hRm.2 ⟨_, rfl, hN k k3, star_reach hc (hr.com k).1 k4⟩;have ht := hcl _ _ _ ha hE;obtain ⟨i, hi⟩ := List.getElem?_of_mem ha;obtain ⟨j, hj⟩ := List.getElem?_of_mem ht;have il := (List.getElem?_eq_some_iff.1 hi).1;have jl := (List.getElem?_eq_some_iff.1 hj).1;have ei : atL R N i = rep k := by rw [atL_some hi]; exact Int.toNat_natCast _
   have ej : atL R N j = t := by rw [atL_some hj]; exact Int.toNat_natCast _
   have pi := hpin (hrS il).1 (hrS il).2;have pj := hpin (hrS jl).1 (hrS jl).2;have tw := hr.twice hc k;refine .inl ⟨i, j, (partF_part hRn _ _ _).2 ⟨i, j, _, _, rfl, rfl, hi, hj, hE⟩, ?_, ?_, fun hne => ?_⟩
   ·show posP St N (rep (atL R N i)) = b
    rw [pi.1, ei, tw];omega
   ·show posP St N (rep (atL R N j)) = c
    rw [pj.1, ej];omega
   ·have := hinj i j hne.2
    rw [ei, ej, tw] at this;exact g2 ⟨hne.1, this.symm⟩
  ·rintro (⟨i, j, hE, rfl, rfl, hne⟩ | ⟨k, _⟩)
   ·obtain ⟨i', j', a, t, e1, e2, h1, h2, h3⟩ := (partF_part hRn _ _ _).1 hE
    obtain rfl : i = i' := by omega
    obtain rfl : j = j' := by omega
    have il := (List.getElem?_eq_some_iff.1 h1).1;have jl := (List.getElem?_eq_some_iff.1 h2).1;obtain ⟨x, hx, hxN, ex⟩ := hat il;obtain ⟨y, hy, hyN, ey⟩ := hat jl;rw [h1] at hx;rw [h2] at hy
    cases hx
    cases hy
    have pi := hpin (hrS il).1 (hrS il).2;have pj := hpin (hrS jl).1 (hrS jl).2
    rcases hr.along hc (hr.com x).1 h3 with ⟨k1, k2⟩ | ⟨v, k1, k2⟩
    ·exact absurd ⟨k1, by show posP St N (rep (atL R N i)) = posP St N (rep (atL R N j)); rw [ex, ey, k2]⟩ hne
    ·refine (h.eds _ _ _).2 ⟨rep x, v, k1, by rw [← ex]; exact (hrS il).2, fun e => hne ⟨e.1, ?_⟩, ?_, ?_⟩
     ·show posP St N (rep (atL R N i)) = posP St N (rep (atL R N j))
      rw [ex, ey, ← k2, e.2]
     ·rw [pi.1, ex]
     ·rw [pj.1, ey, k2]
   ·exact (fnot k).elim
 ·exact (hpin (hrS hi).1 (hrS hi).2).2
 ·obtain ⟨k, k1, k2⟩ := (hmem _).1 (List.getElem_mem hb)
  obtain ⟨i, hi⟩ := List.getElem?_of_mem k1;have il := (List.getElem?_eq_some_iff.1 hi).1;have ei : atL R N i = k := by rw [atL_some hi]; exact Int.toNat_natCast _
  refine ⟨i, ?_⟩;rw [(hpin (hrS il).1 (hrS il).2).1, ei, ← k2];exact idx_self h.nd hb
theorem RedD.full (h : RedD N ini es rep St er) (he : EdIn N es) (hini : ini < N) (hc : ConfS (nE es) (0 : Int) (cS es S)) (hr : RepC (cS es S) rep) : FullR St.length er (St.idxOf ((rep ini : Nat) : Int)) := by
 have hin : ∀ {k : Nat}, k < N → ReachE es (ini : Int) k → ((rep k : Nat) : Int) ∈ St := fun {k} hk hx => (h.mem _).2 ⟨k, reach_mem.2 ⟨k, rfl, hk, hx⟩, rfl⟩
 refine ⟨List.idxOf_lt_length_of_mem (hin hini .begin), fun x hx => ?_, fun x hx => ?_⟩
 ·obtain ⟨k, k1, k2⟩ := (h.mem _).1 (List.getElem_mem hx)
  obtain ⟨k', e, k3, k4⟩ := reach_mem.1 k1;obtain rfl : k = k' := by omega
  have key : (k < N ∧ ReachE es (ini : Int) k) ∧ ReachE er ((St.idxOf ((rep ini : Nat) : Int) : Nat) : Int) (St.idxOf ((rep k : Nat) : Int)) := by
   refine ReachE.ind (C := fun k => (k < N ∧ ReachE es (ini : Int) k) ∧ ReachE er ((St.idxOf ((rep ini : Nat) : Int) : Nat) : Int) (St.idxOf ((rep k : Nat) : Int))) ⟨⟨hini, .begin⟩, .begin⟩ (fun a l k hk hC => ?_) k4;obtain ⟨⟨a1, a2⟩, a3⟩ := hC;refine ⟨⟨(nE_in he hk).2, a2.next hk⟩, ?_⟩
   rcases hr.along hc (hr.com a).1 hk with ⟨-, g⟩ | ⟨v, g1, g2⟩
   ·rw [g]; exact a3
   ·by_cases hs : l = 0 ∧ rep v = rep a
    ·rw [← g2, hs.2]; exact a3
    ·exact a3.next (l := l) ((h.eds _ _ _).2 ⟨rep a, v, g1, hin a1 a2, hs, rfl, by rw [g2]⟩)
  have e2 : St.idxOf ((rep k : Nat) : Int) = x := by rw [← k2]; exact idx_self h.nd hx
  rw [e2] at key;exact key.2
 ·obtain ⟨a, b, hE, g1, g2, e1, e2⟩ := (h.eds _ _ _).1 hx
  have hb : ((rep b : Nat) : Int) ∈ St := by
   obtain ⟨k, k1, k2⟩ := (h.mem _).1 g1;obtain ⟨k', e, k3, k4⟩ := reach_mem.1 k1;obtain rfl : k = k' := by omega
   obtain rfl : a = rep k := by omega
   exact hin (nE_in he hE).2 ((star_reach hc (hr.com k).1 k4).next hE)
  have a1 := List.getElem?_eq_getElem (List.idxOf_lt_length_of_mem g1);have a2 := List.getElem?_eq_getElem (List.idxOf_lt_length_of_mem hb);rw [List.getElem_idxOf] at a1 a2;have e : St.idxOf (a : Int) = St.idxOf ((rep b : Nat) : Int) := by omega
  rw [e, a2] at a1;have := Option.some.inj a1;exact g2 ⟨rfl, by omega⟩
end
section
variable {N ini : Nat} {es er : List Ed} {S St : List Int} {rep : Nat → Nat} {ls : List ByteArray}
theorem red_way (h : RedD N ini es rep St er) (he : EdIn N es) (hini : ini < N) (hc : ConfS (nE es) (0 : Int) (cS es S)) (hr : RepC (cS es S) rep) (hN : ∀ x, x < N → rep x < N) (hO : ∀ x, ¬ x < N → rep x = x)
  {R S1 S2 : List Int} {em : List Ed} {K0 i0 i1 i : Nat} (hR : R = reachF N es (ini : Int)) (hK : K0 = St.length) (h0 : i0 = St.idxOf ((rep ini : Nat) : Int)) (hS1 : S1 = reachF K0 er (i0 : Int)) (hem : em = partF S1 er) (h1 : S1[i1]? = some (i0 : Int)) (hS2 : S2 = reachF S1.length em (i1 : Int)) (hi : R[i]? = some (ini : Int)) :
  ∃ P, QuoC R.length S2.length (partF R es) (partF S2 em) P ∧ S2[P i]? = some (i1 : Int) := by
 subst hK h0;have q1 := h.quoc he hc hr hN hO hR;have f1 := h.full he hini hc hr;have a1 : AllS S1 St.length := by rw [hS1]; exact f1.alls
 have q2 := a1.quoc q1.inm f1.loop;have f2 := f1.part q1.inm hS1;have e1 : posP S1 St.length (St.idxOf ((rep ini : Nat) : Int)) = i1 := by
  unfold posP;rw [if_pos f1.ini];have := idx_self a1.nd (List.getElem?_eq_some_iff.1 h1).1;rw [(List.getElem?_eq_some_iff.1 h1).2] at this;exact this
 rw [e1, ← hem] at f2;rw [← hem] at q2;have a2 : AllS S2 S1.length := by rw [hS2]; exact f2.alls
 have q3 := a2.quoc q2.inm f2.loop;refine ⟨_, (q1.comp q2).comp q3, ?_⟩
 show S2[posP S2 S1.length (posP S1 St.length (posP St N (rep (atL R N i))))]? = _
 have e0 : atL R N i = ini := by rw [atL_some hi]; exact Int.toNat_natCast _
 have e2 : posP St N (rep ini) = St.idxOf ((rep ini : Nat) : Int) := by unfold posP; rw [if_pos (hN ini hini)]
 rw [e0, e2, e1];exact (a2.pos f2.ini).2
end
end Go.Proofs.YtnhomkmfbngmgaaGreatDoor
namespace Go.Proofs.YtnhomkmfbngmgaaGreatDoor
theorem asc_one : ∀ {A B : List Int}, A.Pairwise (· < ·) → B.Pairwise (· < ·) → (∀ x, x ∈ A ↔ x ∈ B) → A = B
 | [], [], _, _, _ => rfl
 | [], b :: B, _, _, h => absurd ((h b).2 (List.mem_cons_self ..)) (List.not_mem_nil)
 | a :: A, [], _, _, h => absurd ((h a).1 (List.mem_cons_self ..)) (List.not_mem_nil)
 | a :: A, b :: B, hA, hB, h => by
  obtain ⟨ha, hA'⟩ := List.pairwise_cons.1 hA;obtain ⟨hb, hB'⟩ := List.pairwise_cons.1 hB;have e : a = b := by
   rcases List.mem_cons.1 ((h a).1 (List.mem_cons_self ..)) with e | h1
   ·exact e
   ·rcases List.mem_cons.1 ((h b).2 (List.mem_cons_self ..)) with e | h2
    ·exact e.symm
    ·have := hb a h1
     have := ha b h2;omega
  subst e
  congr 1
  refine asc_one hA' hB' fun x => ?_
  constructor
  ·intro hx
   rcases List.mem_cons.1 ((h x).1 (List.mem_cons_of_mem _ hx)) with rfl | g
   ·have := ha _ hx; omega
   ·exact g
  ·intro hx
   rcases List.mem_cons.1 ((h x).2 (List.mem_cons_of_mem _ hx)) with rfl | g
   ·have := hb _ hx; omega
   ·exact g
def putI (l : List Int) (n : Int) : List Int := (l.filter fun x => decide (x < n)) ++ n :: l.filter fun x => decide (n < x)
theorem putI_mem {l : List Int} {n x : Int} : x ∈ putI l n ↔ x ∈ l ∨ x = n := by
 unfold putI;rw [List.mem_append, List.mem_cons, List.mem_filter, List.mem_filter, decide_eq_true_eq, decide_eq_true_eq]
 constructor
 ·rintro (h | h | h)
  ·exact .inl h.1
  ·exact .inr h
  ·exact .inl h.1
 ·rintro (h | h)
  ·by_cases h1 : x < n
   ·exact .inl ⟨h, h1⟩
   ·by_cases h2 : n < x
    ·exact .inr (.inr ⟨h, h2⟩)
    ·exact .inr (.inl (by omega))
  ·exact .inr (.inl h)
theorem putI_asc {l : List Int} {n : Int} (h : l.Pairwise (· < ·)) : (putI l n).Pairwise (· < ·) := by
 refine List.pairwise_append.2 ⟨h.filter _, List.pairwise_cons.2 ⟨fun x hx => of_decide_eq_true (List.mem_filter.1 hx).2, h.filter _⟩, ?_⟩;intro a ha b hb;have h1 := of_decide_eq_true (List.mem_filter.1 ha).2
 rcases List.mem_cons.1 hb with rfl | hb
 ·exact h1
 ·have := of_decide_eq_true (List.mem_filter.1 hb).2
  omega
theorem putI_of {l k : List Int} {n : Int} (h : l.Pairwise (· < ·)) (hk : k.Pairwise (· < ·)) (hm : ∀ x, x ∈ k ↔ x ∈ l ∨ x = n) : putI l n = k :=
 asc_one (putI_asc h) hk fun x => by rw [putI_mem, hm]
def doneI (l : List Int) (n : Int) (i : Nat) : Bool := (l.take i).any fun x => decide (n ≤ x)
def outI (l : List Int) (n : Int) (i : Nat) : List Int := if doneI l n i then putI (l.take i) n else l.take i
section
variable {l : List Int} {n x : Int} {i : Nat}
theorem doneI_succ (hx : l[i]? = some x) : doneI l n (i + 1) = (doneI l n i || decide (n ≤ x)) := by
 unfold doneI;rw [List.take_add_one, hx, List.any_append]
 simp
theorem asc_snoc (h : l.Pairwise (· < ·)) (hx : l[i]? = some x) : ∀ y, y ∈ l.take i → y < x := by
 intro y hy;obtain ⟨hi, e⟩ := List.getElem?_eq_some_iff.1 hx;obtain ⟨j, hj, rfl⟩ := List.getElem_of_mem hy;rw [List.length_take] at hj;rw [List.getElem_take];have := List.pairwise_iff_getElem.1 h j i (by omega) hi (by omega);omega
theorem asc_take (h : l.Pairwise (· < ·)) (k : Nat) : (l.take k).Pairwise (· < ·) := h.sublist (List.take_sublist _ _)
theorem asc_app {k : List Int} (h : k.Pairwise (· < ·)) (hy : ∀ y, y ∈ k → y < x) : (k ++ [x]).Pairwise (· < ·) :=
 List.pairwise_append.2 ⟨h, by simp, fun a ha b hb => by rw [List.mem_singleton.1 hb]; exact hy a ha⟩
theorem outI_succ (h : l.Pairwise (· < ·)) (hx : l[i]? = some x) :
  outI l n (i + 1) = (if doneI l n i = false ∧ n ≤ x ∧ n < x then outI l n i ++ [n] else outI l n i) ++ [x] := by
 have ht : l.take (i + 1) = l.take i ++ [x] := by rw [List.take_add_one, hx]; rfl
 have hlt := asc_snoc h hx;have hta := asc_take h i;unfold outI;rw [doneI_succ hx]
 cases hd : doneI l n i with
 | true =>
  rw [Bool.true_or, if_pos rfl, if_neg (by simp), if_pos rfl];obtain ⟨y, hy, hyn⟩ := List.any_eq_true.1 hd;have hyn := of_decide_eq_true hyn;have hyx := hlt y hy;refine putI_of (asc_take h (i + 1)) (asc_app (putI_asc hta) fun z hz => ?_) fun z => ?_
  ·rcases putI_mem.1 hz with hz | rfl
   ·exact hlt z hz
   ·omega
  ·rw [ht]
   simp only [List.mem_append, List.mem_singleton, putI_mem]
   constructor
   ·rintro ((a | a) | a)
    ·exact .inl (.inl a)
    ·exact .inr a
    ·exact .inl (.inr a)
   ·rintro ((a | a) | a)
    ·exact .inl (.inl a)
    ·exact .inr a
    ·exact .inl (.inr a)
 | false =>
  rw [Bool.false_or, if_neg Bool.false_ne_true];have hall : ∀ y, y ∈ l.take i → y < n := fun y hy => by
   have := List.any_eq_false.1 hd y hy;rw [decide_eq_true_eq] at this;omega
  by_cases hn : n ≤ x
  ·rw [decide_eq_true hn, if_pos rfl]
   by_cases hnx : n < x
   ·rw [if_pos ⟨rfl, hn, hnx⟩]
    refine putI_of (asc_take h (i + 1)) (asc_app (asc_app hta hall) fun z hz => ?_) fun z => ?_
    ·rcases List.mem_append.1 hz with hz | hz
     ·exact hlt z hz
     ·rw [List.mem_singleton.1 hz]; exact hnx
    ·rw [ht]
     simp only [List.mem_append, List.mem_singleton]
     constructor
     ·rintro ((a | a) | a)
      ·exact .inl (.inl a)
      ·exact .inr a
      ·exact .inl (.inr a)
     ·rintro ((a | a) | a)
      ·exact .inl (.inl a)
      ·exact .inr a
      ·exact .inl (.inr a)
   ·rw [if_neg (by omega)]
    obtain rfl : n = x := by omega
    refine putI_of (asc_take h (i + 1)) (asc_app hta hlt) fun z => ?_
    rw [ht];simp only [List.mem_append, List.mem_singleton, or_assoc, or_self]
  ·rw [decide_eq_false hn, if_neg Bool.false_ne_true, if_neg (by omega), ht]
theorem outI_end (h : l.Pairwise (· < ·)) : (if doneI l n l.length then outI l n l.length else outI l n l.length ++ [n]) = putI l n := by
 unfold outI;rw [List.take_length]
 cases hd : doneI l n l.length with
 | true => rfl
 | false =>
  rw [if_neg Bool.false_ne_true, if_neg Bool.false_ne_true]
  symm
  refine putI_of h (asc_app h fun y hy => ?_) fun z => by simp
  unfold doneI at hd;rw [List.take_length] at hd;have := List.any_eq_false.1 hd y hy;rw [decide_eq_true_eq] at this;omega
end
end Go.Proofs.YtnhomkmfbngmgaaGreatDoor
