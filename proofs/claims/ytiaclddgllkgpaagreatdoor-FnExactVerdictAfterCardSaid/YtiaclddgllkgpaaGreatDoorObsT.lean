/-
  A table that is settled, by the program. Conditions: sizes.
-/
import Derived.Test.YtiaclddgllkgpaaGreatDoorObsS
import Derived.Deep.LoopGhost
namespace Go.Proofs.YtiaclddgllkgpaaGreatDoor
open Go.ChangeShapes Go.WideShapes Go.ChangeAt Go.RowKit Go.Sort
set_option linter.unusedVariables false
set_option linter.unusedSimpArgs false

theorem Sv_alloc {w : World} {o : Obj} {a : Addr} {v : Value} (h : w.cell? a = some v) : (w.alloc o).cell? a = some v := (World.cell?_alloc_some w a o (by rw [h]; rfl)).trans h
theorem info_boolS : (Tryz.prog.info? 132).map (fun i => (i.zero, i.size, i.bytes)) = some (some (.slice none 0 0), 1, 24) := by kernel_rfl
theorem run_make_mat (n : Nat) (hn : n ≤ 1048576) (W : World) : (Instr.makeSlice 137 (.int .i64 (n : Int)) (.int .i64 (n : Int))).run Tryz.prog W = .ok (.slice (some ⟨W.heap.size, 0, none⟩) n n) (W.alloc (.cells (madeCells #[.slice none 0 0] n) 132)) := by
  obtain ⟨i0, hi0, hz0, hz1, hz2⟩ := info_parts info_boolS
  have h := make_row (P := Tryz.prog) 137 132 i0 _ _ n Tryz.underlying137 hi0 hz0 hz1 (by rw [hz2]; omega) (by omega) W
  rw [Nat.mul_one] at h
  exact h

/-- The first k rows of a table are made. -/
def MatF (w : World) (b0 n p k : Nat) (b : Bool) : Prop :=
  ∃ (cur : Array Value) (f g : Nat → Nat), w.heap[b0]? = some (.cells cur 132 (0, 0)) ∧ cur.size = n ∧
    (∀ i, i < k → cur[i]? = some (.slice (some ⟨f i, g i, none⟩) p p) ∧ b0 + 1 < f i ∧ f i < w.heap.size ∧ SlB w (f i) (f i + 1) (some ⟨f i, g i, none⟩) p (List.replicate p b)) ∧ ∀ i j, i < j → j < k → f i < f j
theorem MatF.cell {w : World} {b0 n p k : Nat} {b : Bool} (h : MatF w b0 n p k b) {i : Nat} (hi : i < n) : b0 < w.heap.size ∧ (∃ u, w.cell? ⟨b0, i, none⟩ = some u) ∧ w.frozen? ⟨b0, i, none⟩ = false := by
  obtain ⟨cur, f, g, h1, h2, -⟩ := h
  exact ⟨(Array.getElem?_eq_some_iff.1 h1).1, ⟨cur[i]'(by omega), (cell_of_row _ _ i _ _ (0, 0) h1).trans (Array.getElem?_eq_getElem _)⟩, frozen_of_row _ _ i _ _ h1⟩
theorem MatF.step {w w5 : World} {b0 n p k b5 o5 : Nat} {b : Bool} (h : MatF w b0 n p k b) (hb : Below w.heap.size w w5) (hS : SlB w5 w.heap.size w5.heap.size (some ⟨b5, o5, none⟩) p (List.replicate p b)) (g1 : w.heap.size ≤ b5) (g2 : b5 < w5.heap.size) (g3 : b0 + 1 < w.heap.size) (hk : k < n) (hp : 0 < p) :
    MatF (w5.setCell ⟨b0, k, none⟩ (.slice (some ⟨b5, o5, none⟩) p p)) b0 n p (k + 1) b := by
  obtain ⟨cur, f, g, h1, h2, h3, h4⟩ := h
  have h1' : w5.heap[b0]? = some (.cells cur 132 (0, 0)) := (hb.block b0 (by omega)).trans h1
  refine ⟨cur.setIfInBounds k (.slice (some ⟨b5, o5, none⟩) p p), fun i => if i = k then b5 else f i, fun i => if i = k then o5 else g i, heap_setCell_same _ _ _ _ _ _ h1', by rw [Array.size_setIfInBounds]; exact h2, fun i hi => ?_, fun i j hij hj => ?_⟩
  · have keep : ∀ c, b0 + 1 < c → (w5.setCell ⟨b0, k, none⟩ (.slice (some ⟨b5, o5, none⟩) p p)).heap[c]? = w5.heap[c]? := fun c hc => Below.heap_setCell _ _ _ _ (show c ≠ b0 by omega)
    by_cases e : i = k
    · subst e
      simp only [if_pos]
      refine ⟨by rw [Array.getElem?_setIfInBounds_self_of_lt (by omega)], by omega, by rw [World.size_setCell]; exact g2, ?_⟩
      refine ⟨hS.1, fun hp' => ?_⟩
      obtain ⟨c, o, e1, -, -, q3, q4⟩ := hS.2 hp'
      injection e1 with e1
      injection e1 with e1 e2
      subst e1 e2
      refine ⟨b5, o5, rfl, Nat.le_refl _, by omega, by rw [World.size_setCell]; exact q3, fun a x hx j u hu => ?_⟩
      obtain ⟨q5, q6⟩ := q4 a x hx j u hu
      exact ⟨(World.cell?_of_block (w := w5) (by simpa using keep b5 (by omega))).trans q5, (World.frozen?_of_block (w := w5) (by simpa using keep b5 (by omega))).trans q6⟩
    · simp only [if_neg e]
      obtain ⟨q1, q2, q3, q4⟩ := h3 i (by omega)
      refine ⟨by rw [Array.getElem?_setIfInBounds_ne (fun e' => e e'.symm)]; exact q1, q2, by rw [World.size_setCell]; have := hb.size; omega, ?_⟩
      exact (q4.below hb (.inr (Nat.le_refl _))).keep (by rw [World.size_setCell]; exact Nat.le_refl _) fun c c1 c2 c3 => keep c (by omega)
  · by_cases e : j = k
    · subst e
      have := (h3 i (by omega)).2.2.1
      simp only [if_pos]
      rw [if_neg (by omega)]
      omega
    · simp only [if_neg e]
      rw [if_neg (by omega)]
      exact h4 i j hij (by omega)
theorem MatF.done {w : World} {b0 n p lo : Nat} {b : Bool} (h : MatF w b0 n p n b) (hl : lo ≤ b0) : MatAt w lo b0 n p (fillM n p b) := by
  obtain ⟨cur, f, g, h1, h2, h3, h4⟩ := h
  refine ⟨fillM_sh _ _ _, hl, (Array.getElem?_eq_some_iff.1 h1).1, f, g, fun i hi => ?_, h4, fun i r hr => ?_⟩
  · obtain ⟨q1, q2, q3, q4⟩ := h3 i hi
    exact ⟨q2, q3, (cell_of_row _ _ i _ _ (0, 0) h1).trans q1⟩
  · have hi : i < n := by have := (List.getElem?_eq_some_iff.1 hr).1; simpa [fillM] using this
    have he : r = List.replicate p b := List.eq_of_mem_replicate (List.mem_of_getElem? hr)
    subst he
    exact (h3 i hi).2.2.2

/-- The table while it is settled, at a pair. -/
structure SetW (w wr : World) (b : Bool) (n p b0 bm N x y : Nat) (F : Rel2 → Rel2) (a : Bool) (M : List (List Bool)) : Prop where
  mat : MatAt wr w.heap.size b0 n p M
  si : SetI b n p F M
  cl : a = false → ClosedTo b p F M x y
  cnt : cntM b M + a.toNat ≤ N
  bel : Below w.heap.size w wr
  km : wr.heap[bm]? = some (.cells #[.slice (some ⟨b0, 0, none⟩) n n] 137 (0, 0))
  bmb : bm = b0 + 1
section
variable {w wr w' : World} {b a : Bool} {n p b0 bm N x y : Nat} {F : Rel2 → Rel2} {M : List (List Bool)}
theorem SetW.same (h : SetW w wr b n p b0 bm N x y F a M) (hb : Below wr.heap.size wr w') : SetW w w' b n p b0 bm N x y F a M :=
  ⟨h.mat.below hb, h.si, h.cl, h.cnt, h.bel.trans (hb.mono h.bel.size), (hb.block _ (Array.getElem?_eq_some_iff.1 h.km).1).trans h.km, h.bmb⟩
theorem SetW.skip (h : SetW w wr b n p b0 bm N x y F a M) (hn : F (ChM b M) (x : Int) (y : Int) → ChM b M (x : Int) (y : Int)) : SetW w wr b n p b0 bm N x (y + 1) F a M :=
  ⟨h.mat, h.si, fun e => (h.cl e).next hn, h.cnt, h.bel, h.km, h.bmb⟩
theorem SetW.row (h : SetW w wr b n p b0 bm N x p F a M) : SetW w wr b n p b0 bm N (x + 1) 0 F a M :=
  ⟨h.mat, h.si, fun e => (h.cl e).row, h.cnt, h.bel, h.km, h.bmb⟩
theorem SetW.again (h : SetW w wr b n p b0 bm (N + 1) x y F true M) : SetW w wr b n p b0 bm N 0 0 F false M :=
  ⟨h.mat, h.si, fun _ => ClosedTo.start _ _ _ _, by have := h.cnt; simp only [Bool.toNat_true, Bool.toNat_false] at this ⊢; omega, h.bel, h.km, h.bmb⟩
theorem SetW.hit (h : SetW w wr b n p b0 bm N x y F a M) (hm : MonoF F) (hx : x < n) (hg : getM M x y = some b) (hF : F (ChM b M) (x : Int) (y : Int)) {b5 o5 : Nat} (hb5 : b0 + 1 < b5) (hmat : MatAt (wr.setCell ⟨b5, o5, none⟩ (.bool (!b))) w.heap.size b0 n p (setM M x y (!b))) :
    SetW w (wr.setCell ⟨b5, o5, none⟩ (.bool (!b))) b n p b0 bm N x (y + 1) F true (setM M x y (!b)) := by
  have hl := h.mat.lb
  refine ⟨hmat, h.si.change hm hx hg hF, (fun e => by cases e), ?_, h.bel.setCell (by show _ ≤ b5; omega) _, (Below.heap_setCell _ _ _ _ (show bm ≠ b5 by have := h.bmb; omega)).trans h.km, h.bmb⟩
  have h1 := cntM_set hg
  have h2 := h.cnt
  simp only [Bool.toNat_true]
  omega
end

set_option maxRecDepth 100000 in
set_option maxHeartbeats 3200000 in
theorem settle_calls (n p : Nat) (s0 s1 : Int) (A2 : Option Addr) (n2 k2 : Nat) (A3 : Option Addr) (n3 k3 : Nat) (r0 r1 : Int) (B2 : Option Addr) (m2 j2 : Nat) (B3 : Option Addr) (m3 j3 : Nat) (lt : List ByteArray) (et : List Ed) (lp : List ByteArray) (ep : List Ed) (b : Bool) (Fc : FuncId) (cc : Array Value) (F : Rel2 → Rel2) (w : World) (hns : s0 = (n : Int)) (hpr : r0 = (p : Int)) (hn0 : 0 < n) (hn1 : n ≤ 1000) (hp0 : 0 < p) (hp1 : p ≤ 1000) (hmono : MonoF F)
    (hF : ∀ (v u h : Value) (W : World), Sem.run Tryz.prog (callFunc Fc (#[v, u, h] ++ cc)) W = .ok (.enter Fc (#[v, u, h] ++ cc)) W)
    (hcl : ∀ (bm b0 : Nat) (M : List (List Bool)) (x y : Nat) (W : World), Below w.heap.size w W → W.heap[bm]? = some (.cells #[.slice (some ⟨b0, 0, none⟩) n n] 137 (0, 0)) → MatAt W w.heap.size b0 n p M → x < n → y < p →
      Calls Tryz.prog Fc (#[.int .i64 (x : Int), .int .i64 (y : Int), .func (.func 213) #[] #[.pointer (some ⟨bm, 0, none⟩)]] ++ cc) W fun e W' => ∃ a : Bool, e = .returned (.bool a) ∧ (a = true ↔ F (ChM b M) (x : Int) (y : Int)) ∧ Below W.heap.size W W') :
    Calls Tryz.prog 186 #[(.agg #[.int .i64 s0, .int .i64 s1, .slice A2 n2 k2, .slice A3 n3 k3, .int .i64 r0, .int .i64 r1, .slice B2 m2 j2, .slice B3 m3 j3]), .bool b, .func (.func Fc) #[] cc] w fun e w' => ∃ b0 M, e = .returned (.slice (some ⟨b0, 0, none⟩) n n) ∧ MatAt w' w.heap.size b0 n p M ∧ (∀ x y, ChM b M x y ↔ Lf (RgN n p) F x y) ∧ Below w.heap.size w w' := by
  subst hns hpr
  have hmk := run_make_mat n (by omega)
  have z1 : (w.alloc (.cells #[.int .i64 (n : Int), .int .i64 s1, .slice A2 n2 k2, .slice A3 n3 k3, .int .i64 (p : Int), .int .i64 r1, .slice B2 m2 j2, .slice B3 m3 j3] 141)).heap.size = w.heap.size + 1 := World.size_alloc _ _
  have z2 : ((w.alloc (.cells #[.int .i64 (n : Int), .int .i64 s1, .slice A2 n2 k2, .slice A3 n3 k3, .int .i64 (p : Int), .int .i64 r1, .slice B2 m2 j2, .slice B3 m3 j3] 141)).alloc (.cells (madeCells #[.slice none 0 0] n) 132)).heap.size = w.heap.size + 1 + 1 := by rw [World.size_alloc, z1]
  have z3 : (((w.alloc (.cells #[.int .i64 (n : Int), .int .i64 s1, .slice A2 n2 k2, .slice A3 n3 k3, .int .i64 (p : Int), .int .i64 r1, .slice B2 m2 j2, .slice B3 m3 j3] 141)).alloc (.cells (madeCells #[.slice none 0 0] n) 132)).alloc (.cells #[.slice (some ⟨w.heap.size + 1, 0, none⟩) n n] 137)).heap.size = w.heap.size + 1 + 1 + 1 := by rw [World.size_alloc, z2]
  have hb3 : Below w.heap.size w (((w.alloc (.cells #[.int .i64 (n : Int), .int .i64 s1, .slice A2 n2 k2, .slice A3 n3 k3, .int .i64 (p : Int), .int .i64 r1, .slice B2 m2 j2, .slice B3 m3 j3] 141)).alloc (.cells (madeCells #[.slice none 0 0] n) 132)).alloc (.cells #[.slice (some ⟨w.heap.size + 1, 0, none⟩) n n] 137)) := (((Below.refl _ _).alloc (Nat.le_refl _) _).alloc (by omega) _).alloc (by omega) _
  have km := heap_alloc_new ((w.alloc (.cells #[.int .i64 (n : Int), .int .i64 s1, .slice A2 n2 k2, .slice A3 n3 k3, .int .i64 (p : Int), .int .i64 r1, .slice B2 m2 j2, .slice B3 m3 j3] 141)).alloc (.cells (madeCells #[.slice none 0 0] n) 132)) (.cells #[.slice (some ⟨w.heap.size + 1, 0, none⟩) n n] 137)
  rw [z2] at km
  have k0 := heap_alloc_new (w.alloc (.cells #[.int .i64 (n : Int), .int .i64 s1, .slice A2 n2 k2, .slice A3 n3 k3, .int .i64 (p : Int), .int .i64 r1, .slice B2 m2 j2, .slice B3 m3 j3] 141)) (.cells (madeCells #[.slice none 0 0] n) 132)
  rw [z1] at k0
  replace k0 := (Below.heap_alloc ((w.alloc (.cells #[.int .i64 (n : Int), .int .i64 s1, .slice A2 n2 k2, .slice A3 n3 k3, .int .i64 (p : Int), .int .i64 r1, .slice B2 m2 j2, .slice B3 m3 j3] 141)).alloc (.cells (madeCells #[.slice none 0 0] n) 132)) (.cells #[.slice (some ⟨w.heap.size + 1, 0, none⟩) n n] 137) (w.heap.size + 1) (by omega)).trans k0
  have kO := ((Below.heap_alloc ((w.alloc (.cells #[.int .i64 (n : Int), .int .i64 s1, .slice A2 n2 k2, .slice A3 n3 k3, .int .i64 (p : Int), .int .i64 r1, .slice B2 m2 j2, .slice B3 m3 j3] 141)).alloc (.cells (madeCells #[.slice none 0 0] n) 132)) (.cells #[.slice (some ⟨w.heap.size + 1, 0, none⟩) n n] 137) w.heap.size (by omega)).trans (Below.heap_alloc (w.alloc (.cells #[.int .i64 (n : Int), .int .i64 s1, .slice A2 n2 k2, .slice A3 n3 k3, .int .i64 (p : Int), .int .i64 r1, .slice B2 m2 j2, .slice B3 m3 j3] 141)) (.cells (madeCells #[.slice none 0 0] n) 132) w.heap.size (by omega))).trans (heap_alloc_new w (.cells #[.int .i64 (n : Int), .int .i64 s1, .slice A2 n2 k2, .slice A3 n3 k3, .int .i64 (p : Int), .int .i64 r1, .slice B2 m2 j2, .slice B3 m3 j3] 141))
  have hmf : Hid (MatF (((w.alloc (.cells #[.int .i64 (n : Int), .int .i64 s1, .slice A2 n2 k2, .slice A3 n3 k3, .int .i64 (p : Int), .int .i64 r1, .slice B2 m2 j2, .slice B3 m3 j3] 141)).alloc (.cells (madeCells #[.slice none 0 0] n) 132)).alloc (.cells #[.slice (some ⟨w.heap.size + 1, 0, none⟩) n n] 137)) (w.heap.size + 1) n p 0 b) :=
    ⟨_, fun _ => 0, fun _ => 0, k0, by simp [madeCells], fun i hi => by omega, fun i j _ hj => by omega⟩
  have kO' : Hid ((((w.alloc (.cells #[.int .i64 (n : Int), .int .i64 s1, .slice A2 n2 k2, .slice A3 n3 k3, .int .i64 (p : Int), .int .i64 r1, .slice B2 m2 j2, .slice B3 m3 j3] 141)).alloc (.cells (madeCells #[.slice none 0 0] n) 132)).alloc (.cells #[.slice (some ⟨w.heap.size + 1, 0, none⟩) n n] 137)).heap[w.heap.size]? = some (.cells #[.int .i64 (n : Int), .int .i64 s1, .slice A2 n2 k2, .slice A3 n3 k3, .int .i64 (p : Int), .int .i64 r1, .slice B2 m2 j2, .slice B3 m3 j3] 141 (0, 0))) := kO
  have km' : Hid ((((w.alloc (.cells #[.int .i64 (n : Int), .int .i64 s1, .slice A2 n2 k2, .slice A3 n3 k3, .int .i64 (p : Int), .int .i64 r1, .slice B2 m2 j2, .slice B3 m3 j3] 141)).alloc (.cells (madeCells #[.slice none 0 0] n) 132)).alloc (.cells #[.slice (some ⟨w.heap.size + 1, 0, none⟩) n n] 137)).heap[w.heap.size + 1 + 1]? = some (.cells #[.slice (some ⟨w.heap.size + 1, 0, none⟩) n n] 137 (0, 0))) := km
  have hb3' := hide hb3
  have z3' := hide z3
  have hnI : (0 : Int) < (n : Int) := by omega
  replace hmono := hide hmono
  replace hcl := hide hcl
  clear k0 kO km hb3 z1 z2 z3
  go_enter Tryz.func186, Tryz.ntmps186
  go_upto_region 3 with fail
  generalize (((w.alloc (.cells #[.int .i64 (n : Int), .int .i64 s1, .slice A2 n2 k2, .slice A3 n3 k3, .int .i64 (p : Int), .int .i64 r1, .slice B2 m2 j2, .slice B3 m3 j3] 141)).alloc (.cells (madeCells #[.slice none 0 0] n) 132)).alloc (.cells #[.slice (some ⟨w.heap.size + 1, 0, none⟩) n n] 137)) = W3 at *
  clear hmk
  go_loopg [19] n (fun g i wr => ∃ k : Nat, k ≤ n ∧ i = .int .i64 (k : Nat) ∧ Hid (MatF wr (w.heap.size + 1) n p k b) ∧ Hid (wr.heap[w.heap.size]? = some (.cells #[.int .i64 (n : Int), .int .i64 s1, .slice A2 n2 k2, .slice A3 n3 k3, .int .i64 (p : Int), .int .i64 r1, .slice B2 m2 j2, .slice B3 m3 j3] 141 (0, 0))) ∧ Hid (wr.heap[w.heap.size + 1 + 1]? = some (.cells #[.slice (some ⟨w.heap.size + 1, 0, none⟩) n n] 137 (0, 0))) ∧ Below w.heap.size w wr ∧ Hid (n - k ≤ g))
  case atStart => exact ⟨0, Nat.zero_le _, rfl, hmf, kO', km', hb3'.out, by show _ ≤ _; omega⟩
  case round =>
    clear hmf kO' km' hb3' z3'
    obtain ⟨k, hk, rfl, hmf, kO, km, hb, hG⟩ := hrel
    have hbm : w.heap.size + 1 + 1 < wr.heap.size := (Array.getElem?_eq_some_iff.1 km.out).1
    have x1 : wr.cell? ⟨w.heap.size + 1 + 1, 0, none⟩ = some (.slice (some ⟨w.heap.size + 1, 0, none⟩) n n) := (cell_of_row _ _ 0 _ _ (0, 0) km.out).trans rfl
    have x2 : wr.cell? ⟨w.heap.size, 4, none⟩ = some (.int .i64 (p : Int)) := (cell_of_row _ _ 4 _ _ (0, 0) kO.out).trans rfl
    by_cases hlt : k < n
    · obtain ⟨G2, rfl⟩ : ∃ G2, gk = G2 + 1 := ⟨gk - 1, by have := hG.out; omega⟩
      have hG2 : Hid (n - (k + 1) ≤ G2) := by have := hG.out; show _ ≤ _; omega
      have hI0 : (0 : Int) ≤ (k : Int) := by omega
      have hI1 : (k : Int) < (n : Int) := by omega
      have hI2 : (0 : Int) ≤ (p : Int) := by omega
      obtain ⟨hb0w, ⟨u0, hu0⟩, hf0⟩ := MatF.cell hmf.out hlt
      have hbL : Below wr.heap.size wr (wr.alloc (.cells #[.bool b] 4)).drew := ((Below.refl _ _).alloc (Nat.le_refl _) _).drew
      have q := hide (repeatB_calls (some ⟨wr.heap.size, 0, none⟩) 1 b p (wr.alloc (.cells #[.bool b] 4)).drew 0 (wr.heap.size + 1) (Sl.drew (Sl.lit1' wr 4 b _ rfl 1 _ rfl)) hp0 (by omega))
      have hzL : (wr.alloc (.cells #[.bool b] 4)).drew.heap.size = wr.heap.size + 1 := World.size_alloc _ _
      have l1 := Sv_alloc (o := .cells #[.bool b] 4) x1
      have l2 := Sv_alloc (o := .cells #[.bool b] 4) x2
      have hbL' := hide hbL
      have hbz := hbL.size
      replace hzL := hide hzL
      clear hbL
      go_upto_region 5 with fail
      go_region_held3 (fun w' => w'.cell? ⟨w.heap.size + 1 + 1, 0, none⟩ = some (.slice (some ⟨w.heap.size + 1, 0, none⟩) n n) ∧ w'.cell? ⟨w.heap.size, 4, none⟩ = some (.int .i64 (p : Int))) (first | exact ⟨x1, x2⟩ | exact ⟨l1, l2⟩ | exact ⟨y1, y2⟩ | exact ⟨t1, t2⟩ | go_keep)
        (first | (go_at_call 212; (with_reducible refine q.out.mono ?_); rintro e w5 ⟨A5, rfl, h5, hb5⟩; obtain ⟨b5, o5, rfl, g1, g2, g3, -⟩ := h5.at_ hp0; have hbw := hbL'.out.trans (hb5.mono hbz); have y1 := (hbw.cell (p := ⟨w.heap.size + 1 + 1, 0, none⟩) hbm).trans x1; have y2 := (hbw.cell (p := ⟨w.heap.size, 4, none⟩) (Nat.lt_of_le_of_lt (Nat.le_add_right _ 2) hbm)).trans x2; have v0 := (hbw.cell (p := ⟨w.heap.size + 1, k, none⟩) hb0w).trans hu0; have v1 := (hbw.frozen (p := ⟨w.heap.size + 1, k, none⟩) hb0w).trans hf0; have hsv := Sav.set w5 ⟨w.heap.size + 1, k, none⟩ (.slice (some ⟨b5, o5, none⟩) p p); have t1 := hsv.cell y1 (Nat.lt_of_lt_of_le hbm hbw.size) (show w.heap.size + 1 + 1 ≠ w.heap.size + 1 by omega); have t2 := hsv.cell y2 (Nat.lt_of_lt_of_le (Nat.lt_of_le_of_lt (Nat.le_add_right _ 2) hbm) hbw.size) (show w.heap.size ≠ w.heap.size + 1 by omega); replace h5 := hide h5; replace hbw := hide hbw; replace hsv := hide hsv; clear hb5))
      have hmf' : Hid (MatF (w5.setCell ⟨w.heap.size + 1, k, none⟩ (.slice (some ⟨b5, o5, none⟩) p p)) (w.heap.size + 1) n p (k + 1) b) := MatF.step hmf.out hbw.out (h5.out.more (Nat.le_trans (Nat.le_succ _) (by have := hzL.out; omega)) (Nat.le_refl _)) (by have := hzL.out; omega) g2 hbm hlt hp0
      have kO5 : Hid ((w5.setCell ⟨w.heap.size + 1, k, none⟩ (.slice (some ⟨b5, o5, none⟩) p p)).heap[w.heap.size]? = some (.cells #[.int .i64 (n : Int), .int .i64 s1, .slice A2 n2 k2, .slice A3 n3 k3, .int .i64 (p : Int), .int .i64 r1, .slice B2 m2 j2, .slice B3 m3 j3] 141 (0, 0))) := hsv.out.kept ((hbw.out.block _ (by omega)).trans kO.out) (show w.heap.size ≠ w.heap.size + 1 by omega)
      have km5 : Hid ((w5.setCell ⟨w.heap.size + 1, k, none⟩ (.slice (some ⟨b5, o5, none⟩) p p)).heap[w.heap.size + 1 + 1]? = some (.cells #[.slice (some ⟨w.heap.size + 1, 0, none⟩) n n] 137 (0, 0))) := hsv.out.kept ((hbw.out.block _ (by omega)).trans km.out) (show w.heap.size + 1 + 1 ≠ w.heap.size + 1 by omega)
      have hb5 := hide ((hb.trans (hbw.out.mono hb.size)).trans (hsv.out.below (B := w.heap.size) (by show _ ≤ w.heap.size + 1; omega) (by have := hbw.out.size; have := hb.size; omega)))
      clear hmf kO km hbw h5 hb q l1 l2 x1 x2 y1 y2 t1 t2 v0 v1 hu0 hf0
      go_wp2_with fail
      go_roundg G2
      case measure => omega
      case rel => exact ⟨k + 1, by omega, by go_num, hmf', kO5, km5, hb5.out, hG2⟩
    · have hkn : k = n := by omega
      subst hkn
      have hst : Hid (SetW w wr b k p (w.heap.size + 1) (w.heap.size + 1 + 1) (cntM b (fillM k p b) + 1) k 0 F true (fillM k p b)) :=
        ⟨hmf.out.done (Nat.le_succ _), SetI.start _ _ _ _, (fun e => by cases e), by simp, hb, km.out, rfl⟩
      clear hmf kO km hb hG x1 x2
      go_upto_region 9 with fail
      go_loopg [10] (cntM b (fillM k p b) + 1) (fun N a wr => ∃ (M : List (List Bool)) (aa : Bool), a = .bool aa ∧ Hid (SetW w wr b k p (w.heap.size + 1) (w.heap.size + 1 + 1) N k 0 F aa M))
      case atStart => exact ⟨_, true, rfl, hst⟩
      case round =>
        clear hst
        obtain ⟨M, aa, rfl, hst⟩ := hrel
        have x1 : wr.cell? ⟨w.heap.size + 1 + 1, 0, none⟩ = some (.slice (some ⟨w.heap.size + 1, 0, none⟩) k k) := (cell_of_row _ _ 0 _ _ (0, 0) hst.out.km).trans rfl
        cases aa with
        | false =>
          go_wp2_with fail
          go_ret
          exact ⟨_, M, rfl, hst.out.mat, hst.out.si.done (hst.out.cl rfl), hst.out.bel⟩
        | true =>
          obtain ⟨N, rfl⟩ : ∃ N, gk = N + 1 := ⟨gk - 1, by have := hst.out.cnt; simp only [Bool.toNat_true] at this; omega⟩
          have hs1 := hide hst.out.again
          clear hst
          go_upto_region 12 with fail
          clear x1
          go_loopg [10, 36] k (fun g a i wr => ∃ (x : Nat) (M : List (List Bool)) (aa : Bool), x ≤ k ∧ a = .bool aa ∧ i = .int .i64 (x : Nat) ∧ Hid (SetW w wr b k p (w.heap.size + 1) (w.heap.size + 1 + 1) N x 0 F aa M) ∧ Hid (k - x ≤ g))
          case atStart => exact ⟨0, M, false, Nat.zero_le _, rfl, rfl, hs1, by show _ ≤ _; omega⟩
          case round =>
            clear hs1
            obtain ⟨x, M, aa, hx, rfl, rfl, hst, hG⟩ := hrel
            by_cases hxl : x < k
            · obtain ⟨G2, rfl⟩ : ∃ G2, gk = G2 + 1 := ⟨gk - 1, by have := hG.out; omega⟩
              have hG2 : Hid (k - (x + 1) ≤ G2) := by have := hG.out; show _ ≤ _; omega
              have hI0 : (0 : Int) ≤ (x : Int) := by omega
              have hI1 : (x : Int) < (k : Int) := by omega
              have x1 : wr.cell? ⟨w.heap.size + 1 + 1, 0, none⟩ = some (.slice (some ⟨w.heap.size + 1, 0, none⟩) k k) := (cell_of_row _ _ 0 _ _ (0, 0) hst.out.km).trans rfl
              obtain ⟨b5, o5, c5, -, -, -, r1, -, -, -⟩ := hst.out.mat.get hxl hp0
              go_upto_region 15 with fail
              clear x1 r1 hG
              go_loopg [10, 44] p (fun g a i wr => ∃ (y : Nat) (M : List (List Bool)) (aa : Bool), y ≤ p ∧ a = .bool aa ∧ i = .int .i64 (y : Nat) ∧ Hid (SetW w wr b k p (w.heap.size + 1) (w.heap.size + 1 + 1) N x y F aa M) ∧ Hid (p - y ≤ g))
              case atStart => exact ⟨0, M, aa, Nat.zero_le _, rfl, rfl, hst, by show _ ≤ _; omega⟩
              case round =>
                clear hst
                obtain ⟨y, M, aa, hy, rfl, rfl, hst, hG⟩ := hrel
                by_cases hyl : y < p
                · obtain ⟨G3, rfl⟩ : ∃ G3, gk = G3 + 1 := ⟨gk - 1, by have := hG.out; omega⟩
                  have hG3 : Hid (p - (y + 1) ≤ G3) := by have := hG.out; show _ ≤ _; omega
                  have hJ0 : (0 : Int) ≤ (y : Int) := by omega
                  have hJ1 : (y : Int) < (p : Int) := by omega
                  have x1 : wr.cell? ⟨w.heap.size + 1 + 1, 0, none⟩ = some (.slice (some ⟨w.heap.size + 1, 0, none⟩) k k) := (cell_of_row _ _ 0 _ _ (0, 0) hst.out.km).trans rfl
                  obtain ⟨b5, o5, c5, hg5, g5, -, r1, r2, -, -⟩ := hst.out.mat.get hxl hyl
                  by_cases hcb : c5 = b
                  · subst hcb
                    have q := hcl.out (w.heap.size + 1 + 1) (w.heap.size + 1) M x y wr hst.out.bel hst.out.km hst.out.mat hxl hyl
                    by_cases hFx : F (ChM c5 M) (x : Int) (y : Int)
                    · have q' := hide (q.mono (R' := fun e W' => e = .returned (.bool true) ∧ Below wr.heap.size wr W') fun e W' h => by
                        obtain ⟨a, h1, h2, h3⟩ := h
                        rw [h2.2 hFx] at h1
                        exact ⟨h1, h3⟩)
                      have hFx' := hide hFx
                      have hg5' := hide hg5
                      clear q hFx hg5
                      go_wp2_with (first | (refine q'.out.mono ?_; rintro e w5 ⟨rfl, hb5⟩; have hs5 := hst.out.same hb5; have m1 : w5.cell? ⟨w.heap.size + 1 + 1, 0, none⟩ = some (.slice (some ⟨w.heap.size + 1, 0, none⟩) k k) := (cell_of_row _ _ 0 _ _ (0, 0) hs5.km).trans rfl; obtain ⟨b7, o7, c7, hg7, g7, -, m2, m3, m4, m5⟩ := hs5.mat.get hxl hyl; have hs7 := hide (hs5.hit hmono.out hxl hg5'.out hFx'.out g7 (m5 (!c5))); clear hs5 hg7 m5 hb5))
                      clear hst
                      go_roundg G3
                      case measure => omega
                      case rel => exact ⟨y + 1, _, true, by omega, rfl, by go_num, hs7, hG3⟩
                    · have q' := hide (q.mono (R' := fun e W' => e = .returned (.bool false) ∧ Below wr.heap.size wr W') fun e W' h => by
                        obtain ⟨a, h1, h2, h3⟩ := h
                        have : a = false := Bool.eq_false_iff.2 fun e => hFx (h2.1 e)
                        rw [this] at h1
                        exact ⟨h1, h3⟩)
                      have hFx' := hide hFx
                      clear q hFx hg5
                      go_wp2_with (first | (refine q'.out.mono ?_; rintro e w5 ⟨rfl, hb5⟩; have hs5 := hide ((hst.out.same hb5).skip fun h => absurd h hFx'.out); clear hb5))
                      clear hst
                      go_roundg G3
                      case measure => omega
                      case rel => exact ⟨y + 1, _, aa, by omega, rfl, by go_num, hs5, hG3⟩
                  · have hne : (c5 == b) = false := by rw [beq_eq_false_iff_ne]; exact hcb
                    have hs5 := hide (hst.out.skip fun _ => ⟨by omega, by omega, by rw [Int.toNat_natCast, Int.toNat_natCast, hg5]; cases c5 <;> cases b <;> simp_all⟩)
                    clear hst hg5
                    go_wp2_with fail
                    go_roundg G3
                    case measure => omega
                    case rel => exact ⟨y + 1, _, aa, by omega, rfl, by go_num, hs5, hG3⟩
                · have hyp : y = p := by omega
                  subst hyp
                  have hs5 := hide hst.out.row
                  clear hst
                  go_wp2_with fail
                  go_roundg G2
                  case measure => omega
                  case rel => exact ⟨x + 1, _, aa, by omega, rfl, by go_num, hs5, hG2⟩
            · have hxk : x = k := by omega
              subst hxk
              go_wp2_with fail
              go_roundg N
              case measure => omega
              case rel => exact ⟨_, aa, rfl, hst⟩

end Go.Proofs.YtiaclddgllkgpaaGreatDoor
