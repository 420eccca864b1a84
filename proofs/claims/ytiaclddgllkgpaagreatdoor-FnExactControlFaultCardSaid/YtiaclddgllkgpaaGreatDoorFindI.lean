/-
  A pair is laid, by the program. Conditions: sizes.
-/
import Derived.Test.YtiaclddgllkgpaaGreatDoorTake
import Derived.Deep.CutRange
namespace Go.Proofs.YtiaclddgllkgpaaGreatDoor
open Go.ChangeShapes Go.WideShapes Go.ChangeAt Go.RowKit Go.Sort
set_option linter.unusedVariables false
set_option linter.unusedSimpArgs false

theorem Own.setO {α : Type} {size : Nat} {f : α → List Value} {w : World} {base n c : Nat} {e : TypeId} {A : Option Addr} {l : List α} (h : Own size f w base e A n c l) {p : Addr} {cur : Array Value} {t : TypeId} {z : Nat × Nat} (hb : w.heap[p.block]? = some (.cells cur t z)) (ht : t ≠ e) (u : Value) : Own size f (w.setCell p u) base e A n c l :=
  h.keep fun g hg => Below.heap_setCell _ _ _ _ fun e1 => h.other hb ht (by rw [hg, e1])
theorem PathsW.set {w : World} {base n c : Nat} {A : Option Addr} {H : List (Hd × List ByteArray)} (h : PathsW w base A n c H) {p : Addr} {cur : Array Value} {t : TypeId} {z : Nat × Nat} (hb : w.heap[p.block]? = some (.cells cur t z)) (h1 : t ≠ 22) (h2 : t ≠ 9) (u : Value) : PathsW (w.setCell p u) base A n c H :=
  ⟨h.own.setO hb h1 u, fun r hr => (h.rows r hr).setO hb h2 u⟩

/-- A pair was laid, if it was new. -/
def GotF (base X M : Nat) (v : TV) (A : Option Addr) (n c : Nat) (C : Option Addr) (d : Nat) (R : List PQ) (w : World) (e : Ending) (w' : World) : Prop :=
  ∃ (A' C' : Option Addr) (n' c' d' : Nat) (G' : List (Nat × PR)) (H' : List (Hd × List ByteArray)), e = .returned (.tuple #[]) ∧ TogS w' base X M v A' n' c' G' C' d' H' R ∧ But (TogT X M A n c C d) w w' ∧
    ∀ b, TogT X M A' n' c' C' d' b → TogT X M A n c C d b ∨ w.heap.size ≤ b

set_option maxRecDepth 100000 in
set_option maxHeartbeats 1600000 in
theorem find_calls (base X M bX : Nat) (v : TV) (A C : Option Addr) (n c d : Nat) (G : List (Nat × PR)) (H : List (Hd × List ByteArray)) (R : List PQ) (a b : Int) (Ap : Option Addr) (np cp : Nat) (path : List ByteArray) (w : World)
    (h : TogS w base X M v A n c G C d H R) (hX : w.heap[bX]? = some (.cells #[.pointer (some ⟨X, 0, none⟩)] 112 (0, 0))) (hp : Own 1 strv w base 9 Ap np cp path) (hf : fitP (a, b)) (hn : n ≤ 1600) (hb : base ≤ w.heap.size) :
    Calls Tryz.prog 147 #[.agg #[.int .i64 a, .int .i64 b], .slice Ap np cp, .pointer (some ⟨bX, 0, none⟩)] w (GotF base X M v A n c C d (addP R (a, b) path) w) := by
  have hEs := hide elem_int64S
  have hEp := hide elem_strS
  have hb0 : Below w.heap.size w (w.alloc (.cells #[.int .i64 a, .int .i64 b] 172)) := (Below.refl _ _).alloc (Nat.le_refl _) _
  have kq := heap_alloc_new w (.cells #[.int .i64 a, .int .i64 b] 172)
  have h0 := h.below hb0
  have hX0 := (hb0.block bX (Array.getElem?_eq_some_iff.1 hX).1).trans hX
  have hp0 := hp.below hb0 (Nat.le_refl _)
  have hT0 := hide h.high
  have hb0' := hide hb0
  have hbz := hb0.size
  obtain ⟨f, hm, hfR⟩ := h0.mp
  obtain ⟨cl, hlook, -⟩ := (hm.keep (w' := (w.alloc (.cells #[.int .i64 a, .int .i64 b] 172)).drew) rfl).lookOk hf
  rw [hfR] at hlook
  replace hlook : ∀ (W : World), W = (w.alloc (.cells #[.int .i64 a, .int .i64 b] 172)).drew → (Instr.lookup 114 (.map (some M)) (.agg #[.int .i64 a, .int .i64 b]) true).run Tryz.prog W = .ok (.tuple #[.int .i64 cl, .bool (decide ((a, b) ∈ R.map (·.1)))]) W := fun W hW => by subst hW; exact hlook
  replace hlook := hlook _ rfl
  have c0 : (w.alloc (.cells #[.int .i64 a, .int .i64 b] 172)).cell? ⟨w.heap.size, 0, none⟩ = some (.int .i64 a) := (cell_of_row _ _ 0 _ _ (0, 0) kq).trans rfl
  have c1 : (w.alloc (.cells #[.int .i64 a, .int .i64 b] 172)).cell? ⟨w.heap.size, 1, none⟩ = some (.int .i64 b) := (cell_of_row _ _ 1 _ _ (0, 0) kq).trans rfl
  have x0 : (w.alloc (.cells #[.int .i64 a, .int .i64 b] 172)).cell? ⟨bX, 0, none⟩ = some (.pointer (some ⟨X, 0, none⟩)) := (cell_of_row _ _ 0 _ _ (0, 0) hX0).trans rfl
  have x11 := h0.f11
  have x10 := h0.f10
  replace h0 := hide h0
  replace hX0 := hide hX0
  replace hp0 := hide hp0
  replace hm := hide hm
  replace hfR := hide hfR
  replace kq := hide kq
  have h' := hide h
  clear h hX hp hb0
  by_cases hmem : (a, b) ∈ R.map (·.1)
  · rw [decide_eq_true hmem] at hlook
    have hadd : Hid (addP R (a, b) path = R) := if_pos hmem
    clear hmem
    go_enter Tryz.func147, Tryz.ntmps147
    go_upto_region 1 with fail
    generalize (w.alloc (.cells #[.int .i64 a, .int .i64 b] 172)) = W0 at *
    go_region_held3 (fun w' => w'.cell? ⟨bX, 0, none⟩ = some (.pointer (some ⟨X, 0, none⟩)) ∧ w'.cell? ⟨X, 11, none⟩ = some (.map (some M)) ∧ w'.cell? ⟨w.heap.size, 0, none⟩ = some (.int .i64 a) ∧ w'.cell? ⟨w.heap.size, 1, none⟩ = some (.int .i64 b)) (first | exact ⟨x0, x11, c0, c1⟩ | go_keep) (fail)
    all_goals (go_wp2_with fail)
    all_goals go_end0
    all_goals (
      refine ⟨A, C, n, c, d, G, H, rfl, by rw [hadd.out]; exact h0.out.kept (fun _ _ => rfl), (But.of_below hb0'.out).trans (But.of_below (T := fun _ => False) (Below.refl W0.heap.size W0).drew) (fun x hx => hx.elim), fun b hb => .inl hb⟩)
  · rw [decide_eq_false hmem] at hlook
    have hadd : Hid (addP R (a, b) path = R ++ [((a, b), path)]) := if_neg hmem
    have hmem' := hide hmem
    clear hmem
    go_enter Tryz.func147, Tryz.ntmps147
    go_upto_region 1 with fail
    generalize (w.alloc (.cells #[.int .i64 a, .int .i64 b] 172)) = W0 at *
    go_cut [6] (fun s wx => s = .bool false ∧ wx = W0.drew)
    case first =>
      go_region_held3 (fun w' => w'.cell? ⟨bX, 0, none⟩ = some (.pointer (some ⟨X, 0, none⟩)) ∧ w'.cell? ⟨X, 11, none⟩ = some (.map (some M)) ∧ w'.cell? ⟨w.heap.size, 0, none⟩ = some (.int .i64 a) ∧ w'.cell? ⟨w.heap.size, 1, none⟩ = some (.int .i64 b)) (first | exact ⟨x0, x11, c0, c1⟩ | go_keep) (fail)
      all_goals (go_wp2_with fail; go_meet)
      all_goals exact ⟨rfl, rfl⟩
    case rest =>
    obtain ⟨rfl, rfl⟩ := hcut
    have h1 := hide (h0.out.kept (w' := W0.drew) fun _ _ => rfl)
    have hp1 := hide (hp0.out.below (Below.refl W0.heap.size W0).drew (Nat.le_refl _))
    have kX : Hid (W0.drew.heap[bX]? = some (.cells #[.pointer (some ⟨X, 0, none⟩)] 112 (0, 0))) := hX0.out
    have kQ : Hid (W0.drew.heap[w.heap.size]? = some (.cells #[.int .i64 a, .int .i64 b] 172 (0, 0))) := kq.out
    have hbW : Hid (Below w.heap.size w W0.drew) := hb0'.out.drew
    replace hm : Hid (MapP W0.drew M n f) := hm.out.keep rfl
    replace x0 : W0.drew.cell? ⟨bX, 0, none⟩ = some (.pointer (some ⟨X, 0, none⟩)) := x0
    replace x10 : W0.drew.cell? ⟨X, 10, none⟩ = some (.slice A n c) := x10
    replace x11 : W0.drew.cell? ⟨X, 11, none⟩ = some (.map (some M)) := x11
    replace c0 : W0.drew.cell? ⟨w.heap.size, 0, none⟩ = some (.int .i64 a) := c0
    replace c1 : W0.drew.cell? ⟨w.heap.size, 1, none⟩ = some (.int .i64 b) := c1
    clear h0 hp0 hX0 kq hb0' hbz hlook
    generalize W0.drew = W1 at *
    have hwfn : (Lit.int .i64 (n : Int)).wf = true := WalkArith.wf_i64 (by omega)
    obtain ⟨w1, hu, hm1, hg1⟩ := (hm.out.keep (w' := W1.drew) rfl).update (k := (a, b)) (c := (n : Int)) (by unfold maxLen; omega) hf hwfn
    have neM : ∀ {b : Nat} {cur : Array Value} {t : TypeId} {z : Nat × Nat}, W1.heap[b]? = some (.cells cur t z) → some b ≠ some M := fun hb e => by
      injection e with e
      obtain ⟨es, clock, hm0⟩ := hm.out.map
      rw [e, hm0] at hb
      cases hb
    have kX1 := grown_block hg1 (show W1.drew.heap[bX]? = _ from kX.out) (neM kX.out)
    have kQ1 := grown_block hg1 (show W1.drew.heap[w.heap.size]? = _ from kQ.out) (neM kQ.out)
    have kT1 := grown_block hg1 (show W1.drew.heap[X]? = _ from h1.out.cell) (neM h1.out.cell)
    have gp1 : GrowP w1 base A n c G := ⟨h1.out.gp.own.keep fun g hg => hg1.block g (h1.out.gp.own.lt g hg).2 (by obtain ⟨-, -, cu, hc⟩ := h1.out.gp.own.typed hg; exact neM hc), fun g hg => ⟨(h1.out.gp.rows g hg).1, grown_block hg1 (show W1.drew.heap[g.1]? = _ from (h1.out.gp.rows g hg).2) (neM (h1.out.gp.rows g hg).2)⟩, h1.out.gp.nd⟩
    have ps1 : PathsW w1 base C n d H := ⟨h1.out.ps.own.keep fun g hg => hg1.block g (h1.out.ps.own.lt g hg).2 (by obtain ⟨-, -, cu, hc⟩ := h1.out.ps.own.typed hg; exact neM hc), fun r hr => (h1.out.ps.rows r hr).keep fun g hg => hg1.block g ((h1.out.ps.rows r hr).lt g hg).2 (by obtain ⟨-, -, cu, hc⟩ := (h1.out.ps.rows r hr).typed hg; exact neM hc)⟩
    have hp2 := hp1.out.keep (w' := w1) fun g hg => hg1.block g (hp1.out.lt g hg).2 (by obtain ⟨-, -, cu, hc⟩ := hp1.out.typed hg; exact neM hc)
    have y0 : w1.cell? ⟨bX, 0, none⟩ = some (.pointer (some ⟨X, 0, none⟩)) := (cell_of_row _ _ 0 _ _ (0, 0) kX1).trans rfl
    have y10 : w1.cell? ⟨X, 10, none⟩ = some (.slice A n c) := (cell_of_row _ _ 10 _ _ (0, 0) kT1).trans rfl
    have y11 : w1.cell? ⟨X, 11, none⟩ = some (.map (some M)) := (cell_of_row _ _ 11 _ _ (0, 0) kT1).trans rfl
    have d0 : w1.cell? ⟨w.heap.size, 0, none⟩ = some (.int .i64 a) := (cell_of_row _ _ 0 _ _ (0, 0) kQ1).trans rfl
    have d1 : w1.cell? ⟨w.heap.size, 1, none⟩ = some (.int .i64 b) := (cell_of_row _ _ 1 _ _ (0, 0) kQ1).trans rfl
    have hbut1 : But (TogT X M A n c C d) w w1 := (But.of_below hbW.out).trans (But.of_grown (w := W1) ⟨hg1.os, hg1.tape, hg1.output, hg1.size, hg1.block⟩) fun x hx => .inl (.inr (.inl (Option.some.inj hx)))
    replace hu : (Instr.mapUpdate 114 (.map (some M)) (.agg #[.int .i64 a, .int .i64 b]) (.int .i64 (n : Int))).run Tryz.prog W1.drew = .ok () w1 := hu
    replace kX1 := hide kX1
    replace kQ1 := hide kQ1
    replace kT1 := hide kT1
    replace gp1 := hide gp1
    replace ps1 := hide ps1
    replace hp2 := hide hp2
    replace hm1 := hide hm1
    replace hbut1 := hide hbut1
    have hG1 := hide h1.out.eq
    have hH1 := hide h1.out.eqp
    have hlb := h1.out.lb
    have hmb := h1.out.mb
    clear neM hm kX kQ hbW hp1 hg1 h1
    go_upto_region 3 with fail
    go_cut [6] (fun s wx => wx = w1)
    case first =>
      go_region_held3 (fun w' => w'.cell? ⟨bX, 0, none⟩ = some (.pointer (some ⟨X, 0, none⟩)) ∧ w'.cell? ⟨X, 10, none⟩ = some (.slice A n c) ∧ w'.cell? ⟨X, 11, none⟩ = some (.map (some M)) ∧ w'.cell? ⟨w.heap.size, 0, none⟩ = some (.int .i64 a) ∧ w'.cell? ⟨w.heap.size, 1, none⟩ = some (.int .i64 b)) (first | exact ⟨x0, x10, x11, c0, c1⟩ | exact ⟨y0, y10, y11, d0, d1⟩ | go_keep) (fail)
      all_goals (go_wp2_with fail; go_meet)
      all_goals rfl
    case rest =>
    rw [show wc = w1 from hcut]
    clear hcut x0 x10 x11 c0 c1 y11 hu
    have z1 : (w1.alloc (.cells #[.int .i64 a, .int .i64 b] 2)).heap.size = w1.heap.size + 1 := World.size_alloc _ _
    have z2 : ((w1.alloc (.cells #[.int .i64 a, .int .i64 b] 2)).alloc (.cells #[.slice (some ⟨w1.heap.size, 0, none⟩) 2 2] 26)).heap.size = w1.heap.size + 2 := by rw [World.size_alloc, z1]
    have hbA : Below w1.heap.size w1 ((w1.alloc (.cells #[.int .i64 a, .int .i64 b] 2)).alloc (.cells #[.slice (some ⟨w1.heap.size, 0, none⟩) 2 2] 26)) := ((Below.refl _ _).alloc (Nat.le_refl _) _).alloc (by rw [z1]; omega) _
    have kR := (Below.heap_alloc (w1.alloc (.cells #[.int .i64 a, .int .i64 b] 2)) (.cells #[.slice (some ⟨w1.heap.size, 0, none⟩) 2 2] 26) w1.heap.size (by omega)).trans (heap_alloc_new w1 (.cells #[.int .i64 a, .int .i64 b] 2))
    have gpA := gp1.out.kept (w' := ((w1.alloc (.cells #[.int .i64 a, .int .i64 b] 2)).alloc (.cells #[.slice (some ⟨w1.heap.size, 0, none⟩) 2 2] 26))) hbA.block
    have psA := ps1.out.kept (w' := ((w1.alloc (.cells #[.int .i64 a, .int .i64 b] 2)).alloc (.cells #[.slice (some ⟨w1.heap.size, 0, none⟩) 2 2] 26))) hbA.block
    have hownA : Hid (Own 1 sv ((w1.alloc (.cells #[.int .i64 a, .int .i64 b] 2)).alloc (.cells #[.slice (some ⟨w1.heap.size, 0, none⟩) 2 2] 26)).drew base 26 A n c (G.map hdG)) := gpA.own
    have hlitA : Hid (Sl 1 sv ((w1.alloc (.cells #[.int .i64 a, .int .i64 b] 2)).alloc (.cells #[.slice (some ⟨w1.heap.size, 0, none⟩) 2 2] 26)).drew 0 (w1.heap.size + 1 + 1) (some ⟨w1.heap.size + 1, 0, none⟩) 1 [hdG (w1.heap.size, (a, b))]) := Sl.drew (Sl.lit1' (w1.alloc (.cells #[.int .i64 a, .int .i64 b] 2)) 26 (hdG (w1.heap.size, (a, b))) _ rfl 1 (w1.heap.size + 1) z1.symm)
    have hsz : (n + 1) * 24 ≤ 140737488355328 := by omega
    have hza : Hid (base ≤ ((w1.alloc (.cells #[.int .i64 a, .int .i64 b] 2)).alloc (.cells #[.slice (some ⟨w1.heap.size, 0, none⟩) 2 2] 26)).drew.heap.size) := by show base ≤ ((w1.alloc (.cells #[.int .i64 a, .int .i64 b] 2)).alloc (.cells #[.slice (some ⟨w1.heap.size, 0, none⟩) 2 2] 26)).heap.size; have := hbut1.out.size; omega
    have yA := alloc_some (o := (.cells #[.int .i64 a, .int .i64 b] 2)) y10
    have yB := alloc_some (o := (.cells #[.slice (some ⟨w1.heap.size, 0, none⟩) 2 2] 26)) yA
    have xA := alloc_some (o := (.cells #[.int .i64 a, .int .i64 b] 2)) y0
    have xB := alloc_some (o := (.cells #[.slice (some ⟨w1.heap.size, 0, none⟩) 2 2] 26)) xA
    have dA0 := alloc_some (o := (.cells #[.int .i64 a, .int .i64 b] 2)) d0
    have dB0 := alloc_some (o := (.cells #[.slice (some ⟨w1.heap.size, 0, none⟩) 2 2] 26)) dA0
    have dA1 := alloc_some (o := (.cells #[.int .i64 a, .int .i64 b] 2)) d1
    have dB1 := alloc_some (o := (.cells #[.slice (some ⟨w1.heap.size, 0, none⟩) 2 2] 26)) dA1
    replace kR := hide kR
    replace gpA := hide gpA
    replace psA := hide psA
    replace hbA := hide hbA
    replace z1 := hide z1
    replace z2 := hide z2
    go_upto_region 4 with fail
    go_cut [6] (fun s wx => ∃ (A7 : Option Addr) (c7 : Nat) (w7 : World), wx = w7.setCell ⟨X, 10, none⟩ (.slice A7 (n + 1) c7) ∧ Own 1 sv w7 base 26 A7 (n + 1) c7 (G.map hdG ++ [hdG (w1.heap.size, (a, b))]) ∧ ((w1.alloc (.cells #[.int .i64 a, .int .i64 b] 2)).alloc (.cells #[.slice (some ⟨w1.heap.size, 0, none⟩) 2 2] 26)).grownBy w7 (Value.slice A n c).ownBlock ∧ ((Value.slice A7 (n + 1) c7).ownBlock = (Value.slice A n c).ownBlock ∨ (Value.slice A7 (n + 1) c7).ownBlock = some ((w1.alloc (.cells #[.int .i64 a, .int .i64 b] 2)).alloc (.cells #[.slice (some ⟨w1.heap.size, 0, none⟩) 2 2] 26)).heap.size))
    case first =>
      refine lateT_begin (S := fun w' => w'.cell? ⟨bX, 0, none⟩ = some (.pointer (some ⟨X, 0, none⟩)) ∧ w'.cell? ⟨X, 10, none⟩ = some (.slice A n c) ∧ w'.cell? ⟨w.heap.size, 0, none⟩ = some (.int .i64 a) ∧ w'.cell? ⟨w.heap.size, 1, none⟩ = some (.int .i64 b)) (st := 14) (by kernel_rfl) ?_
      have hS0 : (fun w' : World => w'.cell? ⟨bX, 0, none⟩ = some (.pointer (some ⟨X, 0, none⟩)) ∧ w'.cell? ⟨X, 10, none⟩ = some (.slice A n c) ∧ w'.cell? ⟨w.heap.size, 0, none⟩ = some (.int .i64 a) ∧ w'.cell? ⟨w.heap.size, 1, none⟩ = some (.int .i64 b)) w1.drew := ⟨y0, y10, d0, d1⟩
      refine lateT_take (i := 0) (oi := _) (v := ?_) [14] rfl (by kernel_rfl) (by kernel_rfl) (by kernel_rfl) (by kernel_rfl) (fun _ _ _ h => h) (Or.inl ⟨by rfl, ?hy⟩) hS0 ?_
      case hy => (intro w hSw; (try dsimp only at hSw); go_simp <;> with_reducible rfl)
      (try simp only [Act.put, List.setIfInBounds_toArray, List.set_cons_zero, List.set_cons_succ])
      refine lateT_take (i := 1) (oi := _) (v := ?_) [14] rfl (by kernel_rfl) (by kernel_rfl) (by kernel_rfl) (by kernel_rfl) (fun _ _ _ h => h) (Or.inl ⟨by rfl, ?hy⟩) hS0 ?_
      case hy => (intro w hSw; (try dsimp only at hSw); go_simp <;> with_reducible rfl)
      (try simp only [Act.put, List.setIfInBounds_toArray, List.set_cons_zero, List.set_cons_succ])
      refine lateT_take (i := 2) (oi := _) (v := ?_) [14] rfl (by kernel_rfl) (by kernel_rfl) (by kernel_rfl) (by kernel_rfl) (fun _ _ _ h => h) (Or.inl ⟨by rfl, ?hy⟩) hS0 ?_
      case hy => (intro w hSw; (try dsimp only at hSw); go_simp <;> with_reducible rfl)
      (try simp only [Act.put, List.setIfInBounds_toArray, List.set_cons_zero, List.set_cons_succ])
      refine lateT_take (i := 3) (oi := _) (v := ?_) [14] rfl (by kernel_rfl) (by kernel_rfl) (by kernel_rfl) (by kernel_rfl) (fun _ _ _ h => h) (Or.inl ⟨by rfl, ?hy⟩) hS0 ?_
      case hy => (intro w hSw; (try dsimp only at hSw); go_simp <;> with_reducible rfl)
      (try simp only [Act.put, List.setIfInBounds_toArray, List.set_cons_zero, List.set_cons_succ])
      refine lateT_take (i := 4) (oi := _) (v := ?_) [14] rfl (by kernel_rfl) (by kernel_rfl) (by kernel_rfl) (by kernel_rfl) (fun _ _ _ h => h) (Or.inl ⟨by rfl, ?hy⟩) hS0 ?_
      case hy => (intro w hSw; (try dsimp only at hSw); go_simp <;> with_reducible rfl)
      (try simp only [Act.put, List.setIfInBounds_toArray, List.set_cons_zero, List.set_cons_succ])
      refine lateT_take (i := 5) (oi := _) (v := ?_) [14] rfl (by kernel_rfl) (by kernel_rfl) (by kernel_rfl) (by kernel_rfl) (fun _ _ _ h => h) (Or.inl ⟨by rfl, ?hy⟩) hS0 ?_
      case hy => (intro w hSw; (try dsimp only at hSw); go_simp <;> with_reducible rfl)
      (try simp only [Act.put, List.setIfInBounds_toArray, List.set_cons_zero, List.set_cons_succ])
      refine lateT_take (i := 6) (oi := _) (v := ?_) [14] rfl (by kernel_rfl) (by kernel_rfl) (by kernel_rfl) (by kernel_rfl) (fun _ _ _ h => h) (Or.inl ⟨by rfl, ?hy⟩) hS0 ?_
      case hy => (intro w hSw; (try dsimp only at hSw); go_simp <;> with_reducible rfl)
      (try simp only [Act.put, List.setIfInBounds_toArray, List.set_cons_zero, List.set_cons_succ])
      refine lateT_take (i := 7) (oi := _) (v := ?_) [14] rfl (by kernel_rfl) (by kernel_rfl) (by kernel_rfl) (by kernel_rfl) (fun _ _ _ h => h) (Or.inl ⟨by rfl, ?hy⟩) hS0 ?_
      case hy => (intro w hSw; (try dsimp only at hSw); go_simp <;> with_reducible rfl)
      (try simp only [Act.put, List.setIfInBounds_toArray, List.set_cons_zero, List.set_cons_succ])
      refine lateT_take (i := 8) (oi := _) (v := ?_) [14] rfl (by kernel_rfl) (by kernel_rfl) (by kernel_rfl) (by kernel_rfl) (fun _ _ _ h => h) (Or.inl ⟨by rfl, ?hy⟩) hS0 ?_
      case hy => (intro w hSw; (try dsimp only at hSw); go_simp <;> with_reducible rfl)
      (try simp only [Act.put, List.setIfInBounds_toArray, List.set_cons_zero, List.set_cons_succ])
      refine lateT_step (i := 9) (by kernel_rfl) rfl (fun K hK => ?_)
      go_simp
      refine hK.out _ _ (fun _ => ⟨xA, yA, dA0, dA1⟩) ?_
      clear hK K
      (try simp only [Act.put, List.setIfInBounds_toArray, List.set_cons_zero, List.set_cons_succ])
      refine lateT_step (i := 10) (by kernel_rfl) rfl (fun K hK => ?_)
      go_simp
      refine hK.out _ _ (fun _ => ⟨xB, yB, dB0, dB1⟩) ?_
      clear hK K
      (try simp only [Act.put, List.setIfInBounds_toArray, List.set_cons_zero, List.set_cons_succ])
      refine lateT_step (i := 11) (by kernel_rfl) rfl (fun K hK => ?_)
      refine step_app (d := 1) (by rfl) (.tmp 32) (.tmp 38) (by rfl) hEs.out flat_sv (by go_simp) hownA.out (by go_simp) hlitA.out hsz hza.out ?_
      intro A7 c7 w7 hown7 hgr7 hb7 hat7
      have hgr8 : ((w1.alloc (.cells #[.int .i64 a, .int .i64 b] 2)).alloc (.cells #[.slice (some ⟨w1.heap.size, 0, none⟩) 2 2] 26)).grownBy w7 (Value.slice A n c).ownBlock := ⟨hgr7.os, hgr7.tape, hgr7.output, hgr7.size, hgr7.block⟩
      have kX7 := grown_block hgr8 ((hbA.out.block _ (Array.getElem?_eq_some_iff.1 kX1.out).1).trans kX1.out) (gpA.out.own.other ((hbA.out.block _ (Array.getElem?_eq_some_iff.1 kX1.out).1).trans kX1.out) (by decide))
      have kQ7 := grown_block hgr8 ((hbA.out.block _ (Array.getElem?_eq_some_iff.1 kQ1.out).1).trans kQ1.out) (gpA.out.own.other ((hbA.out.block _ (Array.getElem?_eq_some_iff.1 kQ1.out).1).trans kQ1.out) (by decide))
      have kT7 := grown_block hgr8 ((hbA.out.block _ (Array.getElem?_eq_some_iff.1 kT1.out).1).trans kT1.out) (gpA.out.own.other ((hbA.out.block _ (Array.getElem?_eq_some_iff.1 kT1.out).1).trans kT1.out) (by decide))
      have e0 : w7.cell? ⟨bX, 0, none⟩ = some (.pointer (some ⟨X, 0, none⟩)) := (cell_of_row _ _ 0 _ _ (0, 0) kX7).trans rfl
      have f0 : w7.cell? ⟨w.heap.size, 0, none⟩ = some (.int .i64 a) := (cell_of_row _ _ 0 _ _ (0, 0) kQ7).trans rfl
      have f1 : w7.cell? ⟨w.heap.size, 1, none⟩ = some (.int .i64 b) := (cell_of_row _ _ 1 _ _ (0, 0) kQ7).trans rfl
      have t10 : w7.cell? ⟨X, 10, none⟩ = some (.slice A n c) := (cell_of_row _ _ 10 _ _ (0, 0) kT7).trans rfl
      have z10 : w7.frozen? ⟨X, 10, none⟩ = false := frozen_of_row _ _ 10 _ _ kT7
      replace kX7 := hide kX7
      replace kQ7 := hide kQ7
      replace kT7 := hide kT7
      replace hown7 := hide hown7
      replace hgr8 := hide hgr8
      replace hat7 := hide hat7
      clear hgr7 hb7
      refine hK.out _ _ (fun _ => ⟨e0, t10, f0, f1⟩) ?_
      clear hK K
      (try simp only [Act.put, List.setIfInBounds_toArray, List.set_cons_zero, List.set_cons_succ])
      refine lateT_step (i := 12) (by kernel_rfl) rfl (fun K hK => ?_)
      go_simp
      refine hK.out _ _ (fun _ => ⟨e0, t10, f0, f1⟩) ?_
      clear hK K
      (try simp only [Act.put, List.setIfInBounds_toArray, List.set_cons_zero, List.set_cons_succ])
      refine lateT_step (i := 13) (by kernel_rfl) rfl (fun K hK => ?_)
      go_simp
      refine hK.out _ _ (fun _ => ⟨e0, t10, f0, f1⟩) ?_
      clear hK K
      (try simp only [Act.put, List.setIfInBounds_toArray, List.set_cons_zero, List.set_cons_succ])
      refine lateT_step (i := 14) (by kernel_rfl) rfl (fun K hK => ?_)
      go_simp
      refine hK.out _ _ (fun h => absurd rfl h) ?_
      clear hK K
      (try simp only [Act.put, List.setIfInBounds_toArray, List.set_cons_zero, List.set_cons_succ])
      refine lateT_done (by kernel_rfl) ?_ _
      go_wp2_with fail
      go_meet
      exact ⟨A7, c7, w7, rfl, hown7.out, hgr8.out, hat7.out⟩
    case rest =>
    obtain ⟨A7, c7, w7, e7, hown7, hgr7, hat7⟩ := hcut
    rw [e7]
    clear e7 y0 y10 d0 d1 xA xB yA yB dA0 dA1 dB0 dB1 hza hownA hlitA
    have kT7 := grown_block hgr7 ((hbA.out.block _ (Array.getElem?_eq_some_iff.1 kT1.out).1).trans kT1.out) (gpA.out.own.other ((hbA.out.block _ (Array.getElem?_eq_some_iff.1 kT1.out).1).trans kT1.out) (by decide))
    have kX7 := grown_block hgr7 ((hbA.out.block _ (Array.getElem?_eq_some_iff.1 kX1.out).1).trans kX1.out) (gpA.out.own.other ((hbA.out.block _ (Array.getElem?_eq_some_iff.1 kX1.out).1).trans kX1.out) (by decide))
    have hfresh : w1.heap.size ∉ G.map (·.1) := fun hh => by
      obtain ⟨x, hx, ex⟩ := List.mem_map.1 hh
      have := (Array.getElem?_eq_some_iff.1 (gp1.out.rows x hx).2).1
      omega
    have hbase1 : base ≤ w1.heap.size := Nat.le_trans hb (hbut1.out.size)
    have gp7 := (gp1.out.kept (w' := (w1.alloc (.cells #[.int .i64 a, .int .i64 b] 2))) fun b hb => Below.heap_alloc _ _ _ hb).push (g := (w1.heap.size, (a, b))) (heap_alloc_new w1 (.cells #[.int .i64 a, .int .i64 b] 2)) hbase1 hfresh hown7 hgr7
    have ps7 := psA.out.grown gpA.out.own (by decide) (by decide) hgr7
    have hp7 := (hp2.out.below hbA.out (Nat.le_refl _)).kept hgr7 ((hp2.out.below hbA.out (Nat.le_refl _)).apart gpA.out.own (by decide))
    have hmA := hm1.out.keep (w' := ((w1.alloc (.cells #[.int .i64 a, .int .i64 b] 2)).alloc (.cells #[.slice (some ⟨w1.heap.size, 0, none⟩) 2 2] 26))) (hbA.out.block M hm1.out.lt)
    have hm7 := hmA.kept hgr7 fun e => by
      obtain ⟨-, -, cu, hc⟩ := gpA.out.own.typed e.symm
      obtain ⟨es, clock, hm0⟩ := hmA.map
      rw [hm0] at hc
      cases hc
    have neMX : M ≠ X := fun e => by
      obtain ⟨es, clock, hm0⟩ := hm7.map
      rw [e, kT7] at hm0
      cases hm0
    have neXX : bX ≠ X := fun e => by rw [e, kT7] at kX7; injection kX7 with h1; injection h1 with _ h1; exact absurd h1 (by decide)
    have hgx : ∀ x, some x = (Value.slice A n c).ownBlock → TogT X M A n c C d x := fun x hx => .inr (.inr (.inl hx.symm))
    have hbut7 : But (TogT X M A n c C d) w (w7.setCell ⟨X, 10, none⟩ (.slice A7 (n + 1) c7)) :=
      (((hbut1.out).trans (But.of_below (T := fun _ => False) hbA.out) fun x hx => hx.elim).trans (But.of_grown hgr7) fun x hx => .inl (hgx x hx)).trans (But.set w7 ⟨X, 10, none⟩ _) fun x hx => .inl (.inl hx)
    have hA7 : ∀ g, (Value.slice A7 (n + 1) c7).ownBlock = some g → TogT X M A n c C d g ∨ w.heap.size ≤ g := fun g hg => by
      rcases hat7 with h1 | h1
      · exact .inl (.inr (.inr (.inl (by rw [← h1]; exact hg))))
      · rw [h1] at hg
        injection hg with hg
        have h2 := z2.out
        have h3 := hbut1.out.size
        exact .inr (by omega)
    have kT9 := hide (heap_setCell_same _ _ 10 _ _ (.slice A7 (n + 1) c7) kT7)
    have kX9 := hide ((Below.heap_setCell w7 ⟨X, 10, none⟩ (.slice A7 (n + 1) c7) bX neXX).trans kX7)
    have gp9 := hide (gp7.set (p := ⟨X, 10, none⟩) kT7 (by decide) (by decide) (.slice A7 (n + 1) c7))
    have ps9 := hide (ps7.set (p := ⟨X, 10, none⟩) kT7 (by decide) (by decide) (.slice A7 (n + 1) c7))
    have hp9 := hide (hp7.setO (p := ⟨X, 10, none⟩) kT7 (by decide) (.slice A7 (n + 1) c7))
    have hm9 := hide (hm7.keep (w' := w7.setCell ⟨X, 10, none⟩ (.slice A7 (n + 1) c7)) (Below.heap_setCell _ _ _ _ neMX))
    replace hbut7 := hide hbut7
    replace hA7 := hide hA7
    clear kT7 kX7 gp7 ps7 hp7 hmA hm7 hgr7 hown7 hat7 hgx hbut1 gp1 ps1 hp2 hm1 kX1 kT1 kQ1 gpA psA hbA kR z1 z2 hfresh
    generalize w7.setCell ⟨X, 10, none⟩ (.slice A7 (n + 1) c7) = w9 at *
    have x9 : w9.cell? ⟨bX, 0, none⟩ = some (.pointer (some ⟨X, 0, none⟩)) := (cell_of_row _ _ 0 _ _ (0, 0) kX9.out).trans rfl
    have c12 : w9.cell? ⟨X, 12, none⟩ = some (.slice C n d) := (cell_of_row _ _ 12 _ _ (0, 0) kT9.out).trans rfl
    have hbB : Below w9.heap.size w9 (w9.alloc (.cells #[.slice Ap np cp] 22)) := (Below.refl _ _).alloc (Nat.le_refl _) _
    have psB := ps9.out.kept (w' := (w9.alloc (.cells #[.slice Ap np cp] 22))) hbB.block
    have hownB : Hid (Own 1 sv (w9.alloc (.cells #[.slice Ap np cp] 22)).drew base 22 C n d (H.map (·.1))) := psB.own
    have hlitB : Hid (Sl 1 sv (w9.alloc (.cells #[.slice Ap np cp] 22)).drew 0 (w9.heap.size + 1) (some ⟨w9.heap.size, 0, none⟩) 1 [(Ap, np, cp)]) := Sl.drew (Sl.lit1' w9 22 (Ap, np, cp) _ rfl 1 w9.heap.size rfl)
    have hzb : Hid (base ≤ (w9.alloc (.cells #[.slice Ap np cp] 22)).drew.heap.size) := by show base ≤ (w9.alloc (.cells #[.slice Ap np cp] 22)).heap.size; have := hbut7.out.size; rw [World.size_alloc]; omega
    replace hbB := hide hbB
    replace psB := hide psB
    go_upto_region 5 with fail
    refine lateT_begin (S := fun w' => w'.cell? ⟨bX, 0, none⟩ = some (.pointer (some ⟨X, 0, none⟩)) ∧ w'.cell? ⟨X, 12, none⟩ = some (.slice C n d)) (st := 10) (by kernel_rfl) ?_
    have hS0 : (fun w' : World => w'.cell? ⟨bX, 0, none⟩ = some (.pointer (some ⟨X, 0, none⟩)) ∧ w'.cell? ⟨X, 12, none⟩ = some (.slice C n d)) w9.drew := ⟨x9, c12⟩
    refine lateT_take (i := 0) (oi := _) (v := ?_) [10] rfl (by kernel_rfl) (by kernel_rfl) (by kernel_rfl) (by kernel_rfl) (fun _ _ _ h => h) (Or.inl ⟨by rfl, ?hy⟩) hS0 ?_
    case hy => (intro w hSw; (try dsimp only at hSw); go_simp <;> with_reducible rfl)
    (try simp only [Act.put, List.setIfInBounds_toArray, List.set_cons_zero, List.set_cons_succ])
    refine lateT_take (i := 1) (oi := _) (v := ?_) [10] rfl (by kernel_rfl) (by kernel_rfl) (by kernel_rfl) (by kernel_rfl) (fun _ _ _ h => h) (Or.inl ⟨by rfl, ?hy⟩) hS0 ?_
    case hy => (intro w hSw; (try dsimp only at hSw); go_simp <;> with_reducible rfl)
    (try simp only [Act.put, List.setIfInBounds_toArray, List.set_cons_zero, List.set_cons_succ])
    refine lateT_take (i := 2) (oi := _) (v := ?_) [10] rfl (by kernel_rfl) (by kernel_rfl) (by kernel_rfl) (by kernel_rfl) (fun _ _ _ h => h) (Or.inl ⟨by rfl, ?hy⟩) hS0 ?_
    case hy => (intro w hSw; (try dsimp only at hSw); go_simp <;> with_reducible rfl)
    (try simp only [Act.put, List.setIfInBounds_toArray, List.set_cons_zero, List.set_cons_succ])
    refine lateT_take (i := 3) (oi := _) (v := ?_) [10] rfl (by kernel_rfl) (by kernel_rfl) (by kernel_rfl) (by kernel_rfl) (fun _ _ _ h => h) (Or.inl ⟨by rfl, ?hy⟩) hS0 ?_
    case hy => (intro w hSw; (try dsimp only at hSw); go_simp <;> with_reducible rfl)
    (try simp only [Act.put, List.setIfInBounds_toArray, List.set_cons_zero, List.set_cons_succ])
    refine lateT_take (i := 4) (oi := _) (v := ?_) [10] rfl (by kernel_rfl) (by kernel_rfl) (by kernel_rfl) (by kernel_rfl) (fun _ _ _ h => h) (Or.inl ⟨by rfl, ?hy⟩) hS0 ?_
    case hy => (intro w hSw; (try dsimp only at hSw); go_simp <;> with_reducible rfl)
    (try simp only [Act.put, List.setIfInBounds_toArray, List.set_cons_zero, List.set_cons_succ])
    refine lateT_take (i := 5) (oi := _) (v := ?_) [10] rfl (by kernel_rfl) (by kernel_rfl) (by kernel_rfl) (by kernel_rfl) (fun _ _ _ h => h) (Or.inl ⟨by rfl, ?hy⟩) hS0 ?_
    case hy => (intro w hSw; (try dsimp only at hSw); go_simp <;> with_reducible rfl)
    (try simp only [Act.put, List.setIfInBounds_toArray, List.set_cons_zero, List.set_cons_succ])
    refine lateT_step (i := 6) (by kernel_rfl) rfl (fun K hK => ?_)
    go_simp
    refine hK.out _ _ (fun _ => ⟨alloc_some x9, alloc_some c12⟩) ?_
    clear hK K
    (try simp only [Act.put, List.setIfInBounds_toArray, List.set_cons_zero, List.set_cons_succ])
    refine lateT_step (i := 7) (by kernel_rfl) rfl (fun K hK => ?_)
    refine step_app (d := 1) (by rfl) (.tmp 46) (.tmp 48) (by rfl) hEp.out flat_sv (by go_simp) hownB.out (by go_simp) hlitB.out hsz hzb.out ?_
    intro A8 c8 w10 hown10 hgr9 hb10 hat10
    have hgr10 : (w9.alloc (.cells #[.slice Ap np cp] 22)).grownBy w10 (Value.slice C n d).ownBlock := ⟨hgr9.os, hgr9.tape, hgr9.output, hgr9.size, hgr9.block⟩
    have kX10 := grown_block hgr10 ((hbB.out.block _ (Array.getElem?_eq_some_iff.1 kX9.out).1).trans kX9.out) (psB.out.own.other ((hbB.out.block _ (Array.getElem?_eq_some_iff.1 kX9.out).1).trans kX9.out) (by decide))
    have kT10 := grown_block hgr10 ((hbB.out.block _ (Array.getElem?_eq_some_iff.1 kT9.out).1).trans kT9.out) (psB.out.own.other ((hbB.out.block _ (Array.getElem?_eq_some_iff.1 kT9.out).1).trans kT9.out) (by decide))
    have e0 : w10.cell? ⟨bX, 0, none⟩ = some (.pointer (some ⟨X, 0, none⟩)) := (cell_of_row _ _ 0 _ _ (0, 0) kX10).trans rfl
    have t12 : w10.cell? ⟨X, 12, none⟩ = some (.slice C n d) := (cell_of_row _ _ 12 _ _ (0, 0) kT10).trans rfl
    have z12 : w10.frozen? ⟨X, 12, none⟩ = false := frozen_of_row _ _ 12 _ _ kT10
    replace kX10 := hide kX10
    replace kT10 := hide kT10
    replace hown10 := hide hown10
    replace hgr10 := hide hgr10
    replace hat10 := hide hat10
    clear hgr9 hb10
    refine hK.out _ _ (fun _ => ⟨e0, t12⟩) ?_
    clear hK K
    (try simp only [Act.put, List.setIfInBounds_toArray, List.set_cons_zero, List.set_cons_succ])
    refine lateT_step (i := 8) (by kernel_rfl) rfl (fun K hK => ?_)
    go_simp
    refine hK.out _ _ (fun _ => ⟨e0, t12⟩) ?_
    clear hK K
    (try simp only [Act.put, List.setIfInBounds_toArray, List.set_cons_zero, List.set_cons_succ])
    refine lateT_step (i := 9) (by kernel_rfl) rfl (fun K hK => ?_)
    go_simp
    refine hK.out _ _ (fun _ => ⟨e0, t12⟩) ?_
    clear hK K
    (try simp only [Act.put, List.setIfInBounds_toArray, List.set_cons_zero, List.set_cons_succ])
    refine lateT_step (i := 10) (by kernel_rfl) rfl (fun K hK => ?_)
    go_simp
    refine hK.out _ _ (fun h => absurd rfl h) ?_
    clear hK K
    (try simp only [Act.put, List.setIfInBounds_toArray, List.set_cons_zero, List.set_cons_succ])
    refine lateT_done (by kernel_rfl) ?_ _
    replace hown10 := hown10.out
    replace hgr10 := hgr10.out
    replace hat10 := hat10.out
    clear x9 c12 hS0 e0 t12 z12 kX10 kT10
    have kT10 := grown_block hgr10 ((hbB.out.block _ (Array.getElem?_eq_some_iff.1 kT9.out).1).trans kT9.out) (psB.out.own.other ((hbB.out.block _ (Array.getElem?_eq_some_iff.1 kT9.out).1).trans kT9.out) (by decide))
    have gp10 := (gp9.out.kept (w' := (w9.alloc (.cells #[.slice Ap np cp] 22))) fun b hb => Below.heap_alloc _ _ _ hb).grown psB.out.own (by decide) (by decide) hgr10
    have ps10 := psB.out.push (r := ((Ap, np, cp), path)) (hp9.out.below hbB.out (Nat.le_refl _)) hown10 hgr10
    have hmB := hm9.out.keep (w' := (w9.alloc (.cells #[.slice Ap np cp] 22))) (hbB.out.block M hm9.out.lt)
    have hm10 := hmB.kept hgr10 fun e => by
      obtain ⟨-, -, cu, hc⟩ := psB.out.own.typed e.symm
      obtain ⟨es, clock, hm0⟩ := hmB.map
      rw [hm0] at hc
      cases hc
    have kT11 := heap_setCell_same _ _ 12 _ _ (.slice A8 (n + 1) c8) kT10
    have gp11 := gp10.set (p := ⟨X, 12, none⟩) kT10 (by decide) (by decide) (.slice A8 (n + 1) c8)
    have ps11 := ps10.set (p := ⟨X, 12, none⟩) kT10 (by decide) (by decide) (.slice A8 (n + 1) c8)
    have hm11 := hm10.keep (w' := w10.setCell ⟨X, 12, none⟩ (.slice A8 (n + 1) c8)) (Below.heap_setCell _ _ _ _ neMX)
    have hfin : GotF base X M v A n c C d (addP R (a, b) path) w (.returned (.tuple #[])) (w10.setCell ⟨X, 12, none⟩ (.slice A8 (n + 1) c8)) := by
      rw [hadd.out]
      refine ⟨A7, A8, n + 1, c7, c8, _, _, rfl, ⟨hlb, kT11, gp11, ps11, ⟨_, hm11, fun q => ?_⟩, hmb, ?_, ?_⟩, ?_, ?_⟩
      · rw [List.map_append]
        by_cases e : q = (a, b)
        · rw [if_pos e, decide_eq_true (by rw [e]; simp)]
          rfl
        · rw [if_neg e, hfR.out]
          congr 1
          simp [e]
      · rw [List.map_append, List.map_append, hG1.out]
        rfl
      · rw [List.map_append, List.map_append, hH1.out]
        rfl
      · exact (((hbut7.out).trans (But.of_below (T := fun _ => False) hbB.out) fun x hx => hx.elim).trans (But.of_grown hgr10) fun x hx => .inl (.inr (.inr (.inr hx.symm)))).trans (But.set w10 ⟨X, 12, none⟩ _) fun x hx => .inl (.inl hx)
      · intro x hx
        rcases hx with rfl | rfl | hx | hx
        · exact .inl (.inl rfl)
        · exact .inl (.inr (.inl rfl))
        · exact hA7.out x hx
        · rcases hat10 with h1 | h1
          · exact .inl (.inr (.inr (.inr (by rw [← h1]; exact hx))))
          · have h5 : some (w9.alloc (.cells #[.slice Ap np cp] 22)).heap.size = some x := h1.symm.trans hx
            rw [World.size_alloc] at h5
            injection h5 with h5
            have h3 := hbut7.out.size
            exact .inr (by omega)
    clear kT10 gp10 ps10 hmB hm10 kT11 gp11 ps11 hm11 hown10 hgr10 hat10 hbut7 hA7 kT9 kX9 gp9 ps9 hp9 hm9 hbB psB hownB hlitB hzb
    replace hfin := hide hfin
    go_wp2_with fail
    go_end0
    exact hfin.out

end Go.Proofs.YtiaclddgllkgpaaGreatDoor
