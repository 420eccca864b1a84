/-
  The reference's tests of systems. Conditions: sizes.
-/
import Derived.Test.YtiaclddgllkgpaaGreatDoorLtsS
import Derived.IntWalk
namespace Go.Proofs.YtiaclddgllkgpaaGreatDoor
open Go.ChangeShapes Go.WideShapes Go.ChangeAt Go.RowKit Go.Sort
set_option linter.unusedVariables false

theorem same_regrown {f : FuncId} {args : Array Value} {w : World} {v : Value} (h : ∀ W, Calls Tryz.prog f args W fun e w' => e = .returned v ∧ W = w') (d : Nat) (os : Array Obj) :
    Calls Tryz.prog f args (grow (redrawn w d) os) fun e w'' => e = .returned v ∧ ∃ p : Regrown, w'' = grow (redrawn w p.d) p.os := (h _).mono fun _ _ ⟨a, b⟩ => ⟨a, ⟨d, os⟩, b.symm⟩

/-- A system at a known address. -/
def LtsAt (w : World) (bt : Nat) (x : CL) (d : DL) : Prop := ReadL w 0 w.heap.size x d ∧ totL d ≤ 1048576 ∧ bt < w.heap.size ∧ w.cell? ⟨bt, 0, none⟩ = some (.int .i64 x.1) ∧ w.cell? ⟨bt, 1, none⟩ = some (.int .i64 x.2.1) ∧ w.cell? ⟨bt, 2, none⟩ = some x.2.2.1 ∧ w.cell? ⟨bt, 3, none⟩ = some x.2.2.2
theorem LtsAt.below {w w' : World} {bt B : Nat} {x : CL} {d : DL} (h : LtsAt w bt x d) (hb : Below B w w') (hB : w.heap.size ≤ B) : LtsAt w' bt x d := by
  obtain ⟨h1, h2, h3, c0, c1, c2, c3⟩ := h
  have hs := hb.size
  exact ⟨(h1.below hb (.inr hB)).more (Nat.le_refl _) hs, h2, by omega, (hb.cell (p := ⟨bt, 0, none⟩) (by show bt < B; omega)).trans c0, (hb.cell (p := ⟨bt, 1, none⟩) (by show bt < B; omega)).trans c1, (hb.cell (p := ⟨bt, 2, none⟩) (by show bt < B; omega)).trans c2, (hb.cell (p := ⟨bt, 3, none⟩) (by show bt < B; omega)).trans c3⟩

set_option maxHeartbeats 800000 in
theorem l11Less_calls (b1 o1 b2 o2 : Nat) (x1 x2 x3 y1 y2 y3 : Int) (w : World)
    (c0 : w.cell? ⟨b1, o1, none⟩ = some (.int .i64 x1)) (c1 : w.cell? ⟨b1, o1 + 1, none⟩ = some (.int .i64 x2)) (c2 : w.cell? ⟨b1, o1 + 2, none⟩ = some (.int .i64 x3))
    (d0 : w.cell? ⟨b2, o2, none⟩ = some (.int .i64 y1)) (d1 : w.cell? ⟨b2, o2 + 1, none⟩ = some (.int .i64 y2)) (d2 : w.cell? ⟨b2, o2 + 2, none⟩ = some (.int .i64 y3)) :
    Calls Tryz.prog 153 #[.pointer (some ⟨b1, o1, none⟩), .pointer (some ⟨b2, o2, none⟩)] w fun e w' => e = .returned (.bool (edLess (x1, x2, x3) (y1, y2, y3))) ∧ ∃ m, w' = w.drewN m := by
  by_cases h1 : x1 = y1
  · subst h1
    by_cases h2 : x2 = y2
    · subst h2
      have hv : Hid (edLess (x1, x2, x3) (x1, x2, y3) = decide (x3 < y3)) := by show _ = _; simp [edLess]
      go_enter Tryz.func153, Tryz.ntmps153
      go_wp2
      go_quiet (fail)
      go_wp2
      go_quiet (fail)
      go_wp2
      go_quiet (fail)
      go_wp2
      go_ret
      exact ⟨ret_b (by rw [hv.out]), _, by rw [World.drewN_drewN, World.drewN_drewN]⟩
    · have hv : Hid (edLess (x1, x2, x3) (x1, y2, y3) = decide (x2 < y2)) := by show _ = _; simp [edLess, h2]
      have hq : (x2 != y2) = true := by simpa using h2
      clear h2
      go_enter Tryz.func153, Tryz.ntmps153
      go_wp2
      go_quiet (fail)
      go_wp2
      go_quiet (fail)
      go_wp2
      go_quiet (fail)
      go_wp2
      go_ret
      exact ⟨ret_b (by rw [hv.out]), _, by rw [World.drewN_drewN, World.drewN_drewN]⟩
  · have hv : Hid (edLess (x1, x2, x3) (y1, y2, y3) = decide (x1 < y1)) := by show _ = _; simp [edLess, h1]
    have hq : (x1 != y1) = true := by simpa using h1
    clear h1
    go_enter Tryz.func153, Tryz.ntmps153
    go_wp2
    go_quiet (fail)
    go_wp2
    go_quiet (fail)
    go_wp2
    go_ret
    exact ⟨ret_b (by rw [hv.out]), _, by rw [World.drewN_drewN]⟩

abbrev okE := okEd
theorem okE_at {st m : Int} {es : List Ed} {k : Nat} {f lb tg : Int} {r : Ed} (hx : es[k]? = some (f, lb, tg)) (hk : 0 < k) (hy : es[k - 1]? = some r) : okEd st m es k = ((inB f 0 (st - 1) && (inB tg 0 (st - 1) && inB lb 0 (m - 1))) && edLess r (f, lb, tg)) := by
  unfold okEd
  rw [hx, hy]
  have : decide (k = 0) = false := decide_eq_false (by omega)
  simp only [this, Bool.false_or, Bool.and_assoc]
theorem okE_zero {st m : Int} {es : List Ed} {f lb tg : Int} (hx : es[0]? = some (f, lb, tg)) : okEd st m es 0 = (inB f 0 (st - 1) && (inB tg 0 (st - 1) && inB lb 0 (m - 1))) := by
  unfold okEd
  rw [hx]
  simp [Bool.and_assoc]
theorem okE_bad {st m : Int} {es : List Ed} {k : Nat} {f lb tg : Int} (hx : es[k]? = some (f, lb, tg)) (h : (inB f 0 (st - 1) && (inB tg 0 (st - 1) && inB lb 0 (m - 1))) = false) : okEd st m es k = false := by
  unfold okEd
  rw [hx]
  simp only [Bool.and_assoc] at h ⊢
  rw [← Bool.and_assoc, ← Bool.and_assoc, Bool.and_assoc (inB f 0 (st - 1)), h]
  rfl
/-- The reference's test of a system. -/
abbrev ltsV := ltsB labS sLess
theorem ltsV_eq (st ini : Int) (ls : List ByteArray) (es : List Ed) : ltsV (st, ini, ls, es) = ((inB st 1 40 && (inB ini 0 (st - 1) && (namesB ls && decide (es.length ≤ 300)))) && allK (okEd st ls.length es) es.length) := by
  show ltsB labS sLess (st, ini, ls, es) = _
  unfold ltsB namesB
  simp only
  cases inB st 1 40 <;> cases inB ini 0 (st - 1) <;> cases inB (ls.length : Int) 1 12 <;> cases decide (es.length ≤ 300) <;> cases allK (okLab labS sLess ls) ls.length <;> simp

end Go.Proofs.YtiaclddgllkgpaaGreatDoor
