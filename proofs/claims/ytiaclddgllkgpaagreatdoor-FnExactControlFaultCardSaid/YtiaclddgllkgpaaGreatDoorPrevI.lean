/-
  The labels that a system prevents beside a plant, by the program. Conditions: sizes.
-/
import Derived.Test.YtiaclddgllkgpaaGreatDoorPrev
import Derived.Deep.DeepCutAuto
import Derived.Deep.RegionLaw
namespace Go.Proofs.YtiaclddgllkgpaaGreatDoor
open Go.ChangeShapes Go.WideShapes Go.ChangeAt Go.RowKit Go.Sort
set_option linter.unusedVariables false
set_option linter.unusedSimpArgs false

/-- A plant's system and another one lie in one struct. -/
structure TogAt (w : World) (b : Nat) (p0 p1 : Int) (A2 : Option Addr) (n2 k2 : Nat) (A3 : Option Addr) (n3 k3 : Nat) (r0 r1 : Int) (B2 : Option Addr) (m2 j2 : Nat) (B3 : Option Addr) (m3 j3 : Nat) : Prop where
  lt : b < w.heap.size
  c0 : w.cell? ⟨b, 0, none⟩ = some (.int .i64 p0)
  c1 : w.cell? ⟨b, 1, none⟩ = some (.int .i64 p1)
  c2 : w.cell? ⟨b, 2, none⟩ = some (.slice A2 n2 k2)
  c3 : w.cell? ⟨b, 3, none⟩ = some (.slice A3 n3 k3)
  c6 : w.cell? ⟨b, 6, none⟩ = some (.int .i64 r0)
  c7 : w.cell? ⟨b, 7, none⟩ = some (.int .i64 r1)
  c8 : w.cell? ⟨b, 8, none⟩ = some (.slice B2 m2 j2)
  c9 : w.cell? ⟨b, 9, none⟩ = some (.slice B3 m3 j3)
theorem TogAt.below {w w' : World} {b B : Nat} {p0 p1 r0 r1 : Int} {A2 A3 B2 B3 : Option Addr} {n2 k2 n3 k3 m2 j2 m3 j3 : Nat} (h : TogAt w b p0 p1 A2 n2 k2 A3 n3 k3 r0 r1 B2 m2 j2 B3 m3 j3) (hb : Below B w w') (hB : b < B) : TogAt w' b p0 p1 A2 n2 k2 A3 n3 k3 r0 r1 B2 m2 j2 B3 m3 j3 :=
  ⟨Nat.lt_of_lt_of_le h.lt hb.size, (hb.cell (p := ⟨b, 0, none⟩) hB).trans h.c0, (hb.cell (p := ⟨b, 1, none⟩) hB).trans h.c1, (hb.cell (p := ⟨b, 2, none⟩) hB).trans h.c2, (hb.cell (p := ⟨b, 3, none⟩) hB).trans h.c3,
   (hb.cell (p := ⟨b, 6, none⟩) hB).trans h.c6, (hb.cell (p := ⟨b, 7, none⟩) hB).trans h.c7, (hb.cell (p := ⟨b, 8, none⟩) hB).trans h.c8, (hb.cell (p := ⟨b, 9, none⟩) hB).trans h.c9⟩

set_option maxRecDepth 100000 in
set_option maxHeartbeats 3200000 in
theorem prevented_calls (b : Nat) (p0 p1 r0 r1 : Int) (A2 A3 B2 B3 : Option Addr) (n2 k2 n3 k3 m2 j2 m3 j3 : Nat) (ls ms : List ByteArray) (es fs : List Ed) (AP : Option Addr) (cp : Nat) (x y : Int) (w : World) (lo hi lo' hi' lo2 hi2 : Nat)
    (h : TogAt w b p0 p1 A2 n2 k2 A3 n3 k3 r0 r1 B2 m2 j2 B3 m3 j3) (t2 : SlS w lo hi A2 n2 ls) (t3 : SlE w lo hi A3 n3 es) (u2 : SlS w lo' hi' B2 m2 ms) (u3 : SlE w lo' hi' B3 m3 fs)
    (hes : n3 ≤ 1048576) (hfs : m3 ≤ 1048576) (hms : m2 ≤ 1048576) (hp : SlI w lo2 hi2 AP 2 [x, y]) (hv : detV (p0, p1, ls, es) = true) (hs : detV (r0, r1, ms, fs) = true) :
    Calls Tryz.prog 92 #[.pointer (some ⟨b, 0, none⟩), .slice AP 2 cp] w fun e w' => ∃ A n c, e = .returned (.slice A n c) ∧ SlS w' w.heap.size w'.heap.size A n (prvL (p0, p1, ls, es) (r0, r1, ms, fs) x y) ∧ Below w.heap.size w w' := by
  have hE := hide elem_str
  obtain ⟨bp, op, vx, eA, -, -, hpb, hx, px, -⟩ := SlI.get hp (show 0 < 2 by omega)
  obtain ⟨bp2, op2, vy, eB, -, -, -, hy, py, -⟩ := SlI.get hp (show 1 < 2 by omega)
  rw [eA] at eB
  obtain ⟨rfl, rfl⟩ : bp = bp2 ∧ op = op2 := by injection eB with e; injection e with e1 e2; exact ⟨e1, e2⟩
  subst eA
  simp at hx hy
  subst hx hy
  simp only [Nat.add_zero] at px
  have q := out_calls p0 p1 (.slice A2 n2 k2) A3 n3 k3 x es w.drew lo hi t3.drew hes ⟨_, _, _, rfl⟩
  obtain ⟨lt, c0, c1, c2, c3, c6, c7, c8, c9⟩ := h
  have hfew := out_few hv x
  have hT : Hid (TogAt w b p0 p1 A2 n2 k2 A3 n3 k3 r0 r1 B2 m2 j2 B3 m3 j3) := ⟨lt, c0, c1, c2, c3, c6, c7, c8, c9⟩
  have hmem : ∀ e ∈ outE es x, e ∈ es := fun e he => (List.mem_filter.1 he).1
  have hlab : ∀ e ∈ outE es x, ls[e.2.1.toNat]? = some (labE ls e) := fun e he => labE_at hv (hmem e he)
  have hlr : ∀ e ∈ outE es x, 0 ≤ e.2.1 ∧ e.2.1 < (n2 : Int) := fun e he => by
    have := det_first hv e (hmem e he)
    have := t2.len
    omega
  have qa := fun (lab : ByteArray) (W : World) (hW : Below w.heap.size w W) => along_calls r0 r1 B2 m2 j2 B3 m3 j3 y lab ms fs W lo' hi' (u2.below hW (.inr (Nat.le_refl _))) (u3.below hW (.inr (Nat.le_refl _))) hfs hms hs
  replace q := hide q
  replace qa := hide qa
  replace hlab := hide hlab
  replace hlr := hide hlr
  replace t2 := hide t2
  clear t3 u2 u3 hp hmem
  go_enter Tryz.func92, Tryz.ntmps92
  go_wp2
  go_cut [19, 20, 21] (fun l n z wx => ∃ (Ao : Option Addr) (no co : Nat), l = .slice Ao no co ∧ n = .int .i64 (no : Nat) ∧ z = .int .i64 0 ∧ SlE wx w.heap.size wx.heap.size Ao no (outE es x) ∧ Below w.heap.size w wx)
  case first =>
    go_region_law (first | (go_simp; go_at_call 132; (with_reducible refine q.out.mono ?_); rintro e w1 ⟨Ao, no, co, rfl, ho, hno, hb⟩))
    all_goals (go_wp2_with fail; go_meet)
    all_goals exact ⟨Ao, no, co, rfl, rfl, rfl, ho, (Below.refl w.heap.size w).drew.trans hb⟩
  case rest =>
  obtain ⟨Ao, no, co, rfl, rfl, rfl, ho, hb1⟩ := hcut
  generalize wc = w1 at *
  have hlen := ho.len
  rw [hlen] at hfew
  replace hlen := hide hlen
  replace ho := hide ho
  clear q c0 c1 c2 c3 c6 c7 c8 c9 px
  replace hb1 := hide hb1
  have hb1s := hb1.out.size
  go_upto_region 3 with fail
  go_loopg [5, 21] no (fun G v i wr => ∃ (k m c : Nat) (A : Option Addr), k ≤ no ∧ m ≤ k ∧ v = .slice A m c ∧ i = .int .i64 (k : Nat) ∧ Hid (Own 1 strv wr w1.heap.size 9 A m c (prvE (p0, p1, ls, es) (r0, r1, ms, fs) y ((outE es x).take k))) ∧ Below w1.heap.size w1 wr ∧ Hid (no - k ≤ G))
  case atStart => exact ⟨0, 0, 0, none, Nat.zero_le _, Nat.le_refl _, rfl, rfl, Own.nil_ _ _ _, Below.refl _ _, by show _ ≤ _; omega⟩
  case round =>
    obtain ⟨k, m, c, A, hk, hmk, rfl, rfl, hown, hb, hG⟩ := hrel
    by_cases hlt : k < no
    · obtain ⟨G2, rfl⟩ : ∃ G2, gk = G2 + 1 := ⟨gk - 1, by have := hG.out; omega⟩
      have hG2 : Hid (no - (k + 1) ≤ G2) := by have := hG.out; show _ ≤ _; omega
      obtain ⟨b5, o5, f, lb, tg, rfl, -, -, g5, hx, a0, a1, a2, -, -, -⟩ := SlE.get (ho.out.below hb (.inr (Nat.le_refl _))) hlt
      have hbw := hb1.out.trans (hb.mono hb1s)
      have hl1 := hlab.out _ (List.mem_of_getElem? hx)
      have hl2 := hlr.out _ (List.mem_of_getElem? hx)
      dsimp only at hl1 hl2
      have hsu := prvE_succ (p := (p0, p1, ls, es)) (s := (r0, r1, ms, fs)) (y := y) hx
      dsimp only at hsu
      generalize labE ls (f, lb, tg) = lab at *
      have hbE : Below wr.heap.size wr (wr.alloc (.cells #[.int .i64 f, .int .i64 lb, .int .i64 tg] 86)) := (Below.refl _ _).alloc (Nat.le_refl _) _
      have kE := heap_alloc_new wr (.cells #[.int .i64 f, .int .i64 lb, .int .i64 tg] 86)
      have z1 : (wr.alloc (.cells #[.int .i64 f, .int .i64 lb, .int .i64 tg] 86)).cell? ⟨wr.heap.size, 1, none⟩ = some (.int .i64 lb) := (cell_of_row _ _ 1 _ _ (0, 0) kE).trans rfl
      have hbwE := hbw.trans (hbE.mono hbw.size)
      have hbB := hb.trans (hbE.mono hb.size)
      obtain ⟨lt', c0, c1, c2, c3, c6, c7, c8, c9⟩ := hT.out.below hbwE lt
      have hln : lb.toNat < n2 := by omega
      have hl0 : (0 : Int) ≤ lb := hl2.1
      have hl9 : lb < (n2 : Int) := hl2.2
      obtain ⟨b6, o6, r6, rfl, -, -, -, hr6, p6, -⟩ := SlS.get (t2.out.below hbwE (.inr (Nat.le_refl _))) hln
      rw [hl1] at hr6
      obtain rfl := Option.some.inj hr6
      have pyE := (hbwE.cell (p := ⟨bp, op + 1, none⟩) hpb).trans py
      replace hown := hide (hown.out.alloc (.cells #[.int .i64 f, .int .i64 lb, .int .i64 tg] 86))
      replace hbB := hide hbB
      replace hbwE := hide hbwE
      have hI0 : (0 : Int) ≤ (k : Int) := by omega
      have hI1 : (k : Int) < (no : Int) := by omega
      clear hx hl1 hl2 kE hbE hb hbw hr6
      go_upto_region 5 with fail
      clear a0 a1 a2
      generalize (wr.alloc (.cells #[.int .i64 f, .int .i64 lb, .int .i64 tg] 86)) = WE at *
      generalize wr.heap.size = bE at *
      go_quiet (fail)
      go_wp2
      have hqB : Below w1.heap.size w1 (WE.drewN nq) := ⟨hbB.out.os, hbB.out.tape, hbB.out.output, hbB.out.size, hbB.out.block⟩
      have hqW : Below w.heap.size w (WE.drewN nq) := ⟨hbwE.out.os, hbwE.out.tape, hbwE.out.output, hbwE.out.size, hbwE.out.block⟩
      have e6 : (WE.drewN nq).cell? ⟨b, 6, none⟩ = some (.int .i64 r0) := c6
      have e7 : (WE.drewN nq).cell? ⟨b, 7, none⟩ = some (.int .i64 r1) := c7
      have e8 : (WE.drewN nq).cell? ⟨b, 8, none⟩ = some (.slice B2 m2 j2) := c8
      have e9 : (WE.drewN nq).cell? ⟨b, 9, none⟩ = some (.slice B3 m3 j3) := c9
      have ey : (WE.drewN nq).cell? ⟨bp, op + 1, none⟩ = some (.int .i64 y) := pyE
      replace hown : Hid (Own 1 strv (WE.drewN nq) w1.heap.size 9 A m c (prvE (p0, p1, ls, es) (r0, r1, ms, fs) y ((outE es x).take k))) := hown.out
      clear c0 c1 c2 c3 c6 c7 c8 c9 pyE p6 z1 hbB hbwE
      generalize WE.drewN nq = wq at *
      have qd := hide (qa.out lab _ (hqW.drew))
      clear hqW
      go_cut [9, 10] (fun a b wx => ∃ v : Int, a = .int .i64 v ∧ b = .bool (aloOk (r0, r1, ms, fs) y lab) ∧ Below wq.heap.size wq wx)
      case first =>
        go_region_law (first | (go_simp; go_at_call 91; (with_reducible refine qd.out.mono ?_); rintro e w5 ⟨rfl, hb5⟩))
        all_goals (go_wp2_with fail; go_meet)
        all_goals exact ⟨_, rfl, rfl, (Below.refl wq.heap.size wq).drew.trans hb5⟩
      case rest =>
      obtain ⟨va, rfl, rfl, hb5⟩ := hcut
      generalize wc = w5 at *
      have hb6 := hide (hqB.trans (hb5.mono hqB.size))
      replace hown := hide (hown.out.below hb5 (Nat.le_refl _))
      clear e6 e7 e8 e9 ey hb5 qd hqB
      cases hok : aloOk (r0, r1, ms, fs) y lab with
      | true =>
        rw [hok, if_pos rfl, List.append_nil] at hsu
        replace hsu := hide hsu
        clear hok
        have hown5 : Hid (Own 1 strv w5 w1.heap.size 9 A m c (prvE (p0, p1, ls, es) (r0, r1, ms, fs) y ((outE es x).take (k + 1)))) := by show Own _ _ _ _ _ _ _ _ _; rw [hsu.out]; exact hown.out
        clear hown
        go_wp2_with fail
        go_roundg G2
        case measure => omega
        case rel => exact ⟨k + 1, m, c, A, by omega, by omega, rfl, by go_num, hown5, hb6.out, hG2⟩
      | false =>
        rw [hok, if_neg (by decide)] at hsu
        replace hsu := hide hsu
        clear hok
        have hza : ∀ o, w1.heap.size ≤ (w5.alloc o).heap.size := fun o => by rw [World.size_alloc]; have := hb6.out.size; omega
        go_wp2_with (first | (at_builtin; (with_reducible refine wpList_app rfl (.tmp 49) (.tmp 51) rfl hE.out flat_strv rfl (hown.out.alloc _) rfl (Sl.lit1' w5 9 lab _ rfl 1 _ ?c0) ?c1 (hza _) ?_); rotate_right; intro A7 c7 w7 hown7 hgr7 hb7 _))
        case c0 => rfl
        case c1 => omega
        have hb8 := hide ((hb6.out.alloc hb6.out.size (.cells #[.string lab] 9)).trans hb7)
        replace hown7 : Hid (Own 1 strv w7 w1.heap.size 9 A7 (m + 1) c7 (prvE (p0, p1, ls, es) (r0, r1, ms, fs) y ((outE es x).take (k + 1)))) := by show Own _ _ _ _ _ _ _ _ _; rw [hsu.out]; exact hown7
        clear hgr7 hb7
        go_roundg G2
        case measure => omega
        case rel => exact ⟨k + 1, m + 1, c7, A7, by omega, by omega, rfl, by go_num, hown7, hb8.out, hG2⟩
    · have hkn : k = no := by omega
      subst hkn
      have hall : (outE es x).take k = outE es x := List.take_of_length_le (by rw [hlen.out]; exact Nat.le_refl _)
      rw [hall] at hown
      have hres := hide ((hown.out.sl flat_strv).more hb1s (Nat.le_refl _))
      have hbw := hide (hb1.out.trans (hb.mono hb1s))
      clear hown hb
      go_wp2_with fail
      go_ret
      exact ⟨A, m, c, rfl, hres.out, hbw.out⟩

end Go.Proofs.YtiaclddgllkgpaaGreatDoor
