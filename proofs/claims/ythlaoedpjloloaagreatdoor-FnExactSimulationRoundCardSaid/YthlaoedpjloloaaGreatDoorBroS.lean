/-
  LittleBrothers by the reference. Conditions: sizes.
-/
import Derived.Test.YthlaoedpjloloaaGreatDoorBaseG
import Derived.Test.YthlaoedpjloloaaGreatDoorKindLu
import Derived.Test.YthlaoedpjloloaaGreatDoorMarkE
namespace Go.Proofs.YthlaoedpjloloaaGreatDoor
open Go.ChangeShapes Go.WideShapes Go.ChangeAt Go.RowKit Go.Sort
set_option linter.unusedVariables false
set_option linter.unusedSimpArgs false

open Classical in
noncomputable def litG (S : Rel2) (e f : Ed) : Bool := decide (f.1 = e.1) && decide (f.2.1 = e.2.1) && decide (S e.2.2 f.2.2) && !decide (S f.2.2 e.2.2)
theorem litB_any (S : Rel2) (es : List Ed) (e : Ed) : litB S es e = es.any (litG S e) := rfl
theorem any_take_add {α : Type} {l : List α} {k : Nat} {x : α} (hx : l[k]? = some x) (G : α → Bool) : (l.take (k + 1)).any G = ((l.take k).any G || G x) := by
  rw [List.take_add_one, hx, List.any_append]
  simp

/-- Two lists that grow, each in a block of its own. -/
structure TwoE (w : World) (base : Nat) (A : Option Addr) (m c : Nat) (l : List Ed) (A' : Option Addr) (m' c' : Nat) (l' : List Ed) : Prop where
  one : Own 3 ev w base 99 A m c l
  two : Own 3 ev w base 99 A' m' c' l'
  ne : ∀ b, (Value.slice A m c).ownBlock = some b → (Value.slice A' m' c').ownBlock = some b → False
section
variable {w wx : World} {base m c m' c' : Nat} {A A' : Option Addr} {l l' : List Ed}
theorem TwoE.below (h : TwoE w base A m c l A' m' c' l') (hb : Below w.heap.size w wx) : TwoE wx base A m c l A' m' c' l' := ⟨h.one.below hb (Nat.le_refl _), h.two.below hb (Nat.le_refl _), h.ne⟩
theorem TwoE.swap (h : TwoE w base A m c l A' m' c' l') : TwoE w base A' m' c' l' A m c l := ⟨h.two, h.one, fun b h1 h2 => h.ne b h2 h1⟩
/-- The first one grows. -/
theorem TwoE.grow (h : TwoE w base A m c l A' m' c' l') {o : Obj} {A2 : Option Addr} {m2 c2 : Nat} {l2 : List Ed} (ho : Own 3 ev wx base 99 A2 m2 c2 l2) (hg : (w.alloc o).grownBy wx (Value.slice A m c).ownBlock)
    (hn : (Value.slice A2 m2 c2).ownBlock = (Value.slice A m c).ownBlock ∨ (Value.slice A2 m2 c2).ownBlock = some (w.alloc o).heap.size) : TwoE wx base A2 m2 c2 l2 A' m' c' l' := by
  refine ⟨ho, (h.two.alloc o).kept hg ?_, fun b h1 h2 => ?_⟩
  · cases hb : (Value.slice A' m' c').ownBlock with
    | none => exact .inl rfl
    | some b => exact .inr fun e => h.ne b e.symm hb
  · rcases hn with hn | hn
    · exact h.ne b (hn ▸ h1) h2
    · have := (h.two.lt b h2).2
      rw [hn, World.size_alloc] at h1
      have := Option.some.inj h1
      omega
end

open Classical in
set_option maxRecDepth 100000 in
set_option maxHeartbeats 3200000 in
theorem l17Brothers_calls (bt : Nat) (x : CL) (n : Nat) (ini : Int) (ls : List ByteArray) (es : List Ed) (w : World) (h : LtsAt w bt x ((n : Int), ini, ls, es)) (hval : ltsV ((n : Int), ini, ls, es) = true) :
    Calls Tryz.prog 58 #[.pointer (some ⟨bt, 0, none⟩)] w fun e w' => ∃ A m c v, e = .returned (.tuple #[.slice A m c, v]) ∧ SlE w' w.heap.size w'.heap.size A m (es.filter fun e => litB (gsR 0 n n es ls es ls) es e) ∧ m ≤ 1048576 ∧ Below w.heap.size w w' := by
  have hq1 := hide (l17Greatest_calls bt bt x x n n ini ini ls ls es es 0 w h h hval hval)
  obtain ⟨s0, s1, v2, v3⟩ := x
  obtain ⟨⟨e0, e1, -, ⟨A3, n3, k3, e3, hn3, t3⟩⟩, htot, hbt, -, -, -, c3⟩ := h
  dsimp only at *
  subst e0 e1 e3
  have l3 := t3.len
  have hes : n3 ≤ 1048576 := by rw [← l3]; exact Nat.le_trans (totL_edg ((n : Int), s1, ls, es)) htot
  have hE := hide elem_edge
  replace l3 := hide l3
  replace t3 := hide t3
  replace hval := hide hval
  clear htot hn3
  go_enter Tryz.func58, Tryz.ntmps58
  go_upto_region 2 with (first | (go_at_call 75; (with_reducible refine hq1.out.mono ?_); rintro e w1 ⟨bq, Aq, cq, Hq, rfl, hT, hM, -, hb1⟩; have x3 := hT.facts.2.2.2; replace hT := hide hT; replace hM := hide hM; replace hb1 := hide hb1))
  clear hq1 x3
  have z1 : (w1.alloc (.cells #[] 99)).heap.size = w1.heap.size + 1 := World.size_alloc _ _
  have hst : Hid (TwoE ((w1.alloc (.cells #[] 99)).alloc (.cells #[] 99)) w1.heap.size (some ⟨w1.heap.size, 0, none⟩) 0 0 (List.filter (fun e => litB (gsR 0 n n es ls es ls) es e) (es.take 0)) (some ⟨w1.heap.size + 1, 0, none⟩) 0 0 []) := by
    refine ⟨(Own.made w1 _ (Nat.le_refl _)).alloc _, ?_, ?_⟩
    · have := Own.made (f := ev) (size := 3) (w1.alloc (.cells #[] 99)) (base := w1.heap.size) 99 (by omega)
      rw [z1] at this
      exact this
    · intro b h1 h2
      simp [Value.ownBlock] at h1 h2
      omega
  have hb2 := hide (((Below.refl w1.heap.size w1).alloc (Nat.le_refl _) (.cells #[] 99)).alloc (by omega) (.cells #[] 99))
  go_upto_region 3 with fail
  go_upto_region 5 with fail
  clear z1
  generalize ((w1.alloc (.cells #[] 99)).alloc (.cells #[] 99)) = W2 at *
  go_loopg [5, 6, 7] n3 (fun J p q i wr => ∃ (k m c : Nat) (A : Option Addr) (m' c' : Nat) (A' : Option Addr) (l' : List Ed), k ≤ n3 ∧ m ≤ k ∧ m' ≤ k ∧ p = .slice A m c ∧ q = .slice A' m' c' ∧ i = .int .i64 (k : Nat) ∧ Hid (TwoE wr w1.heap.size A m c (List.filter (fun e => litB (gsR 0 n n es ls es ls) es e) (es.take k)) A' m' c' l') ∧ Hid (Below w1.heap.size w1 wr) ∧ Hid (n3 - k ≤ J))
  case atStart => exact ⟨0, 0, 0, _, 0, 0, _, [], Nat.zero_le _, Nat.le_refl _, Nat.le_refl _, rfl, rfl, rfl, hst, hb2, by show _ ≤ _; omega⟩
  case round =>
    clear hst hb2
    obtain ⟨k, m, c, A, m', c', A', l', hk, hm, hm', rfl, rfl, rfl, hown, hbr, hJ⟩ := hrel
    have hbw := hb1.out.trans (hbr.out.mono hb1.out.size)
    have y3 := (hbw.cell (p := ⟨bt, 3, none⟩) hbt).trans c3
    by_cases hlt : k < n3
    · obtain ⟨J2, rfl⟩ : ∃ J2, gk = J2 + 1 := ⟨gk - 1, by have := hJ.out; omega⟩
      have hJ2 : Hid (n3 - (k + 1) ≤ J2) := by have := hJ.out; show _ ≤ _; omega
      obtain ⟨b, off, ef, el, et, rfl, g1, g2, g3, hx, p0, p1, p2, -, -, -⟩ := SlE.get t3.out hlt
      replace p0 := (hbw.cell g3).trans p0
      replace p1 := (hbw.cell (p := ⟨b, off + k * 3 + 1, none⟩) g3).trans p1
      replace p2 := (hbw.cell (p := ⟨b, off + k * 3 + 2, none⟩) g3).trans p2
      have hed := edge_of hval.out hx
      obtain ⟨et, rfl⟩ : ∃ t : Nat, et = (t : Int) := ⟨et.toNat, by omega⟩
      have hetn : et < n := by omega
      have hbE : Below wr.heap.size wr (wr.alloc (.cells #[.int .i64 ef, .int .i64 el, .int .i64 (et : Int)] 99)) := (Below.refl _ _).alloc (Nat.le_refl _) _
      have kE := heap_alloc_new wr (.cells #[.int .i64 ef, .int .i64 el, .int .i64 (et : Int)] 99)
      have hkE := (Array.getElem?_eq_some_iff.1 kE).1
      have hownE := hide (hown.out.below hbE)
      have hbrE := hide (hbr.out.trans (hbE.mono hbr.out.size))
      have hsu : List.filter (fun e => litB (gsR 0 n n es ls es ls) es e) (es.take (k + 1)) = List.filter (fun e => litB (gsR 0 n n es ls es ls) es e) (es.take k) ++ (if litB (gsR 0 n n es ls es ls) es (ef, el, (et : Int)) = true then [(ef, el, (et : Int))] else []) := by
        rw [List.take_add_one, hx, List.filter_append]
        congr 1
        cases hG : litB (gsR 0 n n es ls es ls) es (ef, el, (et : Int)) <;> simp [hG]
      have hI0 : (0 : Int) ≤ (et : Int) := by omega
      have hI1 : (et : Int) < (n : Int) := by omega
      have hf0 : Hid (false = (es.take 0).any (litG (gsR 0 n n es ls es ls) (ef, el, (et : Int)))) := rfl
      replace hsu := hide hsu
      replace kE := hide kE
      clear hown hbr hbw hed hbE hx
      go_upto_region 8 with fail
      clear p0 p1 p2 y3
      generalize (wr.alloc (.cells #[.int .i64 ef, .int .i64 el, .int .i64 (et : Int)] 99)) = WE at *
      generalize wr.heap.size = bE at *
      go_upto_region 10 with fail
      go_loopg [9, 10] n3 (fun G fo i wr => ∃ (u : Nat) (fb : Bool), u ≤ n3 ∧ fo = .bool fb ∧ i = .int .i64 (u : Int) ∧ Hid (fb = (es.take u).any (litG (gsR 0 n n es ls es ls) (ef, el, (et : Int)))) ∧ Hid (Below WE.heap.size WE wr) ∧ Hid (n3 - u ≤ G))
      case atStart => exact ⟨0, false, Nat.zero_le _, rfl, rfl, hf0, Below.refl _ _, by show _ ≤ _; omega⟩
      case round =>
        clear hf0
        obtain ⟨u, fb, hu, rfl, rfl, hfb, hbu, hG⟩ := hrel
        have hb9 := hbrE.out.trans (hbu.out.mono hbrE.out.size)
        have hb0 := hb1.out.trans (hb9.mono hb1.out.size)
        have y3 := (hb0.cell (p := ⟨bt, 3, none⟩) hbt).trans c3
        by_cases hul : u < n3
        · obtain ⟨G2, rfl⟩ : ∃ G2, gk = G2 + 1 := ⟨gk - 1, by have := hG.out; omega⟩
          have hG2 : Hid (n3 - (u + 1) ≤ G2) := by have := hG.out; show _ ≤ _; omega
          obtain ⟨b', off', ff, fl, ft, e9, -, -, g3', hy, p0, p1, p2, -, -, -⟩ := SlE.get t3.out hul
          injection e9 with e9
          injection e9 with e9 e8
          subst e9 e8
          replace p0 := (hb0.cell g3').trans p0
          replace p1 := (hb0.cell (p := ⟨b, off + u * 3 + 1, none⟩) g3').trans p1
          replace p2 := (hb0.cell (p := ⟨b, off + u * 3 + 2, none⟩) g3').trans p2
          have hed := edge_of hval.out hy
          obtain ⟨ft, rfl⟩ : ∃ t : Nat, ft = (t : Int) := ⟨ft.toNat, by omega⟩
          have hftn : ft < n := by omega
          have hbF : Below wr.heap.size wr (wr.alloc (.cells #[.int .i64 ff, .int .i64 fl, .int .i64 (ft : Int)] 99)) := (Below.refl _ _).alloc (Nat.le_refl _) _
          have kF := heap_alloc_new wr (.cells #[.int .i64 ff, .int .i64 fl, .int .i64 (ft : Int)] 99)
          have kE9 := (hbF.block _ (Nat.lt_of_lt_of_le hkE hbu.out.size)).trans ((hbu.out.block _ hkE).trans kE.out)
          have f0 := (cell_of_row _ _ 0 _ _ (0, 0) kF).trans (show _ = some (Value.int .i64 ff) from rfl)
          have f1 := (cell_of_row _ _ 1 _ _ (0, 0) kF).trans (show _ = some (Value.int .i64 fl) from rfl)
          have f2 := (cell_of_row _ _ 2 _ _ (0, 0) kF).trans (show _ = some (Value.int .i64 (ft : Int)) from rfl)
          have e0 := (cell_of_row _ _ 0 _ _ (0, 0) kE9).trans (show _ = some (Value.int .i64 ef) from rfl)
          have e1 := (cell_of_row _ _ 1 _ _ (0, 0) kE9).trans (show _ = some (Value.int .i64 el) from rfl)
          have e2 := (cell_of_row _ _ 2 _ _ (0, 0) kE9).trans (show _ = some (Value.int .i64 (et : Int)) from rfl)
          have hT9 := hT.out.below (hb9.trans (hbF.mono hb9.size))
          obtain ⟨b3, o3, b4, o4, c4, r1, rfl, -, -, -, q0, q1, hr1⟩ := hT9.rows.get hM.out hetn hftn
          obtain ⟨b5, o5, b6, o6, c6, r2, e7, -, -, -, q2, q3, hr2⟩ := hT9.rows.get hM.out hftn hetn
          injection e7 with e7
          injection e7 with e7 e6
          subst e7 e6
          have hg : litG (gsR 0 n n es ls es ls) (ef, el, (et : Int)) (ff, fl, (ft : Int)) = (decide (ff = ef) && decide (fl = el) && r1 && !r2) := by
            have h1 : decide (gsR 0 n n es ls es ls (et : Int) (ft : Int)) = r1 := by cases r1 with | true => exact decide_eq_true (hr1.1 rfl) | false => exact decide_eq_false fun h => by have := hr1.2 h; cases this
            have h2 : decide (gsR 0 n n es ls es ls (ft : Int) (et : Int)) = r2 := by cases r2 with | true => exact decide_eq_true (hr2.1 rfl) | false => exact decide_eq_false fun h => by have := hr2.2 h; cases this
            rw [← h1, ← h2]
            rfl
          have hnx : Hid (∀ fb' : Bool, fb' = (fb || (decide (ff = ef) && decide (fl = el) && r1 && !r2)) → fb' = (es.take (u + 1)).any (litG (gsR 0 n n es ls es ls) (ef, el, (et : Int)))) := fun fb' h => by
            rw [any_take_add hy, ← hfb.out, hg]
            exact h
          have hbu2 := hide fun nq : Nat => (hbu.out.trans (hbF.mono hbu.out.size)).trans ((below_drewN (wr.alloc (.cells #[.int .i64 ff, .int .i64 fl, .int .i64 (ft : Int)] 99)) nq).mono (Nat.le_trans hbu.out.size hbF.size))
          have hJ0 : (0 : Int) ≤ (ft : Int) := by omega
          have hJ1 : (ft : Int) < (n : Int) := by omega
          clear hed hT9 hr1 hr2 hg hfb hy hb9 hb0 kF kE9 hbF
          go_upto_region 13 with fail
          clear y3 p0 p1 p2
          generalize (wr.alloc (.cells #[.int .i64 ff, .int .i64 fl, .int .i64 (ft : Int)] 99)) = WF at *
          cases fb with
          | true =>
            have hf2 := hide (hnx.out true rfl)
            clear hnx
            go_quiet (fail)
            go_wp2_with fail
            go_roundg G2
            case measure => omega
            case rel => exact ⟨u + 1, true, by omega, rfl, by go_num, hf2.out, hbu2.out _, hG2⟩
          | false =>
            by_cases h1 : ff = ef
            · by_cases h2 : fl = el
              · have hf2 := hide (hnx.out (r1 && !r2) (by rw [decide_eq_true h1, decide_eq_true h2]; simp))
                subst h1 h2
                clear hnx
                cases r1 with
                | true =>
                  go_quiet (fail)
                  go_wp2_with fail
                  go_roundg G2
                  case measure => omega
                  case rel => exact ⟨u + 1, _, by omega, rfl, by go_num, hf2.out, hbu2.out _, hG2⟩
                | false =>
                  go_quiet (fail)
                  go_wp2_with fail
                  go_roundg G2
                  case measure => omega
                  case rel => exact ⟨u + 1, _, by omega, rfl, by go_num, hf2.out, hbu2.out _, hG2⟩
              · have hf2 := hide (hnx.out false (by rw [decide_eq_false h2]; simp))
                have h2' : (fl == el) = false := by rw [beq_eq_false_iff_ne]; exact h2
                subst h1
                clear hnx h2
                go_quiet (fail)
                go_wp2_with fail
                go_roundg G2
                case measure => omega
                case rel => exact ⟨u + 1, false, by omega, rfl, by go_num, hf2.out, hbu2.out _, hG2⟩
            · have hf2 := hide (hnx.out false (by rw [decide_eq_false h1]; simp))
              have h1' : (ff == ef) = false := by rw [beq_eq_false_iff_ne]; exact h1
              clear hnx h1
              go_quiet (fail)
              go_wp2_with fail
              go_roundg G2
              case measure => omega
              case rel => exact ⟨u + 1, false, by omega, rfl, by go_num, hf2.out, hbu2.out _, hG2⟩
        · have hun : u = n3 := by omega
          subst hun
          have hfl : fb = litB (gsR 0 n n es ls es ls) es (ef, el, (et : Int)) := by
            rw [litB_any, hfb.out, List.take_of_length_le (by rw [l3.out]; exact Nat.le_refl _)]
          have hsu' := hsu.out
          rw [← hfl] at hsu'
          have kE9 := (hbu.out.block _ hkE).trans kE.out
          have e0 := (cell_of_row _ _ 0 _ _ (0, 0) kE9).trans (show _ = some (Value.int .i64 ef) from rfl)
          have e1 := (cell_of_row _ _ 1 _ _ (0, 0) kE9).trans (show _ = some (Value.int .i64 el) from rfl)
          have e2 := (cell_of_row _ _ 2 _ _ (0, 0) kE9).trans (show _ = some (Value.int .i64 (et : Int)) from rfl)
          have h2 := hownE.out.below hbu.out
          have hza : ∀ o, w1.heap.size ≤ (wr.alloc o).heap.size := fun o => by rw [World.size_alloc]; have := hb9.size; omega
          replace h2 := hide h2
          replace hb9 := hide hb9
          clear hfl hfb kE9 hb0 hownE
          cases fb with
          | true =>
            rw [if_pos rfl] at hsu'
            replace hsu' := hide hsu'
            have o2 := hide h2.out.one
            go_wp2_with (first | (at_builtin; (with_reducible refine wpList_app rfl (.tmp 91) (.tmp 93) rfl hE.out flat_ev rfl (o2.out.alloc _) rfl (Sl.lit1' wr 99 (ef, el, (et : Int)) _ rfl 3 _ ?c0) ?c1 (hza _) ?_); rotate_right; intro A7 c7 w7 hown7 hgr7 hb7 hn7))
            case c0 => rfl
            case c1 => omega
            have h8 := h2.out.grow hown7 hgr7 hn7
            rw [← hsu'.out] at h8
            replace h8 := hide h8
            have hb8 := hide ((hb9.out.alloc hb9.out.size (.cells #[.int .i64 ef, .int .i64 el, .int .i64 (et : Int)] 99)).trans hb7)
            clear hown7 hgr7 hb7 hn7
            go_roundg J2
            case measure => omega
            case rel => exact ⟨k + 1, m + 1, c7, A7, m', c', A', l', by omega, by omega, by omega, rfl, rfl, by go_num, h8, hb8, hJ2⟩
          | false =>
            rw [if_neg (by decide), List.append_nil] at hsu'
            replace hsu' := hide hsu'
            have o2 := hide h2.out.two
            go_wp2_with (first | (at_builtin; (with_reducible refine wpList_app rfl (.tmp 95) (.tmp 97) rfl hE.out flat_ev rfl (o2.out.alloc _) rfl (Sl.lit1' wr 99 (ef, el, (et : Int)) _ rfl 3 _ ?c0) ?c1 (hza _) ?_); rotate_right; intro A7 c7 w7 hown7 hgr7 hb7 hn7))
            case c0 => rfl
            case c1 => omega
            have h8 := (h2.out.swap.grow hown7 hgr7 hn7).swap
            rw [← hsu'.out] at h8
            replace h8 := hide h8
            have hb8 := hide ((hb9.out.alloc hb9.out.size (.cells #[.int .i64 ef, .int .i64 el, .int .i64 (et : Int)] 99)).trans hb7)
            clear hown7 hgr7 hb7 hn7
            go_roundg J2
            case measure => omega
            case rel => exact ⟨k + 1, m, c, A, m' + 1, c7, A7, _, by omega, by omega, by omega, rfl, rfl, by go_num, h8, hb8, hJ2⟩
    · have hkn : k = n3 := by omega
      subst hkn
      have hall : es.take k = es := List.take_of_length_le (by rw [l3.out]; exact Nat.le_refl _)
      have hres := hown.out.one.sl flat_ev
      rw [hall] at hres
      have hb1' := hb1.out
      have hres2 := hide (hres.more hb1'.size (Nat.le_refl _))
      replace hbw := hide hbw
      clear hall hown hres
      go_wp2_with fail
      go_ret2
      exact ⟨A, m, c, _, rfl, hres2.out, by omega, hbw.out⟩

end Go.Proofs.YthlaoedpjloloaaGreatDoor
