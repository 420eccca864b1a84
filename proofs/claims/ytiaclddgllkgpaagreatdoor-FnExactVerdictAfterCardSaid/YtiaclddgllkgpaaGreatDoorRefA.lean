/-
  The states after a trace, by the reference: the walk. Conditions: sizes.
-/
import Derived.Test.YtiaclddgllkgpaaGreatDoorRefC
import Derived.Test.YtiaclddgllkgpaaGreatDoorVerU
namespace Go.Proofs.YtiaclddgllkgpaaGreatDoor
open Go.ChangeShapes Go.WideShapes Go.ChangeAt Go.RowKit Go.Sort
set_option linter.unusedVariables false
set_option linter.unusedSimpArgs false

/-- A list of states that is what P says. -/
def StR (P : Int → Prop) (w w' : World) (e : Ending) : Prop := ∃ A m c R, e = .returned (.slice A m c) ∧ SlI w' w.heap.size w'.heap.size A m R ∧ m ≤ 40 ∧ (∀ v, v ∈ R ↔ P v) ∧ Below w.heap.size w w'
theorem tau_join {n : Nat} {ini : Int} {es : List Ed} {ls : List ByteArray} (hval : ltsV ((n : Int), ini, ls, es) = true) {P : Int → Prop} (hP : ∀ v, P v → 0 ≤ v ∧ v < (n : Int)) {l l' : List Bool} {R : List Int} (hl : ∀ v : Int, 0 ≤ v → (inS l v.toNat = true ↔ P v)) (hc : ∀ v : Int, 0 ≤ v → (inS l' v.toNat = true ↔ TauC es ls (fun u => 0 ≤ u ∧ inS l u.toNat = true) v))
    (hR : ∀ v, v ∈ R ↔ 0 ≤ v ∧ inS l' v.toNat = true) (v : Int) : v ∈ R ↔ TauC es ls P v := by
  have h1 : ∀ u, (0 ≤ u ∧ inS l u.toNat = true) ↔ P u := fun u => ⟨fun h => (hl u h.1).1 h.2, fun h => ⟨(hP u h).1, (hl u (hP u h).1).2 h⟩⟩
  rw [hR]
  constructor
  · rintro ⟨h0, h2⟩
    exact (TauC.congr h1 v).1 ((hc v h0).1 h2)
  · intro h2
    have h0 := (tau_in hval hP h2).1
    exact ⟨h0, (hc v h0).2 ((TauC.congr h1 v).2 h2)⟩

set_option maxRecDepth 100000 in
set_option maxHeartbeats 1600000 in
theorem l12First_calls (bt : Nat) (x : CL) (n : Nat) (ini : Int) (ls : List ByteArray) (es : List Ed) (w : World) (h : LtsAt w bt x ((n : Int), ini, ls, es)) (hval : ltsV ((n : Int), ini, ls, es) = true) :
    Calls Tryz.prog 139 #[.pointer (some ⟨bt, 0, none⟩)] w fun e w' => StR (TauC es ls (· = ini)) w w' e := by
  have hbd := lts_boundsA hval
  have hA : Below w.heap.size w (w.alloc (.cells #[.int .i64 ini] 2)) := (Below.refl _ _).alloc (Nat.le_refl _) _
  have hAs : (w.alloc (.cells #[.int .i64 ini] 2)).heap.size = w.heap.size + 1 := World.size_alloc _ _
  have hW := h.below hA (Nat.le_refl _)
  have q1 := hide (l12Marks_calls bt x n ini ls es (some ⟨w.heap.size, 0, none⟩) 1 1 [ini] _ 0 (w.heap.size + 1) hW (Sl.lit1' w 2 ini _ rfl 1 _ rfl) (by omega) (by omega) (fun v hv => by rw [List.mem_singleton.1 hv]; omega))
  have q2 := hide fun (B : Nat) (l : List Bool) (W : World) (hb : Below (w.alloc (.cells #[.int .i64 ini] 2)).heap.size (w.alloc (.cells #[.int .i64 ini] 2)) W) (hB : (w.alloc (.cells #[.int .i64 ini] 2)).heap.size ≤ B) (hl : BoB W B n l) => l12Close_calls bt x n ini ls es B l _ W hW hval hb hB hl
  have hjoin := hide fun (l l' : List Bool) (R : List Int) => tau_join (R := R) (l := l) (l' := l') hval (P := (· = ini)) (fun v hv => by subst hv; omega)
  have hn40 : n ≤ 40 := by omega
  obtain ⟨s0, s1, v2, v3⟩ := x
  obtain ⟨⟨e0, e1, -, -⟩, -, hbt, -, c1, -, -⟩ := h
  dsimp only at *
  subst e0 e1
  replace hA := hide hA
  clear hW hbd hval
  go_enter Tryz.func139, Tryz.ntmps139
  go_upto_region 3 with (first | (go_at_call 181; (with_reducible refine q1.out.mono ?_); rintro e w5 ⟨B, l, rfl, hl5, hB5, hm5, hb5⟩; have q3 := hide (q2.out B l w5 hb5 hB5 hl5); have hz5 := hb5.size; replace hb5 := hide hb5; replace hm5 := hide hm5; clear hl5) | (go_at_call 182; (with_reducible refine q3.out.mono ?_); rintro e w6 ⟨rfl, l6, hl6, hm6, hs6⟩))
  have q4 := hide (l14List_calls B n l6 w6 hl6 (by omega))
  have hbw := hide ((hA.out.trans (hb5.out.mono (by omega))).trans (hs6.below (B := w.heap.size) (by omega) (by omega)))
  replace hm6 := hide hm6
  clear hl6 hs6 hb5 q1 q2 q3
  have hzw := hbw.out.size
  go_wp2_with (first | (go_at_call 183; (with_reducible refine q4.out.mono ?_); rintro e w7 ⟨A7, m7, c7, R7, rfl, hs7, hn7, hm7, hb7⟩; replace hs7 := hide hs7; replace hm7 := hide hm7; replace hb7 := hide hb7))
  go_ret
  exact ⟨A7, m7, c7, R7, rfl, hs7.out.more hzw (Nat.le_refl _), by omega, fun v => hjoin.out _ _ _ (fun v hv => (hm5.out v hv).trans List.mem_singleton) hm6.out hm7.out v, hbw.out.trans (hb7.out.mono hzw)⟩

set_option maxRecDepth 100000 in
set_option maxHeartbeats 3200000 in
theorem l12Next_calls (bt : Nat) (x : CL) (n : Nat) (ini : Int) (ls : List ByteArray) (es : List Ed) (A1 : Option Addr) (n1 c1 : Nat) (S : List Int) (lab : Int) (w : World) (lo hi : Nat) (h : LtsAt w bt x ((n : Int), ini, ls, es)) (hval : ltsV ((n : Int), ini, ls, es) = true) (t1 : SlI w lo hi A1 n1 S) (hn1 : n1 ≤ 1048576) :
    Calls Tryz.prog 140 #[.pointer (some ⟨bt, 0, none⟩), .slice A1 n1 c1, .int .i64 lab] w fun e w' => StR (TauC es ls fun u => ∃ e ∈ es, e.2.1 = lab ∧ e.1 ∈ S ∧ e.2.2 = u) w w' e := by
  have hbd := lts_boundsA hval
  have hn40 : n ≤ 40 := by omega
  have hmk := run_make_bool n (by omega)
  have q2 := hide fun (B : Nat) (l : List Bool) (W : World) (hb : Below w.heap.size w W) (hB : w.heap.size ≤ B) (hl : BoB W B n l) => l12Close_calls bt x n ini ls es B l w W h hval hb hB hl
  have hjoin := hide fun (l l' : List Bool) (R : List Int) => tau_join (R := R) (l := l) (l' := l') hval (P := fun u => ∃ e ∈ es, e.2.1 = lab ∧ e.1 ∈ S ∧ e.2.2 = u) (fun v hv => by
    obtain ⟨⟨f, lb, tg⟩, he, -, -, rfl⟩ := hv
    obtain ⟨j, hj⟩ := List.getElem?_of_mem he
    have := (edge_of hval hj).2.1
    dsimp only
    omega)
  obtain ⟨s0, s1, v2, v3⟩ := x
  obtain ⟨⟨e0, e1, -, ⟨A3, n3, k3, e3, hn3, t3⟩⟩, htot, hbt, c0, -, -, c3⟩ := h
  dsimp only at *
  subst e0 e1 e3
  have l3 := t3.len
  have hes : n3 ≤ 1048576 := by rw [← l3]; exact Nat.le_trans (totL_edg ((n : Int), s1, ls, es)) htot
  have hb0 : Below w.heap.size w (w.alloc (.cells (madeCells #[.bool false] n) 4)) := (Below.refl _ _).alloc (Nat.le_refl _) _
  have hst : Hid (BoB (w.alloc (.cells (madeCells #[.bool false] n) 4)) w.heap.size n (setOf n fun _ => false)) := BoB.made w n
  have hinv : Hid (∀ v : Int, 0 ≤ v → (inS (setOf n fun _ => false) v.toNat = true ↔ ∃ e ∈ es.take 0, e.2.1 = lab ∧ e.1 ∈ S ∧ e.2.2 = v)) := fun v _ => by rw [inS_setOf]; simp
  replace l3 := hide l3
  replace t3 := hide t3
  replace t1 := hide t1
  replace hval := hide hval
  clear htot hn3 hbd
  go_enter Tryz.func140, Tryz.ntmps140
  go_upto_region 3 with fail
  clear hmk
  generalize (w.alloc (.cells (madeCells #[.bool false] n) 4)) = W0 at *
  go_loopg [8] n3 (fun G i wr => ∃ (k : Nat) (l : List Bool), k ≤ n3 ∧ i = .int .i64 (k : Nat) ∧ Hid (BoB wr w.heap.size n l) ∧ Hid (∀ v : Int, 0 ≤ v → (inS l v.toNat = true ↔ ∃ e ∈ es.take k, e.2.1 = lab ∧ e.1 ∈ S ∧ e.2.2 = v)) ∧ Below w.heap.size w wr ∧ Hid (n3 - k ≤ G))
  case atStart => exact ⟨0, _, Nat.zero_le _, rfl, hst, hinv, hb0, by show _ ≤ _; omega⟩
  case round =>
    clear hst hinv hb0
    obtain ⟨k, l, hk, rfl, hst, hinv, hb, hG⟩ := hrel
    have y3 := (hb.cell (p := ⟨bt, 3, none⟩) hbt).trans c3
    by_cases hlt : k < n3
    · obtain ⟨G2, rfl⟩ : ∃ G2, gk = G2 + 1 := ⟨gk - 1, by have := hG.out; omega⟩
      have hG2 : Hid (n3 - (k + 1) ≤ G2) := by have := hG.out; show _ ≤ _; omega
      obtain ⟨b, off, f, lb, tg, rfl, -, -, g3, hx, p0, p1, p2, -, -, -⟩ := SlE.get t3.out hlt
      replace p0 := (hb.cell g3).trans p0
      replace p1 := (hb.cell (p := ⟨b, off + k * 3 + 1, none⟩) g3).trans p1
      replace p2 := (hb.cell (p := ⟨b, off + k * 3 + 2, none⟩) g3).trans p2
      have hed := edge_of hval.out hx
      obtain ⟨y, rfl⟩ : ∃ y : Nat, tg = (y : Int) := ⟨tg.toNat, by omega⟩
      obtain ⟨d0, d1, d2, d3⟩ := hst.out.get (k := y) (by omega)
      have hst' := hide (d3 true)
      have htk : es.take (k + 1) = es.take k ++ [(f, lb, (y : Int))] := by rw [List.take_add_one, hx]; rfl
      have hI0 : (0 : Int) ≤ (k : Int) := by omega
      have hI1 : (k : Int) < (n3 : Int) := by omega
      have hI2 : (0 : Int) ≤ (y : Int) := by omega
      have hI3 : (y : Int) < (n : Int) := by omega
      have qh := l00Has_calls f A1 n1 c1 S wr lo hi (t1.out.below hb (.inr (Nat.le_refl _))) hn1
      by_cases hl : lb = lab
      · subst hl
        by_cases hin : f ∈ S
        · have hany : S.any (fun x => decide (x = f)) = true := List.any_eq_true.2 ⟨f, hin, decide_eq_true rfl⟩
          rw [hany] at qh
          replace qh := hide qh
          have hinv' : Hid (∀ v : Int, 0 ≤ v → (inS (l.set y true) v.toNat = true ↔ ∃ e ∈ es.take (k + 1), e.2.1 = lb ∧ e.1 ∈ S ∧ e.2.2 = v)) := fun v hv => by
            have hll : l.length = n := hst.out.1
            rw [inS_set (by rw [hll]; omega), htk]
            by_cases e : y = v.toNat
            · rw [if_pos e]
              simp only [true_iff]
              exact ⟨(f, lb, (y : Int)), by simp, rfl, hin, by dsimp only; omega⟩
            · rw [if_neg e, hinv.out v hv]
              constructor
              · rintro ⟨e', h1, h2⟩
                exact ⟨e', List.mem_append.2 (.inl h1), h2⟩
              · rintro ⟨e', h1, h2, h3, h4⟩
                rcases List.mem_append.1 h1 with h1 | h1
                · exact ⟨e', h1, h2, h3, h4⟩
                · rw [List.mem_singleton.1 h1] at h4; dsimp only at h4; omega
          have hbw := hide (hb.setCell (p := ⟨w.heap.size, y, none⟩) (Nat.le_refl _) (.bool true))
          clear hst hinv hx hed d3 hb hin hany htk
          go_wp2_with (first | (go_at_call 108; (with_reducible refine qh.out.mono ?_); rintro e w5 ⟨rfl, rfl⟩))
          go_roundg G2
          case measure => omega
          case rel => exact ⟨k + 1, _, by omega, by go_num, hst', hinv', hbw.out, hG2⟩
        · have hany : S.any (fun x => decide (x = f)) = false := by
            rw [List.any_eq_false]
            intro x hx1 hx2
            rw [decide_eq_true_eq] at hx2
            exact hin (hx2 ▸ hx1)
          rw [hany] at qh
          replace qh := hide qh
          have hinv' : Hid (∀ v : Int, 0 ≤ v → (inS l v.toNat = true ↔ ∃ e ∈ es.take (k + 1), e.2.1 = lb ∧ e.1 ∈ S ∧ e.2.2 = v)) := fun v hv => by
            rw [htk, hinv.out v hv]
            constructor
            · rintro ⟨e', h1, h2⟩
              exact ⟨e', List.mem_append.2 (.inl h1), h2⟩
            · rintro ⟨e', h1, h2, h3, h4⟩
              rcases List.mem_append.1 h1 with h1 | h1
              · exact ⟨e', h1, h2, h3, h4⟩
              · rw [List.mem_singleton.1 h1] at h3; exact absurd h3 hin
          replace hb := hide hb
          clear hinv hx hed d3 hin hany htk hst'
          go_wp2_with (first | (go_at_call 108; (with_reducible refine qh.out.mono ?_); rintro e w5 ⟨rfl, rfl⟩))
          go_roundg G2
          case measure => omega
          case rel => exact ⟨k + 1, _, by omega, by go_num, hst, hinv', hb.out, hG2⟩
      · have hl' : (lb == lab) = false := by rw [beq_eq_false_iff_ne]; exact hl
        have hinv' : Hid (∀ v : Int, 0 ≤ v → (inS l v.toNat = true ↔ ∃ e ∈ es.take (k + 1), e.2.1 = lab ∧ e.1 ∈ S ∧ e.2.2 = v)) := fun v hv => by
          rw [htk, hinv.out v hv]
          constructor
          · rintro ⟨e', h1, h2⟩
            exact ⟨e', List.mem_append.2 (.inl h1), h2⟩
          · rintro ⟨e', h1, h2, h3, h4⟩
            rcases List.mem_append.1 h1 with h1 | h1
            · exact ⟨e', h1, h2, h3, h4⟩
            · rw [List.mem_singleton.1 h1] at h2; exact absurd h2 hl
        replace hb := hide hb
        clear hinv hx hed d3 htk hst' qh
        go_wp2_with fail
        go_roundg G2
        case measure => omega
        case rel => exact ⟨k + 1, _, by omega, by go_num, hst, hinv', hb.out, hG2⟩
    · have hkn : k = n3 := by omega
      subst hkn
      have hall : es.take k = es := List.take_of_length_le (by rw [l3.out]; exact Nat.le_refl _)
      rw [hall] at hinv
      have q3 := hide (q2.out w.heap.size l wr hb (Nat.le_refl _) hst.out)
      have hbz := hb.size
      replace hb := hide hb
      clear hst q2
      go_upto_region 8 with (first | (go_at_call 182; (with_reducible refine q3.out.mono ?_); rintro e w6 ⟨rfl, l6, hl6, hm6, hs6⟩))
      have q4 := hide (l14List_calls w.heap.size n l6 w6 hl6 (by omega))
      have hbw := hide (hb.out.trans (hs6.below (B := w.heap.size) (Nat.le_refl _) hbz))
      replace hm6 := hide hm6
      clear hl6 hs6 q3 hb
      have hzw := hbw.out.size
      go_wp2_with (first | (go_at_call 183; (with_reducible refine q4.out.mono ?_); rintro e w7 ⟨A7, m7, c7, R7, rfl, hs7, hn7, hm7, hb7⟩; replace hs7 := hide hs7; replace hm7 := hide hm7; replace hb7 := hide hb7))
      go_ret
      exact ⟨A7, m7, c7, R7, rfl, hs7.out.more hzw (Nat.le_refl _), by omega, fun v => hjoin.out _ _ _ hinv.out hm6.out hm7.out v, hbw.out.trans (hb7.out.mono hzw)⟩

theorem vis_find {st ini : Int} {es : List Ed} {ls : List ByteArray} (hval : ltsV (st, ini, ls, es) = true) {lab : ByteArray} {i : Int} (hi : FindI ls lab i) (S : List Int) (v : Int) : (TauC es ls (fun u => ∃ e ∈ es, e.2.1 = i ∧ e.1 ∈ S ∧ e.2.2 = u) v) ↔ VisC es ls (· ∈ S) lab v := by
  refine TauC.congr (fun u => ?_) v
  have key : ∀ e ∈ es, e.2.1 = i ↔ ls[e.2.1.toNat]? = some lab := fun e he => by
    rcases hi with ⟨rfl, h1⟩ | ⟨k, rfl, h1, -⟩
    · obtain ⟨j, hj⟩ := List.getElem?_of_mem he
      obtain ⟨f, lb, tg⟩ := e
      have hb := (edge_of hval hj).2.2
      dsimp only
      constructor
      · intro h2; omega
      · intro h2
        have h3 : lab ∈ ls := List.mem_of_getElem? h2
        unfold anyL at h1
        rw [List.any_eq_false] at h1
        exact absurd (decide_eq_true rfl) (h1 lab h3)
    · exact (lab_at hval he h1).symm
  constructor
  · rintro ⟨e, he, h1, h2, h3⟩
    exact ⟨e, he, h2, (key e he).1 h1, h3⟩
  · rintro ⟨e, he, h1, h2, h3⟩
    exact ⟨e, he, (key e he).2 h2, h1, h3⟩
theorem vis_none {es : List Ed} {ls : List ByteArray} {P : Int → Prop} (h : ∀ v, ¬ P v) (lab : ByteArray) (v : Int) : ¬ VisC es ls P lab v := fun hv => by
  unfold VisC at hv
  induction hv with
  | base h1 => obtain ⟨e, -, h2, -⟩ := h1; exact h _ h2
  | step _ _ _ ih => exact ih
theorem aft_none {es : List Ed} {ls : List ByteArray} {P : Int → Prop} {tr : List ByteArray} {k : Nat} (h : ∀ v, ¬ AftC es ls P (tr.take k) v) (v : Int) : ¬ AftC es ls P tr v := by
  have key : ∀ (t : List ByteArray) (Q : Int → Prop), (∀ v, ¬ Q v) → ∀ v, ¬ t.foldl (VisC es ls) Q v := by
    intro t
    induction t with
    | nil => exact fun Q hQ v => hQ v
    | cons a t ih => exact fun Q hQ v => ih _ (vis_none hQ a) v
  have h1 : AftC es ls P tr = (tr.drop k).foldl (VisC es ls) (AftC es ls P (tr.take k)) := by
    unfold AftC
    rw [← List.foldl_append, List.take_append_drop]
  rw [h1]
  exact key _ _ h v

set_option maxRecDepth 100000 in
set_option maxHeartbeats 3200000 in
theorem l12After_calls (bt : Nat) (x : CL) (n : Nat) (ini : Int) (ls : List ByteArray) (es : List Ed) (A1 : Option Addr) (n1 c1 : Nat) (tr : List ByteArray) (w : World) (lo hi : Nat) (h : LtsAt w bt x ((n : Int), ini, ls, es)) (hval : ltsV ((n : Int), ini, ls, es) = true) (t1 : SlS w lo hi A1 n1 tr) (hn1 : n1 ≤ 1048576) :
    Calls Tryz.prog 99 #[.pointer (some ⟨bt, 0, none⟩), .slice A1 n1 c1] w fun e w' => StR (AftC es ls (· = ini) tr) w w' e := by
  have l1 := hide t1.len
  have q1 := hide (l12First_calls bt x n ini ls es w h hval)
  have q2 := hide fun (A : Option Addr) (m c : Nat) (S : List Int) (lab : Int) (W : World) (lo5 hi5 : Nat) (hb : Below w.heap.size w W) (hS : SlI W lo5 hi5 A m S) (hm : m ≤ 40) => l12Next_calls bt x n ini ls es A m c S lab W lo5 hi5 (h.below hb (Nat.le_refl _)) hval hS (by omega)
  obtain ⟨s0, s1, v2, v3⟩ := x
  obtain ⟨⟨e0, e1, ⟨A2, n2, k2, e2, hn2, hs2, t2⟩, -⟩, htot, hbt, -, -, c2, -⟩ := h
  dsimp only at *
  subst e0 e1 e2
  have h2 : n2 ≤ 1048576 := by rw [← t2.len]; exact Nat.le_trans (totL_lab ((n : Int), s1, ls, es)) htot
  have q3 := hide fun (lab : ByteArray) (W : World) (hb : Below w.heap.size w W) => l11Find_calls lab A2 n2 k2 ls W 0 w.heap.size (t2.below hb (.inr (Nat.le_refl _))) h2
  replace t1 := hide t1
  replace hval := hide hval
  clear t2 htot hn2 hs2
  go_enter Tryz.func99, Tryz.ntmps99
  go_upto_region 3 with (first | (go_at_call 139; (with_reducible refine q1.out.mono ?_); rintro e w5 ⟨A5, m5, c5, R5, rfl, hs5, hn5, hm5, hb5⟩))
  have hs5' := hide hs5
  have hm5' : Hid (∀ v, v ∈ R5 ↔ AftC es ls (· = s1) (tr.take 0) v) := hm5
  clear hs5 hm5 q1
  go_loopg [5, 6] n1 (fun G o i wr => ∃ (k m c : Nat) (A : Option Addr) (R : List Int), k ≤ n1 ∧ m ≤ 40 ∧ o = .slice A m c ∧ i = .int .i64 (k : Nat) ∧ Hid (SlI wr w.heap.size wr.heap.size A m R) ∧ Hid (∀ v, v ∈ R ↔ AftC es ls (· = s1) (tr.take k) v) ∧ Below w.heap.size w wr ∧ Hid (n1 - k ≤ G))
  case atStart => exact ⟨0, m5, c5, A5, R5, Nat.zero_le _, hn5, rfl, rfl, hs5', hm5', hb5, by show _ ≤ _; omega⟩
  case round =>
    clear hs5' hm5' hb5
    obtain ⟨k, m, c, A, R, hk, hm4, rfl, rfl, hs, hm, hb, hG⟩ := hrel
    have hlr := hs.out.len
    by_cases hlt : k < n1
    · by_cases hm0 : m = 0
      · have hnone : Hid (∀ v, v ∈ R ↔ AftC es ls (· = s1) tr v) := fun v => by
          have hR : R = [] := List.eq_nil_of_length_eq_zero (by omega)
          have hno : ∀ v, ¬ AftC es ls (· = s1) (tr.take k) v := fun u hu => by have := (hm.out u).2 hu; rw [hR] at this; cases this
          constructor
          · intro h1; rw [hR] at h1; cases h1
          · intro h1; exact absurd h1 (aft_none hno v)
        subst hm0
        have hI1 : (k : Int) < (n1 : Int) := by omega
        replace hb := hide hb
        clear hm hlr
        go_wp2_with fail
        go_ret
        exact ⟨_, _, _, R, rfl, hs.out, Nat.zero_le _, hnone.out, hb.out⟩
      · obtain ⟨G2, rfl⟩ : ∃ G2, gk = G2 + 1 := ⟨gk - 1, by have := hG.out; omega⟩
        have hG2 : Hid (n1 - (k + 1) ≤ G2) := by have := hG.out; show _ ≤ _; omega
        obtain ⟨bx, ox, lab, rfl, -, -, gx, hx, px, -⟩ := SlS.get (t1.out.below hb (.inr (Nat.le_refl _))) hlt
        have y2 := (hb.cell (p := ⟨bt, 2, none⟩) hbt).trans c2
        have hI0 : (0 : Int) ≤ (k : Int) := by omega
        have hI1 : (k : Int) < (n1 : Int) := by omega
        have hI2 : (0 : Int) < (m : Int) := by omega
        have hbd := hide hb.drew
        have qf := hide (q3.out lab wr.drew hbd.out)
        have qn := hide fun (i : Int) => q2.out A m c R i wr.drew w.heap.size wr.heap.size hbd.out hs.out.drew hm4
        have hsu := AftC_succ (es := es) (ls := ls) (P := (· = s1)) hx
        have hnx : Hid (∀ i, FindI ls lab i → ∀ v, TauC es ls (fun u => ∃ e ∈ es, e.2.1 = i ∧ e.1 ∈ R ∧ e.2.2 = u) v ↔ AftC es ls (· = s1) (tr.take (k + 1)) v) := fun i hi v => by
          rw [hsu]
          exact (vis_find hval.out hi R v).trans (VisC.congr hm.out lab v)
        have hbtr : bt < wr.heap.size := Nat.lt_of_lt_of_le hbt hb.size
        have hbz := hb.size
        replace hb := hide hb
        clear hs hm hlr hx hsu
        go_upto_region 5 with fail
        go_region_held3 (fun w' => w'.cell? ⟨bt, 2, none⟩ = some (.slice A2 n2 k2) ∧ w'.cell? ⟨bx, ox + k, none⟩ = some (.string lab)) (first | exact ⟨y2, px⟩ | exact ⟨u2, u3⟩ | go_keep)
          (first
            | (go_at_call 84; (with_reducible refine qf.out.mono ?_); rintro e w5 ⟨i5, rfl, hi5, rfl⟩; have qm := hide (qn.out i5); have hi6 := hide (hnx.out i5 hi5); clear hi5)
            | (go_at_call 140; (with_reducible refine qm.out.mono ?_); rintro e w6 ⟨A6, m6, c6, R6, rfl, hs6, hn6, hm6, hb6⟩; have u2 := (hb6.cell (p := ⟨bt, 2, none⟩) hbtr).trans y2; have u3 := (hb6.cell (p := ⟨bx, ox + k, none⟩) gx).trans px; replace hs6 := hide hs6; replace hm6 := hide hm6; replace hb6 := hide hb6))
        all_goals (
          have hs7 : Hid (SlI w6 w.heap.size w6.heap.size A6 m6 R6) := hs6.out.more (lo' := w.heap.size) hbz (Nat.le_refl _)
          have hm7 : Hid (∀ v, v ∈ R6 ↔ AftC es ls (· = s1) (tr.take (k + 1)) v) := fun v => (hm6.out v).trans (hi6.out v)
          have hb7 := hide (hbd.out.trans (hb6.out.mono hbz))
          clear hs6 hm6 hb6 hi6 u2 u3
          go_wp2_with fail
          go_roundg G2)
        case measure => omega
        case rel => exact ⟨k + 1, m6, c6, A6, R6, by omega, hn6, rfl, by go_num, hs7, hm7, hb7.out, hG2⟩
    · have hkn : k = n1 := by omega
      subst hkn
      have hall : tr.take k = tr := List.take_of_length_le (by rw [l1.out]; exact Nat.le_refl _)
      rw [hall] at hm
      replace hb := hide hb
      go_wp2_with fail
      go_ret
      exact ⟨_, _, _, R, rfl, hs.out, hm4, hm.out, hb.out⟩

end Go.Proofs.YtiaclddgllkgpaaGreatDoor
