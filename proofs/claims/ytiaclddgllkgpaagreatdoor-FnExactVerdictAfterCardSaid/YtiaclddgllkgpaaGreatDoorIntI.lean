/-
  The states that internal edges reach from some states, by the program. Conditions: sizes.
-/
import Derived.Test.YtiaclddgllkgpaaGreatDoorTau
import Derived.Test.YtiaclddgllkgpaaGreatDoorBaseE
import Derived.Test.YtiaclddgllkgpaaGreatDoorOwnC
import Derived.Deep.RegionLaw
import Derived.Deep.LoopGhost
import Derived.Deep.RegionHeld3
namespace Go.Proofs.YtiaclddgllkgpaaGreatDoor
open Go.ChangeShapes Go.WideShapes Go.ChangeAt Go.RowKit Go.Sort
set_option linter.unusedVariables false
set_option linter.unusedSimpArgs false

theorem cloneT_calls (A : Option Addr) (n c : Nat) (l : List Int) (w : World) (lo hi : Nat) (h : SlI w lo hi A n l) (hn : n ≤ 1048576) :
    Calls Tryz.prog 122 #[.slice A n c] w fun e w' => ∃ A' c', e = .returned (.slice A' n c') ∧ Own 1 iv w' w.heap.size 2 A' n c' l ∧ Below w.heap.size w w' := by
  have hnil : ∀ (W : World) (a : Option Addr) (m d : Nat), (binOp .eql 26 (.slice a m d) (.slice none 0 0)).run Tryz.prog W = .ok (.bool a.isNone) W := fun W a m d => Lib.run_eql_slice_nil W 26 _ a m d 0 0 Tryz.underlying26
  have hE := hide elem_int
  cases A with
  | none =>
    have hn0 : n = 0 := by
      rcases Nat.eq_zero_or_pos n with h0 | h0
      · exact h0
      · obtain ⟨b, off, e, _⟩ := h.at_ h0
        cases e
    subst hn0
    have hl := List.eq_nil_of_length_eq_zero h.len
    subst hl
    go_enter Tryz.func122, Tryz.ntmps122
    go_wp2_with fail
    go_ret
    exact ⟨none, 0, rfl, Own.nil_ _ _ _, Below.refl _ _⟩
  | some a =>
    have hs := hide (h.below ((Below.refl w.heap.size w).alloc (Nat.le_refl _) (.cells #[] 2)) (.inr (Nat.le_refl _)))
    have hz : w.heap.size ≤ (w.alloc (.cells #[] 2)).heap.size := by simp
    clear h
    go_enter Tryz.func122, Tryz.ntmps122
    go_wp2_with (first | (at_builtin; (with_reducible refine wpList_app rfl (.tmp 5) (.tmp 6) rfl hE.out flat_iv rfl (Own.made w 2 (Nat.le_refl _)) rfl hs.out ?c1 hz ?_); rotate_right; intro A2 c2 w2 hown2 hgr2 hb2 _))
    case c1 => omega
    go_ret
    rw [Nat.zero_add, List.nil_append] at hown2
    exact ⟨_, _, rfl, hown2, ((Below.refl _ _).alloc (Nat.le_refl _) _).trans hb2⟩

theorem Own.toC {α : Type} {size : Nat} {f : α → List Value} {w : World} {base n c : Nat} {e : TypeId} {A : Option Addr} {l : List α} (h : Own size f w base e A n c l) (hb : base ≤ w.heap.size) :
    ∃ BB, base ≤ BB ∧ BB ≤ w.heap.size ∧ Own size f w BB e A n c l ∧ ∀ g, (Value.slice A n c).ownBlock = some g → g = BB := by
  rcases h.2.2 with ⟨hv, hn⟩ | ⟨g, cap, cur, hv, hbg, hg, rest⟩
  · cases hv
    exact ⟨base, Nat.le_refl _, hb, h, fun g hg => by cases hg⟩
  · cases hv
    have hlt : g < w.heap.size := (Array.getElem?_eq_some_iff.1 hg).1
    exact ⟨g, hbg, by omega, ⟨h.1, h.2.1, .inr ⟨g, c, cur, rfl, Nat.le_refl _, hg, rest⟩⟩, fun g' hg' => by injection hg' with e; exact e.symm⟩

set_option maxRecDepth 100000 in
set_option maxHeartbeats 3200000 in
theorem internal_calls (s0 s1 : Int) (A2 : Option Addr) (n2 k2 : Nat) (A3 : Option Addr) (n3 k3 : Nat) (A1 : Option Addr) (n1 c1 : Nat) (S : List Int) (ls : List ByteArray) (es : List Ed) (w : World) (lo hi lo1 hi1 : Nat)
    (t2 : SlS w lo hi A2 n2 ls) (t3 : SlE w lo hi A3 n3 es) (t1 : SlI w lo1 hi1 A1 n1 S) (hS : n1 ≤ 1000000) (hes : n3 ≤ 1048576) (hval : ltsV (s0, s1, ls, es) = true) :
    Calls Tryz.prog 184 #[.agg #[.int .i64 s0, .int .i64 s1, .slice A2 n2 k2, .slice A3 n3 k3], .slice A1 n1 c1] w fun e w' => ∃ A n c R, e = .returned (.slice A n c) ∧ SlI w' w.heap.size w'.heap.size A n R ∧ (∀ v, v ∈ R ↔ TauC es ls (· ∈ S) v) ∧ n ≤ n1 + 40 ∧ Below w.heap.size w w' := by
  have l1 := t1.len
  have he3 : es.length ≤ 300 := by
    have := hval
    rw [ltsV_eq] at this
    simp only [Bool.and_eq_true] at this
    exact of_decide_eq_true this.1.2.2.2
  have hst : s0 ≤ 40 ∧ 1 ≤ s0 := by
    have := hval
    rw [ltsV_eq] at this
    simp only [Bool.and_eq_true] at this
    have h1 := this.1.1
    unfold inB at h1
    rw [Bool.and_eq_true] at h1
    exact ⟨of_decide_eq_true h1.2, of_decide_eq_true h1.1⟩
  obtain ⟨N, rfl⟩ : ∃ N : Nat, s0 = (N : Int) := ⟨s0.toNat, by omega⟩
  have hN40 : N ≤ 40 := by omega
  have hto : ∀ e ∈ es, 0 ≤ e.2.2 ∧ e.2.2 < (N : Int) := by
    intro e he
    obtain ⟨k, hk, hx⟩ := List.mem_iff_getElem.1 he
    have := (edge_of hval (k := k) (f := e.1) (lb := e.2.1) (tg := e.2.2) (List.getElem?_eq_some_iff.2 ⟨hk, hx⟩)).2.1
    omega
  have hlts := hide hval
  have l3 := hide t3.len
  have hW0 := hide (show Below w.heap.size w (w.alloc (.cells #[.int .i64 (N : Int), .int .i64 s1, .slice A2 n2 k2, .slice A3 n3 k3] 33)) from (Below.refl _ _).alloc (Nat.le_refl _) _)
  have kE := heap_alloc_new w (.cells #[.int .i64 (N : Int), .int .i64 s1, .slice A2 n2 k2, .slice A3 n3 k3] 33)
  have hbt : w.heap.size < (w.alloc (.cells #[.int .i64 (N : Int), .int .i64 s1, .slice A2 n2 k2, .slice A3 n3 k3] 33)).heap.size := by rw [World.size_alloc]; omega
  have hE := hide elem_int
  have q0 := hide (cloneT_calls A1 n1 c1 S _ lo1 hi1 (t1.below hW0.out (.inr (Nat.le_refl _))) (by omega))
  replace t1 := hide t1
  replace t2 := hide t2
  replace t3 := hide t3
  replace hto := hide hto
  clear hval hst
  go_enter Tryz.func184, Tryz.ntmps184
  go_upto_region 1 with fail
  have x0 : (w.alloc (.cells #[.int .i64 (N : Int), .int .i64 s1, .slice A2 n2 k2, .slice A3 n3 k3] 33)).cell? ⟨w.heap.size, 0, none⟩ = some (.int .i64 (N : Int)) := (cell_of_row _ _ 0 _ _ (0, 0) kE).trans rfl
  have x1 : (w.alloc (.cells #[.int .i64 (N : Int), .int .i64 s1, .slice A2 n2 k2, .slice A3 n3 k3] 33)).cell? ⟨w.heap.size, 1, none⟩ = some (.int .i64 s1) := (cell_of_row _ _ 1 _ _ (0, 0) kE).trans rfl
  have x2 : (w.alloc (.cells #[.int .i64 (N : Int), .int .i64 s1, .slice A2 n2 k2, .slice A3 n3 k3] 33)).cell? ⟨w.heap.size, 2, none⟩ = some (.slice A2 n2 k2) := (cell_of_row _ _ 2 _ _ (0, 0) kE).trans rfl
  have x3 : (w.alloc (.cells #[.int .i64 (N : Int), .int .i64 s1, .slice A2 n2 k2, .slice A3 n3 k3] 33)).cell? ⟨w.heap.size, 3, none⟩ = some (.slice A3 n3 k3) := (cell_of_row _ _ 3 _ _ (0, 0) kE).trans rfl
  clear kE
  generalize hWW : (w.alloc (.cells #[.int .i64 (N : Int), .int .i64 s1, .slice A2 n2 k2, .slice A3 n3 k3] 33)) = W0 at *
  clear hWW
  have hbt1 : w.heap.size + 1 ≤ W0.heap.size := hbt
  go_upto_region 3 with (first | (go_at_call 122; (with_reducible refine q0.out.mono ?_); rintro e wx ⟨A0, c0, rfl, hown0, hb0⟩))
  have hB0 := hb0.size
  replace hown0 := hide hown0
  go_loopg [5, 6] (n1 + 40) (fun G o i wr => ∃ k m c A R, k ≤ m ∧ o = .slice A m c ∧ i = .int .i64 (k : Nat) ∧ Hid (Own 1 iv wr W0.heap.size 2 A m c R) ∧ Hid (TauI (N : Int) es ls S R k) ∧ Hid (n1 + 40 ≤ G + k) ∧ Below W0.heap.size W0 wr)
  case atStart => exact ⟨0, n1, c0, A0, S, Nat.zero_le _, rfl, rfl, hown0, TauI.start _ _ _ _, Nat.le_refl _, hb0⟩
  case round =>
    clear hown0 hb0 hB0
    obtain ⟨k, m, c, A, R, hk, rfl, rfl, hown, hI, hG, hb⟩ := hrel
    have hz := hb.size
    have hml := hown.out.len
    have hmx := hI.out.beg.len
    rw [hml, l1] at hmx
    by_cases hlt : k < m
    · obtain ⟨G3, rfl⟩ : ∃ G3, gk = G3 + 1 := ⟨gk - 1, by have := hG.out; omega⟩
      have hG3 : Hid (n1 + 40 ≤ G3 + (k + 1)) := by have := hG.out; show _ ≤ _; omega
      obtain ⟨b, off, x, rfl, -, -, gb, hx, px, -⟩ := SlI.get (hown.out.sl flat_iv) hlt
      have hwb := hW0.out.trans (hb.mono (by omega))
      have y0 := (hb.cell (p := ⟨w.heap.size, 0, none⟩) hbt).trans x0
      have y1 := (hb.cell (p := ⟨w.heap.size, 1, none⟩) hbt).trans x1
      have y2 := (hb.cell (p := ⟨w.heap.size, 2, none⟩) hbt).trans x2
      have y3 := (hb.cell (p := ⟨w.heap.size, 3, none⟩) hbt).trans x3
      have hA : Below wr.heap.size wr (wr.alloc (.cells #[.int .i64 x] 2)).drew := ((Below.refl _ _).alloc (Nat.le_refl _) (.cells #[.int .i64 x] 2)).drew
      have hsz : (wr.alloc (.cells #[.int .i64 x] 2)).drew.heap.size = wr.heap.size + 1 := by show (wr.alloc _).heap.size = _; rw [World.size_alloc]
      have hwA := hwb.trans (hA.mono hwb.size)
      have qf := followS_calls (N : Int) s1 A2 n2 k2 A3 n3 k3 (some ⟨wr.heap.size, 0, none⟩) 1 1 [x] tauB ls es (wr.alloc (.cells #[.int .i64 x] 2)).drew lo hi 0 (wr.heap.size + 1) (t2.out.below hwA (.inr (Nat.le_refl _))) (t3.out.below hwA (.inr (Nat.le_refl _))) ((Sl.lit1' wr 2 x _ rfl 1 _ rfl).drew) (by omega) hes hlts.out
      rw [show tauB = (⟨#[116, 97, 117]⟩ : ByteArray) from rfl] at qf
      replace qf := hide qf
      have hI0 : (0 : Int) ≤ (k : Int) := by omega
      have hI1 : (k : Int) < (m : Int) := by omega
      obtain ⟨BB, hB1, hB2, hownB, hgB⟩ := hown.out.toC hz
      have hg9 : w.heap.size < (wr.alloc (.cells #[.int .i64 x] 2)).drew.heap.size := by rw [hsz]; omega
      have hg8 : b < (wr.alloc (.cells #[.int .i64 x] 2)).drew.heap.size := by rw [hsz]; omega
      have hnx := hI.out.next hx hto.out
      have ya0 : (wr.alloc (.cells #[.int .i64 x] 2)).drew.cell? ⟨w.heap.size, 0, none⟩ = some (.int .i64 (N : Int)) := alloc_some y0
      have ya1 : (wr.alloc (.cells #[.int .i64 x] 2)).drew.cell? ⟨w.heap.size, 1, none⟩ = some (.int .i64 s1) := alloc_some y1
      have ya2 : (wr.alloc (.cells #[.int .i64 x] 2)).drew.cell? ⟨w.heap.size, 2, none⟩ = some (.slice A2 n2 k2) := alloc_some y2
      have ya3 : (wr.alloc (.cells #[.int .i64 x] 2)).drew.cell? ⟨w.heap.size, 3, none⟩ = some (.slice A3 n3 k3) := alloc_some y3
      have pa : (wr.alloc (.cells #[.int .i64 x] 2)).drew.cell? ⟨b, off + k, none⟩ = some (.int .i64 x) := alloc_some px
      replace hnx := hide hnx
      replace hownB := hide hownB
      replace hgB := hide hgB
      replace hA := hide hA
      replace hwb := hide hwb
      replace hb := hide hb
      replace hsz := hide hsz
      clear hx hwA hown hI
      go_upto_region 5 with fail
      go_region_held3 (fun w' => w'.cell? ⟨w.heap.size, 0, none⟩ = some (.int .i64 (N : Int)) ∧ w'.cell? ⟨w.heap.size, 1, none⟩ = some (.int .i64 s1) ∧ w'.cell? ⟨w.heap.size, 2, none⟩ = some (.slice A2 n2 k2) ∧ w'.cell? ⟨w.heap.size, 3, none⟩ = some (.slice A3 n3 k3) ∧ w'.cell? ⟨b, off + k, none⟩ = some (.int .i64 x)) (first | exact ⟨y0, y1, y2, y3, px⟩ | exact ⟨z0, z1, z2, z3, pz⟩ | go_keep)
        (first | (go_at_call 131; (with_reducible refine qf.out.mono ?_); rintro e w5 ⟨Af, nf, cf, rfl, hof, hb5⟩; have z0 := (hb5.cell (p := ⟨w.heap.size, 0, none⟩) hg9).trans ya0; have z1 := (hb5.cell (p := ⟨w.heap.size, 1, none⟩) hg9).trans ya1; have z2 := (hb5.cell (p := ⟨w.heap.size, 2, none⟩) hg9).trans ya2; have z3 := (hb5.cell (p := ⟨w.heap.size, 3, none⟩) hg9).trans ya3; have pz := (hb5.cell (p := ⟨b, off + k, none⟩) hg8).trans pa; replace hof := hide hof; replace hb5 := hide hb5))
      have hb5w : Below wr.heap.size wr w5 := hA.out.trans (hb5.out.mono (by rw [hsz.out]; omega))
      have hC : Hid (OwnC 1 iv 2 w5 BB w5 (some ⟨b, off, none⟩) m c R) := ⟨hownB.out.below hb5w (Nat.le_refl _), fun g hg => .inl (hgB.out g hg), Only.refl _ _ _⟩
      have hfs := hide (hof.out.sl flat_iv)
      have hfl := hof.out.len
      have hfl2 := folV_len es ls tauB [x]
      have hnf : nf ≤ 300 := by rw [show folV es ls ⟨#[116, 97, 117]⟩ [x] = folV es ls tauB [x] from rfl] at hfl; have := l3.out; omega
      have hfa : (folV es ls tauB [x]).take nf = folV es ls tauB [x] := List.take_of_length_le (by rw [show folV es ls ⟨#[116, 97, 117]⟩ [x] = folV es ls tauB [x] from rfl] at hfl; omega)
      replace hfs : Hid (SlI w5 (wr.heap.size + 1) w5.heap.size Af nf (folV es ls tauB [x])) := by have := hfs.out; rw [hsz.out] at this; exact this
      have hw5 := hb5w.size
      have hbW : Below W0.heap.size W0 w5 := hb.out.trans (hb5w.mono hz)
      replace hnx := hnx.out
      generalize folV es ls tauB [x] = F at *
      replace hnx := hide hnx
      replace hfa := hide hfa
      replace hbW := hide hbW
      replace hb5w := hide hb5w
      have k0 := hide z0
      have k1 := hide z1
      have k2 := hide z2
      have k3 := hide z3
      clear hfl hfl2 hof hb5 hA hownB hgB y0 y1 y2 y3 ya0 ya1 ya2 ya3 pa px pz z0 z1 z2 z3 hg9 hg8 qf hsz
      obtain ⟨wo, rfl⟩ : ∃ wo : World, wo = wr := ⟨_, rfl⟩
      go_upto_region 6 with fail
      go_loopg [5, 25] nf (fun G o i wr => ∃ j m2 c2 A4 R2, j ≤ nf ∧ m2 ≤ m + j ∧ o = .slice A4 m2 c2 ∧ i = .int .i64 (j : Nat) ∧ Hid (OwnC 1 iv 2 w5 BB wr A4 m2 c2 R2) ∧ Hid (R2 = addL R (F.take j)) ∧ Hid (nf ≤ G + j))
      case atStart => exact ⟨0, m, c, _, R, Nat.zero_le _, by omega, rfl, rfl, hC, rfl, by show _ ≤ _; omega⟩
      case round =>
        clear hC
        obtain ⟨j, m2, c2, A4, R2, hj, hm2, rfl, rfl, hC, hR2, hG2⟩ := hrel
        have hzz := hC.out.only.size
        by_cases hlt2 : j < nf
        · obtain ⟨G4, rfl⟩ : ∃ G4, gk = G4 + 1 := ⟨gk - 1, by have := hG2.out; omega⟩
          have hG4 : Hid (nf ≤ G4 + (j + 1)) := by have := hG2.out; show _ ≤ _; omega
          obtain ⟨bf, of_, v, rfl, -, -, gf, hv, pv, -⟩ := SlI.get (Sl.only hfs.out hC.out.only (.inr (by omega))) hlt2
          have qc := hide (containsI_calls v A4 m2 c2 R2 wr _ _ (hC.out.own.sl flat_iv) (by omega))
          have hsu := addL_succ (R := R) hv
          rw [← hR2.out] at hsu
          have hJ0 : (0 : Int) ≤ (j : Int) := by omega
          have hJ1 : (j : Int) < (nf : Int) := by omega
          replace hR2 := hide hR2
          clear hv
          by_cases hin : v ∈ R2
          · have hany : R2.any (fun x => decide (x = v)) = true := List.any_eq_true.2 ⟨v, hin, decide_eq_true rfl⟩
            rw [hany] at qc
            rw [addN, if_pos hin] at hsu
            replace hsu := hide hsu
            clear hany hin hR2
            go_wp2_with (first
              | (go_at_call 165; (with_reducible refine qc.out.mono ?_); rintro e w' ⟨rfl, rfl⟩))
            go_roundg G4
            case measure => omega
            case rel => exact ⟨j + 1, m2, c2, A4, R2, by omega, by omega, rfl, by go_num, hC, hsu.out.symm, hG4⟩
          · have hany : R2.any (fun x => decide (x = v)) = false := by
              cases h : R2.any (fun x => decide (x = v)) with
              | false => rfl
              | true =>
                obtain ⟨y, hy, e⟩ := List.any_eq_true.1 h
                rw [of_decide_eq_true e] at hy
                exact (hin hy).elim
            rw [hany] at qc
            rw [addN, if_neg hin] at hsu
            replace hsu := hide hsu
            have hownA := hC.out.below ((Below.refl _ _).alloc (Nat.le_refl _) (.cells #[.int .i64 v] 2))
            have hza : BB ≤ (wr.alloc (.cells #[.int .i64 v] 2)).heap.size := by rw [World.size_alloc]; omega
            replace hownA := hide hownA
            clear hany hin hR2 hC
            go_wp2_with (first
              | (go_at_call 165; (with_reducible refine qc.out.mono ?_); rintro e w' ⟨rfl, rfl⟩)
              | (at_builtin; (with_reducible refine wpList_app rfl (.tmp 33) (.tmp 35) rfl hE.out flat_iv rfl hownA.out.own rfl (Sl.lit1' wr 2 v _ rfl 1 _ ?c0) ?c1 hza ?_); rotate_right; intro A7 c7 w7 hown7 hgr7 hb7 hat7))
            case c0 => rfl
            case c1 => omega
            have hown8 := hide (hownA.out.app hown7 hgr7 hat7)
            clear hown7 hgr7 hb7 hat7 hownA
            go_roundg G4
            case measure => omega
            case rel => exact ⟨j + 1, m2 + 1, c7, A7, R2 ++ [v], by omega, by omega, rfl, by go_num, hown8, hsu.out.symm, hG4⟩
        · have hjn : j = nf := by omega
          subst hjn
          have hR3 : R2 = addL R F := by have := hR2.out; rwa [hfa.out] at this
          subst hR3
          have hbN := Only.below hbW.out hC.out.only hB1 (Nat.le_trans hz hw5)
          have hownN := hide (hC.out.own.lower hB1)
          have hlenN := hnx.out.beg.len
          have hkm : k + 1 ≤ m2 := by have h1 := hownN.out.len; have h2 := addL_len (R := R) (L := F); omega
          clear hC hR2
          go_wp2_with fail
          go_roundg G3
          case measure => omega
          case rel => exact ⟨k + 1, m2, c2, A4, addL R F, hkm, rfl, by go_num, hownN, hnx, hG3, hbN⟩
    · have hkm : k = m := by omega
      subst hkm
      have q1 := hide (sortI_calls hown.out (by omega))
      have hdone : ∀ v, v ∈ R ↔ TauC es ls (· ∈ S) v := fun v => hI.out.done (by omega)
      have hwz := hz
      replace hb := hide hb
      go_wp2_with fail
      refine q1.out.mono ?_
      rintro e w1 ⟨rfl, hs1, hg1⟩
      have hbs1 := hide (hown.out.grown_below hg1 (Nat.le_refl _) hwz)
      have hsl := hide (hs1.sl flat_iv)
      clear hs1 hg1
      go_wp2_with fail
      go_ret
      exact ⟨_, _, _, _, rfl, hsl.out.more (by omega) (Nat.le_refl _), fun v => sortI_mem.trans (hdone v), by omega, hW0.out.trans ((hb.out.trans hbs1.out).mono (by omega))⟩

end Go.Proofs.YtiaclddgllkgpaaGreatDoor
