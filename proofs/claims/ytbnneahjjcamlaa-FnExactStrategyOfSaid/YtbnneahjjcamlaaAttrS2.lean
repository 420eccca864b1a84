/-
  The reference's attractor. Conditions: valid games, a set within the vertices that are alive.
-/
import Derived.Test.YtbnneahjjcamlaaAttrS
import Derived.Deep.LoopGhost
namespace Go.Proofs.Ytbnneahjjcamlaa
open Go.ChangeShapes Go.WideShapes Go.ChangeAt Go.RowKit
set_option linter.unusedVariables false

theorem hit_own {s a y : Bool} : hitB true s a y = s := by simp [hitB]
theorem hit_other {s a y : Bool} : hitB false s a y = (y && a) := by simp [hitB]

set_option maxHeartbeats 3200000 in
set_option maxRecDepth 100000 in
theorem l23Attract_calls (A B C : Option Addr) (n c d e : Nat) (g : DV) (alive set : List Bool) (player : Int) (w : World) (hg : GameAt w A n g) (ok : GameOk g) (ha : SetAt w B n alive) (hset : SetAt w C n set) :
    Calls Try.prog 82 #[.slice A n c, .slice B n d, .int .i64 player, .slice C n e] w fun e w' => ∃ A' c', e = .returned (.slice A' n c') ∧ SlB w' w.heap.size w'.heap.size A' n (attrF g alive player set) ∧ Below w.heap.size w w' := by
  have hgl := hg.len
  have hn : 0 < n ∧ n ≤ 120 := by have := ok.1; omega
  obtain ⟨hn0, hn1⟩ := hn
  have hE := hide elem_bool
  obtain ⟨b1, o1, rfl, hb1⟩ := hg.addr hn0
  obtain ⟨b2, o2, rfl, hb2⟩ := ha.addr hn0
  have hal := hide ha.len
  have hsl := hide hset.len
  have hs0 := hide (hset.below ((Below.refl w.heap.size w).alloc (Nat.le_refl _) (.cells #[] 4)) (Nat.le_refl _)).sl
  have hz : w.heap.size ≤ (w.alloc (.cells #[] 4)).heap.size := by simp
  clear hset
  replace hg := hide hg
  replace ha := hide ha
  replace hgl := hide hgl
  replace ok := hide ok
  go_enter Try.func82, Try.ntmps82
  go_wp2_with (first | (at_builtin; (with_reducible refine wpList_app rfl (.tmp 17) (.tmp 18) rfl hE.out flat_bv rfl (Own.made w 4 (Nat.le_refl _)) rfl hs0.out ?c1 hz ?_); rotate_right; intro A2 c2 w2 hown2 hgr2 hbw2 _))
  case c1 => omega
  rw [Nat.zero_add, List.nil_append] at hown2
  have hsl2 := hown2.sl flat_bv
  obtain ⟨b3, o3, eA, h31, h32, -, -⟩ := hsl2.at_ hn0
  subst eA
  have hbel : Below w.heap.size w w2 := ((Below.refl _ _).alloc (Nat.le_refl _) _).trans hbw2
  have hrng : SlB w2 b3 (b3 + 1) (some ⟨b3, o3, none⟩) n set := hsl2.tight' hn0
  have ez : (0 + n : Nat) = n := Nat.zero_add n
  try simp only [ez]
  clear hown2 hgr2 hbw2 hs0 hsl2 ez
  replace hrng := hide hrng
  replace hbel := hide hbel
  go_wp2
  go_loopg [10] (2 * n + 2) (fun N m wr => ∃ (out : List Bool) (b : Bool), m = .bool b ∧ SlB wr b3 (b3 + 1) (some ⟨b3, o3, none⟩) n out ∧ Hid (Between g alive player set out) ∧ Hid (b = false → ∀ v, v < n → Closed g alive player out v) ∧ Below w.heap.size w wr ∧ b3 < wr.heap.size ∧ Hid (2 * (n - numS out) + (if b then 1 else 0) ≤ N))
  case atStart => exact ⟨set, true, rfl, hrng.out, Between.start (by rw [hsl.out, hgl.out]), (fun h => by cases h), hbel.out, h32, by show _ ≤ _; simp; omega⟩
  case round =>
    obtain ⟨out0, b, rfl, hs, hB, hC, hb, hbz, hN⟩ := hrel
    clear hrng
    cases b with
    | false =>
      have hfin := hide (hB.out.done (by rw [← hgl.out]; exact hC.out rfl) (by rw [hal.out, hgl.out]))
      go_wp2
      go_ret
      have hs9 := hs.more h31 hbz
      rw [hfin.out] at hs9
      first | exact ⟨_, _, rfl, hs9, hb⟩ | exact ⟨_, ⟨_, rfl⟩, hs9, hb⟩ | exact ⟨_, rfl, hs9, hb⟩
    | true =>
      obtain ⟨wo, rfl⟩ : ∃ wo : World, wo = wr := ⟨_, rfl⟩
      have hN1 := hN.out
      simp only [if_true] at hN1
      replace hN1 := hide hN1
      clear hC
      go_wp2
      go_loopw [10, 11] (fun m i wr => ∃ (k : Nat) (out : List Bool) (b : Bool), k ≤ n ∧ i = .int .i64 k ∧ m = .bool b ∧ SlB wr b3 (b3 + 1) (some ⟨b3, o3, none⟩) n out ∧ Hid (Pass g alive player set out0 out k b) ∧ Below w.heap.size w wr ∧ b3 < wr.heap.size) (fun _ i _ => n - (intOf i).toNat)
      case atStart => exact ⟨0, out0, false, Nat.zero_le _, rfl, rfl, hs, Pass.start hB.out, hb, hbz⟩
      case round =>
        clear hs hb hbz
        obtain ⟨k, out, more, hk, rfl, rfl, hs, hP, hb, hbz⟩ := hrel
        by_cases hlt : k < n
        · obtain ⟨s0, z0, -, -, -⟩ := SlB.cell hs hlt
          obtain ⟨o, p, l, Ah, nh, ch, hx, c0, c1, c2, hl, hnh, -, -, hinc⟩ := (hg.out.below hb (Nat.le_refl _)).cell ok.out hlt
          have a0 := (ha.out.below hb (Nat.le_refl _)).cell hlt
          have hkg : k < g.length := by rw [← hgl.out]; exact hlt
          by_cases z1 : inS alive k = true
          · by_cases z2 : inS out k = true
            · have hnext := hide (hP.out.skip (closed_in z2))
              rw [z1] at a0
              rw [z2] at s0
              replace hs := hide hs
              clear hl hx hinc z1 z2 hg ha
              go_wp2
              go_roundw
              case rel => exact ⟨k + 1, out, more, by omega, by go_num, rfl, hs.out, hnext, hb, hbz⟩
              case measure => simp [intOf]; omega
            · replace z2 := Bool.eq_false_iff.2 z2
              have hown := gOwn_at hx
              have hnx := gNxt_at hx
              have hhit := fun (h : hitB (decide (o = player)) (someL alive out (l.map Int.toNat)) (allL alive out (l.map Int.toNat)) (anyL alive (l.map Int.toNat)) = true) => hP.out.add hkg z2 (hit_attr (v := k) hP.out.bet z1 (by rw [hown, hnx]; exact h))
              have hmiss := fun (h : hitB (decide (o = player)) (someL alive out (l.map Int.toNat)) (allL alive out (l.map Int.toNat)) (anyL alive (l.map Int.toNat)) = false) => hP.out.skip (miss_closed (alive := alive) (player := player) (v := k) (by rw [hown, hnx]; exact h))
              have hput := hide (hs.put hlt true)
              rw [z1] at a0
              rw [z2] at s0
              replace hhit := hide hhit
              replace hmiss := hide hmiss
              have hlen := hide hl.len
              replace hl := hide hl
              replace hs := hide hs
              replace hinc := hide hinc
              clear hx z1 z2 hown hnx
              go_wp2
              go_loop [12, 13, 14, 15] (fun s a y i => ∃ (j : Nat) (sv av yv : Bool), j ≤ nh ∧ i = .int .i64 j ∧ s = .bool sv ∧ a = .bool av ∧ y = .bool yv ∧ Hid (sv = someL alive out ((l.take j).map Int.toNat)) ∧ Hid (av = allL alive out ((l.take j).map Int.toNat)) ∧ Hid (yv = anyL alive ((l.take j).map Int.toNat))) (fun _ _ _ i => nh - (intOf i).toNat)
              case atStart => exact ⟨0, false, true, false, Nat.zero_le _, rfl, rfl, rfl, rfl, rfl, rfl, rfl⟩
              case round =>
                obtain ⟨j, sv, av, yv, hj, rfl, rfl, rfl, rfl, hsv, hav, hyv⟩ := hrel
                by_cases hjl : j < nh
                · obtain ⟨bh, oh, eAh, -, -, -, -⟩ := hl.out.at_ (show 0 < nh by omega)
                  have hl2 := hl.out
                  rw [eAh] at hl2
                  obtain ⟨x, hx, d0, -⟩ := hl2.cell hjl
                  subst eAh
                  have hxb := hinc.out.at_ hx
                  have hx0 := hxb.1
                  have hx1 := hxb.2
                  have hxn : x.toNat < n := by omega
                  have al0 := (ha.out.below hb (Nat.le_refl _)).cell hxn
                  obtain ⟨ou0, -, -, -, -⟩ := SlB.cell hs.out hxn
                  have e1 := someL_step (alive := alive) (out := out) hx
                  have e2 := allL_step (alive := alive) (out := out) hx
                  have e3 := anyL_step (alive := alive) hx
                  rw [← hsv.out] at e1
                  rw [← hav.out] at e2
                  rw [← hyv.out] at e3
                  clear hl2 hl hx hxb hg ha
                  by_cases y1 : inS alive x.toNat = true
                  · rw [y1] at e1 e2 e3 al0
                    simp only [Bool.true_and, Bool.not_true, Bool.false_or, Bool.or_true] at e1 e2 e3
                    generalize hou : inS out x.toNat = ov at e1 e2 ou0
                    clear y1 hou
                    replace e1 := hide e1
                    replace e2 := hide e2
                    replace e3 := hide e3
                    cases sv <;> cases av <;> cases ov
                    all_goals
                      go_wp2
                      go_round
                      case rel => exact ⟨j + 1, _, _, _, by omega, by go_num, rfl, rfl, rfl, e1.out.symm, e2.out.symm, e3.out.symm⟩
                      case measure => simp [intOf]; omega
                  · replace y1 := Bool.eq_false_iff.2 y1
                    rw [y1] at e1 e2 e3 al0
                    simp only [Bool.false_and, Bool.or_false, Bool.not_false, Bool.true_or, Bool.and_true] at e1 e2 e3
                    replace e1 := hide e1
                    replace e2 := hide e2
                    replace e3 := hide e3
                    clear y1 ou0
                    go_wp2
                    go_round
                    case rel => exact ⟨j + 1, sv, av, yv, by omega, by go_num, rfl, rfl, rfl, e1.out.symm, e2.out.symm, e3.out.symm⟩
                    case measure => simp [intOf]; omega
                · have hjn : j = nh := by omega
                  subst hjn
                  have et : l.take j = l := List.take_of_length_le (by rw [hlen.out]; exact Nat.le_refl _)
                  have h1 := hhit.out
                  have h2 := hmiss.out
                  have k1 := hsv.out
                  have k2 := hav.out
                  have k3 := hyv.out
                  rw [et] at k1 k2 k3
                  rw [← k1, ← k2, ← k3] at h1 h2
                  clear k1 k2 k3 hhit hmiss et hl
                  by_cases z3 : o = player
                  · have q1 : (o == player) = true := by simpa using z3
                    rw [decide_eq_true z3, hit_own] at h1 h2
                    clear z3
                    cases sv with
                    | true =>
                      have hnext := hide (h1 rfl)
                      clear h1 h2
                      go_wp2
                      go_roundw
                      case rel => exact ⟨k + 1, _, true, by omega, by go_num, rfl, hput.out, hnext, hb.setCell h31 _, by rw [World.size_setCell]; exact hbz⟩
                      case measure => simp [intOf]; omega
                    | false =>
                      have hnext := hide (h2 rfl)
                      have q2 : (o != player) = false := by simpa using q1
                      clear h1 h2
                      go_wp2
                      go_roundw
                      case rel => exact ⟨k + 1, out, more, by omega, by go_num, rfl, hs.out, hnext, hb, hbz⟩
                      case measure => simp [intOf]; omega
                  · have q1 : (o == player) = false := by simpa using z3
                    have q2 : (o != player) = true := by simpa using z3
                    rw [decide_eq_false z3, hit_other] at h1 h2
                    clear z3
                    cases yv <;> cases av
                    case true.true =>
                      have hnext := hide (h1 rfl)
                      clear h1 h2
                      go_wp2
                      go_roundw
                      case rel => exact ⟨k + 1, _, true, by omega, by go_num, rfl, hput.out, hnext, hb.setCell h31 _, by rw [World.size_setCell]; exact hbz⟩
                      case measure => simp [intOf]; omega
                    all_goals
                      have hnext := hide (h2 rfl)
                      clear h1 h2
                      go_wp2
                      go_roundw
                      case rel => exact ⟨k + 1, out, more, by omega, by go_num, rfl, hs.out, hnext, hb, hbz⟩
                      case measure => simp [intOf]; omega
          · replace z1 := Bool.eq_false_iff.2 z1
            have hnext := hide (hP.out.skip (closed_dead z1))
            rw [z1] at a0
            replace hs := hide hs
            clear hl hx hinc z1 hg ha s0
            go_wp2
            go_roundw
            case rel => exact ⟨k + 1, out, more, by omega, by go_num, rfl, hs.out, hnext, hb, hbz⟩
            case measure => simp [intOf]; omega
        · have hkn : k = n := by omega
          subst hkn
          have hle := numS_le out
          rw [hs.len] at hle
          have hpno := hide hP.out.no
          have hpy := hide hP.out.yes
          have hpb := hide hP.out.bet
          have hgr := hP.out.grows
          replace hs := hide hs
          clear hP
          go_wp2
          cases more with
          | true =>
            have hlt2 := hpy.out rfl
            obtain ⟨N2, rfl⟩ : ∃ N2, gk = N2 + 1 := ⟨gk - 1, by have := hN1.out; omega⟩
            have hN3 : Hid (2 * (k - numS out) + (if true = true then 1 else 0) ≤ N2) := by show _ ≤ _; have := hN1.out; simp; omega
            clear hlt2
            go_roundg N2
            case measure => omega
            case rel => exact ⟨out, true, rfl, hs.out, hpb, (fun h => by cases h), hb, hbz, hN3⟩
          | false =>
            obtain ⟨e1, e2⟩ := hpno.out rfl
            obtain ⟨N2, rfl⟩ : ∃ N2, gk = N2 + 1 := ⟨gk - 1, by have := hN1.out; omega⟩
            have hN3 : Hid (2 * (k - numS out) + (if false = true then 1 else 0) ≤ N2) := by show _ ≤ _; have := hN1.out; simp; omega
            replace e1 := hide e1
            replace e2 := hide e2
            go_roundg N2
            case measure => omega
            case rel => exact ⟨out, false, rfl, hs.out, hpb, (fun _ v hv => by rw [e1.out]; exact e2.out v hv), hb, hbz, hN3⟩

end Go.Proofs.Ytbnneahjjcamlaa
