/-
  Several texts in one:
  A game with a region and choices, drawn from bytes. Conditions: valid bytes.
  slices.DeleteFunc on a list of numbers, at a test that answers a bool. Conditions: at most 1048576 elements.
  slices.Repeat of one number. Conditions: 1 to 1048576 times.
  The program's StrategyOf. Conditions: at most 1048576 vertices (games that are not valid are refused).
  Two equal lists of numbers by the laws' own test, the winners and the strategy of a valid game by the program, choices that are replaced: words for the law FnPlays. Conditions: sizes.
  Bytes as an argument of a law. Conditions: none.
  Progress measures as numbers: who has one wins, and who wins has one: plain. Conditions: a valid game.
  Lists of numbers in the order of words, by the library's Compare. Conditions: at most 1048576 elements.
-/
import Derived.Test.YthmhlbkkhaplkaaBaseB
import Derived.Test.YthmhlbkkhaplkaaBaseC
import Derived.Test.YthmhlbkkhaplkaaBaseE
import Derived.Test.YthmhlbkkhaplkaaBaseF
import Derived.Lib.SliceRun
import Derived.Laws.CopyOwn
import Derived.Laws.Bits64b
import Derived.StillTailTactics
import Derived.Deep.RegionLaw
import Derived.Deep.LoopGhost
import Derived.Deep.RegionHeld3
set_option linter.unusedSimpArgs false
set_option linter.unusedVariables false
namespace Go.Proofs.Ythmhlbkkhaplkaa
open Go.ChangeShapes Go.WideShapes Go.ChangeAt Go.RowKit
set_option linter.unusedVariables false
set_option linter.unusedSimpArgs false

set_option maxRecDepth 100000 in
set_option maxHeartbeats 3200000 in
theorem R8Game_calls (A : Option Addr) (n c : Nat) (code : List Int) (pl : Int) (w : World) (h : SlU w 0 w.heap.size A n code) (hc : ∀ x, x ∈ code → 0 ≤ x ∧ x ≤ 255) (hn : n ≤ maxLen) :
    Calls Try.prog 7 #[.slice A n c, .int .i64 pl] w fun e w' => ∃ G m d g Ar nr cr rg Ax cx ch, e = .returned (.tuple #[.slice G m d, .slice Ar nr cr, .slice Ax m cx]) ∧ GameAt w' G m g ∧ GameOk g ∧ m ≤ 7 ∧ SlI w' w.heap.size w'.heap.size Ar nr rg ∧ Inc m rg ∧ nr ≤ m ∧ SlI w' w.heap.size w'.heap.size Ax m ch ∧ Below w.heap.size w w' := by
  have hE := hide elem_int64
  have q1 := hide (l00From_calls A n c code w h hc hn)
  clear h
  go_enter Try.func7, Try.ntmps7
  go_wp2_with fail
  refine q1.out.mono ?_
  rintro e w1 ⟨rfl, hs1, hb1, hz1⟩
  have q2 := hide (l23DrawOk_calls w.heap.size 0 w1 hs1 (by omega))
  replace hz1 : w.heap.size < w1.heap.size := by omega
  replace hb1 := hide hb1
  clear q1 hs1
  go_wp2_with fail
  refine q2.out.mono ?_
  rintro e w2 ⟨G, m, d, R, rfl, hG, ok, hm7, hs2, ho2⟩
  have hz2 := ho2.size
  have hm0 : 0 < m := by have := ok.1.1; have := hG.game.len; omega
  have q3 := hide (l23Solve_calls G m d (R.map dV) w2 hG.game ok)
  have hb2 := hide (Only.below hb1.out ho2 (Nat.le_refl _) (by omega))
  replace hs2 := hide hs2
  replace hG := hide hG
  replace ok := hide ok
  clear q2 hb1 ho2
  go_wp2_with fail
  refine q3.out.mono ?_
  rintro e w3 ⟨v3, Ax, cx, rfl, -, hb3, A1, k1, M, rfl, hw3, hx3, hM⟩
  have hz3 := hb3.size
  have hM3 : M ≤ w3.heap.size := by
    obtain ⟨b', o', -, g1, g2, g3, -⟩ := hx3.at_ hm0
    omega
  have hst : Hid (R8S w w2 (w3.alloc (.cells #[] 2)) w1.heap.size M w3.heap.size 1000 m A1 Ax (winnersF (R.map dV))) := by
    refine R8S.alloc ?_ _
    exact ⟨hs2.out.below hb3 (by omega), hw3, ⟨_, hx3⟩, fun q _ h2 => hb3.block q h2, hb2.out.trans (hb3.mono (by omega)), Nat.le_refl _, hz1, hz2, hM, hM3⟩
  have hO0 : Hid (Own 1 iv (w3.alloc (.cells #[] 2)) w3.heap.size 2 (some ⟨w3.heap.size, 0, none⟩) 0 0 []) := Own.made w3 _ (Nat.le_refl _)
  obtain ⟨B3, hB3⟩ : ∃ B3, B3 = w3.heap.size := ⟨_, rfl⟩
  clear q3 hb3 hw3 hx3 hs2 hb2
  go_wp2_with fail
  rw [← hB3] at hst hO0 hM3
  replace hB3 := hide hB3
  obtain ⟨bg, og, -, -, -, -, -, -, rfl, -⟩ := hG.out.cell hm0
  obtain ⟨ba, ox, rfl, -⟩ := hst.out.cho.choose_spec.at_ hm0
  obtain ⟨b1, o1, rfl, -⟩ := hst.out.won.at_ hm0
  generalize hWI : winnersF (R.map dV) = W at *
  clear hWI
  go_loopw [11, 12] (fun v i wr => ∃ (k nr : Nat) (Ar : Option Addr) (cr : Nat) (rg : List Int), k ≤ m ∧ nr ≤ k ∧ i = .int .i64 k ∧ v = .slice Ar nr cr ∧ Hid (Own 1 iv wr B3 2 Ar nr cr rg) ∧ Hid (Inc k rg) ∧ Hid (R8S w w2 wr w1.heap.size M B3 (1000 + 8 * k) m (some ⟨b1, o1, none⟩) (some ⟨ba, ox, none⟩) W)) (fun _ i _ => m - (intOf i).toNat)
  case atStart => exact ⟨0, 0, _, 0, [], Nat.zero_le _, Nat.zero_le _, rfl, by rw [hB3.out], hO0.out, ⟨fun _ h => (List.not_mem_nil h).elim, List.Pairwise.nil⟩, hst.out⟩
  case round =>
    clear hO0 hst
    obtain ⟨k, nr, Ar, cr, rg, hk, hnr, rfl, rfl, hO, hI, hS⟩ := hrel
    by_cases hlt : k < m
    · obtain ⟨b1, o1, wk, e1, g11, g12, g13, -, cw, -⟩ := SlI.get hS.out.won hlt
      cases e1
      have hl1 := hS.out.l1
      have hl2 := hS.out.l2
      have hl3 := hS.out.l3
      have hl4 := hS.out.l4
      obtain ⟨bg', og', o, p, l, Ah, nh, ch, e2, hbg, hbg1, -, cg, hls, hnh⟩ := hG.out.cell hlt
      cases e2
      have hcell : Hid (∀ wx N, R8S w w2 wx w1.heap.size M B3 N m (some ⟨b1, o1, none⟩) (some ⟨ba, ox, none⟩) W → wx.cell? ⟨bg, og + k * 3 + 2, none⟩ = some (.slice Ah nh ch) ∧ SlI wx w1.heap.size w2.heap.size Ah nh l) := fun wx N hx =>
        ⟨(World.cell?_of_block (w := w2) (by simpa using hx.gm bg hbg1 hbg)).trans cg, hls.keep (by have := hx.hi; have := hx.l3; have := hx.l4; omega) fun q h1 h2 _ => hx.gm q h1 h2⟩
      clear cg hls
      have k0 : (0 : Int) ≤ (k : Int) := by omega
      have k1 : (k : Int) < (m : Int) := by omega
      go_upto_region 8 with fail
      go_cut [43] (fun t wx => ∃ yes : Bool, t = .bool yes ∧ Hid (Own 1 iv wx B3 2 Ar nr cr rg) ∧ Hid (R8S w w2 wx w1.heap.size M B3 (1000 + 8 * k + 4) m (some ⟨b1, o1, none⟩) (some ⟨ba, ox, none⟩) W) ∧ wr.heap.size ≤ wx.heap.size)
      case first =>
        have q5 := hide (one_calls w.heap.size _ 8 wr hS.out.src (by omega))
        have q6 := hide (one_calls w.heap.size _ 12 wr hS.out.src (by omega))
        by_cases hwk : wk = pl
        · have e5 : (wk == pl) = true := by simpa using hwk
          clear q6 hwk
          go_wp2_with fail
          refine q5.out.mono ?_
          rintro e w5 ⟨yes, rfl, hs5⟩
          have hS5 := hide (hS.out.draw hs5)
          have hO5 := hide (hO.out.only hs5.only (by have := hS.out.l1; have := hS.out.l2; have := hS.out.l3; have := hS.out.l4; omega))
          have hz5 := hs5.only.size
          clear hs5 q5
          cases yes with
          | false =>
            go_wp2_with fail
            go_meet
            exact ⟨true, rfl, hO5.out, hS5.out.more (by omega), hz5⟩
          | true =>
            have q7 := hide (one_calls w.heap.size _ 12 w5 hS5.out.src (by omega))
            go_wp2_with fail
            refine q7.out.mono ?_
            rintro e w6 ⟨yes, rfl, hs6⟩
            have hS6 := hide (hS5.out.draw hs6)
            have hO6 := hide (hO5.out.only hs6.only (by have := hS.out.l1; have := hS.out.l2; have := hS.out.l3; have := hS.out.l4; omega))
            have hz6 := hs6.only.size
            clear hs6 q7
            go_wp2_with fail
            go_meet
            exact ⟨yes, rfl, hO6.out, hS6.out.more (by omega), by omega⟩
        · have e5 : (wk == pl) = false := by simpa using hwk
          clear q5 hwk
          go_wp2_with fail
          refine q6.out.mono ?_
          rintro e w5 ⟨yes, rfl, hs5⟩
          have hS5 := hide (hS.out.draw hs5)
          have hO5 := hide (hO.out.only hs5.only (by have := hS.out.l1; have := hS.out.l2; have := hS.out.l3; have := hS.out.l4; omega))
          have hz5 := hs5.only.size
          clear hs5 q6
          go_wp2_with fail
          go_meet
          exact ⟨yes, rfl, hO5.out, hS5.out.more (by omega), hz5⟩
      case rest =>
        obtain ⟨yes, rfl, hO5, hS5, hz5⟩ := hcut
        clear hO hS cw
        go_upto_if 43 with fail
        go_cut [11] (fun t wx => ∃ (nr2 : Nat) (Ar2 : Option Addr) (cr2 : Nat) (rg2 : List Int), t = .slice Ar2 nr2 cr2 ∧ nr2 ≤ k + 1 ∧ Hid (Own 1 iv wx B3 2 Ar2 nr2 cr2 rg2) ∧ Hid (Inc (k + 1 : Nat) rg2) ∧ Hid (R8S w w2 wx w1.heap.size M B3 (1000 + 8 * k + 4) m (some ⟨b1, o1, none⟩) (some ⟨ba, ox, none⟩) W))
        case first =>
          cases yes with
          | true =>
            have hza : B3 ≤ (wc.alloc (.cells #[.int .i64 (k : Int)] 2)).heap.size := by have := hS5.out.hi; rw [World.size_alloc]; omega
            have hSa := hide (hS5.out.alloc (.cells #[.int .i64 (k : Int)] 2))
            have hI6 : Hid (Inc (k + 1 : Nat) (rg ++ [(k : Int)])) := ⟨fun x hx => by
              rcases List.mem_append.1 hx with hx | hx
              · have := hI.out.1 x hx; omega
              · rw [List.mem_singleton.1 hx]; omega, List.pairwise_append.2 ⟨hI.out.2, List.pairwise_singleton _ _, fun a ha b hb => by rw [List.mem_singleton.1 hb]; exact (hI.out.1 a ha).2⟩⟩
            go_wp2_with (first | (at_builtin; (with_reducible refine wpList_app rfl (.tmp 44) (.tmp 46) rfl hE.out flat_iv rfl (hO5.out.alloc _) rfl (Sl.lit1' wc 2 (k : Int) _ rfl 1 _ ?d0) ?d1 hza ?_); rotate_right; intro A6 c6 w6 hown6 hgr6 hb6 hat6))
            case d0 => rfl
            case d1 => omega
            have hS6 := hide (hSa.out.grow hgr6 fun q hq => (hO5.out.lt q hq).1)
            clear hgr6 hb6 hat6
            go_meet
            exact ⟨nr + 1, A6, c6, _, rfl, by omega, hown6, hI6.out, hS6.out⟩
          | false =>
            go_wp2_with fail
            go_meet
            exact ⟨nr, Ar, cr, rg, rfl, by omega, hO5.out, ⟨fun x hx => by have := hI.out.1 x hx; omega, hI.out.2⟩, hS5.out⟩
        case rest =>
          clear hO5 hS5 hI
          obtain ⟨nr2, Ar2, cr2, rg2, rfl, hnr2, hO, hI, hS⟩ := hcut
          go_upto_region 10 with fail
          go_cut [58] (fun t wx => ∃ yes : Bool, t = .bool yes ∧ (yes = true → 0 < nh) ∧ Hid (Own 1 iv wx B3 2 Ar2 nr2 cr2 rg2) ∧ Hid (R8S w w2 wx w1.heap.size M B3 (1000 + 8 * k + 6) m (some ⟨b1, o1, none⟩) (some ⟨ba, ox, none⟩) W))
          case first =>
            have q5 := hide (one_calls w.heap.size _ 5 _ hS.out.src (by omega))
            go_wp2_with fail
            refine q5.out.mono ?_
            rintro e w5 ⟨yes, rfl, hs5⟩
            have hS5 := hide (hS.out.draw hs5)
            have hO5 := hide (hO.out.only hs5.only (by omega))
            have c2 := (hcell.out _ _ hS5.out).1
            clear hs5 q5
            cases yes with
            | false =>
              go_wp2_with fail
              go_meet
              exact ⟨false, rfl, (fun h => by cases h), hO5.out, hS5.out.more (by omega)⟩
            | true =>
              go_wp2_with fail
              go_meet
              exact ⟨_, rfl, (fun h => by simpa using h), hO5.out, hS5.out.more (by omega)⟩
          case rest =>
            clear hO hS
            obtain ⟨yes, rfl, hpos, hO, hS⟩ := hcut
            cases yes with
            | false =>
              clear hpos
              go_wp2_with fail
              go_roundw
              case rel => exact ⟨k + 1, nr2, Ar2, cr2, rg2, by omega, by omega, by go_num, rfl, hO.out, hI.out, hS.out.more (by omega)⟩
              case measure => simp [intOf]; omega
            | true =>
              replace hpos := hpos rfl
              obtain ⟨c2, hl⟩ := hcell.out _ _ hS.out
              have q6 := hide (among_calls w.heap.size _ Ah nh ch l _ _ _ hS.out.src (by omega) hl (.inr (by omega)) hpos hnh)
              clear hl
              go_wp2_with fail
              refine q6.out.mono ?_
              rintro e w5 ⟨x, rfl, -, hs5⟩
              have hS5 := hide (hS.out.draw hs5)
              have hO5 := hide (hO.out.only hs5.only (by omega))
              obtain ⟨hS6, ff, gx1, gx2, y, cy⟩ := hS5.out.put hlt x
              have hO6 := hide (hO5.out.keep (w' := w5.setCell ⟨ba, ox + k, none⟩ (.int .i64 x)) fun q hq => Below.heap_setCell _ _ _ _ (by have := (hO5.out.lt q hq).1; show q ≠ ba; omega))
              replace hS6 := hide hS6
              clear hs5 q6
              go_wp2_with fail
              go_roundw
              case rel => exact ⟨k + 1, nr2, Ar2, cr2, rg2, by omega, by omega, by go_num, rfl, hO6.out, hI.out, hS6.out.more (by omega)⟩
              case measure => simp [intOf]; omega
    · obtain rfl : k = m := by omega
      have hgame := hide ((hG.out.keepB (by have := hS.out.hi; have := hS.out.l3; have := hS.out.l4; omega) fun q h1 h2 => hS.out.gm q h1 h2).game)
      obtain ⟨ch, hch⟩ := hS.out.cho
      have hl1 := hS.out.l1
      have hl2 := hS.out.l2
      have hl3 := hS.out.l3
      have hl4 := hS.out.l4
      have hi := hS.out.hi
      replace hch := hide hch
      go_wp2_with fail
      go_ret3
      exact ⟨_, _, _, _, _, _, _, _, _, _, _, rfl, hgame.out, ok.out, hm7, (hO.out.sl flat_iv).more (by omega) (Nat.le_refl _), hI.out, hnr, hch.out.more (by omega) hi, hS.out.bel⟩

end Go.Proofs.Ythmhlbkkhaplkaa

namespace Go.Proofs.Ythmhlbkkhaplkaa
open Go.ChangeShapes Go.WideShapes Go.ChangeAt Go.RowKit
set_option linter.unusedVariables false

theorem below_cells {B b : Nat} {a : World} (hb : B ≤ b) : ∀ (vs : List Value) (o : Nat) (w : World), Below B a w → Below B a (w.setCells b o vs)
  | [], _, _, h => h
  | v :: r, o, w, h => below_cells hb r (o + 1) _ (h.setCell hb v)
theorem size_cells (b : Nat) : ∀ (vs : List Value) (o : Nat) (w : World), (w.setCells b o vs).heap.size = w.heap.size
  | [], _, _ => rfl
  | v :: r, o, w => (size_cells b r (o + 1) _).trans (World.size_setCell _ _ _)

theorem filter_step {q : Int → Bool} {l : List Int} {k : Nat} {x : Int} (hx : l[k]? = some x) : (l.take (k + 1)).filter q = (l.take k).filter q ++ if q x then [x] else [] := by
  rw [List.take_add_one, hx, List.filter_append]
  cases h : q x <;> simp [h]

/-- The first index that the test holds at, or -1. -/
def firstI (G : Int → Bool) (l : List Int) (i : Int) : Prop := (i = -1 ∧ l.any G = false) ∨ ∃ k : Nat, i = k ∧ k < l.length ∧ (l.take k).any G = false ∧ ∃ x, l[k]? = some x ∧ G x = true

set_option maxRecDepth 100000 in
theorem indexFuncI_calls (F : FuncId) (caps : Array Value) (G : Int → Bool) (A : Option Addr) (n c : Nat) (l : List Int) (w : World) (lo hi : Nat) (h : SlI w lo hi A n l) (hn : n ≤ 1048576)
    (hF : ∀ (v : Value) (W : World), Sem.run Try.prog (callFunc F (#[v] ++ caps)) W = .ok (.enter F (#[v] ++ caps)) W)
    (hcl : ∀ (v : Int) (W : World), v ∈ l → Below w.heap.size w W → Calls Try.prog F (#[.int .i64 v] ++ caps) W (Says (G v) W)) :
    Calls Try.prog 71 #[.slice A n c, .func (.func F) #[] caps] w fun e w' => ∃ i : Int, e = .returned (.int .i64 i) ∧ firstI G l i ∧ Below w.heap.size w w' := by
  have hlen := hide h.len
  replace hcl := hide hcl
  go_enter Try.func71, Try.ntmps71
  go_wp2
  go_loopw [8] (fun i wr => ∃ k : Nat, k ≤ n ∧ i = .int .i64 k ∧ Below w.heap.size w wr ∧ Hid ((l.take k).any G = false)) (fun i _ => n - (intOf i).toNat)
  case atStart => exact ⟨0, Nat.zero_le _, rfl, Below.refl _ _, rfl⟩
  case round =>
    obtain ⟨k, hk, rfl, hb, ha⟩ := hrel
    by_cases hlt : k < n
    · obtain ⟨b, off, x, rfl, g1, g2, g3, hx, c0, -⟩ := h.get hlt
      replace c0 := (hb.cell (p := ⟨b, off + k, none⟩) g3).trans c0
      have hc := hcl.out x wr (List.mem_of_getElem? hx) hb
      replace hx := hide hx
      clear h hcl
      by_cases hg : G x = true
      · rw [hg] at hc
        replace hc := hide hc
        have hy : Hid (firstI G l k) := .inr ⟨k, rfl, by rw [hlen.out]; exact hlt, ha.out, x, hx.out, hg⟩
        clear hg
        go_wp2_with fail
        refine hc.out.mono ?_
        rintro e w1 ⟨rfl, hb1⟩
        go_wp2_with fail
        go_ret
        exact ⟨_, rfl, hy.out, hb.trans (hb1.mono hb.size)⟩
      · replace hg := Bool.eq_false_iff.2 hg
        rw [hg] at hc
        replace hc := hide hc
        have hy := hide (any_take_succ ha.out hx.out hg)
        clear hg
        go_wp2_with fail
        refine hc.out.mono ?_
        rintro e w1 ⟨rfl, hb1⟩
        go_wp2_with fail
        go_roundw
        case rel => exact ⟨k + 1, by omega, by go_num, hb.trans (hb1.mono hb.size), hy⟩
        case measure => simp [intOf]; omega
    · have hkn : k = n := by omega
      subst hkn
      clear hcl h
      go_wp2
      go_ret
      have hy := ha.out
      rw [List.take_of_length_le (by rw [hlen.out]; exact Nat.le_refl _)] at hy
      exact ⟨_, rfl, .inl ⟨rfl, hy⟩, hb⟩

/-- Where the loop of DeleteFunc stands: what was kept lies at the front, the rest is as it was. -/
structure DelI (G : Int → Bool) (l M : List Int) (k i : Nat) : Prop where
  len : M.length = l.length
  cnt : i = ((l.take k).filter fun x => !G x).length
  lt : i < k
  kept : M.take i = (l.take k).filter fun x => !G x
  later : ∀ q, k ≤ q → M[q]? = l[q]?
theorem DelI.start {G : Int → Bool} {l : List Int} {k : Nat} {x : Int} (hk : k < l.length) (ha : (l.take k).any G = false) (hx : l[k]? = some x) (hg : G x = true) : DelI G l l (k + 1) k := by
  have h1 : (l.take (k + 1)).filter (fun x => !G x) = l.take k := by
    rw [filter_step hx, hg]
    simp only [Bool.not_true, Bool.false_eq_true, if_false, List.append_nil]
    exact List.filter_eq_self.2 fun y hy => by rw [Bool.not_eq_true']; exact Bool.eq_false_iff.2 fun c => by rw [List.any_eq_false] at ha; exact ha y hy c
  exact ⟨rfl, by rw [h1, List.length_take]; omega, Nat.lt_succ_self _, by rw [h1], fun _ _ => rfl⟩
theorem DelI.skip {G : Int → Bool} {l M : List Int} {k i : Nat} {x : Int} (h : DelI G l M k i) (hx : l[k]? = some x) (hg : G x = true) : DelI G l M (k + 1) i := by
  have h1 : (l.take (k + 1)).filter (fun x => !G x) = (l.take k).filter (fun x => !G x) := by rw [filter_step hx, hg]; simp
  exact ⟨h.len, by rw [h1]; exact h.cnt, by have := h.lt; omega, by rw [h1]; exact h.kept, fun q hq => h.later q (by omega)⟩
theorem DelI.put {G : Int → Bool} {l M : List Int} {k i : Nat} {x : Int} (h : DelI G l M k i) (hx : l[k]? = some x) (hg : G x = false) : DelI G l (M.set i x) (k + 1) (i + 1) := by
  have h1 : (l.take (k + 1)).filter (fun x => !G x) = (l.take k).filter (fun x => !G x) ++ [x] := by rw [filter_step hx, hg]; simp
  have hk : k < l.length := (List.getElem?_eq_some_iff.1 hx).1
  have hil : i < M.length := by rw [h.len]; have := h.lt; omega
  refine ⟨by rw [List.length_set]; exact h.len, by rw [h1, List.length_append, ← h.cnt]; rfl, by have := h.lt; omega, ?_, fun q hq => ?_⟩
  · rw [List.take_add_one, List.getElem?_set_self hil, h1, ← h.kept, List.take_set_of_le (Nat.le_refl _)]
    rfl
  · rw [List.getElem?_set_ne (by have := h.lt; omega)]
    exact h.later q (by omega)

theorem zero_int (w : World) : (zeroValue 2).run Try.prog w = .ok (.int .i64 0) w := by
  obtain ⟨i0, hi0, hz0, _⟩ := info_parts info_int64
  simp [zeroValue, typeInfo, hi0, hz0]


set_option maxHeartbeats 1600000 in
set_option maxRecDepth 100000 in
theorem deleteFuncI_calls (F : FuncId) (caps : Array Value) (G : Int → Bool) (A : Option Addr) (n c : Nat) (l : List Int) (w : World) (lo : Nat) (h : SlI w lo w.heap.size A n l) (hc : n ≤ c) (hn : n ≤ 1048576) (hlo : lo ≤ w.heap.size)
    (hF : ∀ (v : Value) (W : World), Sem.run Try.prog (callFunc F (#[v] ++ caps)) W = .ok (.enter F (#[v] ++ caps)) W)
    (hcl : ∀ (v : Int) (W : World), v ∈ l → Below lo w W → Calls Try.prog F (#[.int .i64 v] ++ caps) W (Says (G v) W)) :
    Calls Try.prog 63 #[.slice A n c, .func (.func F) #[] caps] w fun e w' => ∃ m c', e = .returned (.slice A m c') ∧ m ≤ n ∧ SlI w' lo w'.heap.size A m (l.filter fun x => !G x) ∧ Below lo w w' := by
  have hlen := hide h.len
  have q := hide (indexFuncI_calls F caps G A n c l w lo _ h hn hF (fun v W hv hW => hcl v W hv (hW.mono hlo)))
  replace h := hide h
  replace hcl := hide hcl
  go_enter Try.func63, Try.ntmps63
  go_wp2_with fail
  refine q.out.mono ?_
  rintro e w1 ⟨i, rfl, hfi, hb1⟩
  have hbl := hb1.mono hlo
  have h1 := hide ((h.out.below hb1 (.inr (Nat.le_refl _))).top)
  clear q
  rcases hfi with ⟨rfl, hno⟩ | ⟨k0, rfl, hk0, hno, x0, hx0, hg0⟩
  · have hfl : Hid (l.filter (fun x => !G x) = l) := List.filter_eq_self.2 fun y hy => by rw [Bool.not_eq_true']; exact Bool.eq_false_iff.2 fun c => by rw [List.any_eq_false] at hno; exact hno y hy c
    clear hcl h hno
    go_wp2_with fail
    go_ret
    exact ⟨n, _, rfl, Nat.le_refl _, by rw [hfl.out]; exact h1.out, hbl⟩
  · rw [hlen.out] at hk0
    obtain ⟨b, off, y0, rfl, g1, g2, g3, -⟩ := h.out.get hk0
    have hst := hide (DelI.start (by rw [hlen.out]; exact hk0) hno hx0 hg0)
    have hne : ((k0 : Int) == -1) = false := by rw [beq_eq_false_iff_ne]; omega
    clear hno hx0 hg0 h
    go_wp2_with fail
    go_loopw [5, 6] (fun iv' jv wr => ∃ (k i : Nat) (M : List Int), k ≤ n ∧ jv = .int .i64 k ∧ iv' = .int .i64 i ∧ Hid (DelI G l M k i) ∧ Hid (SlI wr lo wr.heap.size (some ⟨b, off, none⟩) n M) ∧ Hid (Below lo w wr)) (fun _ jv _ => n - (intOf jv).toNat)
    case atStart => exact ⟨k0 + 1, k0, l, by omega, by go_num, rfl, hst, h1, hbl⟩
    case round =>
      obtain ⟨k, i, M, hk, rfl, rfl, hD, hM, hb⟩ := hrel
      clear h1 hst
      have hik := hD.out.lt
      by_cases hlt : k < n
      · obtain ⟨b', o', x, e', -, -, g3', hx, c0, -⟩ := hM.out.get hlt
        cases e'
        rw [hD.out.later k (Nat.le_refl _)] at hx
        have hcx := hcl.out x wr (List.mem_of_getElem? hx) hb.out
        have hzw := hb.out.size
        by_cases hg : G x = true
        · rw [hg] at hcx
          replace hcx := hide hcx
          have hD2 := hide (hD.out.skip hx hg)
          clear hcl hx hg
          go_wp2_with fail
          refine hcx.out.mono ?_
          rintro e w2 ⟨rfl, hb2⟩
          have hM2 := hide ((hM.out.below hb2 (.inr (Nat.le_refl _))).top)
          have hb3 := hide (hb.out.trans (hb2.mono (Nat.le_trans hlo hzw)))
          clear hb2 c0
          go_wp2_with fail
          go_roundw
          case rel => exact ⟨k + 1, i, M, by omega, by go_num, rfl, hD2, hM2, hb3⟩
          case measure => simp [intOf]; omega
        · replace hg := Bool.eq_false_iff.2 hg
          rw [hg] at hcx
          replace hcx := hide hcx
          have hD2 := hide (hD.out.put hx hg)
          clear hcl hx hg
          go_wp2_with fail
          refine hcx.out.mono ?_
          rintro e w2 ⟨rfl, hb2⟩
          have hM2 := (hM.out.below hb2 (.inr (Nat.le_refl _))).top
          have hM3 := hide (SlI.put' hM2 (show i < n by omega) x)
          obtain ⟨b', o', xx, e', -, -, -, -, d0, z0⟩ := SlI.get hM2 (show i < n by omega)
          cases e'
          have hb3 := hide ((hb.out.trans (hb2.mono (Nat.le_trans hlo hzw))).setCell (p := ⟨b, off + i, none⟩) g1 (.int .i64 x))
          clear hb2 c0 hM2
          have i1 : (0 : Int) ≤ (i : Int) := by omega
          have i2 : (i : Int) < (n : Int) := by omega
          go_wp2_with fail
          go_roundw
          case rel => exact ⟨k + 1, i + 1, _, by omega, by go_num, by go_num, hD2, by show SlI _ _ _ _ _ _; rw [World.size_setCell]; exact hM3.out, hb3⟩
          case measure => simp [intOf]; omega
      · have hkn : k = n := by omega
        subst hkn
        clear hcl
        have hkept := hD.out.kept
        have hcnt := hD.out.cnt
        have htk : l.take k = l := List.take_of_length_le (by rw [hlen.out]; exact Nat.le_refl _)
        rw [htk] at hkept hcnt
        have hcut : ∀ W : World, (Instr.slice 26 (.slice (some ⟨b, off, none⟩) k c) (some (.int .i64 (i : Int))) none none).run Try.prog W = .ok (.slice (some ⟨b, off + i, none⟩) (k - i) (c - i)) W := fun W => by
          rw [run_cut elem_int64 (some ⟨b, off, none⟩) k c i (by omega) W]
          unfold cutA
          rw [if_neg (by omega), Option.map_some, addr_add, Nat.mul_one]
        have hhead : ∀ W : World, (Instr.slice 26 (.slice (some ⟨b, off, none⟩) k c) none (some (.int .i64 (i : Int))) none).run Try.prog W = .ok (.slice (some ⟨b, off, none⟩) i c) W := fun W => run_head elem_int64 (some ⟨b, off, none⟩) k c i (by omega) W
        have hcl : ∀ ty : TypeId, (Builtin.clear_ #[26] ty #[.slice (some ⟨b, off + i, none⟩) (k - i) (c - i)]).run Try.prog wr = .ok (.tuple #[]) (wr.setCells b (off + i) (List.replicate (k - i) (.int .i64 0))) := fun ty =>
          Lib.run_clear_slice wr 26 2 ty (.int .i64 0) Try.underlying26 zero_int rfl rfl b (off + i) (k - i) (c - i) (by omega) (fun j hj => by
            obtain ⟨b', o', xx, e', -, -, -, -, d0, -⟩ := hM.out.get (show i + j < k by omega)
            cases e'
            rw [show off + i + j = off + (i + j) by omega, d0]; rfl) (fun j hj => by
            obtain ⟨b', o', xx, e', -, -, -, -, -, z0⟩ := hM.out.get (show i + j < k by omega)
            cases e'
            rw [show off + i + j = off + (i + j) by omega]; exact z0)
        have hres : Hid (SlI (wr.setCells b (off + i) (List.replicate (k - i) (.int .i64 0))) lo (wr.setCells b (off + i) (List.replicate (k - i) (.int .i64 0))).heap.size (some ⟨b, off, none⟩) i (l.filter fun x => !G x)) := by
          refine ⟨hcnt.symm, fun hi0 => ?_⟩
          obtain ⟨b', o', e', q1, q2, q3, q4⟩ := hM.out.at_ (show 0 < k by omega)
          cases e'
          refine ⟨b, off, rfl, q1, by rw [size_cells]; exact q3, by rw [size_cells]; exact q3, fun j x hx u v hv => ?_⟩
          rw [← hkept, List.getElem?_take] at hx
          split at hx
          · obtain ⟨r1, r2⟩ := q4 j x hx u v hv
            have hu : u = 0 := by
              have := (List.getElem?_eq_some_iff.1 hv).1
              simp [iv] at this
              exact this
            subst hu
            exact ⟨(World.cell?_setCells_out b _ _ _ _ (fun _ _ => by left; show off + (j * 1 + 0) < off + i; omega)).trans r1, (World.frozen?_setCells b _ _ _ _).trans r2⟩
          · cases hx
        have hbF : Hid (Below lo w (wr.setCells b (off + i) (List.replicate (k - i) (.int .i64 0)))) := below_cells g1 _ _ _ hb.out
        clear hkept hcnt
        go_wp2_with fail
        go_ret
        exact ⟨i, _, rfl, by omega, hres.out, hbF.out⟩

end Go.Proofs.Ythmhlbkkhaplkaa

namespace Go.Proofs.Ythmhlbkkhaplkaa
open Go.ChangeShapes Go.WideShapes Go.ChangeAt Go.RowKit
set_option linter.unusedVariables false
set_option maxHeartbeats 1600000 in
set_option maxRecDepth 100000 in
theorem repeatI_calls (A : Option Addr) (c : Nat) (b : Int) (n : Nat) (w : World) (lo hi : Nat) (h : SlI w lo hi A 1 [b]) (hn0 : 0 < n) (hn : n ≤ 1048576) :
    Calls Try.prog 62 #[.slice A 1 c, .int .i64 n] w fun e w' => ∃ A', e = .returned (.slice A' n n) ∧ SlI w' w.heap.size w'.heap.size A' n (List.replicate n b) ∧ Below w.heap.size w w' := by
  have hmk := run_make_int n hn
  obtain ⟨b1, o1, rfl, g1, g2, g3, hc⟩ := h.at_ (by omega)
  have c0 := (hc 0 b rfl 0 _ rfl).1
  simp only [Nat.zero_mul, Nat.add_zero] at c0
  have hsz : (Try.prog.info? 2).map (·.size) = some 1 := by kernel_rfl
  have hb0 : Below w.heap.size w (w.alloc (.cells (madeCells #[.int .i64 0] n) 2)) := (Below.refl _ _).alloc (Nat.le_refl _) _
  have c1 := (hb0.cell (p := ⟨b1, o1, none⟩) g3).trans c0
  have hrow : (w.alloc (.cells (madeCells #[.int .i64 0] n) 2)).heap[w.heap.size]? = some (.cells (rowR (.int .i64 b) (.int .i64 0) 0 n).toArray 2 (0, 0)) := by
    rw [heap_alloc_new]
    congr 2
    apply Array.ext'
    rw [toList_madeCells_one]
    simp [rowR]
  replace hrow := hide hrow
  replace hb0 := hide hb0
  replace c1 := hide c1
  replace hsz := hide hsz
  have hE := hide elem_int64
  clear hc h
  go_enter Try.func62, Try.ntmps62
  go_wp2_with (first | (go_at_call 92; (with_reducible refine (mul_one' n hn _).mono ?_); rintro e w' ⟨rfl, rfl⟩) | (with_reducible refine wpList_copy_splice rfl (.tmp 31) (.tmp 32) 26 26 rfl 2 Try.underlying26 hsz.out (some ⟨w.heap.size, 0, none⟩) (some ⟨b1, o1, none⟩) n n 1 c rfl rfl w.heap.size 0 (rowR (.int .i64 b) (.int .i64 0) 0 n) 2 hrow.out [.int .i64 b] ?k1 (fun _ => ⟨rfl, ⟨b1, o1, none⟩, rfl, ?k2⟩) ?k3 ?k4 w.heap.size w hb0.out (Nat.le_refl _) ?_))
  case k1 => show 1 = min 1 n; omega
  case k2 =>
    intro j v hj
    match j, hj with
    | 0, hj => simp at hj; subst hj; simpa [Addr.add] using c1.out
  case k3 => rw [rowR_len _ _ (Nat.zero_le _)]; simp; omega
  case k4 => intro v hv; simp at hv; subst hv; rfl
  rintro w1 hr1 hb1
  have hr1' : Hid (w1.heap[w.heap.size]? = some (.cells (rowR (.int .i64 b) (.int .i64 0) 1 n).toArray 2 (0, 0))) := by
    have := rowR_splice (.int .i64 b) (.int .i64 0) (m := 0) (k := 1) (n := n) (by omega)
    rw [List.replicate_one, Nat.zero_add] at this
    show _ = _
    rw [← this]
    exact hr1.out
  clear hr1 hrow hb0 c1 hmk
  go_wp2
  go_loopg [8] n (fun N m wr => ∃ k : Nat, 1 ≤ k ∧ k ≤ n ∧ m = .int .i64 k ∧ Hid (wr.heap[w.heap.size]? = some (.cells (rowR (.int .i64 b) (.int .i64 0) k n).toArray 2 (0, 0))) ∧ Below w.heap.size w wr ∧ Hid (n - k ≤ N))
  case atStart => exact ⟨1, Nat.le_refl _, hn0, rfl, hr1', hb1, by show _ ≤ _; omega⟩
  case round =>
    obtain ⟨k, hk1, hk, rfl, hr, hb, hN⟩ := hrel
    clear hr1' hb1
    by_cases hlt : k < n
    · have hcut : ∀ W : World, (Instr.slice 26 (.slice (some ⟨w.heap.size, 0, none⟩) n n) (some (.int .i64 (k : Int))) none none).run Try.prog W = .ok (.slice (some ⟨w.heap.size, k, none⟩) (n - k) (n - k)) W := fun W => by
        rw [run_cut elem_int64 (some ⟨w.heap.size, 0, none⟩) n n k hk W]
        unfold cutA
        rw [if_neg (by omega), Option.map_some, addr_add, Nat.zero_add, Nat.mul_one]
      have hhead : ∀ W : World, (Instr.slice 26 (.slice (some ⟨w.heap.size, 0, none⟩) n n) none (some (.int .i64 (k : Int))) none).run Try.prog W = .ok (.slice (some ⟨w.heap.size, 0, none⟩) k n) W := fun W => run_head elem_int64 (some ⟨w.heap.size, 0, none⟩) n n k hk W
      have hzw := hide ((Array.getElem?_eq_some_iff.1 hr.out).1)
      have i1 : (0 : Int) ≤ (k : Int) := by omega
      have i2 : (k : Int) ≤ (n : Int) := by omega
      obtain ⟨N2, rfl⟩ : ∃ N2, gk = N2 + 1 := ⟨gk - 1, by have := hN.out; omega⟩
      have k2 : Hid (∀ j v, (List.replicate (Nat.min k (n - k)) (Value.int .i64 b))[j]? = some v → wr.drew.cell? ((⟨w.heap.size, 0, none⟩ : Addr).add j) = some v) := by
        intro j v hj
        have hjk : j < Nat.min k (n - k) := by
          have := (List.getElem?_eq_some_iff.1 hj).1
          simpa using this
        have hjk2 : j < k := Nat.lt_of_lt_of_le hjk (Nat.min_le_left _ _)
        have hv : v = .int .i64 b := List.eq_of_mem_replicate (List.mem_of_getElem? hj)
        subst hv
        rw [addr_add, Nat.zero_add]
        refine (cell_of_row _ _ _ _ _ (0, 0) (show wr.drew.heap[w.heap.size]? = _ from hr.out)).trans ?_
        simpa using rowR_get _ _ hjk2
      have k3 : Hid (k + (List.replicate (Nat.min k (n - k)) (Value.int .i64 b)).length ≤ (rowR (.int .i64 b) (.int .i64 0) k n).length) := by
        show _ ≤ _
        rw [rowR_len _ _ hk, List.length_replicate]; have : Nat.min k (n - k) ≤ n - k := Nat.min_le_right k (n - k); omega
      have k4 : Hid (∀ v, v ∈ List.replicate (Nat.min k (n - k)) (Value.int .i64 b) → v.oneCell' = true) := fun v hv => by rw [List.eq_of_mem_replicate hv]; rfl
      have k5 : Hid (wr.drew.heap[w.heap.size]? = some (.cells (rowR (.int .i64 b) (.int .i64 0) k n).toArray 2 (0, 0))) := hr.out
      have k6 := hide hb.drew
      go_wp2
      go_region_law (refine step_copy_splice (by rfl) (.tmp 41) (.tmp 44) 26 26 (by rfl) 2 Try.underlying26 hsz.out (some ⟨w.heap.size, k, none⟩) (some ⟨w.heap.size, 0, none⟩) (n - k) (n - k) k n (by go_simp) (by go_simp) w.heap.size k (rowR (.int .i64 b) (.int .i64 0) k n) 2 k5.out (List.replicate (Nat.min k (n - k)) (.int .i64 b)) (List.length_replicate ..) (fun _ => ⟨rfl, ⟨w.heap.size, 0, none⟩, rfl, k2.out⟩) k3.out k4.out w.heap.size w k6.out (Nat.le_refl _) ?_; intro w2 hr2 hb2)
      have hmn : k + Nat.min k (n - k) ≤ n := by have : Nat.min k (n - k) ≤ n - k := Nat.min_le_right k (n - k); omega
      have hmp : 1 ≤ Nat.min k (n - k) := by show 1 ≤ min k (n - k); omega
      have hr2' : Hid (w2.heap[w.heap.size]? = some (.cells (rowR (.int .i64 b) (.int .i64 0) (k + Nat.min k (n - k)) n).toArray 2 (0, 0))) := by
        show _ = _
        rw [← rowR_splice (.int .i64 b) (.int .i64 0) hmn]
        exact hr2.out
      clear hr2 hcut hhead
      try simp only [List.length_replicate, goInt]
      generalize Nat.min k (n - k) = q at *
      go_wp2
      go_roundg N2
      case measure => omega
      case rel => exact ⟨k + q, by omega, hmn, by rw [IntWalk.i64_in _ (by omega)]; go_num, hr2', hb2, by show _ ≤ _; have := hN.out; omega⟩
    · have hkn : k = n := by omega
      subst hkn
      have hzw := (Array.getElem?_eq_some_iff.1 hr.out).1
      go_wp2
      go_ret
      refine ⟨_, rfl, ⟨by simp, fun _ => ⟨w.heap.size, 0, rfl, Nat.le_refl _, hzw, hzw, fun i x hx j u hu => ?_⟩⟩, hb⟩
      have hik : i < k := by
        have := (List.getElem?_eq_some_iff.1 hx).1
        simpa using this
      have hxb : x = b := List.eq_of_mem_replicate (List.mem_of_getElem? hx)
      subst hxb
      have hj : j = 0 := by
        have := (List.getElem?_eq_some_iff.1 hu).1
        simp [iv] at this
        exact this
      subst hj
      simp [iv] at hu
      subst hu
      refine ⟨(cell_of_row _ _ _ _ _ (0, 0) hr.out).trans ?_, frozen_of_row _ _ _ _ _ hr.out⟩
      have := rowR_get (.int .i64 x) (.int .i64 0) (m := k) (n := k) hik
      simpa using this


end Go.Proofs.Ythmhlbkkhaplkaa

namespace Go.Proofs.Ythmhlbkkhaplkaa
open Go.ChangeShapes Go.WideShapes Go.ChangeAt Go.RowKit
set_option linter.unusedVariables false

theorem cloneI2_calls (A : Option Addr) (n c : Nat) (l : List Int) (w : World) (lo hi : Nat) (h : SlI w lo hi A n l) (hn : n ≤ 1048576) :
    Calls Try.prog 64 #[.slice A n c] w fun e w' => ∃ A' c', e = .returned (.slice A' n c') ∧ n ≤ c' ∧ SlI w' w.heap.size w'.heap.size A' n l ∧ Below w.heap.size w w' := by
  have hnil : ∀ (W : World) (a : Option Addr) (m d : Nat), (binOp .eql 26 (.slice a m d) (.slice none 0 0)).run Try.prog W = .ok (.bool a.isNone) W := fun W a m d => Lib.run_eql_slice_nil W 26 _ a m d 0 0 Try.underlying26
  have hE := hide elem_int64
  cases A with
  | none =>
    have hn0 : n = 0 := by
      rcases Nat.eq_zero_or_pos n with h0 | h0
      · exact h0
      · obtain ⟨b, off, e, _⟩ := h.at_ h0
        cases e
    subst hn0
    have hl := List.eq_nil_of_length_eq_zero h.len
    subst hl
    go_enter Try.func64, Try.ntmps64
    go_wp2_with fail
    go_ret
    exact ⟨none, 0, rfl, Nat.le_refl _, Sl.nil_, Below.refl _ _⟩
  | some a =>
    have hs := hide (h.below ((Below.refl w.heap.size w).alloc (Nat.le_refl _) (.cells #[] 2)) (.inr (Nat.le_refl _)))
    have hz : w.heap.size ≤ (w.alloc (.cells #[] 2)).heap.size := by simp
    clear h
    go_enter Try.func64, Try.ntmps64
    go_wp2_with (first | (at_builtin; (with_reducible refine wpList_app rfl (.tmp 5) (.tmp 6) rfl hE.out flat_iv rfl (Own.made w 2 (Nat.le_refl _)) rfl hs.out ?c1 hz ?_); rotate_right; intro A2 c2 w2 hown2 hgr2 hb2 _))
    case c1 => omega
    go_ret
    rw [Nat.zero_add, List.nil_append] at hown2
    exact ⟨_, _, rfl, hown2.cap, hown2.sl flat_iv, ((Below.refl _ _).alloc (Nat.le_refl _) _).trans hb2⟩

/-- The choices so far, and -1 behind them. -/
noncomputable def outK (g : DV) (n k : Nat) : List Int := (stateK g k).2 ++ List.replicate (n - k) (-1)
theorem outK_none {g : DV} {n k : Nat} {L : DV} {out : List Int} (hk : k < n) (h : stateK g k = (L, out)) (hs : stateK g (k + 1) = (L, out ++ [-1])) : outK g n (k + 1) = outK g n k := by
  unfold outK
  rw [h, hs, show n - k = n - (k + 1) + 1 by omega, List.replicate_succ]
  simp
theorem outK_some {g : DV} {n k : Nat} {L L' : DV} {out : List Int} {x : Int} (hk : k < n) (hl : out.length = k) (h : stateK g k = (L, out)) (hs : stateK g (k + 1) = (L', out ++ [x])) : outK g n (k + 1) = (outK g n k).set k x := by
  unfold outK
  rw [h, hs, show n - k = n - (k + 1) + 1 by omega, List.replicate_succ]
  simp [← hl]
/-- Where the search among the own moves stands. -/
def InnerP (w : World) (b n : Nat) (L : DV) (k : Nat) (own : List Int) (row : Option Nat) (i : Nat) : Prop :=
  (own.take i).find? (keeps (winnersF L) L k) = none ∧ ∃ X, GameR w b 0 n (putN L k X) row
theorem GameR.setRow {w : World} {b n bo i : Nat} {g : DV} {v : Value} (h : GameR w b 0 n g (some bo)) (hn : 0 < n) : GameR (w.setCell ⟨bo, i, none⟩ v) b 0 n g (some bo) :=
  h.turn (by rw [World.size_setCell]; exact Nat.le_refl _) (fun q _ hne => Below.heap_setCell _ _ _ _ (fun e => hne (by rw [e]))) (.inl rfl) hn

set_option maxHeartbeats 3200000 in
set_option maxRecDepth 100000 in
theorem strategy_calls (A : Option Addr) (n c : Nat) (g : DV) (w : World) (h : GameAt w A n g) (ok : GameOk g) :
    Calls Try.prog 25 #[.slice A n c] w fun e w' => ∃ A' c', e = .returned (.slice A' n c') ∧ SlI w' w.heap.size w'.heap.size A' n (stratF g) ∧ Below w.heap.size w w' := by
  have hgl := h.len
  obtain ⟨hn0, hn1⟩ : 0 < n ∧ n ≤ 120 := by have := ok.1; omega
  have hst := hide (fun k (hk : k ≤ n) => stateK_ok ok k (by rw [← hgl]; exact hk))
  obtain ⟨ba, oa, rfl, hba⟩ := h.addr hn0
  have q1 := winners_calls (some ⟨ba, oa, none⟩) c g w (by rw [← hgl]; exact h) ok
  rw [← hgl] at q1
  replace q1 := hide q1
  replace h := hide h
  replace ok := hide ok
  replace hgl := hide hgl
  go_enter Try.func25, Try.ntmps25
  go_wp2_with fail
  refine q1.out.mono ?_
  rintro e w1 ⟨A1, k1, rfl, hs1, hb1⟩
  obtain ⟨b1, o1, rfl, g11, g12, g13, -⟩ := hs1.at_ hn0
  have hz1 := hb1.size
  have bel1 := hb1.alloc hz1 (.cells #[.slice (some ⟨b1, o1, none⟩) n k1] 26)
  have hbw := heap_alloc_new w1 (.cells #[.slice (some ⟨b1, o1, none⟩) n k1] 26)
  have hsB := hs1.below ((Below.refl w1.heap.size w1).alloc (Nat.le_refl _) (.cells #[.slice (some ⟨b1, o1, none⟩) n k1] 26)) (.inr (Nat.le_refl _))
  have q2 := hide (cloneGame_calls _ n c g _ (h.out.below bel1 (Nat.le_refl _)) ok.out)
  replace hbw := hide hbw
  replace hsB := hide hsB
  replace bel1 := hide bel1
  clear q1 hs1 hb1
  go_wp2_with fail
  refine q2.out.mono ?_
  rintro e w2 ⟨b, c2, rfl, hG2, hbb, hb2⟩
  rw [World.size_alloc] at hbb hb2
  have hz2 := hb2.size
  rw [World.size_alloc] at hz2
  have hbl : b < w2.heap.size := (hG2.frozen hn0).2
  have bel2 := bel1.out.trans (hb2.mono (by omega))
  have hbw2 := hide ((hb2.block w1.heap.size (by omega)).trans hbw.out)
  have hs2 := hide ((hsB.out.below hb2 (.inl (by omega))).more (lo' := w.heap.size) (hi' := w1.heap.size) (Nat.le_refl _) (Nat.le_refl _))
  have q3 := hide (repeatI_calls _ 1 (-1) n (w2.alloc (.cells #[.int .i64 (-1)] 2)) _ _ (Sl.lit1' w2 2 (-1 : Int) _ rfl 1 w2.heap.size rfl) hn0 (by omega))
  replace hG2 := hide hG2
  replace bel2 := hide bel2
  clear q2 hbw hsB hb2
  go_wp2_with fail
  refine q3.out.mono ?_
  rintro e w3 ⟨A3, rfl, hs3, hb3⟩
  obtain ⟨bo, oo, rfl, hbo1, hbo2, hbo3, -⟩ := hs3.at_ hn0
  rw [World.size_alloc] at hbo1
  have hz3 := hb3.size
  rw [World.size_alloc] at hz3
  have hb23 : Below w2.heap.size w2 w3 := ((Below.refl _ _).alloc (Nat.le_refl _) _).trans (hb3.mono (by simp))
  have hG3 := hide ((hG2.out.withRow hn0 (row := some bo) (fun q e => by injection e with e; omega)).below hb23 (Nat.le_refl _))
  have hO3 : Hid (SlI w3 bo (bo + 1) (some ⟨bo, oo, none⟩) n (outK g n 0)) := by
    show SlI _ _ _ _ _ _
    have : outK g n 0 = List.replicate n (-1) := by unfold outK; rw [stateK_zero]; simp
    rw [this]
    exact Sl.tight' hs3 hn0
  have hbw3 := hide ((hb23.block w1.heap.size (by omega)).trans hbw2.out)
  have hs23 := hide (hs2.out.below hb23 (.inr (Nat.le_refl _)))
  have bel3 := hide (bel2.out.trans (hb23.mono (by have := bel2.out.size; exact this)))
  have hzw := bel3.out.size
  generalize hBW : w1.heap.size = BW at *
  clear hBW q3 hs3 hb3 hb23 hG2 hs2 hbw2 bel2
  go_wp2_with fail
  go_loopw [21] (fun i wr => ∃ k : Nat, k ≤ n ∧ i = .int .i64 k ∧ Hid (GameR wr b 0 n (stateK g k).1 (some bo)) ∧ Hid (SlI wr bo (bo + 1) (some ⟨bo, oo, none⟩) n (outK g n k)) ∧ Hid (Only b (bo + 1) w3 wr)) (fun i _ => n - (intOf i).toNat)
  case atStart => exact ⟨0, Nat.zero_le _, rfl, hG3, hO3, Only.refl _ _ _⟩
  case round =>
    obtain ⟨k, hk, rfl, hGR, hO, ho⟩ := hrel
    clear hG3 hO3
    by_cases hlt : k < n
    · have S := hst.out k hk
      have hsucc := stateK_succ g k
      have hlt' : k < g.length := by have := hgl.out; omega
      rcases hh : stateK g k with ⟨L, out⟩
      rw [hh] at S hsucc hGR
      have belr : Below w.heap.size w wr := Only.below bel3.out ho.out (by omega) hzw
      have hzr := ho.out.size
      obtain ⟨o, p, l, Ah, nh, ch, hx9, c0, c1', c2', hl, hnh, -⟩ := (h.out.below belr (Nat.le_refl _)).cell ok.out hlt
      have hx : L[k]? = some (o, p, l) := (S.later k (Nat.le_refl _)).trans hx9
      have hoL : gOwn L k = o := gOwn_at hx
      have hraw : gRaw L k = l := gRaw_at hx
      have hwonL : wonI L k = wonI g k := wonI_eq S.win S.len (by rw [S.len]; exact hlt')
      have y1 := (cell_of_row _ _ 0 _ _ (0, 0) ((ho.out.block BW (by omega) (.inl (by omega))).trans hbw3.out)).trans (show _ = some (Value.slice (some ⟨b1, o1, none⟩) n k1) from rfl)
      have hsr := hide (hs23.out.only ho.out (.inl (by omega)))
      obtain ⟨x0, hx0, m0, -⟩ := SlI.cell hsr.out hlt
      rw [winnersF_at hlt'] at hx0
      injection hx0 with hx0
      have i1 : (0 : Int) ≤ (k : Int) := by omega
      have i2 : (k : Int) < (n : Int) := by omega
      have y1a := alloc_cell (o := .cells #[.int .i64 o, .int .i64 p, .slice Ah nh ch] 49) (show BW < wr.heap.size by omega) y1
      have m0a := alloc_cell (o := .cells #[.int .i64 o, .int .i64 p, .slice Ah nh ch] 49) (show b1 < wr.heap.size by omega) m0
      replace S := hide S
      replace hsucc := hide hsucc
      replace hx9 := hide hx9
      replace hx := hide hx
      replace hoL := hide hoL
      replace hraw := hide hraw
      replace hwonL := hide hwonL
      replace hh := hide hh
      replace hl := hide hl
      replace belr := hide belr
      have hVN : Hid (∀ N, Below wr.heap.size wr ((wr.alloc (.cells #[.int .i64 o, .int .i64 p, .slice Ah nh ch] 49)).drewN N)) := fun N => ((Below.refl _ _).alloc (Nat.le_refl _) _).trans ((below_drewN _ N).mono (by simp))
      by_cases hw : o = wonI g k
      · have hne : (o != x0) = false := by rw [bne_eq_false_iff_eq, ← hx0]; exact hw
        obtain ⟨nn, hpk, -, -⟩ := pick_is S.out.ok (by rw [S.out.len]; exact hlt') (by rw [hoL.out, hwonL.out]; exact hw)
        rw [pick_own S.out.ok (by rw [hoL.out, hwonL.out]; exact hw), hraw.out] at hpk
        have hpo := hide (pick_own S.out.ok (v := k) (by rw [hoL.out, hwonL.out]; exact hw))
        rw [hraw.out] at hpo
        have hinc : Hid (∀ x, x ∈ l → 0 ≤ x ∧ x < L.length) := fun x hx => (S.out.ok.raw (v := k) (by rw [hraw.out]; exact hx)).2
        have hraw' : Hid (putN L k l = L) := by show _ = _; rw [← hraw.out]; exact putN_raw (by rw [S.out.len]; exact hlt')
        replace hpk := hide hpk
        clear hw
        go_wp2
        go_quiet (fail)
        have hV := hVN.out nq
        have hblkV : ((wr.alloc (.cells #[.int .i64 o, .int .i64 p, .slice Ah nh ch] 49)).drewN nq).heap[wr.heap.size]? = some (.cells #[.int .i64 o, .int .i64 p, .slice Ah nh ch] 49 (0, 0)) := heap_alloc_new wr _
        have hzV : wr.heap.size < ((wr.alloc (.cells #[.int .i64 o, .int .i64 p, .slice Ah nh ch] 49)).drewN nq).heap.size := by simp
        have hlV := hl.out.below hV (.inr (Nat.le_refl _))
        generalize (wr.alloc (.cells #[.int .i64 o, .int .i64 p, .slice Ah nh ch] 49)).drewN nq = V at *
        have c2V := (cell_of_row _ _ 2 _ _ (0, 0) hblkV).trans (show _ = some (Value.slice Ah nh ch) from rfl)
        have c0V := hide ((cell_of_row _ _ 0 _ _ (0, 0) hblkV).trans (show _ = some (Value.int .i64 o) from rfl))
        have y1V := hide ((hV.cell (p := ⟨BW, 0, none⟩) (show BW < wr.heap.size by omega)).trans y1)
        have hsV := hide (hsr.out.below hV (.inr (Nat.le_refl _)))
        have q4 := hide (cloneI2_calls Ah nh ch l V _ _ hlV hnh)
        replace hV := hide hV
        clear y1 m0 y1a m0a c0 c1' c2' hlV hblkV hVN hne hx0
        go_wp2_with fail
        refine q4.out.mono ?_
        rintro e w4 ⟨A4, c4, rfl, hc4, hs4, hb4⟩
        have hclos : ∀ (v : Int) (W : World), v ∈ l → Below V.heap.size w4 W → Calls Try.prog 65 (#[.int .i64 v] ++ #[.pointer (some ⟨BW, 0, none⟩), .pointer (some ⟨wr.heap.size, 0, none⟩)]) W (Says (!toOwn L k v) W) := by
          intro v W hv hW
          have hb := hb4.trans hW
          have hxv := hinc.out v hv
          have hvl : v.toNat < L.length := by omega
          have k0 := (hb.cell (p := ⟨BW, 0, none⟩) (show BW < V.heap.size by omega)).trans y1V.out
          have k1' := (hb.cell (p := ⟨wr.heap.size, 0, none⟩) hzV).trans c0V.out
          have hsW := (hsV.out.below hb (.inr (Nat.le_refl _))).top.more (lo' := 0) (Nat.zero_le _) (Nat.le_refl _)
          have hc := strategy1_calls v BW wr.heap.size (some ⟨b1, o1, none⟩) n k1 (winnersF g) o p Ah nh ch W ⟨hxv.1, by have h1 : L.length = g.length := S.out.len; have h2 := hgl.out; omega⟩ hsW k0 k1'
          have he : (!decide ((winnersF g)[v.toNat]?.getD 0 = o)) = !toOwn L k v := by
            unfold toOwn
            rw [← S.out.win, winnersF_at hvl, hoL.out]
            rfl
          rw [he] at hc
          exact hc
        have q5 := hide (deleteFuncI_calls 65 #[.pointer (some ⟨BW, 0, none⟩), .pointer (some ⟨wr.heap.size, 0, none⟩)] (fun x => !toOwn L k x) A4 nh c4 l w4 V.heap.size hs4 hc4 hnh hb4.size (fun v W => by kernel_rfl) hclos)
        clear hclos
        have hz4 := hb4.size
        replace hb4 := hide hb4
        clear q4 hs4
        go_wp2_with fail
        refine q5.out.mono ?_
        rintro e w5 ⟨m, c5, rfl, hm, hs5, hb5⟩
        have hfl : (l.filter fun x => !!toOwn L k x) = l.filter (toOwn L k) := by simp
        rw [hfl] at hs5
        have hsub : Hid (∀ x, x ∈ l.filter (toOwn L k) → 0 ≤ x ∧ x < L.length) := fun x hx => hinc.out x (List.mem_filter.1 hx).1
        generalize l.filter (toOwn L k) = ow at *
        have hlen := hide hs5.len
        have b5 := hV.out.trans ((hb4.out.trans hb5).mono hV.out.size)
        have hG5 := hGR.out.below b5 (Nat.le_refl _)
        have hO5 := hide (hO.out.below b5 (.inr (Nat.le_refl _)))
        have ho5 := hide (ho.out.trans (Below.only (lo := b) (hi := bo + 1) b5 (Nat.le_refl _)))
        have hzb := hV.out.size
        have hK0 : Hid (InnerP w5 b n L k ow (some bo) 0) := ⟨rfl, l, by rw [hraw'.out]; exact hG5⟩
        replace hs5 := hide hs5
        clear q5 hb5 b5 hG5 hfl
        go_wp2_with fail
        go_loopw [40] (fun i wi => ∃ i' : Nat, i' ≤ m ∧ i = .int .i64 i' ∧ Hid (InnerP wi b n L k ow (some bo) i') ∧ Hid (SlI wi bo (bo + 1) (some ⟨bo, oo, none⟩) n (outK g n k)) ∧ Hid (Only b (bo + 1) w5 wi)) (fun i _ => m - (intOf i).toNat)
        case atStart => exact ⟨0, Nat.zero_le _, rfl, hK0, hO5, Only.refl _ _ _⟩
        case round =>
          obtain ⟨i, hi, rfl, hK, hOi, hoi⟩ := hrel
          clear hK0 hO5
          by_cases hil : i < m
          · have hs5i := hs5.out.only hoi.out (.inr (show bo + 1 ≤ V.heap.size by omega))
            obtain ⟨b3, o3, x, rfl, q1', q2', q3', hx, p0, -⟩ := SlI.get hs5i hil
            have hxb := hsub.out x (List.mem_of_getElem? hx)
            have hLl : L.length = n := by have h1 : L.length = g.length := S.out.len; have h2 := hgl.out; omega
            have okx := hide (S.out.ok.putN (v := k) (show k < L.length by omega) hxb)
            have hlx : (putN L k [x]).length = n := by rw [putN_len]; exact hLl
            obtain ⟨hfind, X, hX⟩ := hK.out
            have hzi := hoi.out.size
            have hbow : bo < wr.heap.size := by
              obtain ⟨b9, o9, e9, -, -, h9, -⟩ := hOi.out.at_ hn0
              cases e9
              exact h9
            obtain ⟨⟨Ah5, nh5, ch5, n5⟩, z5, hbl5⟩ := hX.cellN hlt
            have hF := hide (hX.fix hlt x (fun q e => by injection e with e; omega))
            have n5a := alloc_cell (o := .cells #[.int .i64 x] 2) hbl5 n5
            have z5a := alloc_frozen (o := .cells #[.int .i64 x] 2) hbl5 z5
            have hOW := hide (((hOi.out.only ((Only.refl b (b + 1) wr).setCell (p := ⟨b, k * 3 + 2, none⟩) (Nat.le_refl _) (Nat.lt_succ_self _) (.slice (some ⟨wr.heap.size, 0, none⟩) 1 1)) (.inr (show b + 1 ≤ bo by omega))).below ((Below.refl _ (wr.setCell ⟨b, k * 3 + 2, none⟩ (.slice (some ⟨wr.heap.size, 0, none⟩) 1 1))).alloc (Nat.le_refl _) (.cells #[.int .i64 x] 2)) (.inr (Nat.le_refl _))))
            have hoW := hide (((ho5.out.trans hoi.out).setCell (p := ⟨b, k * 3 + 2, none⟩) (Nat.le_refl _) (show b < bo + 1 by omega) (.slice (some ⟨wr.heap.size, 0, none⟩) 1 1)).trans (Below.only (lo := b) (hi := bo + 1) ((Below.refl _ (wr.setCell ⟨b, k * 3 + 2, none⟩ (.slice (some ⟨wr.heap.size, 0, none⟩) 1 1))).alloc (Nat.le_refl _) (.cells #[.int .i64 x] 2)) (Nat.le_refl _)))
            have hol : Hid (Only b (bo + 1) w5 ((wr.setCell ⟨b, k * 3 + 2, none⟩ (.slice (some ⟨wr.heap.size, 0, none⟩) 1 1)).alloc (.cells #[.int .i64 x] 2))) := ((hoi.out.setCell (p := ⟨b, k * 3 + 2, none⟩) (Nat.le_refl _) (show b < bo + 1 by omega) (.slice (some ⟨wr.heap.size, 0, none⟩) 1 1)).trans (Below.only (lo := b) (hi := bo + 1) ((Below.refl _ (wr.setCell ⟨b, k * 3 + 2, none⟩ (.slice (some ⟨wr.heap.size, 0, none⟩) 1 1))).alloc (Nat.le_refl _) (.cells #[.int .i64 x] 2)) (Nat.le_refl _)))
            have hi1 : (0 : Int) ≤ (i : Int) := by omega
            have hi2 : (i : Int) < (m : Int) := by omega
            have ew : IntKind.i64.wrap ((m : Int) - 1) = (m : Int) - 1 := IntWalk.i64_in _ (by omega)
            replace hfind := hide hfind
            replace hx := hide hx
            replace hlx := hide hlx
            clear hs5i hX hK q1' q2' q3'
            by_cases hlast : i + 1 = m
            · have hcmp : ((i : Int) == (m : Int) - 1) = true := by rw [beq_iff_eq]; omega
              have hpx : Hid (pickF L k = some x) := by
                show _ = _
                rw [hpo.out, hpk.out]
                have e1 : ow = ow.take i ++ [x] := by
                  have := List.take_add_one (l := ow) (i := i)
                  rw [hx.out, List.take_of_length_le (by rw [hlen.out]; omega)] at this
                  exact this
                have h8 := hpk.out
                rw [e1, List.find?_append, hfind.out] at h8
                simp only [Option.none_or, List.find?_cons, List.find?_nil] at h8
                split at h8
                · exact h8.symm
                · cases h8
              go_wp2
              go_quiet (fail)
              have hGV := hide (hF.out.drewN nq)
              have hOV := hide (hOW.out.drewN nq)
              have hoV := hide (hoW.out.trans (Below.only (lo := b) (hi := bo + 1) (below_drewN _ nq) (Nat.le_refl _)))
              generalize ((wr.setCell ⟨b, k * 3 + 2, none⟩ (.slice (some ⟨wr.heap.size, 0, none⟩) 1 1)).alloc (.cells #[.int .i64 x] 2)).drewN nq = V9 at *
              clear n5 z5 n5a z5a p0 hF hOW hoW hol
              have hstep : Hid (stateK g (k + 1) = (putN L k [x], out ++ [x])) := hsucc.out.trans (stepF_some (s := (L, out)) hpx.out)
              have hout := hide (outK_some hlt S.out.out hh.out hstep.out)
              have hOx := hide (SlI.put' hOV.out hlt x)
              obtain ⟨y8, hy8, u8, f8⟩ := SlI.cell hOV.out hlt
              have hGx := hide (hGV.out.setRow (i := oo + k) (v := .int .i64 x) hn0)
              have hox := hide (hoV.out.setCell (p := ⟨bo, oo + k, none⟩) (show b ≤ bo by omega) (Nat.lt_succ_self _) (.int .i64 x))
              clear hy8 hOV hGV hoV
              go_wp2_with fail
              go_roundw
              case rel => exact ⟨k + 1, by omega, by go_num, by rw [hstep.out]; exact hGx.out, by rw [hout.out]; exact hOx.out, hox.out⟩
              case measure => simp [intOf]; omega
            · have hcmp : ((i : Int) == (m : Int) - 1) = false := by rw [beq_eq_false_iff_ne]; omega
              have hbd : Below ((wr.setCell ⟨b, k * 3 + 2, none⟩ (.slice (some ⟨wr.heap.size, 0, none⟩) 1 1)).alloc (.cells #[.int .i64 x] 2)).heap.size ((wr.setCell ⟨b, k * 3 + 2, none⟩ (.slice (some ⟨wr.heap.size, 0, none⟩) 1 1)).alloc (.cells #[.int .i64 x] 2)) ((wr.setCell ⟨b, k * 3 + 2, none⟩ (.slice (some ⟨wr.heap.size, 0, none⟩) 1 1)).alloc (.cells #[.int .i64 x] 2)).drew := (Below.refl _ _).drew
              have hoD := hide (hoW.out.trans (Below.only (lo := b) (hi := bo + 1) hbd (Nat.le_refl _)))
              have yW : ((wr.setCell ⟨b, k * 3 + 2, none⟩ (.slice (some ⟨wr.heap.size, 0, none⟩) 1 1)).alloc (.cells #[.int .i64 x] 2)).drew.cell? ⟨BW, 0, none⟩ = some (.slice (some ⟨b1, o1, none⟩) n k1) := only_cell hoD.out (show BW < w3.heap.size by omega) (.inl (by omega)) ((cell_of_row _ _ 0 _ _ (0, 0) hbw3.out).trans (show _ = some (Value.slice (some ⟨b1, o1, none⟩) n k1) from rfl))
              have hBWlt : BW < ((wr.setCell ⟨b, k * 3 + 2, none⟩ (.slice (some ⟨wr.heap.size, 0, none⟩) 1 1)).alloc (.cells #[.int .i64 x] 2)).drew.heap.size := by simp; omega
              have hbb0 : BW ≤ b := by omega
              have qw := winners_calls (some ⟨b, 0, none⟩) c2 (putN L k [x]) ((wr.setCell ⟨b, k * 3 + 2, none⟩ (.slice (some ⟨wr.heap.size, 0, none⟩) 1 1)).alloc (.cells #[.int .i64 x] 2)).drew (by rw [hlx.out]; exact (hF.out.gw.at).below hbd (Nat.le_refl _)) okx.out
              rw [hlx.out] at qw
              replace qw := hide qw
              have yV : ((wr.setCell ⟨b, k * 3 + 2, none⟩ (.slice (some ⟨wr.heap.size, 0, none⟩) 1 1)).alloc (.cells #[.int .i64 x] 2)).cell? ⟨BW, 0, none⟩ = some (.slice (some ⟨b1, o1, none⟩) n k1) := yW
              obtain ⟨bk, hbk⟩ : ∃ bk, keeps (winnersF L) L k x = bk := ⟨_, rfl⟩
              have hwin : winnersF L = winnersF g := S.out.win
              cases bk
              · have hdec : decide (winnersF (putN L k [x]) = winnersF g) = false := by rw [← hwin]; exact hbk
                have hmiss := hide (find_take_step hfind.out hx.out hbk)
                clear hwin hbk
                have qe : Hid (∀ (A6 : Option Addr) (c6 : Nat) (w6 : World) (lo hi lo' hi' : Nat), SlI w6 lo hi A6 n (winnersF (putN L k [x])) → SlI w6 lo' hi' (some ⟨b1, o1, none⟩) n (winnersF g) → Calls Try.prog 66 #[.slice A6 n c6, .slice (some ⟨b1, o1, none⟩) n k1] w6 fun e w' => e = .returned (.bool false) ∧ Below w6.heap.size w6 w') := fun A6 c6 w6 lo hi lo' hi' ha hb => by
                  have := equalI_calls A6 (some ⟨b1, o1, none⟩) n n c6 k1 _ _ w6 _ _ _ _ ha hb (by omega) (by omega)
                  rw [hdec] at this
                  exact this
                clear hdec
                go_wp2
                go_region_held3 (fun w' => w'.cell? ⟨BW, 0, none⟩ = some (.slice (some ⟨b1, o1, none⟩) n k1)) (first | exact y7 | exact y6 | go_keep)
                  (first
                    | (go_at_call 24; (refine qw.out.mono ?_); rintro e w6 ⟨A6, c6, rfl, hs6, hb6⟩; have y6 := (hb6.cell (p := ⟨BW, 0, none⟩) hBWlt).trans yW; have hs26 := hide (hs23.out.only (hoD.out.trans (Below.only (lo := b) (hi := bo + 1) hb6 (Nat.le_refl _))) (.inl hbb0)); replace hs6 := hide hs6; replace hb6 := hide hb6)
                    | (go_at_call 66; (refine (qe.out A6 c6 w6 _ _ _ _ hs6.out hs26.out).mono ?_); rintro e w7 ⟨rfl, hb7⟩; have y7 := (hb7.cell (p := ⟨BW, 0, none⟩) (Nat.lt_of_lt_of_le hBWlt hb6.out.size)).trans y6; replace hb7 := hide hb7))
                have b7 := hb6.out.trans (hb7.out.mono hb6.out.size)
                have hG7 := (hF.out.below hbd (Nat.le_refl _)).below b7 (Nat.le_refl _)
                have hK7 : Hid (InnerP w7 b n L k ow (some bo) (i + 1)) := ⟨hmiss.out, [x], hG7⟩
                have hO7 := hide ((hOW.out.below hbd (.inr (Nat.le_refl _))).below b7 (.inr (Nat.le_refl _)))
                have ho7 := hide ((hol.out.trans (Below.only (lo := b) (hi := bo + 1) hbd (Nat.le_refl _))).trans (Below.only (lo := b) (hi := bo + 1) b7 (Nat.le_refl _)))
                clear b7 hG7
                go_wp2_with fail
                go_roundw
                case rel => exact ⟨i + 1, by omega, by go_num, hK7, hO7, ho7⟩
                case measure => simp [intOf]; omega
              · have hdec : decide (winnersF (putN L k [x]) = winnersF g) = true := by rw [← hwin]; exact hbk
                have hpx : Hid (pickF L k = some x) := by show _ = _; rw [hpo.out]; exact find_hit hfind.out hx.out hbk
                clear hwin hbk
                have qe : Hid (∀ (A6 : Option Addr) (c6 : Nat) (w6 : World) (lo hi lo' hi' : Nat), SlI w6 lo hi A6 n (winnersF (putN L k [x])) → SlI w6 lo' hi' (some ⟨b1, o1, none⟩) n (winnersF g) → Calls Try.prog 66 #[.slice A6 n c6, .slice (some ⟨b1, o1, none⟩) n k1] w6 fun e w' => e = .returned (.bool true) ∧ Below w6.heap.size w6 w') := fun A6 c6 w6 lo hi lo' hi' ha hb => by
                  have := equalI_calls A6 (some ⟨b1, o1, none⟩) n n c6 k1 _ _ w6 _ _ _ _ ha hb (by omega) (by omega)
                  rw [hdec] at this
                  exact this
                clear hdec
                go_wp2
                go_region_held3 (fun w' => w'.cell? ⟨BW, 0, none⟩ = some (.slice (some ⟨b1, o1, none⟩) n k1)) (first | exact y7 | exact y6 | go_keep)
                  (first
                    | (go_at_call 24; (refine qw.out.mono ?_); rintro e w6 ⟨A6, c6, rfl, hs6, hb6⟩; have y6 := (hb6.cell (p := ⟨BW, 0, none⟩) hBWlt).trans yW; have hs26 := hide (hs23.out.only (hoD.out.trans (Below.only (lo := b) (hi := bo + 1) hb6 (Nat.le_refl _))) (.inl hbb0)); replace hs6 := hide hs6; replace hb6 := hide hb6)
                    | (go_at_call 66; (refine (qe.out A6 c6 w6 _ _ _ _ hs6.out hs26.out).mono ?_); rintro e w7 ⟨rfl, hb7⟩; have y7 := (hb7.cell (p := ⟨BW, 0, none⟩) (Nat.lt_of_lt_of_le hBWlt hb6.out.size)).trans y6; replace hb7 := hide hb7))
                have b7 := hb6.out.trans (hb7.out.mono hb6.out.size)
                have hGV := hide ((hF.out.below hbd (Nat.le_refl _)).below b7 (Nat.le_refl _))
                have hOV := hide ((hOW.out.below hbd (.inr (Nat.le_refl _))).below b7 (.inr (Nat.le_refl _)))
                have hoV := hide (hoD.out.trans (Below.only (lo := b) (hi := bo + 1) b7 (Nat.le_refl _)))
                clear b7
                have hstep : Hid (stateK g (k + 1) = (putN L k [x], out ++ [x])) := hsucc.out.trans (stepF_some (s := (L, out)) hpx.out)
                have hout := hide (outK_some hlt S.out.out hh.out hstep.out)
                have hOx := hide (SlI.put' hOV.out hlt x)
                obtain ⟨y8, hy8, u8, f8⟩ := SlI.cell hOV.out hlt
                have hGx := hide (hGV.out.setRow (i := oo + k) (v := .int .i64 x) hn0)
                have hox := hide (hoV.out.setCell (p := ⟨bo, oo + k, none⟩) (show b ≤ bo by omega) (Nat.lt_succ_self _) (.int .i64 x))
                clear hy8 hOV hGV hoV
                go_wp2_with fail
                go_roundw
                case rel => exact ⟨k + 1, by omega, by go_num, by rw [hstep.out]; exact hGx.out, by rw [hout.out]; exact hOx.out, hox.out⟩
                case measure => simp [intOf]; omega
          · exfalso
            have : i = m := by omega
            subst this
            have h8 := hK.out.1
            rw [List.take_of_length_le (by rw [hlen.out]; exact Nat.le_refl _), hpk.out] at h8
            cases h8
      · have hne : (o != x0) = true := by rw [bne_iff_ne, ← hx0]; exact hw
        have hpk : Hid (pickF L k = none) := by show _ = _; unfold pickF; rw [if_neg (by rw [hoL.out, hwonL.out]; exact hw)]
        have hstep : Hid (stateK g (k + 1) = (L, out ++ [-1])) := hsucc.out.trans (stepF_none hpk.out)
        have hout := hide (outK_none hlt hh.out hstep.out)
        clear hw
        go_wp2
        go_quiet (fail)
        have hG6 := hide (hGR.out.below (hVN.out nq) (Nat.le_refl _))
        have hO6 := hide (hO.out.below (hVN.out nq) (.inr (Nat.le_refl _)))
        have ho6 := hide (ho.out.trans (Below.only (lo := b) (hi := bo + 1) (hVN.out nq) (Nat.le_refl _)))
        go_wp2
        go_roundw
        case rel => exact ⟨k + 1, by omega, by go_num, by rw [hstep.out]; exact hG6.out, by rw [hout.out]; exact hO6.out, ho6.out⟩
        case measure => simp [intOf]; omega
    · have hkn : k = n := by omega
      subst hkn
      have hfin : Hid (stratF g = outK g k k) := by show _ = _; unfold stratF outK; rw [← hgl.out]; simp
      have hbF : Hid (Below w.heap.size w wr) := Only.below bel3.out ho.out (by omega) hzw
      clear h hst
      go_wp2_with fail
      go_ret
      exact ⟨_, _, rfl, by rw [hfin.out]; exact hO.out.top.more (by omega) (Nat.le_refl _), hbF.out⟩


end Go.Proofs.Ythmhlbkkhaplkaa

namespace Go.Proofs.Ythmhlbkkhaplkaa
open Go.ChangeShapes Go.WideShapes Go.ChangeAt Go.RowKit
set_option linter.unusedVariables false
set_option linter.unusedSimpArgs false

theorem r8Long_no (A B : Option Addr) (n m c d : Nat) (w : World) (hn : n ≤ 1048576) (hm : m ≤ 1048576) :
    Calls Try.prog 5 #[.slice A n c, .slice B m d] w fun e w' => e = .returned (.bool false) ∧ w = w' := by
  have h1 : ¬ (1048576 : Int) < (n : Int) := by omega
  have h2 : ¬ (1048576 : Int) < (m : Int) := by omega
  go_enter Try.func5, Try.ntmps5
  go_wp2_with fail
  go_ret
  exact ⟨rfl, rfl⟩
theorem r8Long_yes (A B : Option Addr) (n m c d : Nat) (w : World) (h : 1048576 < n ∨ 1048576 < m) :
    Calls Try.prog 5 #[.slice A n c, .slice B m d] w fun e w' => e = .returned (.bool true) ∧ w = w' := by
  by_cases h1 : (1048576 : Int) < (n : Int)
  · go_enter Try.func5, Try.ntmps5
    go_wp2_with fail
    go_ret
    exact ⟨rfl, rfl⟩
  · have h2 : (1048576 : Int) < (m : Int) := by omega
    go_enter Try.func5, Try.ntmps5
    go_wp2_with fail
    go_ret
    exact ⟨rfl, rfl⟩
theorem WinnersOf_g (A : Option Addr) (n c : Nat) (g : DV) (w : World) (hg : GameAt w A n g) (ok : GameOk g) :
    Calls Try.prog 8 #[.slice A n c] w fun e w' => ∃ A' c', e = .returned (.tuple #[.slice A' n c', .int .i64 0]) ∧ SlI w' w.heap.size w'.heap.size A' n (winnersF g) ∧ Below w.heap.size w w' := by
  obtain rfl := hg.len
  have q1 := hide (gameAt_valid (c := c) hg ok)
  have q2 := hide (fun W (hW : Below w.heap.size w W) => winners_calls A c g W (hg.below hW (Nat.le_refl _)) ok)
  clear hg
  go_enter Try.func8, Try.ntmps8
  go_wp2_with fail
  refine q1.out.mono ?_
  rintro e w1 ⟨rfl, hb1⟩
  replace hb1 := hide hb1
  go_wp2_with fail
  refine (q2.out _ hb1.out).mono ?_
  rintro e w2 ⟨A2, c2, rfl, hs, hb2⟩
  have hb3 := hide (hb1.out.trans (hb2.mono hb1.out.size))
  replace hs := hide (hs.more (hb1.out.size) (Nat.le_refl _))
  clear hb2 q1 q2
  go_wp2_with fail
  go_ret2
  exact ⟨_, _, rfl, hs.out, hb3.out⟩
theorem StrategyOf_g (A : Option Addr) (n c : Nat) (g : DV) (w : World) (hg : GameAt w A n g) (ok : GameOk g) :
    Calls Try.prog 9 #[.slice A n c] w fun e w' => ∃ A' c', e = .returned (.tuple #[.slice A' n c', .int .i64 0]) ∧ SlI w' w.heap.size w'.heap.size A' n (stratF g) ∧ Below w.heap.size w w' := by
  have q1 := hide (gameAt_valid (c := c) hg ok)
  have q2 := hide (fun W (hW : Below w.heap.size w W) => strategy_calls A n c g W (hg.below hW (Nat.le_refl _)) ok)
  clear hg
  go_enter Try.func9, Try.ntmps9
  go_wp2_with fail
  refine q1.out.mono ?_
  rintro e w1 ⟨rfl, hb1⟩
  replace hb1 := hide hb1
  go_wp2_with fail
  refine (q2.out _ hb1.out).mono ?_
  rintro e w2 ⟨A2, c2, rfl, hs, hb2⟩
  have hb3 := hide (hb1.out.trans (hb2.mono hb1.out.size))
  replace hs := hide (hs.more (hb1.out.size) (Nat.le_refl _))
  clear hb2 q1 q2
  go_wp2_with fail
  go_ret2
  exact ⟨_, _, rfl, hs.out, hb3.out⟩

end Go.Proofs.Ythmhlbkkhaplkaa

namespace Go.Proofs.Ythmhlbkkhaplkaa
open Go.ChangeShapes Go.WideShapes Go.Deep Go.RowKit
set_option linter.unusedVariables false

theorem u8_wf {n : Int} (h : (Lit.int .u8 n).wf = true) : 0 ≤ n ∧ n ≤ 255 := by
  simp [Lit.wf, IntKind.min, IntKind.max, IntKind.signed, IntKind.bits] at h
  omega
section
variable {H : Type} {enc : TypeId × Value → H} {P : Program} {w : World} {base : Nat} {spare : Nat → Bool} {held : Bool}
theorem open_SlU {t e : TypeId} (ht : P.underlying t = some (.slice e)) (hC : P.cellsOf e = 1) (hi : P.underlying e = some (.int .u8)) {v : Value} {d : DataW H} {p : List MemPlace} (h : DataW.Trod enc P w base spare held t v d p)
    {n' c' : Nat} {A' : Option Addr} (hv : v = .slice A' n' c') (hz : ∀ b off, MemPlace.cell b off ∈ p → w.frozen? ⟨b, off, none⟩ = false) : ∃ A n c l, v = .slice A n c ∧ n ≤ maxLen ∧ SlU w base w.heap.size A n l ∧ ∀ x, x ∈ l → 0 ≤ x ∧ x ≤ 255 := by
  obtain ⟨fuel, hf⟩ := h
  have key := open_flat (w := w) (base := base) (spare := spare) (held := held) (fun x : {n : Int // 0 ≤ n ∧ n ≤ 255} => byv x.1) ht hC (by omega) (fun fuel cs y hy hl => by
    obtain ⟨a, ea, _, hw⟩ := DataW.trod_int hi hy
    exact ⟨⟨a, u8_wf hw⟩, ea⟩) hf hz
  obtain ⟨A, n, c, l, e1, e2, e3⟩ := key
  subst hv
  simp [Value.cells] at e1
  refine ⟨A, n, c, l.map Subtype.val, by simp [e1], e2, ⟨by rw [List.length_map]; exact e3.1, fun hn => ?_⟩, fun x hx => ?_⟩
  · obtain ⟨b, off, q1, q2, q3, q4, q5⟩ := e3.2 hn
    refine ⟨b, off, q1, q2, q3, q4, fun k x hx j u hu => ?_⟩
    rw [List.getElem?_map] at hx
    cases hk : l[k]? with
    | none => rw [hk] at hx; cases hx
    | some y =>
      rw [hk] at hx
      cases hx
      exact q5 k y hk j u hu
  · obtain ⟨y, -, rfl⟩ := List.mem_map.1 hx
    exact y.2
end

end Go.Proofs.Ythmhlbkkhaplkaa

namespace Go.Proofs.Ythmhlbkkhaplkaa
set_option linter.unusedVariables false
set_option linter.unusedSimpArgs false

/-- The product of the last k digits' ranges. -/
def bdN (m : Nat → Nat) : Nat → Nat
  | 0 => 1
  | k + 1 => (m (4 - k) + 1) * bdN m k
/-- The last k digits as a number. -/
def encN (m d : Nat → Nat) : Nat → Nat
  | 0 => 0
  | k + 1 => d (4 - k) * bdN m k + encN m d k
section
variable {m d e : Nat → Nat}
theorem bdN_pos (m : Nat → Nat) : ∀ k, 0 < bdN m k
  | 0 => Nat.one_pos
  | k + 1 => Nat.mul_pos (Nat.succ_pos _) (bdN_pos m k)
theorem bdN_dvd (m : Nat → Nat) (j : Nat) : ∀ k, bdN m j ∣ bdN m (j + k)
  | 0 => Nat.dvd_refl _
  | k + 1 => Nat.dvd_trans (bdN_dvd m j k) ⟨m (4 - (j + k)) + 1, by rw [← Nat.add_assoc, Nat.mul_comm]; rfl⟩
theorem bdN_dvd' (m : Nat → Nat) {j k : Nat} (h : j ≤ k) : bdN m j ∣ bdN m k := by
  have := bdN_dvd m j (k - j)
  rwa [show j + (k - j) = k by omega] at this
theorem encN_lt : ∀ k, (∀ j, j < k → d (4 - j) ≤ m (4 - j)) → encN m d k < bdN m k
  | 0, _ => Nat.one_pos
  | k + 1, h => by
    have ih := encN_lt k fun j hj => h j (by omega)
    have h1 := Nat.mul_le_mul_right (bdN m k) (h k (by omega))
    show d (4 - k) * bdN m k + encN m d k < (m (4 - k) + 1) * bdN m k
    rw [Nat.add_mul, Nat.one_mul]
    omega
theorem encN_congr : ∀ k, k ≤ 5 → (∀ j, 5 - k ≤ j → j < 5 → d j = e j) → encN m d k = encN m e k
  | 0, _, _ => rfl
  | k + 1, hk, h => by
    show d (4 - k) * bdN m k + encN m d k = e (4 - k) * bdN m k + encN m e k
    rw [encN_congr k (by omega) fun j h1 h2 => h j (by omega) h2, h (4 - k) (by omega) (by omega)]
theorem encN_zero : ∀ k, encN m (fun _ => 0) k = 0
  | 0 => rfl
  | k + 1 => by show 0 * _ + encN m _ k = 0; rw [encN_zero k]; simp
/-- One more at digit i. -/
theorem encN_inc {i : Nat} (hi : i < 5) : ∀ k, k ≤ 5 → encN m (fun j => if j = i then d j + 1 else d j) k = encN m d k + if 4 - i < k then bdN m (4 - i) else 0
  | 0, _ => by simp [encN]
  | k + 1, hk => by
    have ih := encN_inc hi k (by omega)
    show (if 4 - k = i then d (4 - k) + 1 else d (4 - k)) * bdN m k + encN m _ k = d (4 - k) * bdN m k + encN m d k + _
    rw [ih]
    by_cases c : 4 - k = i
    · rw [if_pos c, if_neg (by omega), if_pos (by omega), show 4 - i = k by omega, Nat.add_mul, Nat.one_mul]
      omega
    · rw [if_neg c]
      by_cases c2 : 4 - i < k
      · rw [if_pos c2, if_pos (by omega)]; omega
      · rw [if_neg c2, if_neg (by omega)]; rfl
/-- The first n digits. -/
theorem encN_cut {n : Nat} (hn : n ≤ 5) (hb : ∀ j, j < 5 → d j ≤ m j) : ∀ k, k ≤ 5 → encN m (fun j => if j < n then d j else 0) k = if 5 - n ≤ k then encN m d k / bdN m (5 - n) * bdN m (5 - n) else 0
  | 0, _ => by
    show 0 = _
    split
    · show 0 = 0 / _ * _; rw [Nat.zero_div, Nat.zero_mul]
    · rfl
  | k + 1, hk => by
    have ih := encN_cut hn hb k (by omega)
    show (if 4 - k < n then d (4 - k) else 0) * bdN m k + encN m _ k = _
    rw [ih]
    by_cases c : 5 - n ≤ k
    · rw [if_pos c, if_pos (by omega), if_pos (by omega)]
      show _ = (d (4 - k) * bdN m k + encN m d k) / _ * _
      obtain ⟨q, hq⟩ := bdN_dvd' m c
      have hp := bdN_pos m (5 - n)
      rw [hq, show d (4 - k) * (bdN m (5 - n) * q) = bdN m (5 - n) * (d (4 - k) * q) by rw [Nat.mul_left_comm], Nat.mul_add_div hp, Nat.add_mul, Nat.mul_comm (d (4 - k) * q)]
    · rw [if_neg c]
      by_cases c2 : 5 - n ≤ k + 1
      · rw [if_pos c2, if_neg (by omega), Nat.zero_mul, Nat.zero_add]
        have h1 := encN_lt (m := m) (d := d) (k + 1) fun j hj => hb _ (by omega)
        rw [show 5 - n = k + 1 by omega, Nat.div_eq_of_lt h1, Nat.zero_mul]
      · rw [if_neg c2, if_neg (by omega), Nat.zero_mul]
end

/-- How many vertices have the bad priority with an index. -/
def mostF (g : DV) (p : Int) (i : Nat) : Nat := g.countP fun x => decide (x.2.1 % 2 ≠ p ∧ x.2.1 / 2 = (i : Int))
/-- How many numbers of a row are for bad priorities that are at most a priority. -/
def upF (p : Int) (q : Int) : Nat := ((q + 1 + p) / 2).toNat
def topF (g : DV) (p : Int) : Nat := bdN (mostF g p) 5
/-- What is cut off at a priority. -/
def cutF (g : DV) (p q : Int) : Nat := bdN (mostF g p) (5 - upF p q)
/-- The least number that is enough for a vertex with a priority and the number of another one. -/
def needF (g : DV) (p q : Int) (x : Nat) : Nat := if topF g p ≤ x then topF g p else x / cutF g p q * cutF g p q + if q % 2 = p then 0 else cutF g p q
section
variable {g : DV} {p q : Int} {x y : Nat}
theorem cutF_pos (g : DV) (p q : Int) : 0 < cutF g p q := bdN_pos _ _
theorem cutF_dvd (g : DV) (p q : Int) : cutF g p q ∣ topF g p := bdN_dvd' _ (by omega)
theorem cut_next {x B T : Nat} (hB : 0 < B) (hd : B ∣ T) (hx : x < T) : x / B * B + B ≤ T := by
  obtain ⟨k, rfl⟩ := hd
  have : x / B < k := Nat.div_lt_of_lt_mul hx
  have := Nat.mul_le_mul_left B (show x / B + 1 ≤ k by omega)
  rw [Nat.mul_add, Nat.mul_one, Nat.mul_comm] at this
  exact this
theorem needF_le : needF g p q x ≤ topF g p := by
  unfold needF
  split
  · exact Nat.le_refl _
  · rename_i h
    have := cut_next (cutF_pos g p q) (cutF_dvd g p q) (Nat.lt_of_not_le h)
    split <;> omega
theorem needF_mono (h : x ≤ y) : needF g p q x ≤ needF g p q y := by
  by_cases c : topF g p ≤ y
  · have e : needF g p q y = topF g p := by unfold needF; rw [if_pos c]
    rw [e]; exact needF_le
  · unfold needF
    rw [if_neg c, if_neg (by omega)]
    have := Nat.mul_le_mul_right (cutF g p q) (Nat.div_le_div_right (c := cutF g p q) h)
    omega
/-- The same by whole parts. -/
theorem needF_iff (hx : x < topF g p) (hy : y < topF g p) : needF g p q x ≤ y ↔ (if q % 2 = p then x / cutF g p q ≤ y / cutF g p q else x / cutF g p q < y / cutF g p q) := by
  have hB := cutF_pos g p q
  unfold needF
  rw [if_neg (by omega)]
  by_cases c : q % 2 = p
  · rw [if_pos c, if_pos c, Nat.add_zero, Nat.le_div_iff_mul_le hB]
  · rw [if_neg c, if_neg c, ← Nat.add_one_le_iff, Nat.le_div_iff_mul_le hB, Nat.add_mul, Nat.one_mul]

/-- Numbers that are enough everywhere. -/
structure PreF (g : DV) (p : Int) (μ : Nat → Nat) : Prop where
  own : ∀ v, v < g.length → gOwn g v = p → μ v < topF g p → ∃ u, u ∈ gNxt g v ∧ needF g p (gPri g v) (μ u) ≤ μ v
  opp : ∀ v, v < g.length → gOwn g v ≠ p → ∀ u, u ∈ gNxt g v → needF g p (gPri g v) (μ u) ≤ μ v
variable {μ : Nat → Nat}
theorem need_top (h : needF g p q x < topF g p) : x < topF g p := by
  unfold needF at h
  split at h
  · omega
  · omega
/-- On an infinite walk some priority is the least of those that come again and again. -/
theorem inf_least (ok : GameOk g) {f : Nat → Nat} (hf : ∀ i, f i < g.length) : ∃ m, (∀ N, ∃ i, N ≤ i ∧ gPri g (f i) = m) ∧ ∃ N, ∀ i, N ≤ i → m ≤ gPri g (f i) := by
  classical
  have key : ∀ k : Nat, k ≤ 10 → (∃ m, (∀ N, ∃ i, N ≤ i ∧ gPri g (f i) = m) ∧ ∃ N, ∀ i, N ≤ i → m ≤ gPri g (f i)) ∨ ∃ N, ∀ i, N ≤ i → (k : Int) ≤ gPri g (f i) := by
    intro k
    induction k with
    | zero => exact fun _ => .inr ⟨0, fun i _ => (ok.pri (hf i)).1⟩
    | succ k ih =>
      intro hk
      rcases ih (by omega) with h | ⟨N, h⟩
      · exact .inl h
      · by_cases c : ∀ M, ∃ i, M ≤ i ∧ gPri g (f i) = (k : Int)
        · exact .inl ⟨_, c, N, h⟩
        · obtain ⟨M, hM⟩ := Classical.not_forall.1 c
          refine .inr ⟨N + M, fun i hi => ?_⟩
          have h1 := h i (by omega)
          have h2 : gPri g (f i) ≠ (k : Int) := fun e => hM ⟨i, by omega, e⟩
          omega
  rcases key 10 (Nat.le_refl _) with h | ⟨N, h⟩
  · exact h
  · have h1 := h N (Nat.le_refl _)
    have h2 := (ok.pri (hf N)).2
    omega
theorem upF_mono (hp : p = 0 ∨ p = 1) {a b : Int} (h : a ≤ b) : upF p a ≤ upF p b := by unfold upF; omega
theorem cutF_mono (hp : p = 0 ∨ p = 1) {a b : Int} (h : a ≤ b) : cutF g p b ∣ cutF g p a := bdN_dvd' _ (by have := upF_mono hp h; omega)
theorem div_cut {x B C : Nat} (hB : 0 < B) (hd : B ∣ C) : x / B * B / C = x / C := by
  obtain ⟨k, rfl⟩ := hd
  rw [← Nat.div_div_eq_div_mul, Nat.mul_div_cancel _ hB, Nat.div_div_eq_div_mul]
/-- Who has numbers that are enough wins where they are not the greatest. -/
theorem pre_wins (ok : GameOk g) (hp : p = 0 ∨ p = 1) (h : PreF g p μ) {v : Nat} (hv : v < g.length) (hm : μ v < topF g p) : wonI g v = p := by
  classical
  let σ : Nat → Nat := fun v => if c : v < g.length ∧ gOwn g v = p ∧ μ v < topF g p then Classical.choose (h.own v c.1 c.2.1 c.2.2) else 0
  have hσ : ∀ v, v < g.length → gOwn g v = p → μ v < topF g p → σ v ∈ gNxt g v ∧ needF g p (gPri g v) (μ (σ v)) ≤ μ v := fun v a b c => by
    show (if c : v < g.length ∧ gOwn g v = p ∧ μ v < topF g p then Classical.choose (h.own v c.1 c.2.1 c.2.2) else 0) ∈ _ ∧ _ ≤ _
    have e : σ v = Classical.choose (h.own v a b c) := dif_pos ⟨a, b, c⟩
    rw [dif_pos ⟨a, b, c⟩]
    refine ⟨(Classical.choose_spec (h.own v a b c)).1, ?_⟩
    rw [e]
    exact (Classical.choose_spec (h.own v a b c)).2
  have hcert : Cert g (· < g.length) p (fun v => v < g.length ∧ μ v < topF g p) σ := by
    refine ⟨fun v hv => hv.1, fun v hv ho => ?_, fun v hv ho u hu hl => ?_, fun f hf => ?_⟩
    · obtain ⟨a, b⟩ := hσ v hv.1 ho hv.2
      exact ⟨a, .inl ⟨ok.succ _ _ a, need_top (Nat.lt_of_le_of_lt b hv.2)⟩⟩
    · exact .inl ⟨hl, need_top (Nat.lt_of_le_of_lt (h.opp v hv.1 ho u hu) hv.2)⟩
    · have hst : ∀ i, needF g p (gPri g (f i)) (μ (f (i + 1))) ≤ μ (f i) := fun i => by
        by_cases ho : gOwn g (f i) = p
        · rw [hf.own i ho]; exact (hσ _ (hf.mem i).1 ho (hf.mem i).2).2
        · exact h.opp _ (hf.mem i).1 ho _ (hf.go i)
      obtain ⟨q, hq, N, hN⟩ := inf_least ok fun i => (hf.mem i).1
      refine ⟨q, ?_, hq, N, hN⟩
      refine Classical.byContradiction fun hbad => ?_
      have hnn : ∀ i, needF g p (gPri g (f i)) (μ (f (i + 1))) = μ (f (i + 1)) / cutF g p (gPri g (f i)) * cutF g p (gPri g (f i)) + if gPri g (f i) % 2 = p then 0 else cutF g p (gPri g (f i)) := fun i => by
        unfold needF
        rw [if_neg (by have := (hf.mem (i + 1)).2; omega)]
      have hle : ∀ i, N ≤ i → μ (f (i + 1)) / cutF g p q ≤ μ (f i) / cutF g p q := fun i hi => by
        have h1 := hst i
        rw [hnn i] at h1
        have h2 := Nat.div_le_div_right (c := cutF g p q) (Nat.le_trans (Nat.le_add_right _ _) h1)
        rwa [div_cut (cutF_pos _ _ _) (cutF_mono hp (hN i hi))] at h2
      have hlt : ∀ i, N ≤ i → gPri g (f i) = q → μ (f (i + 1)) / cutF g p q < μ (f i) / cutF g p q := fun i hi e => by
        have h1 := hst i
        rw [hnn i, e, if_neg hbad] at h1
        rw [← Nat.add_one_le_iff, Nat.le_div_iff_mul_le (cutF_pos _ _ _), Nat.add_mul, Nat.one_mul]
        exact h1
      have hmono : ∀ j i, N ≤ i → μ (f (i + j)) / cutF g p q ≤ μ (f i) / cutF g p q := fun j => by
        induction j with
        | zero => exact fun i _ => Nat.le_refl _
        | succ j ih => exact fun i hi => Nat.le_trans (hle (i + j) (by omega)) (ih i hi)
      have hno : ∀ k i, N ≤ i → μ (f i) / cutF g p q ≤ k → False := fun k => by
        induction k with
        | zero =>
          intro i hi hk
          obtain ⟨j, hj, e⟩ := hq i
          have h1 := hmono (j - i) i hi
          rw [show i + (j - i) = j by omega] at h1
          have h2 := hlt j (by omega) e
          exact Nat.not_lt_zero _ (Nat.lt_of_lt_of_le h2 (Nat.le_trans h1 hk))
        | succ k ih =>
          intro i hi hk
          obtain ⟨j, hj, e⟩ := hq i
          have h1 := hmono (j - i) i hi
          rw [show i + (j - i) = j by omega] at h1
          have h2 := hlt j (by omega) e
          exact ih (j + 1) (by omega) (by omega)
      exact hno _ N (Nat.le_refl _) (Nat.le_refl _)
  rcases hp with rfl | rfl
  · unfold wonI; rw [cert_won0 ok.owned ok.succ hcert (v := v) ⟨hv, hm⟩]; rfl
  · unfold wonI; rw [cert_won1 ok.owned ok.succ hcert (v := v) ⟨hv, hm⟩]; rfl
end

/-! ### Who wins has numbers that are enough -/
section
variable {g : DV} {p : Int} {W : Nat → Prop} {σ : Nat → Nat}
/-- The bad priority with an index. -/
def badF (p : Int) (i : Nat) : Int := 2 * i + 1 - p
/-- A move when player p moves by σ. -/
def MvS (g : DV) (p : Int) (σ : Nat → Nat) (a b : Nat) : Prop := b ∈ gNxt g a ∧ (gOwn g a = p → b = σ a)
def ChnS (g : DV) (p : Int) (σ : Nat → Nat) : List Nat → Prop
  | [] => True
  | [_] => True
  | a :: b :: l => MvS g p σ a b ∧ ChnS g p σ (b :: l)
theorem ChnS.tail {a : Nat} {l : List Nat} (h : ChnS g p σ (a :: l)) : ChnS g p σ l := by
  cases l with
  | nil => trivial
  | cons b l => exact h.2
theorem ChnS.at : ∀ {l : List Nat}, ChnS g p σ l → ∀ k a b, l[k]? = some a → l[k + 1]? = some b → MvS g p σ a b
  | [], _, k, a, b, h, _ => by simp at h
  | [x], _, k, a, b, _, h => by simp at h
  | x :: y :: l, h, 0, a, b, h1, h2 => by
    simp at h1 h2
    subst h1; subst h2
    exact h.1
  | x :: y :: l, h, k + 1, a, b, h1, h2 => ChnS.at h.2 k a b (by simpa using h1) (by simpa using h2)
/-- The vertices of a walk that count for an index. -/
def ctdS (g : DV) (p : Int) (i : Nat) : List Nat → List Nat
  | [] => []
  | a :: l => if gPri g a < badF p i then [] else if gPri g a = badF p i then a :: ctdS g p i l else ctdS g p i l
theorem ctdS_cons (i a : Nat) (l : List Nat) : ctdS g p i (a :: l) = if gPri g a < badF p i then [] else if gPri g a = badF p i then a :: ctdS g p i l else ctdS g p i l := rfl
theorem ctdS_pri {i b : Nat} : ∀ {l : List Nat}, b ∈ ctdS g p i l → gPri g b = badF p i ∧ b ∈ l
  | [], h => by cases h
  | a :: l, h => by
    unfold ctdS at h
    split at h
    · cases h
    · split at h
      · rename_i e
        rcases List.mem_cons.1 h with rfl | h
        · exact ⟨e, List.mem_cons_self ..⟩
        · have := ctdS_pri h; exact ⟨this.1, List.mem_cons_of_mem _ this.2⟩
      · have := ctdS_pri h; exact ⟨this.1, List.mem_cons_of_mem _ this.2⟩
theorem ctdS_at {i b : Nat} : ∀ {l : List Nat}, b ∈ ctdS g p i l → ∃ k : Nat, l[k]? = some b ∧ ∀ j x : Nat, j < k → l[j]? = some x → badF p i ≤ gPri g x
  | [], h => by cases h
  | a :: l, h => by
    unfold ctdS at h
    have step : ¬ gPri g a < badF p i → b ∈ ctdS g p i l → ∃ k : Nat, (a :: l)[k]? = some b ∧ ∀ j x : Nat, j < k → (a :: l)[j]? = some x → badF p i ≤ gPri g x := fun ha hb => by
      obtain ⟨k, h1, h2⟩ := ctdS_at hb
      refine ⟨k + 1, by simpa using h1, fun j x hj hx => ?_⟩
      cases j with
      | zero => simp at hx; subst hx; omega
      | succ j => exact h2 j x (by omega) (by simpa using hx)
    split at h
    · cases h
    · rename_i hlt
      split at h
      · rcases List.mem_cons.1 h with rfl | h
        · exact ⟨0, rfl, fun j x hj _ => absurd hj (Nat.not_lt_zero j)⟩
        · exact step hlt h
      · exact step hlt h
/-- A walk within what p wins comes to no bad priority twice without a smaller one between. -/
theorem ctdS_nodup (hc : Cert g (· < g.length) p W σ) (hp : p = 0 ∨ p = 1) (i : Nat) : ∀ {l : List Nat}, ChnS g p σ l → (∀ x, x ∈ l → W x) → (ctdS g p i l).Nodup
  | [], _, _ => List.nodup_nil
  | a :: l, h, hW => by
    have ih := ctdS_nodup hc hp i h.tail fun x hx => hW x (List.mem_cons_of_mem _ hx)
    unfold ctdS
    split
    · exact List.nodup_nil
    · rename_i hlt
      split
      · rename_i he
        refine List.nodup_cons.2 ⟨fun hm => ?_, ih⟩
        obtain ⟨k, hk, hle⟩ := ctdS_at hm
        have hkl : k < l.length := (List.getElem?_eq_some_iff.1 hk).1
        have hget : ∀ j, j ≤ k + 1 → ∃ x, (a :: l)[j]? = some x ∧ W x ∧ badF p i ≤ gPri g x := fun j hj => by
          have hjl : j < (a :: l).length := by simp; omega
          refine ⟨_, List.getElem?_eq_getElem hjl, hW _ (List.getElem_mem hjl), ?_⟩
          cases j with
          | zero => show _ ≤ gPri g a; omega
          | succ j =>
            by_cases c : j = k
            · subst c
              have : l[j]'hkl = a := (List.getElem?_eq_some_iff.1 hk).2
              show _ ≤ gPri g (l[j]'hkl)
              rw [this]; omega
            · exact hle j _ (by omega) (List.getElem?_eq_getElem (by omega))
        have hL : ∀ j, j ≤ k + 1 → (a :: l)[j]? = some ((a :: l)[j]?.getD 0) := fun j hj => by
          obtain ⟨x, hx, _⟩ := hget j hj
          rw [hx]; rfl
        let f : Nat → Nat := fun t => (a :: l)[t % (k + 1)]?.getD 0
        have hlast : (a :: l)[k + 1]? = some a := by simpa using hk
        have hmod : ∀ t, t % (k + 1) < k + 1 := fun t => Nat.mod_lt _ (Nat.succ_pos _)
        have hmv : ∀ t, MvS g p σ (f t) (f (t + 1)) := fun t => by
          have h1 := hmod t
          by_cases c : t % (k + 1) = k
          · have e : (t + 1) % (k + 1) = 0 := by rw [Nat.add_mod, c]; by_cases k0 : k = 0 <;> simp [k0]
            have ef : f (t + 1) = a := by show (a :: l)[(t + 1) % (k + 1)]?.getD 0 = a; rw [e]; rfl
            rw [ef]
            exact h.at (t % (k + 1)) _ _ (hL _ (by omega)) (by rw [c]; exact hlast)
          · have e : (t + 1) % (k + 1) = t % (k + 1) + 1 := by
              rw [Nat.add_mod, Nat.mod_eq_of_lt (show 1 < k + 1 by omega), Nat.mod_eq_of_lt (by omega)]
            have ef : (a :: l)[t % (k + 1) + 1]? = some (f (t + 1)) := by
              show _ = some ((a :: l)[(t + 1) % (k + 1)]?.getD 0)
              rw [e]; exact hL _ (by omega)
            exact h.at (t % (k + 1)) _ _ (hL _ (by omega)) ef
        have hin : ∀ t, W (f t) ∧ badF p i ≤ gPri g (f t) := fun t => by
          obtain ⟨x, hx, h1, h2⟩ := hget (t % (k + 1)) (by have := hmod t; omega)
          have e : f t = x := by show (a :: l)[t % (k + 1)]?.getD 0 = x; rw [hx]; rfl
          rw [e]; exact ⟨h1, h2⟩
        have hgood := hc.win f ⟨fun t => (hin t).1, fun t => (hmv t).1, fun t => (hmv t).2⟩
        have hbad : GoodP g (1 - p) f := ⟨badF p i, by unfold badF; omega, fun N => ⟨N * (k + 1), Nat.le_mul_of_pos_right _ (Nat.succ_pos _), by
          have e : f (N * (k + 1)) = a := by show (a :: l)[N * (k + 1) % (k + 1)]?.getD 0 = a; rw [Nat.mul_mod_left]; rfl
          rw [e]; exact he⟩, 0, fun t _ => (hin t).2⟩
        have := hgood.one hbad
        omega
      · exact ih
theorem badF_iff (hp : p = 0 ∨ p = 1) {q : Int} (hq : 0 ≤ q) {i : Nat} : q = badF p i ↔ (q % 2 ≠ p ∧ q / 2 = (i : Int)) := by unfold badF; omega
theorem most_range (g : DV) (p : Int) (i : Nat) : mostF g p i = ((List.range g.length).filter fun v => decide (gPri g v % 2 ≠ p ∧ gPri g v / 2 = (i : Int))).length := by
  unfold mostF
  rw [← List.countP_eq_length_filter]
  have e : g = (List.range g.length).map fun v => g[v]?.getD (0, 0, []) := by
    apply List.ext_getElem?
    intro v
    rw [List.getElem?_map]
    by_cases hv : v < g.length
    · rw [List.getElem?_range hv, Option.map_some]
      show g[v]? = some (g[v]?.getD (0, 0, []))
      rw [List.getElem?_eq_getElem hv]; rfl
    · rw [List.getElem?_eq_none (by omega), List.getElem?_eq_none (by simp; omega)]; rfl
  conv => lhs; rw [e]
  rw [List.countP_map]
  apply List.countP_congr
  intro v hv
  have hv := List.mem_range.1 hv
  have e2 : gPri g v = (g[v]?.getD (0, 0, [])).2.1 := by unfold gPri; rw [List.getElem?_eq_getElem hv]; rfl
  simp only [Function.comp, e2]
theorem nodup_len : ∀ {l r : List Nat}, l.Nodup → (∀ x, x ∈ l → x ∈ r) → l.length ≤ r.length
  | [], _, _, _ => Nat.zero_le _
  | a :: l, r, hl, hs => by
    obtain ⟨h1, h2⟩ := List.nodup_cons.1 hl
    have ha := hs a (List.mem_cons_self ..)
    have := nodup_len (r := r.erase a) h2 fun x hx => (List.mem_erase_of_ne (fun e => h1 (by rw [← e]; exact hx))).2 (hs x (List.mem_cons_of_mem _ hx))
    rw [List.length_erase_of_mem ha] at this
    have hpos : 0 < r.length := List.length_pos_of_mem ha
    simp only [List.length_cons]
    omega
theorem ctdS_most (ok : GameOk g) (hc : Cert g (· < g.length) p W σ) (hp : p = 0 ∨ p = 1) (i : Nat) {l : List Nat} (h : ChnS g p σ l) (hW : ∀ x, x ∈ l → W x) : (ctdS g p i l).length ≤ mostF g p i := by
  rw [most_range]
  refine nodup_len (ctdS_nodup hc hp i h hW) fun x hx => ?_
  obtain ⟨h1, h2⟩ := ctdS_pri hx
  have hl := hc.sub _ (hW x h2)
  refine List.mem_filter.2 ⟨List.mem_range.2 hl, decide_eq_true ((badF_iff hp (ok.pri hl).1).1 h1)⟩
/-- The number of a walk. -/
def valS (g : DV) (p : Int) : List Nat → Nat
  | [] => 0
  | a :: l => needF g p (gPri g a) (valS g p l)
theorem upF_bad (hp : p = 0 ∨ p = 1) {q : Int} (hq : 0 ≤ q) {i : Nat} : badF p i ≤ q ↔ i < upF p q := by unfold badF upF; omega
theorem valS_enc (ok : GameOk g) (hp : p = 0 ∨ p = 1) : ∀ {l : List Nat}, (∀ x, x ∈ l → x < g.length) → (∀ k i, (ctdS g p i (l.drop k)).length ≤ mostF g p i) → valS g p l = encN (mostF g p) (fun i => (ctdS g p i l).length) 5
  | [], _, _ => by
    show 0 = encN _ (fun _ => 0) 5
    rw [encN_zero]
  | a :: l, hl, hk => by
    have ih := valS_enc ok hp (l := l) (fun x hx => hl x (List.mem_cons_of_mem _ hx)) fun k i => hk (k + 1) i
    have ha := ok.pri (hl a (List.mem_cons_self ..))
    have hup : upF p (gPri g a) ≤ 5 := by unfold upF; omega
    have hml := fun i => hk 1 i
    have hmb := fun i => hk 0 i
    simp only [List.drop_succ_cons, List.drop_zero] at hml hmb
    have hlt : valS g p l < topF g p := by rw [ih]; exact encN_lt 5 fun j hj => hml _
    have hcut := encN_cut (m := mostF g p) (d := fun i => (ctdS g p i l).length) (n := upF p (gPri g a)) hup (fun j _ => hml j) 5 (Nat.le_refl _)
    rw [if_pos (by omega), ← ih] at hcut
    show needF g p (gPri g a) (valS g p l) = _
    unfold needF
    rw [if_neg (by omega)]
    by_cases c : gPri g a % 2 = p
    · rw [if_pos c, Nat.add_zero]
      show valS g p l / bdN (mostF g p) (5 - upF p (gPri g a)) * bdN (mostF g p) (5 - upF p (gPri g a)) = _
      rw [← hcut]
      refine encN_congr 5 (Nat.le_refl _) fun j _ hj => ?_
      rw [ctdS_cons]
      by_cases c2 : j < upF p (gPri g a)
      · have h1 := (upF_bad hp ha.1).2 c2
        have h2 : gPri g a ≠ badF p j := fun e => ((badF_iff hp ha.1).1 e).1 c
        rw [if_pos c2, if_neg (by omega), if_neg h2]
      · have h1 : ¬ badF p j ≤ gPri g a := fun h => c2 ((upF_bad hp ha.1).1 h)
        rw [if_neg c2, if_pos (by omega)]; rfl
    · rw [if_neg c]
      have hi : ∃ i : Nat, gPri g a / 2 = (i : Int) := ⟨(gPri g a / 2).toNat, by omega⟩
      obtain ⟨i, hi⟩ := hi
      have hbi : gPri g a = badF p i := (badF_iff hp ha.1).2 ⟨c, hi⟩
      have hui : upF p (gPri g a) = i + 1 := by rw [hbi]; unfold upF badF; omega
      have hi5 : i < 5 := by omega
      show valS g p l / bdN (mostF g p) (5 - upF p (gPri g a)) * bdN (mostF g p) (5 - upF p (gPri g a)) + bdN (mostF g p) (5 - upF p (gPri g a)) = _
      rw [← hcut, hui, show 5 - (i + 1) = 4 - i by omega]
      have hinc := encN_inc (m := mostF g p) (d := fun j => if j < i + 1 then (ctdS g p j l).length else 0) hi5 5 (Nat.le_refl _)
      rw [if_pos (by omega)] at hinc
      rw [← hinc]
      refine encN_congr 5 (Nat.le_refl _) fun j _ hj => ?_
      rw [ctdS_cons]
      by_cases e : j = i
      · subst e
        rw [if_pos rfl, if_pos (by omega), if_neg (by omega), if_pos hbi, List.length_cons]
      · rw [if_neg e]
        by_cases c2 : j < i + 1
        · have h1 := (upF_bad hp ha.1 (i := j)).2 (by omega)
          rw [if_pos c2, if_neg (by omega), if_neg (fun h => e (by rw [hbi] at h; unfold badF at h; omega))]
        · have h1 : ¬ badF p j ≤ gPri g a := fun h => by have := (upF_bad hp ha.1).1 h; omega
          rw [if_neg c2, if_pos (by omega)]; rfl
theorem ChnS.drop : ∀ (k : Nat) {l : List Nat}, ChnS g p σ l → ChnS g p σ (l.drop k)
  | 0, _, h => h
  | k + 1, [], h => trivial
  | k + 1, a :: l, h => by rw [List.drop_succ_cons]; exact ChnS.drop k h.tail
theorem valS_lt (ok : GameOk g) (hc : Cert g (· < g.length) p W σ) (hp : p = 0 ∨ p = 1) {l : List Nat} (h : ChnS g p σ l) (hW : ∀ x, x ∈ l → W x) : valS g p l < topF g p := by
  have hm : ∀ k i, (ctdS g p i (l.drop k)).length ≤ mostF g p i := fun k i => ctdS_most ok hc hp i (h.drop k) fun x hx => hW x (List.mem_of_mem_drop hx)
  rw [valS_enc ok hp (fun x hx => hc.sub _ (hW x hx)) hm]
  exact encN_lt 5 fun j _ => hm 0 _
theorem greatest_of {P : Nat → Prop} {T : Nat} (h0 : ∃ x, P x) (hT : ∀ x, P x → x < T) : ∃ x, P x ∧ ∀ y, P y → y ≤ x := by
  classical
  refine Classical.byContradiction fun hn => ?_
  have step : ∀ k, ∃ x, P x ∧ k ≤ x := fun k => by
    induction k with
    | zero => obtain ⟨x, hx⟩ := h0; exact ⟨x, hx, Nat.zero_le _⟩
    | succ k ih =>
      obtain ⟨x, hx, hk⟩ := ih
      refine Classical.byContradiction fun hn2 => hn ⟨x, hx, fun y hy => Classical.byContradiction fun c => hn2 ⟨y, hy, by omega⟩⟩
  obtain ⟨x, hx, hk⟩ := step T
  have := hT x hx
  omega
/-- Who wins has numbers that are enough, and not the greatest where it wins. -/
theorem wins_pre (ok : GameOk g) (hc : Cert g (· < g.length) p W σ) (hp : p = 0 ∨ p = 1) : ∃ μ, PreF g p μ ∧ ∀ v, W v → μ v < topF g p := by
  classical
  let V : Nat → Nat → Prop := fun v x => ∃ l, (l = [] ∨ l.head? = some v) ∧ ChnS g p σ l ∧ (∀ y, y ∈ l → W y) ∧ valS g p l = x
  have hV : ∀ v, ∃ x, V v x ∧ ∀ y, V v y → y ≤ x := fun v => greatest_of (T := topF g p) ⟨0, [], .inl rfl, trivial, fun y hy => (List.not_mem_nil hy).elim, rfl⟩ fun x ⟨l, _, h1, h2, h3⟩ => by rw [← h3]; exact valS_lt ok hc hp h1 h2
  have hVt : ∀ v x, V v x → x < topF g p := fun v x ⟨l, _, h1, h2, h3⟩ => by rw [← h3]; exact valS_lt ok hc hp h1 h2
  have hstep : ∀ v u x, W v → MvS g p σ v u → V u x → V v (needF g p (gPri g v) x) := fun v u x hv hm ⟨l, h0, h1, h2, h3⟩ => by
    refine ⟨v :: l, .inr rfl, ?_, fun y hy => ?_, by show needF g p (gPri g v) (valS g p l) = _; rw [h3]⟩
    · cases l with
      | nil => trivial
      | cons b l =>
        rcases h0 with h0 | h0
        · cases h0
        · simp at h0
          subst h0
          exact ⟨hm, h1⟩
    · rcases List.mem_cons.1 hy with rfl | hy
      · exact hv
      · exact h2 y hy
  let μ : Nat → Nat := fun v => if W v then Classical.choose (hV v) else topF g p
  have hμ : ∀ v, W v → V v (μ v) ∧ ∀ y, V v y → y ≤ μ v := fun v hv => by
    have e : μ v = Classical.choose (hV v) := if_pos hv
    rw [e]; exact Classical.choose_spec (hV v)
  have hμn : ∀ v, ¬ W v → μ v = topF g p := fun v hv => if_neg hv
  refine ⟨μ, ⟨fun v hv ho hm => ?_, fun v hv ho u hu => ?_⟩, fun v hv => hVt v _ (hμ v hv).1⟩
  · have hw : W v := Classical.byContradiction fun c => by rw [hμn v c] at hm; omega
    obtain ⟨a, b⟩ := hc.own v hw ho
    have b := b.resolve_right id
    exact ⟨σ v, a, (hμ v hw).2 _ (hstep v (σ v) _ hw ⟨a, fun _ => rfl⟩ (hμ _ b).1)⟩
  · by_cases hw : W v
    · have b := (hc.opp v hw ho u hu (ok.succ v u hu)).resolve_right id
      exact (hμ v hw).2 _ (hstep v u _ hw ⟨hu, fun h => absurd h ho⟩ (hμ _ b).1)
    · rw [hμn v hw]; exact needF_le
/-- The least numbers that are enough tell the winners. -/
theorem least_pre (ok : GameOk g) (hp : p = 0 ∨ p = 1) {μ : Nat → Nat} (h : PreF g p μ) (hl : ∀ ν, PreF g p ν → ∀ v, v < g.length → μ v ≤ ν v) {v : Nat} (hv : v < g.length) : μ v < topF g p ↔ wonI g v = p := by
  constructor
  · exact pre_wins ok hp h hv
  · intro hw
    rcases hp with rfl | rfl
    · obtain ⟨σ, k⟩ := cert_zero ok.owned ok.succ
      obtain ⟨ν, h1, h2⟩ := wins_pre ok k (.inl rfl)
      refine Nat.lt_of_le_of_lt (hl ν h1 v hv) (h2 v ⟨hv, ?_⟩)
      unfold wonI at hw
      cases c : wonB g v with
      | false => rfl
      | true => rw [c] at hw; exact absurd hw (by decide)
    · obtain ⟨σ, k⟩ := cert_one ok.owned ok.succ
      obtain ⟨ν, h1, h2⟩ := wins_pre ok k (.inr rfl)
      refine Nat.lt_of_le_of_lt (hl ν h1 v hv) (h2 v ⟨hv, ?_⟩)
      unfold wonI at hw
      cases c : wonB g v with
      | true => rfl
      | false => rw [c] at hw; exact absurd hw (by decide)
end
end Go.Proofs.Ythmhlbkkhaplkaa

namespace Go.Proofs.Ythmhlbkkhaplkaa
open Go.ChangeShapes Go.WideShapes Go.ChangeAt Go.RowKit
set_option linter.unusedVariables false
set_option linter.unusedSimpArgs false

def cmpI (a b : Int) : Int := if a < b then -1 else if b < a then 1 else 0
def lexC : List Int → List Int → Int
  | [], [] => 0
  | [], _ :: _ => -1
  | _ :: _, [] => 1
  | a :: l, b :: r => if a = b then lexC l r else cmpI a b
theorem lexC_same : ∀ (z l r : List Int), lexC (z ++ l) (z ++ r) = lexC l r
  | [], _, _ => rfl
  | a :: z, l, r => by rw [List.cons_append, List.cons_append]; show (if a = a then lexC (z ++ l) (z ++ r) else _) = _; rw [if_pos rfl]; exact lexC_same z l r
section
variable {l r : List Int} {k : Nat} {a b : Int}
theorem split_at (h : l[k]? = some a) : l = l.take k ++ a :: l.drop (k + 1) := by
  obtain ⟨hk, rfl⟩ := List.getElem?_eq_some_iff.1 h
  rw [← List.drop_eq_getElem_cons hk, List.take_append_drop]
theorem lexC_ne (e : l.take k = r.take k) (hl : l[k]? = some a) (hr : r[k]? = some b) (h : a ≠ b) : lexC l r = cmpI a b := by
  rw [split_at hl, split_at hr, e, lexC_same]
  show (if a = b then _ else cmpI a b) = _
  rw [if_neg h]
theorem lexC_long (e : l.take k = r.take k) (hl : l[k]? = some a) (hr : r.length = k) : lexC l r = 1 := by
  rw [split_at hl, e, List.take_of_length_le (by omega)]
  have := lexC_same r (a :: l.drop (k + 1)) []
  rw [List.append_nil] at this
  rw [this]; rfl
theorem lexC_end (e : l.take k = r.take k) (hl : l.length = k) : lexC l r = if k < r.length then -1 else 0 := by
  have h1 : r = l ++ r.drop k := by
    have := List.take_append_drop k r
    rw [← e, List.take_of_length_le (by omega)] at this
    exact this.symm
  have h2 := lexC_same l [] (r.drop k)
  rw [List.append_nil, ← h1] at h2
  rw [h2]
  cases h3 : r.drop k with
  | nil =>
    have : r.length ≤ k := List.drop_eq_nil_iff.1 h3
    rw [if_neg (by omega)]; rfl
  | cons x xs =>
    have : ¬ r.length ≤ k := fun c => by rw [List.drop_eq_nil_of_le c] at h3; cases h3
    rw [if_pos (by omega)]; rfl
theorem lexC_app : ∀ {l r : List Int} (z : List Int), l.length = r.length → lexC (l ++ z) (r ++ z) = lexC l r
  | [], [], z, _ => by have := lexC_same z [] []; rw [List.append_nil] at this; exact this
  | a :: l, b :: r, z, h => by
    show (if a = b then lexC (l ++ z) (r ++ z) else cmpI a b) = if a = b then lexC l r else cmpI a b
    rw [lexC_app z (by simpa using h)]
end

theorem isNaN_calls (x : Int) (w : World) : Calls Try.prog 101 #[.int .i64 x] w fun e w' => e = .returned (.bool false) ∧ w = w' := by
  have h : (x != x) = false := by simp
  go_enter Try.func101, Try.ntmps101
  go_wp2_with fail
  go_ret
  exact ⟨rfl, rfl⟩
theorem cmpCompare_calls (a b : Int) (w : World) : Calls Try.prog 93 #[.int .i64 a, .int .i64 b] w fun e w' => e = .returned (.int .i64 (cmpI a b)) ∧ w = w' := by
  have q := hide (fun x W => isNaN_calls x W)
  by_cases h1 : a < b
  · have hv : Hid (cmpI a b = -1) := by show _ = _; unfold cmpI; rw [if_pos h1]
    go_enter Try.func93, Try.ntmps93
    go_wp2_with (first | (go_at_call 101; (with_reducible refine (q.out _ _).mono ?_); rintro e w' ⟨rfl, rfl⟩))
    go_ret
    exact ⟨ret_i hv.out, rfl⟩
  · by_cases h2 : b < a
    · have hv : Hid (cmpI a b = 1) := by show _ = _; unfold cmpI; rw [if_neg h1, if_pos h2]
      have h3 : a > b := h2
      go_enter Try.func93, Try.ntmps93
      go_wp2_with (first | (go_at_call 101; (with_reducible refine (q.out _ _).mono ?_); rintro e w' ⟨rfl, rfl⟩))
      go_ret
      exact ⟨ret_i hv.out, rfl⟩
    · have hv : Hid (cmpI a b = 0) := by show _ = _; unfold cmpI; rw [if_neg h1, if_neg h2]
      have h3 : ¬ a > b := h2
      go_enter Try.func93, Try.ntmps93
      go_wp2_with (first | (go_at_call 101; (with_reducible refine (q.out _ _).mono ?_); rintro e w' ⟨rfl, rfl⟩))
      go_ret
      exact ⟨ret_i hv.out, rfl⟩
theorem cmpI_self (a : Int) : cmpI a a = 0 := by unfold cmpI; rw [if_neg (by omega), if_neg (by omega)]
theorem cmpI_ne {a b : Int} (h : a ≠ b) : cmpI a b ≠ 0 := by unfold cmpI; split <;> (try split) <;> omega
set_option maxRecDepth 100000 in
theorem compare_calls (A B : Option Addr) (n m c d : Nat) (l r : List Int) (w : World) (lo hi lo' hi' : Nat) (h : SlI w lo hi A n l) (g : SlI w lo' hi' B m r) (hn : n ≤ 1048576) (hm : m ≤ 1048576) :
    Calls Try.prog 68 #[.slice A n c, .slice B m d] w fun e w' => e = .returned (.int .i64 (lexC l r)) ∧ w = w' := by
  have q := hide (fun a b W => cmpCompare_calls a b W)
  have hln := hide h.len
  have hrm := hide g.len
  replace h := hide h
  replace g := hide g
  go_enter Try.func68, Try.ntmps68
  go_wp2_with fail
  go_loop [11] (fun i => ∃ k : Nat, k ≤ n ∧ k ≤ m ∧ i = .int .i64 (k : Nat) ∧ Hid (l.take k = r.take k)) (fun i => n - (intOf i).toNat)
  case atStart => exact ⟨0, Nat.zero_le _, Nat.zero_le _, rfl, rfl⟩
  case round =>
    obtain ⟨k, hk, hkm, rfl, he⟩ := hrel
    by_cases hlt : k < n
    · have k0 : (0 : Int) ≤ (k : Int) := by omega
      have k1 : (k : Int) < (n : Int) := by omega
      obtain ⟨b1, o1, x, rfl, -, -, -, hx, c1, -⟩ := SlI.get h.out hlt
      by_cases hlm : k < m
      · have k2 : (k : Int) < (m : Int) := by omega
        have k3 : ¬ (k : Int) ≥ (m : Int) := by omega
        obtain ⟨b2, o2, y, rfl, -, -, -, hy, c2, -⟩ := SlI.get g.out hlm
        by_cases hxy : x = y
        · have hs := hide (take_step he.out hx hy hxy)
          have e0 := hide (cmpI_self y)
          subst hxy
          clear hx hy
          go_wp2_with (first | (go_at_call 93; (with_reducible refine (q.out _ _ _).mono ?_); rintro e w' ⟨rfl, rfl⟩; rw [e0.out]))
          go_round
          case rel => exact ⟨k + 1, by omega, by omega, by go_num, hs⟩
          case measure => simp [intOf]; omega
        · have hv := hide (lexC_ne he.out hx hy hxy)
          have hne := cmpI_ne hxy
          have hne2 : (cmpI x y != 0) = true := by simpa using hne
          have q2 := hide (fun W => cmpCompare_calls x y W)
          clear hx hy hxy q
          generalize cmpI x y = z at *
          go_wp2_with (first | (go_at_call 93; (with_reducible refine (q2.out _).mono ?_); rintro e w' ⟨rfl, rfl⟩))
          go_ret
          exact ⟨ret_i hv.out, rfl⟩
      · have k3 : (k : Int) ≥ (m : Int) := by omega
        have hv := hide (lexC_long he.out hx (by rw [hrm.out]; omega))
        clear hx
        go_wp2_with fail
        go_ret
        exact ⟨ret_i hv.out, rfl⟩
    · have hkn : k = n := by omega
      subst hkn
      have hv := lexC_end he.out hln.out
      rw [hrm.out] at hv
      by_cases hlm : k < m
      · rw [if_pos hlm] at hv
        replace hv := hide hv
        have k2 : (k : Int) < (m : Int) := by omega
        go_wp2_with fail
        go_ret
        exact ⟨ret_i hv.out, rfl⟩
      · rw [if_neg hlm] at hv
        replace hv := hide hv
        have k2 : ¬ (k : Int) < (m : Int) := by omega
        go_wp2_with fail
        go_ret
        exact ⟨ret_i hv.out, rfl⟩

end Go.Proofs.Ythmhlbkkhaplkaa
