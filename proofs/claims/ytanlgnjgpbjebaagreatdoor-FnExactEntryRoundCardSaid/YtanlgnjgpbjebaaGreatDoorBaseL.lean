/-
  Several texts in one:
  The program's attractor. Conditions: valid games, a set within the vertices that are left.
  The program's arena of a game: who may move where. Conditions: valid games.
  The program's arena of a game: the walk. Conditions: valid games.
  The function values that the program's win hands to marked. Conditions: valid games.
  The program's recursive computation of winners. Conditions: valid games.
  The program's winners of a game. Conditions: none (games that are not valid are refused).
-/
import Derived.Test.YtanlgnjgpbjebaaGreatDoorBaseK
import Derived.Deep.DeepCutAuto
import Derived.Deep.RegionLaw
import Derived.Deep.CutRange
import Derived.Deep.RegionHeld3
namespace Go.Proofs.YtanlgnjgpbjebaaGreatDoor
open Go.ChangeShapes Go.WideShapes Go.ChangeAt Go.RowKit
set_option linter.unusedVariables false

/-- The three things that the search writes. -/
structure MemA (W : World) (bo oo n : Nat) (out : List Bool) (bm m : Nat) (f : Int → Option Int) (qb : Nat) (A : Option Addr) (q c : Nat) (todo : List Int) : Prop where
  out : SlB W bo (bo + 1) (some ⟨bo, oo, none⟩) n out
  map : MapQ W bm m f
  que : OwnQ W qb A q c todo
  o1 : bo < bm
  o2 : bm < qb
  o3 : qb ≤ W.heap.size

section
variable {W W' : World} {bo oo n bm m qb q c : Nat} {out : List Bool} {f : Int → Option Int} {A : Option Addr} {todo : List Int}
theorem MemA.put (h : MemA W bo oo n out bm m f qb A q c todo) {k : Nat} (hk : k < n) : MemA (W.setCell ⟨bo, oo + k, none⟩ (.bool true)) bo oo n (out.set k true) bm m f qb A q c todo :=
  ⟨h.out.put hk true, h.map.keep (by rw [World.size_setCell]; exact Nat.le_refl _) (Below.heap_setCell _ _ _ _ (by have := h.o1; show bm ≠ bo; omega)), h.que.keep fun g hg _ => Below.heap_setCell _ _ _ _ (by have := h.o1; have := h.o2; show g ≠ bo; omega), h.o1, h.o2, by rw [World.size_setCell]; exact h.o3⟩
theorem MemA.grown (h : MemA W bo oo n out bm m f qb A q c todo) {m' : Nat} {f' : Int → Option Int} (hm : MapQ W' bm m' f') (hg : W.grownBy W' (some bm)) : MemA W' bo oo n out bm m' f' qb A q c todo := by
  have h1 := h.o1
  have h2 := h.o2
  have h3 := h.o3
  refine ⟨Sl.keep h.out hg.size fun b hb1 hb2 hb3 => hg.block b hb3 (by intro e; injection e with e; omega), hm, h.que.kept hg ?_, h1, h2, Nat.le_trans h3 hg.size⟩
  cases e : (Value.slice A q c).ownBlock with
  | none => exact .inl rfl
  | some g =>
    have := (h.que.lt g e).1
    right
    intro e2
    injection e2 with e2
    omega
theorem MemA.alloc (h : MemA W bo oo n out bm m f qb A q c todo) (o : Obj) : MemA (W.alloc o) bo oo n out bm m f qb A q c todo := by
  have h1 := h.o1
  have h2 := h.o2
  have h3 := h.o3
  exact ⟨Sl.keep h.out (by simp) fun b _ _ hb => Below.heap_alloc _ _ _ hb, h.map.keep (by simp) (Below.heap_alloc _ _ _ h.map.lt), h.que.alloc o, h1, h2, by simp; omega⟩
theorem MemA.app (h : MemA W bo oo n out bm m f qb A q c todo) {A' : Option Addr} {q' c' : Nat} {todo' : List Int} (hq : OwnQ W' qb A' q' c' todo') (hg : W.grownBy W' (Value.slice A q c).ownBlock) : MemA W' bo oo n out bm m f qb A' q' c' todo' := by
  have h1 := h.o1
  have h2 := h.o2
  have h3 := h.o3
  have hne : ∀ b, b < qb → some b ≠ (Value.slice A q c).ownBlock := fun b hb e => by
    have := (h.que.lt b e.symm).1
    omega
  exact ⟨Sl.keep h.out hg.size fun b hb1 hb2 hb3 => hg.block b hb3 (hne b (by omega)), h.map.kept hg (hne bm h2), hq, h1, h2, Nat.le_trans h3 hg.size⟩
theorem MemA.cut {x : Int} (h : MemA W bo oo n out bm m f qb A q c (x :: todo)) : MemA W bo oo n out bm m f qb (cutA A 1 c 1) (q - 1) (c - 1) todo := ⟨h.out, h.map, h.que.cut, h.o1, h.o2, h.o3⟩
end

theorem wf_of {x : Int} (h0 : 0 ≤ x) (h1 : x ≤ 1048576) : (Lit.int .i64 x).wf = true := WalkArith.wf_i64 (by omega)

theorem drop_atI {l : List Int} {j : Nat} {x : Int} (h : l[j]? = some x) : l.drop j = x :: l.drop (j + 1) := by
  obtain ⟨hj, rfl⟩ := List.getElem?_eq_some_iff.1 h
  exact List.drop_eq_getElem_cons hj

/-- Row k of who may move where. -/
theorem RowsG.atI {most : Nat} {w : World} {lo hi n k b off : Nat} {R : List (Hd × List Int)} (h : RowsI most w lo hi (some ⟨b, off, none⟩) n R) (hk : k < n) :
    ∃ Ah nh ch s, R[k]? = some ((Ah, nh, ch), s) ∧ w.cell? ⟨b, off + k, none⟩ = some (.slice Ah nh ch) ∧ SlI w lo hi Ah nh s ∧ nh ≤ most := by
  obtain ⟨b', off', ⟨Ah, nh, ch⟩, s, e, g1, g2, g3, hr, hc, hs, hn⟩ := h.get hk
  cases e
  have h0 := (hc 0 _ rfl).1
  simp only [Nat.mul_one, Nat.add_zero] at h0
  exact ⟨Ah, nh, ch, s, hr, h0, hs, hn⟩

set_option maxHeartbeats 4000000 in
set_option maxRecDepth 100000 in
theorem attract_calls (b : Nat) (g : DV) (alive set : List Bool) (player : Int) (C : Option Addr) (d : Nat) (w : World) (h : ArenaAt w b g alive) (ok : GameBig g) (hset : SetAt w C g.length set) (hsub : ∀ v, inS set v = true → inS alive v = true) :
    Calls Tryz.prog 119 #[.pointer (some ⟨b, 0, none⟩), .int .i64 player, .slice C g.length d] w (GotB w g.length (attrF g alive player set)) := by
  obtain ⟨b1, o1, cg, b2, o2, cb, b3, o3, ci, Q, c0, c1, c2, hg, hbk, hbo, ha, hbl, hn0, hn1⟩ := h.open_ ok
  have hmm := @run_makeMap Tryz.prog
  have hal := hide ha.len
  have q1 := hide (cloneB_calls C g.length d set w 0 _ hset.sl (by omega))
  have hsl := hide hset.len
  have q2 := hide (fun W (hW : Below w.heap.size w W) => trueAt_calls C g.length d set W 0 _ (hset.below hW (Nat.le_refl _)).sl (by omega))
  replace h := hide h
  replace hg := hide hg
  replace ha := hide ha
  replace hbk := hide hbk
  replace hbo := hide hbo
  replace ok := hide ok
  replace hsub := hide hsub
  clear hset
  generalize hgl : g.length = n at *
  replace hgl := hide hgl
  go_enter Tryz.func119, Tryz.ntmps119
  go_wp2_with fail
  refine q1.out.mono ?_
  rintro e w1 ⟨A1, k1, rfl, hs1, hb1⟩
  obtain ⟨bo, oo, rfl, ho1, ho2, -, -⟩ := hs1.at_ hn0
  have hs1' := hs1.tight' hn0
  have hz1 := hb1.size
  have bel1 := hb1.alloc hz1 (.map #[] 0)
  have hmap := MapQ.made w1
  have hs2 := Sl.below hs1' ((Below.refl w1.heap.size w1).alloc (Nat.le_refl _) (.map #[] 0)) (.inr (Nat.le_refl _))
  have hz2 : (w1.alloc (.map #[] 0)).heap.size = w1.heap.size + 1 := by simp
  replace hs2 := hide hs2
  replace hmap := hide hmap
  clear hs1 hs1'
  go_wp2_with fail
  refine (q2.out _ bel1).mono ?_
  rintro e w2 ⟨A2, k2, rfl, hq, hb2⟩
  have hz3 := hb2.size
  rw [hz2] at hq hb2 hz3
  have bel2 := bel1.trans (hb2.mono (by rw [← hz2]; exact bel1.size))
  have hmem : MemA w2 bo oo n set w1.heap.size 0 (fun _ => none) (w1.heap.size + 1) A2 (idxOf set).length k2 (idxOf set) :=
    ⟨Sl.below hs2.out hb2 (.inl (by omega)), hmap.out.keep hb2.size (hb2.block _ (by omega)), OwnQ.of hq, ho2, Nat.lt_succ_self _, hz3⟩
  have hinit : Hid (AttrI g alive player set set (setOf g.length fun _ => false) (idxOf set) (fun _ => none) 0 []) := AttrI.start (by rw [hsl.out, hgl.out]) 0
  replace hmem := hide hmem
  replace bel2 := hide bel2
  generalize hbm : w1.heap.size = bm at *
  have hbow : w.heap.size ≤ bo := ho1
  clear hq hs2 hmap bel1 hb1 hb2 q1 q2 hmm hz2
  generalize hil : (idxOf set).length = il at *
  go_wp2_with fail
  go_loopg [9] n (fun N v wr => ∃ (out P : List Bool) (todo : List Int) (f : Int → Option Int) (A : Option Addr) (q c m : Nat), v = .slice A q c ∧ MemA wr bo oo n out bm m f (bm + 1) A q c todo ∧ Hid (AttrI g alive player set out P todo f 0 []) ∧ m ≤ 2400 * cntT P ∧ Below w.heap.size w wr ∧ n - cntT P ≤ N)
  case atStart => exact ⟨set, _, _, _, A2, _, k2, 0, rfl, hmem.out, hinit, Nat.zero_le _, bel2.out, by omega⟩
  case round =>
    obtain ⟨out, P, todo, f, A, q, c, m, rfl, hM, hI, hm, hb, hN⟩ := hrel
    clear hmem bel2 hinit
    have hnP : cntT P ≤ n := by
      have h1 := cntT_le P
      rw [hI.out.plen, hgl.out] at h1
      exact h1
    cases todo with
    | nil =>
      have hq0 : q = 0 := hM.que.len.symm
      subst hq0
      have hfin := hide (hI.out.done (by rw [hal.out, hgl.out]))
      have hs := hide hM.out
      have hzz := hM.o3
      have h01 := hM.o1
      clear hM hI
      go_wp2
      go_ret
      have hs9 := hs.out.more hbow (show bo + 1 ≤ wr.heap.size by omega)
      rw [hfin.out] at hs9
      exact ⟨_, _, rfl, hs9, hb⟩
    | cons t todo =>
      obtain ⟨kk, rfl, hkk, hko, hkP⟩ := hI.out.head
      rw [hgl.out] at hkk
      obtain ⟨qg, qo, rfl, e0, hq0, hqc⟩ := hM.que.head
      have hcut : ∀ W : World, (Instr.slice 46 (.slice (some ⟨qg, qo, none⟩) q c) (some (.int .i64 1)) none none).run Tryz.prog W = .ok (.slice (cutA (some ⟨qg, qo, none⟩) 1 c 1) (q - 1) (c - 1)) W := fun W => run_cut elem_int64 (some ⟨qg, qo, none⟩) q c 1 (by omega) W
      have hM2 := hide hM.cut
      obtain ⟨Ah, nh, ch, row, hrow, r00, hrl, hrn⟩ := RowsG.atI hbk.out hkk
      have hb2l : b2 < w.heap.size := by
        obtain ⟨b2', o2', eb, -, -, h9, -⟩ := hbk.out.outer.at_ (show 0 < n from hn0)
        cases eb
        exact h9
      have r0 := (hb.cell (p := ⟨b2, o2 + kk, none⟩) hb2l).trans r00
      replace r00 := hide r00
      have hrow2 : (Q.map (·.2))[kk]? = some row := by rw [List.getElem?_map, hrow]; rfl
      obtain ⟨hnd, hrm⟩ := hbo.out.2 kk row hrow2
      have hpop := hide (hI.out.pop hnd (fun b' => by
        rw [hrm]
        constructor
        · rintro ⟨v, e, hv⟩; have : b' = v := by omega
          subst this; exact hv
        · intro hv; exact ⟨b', rfl, hv⟩))
      have hnum := cntT_set (s := P) (v := kk) (by rw [hI.out.plen, hgl.out]; exact hkk) hkP
      have hkP1 : Hid (inS (P.set kk true) kk = true) := by
        show _ = _
        rw [inS_set (by rw [hI.out.plen, hgl.out]; exact hkk), if_pos rfl]
      have y0 := (hb.cell (p := ⟨b, 0, none⟩) hbl).trans c0
      have y1 := (hb.cell (p := ⟨b, 1, none⟩) hbl).trans c1
      have y2 := (hb.cell (p := ⟨b, 2, none⟩) hbl).trans c2
      have hrl2 := hide hrl
      have hrll := hide hrl.len
      have hnh : nh ≤ 1200 := by
        have h1 := nodup_le n (row.map Int.toNat) (by
          unfold List.Nodup
          rw [List.pairwise_map]
          refine List.Pairwise.imp_of_mem ?_ hnd
          intro a1 a2 m1 m2 hne e
          obtain ⟨v1, rfl, _⟩ := (hrm a1).1 m1
          obtain ⟨v2, rfl, _⟩ := (hrm a2).1 m2
          apply hne
          simp at e
          rw [e]) (fun x hx => by
          obtain ⟨y, hy, rfl⟩ := List.mem_map.1 hx
          obtain ⟨v1, rfl, hv⟩ := (hrm y).1 hy
          have := gNxt_src hv
          have := hgl.out
          simp
          omega)
        rw [List.length_map, hrl.len] at h1
        omega
      replace hrm := hide hrm
      obtain ⟨N2, rfl⟩ : ∃ N2, gk = N2 + 1 := ⟨gk - 1, by have := cntT_le (P.set kk true); rw [List.length_set, hI.out.plen, hgl.out] at this; omega⟩
      clear hM hI hrow hrow2 hrl hnd hbk hbo
      obtain ⟨wo, rfl⟩ : ∃ wo : World, wo = wr := ⟨_, rfl⟩
      generalize cutA (some ⟨qg, qo, none⟩) 1 c 1 = AC at *
      go_wp2
      go_loopw [9, 36] (fun v i wr => ∃ (j : Nat) (out : List Bool) (todo : List Int) (f : Int → Option Int) (A : Option Addr) (q c m : Nat), j ≤ nh ∧ i = .int .i64 j ∧ v = .slice A q c ∧ MemA wr bo oo n out bm m f (bm + 1) A q c todo ∧ Hid (AttrI g alive player set out (P.set kk true) todo f kk (row.drop j)) ∧ m ≤ 2400 * cntT P + 2 * j ∧ Below w.heap.size w wr) (fun _ i _ => nh - (intOf i).toNat)
      case atStart => exact ⟨0, out, todo, f, AC, _, _, m, Nat.zero_le _, rfl, rfl, hM2.out, (by rw [List.drop_zero]; exact hpop.out), by omega, hb⟩
      case round =>
        clear hM2 hpop hb e0 r0 y0 y1 y2 hcut
        obtain ⟨j, out, todo, f, A, q, c, m, hj, rfl, rfl, hM, hI, hm, hb⟩ := hrel
        by_cases hlt : j < nh
        · have hl2 := Sl.below hrl2.out hb (.inl (Nat.le_refl _))
          obtain ⟨bh, oh, eAh, -⟩ := hl2.at_ (show 0 < nh by omega)
          rw [eAh] at hl2
          obtain ⟨x, hx, x0, -⟩ := SlI.cell hl2 hlt
          subst eAh
          obtain ⟨bv, rfl, hkb⟩ := (hrm.out x).1 (List.mem_of_getElem? hx)
          have hI1 : AttrI g alive player set out (P.set kk true) todo f kk ((bv : Int) :: row.drop (j + 1)) := by rw [← drop_atI hx]; exact hI.out
          have hbg : bv < g.length := gNxt_src hkb
          have hbn : bv < n := by have := hgl.out; omega
          have y0 := (hb.cell (p := ⟨b, 0, none⟩) hbl).trans c0
          have y1 := (hb.cell (p := ⟨b, 1, none⟩) hbl).trans c1
          have y2 := (hb.cell (p := ⟨b, 2, none⟩) hbl).trans c2
          obtain ⟨s0, z0, -, -, -⟩ := SlB.cell hM.out hbn
          have a0 := (ha.out.below hb (Nat.le_refl _)).cell hbn
          obtain ⟨o, p, l, Aq, nq, cq, hxk, d0, d1, d2, -, -, -, -, -⟩ := (hg.out.below hb (Nat.le_refl _)).cell ok.out hbn
          have hown := gOwn_at hxk
          have hqt := hI1.todo_le
          rw [hM.que.len, hgl.out] at hqt
          clear hl2 hx hI hxk d1 d2
          by_cases z1 : inS alive bv = true
          · by_cases z2 : inS out bv = true
            · have hnext := hide (hI1.skip (.inr z2))
              rw [z1] at a0
              rw [z2] at s0
              replace hM := hide hM
              clear z1 z2 hI1 hown
              go_wp2
              go_roundw
              case rel => exact ⟨j + 1, out, todo, f, A, q, c, m, by omega, by go_num, rfl, hM.out, hnext, by omega, hb⟩
              case measure => simp [intOf]; omega
            · replace z2 := Bool.eq_false_iff.2 z2
              rw [z1] at a0
              rw [z2] at s0
              have hbow2 : w.heap.size ≤ (⟨bo, oo + bv, none⟩ : Addr).block := hbow
              by_cases z3 : o = player
              · have e3 : (o != player) = false := by simpa using z3
                have hadd := hide (hI1.add (f' := f) z2 hbg (hI1.attr_own hsub.out hkP1.out hkb z1 (hown.trans z3)) (fun _ _ => rfl))
                have hMp := hide (hM.put hbn)
                have hMa := hide ((hM.put hbn).alloc (.cells #[.int .i64 (bv : Int)] 2))
                have hbp := (hb.setCell hbow2 (.bool true)).alloc (show w.heap.size ≤ (wr.setCell ⟨bo, oo + bv, none⟩ (.bool true)).heap.size by rw [World.size_setCell]; have := hM.o1; have := hM.o2; have := hM.o3; omega) (.cells #[.int .i64 (bv : Int)] 2)
                have hcell0 := cell_one_new (wr.setCell ⟨bo, oo + bv, none⟩ (.bool true)) (.int .i64 (bv : Int)) 2 0 _ rfl
                rw [addr_add, Nat.zero_add, World.size_setCell] at hcell0
                replace hcell0 := hide hcell0
                replace hbp := hide hbp
                have hzq : bm + 1 ≤ ((wr.setCell ⟨bo, oo + bv, none⟩ (.bool true)).alloc (.cells #[.int .i64 (bv : Int)] 2)).heap.size := hMa.out.o3
                replace hM := hide hM
                clear z1 z2 z3 hI1 hown
                go_wp2_with (first | (at_builtin; (with_reducible refine wpList_appQ rfl (.tmp 88) (.tmp 90) rfl rfl hMa.out.que ⟨wr.heap.size, 0, none⟩ 1 (bv : Int) rfl hcell0.out ?k1 hzq ?_); rotate_right; intro A5 c5 w5 hown5 hgr5 hb5 _))
                case k1 => omega
                have hM5 := hide (hMa.out.app hown5 hgr5)
                have hb6 := hide (hbp.out.trans (hb5.mono (by have := hM.out.o1; omega)))
                clear hown5 hgr5 hb5
                go_roundw
                case rel => exact ⟨j + 1, _, _, f, A5, _, c5, m, by omega, by go_num, rfl, hM5.out, hadd, by omega, hb6.out⟩
                case measure => simp [intOf]; omega
              · have e3 : (o != player) = true := by simpa using z3
                have hop : gOwn g bv ≠ player := by rw [hown]; exact z3
                obtain ⟨hcnt, hfb⟩ := hI1.count (ok.out.nxt bv).1 (ok.out.nxt bv).2 hsub.out hkP1.out hkb z1 z2 hop
                have hbw : (Lit.int .i64 (bv : Int)).wf = true := wf_of (by omega) (by omega)
                have hmb : m + 2 < maxLen := by unfold maxLen; omega
                obtain ⟨c8, hl1, hl1c⟩ := hM.map.lookOk hbw
                cases hf : f bv with
                | none =>
                  rw [hf] at hl1 hcnt hfb
                  simp only [Option.isSome_none, Option.getD_none] at hl1 hcnt
                  have hne : exitsF g alive bv ≤ n := by
                    have h1 := nodup_le g.length _ ((ok.out.nxt bv).1.filter (inS alive)) fun y hy => (ok.out.nxt bv).2 y (List.mem_filter.1 hy).1
                    have := hgl.out
                    unfold exitsF
                    omega
                  have qe := hide (exits_calls b g alive bv wr (h.out.below hb (Nat.le_refl _)) ok.out hbg)
                  obtain ⟨w1, hu1, hm1, hg1⟩ := hM.map.update (by omega) hbw (wf_of (x := (exitsF g alive bv : Int)) (by omega) (by omega))
                  have hM1 := hM.grown hm1 hg1
                  have hl2 := hm1.look hbw (c := (exitsF g alive bv : Int)) (by simp)
                  obtain ⟨w2, hu2, hm2, hg2⟩ := hm1.update (by omega) hbw (wf_of (x := (exitsF g alive bv : Int) - 1) (by omega) (by omega))
                  have hM2 := hM1.grown hm2 hg2
                  have hl3 := hm2.look hbw (c := (exitsF g alive bv : Int) - 1) (by simp)
                  clear hl1c
                  by_cases hpos : 0 < cntL g alive (P.set kk true) bv
                  · have hnext := hI1.lower (c := (exitsF g alive bv : Int) - 1) hop hcnt (by omega)
                    have ef : (fun i : Int => if i = (bv : Int) then some ((exitsF g alive bv : Int) - 1) else if i = (bv : Int) then some (exitsF g alive bv : Int) else f i) = fun x => if x = (bv : Int) then some ((exitsF g alive bv : Int) - 1) else f x := by funext i; by_cases e : i = (bv : Int) <;> simp [e]
                    rw [← ef] at hnext
                    replace hnext := hide hnext
                    have hb2 := hide ((hb.grown hg1 (by have := hM.o1; have := hM.o2; have := hM.o3; omega) (fun k hk => by injection hk with hk; have := hM.o1; omega)).grown hg2 (by have := hM1.o1; have := hM1.o2; have := hM1.o3; omega) (fun k hk => by injection hk with hk; have := hM.o1; omega))
                    have p1 : (0 : Int) < (exitsF g alive bv : Int) - 1 := by omega
                    have p2 : (1 : Int) < (exitsF g alive bv : Int) := by omega
                    replace hM2 := hide hM2
                    clear hm1 hg1 hM1 hm2 hg2 hM z1 z2 z3 hI1 hown hcnt hfb hpos hop hf
                    go_wp2_with (go_at_call 143; (with_reducible refine qe.out.mono ?_); rintro e w' ⟨rfl, rfl⟩)
                    go_roundw
                    case rel => exact ⟨j + 1, out, todo, _, A, q, c, _, by omega, by go_num, rfl, hM2.out, hnext.out, by omega, hb2.out⟩
                    case measure => simp [intOf]; omega
                  · have hadd := hI1.add (f' := fun i : Int => if i = (bv : Int) then some ((exitsF g alive bv : Int) - 1) else if i = (bv : Int) then some (exitsF g alive bv : Int) else f i) z2 hbg (hI1.attr_other hsub.out hkP1.out hkb z1 hop (by omega)) (fun x hx => by simp only [if_neg (show ¬ ((x : Int) = (bv : Int)) by omega)])
                    replace hadd := hide hadd
                    have hb2 := (hb.grown hg1 (by have := hM.o1; have := hM.o2; have := hM.o3; omega) (fun k hk => by injection hk with hk; have := hM.o1; omega)).grown hg2 (by have := hM1.o1; have := hM1.o2; have := hM1.o3; omega) (fun k hk => by injection hk with hk; have := hM.o1; omega)
                    have hMa := hide ((hM2.put hbn).alloc (.cells #[.int .i64 (bv : Int)] 2))
                    obtain ⟨s2, z2', -, -, -⟩ := SlB.cell hM2.out hbn
                    have hbp := (hb2.setCell hbow2 (.bool true)).alloc (show w.heap.size ≤ (w2.setCell ⟨bo, oo + bv, none⟩ (.bool true)).heap.size by rw [World.size_setCell]; have := hM2.o1; have := hM2.o2; have := hM2.o3; omega) (.cells #[.int .i64 (bv : Int)] 2)
                    have hcell0 := cell_one_new (w2.setCell ⟨bo, oo + bv, none⟩ (.bool true)) (.int .i64 (bv : Int)) 2 0 _ rfl
                    rw [addr_add, Nat.zero_add, World.size_setCell] at hcell0
                    replace hcell0 := hide hcell0
                    replace hbp := hide hbp
                    have hzq : bm + 1 ≤ ((w2.setCell ⟨bo, oo + bv, none⟩ (.bool true)).alloc (.cells #[.int .i64 (bv : Int)] 2)).heap.size := hMa.out.o3
                    have hom := hM.o1
                    have p1 : ¬ (0 : Int) < (exitsF g alive bv : Int) - 1 := by omega
                    have p2 : ¬ (1 : Int) < (exitsF g alive bv : Int) := by omega
                    replace hM2 := hide hM2
                    clear hm1 hg1 hM1 hm2 hg2 hM z1 z2 z3 hI1 hown hcnt hfb hpos hop hb2 hf
                    go_wp2_with (first | (go_at_call 143; (with_reducible refine qe.out.mono ?_); rintro e w' ⟨rfl, rfl⟩) | (at_builtin; (with_reducible refine wpList_appQ rfl (.tmp 88) (.tmp 90) rfl rfl hMa.out.que ⟨w2.heap.size, 0, none⟩ 1 (bv : Int) rfl hcell0.out ?k1 hzq ?_); rotate_right; intro A5 c5 w5 hown5 hgr5 hb5 _))
                    case k1 => omega
                    have hM5 := hide (hMa.out.app hown5 hgr5)
                    have hb6 := hide (hbp.out.trans (hb5.mono (by omega)))
                    clear hown5 hgr5 hb5
                    go_roundw
                    case rel => exact ⟨j + 1, _, _, _, A5, _, c5, _, by omega, by go_num, rfl, hM5.out, hadd.out, by omega, hb6.out⟩
                    case measure => simp [intOf]; omega
                | some c9 =>
                  have e89 := hl1c c9 hf
                  subst e89
                  rw [hf] at hl1 hcnt hfb
                  simp only [Option.isSome_some, Option.getD_some] at hl1 hcnt
                  have hc9 := hfb _ rfl
                  obtain ⟨hc91, hc92⟩ := hc9
                  rw [hgl.out] at hc92
                  have hl2 := hM.map.look hbw hf
                  obtain ⟨w2, hu2, hm2, hg2⟩ := hM.map.update (by omega) hbw (wf_of (x := c8 - 1) (by omega) (by omega))
                  have hM2 := hM.grown hm2 hg2
                  have hl3 := hm2.look hbw (c := c8 - 1) (by simp)
                  clear hl1c
                  by_cases hpos : 0 < cntL g alive (P.set kk true) bv
                  · have hnext := hI1.lower (c := c8 - 1) hop hcnt (by omega)
                    skip
                    replace hnext := hide hnext
                    have hb2 := hide ((hb).grown hg2 (by have := hM.o1; have := hM.o2; have := hM.o3; omega) (fun k hk => by injection hk with hk; have := hM.o1; omega))
                    have p1 : (0 : Int) < c8 - 1 := by omega
                    have p2 : (1 : Int) < c8 := by omega
                    replace hM2 := hide hM2
                    clear  hm2 hg2 hM z1 z2 z3 hI1 hown hcnt hfb hpos hop hf
                    go_wp2_with fail
                    go_roundw
                    case rel => exact ⟨j + 1, out, todo, _, A, q, c, _, by omega, by go_num, rfl, hM2.out, hnext.out, by omega, hb2.out⟩
                    case measure => simp [intOf]; omega
                  · have hadd := hI1.add (f' := fun i : Int => if i = (bv : Int) then some (c8 - 1) else f i) z2 hbg (hI1.attr_other hsub.out hkP1.out hkb z1 hop (by omega)) (fun x hx => by simp only [if_neg (show ¬ ((x : Int) = (bv : Int)) by omega)])
                    replace hadd := hide hadd
                    have hb2 := (hb).grown hg2 (by have := hM.o1; have := hM.o2; have := hM.o3; omega) (fun k hk => by injection hk with hk; have := hM.o1; omega)
                    have hMa := hide ((hM2.put hbn).alloc (.cells #[.int .i64 (bv : Int)] 2))
                    obtain ⟨s2, z2', -, -, -⟩ := SlB.cell hM2.out hbn
                    have hbp := (hb2.setCell hbow2 (.bool true)).alloc (show w.heap.size ≤ (w2.setCell ⟨bo, oo + bv, none⟩ (.bool true)).heap.size by rw [World.size_setCell]; have := hM2.o1; have := hM2.o2; have := hM2.o3; omega) (.cells #[.int .i64 (bv : Int)] 2)
                    have hcell0 := cell_one_new (w2.setCell ⟨bo, oo + bv, none⟩ (.bool true)) (.int .i64 (bv : Int)) 2 0 _ rfl
                    rw [addr_add, Nat.zero_add, World.size_setCell] at hcell0
                    replace hcell0 := hide hcell0
                    replace hbp := hide hbp
                    have hzq : bm + 1 ≤ ((w2.setCell ⟨bo, oo + bv, none⟩ (.bool true)).alloc (.cells #[.int .i64 (bv : Int)] 2)).heap.size := hMa.out.o3
                    have hom := hM.o1
                    have p1 : ¬ (0 : Int) < c8 - 1 := by omega
                    have p2 : ¬ (1 : Int) < c8 := by omega
                    replace hM2 := hide hM2
                    clear  hm2 hg2 hM z1 z2 z3 hI1 hown hcnt hfb hpos hop hb2 hf
                    go_wp2_with (first | fail | (at_builtin; (with_reducible refine wpList_appQ rfl (.tmp 88) (.tmp 90) rfl rfl hMa.out.que ⟨w2.heap.size, 0, none⟩ 1 (bv : Int) rfl hcell0.out ?k1 hzq ?_); rotate_right; intro A5 c5 w5 hown5 hgr5 hb5 _))
                    case k1 => omega
                    have hM5 := hide (hMa.out.app hown5 hgr5)
                    have hb6 := hide (hbp.out.trans (hb5.mono (by omega)))
                    clear hown5 hgr5 hb5
                    go_roundw
                    case rel => exact ⟨j + 1, _, _, _, A5, _, c5, _, by omega, by go_num, rfl, hM5.out, hadd.out, by omega, hb6.out⟩
                    case measure => simp [intOf]; omega
          · replace z1 := Bool.eq_false_iff.2 z1
            have hnext := hide (hI1.skip (.inl z1))
            rw [z1] at a0
            replace hM := hide hM
            clear z1 hI1 hown s0
            go_wp2
            go_roundw
            case rel => exact ⟨j + 1, out, todo, f, A, q, c, m, by omega, by go_num, rfl, hM.out, hnext, by omega, hb⟩
            case measure => simp [intOf]; omega
        · have hjn : j = nh := by omega
          subst hjn
          have hI2 := hI.out
          rw [List.drop_eq_nil_of_le (by rw [hrll.out]; exact Nat.le_refl _)] at hI2
          have hI3 : Hid (AttrI g alive player set out (P.set kk true) todo f 0 []) := ⟨hI2.bet, hI2.plen, hI2.sub, hI2.nodup, hI2.rnd, hI2.mem, fun x => by have := hI2.cond x; simpa using this⟩
          replace hM := hide hM
          clear hI hI2 hrl2
          go_wp2
          go_roundg N2
          case measure => omega
          case rel => exact ⟨out, _, todo, f, A, q, c, m, rfl, hM.out, hI3, by rw [hnum]; omega, hb, by rw [hnum]; omega⟩

end Go.Proofs.YtanlgnjgpbjebaaGreatDoor

namespace Go.Proofs.YtanlgnjgpbjebaaGreatDoor
open Go.ChangeShapes Go.WideShapes Go.ChangeAt Go.RowKit
set_option linter.unusedVariables false

/-- Which moves have been noted: those of the vertices below k, and the first j of k. -/
def BackK (g : DV) (L : List (List Int)) (k j : Nat) : Prop := L.length = g.length ∧ ∀ (m : Nat) (row : List Int), L[m]? = some row → row.Nodup ∧ ∀ b : Int, b ∈ row ↔ ∃ v : Nat, b = v ∧ ((v < k ∧ m ∈ gNxt g v) ∨ (v = k ∧ m ∈ (gNxt g k).take j))

section
variable {g : DV} {L : List (List Int)} {k j : Nat}
theorem BackK.start (h : ∀ (m : Nat) (row : List Int), L[m]? = some row → row = []) (hl : L.length = g.length) : BackK g L 0 0 := by
  refine ⟨hl, fun m row hm => ?_⟩
  rw [h m row hm]
  refine ⟨List.nodup_nil, fun b => ⟨fun hb => (List.not_mem_nil hb).elim, ?_⟩⟩
  rintro ⟨v, _, ⟨h1, _⟩ | ⟨_, h1⟩⟩
  · omega
  · simp at h1
theorem BackK.next (h : BackK g L k (gNxt g k).length) : BackK g L (k + 1) 0 := by
  refine ⟨h.1, fun m row hm => ⟨(h.2 m row hm).1, fun b => ((h.2 m row hm).2 b).trans ?_⟩⟩
  rw [List.take_length]
  constructor
  · rintro ⟨v, e, ⟨h1, h2⟩ | ⟨rfl, h2⟩⟩
    · exact ⟨v, e, .inl ⟨by omega, h2⟩⟩
    · exact ⟨v, e, .inl ⟨by omega, h2⟩⟩
  · rintro ⟨v, e, ⟨h1, h2⟩ | ⟨_, h2⟩⟩
    · by_cases hv : v = k
      · subst hv; exact ⟨v, e, .inr ⟨rfl, h2⟩⟩
      · exact ⟨v, e, .inl ⟨by omega, h2⟩⟩
    · simp at h2
theorem BackK.done (h : BackK g L k 0) (hk : g.length ≤ k) : BackOk g L := by
  refine ⟨h.1, fun m row hm => ⟨(h.2 m row hm).1, fun b => ((h.2 m row hm).2 b).trans ?_⟩⟩
  constructor
  · rintro ⟨v, e, ⟨_, h2⟩ | ⟨_, h2⟩⟩
    · exact ⟨v, e, h2⟩
    · simp at h2
  · rintro ⟨v, e, h2⟩
    exact ⟨v, e, .inl ⟨by have := gNxt_src h2; omega, h2⟩⟩
theorem BackK.step {x : Nat} {row : List Int} (h : BackK g L k j) (hn : (gNxt g k).Nodup) (hx : (gNxt g k)[j]? = some x) (hr : L[x]? = some row) : BackK g (L.set x (row ++ [(k : Int)])) k (j + 1) := by
  have hxl : x < L.length := (List.getElem?_eq_some_iff.1 hr).1
  have hnew : x ∉ (gNxt g k).take j := by
    intro hm
    obtain ⟨i, hi, e⟩ := List.mem_take_iff_getElem.1 hm
    obtain ⟨hj, e2⟩ := List.getElem?_eq_some_iff.1 hx
    have := List.pairwise_iff_getElem.1 hn i j (by omega) hj (by omega)
    rw [e, e2] at this
    exact this rfl
  refine ⟨by rw [List.length_set]; exact h.1, fun m r hm => ?_⟩
  have ht : (gNxt g k).take (j + 1) = (gNxt g k).take j ++ [x] := by rw [List.take_add_one, hx]; rfl
  by_cases e : x = m
  · subst e
    rw [List.getElem?_set_self hxl] at hm
    cases hm
    obtain ⟨h1, h2⟩ := h.2 x row hr
    refine ⟨List.nodup_append.2 ⟨h1, by simp, fun a ha b hb => ?_⟩, fun b => ?_⟩
    · simp at hb
      subst hb
      rintro rfl
      obtain ⟨v, e, ⟨h3, _⟩ | ⟨_, h3⟩⟩ := (h2 k).1 ha
      · omega
      · exact hnew h3
    · rw [List.mem_append, h2, ht]
      constructor
      · rintro (⟨v, e, h3 | ⟨e2, h3⟩⟩ | hb)
        · exact ⟨v, e, .inl h3⟩
        · exact ⟨v, e, .inr ⟨e2, List.mem_append_left _ h3⟩⟩
        · simp at hb
          exact ⟨k, hb, .inr ⟨rfl, by simp⟩⟩
      · rintro ⟨v, e, h3 | ⟨e2, h3⟩⟩
        · exact .inl ⟨v, e, .inl h3⟩
        · subst e2
          exact .inr (by simp [e])
  · rw [List.getElem?_set_ne e] at hm
    obtain ⟨h1, h2⟩ := h.2 m r hm
    refine ⟨h1, fun b => (h2 b).trans ?_⟩
    rw [ht]
    constructor
    · rintro ⟨v, e, h3 | ⟨e2, h3⟩⟩
      · exact ⟨v, e, .inl h3⟩
      · exact ⟨v, e, .inr ⟨e2, List.mem_append_left _ h3⟩⟩
    · rintro ⟨v, e, h3 | ⟨e2, h3⟩⟩
      · exact ⟨v, e, .inl h3⟩
      · rcases List.mem_append.1 h3 with h3 | h3
        · exact ⟨v, e, .inr ⟨e2, h3⟩⟩
        · simp at h3
          omega
theorem BackK.len (h : BackK g L k j) (hk : k < g.length) {m : Nat} {row : List Int} (hm : L[m]? = some row) : row.length ≤ g.length := by
  obtain ⟨h1, h2⟩ := h.2 m row hm
  have h3 := nodup_le g.length (row.map Int.toNat) (by
    unfold List.Nodup
    rw [List.pairwise_map]
    refine List.Pairwise.imp_of_mem ?_ h1
    intro a1 a2 m1 m2 hne e
    obtain ⟨v1, rfl, _⟩ := (h2 a1).1 m1
    obtain ⟨v2, rfl, _⟩ := (h2 a2).1 m2
    simp at e
    exact hne (by rw [e])) (fun x hx => by
    obtain ⟨y, hy, rfl⟩ := List.mem_map.1 hx
    obtain ⟨v1, rfl, h4⟩ := (h2 y).1 hy
    simp
    omega)
  rwa [List.length_map] at h3
end

/-- Rows of the call's own that grow, their handles in block bb. -/
structure BackM (w : World) (bb base : Nat) (R : List (Hd × List Int)) : Prop where
  outer : ∃ cur : Array Value, w.heap[bb]? = some (.cells cur 46 (0, 0)) ∧ cur.size = R.length ∧ ∀ (i : Nat) (r : Hd × List Int), R[i]? = some r → cur[i]? = some (.slice r.1.1 r.1.2.1 r.1.2.2)
  rows : ∀ (i : Nat) (r : Hd × List Int), R[i]? = some r → Own 1 iv w base 2 r.1.1 r.1.2.1 r.1.2.2 r.2
  apart : ∀ (i i' : Nat) (r r' : Hd × List Int), i ≠ i' → R[i]? = some r → R[i']? = some r' → (Value.slice r.1.1 r.1.2.1 r.1.2.2).ownBlock = none ∨ (Value.slice r.1.1 r.1.2.1 r.1.2.2).ownBlock ≠ (Value.slice r'.1.1 r'.1.2.1 r'.1.2.2).ownBlock

section
variable {w w' : World} {bb base : Nat} {R : List (Hd × List Int)}
theorem BackM.keep (h : BackM w bb base R) (hb : w'.heap[bb]? = w.heap[bb]?) (hk : ∀ b, base ≤ b → b < w.heap.size → w'.heap[b]? = w.heap[b]?) : BackM w' bb base R := by
  obtain ⟨cur, h1, h2⟩ := h.outer
  exact ⟨⟨cur, hb.trans h1, h2⟩, fun i r hr => (h.rows i r hr).keep fun g hg => hk g ((h.rows i r hr).lt g hg).1 ((h.rows i r hr).lt g hg).2, h.apart⟩
theorem BackM.lt (h : BackM w bb base R) : bb < w.heap.size := by obtain ⟨cur, h1, _⟩ := h.outer; exact (Array.getElem?_eq_some_iff.1 h1).1
theorem BackM.alloc (h : BackM w bb base R) (o : Obj) : BackM (w.alloc o) bb base R := h.keep (Below.heap_alloc _ _ _ h.lt) fun b _ hb => Below.heap_alloc _ _ _ hb
theorem BackM.cell (h : BackM w bb base R) {i : Nat} {r : Hd × List Int} (hr : R[i]? = some r) : w.cell? ⟨bb, i, none⟩ = some (.slice r.1.1 r.1.2.1 r.1.2.2) ∧ w.frozen? ⟨bb, i, none⟩ = false := by
  obtain ⟨cur, h1, h2, h3⟩ := h.outer
  exact ⟨(cell_of_row w bb i cur _ (0, 0) h1).trans (h3 i r hr), frozen_of_row w bb i cur _ h1⟩
/-- One row grew. -/
theorem BackM.push (h : BackM w bb base R) (hbb : bb < base) (hbase : base ≤ w.heap.size) {i : Nat} {r : Hd × List Int} (hr : R[i]? = some r) {A' : Option Addr} {n' c' : Nat} {s' : List Int} (ho : Own 1 iv w' base 2 A' n' c' s') (hg : w.grownBy w' (Value.slice r.1.1 r.1.2.1 r.1.2.2).ownBlock)
    (hat : (Value.slice A' n' c').ownBlock = (Value.slice r.1.1 r.1.2.1 r.1.2.2).ownBlock ∨ (Value.slice A' n' c').ownBlock = some w.heap.size) :
    BackM (w'.setCell ⟨bb, i, none⟩ (.slice A' n' c')) bb base (R.set i ((A', n', c'), s')) := by
  have hi : i < R.length := (List.getElem?_eq_some_iff.1 hr).1
  obtain ⟨cur, h1, h2, h3⟩ := h.outer
  have hne : ∀ b, b < base → some b ≠ (Value.slice r.1.1 r.1.2.1 r.1.2.2).ownBlock := fun b hb e => by
    have := ((h.rows i r hr).lt b e.symm).1
    omega
  have hkeep : ∀ g, base ≤ g → (w'.setCell ⟨bb, i, none⟩ (.slice A' n' c')).heap[g]? = w'.heap[g]? := fun g hg => Below.heap_setCell _ _ _ _ (by show g ≠ bb; omega)
  have key : ∀ i' r', i ≠ i' → R[i']? = some r' → Own 1 iv w' base 2 r'.1.1 r'.1.2.1 r'.1.2.2 r'.2 := fun i' r' hii hr' => (h.rows i' r' hr').kept hg (h.apart i' i r' r (Ne.symm hii) hr' hr)
  have keyA : ∀ i' r', i ≠ i' → R[i']? = some r' → (Value.slice r'.1.1 r'.1.2.1 r'.1.2.2).ownBlock = none ∨ (Value.slice r'.1.1 r'.1.2.1 r'.1.2.2).ownBlock ≠ (Value.slice A' n' c').ownBlock := fun i' r' hii hr' => by
    rcases hat with e | e
    · rw [e]; exact h.apart i' i r' r (Ne.symm hii) hr' hr
    · rw [e]
      cases e2 : (Value.slice r'.1.1 r'.1.2.1 r'.1.2.2).ownBlock with
      | none => exact .inl rfl
      | some b =>
        right
        intro e3
        injection e3 with e3
        have := ((h.rows i' r' hr').lt b e2).2
        omega
  refine ⟨⟨cur.setIfInBounds i (.slice A' n' c'), heap_setCell_same w' bb i cur _ _ ((hg.block bb h.lt (hne bb hbb)).trans h1), by simp [h2], fun i' r' hr' => ?_⟩, fun i' r' hr' => ?_, fun i1 i2 r1 r2 hii hr1 hr2 => ?_⟩
  · by_cases e : i = i'
    · subst e
      rw [List.getElem?_set_self hi] at hr'
      cases hr'
      simp [Array.getElem?_setIfInBounds]
      omega
    · rw [List.getElem?_set_ne e] at hr'
      rw [Array.getElem?_setIfInBounds_ne e]
      exact h3 i' r' hr'
  · by_cases e : i = i'
    · subst e
      rw [List.getElem?_set_self hi] at hr'
      cases hr'
      exact ho.keep fun g hgg => hkeep g (ho.lt g hgg).1
    · rw [List.getElem?_set_ne e] at hr'
      have hk := key i' r' e hr'
      exact hk.keep fun g hgg => hkeep g (hk.lt g hgg).1
  · by_cases e1 : i = i1
    · subst e1
      rw [List.getElem?_set_self hi] at hr1
      cases hr1
      rw [List.getElem?_set_ne hii] at hr2
      rcases keyA i2 r2 hii hr2 with h4 | h4
      · rw [h4]
        cases e2 : (Value.slice A' n' c').ownBlock with
        | none => exact .inl rfl
        | some b => right; simp
      · exact .inr (Ne.symm h4)
    · rw [List.getElem?_set_ne e1] at hr1
      by_cases e2 : i = i2
      · subst e2
        rw [List.getElem?_set_self hi] at hr2
        cases hr2
        exact keyA i1 r1 e1 hr1
      · rw [List.getElem?_set_ne e2] at hr2
        exact h.apart i1 i2 r1 r2 hii hr1 hr2
/-- What the finished rows read as. -/
theorem BackM.rowsI (h : BackM w bb base R) (hn : ∀ (i : Nat) (r : Hd × List Int), R[i]? = some r → r.2.length ≤ 1048576) : RowsI 1048576 w 0 w.heap.size (some ⟨bb, 0, none⟩) R.length R := by
  obtain ⟨cur, h1, h2, h3⟩ := h.outer
  refine ⟨⟨by rw [List.length_map], fun _ => ⟨bb, 0, rfl, Nat.zero_le _, h.lt, h.lt, fun k x hx j u hu => ?_⟩⟩, fun r hr => ?_⟩
  · rw [List.getElem?_map] at hx
    obtain ⟨r, hr, rfl⟩ := Option.map_eq_some_iff.1 hx
    have hj : j = 0 := by
      have := (List.getElem?_eq_some_iff.1 hu).1
      simp [sv] at this
      exact this
    subst hj
    simp [sv] at hu
    subst hu
    have := h.cell hr
    simpa using this
  · obtain ⟨i, hi⟩ := List.getElem?_of_mem hr
    have ho := h.rows i r hi
    refine ⟨((ho.sl flat_iv).more (Nat.zero_le _) (Nat.le_refl _)), ?_⟩
    have := hn i r hi
    rw [ho.len] at this
    exact this
end

end Go.Proofs.YtanlgnjgpbjebaaGreatDoor

namespace Go.Proofs.YtanlgnjgpbjebaaGreatDoor
open Go.ChangeShapes Go.WideShapes Go.ChangeAt Go.RowKit
set_option linter.unusedVariables false

/-- What the arena's making leaves. -/
def NewA (w : World) (A : Option Addr) (n cg : Nat) (v : Value) (W : World) : Prop :=
  ∃ bx bb bi oi ci, v = .pointer (some ⟨bx, 0, none⟩) ∧ W.heap[bx]? = some (.cells #[.slice A n cg, .slice (some ⟨bb, 0, none⟩) n n, .slice (some ⟨bi, oi, none⟩) n ci] 158 (0, 0)) ∧
    W.heap[bb]? = some (.cells (madeCells #[.slice none 0 0] n) 46 (0, 0)) ∧ SlB W w.heap.size W.heap.size (some ⟨bi, oi, none⟩) n (setOf n fun _ => true) ∧ Below w.heap.size w W ∧ bi ≠ bb ∧ bx ≠ bb ∧ w.heap.size ≤ bx ∧ w.heap.size ≤ bb

theorem info_rowI : (Tryz.prog.info? 46).map (fun i => (i.zero, i.size, i.bytes)) = some (some (.slice none 0 0), 1, 24) := by kernel_rfl
theorem run_make_rows (n : Nat) (hn : n ≤ 1048576) (W : World) : (Instr.makeSlice 156 (.int .i64 (n : Int)) (.int .i64 (n : Int))).run Tryz.prog W = .ok (.slice (some ⟨W.heap.size, 0, none⟩) n n) (W.alloc (.cells (madeCells #[.slice none 0 0] n) 46)) := by
  obtain ⟨i0, hi0, hz0, hz1, hz2⟩ := info_parts info_rowI
  have h := make_row (P := Tryz.prog) 156 46 i0 _ _ n Tryz.underlying156 hi0 hz0 hz1 (by rw [hz2]; omega) (by omega) W
  rw [Nat.mul_one] at h
  exact h

abbrev objM (n : Nat) : Obj := .cells (madeCells #[.slice none 0 0] n) 46
abbrev objL : Obj := .cells #[.bool true] 4

theorem newA_mk (w w1 : World) (A A1 : Option Addr) (n cg bb lo hi : Nat) (hn0 : 0 < n) (hbb : w1.heap[bb]? = some (.cells (madeCells #[.slice none 0 0] n) 46 (0, 0))) (hs : SlB w1 lo hi A1 n (List.replicate n true)) (bel : Below w.heap.size w w1) (hlo : w.heap.size ≤ lo) (hb : w.heap.size ≤ bb)
    (hne : ∀ bi, lo ≤ bi → bi < hi → bi ≠ bb) : NewA w A n cg (.pointer (some ⟨w1.heap.size, 0, none⟩)) (w1.alloc (.cells #[.slice A n cg, .slice (some ⟨bb, 0, none⟩) n n, .slice A1 n n] 158)) := by
  obtain ⟨bi, oi, rfl, h1, h2, h3, -⟩ := hs.at_ hn0
  have hlt : bb < w1.heap.size := (Array.getElem?_eq_some_iff.1 hbb).1
  rw [replicate_set] at hs
  have hz := bel.size
  exact ⟨w1.heap.size, bb, bi, oi, n, rfl, heap_alloc_new w1 _, (Below.heap_alloc _ _ _ hlt).trans hbb, ((Sl.below hs ((Below.refl w1.heap.size w1).alloc (Nat.le_refl _) _) (.inr (Nat.le_refl _))).top).more hlo (Nat.le_refl _), bel.alloc hz _, hne bi h1 h2, by omega, hz, hb⟩

/-- Where the two loops stand. -/
def BK (w : World) (A : Option Addr) (n cg bx bb bi oi ci base : Nat) (g : DV) (k j : Nat) (wr : World) : Prop :=
  ∃ R : List (Hd × List Int), BackM wr bb base R ∧ BackK g (R.map (·.2)) k j ∧ wr.heap[bx]? = some (.cells #[.slice A n cg, .slice (some ⟨bb, 0, none⟩) n n, .slice (some ⟨bi, oi, none⟩) n ci] 158 (0, 0)) ∧
    SlB wr bi (bi + 1) (some ⟨bi, oi, none⟩) n (setOf n fun _ => true) ∧ Below w.heap.size w wr ∧ base ≤ wr.heap.size

theorem step_app {P : Program} {α : Type} {size bytes : Nat} {f : α → List Value} {t e : TypeId} {w : World} {ops : Array Oper} {o : Oper} {a : Act} {K : Act → World → Prop} {Q : Exit → Act → World → Prop} {E : Prop} (hgd : o.guard = none) (s x : Operand)
    (ho : o.op = .call { callee := .builtin .append, args := #[s, x], argTypes := #[t, t] }) (hE : Elem P t e size bytes) (hf : Flat f size)
    {base n c : Nat} {A : Option Addr} {l : List α} (hs : a.eval s = .slice A n c) (hown : Own size f w base e A n c l)
    {B : Option Addr} {m d lo hi : Nat} {r : List α} (hx : a.eval x = .slice B m d) (hr : Sl size f w lo hi B m r) (hsz : (n + m) * bytes ≤ 140737488355328) (hbase : base ≤ w.heap.size)
    (h : ∀ A' c' w', Own size f w' base e A' (n + m) c' (l ++ r) → w.grownBy w' (Value.slice A n c).ownBlock → Below base w w' →
      ((Value.slice A' (n + m) c').ownBlock = (Value.slice A n c).ownBlock ∨ (Value.slice A' (n + m) c').ownBlock = some w.heap.size) → K (a.put o.dst (.slice A' (n + m) c')) w') :
    if Region.wanted o (yielded ops a.tmps) = true then Oper.wp P o a w K Q else E := by
  have hw : Region.wanted o (yielded ops a.tmps) = true := by simp [Region.wanted, hgd]
  rw [if_pos hw]
  obtain ⟨A', c', w', h1, h2, h3, h4⟩ := run_app w hE hf o.type hown (d := d) hr hsz hbase
  unfold Oper.wp execOp
  simp only [ho, resolve, invoke, builtin, Sem.run_bind, Sem.run_pure, Result.andThen_ok, List.map_toArray, List.map_cons, List.map_nil, hs, hx, h1]
  exact h _ _ _ h2 h3 ((Below.refl _ _).grown h3 hbase fun k hk => (hown.lt k hk).1) h4

set_option maxHeartbeats 3200000 in
set_option maxRecDepth 100000 in
theorem newArena_calls (A : Option Addr) (cg : Nat) (g : DV) (w : World) (hg : GameAt w A g.length g) (ok : GameBig g) :
    Calls Tryz.prog 115 #[.slice A g.length cg] w fun e w' => ∃ b, e = .returned (.pointer (some ⟨b, 0, none⟩)) ∧ ArenaAt w' b g (setOf g.length fun _ => true) ∧ Below w.heap.size w w' := by
  have hn0 : 0 < g.length := ok.1.1
  have hn1 : g.length ≤ 1200 := ok.1.2
  have hmk := run_make_rows g.length (by omega)
  generalize hgl : g.length = n at *
  have L1 : SlB ((w.alloc (objM n)).alloc objL).drew 0 ((w.heap.size + 1) + 1) (some ⟨w.heap.size + 1, 0, none⟩) 1 [true] := (Sl.lit1' (w.alloc (objM n)) 4 true _ rfl 1 (w.heap.size + 1) (by simp)).drew
  have L3 : SlB (w.alloc objL).drew 0 (w.heap.size + 1) (some ⟨w.heap.size, 0, none⟩) 1 [true] := (Sl.lit1' w 4 true _ rfl 1 w.heap.size rfl).drew
  have L2 : SlB ((w.alloc objL).alloc (objM n)).drew 0 (w.heap.size + 1) (some ⟨w.heap.size, 0, none⟩) 1 [true] := (Sl.below (Sl.lit1' w 4 true _ rfl 1 w.heap.size rfl) ((Below.refl (w.alloc objL).heap.size (w.alloc objL)).alloc (Nat.le_refl _) (objM n)) (.inl (by simp))).drew
  have q1 := hide (repeatB_calls _ 1 true n _ _ _ L1 hn0 (by omega))
  have q2 := hide (repeatB_calls _ 1 true n _ _ _ L2 hn0 (by omega))
  have q3 := hide (repeatB_calls _ 1 true n _ _ _ L3 hn0 (by omega))
  replace hg := hide hg
  replace ok := hide ok
  replace hgl := hide hgl
  clear L1 L2 L3
  go_enter Tryz.func115, Tryz.ntmps115
  go_upto_region 1 with fail
  go_cut [3] (fun v wx => NewA w A n cg v wx)
  case first =>
    go_region_with (first | (go_at_call 103; (with_reducible refine q1.out.mono ?_); rintro e w1 ⟨A1, rfl, hs1, hb1⟩) | (go_at_call 103; (with_reducible refine q2.out.mono ?_); rintro e w1 ⟨A1, rfl, hs1, hb1⟩) | (go_at_call 103; (with_reducible refine q3.out.mono ?_); rintro e w1 ⟨A1, rfl, hs1, hb1⟩))
    all_goals (go_wp2_with fail; go_meet)
    · exact newA_mk w w1 A A1 n cg w.heap.size _ _ hn0 ((hb1.block _ (by simp; omega)).trans ((Below.heap_alloc _ _ _ (by simp)).trans (heap_alloc_new w _))) hs1 ((((Below.refl _ _).alloc (Nat.le_refl _) _).alloc (by simp) _).drew.trans (hb1.mono (by simp; omega))) (by simp; omega) (Nat.le_refl _) (fun bi h1 _ => by simp at h1; omega)
    · exact newA_mk w w1 A A1 n cg (w.heap.size + 1) _ _ hn0 ((hb1.block _ (by simp)).trans (by have h := heap_alloc_new (w.alloc objL) (objM n); rw [World.size_alloc] at h; exact h)) hs1 ((((Below.refl _ _).alloc (Nat.le_refl _) _).alloc (by simp) _).drew.trans (hb1.mono (by simp; omega))) (by simp; omega) (by omega) (fun bi h1 _ => by simp at h1; omega)
    · have hbw : Below w.heap.size w w1 := ((Below.refl _ _).alloc (Nat.le_refl _) _).drew.trans (hb1.mono (by simp))
      have := newA_mk w (w1.alloc (objM n)) A A1 n cg w1.heap.size _ w1.heap.size hn0 (heap_alloc_new w1 _) ((Sl.below hs1 ((Below.refl w1.heap.size w1).alloc (Nat.le_refl _) (objM n)) (.inr (Nat.le_refl _)))) (hbw.alloc hbw.size _) (by simp) hbw.size (fun bi _ h2 => by omega)
      rw [World.size_alloc] at this
      exact this
  case rest =>
    obtain ⟨bx, bb, bi, oi, ci, rfl, hx, hbb, hin, bel, ne1, ne2, g1, g2⟩ := hcut
    obtain ⟨b1, o1, rfl, hb1⟩ := hg.out.addr hn0
    have hbbl : bb < wc.heap.size := (Array.getElem?_eq_some_iff.1 hbb).1
    have hbxl : bx < wc.heap.size := (Array.getElem?_eq_some_iff.1 hx).1
    have hbil : bi < wc.heap.size := by
      obtain ⟨b9, o9, e9, -, -, h9, -⟩ := hin.at_ hn0
      cases e9
      exact h9
    replace hin := hin.tight' hn0
    have hE := hide elem_int64
    have hstart : BK w (some ⟨b1, o1, none⟩) n cg bx bb bi oi ci wc.heap.size g 0 0 wc := by
      refine ⟨List.replicate n ((none, 0, 0), []), ⟨⟨_, hbb, by simp [madeCells], fun i r hr => ?_⟩, fun i r hr => ?_, fun i i' r r' _ hr _ => ?_⟩, BackK.start (fun m row hm => ?_) (by simp [hgl.out]), hx, hin, bel, Nat.le_refl _⟩
      · have hi : i < n := by
          have := (List.getElem?_eq_some_iff.1 hr).1
          simpa using this
        have := List.eq_of_mem_replicate (List.mem_of_getElem? hr)
        subst this
        simp [madeCells, hi, Nat.mod_one]
      · have := List.eq_of_mem_replicate (List.mem_of_getElem? hr)
        subst this
        exact Own.nil_ _ _ _
      · have := List.eq_of_mem_replicate (List.mem_of_getElem? hr)
        subst this
        exact .inl rfl
      · rw [List.getElem?_map] at hm
        obtain ⟨r, hr, rfl⟩ := Option.map_eq_some_iff.1 hm
        have := List.eq_of_mem_replicate (List.mem_of_getElem? hr)
        subst this
        rfl
    generalize hbs : wc.heap.size = base at *
    replace hstart := hide hstart
    clear hx hbb hin hbs bel hmk
    go_wp2_with fail
    go_loopw [20] (fun i wr => ∃ k : Nat, k ≤ n ∧ i = .int .i64 k ∧ BK w (some ⟨b1, o1, none⟩) n cg bx bb bi oi ci base g k 0 wr) (fun i _ => n - (intOf i).toNat)
    case atStart => exact ⟨0, Nat.zero_le _, rfl, hstart.out⟩
    case round =>
      obtain ⟨k, hk, rfl, hBK⟩ := hrel
      clear hstart
      by_cases hlt : k < n
      · obtain ⟨R, hM, hK, hx, hin, hb, hz⟩ := hBK
        obtain ⟨o, p, l, Ah, nh, ch, hxk, c0', c1', c2', hl, hnh, -, -, hinc⟩ := hg.out.cell ok.out hlt
        have c0 := (hb.cell (p := ⟨b1, o1 + k * 3, none⟩) hb1).trans c0'
        have c1 := (hb.cell (p := ⟨b1, o1 + k * 3 + 1, none⟩) hb1).trans c1'
        have c2 := (hb.cell (p := ⟨b1, o1 + k * 3 + 2, none⟩) hb1).trans c2'
        clear c0' c1' c2'
        have hnx := hide (gNxt_at hxk)
        have hzw : w.heap.size ≤ wr.heap.size := hb.size
        have hBK2 : Hid (BK w (some ⟨b1, o1, none⟩) n cg bx bb bi oi ci base g k 0 (wr.alloc (.cells #[.int .i64 o, .int .i64 p, .slice Ah nh ch] 137))) :=
          ⟨R, hM.alloc _, hK, (Below.heap_alloc _ _ _ ((Array.getElem?_eq_some_iff.1 hx).1)).trans hx, Sl.below hin ((Below.refl wr.heap.size wr).alloc (Nat.le_refl _) _) (.inr (Nat.le_refl _)), hb.alloc hzw _, by simp; omega⟩
        have hlen := hide hl.len
        have hl0 := hide hl
        replace hinc := hide hinc
        have hbw := hide hb
        clear hM hK hx hin hb hxk hl
        obtain ⟨wo, rfl⟩ : ∃ wo : World, wo = wr := ⟨_, rfl⟩
        go_wp2
        go_loopw [28] (fun i wr => ∃ j : Nat, j ≤ nh ∧ i = .int .i64 j ∧ BK w (some ⟨b1, o1, none⟩) n cg bx bb bi oi ci base g k j wr) (fun i _ => nh - (intOf i).toNat)
        case atStart => exact ⟨0, Nat.zero_le _, rfl, hBK2.out⟩
        case round =>
          obtain ⟨j, hj, rfl, hBK⟩ := hrel
          clear hBK2
          by_cases hjl : j < nh
          · obtain ⟨R, hM, hK, hx, hin, hb, hz⟩ := hBK
            obtain ⟨bh, oh, eAh, -⟩ := hl0.out.at_ (show 0 < nh by omega)
            have hl2 : SlI wr 0 w.heap.size Ah nh l := Sl.below hl0.out hb (.inl (Nat.le_refl _))
            rw [eAh] at hl2
            obtain ⟨x, hxl, x0, -⟩ := SlI.cell hl2 hjl
            subst eAh
            have hxb := hinc.out.at_ hxl
            have hx0 := hxb.1
            have hx1 := hxb.2
            have hxn : x.toNat < R.length := by have := hK.1; rw [List.length_map] at this; have := hgl.out; omega
            obtain ⟨⟨⟨Ar, nr, cr⟩, row⟩, hr⟩ : ∃ r, R[x.toNat]? = some r := ⟨_, List.getElem?_eq_getElem hxn⟩
            have hrow := hM.rows _ _ hr
            have hrl := hK.len (by rw [hgl.out]; exact hlt) (m := x.toNat) (row := row) (by rw [List.getElem?_map, hr]; rfl)
            have hnr := hrow.len
            dsimp only at hrow hnr hrl
            rw [hgl.out, hnr] at hrl
            have hKs := hK.step (x := x.toNat) (row := row) (ok.out.nxt k).1 (by rw [hnx.out, List.getElem?_map, hxl]; rfl) (by rw [List.getElem?_map, hr]; rfl)
            obtain ⟨m0, mz⟩ := hM.cell hr
            dsimp only at m0
            have y1 : wr.cell? ⟨bx, 1, none⟩ = some (.slice (some ⟨bb, 0, none⟩) n n) := (cell_of_row _ _ 1 _ _ (0, 0) hx).trans rfl
            have hxlt := (Array.getElem?_eq_some_iff.1 hx).1
            have hMlt := hM.lt
            have hMa := hide (hM.alloc (.cells #[.int .i64 (k : Int)] 2))
            have hrowa : Own 1 iv (wr.alloc (.cells #[.int .i64 (k : Int)] 2)).drew base 2 Ar nr cr row := hrow.alloc _
            have hlit : Sl 1 iv (wr.alloc (.cells #[.int .i64 (k : Int)] 2)).drew 0 (wr.heap.size + 1) (some ⟨wr.heap.size, 0, none⟩) 1 [(k : Int)] := (Sl.lit1' wr 2 (k : Int) _ rfl 1 _ rfl).drew
            have hza : base ≤ (wr.alloc (.cells #[.int .i64 (k : Int)] 2)).drew.heap.size := by simp; omega
            have hba : Below base wr (wr.alloc (.cells #[.int .i64 (k : Int)] 2)).drew := ((Below.refl _ _).alloc hz _).drew
            replace hrowa := hide hrowa
            replace hlit := hide hlit
            have y1a := (hba.cell (p := ⟨bx, 1, none⟩) hbxl).trans y1
            have m0a := (hba.cell (p := ⟨bb, x.toNat, none⟩) hbbl).trans m0
            have mza := (hba.frozen (p := ⟨bb, x.toNat, none⟩) hbbl).trans mz
            have hzw : w.heap.size ≤ base := Nat.le_trans g2 (Nat.le_of_lt hbbl)
            have hxa := hide (hx)
            have hina := hide hin
            have hba2 := hide hba
            replace hKs := hide hKs
            replace hr := hide hr
            have hbr := hide hb
            clear hl2 hxl hxb hrow hK hM hx hin hb hl0 hba c0 c1 c2
            have hsz : (nr + 1) * 8 ≤ 140737488355328 := by omega
            have hfin : ∀ A5 c5 w5, Own 1 iv w5 base 2 A5 (nr + 1) c5 (row ++ [(k : Int)]) → (wr.alloc (.cells #[.int .i64 (k : Int)] 2)).drew.grownBy w5 (Value.slice Ar nr cr).ownBlock → Below base (wr.alloc (.cells #[.int .i64 (k : Int)] 2)).drew w5 →
                ((Value.slice A5 (nr + 1) c5).ownBlock = (Value.slice Ar nr cr).ownBlock ∨ (Value.slice A5 (nr + 1) c5).ownBlock = some (wr.alloc (.cells #[.int .i64 (k : Int)] 2)).drew.heap.size) →
                BK w (some ⟨b1, o1, none⟩) n cg bx bb bi oi ci base g k (j + 1) (w5.setCell ⟨bb, x.toNat, none⟩ (.slice A5 (nr + 1) c5)) := by
              intro A5 c5 w5 hown5 hgr5 hb5 hat5
              have hMd : BackM (wr.alloc (.cells #[.int .i64 (k : Int)] 2)).drew bb base R := ⟨hMa.out.outer, hMa.out.rows, hMa.out.apart⟩
              refine ⟨R.set x.toNat ((A5, nr + 1, c5), row ++ [(k : Int)]), hMd.push hbbl hza hr.out hown5 hgr5 hat5, ?_, ?_, ?_, ?_, ?_⟩
              · rw [List.map_set]; exact hKs.out
              · exact (Below.heap_setCell _ _ _ _ (by show bx ≠ bb; exact ne2)).trans ((hb5.block bx hbxl).trans ((hba2.out.block bx hbxl).trans hxa.out))
              · exact Sl.only (Sl.below (Sl.below hina.out hba2.out (.inl hbil)) hb5 (.inl hbil)) ((Only.refl bb (bb + 1) w5).setCell (p := ⟨bb, x.toNat, none⟩) (Nat.le_refl _) (Nat.lt_succ_self _) _) (by omega)
              · exact ((hbr.out.trans (hba2.out.mono hzw)).trans (hb5.mono hzw)).setCell g2 _
              · rw [World.size_setCell]; exact Nat.le_trans hz (Nat.le_trans hba2.out.size hb5.size)
            replace hfin := hide hfin
            go_wp2
            go_region_law (refine step_app (d := 1) (by rfl) (.tmp 43) (.tmp 45) (by rfl) hE.out flat_iv (by go_simp) hrowa.out (by go_simp) hlit.out hsz hza ?_; intro A5 c5 w5 hown5 hgr5 hb5 hat5; have k1 := (hb5.cell (p := ⟨bx, 1, none⟩) hbxl).trans y1a; have k2 := (hb5.cell (p := ⟨bb, x.toNat, none⟩) hbbl).trans m0a; have k3 := (hb5.frozen (p := ⟨bb, x.toNat, none⟩) hbbl).trans mza; have hf9 := hide (hfin.out A5 c5 w5 hown5 hgr5 hb5 hat5); clear hown5 hgr5 hb5 hat5)
            all_goals
              go_wp2
              go_roundw
              case rel => exact ⟨j + 1, by omega, by go_num, hf9.out⟩
              case measure => simp [intOf]; omega
          · have hjn : j = nh := by omega
            subst hjn
            have hnext : Hid (BK w (some ⟨b1, o1, none⟩) n cg bx bb bi oi ci base g (k + 1) 0 wr) := by
              obtain ⟨R, hM, hK, r⟩ := hBK
              refine ⟨R, hM, ?_, r⟩
              have el : (gNxt g k).length = j := by rw [hnx.out, List.length_map, hlen.out]
              rw [← el] at hK
              exact hK.next
            clear hBK
            go_wp2
            go_roundw
            case rel => exact ⟨k + 1, by omega, by go_num, hnext.out⟩
            case measure => simp [intOf]; omega
      · have hkn : k = n := by omega
        subst hkn
        obtain ⟨R, hM, hK, hx, hin, hb, hz⟩ := hBK
        have hRl : R.length = k := by have := hK.1; rw [List.length_map] at this; have := hgl.out; omega
        have hdone := hK.done (by rw [hgl.out]; exact Nat.le_refl _)
        have hres : Hid (ArenaAt wr bx g (setOf g.length fun _ => true)) := by
          refine ⟨some ⟨b1, o1, none⟩, cg, some ⟨bb, 0, none⟩, k, some ⟨bi, oi, none⟩, ci, R, by rw [hgl.out]; exact hx, ?_, ?_, hdone, ?_⟩
          · rw [hgl.out]; exact hg.out.below hb (Nat.le_refl _)
          · have h9 := hM.rowsI (fun i r hr => by
              have h8 := hdone.2 i r.2 (by rw [List.getElem?_map, hr]; rfl)
              have h7 := nodup_le g.length (r.2.map Int.toNat) (by
                unfold List.Nodup
                rw [List.pairwise_map]
                refine List.Pairwise.imp_of_mem ?_ h8.1
                intro a1 a2 m1 m2 hne e
                obtain ⟨v1, rfl, _⟩ := (h8.2 a1).1 m1
                obtain ⟨v2, rfl, _⟩ := (h8.2 a2).1 m2
                simp at e
                exact hne (by rw [e])) (fun x hx => by
                obtain ⟨y, hy, rfl⟩ := List.mem_map.1 hx
                obtain ⟨v1, rfl, h4⟩ := (h8.2 y).1 hy
                have := gNxt_src h4
                simpa using this)
              rw [List.length_map, hgl.out] at h7
              omega)
            rw [hgl.out]
            rw [hRl] at h9
            exact h9
          · rw [hgl.out]; exact SlB.at_set hin
        replace hb := hide hb
        clear hM hK hx hin hdone
        go_wp2
        go_ret
        exact ⟨bx, rfl, by have h0 := hres.out; rwa [hgl.out] at h0, hb.out⟩

end Go.Proofs.YtanlgnjgpbjebaaGreatDoor

namespace Go.Proofs.YtanlgnjgpbjebaaGreatDoor
open Go.ChangeShapes Go.WideShapes Go.ChangeAt Go.RowKit
set_option linter.unusedVariables false

/-- A boxed variable. -/
def Box (W : World) (b : Nat) (v : Value) : Prop := W.cell? ⟨b, 0, none⟩ = some v ∧ b < W.heap.size
theorem Box.below {W W' : World} {b : Nat} {v : Value} {B : Nat} (h : Box W b v) (hb : Below B W W') (hB : W.heap.size ≤ B) : Box W' b v :=
  ⟨(hb.cell (p := ⟨b, 0, none⟩) (by have := h.2; show b < B; omega)).trans h.1, Nat.lt_of_lt_of_le h.2 hb.size⟩
theorem Box.made (W : World) (v : Value) (t : TypeId) : Box (W.alloc (.cells #[v] t)) W.heap.size v :=
  ⟨(cell_of_row _ _ 0 _ _ (0, 0) (heap_alloc_new W _)).trans rfl, by simp⟩

theorem win1_calls (b bX bL : Nat) (g : DV) (alive : List Bool) (least : Int) (k : Nat) (W : World) (h : ArenaAt W b g alive) (ok : GameBig g) (hk : k < g.length) (hX : Box W bX (.pointer (some ⟨b, 0, none⟩))) (hL : Box W bL (.int .i64 least)) :
    Calls Tryz.prog 144 #[.int .i64 (k : Int), .pointer (some ⟨bX, 0, none⟩), .pointer (some ⟨bL, 0, none⟩)] W fun e W' => e = .returned (.bool (decide (gPri g k = least))) ∧ ∃ N, W' = W.drewN N := by
  obtain ⟨b1, o1, cg, b2, o2, cb, b3, o3, ci, Q, c0, c1, c2, hg, -, -, -, -, hn0, hn1⟩ := h.open_ ok
  obtain ⟨o, p, l, Ah, nh, ch, hx, d0, d1, d2, -, -, -, -, -⟩ := hg.cell ok hk
  have hp := hide (gPri_at hx)
  have x0 := hX.1
  have l0 := hL.1
  have hk0 : (0 : Int) ≤ (k : Int) := by omega
  have hk1 : (k : Int) < (g.length : Int) := by omega
  clear h ok hg hX hL hx c1 c2 d0 d2
  generalize g.length = n at *
  by_cases z : p = least
  · have hv : Hid (decide (gPri g k = least) = true) := decide_eq_true (by rw [hp.out]; exact z)
    have e1 : (p == least) = true := by simpa using z
    clear z
    go_enter Tryz.func144, Tryz.ntmps144
    go_wp2
    go_quiet (fail)
    go_wp2
    go_ret
    exact ⟨ret_b (by rw [hv.out]), _, rfl⟩
  · have hv : Hid (decide (gPri g k = least) = false) := decide_eq_false (by rw [hp.out]; exact z)
    have e1 : (p == least) = false := by simpa using z
    clear z
    go_enter Tryz.func144, Tryz.ntmps144
    go_wp2
    go_quiet (fail)
    go_wp2
    go_ret
    exact ⟨ret_b (by rw [hv.out]), _, rfl⟩

theorem win2_calls (bW bP : Nat) (n : Nat) (A : Option Addr) (c : Nat) (won : List Bool) (player : Int) (k : Nat) (W : World) (hk : k < n) (hs : SetAt W A n won) (hW : Box W bW (.slice A n c)) (hP : Box W bP (.int .i64 player)) :
    Calls Tryz.prog 145 #[.int .i64 (k : Int), .pointer (some ⟨bW, 0, none⟩), .pointer (some ⟨bP, 0, none⟩)] W fun e W' => e = .returned (.bool (inS won k != decide (player = 1))) ∧ ∃ N, W' = W.drewN N := by
  obtain ⟨b1, o1, rfl, -⟩ := hs.addr (by omega)
  have s0 := hs.cell hk
  have x0 := hW.1
  have p0 := hP.1
  have hk0 : (0 : Int) ≤ (k : Int) := by omega
  have hk1 : (k : Int) < (n : Int) := by omega
  clear hs hW hP
  generalize inS won k = sv at *
  by_cases z : player = 1
  · have hv : Hid (decide (player = 1) = true) := decide_eq_true z
    have e1 : (player == 1) = true := by simpa using z
    clear z
    cases sv
    all_goals
      go_enter Tryz.func145, Tryz.ntmps145
      go_wp2
      go_quiet (fail)
      go_wp2
      go_ret
      exact ⟨ret_b (by rw [hv.out]; rfl), _, rfl⟩
  · have hv : Hid (decide (player = 1) = false) := decide_eq_false z
    have e1 : (player == 1) = false := by simpa using z
    clear z
    cases sv
    all_goals
      go_enter Tryz.func145, Tryz.ntmps145
      go_wp2
      go_quiet (fail)
      go_wp2
      go_ret
      exact ⟨ret_b (by rw [hv.out]; rfl), _, rfl⟩

theorem win3_calls (bP : Nat) (player : Int) (k : Nat) (W : World) (hP : Box W bP (.int .i64 player)) :
    Calls Tryz.prog 147 #[.int .i64 (k : Int), .pointer (some ⟨bP, 0, none⟩)] W fun e W' => e = .returned (.bool (decide (player = 1))) ∧ ∃ N, W' = W.drewN N := by
  have p0 := hP.1
  clear hP
  by_cases z : player = 1
  · have hv : Hid (decide (player = 1) = true) := decide_eq_true z
    have e1 : (player == 1) = true := by simpa using z
    clear z
    go_enter Tryz.func147, Tryz.ntmps147
    go_wp2
    go_ret
    exact ⟨ret_b (by rw [hv.out]), 0, rfl⟩
  · have hv : Hid (decide (player = 1) = false) := decide_eq_false z
    have e1 : (player == 1) = false := by simpa using z
    clear z
    go_enter Tryz.func147, Tryz.ntmps147
    go_wp2
    go_ret
    exact ⟨ret_b (by rw [hv.out]), 0, rfl⟩

theorem win4_calls (bO bP bW : Nat) (n : Nat) (A C : Option Addr) (c d : Nat) (lost won : List Bool) (player : Int) (k : Nat) (W : World) (hk : k < n) (hl : SetAt W A n lost) (hs : SetAt W C n won) (hO : Box W bO (.slice A n c)) (hP : Box W bP (.int .i64 player)) (hW : Box W bW (.slice C n d)) :
    Calls Tryz.prog 148 #[.int .i64 (k : Int), .pointer (some ⟨bO, 0, none⟩), .pointer (some ⟨bP, 0, none⟩), .pointer (some ⟨bW, 0, none⟩)] W fun e W' => e = .returned (.bool ((inS lost k && decide (player = 0)) || (!inS lost k && inS won k))) ∧ ∃ N, W' = W.drewN N := by
  obtain ⟨b1, o1, rfl, -⟩ := hl.addr (by omega)
  obtain ⟨b2, o2, rfl, -⟩ := hs.addr (by omega)
  have s0 := hl.cell hk
  have t0 := hs.cell hk
  have x0 := hO.1
  have p0 := hP.1
  have w0 := hW.1
  have hk0 : (0 : Int) ≤ (k : Int) := by omega
  have hk1 : (k : Int) < (n : Int) := by omega
  clear hs hl hO hW hP
  generalize inS lost k = lv at *
  generalize inS won k = wv at *
  by_cases z : player = 0
  · have hv : Hid (decide (player = 0) = true) := decide_eq_true z
    have e1 : (player == 0) = true := by simpa using z
    clear z
    cases lv <;> cases wv
    all_goals
      go_enter Tryz.func148, Tryz.ntmps148
      go_wp2
      go_ret
      exact ⟨ret_b (by rw [hv.out]; rfl), 0, rfl⟩
  · have hv : Hid (decide (player = 0) = false) := decide_eq_false z
    have e1 : (player == 0) = false := by simpa using z
    clear z
    cases lv <;> cases wv
    all_goals
      go_enter Tryz.func148, Tryz.ntmps148
      go_wp2
      go_ret
      exact ⟨ret_b (by rw [hv.out]; rfl), 0, rfl⟩

theorem winners11_calls (bG bO : Nat) (A : Option Addr) (g : DV) (cg : Nat) (owner : Int) (k : Nat) (W : World) (hg : GameAt W A g.length g) (ok : GameBig g) (hk : k < g.length) (hG : Box W bG (.slice A g.length cg)) (hO : Box W bO (.int .i64 owner)) :
    Calls Tryz.prog 118 #[.int .i64 (k : Int), .pointer (some ⟨bG, 0, none⟩), .pointer (some ⟨bO, 0, none⟩)] W fun e W' => e = .returned (.bool (decide (gOwn g k = owner) && (gNxt g k).isEmpty)) ∧ ∃ N, W' = W.drewN N := by
  obtain ⟨b1, o1, rfl, -⟩ := hg.addr (by omega)
  obtain ⟨o, p, l, Ah, nh, ch, hx, d0, d1, d2, hl, -, -, -, -⟩ := hg.cell ok hk
  have ho := hide (gOwn_at hx)
  have hll : (gNxt g k).isEmpty = decide (nh = 0) := by
    have := hl.len
    rw [gNxt_at hx]
    cases l <;> simp at this ⊢ <;> omega
  replace hll := hide hll
  have x0 := hG.1
  have p0 := hO.1
  have hk0 : (0 : Int) ≤ (k : Int) := by omega
  have hk1 : (k : Int) < (g.length : Int) := by omega
  clear hg hx hl ok hG hO
  generalize g.length = n at *
  by_cases z : o = owner
  · have hv : Hid (decide (gOwn g k = owner) = true) := decide_eq_true (by rw [ho.out]; exact z)
    have e1 : (o == owner) = true := by simpa using z
    clear z
    by_cases z2 : nh = 0
    · have hv2 : Hid (decide (nh = 0) = true) := decide_eq_true z2
      have e2 : ((nh : Int) == 0) = true := by simpa using z2
      clear z2
      go_enter Tryz.func118, Tryz.ntmps118
      go_wp2
      go_quiet (fail)
      go_wp2
      go_ret
      exact ⟨ret_b (by rw [hv.out, hll.out, hv2.out]; rfl), _, rfl⟩
    · have hv2 : Hid (decide (nh = 0) = false) := decide_eq_false z2
      have e2 : ((nh : Int) == 0) = false := by rw [beq_eq_false_iff_ne]; omega
      clear z2
      go_enter Tryz.func118, Tryz.ntmps118
      go_wp2
      go_quiet (fail)
      go_wp2
      go_ret
      exact ⟨ret_b (by rw [hv.out, hll.out, hv2.out]; rfl), _, rfl⟩
  · have hv : Hid (decide (gOwn g k = owner) = false) := decide_eq_false (by rw [ho.out]; exact z)
    have e1 : (o == owner) = false := by simpa using z
    clear z
    go_enter Tryz.func118, Tryz.ntmps118
    go_wp2
    go_quiet (fail)
    go_wp2
    go_ret
    exact ⟨ret_b (by rw [hv.out]; rfl), _, rfl⟩

end Go.Proofs.YtanlgnjgpbjebaaGreatDoor

namespace Go.Proofs.YtanlgnjgpbjebaaGreatDoor
open Go.ChangeShapes Go.WideShapes Go.ChangeAt Go.RowKit
set_option linter.unusedVariables false

theorem Box.set_other {W : World} {b B : Nat} {u v : Value} (h : Box W b u) (hne : b ≠ B) : Box (W.setCell ⟨B, 0, none⟩ v) b u :=
  ⟨(World.cell?_setCell_other _ _ _ _ (by intro e; injection e with e _ _; omega)).trans h.1, by rw [World.size_setCell]; exact h.2⟩
theorem Box.set_same {W : World} {B : Nat} {u v : Value} (h : Box W B u) : Box (W.setCell ⟨B, 0, none⟩ v) B v :=
  ⟨World.cell?_setCell_same _ _ _ h.1, by rw [World.size_setCell]; exact h.2⟩

theorem idx_zero {s : List Bool} : (idxOf s).length = 0 ↔ ∀ v, inS s v = false := by
  constructor
  · intro h v
    cases e : inS s v with
    | false => rfl
    | true =>
      have : (v : Int) ∈ idxOf s := mem_idx.2 ⟨v, rfl, e⟩
      have := List.length_pos_of_mem this
      omega
  · intro h
    have : idxOf s = [] := List.eq_nil_iff_forall_not_mem.2 fun x hx => by
      obtain ⟨v, rfl, hv⟩ := mem_idx.1 hx
      rw [h v] at hv; cases hv
    rw [this]; rfl

/-- The least priority so far. -/
def LeastJ (g : DV) (alive : List Bool) (l : List Int) (j : Nat) (m : Int) : Prop := (∃ u, inS alive u = true ∧ gPri g u = m) ∧ ∀ i (v : Nat), i < j → l[i]? = some (v : Int) → m ≤ gPri g v
theorem LeastJ.done {g : DV} {alive : List Bool} {m : Int} (h : LeastJ g alive (idxOf alive) (idxOf alive).length m) (hal : alive.length = g.length) : leastP g alive = some m := by
  obtain ⟨⟨u, hu, hm⟩, hle⟩ := h
  refine leastP_some hal hu hm fun v hv => ?_
  obtain ⟨i, hi⟩ := List.getElem?_of_mem (mem_idx.2 ⟨v, rfl, hv⟩ : (v : Int) ∈ idxOf alive)
  exact hle i v (List.getElem?_eq_some_iff.1 hi).1 hi
theorem LeastJ.done' {g : DV} {alive : List Bool} {m : Int} {n : Nat} (h : LeastJ g alive (idxOf alive) n m) (hn : (idxOf alive).length = n) (hal : alive.length = g.length) : leastP g alive = some m := by
  subst hn; exact h.done hal
theorem LeastJ.step {g : DV} {alive : List Bool} {l : List Int} {j : Nat} {m : Int} {v : Nat} (h : LeastJ g alive l j m) (hx : l[j]? = some (v : Int)) (hv : inS alive v = true) : LeastJ g alive l (j + 1) (min m (gPri g v)) := by
  obtain ⟨⟨u, hu, hm⟩, hle⟩ := h
  refine ⟨?_, fun i x hi hix => ?_⟩
  · rcases Int.le_total m (gPri g v) with h1 | h1
    · exact ⟨u, hu, by omega⟩
    · exact ⟨v, hv, by omega⟩
  · by_cases e : i = j
    · subst e
      rw [hx] at hix
      injection hix with hix
      have : v = x := by omega
      subst this
      omega
    · have := hle i x (by omega) hix
      omega

set_option maxHeartbeats 6400000 in
set_option maxRecDepth 100000 in
theorem win_calls (f : Nat) : ∀ (b : Nat) (g : DV) (alive : List Bool) (w : World), ArenaAt w b g alive → GameBig g → cntT alive ≤ f →
    Calls Tryz.prog 121 #[.pointer (some ⟨b, 0, none⟩)] w (GotB w g.length (winF g f alive)) := by
  induction f using Nat.strongRecOn with
  | ind f ih =>
  intro b g alive w h ok hf
  have hal : alive.length = g.length := by
    obtain ⟨Ag, cg, Ab, cb, Ai, ci, Q, h1, h2, h3, h4, h5⟩ := h
    exact h5.len
  have hmk := run_make_bool g.length (by have := ok.1.2; omega)
  have hb0 : Below w.heap.size w (w.alloc (.cells #[.pointer (some ⟨b, 0, none⟩)] 133)) := (Below.refl _ _).alloc (Nat.le_refl _) _
  have hX0 := Box.made w (.pointer (some ⟨b, 0, none⟩)) 133
  have h0 := h.below hb0 (Nat.le_refl _)
  have hz0 : w.heap.size < (w.alloc (.cells #[.pointer (some ⟨b, 0, none⟩)] 133)).heap.size := by simp
  obtain ⟨b1, o1, cg, b2, o2, cb, b3, o3, ci, Q, c0, c1, c2, hg, -, -, ha, hbl, hn0, hn1⟩ := h0.open_ ok
  have x0 := hX0.1
  have hal2 := hide hal
  generalize hBX : w.heap.size = BX at *
  replace hBX := hide hBX
  go_enter Tryz.func121, Tryz.ntmps121
  go_upto_region 1 with fail
  try simp only [hBX.out]
  generalize (w.alloc (.cells #[.pointer (some ⟨b, 0, none⟩)] 133)) = W0 at *
  have q1 := hide (trueAt_calls (some ⟨b3, o3, none⟩) g.length ci alive W0 0 _ ha.sl (by omega))
  replace h := hide h
  replace h0 := hide h0
  replace ih := hide ih
  replace hb0 := hide hb0
  replace hX0 := hide hX0
  replace hg := hide hg
  replace hf := hide hf
  replace hmk := hide hmk
  clear hal ha
  generalize hgl : g.length = n at *
  replace hgl := hide hgl
  go_wp2_with fail
  refine q1.out.mono ?_
  rintro e w1 ⟨A1, k1, rfl, hall, hb1⟩
  have hX1 := hX0.out.below hb1 (Nat.le_refl _)
  have h1 := hide (h0.out.below hb1 (Nat.le_refl _))
  have hz1 := hb1.size
  clear q1 c0 c1 c2 x0
  by_cases hem : (idxOf alive).length = 0
  · have hno := idx_zero.1 hem
    have hres := hide (winF_none (f := f) (leastP_none (hal2.out.trans hgl.out.symm) hno))
    have x1 := hX1.1
    obtain ⟨b1, o1, cg, b2, o2, cb, b3, o3, ci, Q, c0, c1, c2, -, -, -, -, hbl1, -, -⟩ := h1.out.open_ ok
    rw [hgl.out] at c0
    have hm := hide (SlB.made w1 n)
    have e0 : (((idxOf alive).length : Int) == 0) = true := by rw [hem]; rfl
    have bel1 := hb0.out.trans (hb1.mono (by omega))
    replace hmk := hmk.out
    clear hall hno hem hX1 c1 c2 hb1
    go_wp2
    go_ret
    rw [← hBX.out] at *
    exact ⟨_, _, rfl, by rw [hres.out, hgl.out]; exact hm.out.more (by omega) (by simp), bel1.alloc (by omega) _⟩
  · have e0 : (((idxOf alive).length : Int) == 0) = false := by rw [beq_eq_false_iff_ne]; omega
    have hallS := hall.sl flat_iv
    have hm0 : 0 < (idxOf alive).length := by omega
    obtain ⟨ba, oa, rfl, ha1, -, ha2, -⟩ := hallS.at_ hm0
    obtain ⟨a0, hx0, d0, -⟩ := SlI.cell hallS hm0
    obtain ⟨v0, rfl, hv0⟩ := mem_idx.1 (List.mem_of_getElem? hx0)
    have hv0n : v0 < n := by have := inS_lt hv0; rw [hal2.out] at this; have := hgl.out; omega
    have hlenA : Hid ((idxOf alive).length ≤ n) := by
      show _ ≤ _
      have := idx_len alive
      rw [hal2.out] at this
      have := hgl.out
      omega
    have x1 := hX1.1
    obtain ⟨b1, o1, cg, b2, o2, cb, b3, o3, ci, Q, c0, c1, c2, hg1, -, -, -, hbl1, -, -⟩ := h1.out.open_ ok
    rw [hgl.out] at c0 hg1
    obtain ⟨o, p0, l, Ah, nh, ch, hxv, y0, y1, y2, -, -, -, hp0, -⟩ := hg1.cell ok hv0n
    have hL0 : Hid (LeastJ g alive (idxOf alive) 0 p0) := ⟨⟨v0, hv0, gPri_at hxv⟩, fun i _ hi => absurd hi (by omega)⟩
    rw [Nat.add_zero] at d0
    have n1 := World.new_ne w1 _ x1
    have n2 := World.new_ne w1 _ c0
    have n3 := World.new_ne w1 _ d0
    have n4 := World.new_ne w1 _ y1
    have i1 : (0 : Int) ≤ (v0 : Int) := by omega
    have i2 : (v0 : Int) < (n : Int) := by omega
    have hp00 := hp0.1
    have hp09 := hp0.2
    replace hX1 := hide hX1
    replace hg1 := hide hg1
    replace hallS := hide hallS
    clear hall hx0 hxv hp0 c1 c2 y0 y2
    generalize hil : (idxOf alive).length = il at *
    have hil2 := hide hil
    clear hil
    go_wp2
    go_region_held3 (fun w' => w'.cell? ⟨BX, 0, none⟩ = some (.pointer (some ⟨b, 0, none⟩)) ∧ w'.cell? ⟨b, 0, none⟩ = some (.slice (some ⟨b1, o1, none⟩) n cg) ∧ w'.cell? ⟨ba, oa, none⟩ = some (.int .i64 (v0 : Int)) ∧ w'.cell? ⟨b1, o1 + v0 * 3 + 1, none⟩ = some (.int .i64 p0)) (go_keep) (fail)
    have bel4 : Below W0.heap.size W0 (w1.alloc (.cells #[.int .i64 p0] 2)).drew := (hb1.alloc hz1 _).drew
    have hBL : (w1.alloc (.cells #[.int .i64 p0] 2)).drew.heap[w1.heap.size]? = some (.cells #[.int .i64 p0] 2 (0, 0)) := heap_alloc_new w1 _
    have hall4 : SlI (w1.alloc (.cells #[.int .i64 p0] 2)).drew W0.heap.size w1.heap.size (some ⟨ba, oa, none⟩) il (idxOf alive) := (Sl.below hallS.out ((Below.refl w1.heap.size w1).alloc (Nat.le_refl _) _) (.inr (Nat.le_refl _))).drew
    have hz4 : w1.heap.size < (w1.alloc (.cells #[.int .i64 p0] 2)).drew.heap.size := by simp
    replace bel4 := hide bel4
    replace hBL := hide hBL
    replace hall4 := hide hall4
    clear hallS hX1 hg1 hb1 x1 c0 d0 y1 n1 n2 n3 n4 h1 i1 i2
    go_wp2_with fail
    generalize hW4 : (w1.alloc (.cells #[.int .i64 p0] 2)).drew = W4 at *
    generalize hBLn : w1.heap.size = BL at *
    clear hW4 hBLn
    go_loopw [39] (fun i wr => ∃ (j : Nat) (m : Int), j ≤ il ∧ i = .int .i64 j ∧ Hid (wr.heap[BL]? = some (.cells #[.int .i64 m] 2 (0, 0))) ∧ Hid (LeastJ g alive (idxOf alive) j m) ∧ 0 ≤ m ∧ m ≤ 1000 ∧ Only BL (BL + 1) W4 wr) (fun i _ => il - (intOf i).toNat)
    case atStart => exact ⟨0, p0, Nat.zero_le _, rfl, hBL, hL0, hp00, hp09, Only.refl _ _ _⟩
    case round =>
      obtain ⟨j, m, hj, rfl, hBm, hLm, hm0', hm9, ho⟩ := hrel
      clear hBL hL0
      have bel := Only.below bel4.out ho hz1 bel4.out.size
      by_cases hjl : j < il
      · obtain ⟨aj, hxj, e0', -⟩ := SlI.cell (Sl.only hall4.out ho (.inl (Nat.le_refl _))) hjl
        obtain ⟨vj, rfl, hvj⟩ := mem_idx.1 (List.mem_of_getElem? hxj)
        have hvjn : vj < n := by have := inS_lt hvj; rw [hal2.out] at this; have := hgl.out; omega
        have hXr := hX0.out.below bel (Nat.le_refl _)
        have hAr := h0.out.below bel (Nat.le_refl _)
        have x1 := hXr.1
        obtain ⟨b1, o1, cg, b2, o2, cb, b3, o3, ci, Q, c0, c1, c2, hg1, -, -, -, hbl1, -, -⟩ := hAr.open_ ok
        rw [hgl.out] at c0 hg1
        obtain ⟨o, p, l, Ah, nh, ch, hxv, y0, y1, y2, -, -, -, hpj, -⟩ := hg1.cell ok hvjn
        have hpp0 := hpj.1
        have hpp9 := hpj.2
        have hnext := hLm.out.step hxj hvj
        rw [gPri_at hxv] at hnext
        have l0 : wr.cell? ⟨BL, 0, none⟩ = some (.int .i64 m) := (cell_of_row _ _ 0 _ _ (0, 0) hBm.out).trans rfl
        have lz := frozen_of_row _ _ 0 _ _ hBm.out
        have hset : ∀ v, Hid ((wr.setCell ⟨BL, 0, none⟩ (.int .i64 v)).heap[BL]? = some (.cells #[.int .i64 v] 2 (0, 0))) := fun v => heap_setCell_same _ _ _ _ _ _ hBm.out
        have i1 : (0 : Int) ≤ (vj : Int) := by omega
        have i2 : (vj : Int) < (n : Int) := by omega
        have hlb := hlenA.out
        clear hXr hAr hg1 hxj hxv hpj c1 c2 y0 y2 bel hBm
        by_cases hpm : p < m
        · rw [show min m p = p by omega] at hnext
          replace hnext := hide hnext
          have hset := hset p
          go_wp2
          go_still_tail 10, (by kernel_rfl)
          change wpList _ _ _ _ _ wr.drew
          go_wp2
          go_roundw
          case rel => exact ⟨j + 1, p, by omega, by go_num, (by first | exact hset | (rw [show min m p = p by omega]; exact hset)), hnext, by omega, by omega, (ho.setCell (p := ⟨BL, 0, none⟩) (Nat.le_refl _) (Nat.lt_succ_self _) _).drewN 1⟩
          case measure => simp [intOf]; omega
        · rw [show min m p = m by omega] at hnext
          replace hnext := hide hnext
          have hset := hset m
          go_wp2
          go_still_tail 10, (by kernel_rfl)
          change wpList _ _ _ _ _ wr.drew
          go_wp2
          go_roundw
          case rel => exact ⟨j + 1, m, by omega, by go_num, (by first | exact hset | (rw [show min m p = m by omega]; exact hset)), hnext, by omega, by omega, (ho.setCell (p := ⟨BL, 0, none⟩) (Nat.le_refl _) (Nat.lt_succ_self _) _).drewN 1⟩
          case measure => simp [intOf]; omega
      · have hjn : j = il := by omega
        subst hjn
        have hle := hLm.out.done' hil2.out (hal2.out.trans hgl.out.symm)
        have hrest := rest_lt (hal2.out.trans hgl.out.symm) hle
        obtain ⟨f', rfl⟩ : ∃ f', f = f' + 1 := ⟨f - 1, by have := hf.out; omega⟩
        have hXr := hX0.out.below bel (Nat.le_refl _)
        have hAr := h0.out.below bel (Nat.le_refl _)
        have hLr : Box wr BL (.int .i64 m) := ⟨(cell_of_row _ _ 0 _ _ (0, 0) hBm.out).trans rfl, (Array.getElem?_eq_some_iff.1 hBm.out).1⟩
        have l0 := hLr.1
        replace hle := hide hle
        replace hrest := hide hrest
        have hzr := bel.size
        go_upto_region 11 with fail
        have belP := bel.alloc hzr (.cells #[.int .i64 (m % 2)] 2)
        have hP := Box.made wr (.int .i64 (m % 2)) 2
        have hbA := (Below.refl wr.heap.size wr).alloc (Nat.le_refl _) (.cells #[.int .i64 (m % 2)] 2)
        have hXP := hXr.below hbA (Nat.le_refl _)
        have hLP := hLr.below hbA (Nat.le_refl _)
        have hAP := hAr.below hbA (Nat.le_refl _)
        clear hXr hAr hLr hbA l0 hBm hLm bel ho hall4 bel4 hlenA hil2
        generalize hWP : wr.alloc (.cells #[.int .i64 (m % 2)] 2) = WP at *
        generalize hBP : wr.heap.size = BP at *
        clear hWP
        have hWd : Below WP.heap.size WP WP.drew := below_drewN WP 1
        have hdrew : Below W0.heap.size W0 WP.drew := belP.drew
        have q2 := hide (marked_calls 144 #[.pointer (some ⟨BX, 0, none⟩), .pointer (some ⟨BL, 0, none⟩)] (fun v => decide (gPri g v = m)) b g alive WP.drew (hAP.below hWd (Nat.le_refl _)) ok (fun v W => by kernel_rfl)
          (fun k W hk _ hW => win1_calls b BX BL g alive m k W ((hAP.below hWd (Nat.le_refl _)).below hW (Nat.le_refl _)) ok hk ((hXP.below hWd (Nat.le_refl _)).below hW (Nat.le_refl _)) ((hLP.below hWd (Nat.le_refl _)).below hW (Nat.le_refl _))))
        have x1 := hXP.1
        have p1 := hP.1
        have hXlt := hXP.2
        have hPlt := hP.2
        replace hAP := hide hAP
        replace hXP := hide hXP
        replace hLP := hide hLP
        replace hP := hide hP
        replace belP := hide belP
        replace hdrew := hide hdrew
        go_region_held3 (fun w' => w'.cell? ⟨BX, 0, none⟩ = some (.pointer (some ⟨b, 0, none⟩)) ∧ w'.cell? ⟨BP, 0, none⟩ = some (.int .i64 (m % 2))) (first | exact ⟨y1, y2⟩ | exact ⟨z1, z2⟩ | go_keep)
          (first
            | (go_at_call 117; (with_reducible refine q2.out.mono ?_); rintro e w2 ⟨A2, k2, rfl, hs2, hb2⟩; have z1 := (hb2.cell (p := ⟨BX, 0, none⟩) hXlt).trans x1; have z2 := (hb2.cell (p := ⟨BP, 0, none⟩) hPlt).trans p1; have hX2 := Nat.lt_of_lt_of_le hXlt hb2.size; have hP2 := Nat.lt_of_lt_of_le hPlt hb2.size; have belV2 := hWd.trans (hb2.mono (Nat.le_refl _)); replace belV2 := hide belV2; have bel2 := hide (hdrew.out.trans (hb2.mono hdrew.out.size)); have hF2 := hide (SlB.at_set hs2); clear hs2 hb2)
            | (go_at_call 119; (refine (attract_calls b g alive (firstF g alive m) (m % 2) A2 k2 w2 (h0.out.below bel2.out (Nat.le_refl _)) ok hF2.out (fun v hv => firstF_sub hv)).mono ?_); rintro e w3 ⟨A3, k3, rfl, hs3, hb3⟩; have bel3 := hide (bel2.out.trans (hb3.mono bel2.out.size)); have belV3 := belV2.out.trans (hb3.mono belV2.out.size); replace belV3 := hide belV3; have hF3 := hide (show SetAt w3 A3 g.length (aimF g alive m) from SlB.at_set hs3); have y1 := (hb3.cell (p := ⟨BX, 0, none⟩) hX2).trans z1; have y2 := (hb3.cell (p := ⟨BP, 0, none⟩) hP2).trans z2; clear hs3 hb3))
        clear q2 hF2 z1 z2 hX2 hP2 x1 p1
        go_wp2_with fail
        refine (without_calls b g alive (aimF g alive m) A3 k3 w3 (h0.out.below bel3.out (Nat.le_refl _)) ok hF3.out).mono ?_
        rintro e w4 ⟨b4, rfl, hA4, hb4⟩
        have hA4 : Hid (ArenaAt w4 b4 g (lessF g alive (aimF g alive m))) := hA4
        have bel4 := hide (bel3.out.trans (hb4.mono bel3.out.size))
        have belV4 := hide (belV3.out.trans (hb4.mono belV3.out.size))
        clear hF3 y1 y2 hb4
        generalize hrs : lessF g alive (aimF g alive m) = rest at *
        replace hrs := hide hrs
        go_wp2_with fail
        refine (ih.out f' (Nat.lt_succ_self _) b4 g rest w4 hA4.out ok (by have := hrest.out; have := hf.out; omega)).mono ?_
        rintro e w5 ⟨A5, k5, rfl, hs5, hb5⟩
        have bel5 := bel4.out.trans (hb5.mono bel4.out.size)
        have belV5 := belV4.out.trans (hb5.mono belV4.out.size)
        have hbox := (Below.refl w5.heap.size w5).alloc (Nat.le_refl _) (.cells #[.slice A5 g.length k5] 65)
        have bel6 := bel5.trans (hbox.mono bel5.size)
        have belV6 := belV5.trans (hbox.mono belV5.size)
        have hA6 := (hA4.out.below hb5 (Nat.le_refl _)).below hbox (Nat.le_refl _)
        have hW6 := Box.made w5 (.slice A5 g.length k5) 65
        have hs6 := SlB.at_set (Sl.below hs5 hbox (.inr (Nat.le_refl _)))
        have hP6 := hP.out.below belV6 (Nat.le_refl _)
        have hWb6 := heap_alloc_new w5 (.cells #[.slice A5 g.length k5] 65)
        replace hWb6 := hide hWb6
        have hBWz : w5.heap.size < (w5.alloc (.cells #[.slice A5 g.length k5] 65)).heap.size := by simp
        have hBW5 : WP.heap.size ≤ w5.heap.size := belV5.size
        have hBW0 : W0.heap.size ≤ w5.heap.size := bel5.size
        clear hs5 hb5 bel4 belV4 bel5 belV5 hbox hA4
        replace bel6 := hide bel6
        replace belV6 := hide belV6
        replace hA6 := hide hA6
        replace hW6 := hide hW6
        replace hs6 := hide hs6
        replace hP6 := hide hP6
        go_wp2_with fail
        generalize hW6n : (w5.alloc (.cells #[.slice A5 g.length k5] 65)) = W6 at *
        generalize hBWn : w5.heap.size = BW at *
        clear hW6n
        generalize hwn : winF g f' rest = won at *
        replace hwn := hide hwn
        refine (marked_calls 145 #[.pointer (some ⟨BW, 0, none⟩), .pointer (some ⟨BP, 0, none⟩)] (fun v => inS won v != decide (m % 2 = 1)) b4 g rest W6 hA6.out ok (fun v W => by kernel_rfl)
          (fun k W hk _ hW => win2_calls BW BP g.length A5 k5 won (m % 2) k W hk (hs6.out.below hW (Nat.le_refl _)) (hW6.out.below hW (Nat.le_refl _)) (hP6.out.below hW (Nat.le_refl _)))).mono ?_
        rintro e w7 ⟨A7, k7, rfl, hs7, hb7⟩
        have hs7 : SlB w7 W6.heap.size w7.heap.size A7 g.length (otherF g rest won (m % 2)) := hs7
        have bel7 := hide (bel6.out.trans (hb7.mono bel6.out.size))
        have belV7 := hide (belV6.out.trans (hb7.mono belV6.out.size))
        have hW7 := hide (hW6.out.below hb7 (Nat.le_refl _))
        have hO7 := hide (SlB.at_set hs7)
        have hz67 := hb7.size
        have hWb7 := hide ((hb7.block _ hBWz).trans hWb6.out)
        clear hs7 hb7 hWb6 hA6 hW6 hs6 bel6 belV6 hP6
        go_wp2_with fail
        refine (containsTrue_calls A7 g.length k7 _ w7 0 _ hO7.out.sl (by have := ok.1.2; omega)).mono ?_
        rintro e w' ⟨rfl, rfl⟩
        generalize hoth : otherF g rest won (m % 2) = other at *
        have hX7 := (hXP.out.below belV7.out (Nat.le_refl _))
        have hP7 := (hP.out.below belV7.out (Nat.le_refl _))
        have x7 := hX7.1
        have p7 := hP7.1
        replace hX7 := hide hX7
        replace hP7 := hide hP7
        by_cases hany : anyS other = true
        · have hgo := winF_go (f := f') hle.out (by rw [hrs.out, hwn.out, hoth]; exact hany)
          have hll := lost_lt (p2 := 1 - m % 2) (won := won) (player := m % 2) (hal2.out.trans hgl.out.symm) (least := m) (g := g) (alive := alive) (by rw [hrs.out, hoth]; exact hany)
          rw [hrs.out, hwn.out, hoth] at hgo
          rw [hrs.out, hoth] at hll
          have hosub : ∀ v, inS other v = true → inS alive v = true := fun v hv => by
            rw [← hoth, ← hrs.out] at hv
            exact otherF_sub hv
          dsimp only at hgo
          replace hgo := hide hgo
          replace hll := hide hll
          replace hosub := hide hosub
          replace hoth := hide hoth
          go_wp2_with fail
          refine (attract_calls b g alive other (1 - m % 2) A7 k7 w7 (h0.out.below bel7.out (Nat.le_refl _)) ok hO7.out hosub.out).mono ?_
          rintro e w8 ⟨A8, k8, rfl, hs8, hb8⟩
          have bel8 := bel7.out.trans (hb8.mono bel7.out.size)
          have hz8 := hb8.size
          have hz78 : W6.heap.size ≤ w7.heap.size := hz67
          have hWb8 := (hb8.block _ (by omega)).trans hWb7.out
          have hX8 := hX7.out.below hb8 (Nat.le_refl _)
          have hP8 := hP7.out.below hb8 (Nat.le_refl _)
          have hbox := (Below.refl w8.heap.size w8).alloc (Nat.le_refl _) (.cells #[.slice A8 g.length k8] 65)
          have bel9 := bel8.trans (hbox.mono bel8.size)
          have hX9 := hX8.below hbox (Nat.le_refl _)
          have hP9 := hP8.below hbox (Nat.le_refl _)
          have hO9 := Box.made w8 (.slice A8 g.length k8) 65
          have hl9 := Sl.below hs8 hbox (.inr (Nat.le_refl _))
          have hWb9 := (hbox.block BW (by omega)).trans hWb8
          have hz9 : w8.heap.size < (w8.alloc (.cells #[.slice A8 g.length k8] 65)).heap.size := by simp
          have x9 := hX9.1
          have o9 := hO9.1
          generalize hlost : attrF g alive (1 - m % 2) other = lost at *
          replace hlost := hide hlost
          replace bel9 := hide bel9
          replace hX9 := hide hX9
          replace hP9 := hide hP9
          replace hO9 := hide hO9
          replace hl9 := hide hl9
          replace hWb9 := hide hWb9
          clear hs8 hb8 hbox hX8 hP8 hWb8 bel8 hO7 x7 p7 hX7 hP7 hWb7 hW7 belV7
          go_wp2_with fail
          generalize hW9 : (w8.alloc (.cells #[.slice A8 g.length k8] 65)) = W9 at *
          generalize hBO : w8.heap.size = BO at *
          clear hW9
          refine (without_calls b g alive lost A8 k8 W9 (h0.out.below bel9.out (Nat.le_refl _)) ok (SlB.at_set hl9.out)).mono ?_
          rintro e w10 ⟨b10, rfl, hA10, hb10⟩
          have hA10 : Hid (ArenaAt w10 b10 g (lessF g alive lost)) := hA10
          have bel10 := hide (bel9.out.trans (hb10.mono bel9.out.size))
          have hX10 := hide (hX9.out.below hb10 (Nat.le_refl _))
          have hP10 := hide (hP9.out.below hb10 (Nat.le_refl _))
          have hO10 := hide (hO9.out.below hb10 (Nat.le_refl _))
          have hl10 := hide (Sl.below hl9.out hb10 (.inr (Nat.le_refl _)))
          have hWb10 := hide ((hb10.block BW (by omega)).trans hWb9.out)
          have hz10 := hb10.size
          clear hX9 hP9 hO9 hl9 hWb9 bel9 hb10 x9 o9
          go_wp2_with fail
          refine (ih.out f' (Nat.lt_succ_self _) b10 g (lessF g alive lost) w10 hA10.out ok (by have := hll.out; have := hf.out; omega)).mono ?_
          rintro e w11 ⟨A11, k11, rfl, hs11, hb11⟩
          have bel11 := bel10.out.trans (hb11.mono bel10.out.size)
          have hX11 := hX10.out.below hb11 (Nat.le_refl _)
          have hP11 := hP10.out.below hb11 (Nat.le_refl _)
          have hO11 := hO10.out.below hb11 (Nat.le_refl _)
          have hl11 := Sl.below hl10.out hb11 (.inr (Nat.le_refl _))
          have hWb11 := (hb11.block BW (by omega)).trans hWb10.out
          have hz11 := hb11.size
          have hW11 : Box w11 BW (.slice A5 g.length k5) := ⟨(cell_of_row _ _ 0 _ _ (0, 0) hWb11).trans rfl, (Array.getElem?_eq_some_iff.1 hWb11).1⟩
          have w11c := hW11.1
          have w11z := frozen_of_row _ _ 0 _ _ hWb11
          have hXne : BX ≠ BW := by omega
          have hPne : BP ≠ BW := by omega
          have hOne : BO ≠ BW := by omega
          have hbW : Below W0.heap.size W0 (w11.setCell ⟨BW, 0, none⟩ (.slice A11 g.length k11)) := bel11.setCell hBW0 _
          have hoW : Only BW (BW + 1) w11 (w11.setCell ⟨BW, 0, none⟩ (.slice A11 g.length k11)) := (Only.refl _ _ _).setCell (p := ⟨BW, 0, none⟩) (Nat.le_refl _) (Nat.lt_succ_self _) _
          have hX12 := Box.set_other (v := .slice A11 g.length k11) hX11 hXne
          have hP12 := hide (Box.set_other (v := .slice A11 g.length k11) hP11 hPne)
          have hO12 := hide (Box.set_other (v := .slice A11 g.length k11) hO11 hOne)
          have hW12 := hide (Box.set_same (v := .slice A11 g.length k11) hW11)
          have hl12 := hide (SlB.at_set (Sl.only hl11 hoW (.inr (by omega))))
          have hs12 := hide (SlB.at_set (Sl.only hs11 hoW (.inr (by omega))))
          have hA12 := hide (h0.out.below hbW (Nat.le_refl _))
          have x12 := hX12.1
          have hzs : (w11.setCell ⟨BW, 0, none⟩ (.slice A11 g.length k11)).heap.size = w11.heap.size := World.size_setCell _ _ _
          replace hbW := hide hbW
          replace hzs := hide hzs
          clear hs11 hb11 bel11 hX11 hP11 hO11 hl11 hWb11 hoW hX12 bel10 hX10 hP10 hO10 hl10 hWb10 hA10
          go_wp2_with fail
          refine (marked_calls 148 #[.pointer (some ⟨BO, 0, none⟩), .pointer (some ⟨BP, 0, none⟩), .pointer (some ⟨BW, 0, none⟩)] (fun v => (inS lost v && decide (m % 2 = 0)) || (!inS lost v && inS (winF g f' (lessF g alive lost)) v)) b g alive _ hA12.out ok (fun v W => by kernel_rfl)
            (fun k W hk _ hW => win4_calls BO BP BW g.length A8 A11 k8 k11 lost (winF g f' (lessF g alive lost)) (m % 2) k W hk (hl12.out.below hW (Nat.le_refl _)) (hs12.out.below hW (Nat.le_refl _)) (hO12.out.below hW (Nat.le_refl _)) (hP12.out.below hW (Nat.le_refl _)) (hW12.out.below hW (Nat.le_refl _)))).mono ?_
          rintro e w13 ⟨A13, k13, rfl, hs13, hb13⟩
          have bel13 := hide (hbW.out.trans (hb13.mono hbW.out.size))
          have hzz := bel7.out.size
          have hw7 : w.heap.size ≤ w11.heap.size := Nat.le_trans hb0.out.size (by omega)
          have hfin : SlB w13 w.heap.size w13.heap.size A13 n (winF g (f' + 1) alive) := by
            have h9 := hs13.more (lo' := w.heap.size) (by rw [hzs.out]; exact hw7) (Nat.le_refl _)
            rw [hgo.out, ← hgl.out]
            exact h9
          replace hfin := hide hfin
          clear hs13 hb13 x12
          go_wp2_with fail
          go_ret
          exact ⟨A13, k13, by rw [← hgl.out]; rfl, hfin.out, by rw [hBX.out]; exact hb0.out.trans (bel13.out.mono (by omega))⟩
        · replace hany := Bool.eq_false_iff.2 hany
          have hstop := hide (winF_stop (f := f') hle.out (by rw [hrs.out, hwn.out, hoth]; exact hany))
          replace hoth := hide hoth
          have hA7 := hide (h0.out.below bel7.out (Nat.le_refl _))
          go_wp2_with fail
          refine (marked_calls 147 #[.pointer (some ⟨BP, 0, none⟩)] (fun _ => decide (m % 2 = 1)) b g alive w7 hA7.out ok (fun v W => by kernel_rfl) (fun k W hk _ hW => win3_calls BP (m % 2) k W (hP7.out.below hW (Nat.le_refl _)))).mono ?_
          rintro e w8 ⟨A8, k8, rfl, hs8, hb8⟩
          have bel8 := hide (bel7.out.trans (hb8.mono bel7.out.size))
          have hzz := bel7.out.size
          replace hs8 := hide hs8
          clear hb8
          go_wp2_with fail
          go_ret
          have hw7 : w.heap.size ≤ w7.heap.size := Nat.le_trans hb0.out.size hzz
          have hfin : SlB w8 w.heap.size w8.heap.size A8 n (winF g (f' + 1) alive) := by
            have h9 := hs8.out.more (lo' := w.heap.size) hw7 (Nat.le_refl _)
            rw [hstop.out, ← hgl.out]
            exact h9
          exact ⟨A8, k8, by rw [← hgl.out]; rfl, hfin, by rw [hBX.out]; exact hb0.out.trans (bel8.out.mono (by omega))⟩

end Go.Proofs.YtanlgnjgpbjebaaGreatDoor

namespace Go.Proofs.YtanlgnjgpbjebaaGreatDoor
open Go.ChangeShapes Go.WideShapes Go.ChangeAt Go.RowKit
set_option linter.unusedVariables false

/-- A list of which the first k places are filled. -/
def intK (n k : Nat) (p : Nat → Int) : List Int := (List.range n).map fun v => if v < k then p v else 0
theorem intK_len (n k : Nat) (p : Nat → Int) : (intK n k p).length = n := by simp [intK]
theorem intK_all (n : Nat) (p : Nat → Int) : intK n n p = (List.range n).map p := by
  unfold intK
  apply List.map_congr_left
  intro v hv
  rw [if_pos (List.mem_range.1 hv)]
theorem intK_step {n k : Nat} {p : Nat → Int} (hk : k < n) : (intK n k p).set k (p k) = intK n (k + 1) p := by
  apply List.ext_getElem?
  intro i
  by_cases e : k = i
  · subst e
    rw [List.getElem?_set_self (by rw [intK_len]; exact hk)]
    simp [intK, hk]
  · rw [List.getElem?_set_ne e]
    by_cases hi : i < n
    · simp only [intK, List.getElem?_map, List.getElem?_range hi, Option.map_some]
      have : (i < k) ↔ (i < k + 1) := by omega
      simp [this]
    · rw [List.getElem?_eq_none (by rw [intK_len]; omega), List.getElem?_eq_none (by rw [intK_len]; omega)]
theorem run_make_int (n : Nat) (hn : n ≤ 1048576) (W : World) : (Instr.makeSlice 46 (.int .i64 (n : Int)) (.int .i64 (n : Int))).run Tryz.prog W = .ok (.slice (some ⟨W.heap.size, 0, none⟩) n n) (W.alloc (.cells (madeCells #[.int .i64 0] n) 2)) := by
  obtain ⟨i0, hi0, hz0, hz1, hz2⟩ := info_parts info_int64
  have h := make_row (P := Tryz.prog) 46 2 i0 _ _ n Tryz.underlying46 hi0 hz0 hz1 (by rw [hz2]; omega) (by omega) W
  rw [Nat.mul_one] at h
  exact h
theorem SlI.made (w : World) (n : Nat) (p : Nat → Int) : SlI (w.alloc (.cells (madeCells #[.int .i64 0] n) 2)) w.heap.size (w.heap.size + 1) (some ⟨w.heap.size, 0, none⟩) n (intK n 0 p) := by
  refine ⟨intK_len _ _ _, fun hn => ⟨w.heap.size, 0, rfl, Nat.le_refl _, by omega, by simp, fun k x hx j u hu => ?_⟩⟩
  have hk : k < n := by
    have := (List.getElem?_eq_some_iff.1 hx).1
    rwa [intK_len] at this
  have hx0 : x = 0 := by
    simp only [intK, List.getElem?_map, List.getElem?_range hk, Option.map_some] at hx
    simp at hx
    exact hx.symm
  subst hx0
  have hj : j = 0 := by
    have := (List.getElem?_eq_some_iff.1 hu).1
    simp [iv] at this
    exact this
  subst hj
  simp [iv] at hu
  subst hu
  have hg := heap_alloc_new w (.cells (madeCells #[.int .i64 0] n) 2)
  refine ⟨(cell_of_row _ _ _ _ _ (0, 0) hg).trans ?_, frozen_of_row _ _ _ _ _ hg⟩
  simp [madeCells, hk, Nat.mod_one]

theorem stuck_marked {g : DV} (o : Int) : (setOf g.length fun v => inS (setOf g.length fun _ => true) v && (decide (gOwn g v = o) && (gNxt g v).isEmpty)) = stuckF g o := setOf_congr fun v hv => by rw [inS_setOf]; simp [hv]

set_option maxRecDepth 100000 in
theorem winners1_calls (b bX bG : Nat) (A : Option Addr) (g : DV) (cg : Nat) (owner : Int) (W : World) (h : ArenaAt W b g (setOf g.length fun _ => true)) (ok : GameBig g) (hX : Box W bX (.pointer (some ⟨b, 0, none⟩))) (hG : Box W bG (.slice A g.length cg)) (hg : GameAt W A g.length g) :
    Calls Tryz.prog 116 #[.int .i64 owner, .pointer (some ⟨bX, 0, none⟩), .pointer (some ⟨bG, 0, none⟩)] W (GotB W g.length (stuckF g owner)) := by
  have hb0 := (Below.refl W.heap.size W).alloc (Nat.le_refl _) (.cells #[.int .i64 owner] 2)
  have hO := Box.made W (.int .i64 owner) 2
  have hX0 := hX.below hb0 (Nat.le_refl _)
  have x0 := hX0.1
  have q := marked_calls 118 #[.pointer (some ⟨bG, 0, none⟩), .pointer (some ⟨W.heap.size, 0, none⟩)] (fun v => decide (gOwn g v = owner) && (gNxt g v).isEmpty) b g _ (W.alloc (.cells #[.int .i64 owner] 2)) (h.below hb0 (Nat.le_refl _)) ok (fun v W => by kernel_rfl)
    (fun k W1 hk _ hW => winners11_calls bG W.heap.size A g cg owner k W1 ((hg.below hb0 (Nat.le_refl _)).below hW (Nat.le_refl _)) ok hk ((hG.below hb0 (Nat.le_refl _)).below hW (Nat.le_refl _)) (hO.below hW (Nat.le_refl _)))
  rw [stuck_marked] at q
  replace q := hide q
  replace hb0 := hide hb0
  clear h hX hG hg hO hX0
  go_enter Tryz.func116, Tryz.ntmps116
  go_wp2_with fail
  refine q.out.mono ?_
  rintro e w1 ⟨A1, k1, rfl, hs, hb⟩
  replace hs := hide hs
  go_wp2_with fail
  go_ret
  exact ⟨A1, k1, rfl, hs.out.more (by simp) (Nat.le_refl _), hb0.out.trans (hb.mono hb0.out.size)⟩

theorem rest_two {g : DV} : (setOf g.length fun v => inS (setOf g.length fun v => inS (setOf g.length fun _ => true) v && !inS (oneF g) v) v && !inS (zeroF g) v) = restF g := setOf_congr fun v hv => by
  rw [inS_setOf, inS_setOf]
  simp [hv, Bool.and_comm]

set_option maxHeartbeats 3200000 in
set_option maxRecDepth 100000 in
theorem winners_calls (A : Option Addr) (cg : Nat) (g : DV) (w : World) (hg : GameAt w A g.length g) (ok : GameBig g) :
    Calls Tryz.prog 93 #[.slice A g.length cg] w fun e w' => ∃ A' c', e = .returned (.slice A' g.length c') ∧ SlI w' w.heap.size w'.heap.size A' g.length (winnersF g) ∧ Below w.heap.size w w' := by
  have hn0 : 0 < g.length := ok.1.1
  have hn1 : g.length ≤ 1200 := ok.1.2
  have hmk := hide (run_make_int g.length (by omega))
  have hb0 := (Below.refl w.heap.size w).alloc (Nat.le_refl _) (.cells #[.slice A g.length cg] 115)
  have hG0 := Box.made w (.slice A g.length cg) 115
  have g0 := hG0.1
  have hg0 := hg.below hb0 (Nat.le_refl _)
  have hz0 : w.heap.size < (w.alloc (.cells #[.slice A g.length cg] 115)).heap.size := by simp
  have q := hide (newArena_calls A cg g _ hg0 ok)
  replace hG0 := hide hG0
  replace hg0 := hide hg0
  replace hb0 := hide hb0
  go_enter Tryz.func93, Tryz.ntmps93
  go_wp2_with fail
  generalize hW0 : (w.alloc (.cells #[.slice A g.length cg] 115)) = W0 at *
  generalize hBG : w.heap.size = BG at *
  replace hBG := hide hBG
  clear hW0
  refine q.out.mono ?_
  rintro e w1 ⟨b, rfl, hA1, hb1⟩
  have hbox := (Below.refl w1.heap.size w1).alloc (Nat.le_refl _) (.cells #[.pointer (some ⟨b, 0, none⟩)] 133)
  have bel2 := hb1.trans (hbox.mono hb1.size)
  have hX2 := Box.made w1 (.pointer (some ⟨b, 0, none⟩)) 133
  have hA2 := hA1.below hbox (Nat.le_refl _)
  have hG2 := hG0.out.below bel2 (Nat.le_refl _)
  have hg2 := hg0.out.below bel2 (Nat.le_refl _)
  replace hA2 := hide hA2
  replace hX2 := hide hX2
  replace hG2 := hide hG2
  replace hg2 := hide hg2
  replace bel2 := hide bel2
  clear q hA1 hb1 hbox
  have x2 := hX2.out.1
  have hX2lt := hX2.out.2
  go_upto_region 3 with fail
  generalize hW2 : (w1.alloc (.cells #[.pointer (some ⟨b, 0, none⟩)] 133)) = W2 at *
  generalize hBX : w1.heap.size = BX at *
  clear hW2
  have hWd : Below W2.heap.size W2 W2.drew := below_drewN W2 1
  have q1 := hide (winners1_calls b BX BG A g cg 0 W2.drew (hA2.out.below hWd (Nat.le_refl _)) ok (hX2.out.below hWd (Nat.le_refl _)) (hG2.out.below hWd (Nat.le_refl _)) (hg2.out.below hWd (Nat.le_refl _)))
  go_region_held3 (fun w' => w'.cell? ⟨BX, 0, none⟩ = some (.pointer (some ⟨b, 0, none⟩))) (first | exact y1 | exact z1 | go_keep)
    (first
      | (go_at_call 116; (with_reducible refine q1.out.mono ?_); rintro e w3 ⟨A3, k3, rfl, hs3, hb3⟩; have z1 := (hb3.cell (p := ⟨BX, 0, none⟩) hX2lt).trans x2; have bel3 := hWd.trans (hb3.mono (Nat.le_refl _)); have hX3 := Nat.lt_of_lt_of_le hX2lt hb3.size; replace bel3 := hide bel3; have hF3 := hide (SlB.at_set hs3); clear hs3 hb3)
      | (go_at_call 119; (refine (attract_calls b g _ (stuckF g 0) 1 A3 k3 w3 (hA2.out.below bel3.out (Nat.le_refl _)) ok hF3.out (fun v hv => stuck_whole hv)).mono ?_); rintro e w4 ⟨A4, k4, rfl, hs4, hb4⟩; have y1 := (hb4.cell (p := ⟨BX, 0, none⟩) hX3).trans z1; have bel4 := bel3.out.trans (hb4.mono bel3.out.size); replace bel4 := hide bel4; have hF4 := hide (show SetAt w4 A4 g.length (oneF g) from SlB.at_set hs4); clear hs4 hb4))
  clear q1 hF3 z1 hX3
  go_upto_region 4 with fail
  have hX4 := hX2.out.below bel4.out (Nat.le_refl _)
  have hX4lt := hX4.2
  have x4 := hX4.1
  have hWd4 : Below w4.heap.size w4 w4.drew := below_drewN w4 1
  have belD4 := bel4.out.trans (hWd4.mono bel4.out.size)
  have q2 := hide (winners1_calls b BX BG A g cg 1 w4.drew (hA2.out.below belD4 (Nat.le_refl _)) ok (hX2.out.below belD4 (Nat.le_refl _)) (hG2.out.below belD4 (Nat.le_refl _)) (hg2.out.below belD4 (Nat.le_refl _)))
  replace hX4 := hide hX4
  replace belD4 := hide belD4
  go_region_held3 (fun w' => w'.cell? ⟨BX, 0, none⟩ = some (.pointer (some ⟨b, 0, none⟩))) (first | exact y5 | exact z5 | go_keep)
    (first
      | (go_at_call 116; (with_reducible refine q2.out.mono ?_); rintro e w5 ⟨A5, k5, rfl, hs5, hb5⟩; have z5 := (hb5.cell (p := ⟨BX, 0, none⟩) hX4lt).trans x4; have bel5 := belD4.out.trans (hb5.mono belD4.out.size); have hX5 := Nat.lt_of_lt_of_le hX4lt hb5.size; replace bel5 := hide bel5; have hF5 := hide (SlB.at_set hs5); have hF45 := hide ((hF4.out.below hWd4 (Nat.le_refl _)).below hb5 (Nat.le_refl _)); clear hs5 hb5)
      | (go_at_call 119; (refine (attract_calls b g _ (stuckF g 1) 0 A5 k5 w5 (hA2.out.below bel5.out (Nat.le_refl _)) ok hF5.out (fun v hv => stuck_whole hv)).mono ?_); rintro e w6 ⟨A6, k6, rfl, hs6, hb6⟩; have y5 := (hb6.cell (p := ⟨BX, 0, none⟩) hX5).trans z5; have bel6 := bel5.out.trans (hb6.mono bel5.out.size); replace bel6 := hide bel6; have hF6 := hide (show SetAt w6 A6 g.length (zeroF g) from SlB.at_set hs6); have hF46 := hide (hF45.out.below hb6 (Nat.le_refl _)); clear hs6 hb6))
  clear q2 hF5 hF4 hF45 z5 y1 x4 x2 hX5
  go_wp2_with fail
  refine (without_calls b g _ (oneF g) A4 k4 w6 (hA2.out.below bel6.out (Nat.le_refl _)) ok hF46.out).mono ?_
  rintro e w7 ⟨b7, rfl, hA7, hb7⟩
  have bel7 := hide (bel6.out.trans (hb7.mono bel6.out.size))
  have hF47 := hide (hF46.out.below hb7 (Nat.le_refl _))
  have hF67 := hide (hF6.out.below hb7 (Nat.le_refl _))
  replace hA7 := hide hA7
  clear hb7 hF46 hF6
  go_wp2_with fail
  refine (without_calls b7 g _ (zeroF g) A6 k6 w7 hA7.out ok hF67.out).mono ?_
  rintro e w8 ⟨b8, rfl, hA8, hb8⟩
  rw [rest_two] at hA8
  have bel8 := hide (bel7.out.trans (hb8.mono bel7.out.size))
  have hF48 := hide (hF47.out.below hb8 (Nat.le_refl _))
  have hF68 := hide (hF67.out.below hb8 (Nat.le_refl _))
  replace hA8 := hide hA8
  clear hb8 hF47 hF67 hA7
  go_wp2_with fail
  refine (win_calls g.length b8 g (restF g) w8 hA8.out ok (by have := cntT_le (restF g); unfold restF at this ⊢; rw [setOf_len] at this; exact this)).mono ?_
  rintro e w9 ⟨A9, k9, rfl, hs9, hb9⟩
  have bel9 := bel8.out.trans (hb9.mono bel8.out.size)
  have hF49 := hide (hF48.out.below hb9 (Nat.le_refl _))
  have hF69 := hide (hF68.out.below hb9 (Nat.le_refl _))
  have hF99 := hide (SlB.at_set hs9)
  have hG9 := hG2.out.below bel9 (Nat.le_refl _)
  have g9 := hG9.1
  have hGlt := hG9.2
  clear hs9 hb9 hF48 hF68 hA8
  obtain ⟨u1, v1, rfl, -⟩ := SetAt.addr hF49.out hn0
  obtain ⟨u2, v2, rfl, -⟩ := SetAt.addr hF69.out hn0
  obtain ⟨u3, v3, rfl, -⟩ := SetAt.addr hF99.out hn0
  have hval : Hid (winnersF g = (List.range g.length).map fun v => if inS (oneF g) v || (!inS (zeroF g) v && inS (winF g g.length (restF g)) v) then 1 else 0) := rfl
  have hz9 := bel9.size
  replace bel9 := hide bel9
  replace hG9 := hide hG9
  generalize oneF g = one at *
  generalize zeroF g = zero at *
  generalize winF g g.length (restF g) = won at *
  have hm := hide (SlI.made w9 g.length (fun v => if inS one v || (!inS zero v && inS won v) then 1 else 0))
  have g10 := (hG9.out.below ((Below.refl w9.heap.size w9).alloc (Nat.le_refl _) (.cells (madeCells #[.int .i64 0] g.length) 2)) (Nat.le_refl _)).1
  replace hmk := hmk.out
  go_wp2_with fail
  go_loopw [32] (fun i wr => ∃ k : Nat, k ≤ g.length ∧ i = .int .i64 k ∧ SlI wr w9.heap.size (w9.heap.size + 1) (some ⟨w9.heap.size, 0, none⟩) g.length (intK g.length k fun v => if inS one v || (!inS zero v && inS won v) then 1 else 0) ∧ Below w9.heap.size w9 wr ∧ w9.heap.size < wr.heap.size) (fun i _ => g.length - (intOf i).toNat)
  case atStart => exact ⟨0, Nat.zero_le _, rfl, hm.out, (Below.refl _ _).alloc (Nat.le_refl _) _, by simp⟩
  case round =>
    obtain ⟨k, hk, rfl, hs, hb, hz⟩ := hrel
    clear hm hmk
    by_cases hlt : k < g.length
    · obtain ⟨x0, hx0, s0, z0⟩ := SlI.cell hs hlt
      rw [Nat.zero_add] at s0 z0
      have p0 := (hF49.out.below hb (Nat.le_refl _)).cell hlt
      have q0 := (hF69.out.below hb (Nat.le_refl _)).cell hlt
      have r0 := (hF99.out.below hb (Nat.le_refl _)).cell hlt
      have hfin : ∀ v : Int, v = (if inS one k || (!inS zero k && inS won k) then 1 else 0) → SlI (wr.setCell ⟨w9.heap.size, k, none⟩ (.int .i64 v)) w9.heap.size (w9.heap.size + 1) (some ⟨w9.heap.size, 0, none⟩) g.length (intK g.length (k + 1) fun v => if inS one v || (!inS zero v && inS won v) then 1 else 0) := fun v hv => by
        have := hs.put' hlt v
        rwa [hv, intK_step (p := fun v => if inS one v || (!inS zero v && inS won v) then 1 else 0) hlt, Nat.zero_add, ← hv] at this
      replace hfin := hide hfin
      clear hs g9 g10
      generalize g.length = n at *
      generalize inS one k = e1 at *
      generalize inS zero k = e2 at *
      generalize inS won k = e3 at *
      cases e1 <;> cases e2 <;> cases e3
      all_goals
        first
        | (have hnext := hide (hfin.out 1 (by rfl))
           go_wp2_with (go_at_call 122; (with_reducible refine (truth_calls true _).mono ?_); rintro e w' ⟨rfl, rfl⟩; simp only [if_true])
           go_roundw
           case rel => exact ⟨k + 1, by omega, by go_num, hnext.out, hb.setCell (Nat.le_refl _) _, by rw [World.size_setCell]; exact hz⟩
           case measure => simp [intOf]; omega)
        | (have hnext := hide (hfin.out 0 (by rfl))
           go_wp2_with (go_at_call 122; (with_reducible refine (truth_calls false _).mono ?_); rintro e w' ⟨rfl, rfl⟩; simp only [if_false, Bool.false_eq_true])
           go_roundw
           case rel => exact ⟨k + 1, by omega, by go_num, hnext.out, hb.setCell (Nat.le_refl _) _, by rw [World.size_setCell]; exact hz⟩
           case measure => simp [intOf]; omega)
    · have hkn : k = g.length := by omega
      subst hkn
      rw [intK_all, ← hval.out] at hs
      replace hs := hide hs
      clear g9 g10
      go_wp2
      go_ret
      have hbw : Below W2.heap.size W2 wr := bel9.out.trans (hb.mono bel9.out.size)
      have hb02 : Below W0.heap.size W0 wr := bel2.out.trans (hbw.mono bel2.out.size)
      have hbF : Below w.heap.size w wr := by rw [hBG.out]; exact hb0.out.trans (hb02.mono (by have := hz0; omega))
      refine ⟨_, _, rfl, hs.out.more ?_ hz, hbF⟩
      rw [hBG.out]
      have := bel2.out.size
      omega

end Go.Proofs.YtanlgnjgpbjebaaGreatDoor
