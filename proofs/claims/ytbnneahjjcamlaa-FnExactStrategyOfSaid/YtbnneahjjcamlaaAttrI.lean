/-
  The program's attractor. Conditions: valid games, a set within the vertices that are left.
-/
import Derived.Test.YtbnneahjjcamlaaArena2
import Derived.Test.YtbnneahjjcamlaaQueue
namespace Go.Proofs.Ytbnneahjjcamlaa
open Go.ChangeShapes Go.WideShapes Go.ChangeAt Go.RowKit
set_option linter.unusedVariables false

/-- The three things that the search writes. -/
structure MemA (W : World) (bo oo n : Nat) (out : List Bool) (bm m : Nat) (f : Int → Option Int) (qb : Nat) (A : Option Addr) (q c : Nat) (todo : List Int) : Prop where
  out : SlB W bo (bo + 1) (some ⟨bo, oo, none⟩) n out
  map : MapQ W bm m f
  que : OwnQ W qb A q c todo
  o1 : bo < bm
  o2 : bm < qb
  o3 : qb ≤ W.heap.size

section
variable {W W' : World} {bo oo n bm m qb q c : Nat} {out : List Bool} {f : Int → Option Int} {A : Option Addr} {todo : List Int}
theorem MemA.put (h : MemA W bo oo n out bm m f qb A q c todo) {k : Nat} (hk : k < n) : MemA (W.setCell ⟨bo, oo + k, none⟩ (.bool true)) bo oo n (out.set k true) bm m f qb A q c todo :=
  ⟨h.out.put hk true, h.map.keep (by rw [World.size_setCell]; exact Nat.le_refl _) (Below.heap_setCell _ _ _ _ (by have := h.o1; show bm ≠ bo; omega)), h.que.keep fun g hg _ => Below.heap_setCell _ _ _ _ (by have := h.o1; have := h.o2; show g ≠ bo; omega), h.o1, h.o2, by rw [World.size_setCell]; exact h.o3⟩
theorem MemA.grown (h : MemA W bo oo n out bm m f qb A q c todo) {m' : Nat} {f' : Int → Option Int} (hm : MapQ W' bm m' f') (hg : W.grownBy W' (some bm)) : MemA W' bo oo n out bm m' f' qb A q c todo := by
  have h1 := h.o1
  have h2 := h.o2
  have h3 := h.o3
  refine ⟨Sl.keep h.out hg.size fun b hb1 hb2 hb3 => hg.block b hb3 (by intro e; injection e with e; omega), hm, h.que.kept hg ?_, h1, h2, Nat.le_trans h3 hg.size⟩
  cases e : (Value.slice A q c).ownBlock with
  | none => exact .inl rfl
  | some g =>
    have := (h.que.lt g e).1
    right
    intro e2
    injection e2 with e2
    omega
theorem MemA.alloc (h : MemA W bo oo n out bm m f qb A q c todo) (o : Obj) : MemA (W.alloc o) bo oo n out bm m f qb A q c todo := by
  have h1 := h.o1
  have h2 := h.o2
  have h3 := h.o3
  exact ⟨Sl.keep h.out (by simp) fun b _ _ hb => Below.heap_alloc _ _ _ hb, h.map.keep (by simp) (Below.heap_alloc _ _ _ h.map.lt), h.que.alloc o, h1, h2, by simp; omega⟩
theorem MemA.app (h : MemA W bo oo n out bm m f qb A q c todo) {A' : Option Addr} {q' c' : Nat} {todo' : List Int} (hq : OwnQ W' qb A' q' c' todo') (hg : W.grownBy W' (Value.slice A q c).ownBlock) : MemA W' bo oo n out bm m f qb A' q' c' todo' := by
  have h1 := h.o1
  have h2 := h.o2
  have h3 := h.o3
  have hne : ∀ b, b < qb → some b ≠ (Value.slice A q c).ownBlock := fun b hb e => by
    have := (h.que.lt b e.symm).1
    omega
  exact ⟨Sl.keep h.out hg.size fun b hb1 hb2 hb3 => hg.block b hb3 (hne b (by omega)), h.map.kept hg (hne bm h2), hq, h1, h2, Nat.le_trans h3 hg.size⟩
theorem MemA.cut {x : Int} (h : MemA W bo oo n out bm m f qb A q c (x :: todo)) : MemA W bo oo n out bm m f qb (cutA A 1 c 1) (q - 1) (c - 1) todo := ⟨h.out, h.map, h.que.cut, h.o1, h.o2, h.o3⟩
end

theorem wf_of {x : Int} (h0 : 0 ≤ x) (h1 : x ≤ 1048576) : (Lit.int .i64 x).wf = true := WalkArith.wf_i64 (by omega)

theorem drop_at {l : List Int} {j : Nat} {x : Int} (h : l[j]? = some x) : l.drop j = x :: l.drop (j + 1) := by
  obtain ⟨hj, rfl⟩ := List.getElem?_eq_some_iff.1 h
  exact List.drop_eq_getElem_cons hj

/-- Row k of who may move where. -/
theorem RowsG.atI {most : Nat} {w : World} {lo hi n k b off : Nat} {R : List (Hd × List Int)} (h : RowsI most w lo hi (some ⟨b, off, none⟩) n R) (hk : k < n) :
    ∃ Ah nh ch s, R[k]? = some ((Ah, nh, ch), s) ∧ w.cell? ⟨b, off + k, none⟩ = some (.slice Ah nh ch) ∧ SlI w lo hi Ah nh s ∧ nh ≤ most := by
  obtain ⟨b', off', ⟨Ah, nh, ch⟩, s, e, g1, g2, g3, hr, hc, hs, hn⟩ := h.get hk
  cases e
  have h0 := (hc 0 _ rfl).1
  simp only [Nat.mul_one, Nat.add_zero] at h0
  exact ⟨Ah, nh, ch, s, hr, h0, hs, hn⟩

set_option maxHeartbeats 4000000 in
set_option maxRecDepth 100000 in
theorem attract_calls (b : Nat) (g : DV) (alive set : List Bool) (player : Int) (C : Option Addr) (d : Nat) (w : World) (h : ArenaAt w b g alive) (ok : GameOk g) (hset : SetAt w C g.length set) (hsub : ∀ v, inS set v = true → inS alive v = true) :
    Calls Try.prog 95 #[.pointer (some ⟨b, 0, none⟩), .int .i64 player, .slice C g.length d] w (GotB w g.length (attrF g alive player set)) := by
  obtain ⟨b1, o1, cg, b2, o2, cb, b3, o3, ci, Q, c0, c1, c2, hg, hbk, hbo, ha, hbl, hn0, hn1⟩ := h.open_ ok
  have hmm := @run_makeMap Try.prog
  have hal := hide ha.len
  have q1 := hide (cloneB_calls C g.length d set w 0 _ hset.sl (by omega))
  have hsl := hide hset.len
  have q2 := hide (fun W (hW : Below w.heap.size w W) => trueAt_calls C g.length d set W 0 _ (hset.below hW (Nat.le_refl _)).sl (by omega))
  replace h := hide h
  replace hg := hide hg
  replace ha := hide ha
  replace hbk := hide hbk
  replace hbo := hide hbo
  replace ok := hide ok
  replace hsub := hide hsub
  clear hset
  generalize hgl : g.length = n at *
  replace hgl := hide hgl
  go_enter Try.func95, Try.ntmps95
  go_wp2_with fail
  refine q1.out.mono ?_
  rintro e w1 ⟨A1, k1, rfl, hs1, hb1⟩
  obtain ⟨bo, oo, rfl, ho1, ho2, -, -⟩ := hs1.at_ hn0
  have hs1' := hs1.tight' hn0
  have hz1 := hb1.size
  have bel1 := hb1.alloc hz1 (.map #[] 0)
  have hmap := MapQ.made w1
  have hs2 := Sl.below hs1' ((Below.refl w1.heap.size w1).alloc (Nat.le_refl _) (.map #[] 0)) (.inr (Nat.le_refl _))
  have hz2 : (w1.alloc (.map #[] 0)).heap.size = w1.heap.size + 1 := by simp
  replace hs2 := hide hs2
  replace hmap := hide hmap
  clear hs1 hs1'
  go_wp2_with fail
  refine (q2.out _ bel1).mono ?_
  rintro e w2 ⟨A2, k2, rfl, hq, hb2⟩
  have hz3 := hb2.size
  rw [hz2] at hq hb2 hz3
  have bel2 := bel1.trans (hb2.mono (by rw [← hz2]; exact bel1.size))
  have hmem : MemA w2 bo oo n set w1.heap.size 0 (fun _ => none) (w1.heap.size + 1) A2 (idxOf set).length k2 (idxOf set) :=
    ⟨Sl.below hs2.out hb2 (.inl (by omega)), hmap.out.keep hb2.size (hb2.block _ (by omega)), OwnQ.of hq, ho2, Nat.lt_succ_self _, hz3⟩
  have hinit : Hid (AttrI g alive player set set (setOf g.length fun _ => false) (idxOf set) (fun _ => none) 0 []) := AttrI.start (by rw [hsl.out, hgl.out]) 0
  replace hmem := hide hmem
  replace bel2 := hide bel2
  generalize hbm : w1.heap.size = bm at *
  have hbow : w.heap.size ≤ bo := ho1
  clear hq hs2 hmap bel1 hb1 hb2 q1 q2 hmm hz2
  generalize hil : (idxOf set).length = il at *
  go_wp2_with fail
  go_loopg [9] n (fun N v wr => ∃ (out P : List Bool) (todo : List Int) (f : Int → Option Int) (A : Option Addr) (q c m : Nat), v = .slice A q c ∧ MemA wr bo oo n out bm m f (bm + 1) A q c todo ∧ Hid (AttrI g alive player set out P todo f 0 []) ∧ m ≤ 240 * numS P ∧ Below w.heap.size w wr ∧ n - numS P ≤ N)
  case atStart => exact ⟨set, _, _, _, A2, _, k2, 0, rfl, hmem.out, hinit, Nat.zero_le _, bel2.out, by omega⟩
  case round =>
    obtain ⟨out, P, todo, f, A, q, c, m, rfl, hM, hI, hm, hb, hN⟩ := hrel
    clear hmem bel2 hinit
    have hnP : numS P ≤ n := by
      have h1 := numS_le P
      rw [hI.out.plen, hgl.out] at h1
      exact h1
    cases todo with
    | nil =>
      have hq0 : q = 0 := hM.que.len.symm
      subst hq0
      have hfin := hide (hI.out.done (by rw [hal.out, hgl.out]))
      have hs := hide hM.out
      have hzz := hM.o3
      have h01 := hM.o1
      clear hM hI
      go_wp2
      go_ret
      have hs9 := hs.out.more hbow (show bo + 1 ≤ wr.heap.size by omega)
      rw [hfin.out] at hs9
      exact ⟨_, _, rfl, hs9, hb⟩
    | cons t todo =>
      obtain ⟨kk, rfl, hkk, hko, hkP⟩ := hI.out.head
      rw [hgl.out] at hkk
      obtain ⟨qg, qo, rfl, e0, hq0, hqc⟩ := hM.que.head
      have hcut : ∀ W : World, (Instr.slice 24 (.slice (some ⟨qg, qo, none⟩) q c) (some (.int .i64 1)) none none).run Try.prog W = .ok (.slice (cutA (some ⟨qg, qo, none⟩) 1 c 1) (q - 1) (c - 1)) W := fun W => run_cut elem_int64 (some ⟨qg, qo, none⟩) q c 1 (by omega) W
      have hM2 := hide hM.cut
      obtain ⟨Ah, nh, ch, row, hrow, r00, hrl, hrn⟩ := RowsG.atI hbk.out hkk
      have hb2l : b2 < w.heap.size := by
        obtain ⟨b2', o2', eb, -, -, h9, -⟩ := hbk.out.outer.at_ (show 0 < n from hn0)
        cases eb
        exact h9
      have r0 := (hb.cell (p := ⟨b2, o2 + kk, none⟩) hb2l).trans r00
      replace r00 := hide r00
      have hrow2 : (Q.map (·.2))[kk]? = some row := by rw [List.getElem?_map, hrow]; rfl
      obtain ⟨hnd, hrm⟩ := hbo.out.2 kk row hrow2
      have hpop := hide (hI.out.pop hnd (fun b' => by
        rw [hrm]
        constructor
        · rintro ⟨v, e, hv⟩; have : b' = v := by omega
          subst this; exact hv
        · intro hv; exact ⟨b', rfl, hv⟩))
      have hnum := numS_set (s := P) (v := kk) (by rw [hI.out.plen, hgl.out]; exact hkk) hkP
      have hkP1 : Hid (inS (P.set kk true) kk = true) := by
        show _ = _
        rw [inS_set (by rw [hI.out.plen, hgl.out]; exact hkk), if_pos rfl]
      have y0 := (hb.cell (p := ⟨b, 0, none⟩) hbl).trans c0
      have y1 := (hb.cell (p := ⟨b, 1, none⟩) hbl).trans c1
      have y2 := (hb.cell (p := ⟨b, 2, none⟩) hbl).trans c2
      have hrl2 := hide hrl
      have hrll := hide hrl.len
      have hnh : nh ≤ 120 := by
        have h1 := nodup_le n (row.map Int.toNat) (by
          unfold List.Nodup
          rw [List.pairwise_map]
          refine List.Pairwise.imp_of_mem ?_ hnd
          intro a1 a2 m1 m2 hne e
          obtain ⟨v1, rfl, _⟩ := (hrm a1).1 m1
          obtain ⟨v2, rfl, _⟩ := (hrm a2).1 m2
          apply hne
          simp at e
          rw [e]) (fun x hx => by
          obtain ⟨y, hy, rfl⟩ := List.mem_map.1 hx
          obtain ⟨v1, rfl, hv⟩ := (hrm y).1 hy
          have := gNxt_src hv
          have := hgl.out
          simp
          omega)
        rw [List.length_map, hrl.len] at h1
        omega
      replace hrm := hide hrm
      obtain ⟨N2, rfl⟩ : ∃ N2, gk = N2 + 1 := ⟨gk - 1, by have := numS_le (P.set kk true); rw [List.length_set, hI.out.plen, hgl.out] at this; omega⟩
      clear hM hI hrow hrow2 hrl hnd hbk hbo
      obtain ⟨wo, rfl⟩ : ∃ wo : World, wo = wr := ⟨_, rfl⟩
      generalize cutA (some ⟨qg, qo, none⟩) 1 c 1 = AC at *
      go_wp2
      go_loopw [9, 36] (fun v i wr => ∃ (j : Nat) (out : List Bool) (todo : List Int) (f : Int → Option Int) (A : Option Addr) (q c m : Nat), j ≤ nh ∧ i = .int .i64 j ∧ v = .slice A q c ∧ MemA wr bo oo n out bm m f (bm + 1) A q c todo ∧ Hid (AttrI g alive player set out (P.set kk true) todo f kk (row.drop j)) ∧ m ≤ 240 * numS P + 2 * j ∧ Below w.heap.size w wr) (fun _ i _ => nh - (intOf i).toNat)
      case atStart => exact ⟨0, out, todo, f, AC, _, _, m, Nat.zero_le _, rfl, rfl, hM2.out, (by rw [List.drop_zero]; exact hpop.out), by omega, hb⟩
      case round =>
        clear hM2 hpop hb e0 r0 y0 y1 y2 hcut
        obtain ⟨j, out, todo, f, A, q, c, m, hj, rfl, rfl, hM, hI, hm, hb⟩ := hrel
        by_cases hlt : j < nh
        · have hl2 := Sl.below hrl2.out hb (.inl (Nat.le_refl _))
          obtain ⟨bh, oh, eAh, -⟩ := hl2.at_ (show 0 < nh by omega)
          rw [eAh] at hl2
          obtain ⟨x, hx, x0, -⟩ := SlI.cell hl2 hlt
          subst eAh
          obtain ⟨bv, rfl, hkb⟩ := (hrm.out x).1 (List.mem_of_getElem? hx)
          have hI1 : AttrI g alive player set out (P.set kk true) todo f kk ((bv : Int) :: row.drop (j + 1)) := by rw [← drop_at hx]; exact hI.out
          have hbg : bv < g.length := gNxt_src hkb
          have hbn : bv < n := by have := hgl.out; omega
          have y0 := (hb.cell (p := ⟨b, 0, none⟩) hbl).trans c0
          have y1 := (hb.cell (p := ⟨b, 1, none⟩) hbl).trans c1
          have y2 := (hb.cell (p := ⟨b, 2, none⟩) hbl).trans c2
          obtain ⟨s0, z0, -, -, -⟩ := SlB.cell hM.out hbn
          have a0 := (ha.out.below hb (Nat.le_refl _)).cell hbn
          obtain ⟨o, p, l, Aq, nq, cq, hxk, d0, d1, d2, -, -, -, -, -⟩ := (hg.out.below hb (Nat.le_refl _)).cell ok.out hbn
          have hown := gOwn_at hxk
          have hqt := hI1.todo_le
          rw [hM.que.len, hgl.out] at hqt
          clear hl2 hx hI hxk d1 d2
          by_cases z1 : inS alive bv = true
          · by_cases z2 : inS out bv = true
            · have hnext := hide (hI1.skip (.inr z2))
              rw [z1] at a0
              rw [z2] at s0
              replace hM := hide hM
              clear z1 z2 hI1 hown
              go_wp2
              go_roundw
              case rel => exact ⟨j + 1, out, todo, f, A, q, c, m, by omega, by go_num, rfl, hM.out, hnext, by omega, hb⟩
              case measure => simp [intOf]; omega
            · replace z2 := Bool.eq_false_iff.2 z2
              rw [z1] at a0
              rw [z2] at s0
              have hbow2 : w.heap.size ≤ (⟨bo, oo + bv, none⟩ : Addr).block := hbow
              by_cases z3 : o = player
              · have e3 : (o != player) = false := by simpa using z3
                have hadd := hide (hI1.add (f' := f) z2 hbg (hI1.attr_own hsub.out hkP1.out hkb z1 (hown.trans z3)) (fun _ _ => rfl))
                have hMp := hide (hM.put hbn)
                have hMa := hide ((hM.put hbn).alloc (.cells #[.int .i64 (bv : Int)] 2))
                have hbp := (hb.setCell hbow2 (.bool true)).alloc (show w.heap.size ≤ (wr.setCell ⟨bo, oo + bv, none⟩ (.bool true)).heap.size by rw [World.size_setCell]; have := hM.o1; have := hM.o2; have := hM.o3; omega) (.cells #[.int .i64 (bv : Int)] 2)
                have hcell0 := cell_one_new (wr.setCell ⟨bo, oo + bv, none⟩ (.bool true)) (.int .i64 (bv : Int)) 2 0 _ rfl
                rw [addr_add, Nat.zero_add, World.size_setCell] at hcell0
                replace hcell0 := hide hcell0
                replace hbp := hide hbp
                have hzq : bm + 1 ≤ ((wr.setCell ⟨bo, oo + bv, none⟩ (.bool true)).alloc (.cells #[.int .i64 (bv : Int)] 2)).heap.size := hMa.out.o3
                replace hM := hide hM
                clear z1 z2 z3 hI1 hown
                go_wp2_with (first | (at_builtin; (with_reducible refine wpList_appQ rfl (.tmp 88) (.tmp 90) rfl rfl hMa.out.que ⟨wr.heap.size, 0, none⟩ 1 (bv : Int) rfl hcell0.out ?k1 hzq ?_); rotate_right; intro A5 c5 w5 hown5 hgr5 hb5 _))
                case k1 => omega
                have hM5 := hide (hMa.out.app hown5 hgr5)
                have hb6 := hide (hbp.out.trans (hb5.mono (by have := hM.out.o1; omega)))
                clear hown5 hgr5 hb5
                go_roundw
                case rel => exact ⟨j + 1, _, _, f, A5, _, c5, m, by omega, by go_num, rfl, hM5.out, hadd, by omega, hb6.out⟩
                case measure => simp [intOf]; omega
              · have e3 : (o != player) = true := by simpa using z3
                have hop : gOwn g bv ≠ player := by rw [hown]; exact z3
                obtain ⟨hcnt, hfb⟩ := hI1.count (ok.out.nxt bv).1 (ok.out.nxt bv).2 hsub.out hkP1.out hkb z1 z2 hop
                have hbw : (Lit.int .i64 (bv : Int)).wf = true := wf_of (by omega) (by omega)
                have hmb : m + 2 < maxLen := by unfold maxLen; omega
                obtain ⟨c8, hl1, hl1c⟩ := hM.map.lookOk hbw
                cases hf : f bv with
                | none =>
                  rw [hf] at hl1 hcnt hfb
                  simp only [Option.isSome_none, Option.getD_none] at hl1 hcnt
                  have hne : exitsF g alive bv ≤ n := by
                    have h1 := nodup_le g.length _ ((ok.out.nxt bv).1.filter (inS alive)) fun y hy => (ok.out.nxt bv).2 y (List.mem_filter.1 hy).1
                    have := hgl.out
                    unfold exitsF
                    omega
                  have qe := hide (exits_calls b g alive bv wr (h.out.below hb (Nat.le_refl _)) ok.out hbg)
                  obtain ⟨w1, hu1, hm1, hg1⟩ := hM.map.update (by omega) hbw (wf_of (x := (exitsF g alive bv : Int)) (by omega) (by omega))
                  have hM1 := hM.grown hm1 hg1
                  have hl2 := hm1.look hbw (c := (exitsF g alive bv : Int)) (by simp)
                  obtain ⟨w2, hu2, hm2, hg2⟩ := hm1.update (by omega) hbw (wf_of (x := (exitsF g alive bv : Int) - 1) (by omega) (by omega))
                  have hM2 := hM1.grown hm2 hg2
                  have hl3 := hm2.look hbw (c := (exitsF g alive bv : Int) - 1) (by simp)
                  clear hl1c
                  by_cases hpos : 0 < cntL g alive (P.set kk true) bv
                  · have hnext := hI1.lower (c := (exitsF g alive bv : Int) - 1) hop hcnt (by omega)
                    have ef : (fun i : Int => if i = (bv : Int) then some ((exitsF g alive bv : Int) - 1) else if i = (bv : Int) then some (exitsF g alive bv : Int) else f i) = fun x => if x = (bv : Int) then some ((exitsF g alive bv : Int) - 1) else f x := by funext i; by_cases e : i = (bv : Int) <;> simp [e]
                    rw [← ef] at hnext
                    replace hnext := hide hnext
                    have hb2 := hide ((hb.grown hg1 (by have := hM.o1; have := hM.o2; have := hM.o3; omega) (fun k hk => by injection hk with hk; have := hM.o1; omega)).grown hg2 (by have := hM1.o1; have := hM1.o2; have := hM1.o3; omega) (fun k hk => by injection hk with hk; have := hM.o1; omega))
                    have p1 : (0 : Int) < (exitsF g alive bv : Int) - 1 := by omega
                    have p2 : (1 : Int) < (exitsF g alive bv : Int) := by omega
                    replace hM2 := hide hM2
                    clear hm1 hg1 hM1 hm2 hg2 hM z1 z2 z3 hI1 hown hcnt hfb hpos hop hf
                    go_wp2_with (go_at_call 128; (with_reducible refine qe.out.mono ?_); rintro e w' ⟨rfl, rfl⟩)
                    go_roundw
                    case rel => exact ⟨j + 1, out, todo, _, A, q, c, _, by omega, by go_num, rfl, hM2.out, hnext.out, by omega, hb2.out⟩
                    case measure => simp [intOf]; omega
                  · have hadd := hI1.add (f' := fun i : Int => if i = (bv : Int) then some ((exitsF g alive bv : Int) - 1) else if i = (bv : Int) then some (exitsF g alive bv : Int) else f i) z2 hbg (hI1.attr_other hsub.out hkP1.out hkb z1 hop (by omega)) (fun x hx => by simp only [if_neg (show ¬ ((x : Int) = (bv : Int)) by omega)])
                    replace hadd := hide hadd
                    have hb2 := (hb.grown hg1 (by have := hM.o1; have := hM.o2; have := hM.o3; omega) (fun k hk => by injection hk with hk; have := hM.o1; omega)).grown hg2 (by have := hM1.o1; have := hM1.o2; have := hM1.o3; omega) (fun k hk => by injection hk with hk; have := hM.o1; omega)
                    have hMa := hide ((hM2.put hbn).alloc (.cells #[.int .i64 (bv : Int)] 2))
                    obtain ⟨s2, z2', -, -, -⟩ := SlB.cell hM2.out hbn
                    have hbp := (hb2.setCell hbow2 (.bool true)).alloc (show w.heap.size ≤ (w2.setCell ⟨bo, oo + bv, none⟩ (.bool true)).heap.size by rw [World.size_setCell]; have := hM2.o1; have := hM2.o2; have := hM2.o3; omega) (.cells #[.int .i64 (bv : Int)] 2)
                    have hcell0 := cell_one_new (w2.setCell ⟨bo, oo + bv, none⟩ (.bool true)) (.int .i64 (bv : Int)) 2 0 _ rfl
                    rw [addr_add, Nat.zero_add, World.size_setCell] at hcell0
                    replace hcell0 := hide hcell0
                    replace hbp := hide hbp
                    have hzq : bm + 1 ≤ ((w2.setCell ⟨bo, oo + bv, none⟩ (.bool true)).alloc (.cells #[.int .i64 (bv : Int)] 2)).heap.size := hMa.out.o3
                    have hom := hM.o1
                    have p1 : ¬ (0 : Int) < (exitsF g alive bv : Int) - 1 := by omega
                    have p2 : ¬ (1 : Int) < (exitsF g alive bv : Int) := by omega
                    replace hM2 := hide hM2
                    clear hm1 hg1 hM1 hm2 hg2 hM z1 z2 z3 hI1 hown hcnt hfb hpos hop hb2 hf
                    go_wp2_with (first | (go_at_call 128; (with_reducible refine qe.out.mono ?_); rintro e w' ⟨rfl, rfl⟩) | (at_builtin; (with_reducible refine wpList_appQ rfl (.tmp 88) (.tmp 90) rfl rfl hMa.out.que ⟨w2.heap.size, 0, none⟩ 1 (bv : Int) rfl hcell0.out ?k1 hzq ?_); rotate_right; intro A5 c5 w5 hown5 hgr5 hb5 _))
                    case k1 => omega
                    have hM5 := hide (hMa.out.app hown5 hgr5)
                    have hb6 := hide (hbp.out.trans (hb5.mono (by omega)))
                    clear hown5 hgr5 hb5
                    go_roundw
                    case rel => exact ⟨j + 1, _, _, _, A5, _, c5, _, by omega, by go_num, rfl, hM5.out, hadd.out, by omega, hb6.out⟩
                    case measure => simp [intOf]; omega
                | some c9 =>
                  have e89 := hl1c c9 hf
                  subst e89
                  rw [hf] at hl1 hcnt hfb
                  simp only [Option.isSome_some, Option.getD_some] at hl1 hcnt
                  have hc9 := hfb _ rfl
                  obtain ⟨hc91, hc92⟩ := hc9
                  rw [hgl.out] at hc92
                  have hl2 := hM.map.look hbw hf
                  obtain ⟨w2, hu2, hm2, hg2⟩ := hM.map.update (by omega) hbw (wf_of (x := c8 - 1) (by omega) (by omega))
                  have hM2 := hM.grown hm2 hg2
                  have hl3 := hm2.look hbw (c := c8 - 1) (by simp)
                  clear hl1c
                  by_cases hpos : 0 < cntL g alive (P.set kk true) bv
                  · have hnext := hI1.lower (c := c8 - 1) hop hcnt (by omega)
                    skip
                    replace hnext := hide hnext
                    have hb2 := hide ((hb).grown hg2 (by have := hM.o1; have := hM.o2; have := hM.o3; omega) (fun k hk => by injection hk with hk; have := hM.o1; omega))
                    have p1 : (0 : Int) < c8 - 1 := by omega
                    have p2 : (1 : Int) < c8 := by omega
                    replace hM2 := hide hM2
                    clear  hm2 hg2 hM z1 z2 z3 hI1 hown hcnt hfb hpos hop hf
                    go_wp2_with fail
                    go_roundw
                    case rel => exact ⟨j + 1, out, todo, _, A, q, c, _, by omega, by go_num, rfl, hM2.out, hnext.out, by omega, hb2.out⟩
                    case measure => simp [intOf]; omega
                  · have hadd := hI1.add (f' := fun i : Int => if i = (bv : Int) then some (c8 - 1) else f i) z2 hbg (hI1.attr_other hsub.out hkP1.out hkb z1 hop (by omega)) (fun x hx => by simp only [if_neg (show ¬ ((x : Int) = (bv : Int)) by omega)])
                    replace hadd := hide hadd
                    have hb2 := (hb).grown hg2 (by have := hM.o1; have := hM.o2; have := hM.o3; omega) (fun k hk => by injection hk with hk; have := hM.o1; omega)
                    have hMa := hide ((hM2.put hbn).alloc (.cells #[.int .i64 (bv : Int)] 2))
                    obtain ⟨s2, z2', -, -, -⟩ := SlB.cell hM2.out hbn
                    have hbp := (hb2.setCell hbow2 (.bool true)).alloc (show w.heap.size ≤ (w2.setCell ⟨bo, oo + bv, none⟩ (.bool true)).heap.size by rw [World.size_setCell]; have := hM2.o1; have := hM2.o2; have := hM2.o3; omega) (.cells #[.int .i64 (bv : Int)] 2)
                    have hcell0 := cell_one_new (w2.setCell ⟨bo, oo + bv, none⟩ (.bool true)) (.int .i64 (bv : Int)) 2 0 _ rfl
                    rw [addr_add, Nat.zero_add, World.size_setCell] at hcell0
                    replace hcell0 := hide hcell0
                    replace hbp := hide hbp
                    have hzq : bm + 1 ≤ ((w2.setCell ⟨bo, oo + bv, none⟩ (.bool true)).alloc (.cells #[.int .i64 (bv : Int)] 2)).heap.size := hMa.out.o3
                    have hom := hM.o1
                    have p1 : ¬ (0 : Int) < c8 - 1 := by omega
                    have p2 : ¬ (1 : Int) < c8 := by omega
                    replace hM2 := hide hM2
                    clear  hm2 hg2 hM z1 z2 z3 hI1 hown hcnt hfb hpos hop hb2 hf
                    go_wp2_with (first | fail | (at_builtin; (with_reducible refine wpList_appQ rfl (.tmp 88) (.tmp 90) rfl rfl hMa.out.que ⟨w2.heap.size, 0, none⟩ 1 (bv : Int) rfl hcell0.out ?k1 hzq ?_); rotate_right; intro A5 c5 w5 hown5 hgr5 hb5 _))
                    case k1 => omega
                    have hM5 := hide (hMa.out.app hown5 hgr5)
                    have hb6 := hide (hbp.out.trans (hb5.mono (by omega)))
                    clear hown5 hgr5 hb5
                    go_roundw
                    case rel => exact ⟨j + 1, _, _, _, A5, _, c5, _, by omega, by go_num, rfl, hM5.out, hadd.out, by omega, hb6.out⟩
                    case measure => simp [intOf]; omega
          · replace z1 := Bool.eq_false_iff.2 z1
            have hnext := hide (hI1.skip (.inl z1))
            rw [z1] at a0
            replace hM := hide hM
            clear z1 hI1 hown s0
            go_wp2
            go_roundw
            case rel => exact ⟨j + 1, out, todo, f, A, q, c, m, by omega, by go_num, rfl, hM.out, hnext, by omega, hb⟩
            case measure => simp [intOf]; omega
        · have hjn : j = nh := by omega
          subst hjn
          have hI2 := hI.out
          rw [List.drop_eq_nil_of_le (by rw [hrll.out]; exact Nat.le_refl _)] at hI2
          have hI3 : Hid (AttrI g alive player set out (P.set kk true) todo f 0 []) := ⟨hI2.bet, hI2.plen, hI2.sub, hI2.nodup, hI2.rnd, hI2.mem, fun x => by have := hI2.cond x; simpa using this⟩
          replace hM := hide hM
          clear hI hI2 hrl2
          go_wp2
          go_roundg N2
          case measure => omega
          case rel => exact ⟨out, _, todo, f, A, q, c, m, rfl, hM.out, hI3, by rw [hnum]; omega, hb, by rw [hnum]; omega⟩

end Go.Proofs.Ytbnneahjjcamlaa
