/-
  The program's arena of a game: the walk. Conditions: valid games.
-/
import Derived.Test.YtbnneahjjcamlaaNewA
import Derived.Deep.CutRange
namespace Go.Proofs.Ytbnneahjjcamlaa
open Go.ChangeShapes Go.WideShapes Go.ChangeAt Go.RowKit
set_option linter.unusedVariables false

/-- What the arena's making leaves. -/
def NewA (w : World) (A : Option Addr) (n cg : Nat) (v : Value) (W : World) : Prop :=
  ∃ bx bb bi oi ci, v = .pointer (some ⟨bx, 0, none⟩) ∧ W.heap[bx]? = some (.cells #[.slice A n cg, .slice (some ⟨bb, 0, none⟩) n n, .slice (some ⟨bi, oi, none⟩) n ci] 140 (0, 0)) ∧
    W.heap[bb]? = some (.cells (madeCells #[.slice none 0 0] n) 24 (0, 0)) ∧ SlB W w.heap.size W.heap.size (some ⟨bi, oi, none⟩) n (setOf n fun _ => true) ∧ Below w.heap.size w W ∧ bi ≠ bb ∧ bx ≠ bb ∧ w.heap.size ≤ bx ∧ w.heap.size ≤ bb

theorem info_rowI : (Try.prog.info? 24).map (fun i => (i.zero, i.size, i.bytes)) = some (some (.slice none 0 0), 1, 24) := by kernel_rfl
theorem run_make_rows (n : Nat) (hn : n ≤ 1048576) (W : World) : (Instr.makeSlice 51 (.int .i64 (n : Int)) (.int .i64 (n : Int))).run Try.prog W = .ok (.slice (some ⟨W.heap.size, 0, none⟩) n n) (W.alloc (.cells (madeCells #[.slice none 0 0] n) 24)) := by
  obtain ⟨i0, hi0, hz0, hz1, hz2⟩ := info_parts info_rowI
  have h := make_row (P := Try.prog) 51 24 i0 _ _ n Try.underlying51 hi0 hz0 hz1 (by rw [hz2]; omega) (by omega) W
  rw [Nat.mul_one] at h
  exact h

abbrev objM (n : Nat) : Obj := .cells (madeCells #[.slice none 0 0] n) 24
abbrev objL : Obj := .cells #[.bool true] 4

theorem newA_mk (w w1 : World) (A A1 : Option Addr) (n cg bb lo hi : Nat) (hn0 : 0 < n) (hbb : w1.heap[bb]? = some (.cells (madeCells #[.slice none 0 0] n) 24 (0, 0))) (hs : SlB w1 lo hi A1 n (List.replicate n true)) (bel : Below w.heap.size w w1) (hlo : w.heap.size ≤ lo) (hb : w.heap.size ≤ bb)
    (hne : ∀ bi, lo ≤ bi → bi < hi → bi ≠ bb) : NewA w A n cg (.pointer (some ⟨w1.heap.size, 0, none⟩)) (w1.alloc (.cells #[.slice A n cg, .slice (some ⟨bb, 0, none⟩) n n, .slice A1 n n] 140)) := by
  obtain ⟨bi, oi, rfl, h1, h2, h3, -⟩ := hs.at_ hn0
  have hlt : bb < w1.heap.size := (Array.getElem?_eq_some_iff.1 hbb).1
  rw [replicate_set] at hs
  have hz := bel.size
  exact ⟨w1.heap.size, bb, bi, oi, n, rfl, heap_alloc_new w1 _, (Below.heap_alloc _ _ _ hlt).trans hbb, ((Sl.below hs ((Below.refl w1.heap.size w1).alloc (Nat.le_refl _) _) (.inr (Nat.le_refl _))).top).more hlo (Nat.le_refl _), bel.alloc hz _, hne bi h1 h2, by omega, hz, hb⟩

/-- Where the two loops stand. -/
def BK (w : World) (A : Option Addr) (n cg bx bb bi oi ci base : Nat) (g : DV) (k j : Nat) (wr : World) : Prop :=
  ∃ R : List (Hd × List Int), BackM wr bb base R ∧ BackK g (R.map (·.2)) k j ∧ wr.heap[bx]? = some (.cells #[.slice A n cg, .slice (some ⟨bb, 0, none⟩) n n, .slice (some ⟨bi, oi, none⟩) n ci] 140 (0, 0)) ∧
    SlB wr bi (bi + 1) (some ⟨bi, oi, none⟩) n (setOf n fun _ => true) ∧ Below w.heap.size w wr ∧ base ≤ wr.heap.size

theorem step_app {P : Program} {α : Type} {size bytes : Nat} {f : α → List Value} {t e : TypeId} {w : World} {ops : Array Oper} {o : Oper} {a : Act} {K : Act → World → Prop} {Q : Exit → Act → World → Prop} {E : Prop} (hgd : o.guard = none) (s x : Operand)
    (ho : o.op = .call { callee := .builtin .append, args := #[s, x], argTypes := #[t, t] }) (hE : Elem P t e size bytes) (hf : Flat f size)
    {base n c : Nat} {A : Option Addr} {l : List α} (hs : a.eval s = .slice A n c) (hown : Own size f w base e A n c l)
    {B : Option Addr} {m d lo hi : Nat} {r : List α} (hx : a.eval x = .slice B m d) (hr : Sl size f w lo hi B m r) (hsz : (n + m) * bytes ≤ 140737488355328) (hbase : base ≤ w.heap.size)
    (h : ∀ A' c' w', Own size f w' base e A' (n + m) c' (l ++ r) → w.grownBy w' (Value.slice A n c).ownBlock → Below base w w' →
      ((Value.slice A' (n + m) c').ownBlock = (Value.slice A n c).ownBlock ∨ (Value.slice A' (n + m) c').ownBlock = some w.heap.size) → K (a.put o.dst (.slice A' (n + m) c')) w') :
    if Region.wanted o (yielded ops a.tmps) = true then Oper.wp P o a w K Q else E := by
  have hw : Region.wanted o (yielded ops a.tmps) = true := by simp [Region.wanted, hgd]
  rw [if_pos hw]
  obtain ⟨A', c', w', h1, h2, h3, h4⟩ := run_app w hE hf o.type hown (d := d) hr hsz hbase
  unfold Oper.wp execOp
  simp only [ho, resolve, invoke, builtin, Sem.run_bind, Sem.run_pure, Result.andThen_ok, List.map_toArray, List.map_cons, List.map_nil, hs, hx, h1]
  exact h _ _ _ h2 h3 ((Below.refl _ _).grown h3 hbase fun k hk => (hown.lt k hk).1) h4

set_option maxHeartbeats 3200000 in
set_option maxRecDepth 100000 in
theorem newArena_calls (A : Option Addr) (cg : Nat) (g : DV) (w : World) (hg : GameAt w A g.length g) (ok : GameOk g) :
    Calls Try.prog 91 #[.slice A g.length cg] w fun e w' => ∃ b, e = .returned (.pointer (some ⟨b, 0, none⟩)) ∧ ArenaAt w' b g (setOf g.length fun _ => true) ∧ Below w.heap.size w w' := by
  have hn0 : 0 < g.length := ok.1.1
  have hn1 : g.length ≤ 120 := ok.1.2
  have hmk := run_make_rows g.length (by omega)
  generalize hgl : g.length = n at *
  have L1 : SlB ((w.alloc (objM n)).alloc objL).drew 0 ((w.heap.size + 1) + 1) (some ⟨w.heap.size + 1, 0, none⟩) 1 [true] := (Sl.lit1' (w.alloc (objM n)) 4 true _ rfl 1 (w.heap.size + 1) (by simp)).drew
  have L3 : SlB (w.alloc objL).drew 0 (w.heap.size + 1) (some ⟨w.heap.size, 0, none⟩) 1 [true] := (Sl.lit1' w 4 true _ rfl 1 w.heap.size rfl).drew
  have L2 : SlB ((w.alloc objL).alloc (objM n)).drew 0 (w.heap.size + 1) (some ⟨w.heap.size, 0, none⟩) 1 [true] := (Sl.below (Sl.lit1' w 4 true _ rfl 1 w.heap.size rfl) ((Below.refl (w.alloc objL).heap.size (w.alloc objL)).alloc (Nat.le_refl _) (objM n)) (.inl (by simp))).drew
  have q1 := hide (repeatB_calls _ 1 true n _ _ _ L1 hn0 (by omega))
  have q2 := hide (repeatB_calls _ 1 true n _ _ _ L2 hn0 (by omega))
  have q3 := hide (repeatB_calls _ 1 true n _ _ _ L3 hn0 (by omega))
  replace hg := hide hg
  replace ok := hide ok
  replace hgl := hide hgl
  clear L1 L2 L3
  go_enter Try.func91, Try.ntmps91
  go_upto_region 1 with fail
  go_cut [3] (fun v wx => NewA w A n cg v wx)
  case first =>
    go_region_with (first | (go_at_call 125; (with_reducible refine q1.out.mono ?_); rintro e w1 ⟨A1, rfl, hs1, hb1⟩) | (go_at_call 125; (with_reducible refine q2.out.mono ?_); rintro e w1 ⟨A1, rfl, hs1, hb1⟩) | (go_at_call 125; (with_reducible refine q3.out.mono ?_); rintro e w1 ⟨A1, rfl, hs1, hb1⟩))
    all_goals (go_wp2_with fail; go_meet)
    · exact newA_mk w w1 A A1 n cg w.heap.size _ _ hn0 ((hb1.block _ (by simp; omega)).trans ((Below.heap_alloc _ _ _ (by simp)).trans (heap_alloc_new w _))) hs1 ((((Below.refl _ _).alloc (Nat.le_refl _) _).alloc (by simp) _).drew.trans (hb1.mono (by simp; omega))) (by simp; omega) (Nat.le_refl _) (fun bi h1 _ => by simp at h1; omega)
    · exact newA_mk w w1 A A1 n cg (w.heap.size + 1) _ _ hn0 ((hb1.block _ (by simp)).trans (by have h := heap_alloc_new (w.alloc objL) (objM n); rw [World.size_alloc] at h; exact h)) hs1 ((((Below.refl _ _).alloc (Nat.le_refl _) _).alloc (by simp) _).drew.trans (hb1.mono (by simp; omega))) (by simp; omega) (by omega) (fun bi h1 _ => by simp at h1; omega)
    · have hbw : Below w.heap.size w w1 := ((Below.refl _ _).alloc (Nat.le_refl _) _).drew.trans (hb1.mono (by simp))
      have := newA_mk w (w1.alloc (objM n)) A A1 n cg w1.heap.size _ w1.heap.size hn0 (heap_alloc_new w1 _) ((Sl.below hs1 ((Below.refl w1.heap.size w1).alloc (Nat.le_refl _) (objM n)) (.inr (Nat.le_refl _)))) (hbw.alloc hbw.size _) (by simp) hbw.size (fun bi _ h2 => by omega)
      rw [World.size_alloc] at this
      exact this
  case rest =>
    obtain ⟨bx, bb, bi, oi, ci, rfl, hx, hbb, hin, bel, ne1, ne2, g1, g2⟩ := hcut
    obtain ⟨b1, o1, rfl, hb1⟩ := hg.out.addr hn0
    have hbbl : bb < wc.heap.size := (Array.getElem?_eq_some_iff.1 hbb).1
    have hbxl : bx < wc.heap.size := (Array.getElem?_eq_some_iff.1 hx).1
    have hbil : bi < wc.heap.size := by
      obtain ⟨b9, o9, e9, -, -, h9, -⟩ := hin.at_ hn0
      cases e9
      exact h9
    replace hin := hin.tight' hn0
    have hE := hide elem_int64
    have hstart : BK w (some ⟨b1, o1, none⟩) n cg bx bb bi oi ci wc.heap.size g 0 0 wc := by
      refine ⟨List.replicate n ((none, 0, 0), []), ⟨⟨_, hbb, by simp [madeCells], fun i r hr => ?_⟩, fun i r hr => ?_, fun i i' r r' _ hr _ => ?_⟩, BackK.start (fun m row hm => ?_) (by simp [hgl.out]), hx, hin, bel, Nat.le_refl _⟩
      · have hi : i < n := by
          have := (List.getElem?_eq_some_iff.1 hr).1
          simpa using this
        have := List.eq_of_mem_replicate (List.mem_of_getElem? hr)
        subst this
        simp [madeCells, hi, Nat.mod_one]
      · have := List.eq_of_mem_replicate (List.mem_of_getElem? hr)
        subst this
        exact Own.nil_ _ _ _
      · have := List.eq_of_mem_replicate (List.mem_of_getElem? hr)
        subst this
        exact .inl rfl
      · rw [List.getElem?_map] at hm
        obtain ⟨r, hr, rfl⟩ := Option.map_eq_some_iff.1 hm
        have := List.eq_of_mem_replicate (List.mem_of_getElem? hr)
        subst this
        rfl
    generalize hbs : wc.heap.size = base at *
    replace hstart := hide hstart
    clear hx hbb hin hbs bel hmk
    go_wp2_with fail
    go_loopw [20] (fun i wr => ∃ k : Nat, k ≤ n ∧ i = .int .i64 k ∧ BK w (some ⟨b1, o1, none⟩) n cg bx bb bi oi ci base g k 0 wr) (fun i _ => n - (intOf i).toNat)
    case atStart => exact ⟨0, Nat.zero_le _, rfl, hstart.out⟩
    case round =>
      obtain ⟨k, hk, rfl, hBK⟩ := hrel
      clear hstart
      by_cases hlt : k < n
      · obtain ⟨R, hM, hK, hx, hin, hb, hz⟩ := hBK
        obtain ⟨o, p, l, Ah, nh, ch, hxk, c0', c1', c2', hl, hnh, -, -, hinc⟩ := hg.out.cell ok.out hlt
        have c0 := (hb.cell (p := ⟨b1, o1 + k * 3, none⟩) hb1).trans c0'
        have c1 := (hb.cell (p := ⟨b1, o1 + k * 3 + 1, none⟩) hb1).trans c1'
        have c2 := (hb.cell (p := ⟨b1, o1 + k * 3 + 2, none⟩) hb1).trans c2'
        clear c0' c1' c2'
        have hnx := hide (gNxt_at hxk)
        have hzw : w.heap.size ≤ wr.heap.size := hb.size
        have hBK2 : Hid (BK w (some ⟨b1, o1, none⟩) n cg bx bb bi oi ci base g k 0 (wr.alloc (.cells #[.int .i64 o, .int .i64 p, .slice Ah nh ch] 66))) :=
          ⟨R, hM.alloc _, hK, (Below.heap_alloc _ _ _ ((Array.getElem?_eq_some_iff.1 hx).1)).trans hx, Sl.below hin ((Below.refl wr.heap.size wr).alloc (Nat.le_refl _) _) (.inr (Nat.le_refl _)), hb.alloc hzw _, by simp; omega⟩
        have hlen := hide hl.len
        have hl0 := hide hl
        replace hinc := hide hinc
        have hbw := hide hb
        clear hM hK hx hin hb hxk hl
        obtain ⟨wo, rfl⟩ : ∃ wo : World, wo = wr := ⟨_, rfl⟩
        go_wp2
        go_loopw [28] (fun i wr => ∃ j : Nat, j ≤ nh ∧ i = .int .i64 j ∧ BK w (some ⟨b1, o1, none⟩) n cg bx bb bi oi ci base g k j wr) (fun i _ => nh - (intOf i).toNat)
        case atStart => exact ⟨0, Nat.zero_le _, rfl, hBK2.out⟩
        case round =>
          obtain ⟨j, hj, rfl, hBK⟩ := hrel
          clear hBK2
          by_cases hjl : j < nh
          · obtain ⟨R, hM, hK, hx, hin, hb, hz⟩ := hBK
            obtain ⟨bh, oh, eAh, -⟩ := hl0.out.at_ (show 0 < nh by omega)
            have hl2 : SlI wr 0 w.heap.size Ah nh l := Sl.below hl0.out hb (.inl (Nat.le_refl _))
            rw [eAh] at hl2
            obtain ⟨x, hxl, x0, -⟩ := SlI.cell hl2 hjl
            subst eAh
            have hxb := hinc.out.at_ hxl
            have hx0 := hxb.1
            have hx1 := hxb.2
            have hxn : x.toNat < R.length := by have := hK.1; rw [List.length_map] at this; have := hgl.out; omega
            obtain ⟨⟨⟨Ar, nr, cr⟩, row⟩, hr⟩ : ∃ r, R[x.toNat]? = some r := ⟨_, List.getElem?_eq_getElem hxn⟩
            have hrow := hM.rows _ _ hr
            have hrl := hK.len (by rw [hgl.out]; exact hlt) (m := x.toNat) (row := row) (by rw [List.getElem?_map, hr]; rfl)
            have hnr := hrow.len
            dsimp only at hrow hnr hrl
            rw [hgl.out, hnr] at hrl
            have hKs := hK.step (x := x.toNat) (row := row) (ok.out.nxt k).1 (by rw [hnx.out, List.getElem?_map, hxl]; rfl) (by rw [List.getElem?_map, hr]; rfl)
            obtain ⟨m0, mz⟩ := hM.cell hr
            dsimp only at m0
            have y1 : wr.cell? ⟨bx, 1, none⟩ = some (.slice (some ⟨bb, 0, none⟩) n n) := (cell_of_row _ _ 1 _ _ (0, 0) hx).trans rfl
            have hxlt := (Array.getElem?_eq_some_iff.1 hx).1
            have hMlt := hM.lt
            have hMa := hide (hM.alloc (.cells #[.int .i64 (k : Int)] 2))
            have hrowa : Own 1 iv (wr.alloc (.cells #[.int .i64 (k : Int)] 2)).drew base 2 Ar nr cr row := hrow.alloc _
            have hlit : Sl 1 iv (wr.alloc (.cells #[.int .i64 (k : Int)] 2)).drew 0 (wr.heap.size + 1) (some ⟨wr.heap.size, 0, none⟩) 1 [(k : Int)] := (Sl.lit1' wr 2 (k : Int) _ rfl 1 _ rfl).drew
            have hza : base ≤ (wr.alloc (.cells #[.int .i64 (k : Int)] 2)).drew.heap.size := by simp; omega
            have hba : Below base wr (wr.alloc (.cells #[.int .i64 (k : Int)] 2)).drew := ((Below.refl _ _).alloc hz _).drew
            replace hrowa := hide hrowa
            replace hlit := hide hlit
            have y1a := (hba.cell (p := ⟨bx, 1, none⟩) hbxl).trans y1
            have m0a := (hba.cell (p := ⟨bb, x.toNat, none⟩) hbbl).trans m0
            have mza := (hba.frozen (p := ⟨bb, x.toNat, none⟩) hbbl).trans mz
            have hzw : w.heap.size ≤ base := Nat.le_trans g2 (Nat.le_of_lt hbbl)
            have hxa := hide (hx)
            have hina := hide hin
            have hba2 := hide hba
            replace hKs := hide hKs
            replace hr := hide hr
            have hbr := hide hb
            clear hl2 hxl hxb hrow hK hM hx hin hb hl0 hba c0 c1 c2
            have hsz : (nr + 1) * 8 ≤ 140737488355328 := by omega
            have hfin : ∀ A5 c5 w5, Own 1 iv w5 base 2 A5 (nr + 1) c5 (row ++ [(k : Int)]) → (wr.alloc (.cells #[.int .i64 (k : Int)] 2)).drew.grownBy w5 (Value.slice Ar nr cr).ownBlock → Below base (wr.alloc (.cells #[.int .i64 (k : Int)] 2)).drew w5 →
                ((Value.slice A5 (nr + 1) c5).ownBlock = (Value.slice Ar nr cr).ownBlock ∨ (Value.slice A5 (nr + 1) c5).ownBlock = some (wr.alloc (.cells #[.int .i64 (k : Int)] 2)).drew.heap.size) →
                BK w (some ⟨b1, o1, none⟩) n cg bx bb bi oi ci base g k (j + 1) (w5.setCell ⟨bb, x.toNat, none⟩ (.slice A5 (nr + 1) c5)) := by
              intro A5 c5 w5 hown5 hgr5 hb5 hat5
              have hMd : BackM (wr.alloc (.cells #[.int .i64 (k : Int)] 2)).drew bb base R := ⟨hMa.out.outer, hMa.out.rows, hMa.out.apart⟩
              refine ⟨R.set x.toNat ((A5, nr + 1, c5), row ++ [(k : Int)]), hMd.push hbbl hza hr.out hown5 hgr5 hat5, ?_, ?_, ?_, ?_, ?_⟩
              · rw [List.map_set]; exact hKs.out
              · exact (Below.heap_setCell _ _ _ _ (by show bx ≠ bb; exact ne2)).trans ((hb5.block bx hbxl).trans ((hba2.out.block bx hbxl).trans hxa.out))
              · exact Sl.only (Sl.below (Sl.below hina.out hba2.out (.inl hbil)) hb5 (.inl hbil)) ((Only.refl bb (bb + 1) w5).setCell (p := ⟨bb, x.toNat, none⟩) (Nat.le_refl _) (Nat.lt_succ_self _) _) (by omega)
              · exact ((hbr.out.trans (hba2.out.mono hzw)).trans (hb5.mono hzw)).setCell g2 _
              · rw [World.size_setCell]; exact Nat.le_trans hz (Nat.le_trans hba2.out.size hb5.size)
            replace hfin := hide hfin
            go_wp2
            go_region_law (refine step_app (d := 1) (by rfl) (.tmp 43) (.tmp 45) (by rfl) hE.out flat_iv (by go_simp) hrowa.out (by go_simp) hlit.out hsz hza ?_; intro A5 c5 w5 hown5 hgr5 hb5 hat5; have k1 := (hb5.cell (p := ⟨bx, 1, none⟩) hbxl).trans y1a; have k2 := (hb5.cell (p := ⟨bb, x.toNat, none⟩) hbbl).trans m0a; have k3 := (hb5.frozen (p := ⟨bb, x.toNat, none⟩) hbbl).trans mza; have hf9 := hide (hfin.out A5 c5 w5 hown5 hgr5 hb5 hat5); clear hown5 hgr5 hb5 hat5)
            all_goals
              go_wp2
              go_roundw
              case rel => exact ⟨j + 1, by omega, by go_num, hf9.out⟩
              case measure => simp [intOf]; omega
          · have hjn : j = nh := by omega
            subst hjn
            have hnext : Hid (BK w (some ⟨b1, o1, none⟩) n cg bx bb bi oi ci base g (k + 1) 0 wr) := by
              obtain ⟨R, hM, hK, r⟩ := hBK
              refine ⟨R, hM, ?_, r⟩
              have el : (gNxt g k).length = j := by rw [hnx.out, List.length_map, hlen.out]
              rw [← el] at hK
              exact hK.next
            clear hBK
            go_wp2
            go_roundw
            case rel => exact ⟨k + 1, by omega, by go_num, hnext.out⟩
            case measure => simp [intOf]; omega
      · have hkn : k = n := by omega
        subst hkn
        obtain ⟨R, hM, hK, hx, hin, hb, hz⟩ := hBK
        have hRl : R.length = k := by have := hK.1; rw [List.length_map] at this; have := hgl.out; omega
        have hdone := hK.done (by rw [hgl.out]; exact Nat.le_refl _)
        have hres : Hid (ArenaAt wr bx g (setOf g.length fun _ => true)) := by
          refine ⟨some ⟨b1, o1, none⟩, cg, some ⟨bb, 0, none⟩, k, some ⟨bi, oi, none⟩, ci, R, by rw [hgl.out]; exact hx, ?_, ?_, hdone, ?_⟩
          · rw [hgl.out]; exact hg.out.below hb (Nat.le_refl _)
          · have h9 := hM.rowsI (fun i r hr => by
              have h8 := hdone.2 i r.2 (by rw [List.getElem?_map, hr]; rfl)
              have h7 := nodup_le g.length (r.2.map Int.toNat) (by
                unfold List.Nodup
                rw [List.pairwise_map]
                refine List.Pairwise.imp_of_mem ?_ h8.1
                intro a1 a2 m1 m2 hne e
                obtain ⟨v1, rfl, _⟩ := (h8.2 a1).1 m1
                obtain ⟨v2, rfl, _⟩ := (h8.2 a2).1 m2
                simp at e
                exact hne (by rw [e])) (fun x hx => by
                obtain ⟨y, hy, rfl⟩ := List.mem_map.1 hx
                obtain ⟨v1, rfl, h4⟩ := (h8.2 y).1 hy
                have := gNxt_src h4
                simpa using this)
              rw [List.length_map, hgl.out] at h7
              omega)
            rw [hgl.out]
            rw [hRl] at h9
            exact h9
          · rw [hgl.out]; exact SlB.at_set hin
        replace hb := hide hb
        clear hM hK hx hin hdone
        go_wp2
        go_ret
        exact ⟨bx, rfl, by have h0 := hres.out; rwa [hgl.out] at h0, hb.out⟩

end Go.Proofs.Ytbnneahjjcamlaa
