/-
  compareLabels, slices.SortFunc and slices.Compact at []string, and the ready labels, by the program. Conditions: sizes.
-/
import Derived.Test.YthlaoedpjloloaaGreatDoorSrtM
import Derived.Test.YthlaoedpjloloaaGreatDoorBaseA
import Derived.Test.YthlaoedpjloloaaGreatDoorBaseB
import Derived.Test.YthlaoedpjloloaaGreatDoorBaseF
import Derived.Test.YthlaoedpjloloaaGreatDoorSimI
namespace Go.Proofs.YthlaoedpjloloaaGreatDoor
open Go.ChangeShapes Go.WideShapes Go.ChangeAt Go.RowKit Go.Sort Go.Lib
set_option linter.unusedVariables false
set_option linter.unusedSimpArgs false

set_option maxRecDepth 100000 in
theorem compareLabels_calls (a b : ByteArray) (w : World) : Calls Tryz.prog 106 #[.string a, .string b] w fun e w' => e = .returned (.int .i64 (cmpB (toL a) (toL b))) ∧ w' = w := by
  have q := Tryz.strings_Compare a b
  by_cases h1 : a = b
  · subst h1
    have hv : Hid (cmpB (toL a) (toL a) = 0) := by show _ = _; unfold cmpB; rw [if_pos rfl]
    have hself : (a.toList == a.toList) = true := beq_self_eq_true _
    clear q
    go_enter Tryz.func106, Tryz.ntmps106
    go_wp2_with fail
    go_ret
    exact ⟨ret_i (by rw [hv.out]), rfl⟩
  · have n1 := str_neq h1
    have n2 : ¬ a.toList = b.toList := fun e => by rw [e, beq_self_eq_true] at n1; cases n1
    have n3 : ¬ toL a = toL b := fun e => h1 (toL_inj e)
    by_cases h2 : a = tauB
    · have hv : Hid (cmpB (toL a) (toL b) = -1) := by show _ = _; unfold cmpB; rw [if_neg n3, if_pos (by rw [h2, toL_tau])]
      have t1 : (a.toList == [116, 97, 117]) = true := by rw [h2, tau_list]; rfl
      clear q n3 h1 h2
      go_enter Tryz.func106, Tryz.ntmps106
      go_wp2_with fail
      go_ret
      exact ⟨ret_i (by rw [hv.out]), rfl⟩
    · have t1 : (a.toList == [116, 97, 117]) = false := by have := str_neq h2; rwa [tau_list] at this
      have t2 : ¬ a.toList = [116, 97, 117] := fun e => by rw [e] at t1; cases t1
      have t3 : ¬ toL a = tauBL := fun e => h2 (toL_inj (e.trans toL_tau.symm))
      by_cases h3 : b = tauB
      · have hv : Hid (cmpB (toL a) (toL b) = 1) := by show _ = _; unfold cmpB; rw [if_neg n3, if_neg t3, if_pos (by rw [h3, toL_tau])]
        have u1 : (b.toList == [116, 97, 117]) = true := by rw [h3, tau_list]; rfl
        clear q n3 t3 h1 h2 h3
        go_enter Tryz.func106, Tryz.ntmps106
        go_wp2_with fail
        go_ret
        exact ⟨ret_i (by rw [hv.out]), rfl⟩
      · have u1 : (b.toList == [116, 97, 117]) = false := by have := str_neq h3; rwa [tau_list] at this
        have u2 : ¬ b.toList = [116, 97, 117] := fun e => by rw [e] at u1; cases u1
        have u3 : ¬ toL b = tauBL := fun e => h3 (toL_inj (e.trans toL_tau.symm))
        have hv : Hid (cmpB (toL a) (toL b) = Lib.compareBytes a.data.toList b.data.toList) := by show _ = _; unfold cmpB; rw [if_neg n3, if_neg t3, if_neg u3]; rfl
        generalize Lib.compareBytes a.data.toList b.data.toList = r at *
        replace q := hide q
        clear n3 t3 u3 h1 h2 h3
        go_enter Tryz.func106, Tryz.ntmps106
        go_wp2_with (first | (go_at_call 126; (with_reducible refine (q.out _).mono ?_); rintro e w5 ⟨rfl, rfl⟩))
        go_ret
        exact ⟨ret_i (by rw [hv.out]), rfl⟩

theorem strv_map (l : List ByteArray) : l.flatMap strv = l.map Value.string := by
  induction l with
  | nil => rfl
  | cons x l ih => rw [List.flatMap_cons, ih]; rfl

section
variable {w : World} {base g n c q : Nat} {e : TypeId} {l : List ByteArray} {d : List (List UInt8)} {os : Array Obj}

theorem putS_block (w : World) (g q : Nat) (d : List (List UInt8)) (os : Array Obj) (hg : g < w.heap.size) :
    (grow (putRow encStr (Sort.ahead w q) g 0 d.toArray) os).heap[g]? = (w.heap[g]?).map (onCells (Go.Sort.putCells encStr 0 d.toArray)) := by
  rw [heap_grow_old _ _ (by simpa [putRow, mapBlock, Sort.ahead] using hg)]
  simp [putRow, mapBlock, Sort.ahead, Array.getElem?_modify]

theorem putS_grown (w : World) (g q : Nat) (d : List (List UInt8)) (os : Array Obj) : w.grownBy (grow (putRow encStr (Sort.ahead w q) g 0 d.toArray) os) (some g) := by
  refine ⟨rfl, rfl, rfl, by simp [putRow, mapBlock, Sort.ahead], fun k hk hne => ?_⟩
  rw [heap_grow_old _ _ (by simpa [putRow, mapBlock, Sort.ahead] using hk)]
  have hne' : g ≠ k := fun h => hne (by rw [h])
  simp [putRow, mapBlock, Sort.ahead, Array.getElem?_modify, hne']

theorem Own.putS (h : Own 1 strv w base e (some ⟨g, 0, none⟩) n c l) (hd : d.length = n) {m : Nat} (hm : m ≤ n) :
    Own 1 strv (grow (putRow encStr (Sort.ahead w q) g 0 d.toArray) os) base e (some ⟨g, 0, none⟩) m c ((d.take m).map ofL) := by
  rcases h.2.2 with ⟨hv, -⟩ | ⟨g', cap, cur, hv, hb, hg, hnc, hcm, hcs, htake⟩
  · cases hv
  · cases hv
    have hlt : g < w.heap.size := (Array.getElem?_eq_some_iff.1 hg).1
    have hl : ((d.take m).map ofL).length = m := by rw [List.length_map, List.length_take]; omega
    refine ⟨hl, by rw [flat_length flat_strv, hl], .inr ⟨g, c, Go.Sort.putCells encStr 0 d.toArray cur, rfl, hb, ?_, by omega, hcm, by simp [Go.Sort.putCells, hcs], ?_⟩⟩
    · rw [putS_block _ _ _ _ _ hlt, hg]
      rfl
    · rw [strv_map]
      apply List.ext_getElem?
      intro k
      by_cases hk : k < m
      · have hkc : k < cur.size := by omega
        have hkd : k < d.length := by omega
        rw [List.getElem?_take, if_pos (by omega), List.getElem?_map, List.getElem?_map, List.getElem?_take, if_pos hk, Array.getElem?_toList, List.getElem?_eq_getElem hkd]
        simp only [Go.Sort.putCells, Array.getElem?_mapIdx, Array.getElem?_eq_getElem hkc, Option.map_some]
        rw [if_pos ⟨Nat.zero_le _, by simp; omega⟩, Nat.sub_zero, getElem!_pos _ k (by simpa using hkd)]
        simp [encStr, ofL]
      · rw [List.getElem?_eq_none (by simp; omega), List.getElem?_eq_none (by simp; omega)]

theorem Own.holdsS (h : Own 1 strv w base e (some ⟨g, 0, none⟩) n c l) : Holds encStr w g 0 (l.map toL).toArray := by
  intro j hj
  have hj' : j < l.length := by simpa using hj
  have hs := h.sl flat_strv
  have hn := h.len
  obtain ⟨b', off', e', -, -, -, hc⟩ := hs.at_ (by omega)
  cases e'
  have := hc j l[j] (List.getElem?_eq_getElem hj') 0 (.string l[j]) rfl
  rw [getElem!_pos _ j hj]
  have he : encStr (l.map toL).toArray[j] = .string l[j] := by
    simp only [List.getElem_toArray, List.getElem_map]
    exact congrArg Value.string (ofL_toL _)
  rw [he]
  simpa using this
end

section
variable {w : World} {base n c : Nat} {A : Option Addr} {l : List ByteArray}

theorem sortL_calls (h : Own 1 strv w base 9 A n c l) (hn : n ≤ 1000000000) :
    Calls Tryz.prog 105 #[.slice A n c, .func (.func 106) #[] #[]] w fun e w' => e = .returned (.tuple #[]) ∧ Own 1 strv w' base 9 A n c (((l.map toL).mergeSort fun x y => !(ltL y x)).map ofL) ∧ w.grownBy w' (Value.slice A n c).ownBlock := by
  rcases h.2.2 with ⟨hv, hn0⟩ | ⟨g, cap, cur, hv, hb, hg, hnc, hcm, hcs, htake⟩
  · cases hv
    have hl := List.eq_nil_of_length_eq_zero h.len
    subst hl
    refine (Tryz.slices_SortFunc_string_none none 0 _ w).mono ?_
    rintro e w' ⟨rfl, rfl⟩
    refine ⟨rfl, ?_, ⟨rfl, rfl, rfl, Nat.le_refl _, fun _ _ _ => rfl⟩⟩
    simpa using h
  · cases hv
    have hlt : g < w.heap.size := (Array.getElem?_eq_some_iff.1 hg).1
    have eg : ∀ args w, (callFunc 106 args).run Tryz.prog w = .ok (.enter 106 args) w := enters_of Tryz.func106 (by kernel_rfl) rfl
    have hsz : (l.map toL).toArray.size = n := by simp [h.len]
    have hcmp : CmpReads Tryz.prog 106 #[] encStr cmpB g 0 (l.map toL).toArray.size w := fun m os dk hs x y => (compareLabels_calls (ofL x) (ofL y) _).mono fun e w' ⟨he, hw⟩ => ⟨by rw [he, toL_ofL, toL_ofL], 0, hw⟩
    have hq := Tryz.slices_SortFunc_string cmpB swoL 106 #[] g 0 c (l.map toL).toArray w eg hcmp.lays h.holdsS hlt (by rw [hsz]; omega) apartL
    rw [hsz] at hq
    refine hq.mono ?_
    rintro e w' ⟨rfl, q, os, rfl⟩
    have hd : ((l.map toL).mergeSort fun x y => !(ltL y x)).length = n := by rw [List.length_mergeSort, List.length_map, h.len]
    refine ⟨rfl, ?_, putS_grown _ _ _ _ _⟩
    have := h.putS (d := (l.map toL).mergeSort fun x y => !(ltL y x)) (q := q) (os := os) hd (Nat.le_refl n)
    rwa [List.take_of_length_le (by rw [hd]; exact Nat.le_refl _)] at this

theorem compactL_calls (h : Own 1 strv w base 9 A n c l) (hn : n ≤ 1000000000) :
    Calls Tryz.prog 107 #[.slice A n c] w fun e w' => e = .returned (.slice A (Lib.compact (l.map toL)).length c) ∧ Own 1 strv w' base 9 A (Lib.compact (l.map toL)).length c ((Lib.compact (l.map toL)).map ofL) ∧ w.grownBy w' (Value.slice A n c).ownBlock := by
  rcases h.2.2 with ⟨hv, hn0⟩ | ⟨g, cap, cur, hv, hb, hg, hnc, hcm, hcs, htake⟩
  · cases hv
    have hl := List.eq_nil_of_length_eq_zero h.len
    subst hl
    refine (Tryz.slices_Compact_string_empty none 0 w).mono ?_
    rintro e w' ⟨rfl, rfl⟩
    exact ⟨rfl, h, ⟨rfl, rfl, rfl, Nat.le_refl _, fun _ _ _ => rfl⟩⟩
  · cases hv
    have hlt : g < w.heap.size := (Array.getElem?_eq_some_iff.1 hg).1
    have hlen := compact_length_le (l.map toL)
    have hln : (l.map toL).length = n := by rw [List.length_map, h.len]
    have hq := Tryz.slices_Compact_string g 0 c (l.map toL) w h.holdsS (by omega) (by omega)
    rw [hln] at hq hlen
    refine hq.mono ?_
    rintro e w' ⟨rfl, q, rfl⟩
    have hd : (Lib.compact (l.map toL) ++ List.replicate (n - (Lib.compact (l.map toL)).length) []).length = n := by simp; omega
    have h1 := h.putS (d := Lib.compact (l.map toL) ++ List.replicate (n - (Lib.compact (l.map toL)).length) []) (q := q) (os := #[]) hd hlen
    have h2 := putS_grown w g q (Lib.compact (l.map toL) ++ List.replicate (n - (Lib.compact (l.map toL)).length) []) #[]
    rw [grow_empty] at h1 h2
    rw [List.take_left' rfl] at h1
    exact ⟨rfl, h1, h2⟩
end

theorem map_toL_ofL (d : List (List UInt8)) : (d.map ofL).map toL = d := by
  rw [List.map_map]
  exact (List.map_congr_left fun x _ => toL_ofL x).trans (List.map_id _)

theorem compactD_calls {w : World} {base n c : Nat} {A : Option Addr} {d : List (List UInt8)} (h : Own 1 strv w base 9 A n c (d.map ofL)) (hn : n ≤ 1000000000) :
    Calls Tryz.prog 107 #[.slice A n c] w fun e w' => e = .returned (.slice A (Lib.compact d).length c) ∧ Own 1 strv w' base 9 A (Lib.compact d).length c ((Lib.compact d).map ofL) ∧ w.grownBy w' (Value.slice A n c).ownBlock := by
  have := compactL_calls h hn
  rwa [map_toL_ofL] at this

set_option maxRecDepth 100000 in
set_option maxHeartbeats 1600000 in
theorem readyLabels_calls (s0 s1 : Int) (A2 : Option Addr) (n2 k2 : Nat) (A3 : Option Addr) (n3 k3 : Nat) (x : Int) (ls : List ByteArray) (es : List Ed) (w : World) (lo hi : Nat) (t2 : SlS w lo hi A2 n2 ls) (t3 : SlE w lo hi A3 n3 es) (hes : n3 ≤ 1048576) (hval : ltsV (s0, s1, ls, es) = true) :
    Calls Tryz.prog 72 #[.agg #[.int .i64 s0, .int .i64 s1, .slice A2 n2 k2, .slice A3 n3 k3], .int .i64 x] w fun e w' => ∃ A n c, e = .returned (.slice A n c) ∧ Own 1 strv w' w.heap.size 9 A n c (rdyL es ls x) ∧ n ≤ 1048576 ∧ Below w.heap.size w w' := by
  have hb0 : Below w.heap.size w (w.alloc (.cells #[.int .i64 s0, .int .i64 s1, .slice A2 n2 k2, .slice A3 n3 k3] 31)) := (Below.refl _ _).alloc (Nat.le_refl _) _
  have k0 := heap_alloc_new w (.cells #[.int .i64 s0, .int .i64 s1, .slice A2 n2 k2, .slice A3 n3 k3] 31)
  have hk0 := (Array.getElem?_eq_some_iff.1 k0).1
  have q1 := hide (out_calls s0 s1 (.slice A2 n2 k2) A3 n3 k3 x es _ lo hi (t3.below hb0 (.inr (Nat.le_refl _))) hes ⟨_, _, _, rfl⟩)
  have a0 := (cell_of_row _ _ 0 _ _ (0, 0) k0).trans (show _ = some (Value.int .i64 s0) from rfl)
  have a1 := (cell_of_row _ _ 1 _ _ (0, 0) k0).trans (show _ = some (Value.int .i64 s1) from rfl)
  have a2 := (cell_of_row _ _ 2 _ _ (0, 0) k0).trans (show _ = some (Value.slice A2 n2 k2) from rfl)
  have a3 := (cell_of_row _ _ 3 _ _ (0, 0) k0).trans (show _ = some (Value.slice A3 n3 k3) from rfl)
  have hzs := hb0.size
  have hE := hide elem_str
  have l2 := hide t2.len
  have hrd := hide (rdy_eq hval x)
  replace t2 := hide (t2.below hb0 (.inr (Nat.le_refl _)))
  replace hval := hide hval
  replace hb0 := hide hb0
  clear t3 k0
  go_enter Tryz.func72, Tryz.ntmps72
  go_upto_region 2 with fail
  generalize (w.alloc (.cells #[.int .i64 s0, .int .i64 s1, .slice A2 n2 k2, .slice A3 n3 k3] 31)) = W0 at *
  go_upto_region 3 with (first | (go_at_call 104; (with_reducible refine q1.out.mono ?_); rintro e w5 ⟨Ao, no, co, rfl, ho, hno, hb5⟩))
  have d2 := (hb5.cell (p := ⟨w.heap.size, 2, none⟩) hk0).trans a2
  have lo5 := hide ho.len
  have hbw := hide (hb0.out.trans (hb5.mono hzs))
  have hk5 := Nat.lt_of_lt_of_le hk0 hb5.size
  have t25 := hide (t2.out.below hb5 (.inr (Nat.le_refl _)))
  replace ho := hide ho
  clear q1 a0 a1 a2 a3 hb5 t2
  go_loopg [5, 12] no (fun J o i wr => ∃ (k c : Nat) (A : Option Addr), k ≤ no ∧ o = .slice A k c ∧ i = .int .i64 (k : Nat) ∧ Hid (Own 1 strv wr w5.heap.size 9 A k c (((outE es x).take k).map (labE ls))) ∧ Hid (Below w5.heap.size w5 wr) ∧ Hid (no - k ≤ J))
  case atStart => exact ⟨0, 0, none, Nat.zero_le _, rfl, rfl, Own.nil_ _ _ _, Below.refl _ _, by show _ ≤ _; omega⟩
  case round =>
    obtain ⟨k, c, A, hk, rfl, rfl, hown, hb, hJ⟩ := hrel
    have y2 := (hb.out.cell (p := ⟨w.heap.size, 2, none⟩) hk5).trans d2
    by_cases hlt : k < no
    · obtain ⟨J2, rfl⟩ : ∃ J2, gk = J2 + 1 := ⟨gk - 1, by have := hJ.out; omega⟩
      have hJ2 : Hid (no - (k + 1) ≤ J2) := by have := hJ.out; show _ ≤ _; omega
      obtain ⟨b, off, f, lb, tg, rfl, -, -, g3, hx, p0, p1, p2, -, -, -⟩ := SlE.get ho.out hlt
      replace p0 := (hb.out.cell g3).trans p0
      replace p1 := (hb.out.cell (p := ⟨b, off + k * 3 + 1, none⟩) g3).trans p1
      replace p2 := (hb.out.cell (p := ⟨b, off + k * 3 + 2, none⟩) g3).trans p2
      have hmem := (List.mem_filter.1 (List.mem_of_getElem? hx)).1
      have hlb : 0 ≤ lb ∧ lb < (ls.length : Int) := by
        obtain ⟨j, hj⟩ := List.getElem?_of_mem hmem
        have := (edge_of hval.out hj).2.2
        omega
      obtain ⟨ln, rfl⟩ : ∃ t : Nat, lb = (t : Int) := ⟨lb.toNat, by omega⟩
      have hl2 := l2.out
      obtain ⟨b2, o2, lx, rfl, -, -, g2, hlx, q2, -⟩ := SlS.get t25.out (show ln < n2 by omega)
      have hsu : ((outE es x).take (k + 1)).map (labE ls) = ((outE es x).take k).map (labE ls) ++ [lx] := by
        rw [List.take_add_one, hx, List.map_append]
        congr 1
        show [labE ls (f, (ln : Int), tg)] = [lx]
        unfold labE
        dsimp only
        rw [Int.toNat_natCast, hlx]
        rfl
      have hbE : Below wr.heap.size wr (wr.alloc (.cells #[.int .i64 f, .int .i64 (ln : Int), .int .i64 tg] 99)) := (Below.refl _ _).alloc (Nat.le_refl _) _
      have kE := heap_alloc_new wr (.cells #[.int .i64 f, .int .i64 (ln : Int), .int .i64 tg] 99)
      have e1 := (cell_of_row _ _ 1 _ _ (0, 0) kE).trans (show _ = some (Value.int .i64 (ln : Int)) from rfl)
      have hbwE := hide (hb.out.trans (hbE.mono hb.out.size))
      have q2E := (hbwE.out.cell (p := ⟨b2, o2 + ln, none⟩) g2).trans q2
      have y2E := (hbwE.out.cell (p := ⟨w.heap.size, 2, none⟩) hk5).trans d2
      have hownE := hide (hown.out.alloc (.cells #[.int .i64 f, .int .i64 (ln : Int), .int .i64 tg] 99))
      have hI0 : (0 : Int) ≤ (ln : Int) := by omega
      have hI1 : (ln : Int) < (n2 : Int) := by omega
      replace hsu := hide hsu
      clear hx hmem hlb hl2 hlx hbE kE hown hb q2
      go_upto_region 5 with fail
      clear p0 p1 p2 y2
      generalize (wr.alloc (.cells #[.int .i64 f, .int .i64 (ln : Int), .int .i64 tg] 99)) = WE at *
      generalize wr.heap.size = bE at *
      have hza : ∀ o, w5.heap.size ≤ (WE.alloc o).heap.size := fun o => by rw [World.size_alloc]; have := hbwE.out.size; omega
      go_wp2_with (first | (at_builtin; (with_reducible refine wpList_app rfl (.tmp 16) (.tmp 23) rfl hE.out flat_strv rfl (hownE.out.alloc _) rfl (Sl.lit1' WE 9 lx _ rfl 1 _ ?c0) ?c1 (hza _) ?_); rotate_right; intro A7 c7 w7 hown7 hgr7 hb7 _))
      case c0 => rfl
      case c1 => omega
      have hb8 := hide ((hbwE.out.alloc hbwE.out.size (.cells #[.string lx] 9)).trans hb7)
      replace hown7 : Hid (Own 1 strv w7 w5.heap.size 9 A7 (k + 1) c7 (((outE es x).take (k + 1)).map (labE ls))) := by show Own _ _ _ _ _ _ _ _ _; rw [hsu.out]; exact hown7
      clear hgr7 hb7
      go_roundg J2
      case measure => omega
      case rel => exact ⟨k + 1, c7, A7, by omega, rfl, by go_num, hown7, hb8, hJ2⟩
    · have hkn : k = no := by omega
      subst hkn
      have ho' := hown.out
      rw [List.take_of_length_le (by rw [lo5.out]; exact Nat.le_refl _)] at ho'
      have qs := sortL_calls ho' (by omega)
      have h3 : ((((outE es x).map (labE ls)).map toL).mergeSort fun x y => !(ltL y x)).length = k := by rw [List.length_mergeSort, List.length_map, List.length_map, lo5.out]
      have h4 := hrd.out
      rw [show ((outE es x).map fun e => toL (labE ls e)) = ((outE es x).map (labE ls)).map toL by rw [List.map_map]; rfl] at h4
      generalize ((((outE es x).map (labE ls)).map toL).mergeSort fun x y => !(ltL y x)) = d at *
      have h2 := compact_length_le d
      rw [h3] at h2
      replace h4 := hide h4
      replace qs := hide qs
      have qc := hide fun (W : World) (h : Own 1 strv W w5.heap.size 9 A k c (d.map ofL)) => compactD_calls h (by omega)
      have hbx := hide (hbw.out.trans (hb.out.mono hbw.out.size))
      have hblk : Hid (∀ b, (Value.slice A k c).ownBlock = some b → w.heap.size ≤ b) := fun b hb' => Nat.le_trans hbw.out.size (ho'.lt b hb').1
      generalize hcn : (Lib.compact d).length = cn at *
      replace hcn := hide hcn
      clear hown ho' y2 h3
      go_wp2_with (first | (go_at_call 105; (with_reducible refine qs.out.mono ?_); rintro e w6 ⟨rfl, ho6, hg6⟩; have q6 := hide (qc.out w6 ho6); have hb6 : Below w.heap.size w w6 := ⟨hg6.os.trans hbx.out.os, hg6.tape.trans hbx.out.tape, hg6.output.trans hbx.out.output, Nat.le_trans hbx.out.size hg6.size, fun b hbb => (hg6.block b (Nat.lt_of_lt_of_le hbb hbx.out.size) (fun e => by have := hblk.out b e.symm; omega)).trans (hbx.out.block b hbb)⟩; replace hb6 := hide hb6; clear qs qc ho6 hg6) | (go_at_call 107; (with_reducible refine q6.out.mono ?_); rintro e w7 ⟨rfl, ho7, hg7⟩; have hb7 : Below w.heap.size w w7 := ⟨hg7.os.trans hb6.out.os, hg7.tape.trans hb6.out.tape, hg7.output.trans hb6.out.output, Nat.le_trans hb6.out.size hg7.size, fun b hbb => (hg7.block b (Nat.lt_of_lt_of_le hbb hb6.out.size) (fun e => by have := hblk.out b e.symm; omega)).trans (hb6.out.block b hbb)⟩; replace hb7 := hide hb7; replace ho7 := hide ho7; clear q6 hg7))
      go_ret
      have h1 := ho7.out
      rw [h4.out] at h1
      exact ⟨A, cn, c, rfl, h1.lower hbw.out.size, by omega, hb7.out⟩

end Go.Proofs.YthlaoedpjloloaaGreatDoor
