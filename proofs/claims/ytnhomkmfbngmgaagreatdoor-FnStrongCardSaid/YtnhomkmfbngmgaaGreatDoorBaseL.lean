/-
  Several texts in one:
  spec.l13Refine: a partition refined once by the reference. Conditions: sizes.
  spec.l13Round, l13Rounds, l13Part: rounds of refinement by the reference. Conditions: sizes.
  spec.l11Place: the first place of a number. Conditions: at most 1048576 elements.
  SplitRound, RefineOnce and the test of a partition, by the program; what the laws ask of lists and bytes. Conditions: valid systems.
  What the laws over a drawn system begin with: bytes that are too many, the system drawn from bytes, numbers in a list. Conditions: none.
  spec.R8Part, not weak: a partition is drawn. Conditions: sizes.
-/
import Derived.Test.YtnhomkmfbngmgaaGreatDoorBaseC
import Derived.Test.YtnhomkmfbngmgaaGreatDoorBaseF
import Derived.Test.YtnhomkmfbngmgaaGreatDoorBaseG
import Derived.Test.YtnhomkmfbngmgaaGreatDoorBaseI
import Derived.Test.YtnhomkmfbngmgaaGreatDoorBaseJ
import Derived.Test.YtnhomkmfbngmgaaGreatDoorBaseK
set_option linter.unusedSimpArgs false
set_option linter.unusedVariables false
namespace Go.Proofs.YtnhomkmfbngmgaaGreatDoor
open Go.ChangeShapes Go.WideShapes Go.ChangeAt Go.RowKit Go.Sort Go.Lib
set_option linter.unusedVariables false
set_option linter.unusedSimpArgs false

theorem GrowH.made (w : World) : GrowH (w.alloc (.cells #[] 32)) w.heap.size (some ⟨w.heap.size, 0, none⟩) 0 0 [] := ⟨Own.made w _ (Nat.le_refl _), fun _ h => (List.not_mem_nil h).elim, fun _ h => (List.not_mem_nil h).elim⟩
/-- The rows so far hold what f says; none is long. -/
def RowsTo (f : Nat → List Int) (k : Nat) (R : List (Hd × List Int)) : Prop := R.map (·.2) = (List.range k).map f ∧ ∀ r, r ∈ R → r.1.2.1 ≤ 1000
theorem RowsTo.get {f : Nat → List Int} {k : Nat} {R : List (Hd × List Int)} (h : RowsTo f k R) {i : Nat} (hi : i < k) {x : Hd} {s : List Int} (hr : R[i]? = some (x, s)) : s = f i := by
  have h1 : (R.map (·.2))[i]? = some s := by rw [List.getElem?_map, hr]; rfl
  rw [h.1, List.getElem?_map, List.getElem?_range hi] at h1
  exact (Option.some.inj h1).symm
theorem RowsTo.push {f : Nat → List Int} {k : Nat} {R : List (Hd × List Int)} (h : RowsTo f k R) {x : Hd} {s : List Int} (hs : s = f k) (hx : x.2.1 ≤ 1000) : RowsTo f (k + 1) (R ++ [(x, s)]) := by
  refine ⟨by rw [List.map_append, h.1, List.range_succ, List.map_append, hs]; rfl, fun r hr => ?_⟩
  rcases List.mem_append.1 hr with hr | hr
  · exact h.2 r hr
  · obtain rfl := List.mem_singleton.1 hr
    exact hx
/-- What the search for an earlier item of the same block has found. -/
def FndR (r : List Int) (x : Int) (k j : Nat) (v : Value) : Prop := (v = .int .i64 (-1) ∧ ∀ i, i < j → ¬ r[i]? = some x) ∨ (v = .int .i64 x ∧ 0 ≤ x ∧ ∃ i, i < k ∧ r[i]? = some x)
theorem cntB_le (r : List Int) (k : Nat) : cntB r k ≤ k := by
  have h := firsts_len_le [] (r.take k)
  rw [List.length_take] at h
  simp only [List.length_nil] at h
  unfold cntB
  omega
set_option maxRecDepth 100000 in
set_option maxHeartbeats 12800000 in
theorem l13Refine_calls {w : World} {N ini : Nat} {A : Option Addr} {n : Nat} {B : Option Addr} {m : Nat} {ls : List ByteArray} {es : List Ed} (h : SysA w N ini A n B m ls es) (c d bx : Nat) (hbx : LtsBox w bx (N : Int) (ini : Int) A n c B m d) (P : Option Addr) (cP : Nat) (p : List Int) (hP : SlI w 0 w.heap.size P N p) (hp : ∀ x, x ∈ p → 0 ≤ x ∧ x ≤ 1000) :
    Calls Tryz.prog 167 #[.pointer (some ⟨bx, 0, none⟩), .slice P N cP] w fun e w' => ∃ Q cQ, e = .returned (.slice Q N cQ) ∧ SlI w' w.heap.size w'.heap.size Q N (refF es N p) ∧ Below w.heap.size w w' := by
  have hER := hide elem_rowI
  have hE := hide elem_int64
  have hpl := hP.len
  obtain ⟨⟨hN1, hN2⟩, hini⟩ := h.bounds
  have hAll : ∀ wx, Below w.heap.size w wx → SysA wx N ini A n B m ls es ∧ LtsBox wx bx (N : Int) (ini : Int) A n c B m d ∧ SlI wx 0 w.heap.size P N p := fun wx hx => ⟨h.below hx (Nat.le_refl _), hbx.below hx hbx.lt, hP.below hx (.inl (Nat.le_refl _))⟩
  replace hAll := hide hAll
  have hbl := hbx.lt
  clear h hP hbx
  obtain ⟨w1, hw1⟩ : ∃ w1, w1 = w.alloc (.cells #[] 32) := ⟨_, rfl⟩
  have hb1 : Hid (Below w.heap.size w w1) := by show Below _ _ _; rw [hw1]; exact (Below.refl _ _).alloc (Nat.le_refl _) _
  have hg0 : Hid (GrowH w1 w.heap.size (some ⟨w.heap.size, 0, none⟩) 0 0 []) := by show GrowH _ _ _ _ _ _; rw [hw1]; exact GrowH.made w
  go_enter Tryz.func167, Tryz.ntmps167
  go_upto_region 2 with fail
  rw [← show w1 = _ from hw1]
  replace hw1 := hide hw1
  go_wp2_with fail
  go_loopw [5, 6] (fun v5 v6 wr => ∃ (k c5 : Nat) (A5 : Option Addr) (R : List (Hd × List Int)), k ≤ N ∧ v6 = .int .i64 (k : Nat) ∧ v5 = .slice A5 k c5 ∧ Hid (GrowH wr w.heap.size A5 k c5 R) ∧ Hid (RowsTo (fun k => sgF N p es (k : Int)) k R) ∧ Hid (Below w.heap.size w wr)) (fun _ v _ => N - (intOf v).toNat)
  case atStart => exact ⟨0, 0, _, _, Nat.zero_le _, rfl, rfl, hg0.out, ⟨rfl, fun r hr => (List.not_mem_nil hr).elim⟩, hb1.out⟩
  case round =>
    clear hg0 hb1
    obtain ⟨k, c5, A5, R, hk, rfl, rfl, hG, hRs, hb⟩ := hrel
    have b0 := (hAll.out wr hb.out).2.1.c0
    by_cases hlt : k < N
    · obtain ⟨hSy, hBr, hPr⟩ := hAll.out wr hb.out
      have k0 : (0 : Int) ≤ (k : Int) := by omega
      have k1 : (k : Int) < (N : Int) := by omega
      have hzr := hb.out.size
      have q := hide (l13Sign_calls hSy c d bx hBr P cP p hPr.here' hp (k : Int))
      clear hSy hBr hPr
      go_upto_region 5 with fail
      go_wp2_with fail
      refine q.out.mono ?_
      rintro e w4 ⟨A4, n4, c4, rfl, hO4, hn4, hb4⟩
      have hz4 := hb4.size
      have hbA : Below w4.heap.size w4 (w4.alloc (.cells #[.slice A4 n4 c4] 32)) := (Below.refl _ _).alloc (Nat.le_refl _) _
      have hGA := hide ((hG.out.below hb4).below hbA)
      have hza : w.heap.size ≤ (w4.alloc (.cells #[.slice A4 n4 c4] 32)).heap.size := by rw [World.size_alloc]; omega
      have hOa := hide hGA.out.own
      have hown : Hid (∀ b off, 0 < n4 → A4 = some ⟨b, off, none⟩ → (Value.slice A5 k c5).ownBlock ≠ some b) := fun b off hn e e2 => by
        obtain ⟨b', o', e', g1, -⟩ := hO4.at_ hn
        rw [e] at e'
        cases e'
        have := (hG.out.own.lt _ e2).2
        omega
      have hsA := hide ((hO4.below hbA (.inr (Nat.le_refl _))).more hzr hbA.size)
      have hbF := hide (((hb.out.trans (hb4.mono hzr)).trans (hbA.mono (by omega))))
      replace hb4 := hide hb4
      clear q hO4 hbA b0
      go_wp2_with (first | (at_builtin; (with_reducible refine wpList_app rfl (.tmp 21) (.tmp 26) rfl hER.out flat_sv rfl hOa.out rfl (Sl.lit1' w4 32 ((A4, n4, c4) : Hd) _ rfl 1 _ ?c0) ?c1 hza ?_); rotate_right; intro A6 c6 w6 hown6 hgr6 hb6 hat6))
      case c0 => rfl
      case c1 => omega
      have hG6 := hide (hGA.out.push hsA.out hown.out hown6 hgr6 hat6)
      have hR6 := hide (hRs.out.push (x := (A4, n4, c4)) rfl (by show n4 ≤ 1000; omega))
      have hb6' := hide (hbF.out.trans hb6)
      go_wp2_with fail
      go_roundw
      case rel => exact ⟨k + 1, c6, A6, _, by omega, by go_num, rfl, hG6.out, hR6.out, hb6'.out⟩
      case measure => simp [intOf]; omega
    · have k1 : ¬ (k : Int) < (N : Int) := by omega
      obtain rfl : k = N := by omega
      obtain ⟨N, rfl⟩ : ∃ N, N = k := ⟨_, rfl⟩
      obtain ⟨wK, rfl⟩ : ∃ wK : World, wK = wr := ⟨_, rfl⟩
      have hPK := hide (hAll.out wK hb.out).2.2
      have hGK := hG
      have hRK := hRs
      have hbK := hb
      have hzK := hbK.out.size
      obtain ⟨RK, rfl⟩ : ∃ RK, RK = R := ⟨_, rfl⟩
      obtain ⟨AK, rfl⟩ : ∃ AK, AK = A5 := ⟨_, rfl⟩
      obtain ⟨cK, rfl⟩ : ∃ cK, cK = c5 := ⟨_, rfl⟩
      obtain ⟨w8, hw8⟩ : ∃ w8, w8 = wK.alloc (.cells #[] 2) := ⟨_, rfl⟩
      have hO8 : Hid (Own 1 iv w8 wK.heap.size 2 (some ⟨wK.heap.size, 0, none⟩) 0 0 []) := by show Own _ _ _ _ _ _ _ _ _; rw [hw8]; exact Own.made wK _ (Nat.le_refl _)
      have hb8 : Hid (Below wK.heap.size wK w8) := by show Below _ _ _; rw [hw8]; exact (Below.refl _ _).alloc (Nat.le_refl _) _
      have hrp := hide (refF_part es N p)
      have hkey : Hid (∀ i j, i < N → j < N → (sameB (refF es N p) i j ↔ p[i]? = p[j]? ∧ (fun k : Nat => sgF N p es (k : Int)) i = (fun k : Nat => sgF N p es (k : Int)) j)) := fun i j hi hj => ref_key (es := es) hpl hi hj
      obtain ⟨r, hr⟩ : ∃ r, r = refF es N p := ⟨_, rfl⟩
      rw [← hr] at hrp hkey
      replace hr := hide hr
      clear hb hG hRs
      go_upto_region 8 with fail
      rw [← show w8 = _ from hw8]
      replace hw8 := hide hw8
      clear b0
      go_wp2_with fail
      go_loopw [7, 8, 9] (fun v7 v8 v9 wr => ∃ (k c7 : Nat) (A7 : Option Addr), k ≤ N ∧ v9 = .int .i64 (k : Nat) ∧ v8 = .int .i64 (cntB r k : Nat) ∧ v7 = .slice A7 k c7 ∧ Hid (Own 1 iv wr wK.heap.size 2 A7 k c7 (r.take k)) ∧ Hid (Below wK.heap.size wK wr)) (fun _ _ v _ => N - (intOf v).toNat)
      case atStart => exact ⟨0, 0, _, Nat.zero_le _, rfl, rfl, rfl, hO8.out, hb8.out⟩
      case round =>
        clear hO8 hb8
        obtain ⟨k, c7, A7, hk, rfl, rfl, rfl, hO7, hb⟩ := hrel
        have hpl2 := hide hpl
        by_cases hlt : k < N
        · have k0 : (0 : Int) ≤ (k : Int) := by omega
          have k1 : (k : Int) < (N : Int) := by omega
          obtain ⟨x, hx⟩ : ∃ x, r[k]? = some x := ⟨_, List.getElem?_eq_getElem (by rw [hrp.out.len]; exact hlt)⟩
          have hnew := hide (new_or hrp.out.norm hx)
          have hcb : cntB r k ≤ k := cntB_le r k
          replace hx := hide hx
          obtain ⟨wO, rfl⟩ : ∃ wO : World, wO = wr := ⟨_, rfl⟩
          have hbO := hb
          have hOO := hO7
          clear hb hO7
          go_wp2_with fail
          go_loopw [10, 11] (fun v10 v11 wr => ∃ j : Nat, j ≤ k ∧ v11 = .int .i64 (j : Nat) ∧ Hid (Below wO.heap.size wO wr) ∧ Hid (FndR r x k j v10)) (fun _ v _ => k - (intOf v).toNat)
          case atStart => exact ⟨0, Nat.zero_le _, rfl, Below.refl _ _, .inl ⟨rfl, fun i hi => absurd hi (Nat.not_lt_zero i)⟩⟩
          case round =>
            obtain ⟨j, hj, rfl, hb2, hF⟩ := hrel
            have j0 : (0 : Int) ≤ (j : Int) := by omega
            have hbW := hide (hbO.out.trans (hb2.out.mono hbO.out.size))
            have hO9 := hide (hOO.out.below hb2.out (Nat.le_refl _))
            rcases hF.out with ⟨rfl, hF2⟩ | ⟨rfl, hx0, hF2⟩
            · replace hF2 := hide hF2
              by_cases hjk : j < k
              · have j1 : (j : Int) < (k : Int) := by omega
                have j2 : (j : Int) < (N : Int) := by omega
                have hP2 := hPK.out.below hbW.out (.inr (Nat.le_refl _))
                have hG2 := hGK.out.below hbW.out
                obtain ⟨gP, oP, pj, e1, -, -, hgP, hpj, cpj, -⟩ := SlI.get hP2 (show j < N by omega)
                obtain ⟨gP2, oP2, pk, e2, -, -, -, hpk, cpk, -⟩ := SlI.get hP2 hlt
                subst e1
                cases e2
                obtain ⟨gR, oR, Aj, nj, cj, sj, e3, -, hgR, hRj, crj, hsj, -⟩ := hG2.get (show j < N by omega)
                obtain ⟨gR2, oR2, Ak, nk, ck, sk, e4, -, -, hRk, crk, hsk, -⟩ := hG2.get hlt
                subst e3
                cases e4
                have hzW := hbW.out.size
                have hnj := hRK.out.2 _ (List.mem_of_getElem? hRj)
                have hnk := hRK.out.2 _ (List.mem_of_getElem? hRk)
                have vsj := hRK.out.get (show j < N by omega) hRj
                have vsk := hRK.out.get hlt hRk
                (try dsimp only at hnj hnk vsj vsk)
                obtain ⟨wD, hwD⟩ : ∃ wD, wD = wr.drew := ⟨_, rfl⟩
                have hbD : Below wr.heap.size wr wD := by rw [hwD]; exact (Below.refl _ _).drew
                have hq := hide (l00Same_calls Aj Ak nj nk cj ck sj sk wD _ _ _ _ (hsj.below hbD (.inr (Nat.le_refl _))) (hsk.below hbD (.inr (Nat.le_refl _))) (by omega) (by omega))
                have hSS : Hid (∀ wx, Below wD.heap.size wD wx → wx.cell? ⟨gP, oP + j, none⟩ = some (.int .i64 pj) ∧ wx.cell? ⟨gP, oP + k, none⟩ = some (.int .i64 pk) ∧ wx.cell? ⟨gR, oR + j, none⟩ = some (.slice Aj nj cj) ∧ wx.cell? ⟨gR, oR + k, none⟩ = some (.slice Ak nk ck)) := fun wx hx2 => by
                  have hbx := hbD.trans (hx2.mono hbD.size)
                  exact ⟨(hbx.cell (p := ⟨gP, oP + j, none⟩) hgP).trans cpj, (hbx.cell (p := ⟨gP, oP + k, none⟩) hgP).trans cpk, (hbx.cell (p := ⟨gR, oR + j, none⟩) hgR).trans crj, (hbx.cell (p := ⟨gR, oR + k, none⟩) hgR).trans crk⟩
                have hsame : Hid (sameB r j k ↔ pj = pk ∧ sj = sk) := by
                  have := hkey.out j k (by omega) hlt
                  rw [hpj, hpk, ← vsj, ← vsk] at this
                  show _ ↔ _
                  rw [this]
                  exact and_congr_left fun _ => ⟨fun h => Option.some.inj h, fun h => h ▸ rfl⟩
                have hjx : Hid (r[j]? = some x ↔ sameB r j k) := by
                  show _ ↔ _
                  unfold sameB
                  rw [hx.out]
                replace hbD := hide hbD
                replace hwD := hide hwD
                replace hpj := hide hpj
                replace hpk := hide hpk
                replace hRj := hide hRj
                replace hRk := hide hRk
                replace vsj := hide vsj
                replace vsk := hide vsk
                clear hP2 hG2 hsj hsk cpj cpk crj crk
                by_cases hpp : pj = pk
                · subst hpp
                  have g1 : (pj == pj) = true := by simp
                  by_cases hss : sj = sk
                  · have hyes : Hid (r[j]? = some x) := hjx.out.2 (hsame.out.2 ⟨rfl, hss⟩)
                    rw [decide_eq_true hss] at hq
                    go_upto_region 15 with fail
                    refine lateT_begin (S := fun w' => w'.cell? ⟨gP, oP + j, none⟩ = some (.int .i64 pj) ∧ w'.cell? ⟨gP, oP + k, none⟩ = some (.int .i64 pj) ∧ w'.cell? ⟨gR, oR + j, none⟩ = some (.slice Aj nj cj) ∧ w'.cell? ⟨gR, oR + k, none⟩ = some (.slice Ak nk ck)) (st := 19) (by kernel_rfl) ?_
                    rw [← show wD = _ from hwD.out]
                    have hS0 : (fun w' : World => w'.cell? ⟨gP, oP + j, none⟩ = some (.int .i64 pj) ∧ w'.cell? ⟨gP, oP + k, none⟩ = some (.int .i64 pj) ∧ w'.cell? ⟨gR, oR + j, none⟩ = some (.slice Aj nj cj) ∧ w'.cell? ⟨gR, oR + k, none⟩ = some (.slice Ak nk ck)) wD := hSS.out wD (Below.refl _ _)
                    refine lateT_take (i := 0) (oi := _) (v := ?_) [2, 3, 8, 9, 19] rfl (by kernel_rfl) (by kernel_rfl) (by kernel_rfl) (by kernel_rfl) (fun _ _ _ h => h) (Or.inl ⟨by kernel_rfl, ?hy⟩) hS0 ?_
                    case hy => (intro w' hSw; (try dsimp only at hSw); go_simp <;> with_reducible rfl)
                    (try simp only [Act.put, List.setIfInBounds_toArray, List.set_cons_zero, List.set_cons_succ])
                    refine lateT_take (i := 1) (oi := _) (v := ?_) [2, 3, 8, 9, 19] rfl (by kernel_rfl) (by kernel_rfl) (by kernel_rfl) (by kernel_rfl) (fun _ _ _ h => h) (Or.inl ⟨by kernel_rfl, ?hy⟩) hS0 ?_
                    case hy => (intro w' hSw; (try dsimp only at hSw); go_simp <;> with_reducible rfl)
                    (try simp only [Act.put, List.setIfInBounds_toArray, List.set_cons_zero, List.set_cons_succ])
                    refine lateT_take (i := 2) (oi := _) (v := ?_) [3, 8, 9, 19] rfl (by kernel_rfl) (by kernel_rfl) (by kernel_rfl) (by kernel_rfl) (fun _ _ _ h => h) (Or.inl ⟨by kernel_rfl, ?hy⟩) hS0 ?_
                    case hy => (intro w' hSw; (try dsimp only at hSw); go_simp <;> with_reducible rfl)
                    (try simp only [Act.put, List.setIfInBounds_toArray, List.set_cons_zero, List.set_cons_succ])
                    refine lateT_take (i := 3) (oi := _) (v := ?_) [8, 9, 19] rfl (by kernel_rfl) (by kernel_rfl) (by kernel_rfl) (by kernel_rfl) (fun _ _ _ h => h) (Or.inl ⟨by kernel_rfl, ?hy⟩) hS0 ?_
                    case hy => (intro w' hSw; (try dsimp only at hSw); go_simp <;> with_reducible rfl)
                    (try simp only [Act.put, List.setIfInBounds_toArray, List.set_cons_zero, List.set_cons_succ])
                    refine lateT_take (i := 4) (oi := _) (v := ?_) [6, 7, 8, 9, 19] rfl (by kernel_rfl) (by kernel_rfl) (by kernel_rfl) (by kernel_rfl) (fun _ _ _ h => h) (Or.inl ⟨by kernel_rfl, ?hy⟩) hS0 ?_
                    case hy => (intro w' hSw; (try dsimp only at hSw); go_simp <;> with_reducible rfl)
                    (try simp only [Act.put, List.setIfInBounds_toArray, List.set_cons_zero, List.set_cons_succ])
                    refine lateT_take (i := 5) (oi := _) (v := ?_) [6, 7, 8, 9, 19] rfl (by kernel_rfl) (by kernel_rfl) (by kernel_rfl) (by kernel_rfl) (fun _ _ _ h => h) (Or.inl ⟨by kernel_rfl, ?hy⟩) hS0 ?_
                    case hy => (intro w' hSw; (try dsimp only at hSw); go_simp <;> with_reducible rfl)
                    (try simp only [Act.put, List.setIfInBounds_toArray, List.set_cons_zero, List.set_cons_succ])
                    refine lateT_take (i := 6) (oi := _) (v := ?_) [7, 8, 9, 19] rfl (by kernel_rfl) (by kernel_rfl) (by kernel_rfl) (by kernel_rfl) (fun _ _ _ h => h) (Or.inl ⟨by kernel_rfl, ?hy⟩) hS0 ?_
                    case hy => (intro w' hSw; (try dsimp only at hSw); go_simp <;> with_reducible rfl)
                    (try simp only [Act.put, List.setIfInBounds_toArray, List.set_cons_zero, List.set_cons_succ])
                    refine lateT_take (i := 7) (oi := _) (v := ?_) [8, 9, 19] rfl (by kernel_rfl) (by kernel_rfl) (by kernel_rfl) (by kernel_rfl) (fun _ _ _ h => h) (Or.inl ⟨by kernel_rfl, ?hy⟩) hS0 ?_
                    case hy => (intro w' hSw; (try dsimp only at hSw); go_simp <;> with_reducible rfl)
                    (try simp only [Act.put, List.setIfInBounds_toArray, List.set_cons_zero, List.set_cons_succ])
                    refine lateT_take (i := 8) (oi := _) (v := ?_) [9, 19] rfl (by kernel_rfl) (by kernel_rfl) (by kernel_rfl) (by kernel_rfl) (fun _ _ _ h => h) (Or.inl ⟨by kernel_rfl, ?hy⟩) hS0 ?_
                    case hy => (intro w' hSw; (try dsimp only at hSw); go_simp <;> with_reducible rfl)
                    (try simp only [Act.put, List.setIfInBounds_toArray, List.set_cons_zero, List.set_cons_succ])
                    refine lateT_take (i := 9) (oi := _) (v := ?_) [19] rfl (by kernel_rfl) (by kernel_rfl) (by kernel_rfl) (by kernel_rfl) (fun _ _ _ h => h) (Or.inl ⟨by kernel_rfl, ?hy⟩) hS0 ?_
                    case hy => (intro w' hSw; (try dsimp only at hSw); go_simp <;> with_reducible rfl)
                    (try simp only [Act.put, List.setIfInBounds_toArray, List.set_cons_zero, List.set_cons_succ])
                    refine lateT_take (i := 10) (oi := _) (v := ?_) [12, 13, 18, 19] rfl (by kernel_rfl) (by kernel_rfl) (by kernel_rfl) (by kernel_rfl) (fun _ _ _ h => h) (Or.inl ⟨by kernel_rfl, ?hy⟩) hS0 ?_
                    case hy => (intro w' hSw; (try dsimp only at hSw); go_simp <;> with_reducible rfl)
                    (try simp only [Act.put, List.setIfInBounds_toArray, List.set_cons_zero, List.set_cons_succ])
                    refine lateT_take (i := 11) (oi := _) (v := ?_) [12, 13, 18, 19] rfl (by kernel_rfl) (by kernel_rfl) (by kernel_rfl) (by kernel_rfl) (fun _ _ _ h => h) (Or.inl ⟨by kernel_rfl, ?hy⟩) hS0 ?_
                    case hy => (intro w' hSw; (try dsimp only at hSw); go_simp <;> with_reducible rfl)
                    (try simp only [Act.put, List.setIfInBounds_toArray, List.set_cons_zero, List.set_cons_succ])
                    refine lateT_take (i := 12) (oi := _) (v := ?_) [13, 18, 19] rfl (by kernel_rfl) (by kernel_rfl) (by kernel_rfl) (by kernel_rfl) (fun _ _ _ h => h) (Or.inl ⟨by kernel_rfl, ?hy⟩) hS0 ?_
                    case hy => (intro w' hSw; (try dsimp only at hSw); go_simp <;> with_reducible rfl)
                    (try simp only [Act.put, List.setIfInBounds_toArray, List.set_cons_zero, List.set_cons_succ])
                    refine lateT_take (i := 13) (oi := _) (v := ?_) [18, 19] rfl (by kernel_rfl) (by kernel_rfl) (by kernel_rfl) (by kernel_rfl) (fun _ _ _ h => h) (Or.inl ⟨by kernel_rfl, ?hy⟩) hS0 ?_
                    case hy => (intro w' hSw; (try dsimp only at hSw); go_simp <;> with_reducible rfl)
                    (try simp only [Act.put, List.setIfInBounds_toArray, List.set_cons_zero, List.set_cons_succ])
                    refine lateT_take (i := 14) (oi := _) (v := ?_) [16, 17, 18, 19] rfl (by kernel_rfl) (by kernel_rfl) (by kernel_rfl) (by kernel_rfl) (fun _ _ _ h => h) (Or.inl ⟨by kernel_rfl, ?hy⟩) hS0 ?_
                    case hy => (intro w' hSw; (try dsimp only at hSw); go_simp <;> with_reducible rfl)
                    (try simp only [Act.put, List.setIfInBounds_toArray, List.set_cons_zero, List.set_cons_succ])
                    refine lateT_take (i := 15) (oi := _) (v := ?_) [16, 17, 18, 19] rfl (by kernel_rfl) (by kernel_rfl) (by kernel_rfl) (by kernel_rfl) (fun _ _ _ h => h) (Or.inl ⟨by kernel_rfl, ?hy⟩) hS0 ?_
                    case hy => (intro w' hSw; (try dsimp only at hSw); go_simp <;> with_reducible rfl)
                    (try simp only [Act.put, List.setIfInBounds_toArray, List.set_cons_zero, List.set_cons_succ])
                    refine lateT_take (i := 16) (oi := _) (v := ?_) [17, 18, 19] rfl (by kernel_rfl) (by kernel_rfl) (by kernel_rfl) (by kernel_rfl) (fun _ _ _ h => h) (Or.inl ⟨by kernel_rfl, ?hy⟩) hS0 ?_
                    case hy => (intro w' hSw; (try dsimp only at hSw); go_simp <;> with_reducible rfl)
                    (try simp only [Act.put, List.setIfInBounds_toArray, List.set_cons_zero, List.set_cons_succ])
                    refine lateT_take (i := 17) (oi := _) (v := ?_) [18, 19] rfl (by kernel_rfl) (by kernel_rfl) (by kernel_rfl) (by kernel_rfl) (fun _ _ _ h => h) (Or.inl ⟨by kernel_rfl, ?hy⟩) hS0 ?_
                    case hy => (intro w' hSw; (try dsimp only at hSw); go_simp <;> with_reducible rfl)
                    (try simp only [Act.put, List.setIfInBounds_toArray, List.set_cons_zero, List.set_cons_succ])
                    refine lateT_step (i := 18) (by kernel_rfl) rfl (fun K hK => ?_)
                    (try go_simp)
                    go_at_call 165
                    (with_reducible refine hq.out.mono ?_)
                    rintro e w7 ⟨rfl, hb7⟩
                    (try go_wp2_with fail)
                    have hS1 := hSS.out w7 hb7
                    refine hK.out _ _ (fun _ => hS1) ?_
                    clear hK K
                    (try simp only [Act.put, List.setIfInBounds_toArray, List.set_cons_zero, List.set_cons_succ])
                    refine lateT_step (i := 19) (by kernel_rfl) rfl (fun K hK => ?_)
                    go_simp
                    refine hK.out _ _ (fun h => absurd rfl h) ?_
                    clear hK K
                    (try simp only [Act.put, List.setIfInBounds_toArray, List.set_cons_zero, List.set_cons_succ])
                    refine lateT_done (by kernel_rfl) ?_ _
                    have hb9 := hide (hb2.out.trans ((hbD.out.trans (hb7.mono hbD.out.size)).mono hb2.out.size))
                    obtain ⟨gO, oO, hOv⟩ : ∃ gO oO, A7 = some ⟨gO, oO, none⟩ ∧ gO < wO.heap.size ∧ wO.cell? ⟨gO, oO + j, none⟩ = some (.int .i64 x) := by
                      obtain ⟨b5, o5, v5, e5, -, -, g5, hv5, c5, -⟩ := SlI.get (hOO.out.sl flat_iv) hjk
                      rw [List.getElem?_take_of_lt hjk, hyes.out] at hv5
                      cases hv5
                      exact ⟨b5, o5, e5, g5, c5⟩
                    obtain ⟨rfl, hgO, cO⟩ := hOv
                    have cO7 := (hb9.out.cell (p := ⟨gO, oO + j, none⟩) hgO).trans cO
                    have hx0 : Hid (0 ≤ x) := (part_lt hrp.out (List.mem_of_getElem? hx.out)).1
                    clear cO
                    go_wp2_with fail
                    go_roundw
                    case rel => exact ⟨j + 1, by omega, by go_num, hb9.out, .inr ⟨rfl, hx0.out, j, hjk, hyes.out⟩⟩
                    case measure => simp [intOf]; omega
                  · have hno : Hid (¬ r[j]? = some x) := fun h => hss (hsame.out.1 (hjx.out.1 h)).2
                    rw [decide_eq_false hss] at hq
                    go_upto_region 15 with fail
                    refine lateT_begin (S := fun w' => w'.cell? ⟨gP, oP + j, none⟩ = some (.int .i64 pj) ∧ w'.cell? ⟨gP, oP + k, none⟩ = some (.int .i64 pj) ∧ w'.cell? ⟨gR, oR + j, none⟩ = some (.slice Aj nj cj) ∧ w'.cell? ⟨gR, oR + k, none⟩ = some (.slice Ak nk ck)) (st := 19) (by kernel_rfl) ?_
                    rw [← show wD = _ from hwD.out]
                    have hS0 : (fun w' : World => w'.cell? ⟨gP, oP + j, none⟩ = some (.int .i64 pj) ∧ w'.cell? ⟨gP, oP + k, none⟩ = some (.int .i64 pj) ∧ w'.cell? ⟨gR, oR + j, none⟩ = some (.slice Aj nj cj) ∧ w'.cell? ⟨gR, oR + k, none⟩ = some (.slice Ak nk ck)) wD := hSS.out wD (Below.refl _ _)
                    refine lateT_take (i := 0) (oi := _) (v := ?_) [2, 3, 8, 9, 19] rfl (by kernel_rfl) (by kernel_rfl) (by kernel_rfl) (by kernel_rfl) (fun _ _ _ h => h) (Or.inl ⟨by kernel_rfl, ?hy⟩) hS0 ?_
                    case hy => (intro w' hSw; (try dsimp only at hSw); go_simp <;> with_reducible rfl)
                    (try simp only [Act.put, List.setIfInBounds_toArray, List.set_cons_zero, List.set_cons_succ])
                    refine lateT_take (i := 1) (oi := _) (v := ?_) [2, 3, 8, 9, 19] rfl (by kernel_rfl) (by kernel_rfl) (by kernel_rfl) (by kernel_rfl) (fun _ _ _ h => h) (Or.inl ⟨by kernel_rfl, ?hy⟩) hS0 ?_
                    case hy => (intro w' hSw; (try dsimp only at hSw); go_simp <;> with_reducible rfl)
                    (try simp only [Act.put, List.setIfInBounds_toArray, List.set_cons_zero, List.set_cons_succ])
                    refine lateT_take (i := 2) (oi := _) (v := ?_) [3, 8, 9, 19] rfl (by kernel_rfl) (by kernel_rfl) (by kernel_rfl) (by kernel_rfl) (fun _ _ _ h => h) (Or.inl ⟨by kernel_rfl, ?hy⟩) hS0 ?_
                    case hy => (intro w' hSw; (try dsimp only at hSw); go_simp <;> with_reducible rfl)
                    (try simp only [Act.put, List.setIfInBounds_toArray, List.set_cons_zero, List.set_cons_succ])
                    refine lateT_take (i := 3) (oi := _) (v := ?_) [8, 9, 19] rfl (by kernel_rfl) (by kernel_rfl) (by kernel_rfl) (by kernel_rfl) (fun _ _ _ h => h) (Or.inl ⟨by kernel_rfl, ?hy⟩) hS0 ?_
                    case hy => (intro w' hSw; (try dsimp only at hSw); go_simp <;> with_reducible rfl)
                    (try simp only [Act.put, List.setIfInBounds_toArray, List.set_cons_zero, List.set_cons_succ])
                    refine lateT_take (i := 4) (oi := _) (v := ?_) [6, 7, 8, 9, 19] rfl (by kernel_rfl) (by kernel_rfl) (by kernel_rfl) (by kernel_rfl) (fun _ _ _ h => h) (Or.inl ⟨by kernel_rfl, ?hy⟩) hS0 ?_
                    case hy => (intro w' hSw; (try dsimp only at hSw); go_simp <;> with_reducible rfl)
                    (try simp only [Act.put, List.setIfInBounds_toArray, List.set_cons_zero, List.set_cons_succ])
                    refine lateT_take (i := 5) (oi := _) (v := ?_) [6, 7, 8, 9, 19] rfl (by kernel_rfl) (by kernel_rfl) (by kernel_rfl) (by kernel_rfl) (fun _ _ _ h => h) (Or.inl ⟨by kernel_rfl, ?hy⟩) hS0 ?_
                    case hy => (intro w' hSw; (try dsimp only at hSw); go_simp <;> with_reducible rfl)
                    (try simp only [Act.put, List.setIfInBounds_toArray, List.set_cons_zero, List.set_cons_succ])
                    refine lateT_take (i := 6) (oi := _) (v := ?_) [7, 8, 9, 19] rfl (by kernel_rfl) (by kernel_rfl) (by kernel_rfl) (by kernel_rfl) (fun _ _ _ h => h) (Or.inl ⟨by kernel_rfl, ?hy⟩) hS0 ?_
                    case hy => (intro w' hSw; (try dsimp only at hSw); go_simp <;> with_reducible rfl)
                    (try simp only [Act.put, List.setIfInBounds_toArray, List.set_cons_zero, List.set_cons_succ])
                    refine lateT_take (i := 7) (oi := _) (v := ?_) [8, 9, 19] rfl (by kernel_rfl) (by kernel_rfl) (by kernel_rfl) (by kernel_rfl) (fun _ _ _ h => h) (Or.inl ⟨by kernel_rfl, ?hy⟩) hS0 ?_
                    case hy => (intro w' hSw; (try dsimp only at hSw); go_simp <;> with_reducible rfl)
                    (try simp only [Act.put, List.setIfInBounds_toArray, List.set_cons_zero, List.set_cons_succ])
                    refine lateT_take (i := 8) (oi := _) (v := ?_) [9, 19] rfl (by kernel_rfl) (by kernel_rfl) (by kernel_rfl) (by kernel_rfl) (fun _ _ _ h => h) (Or.inl ⟨by kernel_rfl, ?hy⟩) hS0 ?_
                    case hy => (intro w' hSw; (try dsimp only at hSw); go_simp <;> with_reducible rfl)
                    (try simp only [Act.put, List.setIfInBounds_toArray, List.set_cons_zero, List.set_cons_succ])
                    refine lateT_take (i := 9) (oi := _) (v := ?_) [19] rfl (by kernel_rfl) (by kernel_rfl) (by kernel_rfl) (by kernel_rfl) (fun _ _ _ h => h) (Or.inl ⟨by kernel_rfl, ?hy⟩) hS0 ?_
                    case hy => (intro w' hSw; (try dsimp only at hSw); go_simp <;> with_reducible rfl)
                    (try simp only [Act.put, List.setIfInBounds_toArray, List.set_cons_zero, List.set_cons_succ])
                    refine lateT_take (i := 10) (oi := _) (v := ?_) [12, 13, 18, 19] rfl (by kernel_rfl) (by kernel_rfl) (by kernel_rfl) (by kernel_rfl) (fun _ _ _ h => h) (Or.inl ⟨by kernel_rfl, ?hy⟩) hS0 ?_
                    case hy => (intro w' hSw; (try dsimp only at hSw); go_simp <;> with_reducible rfl)
                    (try simp only [Act.put, List.setIfInBounds_toArray, List.set_cons_zero, List.set_cons_succ])
                    refine lateT_take (i := 11) (oi := _) (v := ?_) [12, 13, 18, 19] rfl (by kernel_rfl) (by kernel_rfl) (by kernel_rfl) (by kernel_rfl) (fun _ _ _ h => h) (Or.inl ⟨by kernel_rfl, ?hy⟩) hS0 ?_
                    case hy => (intro w' hSw; (try dsimp only at hSw); go_simp <;> with_reducible rfl)
                    (try simp only [Act.put, List.setIfInBounds_toArray, List.set_cons_zero, List.set_cons_succ])
                    refine lateT_take (i := 12) (oi := _) (v := ?_) [13, 18, 19] rfl (by kernel_rfl) (by kernel_rfl) (by kernel_rfl) (by kernel_rfl) (fun _ _ _ h => h) (Or.inl ⟨by kernel_rfl, ?hy⟩) hS0 ?_
                    case hy => (intro w' hSw; (try dsimp only at hSw); go_simp <;> with_reducible rfl)
                    (try simp only [Act.put, List.setIfInBounds_toArray, List.set_cons_zero, List.set_cons_succ])
                    refine lateT_take (i := 13) (oi := _) (v := ?_) [18, 19] rfl (by kernel_rfl) (by kernel_rfl) (by kernel_rfl) (by kernel_rfl) (fun _ _ _ h => h) (Or.inl ⟨by kernel_rfl, ?hy⟩) hS0 ?_
                    case hy => (intro w' hSw; (try dsimp only at hSw); go_simp <;> with_reducible rfl)
                    (try simp only [Act.put, List.setIfInBounds_toArray, List.set_cons_zero, List.set_cons_succ])
                    refine lateT_take (i := 14) (oi := _) (v := ?_) [16, 17, 18, 19] rfl (by kernel_rfl) (by kernel_rfl) (by kernel_rfl) (by kernel_rfl) (fun _ _ _ h => h) (Or.inl ⟨by kernel_rfl, ?hy⟩) hS0 ?_
                    case hy => (intro w' hSw; (try dsimp only at hSw); go_simp <;> with_reducible rfl)
                    (try simp only [Act.put, List.setIfInBounds_toArray, List.set_cons_zero, List.set_cons_succ])
                    refine lateT_take (i := 15) (oi := _) (v := ?_) [16, 17, 18, 19] rfl (by kernel_rfl) (by kernel_rfl) (by kernel_rfl) (by kernel_rfl) (fun _ _ _ h => h) (Or.inl ⟨by kernel_rfl, ?hy⟩) hS0 ?_
                    case hy => (intro w' hSw; (try dsimp only at hSw); go_simp <;> with_reducible rfl)
                    (try simp only [Act.put, List.setIfInBounds_toArray, List.set_cons_zero, List.set_cons_succ])
                    refine lateT_take (i := 16) (oi := _) (v := ?_) [17, 18, 19] rfl (by kernel_rfl) (by kernel_rfl) (by kernel_rfl) (by kernel_rfl) (fun _ _ _ h => h) (Or.inl ⟨by kernel_rfl, ?hy⟩) hS0 ?_
                    case hy => (intro w' hSw; (try dsimp only at hSw); go_simp <;> with_reducible rfl)
                    (try simp only [Act.put, List.setIfInBounds_toArray, List.set_cons_zero, List.set_cons_succ])
                    refine lateT_take (i := 17) (oi := _) (v := ?_) [18, 19] rfl (by kernel_rfl) (by kernel_rfl) (by kernel_rfl) (by kernel_rfl) (fun _ _ _ h => h) (Or.inl ⟨by kernel_rfl, ?hy⟩) hS0 ?_
                    case hy => (intro w' hSw; (try dsimp only at hSw); go_simp <;> with_reducible rfl)
                    (try simp only [Act.put, List.setIfInBounds_toArray, List.set_cons_zero, List.set_cons_succ])
                    refine lateT_step (i := 18) (by kernel_rfl) rfl (fun K hK => ?_)
                    (try go_simp)
                    go_at_call 165
                    (with_reducible refine hq.out.mono ?_)
                    rintro e w7 ⟨rfl, hb7⟩
                    (try go_wp2_with fail)
                    have hS1 := hSS.out w7 hb7
                    refine hK.out _ _ (fun _ => hS1) ?_
                    clear hK K
                    (try simp only [Act.put, List.setIfInBounds_toArray, List.set_cons_zero, List.set_cons_succ])
                    refine lateT_step (i := 19) (by kernel_rfl) rfl (fun K hK => ?_)
                    go_simp
                    refine hK.out _ _ (fun h => absurd rfl h) ?_
                    clear hK K
                    (try simp only [Act.put, List.setIfInBounds_toArray, List.set_cons_zero, List.set_cons_succ])
                    refine lateT_done (by kernel_rfl) ?_ _
                    have hb9 := hide (hb2.out.trans ((hbD.out.trans (hb7.mono hbD.out.size)).mono hb2.out.size))
                    go_wp2_with fail
                    go_roundw
                    case rel => exact ⟨j + 1, by omega, by go_num, hb9.out, .inl ⟨rfl, fun i hi => by
                      by_cases e : i < j
                      · exact hF2.out i e
                      · obtain rfl : i = j := by omega
                        exact hno.out⟩⟩
                    case measure => simp [intOf]; omega
                · have g1 : (pj == pk) = false := beq_eq_false_iff_ne.2 hpp
                  have hno : Hid (¬ r[j]? = some x) := fun h => hpp (hsame.out.1 (hjx.out.1 h)).1
                  go_upto_region 15 with fail
                  refine lateT_begin (S := fun w' => w'.cell? ⟨gP, oP + j, none⟩ = some (.int .i64 pj) ∧ w'.cell? ⟨gP, oP + k, none⟩ = some (.int .i64 pk) ∧ w'.cell? ⟨gR, oR + j, none⟩ = some (.slice Aj nj cj) ∧ w'.cell? ⟨gR, oR + k, none⟩ = some (.slice Ak nk ck)) (st := 19) (by kernel_rfl) ?_
                  rw [← show wD = _ from hwD.out]
                  have hS0 : (fun w' : World => w'.cell? ⟨gP, oP + j, none⟩ = some (.int .i64 pj) ∧ w'.cell? ⟨gP, oP + k, none⟩ = some (.int .i64 pk) ∧ w'.cell? ⟨gR, oR + j, none⟩ = some (.slice Aj nj cj) ∧ w'.cell? ⟨gR, oR + k, none⟩ = some (.slice Ak nk ck)) wD := hSS.out wD (Below.refl _ _)
                  refine lateT_take (i := 0) (oi := _) (v := ?_) [2, 3, 8, 9, 19] rfl (by kernel_rfl) (by kernel_rfl) (by kernel_rfl) (by kernel_rfl) (fun _ _ _ h => h) (Or.inl ⟨by kernel_rfl, ?hy⟩) hS0 ?_
                  case hy => (intro w' hSw; (try dsimp only at hSw); go_simp <;> with_reducible rfl)
                  (try simp only [Act.put, List.setIfInBounds_toArray, List.set_cons_zero, List.set_cons_succ])
                  refine lateT_take (i := 1) (oi := _) (v := ?_) [2, 3, 8, 9, 19] rfl (by kernel_rfl) (by kernel_rfl) (by kernel_rfl) (by kernel_rfl) (fun _ _ _ h => h) (Or.inl ⟨by kernel_rfl, ?hy⟩) hS0 ?_
                  case hy => (intro w' hSw; (try dsimp only at hSw); go_simp <;> with_reducible rfl)
                  (try simp only [Act.put, List.setIfInBounds_toArray, List.set_cons_zero, List.set_cons_succ])
                  refine lateT_take (i := 2) (oi := _) (v := ?_) [3, 8, 9, 19] rfl (by kernel_rfl) (by kernel_rfl) (by kernel_rfl) (by kernel_rfl) (fun _ _ _ h => h) (Or.inl ⟨by kernel_rfl, ?hy⟩) hS0 ?_
                  case hy => (intro w' hSw; (try dsimp only at hSw); go_simp <;> with_reducible rfl)
                  (try simp only [Act.put, List.setIfInBounds_toArray, List.set_cons_zero, List.set_cons_succ])
                  refine lateT_take (i := 3) (oi := _) (v := ?_) [8, 9, 19] rfl (by kernel_rfl) (by kernel_rfl) (by kernel_rfl) (by kernel_rfl) (fun _ _ _ h => h) (Or.inl ⟨by kernel_rfl, ?hy⟩) hS0 ?_
                  case hy => (intro w' hSw; (try dsimp only at hSw); go_simp <;> with_reducible rfl)
                  (try simp only [Act.put, List.setIfInBounds_toArray, List.set_cons_zero, List.set_cons_succ])
                  refine lateT_take (i := 4) (oi := _) (v := ?_) [6, 7, 8, 9, 19] rfl (by kernel_rfl) (by kernel_rfl) (by kernel_rfl) (by kernel_rfl) (fun _ _ _ h => h) (Or.inl ⟨by kernel_rfl, ?hy⟩) hS0 ?_
                  case hy => (intro w' hSw; (try dsimp only at hSw); go_simp <;> with_reducible rfl)
                  (try simp only [Act.put, List.setIfInBounds_toArray, List.set_cons_zero, List.set_cons_succ])
                  refine lateT_take (i := 5) (oi := _) (v := ?_) [6, 7, 8, 9, 19] rfl (by kernel_rfl) (by kernel_rfl) (by kernel_rfl) (by kernel_rfl) (fun _ _ _ h => h) (Or.inl ⟨by kernel_rfl, ?hy⟩) hS0 ?_
                  case hy => (intro w' hSw; (try dsimp only at hSw); go_simp <;> with_reducible rfl)
                  (try simp only [Act.put, List.setIfInBounds_toArray, List.set_cons_zero, List.set_cons_succ])
                  refine lateT_take (i := 6) (oi := _) (v := ?_) [7, 8, 9, 19] rfl (by kernel_rfl) (by kernel_rfl) (by kernel_rfl) (by kernel_rfl) (fun _ _ _ h => h) (Or.inl ⟨by kernel_rfl, ?hy⟩) hS0 ?_
                  case hy => (intro w' hSw; (try dsimp only at hSw); go_simp <;> with_reducible rfl)
                  (try simp only [Act.put, List.setIfInBounds_toArray, List.set_cons_zero, List.set_cons_succ])
                  refine lateT_take (i := 7) (oi := _) (v := ?_) [8, 9, 19] rfl (by kernel_rfl) (by kernel_rfl) (by kernel_rfl) (by kernel_rfl) (fun _ _ _ h => h) (Or.inl ⟨by kernel_rfl, ?hy⟩) hS0 ?_
                  case hy => (intro w' hSw; (try dsimp only at hSw); go_simp <;> with_reducible rfl)
                  (try simp only [Act.put, List.setIfInBounds_toArray, List.set_cons_zero, List.set_cons_succ])
                  refine lateT_take (i := 8) (oi := _) (v := ?_) [9, 19] rfl (by kernel_rfl) (by kernel_rfl) (by kernel_rfl) (by kernel_rfl) (fun _ _ _ h => h) (Or.inl ⟨by kernel_rfl, ?hy⟩) hS0 ?_
                  case hy => (intro w' hSw; (try dsimp only at hSw); go_simp <;> with_reducible rfl)
                  (try simp only [Act.put, List.setIfInBounds_toArray, List.set_cons_zero, List.set_cons_succ])
                  refine lateT_take (i := 9) (oi := _) (v := ?_) [19] rfl (by kernel_rfl) (by kernel_rfl) (by kernel_rfl) (by kernel_rfl) (fun _ _ _ h => h) (Or.inl ⟨by kernel_rfl, ?hy⟩) hS0 ?_
                  case hy => (intro w' hSw; (try dsimp only at hSw); go_simp <;> with_reducible rfl)
                  (try simp only [Act.put, List.setIfInBounds_toArray, List.set_cons_zero, List.set_cons_succ])
                  refine lateT_take (i := 10) (oi := _) (v := undef) [12, 13, 18, 19] rfl (by kernel_rfl) (by kernel_rfl) (by kernel_rfl) (by kernel_rfl) (fun _ _ _ h => h) (Or.inr ⟨by kernel_rfl, rfl⟩) hS0 ?_
                  (try simp only [Act.put, List.setIfInBounds_toArray, List.set_cons_zero, List.set_cons_succ])
                  refine lateT_take (i := 11) (oi := _) (v := undef) [12, 13, 18, 19] rfl (by kernel_rfl) (by kernel_rfl) (by kernel_rfl) (by kernel_rfl) (fun _ _ _ h => h) (Or.inr ⟨by kernel_rfl, rfl⟩) hS0 ?_
                  (try simp only [Act.put, List.setIfInBounds_toArray, List.set_cons_zero, List.set_cons_succ])
                  refine lateT_take (i := 12) (oi := _) (v := undef) [13, 18, 19] rfl (by kernel_rfl) (by kernel_rfl) (by kernel_rfl) (by kernel_rfl) (fun _ _ _ h => h) (Or.inr ⟨by kernel_rfl, rfl⟩) hS0 ?_
                  (try simp only [Act.put, List.setIfInBounds_toArray, List.set_cons_zero, List.set_cons_succ])
                  refine lateT_take (i := 13) (oi := _) (v := undef) [18, 19] rfl (by kernel_rfl) (by kernel_rfl) (by kernel_rfl) (by kernel_rfl) (fun _ _ _ h => h) (Or.inr ⟨by kernel_rfl, rfl⟩) hS0 ?_
                  (try simp only [Act.put, List.setIfInBounds_toArray, List.set_cons_zero, List.set_cons_succ])
                  refine lateT_take (i := 14) (oi := _) (v := undef) [16, 17, 18, 19] rfl (by kernel_rfl) (by kernel_rfl) (by kernel_rfl) (by kernel_rfl) (fun _ _ _ h => h) (Or.inr ⟨by kernel_rfl, rfl⟩) hS0 ?_
                  (try simp only [Act.put, List.setIfInBounds_toArray, List.set_cons_zero, List.set_cons_succ])
                  refine lateT_take (i := 15) (oi := _) (v := undef) [16, 17, 18, 19] rfl (by kernel_rfl) (by kernel_rfl) (by kernel_rfl) (by kernel_rfl) (fun _ _ _ h => h) (Or.inr ⟨by kernel_rfl, rfl⟩) hS0 ?_
                  (try simp only [Act.put, List.setIfInBounds_toArray, List.set_cons_zero, List.set_cons_succ])
                  refine lateT_take (i := 16) (oi := _) (v := undef) [17, 18, 19] rfl (by kernel_rfl) (by kernel_rfl) (by kernel_rfl) (by kernel_rfl) (fun _ _ _ h => h) (Or.inr ⟨by kernel_rfl, rfl⟩) hS0 ?_
                  (try simp only [Act.put, List.setIfInBounds_toArray, List.set_cons_zero, List.set_cons_succ])
                  refine lateT_take (i := 17) (oi := _) (v := undef) [18, 19] rfl (by kernel_rfl) (by kernel_rfl) (by kernel_rfl) (by kernel_rfl) (fun _ _ _ h => h) (Or.inr ⟨by kernel_rfl, rfl⟩) hS0 ?_
                  (try simp only [Act.put, List.setIfInBounds_toArray, List.set_cons_zero, List.set_cons_succ])
                  refine lateT_take (i := 18) (oi := _) (v := undef) [19] rfl (by kernel_rfl) (by kernel_rfl) (by kernel_rfl) (by kernel_rfl) (fun _ _ _ h => h) (Or.inr ⟨by kernel_rfl, rfl⟩) hS0 ?_
                  (try simp only [Act.put, List.setIfInBounds_toArray, List.set_cons_zero, List.set_cons_succ])
                  refine lateT_step (i := 19) (by kernel_rfl) rfl (fun K hK => ?_)
                  go_simp
                  refine hK.out _ _ (fun h => absurd rfl h) ?_
                  clear hK K
                  (try simp only [Act.put, List.setIfInBounds_toArray, List.set_cons_zero, List.set_cons_succ])
                  refine lateT_done (by kernel_rfl) ?_ _
                  have hb9 := hide (hb2.out.trans (hbD.out.mono hb2.out.size))
                  go_wp2_with fail
                  go_roundw
                  case rel => exact ⟨j + 1, by omega, by go_num, hb9.out, .inl ⟨rfl, fun i hi => by
                    by_cases e : i < j
                    · exact hF2.out i e
                    · obtain rfl : i = j := by omega
                      exact hno.out⟩⟩
                  case measure => simp [intOf]; omega
              · obtain rfl : j = k := by omega
                have hxe : x = (cntB r j : Nat) ∧ cntB r (j + 1) = cntB r j + 1 := by
                  rcases hnew.out with ⟨_, _, i, hi, h⟩ | ⟨h1, h2, _⟩
                  · exact absurd h (hF2.out i hi)
                  · exact ⟨h1, h2⟩
                have hzr := hbW.out.size
                have hza : wK.heap.size ≤ (wr.alloc (.cells #[.int .i64 (cntB r j : Nat)] 2)).heap.size := by rw [World.size_alloc]; omega
                have hOa := hide (hO9.out.alloc (.cells #[.int .i64 (cntB r j : Nat)] 2))
                have hta : Hid (r.take (j + 1) = r.take j ++ [(cntB r j : Int)]) := by
                  show _ = _
                  rw [List.take_add_one, hx.out, hxe.1]; rfl
                have hcs : cntB r (j + 1) = cntB r j + 1 := hxe.2
                replace hxe := hide hxe
                have i1 : ¬ (j : Int) < (j : Int) := by omega
                have i2 : IntKind.i64.wrap ((cntB r j : Int) + 1) = ((cntB r j + 1 : Nat) : Int) := by rw [IntWalk.i64_in _ (by omega)]; omega
                go_wp2_with (first | (at_builtin; (with_reducible refine wpList_app rfl (.tmp 73) (.tmp 75) rfl hE.out flat_iv rfl hOa.out rfl (Sl.lit1' wr 2 (cntB r j : Int) _ rfl 1 _ ?c0) ?c1 hza ?_); rotate_right; intro A6 c6 w6 hown6 hgr6 hb6 hat6))
                case c0 => rfl
                case c1 => omega
                rw [← hta.out] at hown6
                have hb10 := hide ((hbW.out.alloc hzr (.cells #[.int .i64 (cntB r j : Nat)] 2)).trans (hb6.mono (by omega)))
                go_wp2_with fail
                go_roundw
                case rel => exact ⟨j + 1, c6, A6, by omega, by go_num, by rw [hcs]; (try go_num), rfl, hown6, hb10.out⟩
                case measure => simp [intOf]; omega
            · have hcs : cntB r (k + 1) = cntB r k := by
                rcases hnew.out with ⟨_, h2, _⟩ | ⟨_, _, h3⟩
                · exact h2
                · obtain ⟨i, hi, h⟩ := hF2
                  exact absurd h (h3 i hi)
              replace hF2 := hide hF2
              have hzr := hbW.out.size
              have hza : wK.heap.size ≤ (wr.alloc (.cells #[.int .i64 x] 2)).heap.size := by rw [World.size_alloc]; omega
              have hOa := hide (hO9.out.alloc (.cells #[.int .i64 x] 2))
              have hta : Hid (r.take (k + 1) = r.take k ++ [x]) := by
                show _ = _
                rw [List.take_add_one, hx.out]; rfl
              have i1 : ¬ x < 0 := by omega
              by_cases hjk : j < k
              all_goals
                go_wp2_with (first | (at_builtin; (with_reducible refine wpList_app rfl (.tmp 73) (.tmp 75) rfl hE.out flat_iv rfl hOa.out rfl (Sl.lit1' wr 2 x _ rfl 1 _ ?c0) ?c1 hza ?_); rotate_right; intro A6 c6 w6 hown6 hgr6 hb6 hat6))
                case c0 => rfl
                case c1 => omega
                rw [← hta.out] at hown6
                have hb10 := hide ((hbW.out.alloc hzr (.cells #[.int .i64 x] 2)).trans (hb6.mono (by omega)))
                go_wp2_with fail
                go_roundw
                case rel => exact ⟨k + 1, c6, A6, by omega, by go_num, by rw [hcs], rfl, hown6, hb10.out⟩
                case measure => simp [intOf]; omega
        · obtain rfl : k = N := by omega
          have hF := hide (hO7.out.sl flat_iv)
          have hlast : Hid (r.take k = r) := List.take_of_length_le (by rw [hrp.out.len]; exact Nat.le_refl _)
          rw [hlast.out, hr.out] at hF
          have hbF := hide (hbK.out.trans (hb.out.mono hzK))
          have i1 : ¬ (k : Int) < (k : Int) := by omega
          clear hO7
          go_wp2_with fail
          go_ret
          exact ⟨A7, ⟨c7, rfl⟩, hF.out.more hzK (Nat.le_refl _), hbF.out⟩
end Go.Proofs.YtnhomkmfbngmgaaGreatDoor

namespace Go.Proofs.YtnhomkmfbngmgaaGreatDoor
open Go.ChangeShapes Go.WideShapes Go.ChangeAt Go.RowKit Go.Sort Go.Lib
set_option linter.unusedVariables false
set_option linter.unusedSimpArgs false

section
variable {w : World} {N ini : Nat} {A : Option Addr} {n : Nat} {B : Option Addr} {m : Nat} {ls : List ByteArray} {es : List Ed}
theorem rnd_small {es : List Ed} {N : Nat} (hN : N ≤ 40) (j : Nat) : ∀ x, x ∈ rndP es N j → 0 ≤ x ∧ x ≤ 1000 := fun x hx => by
  have := (rnd_part j).range x hx
  omega
set_option maxRecDepth 100000 in
set_option maxHeartbeats 3200000 in
theorem l13Round_calls (h : SysA w N ini A n B m ls es) (c d bx : Nat) (hbx : LtsBox w bx (N : Int) (ini : Int) A n c B m d) (q : Nat) (hq : q ≤ 1000) :
    Calls Tryz.prog 85 #[.pointer (some ⟨bx, 0, none⟩), .int .i64 (q : Int)] w fun e w' => ∃ Q cQ, e = .returned (.slice Q N cQ) ∧ SlI w' w.heap.size w'.heap.size Q N (rndP es N q) ∧ Below w.heap.size w w' := by
  obtain ⟨⟨hN1, hN2⟩, hini⟩ := h.bounds
  have hmk := run_make_int N (by omega)
  have b0 := hbx.c0
  have hAll : ∀ wx, Below w.heap.size w wx → SysA wx N ini A n B m ls es ∧ LtsBox wx bx (N : Int) (ini : Int) A n c B m d := fun wx hx => ⟨h.below hx (Nat.le_refl _), hbx.below hx hbx.lt⟩
  replace hAll := hide hAll
  obtain ⟨w1, hw1⟩ : ∃ w1, w1 = w.alloc (.cells (madeCells #[.int .i64 0] N) 2) := ⟨_, rfl⟩
  have hb1 : Hid (Below w.heap.size w w1) := by show Below _ _ _; rw [hw1]; exact (Below.refl _ _).alloc (Nat.le_refl _) _
  have hs1 : Hid (SlI w1 w.heap.size w1.heap.size (some ⟨w.heap.size, 0, none⟩) N (rndP es N 0)) := by
    show Sl _ _ _ _ _ _ _ _
    rw [hw1]
    exact (made_zeroP w N).more (Nat.le_refl _) (by rw [World.size_alloc]; exact Nat.le_refl _)
  clear h hbx
  go_enter Tryz.func85, Tryz.ntmps85
  go_upto_region 2 with fail
  rw [← show w1 = _ from hw1]
  replace hw1 := hide hw1
  clear b0
  go_wp2_with fail
  go_loopw [1, 5] (fun v1 v5 wr => ∃ (k j c5 : Nat) (A5 : Option Addr), k + j = q ∧ v1 = .int .i64 (k : Nat) ∧ v5 = .slice A5 N c5 ∧ Hid (SlI wr w.heap.size wr.heap.size A5 N (rndP es N j)) ∧ Hid (Below w.heap.size w wr)) (fun v _ _ => (intOf v).toNat)
  case atStart => exact ⟨q, 0, _, _, by omega, rfl, rfl, hs1.out, hb1.out⟩
  case round =>
    clear hs1 hb1
    obtain ⟨k, j, c5, A5, hkj, rfl, rfl, hO, hb⟩ := hrel
    by_cases hlt : 0 < k
    · have k0 : (0 : Int) < (k : Int) := by omega
      obtain ⟨hSy, hBr⟩ := hAll.out wr hb.out
      have hzr := hb.out.size
      have qR := hide (l13Refine_calls hSy c d bx hBr A5 c5 _ hO.out.here' (rnd_small hN2 j))
      clear hSy hBr
      go_wp2_with fail
      refine qR.out.mono ?_
      rintro e w4 ⟨A4, c4, rfl, hO4, hb4⟩
      have hO4' := hide (hO4.more hzr (Nat.le_refl _))
      have hb4' := hide (hb.out.trans (hb4.mono hzr))
      have hi : IntKind.i64.wrap ((k : Int) - 1) = ((k - 1 : Nat) : Int) := by rw [IntWalk.i64_in _ (by omega)]; omega
      have hi2 : ((k : Int) - 1) = ((k - 1 : Nat) : Int) := by omega
      clear qR hO4 hb4
      go_wp2_with fail
      go_roundw
      case rel => exact ⟨k - 1, j + 1, c4, A4, by omega, by go_num, rfl, hO4'.out, hb4'.out⟩
      case measure => simp [intOf]; omega
    · obtain rfl : k = 0 := by omega
      obtain rfl : j = q := by omega
      clear hkj
      go_wp2_with fail
      go_ret
      exact ⟨A5, c5, rfl, hO.out, hb.out⟩
set_option maxRecDepth 100000 in
set_option maxHeartbeats 3200000 in
theorem l13Rounds_calls (h : SysA w N ini A n B m ls es) (c d bx : Nat) (hbx : LtsBox w bx (N : Int) (ini : Int) A n c B m d) :
    Calls Tryz.prog 163 #[.pointer (some ⟨bx, 0, none⟩)] w fun e w' => ∃ (r : Nat) (Q : Option Addr) (cQ : Nat), e = .returned (.tuple #[.slice Q N cQ, .int .i64 (r : Int)]) ∧ LastR es N r ∧ SlI w' w.heap.size w'.heap.size Q N (rndP es N r) ∧ Below w.heap.size w w' := by
  obtain ⟨⟨hN1, hN2⟩, hini⟩ := h.bounds
  have hmk := run_make_int N (by omega)
  have hed := hide h.edges
  have b0 := hbx.c0
  have hAll : ∀ wx, Below w.heap.size w wx → SysA wx N ini A n B m ls es ∧ LtsBox wx bx (N : Int) (ini : Int) A n c B m d := fun wx hx => ⟨h.below hx (Nat.le_refl _), hbx.below hx hbx.lt⟩
  replace hAll := hide hAll
  obtain ⟨w1, hw1⟩ : ∃ w1, w1 = w.alloc (.cells (madeCells #[.int .i64 0] N) 2) := ⟨_, rfl⟩
  have hb1 : Hid (Below w.heap.size w w1) := by show Below _ _ _; rw [hw1]; exact (Below.refl _ _).alloc (Nat.le_refl _) _
  have hs1 : Hid (SlI w1 w.heap.size w1.heap.size (some ⟨w.heap.size, 0, none⟩) N (rndP es N 0)) := by
    show Sl _ _ _ _ _ _ _ _
    rw [hw1]
    exact (made_zeroP w N).more (Nat.le_refl _) (by rw [World.size_alloc]; exact Nat.le_refl _)
  clear h hbx
  go_enter Tryz.func163, Tryz.ntmps163
  go_upto_region 2 with fail
  rw [← show w1 = _ from hw1]
  replace hw1 := hide hw1
  clear b0
  go_wp2_with fail
  go_loopw [4, 5] (fun v4 v5 wr => ∃ (j c5 : Nat) (A5 : Option Addr), j + 1 ≤ N ∧ v5 = .int .i64 (j : Nat) ∧ v4 = .slice A5 N c5 ∧ Hid (SlI wr w.heap.size wr.heap.size A5 N (rndP es N j)) ∧ Hid (∀ k, k < j → rndP es N (k + 1) ≠ rndP es N k) ∧ Hid (Below w.heap.size w wr)) (fun _ v _ => N - (intOf v).toNat)
  case atStart => exact ⟨0, _, _, hN1, rfl, rfl, hs1.out, fun k hk => absurd hk (Nat.not_lt_zero k), hb1.out⟩
  case round =>
    clear hs1 hb1
    obtain ⟨j, c5, A5, hj, rfl, rfl, hO, hne, hb⟩ := hrel
    obtain ⟨hSy, hBr⟩ := hAll.out wr hb.out
    have hzr := hb.out.size
    have qR := hide (l13Refine_calls hSy c d bx hBr A5 c5 _ hO.out.here' (rnd_small hN2 j))
    clear hSy hBr
    go_wp2_with fail
    refine qR.out.mono ?_
    rintro e w4 ⟨A4, c4, rfl, hO4, hb4⟩
    have hz4 := hb4.size
    have hO5 := hide (hO.out.below hb4 (.inr (Nat.le_refl _)))
    have qE := l00Same_calls A4 A5 N N c4 c5 (rndP es N (j + 1)) (rndP es N j) w4 _ _ _ _ hO4 hO5.out (by omega) (by omega)
    replace hO4 := hide hO4
    replace hb4 := hide hb4
    clear qR
    by_cases heq : rndP es N (j + 1) = rndP es N j
    · rw [decide_eq_true heq] at qE
      replace qE := hide qE
      replace heq := hide heq
      go_wp2_with fail
      refine qE.out.mono ?_
      rintro e w5 ⟨rfl, hb5⟩
      have hbF := hide (hb.out.trans ((hb4.out.trans (hb5.mono hz4)).mono hzr))
      have hOF := hide (((hO5.out.below hb5 (.inr (by have := hb5.size; exact Nat.le_refl _)))).more (Nat.le_refl _) (Nat.le_trans hz4 hb5.size))
      go_wp2_with fail
      go_ret2
      exact ⟨j, A5, c5, rfl, ⟨heq.out, hne.out⟩, hOF.out, hbF.out⟩
    · rw [decide_eq_false heq] at qE
      replace qE := hide qE
      have hnew : Hid (∀ k, k < j + 1 → rndP es N (k + 1) ≠ rndP es N k) := fun k hk => by
        by_cases e : k < j
        · exact hne.out k e
        · obtain rfl : k = j := by omega
          exact heq
      have hjN : j + 1 + 1 ≤ N := rnd_bound hed.out hN1 hnew.out
      clear heq
      go_wp2_with fail
      refine qE.out.mono ?_
      rintro e w5 ⟨rfl, hb5⟩
      have hbF := hide (hb.out.trans ((hb4.out.trans (hb5.mono hz4)).mono hzr))
      have hOF := hide ((hO4.out.below hb5 (.inr (Nat.le_refl _))).more hzr hb5.size)
      clear qE
      go_wp2_with fail
      go_roundw
      case rel => exact ⟨j + 1, c4, A4, hjN, by go_num, rfl, hOF.out, hnew.out, hbF.out⟩
      case measure => simp [intOf]; omega
set_option maxRecDepth 100000 in
set_option maxHeartbeats 1600000 in
theorem l13Part_calls (h : SysA w N ini A n B m ls es) (c d bx : Nat) (hbx : LtsBox w bx (N : Int) (ini : Int) A n c B m d) :
    Calls Tryz.prog 82 #[.pointer (some ⟨bx, 0, none⟩)] w fun e w' => ∃ (r : Nat) (Q : Option Addr) (cQ : Nat), e = .returned (.slice Q N cQ) ∧ LastR es N r ∧ SlI w' w.heap.size w'.heap.size Q N (rndP es N r) ∧ Below w.heap.size w w' := by
  have q := hide (l13Rounds_calls h c d bx hbx)
  clear h hbx
  go_enter Tryz.func82, Tryz.ntmps82
  go_wp2_with fail
  refine q.out.mono ?_
  rintro e w4 ⟨r, Q, cQ, rfl, hL, hO, hb⟩
  replace hL := hide hL
  replace hO := hide hO
  replace hb := hide hb
  clear q
  go_wp2_with fail
  go_ret
  exact ⟨r, Q, cQ, rfl, hL.out, hO.out, hb.out⟩
end
end Go.Proofs.YtnhomkmfbngmgaaGreatDoor

namespace Go.Proofs.YtnhomkmfbngmgaaGreatDoor
open Go.ChangeShapes Go.WideShapes Go.ChangeAt Go.RowKit
set_option linter.unusedVariables false
set_option linter.unusedSimpArgs false

set_option maxRecDepth 100000 in
theorem l11Place_calls (v : Int) (A : Option Addr) (n c : Nat) (l : List Int) (w : World) (lo hi : Nat) (h : SlI w lo hi A n l) (hn : n ≤ 1048576) :
    Calls Tryz.prog 87 #[.slice A n c, .int .i64 v] w fun e w' => ∃ i : Int, e = .returned (.int .i64 i) ∧ FstI l v i ∧ w = w' := by
  have hlen := hide h.len
  go_enter Tryz.func87, Tryz.ntmps87
  go_wp2_with fail
  go_loop [5] (fun i => ∃ k : Nat, k ≤ n ∧ i = .int .i64 k ∧ Hid (∀ x, x ∈ l.take k → x ≠ v)) (fun i => n - (intOf i).toNat)
  case atStart => exact ⟨0, Nat.zero_le _, rfl, fun x hx => by simp at hx⟩
  case round =>
    obtain ⟨k, hk, rfl, ha⟩ := hrel
    by_cases hlt : k < n
    · obtain ⟨b, off, x, rfl, g1, g2, g3, hx, c0, -⟩ := SlI.get h hlt
      clear h
      have k0 : (0 : Int) ≤ (k : Int) := by omega
      have k1 : (k : Int) < (n : Int) := by omega
      by_cases hq : x = v
      · subst hq
        have hy : Hid (FstI l x (k : Int)) := .inr ⟨k, rfl, by rw [hlen.out]; exact hlt, hx⟩
        have g9 : (x == x) = true := by simp
        clear hx
        go_wp2_with fail
        go_ret
        exact ⟨_, rfl, hy.out, rfl⟩
      · have hy : Hid (∀ x, x ∈ l.take (k + 1) → x ≠ v) := fun y hy => by
          rw [List.take_add_one, hx] at hy
          rcases List.mem_append.1 hy with hy | hy
          · exact ha.out y hy
          · have : y = x := by simpa using hy
            rw [this]; exact hq
        have g9 : (x == v) = false := beq_eq_false_iff_ne.2 hq
        clear hx hq
        go_wp2_with fail
        go_round
        case rel => exact ⟨k + 1, by omega, by go_num, hy⟩
        case measure => simp [intOf]; omega
    · have hkn : k = n := by omega
      subst hkn
      clear h
      have hy := ha.out
      rw [List.take_of_length_le (by rw [hlen.out]; exact Nat.le_refl _)] at hy
      have hf : Hid (FstI l v (-1)) := .inl ⟨rfl, fun hm => hy v hm rfl⟩
      clear ha hy
      go_wp2_with fail
      go_ret
      exact ⟨_, rfl, hf.out, rfl⟩
/-- How the numbers of blocks come: the first ones so far, and the next number. -/
theorem norm_step {T : List Int} {k : Nat} {x i : Int} (hx : T[k]? = some x) (hf : FstI (firsts [] (T.take k)) x i) :
    (i = -1 ∧ firsts [] (T.take (k + 1)) = firsts [] (T.take k) ++ [x] ∧ (normF T)[k]? = some ((firsts [] (T.take k)).length : Int)) ∨ (0 ≤ i ∧ firsts [] (T.take (k + 1)) = firsts [] (T.take k) ∧ (normF T)[k]? = some i) := by
  have hn : (firsts [] (T.take k)).Nodup := firsts_nodup List.nodup_nil
  obtain ⟨K, hK⟩ := firsts_app (firsts [] (T.take (k + 1))) (T.drop (k + 1))
  rw [← firsts_two, List.take_append_drop] at hK
  have h1 : firsts [] (T.take (k + 1)) = firsts (firsts [] (T.take k)) [x] := by
    rw [← firsts_two, List.take_add_one, hx]; rfl
  rw [firsts_one] at h1
  rw [normF_at hx, hK]
  rcases hf with ⟨rfl, hm⟩ | ⟨j, rfl, hj, hjx⟩
  · left
    rw [if_neg hm] at h1
    refine ⟨rfl, h1, ?_⟩
    rw [h1, List.idxOf_append, if_pos (by simp), List.idxOf_append, if_neg hm]
    simp
  · right
    have hm : x ∈ firsts [] (T.take k) := List.mem_of_getElem? hjx
    rw [if_pos hm] at h1
    refine ⟨by omega, h1, ?_⟩
    rw [h1, List.idxOf_append, if_pos hm]
    have := idx_self hn hj
    rw [(List.getElem?_eq_some_iff.1 hjx).2] at this
    rw [this]
end Go.Proofs.YtnhomkmfbngmgaaGreatDoor

namespace Go.Proofs.YtnhomkmfbngmgaaGreatDoor
open Go.ChangeShapes Go.WideShapes Go.ChangeAt Go.RowKit
set_option linter.unusedVariables false
set_option linter.unusedSimpArgs false

theorem Sl.litJ (w : World) (t : TypeId) (l : List Int) (cs : Array Value) (h : cs.toList = l.map (Value.int .i64)) : SlI (w.alloc (.cells cs t)) w.heap.size (w.heap.size + 1) (some ⟨w.heap.size, 0, none⟩) l.length l := by
  refine ⟨rfl, fun _ => ⟨w.heap.size, 0, rfl, Nat.le_refl _, by omega, by simp, fun k y hy j u hu => ?_⟩⟩
  have hj : j = 0 := by have := (List.getElem?_eq_some_iff.1 hu).1; simp [iv] at this; exact this
  subst hj
  simp [iv] at hu
  subst hu
  simp only [Nat.mul_one, Nat.add_zero, Nat.zero_add]
  have hg := heap_alloc_new w (.cells cs t)
  refine ⟨(cell_of_row _ _ _ cs t (0, 0) hg).trans ?_, frozen_of_row _ _ _ cs t hg⟩
  rw [← Array.getElem?_toList, h, List.getElem?_map, hy]; rfl

theorem r8Long_no (A B : Option Addr) (n m c d : Nat) (w : World) (hn : n ≤ 1048576) (hm : m ≤ 1048576) :
    Calls Tryz.prog 10 #[.slice A n c, .slice B m d] w fun e w' => e = .returned (.bool false) ∧ w = w' := by
  have h1 : ¬ (1048576 : Int) < (n : Int) := by omega
  have h2 : ¬ (1048576 : Int) < (m : Int) := by omega
  go_enter Tryz.func10, Tryz.ntmps10
  go_wp2_with fail
  go_ret
  exact ⟨rfl, rfl⟩
theorem r8Long_yes (A B : Option Addr) (n m c d : Nat) (w : World) (h : 1048576 < n ∨ 1048576 < m) :
    Calls Tryz.prog 10 #[.slice A n c, .slice B m d] w fun e w' => e = .returned (.bool true) ∧ w = w' := by
  by_cases h1 : (1048576 : Int) < (n : Int)
  · go_enter Tryz.func10, Tryz.ntmps10
    go_wp2_with fail
    go_ret
    exact ⟨rfl, rfl⟩
  · have h2 : (1048576 : Int) < (m : Int) := by omega
    go_enter Tryz.func10, Tryz.ntmps10
    go_wp2_with fail
    go_ret
    exact ⟨rfl, rfl⟩
section
variable {w : World} {N ini : Nat} {A : Option Addr} {n : Nat} {B : Option Addr} {m : Nat} {ls : List ByteArray} {es : List Ed}
set_option maxRecDepth 100000 in
theorem itemsOk_calls (k : Int) (w : World) :
    Calls Tryz.prog 294 #[.int .i64 k] w fun e w' => e = .returned (.bool (inB k 1 40)) ∧ w = w' := by
  have q := hide (within_calls k 1 40 w)
  go_enter Tryz.func294, Tryz.ntmps294
  go_wp2_with (first | (go_at_call 118; (with_reducible refine q.out.mono ?_); rintro e w2 ⟨rfl, rfl⟩))
  go_ret
  exact ⟨rfl, rfl⟩
set_option maxRecDepth 100000 in
theorem isPartition_calls (P : Option Addr) (cp : Nat) (p : List Int) (w : World) (lo hi : Nat) (hP : SlI w lo hi P N p) (hN : 1 ≤ N ∧ N ≤ 40) (hp : PartN N p) :
    Calls Tryz.prog 237 #[.slice P N cp] w fun e w' => e = .returned (.bool true) ∧ Below w.heap.size w w' := by
  have q1 := itemsOk_calls (N : Int) w
  rw [inB_true.2 (show (1 : Int) ≤ (N : Int) ∧ (N : Int) ≤ 40 by omega)] at q1
  replace q1 := hide q1
  have q2 := normalF_calls P N cp p w lo hi hP (by omega) (fun x hx => by have := hp.range x hx; omega)
  rw [hp.norm] at q2
  replace q2 := hide q2
  replace hP := hide hP
  clear hp
  go_enter Tryz.func237, Tryz.ntmps237
  go_wp2_with (first | (go_at_call 294; (with_reducible refine q1.out.mono ?_); rintro e w' ⟨rfl, rfl⟩) | fail)
  refine q2.out.mono ?_
  rintro e w2 ⟨Bq, rfl, hB, hb2⟩
  have q3 := equalI_calls P (some ⟨Bq, 0, none⟩) N N cp N p p w2 _ _ _ _ (hP.out.below hb2 (.inr (Nat.le_refl _))) hB (by omega) (by omega)
  rw [decide_eq_true rfl] at q3
  replace q3 := hide q3
  have hz := hb2.size
  replace hb2 := hide hb2
  replace hB := hide hB
  clear q1 q2
  go_wp2_with fail
  refine q3.out.mono ?_
  rintro e w3 ⟨rfl, hb3⟩
  have hbF := hide (hb2.out.trans (hb3.mono hz))
  clear q3 hb3
  go_wp2_with fail
  go_ret
  exact ⟨rfl, hbF.out⟩
set_option maxRecDepth 100000 in
theorem partitionOf_calls (h : SysA w N ini A n B m ls es) (c d : Nat) (P : Option Addr) (cp : Nat) (p : List Int) (hP : SlI w 0 w.heap.size P N p) (hp : PartN N p) :
    Calls Tryz.prog 159 #[.agg #[.int .i64 (N : Int), .int .i64 (ini : Int), .slice A n c, .slice B m d], .slice P N cp] w fun e w' => e = .returned (.bool true) ∧ Below w.heap.size w w' := by
  have hB := h.box (c := c) (d := d)
  obtain ⟨w1, hw1⟩ : ∃ w1, w1 = w.alloc (ltsC N ini A n c B m d) := ⟨_, rfl⟩
  rw [← hw1] at hB
  have hP1 := hP.below hB.bel (.inr (Nat.le_refl _))
  have q1 := hide (isPartition_calls P cp p w1 _ _ hP1 hB.sys.bounds.1 hp)
  have hz1 := hB.bel.size
  have b0 := hB.box.c0
  have b1 := hB.box.c1
  have b2 := hB.box.c2
  have b3 := hB.box.c3
  replace hB := hide hB
  clear h hP hP1
  go_enter Tryz.func159, Tryz.ntmps159
  go_upto_region 1 with fail
  rw [← show w1 = w.alloc (.cells #[.int .i64 (N : Int), .int .i64 (ini : Int), .slice A n c, .slice B m d] 27) from hw1]
  replace hw1 := hide hw1
  go_wp2_with fail
  refine q1.out.mono ?_
  rintro e w2 ⟨rfl, hb2⟩
  have hB2 := hide (hB.out.below hb2)
  clear q1 b0 b1 b2 b3 hb2
  have b0 := hB2.out.box.c0
  have hNN : ((N : Int) == (N : Int)) = true := by simp
  go_wp2_with fail
  go_ret
  exact ⟨by simp, hB2.out.bel⟩

set_option maxRecDepth 100000 in
set_option maxHeartbeats 1600000 in
theorem ltsPartition_calls (h : SysA w N ini A n B m ls es) (c d : Nat) (he : Env w) (P : Option Addr) (cp : Nat) (p : List Int) (hP : SlI w 0 w.heap.size P N p) (hp : PartN N p) :
    Calls Tryz.prog 79 #[.agg #[.int .i64 (N : Int), .int .i64 (ini : Int), .slice A n c, .slice B m d], .slice P N cp] w fun e w' => e = .returned (.int .i64 0) ∧ Below w.heap.size w w' := by
  have hB := h.box (c := c) (d := d)
  obtain ⟨w1, hw1⟩ : ∃ w1, w1 = w.alloc (ltsC N ini A n c B m d) := ⟨_, rfl⟩
  rw [← hw1] at hB
  have he1 := he.below hB.bel (Nat.le_refl _)
  have q1 := hide (hB.sys.valid c d he1)
  have hP1 := hide (hP.below hB.bel (.inr (Nat.le_refl _)))
  have b0 := hB.box.c0
  have b1 := hB.box.c1
  have b2 := hB.box.c2
  have b3 := hB.box.c3
  replace hB := hide hB
  clear h he he1 hP
  go_enter Tryz.func79, Tryz.ntmps79
  go_upto_region 1 with fail
  rw [← show w1 = w.alloc (.cells #[.int .i64 (N : Int), .int .i64 (ini : Int), .slice A n c, .slice B m d] 27) from hw1]
  replace hw1 := hide hw1
  go_wp2_with fail
  refine q1.out.mono ?_
  rintro e w2 ⟨rfl, hb2⟩
  have hB2 := hide (hB.out.below hb2)
  have hP2 := hide ((hP1.out.below hb2 (.inr (Nat.le_refl _))).here')
  clear q1 b0 b1 b2 b3 hb2
  have b0 := hB2.out.box.c0
  have b1 := hB2.out.box.c1
  have b2 := hB2.out.box.c2
  have b3 := hB2.out.box.c3
  have q2 := hide (partitionOf_calls hB2.out.sys c d P cp p hP2.out hp)
  have hz2 := hB2.out.bel.size
  go_wp2_with fail
  refine q2.out.mono ?_
  rintro e w3 ⟨rfl, hb3⟩
  have hbF := hide (hB2.out.bel.trans (hb3.mono hz2))
  clear q2 b0 b1 b2 b3 hb3
  go_wp2_with fail
  go_ret
  exact ⟨rfl, hbF.out⟩

end
end Go.Proofs.YtnhomkmfbngmgaaGreatDoor

namespace Go.Proofs.YtnhomkmfbngmgaaGreatDoor
open Go.ChangeShapes Go.WideShapes Go.ChangeAt Go.RowKit
set_option linter.unusedVariables false
set_option linter.unusedSimpArgs false

/-- A system that is drawn: valid, at most seven states. -/
def SysD (w : World) (e : Ending) (w' : World) : Prop := ∃ (st ini : Nat) (A : Option Addr) (n c : Nat) (B : Option Addr) (m d : Nat) (ls : List ByteArray) (es : List Ed),
  e = .returned (.agg #[.int .i64 (st : Int), .int .i64 (ini : Int), .slice A n c, .slice B m d]) ∧ SysA w' st ini A n B m ls es ∧ st ≤ 7 ∧ n ≤ 7 ∧ m ≤ 64 ∧ NamD ls ∧ Below w.heap.size w w'
set_option maxRecDepth 100000 in
set_option maxHeartbeats 1600000 in
theorem R8Lts_calls (A : Option Addr) (n c : Nat) (code : List Int) (w : World) (h : SlU w 0 w.heap.size A n code) (hc : ∀ x, x ∈ code → 0 ≤ x ∧ x ≤ 255) (hn : n ≤ maxLen) :
    Calls Tryz.prog 11 #[.slice A n c] w (SysD w) := by
  have hb1 := (Below.refl w.heap.size w).alloc (Nat.le_refl _) (.cells #[.int .i64 0, .int .i64 0, .slice none 0 0, .slice none 0 0] 27)
  have k8 := heap_alloc_new w (.cells #[.int .i64 0, .int .i64 0, .slice none 0 0, .slice none 0 0] 27)
  have hz1 : w.heap.size < (w.alloc (.cells #[.int .i64 0, .int .i64 0, .slice none 0 0, .slice none 0 0] 27)).heap.size := by simp
  obtain ⟨w1, hw1⟩ : ∃ w1, w1 = w.alloc (.cells #[.int .i64 0, .int .i64 0, .slice none 0 0, .slice none 0 0] 27) := ⟨_, rfl⟩
  rw [← hw1] at hb1 k8 hz1
  have q1 := hide (l00From_calls A n c code w1 ((h.below hb1 (.inl (Nat.le_refl _))).more (Nat.le_refl _) hb1.size) hc hn)
  replace hb1 := hide hb1
  replace k8 := hide k8
  clear h hc
  go_enter Tryz.func11, Tryz.ntmps11
  go_upto_region 1 with fail
  rw [← hw1]
  replace hw1 := hide hw1
  go_wp2_with fail
  refine q1.out.mono ?_
  rintro e w2 ⟨rfl, hS, hb2, hz2⟩
  have q2 := hide (l15DrawOk_calls w1.heap.size 0 w2 hS (by omega))
  have hlt1 : w1.heap.size < w2.heap.size := hS.lt
  replace hb2 := hide hb2
  replace hz2 := hide hz2
  clear q1 hS
  go_wp2_with fail
  refine q2.out.mono ?_
  rintro e w3 hd
  obtain ⟨st, ini, A2, n2, c2, B2, m2, d2, ls, es, rfl, hsys, h7, h64, hn7, hnam, -, hon, hA, hB⟩ := hd.sys (by omega)
  have hb3 := hide (show Below w1.heap.size w1 w3 from ⟨hon.os.trans hb2.out.os, hon.tape.trans hb2.out.tape, hon.output.trans hb2.out.output, Nat.le_trans hb2.out.size hon.size, fun q hq => (hon.block q (by omega) (by omega)).trans (hb2.out.block q hq)⟩)
  have h8 : w3.heap[w.heap.size]? = _ := (hb3.out.block w.heap.size hz1).trans k8.out
  have a0 : w3.cell? ⟨w.heap.size, 0, none⟩ = some (.int .i64 0) := (cell_of_row _ _ 0 _ _ (0, 0) h8).trans rfl
  have a1 : w3.cell? ⟨w.heap.size, 1, none⟩ = some (.int .i64 0) := (cell_of_row _ _ 1 _ _ (0, 0) h8).trans rfl
  have a2 : w3.cell? ⟨w.heap.size, 2, none⟩ = some (.slice none 0 0) := (cell_of_row _ _ 2 _ _ (0, 0) h8).trans rfl
  have a3 : w3.cell? ⟨w.heap.size, 3, none⟩ = some (.slice none 0 0) := (cell_of_row _ _ 3 _ _ (0, 0) h8).trans rfl
  have z0 : w3.frozen? ⟨w.heap.size, 0, none⟩ = false := frozen_of_row _ _ 0 _ _ h8
  have z1 : w3.frozen? ⟨w.heap.size, 1, none⟩ = false := frozen_of_row _ _ 1 _ _ h8
  have z2 : w3.frozen? ⟨w.heap.size, 2, none⟩ = false := frozen_of_row _ _ 2 _ _ h8
  have z3 : w3.frozen? ⟨w.heap.size, 3, none⟩ = false := frozen_of_row _ _ 3 _ _ h8
  replace h8 := hide h8
  have hm64 : m2 ≤ 64 := by have := hsys.se.len; omega
  replace hA := hide hA
  replace hB := hide hB
  replace hsys := hide hsys
  replace hd := hide hd
  replace hnam := hide hnam
  replace hon := hide hon
  clear q2
  go_wp2_with fail
  (try simp only [Exit.inBlock, Exit.then])
  refine bodyPost_ret_by (v := .agg #[.int .i64 (st : Int), .int .i64 (ini : Int), .slice A2 n2 c2, .slice B2 m2 d2]) ?_ rfl ?_
  focus
    rw [results_cell1 rfl]
    go_simp
  change SysD w _ (put4 w3 w.heap.size _ _ _ _)
  have hZs := put4_size w3 w.heap.size (.int .i64 (st : Int)) (.int .i64 (ini : Int)) (.slice A2 n2 c2) (.slice B2 m2 d2)
  have hz3 := hb3.out.size
  have hz23 := hon.out.size
  refine ⟨st, ini, A2, n2, c2, B2, m2, d2, ls, es, rfl, ⟨?_, ?_, hsys.out.ok, hsys.out.sz⟩, h7, hn7, hm64, hnam.out, ?_⟩
  · exact (Sl.keep hA.out (by omega) fun q h1 h2 h3 => put4_other _ _ _ _ _ _ (by omega)).here'
  · exact (Sl.keep hB.out (by omega) fun q h1 h2 h3 => put4_other _ _ _ _ _ _ (by omega)).here'
  · have h1 := hb1.out.trans (hb3.out.mono (by omega))
    exact ⟨h1.os, h1.tape, h1.output, by omega, fun q hq => (put4_other _ _ _ _ _ _ (by omega)).trans (h1.block q hq)⟩

end Go.Proofs.YtnhomkmfbngmgaaGreatDoor

namespace Go.Proofs.YtnhomkmfbngmgaaGreatDoor
open Go.ChangeShapes Go.WideShapes Go.ChangeAt Go.RowKit Go.Sort Go.Lib
set_option linter.unusedVariables false
set_option linter.unusedSimpArgs false

theorem normF_part (l : List Int) : PartN l.length (normF l) := ⟨normF_len l, normF_norm l⟩
set_option maxRecDepth 100000 in
set_option maxHeartbeats 12800000 in
theorem R8Part_calls {w : World} {N ini : Nat} {A : Option Addr} {n : Nat} {B : Option Addr} {m : Nat} {ls : List ByteArray} {es : List Ed} (h : SysA w N ini A n B m ls es) (c d : Nat) (C : Option Addr) (nc cc : Nat) (code : List Int) (hC : SlU w 0 w.heap.size C nc code) (hcr : ∀ x, x ∈ code → 0 ≤ x ∧ x ≤ 255) (hnc : nc ≤ maxLen) :
    Calls Tryz.prog 31 #[.slice C nc cc, .agg #[.int .i64 (N : Int), .int .i64 (ini : Int), .slice A n c, .slice B m d], .bool false, .bool false] w fun e w' => ∃ Q cQ q, e = .returned (.slice Q N cQ) ∧ SlI w' 0 w'.heap.size Q N q ∧ PartN N q ∧ Below w.heap.size w w' := by
  obtain ⟨⟨hN1, hN2⟩, hini⟩ := h.bounds
  have hE := hide elem_int64
  have hB := h.box (c := c) (d := d)
  obtain ⟨w1, hw1⟩ : ∃ w1, w1 = w.alloc (ltsC N ini A n c B m d) := ⟨_, rfl⟩
  rw [← hw1] at hB
  have hzw : w.heap.size < w1.heap.size := hB.lt
  have q1 := hide (l00From_calls C nc cc code w1 ((hC.below hB.bel (.inl (Nat.le_refl _))).more (Nat.le_refl _) hB.bel.size) hcr hnc)
  replace hB := hide hB
  clear h hC
  go_enter Tryz.func31, Tryz.ntmps31
  go_upto_region 1 with fail
  rw [← show w1 = w.alloc (.cells #[.int .i64 (N : Int), .int .i64 (ini : Int), .slice A n c, .slice B m d] 27) from hw1]
  replace hw1 := hide hw1
  go_wp2_with fail
  refine q1.out.mono ?_
  rintro e w2 ⟨rfl, hS, hb2, hz2⟩
  obtain ⟨b, hbe⟩ : ∃ b, b = w1.heap.size := ⟨_, rfl⟩
  rw [← hbe] at hS ⊢
  have hb1 : b ≤ w1.heap.size := Nat.le_of_eq hbe
  have hb1' : w1.heap.size ≤ b := Nat.le_of_eq hbe.symm
  have hbw : w.heap.size < b := by omega
  replace hbe := hide hbe
  have hlt2 : b < w2.heap.size := hS.lt
  have hB2 := hide (hB.out.below hb2)
  have q2 := hide (l13Part_calls hB2.out.sys c d w.heap.size hB2.out.box)
  replace hS := hide hS
  replace hb2 := hide hb2
  replace hz2 := hide hz2
  clear q1
  go_wp2_with fail
  refine q2.out.mono ?_
  rintro e w3 ⟨r, Q, cQ, rfl, hL, hQ, hb3⟩
  have hS3 := hide (hS.out.below hb3 hlt2)
  have hz3 := hb3.size
  have hpp := hide (rnd_part (es := es) (N := N) r)
  obtain ⟨p, hpe⟩ : ∃ p, p = rndP es N r := ⟨_, rfl⟩
  rw [← hpe] at hQ hpp
  replace hpe := hide hpe
  have hb13 := hide (hb2.out.trans (hb3.mono (Nat.le_trans hb1' (Nat.le_of_lt hlt2))))
  have q3 := hide (pick_calls b 0 4 w3 hS3.out (by omega))
  replace hQ := hide hQ
  replace hb3 := hide hb3
  clear q2 hL
  go_wp2_with fail
  refine q3.out.mono ?_
  rintro e w4 ⟨x, rfl, hx0, hx1, hT⟩
  have hb14 := hide (Only.below hb13.out hT.only hb1' (by omega))
  have hbel := hide (hB.out.bel.trans (hb14.out.mono (Nat.le_of_lt hzw)))
  have hS4 := hide hT.src
  have hz34 := hide (show w3.heap.size ≤ w4.heap.size from hT.only.size)
  have hbz4 : b < w4.heap.size := hS4.out.lt
  have hQ4 := hide ((Sl.only hQ.out hT.only (.inr (by omega))).more (show b + 1 ≤ _ by omega) hz34.out)
  have hB4 := hide (hB.out.below hb14.out)
  replace hT := hide hT
  clear q3 hQ
  have b0 := hB4.out.box.c0
  by_cases x0 : x = 0
  · subst x0
    have q4 := hide (pick_calls b (0 + 2) 3 w4 hS4.out (by omega))
    clear b0
    go_wp2_with fail
    refine q4.out.mono ?_
    rintro e w5 ⟨y, rfl, hy0, hy1, hT5⟩
    obtain ⟨y, rfl⟩ : ∃ k : Nat, y = (k : Int) := ⟨y.toNat, by omega⟩
    have hb15 := hide (Only.below hb14.out hT5.only hb1' (by omega))
    have hB5 := hide (hB.out.below hb15.out)
    have q5 := hide (l13Round_calls hB5.out.sys c d w.heap.size hB5.out.box y (by omega))
    have hz5 := hb15.out.size
    replace hT5 := hide hT5
    clear q4
    go_wp2_with fail
    refine q5.out.mono ?_
    rintro e w6 ⟨Q6, c6, rfl, hQ6, hb6⟩
    have hF := hide (hB.out.bel.trans ((hb15.out.trans (hb6.mono hz5)).mono (Nat.le_of_lt hzw)))
    have hQF := hide hQ6.here'
    clear q5 hQ6 hb6
    go_wp2_with fail
    go_ret
    exact ⟨Q6, c6, _, rfl, hQF.out, rnd_part y, hF.out⟩
  · have g0 : (x == 0) = false := beq_eq_false_iff_ne.2 x0
    by_cases x1 : x = 1
    · subst x1
      have honP := hide (fun (wx : World) (hx : Only b (b + 1) w4 wx) => Sl.only hQ4.out hx (.inr (Nat.le_refl _)))
      have hbx := hide (fun (wx : World) (hx : Only b (b + 1) w4 wx) => (hB.out.below (Only.below hb14.out hx hb1' (by omega))).box.c0)
      have hps := hide (fun (x : Int) (hx : x ∈ p) => hpp.out.range x hx)
      obtain ⟨w5, hw5⟩ : ∃ w5, w5 = w4.alloc (.cells #[] 2) := ⟨_, rfl⟩
      have hO5 : Hid (Own 1 iv w5 w4.heap.size 2 (some ⟨w4.heap.size, 0, none⟩) 0 0 []) := by show Own _ _ _ _ _ _ _ _ _; rw [hw5]; exact Own.made w4 _ (Nat.le_refl _)
      have hon5 : Hid (Only b (b + 1) w4 w5) := by show Only _ _ _ _; rw [hw5]; exact (Only.refl _ _ _).alloc' _
      have hS5 : Hid (SrcW w5 b (0 + 2)) := by show SrcW _ _ _; rw [hw5]; exact hS4.out.alloc _
      clear b0
      go_upto_region 10 with fail
      rw [← show w5 = _ from hw5]
      replace hw5 := hide hw5
      go_wp2_with fail
      go_loopw [11, 12] (fun v11 v12 wr => ∃ (k c5 : Nat) (A5 : Option Addr) (T : List Int), k ≤ N ∧ v12 = .int .i64 (k : Nat) ∧ v11 = .slice A5 k c5 ∧ Hid (Own 1 iv wr w4.heap.size 2 A5 k c5 T) ∧ Hid (SrcW wr b (2 + 2 * k)) ∧ Hid (Only b (b + 1) w4 wr)) (fun _ v _ => N - (intOf v).toNat)
      case atStart => exact ⟨0, 0, _, [], Nat.zero_le _, rfl, rfl, hO5.out, hS5.out, hon5.out⟩
      case round =>
        clear hO5 hS5 hon5
        obtain ⟨k, c5, A5, T, hk, rfl, rfl, hO, hS, hon⟩ := hrel
        have b0 := hbx.out wr hon.out
        by_cases hlt : k < N
        · have k0 : (0 : Int) ≤ (k : Int) := by omega
          have k1 : (k : Int) < (N : Int) := by omega
          obtain ⟨gQ, oQ, pk, rfl, -, -, -, hpk, cpk, -⟩ := SlI.get (honP.out wr hon.out) hlt
          have hpr := hps.out pk (List.mem_of_getElem? hpk)
          have hm1 : IntKind.i64.wrap (2 * pk) = 2 * pk := IntWalk.i64_in _ (by omega)
          have hSS : Hid (∀ wx, Only b (b + 1) w4 wx → wx.cell? ⟨gQ, oQ + k, none⟩ = some (.int .i64 pk)) := fun wx hx => by
            obtain ⟨g2, o2, p2, e2, -, -, -, hp2, c2, -⟩ := SlI.get (honP.out wx hx) hlt
            cases e2
            rw [hpk] at hp2
            cases hp2
            exact c2
          obtain ⟨wD, hwD⟩ : ∃ wD, wD = wr.drew := ⟨_, rfl⟩
          have honD : Hid (Only b (b + 1) w4 wD) := by show Only _ _ _ _; rw [hwD]; exact hon.out.drew'
          have hOD : Hid (Own 1 iv wD w4.heap.size 2 A5 k c5 T) := by show Own _ _ _ _ _ _ _ _ _; rw [hwD]; exact hO.out.keep fun _ _ => rfl
          have hSD : Hid (SrcW wD b (2 + 2 * k)) := by show SrcW _ _ _; rw [hwD]; exact hS.out.drew
          obtain ⟨wE, hwE⟩ : ∃ wE, wE = wD.alloc (.cells #[.int .i64 0, .int .i64 0, .int .i64 0, .int .i64 1] 2) := ⟨_, rfl⟩
          have honE : Hid (Only b (b + 1) w4 wE) := by show Only _ _ _ _; rw [hwE]; exact honD.out.alloc' _
          have hOE : Hid (Own 1 iv wE w4.heap.size 2 A5 k c5 T) := by show Own _ _ _ _ _ _ _ _ _; rw [hwE]; exact hOD.out.alloc _
          have hSE : Hid (SrcW wE b (2 + 2 * k)) := by show SrcW _ _ _; rw [hwE]; exact hSD.out.alloc _
          have hlist : SlI wE wD.heap.size (wD.heap.size + 1) (some ⟨wD.heap.size, 0, none⟩) 4 [0, 0, 0, 1] := by rw [hwE]; exact Sl.litJ wD 2 [0, 0, 0, 1] _ rfl
          have hzD := honD.out.size
          have hzE := honE.out.size
          have qA := hide (among_calls b (2 + 2 * k) (some ⟨wD.heap.size, 0, none⟩) 4 4 [0, 0, 0, 1] wE _ _ hSE.out (by omega) hlist (.inr (by omega)) (by omega) (by omega))
          replace hwD := hide hwD
          replace hwE := hide hwE
          replace hpk := hide hpk
          clear hO hS hon cpk hlist hOD hSD hSE
          go_upto_region 13 with fail
          clear b0
          refine lateT_begin (S := fun w' => w'.cell? ⟨gQ, oQ + k, none⟩ = some (.int .i64 pk)) (st := 12) (by kernel_rfl) ?_
          rw [← show wD = _ from hwD.out]
          have hS0 : (fun w' : World => w'.cell? ⟨gQ, oQ + k, none⟩ = some (.int .i64 pk)) wD := hSS.out wD honD.out
          refine lateT_take (i := 0) (oi := _) (v := ?_) [12] rfl (by kernel_rfl) (by kernel_rfl) (by kernel_rfl) (by kernel_rfl) (fun _ _ _ h => h) (Or.inl ⟨by rfl, ?hy⟩) hS0 ?_
          case hy => (intro w hSw; (try dsimp only at hSw); go_simp <;> with_reducible rfl)
          (try simp only [Act.put, List.setIfInBounds_toArray, List.set_cons_zero, List.set_cons_succ])
          refine lateT_take (i := 1) (oi := _) (v := ?_) [12] rfl (by kernel_rfl) (by kernel_rfl) (by kernel_rfl) (by kernel_rfl) (fun _ _ _ h => h) (Or.inl ⟨by rfl, ?hy⟩) hS0 ?_
          case hy => (intro w hSw; (try dsimp only at hSw); go_simp <;> with_reducible rfl)
          (try simp only [Act.put, List.setIfInBounds_toArray, List.set_cons_zero, List.set_cons_succ])
          refine lateT_take (i := 2) (oi := _) (v := ?_) [12] rfl (by kernel_rfl) (by kernel_rfl) (by kernel_rfl) (by kernel_rfl) (fun _ _ _ h => h) (Or.inl ⟨by rfl, ?hy⟩) hS0 ?_
          case hy => (intro w hSw; (try dsimp only at hSw); go_simp <;> with_reducible rfl)
          (try simp only [Act.put, List.setIfInBounds_toArray, List.set_cons_zero, List.set_cons_succ])
          refine lateT_take (i := 3) (oi := _) (v := ?_) [12] rfl (by kernel_rfl) (by kernel_rfl) (by kernel_rfl) (by kernel_rfl) (fun _ _ _ h => h) (Or.inl ⟨by rfl, ?hy⟩) hS0 ?_
          case hy => (intro w hSw; (try dsimp only at hSw); go_simp <;> with_reducible rfl)
          (try simp only [Act.put, List.setIfInBounds_toArray, List.set_cons_zero, List.set_cons_succ])
          refine lateT_take (i := 4) (oi := _) (v := ?_) [12] rfl (by kernel_rfl) (by kernel_rfl) (by kernel_rfl) (by kernel_rfl) (fun _ _ _ h => h) (Or.inl ⟨by rfl, ?hy⟩) hS0 ?_
          case hy => (intro w hSw; (try dsimp only at hSw); go_simp <;> with_reducible rfl)
          (try simp only [Act.put, List.setIfInBounds_toArray, List.set_cons_zero, List.set_cons_succ])
          refine lateT_take (i := 5) (oi := _) (v := ?_) [12] rfl (by kernel_rfl) (by kernel_rfl) (by kernel_rfl) (by kernel_rfl) (fun _ _ _ h => h) (Or.inl ⟨by rfl, ?hy⟩) hS0 ?_
          case hy => (intro w hSw; (try dsimp only at hSw); go_simp <;> with_reducible rfl)
          (try simp only [Act.put, List.setIfInBounds_toArray, List.set_cons_zero, List.set_cons_succ])
          refine lateT_take (i := 6) (oi := _) (v := ?_) [12] rfl (by kernel_rfl) (by kernel_rfl) (by kernel_rfl) (by kernel_rfl) (fun _ _ _ h => h) (Or.inl ⟨by rfl, ?hy⟩) hS0 ?_
          case hy => (intro w hSw; (try dsimp only at hSw); go_simp <;> with_reducible rfl)
          (try simp only [Act.put, List.setIfInBounds_toArray, List.set_cons_zero, List.set_cons_succ])
          refine lateT_step (i := 7) (by kernel_rfl) rfl (fun K hK => ?_)
          go_simp
          rw [← show wE = _ from hwE.out]
          refine hK.out _ _ (fun _ => hSS.out wE honE.out) ?_
          clear hK K
          (try simp only [Act.put, List.setIfInBounds_toArray, List.set_cons_zero, List.set_cons_succ])
          refine lateT_step (i := 8) (by kernel_rfl) rfl (fun K hK => ?_)
          go_simp
          go_at_call 86
          (with_reducible refine qA.out.mono ?_)
          rintro e w7 ⟨y, rfl, hy, hT7⟩
          obtain ⟨hy0, hy1⟩ : 0 ≤ y ∧ y ≤ 1 := by simp at hy; omega
          have hon7 := hide (honE.out.trans' hT7.only)
          have hc7 := hSS.out w7 hon7.out
          have hS7 := hide hT7.src
          have hO7 := hide (hOE.out.keep (w' := w7) fun g e => hT7.only.block g (hOE.out.lt g e).2 (by have := (hOE.out.lt g e).1; omega))
          have hsz7 : wE.heap.size ≤ w7.heap.size := by have := hT7.size; omega
          replace hT7 := hide hT7
          (try go_wp2_with fail)
          refine hK.out _ _ (fun _ => hc7) ?_
          clear hK K
          (try simp only [Act.put, List.setIfInBounds_toArray, List.set_cons_zero, List.set_cons_succ])
          have hlit := hide (Sl.lit1' (f := iv) w7 2 (IntKind.i64.wrap (2 * pk + y)) #[.int .i64 (IntKind.i64.wrap (2 * pk + y))] rfl 1 _ rfl)
          have hO8 := hide (hO7.out.alloc (.cells #[.int .i64 (IntKind.i64.wrap (2 * pk + y))] 2))
          have hon8 := hide (hon7.out.alloc' (.cells #[.int .i64 (IntKind.i64.wrap (2 * pk + y))] 2))
          have hS8 := hide (hS7.out.alloc (.cells #[.int .i64 (IntKind.i64.wrap (2 * pk + y))] 2))
          have hc8 := hSS.out _ hon8.out
          have hza : w4.heap.size ≤ (w7.alloc (.cells #[.int .i64 (IntKind.i64.wrap (2 * pk + y))] 2)).heap.size := by rw [World.size_alloc]; omega
          have hsz : (k + 1) * 8 ≤ 140737488355328 := by omega
          have hrow := hide (fun q (e : (Value.slice A5 k c5).ownBlock = some q) => (hO8.out.lt q e).1)
          refine lateT_step (i := 9) (by kernel_rfl) rfl (fun K hK => ?_)
          go_simp
          refine hK.out _ _ (fun _ => hc7) ?_
          clear hK K
          (try simp only [Act.put, List.setIfInBounds_toArray, List.set_cons_zero, List.set_cons_succ])
          refine lateT_step (i := 10) (by kernel_rfl) rfl (fun K hK => ?_)
          go_simp
          refine hK.out _ _ (fun _ => hc8) ?_
          clear hK K
          (try simp only [Act.put, List.setIfInBounds_toArray, List.set_cons_zero, List.set_cons_succ])
          refine lateT_step (i := 11) (by kernel_rfl) rfl (fun K hK => ?_)
          refine step_appL (m := 1) (d := 1) (by rfl) (.tmp 38) (.tmp 48) (by rfl) hE.out flat_iv (by go_simp) hO8.out (by go_simp) hlit.out hsz hza ?_
          intro A6 c6 w6 hown6 hgr6 hb6 hat6
          have hon6 := hide (hon8.out.grow hgr6 fun q e => hrow.out q e)
          have hc6 := hSS.out w6 hon6.out
          refine hK.out _ _ (fun _ => hc6) ?_
          clear hK K
          (try simp only [Act.put, List.setIfInBounds_toArray, List.set_cons_zero, List.set_cons_succ])
          refine lateT_step (i := 12) (by kernel_rfl) rfl (fun K hK => ?_)
          go_simp
          refine hK.out _ _ (fun h => absurd rfl h) ?_
          clear hK K
          (try simp only [Act.put, List.setIfInBounds_toArray, List.set_cons_zero, List.set_cons_succ])
          refine lateT_done (by kernel_rfl) ?_ _
          have hT6 : Hid (Own 1 iv w6 w4.heap.size 2 A6 (k + 1) c6 (T ++ [IntKind.i64.wrap (2 * pk + y)])) := hown6
          have hS6 := hide (hS8.out.grow hgr6 fun q e => by have := hrow.out q e; omega)
          go_wp2_with fail
          go_roundw
          case rel => exact ⟨k + 1, c6, A6, _, by omega, by go_num, rfl, hT6.out, hS6.out.more (by omega), hon6.out⟩
          case measure => simp [intOf]; omega
        · obtain rfl : k = N := by omega
          obtain ⟨N, rfl⟩ : ∃ N, N = k := ⟨_, rfl⟩
          obtain ⟨wK, rfl⟩ : ∃ wK : World, wK = wr := ⟨_, rfl⟩
          have hTl : T.length = N := hO.out.len
          have hTs := hide ((hO.out.sl flat_iv).more (Nat.zero_le _) (Nat.le_refl _))
          have hbK := hide (hB.out.bel.trans ((Only.below hb14.out hon.out hb1' (by omega)).mono (Nat.le_of_lt hzw)))
          have hzK := hbK.out.size
          obtain ⟨AT, rfl⟩ : ∃ AT, AT = A5 := ⟨_, rfl⟩
          obtain ⟨cT, rfl⟩ : ∃ cT, cT = c5 := ⟨_, rfl⟩
          obtain ⟨w9, hw9⟩ : ∃ w9, w9 = (wK.alloc (.cells #[] 2)).alloc (.cells #[] 2) := ⟨_, rfl⟩
          have hP9 : Hid (Own 1 iv w9 wK.heap.size 2 (some ⟨wK.heap.size, 0, none⟩) 0 0 []) := by show Own _ _ _ _ _ _ _ _ _; rw [hw9]; exact (Own.made wK _ (Nat.le_refl _)).alloc _
          have hQ9 : Hid (Own 1 iv w9 wK.heap.size 2 (some ⟨wK.heap.size + 1, 0, none⟩) 0 0 []) := by
            show Own _ _ _ _ _ _ _ _ _
            have := Own.made (f := iv) (size := 1) (wK.alloc (.cells #[] 2)) (base := wK.heap.size) 2 (by rw [World.size_alloc]; omega)
            rw [World.size_alloc] at this
            rw [hw9]; exact this
          have hb9 : Hid (Below wK.heap.size wK w9) := by show Below _ _ _; rw [hw9]; exact ((Below.refl _ _).alloc (Nat.le_refl _) _).alloc (by rw [World.size_alloc]; omega) _
          have hne9 : Hid (∀ g, (Value.slice (some ⟨wK.heap.size, 0, none⟩) 0 0).ownBlock = some g → (Value.slice (some ⟨wK.heap.size + 1, 0, none⟩) 0 0).ownBlock ≠ some g) := fun g e e2 => by
            have e3 : (some wK.heap.size : Option Nat) = some g := e
            have e4 : (some (wK.heap.size + 1) : Option Nat) = some g := e2
            injection e3 with e3
            injection e4 with e4
            omega
          clear hO hS hon honP hbx
          go_upto_region 16 with fail
          clear b0
          rw [← show w9 = _ from hw9]
          replace hw9 := hide hw9
          go_wp2_with fail
          go_loopw [10, 13, 14] (fun v10 v13 v14 wr => ∃ (k m2 c2 c3 : Nat) (A2 A3 : Option Addr), k ≤ N ∧ m2 ≤ k ∧ v14 = .int .i64 (k : Nat) ∧ v10 = .slice A3 k c3 ∧ v13 = .slice A2 m2 c2 ∧ Hid (Own 1 iv wr wK.heap.size 2 A3 k c3 ((normF T).take k)) ∧ Hid (Own 1 iv wr wK.heap.size 2 A2 m2 c2 (firsts [] (T.take k))) ∧ Hid (∀ g, (Value.slice A3 k c3).ownBlock = some g → (Value.slice A2 m2 c2).ownBlock ≠ some g) ∧ Hid (Below wK.heap.size wK wr)) (fun _ _ v _ => N - (intOf v).toNat)
          case atStart => exact ⟨0, 0, 0, 0, _, _, Nat.zero_le _, Nat.le_refl _, rfl, rfl, rfl, hP9.out, hQ9.out, hne9.out, hb9.out⟩
          case round =>
            clear hP9 hQ9 hne9 hb9
            obtain ⟨k, m2, c2, c3, A2, A3, hk, hm2, rfl, rfl, rfl, hP, hF, hne, hb⟩ := hrel
            by_cases hlt : k < N
            · have k0 : (0 : Int) ≤ (k : Int) := by omega
              have k1 : (k : Int) < (N : Int) := by omega
              obtain ⟨gT, oT, x, rfl, -, -, hgT, hx, cx, -⟩ := SlI.get hTs.out hlt
              have cx2 := (hb.out.cell (p := ⟨gT, oT + k, none⟩) hgT).trans cx
              have qP := hide (l11Place_calls x A2 m2 c2 _ wr _ _ (hF.out.sl flat_iv) (by omega))
              replace hx := hide hx
              have hzr := hb.out.size
              go_upto_region 19 with fail
              go_wp2_with fail
              refine qP.out.mono ?_
              rintro e w7 ⟨i, rfl, hf, rfl⟩
              have hFl := hF.out.len
              have hst := norm_step hx.out hf
              replace hf := hide hf
              rcases hst with ⟨rfl, hf1, hv⟩ | ⟨hi0, hf1, hv⟩
              · have hfe := hide hf1
                rw [hFl] at hv
                have hta : Hid ((normF T).take (k + 1) = (normF T).take k ++ [(m2 : Int)]) := by
                  show _ = _
                  rw [List.take_add_one, hv]; rfl
                replace hv := hide hv
                replace hFl := hide hFl
                clear hf1 qP
                have hlitX := hide (Sl.lit1' (f := iv) wr 2 x #[.int .i64 x] rfl 1 _ rfl)
                have hOx := hide (hF.out.alloc (.cells #[.int .i64 x] 2))
                have hPx := hide (hP.out.alloc (.cells #[.int .i64 x] 2))
                have hbX := hide (hb.out.alloc hzr (.cells #[.int .i64 x] 2))
                have hza : wK.heap.size ≤ (wr.alloc (.cells #[.int .i64 x] 2)).heap.size := by rw [World.size_alloc]; omega
                have hneX := hide (fun g (e : (Value.slice A3 k c3).ownBlock = some g) => (hP.out.lt g e).2)
                go_upto_region 22 with fail
                go_upto_region 23 with (first | (at_builtin; (with_reducible refine wpList_app rfl (.tmp 68) (.tmp 73) rfl hE.out flat_iv rfl hOx.out rfl hlitX.out ?c1 hza ?_); rotate_right; intro A6 c6 w6 hown6 hgr6 hb6 hat6))
                case c1 => omega
                rw [← hfe.out] at hown6
                have hP6 := hide (hPx.out.kept hgr6 (by
                  cases e : (Value.slice A3 k c3).ownBlock with
                  | none => exact .inl rfl
                  | some g => exact .inr fun e2 => hne.out g e (e2 ▸ rfl)))
                have hne6 : Hid (∀ g, (Value.slice A3 k c3).ownBlock = some g → (Value.slice A6 (m2 + 1) c6).ownBlock ≠ some g) := fun g e e2 => by
                  rcases hat6 with h1 | h1
                  · exact hne.out g e (by rw [← h1]; exact e2)
                  · rw [h1] at e2
                    injection e2 with e2
                    have := hneX.out g e
                    rw [World.size_alloc] at e2
                    omega
                have hb66 := hide (hbX.out.trans (hb6.mono (by omega)))
                have hF6 := hide hown6
                have hz6 := hb66.out.size
                clear hOx hPx hlitX hP hF
                have hOa := hide (hP6.out.alloc (.cells #[.int .i64 (m2 : Int)] 2))
                have hFa := hide (hF6.out.alloc (.cells #[.int .i64 (m2 : Int)] 2))
                have hlitM := hide (Sl.lit1' (f := iv) w6 2 (m2 : Int) #[.int .i64 (m2 : Int)] rfl 1 _ rfl)
                have hzb : wK.heap.size ≤ (w6.alloc (.cells #[.int .i64 (m2 : Int)] 2)).heap.size := by rw [World.size_alloc]; omega
                go_wp2_with (first | (at_builtin; (with_reducible refine wpList_app rfl (.tmp 75) (.tmp 77) rfl hE.out flat_iv rfl hOa.out rfl hlitM.out ?c1 hzb ?_); rotate_right; intro A9 c9 w10 hown9 hgr9 hb10 hat9))
                case c1 => omega
                rw [← hta.out] at hown9
                have hFb := hide (hFa.out.kept hgr9 (by
                  cases e : (Value.slice A6 (m2 + 1) c6).ownBlock with
                  | none => exact .inl rfl
                  | some g => exact .inr fun e2 => hne6.out g e2.symm e))
                have hneF : Hid (∀ g, (Value.slice A9 (k + 1) c9).ownBlock = some g → (Value.slice A6 (m2 + 1) c6).ownBlock ≠ some g) := fun g e e2 => by
                  rcases hat9 with h1 | h1
                  · exact hne6.out g (by rw [← h1]; exact e) e2
                  · rw [h1] at e
                    injection e with e
                    have := (hF6.out.lt g e2).2
                    rw [World.size_alloc] at e
                    omega
                have hbF := hide ((hb66.out.alloc hz6 _).trans hb10)
                go_wp2_with fail
                go_roundw
                case rel => exact ⟨k + 1, m2 + 1, c6, c9, A6, A9, by omega, by omega, by go_num, rfl, rfl, hown9, hFb.out, hneF.out, hbF.out⟩
                case measure => simp [intOf]; omega
              · have hfe := hide hf1
                have hta : Hid ((normF T).take (k + 1) = (normF T).take k ++ [i]) := by
                  show _ = _
                  rw [List.take_add_one, hv]; rfl
                replace hv := hide hv
                replace hFl := hide hFl
                clear hf1 qP
                have i0 : ¬ i < 0 := by omega
                rw [← hfe.out] at hF
                have hOa := hide (hP.out.alloc (.cells #[.int .i64 i] 2))
                have hFa := hide (hF.out.alloc (.cells #[.int .i64 i] 2))
                have hlitM := hide (Sl.lit1' (f := iv) wr 2 i #[.int .i64 i] rfl 1 _ rfl)
                have hzb : wK.heap.size ≤ (wr.alloc (.cells #[.int .i64 i] 2)).heap.size := by rw [World.size_alloc]; omega
                have hbX := hide (hb.out.alloc hzr (.cells #[.int .i64 i] 2))
                go_upto_region 23 with fail
                go_wp2_with (first | (at_builtin; (with_reducible refine wpList_app rfl (.tmp 75) (.tmp 77) rfl hE.out flat_iv rfl hOa.out rfl hlitM.out ?c1 hzb ?_); rotate_right; intro A9 c9 w10 hown9 hgr9 hb10 hat9))
                case c1 => omega
                rw [← hta.out] at hown9
                have hFb := hide (hFa.out.kept hgr9 (by
                  cases e : (Value.slice A2 m2 c2).ownBlock with
                  | none => exact .inl rfl
                  | some g => exact .inr fun e2 => hne.out g e2.symm e))
                have hneF : Hid (∀ g, (Value.slice A9 (k + 1) c9).ownBlock = some g → (Value.slice A2 m2 c2).ownBlock ≠ some g) := fun g e e2 => by
                  rcases hat9 with h1 | h1
                  · exact hne.out g (by rw [← h1]; exact e) e2
                  · rw [h1] at e
                    injection e with e
                    have := (hF.out.lt g e2).2
                    rw [World.size_alloc] at e
                    omega
                have hbF := hide (hbX.out.trans hb10)
                go_wp2_with fail
                go_roundw
                case rel => exact ⟨k + 1, m2, c2, c9, A2, A9, by omega, by omega, by go_num, rfl, rfl, hown9, hFb.out, hneF.out, hbF.out⟩
                case measure => simp [intOf]; omega
            · obtain rfl : k = N := by omega
              have hPs := hP.out.sl flat_iv
              rw [List.take_of_length_le (by rw [normF_len, hTl]; exact Nat.le_refl _)] at hPs
              have hF := hide (hPs.more (Nat.zero_le _) (Nat.le_refl _))
              have hbF := hide (hbK.out.trans (hb.out.mono hzK))
              have hTh := hide hTl
              have i1 : ¬ (k : Int) < (k : Int) := by omega
              clear hP hPs hTl
              go_wp2_with fail
              go_ret
              exact ⟨A3, ⟨c3, rfl⟩, _, hF.out, by have := normF_part T; rw [hTh.out] at this; exact this, hbF.out⟩
    · have g1 : (x == 1) = false := beq_eq_false_iff_ne.2 x1
      have hQF := hide (hQ4.out.more (Nat.zero_le _) (Nat.le_refl _))
      clear b0
      go_wp2_with fail
      go_ret
      exact ⟨Q, cQ, p, rfl, hQF.out, hpp.out, hbel.out⟩
end Go.Proofs.YtnhomkmfbngmgaaGreatDoor
