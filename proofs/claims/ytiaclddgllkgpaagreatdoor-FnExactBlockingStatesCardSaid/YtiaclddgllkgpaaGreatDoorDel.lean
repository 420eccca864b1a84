/-
  slices.DeleteFunc on a list of numbers, at a test that answers a bool. Conditions: at most 1048576 elements.
-/
import Derived.Test.YtiaclddgllkgpaaGreatDoorSets
import Derived.Lib.SliceRun
namespace Go.Proofs.YtiaclddgllkgpaaGreatDoor
open Go.ChangeShapes Go.WideShapes Go.ChangeAt Go.RowKit
set_option linter.unusedVariables false

theorem below_cells {B b : Nat} {a : World} (hb : B ≤ b) : ∀ (vs : List Value) (o : Nat) (w : World), Below B a w → Below B a (w.setCells b o vs)
  | [], _, _, h => h
  | v :: r, o, w, h => below_cells hb r (o + 1) _ (h.setCell hb v)
theorem size_cells (b : Nat) : ∀ (vs : List Value) (o : Nat) (w : World), (w.setCells b o vs).heap.size = w.heap.size
  | [], _, _ => rfl
  | v :: r, o, w => (size_cells b r (o + 1) _).trans (World.size_setCell _ _ _)

theorem filter_step {q : Int → Bool} {l : List Int} {k : Nat} {x : Int} (hx : l[k]? = some x) : (l.take (k + 1)).filter q = (l.take k).filter q ++ if q x then [x] else [] := by
  rw [List.take_add_one, hx, List.filter_append]
  cases h : q x <;> simp [h]

/-- The first index that the test holds at, or -1. -/
def firstI (G : Int → Bool) (l : List Int) (i : Int) : Prop := (i = -1 ∧ l.any G = false) ∨ ∃ k : Nat, i = k ∧ k < l.length ∧ (l.take k).any G = false ∧ ∃ x, l[k]? = some x ∧ G x = true

set_option maxRecDepth 100000 in
theorem indexFuncI2_calls (F : FuncId) (caps : Array Value) (G : Int → Bool) (A : Option Addr) (n c : Nat) (l : List Int) (w : World) (lo hi : Nat) (h : SlI w lo hi A n l) (hn : n ≤ 1048576)
    (hF : ∀ (v : Value) (W : World), Sem.run Tryz.prog (callFunc F (#[v] ++ caps)) W = .ok (.enter F (#[v] ++ caps)) W)
    (hcl : ∀ (v : Int) (W : World), v ∈ l → Below w.heap.size w W → Calls Tryz.prog F (#[.int .i64 v] ++ caps) W (Says (G v) W)) :
    Calls Tryz.prog 115 #[.slice A n c, .func (.func F) #[] caps] w fun e w' => ∃ i : Int, e = .returned (.int .i64 i) ∧ firstI G l i ∧ Below w.heap.size w w' := by
  have hlen := hide h.len
  replace hcl := hide hcl
  go_enter Tryz.func115, Tryz.ntmps115
  go_wp2
  go_loopw [8] (fun i wr => ∃ k : Nat, k ≤ n ∧ i = .int .i64 k ∧ Below w.heap.size w wr ∧ Hid ((l.take k).any G = false)) (fun i _ => n - (intOf i).toNat)
  case atStart => exact ⟨0, Nat.zero_le _, rfl, Below.refl _ _, rfl⟩
  case round =>
    obtain ⟨k, hk, rfl, hb, ha⟩ := hrel
    by_cases hlt : k < n
    · obtain ⟨b, off, x, rfl, g1, g2, g3, hx, c0, -⟩ := h.get hlt
      replace c0 := (hb.cell (p := ⟨b, off + k, none⟩) g3).trans c0
      have hc := hcl.out x wr (List.mem_of_getElem? hx) hb
      replace hx := hide hx
      clear h hcl
      by_cases hg : G x = true
      · rw [hg] at hc
        replace hc := hide hc
        have hy : Hid (firstI G l k) := .inr ⟨k, rfl, by rw [hlen.out]; exact hlt, ha.out, x, hx.out, hg⟩
        clear hg
        go_wp2_with fail
        refine hc.out.mono ?_
        rintro e w1 ⟨rfl, hb1⟩
        go_wp2_with fail
        go_ret
        exact ⟨_, rfl, hy.out, hb.trans (hb1.mono hb.size)⟩
      · replace hg := Bool.eq_false_iff.2 hg
        rw [hg] at hc
        replace hc := hide hc
        have hy := hide (any_take_succ ha.out hx.out hg)
        clear hg
        go_wp2_with fail
        refine hc.out.mono ?_
        rintro e w1 ⟨rfl, hb1⟩
        go_wp2_with fail
        go_roundw
        case rel => exact ⟨k + 1, by omega, by go_num, hb.trans (hb1.mono hb.size), hy⟩
        case measure => simp [intOf]; omega
    · have hkn : k = n := by omega
      subst hkn
      clear hcl h
      go_wp2
      go_ret
      have hy := ha.out
      rw [List.take_of_length_le (by rw [hlen.out]; exact Nat.le_refl _)] at hy
      exact ⟨_, rfl, .inl ⟨rfl, hy⟩, hb⟩

/-- Where the loop of DeleteFunc stands: what was kept lies at the front, the rest is as it was. -/
structure DelI (G : Int → Bool) (l M : List Int) (k i : Nat) : Prop where
  len : M.length = l.length
  cnt : i = ((l.take k).filter fun x => !G x).length
  lt : i < k
  kept : M.take i = (l.take k).filter fun x => !G x
  later : ∀ q, k ≤ q → M[q]? = l[q]?
theorem DelI.start {G : Int → Bool} {l : List Int} {k : Nat} {x : Int} (hk : k < l.length) (ha : (l.take k).any G = false) (hx : l[k]? = some x) (hg : G x = true) : DelI G l l (k + 1) k := by
  have h1 : (l.take (k + 1)).filter (fun x => !G x) = l.take k := by
    rw [filter_step hx, hg]
    simp only [Bool.not_true, Bool.false_eq_true, if_false, List.append_nil]
    exact List.filter_eq_self.2 fun y hy => by rw [Bool.not_eq_true']; exact Bool.eq_false_iff.2 fun c => by rw [List.any_eq_false] at ha; exact ha y hy c
  exact ⟨rfl, by rw [h1, List.length_take]; omega, Nat.lt_succ_self _, by rw [h1], fun _ _ => rfl⟩
theorem DelI.skip {G : Int → Bool} {l M : List Int} {k i : Nat} {x : Int} (h : DelI G l M k i) (hx : l[k]? = some x) (hg : G x = true) : DelI G l M (k + 1) i := by
  have h1 : (l.take (k + 1)).filter (fun x => !G x) = (l.take k).filter (fun x => !G x) := by rw [filter_step hx, hg]; simp
  exact ⟨h.len, by rw [h1]; exact h.cnt, by have := h.lt; omega, by rw [h1]; exact h.kept, fun q hq => h.later q (by omega)⟩
theorem DelI.put {G : Int → Bool} {l M : List Int} {k i : Nat} {x : Int} (h : DelI G l M k i) (hx : l[k]? = some x) (hg : G x = false) : DelI G l (M.set i x) (k + 1) (i + 1) := by
  have h1 : (l.take (k + 1)).filter (fun x => !G x) = (l.take k).filter (fun x => !G x) ++ [x] := by rw [filter_step hx, hg]; simp
  have hk : k < l.length := (List.getElem?_eq_some_iff.1 hx).1
  have hil : i < M.length := by rw [h.len]; have := h.lt; omega
  refine ⟨by rw [List.length_set]; exact h.len, by rw [h1, List.length_append, ← h.cnt]; rfl, by have := h.lt; omega, ?_, fun q hq => ?_⟩
  · rw [List.take_add_one, List.getElem?_set_self hil, h1, ← h.kept, List.take_set_of_le (Nat.le_refl _)]
    rfl
  · rw [List.getElem?_set_ne (by have := h.lt; omega)]
    exact h.later q (by omega)

theorem zero_int (w : World) : (zeroValue 2).run Tryz.prog w = .ok (.int .i64 0) w := by
  obtain ⟨i0, hi0, hz0, _⟩ := info_parts info_int64
  simp [zeroValue, typeInfo, hi0, hz0]


set_option maxHeartbeats 1600000 in
set_option maxRecDepth 100000 in
theorem deleteFuncI_calls (F : FuncId) (caps : Array Value) (G : Int → Bool) (A : Option Addr) (n c : Nat) (l : List Int) (w : World) (lo : Nat) (h : SlI w lo w.heap.size A n l) (hc : n ≤ c) (hn : n ≤ 1048576) (hlo : lo ≤ w.heap.size)
    (hF : ∀ (v : Value) (W : World), Sem.run Tryz.prog (callFunc F (#[v] ++ caps)) W = .ok (.enter F (#[v] ++ caps)) W)
    (hcl : ∀ (v : Int) (W : World), v ∈ l → Below lo w W → Calls Tryz.prog F (#[.int .i64 v] ++ caps) W (Says (G v) W)) :
    Calls Tryz.prog 71 #[.slice A n c, .func (.func F) #[] caps] w fun e w' => ∃ m c', e = .returned (.slice A m c') ∧ m ≤ n ∧ m ≤ c' ∧ SlI w' lo w'.heap.size A m (l.filter fun x => !G x) ∧ Below lo w w' := by
  have hlen := hide h.len
  have q := hide (indexFuncI2_calls F caps G A n c l w lo _ h hn hF (fun v W hv hW => hcl v W hv (hW.mono hlo)))
  replace h := hide h
  replace hcl := hide hcl
  go_enter Tryz.func71, Tryz.ntmps71
  go_wp2_with fail
  refine q.out.mono ?_
  rintro e w1 ⟨i, rfl, hfi, hb1⟩
  have hbl := hb1.mono hlo
  have h1 := hide ((h.out.below hb1 (.inr (Nat.le_refl _))).top)
  clear q
  rcases hfi with ⟨rfl, hno⟩ | ⟨k0, rfl, hk0, hno, x0, hx0, hg0⟩
  · have hfl : Hid (l.filter (fun x => !G x) = l) := List.filter_eq_self.2 fun y hy => by rw [Bool.not_eq_true']; exact Bool.eq_false_iff.2 fun c => by rw [List.any_eq_false] at hno; exact hno y hy c
    clear hcl h hno
    go_wp2_with fail
    go_ret
    exact ⟨n, _, rfl, Nat.le_refl _, hc, by rw [hfl.out]; exact h1.out, hbl⟩
  · rw [hlen.out] at hk0
    obtain ⟨b, off, y0, rfl, g1, g2, g3, -⟩ := h.out.get hk0
    have hst := hide (DelI.start (by rw [hlen.out]; exact hk0) hno hx0 hg0)
    have hne : ((k0 : Int) == -1) = false := by rw [beq_eq_false_iff_ne]; omega
    clear hno hx0 hg0 h
    go_wp2_with fail
    go_loopw [5, 6] (fun iv' jv wr => ∃ (k i : Nat) (M : List Int), k ≤ n ∧ jv = .int .i64 k ∧ iv' = .int .i64 i ∧ Hid (DelI G l M k i) ∧ Hid (SlI wr lo wr.heap.size (some ⟨b, off, none⟩) n M) ∧ Hid (Below lo w wr)) (fun _ jv _ => n - (intOf jv).toNat)
    case atStart => exact ⟨k0 + 1, k0, l, by omega, by go_num, rfl, hst, h1, hbl⟩
    case round =>
      obtain ⟨k, i, M, hk, rfl, rfl, hD, hM, hb⟩ := hrel
      clear h1 hst
      have hik := hD.out.lt
      by_cases hlt : k < n
      · obtain ⟨b', o', x, e', -, -, g3', hx, c0, -⟩ := hM.out.get hlt
        cases e'
        rw [hD.out.later k (Nat.le_refl _)] at hx
        have hcx := hcl.out x wr (List.mem_of_getElem? hx) hb.out
        have hzw := hb.out.size
        by_cases hg : G x = true
        · rw [hg] at hcx
          replace hcx := hide hcx
          have hD2 := hide (hD.out.skip hx hg)
          clear hcl hx hg
          go_wp2_with fail
          refine hcx.out.mono ?_
          rintro e w2 ⟨rfl, hb2⟩
          have hM2 := hide ((hM.out.below hb2 (.inr (Nat.le_refl _))).top)
          have hb3 := hide (hb.out.trans (hb2.mono (Nat.le_trans hlo hzw)))
          clear hb2 c0
          go_wp2_with fail
          go_roundw
          case rel => exact ⟨k + 1, i, M, by omega, by go_num, rfl, hD2, hM2, hb3⟩
          case measure => simp [intOf]; omega
        · replace hg := Bool.eq_false_iff.2 hg
          rw [hg] at hcx
          replace hcx := hide hcx
          have hD2 := hide (hD.out.put hx hg)
          clear hcl hx hg
          go_wp2_with fail
          refine hcx.out.mono ?_
          rintro e w2 ⟨rfl, hb2⟩
          have hM2 := (hM.out.below hb2 (.inr (Nat.le_refl _))).top
          have hM3 := hide (SlI.put' hM2 (show i < n by omega) x)
          obtain ⟨b', o', xx, e', -, -, -, -, d0, z0⟩ := SlI.get hM2 (show i < n by omega)
          cases e'
          have hb3 := hide ((hb.out.trans (hb2.mono (Nat.le_trans hlo hzw))).setCell (p := ⟨b, off + i, none⟩) g1 (.int .i64 x))
          clear hb2 c0 hM2
          have i1 : (0 : Int) ≤ (i : Int) := by omega
          have i2 : (i : Int) < (n : Int) := by omega
          go_wp2_with fail
          go_roundw
          case rel => exact ⟨k + 1, i + 1, _, by omega, by go_num, by go_num, hD2, by show SlI _ _ _ _ _ _; rw [World.size_setCell]; exact hM3.out, hb3⟩
          case measure => simp [intOf]; omega
      · have hkn : k = n := by omega
        subst hkn
        clear hcl
        have hkept := hD.out.kept
        have hcnt := hD.out.cnt
        have htk : l.take k = l := List.take_of_length_le (by rw [hlen.out]; exact Nat.le_refl _)
        rw [htk] at hkept hcnt
        have hcut : ∀ W : World, (Instr.slice 26 (.slice (some ⟨b, off, none⟩) k c) (some (.int .i64 (i : Int))) none none).run Tryz.prog W = .ok (.slice (some ⟨b, off + i, none⟩) (k - i) (c - i)) W := fun W => by
          rw [run_cut elem_int64 (some ⟨b, off, none⟩) k c i (by omega) W]
          unfold cutA
          rw [if_neg (by omega), Option.map_some, addr_add, Nat.mul_one]
        have hhead : ∀ W : World, (Instr.slice 26 (.slice (some ⟨b, off, none⟩) k c) none (some (.int .i64 (i : Int))) none).run Tryz.prog W = .ok (.slice (some ⟨b, off, none⟩) i c) W := fun W => run_head elem_int64 (some ⟨b, off, none⟩) k c i (by omega) W
        have hcl : ∀ ty : TypeId, (Builtin.clear_ #[26] ty #[.slice (some ⟨b, off + i, none⟩) (k - i) (c - i)]).run Tryz.prog wr = .ok (.tuple #[]) (wr.setCells b (off + i) (List.replicate (k - i) (.int .i64 0))) := fun ty =>
          Lib.run_clear_slice wr 26 2 ty (.int .i64 0) Tryz.underlying26 zero_int rfl rfl b (off + i) (k - i) (c - i) (by omega) (fun j hj => by
            obtain ⟨b', o', xx, e', -, -, -, -, d0, -⟩ := hM.out.get (show i + j < k by omega)
            cases e'
            rw [show off + i + j = off + (i + j) by omega, d0]; rfl) (fun j hj => by
            obtain ⟨b', o', xx, e', -, -, -, -, -, z0⟩ := hM.out.get (show i + j < k by omega)
            cases e'
            rw [show off + i + j = off + (i + j) by omega]; exact z0)
        have hres : Hid (SlI (wr.setCells b (off + i) (List.replicate (k - i) (.int .i64 0))) lo (wr.setCells b (off + i) (List.replicate (k - i) (.int .i64 0))).heap.size (some ⟨b, off, none⟩) i (l.filter fun x => !G x)) := by
          refine ⟨hcnt.symm, fun hi0 => ?_⟩
          obtain ⟨b', o', e', q1, q2, q3, q4⟩ := hM.out.at_ (show 0 < k by omega)
          cases e'
          refine ⟨b, off, rfl, q1, by rw [size_cells]; exact q3, by rw [size_cells]; exact q3, fun j x hx u v hv => ?_⟩
          rw [← hkept, List.getElem?_take] at hx
          split at hx
          · obtain ⟨r1, r2⟩ := q4 j x hx u v hv
            have hu : u = 0 := by
              have := (List.getElem?_eq_some_iff.1 hv).1
              simp [iv] at this
              exact this
            subst hu
            exact ⟨(World.cell?_setCells_out b _ _ _ _ (fun _ _ => by left; show off + (j * 1 + 0) < off + i; omega)).trans r1, (World.frozen?_setCells b _ _ _ _).trans r2⟩
          · cases hx
        have hbF : Hid (Below lo w (wr.setCells b (off + i) (List.replicate (k - i) (.int .i64 0)))) := below_cells g1 _ _ _ hb.out
        clear hkept hcnt
        go_wp2_with fail
        go_ret
        exact ⟨i, _, rfl, by omega, by omega, hres.out, hbF.out⟩

end Go.Proofs.YtiaclddgllkgpaaGreatDoor
