/-
  The program's way through all lists of values within bounds, at whatever function value. Conditions: at most 1048576 bounds, from 0 to 63.
-/
import Derived.Test.YtdjhpdmpibokhaaOdo
import Derived.Test.YtdjhpdmpibokhaaBoilI
import Derived.Deep.LoopGhost
namespace Go.Proofs.Ytdjhpdmpibokhaa
open Go.ChangeShapes Go.WideShapes Go.ChangeAt Go.RowKit
set_option linter.unusedVariables false

/-- What one call of the function value leaves. -/
def Does {σ : Type} (upd : σ → List Int → σ) (go : List Int → Bool) (St : σ → World → Prop) (base V n : Nat) (s : σ) (v : List Int) (W : World) (e : Ending) (W' : World) : Prop :=
  e = .returned (.bool (go v)) ∧ St (upd s v) W' ∧ SlI W' V (V + 1) (some ⟨V, 0, none⟩) n v ∧ Below base W W'

theorem Only.belowV {V base : Nat} {w a z : World} (h : Below base w a) (g : Only V (V + 1) a z) (h1 : base ≤ V) (h2 : base ≤ a.heap.size) : Below base w z := Only.below h g h1 h2

set_option maxHeartbeats 1600000 in
set_option maxRecDepth 100000 in
theorem assignments_callsI {σ : Type} (F : FuncId) (caps : Array Value) (upd : σ → List Int → σ) (go : List Int → Bool) (St : σ → World → Prop) (base : Nat) (s0 : σ) (B : Option Addr) (n d : Nat) (bs : List Int) (w : World) (lo' hi' : Nat)
    (g : SlI w lo' hi' B n bs) (hhi : hi' ≤ base) (hbase : base ≤ w.heap.size) (hn : n ≤ 1048576) (hbb : ∀ b ∈ bs, 0 ≤ b ∧ b ≤ 63)
    (hF : ∀ (v : Value) (W : World), Sem.run Try.prog (callFunc F (#[v] ++ caps)) W = .ok (.enter F (#[v] ++ caps)) W)
    (hst0 : ∀ W, Below w.heap.size w W → St s0 W) (hst : ∀ s W W', Only w.heap.size (w.heap.size + 1) W W' → St s W → St s W')
    (Inv : σ → List Int → Prop) (hinv0 : Inv s0 (List.replicate n 0)) (hinv : ∀ s v v', Inv s v → go v = true → nextV v bs = some v' → Inv (upd s v) v')
    (hcl : ∀ (s : σ) (v : List Int) (W : World), Inv s v → Below base w W → St s W → SlI W w.heap.size (w.heap.size + 1) (some ⟨w.heap.size, 0, none⟩) n v → okV v bs → w.heap.size < W.heap.size → Calls Try.prog F (#[.slice (some ⟨w.heap.size, 0, none⟩) n n] ++ caps) W (Does upd go St base w.heap.size n s v W)) :
    Calls Try.prog 78 #[.slice B n d, .func (.func F) #[] caps] w fun e w' => e = .returned (.tuple #[]) ∧ St (iterN upd go bs (restV (List.replicate n 0) bs) (List.replicate n 0) s0) w' ∧ Below base w w' := by
  obtain ⟨i0, hi0, hz0, hz1, hz2⟩ := info_parts info_int64
  have hmk : ∀ W, (Instr.makeSlice 44 (.int .i64 (n : Int)) (.int .i64 (n : Int))).run Try.prog W = .ok (.slice (some ⟨W.heap.size, 0, none⟩) n n) (W.alloc (.cells (madeCells #[.int .i64 0] n) 2)) := fun W => by
    have h := make_row (P := Try.prog) 44 2 i0 _ _ n Try.underlying44 hi0 hz0 hz1 (by rw [hz2]; omega) (by omega) W
    rw [Nat.mul_one] at h
    exact h
  clear hi0 hz0 hz1 hz2
  have hbl := g.len
  obtain ⟨fin, hfin⟩ : ∃ fin, fin = iterN upd go bs (restV (List.replicate n 0) bs) (List.replicate n 0) s0 := ⟨_, rfl⟩
  rw [← hfin]
  have hzero : okV (List.replicate n 0) bs := by have := okV_zero bs (fun b hb => (hbb b hb).1); rwa [hbl] at this
  have hb0 : Below w.heap.size w (w.alloc (.cells (madeCells #[.int .i64 0] n) 2)) := (Below.refl _ _).alloc (Nat.le_refl _) _
  have hs0 : SlI (w.alloc (.cells (madeCells #[.int .i64 0] n) 2)) w.heap.size (w.heap.size + 1) (some ⟨w.heap.size, 0, none⟩) n (List.replicate n 0) := by
    refine ⟨by simp, fun h0 => ⟨w.heap.size, 0, rfl, Nat.le_refl _, by omega, by simp, fun k x hx j u hu => ?_⟩⟩
    have hj : j < 1 := (List.getElem?_eq_some_iff.1 hu).1
    obtain ⟨hk, hx2⟩ := List.getElem?_eq_some_iff.1 hx
    rw [List.length_replicate] at hk
    rw [List.getElem_replicate] at hx2
    subst hx2
    have : j = 0 := by omega
    subst this
    simp [iv] at hu
    subst hu
    have hg := heap_alloc_new w (.cells (madeCells #[.int .i64 0] n) 2)
    refine ⟨?_, frozen_of_row _ _ _ _ _ hg⟩
    rw [cell_of_row _ _ _ _ _ (0, 0) hg]
    have hsz : 0 + (k * 1 + 0) < (madeCells #[.int .i64 0] n).size := by rw [size_madeCells]; omega
    rw [Array.getElem?_eq_getElem hsz]
    simp [madeCells, Nat.mod_one]
  have hstart := hst0 _ hb0
  replace hst0 := trivial
  replace hcl := hide hcl
  replace hst := hide hst
  replace hbb := hide hbb
  replace hbl := hide hbl
  replace hfin := hide hfin
  replace hzero := hide hzero
  replace hinv := hide hinv
  replace hinv0 := hide hinv0
  go_enter Try.func78, Try.ntmps78
  go_wp2_with fail
  go_loopg [5] (restV (List.replicate n 0) bs) (fun k x wr => ∃ (v : List Int) (s : σ), Hid (k = restV v bs) ∧ Hid (okV v bs) ∧ SlI wr w.heap.size (w.heap.size + 1) (some ⟨w.heap.size, 0, none⟩) n v ∧ Hid (St s wr) ∧ Below base w wr ∧ w.heap.size < wr.heap.size ∧ Hid (fin = iterN upd go bs k v s) ∧ Hid (Inv s v))
  case atStart => exact ⟨List.replicate n 0, s0, rfl, hzero, hs0, hstart, hb0.mono hbase, by simp, hfin, hinv0⟩
  case round =>
    obtain ⟨v, s, hk, hok, hv, hS, hb, hgt, hf, hI⟩ := hrel
    have hc := hide (hcl.out s v wr hI.out hb hS.out hv hok.out hgt)
    have hpos := rest_pos hok.out
    rw [← hk.out] at hpos
    have hvl := hide hv.len
    clear hcl hmk hs0 hstart hv
    go_wp2_with fail
    refine hc.out.mono ?_
    rintro e w1 ⟨rfl, hS1, hv1, hb1⟩
    have hb2 := hb.trans hb1
    have hgt1 : w.heap.size < w1.heap.size := Nat.lt_of_lt_of_le hgt hb1.size
    replace hS1 := hide hS1
    replace hv1 := hide hv1
    by_cases hgo : go v = true
    · rw [hgo]
      have hgo := hide hgo
      have hna := hide (NextAt.start hvl.out hbl.out)
      have hv1' : SlI w1 w.heap.size (w.heap.size + 1) (some ⟨w.heap.size, 0, none⟩) n (v.take n ++ List.replicate (n - n) 0) := by
        rw [List.take_of_length_le (by rw [hvl.out]; exact Nat.le_refl _), Nat.sub_self]
        simpa using hv1.out
      have gw := hide (g.below hb2 (.inl hhi))
      obtain ⟨wo, rfl⟩ : ∃ wo : World, wo = w1 := ⟨_, rfl⟩
      have hzb := hb2.size
      have hzb2 : base ≤ wo.heap.size := by omega
      clear hb1 hb hS
      go_wp2_with fail
      go_loopw [5] (fun i wr => ∃ j : Nat, j ≤ n ∧ i = .int .i64 ((j : Int) - 1) ∧ SlI wr w.heap.size (w.heap.size + 1) (some ⟨w.heap.size, 0, none⟩) n (v.take j ++ List.replicate (n - j) 0) ∧ Only w.heap.size (w.heap.size + 1) wo wr ∧ Hid (NextAt v bs n j)) (fun i _ => (intOf i + 1).toNat)
      case atStart => exact ⟨n, Nat.le_refl _, rfl, hv1', Only.refl _ _ _, hna⟩
      case round =>
        obtain ⟨j, hj, rfl, hs, ho, hnj⟩ := hrel
        clear hv1' hna hv1
        by_cases hlt : j = 0
        · subst hlt
          have hres := hide (hf.out.trans (iter_last hpos hnj.out.none_))
          have hSo := hide (fun k => hst.out _ _ (wr.drewN k) (ho.drewN k) hS1.out)
          have hbo := Only.belowV hb2 ho hbase (by omega)
          clear hs ho hnj
          have ej : (((0 : Nat) : Int) - 1) = -1 := rfl
          rw [ej]
          have hd : decide ((0 : Int) ≤ -1) = false := rfl
          go_wp2_with fail
          go_quiet (fail)
          go_wp2_with fail
          go_returns
          exact ⟨rfl, by rw [hres.out]; exact hSo.out _, ⟨hbo.os, hbo.tape, hbo.output, hbo.size, hbo.block⟩⟩
        · obtain ⟨j, rfl⟩ : ∃ j', j = j' + 1 := ⟨j - 1, by omega⟩
          have hjv : j < v.length := by rw [hvl.out]; omega
          have hjb : j < bs.length := by rw [hbl.out]; omega
          obtain ⟨x, hx⟩ : ∃ x, v[j]? = some x := ⟨_, List.getElem?_eq_getElem hjv⟩
          obtain ⟨y, hy⟩ : ∃ y, bs[j]? = some y := ⟨_, List.getElem?_eq_getElem hjb⟩
          obtain ⟨b, off, x', hA, g1, g2, g3, hx', c0, z0⟩ := hs.get (k := j) (by omega)
          rw [get_mid hx] at hx'
          injection hx' with hx'
          subst hx'
          cases hA
          rw [Nat.zero_add] at c0 z0
          obtain ⟨b', off', y', rfl, g1', g2', g3', hy', d0, -⟩ := SlI.get (gw.out.only ho (by omega)) (k := j) (by omega)
          rw [hy] at hy'
          injection hy' with hy'
          subst hy'
          have hxy := okV_at hok.out hx hy
          have hx0 := hxy.1
          have hx1 := hxy.2
          have hy1 := (hbb.out y (List.mem_of_getElem? hy)).2
          have ej : (((j + 1 : Nat) : Int) - 1) = (j : Int) := by omega
          rw [ej]
          have hj0 : (0 : Int) ≤ (j : Int) := by omega
          have hj1 : (j : Int) < (n : Int) := by omega
          have hd : decide ((0 : Int) ≤ (j : Int)) = true := by simp
          have hset := hide (fun y => set_mid hvl.out hx y)
          by_cases hlt2 : x = y
          · subst hlt2
            have hnn := hide (hnj.out.down hx hy (by omega) (by omega))
            have hput := hs.put (k := j) (by omega) 0
            rw [hset.out, zero_mid (by omega), Nat.zero_add] at hput
            replace hput := hide hput
            clear hs hx hy hnj hxy ej hjv hjb
            go_wp2_with fail
            go_quiet (fail)
            go_wp2_with fail
            go_roundw
            case rel => exact ⟨j, by omega, by go_num, hput.out.drewN _, (ho.drewN _).setCell g1 g2 _, hnn⟩
            case measure => simp [intOf]
          · have hnn := hnj.out.hit hx hy (by omega)
            obtain ⟨hok2, hre2⟩ := next_ok hok.out hnn
            have hput := hs.put (k := j) (by omega) (x + 1)
            rw [hset.out, Nat.zero_add] at hput
            replace hput := hide hput
            have hq : (x == y) = false := by simpa using hlt2
            obtain ⟨k2, rfl⟩ : ∃ k2, gk = k2 + 1 := ⟨gk - 1, by omega⟩
            have hres := hide (hf.out.trans (iter_next hgo.out hnn))
            have hI2 := hide (hinv.out s v _ hI.out hgo.out hnn)
            have hk2 : Hid (k2 = restV (v.take j ++ (x + 1) :: List.replicate (n - (j + 1)) 0) bs) := hide (by have := hk.out; omega)
            replace hok2 := hide hok2
            clear hs hx hy hnj hxy ej hjv hjb hlt2 hnn hre2
            go_wp2_with fail
            go_quiet (fail)
            go_wp2_with fail
            go_roundg k2
            case measure => omega
            case rel => exact ⟨_, _, hk2, hok2, hput.out.drewN _, hide (hst.out _ _ _ ((ho.drewN _).setCell g1 g2 _) hS1.out), Only.belowV hb2 ((ho.drewN _).setCell g1 g2 _) hbase hzb2, by have := ho.size; simp [World.setCell]; omega, hres, hI2⟩
    · replace hgo := Bool.eq_false_iff.2 hgo
      rw [hgo]
      have hres := hide (hf.out.trans (iter_stop hpos hgo))
      go_wp2_with fail
      go_end0
      exact ⟨rfl, by rw [hres.out]; exact hS1.out, hb2⟩

theorem assignments_calls {σ : Type} (F : FuncId) (caps : Array Value) (upd : σ → List Int → σ) (go : List Int → Bool) (St : σ → World → Prop) (base : Nat) (s0 : σ) (B : Option Addr) (n d : Nat) (bs : List Int) (w : World) (lo' hi' : Nat)
    (g : SlI w lo' hi' B n bs) (hhi : hi' ≤ base) (hbase : base ≤ w.heap.size) (hn : n ≤ 1048576) (hbb : ∀ b ∈ bs, 0 ≤ b ∧ b ≤ 63)
    (hF : ∀ (v : Value) (W : World), Sem.run Try.prog (callFunc F (#[v] ++ caps)) W = .ok (.enter F (#[v] ++ caps)) W)
    (hst0 : ∀ W, Below w.heap.size w W → St s0 W) (hst : ∀ s W W', Only w.heap.size (w.heap.size + 1) W W' → St s W → St s W')
    (hcl : ∀ (s : σ) (v : List Int) (W : World), Below base w W → St s W → SlI W w.heap.size (w.heap.size + 1) (some ⟨w.heap.size, 0, none⟩) n v → okV v bs → w.heap.size < W.heap.size → Calls Try.prog F (#[.slice (some ⟨w.heap.size, 0, none⟩) n n] ++ caps) W (Does upd go St base w.heap.size n s v W)) :
    Calls Try.prog 78 #[.slice B n d, .func (.func F) #[] caps] w fun e w' => e = .returned (.tuple #[]) ∧ St (iterN upd go bs (restV (List.replicate n 0) bs) (List.replicate n 0) s0) w' ∧ Below base w w' :=
  assignments_callsI F caps upd go St base s0 B n d bs w lo' hi' g hhi hbase hn hbb hF hst0 hst (fun _ _ => True) trivial (fun _ _ _ _ _ _ => trivial) (fun s v W _ => hcl s v W)

end Go.Proofs.Ytdjhpdmpibokhaa
