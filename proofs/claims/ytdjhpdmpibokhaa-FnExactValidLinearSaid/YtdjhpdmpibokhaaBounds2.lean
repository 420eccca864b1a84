/-
  The code for bounds. Conditions: at most 1048576 bounds.
-/
import Derived.Test.YtdjhpdmpibokhaaBounds
namespace Go.Proofs.Ytdjhpdmpibokhaa
open Go.ChangeShapes Go.WideShapes Go.ChangeAt Go.RowKit
set_option linter.unusedVariables false

def overF : List Int → Int → Bool
  | [], _ => false
  | b :: r, m => if 4096 < m * (b + 1) then true else overF r (m * (b + 1))
def boundsF (bs : List Int) (L : List (List (Int × Int))) : Int :=
  if dataOk bs = false ∨ (L.any fun l => l.any (uncov bs.length)) = true then 2 else if overF bs 1 = true then 5 else 0

theorem over_hit {bs : List Int} {k : Nat} {b m : Int} (hb : bs[k]? = some b) (h : 4096 < m * (b + 1)) : overF (bs.drop k) m = true := by
  obtain ⟨hk, rfl⟩ := List.getElem?_eq_some_iff.1 hb
  rw [List.drop_eq_getElem_cons hk]
  simp [overF, h]
theorem over_step {bs : List Int} {k : Nat} {b m : Int} (hb : bs[k]? = some b) (h : ¬ 4096 < m * (b + 1)) : overF (bs.drop k) m = overF (bs.drop (k + 1)) (m * (b + 1)) := by
  obtain ⟨hk, rfl⟩ := List.getElem?_eq_some_iff.1 hb
  rw [List.drop_eq_getElem_cons hk]
  simp [overF, h]
theorem mul_bd2 {m b : Int} (h1 : 1 ≤ m) (h2 : m ≤ 4096) (h3 : 0 ≤ b) (h4 : b ≤ 63) : 1 ≤ m * (b + 1) ∧ m * (b + 1) ≤ 262144 := by
  constructor
  · have := Int.mul_le_mul h1 (show (1 : Int) ≤ b + 1 by omega) (by omega) (by omega)
    omega
  · have := Int.mul_le_mul h2 (show b + 1 ≤ 64 by omega) (by omega) (by omega)
    omega

theorem boundsCode1_calls (A B : Option Addr) (n c m d : Nat) (l : List (Int × Int)) (b5 : Nat) (W : World) (lo hi : Nat) (h : SlT W lo hi A n l) (hn : n ≤ 1048576) (hm : m ≤ 1048576) (h5 : W.cell? ⟨b5, 0, none⟩ = some (.slice B m d)) :
    Calls Try.prog 106 #[.slice A n c, .pointer (some ⟨b5, 0, none⟩)] W (Says (l.any (uncov m)) W) := by
  have q := hide (covered_calls A n c l m W lo hi h hn)
  clear h
  go_enter Try.func106, Try.ntmps106
  go_wp2_with fail
  refine q.out.mono ?_
  rintro e w1 ⟨rfl, hb⟩
  go_wp2_with fail
  go_ret
  exact ⟨ret_b (by simp), hb⟩

set_option maxRecDepth 100000 in
theorem boundsCode_calls (B A : Option Addr) (m d n c : Nat) (bs : List Int) (R : List ((Option Addr × Nat × Nat) × List (Int × Int))) (w : World) (lo hi lo' hi' : Nat) (g : SlI w lo' hi' B m bs) (h : SlTT w lo hi A n R) (hn : n ≤ 1048576) (hm : m ≤ 1048576) :
    Calls Try.prog 77 #[.slice B m d, .slice A n c] w fun e w' => e = .returned (.int .i64 (boundsF bs (R.map (·.2)))) ∧ Below w.heap.size w w' := by
  have hbl := g.len
  have hb0 : Below w.heap.size w (w.alloc (.cells #[.slice B m d] 44)) := (Below.refl _ _).alloc (Nat.le_refl _) _
  have x5 : (w.alloc (.cells #[.slice B m d] 44)).cell? ⟨w.heap.size, 0, none⟩ = some (.slice B m d) := (cell_of_row _ _ 0 _ _ (0, 0) (heap_alloc_new w _)).trans rfl
  have hz0 : w.heap.size + 1 ≤ (w.alloc (.cells #[.slice B m d] 44)).heap.size := by simp
  have q1 := areValues_calls B m d bs _ _ _ (g.below hb0 (.inr (Nat.le_refl _))) hm
  have q2 := fun W (hW : Below (w.alloc (.cells #[.slice B m d] 44)).heap.size (w.alloc (.cells #[.slice B m d] 44)) W) => containsFuncTT_calls 106 #[.pointer (some ⟨w.heap.size, 0, none⟩)] (fun l => l.any (uncov m)) A n c R W _ _ ((h.below hb0 (.inr (Nat.le_refl _))).below hW (.inr (Nat.le_refl _))) hn (fun _ _ => by kernel_rfl) (fun A' n' c' l W' hW' hl hn' => boundsCode1_calls A' B n' c' m d l w.heap.size W' lo hi hl hn' hm ((old_cell hW' (by have := hW.size; omega)).trans ((old_cell hW (by omega)).trans x5)))
  by_cases c1 : dataOk bs = true
  · rw [c1] at q1
    replace q1 := hide q1
    have hbb := hide (dataOk_bd c1)
    by_cases c2 : ((R.map (·.2)).any fun l => l.any (uncov m)) = true
    · simp only [c2] at q2
      replace q2 := hide q2
      have hs : Hid (boundsF bs (R.map (·.2)) = 2) := if_pos (.inr (by rw [hbl]; exact c2))
      replace x5 := hide x5
      clear c1 c2 g h hbl
      have x5' := x5.out
      go_enter Try.func77, Try.ntmps77
      go_wp2_with fail
      refine q1.out.mono ?_
      rintro e w1 ⟨rfl, hb1⟩
      go_wp2_with fail
      refine (q2.out _ hb1).mono ?_
      rintro e w2 ⟨rfl, hb2⟩
      go_wp2_with fail
      go_ret
      exact ⟨ret_i hs.out, hb0.trans ((hb1.mono hb0.size).trans (hb2.mono (by have := hb0.size; have := hb1.size; omega)))⟩
    · replace c2 := Bool.eq_false_iff.2 c2
      simp only [c2] at q2
      replace q2 := hide q2
      have hs : Hid (boundsF bs (R.map (·.2)) = if overF bs 1 = true then 5 else 0) := if_neg (by rw [hbl, c1]; simp only [c2]; simp)
      replace hbl := hide hbl
      clear c1 c2 h
      go_enter Try.func77, Try.ntmps77
      go_wp2_with fail
      refine q1.out.mono ?_
      rintro e w1 ⟨rfl, hb1⟩
      have y5 := (old_cell hb1 (by omega)).trans x5
      go_wp2_with fail
      refine (q2.out _ hb1).mono ?_
      rintro e w2 ⟨rfl, hb2⟩
      have z5 := (old_cell hb2 (by have := hb1.size; omega)).trans y5
      have hbw := hb0.trans ((hb1.mono hb0.size).trans (hb2.mono (by have := hb0.size; have := hb1.size; omega)))
      have g2 := g.below hbw (.inr (Nat.le_refl _))
      clear g hb1 hb2 x5 y5
      go_wp2_with fail
      go_loop [5, 18] (fun s i => ∃ (k : Nat) (q : Int), k ≤ m ∧ i = .int .i64 k ∧ s = .int .i64 q ∧ 1 ≤ q ∧ q ≤ 4096 ∧ Hid (overF bs 1 = overF (bs.drop k) q)) (fun _ i => m - (intOf i).toNat)
      case atStart => exact ⟨0, 1, Nat.zero_le _, rfl, rfl, by omega, by omega, rfl⟩
      case round =>
        obtain ⟨k, q, hk, rfl, rfl, hq0, hq1, ho⟩ := hrel
        by_cases hlt : k < m
        · obtain ⟨b, off, x, hA, p1, p2, p3, hx, c0, -⟩ := SlI.get g2 hlt
          subst hA
          have hxb := hbb.out x (List.mem_of_getElem? hx)
          have hm2 := mul_bd2 hq0 hq1 hxb.1 hxb.2
          have hm3 := hm2.1
          have hm4 := hm2.2
          have hx0 := hxb.1
          have hx1 := hxb.2
          by_cases hov : 4096 < q * (x + 1)
          · have hr := hide (hs.out.trans (if_pos (ho.out.trans (over_hit hx hov))))
            clear g2 hx hxb hm2
            go_wp2_with fail
            go_ret
            exact ⟨ret_i hr.out, hbw⟩
          · have hr := hide (ho.out.trans (over_step hx hov))
            have hov' : q * (x + 1) ≤ 4096 := by omega
            clear g2 hx hxb hm2 hov
            go_wp2_with fail
            go_round
            case rel => exact ⟨k + 1, q * (x + 1), by omega, by go_num, rfl, hm3, hov', hr⟩
            case measure => simp [intOf]; omega
        · have hkm : k = m := by omega
          subst hkm
          have hr := hide (hs.out.trans (if_neg (by rw [ho.out, List.drop_eq_nil_of_le (by rw [hbl.out]; exact Nat.le_refl _)]; simp [overF])))
          clear g2
          go_wp2_with fail
          go_ret
          exact ⟨ret_i hr.out, hbw⟩
  · replace c1 := Bool.eq_false_iff.2 c1
    rw [c1] at q1
    replace q1 := hide q1
    have hs : Hid (boundsF bs (R.map (·.2)) = 2) := if_pos (.inl c1)
    clear c1 g h hbl q2
    go_enter Try.func77, Try.ntmps77
    go_wp2_with fail
    refine q1.out.mono ?_
    rintro e w1 ⟨rfl, hb1⟩
    go_wp2_with fail
    go_ret
    exact ⟨ret_i hs.out, hb0.trans (hb1.mono hb0.size)⟩

end Go.Proofs.Ytdjhpdmpibokhaa
