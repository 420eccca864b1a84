/-
  DifferingValues, the program's side. Conditions: none beyond 1048576 terms and bounds.
-/
import Derived.Test.YtdjhpdmpibokhaaDiffer
namespace Go.Proofs.Ytdjhpdmpibokhaa
open Go.ChangeShapes Go.WideShapes Go.ChangeAt Go.RowKit
set_option linter.unusedVariables false

def differingValuesF (a b : List (Int × Int)) (bs : List Int) : List Int × Int :=
  if isTerms a 29 60 = false ∨ isTerms b 29 60 = false then ([], 1) else if boundsF bs [a, b] ≠ 0 then ([], boundsF bs [a, b]) else
  match iterN (updD a b) (goD a b) bs (restV (List.replicate bs.length 0) bs) (List.replicate bs.length 0) none with
  | some v => (v, 0)
  | none => ([], 3)

theorem Sl.litN {α : Type} {size : Nat} {f : α → List Value} (hf : Flat f size) (w : World) (t : TypeId) (xs : List α) (cs : Array Value) (h : xs.flatMap f = cs.toList) (n g : Nat) (hn : xs.length = n) (hg : g = w.heap.size) (lo : Nat) (hlo : lo ≤ g) :
    Sl size f (w.alloc (.cells cs t)) lo (g + 1) (some ⟨g, 0, none⟩) n xs := by
  subst hg
  refine ⟨hn, fun _ => ⟨w.heap.size, 0, rfl, hlo, by omega, by simp, fun k y hy j u hu => ?_⟩⟩
  have h1 := flat_at hf xs k y hy j u hu
  rw [h] at h1
  have hg := heap_alloc_new w (.cells cs t)
  rw [Nat.zero_add]
  exact ⟨(cell_of_row _ _ _ cs t (0, 0) hg).trans (by simpa using h1), frozen_of_row _ _ _ cs t hg⟩

theorem okTerm_of {l : List (Int × Int)} {n : Int} (h : isTerms l 29 60 = true) (hc : l.any (uncov n) = false) : ∀ t ∈ l, okTerm t n = true := by
  intro t ht
  have h1 := isTerms_ok h t ht
  have h2 : uncov n t = false := by
    rw [Bool.eq_false_iff]
    intro h3
    rw [List.any_eq_true.2 ⟨t, ht, h3⟩] at hc
    cases hc
  unfold okTerm at h1 ⊢
  by_cases h0 : t.1 = 0
  · simpa [h0] using h1
  · by_cases h3 : t.1 = 1
    · simp [h3, inB] at h1
      simp [uncov, h3] at h2
      simp [h3, inB]
      omega
    · simpa [h0, h3] using h1

theorem boundsF_zero {bs : List Int} {L : List (List (Int × Int))} (h : boundsF bs L = 0) : dataOk bs = true ∧ (∀ l ∈ L, l.any (uncov bs.length) = false) ∧ overF bs 1 = false := by
  unfold boundsF at h
  split at h
  · omega
  · rename_i h1
    split at h
    · omega
    · rename_i h2
      have h3 : ¬ dataOk bs = false ∧ ¬ ((L.any fun l => l.any (uncov bs.length)) = true) := ⟨fun e => h1 (.inl e), fun e => h1 (.inr e)⟩
      refine ⟨by simpa using h3.1, fun l hl => ?_, by simpa using h2⟩
      rw [Bool.eq_false_iff]
      intro h4
      exact h3.2 (List.any_eq_true.2 ⟨l, hl, h4⟩)

/-- The same, the values' block by another name. -/
theorem assignments_callsV {σ : Type} (V : Nat) (F : FuncId) (caps : Array Value) (upd : σ → List Int → σ) (go : List Int → Bool) (St : σ → World → Prop) (base : Nat) (s0 : σ) (B : Option Addr) (n d : Nat) (bs : List Int) (w : World) (lo' hi' : Nat)
    (hV : V = w.heap.size) (g : SlI w lo' hi' B n bs) (hhi : hi' ≤ base) (hbase : base ≤ V) (hn : n ≤ 1048576) (hbb : ∀ b ∈ bs, 0 ≤ b ∧ b ≤ 63)
    (hF : ∀ (v : Value) (W : World), Sem.run Try.prog (callFunc F (#[v] ++ caps)) W = .ok (.enter F (#[v] ++ caps)) W)
    (hst0 : ∀ W, Below V w W → St s0 W) (hst : ∀ s W W', Only V (V + 1) W W' → St s W → St s W')
    (hcl : ∀ (s : σ) (v : List Int) (W : World), Below base w W → St s W → SlI W V (V + 1) (some ⟨V, 0, none⟩) n v → okV v bs → V < W.heap.size → Calls Try.prog F (#[.slice (some ⟨V, 0, none⟩) n n] ++ caps) W (Does upd go St base V n s v W)) :
    Calls Try.prog 78 #[.slice B n d, .func (.func F) #[] caps] w fun e w' => e = .returned (.tuple #[]) ∧ St (iterN upd go bs (restV (List.replicate n 0) bs) (List.replicate n 0) s0) w' ∧ Below base w w' := by
  subst hV
  exact assignments_calls F caps upd go St base s0 B n d bs w lo' hi' g hhi hbase hn hbb hF hst0 hst hcl

theorem four_boxes (w : World) (a b c d : Obj) : let W := (((w.alloc a).alloc b).alloc c).alloc d
    W.heap[w.heap.size]? = some a ∧ W.heap[w.heap.size + 1]? = some b ∧ W.heap[w.heap.size + 2]? = some c ∧ W.heap[w.heap.size + 3]? = some d := by
  have h1 := heap_alloc_new w a
  have h2 := heap_alloc_new (w.alloc a) b
  have h3 := heap_alloc_new ((w.alloc a).alloc b) c
  have h4 := heap_alloc_new (((w.alloc a).alloc b).alloc c) d
  simp only [World.size_alloc] at h2 h3 h4
  refine ⟨?_, ?_, ?_, h4⟩
  · rw [Below.heap_alloc _ _ _ (by simp only [World.size_alloc]; omega), Below.heap_alloc _ _ _ (by simp only [World.size_alloc]; omega), Below.heap_alloc _ _ _ (by simp only [World.size_alloc]; omega)]
    exact h1
  · rw [Below.heap_alloc _ _ _ (by simp only [World.size_alloc]; omega), Below.heap_alloc _ _ _ (by simp only [World.size_alloc]; omega)]
    exact h2
  · rw [Below.heap_alloc _ _ _ (by simp only [World.size_alloc]; omega)]
    exact h3

set_option maxHeartbeats 1600000 in
set_option maxRecDepth 100000 in
theorem implDifferingValues_std (w : World) (A : Option Addr) (n : Nat) (a : List (Int × Int)) (lo hi : Nat) (h : SlT w lo hi A n a) (hn : n ≤ 1048576) (B : Option Addr) (m : Nat) (b : List (Int × Int)) (lo' hi' : Nat) (g : SlT w lo' hi' B m b) (hm : m ≤ 1048576)
    (D : Option Addr) (q : Nat) (bs : List Int) (lo2 hi2 : Nat) (k : SlI w lo2 hi2 D q bs) (hq : q ≤ 1048576) :
    Calls Try.prog 36 #[.slice A n n, .slice B m m, .slice D q q] w fun e w' => ∃ A' r c', e = .returned (.tuple #[.slice A' r c', .int .i64 (differingValuesF a b bs).2]) ∧ r ≤ 1048576 ∧ SlI w' w.heap.size w'.heap.size A' r (differingValuesF a b bs).1 ∧ Below w.heap.size w w' := by
  have hkl := k.len
  have q1 := termsOk_calls A n n a w _ _ h hn
  have q2 := fun W (hW : Below w.heap.size w W) => termsOk_calls B m m b W _ _ (g.below hW (.inr (Nat.le_refl _))) hm
  by_cases c1 : isTerms a 29 60 = true
  · rw [c1] at q1
    replace q1 := hide q1
    by_cases c2 : isTerms b 29 60 = true
    · simp only [c2] at q2
      replace q2 := hide q2
      have q3 : ∀ W, Below w.heap.size w W → Calls Try.prog 77 #[.slice D q q, .slice (some ⟨W.heap.size, 0, none⟩) 2 2] (W.alloc (.cells #[.slice A n n, .slice B m m] 25)) fun e w' => e = .returned (.int .i64 (boundsF bs [a, b])) ∧ Below (W.alloc (.cells #[.slice A n n, .slice B m m] 25)).heap.size (W.alloc (.cells #[.slice A n n, .slice B m m] 25)) w' := fun W hW => by
        have hal : Below w.heap.size w (W.alloc (.cells #[.slice A n n, .slice B m m] 25)) := hW.alloc hW.size _
        refine boundsCode_calls D _ q q 2 2 bs [((A, n, n), a), ((B, m, m), b)] _ 0 (W.alloc (.cells #[.slice A n n, .slice B m m] 25)).heap.size _ _ (k.below hal (.inr (Nat.le_refl _))) ⟨?_, ?_⟩ (by omega) hq
        · exact (Sl.litN flat_sv W 25 [(A, n, n), (B, m, m)] _ rfl 2 _ rfl rfl 0 (Nat.zero_le _)).more (Nat.le_refl _) (by simp)
        · intro r hr
          rcases List.mem_cons.1 hr with rfl | hr
          · exact ⟨(h.below hal (.inr (Nat.le_refl _))).top.more (Nat.zero_le _) (Nat.le_refl _), hn⟩
          · rw [List.mem_singleton.1 hr]
            exact ⟨(g.below hal (.inr (Nat.le_refl _))).top.more (Nat.zero_le _) (Nat.le_refl _), hm⟩
      by_cases c3 : boundsF bs [a, b] = 0
      · obtain ⟨d1, d2, d3⟩ := boundsF_zero c3
        rw [hkl] at d2
        simp only [c3] at q3
        replace q3 := hide q3
        have hs : Hid (differingValuesF a b bs = match iterN (updD a b) (goD a b) bs (restV (List.replicate q 0) bs) (List.replicate q 0) none with | some v => (v, 0) | none => ([], 3)) := by
          unfold differingValuesF
          rw [if_neg (by rw [c1, c2]; simp), if_neg (by rw [c3]; simp), hkl]
          exact rfl
        have hta := hide (fun W (hW : Below w.heap.size w W) => tree_calls A n n a W _ _ (h.below hW (.inr (Nat.le_refl _))) (Nat.le_refl _) c1)
        have htb := hide (fun W (hW : Below w.heap.size w W) => tree_calls B m m b W _ _ (g.below hW (.inr (Nat.le_refl _))) (Nat.le_refl _) c2)
        have hoa := hide (okTerm_of c1 (d2 a (by simp)))
        have hob := hide (okTerm_of c2 (d2 b (by simp)))
        have hbb := hide (dataOk_bd d1)
        replace k := hide k
        replace hkl := hide hkl
        clear c1 c2 c3 d1 d2 d3 h g
        go_enter Try.func36, Try.ntmps36
        go_wp2_with fail
        refine q1.out.mono ?_
        rintro e w1 ⟨rfl, hb1⟩
        go_wp2_with fail
        refine (q2.out _ hb1).mono ?_
        rintro e w2 ⟨rfl, hb2⟩
        replace hb2 := hb1.trans (hb2.mono hb1.size)
        clear hb1
        go_wp2_with fail
        refine (q3.out _ hb2).mono ?_
        rintro e w3 ⟨rfl, hb3⟩
        replace hb3 : Below w.heap.size w w3 := (hb2.alloc hb2.size _).trans (hb3.mono (by have := hb2.size; simp; omega))
        clear hb2
        go_wp2_with fail
        refine (hta.out _ hb3).mono ?_
        rintro e w4 ⟨px, rfl, htx, hb4⟩
        have z3 := hb3.size
        replace hb3 := hb3.trans (hb4.mono hb3.size)
        go_wp2_with fail
        refine (htb.out _ hb3).mono ?_
        rintro e w5 ⟨py, rfl, hty, hb5⟩
        have z4 := hb4.size
        have z5 := hb5.size
        have htx5 := htx.below hb5 (Nat.le_refl _)
        replace hb3 := hb3.trans (hb5.mono hb3.size)
        clear htx hb4 hb5
        replace htx5 := hide htx5
        replace hty := hide hty
        go_wp2_with fail
        obtain ⟨f1, f2, f3, f4⟩ := four_boxes w5 (.cells #[.pointer (some ⟨px, 0, none⟩)] 81) (.cells #[.pointer (some ⟨py, 0, none⟩)] 81) (.cells #[.slice none 0 0] 44) (.cells #[.int .i64 3] 2)
        have hal : Below w5.heap.size w5 ((((w5.alloc (.cells #[.pointer (some ⟨px, 0, none⟩)] 81)).alloc (.cells #[.pointer (some ⟨py, 0, none⟩)] 81)).alloc (.cells #[.slice none 0 0] 44)).alloc (.cells #[.int .i64 3] 2)) :=
          ((((Below.refl _ _).alloc (Nat.le_refl _) _).alloc (by simp) _).alloc (by simp; omega) _).alloc (by simp; omega) _
        have hW6 : ((((w5.alloc (.cells #[.pointer (some ⟨px, 0, none⟩)] 81)).alloc (.cells #[.pointer (some ⟨py, 0, none⟩)] 81)).alloc (.cells #[.slice none 0 0] 44)).alloc (.cells #[.int .i64 3] 2)).heap.size = w5.heap.size + 4 := by simp
        generalize ((((w5.alloc (.cells #[.pointer (some ⟨px, 0, none⟩)] 81)).alloc (.cells #[.pointer (some ⟨py, 0, none⟩)] 81)).alloc (.cells #[.slice none 0 0] 44)).alloc (.cells #[.int .i64 3] 2)) = w6 at f1 f2 f3 f4 hal hW6 ⊢
        have hS6 : DSt a b px py w5.heap.size q none w6 :=
          ⟨htx5.out.keep hal.size fun g k1 k2 => ⟨hal.block g k2, k2⟩, hty.out.keep hal.size fun g k1 k2 => ⟨hal.block g k2, k2⟩, f1, f2, f3, f4⟩
        have hb6 := hb3.trans (hal.mono hb3.size)
        have z6 := hb3.size
        have q5 := assignments_callsV (w5.heap.size + 4) 79 #[.pointer (some ⟨w5.heap.size, 0, none⟩), .pointer (some ⟨w5.heap.size + 1, 0, none⟩), .pointer (some ⟨w5.heap.size + 1 + 1, 0, none⟩), .pointer (some ⟨w5.heap.size + 1 + 1 + 1, 0, none⟩)] (updD a b) (goD a b) (DSt a b px py w5.heap.size q) w.heap.size none D q q bs w6 lo2 w.heap.size hW6.symm (k.out.top.below hb6 (.inr (Nat.le_refl _))) (Nat.le_refl _) (by omega) hq hbb.out (fun _ _ => by kernel_rfl) (fun W hW => hS6.keep hW.size (fun g k1 _ => hW.block g (by omega))) (fun s W W' ho h => h.only ho) (fun s v W hW hS hv hok hgt => differing1_calls a b px py w5.heap.size q w.heap.size s v bs W hS hv hok hbb.out hq hoa.out hob.out z6 hgt)
        replace q5 := hide q5
        clear f1 f2 f3 f4 hS6 htx5 hty
        refine q5.out.mono ?_
        rintro e w7 ⟨rfl, hS7, hb7⟩
        have hbf := hb6.trans hb7
        clear hb3 hb6 hb7 hal hW6
        generalize iterN (updD a b) (goD a b) bs (restV (List.replicate q 0) bs) (List.replicate q 0) none = fin at hS7 hs
        cases fin with
        | none =>
          obtain ⟨_, _, _, _, e1, e2⟩ := hS7
          have y1 := cell_of_row _ _ 0 _ _ _ e1
          have y2 := cell_of_row _ _ 0 _ _ _ e2
          simp at y1 y2
          clear e1 e2
          go_wp2_with fail
          go_quiet (fail)
          go_wp2_with fail
          go_ret2
          exact ⟨_, _, _, by rw [hs.out]; rfl, by omega, by rw [hs.out]; exact Sl.nil_, ⟨hbf.os, hbf.tape, hbf.output, hbf.size, hbf.block⟩⟩
        | some v =>
          obtain ⟨_, _, _, _, A9, c9, e1, e2, e3⟩ := hS7
          have y1 := cell_of_row _ _ 0 _ _ _ e1
          have y2 := cell_of_row _ _ 0 _ _ _ e2
          simp at y1 y2
          replace e3 := hide e3
          clear e1 e2
          go_wp2_with fail
          go_quiet (fail)
          go_wp2_with fail
          go_ret2
          exact ⟨A9, q, c9, by rw [hs.out]; rfl, hq, by rw [hs.out]; exact (e3.out.more (by omega) (Nat.le_refl _)).drewN _, ⟨hbf.os, hbf.tape, hbf.output, hbf.size, hbf.block⟩⟩
      · replace q3 := hide q3
        have hs : Hid (differingValuesF a b bs = ([], boundsF bs [a, b])) := by
          unfold differingValuesF
          rw [if_neg (by rw [c1, c2]; simp), if_pos c3]
          exact rfl
        have hc : (boundsF bs [a, b] != 0) = true := by simpa using c3
        generalize boundsF bs [a, b] = code at *
        clear c1 c2 c3 h g k hkl
        go_enter Try.func36, Try.ntmps36
        go_wp2_with fail
        refine q1.out.mono ?_
        rintro e w1 ⟨rfl, hb1⟩
        go_wp2_with fail
        refine (q2.out _ hb1).mono ?_
        rintro e w2 ⟨rfl, hb2⟩
        replace hb2 := hb1.trans (hb2.mono hb1.size)
        clear hb1
        go_wp2_with fail
        refine (q3.out _ hb2).mono ?_
        rintro e w3 ⟨rfl, hb3⟩
        replace hb3 : Below w.heap.size w w3 := (hb2.alloc hb2.size _).trans (hb3.mono (by have := hb2.size; simp; omega))
        clear hb2
        go_wp2_with fail
        go_ret2
        exact ⟨_, _, _, by rw [hs.out]; rfl, by omega, by rw [hs.out]; exact Sl.nil_, hb3⟩
    · replace c2 := Bool.eq_false_iff.2 c2
      simp only [c2] at q2
      replace q2 := hide q2
      have hs : Hid (differingValuesF a b bs = ([], 1)) := if_pos (.inr c2)
      clear c1 c2 h g k hkl
      go_enter Try.func36, Try.ntmps36
      go_wp2_with fail
      refine q1.out.mono ?_
      rintro e w1 ⟨rfl, hb1⟩
      go_wp2_with fail
      refine (q2.out _ hb1).mono ?_
      rintro e w2 ⟨rfl, hb2⟩
      replace hb2 := hb1.trans (hb2.mono hb1.size)
      clear hb1
      go_wp2_with fail
      go_ret2
      exact ⟨_, _, _, by rw [hs.out]; rfl, by omega, by rw [hs.out]; exact Sl.nil_, hb2⟩
  · replace c1 := Bool.eq_false_iff.2 c1
    rw [c1] at q1
    replace q1 := hide q1
    have hs : Hid (differingValuesF a b bs = ([], 1)) := if_pos (.inl c1)
    clear c1 h g k hkl q2
    go_enter Try.func36, Try.ntmps36
    go_wp2_with fail
    refine q1.out.mono ?_
    rintro e w1 ⟨rfl, hb1⟩
    go_wp2_with fail
    go_ret2
    exact ⟨_, _, _, by rw [hs.out]; rfl, by omega, by rw [hs.out]; exact Sl.nil_, hb1⟩

end Go.Proofs.Ytdjhpdmpibokhaa
