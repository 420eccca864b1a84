/-
  SolutionsOf, the program's side. Conditions: none beyond 1048576 terms and bounds.
-/
import Derived.Test.YtdjhpdmpibokhaaSols
namespace Go.Proofs.Ytdjhpdmpibokhaa
open Go.ChangeShapes Go.WideShapes Go.ChangeAt Go.RowKit
set_option linter.unusedVariables false

def solsF (a : List (Int × Int)) (bs : List Int) (q : Nat) : List (List Int) := iterN (updS a) (fun _ => true) bs (restV (List.replicate q 0) bs) (List.replicate q 0) []
def solutionsOfF (a : List (Int × Int)) (bs : List Int) : List (List Int) × Int :=
  if isTerms a 29 60 = false then ([], 1) else if boundsF bs [a] ≠ 0 then ([], boundsF bs [a]) else (solsF a bs bs.length, 0)

theorem prodR_append (l r : List Int) : prodR (l ++ r) = prodR l * prodR r := by
  induction l with
  | nil => simp [prodR]
  | cons b l ih => simp only [List.cons_append, prodR, ih, Nat.mul_assoc]
theorem prodR_reverse (l : List Int) : prodR l.reverse = prodR l := by
  induction l with
  | nil => rfl
  | cons b l ih => rw [List.reverse_cons, prodR_append, ih, prodR, prodR, prodR, Nat.mul_one, Nat.mul_comm]
theorem over_prod : ∀ (bs : List Int) (m : Int), 0 ≤ m → m ≤ 4096 → (∀ b ∈ bs, 0 ≤ b) → overF bs m = false → m * (prodR bs : Int) ≤ 4096 := by
  intro bs
  induction bs with
  | nil => intro m h0 h1 _ _; simp [prodR]; omega
  | cons b bs ih =>
    intro m h0 h1 hb ho
    simp only [overF] at ho
    split at ho
    · cases ho
    · rename_i hge
      have hb0 := hb b (List.mem_cons_self ..)
      have h2 := ih (m * (b + 1)) (Int.mul_nonneg h0 (by omega)) (by omega) (fun c hc => hb c (List.mem_cons_of_mem _ hc)) ho
      have h3 : (((b + 1).toNat : Nat) : Int) = b + 1 := by omega
      rw [prodR, Int.natCast_mul, h3, ← Int.mul_assoc]
      exact h2
theorem rest_le {bs : List Int} {q : Nat} (hb : ∀ b ∈ bs, 0 ≤ b) (ho : overF bs 1 = false) : restV (List.replicate q 0) bs ≤ 4096 := by
  have h := over_prod bs 1 (by omega) (by omega) hb ho
  unfold restV
  rw [prodR_reverse]
  omega
theorem updS_len (a : List (Int × Int)) (s : List (List Int)) (v : List Int) : (updS a s v).length ≤ s.length + 1 := by
  unfold updS
  split <;> simp
theorem iterS_len (a : List (Int × Int)) (go : List Int → Bool) (bs : List Int) : ∀ (k : Nat) (v : List Int) (s : List (List Int)), (iterN (updS a) go bs k v s).length ≤ s.length + k := by
  intro k
  induction k with
  | zero => intro v s; exact Nat.le_refl _
  | succ k ih =>
    intro v s
    have h := updS_len a s v
    simp only [iterN]
    split
    · split
      · omega
      · have := ih ‹_› (updS a s v); omega
    · omega

theorem assignments_callsVI {σ : Type} (V : Nat) (F : FuncId) (caps : Array Value) (upd : σ → List Int → σ) (go : List Int → Bool) (St : σ → World → Prop) (base : Nat) (s0 : σ) (B : Option Addr) (n d : Nat) (bs : List Int) (w : World) (lo' hi' : Nat)
    (hV : V = w.heap.size) (g : SlI w lo' hi' B n bs) (hhi : hi' ≤ base) (hbase : base ≤ V) (hn : n ≤ 1048576) (hbb : ∀ b ∈ bs, 0 ≤ b ∧ b ≤ 63)
    (hF : ∀ (v : Value) (W : World), Sem.run Try.prog (callFunc F (#[v] ++ caps)) W = .ok (.enter F (#[v] ++ caps)) W)
    (hst0 : ∀ W, Below V w W → St s0 W) (hst : ∀ s W W', Only V (V + 1) W W' → St s W → St s W')
    (Inv : σ → List Int → Prop) (hinv0 : Inv s0 (List.replicate n 0)) (hinv : ∀ s v v', Inv s v → go v = true → nextV v bs = some v' → Inv (upd s v) v')
    (hcl : ∀ (s : σ) (v : List Int) (W : World), Inv s v → Below base w W → St s W → SlI W V (V + 1) (some ⟨V, 0, none⟩) n v → okV v bs → V < W.heap.size → Calls Try.prog F (#[.slice (some ⟨V, 0, none⟩) n n] ++ caps) W (Does upd go St base V n s v W)) :
    Calls Try.prog 78 #[.slice B n d, .func (.func F) #[] caps] w fun e w' => e = .returned (.tuple #[]) ∧ St (iterN upd go bs (restV (List.replicate n 0) bs) (List.replicate n 0) s0) w' ∧ Below base w w' := by
  subst hV
  exact assignments_callsI F caps upd go St base s0 B n d bs w lo' hi' g hhi hbase hn hbb hF hst0 hst Inv hinv0 hinv hcl

set_option maxHeartbeats 1600000 in
set_option maxRecDepth 100000 in
theorem implSolutionsOf_std (w : World) (A : Option Addr) (n : Nat) (a : List (Int × Int)) (lo hi : Nat) (h : SlT w lo hi A n a) (hn : n ≤ 1048576)
    (D : Option Addr) (q : Nat) (bs : List Int) (lo2 hi2 : Nat) (k : SlI w lo2 hi2 D q bs) (hq : q ≤ 1048576) :
    Calls Try.prog 40 #[.slice A n n, .slice D q q] w fun e w' => ∃ A' r c' R, e = .returned (.tuple #[.slice A' r c', .int .i64 (solutionsOfF a bs).2]) ∧ r ≤ 1048576 ∧ preH (R.map (·.1)) r ≤ 549755813888 ∧ R.map (·.2) = (solutionsOfF a bs).1 ∧ NestI w' w.heap.size w'.heap.size A' r R ∧ Below w.heap.size w w' := by
  have hkl := k.len
  have q1 := termsOk_calls A n n a w _ _ h hn
  by_cases c1 : isTerms a 29 60 = true
  · rw [c1] at q1
    replace q1 := hide q1
    have q3 : ∀ W, Below w.heap.size w W → Calls Try.prog 77 #[.slice D q q, .slice (some ⟨W.heap.size, 0, none⟩) 1 1] (W.alloc (.cells #[.slice A n n] 25)) fun e w' => e = .returned (.int .i64 (boundsF bs [a])) ∧ Below (W.alloc (.cells #[.slice A n n] 25)).heap.size (W.alloc (.cells #[.slice A n n] 25)) w' := fun W hW => by
      have hal : Below w.heap.size w (W.alloc (.cells #[.slice A n n] 25)) := hW.alloc hW.size _
      refine boundsCode_calls D _ q q 1 1 bs [((A, n, n), a)] _ 0 (W.alloc (.cells #[.slice A n n] 25)).heap.size _ _ (k.below hal (.inr (Nat.le_refl _))) ⟨?_, ?_⟩ (by omega) hq
      · exact (Sl.litN flat_sv W 25 [(A, n, n)] _ rfl 1 _ rfl rfl 0 (Nat.zero_le _)).more (Nat.le_refl _) (by simp)
      · intro r hr
        rw [List.mem_singleton.1 hr]
        exact ⟨(h.below hal (.inr (Nat.le_refl _))).top.more (Nat.zero_le _) (Nat.le_refl _), hn⟩
    by_cases c3 : boundsF bs [a] = 0
    · obtain ⟨d1, d2, d3⟩ := boundsF_zero c3
      rw [hkl] at d2
      simp only [c3] at q3
      replace q3 := hide q3
      have hs : Hid (solutionsOfF a bs = (solsF a bs q, 0)) := by
        unfold solutionsOfF
        rw [if_neg (by rw [c1]; simp), if_neg (by rw [c3]; simp), hkl]
        exact rfl
      have hta := hide (fun W (hW : Below w.heap.size w W) => tree_calls A n n a W _ _ (h.below hW (.inr (Nat.le_refl _))) (Nat.le_refl _) c1)
      have hoa := hide (okTerm_of c1 (d2 a (by simp)))
      have hbb := hide (dataOk_bd d1)
      have hrest := hide (rest_le (q := q) (fun b hb => (hbb.out b hb).1) d3)
      have hzero : Hid (okV (List.replicate q 0) bs) := by
        have h1 := okV_zero bs (fun x hx => (hbb.out x hx).1)
        rw [hkl] at h1
        exact h1
      replace k := hide k
      replace hkl := hide hkl
      clear c1 c3 d1 d2 d3 h
      go_enter Try.func40, Try.ntmps40
      go_wp2_with fail
      refine q1.out.mono ?_
      rintro e w1 ⟨rfl, hb2⟩
      go_wp2_with fail
      refine (q3.out _ hb2).mono ?_
      rintro e w3 ⟨rfl, hb3⟩
      replace hb3 : Below w.heap.size w w3 := (hb2.alloc hb2.size _).trans (hb3.mono (by have := hb2.size; simp; omega))
      clear hb2
      have hb4 := hb3.alloc hb3.size (.cells #[.slice none 0 0] 54)
      have f1 := heap_alloc_new w3 (.cells #[.slice none 0 0] 54)
      have hz4 : (w3.alloc (.cells #[.slice none 0 0] 54)).heap.size = w3.heap.size + 1 := by simp
      have z3 := hb3.size
      go_wp2_with fail
      generalize w3.alloc (.cells #[.slice none 0 0] 54) = w4 at *
      refine (hta.out _ hb4).mono ?_
      rintro e w5 ⟨px, rfl, htx, hb5⟩
      have z5 := hb5.size
      have f2 := (hb5.block _ (lt_of_block f1)).trans f1
      replace hb4 := hb4.trans (hb5.mono hb4.size)
      replace htx := hide htx
      clear hb5 f1 hb3
      have f3 := heap_alloc_new w5 (.cells #[.pointer (some ⟨px, 0, none⟩)] 81)
      have hal : Below w5.heap.size w5 (w5.alloc (.cells #[.pointer (some ⟨px, 0, none⟩)] 81)) := (Below.refl _ _).alloc (Nat.le_refl _) _
      have hW6 : (w5.alloc (.cells #[.pointer (some ⟨px, 0, none⟩)] 81)).heap.size = w5.heap.size + 1 := by simp
      go_wp2_with fail
      generalize w5.alloc (.cells #[.pointer (some ⟨px, 0, none⟩)] 81) = w6 at *
      have hS6 : SSt a px w3.heap.size w5.heap.size q [] w6 :=
        ⟨htx.out.keep hal.size fun g k1 k2 => ⟨hal.block g k2, k2, by omega⟩, f3, none, 0, [], (hal.block _ (lt_of_block f2)).trans f2, rfl, NestO.nil_ _ _ _, fun r hr => (List.not_mem_nil hr).elim⟩
      have hb6 := hb4.trans (hal.mono hb4.size)
      have hox : w3.heap.size < w5.heap.size := by omega
      have q5 := assignments_callsVI (w5.heap.size + 1) 83 #[.pointer (some ⟨w5.heap.size, 0, none⟩), .pointer (some ⟨w3.heap.size, 0, none⟩)] (updS a) (fun _ => true) (SSt a px w3.heap.size w5.heap.size q) w.heap.size [] D q q bs w6 lo2 w.heap.size hW6.symm (k.out.top.below hb6 (.inr (Nat.le_refl _))) (Nat.le_refl _) (by omega) hq hbb.out (fun _ _ => by kernel_rfl) (fun W hW => hS6.keep hW.size hox (fun g k1 _ => hW.block g (by omega))) (fun s W W' ho h => h.only hox ho) (fun s v => okV v bs ∧ s.length + restV v bs ≤ 4096) ⟨hzero.out, by have := hrest.out; simpa using this⟩ (fun s v v' hi _ hnx => by have h1 := next_ok hi.1 hnx; have h2 := updS_len a s v; exact ⟨h1.1, by have := hi.2; omega⟩) (fun s v W hi hW hS hv hok hgt => solutions1_calls a px w3.heap.size w5.heap.size q w.heap.size s v bs W hS hv hok hbb.out hq hoa.out z3 hox hgt (by have := rest_pos hok; have := hi.2; omega))
      replace q5 := hide q5
      clear f2 f3 hS6 htx
      refine q5.out.mono ?_
      rintro e w7 ⟨rfl, hS7, hb7⟩
      have hbf := hb6.trans hb7
      clear hb6 hb7 hal hW6
      have hfl := iterS_len a (fun _ => true) bs (restV (List.replicate q 0) bs) (List.replicate q 0) []
      change SSt a px w3.heap.size w5.heap.size q (solsF a bs q) w7 at hS7
      change (solsF a bs q).length ≤ _ at hfl
      generalize solsF a bs q = fin at *
      have hfl2 : fin.length ≤ 4096 := by have := hrest.out; simp at hfl; omega
      obtain ⟨_, _, A9, c9, R, e1, e2, e3, e4⟩ := hS7
      have y1 := cell_of_row _ _ 0 _ _ _ e1
      simp at y1
      have hpre : preH (R.map (·.1)) fin.length ≤ 549755813888 := by
        have h1 := preH_le (R.map (·.1)) 1048576 (fun x hx => by
          obtain ⟨r, hr, rfl⟩ := List.mem_map.1 hx
          rw [e4 r hr]
          exact hq) fin.length
        omega
      replace e2 := hide e2
      replace e3 := hide e3
      clear e1 e4
      go_wp2_with fail
      go_ret2
      exact ⟨A9, _, c9, R, by rw [hs.out]; rfl, by omega, hpre, by rw [hs.out]; exact e2.out, e3.out.nest.more (by omega) (Nat.le_refl _), hbf⟩
    · replace q3 := hide q3
      have hs : Hid (solutionsOfF a bs = ([], boundsF bs [a])) := by
        unfold solutionsOfF
        rw [if_neg (by rw [c1]; simp), if_pos c3]
        exact rfl
      have hc : (boundsF bs [a] != 0) = true := by simpa using c3
      generalize boundsF bs [a] = code at *
      clear c1 c3 h k hkl
      go_enter Try.func40, Try.ntmps40
      go_wp2_with fail
      refine q1.out.mono ?_
      rintro e w1 ⟨rfl, hb2⟩
      go_wp2_with fail
      refine (q3.out _ hb2).mono ?_
      rintro e w3 ⟨rfl, hb3⟩
      replace hb3 : Below w.heap.size w w3 := (hb2.alloc hb2.size _).trans (hb3.mono (by have := hb2.size; simp; omega))
      clear hb2
      go_wp2_with fail
      go_ret2
      exact ⟨_, _, _, [], by rw [hs.out]; rfl, by omega, Nat.zero_le _, by rw [hs.out]; rfl, Nest.nil_, hb3⟩
  · replace c1 := Bool.eq_false_iff.2 c1
    rw [c1] at q1
    replace q1 := hide q1
    have hs : Hid (solutionsOfF a bs = ([], 1)) := if_pos c1
    clear c1 h k hkl
    go_enter Try.func40, Try.ntmps40
    go_wp2_with fail
    refine q1.out.mono ?_
    rintro e w1 ⟨rfl, hb1⟩
    go_wp2_with fail
    go_ret2
    exact ⟨_, _, _, [], by rw [hs.out]; rfl, by omega, Nat.zero_le _, by rw [hs.out]; rfl, Nest.nil_, hb1⟩

end Go.Proofs.Ytdjhpdmpibokhaa
