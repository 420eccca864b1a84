/-
  Lists of visible labels, by the reference and by the program. Conditions: sizes.
-/
import Derived.Test.YtiaclddgllkgpaaGreatDoorBaseD
namespace Go.Proofs.YtiaclddgllkgpaaGreatDoor
open Go.ChangeShapes Go.WideShapes Go.ChangeAt Go.RowKit Go.Sort
set_option linter.unusedVariables false

/-- A visible label. -/
def visL (s : ByteArray) : Bool := labS s && !(decide (s = tauB))
def visB (l : List ByteArray) : Bool := l.all visL
theorem visB_bad {l : List ByteArray} {k : Nat} {x : ByteArray} (hx : l[k]? = some x) (h : visL x = false) : visB l = false := by
  unfold visB
  rw [← Bool.not_eq_true, List.all_eq_true]
  intro hc
  have := hc x (List.mem_of_getElem? hx)
  rw [h] at this
  cases this
theorem vis_take_succ {l : List ByteArray} {k : Nat} {x : ByteArray} (h : visB (l.take k) = true) (hx : l[k]? = some x) (hg : visL x = true) : visB (l.take (k + 1)) = true := by
  unfold visB at *
  rw [List.take_add_one, hx, List.all_append, h]
  simp [hg]

set_option maxRecDepth 100000 in
set_option maxHeartbeats 800000 in
theorem l12Visible_calls (A : Option Addr) (n c : Nat) (l : List ByteArray) (w : World) (lo hi : Nat) (h : SlS w lo hi A n l) (hn : n ≤ 1048576) (hs : ∀ s ∈ l, s.size ≤ 1048576) :
    Calls Tryz.prog 75 #[.slice A n c] w fun e w' => e = .returned (.bool (visB l)) ∧ Below w.heap.size w w' := by
  have hlen := hide h.len
  replace h := hide h
  replace hs := hide hs
  go_enter Tryz.func75, Tryz.ntmps75
  go_wp2
  go_loopw [3] (fun i wr => ∃ k : Nat, k ≤ n ∧ i = .int .i64 (k : Nat) ∧ Hid (visB (l.take k) = true) ∧ Below w.heap.size w wr) (fun i _ => n - (intOf i).toNat)
  case atStart => exact ⟨0, Nat.zero_le _, rfl, rfl, Below.refl _ _⟩
  case round =>
    obtain ⟨k, hk, rfl, ha, hb⟩ := hrel
    by_cases hlt : k < n
    · obtain ⟨b, off, x, rfl, -, -, g3, hx, p0, -⟩ := SlS.get h.out hlt
      replace p0 := (hb.cell (p := ⟨b, off + k, none⟩) g3).trans p0
      have g3r : b < wr.heap.size := Nat.lt_of_lt_of_le g3 hb.size
      have q := l01Label_calls x wr (hs.out x (List.mem_of_getElem? hx))
      have hok : visL x = (labS x && !(decide (x = tauB))) := rfl
      replace hb := hide hb
      cases hlab : labS x with
      | false =>
        rw [hlab] at q hok
        have hv : Hid (visB l = false) := visB_bad hx hok
        replace q := hide q
        clear hlab hok ha h hx
        go_wp2_with fail
        refine q.out.mono ?_
        rintro e w1 ⟨rfl, hb1⟩
        replace hb1 := hide hb1
        go_wp2_with fail
        go_ret
        exact ⟨ret_b (by rw [hv.out]), hb.out.trans (hb1.out.mono hb.out.size)⟩
      | true =>
        rw [hlab] at q hok
        replace q := hide q
        by_cases htx : x = tauB
        · have hv : Hid (visB l = false) := visB_bad hx (by rw [hok, decide_eq_true htx]; rfl)
          have htt : x.toList = [116, 97, 117] := by rw [htx, tau_list]
          clear hlab hok ha h hx htx
          go_wp2_with fail
          refine q.out.mono ?_
          rintro e w1 ⟨rfl, hb1⟩
          have v0 := (hb1.cell (p := ⟨b, off + k, none⟩) g3r).trans p0
          replace hb1 := hide hb1
          go_wp2_with fail
          go_ret
          exact ⟨ret_b (by rw [hv.out]), hb.out.trans (hb1.out.mono hb.out.size)⟩
        · have hne := tau_ne htx
          have hne2 : ¬ x.toList = [116, 97, 117] := fun e => by rw [e] at hne; simp at hne
          have hnext : Hid (visB (l.take (k + 1)) = true) := vis_take_succ ha.out hx (by rw [hok, decide_eq_false htx]; rfl)
          clear hlab hok ha h hx htx
          go_wp2_with fail
          refine q.out.mono ?_
          rintro e w1 ⟨rfl, hb1⟩
          have v0 := (hb1.cell (p := ⟨b, off + k, none⟩) g3r).trans p0
          replace hb1 := hide hb1
          go_wp2_with fail
          go_roundw
          case rel => exact ⟨k + 1, by omega, by go_num, hnext, hb.out.trans (hb1.out.mono hb.out.size)⟩
          case measure => simp [intOf]; omega
    · have hkn : k = n := by omega
      subst hkn
      have hv : Hid (visB l = true) := by
        have := ha.out
        rw [List.take_of_length_le (by rw [hlen.out]; exact Nat.le_refl _)] at this
        exact this
      clear ha h
      go_wp2
      go_ret
      exact ⟨ret_b (by rw [hv.out]), hb⟩

set_option maxRecDepth 100000 in
theorem indexFuncS_calls (F : FuncId) (caps : Array Value) (G : ByteArray → Bool) (A : Option Addr) (n c : Nat) (l : List ByteArray) (w : World) (lo hi : Nat) (h : SlS w lo hi A n l) (hn : n ≤ 1048576)
    (hF : ∀ (v : Value) (W : World), Sem.run Tryz.prog (callFunc F (#[v] ++ caps)) W = .ok (.enter F (#[v] ++ caps)) W)
    (hcl : ∀ (v : ByteArray) (W : World), v ∈ l → Below w.heap.size w W → Calls Tryz.prog F (#[.string v] ++ caps) W (Says (G v) W)) :
    Calls Tryz.prog 203 #[.slice A n c, .func (.func F) #[] caps] w fun e w' => ∃ i : Int, e = .returned (.int .i64 i) ∧ decide (0 ≤ i) = l.any G ∧ Below w.heap.size w w' := by
  have hlen := hide h.len
  replace hcl := hide hcl
  go_enter Tryz.func203, Tryz.ntmps203
  go_wp2
  go_loopw [8] (fun i wr => ∃ k : Nat, k ≤ n ∧ i = .int .i64 k ∧ Below w.heap.size w wr ∧ Hid ((l.take k).any G = false)) (fun i _ => n - (intOf i).toNat)
  case atStart => exact ⟨0, Nat.zero_le _, rfl, Below.refl _ _, rfl⟩
  case round =>
    obtain ⟨k, hk, rfl, hb, ha⟩ := hrel
    by_cases hlt : k < n
    · obtain ⟨b, off, x, rfl, g1, g2, g3, hx, c0, -⟩ := SlS.get h hlt
      replace c0 := (hb.cell (p := ⟨b, off + k, none⟩) g3).trans c0
      have hc := hcl.out x wr (List.mem_of_getElem? hx) hb
      replace hx := hide hx
      clear h hcl
      by_cases hg : G x = true
      · rw [hg] at hc
        replace hc := hide hc
        have hy := hide (any_hit hx.out hg)
        clear hg
        go_wp2_with fail
        refine hc.out.mono ?_
        rintro e w1 ⟨rfl, hb1⟩
        go_wp2_with fail
        go_ret
        exact ⟨_, rfl, by rw [hy.out]; simp, hb.trans (hb1.mono hb.size)⟩
      · replace hg := Bool.eq_false_iff.2 hg
        rw [hg] at hc
        replace hc := hide hc
        have hy := hide (any_take_succ ha.out hx.out hg)
        clear hg
        go_wp2_with fail
        refine hc.out.mono ?_
        rintro e w1 ⟨rfl, hb1⟩
        go_wp2_with fail
        go_roundw
        case rel => exact ⟨k + 1, by omega, by go_num, hb.trans (hb1.mono hb.size), hy⟩
        case measure => simp [intOf]; omega
    · have hkn : k = n := by omega
      subst hkn
      clear hcl
      go_wp2
      go_ret
      have hy := ha.out
      rw [List.take_of_length_le (by rw [hlen.out]; exact Nat.le_refl _)] at hy
      exact ⟨_, rfl, by rw [hy]; decide, hb⟩

theorem containsFuncS_calls (F : FuncId) (caps : Array Value) (G : ByteArray → Bool) (A : Option Addr) (n c : Nat) (l : List ByteArray) (w : World) (lo hi : Nat) (h : SlS w lo hi A n l) (hn : n ≤ 1048576)
    (hF : ∀ (v : Value) (W : World), Sem.run Tryz.prog (callFunc F (#[v] ++ caps)) W = .ok (.enter F (#[v] ++ caps)) W)
    (hcl : ∀ (v : ByteArray) (W : World), v ∈ l → Below w.heap.size w W → Calls Tryz.prog F (#[.string v] ++ caps) W (Says (G v) W)) :
    Calls Tryz.prog 161 #[.slice A n c, .func (.func F) #[] caps] w (Says (l.any G) w) := by
  have q := hide (indexFuncS_calls F caps G A n c l w lo hi h hn hF hcl)
  clear h hF hcl
  go_enter Tryz.func161, Tryz.ntmps161
  go_wp2_with fail
  refine q.out.mono ?_
  rintro e w1 ⟨i, rfl, hi, hb⟩
  replace hi := hide hi
  go_wp2_with fail
  go_ret
  exact ⟨ret_b hi.out.symm, hb⟩

theorem str_list_ne {a b : ByteArray} (h : ¬ a = b) : (b.toList == a.toList) = false ∧ ¬ b.toList = a.toList := by
  have h1 := str_neq (a := b) (b := a) (fun e => h e.symm)
  exact ⟨h1, fun e => by rw [e] at h1; simp at h1⟩
set_option maxRecDepth 100000 in
theorem indexS_calls (v : ByteArray) (A : Option Addr) (n c : Nat) (l : List ByteArray) (w : World) (lo hi : Nat) (h : SlS w lo hi A n l) (hn : n ≤ 1048576) :
    Calls Tryz.prog 163 #[.slice A n c, .string v] w fun e w' => ∃ i : Int, e = .returned (.int .i64 i) ∧ decide (0 ≤ i) = l.any (fun x => decide (x = v)) ∧ w = w' := by
  have hlen := hide h.len
  go_enter Tryz.func163, Tryz.ntmps163
  go_wp2
  go_loop [8] (fun i => ∃ k : Nat, k ≤ n ∧ i = .int .i64 k ∧ Hid ((l.take k).any (fun x => decide (x = v)) = false)) (fun i => n - (intOf i).toNat)
  case atStart => exact ⟨0, Nat.zero_le _, rfl, rfl⟩
  case round =>
    obtain ⟨k, hk, rfl, ha⟩ := hrel
    by_cases hlt : k < n
    · obtain ⟨b, off, x, rfl, g1, g2, g3, hx, c0, -⟩ := SlS.get h hlt
      clear h
      by_cases hq : x = v
      · have hy := hide (any_hit (G := fun x => decide (x = v)) hx (decide_eq_true hq))
        subst hq
        have hself : (x.toList == x.toList) = true := beq_self_eq_true _
        clear hx
        go_wp2
        go_ret
        exact ⟨_, rfl, by rw [hy.out]; simp, rfl⟩
      · have hy := hide (any_take_succ ha.out hx (decide_eq_false hq))
        obtain ⟨hne, hne2⟩ := str_list_ne hq
        clear hx hq
        go_wp2
        go_round
        case rel => exact ⟨k + 1, by omega, by go_num, hy⟩
        case measure => simp [intOf]; omega
    · have hkn : k = n := by omega
      subst hkn
      clear h
      go_wp2
      go_ret
      have hy := ha.out
      rw [List.take_of_length_le (by rw [hlen.out]; exact Nat.le_refl _)] at hy
      exact ⟨_, rfl, by rw [hy]; decide, rfl⟩
theorem containsS_calls (v : ByteArray) (A : Option Addr) (n c : Nat) (l : List ByteArray) (w : World) (lo hi : Nat) (h : SlS w lo hi A n l) (hn : n ≤ 1048576) :
    Calls Tryz.prog 127 #[.slice A n c, .string v] w fun e w' => e = .returned (.bool (l.any (fun x => decide (x = v)))) ∧ w = w' := by
  have q := hide (indexS_calls v A n c l w lo hi h hn)
  clear h
  go_enter Tryz.func127, Tryz.ntmps127
  go_wp2_with fail
  refine q.out.mono ?_
  rintro e w1 ⟨i, rfl, hi, rfl⟩
  replace hi := hide hi
  go_wp2_with fail
  go_ret
  exact ⟨ret_b hi.out.symm, rfl⟩

theorem areLabels1_calls (v : ByteArray) (W : World) (hs : v.size ≤ 1048576) (he : Env W) : Calls Tryz.prog 162 (#[.string v] ++ #[]) W (Says (!(labS v)) W) := by
  have q := hide (isLabel_calls v W hs he)
  clear he
  go_enter Tryz.func162, Tryz.ntmps162
  go_wp2_with fail
  refine q.out.mono ?_
  rintro e w1 ⟨rfl, hb⟩
  go_wp2_with fail
  go_ret
  exact ⟨rfl, hb⟩
theorem areLabels_calls (A : Option Addr) (n c : Nat) (l : List ByteArray) (w : World) (lo hi : Nat) (h : SlS w lo hi A n l) (hn : n ≤ 1048576) (hs : ∀ s ∈ l, s.size ≤ 1048576) (he : Env w) :
    Calls Tryz.prog 126 #[.slice A n c] w fun e w' => e = .returned (.bool (!(l.any fun s => !(labS s)))) ∧ Below w.heap.size w w' := by
  have q := hide (containsFuncS_calls 162 #[] (fun s => !(labS s)) A n c l w lo hi h hn (fun v W => by kernel_rfl) (fun v W hv hW => areLabels1_calls v W (hs v hv) (he.below hW (Nat.le_refl _))))
  clear h hs he
  go_enter Tryz.func126, Tryz.ntmps126
  go_wp2_with fail
  refine q.out.mono ?_
  rintro e w1 ⟨rfl, hb⟩
  go_wp2_with fail
  go_ret
  exact ⟨rfl, hb⟩
theorem vis_eq (l : List ByteArray) : visB l = (!(l.any fun s => !(labS s)) && !(l.any fun x => decide (x = tauB))) := by
  unfold visB visL
  induction l with
  | nil => rfl
  | cons a l ih =>
    simp only [List.all_cons, List.any_cons, ih, Bool.not_or, Bool.not_not]
    cases labS a <;> cases decide (a = tauB) <;> simp [Bool.and_comm]
theorem areVisible_calls (A : Option Addr) (n c : Nat) (l : List ByteArray) (w : World) (lo hi : Nat) (h : SlS w lo hi A n l) (hn : n ≤ 1048576) (hs : ∀ s ∈ l, s.size ≤ 1048576) (he : Env w) :
    Calls Tryz.prog 78 #[.slice A n c] w fun e w' => e = .returned (.bool (visB l)) ∧ Below w.heap.size w w' := by
  have qa := areLabels_calls A n c l w lo hi h hn hs he
  have qb := fun W (hW : Below w.heap.size w W) => containsS_calls tauB A n c l W lo hi (h.below hW (.inr (Nat.le_refl _))) hn
  have hval := vis_eq l
  clear h hs he
  cases h1 : (!(l.any fun s => !(labS s))) with
  | false =>
    rw [h1] at qa hval
    have hv : Hid (visB l = false) := hval
    replace qa := hide qa
    clear qb hval h1
    go_enter Tryz.func78, Tryz.ntmps78
    go_wp2_with fail
    refine qa.out.mono ?_
    rintro e w1 ⟨rfl, hb⟩
    go_wp2_with fail
    go_ret
    exact ⟨ret_b (by rw [hv.out]), hb⟩
  | true =>
    rw [h1] at qa hval
    have hv : Hid (visB l = !(l.any fun x => decide (x = tauB))) := hval
    replace qa := hide qa
    replace qb := hide qb
    clear hval h1
    go_enter Tryz.func78, Tryz.ntmps78
    go_wp2_with fail
    refine qa.out.mono ?_
    rintro e w1 ⟨rfl, hb⟩
    go_wp2_with fail
    refine (qb.out _ hb).mono ?_
    rintro e w2 ⟨rfl, rfl⟩
    go_wp2_with fail
    go_ret
    exact ⟨ret_b (by rw [hv.out]), hb⟩

end Go.Proofs.YtiaclddgllkgpaaGreatDoor
