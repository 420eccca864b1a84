/-
  Several texts in one:
  Edges by a label in deterministic systems: at most one. Conditions: none.
  Lists of visible labels, by the reference and by the program. Conditions: sizes.
  One step of a deterministic system, by the reference. Conditions: sizes.
  Sorting and compacting lists of at most one number; finding a number in a list. Conditions: sizes.
  One step of a deterministic system, by the program. Conditions: sizes.
  The reference's test of plants. Conditions: sizes.
  The reference's test of plants, whole. Conditions: sizes.
  The program's test of plants. Conditions: sizes.
  The program's test of plants, whole. Conditions: sizes.
  The test of plants, by the reference and by the program, over plants as arguments; their opening. Conditions: sizes.
-/
import Derived.Test.YtiaclddgllkgpaaGreatDoorBaseC
import Derived.Test.YtiaclddgllkgpaaGreatDoorBaseD
namespace Go.Proofs.YtiaclddgllkgpaaGreatDoor
open Go.ChangeShapes Go.WideShapes Go.ChangeAt Go.RowKit Go.Sort
set_option linter.unusedVariables false

theorem pair_of_next {α : Type} (R : α → α → Prop) (tr : ∀ a b c, R a b → R b c → R a c) : ∀ (l : List α), (∀ k x y, l[k]? = some x → l[k + 1]? = some y → R x y) → l.Pairwise R
  | [], _ => List.Pairwise.nil
  | [a], _ => by simp
  | a :: b :: l, h => by
    have ih := pair_of_next R tr (b :: l) fun k x y hx hy => h (k + 1) x y (by simpa using hx) (by simpa using hy)
    have hab : R a b := h 0 a b rfl rfl
    refine List.pairwise_cons.2 ⟨fun c hc => ?_, ih⟩
    rcases List.mem_cons.1 hc with rfl | hc
    · exact hab
    · exact tr _ _ _ hab ((List.pairwise_cons.1 ih).1 c hc)
theorem bytesLess_irrefl : ∀ a : List UInt8, Op.bytesLess a a = false
  | [] => rfl
  | x :: a => by
    have : ¬ x < x := by rw [UInt8.lt_iff_toNat_lt]; omega
    simp [Op.bytesLess, this, bytesLess_irrefl a]
theorem bytesLess_trans : ∀ {a b c : List UInt8}, Op.bytesLess a b = true → Op.bytesLess b c = true → Op.bytesLess a c = true
  | [], [], _, h, _ => by simp [Op.bytesLess] at h
  | [], _ :: _, [], _, h => by simp [Op.bytesLess] at h
  | [], _ :: _, _ :: _, _, _ => by simp [Op.bytesLess]
  | _ :: _, [], _, h, _ => by simp [Op.bytesLess] at h
  | _ :: _, _ :: _, [], _, h => by simp [Op.bytesLess] at h
  | x :: a, y :: b, z :: c, h, g => by
    simp only [Op.bytesLess, Bool.or_eq_true, decide_eq_true_eq, Bool.and_eq_true, beq_iff_eq] at h g ⊢
    rw [UInt8.lt_iff_toNat_lt] at h g ⊢
    rcases h with h | ⟨rfl, h⟩
    · rcases g with g | ⟨rfl, g⟩
      · exact .inl (by omega)
      · exact .inl h
    · rcases g with g | ⟨rfl, g⟩
      · exact .inl g
      · exact .inr ⟨rfl, bytesLess_trans h g⟩

/-- The list of labels has none twice. -/
theorem labs_uniq {ls : List ByteArray} (h : namesB ls = true) {i j : Nat} {x : ByteArray} (hi : ls[i]? = some x) (hj : ls[j]? = some x) : i = j := by
  unfold namesB at h
  rw [Bool.and_eq_true] at h
  have hall : ∀ k, k < ls.length → okL ls k = true := fun k hk => allK_get h.2 hk
  have hlt : ∀ {k : Nat} {y : ByteArray}, ls[k]? = some y → k < ls.length := fun hk => (List.getElem?_eq_some_iff.1 hk).1
  have tau : ∀ {k : Nat} {y : ByteArray}, ls[k]? = some y → (y = tauB ↔ k = 0) := by
    intro k y hy
    have hk := hall k (hlt hy)
    by_cases h0 : k = 0
    · subst h0
      rw [okL_zero hy] at hk
      exact ⟨fun _ => rfl, fun _ => by simpa using hk⟩
    · have hr : ls[k - 1]? = some (ls[k - 1]'(by have := hlt hy; omega)) := List.getElem?_eq_getElem _
      rw [okL_at hy (by omega) hr] at hk
      simp only [Bool.and_eq_true, Bool.not_eq_true', decide_eq_false_iff_not] at hk
      exact ⟨fun e => absurd e hk.1.2, fun e => absurd e h0⟩
  have up : ls.tail.Pairwise fun a b => Op.bytesLess a.toList b.toList = true := by
    refine pair_of_next (fun a b : ByteArray => Op.bytesLess a.toList b.toList = true) (fun _ _ _ h g => bytesLess_trans h g) _ fun k a b ha hb => ?_
    rw [List.getElem?_tail] at ha hb
    have hk := hall (k + 2) (hlt hb)
    rw [okL_at hb (by omega) (by simpa using ha)] at hk
    simp only [Bool.and_eq_true, Bool.or_eq_true, decide_eq_true_eq] at hk
    rcases hk.2 with h1 | h1
    · omega
    · exact h1
  have key : ∀ {i j : Nat} {x : ByteArray}, ls[i]? = some x → ls[j]? = some x → 0 < i → i < j → False := by
    intro i j x hi hj h0 hij
    have e1 : ls.tail[i - 1]? = some x := by rw [List.getElem?_tail, show i - 1 + 1 = i by omega]; exact hi
    have e2 : ls.tail[j - 1]? = some x := by rw [List.getElem?_tail, show j - 1 + 1 = j by omega]; exact hj
    obtain ⟨l1, e1⟩ := List.getElem?_eq_some_iff.1 e1
    obtain ⟨l2, e2⟩ := List.getElem?_eq_some_iff.1 e2
    have := List.pairwise_iff_getElem.1 up (i - 1) (j - 1) l1 l2 (by omega)
    rw [e1, e2, bytesLess_irrefl] at this
    cases this
  by_cases h0 : i = 0
  · exact h0.trans ((tau hj).1 ((tau hi).2 h0)).symm
  · have h1 : j ≠ 0 := fun e => h0 ((tau hi).1 ((tau hj).2 e))
    rcases Nat.lt_trichotomy i j with h2 | h2 | h2
    · exact (key hi hj (by omega) h2).elim
    · exact h2
    · exact (key hj hi (by omega) h2).elim

/-- The edge leads from the state by the label. -/
def hitE (ls : List ByteArray) (lab : ByteArray) (s : Int) (e : Ed) : Bool := decide (e.1 = s) && (match ls[e.2.1.toNat]? with | some r => decide (r = lab) | none => false)
def folE (es : List Ed) (ls : List ByteArray) (lab : ByteArray) (s : Int) : List Int := (es.filter (hitE ls lab s)).map (·.2.2)
def goE (es : List Ed) (ls : List ByteArray) (lab : ByteArray) (s : Int) : Int := (folE es ls lab s).headD (-1)
theorem hitE_at {ls : List ByteArray} {lab r : ByteArray} {s f lb tg : Int} (hr : ls[lb.toNat]? = some r) : hitE ls lab s (f, lb, tg) = (decide (f = s) && decide (r = lab)) := by
  unfold hitE
  simp only [hr]
theorem folE_succ {es : List Ed} {k : Nat} {e : Ed} {ls : List ByteArray} {lab : ByteArray} {s : Int} (hx : es[k]? = some e) : folE (es.take (k + 1)) ls lab s = folE (es.take k) ls lab s ++ (if hitE ls lab s e then [e.2.2] else []) := by
  unfold folE
  rw [List.take_add_one, hx, List.filter_append, List.map_append]
  congr 1
  by_cases h : hitE ls lab s e = true <;> simp [h]
theorem folE_sub (es : List Ed) (ls : List ByteArray) (lab : ByteArray) (s : Int) (k : Nat) : (folE (es.take k) ls lab s).length ≤ (folE es ls lab s).length := by
  unfold folE
  simp only [List.length_map]
  exact ((List.take_sublist k es).filter _).length_le
/-- What the edges of a valid system are. -/
theorem edge_of {st ini : Int} {ls : List ByteArray} {es : List Ed} (h : ltsV (st, ini, ls, es) = true) {k : Nat} {f lb tg : Int} (hx : es[k]? = some (f, lb, tg)) :
    (0 ≤ f ∧ f ≤ st - 1) ∧ (0 ≤ tg ∧ tg ≤ st - 1) ∧ 0 ≤ lb ∧ lb ≤ (ls.length : Int) - 1 := by
  unfold ltsV ltsB at h
  simp only [Bool.and_eq_true] at h
  have hk := allK_get h.2.2 (List.getElem?_eq_some_iff.1 hx).1
  unfold okEd at hk
  simp only [hx, Bool.and_eq_true] at hk
  exact ⟨inB_true.1 hk.1.1.1, inB_true.1 hk.1.1.2, inB_true.1 hk.1.2⟩
theorem names_of {st ini : Int} {ls : List ByteArray} {es : List Ed} (h : ltsV (st, ini, ls, es) = true) : namesB ls = true := by
  unfold ltsV ltsB at h
  simp only [Bool.and_eq_true] at h
  unfold namesB
  rw [Bool.and_eq_true]
  exact ⟨h.1.1.2, h.2.1⟩
theorem det_pair {st ini : Int} {ls : List ByteArray} {es : List Ed} (h : detV (st, ini, ls, es) = true) : es.Pairwise fun a b => a.1 < b.1 ∨ (a.1 = b.1 ∧ a.2.1 < b.2.1) := by
  unfold detV at h
  rw [Bool.and_eq_true] at h
  obtain ⟨h, g⟩ := h
  refine pair_of_next _ (fun a b c h g => ?_) _ fun k a b ha hb => ?_
  · rcases h with h | ⟨h1, h2⟩
    · rcases g with g | ⟨g1, g2⟩
      · exact .inl (by omega)
      · exact .inl (by omega)
    · rcases g with g | ⟨g1, g2⟩
      · exact .inl (by omega)
      · exact .inr ⟨by omega, by omega⟩
  · obtain ⟨a1, a2, a3⟩ := a
    obtain ⟨b1, b2, b3⟩ := b
    unfold ltsV ltsB at h
    simp only [Bool.and_eq_true] at h
    have hlt := (List.getElem?_eq_some_iff.1 hb).1
    have hk := allK_get h.2.2 hlt
    have hd := allK_get g hlt
    have ha' : es[k + 1 - 1]? = some (a1, a2, a3) := ha
    unfold okEd at hk
    have e0 : decide (k + 1 = 0) = false := by simp
    simp only [hb, ha', e0, Bool.false_or, Bool.and_eq_true] at hk
    rw [okD_at hb (by omega) ha'] at hd
    simp only [Bool.and_eq_true, Bool.not_eq_true', Bool.and_eq_false_iff, decide_eq_false_iff_not] at hd
    have he := hk.2
    unfold edLess at he
    dsimp only at he ⊢
    by_cases h1 : a1 = b1
    · by_cases h2 : a2 = b2
      · rcases hd.2 with h3 | h3
        · exact absurd h1 h3
        · exact absurd h2 h3
      · simp [h1, h2] at he
        exact .inr ⟨h1, he⟩
    · simp [h1] at he
      exact .inl he
theorem fol_one {st ini : Int} {ls : List ByteArray} {es : List Ed} (h : detV (st, ini, ls, es) = true) (lab : ByteArray) (s : Int) : (folE es ls lab s).length ≤ 1 := by
  have hp := det_pair h
  unfold detV at h
  rw [Bool.and_eq_true] at h
  have hpos : ∀ e ∈ es, 0 ≤ e.2.1 := fun e he => by
    obtain ⟨k, hk⟩ := List.getElem?_of_mem he
    exact (edge_of h.1 hk).2.2.1
  have hn := names_of h.1
  unfold folE
  rw [List.length_map]
  have hq := hp.filter (hitE ls lab s)
  have hm : ∀ e ∈ es.filter (hitE ls lab s), e ∈ es ∧ hitE ls lab s e = true := fun e he => List.mem_filter.1 he
  generalize es.filter (hitE ls lab s) = l at hq hm
  match l, hq, hm with
  | [], _, _ => simp
  | [a], _, _ => simp
  | a :: b :: l, hq, hm =>
    exfalso
    have h1 := (List.pairwise_cons.1 hq).1 b (by simp)
    obtain ⟨ma, ha⟩ := hm a (by simp)
    obtain ⟨mb, hb⟩ := hm b (by simp)
    have pa := hpos a ma
    have pb := hpos b mb
    unfold hitE at ha hb
    rw [Bool.and_eq_true, decide_eq_true_eq] at ha hb
    cases xa : ls[a.2.1.toNat]? with
    | none => simp [xa] at ha
    | some ra =>
      cases xb : ls[b.2.1.toNat]? with
      | none => simp [xb] at hb
      | some rb =>
        simp only [xa, decide_eq_true_eq] at ha
        simp only [xb, decide_eq_true_eq] at hb
        have := labs_uniq hn (xa.trans (by rw [ha.2])) (xb.trans (by rw [hb.2]))
        rcases h1 with h1 | ⟨_, h1⟩ <;> omega

end Go.Proofs.YtiaclddgllkgpaaGreatDoor

namespace Go.Proofs.YtiaclddgllkgpaaGreatDoor
open Go.ChangeShapes Go.WideShapes Go.ChangeAt Go.RowKit Go.Sort
set_option linter.unusedVariables false

/-- A visible label. -/
def visL (s : ByteArray) : Bool := labS s && !(decide (s = tauB))
def visB (l : List ByteArray) : Bool := l.all visL
theorem visB_bad {l : List ByteArray} {k : Nat} {x : ByteArray} (hx : l[k]? = some x) (h : visL x = false) : visB l = false := by
  unfold visB
  rw [← Bool.not_eq_true, List.all_eq_true]
  intro hc
  have := hc x (List.mem_of_getElem? hx)
  rw [h] at this
  cases this
theorem vis_take_succ {l : List ByteArray} {k : Nat} {x : ByteArray} (h : visB (l.take k) = true) (hx : l[k]? = some x) (hg : visL x = true) : visB (l.take (k + 1)) = true := by
  unfold visB at *
  rw [List.take_add_one, hx, List.all_append, h]
  simp [hg]

set_option maxRecDepth 100000 in
set_option maxHeartbeats 800000 in
theorem l12Visible_calls (A : Option Addr) (n c : Nat) (l : List ByteArray) (w : World) (lo hi : Nat) (h : SlS w lo hi A n l) (hn : n ≤ 1048576) (hs : ∀ s ∈ l, s.size ≤ 1048576) :
    Calls Tryz.prog 75 #[.slice A n c] w fun e w' => e = .returned (.bool (visB l)) ∧ Below w.heap.size w w' := by
  have hlen := hide h.len
  replace h := hide h
  replace hs := hide hs
  go_enter Tryz.func75, Tryz.ntmps75
  go_wp2
  go_loopw [3] (fun i wr => ∃ k : Nat, k ≤ n ∧ i = .int .i64 (k : Nat) ∧ Hid (visB (l.take k) = true) ∧ Below w.heap.size w wr) (fun i _ => n - (intOf i).toNat)
  case atStart => exact ⟨0, Nat.zero_le _, rfl, rfl, Below.refl _ _⟩
  case round =>
    obtain ⟨k, hk, rfl, ha, hb⟩ := hrel
    by_cases hlt : k < n
    · obtain ⟨b, off, x, rfl, -, -, g3, hx, p0, -⟩ := SlS.get h.out hlt
      replace p0 := (hb.cell (p := ⟨b, off + k, none⟩) g3).trans p0
      have g3r : b < wr.heap.size := Nat.lt_of_lt_of_le g3 hb.size
      have q := l01Label_calls x wr (hs.out x (List.mem_of_getElem? hx))
      have hok : visL x = (labS x && !(decide (x = tauB))) := rfl
      replace hb := hide hb
      cases hlab : labS x with
      | false =>
        rw [hlab] at q hok
        have hv : Hid (visB l = false) := visB_bad hx hok
        replace q := hide q
        clear hlab hok ha h hx
        go_wp2_with fail
        refine q.out.mono ?_
        rintro e w1 ⟨rfl, hb1⟩
        replace hb1 := hide hb1
        go_wp2_with fail
        go_ret
        exact ⟨ret_b (by rw [hv.out]), hb.out.trans (hb1.out.mono hb.out.size)⟩
      | true =>
        rw [hlab] at q hok
        replace q := hide q
        by_cases htx : x = tauB
        · have hv : Hid (visB l = false) := visB_bad hx (by rw [hok, decide_eq_true htx]; rfl)
          have htt : x.toList = [116, 97, 117] := by rw [htx, tau_list]
          clear hlab hok ha h hx htx
          go_wp2_with fail
          refine q.out.mono ?_
          rintro e w1 ⟨rfl, hb1⟩
          have v0 := (hb1.cell (p := ⟨b, off + k, none⟩) g3r).trans p0
          replace hb1 := hide hb1
          go_wp2_with fail
          go_ret
          exact ⟨ret_b (by rw [hv.out]), hb.out.trans (hb1.out.mono hb.out.size)⟩
        · have hne := tau_ne htx
          have hne2 : ¬ x.toList = [116, 97, 117] := fun e => by rw [e] at hne; simp at hne
          have hnext : Hid (visB (l.take (k + 1)) = true) := vis_take_succ ha.out hx (by rw [hok, decide_eq_false htx]; rfl)
          clear hlab hok ha h hx htx
          go_wp2_with fail
          refine q.out.mono ?_
          rintro e w1 ⟨rfl, hb1⟩
          have v0 := (hb1.cell (p := ⟨b, off + k, none⟩) g3r).trans p0
          replace hb1 := hide hb1
          go_wp2_with fail
          go_roundw
          case rel => exact ⟨k + 1, by omega, by go_num, hnext, hb.out.trans (hb1.out.mono hb.out.size)⟩
          case measure => simp [intOf]; omega
    · have hkn : k = n := by omega
      subst hkn
      have hv : Hid (visB l = true) := by
        have := ha.out
        rw [List.take_of_length_le (by rw [hlen.out]; exact Nat.le_refl _)] at this
        exact this
      clear ha h
      go_wp2
      go_ret
      exact ⟨ret_b (by rw [hv.out]), hb⟩

set_option maxRecDepth 100000 in
theorem indexFuncS_calls (F : FuncId) (caps : Array Value) (G : ByteArray → Bool) (A : Option Addr) (n c : Nat) (l : List ByteArray) (w : World) (lo hi : Nat) (h : SlS w lo hi A n l) (hn : n ≤ 1048576)
    (hF : ∀ (v : Value) (W : World), Sem.run Tryz.prog (callFunc F (#[v] ++ caps)) W = .ok (.enter F (#[v] ++ caps)) W)
    (hcl : ∀ (v : ByteArray) (W : World), v ∈ l → Below w.heap.size w W → Calls Tryz.prog F (#[.string v] ++ caps) W (Says (G v) W)) :
    Calls Tryz.prog 203 #[.slice A n c, .func (.func F) #[] caps] w fun e w' => ∃ i : Int, e = .returned (.int .i64 i) ∧ decide (0 ≤ i) = l.any G ∧ Below w.heap.size w w' := by
  have hlen := hide h.len
  replace hcl := hide hcl
  go_enter Tryz.func203, Tryz.ntmps203
  go_wp2
  go_loopw [8] (fun i wr => ∃ k : Nat, k ≤ n ∧ i = .int .i64 k ∧ Below w.heap.size w wr ∧ Hid ((l.take k).any G = false)) (fun i _ => n - (intOf i).toNat)
  case atStart => exact ⟨0, Nat.zero_le _, rfl, Below.refl _ _, rfl⟩
  case round =>
    obtain ⟨k, hk, rfl, hb, ha⟩ := hrel
    by_cases hlt : k < n
    · obtain ⟨b, off, x, rfl, g1, g2, g3, hx, c0, -⟩ := SlS.get h hlt
      replace c0 := (hb.cell (p := ⟨b, off + k, none⟩) g3).trans c0
      have hc := hcl.out x wr (List.mem_of_getElem? hx) hb
      replace hx := hide hx
      clear h hcl
      by_cases hg : G x = true
      · rw [hg] at hc
        replace hc := hide hc
        have hy := hide (any_hit hx.out hg)
        clear hg
        go_wp2_with fail
        refine hc.out.mono ?_
        rintro e w1 ⟨rfl, hb1⟩
        go_wp2_with fail
        go_ret
        exact ⟨_, rfl, by rw [hy.out]; simp, hb.trans (hb1.mono hb.size)⟩
      · replace hg := Bool.eq_false_iff.2 hg
        rw [hg] at hc
        replace hc := hide hc
        have hy := hide (any_take_succ ha.out hx.out hg)
        clear hg
        go_wp2_with fail
        refine hc.out.mono ?_
        rintro e w1 ⟨rfl, hb1⟩
        go_wp2_with fail
        go_roundw
        case rel => exact ⟨k + 1, by omega, by go_num, hb.trans (hb1.mono hb.size), hy⟩
        case measure => simp [intOf]; omega
    · have hkn : k = n := by omega
      subst hkn
      clear hcl
      go_wp2
      go_ret
      have hy := ha.out
      rw [List.take_of_length_le (by rw [hlen.out]; exact Nat.le_refl _)] at hy
      exact ⟨_, rfl, by rw [hy]; decide, hb⟩

theorem containsFuncS_calls (F : FuncId) (caps : Array Value) (G : ByteArray → Bool) (A : Option Addr) (n c : Nat) (l : List ByteArray) (w : World) (lo hi : Nat) (h : SlS w lo hi A n l) (hn : n ≤ 1048576)
    (hF : ∀ (v : Value) (W : World), Sem.run Tryz.prog (callFunc F (#[v] ++ caps)) W = .ok (.enter F (#[v] ++ caps)) W)
    (hcl : ∀ (v : ByteArray) (W : World), v ∈ l → Below w.heap.size w W → Calls Tryz.prog F (#[.string v] ++ caps) W (Says (G v) W)) :
    Calls Tryz.prog 161 #[.slice A n c, .func (.func F) #[] caps] w (Says (l.any G) w) := by
  have q := hide (indexFuncS_calls F caps G A n c l w lo hi h hn hF hcl)
  clear h hF hcl
  go_enter Tryz.func161, Tryz.ntmps161
  go_wp2_with fail
  refine q.out.mono ?_
  rintro e w1 ⟨i, rfl, hi, hb⟩
  replace hi := hide hi
  go_wp2_with fail
  go_ret
  exact ⟨ret_b hi.out.symm, hb⟩

theorem str_list_ne {a b : ByteArray} (h : ¬ a = b) : (b.toList == a.toList) = false ∧ ¬ b.toList = a.toList := by
  have h1 := str_neq (a := b) (b := a) (fun e => h e.symm)
  exact ⟨h1, fun e => by rw [e] at h1; simp at h1⟩
set_option maxRecDepth 100000 in
theorem indexS_calls (v : ByteArray) (A : Option Addr) (n c : Nat) (l : List ByteArray) (w : World) (lo hi : Nat) (h : SlS w lo hi A n l) (hn : n ≤ 1048576) :
    Calls Tryz.prog 163 #[.slice A n c, .string v] w fun e w' => ∃ i : Int, e = .returned (.int .i64 i) ∧ decide (0 ≤ i) = l.any (fun x => decide (x = v)) ∧ w = w' := by
  have hlen := hide h.len
  go_enter Tryz.func163, Tryz.ntmps163
  go_wp2
  go_loop [8] (fun i => ∃ k : Nat, k ≤ n ∧ i = .int .i64 k ∧ Hid ((l.take k).any (fun x => decide (x = v)) = false)) (fun i => n - (intOf i).toNat)
  case atStart => exact ⟨0, Nat.zero_le _, rfl, rfl⟩
  case round =>
    obtain ⟨k, hk, rfl, ha⟩ := hrel
    by_cases hlt : k < n
    · obtain ⟨b, off, x, rfl, g1, g2, g3, hx, c0, -⟩ := SlS.get h hlt
      clear h
      by_cases hq : x = v
      · have hy := hide (any_hit (G := fun x => decide (x = v)) hx (decide_eq_true hq))
        subst hq
        have hself : (x.toList == x.toList) = true := beq_self_eq_true _
        clear hx
        go_wp2
        go_ret
        exact ⟨_, rfl, by rw [hy.out]; simp, rfl⟩
      · have hy := hide (any_take_succ ha.out hx (decide_eq_false hq))
        obtain ⟨hne, hne2⟩ := str_list_ne hq
        clear hx hq
        go_wp2
        go_round
        case rel => exact ⟨k + 1, by omega, by go_num, hy⟩
        case measure => simp [intOf]; omega
    · have hkn : k = n := by omega
      subst hkn
      clear h
      go_wp2
      go_ret
      have hy := ha.out
      rw [List.take_of_length_le (by rw [hlen.out]; exact Nat.le_refl _)] at hy
      exact ⟨_, rfl, by rw [hy]; decide, rfl⟩
theorem containsS_calls (v : ByteArray) (A : Option Addr) (n c : Nat) (l : List ByteArray) (w : World) (lo hi : Nat) (h : SlS w lo hi A n l) (hn : n ≤ 1048576) :
    Calls Tryz.prog 127 #[.slice A n c, .string v] w fun e w' => e = .returned (.bool (l.any (fun x => decide (x = v)))) ∧ w = w' := by
  have q := hide (indexS_calls v A n c l w lo hi h hn)
  clear h
  go_enter Tryz.func127, Tryz.ntmps127
  go_wp2_with fail
  refine q.out.mono ?_
  rintro e w1 ⟨i, rfl, hi, rfl⟩
  replace hi := hide hi
  go_wp2_with fail
  go_ret
  exact ⟨ret_b hi.out.symm, rfl⟩

theorem areLabels1_calls (v : ByteArray) (W : World) (hs : v.size ≤ 1048576) (he : Env W) : Calls Tryz.prog 162 (#[.string v] ++ #[]) W (Says (!(labS v)) W) := by
  have q := hide (isLabel_calls v W hs he)
  clear he
  go_enter Tryz.func162, Tryz.ntmps162
  go_wp2_with fail
  refine q.out.mono ?_
  rintro e w1 ⟨rfl, hb⟩
  go_wp2_with fail
  go_ret
  exact ⟨rfl, hb⟩
theorem areLabels_calls (A : Option Addr) (n c : Nat) (l : List ByteArray) (w : World) (lo hi : Nat) (h : SlS w lo hi A n l) (hn : n ≤ 1048576) (hs : ∀ s ∈ l, s.size ≤ 1048576) (he : Env w) :
    Calls Tryz.prog 126 #[.slice A n c] w fun e w' => e = .returned (.bool (!(l.any fun s => !(labS s)))) ∧ Below w.heap.size w w' := by
  have q := hide (containsFuncS_calls 162 #[] (fun s => !(labS s)) A n c l w lo hi h hn (fun v W => by kernel_rfl) (fun v W hv hW => areLabels1_calls v W (hs v hv) (he.below hW (Nat.le_refl _))))
  clear h hs he
  go_enter Tryz.func126, Tryz.ntmps126
  go_wp2_with fail
  refine q.out.mono ?_
  rintro e w1 ⟨rfl, hb⟩
  go_wp2_with fail
  go_ret
  exact ⟨rfl, hb⟩
theorem vis_eq (l : List ByteArray) : visB l = (!(l.any fun s => !(labS s)) && !(l.any fun x => decide (x = tauB))) := by
  unfold visB visL
  induction l with
  | nil => rfl
  | cons a l ih =>
    simp only [List.all_cons, List.any_cons, ih, Bool.not_or, Bool.not_not]
    cases labS a <;> cases decide (a = tauB) <;> simp [Bool.and_comm]
theorem areVisible_calls (A : Option Addr) (n c : Nat) (l : List ByteArray) (w : World) (lo hi : Nat) (h : SlS w lo hi A n l) (hn : n ≤ 1048576) (hs : ∀ s ∈ l, s.size ≤ 1048576) (he : Env w) :
    Calls Tryz.prog 78 #[.slice A n c] w fun e w' => e = .returned (.bool (visB l)) ∧ Below w.heap.size w w' := by
  have qa := areLabels_calls A n c l w lo hi h hn hs he
  have qb := fun W (hW : Below w.heap.size w W) => containsS_calls tauB A n c l W lo hi (h.below hW (.inr (Nat.le_refl _))) hn
  have hval := vis_eq l
  clear h hs he
  cases h1 : (!(l.any fun s => !(labS s))) with
  | false =>
    rw [h1] at qa hval
    have hv : Hid (visB l = false) := hval
    replace qa := hide qa
    clear qb hval h1
    go_enter Tryz.func78, Tryz.ntmps78
    go_wp2_with fail
    refine qa.out.mono ?_
    rintro e w1 ⟨rfl, hb⟩
    go_wp2_with fail
    go_ret
    exact ⟨ret_b (by rw [hv.out]), hb⟩
  | true =>
    rw [h1] at qa hval
    have hv : Hid (visB l = !(l.any fun x => decide (x = tauB))) := hval
    replace qa := hide qa
    replace qb := hide qb
    clear hval h1
    go_enter Tryz.func78, Tryz.ntmps78
    go_wp2_with fail
    refine qa.out.mono ?_
    rintro e w1 ⟨rfl, hb⟩
    go_wp2_with fail
    refine (qb.out _ hb).mono ?_
    rintro e w2 ⟨rfl, rfl⟩
    go_wp2_with fail
    go_ret
    exact ⟨ret_b (by rw [hv.out]), hb⟩

end Go.Proofs.YtiaclddgllkgpaaGreatDoor

namespace Go.Proofs.YtiaclddgllkgpaaGreatDoor
open Go.ChangeShapes Go.WideShapes Go.ChangeAt Go.RowKit Go.Sort
set_option linter.unusedVariables false

theorem folE_cons {es : List Ed} {ls : List ByteArray} {lab : ByteArray} {s : Int} {k : Nat} {e : Ed} (h0 : folE (es.take k) ls lab s = []) (hx : es[k]? = some e) (hh : hitE ls lab s e = true) : goE es ls lab s = e.2.2 := by
  have hlt := (List.getElem?_eq_some_iff.1 hx).1
  have hdrop : es.drop k = e :: es.drop (k + 1) := by rw [List.drop_eq_getElem_cons hlt, (List.getElem?_eq_some_iff.1 hx).2]
  have hes : es = es.take k ++ es.drop k := (List.take_append_drop k es).symm
  unfold goE
  have h1 : folE es ls lab s = folE (es.take k) ls lab s ++ folE (es.drop k) ls lab s := by
    unfold folE
    rw [← List.map_append, ← List.filter_append, List.take_append_drop]
  rw [h1, h0, hdrop]
  unfold folE
  simp [hh]
theorem goE_none {es : List Ed} {ls : List ByteArray} {lab : ByteArray} {s : Int} (h : folE es ls lab s = []) : goE es ls lab s = -1 := by
  unfold goE
  rw [h]
  rfl
theorem fol_miss {es : List Ed} {ls : List ByteArray} {lab : ByteArray} {s : Int} {k : Nat} {e : Ed} (h0 : folE (es.take k) ls lab s = []) (hx : es[k]? = some e) (hh : hitE ls lab s e = false) : folE (es.take (k + 1)) ls lab s = [] := by
  rw [folE_succ hx, h0, hh]
  rfl
theorem fol_neg {st ini : Int} {ls : List ByteArray} {es : List Ed} (h : ltsV (st, ini, ls, es) = true) {lab : ByteArray} {s : Int} (hs : s < 0) : folE es ls lab s = [] := by
  unfold folE
  rw [List.map_eq_nil_iff, List.filter_eq_nil_iff]
  rintro ⟨f, lb, tg⟩ he
  obtain ⟨k, hk⟩ := List.getElem?_of_mem he
  have h1 := (edge_of h hk).1.1
  unfold hitE
  have : decide (f = s) = false := decide_eq_false (by omega)
  simp [this]

set_option maxRecDepth 100000 in
set_option maxHeartbeats 1600000 in
theorem l12Go_calls (bt : Nat) (x : CL) (d : DL) (s : Int) (lab : ByteArray) (w : World) (h : LtsAt w bt x d) (hval : ltsV d = true) :
    Calls Tryz.prog 100 #[.pointer (some ⟨bt, 0, none⟩), .int .i64 s, .string lab] w fun e w' => e = .returned (.int .i64 (goE d.2.2.2 d.2.2.1 lab s)) ∧ Below w.heap.size w w' := by
  obtain ⟨s0, s1, v2, v3⟩ := x
  obtain ⟨st, ini, ls, es⟩ := d
  obtain ⟨⟨e0, e1, ⟨A2, n2, k2, e2, hn2, hs2, t2⟩, ⟨A3, n3, k3, e3, hn3, t3⟩⟩, htot, hbt, -, -, c2, c3⟩ := h
  dsimp only at *
  subst e0 e1 e2 e3
  have l2 := t2.len
  have l3 := t3.len
  have hes : n3 ≤ 1048576 := by rw [← l3]; exact Nat.le_trans (totL_edg (s0, s1, ls, es)) htot
  replace l2 := hide l2
  replace l3 := hide l3
  replace t2 := hide t2
  replace t3 := hide t3
  replace hval := hide hval
  clear htot hs2 hn2 hn3
  by_cases hs0 : s < 0
  · have hv : Hid (goE es ls lab s = -1) := goE_none (fol_neg hval.out hs0)
    have hsI : ¬ (0 : Int) ≤ s := by omega
    clear t2 t3
    by_cases h0 : 0 < n3
    · have h0I : (0 : Int) < (n3 : Int) := by omega
      go_enter Tryz.func100, Tryz.ntmps100
      go_wp2
      go_loopw [7] (fun i wr => i = .int .i64 0 ∧ wr = w) (fun i _ => 0)
      case atStart => exact ⟨rfl, rfl⟩
      case round =>
        obtain ⟨rfl, rfl⟩ := hrel
        go_wp2
        go_ret
        exact ⟨ret_i (by rw [hv.out]), Below.refl _ _⟩
    · have h0I : ¬ (0 : Int) < (n3 : Int) := by omega
      go_enter Tryz.func100, Tryz.ntmps100
      go_wp2
      go_loopw [7] (fun i wr => i = .int .i64 0 ∧ wr = w) (fun i _ => 0)
      case atStart => exact ⟨rfl, rfl⟩
      case round =>
        obtain ⟨rfl, rfl⟩ := hrel
        go_wp2
        go_ret
        exact ⟨ret_i (by rw [hv.out]), Below.refl _ _⟩
  have hsI : (0 : Int) ≤ s := by omega
  go_enter Tryz.func100, Tryz.ntmps100
  go_wp2
  go_loopw [7] (fun i wr => ∃ k : Nat, k ≤ n3 ∧ i = .int .i64 (k : Nat) ∧ Hid (folE (es.take k) ls lab s = []) ∧ Below w.heap.size w wr) (fun i _ => n3 - (intOf i).toNat)
  case atStart => exact ⟨0, Nat.zero_le _, rfl, rfl, Below.refl _ _⟩
  case round =>
    obtain ⟨k, hk, rfl, ha, hb⟩ := hrel
    have y2 := (hb.cell (p := ⟨bt, 2, none⟩) hbt).trans c2
    have y3 := (hb.cell (p := ⟨bt, 3, none⟩) hbt).trans c3
    clear c2 c3
    by_cases hlt : k < n3
    · obtain ⟨b, off, f, lb, tg, rfl, -, -, g3, hx, p0, p1, p2, -, -, -⟩ := SlE.get t3.out hlt
      replace p0 := (hb.cell g3).trans p0
      replace p1 := (hb.cell (p := ⟨b, off + k * 3 + 1, none⟩) g3).trans p1
      replace p2 := (hb.cell (p := ⟨b, off + k * 3 + 2, none⟩) g3).trans p2
      have hed := edge_of hval.out hx
      have hl0 : (0 : Int) ≤ lb := hed.2.2.1
      have hl1 : lb < (n2 : Int) := by have := hed.2.2.2; have := l2.out; omega
      obtain ⟨b2, off2, r, rfl, -, -, g32, hr, p3, -⟩ := SlS.get t2.out (show lb.toNat < n2 by omega)
      replace p3 := (hb.cell (p := ⟨b2, off2 + lb.toNat, none⟩) g32).trans p3
      have f2 := fun d os => cell_regrown y2 d os
      have f3 := fun d os => cell_regrown y3 d os
      have u0 := fun d os => cell_regrown p0 d os
      have u1 := fun d os => cell_regrown p1 d os
      have u3 := fun d os => cell_regrown p3 d os
      have hh := hitE_at (lab := lab) (s := s) (f := f) (tg := tg) hr
      have hI0 : (0 : Int) ≤ (k : Int) := by omega
      have hI1 : (k : Int) < (n3 : Int) := by omega
      have gr : b < wr.heap.size := Nat.lt_of_lt_of_le g3 hb.size
      clear hed t2 t3
      by_cases hf : f = s
      · rw [decide_eq_true hf, Bool.true_and] at hh
        by_cases hrl : r = lab
        · have hv : Hid (goE es ls lab s = tg) := folE_cons ha.out hx (by rw [hh]; exact decide_eq_true hrl)
          subst hf
          subst hrl
          have hself : (r.toList == r.toList) = true := beq_self_eq_true _
          clear hx hr hh ha
          go_wp2
          refine wp_region_quiet_below (by kernel_rfl) (by kernel_rfl) ?_
          repeat (go_big_quiet_step (fail))
          refine wpQuiet_nil ?_
          intro _ hw'
          obtain ⟨⟨dq, osq⟩, hw''⟩ := hw'
          subst hw''
          have hbq := below_regrown wr dq osq
          generalize grow (redrawn wr dq) osq = wq at *
          have z3 := (hbq.cell (p := ⟨bt, 3, none⟩) (Nat.lt_of_lt_of_le hbt hb.size)).trans y3
          have z2 := (hbq.cell (p := ⟨b, off + k * 3 + 2, none⟩) gr).trans p2
          clear f2 f3 u0 u1 u3
          replace hbq := hide hbq
          go_wp2
          go_ret
          exact ⟨ret_i (by rw [hv.out]), hb.trans (hbq.out.mono hb.size)⟩
        · have hne := str_list_ne (a := lab) (b := r) (fun e => hrl e.symm)
          obtain ⟨hne1, hne2⟩ := hne
          have hnext : Hid (folE (es.take (k + 1)) ls lab s = []) := fol_miss ha.out hx (by rw [hh]; exact decide_eq_false hrl)
          subst hf
          clear hx hr hh ha hrl
          go_wp2
          refine wp_region_quiet_below (by kernel_rfl) (by kernel_rfl) ?_
          repeat (go_big_quiet_step (fail))
          refine wpQuiet_nil ?_
          intro _ hw'
          obtain ⟨⟨dq, osq⟩, hw''⟩ := hw'
          subst hw''
          have hbq := below_regrown wr dq osq
          generalize grow (redrawn wr dq) osq = wq at *
          have hbw := hide (hb.trans (hbq.mono hb.size))
          clear f2 f3 u0 u1 u3 hbq hb
          go_wp2
          go_roundw
          case rel => exact ⟨k + 1, by omega, by go_num, hnext, hbw.out⟩
          case measure => simp [intOf]; omega
      · have hfb : (f == s) = false := by rw [beq_eq_false_iff_ne]; exact hf
        have hnext : Hid (folE (es.take (k + 1)) ls lab s = []) := fol_miss ha.out hx (by rw [hh, decide_eq_false hf]; rfl)
        clear hx hr hh ha
        go_wp2
        refine wp_region_quiet_below (by kernel_rfl) (by kernel_rfl) ?_
        repeat (go_big_quiet_step (fail))
        refine wpQuiet_nil ?_
        intro _ hw'
        obtain ⟨⟨dq, osq⟩, hw''⟩ := hw'
        subst hw''
        have hbq := below_regrown wr dq osq
        generalize grow (redrawn wr dq) osq = wq at *
        have hbw := hide (hb.trans (hbq.mono hb.size))
        clear f2 f3 u0 u1 u3 hbq hb
        go_wp2
        go_roundw
        case rel => exact ⟨k + 1, by omega, by go_num, hnext, hbw.out⟩
        case measure => simp [intOf]; omega
    · have hkn : k = n3 := by omega
      subst hkn
      have hv : Hid (goE es ls lab s = -1) := goE_none (by have := ha.out; rw [List.take_of_length_le (by rw [l3.out]; exact Nat.le_refl _)] at this; exact this)
      clear ha t2 t3
      go_wp2
      go_ret
      exact ⟨ret_i (by rw [hv.out]), hb⟩

end Go.Proofs.YtiaclddgllkgpaaGreatDoor

namespace Go.Proofs.YtiaclddgllkgpaaGreatDoor
open Go.ChangeShapes Go.WideShapes Go.ChangeAt Go.RowKit Go.Sort
set_option linter.unusedVariables false

set_option maxRecDepth 100000 in
theorem indexI_calls (v : Int) (A : Option Addr) (n c : Nat) (l : List Int) (w : World) (lo hi : Nat) (h : SlI w lo hi A n l) (hn : n ≤ 1048576) :
    Calls Tryz.prog 204 #[.slice A n c, .int .i64 v] w fun e w' => ∃ i : Int, e = .returned (.int .i64 i) ∧ decide (0 ≤ i) = l.any (fun x => decide (x = v)) ∧ w = w' := by
  have hlen := hide h.len
  go_enter Tryz.func204, Tryz.ntmps204
  go_wp2
  go_loop [8] (fun i => ∃ k : Nat, k ≤ n ∧ i = .int .i64 k ∧ Hid ((l.take k).any (fun x => decide (x = v)) = false)) (fun i => n - (intOf i).toNat)
  case atStart => exact ⟨0, Nat.zero_le _, rfl, rfl⟩
  case round =>
    obtain ⟨k, hk, rfl, ha⟩ := hrel
    by_cases hlt : k < n
    · obtain ⟨b, off, x, rfl, g1, g2, g3, hx, c0, -⟩ := SlI.get h hlt
      clear h
      by_cases hq : x = v
      · have hy := hide (any_hit (G := fun x => decide (x = v)) hx (decide_eq_true hq))
        subst hq
        clear hx
        go_wp2
        go_ret
        exact ⟨_, rfl, by rw [hy.out]; simp, rfl⟩
      · have hy := hide (any_take_succ ha.out hx (decide_eq_false hq))
        have hne : (v == x) = false := by rw [beq_eq_false_iff_ne]; exact fun e => hq e.symm
        clear hx hq
        go_wp2
        go_round
        case rel => exact ⟨k + 1, by omega, by go_num, hy⟩
        case measure => simp [intOf]; omega
    · have hkn : k = n := by omega
      subst hkn
      clear h
      go_wp2
      go_ret
      have hy := ha.out
      rw [List.take_of_length_le (by rw [hlen.out]; exact Nat.le_refl _)] at hy
      exact ⟨_, rfl, by rw [hy]; decide, rfl⟩
theorem containsI_calls (v : Int) (A : Option Addr) (n c : Nat) (l : List Int) (w : World) (lo hi : Nat) (h : SlI w lo hi A n l) (hn : n ≤ 1048576) :
    Calls Tryz.prog 165 #[.slice A n c, .int .i64 v] w fun e w' => e = .returned (.bool (l.any (fun x => decide (x = v)))) ∧ w = w' := by
  have q := hide (indexI_calls v A n c l w lo hi h hn)
  clear h
  go_enter Tryz.func165, Tryz.ntmps165
  go_wp2_with fail
  refine q.out.mono ?_
  rintro e w1 ⟨i, rfl, hi, rfl⟩
  replace hi := hide hi
  go_wp2_with fail
  go_ret
  exact ⟨ret_b hi.out.symm, rfl⟩

theorem len64_short (n : Nat) (hn : n ≤ 1) (w : World) : Calls Tryz.prog 178 #[.int .u64 (n : Int)] w fun e w' => e = .returned (.int .i64 (n : Int)) ∧ w = w' := by
  have h : n = 0 ∨ n = 1 := by omega
  rcases h with rfl | rfl
  · go_enter Tryz.func178, Tryz.ntmps178
    go_wp2
    go_ret
    exact ⟨ret_i (by decide +kernel), rfl⟩
  · go_enter Tryz.func178, Tryz.ntmps178
    go_wp2
    go_ret
    exact ⟨ret_i (by decide +kernel), rfl⟩
theorem len_short (n : Nat) (hn : n ≤ 1) (w : World) : Calls Tryz.prog 134 #[.int .u64 (n : Int)] w fun e w' => e = .returned (.int .i64 (n : Int)) ∧ w = w' := by
  have q := hide (len64_short n hn w)
  have h : n = 0 ∨ n = 1 := by omega
  rcases h with rfl | rfl
  · go_enter Tryz.func134, Tryz.ntmps134
    go_wp2_with fail
    refine q.out.mono ?_
    rintro e w1 ⟨rfl, rfl⟩
    go_wp2_with fail
    go_ret
    exact ⟨rfl, rfl⟩
  · go_enter Tryz.func134, Tryz.ntmps134
    go_wp2_with fail
    refine q.out.mono ?_
    rintro e w1 ⟨rfl, rfl⟩
    go_wp2_with fail
    go_ret
    exact ⟨rfl, rfl⟩
theorem insert_short (A : Option Addr) (n c : Nat) (hn : n ≤ 1) (w : World) : Calls Tryz.prog 224 #[.slice A n c, .int .i64 0, .int .i64 (n : Int)] w fun e w' => e = .returned (.tuple #[]) ∧ w = w' := by
  have h1 : ¬ (1 : Int) < (n : Int) := by omega
  go_enter Tryz.func224, Tryz.ntmps224
  go_wp2
  go_loopw [6] (fun i wr => i = .int .i64 1 ∧ wr = w) (fun i _ => 0)
  case atStart => exact ⟨rfl, rfl⟩
  case round =>
    obtain ⟨rfl, rfl⟩ := hrel
    go_wp2
    go_returns
    exact ⟨rfl, rfl⟩
theorem pdq_short (A : Option Addr) (n c : Nat) (m : Int) (hn : n ≤ 1) (w : World) : Calls Tryz.prog 205 #[.slice A n c, .int .i64 0, .int .i64 (n : Int), .int .i64 m] w fun e w' => e = .returned (.tuple #[]) ∧ w = w' := by
  have q := hide (insert_short A n c hn w)
  have h1 : (n : Int) ≤ 12 := by omega
  go_enter Tryz.func205, Tryz.ntmps205
  go_wp2
  go_loopw [1, 2] (fun a b wr => a = .int .i64 0 ∧ b = .int .i64 (n : Int) ∧ wr = w) (fun _ _ _ => 0)
  case atStart => exact ⟨rfl, rfl, rfl⟩
  case round =>
    obtain ⟨rfl, rfl, rfl⟩ := hrel
    go_wp2_with fail
    refine q.out.mono ?_
    rintro e w1 ⟨rfl, rfl⟩
    go_wp2_with fail
    go_returns
    exact ⟨rfl, rfl⟩
theorem sort_short (A : Option Addr) (n c : Nat) (hn : n ≤ 1) (w : World) : Calls Tryz.prog 166 #[.slice A n c] w fun e w' => e = .returned (.tuple #[]) ∧ w = w' := by
  have q := hide (len_short n hn w)
  have q1 := hide (fun m => pdq_short A n c m hn w)
  have h1 : (n : Int) ≤ 1 := by omega
  go_enter Tryz.func166, Tryz.ntmps166
  go_wp2_with fail
  refine q.out.mono ?_
  rintro e w1 ⟨rfl, rfl⟩
  go_wp2_with fail
  refine (q1.out _).mono ?_
  rintro e w1 ⟨rfl, rfl⟩
  go_wp2_with fail
  go_returns
  exact ⟨rfl, rfl⟩
theorem compact_short (A : Option Addr) (n c : Nat) (hn : n ≤ 1) (w : World) : Calls Tryz.prog 167 #[.slice A n c] w fun e w' => e = .returned (.slice A n c) ∧ w = w' := by
  have h1 : (n : Int) < 2 := by omega
  go_enter Tryz.func167, Tryz.ntmps167
  go_wp2
  go_ret
  exact ⟨rfl, rfl⟩

end Go.Proofs.YtiaclddgllkgpaaGreatDoor

namespace Go.Proofs.YtiaclddgllkgpaaGreatDoor
open Go.ChangeShapes Go.WideShapes Go.ChangeAt Go.RowKit Go.Sort
set_option linter.unusedVariables false
set_option linter.unusedSimpArgs false

set_option maxRecDepth 100000 in
set_option maxHeartbeats 3200000 in
theorem follow_calls (s0 s1 : Int) (A2 : Option Addr) (n2 k2 : Nat) (A3 : Option Addr) (n3 k3 : Nat) (A1 : Option Addr) (c1 : Nat) (s : Int) (lab : ByteArray) (ls : List ByteArray) (es : List Ed) (w : World) (lo hi lo1 hi1 : Nat)
    (t2 : SlS w lo hi A2 n2 ls) (t3 : SlE w lo hi A3 n3 es) (t1 : SlI w lo1 hi1 A1 1 [s]) (hes : n3 ≤ 1048576) (hval : detV (s0, s1, ls, es) = true) :
    Calls Tryz.prog 131 #[.agg #[.int .i64 s0, .int .i64 s1, .slice A2 n2 k2, .slice A3 n3 k3], .slice A1 1 c1, .string lab] w fun e w' => ∃ A n c, e = .returned (.slice A n c) ∧ SlI w' w.heap.size w'.heap.size A n (folE es ls lab s) ∧ n ≤ 1 ∧ Below w.heap.size w w' := by
  have l2 := hide t2.len
  have l3 := hide t3.len
  have hone := hide (fol_one hval lab s)
  have hlts : Hid (ltsV (s0, s1, ls, es) = true) := by unfold detV at hval; rw [Bool.and_eq_true] at hval; exact hval.1
  have hW0 := hide (show Below w.heap.size w (w.alloc (.cells #[.int .i64 s0, .int .i64 s1, .slice A2 n2 k2, .slice A3 n3 k3] 33)) from (Below.refl _ _).alloc (Nat.le_refl _) _)
  have kE := heap_alloc_new w (.cells #[.int .i64 s0, .int .i64 s1, .slice A2 n2 k2, .slice A3 n3 k3] 33)
  have hbt : w.heap.size < (w.alloc (.cells #[.int .i64 s0, .int .i64 s1, .slice A2 n2 k2, .slice A3 n3 k3] 33)).heap.size := by rw [World.size_alloc]; omega
  have hE := hide elem_int
  replace t1 := hide t1
  replace t2 := hide t2
  replace t3 := hide t3
  clear hval
  go_enter Tryz.func131, Tryz.ntmps131
  go_upto_region 3 with fail
  have c2 : (w.alloc (.cells #[.int .i64 s0, .int .i64 s1, .slice A2 n2 k2, .slice A3 n3 k3] 33)).cell? ⟨w.heap.size, 2, none⟩ = some (.slice A2 n2 k2) := (cell_of_row _ _ 2 _ _ (0, 0) kE).trans rfl
  have c3 : (w.alloc (.cells #[.int .i64 s0, .int .i64 s1, .slice A2 n2 k2, .slice A3 n3 k3] 33)).cell? ⟨w.heap.size, 3, none⟩ = some (.slice A3 n3 k3) := (cell_of_row _ _ 3 _ _ (0, 0) kE).trans rfl
  clear kE
  generalize hWW : (w.alloc (.cells #[.int .i64 s0, .int .i64 s1, .slice A2 n2 k2, .slice A3 n3 k3] 33)) = W0 at *
  clear hWW
  have hbt1 : w.heap.size + 1 ≤ W0.heap.size := hbt
  go_loopw [7, 13] (fun o i wr => ∃ k m c A, k ≤ n3 ∧ o = .slice A m c ∧ i = .int .i64 (k : Nat) ∧ m ≤ 1 ∧ Hid (Own 1 iv wr W0.heap.size 2 A m c (folE (es.take k) ls lab s)) ∧ Below W0.heap.size W0 wr) (fun _ i _ => n3 - (intOf i).toNat)
  case atStart => exact ⟨0, 0, 0, none, Nat.zero_le _, rfl, rfl, Nat.zero_le _, Own.nil_ _ _ _, Below.refl _ _⟩
  case round =>
    obtain ⟨k, m, c, A, hk, rfl, rfl, hm, hown, hb⟩ := hrel
    have hz := hb.size
    have hwb := hW0.out.trans (hb.mono (by omega))
    have y2 := (hb.cell (p := ⟨w.heap.size, 2, none⟩) hbt).trans c2
    have y3 := (hb.cell (p := ⟨w.heap.size, 3, none⟩) hbt).trans c3
    clear c2 c3
    by_cases hlt : k < n3
    · obtain ⟨b, off, f, lb, tg, rfl, -, -, g3, hx, p0, p1, p2, -, -, -⟩ := SlE.get t3.out hlt
      replace p0 := (hwb.cell g3).trans p0
      replace p1 := (hwb.cell (p := ⟨b, off + k * 3 + 1, none⟩) g3).trans p1
      replace p2 := (hwb.cell (p := ⟨b, off + k * 3 + 2, none⟩) g3).trans p2
      have hed := edge_of hlts.out hx
      have hl0 : (0 : Int) ≤ lb := hed.2.2.1
      have hl1 : lb < (n2 : Int) := by have := hed.2.2.2; have := l2.out; omega
      obtain ⟨b2, off2, r, rfl, -, -, g32, hr, p3, -⟩ := SlS.get t2.out (show lb.toNat < n2 by omega)
      have hh := hitE_at (lab := lab) (s := s) (f := f) (tg := tg) hr
      have hsu := folE_succ (ls := ls) (lab := lab) (s := s) hx
      have hsb := Nat.le_trans (folE_sub es ls lab s (k + 1)) hone.out
      have hbE : Below wr.heap.size wr (wr.alloc (.cells #[.int .i64 f, .int .i64 lb, .int .i64 tg] 86)) := (Below.refl _ _).alloc (Nat.le_refl _) _
      have kE := heap_alloc_new wr (.cells #[.int .i64 f, .int .i64 lb, .int .i64 tg] 86)
      have hgw : w.heap.size < wr.heap.size := by omega
      have x2 := (hbE.cell (p := ⟨w.heap.size, 2, none⟩) hgw).trans y2
      have x3 := (hbE.cell (p := ⟨w.heap.size, 3, none⟩) hgw).trans y3
      have z0 : (wr.alloc (.cells #[.int .i64 f, .int .i64 lb, .int .i64 tg] 86)).cell? ⟨wr.heap.size, 0, none⟩ = some (.int .i64 f) := (cell_of_row _ _ 0 _ _ (0, 0) kE).trans rfl
      have z1 : (wr.alloc (.cells #[.int .i64 f, .int .i64 lb, .int .i64 tg] 86)).cell? ⟨wr.heap.size, 1, none⟩ = some (.int .i64 lb) := (cell_of_row _ _ 1 _ _ (0, 0) kE).trans rfl
      have z2 : (wr.alloc (.cells #[.int .i64 f, .int .i64 lb, .int .i64 tg] 86)).cell? ⟨wr.heap.size, 2, none⟩ = some (.int .i64 tg) := (cell_of_row _ _ 2 _ _ (0, 0) kE).trans rfl
      have hbw : Below w.heap.size w (wr.alloc (.cells #[.int .i64 f, .int .i64 lb, .int .i64 tg] 86)) := hwb.trans (hbE.mono hwb.size)
      have p3' := (hbw.cell (p := ⟨b2, off2 + lb.toNat, none⟩) g32).trans p3
      have hbB := hb.trans (hbE.mono hz)
      have hzB := hbB.size
      have qc := hide (containsI_calls f A1 1 c1 [s] _ lo1 hi1 (t1.out.below hbw (.inr (Nat.le_refl _))) (by omega))
      replace hown := hide (hown.out.alloc (.cells #[.int .i64 f, .int .i64 lb, .int .i64 tg] 86))
      have hI0 : (0 : Int) ≤ (k : Int) := by omega
      have hI1 : (k : Int) < (n3 : Int) := by omega
      have hany : [s].any (fun x => decide (x = f)) = decide (f = s) := by
        by_cases e : s = f
        · simp [e]
        · have : ¬ f = s := fun x => e x.symm
          simp [e, this]
      rw [hany] at qc
      replace hbB := hide hbB
      clear hed t1 t2 t3 hwb hb hbE kE p3 hz hbw
      go_upto_region 5 with fail
      clear p0 p1 p2 y2 y3 x3
      generalize hWE : (wr.alloc (.cells #[.int .i64 f, .int .i64 lb, .int .i64 tg] 86)) = WE at *
      generalize hbE : wr.heap.size = bE at *
      clear hWE hbE
      have hza : ∀ o, W0.heap.size ≤ (WE.alloc o).heap.size := fun o => by rw [World.size_alloc]; omega
      by_cases hrl : r = lab
      · subst hrl
        have hself : (r.toList == r.toList) = true := beq_self_eq_true _
        by_cases hf : f = s
        · rw [hh, decide_eq_true hf, decide_eq_true rfl] at hsu
          rw [decide_eq_true hf] at qc
          have hm0 : m = 0 := by
            have h1 := hown.out.len
            rw [hsu] at hsb
            simp at hsb
            rw [hsb] at h1
            exact h1.symm
          subst hm0
          replace hsu := hide hsu
          clear hx hr hh hf hany hsb
          go_wp2_with (first
            | (go_at_call 165; (with_reducible refine qc.out.mono ?_); rintro e w' ⟨rfl, rfl⟩)
            | (at_builtin; (with_reducible refine wpList_app rfl (.tmp 31) (.tmp 34) rfl hE.out flat_iv rfl (hown.out.alloc _) rfl (Sl.lit1' _ 2 tg _ rfl 1 _ ?c0) ?c1 (hza _) ?_); rotate_right; intro A5 c5 w5 hown5 hgr5 hb5 _))
          case c0 => rfl
          case c1 => omega
          have hb6 := (hbB.out.alloc hzB (.cells #[.int .i64 tg] 2)).trans hb5
          replace hown5 : Hid (Own 1 iv w5 W0.heap.size 2 A5 (0 + 1) c5 (folE (es.take (k + 1)) ls r s)) := by show Own _ _ _ _ _ _ _ _ _; rw [hsu.out]; exact hown5
          go_roundw
          case rel => exact ⟨k + 1, 0 + 1, c5, A5, by omega, rfl, by go_num, by omega, hown5, hb6⟩
          case measure => simp [intOf]; omega
        · rw [hh, decide_eq_false hf] at hsu
          rw [decide_eq_false hf] at qc
          replace hown : Hid (Own 1 iv WE W0.heap.size 2 A m c (folE (es.take (k + 1)) ls r s)) := by show Own _ _ _ _ _ _ _ _ _; rw [hsu]; simpa using hown.out
          clear hx hr hh hf hany hsb hsu
          go_wp2_with (first
            | (go_at_call 165; (with_reducible refine qc.out.mono ?_); rintro e w' ⟨rfl, rfl⟩))
          go_roundw
          case rel => exact ⟨k + 1, m, c, A, by omega, rfl, by go_num, hm, hown, hbB.out⟩
          case measure => simp [intOf]; omega
      · obtain ⟨hne1, hne2⟩ := str_list_ne (a := lab) (b := r) (fun e => hrl e.symm)
        rw [hh, decide_eq_false hrl, Bool.and_false] at hsu
        replace hown : Hid (Own 1 iv WE W0.heap.size 2 A m c (folE (es.take (k + 1)) ls lab s)) := by show Own _ _ _ _ _ _ _ _ _; rw [hsu]; simpa using hown.out
        clear hx hr hh hany hsb hsu hrl
        go_wp2_with fail
        go_roundw
        case rel => exact ⟨k + 1, m, c, A, by omega, rfl, by go_num, hm, hown, hbB.out⟩
        case measure => simp [intOf]; omega
    · have hkn : k = n3 := by omega
      have hall : es.take k = es := List.take_of_length_le (by rw [l3.out, hkn]; exact Nat.le_refl _)
      rw [hall] at hown
      have q1 := hide (sort_short A m c hm wr)
      have q2 := hide (compact_short A m c hm wr)
      clear t1 t2 t3
      go_wp2_with fail
      refine q1.out.mono ?_
      rintro e w1 ⟨rfl, rfl⟩
      go_wp2_with fail
      refine q2.out.mono ?_
      rintro e w1 ⟨rfl, rfl⟩
      go_wp2_with fail
      go_ret
      exact ⟨A, m, c, rfl, (hown.out.sl flat_iv).more (by omega) (Nat.le_refl _), hm, hwb⟩

set_option maxRecDepth 100000 in
set_option maxHeartbeats 800000 in
theorem step_calls (s0 s1 : Int) (A2 : Option Addr) (n2 k2 : Nat) (A3 : Option Addr) (n3 k3 : Nat) (s : Int) (lab : ByteArray) (ls : List ByteArray) (es : List Ed) (w : World) (lo hi : Nat)
    (t2 : SlS w lo hi A2 n2 ls) (t3 : SlE w lo hi A3 n3 es) (hes : n3 ≤ 1048576) (hval : detV (s0, s1, ls, es) = true) :
    Calls Tryz.prog 90 #[.agg #[.int .i64 s0, .int .i64 s1, .slice A2 n2 k2, .slice A3 n3 k3], .int .i64 s, .string lab] w fun e w' => e = .returned (.int .i64 (goE es ls lab s)) ∧ Below w.heap.size w w' := by
  have hlts : Hid (ltsV (s0, s1, ls, es) = true) := by unfold detV at hval; rw [Bool.and_eq_true] at hval; exact hval.1
  have hbW : Below w.heap.size w (w.alloc (.cells #[.int .i64 s0, .int .i64 s1, .slice A2 n2 k2, .slice A3 n3 k3] 33)) := (Below.refl _ _).alloc (Nat.le_refl _) _
  have hbW2 : Below w.heap.size w ((w.alloc (.cells #[.int .i64 s0, .int .i64 s1, .slice A2 n2 k2, .slice A3 n3 k3] 33)).alloc (.cells #[.int .i64 s] 2)) := hbW.alloc (by rw [World.size_alloc]; omega) _
  by_cases hs : s < 0
  · have hv : Hid (goE es ls lab s = -1) := goE_none (fol_neg hlts.out hs)
    replace hbW := hide hbW
    clear hbW2 t2 t3 hval
    go_enter Tryz.func90, Tryz.ntmps90
    go_wp2_with fail
    go_ret
    exact ⟨ret_i (by rw [hv.out]), hbW.out⟩
  have q := follow_calls s0 s1 A2 n2 k2 A3 n3 k3 (some ⟨(w.alloc (.cells #[.int .i64 s0, .int .i64 s1, .slice A2 n2 k2, .slice A3 n3 k3] 33)).heap.size, 0, none⟩) 1 s lab ls es _ lo hi 0 _ (t2.below hbW2 (.inr (Nat.le_refl _))) (t3.below hbW2 (.inr (Nat.le_refl _))) (Sl.lit1' _ 2 s _ rfl 1 _ rfl) hes hval
  rw [World.size_alloc] at q
  replace q := hide q
  have hbz := hbW2.size
  replace hbW2 := hide hbW2
  clear hbW t2 t3 hval
  go_enter Tryz.func90, Tryz.ntmps90
  go_wp2_with fail
  refine q.out.mono ?_
  rintro e w1 ⟨A, n, c, rfl, hsl, hn, hb⟩
  have hbw := hide (hbW2.out.trans (hb.mono hbz))
  have hlen := hsl.len
  clear hb q
  by_cases h0 : n = 0
  · have hv : Hid (goE es ls lab s = -1) := goE_none (List.eq_nil_of_length_eq_zero (by omega))
    subst h0
    clear hlen hsl
    go_wp2_with fail
    go_ret
    exact ⟨ret_i (by rw [hv.out]), hbw.out⟩
  · have h1 : n = 1 := by omega
    subst h1
    obtain ⟨b, off, x, rfl, -, -, -, hx, p0, -⟩ := SlI.get hsl (show 0 < 1 by omega)
    simp only [Nat.add_zero] at p0
    have hv : Hid (goE es ls lab s = x) := by
      show _ = _
      unfold goE
      cases hf : folE es ls lab s with
      | nil => rw [hf] at hx; simp at hx
      | cons a t => rw [hf] at hx; simpa using hx
    clear hlen hsl hx
    go_wp2_with fail
    go_ret
    exact ⟨ret_i (by rw [hv.out]), hbw.out⟩

end Go.Proofs.YtiaclddgllkgpaaGreatDoor

namespace Go.Proofs.YtiaclddgllkgpaaGreatDoor
open Go.ChangeShapes Go.WideShapes Go.ChangeAt Go.RowKit Go.Sort
set_option linter.unusedVariables false

def okA (l : List ByteArray) (k : Nat) : Bool := match l[k]? with
  | some s => actB s
  | none => true
def okInc (l : List ByteArray) (k : Nat) : Bool := match l[k]?, l[k - 1]? with
  | some s, some r => decide (k = 0) || sLess r s
  | _, _ => true
theorem okA_at {l : List ByteArray} {k : Nat} {s : ByteArray} (hx : l[k]? = some s) : okA l k = actB s := by unfold okA; rw [hx]
theorem okInc_zero {l : List ByteArray} : okInc l 0 = true := by unfold okInc; split <;> simp
theorem okInc_at {l : List ByteArray} {k : Nat} {s r : ByteArray} (hx : l[k]? = some s) (hk : 0 < k) (hy : l[k - 1]? = some r) : okInc l k = sLess r s := by
  unfold okInc
  rw [hx, hy]
  have : decide (k = 0) = false := decide_eq_false (by omega)
  simp only [this, Bool.false_or]
/-- Names of actions, rising, at most twelve. -/
def actsB (l : List ByteArray) : Bool := decide (l.length ≤ 12) && (allK (okA l) l.length && allK (okInc l) l.length)
def risesB (hi : Int) (l : List Int) : Bool := allK (okRise hi l) l.length
theorem okR_at {hi : Int} {l : List Int} {k : Nat} {x y : Int} (hx : l[k]? = some x) (hk : 0 < k) (hy : l[k - 1]? = some y) : okRise hi l k = (inB x 0 hi && decide (y < x)) := by
  unfold okRise
  rw [hx, hy]
  have : decide (k = 0) = false := decide_eq_false (by omega)
  simp only [this, Bool.false_or]
theorem okR_zero {hi : Int} {l : List Int} {x : Int} (hx : l[0]? = some x) : okRise hi l 0 = inB x 0 hi := by
  unfold okRise
  rw [hx]
  simp
theorem okR_bad {hi : Int} {l : List Int} {k : Nat} {x : Int} (hx : l[k]? = some x) (h : inB x 0 hi = false) : okRise hi l k = false := by
  unfold okRise
  rw [hx]
  simp only [h, Bool.false_and]

set_option maxHeartbeats 800000 in
theorem l11Actions_calls (A : Option Addr) (n c : Nat) (l : List ByteArray) (w : World) (lo hi : Nat) (h : SlS w lo hi A n l) (hn : n ≤ 1048576) (hs : ∀ s ∈ l, s.size ≤ 1048576) :
    Calls Tryz.prog 157 #[.slice A n c] w fun e w' => e = .returned (.bool (allK (okA l) n)) ∧ w = w' := by
  replace h := hide h
  replace hs := hide hs
  go_enter Tryz.func157, Tryz.ntmps157
  go_wp2
  go_loopw [3] (fun i wr => ∃ k : Nat, k ≤ n ∧ i = .int .i64 (k : Nat) ∧ Hid (∀ j, j < k → okA l j = true) ∧ wr = w) (fun i _ => n - (intOf i).toNat)
  case atStart => exact ⟨0, Nat.zero_le _, rfl, fun j hj => absurd hj (by omega), rfl⟩
  case round =>
    obtain ⟨k, hk, rfl, ha, rfl⟩ := hrel
    by_cases hlt : k < n
    · obtain ⟨b, off, x, rfl, -, -, -, hx, p0, -⟩ := SlS.get h.out hlt
      have q := l01Action_calls x wr (hs.out x (List.mem_of_getElem? hx))
      have hok := okA_at hx
      clear hx
      cases hact : actB x with
      | false =>
        rw [hact] at q hok
        have hv : Hid (allK (okA l) n = false) := allK_bad hlt hok
        replace q := hide q
        clear hact hok ha h
        go_wp2_with (first | (go_at_call 195; (with_reducible refine q.out.mono ?_); rintro e w1 ⟨rfl, rfl⟩))
        go_ret
        exact ⟨ret_b (by rw [hv.out]), rfl⟩
      | true =>
        rw [hact] at q hok
        have hnext : Hid (∀ j, j < k + 1 → okA l j = true) := lt_succ_cases ha.out hok
        replace q := hide q
        clear hact hok ha h
        go_wp2_with (first | (go_at_call 195; (with_reducible refine q.out.mono ?_); rintro e w1 ⟨rfl, rfl⟩))
        go_roundw
        case rel => exact ⟨k + 1, by omega, by go_num, hnext, trivial⟩
        case measure => simp [intOf]; omega
    · have hkn : k = n := by omega
      subst hkn
      have hv : Hid (allK (okA l) k = true) := allK_good ha.out
      clear ha
      go_wp2
      go_ret
      exact ⟨ret_b (by rw [hv.out]), rfl⟩

set_option maxRecDepth 100000 in
set_option maxHeartbeats 1600000 in
theorem l05Names_calls (A : Option Addr) (n c : Nat) (l : List ByteArray) (w : World) (lo hi : Nat) (h : SlS w lo hi A n l) (hn : n ≤ 1048576) (hs : ∀ s ∈ l, s.size ≤ 1048576) :
    Calls Tryz.prog 118 #[.slice A n c] w fun e w' => e = .returned (.bool (actsB l)) ∧ Below w.heap.size w w' := by
  have hlen := h.len
  have hval : actsB l = (decide (n ≤ 12) && (allK (okA l) n && allK (okInc l) n)) := by unfold actsB; rw [hlen]
  have q := l11Actions_calls A n c l w lo hi h hn hs
  by_cases h12 : n ≤ 12
  case neg =>
    rw [decide_eq_false h12] at hval
    have hv : Hid (actsB l = false) := hval
    have h12I : (12 : Int) < (n : Int) := by omega
    replace q := hide q
    clear hval hs hlen h h12
    go_enter Tryz.func118, Tryz.ntmps118
    go_wp2_with (first | (go_at_call 157; (with_reducible refine q.out.mono ?_); rintro e w1 ⟨rfl, rfl⟩))
    go_ret
    exact ⟨ret_b (by rw [hv.out]), Below.refl _ _⟩
  have h12I : ¬ (12 : Int) < (n : Int) := by omega
  rw [decide_eq_true h12, Bool.true_and] at hval
  cases h1 : allK (okA l) n with
  | false =>
    rw [h1] at q hval
    have hv : Hid (actsB l = false) := hval
    replace q := hide q
    clear hval hs hlen h h12 h1
    go_enter Tryz.func118, Tryz.ntmps118
    go_wp2_with (first | (go_at_call 157; (with_reducible refine q.out.mono ?_); rintro e w1 ⟨rfl, rfl⟩))
    go_ret
    exact ⟨ret_b (by rw [hv.out]), Below.refl _ _⟩
  | true =>
  rw [h1] at q
  rw [h1, Bool.true_and] at hval
  replace q := hide q
  replace hval := hide hval
  replace h := hide h
  clear hs hlen h1
  go_enter Tryz.func118, Tryz.ntmps118
  go_wp2_with (first | (go_at_call 157; (with_reducible refine q.out.mono ?_); rintro e w1 ⟨rfl, rfl⟩))
  go_loopw [3] (fun i wr => ∃ k : Nat, 1 ≤ k ∧ i = .int .i64 (k : Nat) ∧ Hid (k ≤ n + 1) ∧ Hid (∀ j, j < k → okInc l j = true) ∧ Below w.heap.size w wr) (fun i _ => n + 1 - (intOf i).toNat)
  case atStart => exact ⟨1, Nat.le_refl _, rfl, (show 1 ≤ n + 1 by omega), (fun j hj => by rw [show j = 0 by omega]; exact okInc_zero), Below.refl _ _⟩
  case round =>
    obtain ⟨k, hk1, rfl, hkn, ha, hb⟩ := hrel
    by_cases hlt : k < n
    · obtain ⟨b, off, x, rfl, -, -, g3, hx, p0, -⟩ := SlS.get h.out hlt
      obtain ⟨b', off', y, eA', -, -, -, hy, p1, -⟩ := SlS.get h.out (show k - 1 < n by omega)
      cases eA'
      have hok := okInc_at hx hk1 hy
      replace p0 := (hb.cell (p := ⟨b, off + k, none⟩) g3).trans p0
      replace p1 := (hb.cell (p := ⟨b, off + (k - 1), none⟩) g3).trans p1
      have f0 := fun d os => cell_regrown p0 d os
      have f1 := fun d os => cell_regrown p1 d os
      have hI0 : (0 : Int) ≤ (k : Int) := by omega
      have hI1 : (k : Int) < (n : Int) := by omega
      have hI2 : (0 : Int) ≤ (k : Int) - 1 := by omega
      have hI3 : (k : Int) - 1 < (n : Int) := by omega
      have hI4 : (1 : Int) ≤ (k : Int) := by omega
      have hI5 : ((k : Int) - 1).toNat = k - 1 := by omega
      have htot := bytesLess_total y.toList x.toList
      unfold sLess at hok
      clear hx hy p0 p1
      cases hsl : Op.bytesLess y.toList x.toList with
      | true =>
        rw [hsl] at hok
        have hnext : Hid (∀ j, j < k + 1 → okInc l j = true) := lt_succ_cases ha.out hok
        clear hok ha h
        go_wp2
        refine wp_region_quiet_below (by kernel_rfl) (by kernel_rfl) ?_
        repeat (go_big_quiet_step (fail))
        refine wpQuiet_nil ?_
        intro _ hw'
        obtain ⟨⟨dq, osq⟩, hw''⟩ := hw'
        subst hw''
        have hb2 := below_regrown wr dq osq
        generalize grow (redrawn wr dq) osq = wq at *
        clear f0 f1
        go_wp2
        go_roundw
        case rel => exact ⟨k + 1, by omega, by go_num, (show k + 1 ≤ n + 1 by omega), hnext, hb.trans (hb2.mono hb.size)⟩
        case measure => simp [intOf]; omega
      | false =>
        rw [hsl] at hok
        have hv : Hid (actsB l = false) := by show _ = _; rw [hval.out]; exact allK_bad hlt hok
        clear hok ha h
        go_wp2
        refine wp_region_quiet_below (by kernel_rfl) (by kernel_rfl) ?_
        repeat (go_big_quiet_step (fail))
        refine wpQuiet_nil ?_
        intro _ hw'
        obtain ⟨⟨dq, osq⟩, hw''⟩ := hw'
        subst hw''
        have hb2 := below_regrown wr dq osq
        generalize grow (redrawn wr dq) osq = wq at *
        clear f0 f1
        go_wp2
        go_ret
        exact ⟨ret_b (by rw [hv.out]), hb.trans (hb2.mono hb.size)⟩
    · have hv : Hid (actsB l = true) := by show _ = _; rw [hval.out]; exact allK_good fun j hj => ha.out j (by omega)
      clear ha h
      go_wp2
      go_ret
      exact ⟨ret_b (by rw [hv.out]), hb⟩

set_option maxRecDepth 100000 in
set_option maxHeartbeats 1600000 in
theorem l00Rises_calls (A : Option Addr) (n c : Nat) (l : List Int) (top : Int) (w : World) (lo hi : Nat) (h : SlI w lo hi A n l) (hn : n ≤ 1048576) :
    Calls Tryz.prog 117 #[.slice A n c, .int .i64 0, .int .i64 top] w fun e w' => e = .returned (.bool (risesB top l)) ∧ Below w.heap.size w w' := by
  have hlen := h.len
  have hval : Hid (risesB top l = allK (okRise top l) n) := by show _ = _; unfold risesB; rw [hlen]
  replace h := hide h
  clear hlen
  go_enter Tryz.func117, Tryz.ntmps117
  go_wp2
  go_loopw [7] (fun i wr => ∃ k : Nat, k ≤ n ∧ i = .int .i64 (k : Nat) ∧ Hid (∀ j, j < k → okRise top l j = true) ∧ Below w.heap.size w wr) (fun i _ => n - (intOf i).toNat)
  case atStart => exact ⟨0, Nat.zero_le _, rfl, fun j hj => absurd hj (by omega), Below.refl _ _⟩
  case round =>
    obtain ⟨k, hk, rfl, ha, hb⟩ := hrel
    by_cases hlt : k < n
    · obtain ⟨b, off, x, rfl, -, -, g3, hx, p0, -⟩ := SlI.get h.out hlt
      replace p0 := (hb.cell (p := ⟨b, off + k, none⟩) g3).trans p0
      have f0 := fun d os => cell_regrown p0 d os
      have q := same_regrown (w := wr) (l00In_calls x 0 top)
      have hI0 : (0 : Int) ≤ (k : Int) := by omega
      have hI1 : (k : Int) < (n : Int) := by omega
      have hprev : Hid (0 < k → ∃ y, l[k - 1]? = some y ∧ wr.cell? ⟨b, off + (k - 1), none⟩ = some (.int .i64 y)) := fun hk0 => by
        obtain ⟨b', off', y, eA, -, -, -, hy, u0, -⟩ := SlI.get h.out (show k - 1 < n by omega)
        cases eA
        exact ⟨y, hy, (hb.cell (p := ⟨b, off + (k - 1), none⟩) g3).trans u0⟩
      cases hin : inB x 0 top with
      | false =>
        simp only [hin] at q
        have hv : Hid (risesB top l = false) := by show _ = _; rw [hval.out]; exact allK_bad hlt (okR_bad hx hin)
        replace q := hide q
        clear hx ha h hprev p0 hin
        go_wp2
        refine wp_region_quiet_below (by kernel_rfl) (by kernel_rfl) ?_
        repeat (go_big_quiet_step (first | (with_reducible exact q.out _ _)))
        refine wpQuiet_nil ?_
        intro _ hw'
        obtain ⟨⟨dq, osq⟩, hw''⟩ := hw'
        subst hw''
        have hb2 := below_regrown wr dq osq
        generalize grow (redrawn wr dq) osq = wq at *
        go_wp2
        go_ret
        exact ⟨ret_b (by rw [hv.out]), hb.trans (hb2.mono hb.size)⟩
      | true =>
      simp only [hin] at q
      replace q := hide q
      by_cases hk0 : 0 < k
      · obtain ⟨y, hy, u0⟩ := hprev.out hk0
        have f1 := fun d os => cell_regrown u0 d os
        have hok := okR_at (hi := top) hx hk0 hy
        rw [hin, Bool.true_and] at hok
        have hlI : (0 : Int) < (k : Int) := by omega
        have hlJ : decide ((0 : Int) < (k : Int)) = true := decide_eq_true hlI
        have hI2 : (0 : Int) ≤ (k : Int) - 1 := by omega
        have hI4 : (1 : Int) ≤ (k : Int) := by omega
        have hI3 : (k : Int) - 1 < (n : Int) := by omega
        have hI5 : ((k : Int) - 1).toNat = k - 1 := by omega
        clear hx hy hprev h p0 u0 hin
        by_cases hxy : y < x
        · have hnext : Hid (∀ j, j < k + 1 → okRise top l j = true) := lt_succ_cases ha.out (by rw [hok, decide_eq_true hxy])
          have hle : ¬ x ≤ y := by omega
          have hleJ : decide (x ≤ y) = false := decide_eq_false hle
          clear hok ha hxy
          go_wp2
          refine wp_region_quiet_below (by kernel_rfl) (by kernel_rfl) ?_
          repeat (go_big_quiet_step (first | (with_reducible exact q.out _ _)))
          refine wpQuiet_nil ?_
          intro _ hw'
          obtain ⟨⟨dq, osq⟩, hw''⟩ := hw'
          subst hw''
          have hb2 := below_regrown wr dq osq
          generalize grow (redrawn wr dq) osq = wq at *
          clear f0 f1
          go_wp2
          go_roundw
          case rel => exact ⟨k + 1, by omega, by go_num, hnext, hb.trans (hb2.mono hb.size)⟩
          case measure => simp [intOf]; omega
        · have hv : Hid (risesB top l = false) := by show _ = _; rw [hval.out]; exact allK_bad hlt (by rw [hok, decide_eq_false hxy])
          have hle : x ≤ y := by omega
          have hleJ : decide (x ≤ y) = true := decide_eq_true hle
          clear hok ha hxy
          go_wp2
          refine wp_region_quiet_below (by kernel_rfl) (by kernel_rfl) ?_
          repeat (go_big_quiet_step (first | (with_reducible exact q.out _ _)))
          refine wpQuiet_nil ?_
          intro _ hw'
          obtain ⟨⟨dq, osq⟩, hw''⟩ := hw'
          subst hw''
          have hb2 := below_regrown wr dq osq
          generalize grow (redrawn wr dq) osq = wq at *
          clear f0 f1
          go_wp2
          go_ret
          exact ⟨ret_b (by rw [hv.out]), hb.trans (hb2.mono hb.size)⟩
      · have hk00 : k = 0 := by omega
        subst hk00
        have hnext : Hid (∀ j, j < 0 + 1 → okRise top l j = true) := lt_succ_cases ha.out (by rw [okR_zero hx, hin])
        simp only [Nat.add_zero] at p0
        replace f0 := fun d os => cell_regrown p0 d os
        clear hx hprev h p0 ha hin
        go_wp2
        refine wp_region_quiet_below (by kernel_rfl) (by kernel_rfl) ?_
        repeat (go_big_quiet_step (first | (with_reducible exact q.out _ _)))
        refine wpQuiet_nil ?_
        intro _ hw'
        obtain ⟨⟨dq, osq⟩, hw''⟩ := hw'
        subst hw''
        have hb2 := below_regrown wr dq osq
        generalize grow (redrawn wr dq) osq = wq at *
        clear f0
        go_wp2
        go_roundw
        case rel => exact ⟨0 + 1, by omega, by go_num, hnext, hb.trans (hb2.mono hb.size)⟩
        case measure => simp [intOf]; omega
    · have hkn : k = n := by omega
      subst hkn
      have hv : Hid (risesB top l = true) := by show _ = _; rw [hval.out]; exact allK_good ha.out
      clear ha h
      go_wp2
      go_ret
      exact ⟨ret_b (by rw [hv.out]), hb⟩

end Go.Proofs.YtiaclddgllkgpaaGreatDoor

namespace Go.Proofs.YtiaclddgllkgpaaGreatDoor
open Go.ChangeShapes Go.WideShapes Go.ChangeAt Go.RowKit Go.Sort
set_option linter.unusedVariables false

def plantV (d : DL × List Int × List ByteArray) : Bool := detV d.1 && (risesB (d.1.1 - 1) d.2.1 && actsB d.2.2)

set_option maxHeartbeats 800000 in
theorem l29Free_calls (bt : Nat) (x : CL) (d : DL) (w : World) (h : LtsAt w bt x d) :
    Calls Tryz.prog 83 #[.pointer (some ⟨bt, 0, none⟩)] w fun e w' => e = .returned (.bool (detV d)) ∧ Below w.heap.size w w' := by
  have qa := l11Is_calls bt x d w h
  have qb := fun W (hW : Below w.heap.size w W) => l11Single_calls bt x d W (h.below hW (Nat.le_refl _))
  have hval : detV d = (ltsV d && detB d.2.2.2) := rfl
  clear h
  cases h1 : ltsV d with
  | false =>
    rw [h1] at qa hval
    have hv : Hid (detV d = false) := hval
    replace qa := hide qa
    clear qb hval h1
    go_enter Tryz.func83, Tryz.ntmps83
    go_wp2_with fail
    refine qa.out.mono ?_
    rintro e w1 ⟨rfl, hb⟩
    go_wp2_with fail
    go_ret
    exact ⟨ret_b (by rw [hv.out]), hb⟩
  | true =>
    rw [h1] at qa hval
    have hv : Hid (detV d = detB d.2.2.2) := hval
    replace qa := hide qa
    replace qb := hide qb
    clear hval h1
    go_enter Tryz.func83, Tryz.ntmps83
    go_wp2_with fail
    refine qa.out.mono ?_
    rintro e w1 ⟨rfl, hb⟩
    go_wp2_with fail
    refine (qb.out _ hb).mono ?_
    rintro e w2 ⟨rfl, hb2⟩
    go_wp2_with fail
    go_ret
    exact ⟨ret_b (by rw [hv.out]), hb.trans (hb2.mono hb.size)⟩

set_option maxRecDepth 100000 in
set_option maxHeartbeats 1600000 in
theorem l29Is_calls (bm : Nat) (x : CL) (A4 A5 : Option Addr) (n4 k4 n5 k5 : Nat) (d : DL) (vs : List Int) (ns : List ByteArray) (w : World) (h : LtsAt w bm x d) (hc4 : w.cell? ⟨bm, 4, none⟩ = some (.slice A4 n4 k4)) (hc5 : w.cell? ⟨bm, 5, none⟩ = some (.slice A5 n5 k5))
    (hn4 : n4 ≤ 1048576) (hn5 : n5 ≤ 1048576) (hs5 : ∀ s ∈ ns, s.size ≤ 1048576) (t4 : SlI w 0 w.heap.size A4 n4 vs) (t5 : SlS w 0 w.heap.size A5 n5 ns) :
    Calls Tryz.prog 65 #[.pointer (some ⟨bm, 0, none⟩)] w fun e w' => e = .returned (.bool (plantV (d, vs, ns))) ∧ Below w.heap.size w w' := by
  have qa : ∀ d' os, Calls Tryz.prog 83 #[.pointer (some ⟨bm, 0, none⟩)] (grow (redrawn w d') os) (fun e w'' => e = .returned (.bool (detV d)) ∧ ∃ p : Regrown, w'' = grow (redrawn w p.d) p.os) := fun d' os => Calls.regrown_of (l29Free_calls bm x d _ (h.below (below_regrown w d' os) (Nat.le_refl _)))
  have qb : ∀ d' os, Calls Tryz.prog 117 #[.slice A4 n4 k4, .int .i64 0, .int .i64 (x.1 - 1)] (grow (redrawn w d') os) (fun e w'' => e = .returned (.bool (risesB (x.1 - 1) vs)) ∧ ∃ p : Regrown, w'' = grow (redrawn w p.d) p.os) := fun d' os => Calls.regrown_of (l00Rises_calls A4 n4 k4 vs (x.1 - 1) _ _ _ (t4.below (below_regrown w d' os) (.inr (Nat.le_refl _))) hn4)
  have qc : ∀ d' os, Calls Tryz.prog 118 #[.slice A5 n5 k5] (grow (redrawn w d') os) (fun e w'' => e = .returned (.bool (actsB ns)) ∧ ∃ p : Regrown, w'' = grow (redrawn w p.d) p.os) := fun d' os => Calls.regrown_of (l05Names_calls A5 n5 k5 ns _ _ _ (t5.below (below_regrown w d' os) (.inr (Nat.le_refl _))) hn5 hs5)
  have hval : plantV (d, vs, ns) = (detV d && (risesB (d.1 - 1) vs && actsB ns)) := rfl
  obtain ⟨s0, s1, v2, v3⟩ := x
  obtain ⟨st, ini, ls, es⟩ := d
  obtain ⟨⟨e0, -, -, -⟩, -, hbm, c0, -, -, -⟩ := h
  dsimp only at *
  subst e0
  have f0 := fun d os => cell_regrown c0 d os
  have f4 := fun d os => cell_regrown hc4 d os
  have f5 := fun d os => cell_regrown hc5 d os
  clear t4 t5 hs5
  cases h1 : detV (s0, ini, ls, es) with
  | false =>
    rw [h1] at hval
    simp only [h1] at qa
    have hv : Hid (plantV ((s0, ini, ls, es), vs, ns) = false) := hval
    replace qa := hide qa
    clear qb qc hval h1
    go_enter Tryz.func65, Tryz.ntmps65
    go_wp2
    refine wp_region_quiet_below (by kernel_rfl) (by kernel_rfl) ?_
    repeat (go_big_quiet_step (first | (with_reducible exact qa.out _ _)))
    refine wpQuiet_nil ?_
    intro _ hw'
    obtain ⟨⟨dq, osq⟩, hw''⟩ := hw'
    subst hw''
    have hbq := below_regrown w dq osq
    generalize grow (redrawn w dq) osq = wq at *
    go_wp2
    go_ret
    exact ⟨ret_b (by rw [hv.out]), hbq⟩
  | true =>
  rw [h1] at hval
  simp only [h1] at qa
  replace qa := hide qa
  have hst : inB s0 1 40 = true := by
    unfold detV at h1
    rw [Bool.and_eq_true] at h1
    have h2 := h1.1
    unfold ltsV ltsB at h2
    simp only [Bool.and_eq_true] at h2
    exact h2.1.1.1.1
  have hst1 := (inB_true.1 hst).1
  have hst2 := (inB_true.1 hst).2
  clear h1 hst
  cases h2 : risesB (s0 - 1) vs with
  | false =>
    rw [h2] at hval
    simp only [h2] at qb
    have hv : Hid (plantV ((s0, ini, ls, es), vs, ns) = false) := hval
    replace qb := hide qb
    clear qc hval h2
    go_enter Tryz.func65, Tryz.ntmps65
    go_wp2
    refine wp_region_quiet_below (by kernel_rfl) (by kernel_rfl) ?_
    repeat (go_big_quiet_step (first | (with_reducible exact qa.out _ _) | (with_reducible exact qb.out _ _)))
    refine wpQuiet_nil ?_
    intro _ hw'
    obtain ⟨⟨dq, osq⟩, hw''⟩ := hw'
    subst hw''
    have hbq := below_regrown w dq osq
    generalize grow (redrawn w dq) osq = wq at *
    go_wp2
    go_ret
    exact ⟨ret_b (by rw [hv.out]), hbq⟩
  | true =>
  rw [h2] at hval
  simp only [h2] at qb
  have hv : Hid (plantV ((s0, ini, ls, es), vs, ns) = actsB ns) := hval
  replace qb := hide qb
  replace qc := hide qc
  clear hval h2
  go_enter Tryz.func65, Tryz.ntmps65
  go_wp2
  refine wp_region_quiet_below (by kernel_rfl) (by kernel_rfl) ?_
  repeat (go_big_quiet_step (first | (with_reducible exact qa.out _ _) | (with_reducible exact qb.out _ _) | (with_reducible exact qc.out _ _)))
  refine wpQuiet_nil ?_
  intro _ hw'
  obtain ⟨⟨dq, osq⟩, hw''⟩ := hw'
  subst hw''
  have hbq := below_regrown w dq osq
  generalize grow (redrawn w dq) osq = wq at *
  go_wp2
  go_ret
  exact ⟨ret_b (by rw [hv.out]), hbq⟩

end Go.Proofs.YtiaclddgllkgpaaGreatDoor

namespace Go.Proofs.YtiaclddgllkgpaaGreatDoor
open Go.ChangeShapes Go.WideShapes Go.ChangeAt Go.RowKit Go.Sort
set_option linter.unusedVariables false

set_option maxRecDepth 100000 in
set_option maxHeartbeats 1600000 in
theorem namesOk_calls (A : Option Addr) (n c : Nat) (l : List ByteArray) (w : World) (lo hi : Nat) (h : SlS w lo hi A n l) (hn : n ≤ 1048576) (hs : ∀ s ∈ l, s.size ≤ 1048576) :
    Calls Tryz.prog 67 #[.slice A n c] w fun e w' => e = .returned (.bool (actsB l)) ∧ w = w' := by
  have hlen := h.len
  have hval : Hid (actsB l = (decide (n ≤ 12) && (allK (okA l) n && allK (okInc l) n))) := by show _ = _; unfold actsB; rw [hlen]
  replace h := hide h
  replace hs := hide hs
  clear hlen
  go_enter Tryz.func67, Tryz.ntmps67
  go_wp2
  go_loopw [7] (fun i wr => ∃ k : Nat, k ≤ n ∧ i = .int .i64 (k : Nat) ∧ Hid (∀ j, j < k → okA l j = true) ∧ Hid (∀ j, j < k → okInc l j = true) ∧ wr = w) (fun i _ => n - (intOf i).toNat)
  case atStart => exact ⟨0, Nat.zero_le _, rfl, fun j hj => absurd hj (by omega), fun j hj => absurd hj (by omega), rfl⟩
  case round =>
    obtain ⟨k, hk, rfl, ha, ha2, rfl⟩ := hrel
    by_cases hlt : k < n
    · obtain ⟨b, off, x, rfl, -, -, g3, hx, p0, -⟩ := SlS.get h.out hlt
      have q := isAction_calls x wr (hs.out x (List.mem_of_getElem? hx))
      have hok := okA_at hx
      have hprev : Hid (0 < k → ∃ y, l[k - 1]? = some y ∧ wr.cell? ⟨b, off + (k - 1), none⟩ = some (.string y)) := fun hk0 => by
        obtain ⟨b', off', y, eA, -, -, -, hy, u0, -⟩ := SlS.get h.out (show k - 1 < n by omega)
        cases eA
        exact ⟨y, hy, u0⟩
      cases hact : actB x with
      | false =>
        rw [hact] at q hok
        have hv : Hid (actsB l = false) := by show _ = _; rw [hval.out, allK_bad hlt hok]; simp
        replace q := hide q
        clear hact hok ha ha2 h hx hprev
        go_wp2_with (first | (go_at_call 119; (with_reducible refine q.out.mono ?_); rintro e w1 ⟨rfl, rfl⟩))
        go_ret
        exact ⟨ret_b (by rw [hv.out]), rfl⟩
      | true =>
        rw [hact] at q hok
        have hnext : Hid (∀ j, j < k + 1 → okA l j = true) := lt_succ_cases ha.out hok
        replace q := hide q
        clear hact hok ha
        by_cases hk0 : 0 < k
        · obtain ⟨y, hy, u0⟩ := hprev.out hk0
          have hok2 := okInc_at hx hk0 hy
          have hlI : (0 : Int) < (k : Int) := by omega
          have hI2 : (0 : Int) ≤ (k : Int) - 1 := by omega
          have hI4 : (1 : Int) ≤ (k : Int) := by omega
          have hI3 : (k : Int) - 1 < (n : Int) := by omega
          have hI5 : ((k : Int) - 1).toNat = k - 1 := by omega
          have htot := bytesLess_total y.toList x.toList
          have htot2 := bytesLess_total x.toList y.toList
          unfold sLess at hok2
          clear hx hy hprev h
          cases hsl : Op.bytesLess y.toList x.toList with
          | true =>
            rw [hsl] at hok2
            have hnext2 : Hid (∀ j, j < k + 1 → okInc l j = true) := lt_succ_cases ha2.out hok2
            rw [hsl] at htot2
            have hA : Op.bytesLess x.toList y.toList = false := by cases hh : Op.bytesLess x.toList y.toList <;> simp [hh] at htot2 ⊢
            have hB : (x.toList == y.toList) = false := by cases hh : (x.toList == y.toList) <;> simp [hh] at htot2 ⊢
            clear hok2 ha2 htot htot2 hsl
            go_wp2_with (first | (go_at_call 119; (with_reducible refine q.out.mono ?_); rintro e w1 ⟨rfl, rfl⟩))
            go_roundw
            case rel => exact ⟨k + 1, by omega, by go_num, hnext, hnext2, trivial⟩
            case measure => simp [intOf]; omega
          | false =>
            rw [hsl] at hok2
            have hv : Hid (actsB l = false) := by show _ = _; rw [hval.out, allK_bad (p := okInc l) hlt hok2]; simp
            rw [hsl] at htot2
            cases hA : Op.bytesLess x.toList y.toList with
            | true =>
              clear hok2 ha2 htot htot2 hsl
              go_wp2_with (first | (go_at_call 119; (with_reducible refine q.out.mono ?_); rintro e w1 ⟨rfl, rfl⟩))
              go_ret
              exact ⟨ret_b (by rw [hv.out]), rfl⟩
            | false =>
              have hB : (x.toList == y.toList) = true := by cases hh : (x.toList == y.toList) <;> simp [hh, hA] at htot2 ⊢
              clear hok2 ha2 htot htot2 hsl
              go_wp2_with (first | (go_at_call 119; (with_reducible refine q.out.mono ?_); rintro e w1 ⟨rfl, rfl⟩))
              go_ret
              exact ⟨ret_b (by rw [hv.out]), rfl⟩
        · have hk00 : k = 0 := by omega
          subst hk00
          have hnext2 : Hid (∀ j, j < 0 + 1 → okInc l j = true) := lt_succ_cases ha2.out okInc_zero
          simp only [Nat.add_zero] at p0
          clear hx hprev h ha2
          go_wp2_with (first | (go_at_call 119; (with_reducible refine q.out.mono ?_); rintro e w1 ⟨rfl, rfl⟩))
          go_roundw
          case rel => exact ⟨0 + 1, by omega, by go_num, hnext, hnext2, trivial⟩
          case measure => simp [intOf]; omega
    · have hkn : k = n := by omega
      by_cases h12 : n ≤ 12
      · have hv : Hid (actsB l = true) := by show _ = _; rw [hval.out, decide_eq_true h12, allK_good (fun j hj => ha.out j (by omega)), allK_good (fun j hj => ha2.out j (by omega))]; rfl
        have h12I : (n : Int) ≤ 12 := by omega
        clear ha ha2 h
        go_wp2
        go_ret
        first | exact ⟨ret_b (by rw [hv.out]), rfl⟩ | exact ⟨ret_b (by rw [hv.out]; simp [h12I]), rfl⟩
      · have hv : Hid (actsB l = false) := by show _ = _; rw [hval.out, decide_eq_false h12]; rfl
        have h12I : ¬ (n : Int) ≤ 12 := by omega
        clear ha ha2 h
        go_wp2
        go_ret
        first | exact ⟨ret_b (by rw [hv.out]), rfl⟩ | exact ⟨ret_b (by rw [hv.out]; simp [h12I]), rfl⟩

end Go.Proofs.YtiaclddgllkgpaaGreatDoor

namespace Go.Proofs.YtiaclddgllkgpaaGreatDoor
open Go.ChangeShapes Go.WideShapes Go.ChangeAt Go.RowKit Go.Sort
set_option linter.unusedVariables false

set_option maxRecDepth 100000 in
set_option maxHeartbeats 1600000 in
theorem statesOk_calls (s0 s1 : Int) (A2 : Option Addr) (n2 k2 : Nat) (A3 : Option Addr) (n3 k3 : Nat) (A : Option Addr) (n c : Nat) (l : List Int) (w : World) (lo hi : Nat) (h : SlI w lo hi A n l) (hn : n ≤ 1048576) (h1 : 1 ≤ s0) (h2 : s0 ≤ 40) :
    Calls Tryz.prog 66 #[.agg #[.int .i64 s0, .int .i64 s1, .slice A2 n2 k2, .slice A3 n3 k3], .slice A n c] w fun e w' => e = .returned (.bool (risesB (s0 - 1) l)) ∧ Below w.heap.size w w' := by
  have hlen := h.len
  have hval : Hid (risesB (s0 - 1) l = allK (okRise (s0 - 1) l) n) := by show _ = _; unfold risesB; rw [hlen]
  have hW0 := hide (show Below w.heap.size w (w.alloc (.cells #[.int .i64 s0, .int .i64 s1, .slice A2 n2 k2, .slice A3 n3 k3] 33)) from (Below.refl _ _).alloc (Nat.le_refl _) _)
  have kE := heap_alloc_new w (.cells #[.int .i64 s0, .int .i64 s1, .slice A2 n2 k2, .slice A3 n3 k3] 33)
  have hbt : w.heap.size < (w.alloc (.cells #[.int .i64 s0, .int .i64 s1, .slice A2 n2 k2, .slice A3 n3 k3] 33)).heap.size := by rw [World.size_alloc]; omega
  replace h := hide h
  clear hlen
  go_enter Tryz.func66, Tryz.ntmps66
  go_upto_region 2 with fail
  have c0 : (w.alloc (.cells #[.int .i64 s0, .int .i64 s1, .slice A2 n2 k2, .slice A3 n3 k3] 33)).cell? ⟨w.heap.size, 0, none⟩ = some (.int .i64 s0) := (cell_of_row _ _ 0 _ _ (0, 0) kE).trans rfl
  have c1 : (w.alloc (.cells #[.int .i64 s0, .int .i64 s1, .slice A2 n2 k2, .slice A3 n3 k3] 33)).cell? ⟨w.heap.size, 1, none⟩ = some (.int .i64 s1) := (cell_of_row _ _ 1 _ _ (0, 0) kE).trans rfl
  have c2 : (w.alloc (.cells #[.int .i64 s0, .int .i64 s1, .slice A2 n2 k2, .slice A3 n3 k3] 33)).cell? ⟨w.heap.size, 2, none⟩ = some (.slice A2 n2 k2) := (cell_of_row _ _ 2 _ _ (0, 0) kE).trans rfl
  have c3 : (w.alloc (.cells #[.int .i64 s0, .int .i64 s1, .slice A2 n2 k2, .slice A3 n3 k3] 33)).cell? ⟨w.heap.size, 3, none⟩ = some (.slice A3 n3 k3) := (cell_of_row _ _ 3 _ _ (0, 0) kE).trans rfl
  clear kE
  generalize hWW : (w.alloc (.cells #[.int .i64 s0, .int .i64 s1, .slice A2 n2 k2, .slice A3 n3 k3] 33)) = W0 at *
  clear hWW
  have hbt1 : w.heap.size + 1 ≤ W0.heap.size := hbt
  go_loopw [9] (fun i wr => ∃ k : Nat, k ≤ n ∧ i = .int .i64 (k : Nat) ∧ Hid (∀ j, j < k → okRise (s0 - 1) l j = true) ∧ Below (w.heap.size + 1) W0 wr) (fun i _ => n - (intOf i).toNat)
  case atStart => exact ⟨0, Nat.zero_le _, rfl, fun j hj => absurd hj (by omega), Below.refl _ _⟩
  case round =>
    obtain ⟨k, hk, rfl, ha, hb⟩ := hrel
    have hwb := hW0.out.trans (hb.mono (Nat.le_succ _))
    have hws := hb.size
    by_cases hlt : k < n
    · obtain ⟨b, off, x, rfl, -, -, g3, hx, p0, -⟩ := SlI.get h.out hlt
      replace p0 := (hwb.cell (p := ⟨b, off + k, none⟩) g3).trans p0
      have y0 := (hb.cell (p := ⟨w.heap.size, 0, none⟩) (Nat.lt_succ_self _)).trans c0
      have y1 := (hb.cell (p := ⟨w.heap.size, 1, none⟩) (Nat.lt_succ_self _)).trans c1
      have y2 := (hb.cell (p := ⟨w.heap.size, 2, none⟩) (Nat.lt_succ_self _)).trans c2
      have y3 := (hb.cell (p := ⟨w.heap.size, 3, none⟩) (Nat.lt_succ_self _)).trans c3
      have q := isState_calls s0 s1 x (.slice A2 n2 k2) (.slice A3 n3 k3) wr h1 h2
      have hprev : Hid (0 < k → ∃ y, l[k - 1]? = some y ∧ wr.cell? ⟨b, off + (k - 1), none⟩ = some (.int .i64 y)) := fun hk0 => by
        obtain ⟨b', off', y, eA, -, -, -, hy, u0, -⟩ := SlI.get h.out (show k - 1 < n by omega)
        cases eA
        exact ⟨y, hy, (hwb.cell (p := ⟨b, off + (k - 1), none⟩) g3).trans u0⟩
      have g3r : b < wr.heap.size := Nat.lt_of_lt_of_le g3 hwb.size
      replace hb := hide hb
      replace hwb := hide hwb
      clear c0 c1 c2 c3
      cases hin : inB x 0 (s0 - 1) with
      | false =>
        rw [hin] at q
        have hv : Hid (risesB (s0 - 1) l = false) := by show _ = _; rw [hval.out]; exact allK_bad hlt (okR_bad hx hin)
        replace q := hide q
        clear hin ha h hx hprev
        go_wp2_with fail
        refine q.out.mono ?_
        rintro e w1 ⟨rfl, hb1⟩
        replace hb1 := hide hb1
        go_wp2_with fail
        go_ret
        exact ⟨ret_b (by rw [hv.out]), hwb.out.trans (hb1.out.mono hwb.out.size)⟩
      | true =>
        rw [hin] at q
        replace q := hide q
        by_cases hk0 : 0 < k
        · obtain ⟨y, hy, u0⟩ := hprev.out hk0
          have hok2 := okR_at (hi := s0 - 1) hx hk0 hy
          rw [hin, Bool.true_and] at hok2
          have hlI : (0 : Int) < (k : Int) := by omega
          have hI2 : (0 : Int) ≤ (k : Int) - 1 := by omega
          have hI4 : (1 : Int) ≤ (k : Int) := by omega
          have hI3 : (k : Int) - 1 < (n : Int) := by omega
          have hI5 : ((k : Int) - 1).toNat = k - 1 := by omega
          clear hx hy hprev h hin
          by_cases hxy : y < x
          · rw [decide_eq_true hxy] at hok2
            have hnext : Hid (∀ j, j < k + 1 → okRise (s0 - 1) l j = true) := lt_succ_cases ha.out hok2
            have hle : ¬ x ≤ y := by omega
            clear hok2 ha hxy
            go_wp2_with fail
            refine q.out.mono ?_
            rintro e w1 ⟨rfl, hb1⟩
            have v0 := (hb1.cell (p := ⟨b, off + (k - 1), none⟩) g3r).trans u0
            replace hb1 := hide hb1
            go_wp2_with fail
            go_roundw
            case rel => exact ⟨k + 1, by omega, by go_num, hnext, hb.out.trans (hb1.out.mono (by omega))⟩
            case measure => simp [intOf]; omega
          · rw [decide_eq_false hxy] at hok2
            have hv : Hid (risesB (s0 - 1) l = false) := by show _ = _; rw [hval.out]; exact allK_bad hlt hok2
            have hle : x ≤ y := by omega
            clear hok2 ha hxy
            go_wp2_with fail
            refine q.out.mono ?_
            rintro e w1 ⟨rfl, hb1⟩
            have v0 := (hb1.cell (p := ⟨b, off + (k - 1), none⟩) g3r).trans u0
            replace hb1 := hide hb1
            go_wp2_with fail
            go_ret
            exact ⟨ret_b (by rw [hv.out]), hwb.out.trans (hb1.out.mono hwb.out.size)⟩
        · have hk00 : k = 0 := by omega
          subst hk00
          have hnext : Hid (∀ j, j < 0 + 1 → okRise (s0 - 1) l j = true) := lt_succ_cases ha.out (by rw [okR_zero hx, hin])
          simp only [Nat.add_zero] at p0
          clear hx hprev h ha hin
          go_wp2_with fail
          refine q.out.mono ?_
          rintro e w1 ⟨rfl, hb1⟩
          replace hb1 := hide hb1
          go_wp2_with fail
          go_roundw
          case rel => exact ⟨0 + 1, by omega, by go_num, hnext, hb.out.trans (hb1.out.mono (by omega))⟩
          case measure => simp [intOf]; omega
    · have hkn : k = n := by omega
      subst hkn
      have hv : Hid (risesB (s0 - 1) l = true) := by show _ = _; rw [hval.out]; exact allK_good ha.out
      clear ha h
      go_wp2_with fail
      go_ret
      exact ⟨ret_b (by rw [hv.out]), hwb⟩

set_option maxRecDepth 100000 in
set_option maxHeartbeats 1600000 in
theorem plant_calls (x : CL) (A4 A5 : Option Addr) (n4 k4 n5 k5 : Nat) (d : DL) (vs : List Int) (ns : List ByteArray) (w : World) (lo hi : Nat) (h : ReadL w lo hi x d) (t4 : SlI w lo hi A4 n4 vs) (t5 : SlS w lo hi A5 n5 ns)
    (hn4 : n4 ≤ 1048576) (hn5 : n5 ≤ 1048576) (hs5 : ∀ s ∈ ns, s.size ≤ 1048576) (htot : totL d ≤ 1048576) (he : Env w) :
    Calls Tryz.prog 22 #[.agg #[.int .i64 x.1, .int .i64 x.2.1, x.2.2.1, x.2.2.2, .slice A4 n4 k4, .slice A5 n5 k5]] w fun e w' => e = .returned (.bool (plantV (d, vs, ns))) ∧ Below w.heap.size w w' := by
  have hbW : Below w.heap.size w (w.alloc (.cells #[.int .i64 x.1, .int .i64 x.2.1, x.2.2.1, x.2.2.2, .slice A4 n4 k4, .slice A5 n5 k5] 44)) := (Below.refl _ _).alloc (Nat.le_refl _) _
  have qa := isDet_calls x d _ lo hi (h.below hbW (.inr (Nat.le_refl _))) htot (he.below hbW (Nat.le_refl _))
  have hval : plantV (d, vs, ns) = (detV d && (risesB (d.1 - 1) vs && actsB ns)) := rfl
  obtain ⟨s0, s1, v2, v3⟩ := x
  obtain ⟨st, ini, ls, es⟩ := d
  obtain ⟨e0, e1, ⟨A2, n2, k2, e2, hn2, hs2, t2⟩, ⟨A3, n3, k3, e3, hn3, t3⟩⟩ := h
  dsimp only at *
  subst e0 e1 e2 e3
  have qb := fun (h1 : 1 ≤ s0) (h2 : s0 ≤ 40) W (hW : Below w.heap.size w W) => statesOk_calls s0 s1 A2 n2 k2 A3 n3 k3 A4 n4 k4 vs W lo hi (t4.below hW (.inr (Nat.le_refl _))) hn4 h1 h2
  have qc := fun W (hW : Below w.heap.size w W) => namesOk_calls A5 n5 k5 ns W lo hi (t5.below hW (.inr (Nat.le_refl _))) hn5 hs5
  have kE := heap_alloc_new w (.cells #[.int .i64 s0, .int .i64 s1, .slice A2 n2 k2, .slice A3 n3 k3, .slice A4 n4 k4, .slice A5 n5 k5] 44)
  have hbt : w.heap.size < (w.alloc (.cells #[.int .i64 s0, .int .i64 s1, .slice A2 n2 k2, .slice A3 n3 k3, .slice A4 n4 k4, .slice A5 n5 k5] 44)).heap.size := by rw [World.size_alloc]; omega
  clear t2 t3 t4 t5 hs5 htot he hn2 hn3 hs2
  have c0 : (w.alloc (.cells #[.int .i64 s0, .int .i64 s1, .slice A2 n2 k2, .slice A3 n3 k3, .slice A4 n4 k4, .slice A5 n5 k5] 44)).cell? ⟨w.heap.size, 0, none⟩ = some (.int .i64 s0) := (cell_of_row _ _ 0 _ _ (0, 0) kE).trans rfl
  have c1 : (w.alloc (.cells #[.int .i64 s0, .int .i64 s1, .slice A2 n2 k2, .slice A3 n3 k3, .slice A4 n4 k4, .slice A5 n5 k5] 44)).cell? ⟨w.heap.size, 1, none⟩ = some (.int .i64 s1) := (cell_of_row _ _ 1 _ _ (0, 0) kE).trans rfl
  have c2 : (w.alloc (.cells #[.int .i64 s0, .int .i64 s1, .slice A2 n2 k2, .slice A3 n3 k3, .slice A4 n4 k4, .slice A5 n5 k5] 44)).cell? ⟨w.heap.size, 2, none⟩ = some (.slice A2 n2 k2) := (cell_of_row _ _ 2 _ _ (0, 0) kE).trans rfl
  have c3 : (w.alloc (.cells #[.int .i64 s0, .int .i64 s1, .slice A2 n2 k2, .slice A3 n3 k3, .slice A4 n4 k4, .slice A5 n5 k5] 44)).cell? ⟨w.heap.size, 3, none⟩ = some (.slice A3 n3 k3) := (cell_of_row _ _ 3 _ _ (0, 0) kE).trans rfl
  have c4 : (w.alloc (.cells #[.int .i64 s0, .int .i64 s1, .slice A2 n2 k2, .slice A3 n3 k3, .slice A4 n4 k4, .slice A5 n5 k5] 44)).cell? ⟨w.heap.size, 4, none⟩ = some (.slice A4 n4 k4) := (cell_of_row _ _ 4 _ _ (0, 0) kE).trans rfl
  have c5 : (w.alloc (.cells #[.int .i64 s0, .int .i64 s1, .slice A2 n2 k2, .slice A3 n3 k3, .slice A4 n4 k4, .slice A5 n5 k5] 44)).cell? ⟨w.heap.size, 5, none⟩ = some (.slice A5 n5 k5) := (cell_of_row _ _ 5 _ _ (0, 0) kE).trans rfl
  cases h1 : detV (s0, s1, ls, es) with
  | false =>
    rw [h1] at qa hval
    have hv : Hid (plantV ((s0, s1, ls, es), vs, ns) = false) := hval
    replace qa := hide qa
    replace hbW := hide hbW
    clear qb qc hval h1 kE
    go_enter Tryz.func22, Tryz.ntmps22
    go_wp2_with fail
    refine qa.out.mono ?_
    rintro e w1 ⟨rfl, hb1⟩
    replace hb1 := hide hb1
    go_wp2_with fail
    go_ret
    exact ⟨ret_b (by rw [hv.out]), hbW.out.trans (hb1.out.mono hbW.out.size)⟩
  | true =>
  have hst : inB s0 1 40 = true := by
    unfold detV at h1
    rw [Bool.and_eq_true] at h1
    have h2 := h1.1
    unfold ltsV ltsB at h2
    simp only [Bool.and_eq_true] at h2
    exact h2.1.1.1.1
  replace qb := qb (inB_true.1 hst).1 (inB_true.1 hst).2
  rw [h1] at qa hval
  replace qa := hide qa
  clear h1 hst
  cases h2 : risesB (s0 - 1) vs with
  | false =>
    rw [h2] at hval
    simp only [h2] at qb
    have hv : Hid (plantV ((s0, s1, ls, es), vs, ns) = false) := hval
    replace qb := hide qb
    clear qc hval h2
    go_enter Tryz.func22, Tryz.ntmps22
    go_wp2_with fail
    refine qa.out.mono ?_
    rintro e w1 ⟨rfl, hb1⟩
    replace kE := (hb1.block _ hbt).trans kE
    replace hbW := hbW.trans (hb1.mono hbW.size)
    clear c0 c1 c2 c3 c4 c5 hb1
    have c0 : w1.cell? ⟨w.heap.size, 0, none⟩ = some (.int .i64 s0) := (cell_of_row _ _ 0 _ _ (0, 0) kE).trans rfl
    have c1 : w1.cell? ⟨w.heap.size, 1, none⟩ = some (.int .i64 s1) := (cell_of_row _ _ 1 _ _ (0, 0) kE).trans rfl
    have c2 : w1.cell? ⟨w.heap.size, 2, none⟩ = some (.slice A2 n2 k2) := (cell_of_row _ _ 2 _ _ (0, 0) kE).trans rfl
    have c3 : w1.cell? ⟨w.heap.size, 3, none⟩ = some (.slice A3 n3 k3) := (cell_of_row _ _ 3 _ _ (0, 0) kE).trans rfl
    have c4 : w1.cell? ⟨w.heap.size, 4, none⟩ = some (.slice A4 n4 k4) := (cell_of_row _ _ 4 _ _ (0, 0) kE).trans rfl
    clear kE
    go_wp2_with fail
    refine (qb.out _ hbW).mono ?_
    rintro e w2 ⟨rfl, hb2⟩
    replace hbW := hide (hbW.trans (hb2.mono hbW.size))
    clear hb2 c0 c1 c2 c3 c4
    go_wp2_with fail
    go_ret
    exact ⟨ret_b (by rw [hv.out]), hbW.out⟩
  | true =>
  rw [h2] at hval
  simp only [h2] at qb
  have hv : Hid (plantV ((s0, s1, ls, es), vs, ns) = actsB ns) := hval
  replace qb := hide qb
  replace qc := hide qc
  clear hval h2
  go_enter Tryz.func22, Tryz.ntmps22
  go_wp2_with fail
  refine qa.out.mono ?_
  rintro e w1 ⟨rfl, hb1⟩
  replace kE := (hb1.block _ hbt).trans kE
  replace hbW := hbW.trans (hb1.mono hbW.size)
  replace hbt := Nat.lt_of_lt_of_le hbt hb1.size
  clear c0 c1 c2 c3 c4 c5 hb1
  have c0 : w1.cell? ⟨w.heap.size, 0, none⟩ = some (.int .i64 s0) := (cell_of_row _ _ 0 _ _ (0, 0) kE).trans rfl
  have c1 : w1.cell? ⟨w.heap.size, 1, none⟩ = some (.int .i64 s1) := (cell_of_row _ _ 1 _ _ (0, 0) kE).trans rfl
  have c2 : w1.cell? ⟨w.heap.size, 2, none⟩ = some (.slice A2 n2 k2) := (cell_of_row _ _ 2 _ _ (0, 0) kE).trans rfl
  have c3 : w1.cell? ⟨w.heap.size, 3, none⟩ = some (.slice A3 n3 k3) := (cell_of_row _ _ 3 _ _ (0, 0) kE).trans rfl
  have c4 : w1.cell? ⟨w.heap.size, 4, none⟩ = some (.slice A4 n4 k4) := (cell_of_row _ _ 4 _ _ (0, 0) kE).trans rfl
  go_wp2_with fail
  refine (qb.out _ hbW).mono ?_
  rintro e w2 ⟨rfl, hb2⟩
  replace kE := (hb2.block _ hbt).trans kE
  replace hbW := hbW.trans (hb2.mono hbW.size)
  clear hb2 c0 c1 c2 c3 c4
  have c5 : w2.cell? ⟨w.heap.size, 5, none⟩ = some (.slice A5 n5 k5) := (cell_of_row _ _ 5 _ _ (0, 0) kE).trans rfl
  clear kE
  go_wp2_with fail
  refine (qc.out _ hbW).mono ?_
  rintro e w3 ⟨rfl, rfl⟩
  replace hbW := hide hbW
  go_wp2_with fail
  go_ret
  exact ⟨ret_b (by rw [hv.out]), hbW.out⟩

end Go.Proofs.YtiaclddgllkgpaaGreatDoor

namespace Go.Proofs.YtiaclddgllkgpaaGreatDoor
open Go.ChangeShapes Go.WideShapes Go.ChangeAt Go.RowKit Go.Sort
set_option linter.unusedVariables false

theorem totS_size {l : List ByteArray} {m : Nat} (h : totS l ≤ m) : ∀ s ∈ l, s.size ≤ m := fun s hs => by
  have h1 : s.size ≤ (l.map (·.size)).sum := mem_le_sum (List.mem_map.2 ⟨s, hs, rfl⟩)
  simp only [totS] at h
  omega
theorem totS_len {l : List ByteArray} {m : Nat} (h : totS l ≤ m) : l.length ≤ m := by
  simp only [totS] at h
  omega
/-- A plant that was copied, taken apart. -/
structure PlantAt (w : World) (lo hi : Nat) (x : CL) (A4 : Option Addr) (n4 k4 : Nat) (A5 : Option Addr) (n5 k5 : Nat) (d : DP) : Prop where
  sys : ReadL w lo hi x d.1
  marks : SlI w lo hi A4 n4 d.2.1
  names : SlS w lo hi A5 n5 d.2.2
  len4 : n4 ≤ 1048576
  len5 : n5 ≤ 1048576
  sizes : ∀ s ∈ d.2.2, s.size ≤ 1048576
  tot : totL d.1 ≤ 1048576
theorem FreshP.open_ {v : Value} {d : DP} {w : World} {lo hi : Nat} (h : FreshP w lo hi v d) : ∃ x A4 n4 k4 A5 n5 k5, v = .agg #[.int .i64 x.1, .int .i64 x.2.1, x.2.2.1, x.2.2.2, .slice A4 n4 k4, .slice A5 n5 k5] ∧ PlantAt w lo hi x A4 n4 k4 A5 n5 k5 d := by
  obtain ⟨⟨x, v4, v5, rfl, hL, a0, a1⟩, ht⟩ := h
  obtain ⟨A4, n4, k4, rfl, t4⟩ := a0.long
  obtain ⟨A5, n5, k5, rfl, -, -, t5⟩ := a1
  have hl4 := t4.len
  have hl5 := t5.len
  simp only [totP] at ht
  have h5 := totS_len (l := d.2.2) (m := 1048576) (by omega)
  exact ⟨x, A4, n4, k4, A5, n5, k5, rfl, hL, t4, t5, by omega, by omega, totS_size (by omega), by omega⟩

set_option maxHeartbeats 800000 in
theorem specValidPlant_u {v : Value} {d : DP} {w : World} {lo hi : Nat} (he : Env w) (h : FreshP w lo hi v d) (hh : hi ≤ w.heap.size) :
    Calls Tryz.prog 20 #[v] w fun e w' => e = .returned (.bool (plantV d)) ∧ Below w.heap.size w w' := by
  obtain ⟨⟨s0, s1, v2, v3⟩, A4, n4, k4, A5, n5, k5, rfl, hp⟩ := h.open_
  obtain ⟨dl, vs, ns⟩ := d
  obtain ⟨hL, t4, t5, h4, h5, hs, ht⟩ := hp
  dsimp only at *
  have hb0 : Below w.heap.size w (w.alloc (.cells #[.int .i64 s0, .int .i64 s1, v2, v3, .slice A4 n4 k4, .slice A5 n5 k5] 44)) := (Below.refl _ _).alloc (Nat.le_refl _) _
  have k0 := heap_alloc_new w (.cells #[.int .i64 s0, .int .i64 s1, v2, v3, .slice A4 n4 k4, .slice A5 n5 k5] 44)
  have hz : w.heap.size < (w.alloc (.cells #[.int .i64 s0, .int .i64 s1, v2, v3, .slice A4 n4 k4, .slice A5 n5 k5] 44)).heap.size := by rw [World.size_alloc]; omega
  have hat : LtsAt (w.alloc (.cells #[.int .i64 s0, .int .i64 s1, v2, v3, .slice A4 n4 k4, .slice A5 n5 k5] 44)) w.heap.size (s0, s1, v2, v3) dl :=
    ⟨(hL.below hb0 (.inr (Nat.le_refl _))).more (Nat.zero_le _) (by omega), by omega, hz, (cell_of_row _ _ 0 _ _ (0, 0) k0).trans rfl, (cell_of_row _ _ 1 _ _ (0, 0) k0).trans rfl, (cell_of_row _ _ 2 _ _ (0, 0) k0).trans rfl, (cell_of_row _ _ 3 _ _ (0, 0) k0).trans rfl⟩
  have q := hide (l29Is_calls w.heap.size (s0, s1, v2, v3) A4 A5 n4 k4 n5 k5 dl vs ns _ hat ((cell_of_row _ _ 4 _ _ (0, 0) k0).trans rfl) ((cell_of_row _ _ 5 _ _ (0, 0) k0).trans rfl) h4 h5 hs ((t4.below hb0 (.inr (Nat.le_refl _))).more (Nat.zero_le _) (by omega)) ((t5.below hb0 (.inr (Nat.le_refl _))).more (Nat.zero_le _) (by omega)))
  replace hb0 := hide hb0
  clear k0 hz hat hL t4 t5 h
  go_enter Tryz.func20, Tryz.ntmps20
  go_wp2_with fail
  refine q.out.mono ?_
  rintro e w1 ⟨rfl, hb⟩
  go_wp2_with fail
  go_ret
  exact ⟨rfl, hb0.out.trans (hb.mono hb0.out.size)⟩

theorem implValidPlant_u {v : Value} {d : DP} {w : World} {lo hi : Nat} (he : Env w) (h : FreshP w lo hi v d) (hh : hi ≤ w.heap.size) :
    Calls Tryz.prog 22 #[v] w fun e w' => e = .returned (.bool (plantV d)) ∧ Below w.heap.size w w' := by
  obtain ⟨x, A4, n4, k4, A5, n5, k5, rfl, hp⟩ := h.open_
  obtain ⟨dl, vs, ns⟩ := d
  exact plant_calls x A4 A5 n4 k4 n5 k5 dl vs ns w lo hi hp.sys hp.marks hp.names hp.len4 hp.len5 hp.sizes hp.tot he

set_option maxRecDepth 100000 in
theorem open_P {H : Type} {enc : TypeId × Value → H} {w : World} {base wbase : Nat} {spare : Nat → Bool} {held : Bool} {v : Value} {d : DataW H} {p : List MemPlace} {w0 : World} {r0 : Reach} (hw : Value.okWide Tryz.prog w0 r0 wbase 40 v)
    (h : DataW.Trod enc Tryz.prog w base spare held 40 v d p) (hz : ∀ b off, MemPlace.cell b off ∈ p → w.frozen? ⟨b, off, none⟩ = false) : ∃ x, ArgP w base w.heap.size v x := by
  obtain ⟨cs, rfl, hsz⟩ := okWide_struct Tryz.underlying40 hw
  obtain ⟨fuel, hf⟩ := h
  have hsz6 : cs.size = 6 := hsz
  have hf' : DataW.trod enc Tryz.prog w base spare held fuel 40 cs.toList = some (d, p) := hf
  obtain ⟨cs⟩ := cs
  match cs, hsz6 with
  | [k0, k1, k2, k3, k4, k5], _ =>
    obtain ⟨m0, y0, t0, p0⟩ := fieldN Tryz.underlying40 hf' 0 _ rfl
    obtain ⟨m1, y1, t1, p1⟩ := fieldN Tryz.underlying40 hf' 1 _ rfl
    obtain ⟨m2, y2, t2, p2⟩ := fieldN Tryz.underlying40 hf' 2 _ rfl
    have e0 : (([k0, k1, k2, k3, k4, k5] : List Value).drop 0).take (Tryz.prog.cellsOf 25) = [k0, k1, k2, k3] := by rw [show Tryz.prog.cellsOf 25 = 4 by kernel_rfl]; rfl
    have e1 : (([k0, k1, k2, k3, k4, k5] : List Value).drop 4).take (Tryz.prog.cellsOf 26) = [k4] := by rw [show Tryz.prog.cellsOf 26 = 1 by kernel_rfl]; rfl
    have e2 : (([k0, k1, k2, k3, k4, k5] : List Value).drop 5).take (Tryz.prog.cellsOf 22) = [k5] := by rw [show Tryz.prog.cellsOf 22 = 1 by kernel_rfl]; rfl
    have t0' : DataW.trod enc Tryz.prog w base spare held m0 25 [k0, k1, k2, k3] = some y0 := by rw [← e0]; exact t0
    have t1' : DataW.trod enc Tryz.prog w base spare held m1 26 [k4] = some y1 := by rw [← e1]; exact t1
    have t2' : DataW.trod enc Tryz.prog w base spare held m2 22 [k5] = some y2 := by rw [← e2]; exact t2
    obtain ⟨x, d0, ex, r0⟩ := read_L t0' (fun b off hp => hz b off (p0 _ hp))
    obtain ⟨d1, r1⟩ := read_I Tryz.underlying26 (by kernel_rfl) Tryz.underlying2 t1' (fun b off hp => hz b off (p1 _ hp))
    obtain ⟨d2, r2⟩ := read_S Tryz.underlying22 (by kernel_rfl) Tryz.underlying9 t2' (fun b off hp => hz b off (p2 _ hp))
    injection ex with ex0 ex
    injection ex with ex1 ex
    injection ex with ex2 ex
    injection ex with ex3 ex
    subst ex0 ex1 ex2 ex3
    exact ⟨(d0, d1, d2), x, k4, k5, rfl, r0, r1, r2⟩

end Go.Proofs.YtiaclddgllkgpaaGreatDoor
