/-
  Several texts in one:
  Edges by a label in deterministic systems: at most one. Conditions: none.
  Sorting and compacting lists of at most one number; finding a number in a list. Conditions: sizes.
-/
import Derived.Test.YthlaoedpjloloaaGreatDoorBaseC
import Derived.Test.YthlaoedpjloloaaGreatDoorBaseD
namespace Go.Proofs.YthlaoedpjloloaaGreatDoor
open Go.ChangeShapes Go.WideShapes Go.ChangeAt Go.RowKit Go.Sort
set_option linter.unusedVariables false

theorem pair_of_next {α : Type} (R : α → α → Prop) (tr : ∀ a b c, R a b → R b c → R a c) : ∀ (l : List α), (∀ k x y, l[k]? = some x → l[k + 1]? = some y → R x y) → l.Pairwise R
  | [], _ => List.Pairwise.nil
  | [a], _ => by simp
  | a :: b :: l, h => by
    have ih := pair_of_next R tr (b :: l) fun k x y hx hy => h (k + 1) x y (by simpa using hx) (by simpa using hy)
    have hab : R a b := h 0 a b rfl rfl
    refine List.pairwise_cons.2 ⟨fun c hc => ?_, ih⟩
    rcases List.mem_cons.1 hc with rfl | hc
    · exact hab
    · exact tr _ _ _ hab ((List.pairwise_cons.1 ih).1 c hc)
theorem bytesLess_irrefl : ∀ a : List UInt8, Op.bytesLess a a = false
  | [] => rfl
  | x :: a => by
    have : ¬ x < x := by rw [UInt8.lt_iff_toNat_lt]; omega
    simp [Op.bytesLess, this, bytesLess_irrefl a]
theorem bytesLess_trans : ∀ {a b c : List UInt8}, Op.bytesLess a b = true → Op.bytesLess b c = true → Op.bytesLess a c = true
  | [], [], _, h, _ => by simp [Op.bytesLess] at h
  | [], _ :: _, [], _, h => by simp [Op.bytesLess] at h
  | [], _ :: _, _ :: _, _, _ => by simp [Op.bytesLess]
  | _ :: _, [], _, h, _ => by simp [Op.bytesLess] at h
  | _ :: _, _ :: _, [], _, h => by simp [Op.bytesLess] at h
  | x :: a, y :: b, z :: c, h, g => by
    simp only [Op.bytesLess, Bool.or_eq_true, decide_eq_true_eq, Bool.and_eq_true, beq_iff_eq] at h g ⊢
    rw [UInt8.lt_iff_toNat_lt] at h g ⊢
    rcases h with h | ⟨rfl, h⟩
    · rcases g with g | ⟨rfl, g⟩
      · exact .inl (by omega)
      · exact .inl h
    · rcases g with g | ⟨rfl, g⟩
      · exact .inl g
      · exact .inr ⟨rfl, bytesLess_trans h g⟩

/-- The list of labels has none twice. -/
theorem labs_uniq {ls : List ByteArray} (h : namesB ls = true) {i j : Nat} {x : ByteArray} (hi : ls[i]? = some x) (hj : ls[j]? = some x) : i = j := by
  unfold namesB at h
  rw [Bool.and_eq_true] at h
  have hall : ∀ k, k < ls.length → okL ls k = true := fun k hk => allK_get h.2 hk
  have hlt : ∀ {k : Nat} {y : ByteArray}, ls[k]? = some y → k < ls.length := fun hk => (List.getElem?_eq_some_iff.1 hk).1
  have tau : ∀ {k : Nat} {y : ByteArray}, ls[k]? = some y → (y = tauB ↔ k = 0) := by
    intro k y hy
    have hk := hall k (hlt hy)
    by_cases h0 : k = 0
    · subst h0
      rw [okL_zero hy] at hk
      exact ⟨fun _ => rfl, fun _ => by simpa using hk⟩
    · have hr : ls[k - 1]? = some (ls[k - 1]'(by have := hlt hy; omega)) := List.getElem?_eq_getElem _
      rw [okL_at hy (by omega) hr] at hk
      simp only [Bool.and_eq_true, Bool.not_eq_true', decide_eq_false_iff_not] at hk
      exact ⟨fun e => absurd e hk.1.2, fun e => absurd e h0⟩
  have up : ls.tail.Pairwise fun a b => Op.bytesLess a.toList b.toList = true := by
    refine pair_of_next (fun a b : ByteArray => Op.bytesLess a.toList b.toList = true) (fun _ _ _ h g => bytesLess_trans h g) _ fun k a b ha hb => ?_
    rw [List.getElem?_tail] at ha hb
    have hk := hall (k + 2) (hlt hb)
    rw [okL_at hb (by omega) (by simpa using ha)] at hk
    simp only [Bool.and_eq_true, Bool.or_eq_true, decide_eq_true_eq] at hk
    rcases hk.2 with h1 | h1
    · omega
    · exact h1
  have key : ∀ {i j : Nat} {x : ByteArray}, ls[i]? = some x → ls[j]? = some x → 0 < i → i < j → False := by
    intro i j x hi hj h0 hij
    have e1 : ls.tail[i - 1]? = some x := by rw [List.getElem?_tail, show i - 1 + 1 = i by omega]; exact hi
    have e2 : ls.tail[j - 1]? = some x := by rw [List.getElem?_tail, show j - 1 + 1 = j by omega]; exact hj
    obtain ⟨l1, e1⟩ := List.getElem?_eq_some_iff.1 e1
    obtain ⟨l2, e2⟩ := List.getElem?_eq_some_iff.1 e2
    have := List.pairwise_iff_getElem.1 up (i - 1) (j - 1) l1 l2 (by omega)
    rw [e1, e2, bytesLess_irrefl] at this
    cases this
  by_cases h0 : i = 0
  · exact h0.trans ((tau hj).1 ((tau hi).2 h0)).symm
  · have h1 : j ≠ 0 := fun e => h0 ((tau hi).1 ((tau hj).2 e))
    rcases Nat.lt_trichotomy i j with h2 | h2 | h2
    · exact (key hi hj (by omega) h2).elim
    · exact h2
    · exact (key hj hi (by omega) h2).elim

/-- The edge leads from the state by the label. -/
def hitE (ls : List ByteArray) (lab : ByteArray) (s : Int) (e : Ed) : Bool := decide (e.1 = s) && (match ls[e.2.1.toNat]? with | some r => decide (r = lab) | none => false)
def folE (es : List Ed) (ls : List ByteArray) (lab : ByteArray) (s : Int) : List Int := (es.filter (hitE ls lab s)).map (·.2.2)
def goE (es : List Ed) (ls : List ByteArray) (lab : ByteArray) (s : Int) : Int := (folE es ls lab s).headD (-1)
theorem hitE_at {ls : List ByteArray} {lab r : ByteArray} {s f lb tg : Int} (hr : ls[lb.toNat]? = some r) : hitE ls lab s (f, lb, tg) = (decide (f = s) && decide (r = lab)) := by
  unfold hitE
  simp only [hr]
theorem folE_succ {es : List Ed} {k : Nat} {e : Ed} {ls : List ByteArray} {lab : ByteArray} {s : Int} (hx : es[k]? = some e) : folE (es.take (k + 1)) ls lab s = folE (es.take k) ls lab s ++ (if hitE ls lab s e then [e.2.2] else []) := by
  unfold folE
  rw [List.take_add_one, hx, List.filter_append, List.map_append]
  congr 1
  by_cases h : hitE ls lab s e = true <;> simp [h]
theorem folE_sub (es : List Ed) (ls : List ByteArray) (lab : ByteArray) (s : Int) (k : Nat) : (folE (es.take k) ls lab s).length ≤ (folE es ls lab s).length := by
  unfold folE
  simp only [List.length_map]
  exact ((List.take_sublist k es).filter _).length_le
/-- What the edges of a valid system are. -/
theorem edge_of {st ini : Int} {ls : List ByteArray} {es : List Ed} (h : ltsV (st, ini, ls, es) = true) {k : Nat} {f lb tg : Int} (hx : es[k]? = some (f, lb, tg)) :
    (0 ≤ f ∧ f ≤ st - 1) ∧ (0 ≤ tg ∧ tg ≤ st - 1) ∧ 0 ≤ lb ∧ lb ≤ (ls.length : Int) - 1 := by
  unfold ltsV ltsB at h
  simp only [Bool.and_eq_true] at h
  have hk := allK_get h.2.2 (List.getElem?_eq_some_iff.1 hx).1
  unfold okEd at hk
  simp only [hx, Bool.and_eq_true] at hk
  exact ⟨inB_true.1 hk.1.1.1, inB_true.1 hk.1.1.2, inB_true.1 hk.1.2⟩
theorem names_of {st ini : Int} {ls : List ByteArray} {es : List Ed} (h : ltsV (st, ini, ls, es) = true) : namesB ls = true := by
  unfold ltsV ltsB at h
  simp only [Bool.and_eq_true] at h
  unfold namesB
  rw [Bool.and_eq_true]
  exact ⟨h.1.1.2, h.2.1⟩
theorem det_pair {st ini : Int} {ls : List ByteArray} {es : List Ed} (h : detV (st, ini, ls, es) = true) : es.Pairwise fun a b => a.1 < b.1 ∨ (a.1 = b.1 ∧ a.2.1 < b.2.1) := by
  unfold detV at h
  rw [Bool.and_eq_true] at h
  obtain ⟨h, g⟩ := h
  refine pair_of_next _ (fun a b c h g => ?_) _ fun k a b ha hb => ?_
  · rcases h with h | ⟨h1, h2⟩
    · rcases g with g | ⟨g1, g2⟩
      · exact .inl (by omega)
      · exact .inl (by omega)
    · rcases g with g | ⟨g1, g2⟩
      · exact .inl (by omega)
      · exact .inr ⟨by omega, by omega⟩
  · obtain ⟨a1, a2, a3⟩ := a
    obtain ⟨b1, b2, b3⟩ := b
    unfold ltsV ltsB at h
    simp only [Bool.and_eq_true] at h
    have hlt := (List.getElem?_eq_some_iff.1 hb).1
    have hk := allK_get h.2.2 hlt
    have hd := allK_get g hlt
    have ha' : es[k + 1 - 1]? = some (a1, a2, a3) := ha
    unfold okEd at hk
    have e0 : decide (k + 1 = 0) = false := by simp
    simp only [hb, ha', e0, Bool.false_or, Bool.and_eq_true] at hk
    rw [okD_at hb (by omega) ha'] at hd
    simp only [Bool.and_eq_true, Bool.not_eq_true', Bool.and_eq_false_iff, decide_eq_false_iff_not] at hd
    have he := hk.2
    unfold edLess at he
    dsimp only at he ⊢
    by_cases h1 : a1 = b1
    · by_cases h2 : a2 = b2
      · rcases hd.2 with h3 | h3
        · exact absurd h1 h3
        · exact absurd h2 h3
      · simp [h1, h2] at he
        exact .inr ⟨h1, he⟩
    · simp [h1] at he
      exact .inl he
theorem fol_one {st ini : Int} {ls : List ByteArray} {es : List Ed} (h : detV (st, ini, ls, es) = true) (lab : ByteArray) (s : Int) : (folE es ls lab s).length ≤ 1 := by
  have hp := det_pair h
  unfold detV at h
  rw [Bool.and_eq_true] at h
  have hpos : ∀ e ∈ es, 0 ≤ e.2.1 := fun e he => by
    obtain ⟨k, hk⟩ := List.getElem?_of_mem he
    exact (edge_of h.1 hk).2.2.1
  have hn := names_of h.1
  unfold folE
  rw [List.length_map]
  have hq := hp.filter (hitE ls lab s)
  have hm : ∀ e ∈ es.filter (hitE ls lab s), e ∈ es ∧ hitE ls lab s e = true := fun e he => List.mem_filter.1 he
  generalize es.filter (hitE ls lab s) = l at hq hm
  match l, hq, hm with
  | [], _, _ => simp
  | [a], _, _ => simp
  | a :: b :: l, hq, hm =>
    exfalso
    have h1 := (List.pairwise_cons.1 hq).1 b (by simp)
    obtain ⟨ma, ha⟩ := hm a (by simp)
    obtain ⟨mb, hb⟩ := hm b (by simp)
    have pa := hpos a ma
    have pb := hpos b mb
    unfold hitE at ha hb
    rw [Bool.and_eq_true, decide_eq_true_eq] at ha hb
    cases xa : ls[a.2.1.toNat]? with
    | none => simp [xa] at ha
    | some ra =>
      cases xb : ls[b.2.1.toNat]? with
      | none => simp [xb] at hb
      | some rb =>
        simp only [xa, decide_eq_true_eq] at ha
        simp only [xb, decide_eq_true_eq] at hb
        have := labs_uniq hn (xa.trans (by rw [ha.2])) (xb.trans (by rw [hb.2]))
        rcases h1 with h1 | ⟨_, h1⟩ <;> omega

theorem lts_boundsB {st ini : Int} {ls : List ByteArray} {es : List Ed} (h : ltsV (st, ini, ls, es) = true) : (1 ≤ st ∧ st ≤ 40) ∧ (0 ≤ ini ∧ ini ≤ st - 1) := by
  unfold ltsV ltsB at h
  simp only [Bool.and_eq_true] at h
  exact ⟨inB_true.1 h.1.1.1.1, inB_true.1 h.1.1.1.2⟩

end Go.Proofs.YthlaoedpjloloaaGreatDoor

namespace Go.Proofs.YthlaoedpjloloaaGreatDoor
open Go.ChangeShapes Go.WideShapes Go.ChangeAt Go.RowKit Go.Sort
set_option linter.unusedVariables false

set_option maxRecDepth 100000 in
theorem indexI_calls (v : Int) (A : Option Addr) (n c : Nat) (l : List Int) (w : World) (lo hi : Nat) (h : SlI w lo hi A n l) (hn : n ≤ 1048576) :
    Calls Tryz.prog 163 #[.slice A n c, .int .i64 v] w fun e w' => ∃ i : Int, e = .returned (.int .i64 i) ∧ decide (0 ≤ i) = l.any (fun x => decide (x = v)) ∧ w = w' := by
  have hlen := hide h.len
  go_enter Tryz.func163, Tryz.ntmps163
  go_wp2
  go_loop [8] (fun i => ∃ k : Nat, k ≤ n ∧ i = .int .i64 k ∧ Hid ((l.take k).any (fun x => decide (x = v)) = false)) (fun i => n - (intOf i).toNat)
  case atStart => exact ⟨0, Nat.zero_le _, rfl, rfl⟩
  case round =>
    obtain ⟨k, hk, rfl, ha⟩ := hrel
    by_cases hlt : k < n
    · obtain ⟨b, off, x, rfl, g1, g2, g3, hx, c0, -⟩ := SlI.get h hlt
      clear h
      by_cases hq : x = v
      · have hy := hide (any_hit (G := fun x => decide (x = v)) hx (decide_eq_true hq))
        subst hq
        clear hx
        go_wp2
        go_ret
        exact ⟨_, rfl, by rw [hy.out]; simp, rfl⟩
      · have hy := hide (any_take_succ ha.out hx (decide_eq_false hq))
        have hne : (v == x) = false := by rw [beq_eq_false_iff_ne]; exact fun e => hq e.symm
        clear hx hq
        go_wp2
        go_round
        case rel => exact ⟨k + 1, by omega, by go_num, hy⟩
        case measure => simp [intOf]; omega
    · have hkn : k = n := by omega
      subst hkn
      clear h
      go_wp2
      go_ret
      have hy := ha.out
      rw [List.take_of_length_le (by rw [hlen.out]; exact Nat.le_refl _)] at hy
      exact ⟨_, rfl, by rw [hy]; decide, rfl⟩
theorem containsI_calls (v : Int) (A : Option Addr) (n c : Nat) (l : List Int) (w : World) (lo hi : Nat) (h : SlI w lo hi A n l) (hn : n ≤ 1048576) :
    Calls Tryz.prog 131 #[.slice A n c, .int .i64 v] w fun e w' => e = .returned (.bool (l.any (fun x => decide (x = v)))) ∧ w = w' := by
  have q := hide (indexI_calls v A n c l w lo hi h hn)
  clear h
  go_enter Tryz.func131, Tryz.ntmps131
  go_wp2_with fail
  refine q.out.mono ?_
  rintro e w1 ⟨i, rfl, hi, rfl⟩
  replace hi := hide hi
  go_wp2_with fail
  go_ret
  exact ⟨ret_b hi.out.symm, rfl⟩

theorem len64_short (n : Nat) (hn : n ≤ 1) (w : World) : Calls Tryz.prog 151 #[.int .u64 (n : Int)] w fun e w' => e = .returned (.int .i64 (n : Int)) ∧ w = w' := by
  have h : n = 0 ∨ n = 1 := by omega
  rcases h with rfl | rfl
  · go_enter Tryz.func151, Tryz.ntmps151
    go_wp2
    go_ret
    exact ⟨ret_i (by decide +kernel), rfl⟩
  · go_enter Tryz.func151, Tryz.ntmps151
    go_wp2
    go_ret
    exact ⟨ret_i (by decide +kernel), rfl⟩
theorem len_short (n : Nat) (hn : n ≤ 1) (w : World) : Calls Tryz.prog 125 #[.int .u64 (n : Int)] w fun e w' => e = .returned (.int .i64 (n : Int)) ∧ w = w' := by
  have q := hide (len64_short n hn w)
  have h : n = 0 ∨ n = 1 := by omega
  rcases h with rfl | rfl
  · go_enter Tryz.func125, Tryz.ntmps125
    go_wp2_with fail
    refine q.out.mono ?_
    rintro e w1 ⟨rfl, rfl⟩
    go_wp2_with fail
    go_ret
    exact ⟨rfl, rfl⟩
  · go_enter Tryz.func125, Tryz.ntmps125
    go_wp2_with fail
    refine q.out.mono ?_
    rintro e w1 ⟨rfl, rfl⟩
    go_wp2_with fail
    go_ret
    exact ⟨rfl, rfl⟩
theorem insert_short (A : Option Addr) (n c : Nat) (hn : n ≤ 1) (w : World) : Calls Tryz.prog 187 #[.slice A n c, .int .i64 0, .int .i64 (n : Int)] w fun e w' => e = .returned (.tuple #[]) ∧ w = w' := by
  have h1 : ¬ (1 : Int) < (n : Int) := by omega
  go_enter Tryz.func187, Tryz.ntmps187
  go_wp2
  go_loopw [6] (fun i wr => i = .int .i64 1 ∧ wr = w) (fun i _ => 0)
  case atStart => exact ⟨rfl, rfl⟩
  case round =>
    obtain ⟨rfl, rfl⟩ := hrel
    go_wp2
    go_returns
    exact ⟨rfl, rfl⟩
theorem pdq_short (A : Option Addr) (n c : Nat) (m : Int) (hn : n ≤ 1) (w : World) : Calls Tryz.prog 164 #[.slice A n c, .int .i64 0, .int .i64 (n : Int), .int .i64 m] w fun e w' => e = .returned (.tuple #[]) ∧ w = w' := by
  have q := hide (insert_short A n c hn w)
  have h1 : (n : Int) ≤ 12 := by omega
  go_enter Tryz.func164, Tryz.ntmps164
  go_wp2
  go_loopw [1, 2] (fun a b wr => a = .int .i64 0 ∧ b = .int .i64 (n : Int) ∧ wr = w) (fun _ _ _ => 0)
  case atStart => exact ⟨rfl, rfl, rfl⟩
  case round =>
    obtain ⟨rfl, rfl, rfl⟩ := hrel
    go_wp2_with fail
    refine q.out.mono ?_
    rintro e w1 ⟨rfl, rfl⟩
    go_wp2_with fail
    go_returns
    exact ⟨rfl, rfl⟩
theorem sort_short (A : Option Addr) (n c : Nat) (hn : n ≤ 1) (w : World) : Calls Tryz.prog 132 #[.slice A n c] w fun e w' => e = .returned (.tuple #[]) ∧ w = w' := by
  have q := hide (len_short n hn w)
  have q1 := hide (fun m => pdq_short A n c m hn w)
  have h1 : (n : Int) ≤ 1 := by omega
  go_enter Tryz.func132, Tryz.ntmps132
  go_wp2_with fail
  refine q.out.mono ?_
  rintro e w1 ⟨rfl, rfl⟩
  go_wp2_with fail
  refine (q1.out _).mono ?_
  rintro e w1 ⟨rfl, rfl⟩
  go_wp2_with fail
  go_returns
  exact ⟨rfl, rfl⟩
theorem compact_short (A : Option Addr) (n c : Nat) (hn : n ≤ 1) (w : World) : Calls Tryz.prog 133 #[.slice A n c] w fun e w' => e = .returned (.slice A n c) ∧ w = w' := by
  have h1 : (n : Int) < 2 := by omega
  go_enter Tryz.func133, Tryz.ntmps133
  go_wp2
  go_ret
  exact ⟨rfl, rfl⟩

end Go.Proofs.YthlaoedpjloloaaGreatDoor
