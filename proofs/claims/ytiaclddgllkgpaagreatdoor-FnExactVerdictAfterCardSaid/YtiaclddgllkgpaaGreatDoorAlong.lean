/-
  Whether a deterministic system goes along with a label, and to which state, by both; the test of a plant beside a system. Conditions: sizes.
-/
import Derived.Test.YtiaclddgllkgpaaGreatDoorBaseE
import Derived.StillTailTactics
namespace Go.Proofs.YtiaclddgllkgpaaGreatDoor
open Go.ChangeShapes Go.WideShapes Go.ChangeAt Go.RowKit Go.Sort
set_option linter.unusedVariables false
set_option linter.unusedSimpArgs false

def anyL (ls : List ByteArray) (lab : ByteArray) : Bool := ls.any (fun x => decide (x = lab))
/-- Goes along; where to. -/
def aloOk (d : DL) (k : Int) (lab : ByteArray) : Bool := if anyL d.2.2.1 lab = true then decide (0 ≤ goE d.2.2.2 d.2.2.1 lab k) else true
def aloTo (d : DL) (k : Int) (lab : ByteArray) : Int := if anyL d.2.2.1 lab = true then goE d.2.2.2 d.2.2.1 lab k else k
theorem det_ltsA {d : DL} (h : detV d = true) : ltsV d = true := by
  unfold detV at h
  rw [Bool.and_eq_true] at h
  exact h.1
theorem lts_boundsA {st ini : Int} {ls : List ByteArray} {es : List Ed} (h : ltsV (st, ini, ls, es) = true) : (1 ≤ st ∧ st ≤ 40) ∧ (0 ≤ ini ∧ ini ≤ st - 1) := by
  unfold ltsV ltsB at h
  simp only [Bool.and_eq_true] at h
  exact ⟨inB_true.1 h.1.1.1.1, inB_true.1 h.1.1.1.2⟩
theorem goE_rangeA {st ini : Int} {ls : List ByteArray} {es : List Ed} (h : ltsV (st, ini, ls, es) = true) (lab : ByteArray) (s : Int) : -1 ≤ goE es ls lab s ∧ goE es ls lab s ≤ st - 1 := by
  have hst := (lts_boundsA h).1
  unfold goE
  cases hf : folE es ls lab s with
  | nil => simp; omega
  | cons a t =>
    have : a ∈ folE es ls lab s := by rw [hf]; simp
    unfold folE at this
    obtain ⟨⟨f, lb, tg⟩, he, rfl⟩ := List.mem_map.1 this
    obtain ⟨k, hk⟩ := List.getElem?_of_mem (List.mem_filter.1 he).1
    have := (edge_of h hk).2.1
    simp
    omega

/-- Where a text stands in a list: -1 if it does not. -/
def FindI (l : List ByteArray) (s : ByteArray) (i : Int) : Prop := (i = -1 ∧ anyL l s = false) ∨ ∃ k : Nat, i = (k : Int) ∧ l[k]? = some s ∧ anyL l s = true
set_option maxRecDepth 100000 in
theorem l11Find_calls (s : ByteArray) (A : Option Addr) (n c : Nat) (l : List ByteArray) (w : World) (lo hi : Nat) (h : SlS w lo hi A n l) (hn : n ≤ 1048576) :
    Calls Tryz.prog 84 #[.slice A n c, .string s] w fun e w' => ∃ i : Int, e = .returned (.int .i64 i) ∧ FindI l s i ∧ w = w' := by
  have hlen := hide h.len
  go_enter Tryz.func84, Tryz.ntmps84
  go_wp2
  go_loop [5] (fun i => ∃ k : Nat, k ≤ n ∧ i = .int .i64 k ∧ Hid ((l.take k).any (fun x => decide (x = s)) = false)) (fun i => n - (intOf i).toNat)
  case atStart => exact ⟨0, Nat.zero_le _, rfl, rfl⟩
  case round =>
    obtain ⟨k, hk, rfl, ha⟩ := hrel
    by_cases hlt : k < n
    · obtain ⟨b, off, x, rfl, g1, g2, g3, hx, c0, -⟩ := SlS.get h hlt
      clear h
      by_cases hq : x = s
      · subst hq
        have hy : Hid (FindI l x (k : Int)) := .inr ⟨k, rfl, hx, any_hit (G := fun y => decide (y = x)) hx (decide_eq_true rfl)⟩
        have hself : (x.toList == x.toList) = true := beq_self_eq_true _
        clear hx
        go_wp2
        go_ret
        exact ⟨_, rfl, hy.out, rfl⟩
      · have hy := hide (any_take_succ ha.out hx (decide_eq_false hq))
        obtain ⟨hne, hne2⟩ := str_list_ne hq
        have hne3 : (x.toList == s.toList) = false := by
          have := str_neq (a := x) (b := s) hq
          exact this
        have hne4 : ¬ x.toList = s.toList := fun e => hne2 e.symm
        clear hx hq
        go_wp2
        go_round
        case rel => exact ⟨k + 1, by omega, by go_num, hy⟩
        case measure => simp [intOf]; omega
    · have hkn : k = n := by omega
      subst hkn
      clear h
      have hy := ha.out
      rw [List.take_of_length_le (by rw [hlen.out]; exact Nat.le_refl _)] at hy
      have hf : Hid (FindI l s (-1)) := .inl ⟨rfl, hy⟩
      clear ha hy
      go_wp2
      go_ret
      exact ⟨_, rfl, hf.out, rfl⟩

set_option maxRecDepth 100000 in
set_option maxHeartbeats 1600000 in
theorem l11Next_calls (bt : Nat) (x : CL) (d : DL) (s : Int) (k0 : Nat) (lab : ByteArray) (w : World) (h : LtsAt w bt x d) (hval : detV d = true) (hk0 : d.2.2.1[k0]? = some lab) :
    Calls Tryz.prog 85 #[.pointer (some ⟨bt, 0, none⟩), .int .i64 s, .int .i64 (k0 : Int)] w fun e w' => ∃ A n c, e = .returned (.slice A n c) ∧ SlI w' w.heap.size w'.heap.size A n (folE d.2.2.2 d.2.2.1 lab s) ∧ n ≤ 1 ∧ Below w.heap.size w w' := by
  obtain ⟨s0, s1, v2, v3⟩ := x
  obtain ⟨st, ini, ls, es⟩ := d
  have hlts := hide (det_ltsA hval)
  have hone := hide (fol_one hval lab s)
  obtain ⟨⟨e0, e1, -, ⟨A3, n3, k3, e3, hn3, t3⟩⟩, htot, hbt, -, -, -, c3⟩ := h
  dsimp only at *
  subst e0 e1 e3
  have l3 := hide t3.len
  have hes : n3 ≤ 1048576 := by rw [← l3.out]; exact Nat.le_trans (totL_edg (s0, s1, ls, es)) htot
  replace hk0 := hide hk0
  replace t3 := hide t3
  have hE := hide elem_int
  clear htot hn3 hval
  go_enter Tryz.func85, Tryz.ntmps85
  go_wp2
  go_loopw [7, 8] (fun v i wr => ∃ (k m c : Nat) (A : Option Addr), k ≤ n3 ∧ v = .slice A m c ∧ i = .int .i64 (k : Nat) ∧ m ≤ 1 ∧ Hid (Own 1 iv wr w.heap.size 2 A m c (folE (es.take k) ls lab s)) ∧ Below w.heap.size w wr) (fun _ i _ => n3 - (intOf i).toNat)
  case atStart => exact ⟨0, 0, 0, _, Nat.zero_le _, rfl, rfl, Nat.zero_le _, Own.made w _ (Nat.le_refl _), (Below.refl _ _).alloc (Nat.le_refl _) _⟩
  case round =>
    obtain ⟨k, m, c, A, hk, rfl, rfl, hm, hown, hb⟩ := hrel
    have y3 := (hb.cell (p := ⟨bt, 3, none⟩) hbt).trans c3
    have hz := hb.size
    by_cases hlt : k < n3
    · obtain ⟨b, off, f, lb, tg, rfl, -, -, g3, hx, p0, p1, p2, -, -, -⟩ := SlE.get t3.out hlt
      replace p0 := (hb.cell g3).trans p0
      replace p1 := (hb.cell (p := ⟨b, off + k * 3 + 1, none⟩) g3).trans p1
      replace p2 := (hb.cell (p := ⟨b, off + k * 3 + 2, none⟩) g3).trans p2
      have hed := edge_of hlts.out hx
      have hlb : lb.toNat < ls.length := by have := hed.2.2; omega
      have hr : ls[lb.toNat]? = some (ls[lb.toNat]'hlb) := List.getElem?_eq_getElem _
      have hh := hitE_at (lab := lab) (s := s) (f := f) (tg := tg) hr
      have hsu := folE_succ (ls := ls) (lab := lab) (s := s) hx
      have hsb := Nat.le_trans (folE_sub es ls lab s (k + 1)) hone.out
      have hiff : (ls[lb.toNat]'hlb) = lab ↔ lb = (k0 : Int) := by
        constructor
        · intro e
          have := labs_uniq (names_of hlts.out) (e ▸ hr) hk0.out
          have := hed.2.2
          omega
        · intro e
          have e' : lb.toNat = k0 := by omega
          have := hk0.out
          rw [← e', hr] at this
          exact Option.some.inj this
      have hdd : decide ((ls[lb.toNat]'hlb) = lab) = decide (lb = (k0 : Int)) := decide_eq_decide.2 hiff
      rw [hdd] at hh
      have hI0 : (0 : Int) ≤ (k : Int) := by omega
      have hI1 : (k : Int) < (n3 : Int) := by omega
      have hza : ∀ o, w.heap.size ≤ (wr.alloc o).heap.size := fun o => by rw [World.size_alloc]; omega
      replace hb := hide hb
      clear hed hr hiff hdd
      by_cases hf : f = s
      · by_cases hl : lb = (k0 : Int)
        · rw [decide_eq_true hf, decide_eq_true hl] at hh
          rw [hh] at hsu
          have hm0 : m = 0 := by
            have h1 := hown.out.len
            rw [hsu] at hsb
            simp at hsb
            rw [hsb] at h1
            exact h1.symm
          subst hm0 hf hl
          replace hsu := hide hsu
          clear hx hh hsb
          go_wp2_with (first | (at_builtin; (with_reducible refine wpList_app rfl (.tmp 41) (.tmp 50) rfl hE.out flat_iv rfl (hown.out.alloc _) rfl (Sl.lit1' wr 2 tg _ rfl 1 _ ?c0) ?c1 (hza _) ?_); rotate_right; intro A5 c5 w5 hown5 hgr5 hb5 _))
          case c0 => rfl
          try (case c1 => omega)
          have hb6 := hide ((hb.out.alloc hz (.cells #[.int .i64 tg] 2)).trans hb5)
          replace hown5 : Hid (Own 1 iv w5 w.heap.size 2 A5 (0 + 1) c5 (folE (es.take (k + 1)) ls lab f)) := by show Own _ _ _ _ _ _ _ _ _; rw [hsu.out]; exact hown5
          go_roundw
          case rel => exact ⟨k + 1, 0 + 1, c5, A5, by omega, rfl, by go_num, by omega, hown5, hb6.out⟩
          case measure => simp [intOf]; omega
        · rw [decide_eq_false hl, Bool.and_false] at hh
          rw [hh] at hsu
          have hlb2 : (lb == (k0 : Int)) = false := by rw [beq_eq_false_iff_ne]; exact hl
          replace hown : Hid (Own 1 iv wr w.heap.size 2 A m c (folE (es.take (k + 1)) ls lab s)) := by show Own _ _ _ _ _ _ _ _ _; rw [hsu]; simpa using hown.out
          subst hf
          clear hx hh hsb hsu hl
          go_wp2_with fail
          go_roundw
          case rel => exact ⟨k + 1, m, c, A, by omega, rfl, by go_num, hm, hown, hb.out⟩
          case measure => simp [intOf]; omega
      · rw [decide_eq_false hf, Bool.false_and] at hh
        rw [hh] at hsu
        have hf2 : (f == s) = false := by rw [beq_eq_false_iff_ne]; exact hf
        replace hown : Hid (Own 1 iv wr w.heap.size 2 A m c (folE (es.take (k + 1)) ls lab s)) := by show Own _ _ _ _ _ _ _ _ _; rw [hsu]; simpa using hown.out
        clear hx hh hsb hsu hf
        go_wp2_with fail
        go_roundw
        case rel => exact ⟨k + 1, m, c, A, by omega, rfl, by go_num, hm, hown, hb.out⟩
        case measure => simp [intOf]; omega
    · have hkn : k = n3 := by omega
      have hall : es.take k = es := List.take_of_length_le (by rw [l3.out, hkn]; exact Nat.le_refl _)
      rw [hall] at hown
      replace hb := hide hb
      go_wp2
      go_ret
      exact ⟨A, m, c, rfl, hown.out.sl flat_iv, hm, hb.out⟩

theorem fol_none {es : List Ed} {ls : List ByteArray} {lab : ByteArray} {s : Int} (h : anyL ls lab = false) : folE es ls lab s = [] := by
  unfold folE
  rw [List.map_eq_nil_iff, List.filter_eq_nil_iff]
  intro e he
  unfold hitE
  intro hc
  simp only [Bool.and_eq_true] at hc
  cases hr : ls[e.2.1.toNat]? with
  | none => rw [hr] at hc; simp at hc
  | some r =>
    rw [hr] at hc
    have : r = lab := by simpa using hc.2
    subst this
    unfold anyL at h
    rw [List.any_eq_false] at h
    exact h r (List.mem_of_getElem? hr) (by simp)
theorem go_none {es : List Ed} {ls : List ByteArray} {lab : ByteArray} {s : Int} (h : anyL ls lab = false) : goE es ls lab s = -1 := goE_none (fol_none h)
theorem go_some {es : List Ed} {ls : List ByteArray} {lab : ByteArray} {s x : Int} (h : (folE es ls lab s)[0]? = some x) : goE es ls lab s = x := by
  unfold goE
  cases hf : folE es ls lab s with
  | nil => rw [hf] at h; simp at h
  | cons a t => rw [hf] at h; simpa using h

set_option maxRecDepth 100000 in
set_option maxHeartbeats 800000 in
theorem l29Go_calls (bt : Nat) (x : CL) (d : DL) (k : Int) (lab : ByteArray) (w : World) (h : LtsAt w bt x d) (hval : detV d = true) :
    Calls Tryz.prog 86 #[.pointer (some ⟨bt, 0, none⟩), .int .i64 k, .string lab] w fun e w' => ∃ v : Int, e = .returned (.tuple #[.int .i64 v, .bool (aloOk d k lab)]) ∧ (aloOk d k lab = true → v = aloTo d k lab) ∧ Below w.heap.size w w' := by
  have h' := hide h
  obtain ⟨s0, s1, v2, v3⟩ := x
  obtain ⟨st, ini, ls, es⟩ := d
  obtain ⟨⟨e0, e1, ⟨A2, n2, k2, e2, hn2, hs2, t2⟩, -⟩, htot, hbt, -, -, c2, -⟩ := h
  have l2 := t2.len
  have hn : n2 ≤ 1048576 := by rw [← l2]; exact Nat.le_trans (totL_lab (st, ini, ls, es)) htot
  dsimp only at *
  subst e2
  have q := hide (l11Find_calls lab A2 n2 k2 ls w _ _ t2 hn)
  have q2 := fun (k0 : Nat) (hk : ls[k0]? = some lab) => l11Next_calls bt _ (st, ini, ls, es) k k0 lab w h'.out hval hk
  replace q2 := hide q2
  have hin : ∀ e ∈ es, 0 ≤ e.2.2 := fun e he => by
    obtain ⟨j, hj⟩ := List.getElem?_of_mem he
    exact (edge_of (det_ltsA hval) hj).2.1.1
  replace hin := hide hin
  clear t2 h' hs2 hn2 htot l2 hval
  go_enter Tryz.func86, Tryz.ntmps86
  go_wp2_with fail
  refine q.out.mono ?_
  rintro e w1 ⟨i, rfl, hf, rfl⟩
  rcases hf with ⟨rfl, hf⟩ | ⟨k0, rfl, hk0, hf⟩
  · have h1 : Hid (aloOk (st, ini, ls, es) k lab = true) := by show _ = _; unfold aloOk; rw [if_neg (by dsimp only; rw [hf]; decide)]
    have h2 : Hid (aloTo (st, ini, ls, es) k lab = k) := by show _ = _; unfold aloTo; rw [if_neg (by dsimp only; rw [hf]; decide)]
    clear hf
    go_wp2_with fail
    go_ret2
    exact ⟨k, by rw [h1.out]; rfl, fun _ => h2.out.symm, Below.refl _ _⟩
  · have h1 : aloOk (st, ini, ls, es) k lab = decide (0 ≤ goE es ls lab k) := by unfold aloOk; rw [if_pos hf]
    have h2 : Hid (aloTo (st, ini, ls, es) k lab = goE es ls lab k) := by show _ = _; unfold aloTo; rw [if_pos hf]
    have q3 := hide (q2.out k0 hk0)
    have hki : ¬ (k0 : Int) < 0 := by omega
    clear hf hk0 q2 q
    go_wp2_with fail
    refine q3.out.mono ?_
    rintro e w2 ⟨A, n, c, rfl, hsl, hn1, hb⟩
    have hlen := hsl.len
    replace hb := hide hb
    by_cases h0 : n = 0
    · subst h0
      have hg : goE es ls lab k = -1 := goE_none (List.eq_nil_of_length_eq_zero hlen)
      rw [hg] at h1
      replace h1 : Hid (aloOk (st, ini, ls, es) k lab = false) := h1
      clear hsl hlen hg
      go_wp2_with fail
      go_ret2
      exact ⟨0, by rw [h1.out]; rfl, (fun h => by rw [h1.out] at h; cases h), hb.out⟩
    · have hn' : n = 1 := by omega
      subst hn'
      obtain ⟨b, off, v, rfl, -, -, -, hx, p0, -⟩ := SlI.get hsl (show 0 < 1 by omega)
      simp only [Nat.add_zero] at p0
      have hg := go_some hx
      have hgm : 0 ≤ v := by
        have hm := List.mem_of_getElem? hx
        unfold folE at hm
        obtain ⟨e, he, rfl⟩ := List.mem_map.1 hm
        exact hin.out e (List.mem_filter.1 he).1
      rw [hg, decide_eq_true hgm] at h1
      replace h1 := hide h1
      have h3 := hide (h2.out.trans hg)
      clear hsl hlen hg hx h2
      go_wp2_with fail
      go_ret2
      exact ⟨v, by rw [h1.out]; rfl, fun _ => h3.out.symm, hb.out⟩

end Go.Proofs.YtiaclddgllkgpaaGreatDoor
