/-
  What the functions that replace variables in terms compute, on both sides. Conditions: at most 60 terms.
-/
import Derived.Test.YtdjhpdmpibokhaaTerm1
import Derived.Test.YtdjhpdmpibokhaaAppend
import Derived.WalkSpells
namespace Go.Proofs.Ytdjhpdmpibokhaa
open Go.ChangeShapes Go.WideShapes Go.ChangeAt Go.RowKit
set_option linter.unusedVariables false

theorem elem_implTerm : Elem Try.prog 25 72 2 16 :=
  Elem.of (z := .agg #[.int .i64 0, .int .i64 0]) Try.underlying25 (by kernel_rfl) rfl (by omega) (by omega)

theorem l03Put_calls (A B : Option Addr) (n m c d : Nat) (l r : List (Int × Int)) (k0 : Int) (w : World) (lo hi lo' hi' : Nat) (h : SlT w lo hi A n l) (g : SlT w lo' hi' B m r) (hn : n ≤ 60) (hm : m ≤ 60) :
    Calls Try.prog 61 #[.slice A n c, .int .i64 k0, .slice B m d] w fun e w' => ∃ A' q c', e = .returned (.slice A' q c') ∧ q ≤ 3600 ∧ Own 2 tv w' w.heap.size 72 A' q c' (putTerms l k0 r) ∧ Below w.heap.size w w' := by
  have hlen := hide h.len
  have hE := hide elem_implTerm
  go_enter Try.func61, Try.ntmps61
  go_wp2
  go_loopw [7, 8] (fun s i wr => ∃ (k q : Nat) (A' : Option Addr) (c' : Nat), k ≤ n ∧ i = .int .i64 k ∧ s = .slice A' q c' ∧ q ≤ 60 * k ∧ Own 2 tv wr w.heap.size 72 A' q c' (putTerms (l.take k) k0 r) ∧ Below w.heap.size w wr) (fun _ i _ => n - (intOf i).toNat)
  case atStart => exact ⟨0, 0, _, _, Nat.zero_le _, rfl, rfl, by omega, Own.made _ _ (Nat.le_refl _), (Below.refl _ _).alloc (Nat.le_refl _) _⟩
  case round =>
    obtain ⟨k, q, A', c', hk, rfl, rfl, hq, hown, hb⟩ := hrel
    have hsz := hb.size
    by_cases hlt : k < n
    · obtain ⟨b, off, x1, x2, rfl, g1, g2, g3, hx, c0, c1, -, -⟩ := h.get hlt
      replace c0 := (hb.cell g3).trans c0
      replace c1 := (hb.cell (p := ⟨b, off + k * 2 + 1, none⟩) g3).trans c1
      have hstep := hide (flatMap_take_succ (put1 k0 r) hx)
      have gr := hide (g.below hb (.inr (Nat.le_refl _)))
      clear h hx g
      by_cases ht : x1 = 1 ∧ x2 = k0
      · obtain ⟨rfl, rfl⟩ := ht
        have hp := hide (put1_yes (by_ := r) (⟨rfl, rfl⟩ : (1 : Int) = 1 ∧ x2 = x2))
        go_wp2_with (first | (at_builtin; (with_reducible refine wpList_app rfl (.tmp 31) (.tmp 32) rfl hE.out flat_tv rfl hown rfl gr.out ?c1 hsz ?_); rotate_right; intro A2 c2 w2 hown2 hgr2 hb2 _))
        case c1 => omega
        go_roundw
        case rel => exact ⟨k + 1, _, _, _, by omega, by go_num, rfl, by omega, by unfold putTerms; rw [hstep.out, hp.out]; exact hown2, hb.trans hb2⟩
        case measure => simp [intOf]; omega
      · have hp := hide (put1_no (by_ := r) ht)
        by_cases h1 : x1 = 1
        · subst h1
          have e2 : (x2 == k0) = false := by simpa using ht
          clear ht
          go_wp2_with (first | (at_builtin; (with_reducible refine wpList_app rfl (.tmp 34) (.tmp 39) rfl hE.out flat_tv rfl (hown.alloc _) rfl (Sl.lit1 wr 72 (1, x2) _ rfl 2 0 (Nat.zero_le _)) ?c2 ?c3 ?_); rotate_right; intro A2 c2 w2 hown2 hgr2 hb2 _))
          case c2 => omega
          case c3 => simp; omega
          go_roundw
          case rel => exact ⟨k + 1, _, _, _, by omega, by go_num, rfl, by omega, by unfold putTerms; rw [hstep.out, hp.out]; exact hown2, (hb.alloc hsz _).trans hb2⟩
          case measure => simp [intOf]; omega
        · have e1 : (x1 == 1) = false := by simpa using h1
          clear ht h1
          go_wp2_with (first | (at_builtin; (with_reducible refine wpList_app rfl (.tmp 34) (.tmp 39) rfl hE.out flat_tv rfl (hown.alloc _) rfl (Sl.lit1 wr 72 (x1, x2) _ rfl 2 0 (Nat.zero_le _)) ?c4 ?c5 ?_); rotate_right; intro A2 c2 w2 hown2 hgr2 hb2 _))
          case c4 => omega
          case c5 => simp; omega
          go_roundw
          case rel => exact ⟨k + 1, _, _, _, by omega, by go_num, rfl, by omega, by unfold putTerms; rw [hstep.out, hp.out]; exact hown2, (hb.alloc hsz _).trans hb2⟩
          case measure => simp [intOf]; omega
    · have hkn : k = n := by omega
      subst hkn
      have he := hide (take_end hlen.out)
      go_wp2
      go_ret
      exact ⟨_, _, _, rfl, by omega, by rw [he.out] at hown; exact hown, hb⟩

/-- What a replacing function value gives for a number: nil, or terms. -/
def Gives (G : Int → Option (List (Int × Int))) (W : World) (v : Int) (e : Ending) (W' : World) : Prop :=
  Below W.heap.size W W' ∧ ((G v = none ∧ e = .returned (.slice none 0 0)) ∨ ∃ a n c r, G v = some r ∧ e = .returned (.slice (some a) n c) ∧ n ≤ 60 ∧ SlT W' 0 W'.heap.size (some a) n r)

theorem replaced_calls (F : FuncId) (u1 u2 : Value) (G : Int → Option (List (Int × Int))) (V : Int → Prop) (A : Option Addr) (n c : Nat) (l : List (Int × Int)) (w : World) (lo hi : Nat) (h : SlT w lo hi A n l) (hn : n ≤ 60)
    (hF : ∀ (v : Int) (W : World), Sem.run Try.prog (callFunc F #[.int .i64 v, u1, u2]) W = .ok (.enter F #[.int .i64 v, u1, u2]) W)
    (hV : ∀ (k : Nat) (x : Int), l[k]? = some (1, x) → V x) (hcl : ∀ (v : Int) (W : World), V v → Below w.heap.size w W → Calls Try.prog F #[.int .i64 v, u1, u2] W (Gives G W v)) :
    Calls Try.prog 62 #[.slice A n c, .func (.func F) #[] #[u1, u2]] w fun e w' => ∃ A' q c', e = .returned (.slice A' q c') ∧ q ≤ 3600 ∧ Own 2 tv w' w.heap.size 72 A' q c' (replTerms G l) ∧ Below w.heap.size w w' := by
  have hlen := hide h.len
  have hE := hide elem_implTerm
  replace hcl := hide hcl
  replace hV := hide hV
  have hnil : ∀ (W : World) (a : Option Addr) (m d : Nat), (binOp .eql 25 (.slice a m d) (.slice none 0 0)).run Try.prog W = .ok (.bool a.isNone) W := fun W a m d => Lib.run_eql_slice_nil W 25 _ a m d 0 0 Try.underlying25
  go_enter Try.func62, Try.ntmps62
  go_wp2
  go_loopw [5, 11] (fun s i wr => ∃ (k q : Nat) (A' : Option Addr) (c' : Nat), k ≤ n ∧ i = .int .i64 k ∧ s = .slice A' q c' ∧ q ≤ 60 * k ∧ Own 2 tv wr w.heap.size 72 A' q c' (replTerms G (l.take k)) ∧ Below w.heap.size w wr) (fun _ i _ => n - (intOf i).toNat)
  case atStart => exact ⟨0, 0, _, _, Nat.zero_le _, rfl, rfl, by omega, Own.nil_ _ _ _, Below.refl _ _⟩
  case round =>
    obtain ⟨k, q, A', c', hk, rfl, rfl, hq, hown, hb⟩ := hrel
    have hsz := hb.size
    by_cases hlt : k < n
    · obtain ⟨b, off, x1, x2, rfl, g1, g2, g3, hx, c0, c1, -, -⟩ := h.get hlt
      replace c0 := (hb.cell g3).trans c0
      replace c1 := (hb.cell (p := ⟨b, off + k * 2 + 1, none⟩) g3).trans c1
      have hstep := hide (flatMap_take_succ (repl1 G) hx)
      replace hx := hide hx
      clear h
      by_cases ht : x1 = 1
      · subst ht
        have hc1 := hide (hcl.out x2 (wr.alloc (.cells #[.int .i64 1, .int .i64 x2] 72)) (hV.out k x2 hx.out) (hb.alloc hsz _))
        clear hcl hx hV
        go_wp2_with fail
        refine hc1.out.mono ?_
        rintro e w1 hgv
        obtain ⟨hb1, hgv⟩ := hgv
        have hs1 := hb1.size
        simp at hs1
        have hown1 := (hown.alloc (.cells #[.int .i64 1, .int .i64 x2] 72)).below hb1 (Nat.le_refl _)
        have hb3 := (hb.alloc hsz (.cells #[.int .i64 1, .int .i64 x2] 72)).trans (hb1.mono (by simp; omega))
        rcases hgv with ⟨hg, rfl⟩ | ⟨a, m, d, r, hg, rfl, hm, hr⟩
        · have hp := hide (repl1_none hg)
          obtain ⟨o1, o2⟩ := oldCells hb1
          clear hg
          go_wp2_with (first | (at_builtin; (with_reducible refine wpList_app rfl (.tmp 26) (.tmp 27) rfl hE.out flat_tv rfl (hown1.alloc _) rfl (Sl.lit1 _ 72 (1, x2) _ rfl 2 0 (Nat.zero_le _)) ?c6 ?c7 ?_); rotate_right; intro A2 c2 w2 hown2 hgr2 hb2 _))
          case c6 => omega
          case c7 => simp; omega
          go_roundw
          case rel => exact ⟨k + 1, _, _, _, by omega, by go_num, rfl, by omega, by unfold replTerms; rw [hstep.out, hp.out]; exact hown2, (hb3.alloc (by omega) _).trans hb2⟩
          case measure => simp [intOf]; omega
        · have hp := hide (repl1_some hg)
          replace hr := hide hr
          clear hg
          go_wp2_with (first | (at_builtin; (with_reducible refine wpList_app rfl (.tmp 26) (.tmp 27) rfl hE.out flat_tv rfl hown1 rfl hr.out ?c8 ?c9 ?_); rotate_right; intro A2 c2 w2 hown2 hgr2 hb2 _))
          case c8 => omega
          case c9 => omega
          go_roundw
          case rel => exact ⟨k + 1, _, _, _, by omega, by go_num, rfl, by omega, by unfold replTerms; rw [hstep.out, hp.out]; exact hown2, hb3.trans hb2⟩
          case measure => simp [intOf]; omega
      · have e1 : (x1 == 1) = false := by simpa using ht
        have hp := hide (repl1_no (G := G) (x2 := x2) ht)
        clear ht hcl hx hV
        go_wp2_with (first | (at_builtin; (with_reducible refine wpList_app rfl (.tmp 26) (.tmp 27) rfl hE.out flat_tv rfl ((hown.alloc _).alloc _) rfl (Sl.lit1' _ 72 (x1, x2) _ rfl 2 _ ?c3) ?c4 ?c5 ?_); rotate_right; intro A2 c2 w2 hown2 hgr2 hb2 _))
        case c3 => simp
        case c4 => omega
        case c5 => simp; omega
        go_roundw
        case rel => exact ⟨k + 1, _, _, _, by omega, by go_num, rfl, by omega, by unfold replTerms; rw [hstep.out, hp.out]; exact hown2, ((hb.alloc hsz _).alloc (by simp; omega) _).trans hb2⟩
        case measure => simp [intOf]; omega
    · have hkn : k = n := by omega
      subst hkn
      have he := hide (take_end hlen.out)
      clear hcl
      go_wp2
      go_ret
      exact ⟨_, _, _, rfl, by omega, by rw [he.out] at hown; exact hown, hb⟩

theorem subst1_calls (v k : Int) (a : Addr) (n c : Nat) (r : List (Int × Int)) (b4 b5 : Nat) (W : World) (h4 : W.cell? ⟨b4, 0, none⟩ = some (.int .i64 k)) (h5 : W.cell? ⟨b5, 0, none⟩ = some (.slice (some a) n c))
    (hr : SlT W 0 W.heap.size (some a) n r) (hn : n ≤ 60) :
    Calls Try.prog 63 #[.int .i64 v, .pointer (some ⟨b4, 0, none⟩), .pointer (some ⟨b5, 0, none⟩)] W (Gives (fun v => if v = k then some r else none) W v) := by
  have hg := hide hr
  by_cases h : v = k
  · subst h
    go_enter Try.func63, Try.ntmps63
    go_wp2
    go_ret
    exact ⟨Below.refl _ _, .inr ⟨a, n, c, r, by simp, rfl, hn, hg.out⟩⟩
  · have hb : (v == k) = false := by simpa using h
    have h := hide h
    go_enter Try.func63, Try.ntmps63
    go_wp2
    go_ret
    exact ⟨Below.refl _ _, .inl ⟨by simp [h.out], rfl⟩⟩

theorem specSubstitute_calls (A B : Option Addr) (n m c d : Nat) (l r : List (Int × Int)) (k : Int) (w : World) (lo hi lo' hi' : Nat) (h : SlT w lo hi A n l) (g : SlT w lo' hi' B m r) (hn : n ≤ 1048576) (hm : m ≤ 1048576) :
    Calls Try.prog 21 #[.slice A n c, .int .i64 k, .slice B m d] w fun e w' => ∃ A' q c', e = .returned (.tuple #[.slice A' q c', .int .i64 (substituteF l k r).2]) ∧ q ≤ 60 ∧ SlT w' w.heap.size w'.heap.size A' q (substituteF l k r).1 ∧ Below w.heap.size w w' := by
  have q1 := l03Any_calls A n c l w lo hi h hn
  have q2 := l03Any_calls B m d r w lo' hi' g hm
  have q3 := l00In_calls k 0 28 w
  by_cases c1 : isTerms l 29 60 = true
  · rw [c1] at q1
    replace q1 := hide q1
    have hn := isTerms_len c1
    rw [h.len] at hn
    by_cases c2 : isTerms r 29 60 = true
    · rw [c2] at q2
      replace q2 := hide q2
      have hm := isTerms_len c2
      rw [g.len] at hm
      by_cases c3 : inB k 0 28 = true
      · rw [c3] at q3
        replace q3 := hide q3
        have q4 := hide (l03Put_calls A B n m c d l r k w lo hi lo' hi' h g (by omega) (by omega))
        have hs : Hid (substituteF l k r = if 60 < (putTerms l k r).length then ([], 5) else (putTerms l k r, 0)) := by unfold substituteF; rw [c1, c2, c3]; rfl
        clear c1 c2 c3 h g
        go_enter Try.func21, Try.ntmps21
        go_wp2_with (first | (go_at_call 56; (with_reducible refine q1.out.mono ?_); rintro e w' ⟨rfl, rfl⟩) | (go_at_call 56; (with_reducible refine q2.out.mono ?_); rintro e w' ⟨rfl, rfl⟩) | (go_at_call 49; (with_reducible refine q3.out.mono ?_); rintro e w' ⟨rfl, rfl⟩) | (go_at_call 61; (with_reducible refine q4.out.mono ?_); rintro e w1 ⟨A1, q, c1, rfl, hq, hown, hb⟩))
        · have hq6 : 60 < q := by omega
          have hs2 : substituteF l k r = ([], 5) := by rw [hs.out, if_pos (by rw [hown.len]; exact hq6)]
          go_ret2
          exact ⟨_, _, _, by rw [hs2]; rfl, by omega, by rw [hs2]; exact Sl.nil_, hb⟩
        · have hq6 : q ≤ 60 := by omega
          have hs2 : substituteF l k r = (putTerms l k r, 0) := by rw [hs.out, if_neg (by rw [hown.len]; omega)]
          go_ret2
          exact ⟨_, _, _, by rw [hs2]; rfl, by omega, by rw [hs2]; exact hown.sl flat_tv, hb⟩
      · replace c3 := Bool.eq_false_iff.2 c3
        rw [c3] at q3
        replace q3 := hide q3
        have hs : Hid (substituteF l k r = ([], 2)) := by unfold substituteF; rw [c1, c2, c3]; rfl
        clear c1 c2 c3 h g
        go_enter Try.func21, Try.ntmps21
        go_wp2_with (first | (go_at_call 56; (with_reducible refine q1.out.mono ?_); rintro e w' ⟨rfl, rfl⟩) | (go_at_call 56; (with_reducible refine q2.out.mono ?_); rintro e w' ⟨rfl, rfl⟩) | (go_at_call 49; (with_reducible refine q3.out.mono ?_); rintro e w' ⟨rfl, rfl⟩))
        go_ret2
        exact ⟨_, _, _, by rw [hs.out]; rfl, by omega, by rw [hs.out]; exact Sl.nil_, Below.refl _ _⟩
    · replace c2 := Bool.eq_false_iff.2 c2
      rw [c2] at q2
      replace q2 := hide q2
      have hs : Hid (substituteF l k r = ([], 1)) := by unfold substituteF; rw [c1, c2]; rfl
      clear c1 c2 h g q3
      go_enter Try.func21, Try.ntmps21
      go_wp2_with (first | (go_at_call 56; (with_reducible refine q1.out.mono ?_); rintro e w' ⟨rfl, rfl⟩) | (go_at_call 56; (with_reducible refine q2.out.mono ?_); rintro e w' ⟨rfl, rfl⟩))
      go_ret2
      exact ⟨_, _, _, by rw [hs.out]; rfl, by omega, by rw [hs.out]; exact Sl.nil_, Below.refl _ _⟩
  · replace c1 := Bool.eq_false_iff.2 c1
    rw [c1] at q1
    replace q1 := hide q1
    have hs : Hid (substituteF l k r = ([], 1)) := by unfold substituteF; rw [c1]; rfl
    clear c1 h g q2 q3
    go_enter Try.func21, Try.ntmps21
    go_wp2_with (first | (go_at_call 56; (with_reducible refine q1.out.mono ?_); rintro e w' ⟨rfl, rfl⟩))
    go_ret2
    exact ⟨_, _, _, by rw [hs.out]; rfl, by omega, by rw [hs.out]; exact Sl.nil_, Below.refl _ _⟩

theorem implSubstitute_calls (A B : Option Addr) (n m c d : Nat) (l r : List (Int × Int)) (k : Int) (w : World) (lo hi lo' hi' : Nat) (h : SlT w lo hi A n l) (g : SlT w lo' hi' B m r) (hn : n ≤ 1048576) (hm : m ≤ 1048576) :
    Calls Try.prog 22 #[.slice A n c, .int .i64 k, .slice B m d] w fun e w' => ∃ A' q c', e = .returned (.tuple #[.slice A' q c', .int .i64 (substituteF l k r).2]) ∧ q ≤ 60 ∧ SlT w' w.heap.size w'.heap.size A' q (substituteF l k r).1 ∧ Below w.heap.size w w' := by
  have q1 := fun (W : World) (hW : Below w.heap.size w W) => termsOk_calls A n c l W _ _ (h.below hW (.inr (Nat.le_refl _))) hn
  have q2 := fun (W : World) (hW : Below w.heap.size w W) => termsOk_calls B m d r W _ _ (g.below hW (.inr (Nat.le_refl _))) hm
  have q3 := fun (W : World) => within_calls k 0 28 W
  have hb0 : Below w.heap.size w ((w.alloc (.cells #[.int .i64 k] 2)).alloc (.cells #[.slice B m d] 25)) := ((Below.refl _ _).alloc (Nat.le_refl _) _).alloc (by simp) _
  by_cases c1 : isTerms l 29 60 = true
  · simp only [c1] at q1
    replace q1 := hide q1
    have hn := isTerms_len c1
    rw [h.len] at hn
    by_cases c2 : isTerms r 29 60 = true
    · simp only [c2] at q2
      replace q2 := hide q2
      have hm := isTerms_len c2
      have hm0 := isTerms_pos c2
      rw [g.len] at hm hm0
      obtain ⟨b, off, rfl, _⟩ := g.at_ hm0
      by_cases c3 : inB k 0 28 = true
      · simp only [c3] at q3
        replace q3 := hide q3
        have hs : Hid (substituteF l k r = if 60 < (putTerms l k r).length then ([], 5) else (putTerms l k r, 0)) := by unfold substituteF; rw [c1, c2, c3]; rfl
        have hrp := hide (repl_put l k r)
        have hF : ∀ (v : Int) (u1 u2 : Value) (W : World), Sem.run Try.prog (callFunc 63 #[.int .i64 v, u1, u2]) W = .ok (.enter 63 #[.int .i64 v, u1, u2]) W := fun _ _ _ _ => by kernel_rfl
        replace hF := hide hF
        clear c1 c2 c3
        replace h := hide h
        replace g := hide g
        obtain ⟨x4, x5⟩ := two_boxes w (.int .i64 k) (.slice (some ⟨b, off, none⟩) m d) 2 25
        go_enter Try.func22, Try.ntmps22
        go_wp2_with fail
        refine (q1.out _ hb0).mono ?_
        rintro e w1 ⟨rfl, hb1⟩
        have hb1' := hb0.trans (hb1.mono hb0.size)
        have hs1 := hb1.size
        simp only [World.size_alloc] at hs1
        replace x4 := (old_cell hb1 (by simp only [World.size_alloc]; omega)).trans x4
        replace x5 := (old_cell hb1 (by simp only [World.size_alloc]; omega)).trans x5
        go_wp2_with fail
        refine (q2.out _ hb1').mono ?_
        rintro e w2 ⟨rfl, hb2⟩
        have hb2' := hb1'.trans (hb2.mono hb1'.size)
        have hs2 := hb2.size
        replace x4 := (old_cell hb2 (by omega)).trans x4
        replace x5 := (old_cell hb2 (by omega)).trans x5
        go_wp2_with fail
        refine (q3.out _).mono ?_
        rintro e w3 ⟨rfl, rfl⟩
        go_wp2_with fail
        have q4 := replaced_calls 63 (.pointer (some ⟨w.heap.size, 0, none⟩)) (.pointer (some ⟨w.heap.size + 1, 0, none⟩)) (fun v => if v = k then some r else none) (fun _ => True) A n c l w2 _ _ (h.out.below hb2' (.inr (Nat.le_refl _))) (by omega) (fun v W => hF.out v _ _ W) (fun _ _ _ => trivial) (fun v W _ hW => subst1_calls v k _ m d r _ _ W ((old_cell hW (by omega)).trans x4) ((old_cell hW (by omega)).trans x5) (((g.out.below hb2' (.inr (Nat.le_refl _))).below hW (.inr (Nat.le_refl _))).top.more (Nat.zero_le _) (Nat.le_refl _)) (by omega))
        refine q4.mono ?_
        rintro e w4 ⟨A1, q, c1, rfl, hq, hown, hb4⟩
        rw [hrp.out] at hown
        have hb4' := hb2'.trans (hb4.mono hb2'.size)
        have hown' := (hown.lower hb2'.size).sl flat_tv
        clear x4 x5 hb1 hb2 hb4 hb1' hb2' hb0
        go_wp2_with fail
        · have hq6 : 60 < q := by omega
          have hs2 : substituteF l k r = ([], 5) := by rw [hs.out, if_pos (by rw [hown.len]; exact hq6)]
          go_ret2
          exact ⟨_, _, _, by rw [hs2]; rfl, by omega, by rw [hs2]; exact Sl.nil_, hb4'⟩
        · have hq6 : q ≤ 60 := by omega
          have hs2 : substituteF l k r = (putTerms l k r, 0) := by rw [hs.out, if_neg (by rw [hown.len]; omega)]
          go_ret2
          exact ⟨_, _, _, by rw [hs2]; rfl, by omega, by rw [hs2]; exact hown', hb4'⟩
      · replace c3 := Bool.eq_false_iff.2 c3
        simp only [c3] at q3
        replace q3 := hide q3
        have hs : Hid (substituteF l k r = ([], 2)) := by unfold substituteF; rw [c1, c2, c3]; rfl
        clear c1 c2 c3 h g
        obtain ⟨x4, x5⟩ := two_boxes w (.int .i64 k) (.slice (some ⟨b, off, none⟩) m d) 2 25
        go_enter Try.func22, Try.ntmps22
        go_wp2_with fail
        refine (q1.out _ hb0).mono ?_
        rintro e w1 ⟨rfl, hb1⟩
        have hb1' := hb0.trans (hb1.mono hb0.size)
        have hs1 := hb1.size
        simp only [World.size_alloc] at hs1
        replace x4 := (old_cell hb1 (by simp only [World.size_alloc]; omega)).trans x4
        replace x5 := (old_cell hb1 (by simp only [World.size_alloc]; omega)).trans x5
        go_wp2_with fail
        refine (q2.out _ hb1').mono ?_
        rintro e w2 ⟨rfl, hb2⟩
        have hb2' := hb1'.trans (hb2.mono hb1'.size)
        replace x4 := (old_cell hb2 (by omega)).trans x4
        go_wp2_with fail
        refine (q3.out _).mono ?_
        rintro e w3 ⟨rfl, rfl⟩
        go_wp2_with fail
        go_ret2
        exact ⟨_, _, _, by rw [hs.out]; rfl, by omega, by rw [hs.out]; exact Sl.nil_, hb2'⟩
    · replace c2 := Bool.eq_false_iff.2 c2
      simp only [c2] at q2
      replace q2 := hide q2
      have hs : Hid (substituteF l k r = ([], 1)) := by unfold substituteF; rw [c1, c2]; rfl
      clear c1 c2 h g q3
      obtain ⟨x4, x5⟩ := two_boxes w (.int .i64 k) (.slice B m d) 2 25
      go_enter Try.func22, Try.ntmps22
      go_wp2_with fail
      refine (q1.out _ hb0).mono ?_
      rintro e w1 ⟨rfl, hb1⟩
      have hb1' := hb0.trans (hb1.mono hb0.size)
      replace x5 := (old_cell hb1 (by simp only [World.size_alloc]; omega)).trans x5
      go_wp2_with fail
      refine (q2.out _ hb1').mono ?_
      rintro e w2 ⟨rfl, hb2⟩
      have hb2' := hb1'.trans (hb2.mono hb1'.size)
      go_wp2_with fail
      go_ret2
      exact ⟨_, _, _, by rw [hs.out]; rfl, by omega, by rw [hs.out]; exact Sl.nil_, hb2'⟩
  · replace c1 := Bool.eq_false_iff.2 c1
    simp only [c1] at q1
    replace q1 := hide q1
    have hs : Hid (substituteF l k r = ([], 1)) := by unfold substituteF; rw [c1]; rfl
    clear c1 h g q2 q3
    go_enter Try.func22, Try.ntmps22
    go_wp2_with fail
    refine (q1.out _ hb0).mono ?_
    rintro e w1 ⟨rfl, hb1⟩
    have hb1' := hb0.trans (hb1.mono hb0.size)
    go_wp2_with fail
    go_ret2
    exact ⟨_, _, _, by rw [hs.out]; rfl, by omega, by rw [hs.out]; exact Sl.nil_, hb1'⟩

theorem specSubstitute_std (w : World) (A : Option Addr) (n c : Nat) (l : List (Int × Int)) (lo hi : Nat) (h : SlT w lo hi A n l) (hn : n ≤ 1048576) (k : Int) (B : Option Addr) (m d : Nat) (r : List (Int × Int)) (lo' hi' : Nat) (g : SlT w lo' hi' B m r) (hm : m ≤ 1048576) :
    Calls Try.prog 21 #[.slice A n c, .int .i64 k, .slice B m d] w fun e w' => ∃ A' q c', e = .returned (.tuple #[.slice A' q c', .int .i64 (substituteF l k r).2]) ∧ q ≤ 1048576 ∧ SlT w' w.heap.size w'.heap.size A' q (substituteF l k r).1 ∧ Below w.heap.size w w' :=
  (specSubstitute_calls A B n m c d l r k w lo hi lo' hi' h g hn hm).mono fun _ _ ⟨a, b, c, e, f, g⟩ => ⟨a, b, c, e, by omega, g⟩
theorem implSubstitute_std (w : World) (A : Option Addr) (n c : Nat) (l : List (Int × Int)) (lo hi : Nat) (h : SlT w lo hi A n l) (hn : n ≤ 1048576) (k : Int) (B : Option Addr) (m d : Nat) (r : List (Int × Int)) (lo' hi' : Nat) (g : SlT w lo' hi' B m r) (hm : m ≤ 1048576) :
    Calls Try.prog 22 #[.slice A n c, .int .i64 k, .slice B m d] w fun e w' => ∃ A' q c', e = .returned (.tuple #[.slice A' q c', .int .i64 (substituteF l k r).2]) ∧ q ≤ 1048576 ∧ SlT w' w.heap.size w'.heap.size A' q (substituteF l k r).1 ∧ Below w.heap.size w w' :=
  (implSubstitute_calls A B n m c d l r k w lo hi lo' hi' h g hn hm).mono fun _ _ ⟨a, b, c, e, f, g⟩ => ⟨a, b, c, e, by omega, g⟩

end Go.Proofs.Ytdjhpdmpibokhaa
