/-
  The reference's cutting of texts. Conditions: sizes.
-/
import Derived.Test.YtiaclddgllkgpaaGreatDoorEnv
import Derived.Deep.RegionLaw
namespace Go.Proofs.YtiaclddgllkgpaaGreatDoor
open Go.ChangeShapes Go.WideShapes Go.ChangeAt Go.RowKit
set_option linter.unusedVariables false

theorem bget (s : ByteArray) (k : Nat) (h : k < s.size) : s.data.toList[k]? = some s[k] := by
  rw [List.getElem?_eq_getElem (by simpa using h)]
  rfl
theorem bsize (s : ByteArray) : s.data.toList.length = s.size := by rw [Array.length_toList]; rfl
def mkB (l : List UInt8) : ByteArray := ⟨l.toArray⟩
theorem mkB_data (l : List UInt8) : (mkB l).data.toList = l := rfl
theorem mkB_size (l : List UInt8) : (mkB l).size = l.length := bytes_size l
theorem extract_mk (s : ByteArray) (a b : Nat) : s.extract a b = mkB ((s.data.toList.drop a).take (b - a)) := by
  apply ByteArray.ext
  apply Array.ext'
  show (s.extract a b).data.toList = (s.data.toList.drop a).take (b - a)
  rw [ByteArray.data_extract, Array.toList_extract]
theorem flat_strv : Flat strv 1 := ⟨fun _ => rfl, fun x u h => by simp [strv] at h; subst h; rfl⟩
theorem elem_str : Elem Tryz.prog 22 9 1 16 := Elem.of Tryz.underlying22 info_string rfl (by decide) (by decide)

theorem takeWhile_hit {c : UInt8} : ∀ {l : List UInt8} {k : Nat}, (∀ j x, j < k → l[j]? = some x → x ≠ c) → l[k]? = some c → (l.takeWhile (fun x => x != c)).length = k
  | [], k, _, h => by simp at h
  | y :: l, 0, _, h => by
    simp at h
    subst h
    simp
  | y :: l, k + 1, hn, h => by
    have hy : y ≠ c := hn 0 y (by omega) rfl
    rw [List.takeWhile_cons_of_pos (by simpa using hy), List.length_cons, takeWhile_hit (l := l) (k := k) (fun j x hj hx => hn (j + 1) x (by omega) (by simpa using hx)) (by simpa using h)]
theorem takeWhile_all {c : UInt8} : ∀ {l : List UInt8}, (∀ (j : Nat) x, l[j]? = some x → x ≠ c) → (l.takeWhile (fun x => x != c)).length = l.length
  | [], _ => rfl
  | y :: l, hn => by
    have hy : y ≠ c := hn 0 y rfl
    rw [List.takeWhile_cons_of_pos (by simpa using hy), List.length_cons, takeWhile_all (l := l) (fun j x hx => hn (j + 1) x (by simpa using hx)), List.length_cons]
def openN (s : ByteArray) : Nat := (s.data.toList.takeWhile (fun x => x != 40)).length

theorem l01Open_calls (s : ByteArray) (w : World) (hs : s.size ≤ 1048576) : Calls Tryz.prog 199 #[.string s] w fun e w' => e = .returned (.int .i64 (openN s)) ∧ w = w' := by
  go_enter Tryz.func199, Tryz.ntmps199
  go_wp2
  go_loop [3] (fun i => ∃ k : Nat, k ≤ s.size ∧ i = .int .i64 k ∧ Hid (∀ j x, j < k → s.data.toList[j]? = some x → x ≠ 40)) (fun i => s.size - (intOf i).toNat)
  case atStart => exact ⟨0, Nat.zero_le _, rfl, fun j x h => absurd h (by omega)⟩
  case round =>
    obtain ⟨k, hk, rfl, ha⟩ := hrel
    by_cases hlt : k < s.size
    · have hg := bget s k hlt
      by_cases h40 : s[k] = 40
      · have hv : Hid (openN s = k) := takeWhile_hit ha.out (by rw [hg, h40])
        have hc : ∀ h : k < s.size, (s[k].toNat : Int) = 40 := fun _ => by rw [h40]; rfl
        clear hg h40
        go_wp2
        go_ret
        exact ⟨ret_i (by rw [hv.out]), rfl⟩
      · have hnext : Hid (∀ j x, j < k + 1 → s.data.toList[j]? = some x → x ≠ 40) := fun j x hj hx => by
          rcases Nat.lt_or_ge j k with h1 | h1
          · exact ha.out j x h1 hx
          · have : j = k := by omega
            subst this
            rw [hg] at hx
            cases hx
            exact h40
        have hne : (s[k].toNat : Int) ≠ 40 := fun h => h40 (UInt8.toNat_inj.1 (by simpa using (by omega : s[k].toNat = 40)))
        generalize hc : (s[k].toNat : Int) = c at *
        have hgetk : ∀ h : k < s.size, (s[k].toNat : Int) = c := fun _ => hc
        have hcb : (c == 40) = false := by rw [beq_eq_false_iff_ne]; exact hne
        clear hg h40 hc hne
        go_wp2
        go_round
        case rel => exact ⟨k + 1, by omega, by go_num, hnext⟩
        case measure => simp [intOf]; omega
    · have hkn : k = s.size := by omega
      subst hkn
      have hv : Hid (openN s = s.size) := by
        show _ = _
        unfold openN
        rw [takeWhile_all (fun j x hx => ha.out j x (by rw [← bsize]; exact (List.getElem?_eq_some_iff.1 hx).1) hx), bsize]
      go_wp2
      go_ret
      exact ⟨ret_i (by rw [hv.out]), rfl⟩

theorem drop_at {l : List UInt8} {k a : Nat} {c : UInt8} (hk : l[k]? = some c) (ha : a ≤ k) : l.drop a = (l.drop a).take (k - a) ++ c :: l.drop (k + 1) := by
  have h1 : (l.drop a).drop (k - a) = c :: l.drop (k + 1) := by
    rw [List.drop_drop, show a + (k - a) = k by omega]
    obtain ⟨hl, hc⟩ := List.getElem?_eq_some_iff.1 hk
    rw [List.drop_eq_getElem_cons hl, hc]
  rw [← h1, List.take_append_drop]
theorem no_in {l : List UInt8} {k a : Nat} {c : UInt8} (h : ∀ j x, a ≤ j → j < k → l[j]? = some x → x ≠ c) : c ∉ (l.drop a).take (k - a) := by
  intro hm
  obtain ⟨i, hi⟩ := List.getElem?_of_mem hm
  rw [List.getElem?_take] at hi
  split at hi
  · rw [List.getElem?_drop] at hi
    exact h (a + i) c (by omega) (by omega) hi rfl
  · cases hi
def piecesB (c : UInt8) (s : ByteArray) : List ByteArray := (splitC c s.data.toList).map mkB
theorem splitC_len (c : UInt8) : ∀ l : List UInt8, (splitC c l).length ≤ l.length + 1
  | [] => by simp [splitC]
  | x :: l => by
    have ih := splitC_len c l
    by_cases hx : x = c
    · subst hx
      rw [splitC_ceq]
      simp only [List.length_cons]
      omega
    · rw [splitC_cne hx]
      simp only [List.length_cons, List.length_tail]
      omega

set_option maxHeartbeats 800000 in
set_option maxRecDepth 100000 in
theorem l01Split_calls (s : ByteArray) (w : World) (hs : s.size ≤ 1048576) : Calls Tryz.prog 201 #[.string s, .int .u8 44] w fun e w' => ∃ A n c, e = .returned (.slice A n c) ∧ n ≤ 1048577 ∧ SlS w' w.heap.size w'.heap.size A n (piecesB 44 s) ∧ Below w.heap.size w w' := by
  have hE := hide elem_str
  go_enter Tryz.func201, Tryz.ntmps201
  go_wp2
  go_loopw [5, 6, 7] (fun o f i wr => ∃ k a n c A done, k ≤ s.size ∧ a ≤ k ∧ n ≤ k ∧ o = .slice A n c ∧ f = .int .i64 (a : Nat) ∧ i = .int .i64 (k : Nat) ∧ Hid (Own 1 strv wr w.heap.size 9 A n c (done.map mkB)) ∧
    Hid (splitC 44 s.data.toList = done ++ splitC 44 (s.data.toList.drop a)) ∧ Hid (∀ j x, a ≤ j → j < k → s.data.toList[j]? = some x → x ≠ 44) ∧ Below w.heap.size w wr) (fun _ _ i _ => s.size - (intOf i).toNat)
  case atStart => exact ⟨0, 0, 0, 0, _, [], Nat.zero_le _, Nat.le_refl _, Nat.le_refl _, rfl, rfl, rfl, Own.made w 9 (Nat.le_refl _), rfl, fun j x h1 h2 => absurd h2 (by omega), (Below.refl _ _).alloc (Nat.le_refl _) _⟩
  case round =>
    obtain ⟨k, a, n, c, A, done, hk, hak, hnk, rfl, rfl, rfl, hown, hsp, hno, hb⟩ := hrel
    have hz := hb.size
    have hza : ∀ o, w.heap.size ≤ (wr.alloc o).heap.size := fun o => by rw [World.size_alloc]; omega
    by_cases hlt : k < s.size
    · have hg := bget s k hlt
      by_cases h44 : s[k] = 44
      · have hc : ∀ h : k < s.size, (s[k].toNat : Int) = 44 := fun _ => by rw [h44]; rfl
        have hsp2 : Hid (splitC 44 s.data.toList = (done ++ [(s.data.toList.drop a).take (k - a)]) ++ splitC 44 (s.data.toList.drop (k + 1))) := by
          show _ = _
          have hd := drop_at (hg.trans (by rw [h44]) : s.data.toList[k]? = some 44) hak
          rw [hsp.out, (congrArg (splitC 44) hd).trans (splitC_hit (no_in hno.out)), List.append_assoc]
          rfl
        have hext := hide (extract_mk s a k)
        clear hg h44 hsp hno
        go_wp2_with (first | (at_builtin; (with_reducible refine wpList_app rfl (.tmp 20) (.tmp 25) rfl hE.out flat_strv rfl (hown.out.alloc _) rfl (Sl.lit1' wr 9 (s.extract a k) _ rfl 1 _ ?c0) ?c1 (hza _) ?_); rotate_right; intro A5 c5 w5 hown5 hgr5 hb5 _))
        case c0 => rfl
        case c1 => omega
        go_roundw
        case rel =>
          refine ⟨k + 1, k + 1, n + 1, c5, A5, done ++ [(s.data.toList.drop a).take (k - a)], by omega, Nat.le_refl _, by omega, rfl, by go_num, by go_num, ?_, hsp2, fun j x h1 h2 => absurd h1 (by omega), (hb.alloc hz _).trans hb5⟩
          show Own _ _ _ _ _ _ _ _ _
          rw [List.map_append, List.map_cons, List.map_nil, ← hext.out]
          exact hown5
        case measure => simp [intOf]; omega
      · have hnext : Hid (∀ j x, a ≤ j → j < k + 1 → s.data.toList[j]? = some x → x ≠ 44) := fun j x h0 hj hx => by
          rcases Nat.lt_or_ge j k with h1 | h1
          · exact hno.out j x h0 h1 hx
          · have : j = k := by omega
            subst this
            rw [hg] at hx
            cases hx
            exact h44
        have hne : (s[k].toNat : Int) ≠ 44 := fun h => h44 (UInt8.toNat_inj.1 (by simpa using (by omega : s[k].toNat = 44)))
        generalize hc : (s[k].toNat : Int) = x at *
        have hgetk : ∀ h : k < s.size, (s[k].toNat : Int) = x := fun _ => hc
        have hcb : (x == 44) = false := by rw [beq_eq_false_iff_ne]; exact hne
        clear hg h44 hc hne
        go_wp2_with fail
        go_roundw
        case rel => exact ⟨k + 1, a, n, c, A, done, by omega, by omega, by omega, rfl, rfl, by go_num, hown, hsp, hnext, hb⟩
        case measure => simp [intOf]; omega
    · have hkn : k = s.size := by omega
      have hsp2 : Hid (splitC 44 s.data.toList = done ++ [s.data.toList.drop a]) := by
        show _ = _
        rw [hsp.out, splitC_miss]
        have := no_in (l := s.data.toList) (a := a) (k := k) hno.out
        rw [List.take_of_length_le (by rw [List.length_drop, bsize]; omega)] at this
        exact this
      have hext := hide (extract_mk s a s.size)
      subst hkn
      clear hsp hno
      go_wp2_with (first | (at_builtin; (with_reducible refine wpList_app rfl (.tmp 29) (.tmp 33) rfl hE.out flat_strv rfl (hown.out.alloc _) rfl (Sl.lit1' wr 9 (s.extract a s.size) _ rfl 1 _ ?c0) ?c1 (hza _) ?_); rotate_right; intro A5 c5 w5 hown5 hgr5 hb5 _))
      case c0 => rfl
      case c1 => omega
      go_ret
      have hsl := hown5.sl flat_strv
      refine ⟨A5, n + 1, c5, rfl, by omega, ?_, (hb.alloc hz _).trans hb5⟩
      unfold piecesB
      rw [hsp2.out, List.map_append, List.map_cons, List.map_nil]
      rw [hext.out, List.take_of_length_le (by rw [List.length_drop, bsize]; omega)] at hsl
      exact hsl

end Go.Proofs.YtiaclddgllkgpaaGreatDoor
