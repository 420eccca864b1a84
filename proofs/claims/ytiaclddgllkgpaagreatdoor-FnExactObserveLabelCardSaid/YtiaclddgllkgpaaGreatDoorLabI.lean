/-
  The program's reading of lists of numbers, joining, tests of values. Conditions: sizes.
-/
import Derived.Test.YtiaclddgllkgpaaGreatDoorRead
import Derived.Test.YtiaclddgllkgpaaGreatDoorVals
import Derived.Test.YtiaclddgllkgpaaGreatDoorFuncsI
import Derived.Lib.ItoaLen
namespace Go.Proofs.YtiaclddgllkgpaaGreatDoor
open Go.ChangeShapes Go.WideShapes Go.ChangeAt Go.RowKit
set_option linter.unusedVariables false

theorem numsOf_snoc {f : List UInt8 → Option Int} : ∀ {l : List (List UInt8)} {ns : List Int} {x : List UInt8} {v : Int}, numsOf f l = some ns → f x = some v → numsOf f (l ++ [x]) = some (ns ++ [v])
  | [], ns, x, v, h, hf => by
    cases h
    show numsOf f [x] = _
    unfold numsOf
    rw [hf]
    rfl
  | y :: l, ns, x, v, h, hf => by
    unfold numsOf at h
    split at h
    · rename_i n ms hn hm
      cases h
      rw [List.cons_append]
      unfold numsOf
      rw [hn, numsOf_snoc hm hf]
      rfl
    · cases h

def dataL (l : List ByteArray) : List (List UInt8) := l.map (·.data.toList)
/-- What readNumbers hands back. -/
def NumsR (w w' : World) (n : Nat) (o : Option (List Int)) (e : Ending) : Prop :=
  match o with
  | none => e = .returned (.tuple #[.slice none 0 0, .bool false])
  | some ns => ∃ A c, e = .returned (.tuple #[.slice A n c, .bool true]) ∧ SlI w' w.heap.size w'.heap.size A n ns

set_option maxRecDepth 100000 in
set_option maxHeartbeats 800000 in
theorem readNumbers_calls (A : Option Addr) (n c : Nat) (l : List ByteArray) (w : World) (lo hi : Nat) (h : SlS w lo hi A n l) (hn : n ≤ 1048577) (hs : ∀ s ∈ l, s.size ≤ 1048576) (he : Env w) :
    Calls Tryz.prog 217 #[.slice A n c] w fun e w' => NumsR w w' n (numsOf numS (dataL l)) e ∧ Below w.heap.size w w' := by
  have hE := hide elem_int
  have hlen := hide h.len
  replace hs := hide hs
  go_enter Tryz.func217, Tryz.ntmps217
  go_wp2
  go_loopw [4, 11] (fun o i wr => ∃ (k : Nat) (A5 : Option Addr) (c5 : Nat) (L : List Int), k ≤ n ∧ o = .slice A5 k c5 ∧ i = .int .i64 (k : Nat) ∧ Hid (Own 1 iv wr w.heap.size 2 A5 k c5 L) ∧ Hid (numsOf numS ((dataL l).take k) = some L) ∧ Below w.heap.size w wr) (fun _ i _ => n - (intOf i).toNat)
  case atStart => exact ⟨0, none, 0, [], Nat.zero_le _, rfl, rfl, Own.nil_ _ _ _, rfl, Below.refl _ _⟩
  case round =>
    obtain ⟨k, A5, c5, L, hk, rfl, rfl, hown, hall, hb⟩ := hrel
    have hz := hb.size
    by_cases hlt : k < n
    · obtain ⟨bb, off, x, rfl, g1, g2, g3, hx, cc0, -⟩ := SlS.get h hlt
      replace cc0 := (hb.cell (p := ⟨bb, off + k, none⟩) g3).trans cc0
      have hx2 : (dataL l)[k]? = some x.data.toList := by unfold dataL; rw [List.getElem?_map, hx]; rfl
      have q3 := readDecimal_calls x (hs.out x (List.mem_of_getElem? hx)) wr (he.below hb (Nat.le_refl _))
      have htk : (dataL l).take (k + 1) = (dataL l).take k ++ [x.data.toList] := by rw [List.take_add_one, hx2]; rfl
      cases hnx : numS x.data.toList with
      | none =>
        have hv : Hid (numsOf numS (dataL l) = none) := numsOf_none hx2 hnx
        rw [hnx] at q3
        have q4 : Hid (Calls Tryz.prog 235 #[.string x] wr fun e w' => e = .returned (.tuple #[.int .i64 0, .bool false]) ∧ Below wr.heap.size wr w') := q3
        clear hx hx2 hnx q3 htk hall hown h he
        go_wp2_with fail
        refine q4.out.mono ?_
        rintro e w2 ⟨rfl, hb2⟩
        go_wp2_with fail
        go_ret2
        refine ⟨?_, hb.trans (hb2.mono hz)⟩
        rw [hv.out]
        rfl
      | some v =>
        have hnext : Hid (numsOf numS ((dataL l).take (k + 1)) = some (L ++ [v])) := by
          show _ = _
          rw [htk]
          exact numsOf_snoc hall.out hnx
        rw [hnx] at q3
        have q4 : Hid (Calls Tryz.prog 235 #[.string x] wr fun e w' => e = .returned (.tuple #[.int .i64 v, .bool true]) ∧ Below wr.heap.size wr w') := q3
        clear hx hx2 hnx q3 htk hall h he
        go_wp2_with fail
        refine q4.out.mono ?_
        rintro e w2 ⟨rfl, hb2⟩
        have hown2 := hide (hown.out.below hb2 (Nat.le_refl _))
        have hb3 := hb.trans (hb2.mono hz)
        have hz3 := hb3.size
        have hza : ∀ o, w.heap.size ≤ (w2.alloc o).heap.size := fun o => by rw [World.size_alloc]; omega
        clear hb2 hown
        go_wp2_with (first | (at_builtin; (with_reducible refine wpList_app rfl (.tmp 22) (.tmp 24) rfl hE.out flat_iv rfl (hown2.out.alloc _) rfl (Sl.lit1' w2 2 v _ rfl 1 _ ?c0) ?c1 (hza _) ?_); rotate_right; intro A7 c7 w7 hown7 hgr7 hb7 _))
        case c0 => rfl
        case c1 => omega
        go_roundw
        case rel => exact ⟨k + 1, A7, c7, L ++ [v], by omega, rfl, by go_num, hown7, hnext, (hb3.alloc hz3 _).trans hb7⟩
        case measure => simp [intOf]; omega
    · have hkn : k = n := by omega
      subst hkn
      have hv : Hid (numsOf numS (dataL l) = some L) := by
        have := hall.out
        rw [List.take_of_length_le (by unfold dataL; rw [List.length_map, hlen.out]; exact Nat.le_refl _)] at this
        exact this
      go_wp2_with fail
      go_ret2
      refine ⟨?_, hb⟩
      rw [hv.out]
      exact ⟨A5, c5, rfl, hown.out.sl flat_iv⟩

theorem isValue_calls (v : Int) (w : World) : Calls Tryz.prog 252 #[.int .i64 v] w fun e w' => e = .returned (.bool (inB v 0 63)) ∧ w = w' := by
  have q := hide (within_calls v 0 63 w)
  go_enter Tryz.func252, Tryz.ntmps252
  go_wp2_with fail
  refine q.out.mono ?_
  rintro e w1 ⟨rfl, rfl⟩
  go_wp2_with fail
  go_ret
  exact ⟨rfl, rfl⟩
theorem areValues1_calls (v : Int) (w : World) : Calls Tryz.prog 251 #[.int .i64 v] w (Says (!(inB v 0 63)) w) := by
  have q := hide (isValue_calls v w)
  go_enter Tryz.func251, Tryz.ntmps251
  go_wp2_with fail
  refine q.out.mono ?_
  rintro e w1 ⟨rfl, rfl⟩
  go_wp2_with fail
  go_ret
  exact ⟨rfl, Below.refl _ _⟩
theorem areValues_calls (A : Option Addr) (n c : Nat) (L : List Int) (w : World) (lo hi : Nat) (h : SlI w lo hi A n L) (hn : n ≤ 1048576) :
    Calls Tryz.prog 238 #[.slice A n c] w (Says (L.all isVal) w) := by
  have q := hide (containsFuncI_calls 251 #[] (fun v => !(inB v 0 63)) A n c L w lo hi h hn (fun v W => by kernel_rfl) (fun v W _ => areValues1_calls v W))
  have hv : Hid (L.all isVal = !(L.any fun v => !(inB v 0 63))) := by
    show _ = _
    have : isVal = fun v => inB v 0 63 := rfl
    rw [this, List.not_any_eq_all_not]
    simp
  clear h
  go_enter Tryz.func238, Tryz.ntmps238
  go_wp2_with fail
  refine q.out.mono ?_
  rintro e w1 ⟨rfl, hb⟩
  go_wp2_with fail
  go_ret
  exact ⟨ret_b (by rw [hv.out]), hb⟩

theorem join_len (sep : List UInt8) (m : Nat) : ∀ xs : List (List UInt8), (∀ x ∈ xs, x.length ≤ m) → (Lib.join xs sep).length ≤ xs.length * (m + sep.length)
  | [], _ => by rw [Lib.join_nil]; simp
  | [x], h => by
    rw [Lib.join_one]
    have := h x (by simp)
    simp
    omega
  | x :: y :: r, h => by
    have ih := join_len sep m (y :: r) (fun z hz => h z (List.mem_cons_of_mem _ hz))
    have hx := h x (by simp)
    rw [join_cons2, List.length_append, List.length_append, List.length_cons, Nat.add_mul]
    omega

def decB (n : Int) : ByteArray := ⟨(Lib.itoa n).toArray⟩
set_option maxRecDepth 100000 in
set_option maxHeartbeats 800000 in
theorem joined_calls (A : Option Addr) (n c : Nat) (L : List Int) (w : World) (lo hi : Nat) (h : SlI w lo hi A n L) (hn : n ≤ 1048576) (hL : ∀ v ∈ L, -9223372036854775808 ≤ v ∧ v ≤ 9223372036854775807) (he : Env w) :
    Calls Tryz.prog 239 #[.slice A n c, .string ⟨#[44]⟩] w fun e w' => e = .returned (.string (mkB (Lib.join (L.map Lib.itoa) [44]))) ∧ Below w.heap.size w w' := by
  obtain ⟨i0, hi0, hz0, hz1, hz2⟩ := info_parts info_string
  have hmk := fun W => make_row (P := Tryz.prog) 22 9 i0 _ _ n Tryz.underlying22 hi0 hz0 hz1 (by rw [hz2]; omega) (by omega) W
  clear hi0 hz0 hz1 hz2
  have hlen := hide h.len
  replace hL := hide hL
  go_enter Tryz.func239, Tryz.ntmps239
  go_wp2
  go_loopw [13] (fun i wr => ∃ k : Nat, k ≤ n ∧ i = .int .i64 k ∧ Below w.heap.size w wr ∧ Fill 1 strv wr w.heap.size 9 n k (L.map decB)) (fun i _ => n - (intOf i).toNat)
  case atStart => exact ⟨0, Nat.zero_le _, rfl, (Below.refl _ _).alloc (Nat.le_refl _) _, Fill.start _ _ _ _ (by simp [madeCells])⟩
  case round =>
    obtain ⟨k, hk, rfl, hb, hf⟩ := hrel
    clear hmk
    by_cases hlt : k < n
    · obtain ⟨b, off, x, rfl, g1, g2, g3, hx, c0, -⟩ := h.get hlt
      replace c0 := (hb.cell (p := ⟨b, off + k, none⟩) g3).trans c0
      have hxb := hL.out x (List.mem_of_getElem? hx)
      have q := hide (decimal_calls x hxb.1 hxb.2 wr (he.below hb (Nat.le_refl _)))
      have hx2 : Hid ((L.map decB)[k]? = some (decB x)) := by show _ = _; rw [List.getElem?_map, hx]; rfl
      clear h hx hxb he
      go_wp2_with fail
      refine q.out.mono ?_
      rintro e w1 ⟨rfl, hb1⟩
      have hf1 := hf.keep (hb1.block _ hf.lt)
      obtain ⟨v0, d0⟩ := hf1.cell (i := k) (by omega)
      have z0 := hf1.frozen k
      go_wp2_with fail
      go_roundw
      case rel => exact ⟨k + 1, by omega, by go_num, (hb.trans (hb1.mono hb.size)).setCell (Nat.le_refl _) _, hf1.set1 hlt (fun _ => rfl) hx2.out rfl⟩
      case measure => simp [intOf]; omega
    · have hkn : k = n := by omega
      subst hkn
      have hml : (L.map decB).length = k := by rw [List.length_map]; exact hlen.out
      have hsl := hf.done hml (Nat.le_refl _) hf.lt
      have hdat : (L.map decB).map (·.data.toList) = L.map Lib.itoa := by rw [List.map_map]; rfl
      have hjl := join_len [44] 21 (L.map Lib.itoa) (fun y hy => by
        obtain ⟨v, hv, rfl⟩ := List.mem_map.1 hy
        exact Lib.itoa_length_le v (hL.out v hv).1 (hL.out v hv).2)
      rw [List.length_map, hlen.out, show 21 + ([44] : List UInt8).length = 22 from rfl] at hjl
      have q : Calls Tryz.prog 253 #[.slice (some ⟨w.heap.size, 0, none⟩) k k, .string ⟨#[44]⟩] wr fun e w' => e = .returned (.string (mkB (Lib.join (L.map Lib.itoa) [44]))) ∧ Below wr.heap.size wr w' := by
        have := Tryz.strings_Join w.heap.size 0 k (L.map decB) ⟨#[44]⟩ wr (fun j x hx => by
          have hj : j < k := by rw [← hml]; exact (List.getElem?_eq_some_iff.1 hx).1
          obtain ⟨b, off, e1, _, _, _, hcell⟩ := hsl.at_ (by omega)
          cases e1
          have := (hcell j x hx 0 _ rfl).1
          simpa using this) hf.lt (by rw [hml]; omega) (by rw [hml]; exact Nat.le_refl _) (by
            rw [hdat]
            show (Lib.join (L.map Lib.itoa) [44]).length ≤ _
            omega)
        rw [hml, hdat] at this
        exact this
      replace q := hide q
      clear h hsl hdat hjl he
      go_wp2_with fail
      refine q.out.mono ?_
      rintro e w1 ⟨rfl, hb1⟩
      go_wp2_with fail
      go_ret
      exact ⟨rfl, hb.trans (hb1.mono hb.size)⟩

end Go.Proofs.YtiaclddgllkgpaaGreatDoor
