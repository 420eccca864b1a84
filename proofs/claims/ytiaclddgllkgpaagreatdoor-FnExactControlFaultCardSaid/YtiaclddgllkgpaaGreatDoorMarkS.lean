/-
  The law's own marks on a list of texts that is a result. Conditions: sizes.
-/
import Derived.Test.YtiaclddgllkgpaaGreatDoorMark
import Derived.Deep.RegionLaw
namespace Go.Proofs.YtiaclddgllkgpaaGreatDoor
open Go.ChangeShapes Go.WideShapes Go.ChangeAt Go.RowKit
set_option linter.unusedVariables false
set_option linter.unusedSimpArgs false

/-- The first k texts are marks. -/
def markU (m : Nat) : Nat → List ByteArray → List ByteArray
  | 0, l => l
  | k + 1, l => (markU m k l).set k (mText (m + k))
theorem markU_len (m : Nat) (l : List ByteArray) : ∀ k, (markU m k l).length = l.length
  | 0 => rfl
  | k + 1 => by unfold markU; rw [List.length_set, markU_len m l k]
theorem markU_get (m : Nat) (l : List ByteArray) : ∀ k i, i < k → i < l.length → (markU m k l)[i]? = some (mText (m + i))
  | 0, i, h, _ => absurd h (by omega)
  | k + 1, i, h, hl => by
    unfold markU
    by_cases e : k = i
    · subst e
      exact List.getElem?_set_self (by rw [markU_len]; exact hl)
    · rw [List.getElem?_set_ne e]
      exact markU_get m l k i (by omega) hl
theorem SlS.put {w : World} {lo hi n b off : Nat} {l : List ByteArray} (h : SlS w lo hi (some ⟨b, off, none⟩) n l) {k : Nat} (hk : k < n) (x : ByteArray) : SlS (w.setCell ⟨b, off + k, none⟩ (.string x)) lo hi (some ⟨b, off, none⟩) n (l.set k x) := by
  have := h.putN hk (fun _ => rfl) x
  simpa [putCells, strv] using this

set_option maxRecDepth 100000 in
theorem markStringS_calls (A : Option Addr) (n c : Nat) (l : List ByteArray) (m : Nat) (w : World) (lo hi : Nat) (h : SlS w lo hi A n l) (hn : n ≤ 1048576) (h0 : 0 < m) (h1 : m ≤ 549755813888) :
    Calls Tryz.prog 42 #[.slice A n c, .int .i64 (m : Int)] w fun e w' => e = .returned (.int .i64 ((m + n : Nat) : Int)) ∧ SlS w' lo hi A n (markU m n l) ∧ Only lo hi w w' := by
  go_enter Tryz.func42, Tryz.ntmps42
  go_wp2
  go_loopw [1, 5] (fun s i wr => ∃ k : Nat, k ≤ n ∧ i = .int .i64 k ∧ s = .int .i64 ((m + k : Nat) : Int) ∧ SlS wr lo hi A n (markU m k l) ∧ Only lo hi w wr) (fun _ i _ => n - (intOf i).toNat)
  case atStart => exact ⟨0, Nat.zero_le _, rfl, rfl, h, Only.refl _ _ _⟩
  case round =>
    clear h
    obtain ⟨k, hk, rfl, rfl, hs, ho⟩ := hrel
    by_cases hlt : k < n
    · have q := hide (markText_calls (m + k) (by omega) (by omega) wr)
      obtain ⟨b, off, x, rfl, g1, g2, g3, hx, c0, z0⟩ := SlS.get hs hlt
      replace hs := hide hs
      replace ho := hide ho
      clear hx
      go_wp2_with fail
      refine q.out.mono ?_
      rintro e w1 ⟨rfl, hb1⟩
      have hk1 := OnlyK.below (lo := lo) (hi := hi) hb1
      have c1 := (hb1.cell (p := ⟨b, off + k, none⟩) g3).trans c0
      have hs1 := hs.out.below hb1 (.inr (Nat.le_refl _))
      obtain ⟨_, _, _, e9, _, _, _, _, _, z1⟩ := SlS.get hs1 hlt
      injection e9 with e9
      injection e9 with e9 e8
      subst e9 e8
      have hput := hide (SlS.put hs1 hlt (mText (m + k)))
      have ho2 := hide (Only.trans ho.out hk1.only)
      clear hs1 hk1 hb1 c0 z0
      go_wp2_with fail
      go_roundw
      case rel => exact ⟨k + 1, by omega, by go_num, by go_num, hput.out, ho2.out.setCell g1 g2 _⟩
      case measure => simp [intOf]; omega
    · have hkn : k = n := by omega
      subst hkn
      replace ho := hide ho
      replace hs := hide hs
      go_wp2
      go_ret
      exact ⟨rfl, hs.out, ho.out⟩

set_option maxRecDepth 100000 in
theorem heldStringS_calls (A : Option Addr) (n c : Nat) (l : List ByteArray) (m : Nat) (w : World) (lo hi : Nat) (h : SlS w lo hi A n l) (hn : n ≤ 1048576) (h0 : 0 < m) (h1 : m ≤ 549755813888)
    (hl : ∀ i, i < n → l[i]? = some (mText (m + i))) :
    Calls Tryz.prog 43 #[.slice A n c, .int .i64 (m : Int)] w fun e w' => e = .returned (.int .i64 ((m + n : Nat) : Int)) ∧ Below w.heap.size w w' := by
  replace hl := hide hl
  go_enter Tryz.func43, Tryz.ntmps43
  go_wp2
  go_loopw [1, 5] (fun s i wr => ∃ k : Nat, k ≤ n ∧ i = .int .i64 k ∧ s = .int .i64 ((m + k : Nat) : Int) ∧ Below w.heap.size w wr) (fun _ i _ => n - (intOf i).toNat)
  case atStart => exact ⟨0, Nat.zero_le _, rfl, rfl, Below.refl _ _⟩
  case round =>
    obtain ⟨k, hk, rfl, rfl, hb⟩ := hrel
    by_cases hlt : k < n
    · obtain ⟨b, off, x, rfl, g1, g2, g3, hx, c0, z0⟩ := SlS.get h hlt
      rw [hl.out k hlt] at hx
      obtain rfl := Option.some.inj hx
      replace c0 := (hb.cell (p := ⟨b, off + k, none⟩) g3).trans c0
      have g3r : b < wr.heap.size := Nat.lt_of_lt_of_le g3 hb.size
      have q := markText_calls (m + k) (by omega) (by omega) wr.drew
      rw [Int.natCast_add] at q
      have hself : ((mText (m + k)).toList != (mText (m + k)).toList) = false := by simp
      replace q := hide q
      replace hb := hide hb
      clear h hx
      have hk0 : (0 : Int) ≤ (k : Int) := by omega
      have hk9 : (k : Int) < (n : Int) := by omega
      go_wp2
      go_region_law (first | (go_simp; go_at_call 81; (with_reducible refine q.out.mono ?_); rintro e w1 ⟨rfl, hb1⟩; have d0 := (hb1.cell (p := ⟨b, off + k, none⟩) g3r).trans c0))
      all_goals (have hbw := hide (hb.out.trans (((Below.refl wr.heap.size wr).drew.trans hb1).mono hb.out.size)))
      all_goals go_wp2_with fail
      all_goals go_roundw
      all_goals first | exact ⟨k + 1, by omega, by go_num, by go_num, hbw.out⟩ | (simp [intOf]; omega)
    · have hkn : k = n := by omega
      subst hkn
      replace hb := hide hb
      clear h
      go_wp2
      go_ret
      exact ⟨rfl, hb.out⟩

def HeldS (m : Int) (d : List ByteArray) (m' : Int) : Prop := 0 < m ∧ m ≤ 549755813888 ∧ m' = m + (d.length : Int) ∧ ∀ i, i < d.length → d[i]? = some (mText (m.toNat + i))
theorem markStringS_u {v : Value} {d : DSS} {m : Int} {w : World} {lo hi : Nat} (h : ResS w lo hi v d) (h0 : 0 < m) (h1 : m ≤ 549755813888) :
    Calls Tryz.prog 42 #[v, .int .i64 m] w fun e w' => ∃ m' d', e = .returned (.int .i64 m') ∧ m ≤ m' ∧ m' ≤ m + 8388608 ∧ Only lo hi w w' ∧ ResS w' lo hi v d' ∧ HeldS m d' m' := by
  obtain ⟨⟨A, n, c, rfl, h2, h5, h3⟩, ht⟩ := h
  have hl := h3.len
  obtain ⟨m, rfl⟩ : ∃ k : Nat, m = (k : Int) := ⟨m.toNat, by omega⟩
  refine (markStringS_calls A n c d m w lo hi h3 (by omega) (by omega) (by omega)).mono ?_
  rintro e w' ⟨rfl, hs, ho⟩
  have hg : ∀ i, i < (markU m n d).length → (markU m n d)[i]? = some (mText (m + i)) := fun i hi => by
    rw [markU_len] at hi
    exact markU_get m d n i (by omega) hi
  refine ⟨_, _, rfl, by omega, by omega, ho, ⟨⟨A, n, c, rfl, h2, fun s hs' => ?_, hs⟩, by rw [markU_len]; exact ht⟩, by omega, h1, by rw [markU_len, hl]; omega, fun i hi => by rw [Int.toNat_natCast]; exact hg i hi⟩
  obtain ⟨i, hi⟩ := List.getElem?_of_mem hs'
  have hil := (List.getElem?_eq_some_iff.1 hi).1
  rw [hg i hil] at hi
  obtain rfl := Option.some.inj hi
  have := mText_size (m + i)
  unfold maxLen
  omega
theorem heldStringS_u {v : Value} {d : DSS} {m m' : Int} {w : World} {lo hi : Nat} (h : ResS w lo hi v d) (hh : HeldS m d m') :
    Calls Tryz.prog 43 #[v, .int .i64 m] w fun e w' => e = .returned (.int .i64 m') ∧ Below w.heap.size w w' := by
  obtain ⟨⟨A, n, c, rfl, h2, h5, h3⟩, ht⟩ := h
  obtain ⟨k0, k1, rfl, k2⟩ := hh
  have hl := h3.len
  obtain ⟨m, rfl⟩ : ∃ k : Nat, m = (k : Int) := ⟨m.toNat, by omega⟩
  rw [Int.toNat_natCast] at k2
  refine (heldStringS_calls A n c d m w lo hi h3 (by omega) (by omega) (by omega) (fun i hi => k2 i (by omega))).mono ?_
  rintro e w' ⟨rfl, hb⟩
  exact ⟨by rw [hl]; simp, hb⟩

end Go.Proofs.YtiaclddgllkgpaaGreatDoor
