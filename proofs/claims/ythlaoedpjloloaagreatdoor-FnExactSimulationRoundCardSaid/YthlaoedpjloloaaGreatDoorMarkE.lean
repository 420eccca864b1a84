/-
  Lists of edges as results of a law: the helpers' contracts in one shape. Conditions: sizes.
-/
import Derived.Test.YthlaoedpjloloaaGreatDoorBaseA
import Derived.Test.YthlaoedpjloloaaGreatDoorMark
import Derived.Test.YthlaoedpjloloaaGreatDoorBaseC
import Derived.StillTailTactics
import Derived.Deep.RegionLaw
namespace Go.Proofs.YthlaoedpjloloaaGreatDoor
open Go.ChangeShapes Go.WideShapes Go.ChangeAt Go.RowKit
set_option linter.unusedVariables false
set_option linter.unusedSimpArgs false

def edM (m : Nat) : Ed := ((m : Int), (m : Int) + 1, (m : Int) + 1 + 1)
/-- The first k edges are marks. -/
def markD (m : Nat) : Nat → List Ed → List Ed
  | 0, l => l
  | k + 1, l => (markD m k l).set k (edM (m + 3 * k))
theorem markD_len (m : Nat) (l : List Ed) : ∀ k, (markD m k l).length = l.length
  | 0 => rfl
  | k + 1 => by unfold markD; rw [List.length_set, markD_len m l k]
theorem markD_get (m : Nat) (l : List Ed) : ∀ k i, i < k → i < l.length → (markD m k l)[i]? = some (edM (m + 3 * i))
  | 0, i, h, _ => absurd h (by omega)
  | k + 1, i, h, hl => by
    unfold markD
    by_cases e : k = i
    · subst e
      exact List.getElem?_set_self (by rw [markD_len]; exact hl)
    · rw [List.getElem?_set_ne e]
      exact markD_get m l k i (by omega) hl
theorem SlE.put {w : World} {lo hi n b off : Nat} {l : List Ed} (h : SlE w lo hi (some ⟨b, off, none⟩) n l) {k : Nat} (hk : k < n) (x y z : Int) : SlE (((w.setCell ⟨b, off + k * 3, none⟩ (.int .i64 x)).setCell ⟨b, off + k * 3 + 1, none⟩ (.int .i64 y)).setCell ⟨b, off + k * 3 + 2, none⟩ (.int .i64 z)) lo hi (some ⟨b, off, none⟩) n (l.set k (x, y, z)) := by
  have := h.putN hk (fun _ => rfl) (x, y, z)
  simpa [putCells, ev] using this

set_option maxRecDepth 100000 in
set_option maxHeartbeats 800000 in
theorem markEdgeS_calls (A : Option Addr) (n c : Nat) (l : List Ed) (m : Nat) (w : World) (lo hi : Nat) (h : SlE w lo hi A n l) (hn : n ≤ 1048576) (h0 : 0 < m) (h1 : m ≤ 549755813888) :
    Calls Tryz.prog 31 #[.slice A n c, .int .i64 (m : Int)] w fun e w' => e = .returned (.int .i64 ((m + 3 * n : Nat) : Int)) ∧ SlE w' lo hi A n (markD m n l) ∧ Only lo hi w w' := by
  go_enter Tryz.func31, Tryz.ntmps31
  go_wp2
  go_loopw [1, 5] (fun s i wr => ∃ k : Nat, k ≤ n ∧ i = .int .i64 k ∧ s = .int .i64 ((m + 3 * k : Nat) : Int) ∧ SlE wr lo hi A n (markD m k l) ∧ Only lo hi w wr) (fun _ i _ => n - (intOf i).toNat)
  case atStart => exact ⟨0, Nat.zero_le _, rfl, rfl, h, Only.refl _ _ _⟩
  case round =>
    clear h
    obtain ⟨k, hk, rfl, rfl, hs, ho⟩ := hrel
    by_cases hlt : k < n
    · obtain ⟨b, off, f, lb, tg, rfl, g1, g2, g3, hx, c0, c1, c2, z0, z1, z2⟩ := SlE.get hs hlt
      have hput := hide (SlE.put hs hlt ((m + 3 * k : Nat) : Int) (((m + 3 * k : Nat) : Int) + 1) (((m + 3 * k : Nat) : Int) + 1 + 1))
      replace ho := hide ho
      clear hs hx
      go_wp2
      go_roundw
      case rel => exact ⟨k + 1, by omega, by go_num, by go_num, hput.out, ((ho.out.setCell g1 g2 _).setCell g1 g2 _).setCell g1 g2 _⟩
      case measure => simp [intOf]; omega
    · have hkn : k = n := by omega
      subst hkn
      replace ho := hide ho
      replace hs := hide hs
      go_wp2
      go_ret
      exact ⟨rfl, hs.out, ho.out⟩

set_option maxRecDepth 100000 in
set_option maxHeartbeats 800000 in
theorem heldEdgeS_calls (A : Option Addr) (n c : Nat) (l : List Ed) (m : Nat) (w : World) (lo hi : Nat) (h : SlE w lo hi A n l) (hn : n ≤ 1048576) (h0 : 0 < m) (h1 : m ≤ 549755813888)
    (hl : ∀ i, i < n → l[i]? = some (edM (m + 3 * i))) :
    Calls Tryz.prog 32 #[.slice A n c, .int .i64 (m : Int)] w fun e w' => e = .returned (.int .i64 ((m + 3 * n : Nat) : Int)) ∧ w = w' := by
  replace hl := hide hl
  go_enter Tryz.func32, Tryz.ntmps32
  go_wp2
  go_loop [1, 5] (fun s i => ∃ k : Nat, k ≤ n ∧ i = .int .i64 k ∧ s = .int .i64 ((m + 3 * k : Nat) : Int)) (fun _ i => n - (intOf i).toNat)
  case atStart => exact ⟨0, Nat.zero_le _, rfl, rfl⟩
  case round =>
    obtain ⟨k, hk, rfl, rfl⟩ := hrel
    by_cases hlt : k < n
    · obtain ⟨b, off, f, lb, tg, rfl, g1, g2, g3, hx, c0, c1, c2, -, -, -⟩ := SlE.get h hlt
      rw [hl.out k hlt] at hx
      have hx := Option.some.inj hx
      unfold edM at hx
      injection hx with e0 hx
      injection hx with e1 e2
      subst e0 e1 e2
      clear h
      go_wp2
      go_round
      case rel => exact ⟨k + 1, by omega, by go_num, by go_num⟩
      case measure => simp [intOf]; omega
    · have hkn : k = n := by omega
      subst hkn
      clear h
      go_wp2
      go_ret
      exact ⟨rfl, rfl⟩

def ResEd (w : World) (lo hi : Nat) (v : Value) (d : List Ed) : Prop := ∃ A n c, v = .slice A n c ∧ n ≤ 1048576 ∧ SlE w lo hi A n d
def HeldEd (m : Int) (d : List Ed) (m' : Int) : Prop := 0 < m ∧ m ≤ 549755813888 ∧ m' = m + 3 * (d.length : Int) ∧ ∀ i, i < d.length → d[i]? = some (edM (m.toNat + 3 * i))
theorem ResEd.below {w w' : World} {lo hi B : Nat} {v : Value} {d : List Ed} (h : ResEd w lo hi v d) (hb : Below B w w') (hB : hi ≤ B ∨ w.heap.size ≤ B) : ResEd w' lo hi v d := by
  obtain ⟨A, n, c, h1, h2, h3⟩ := h
  exact ⟨A, n, c, h1, h2, h3.below hb hB⟩
theorem ResEd.only {w w' : World} {lo hi lo' hi' : Nat} {v : Value} {d : List Ed} (h : ResEd w lo hi v d) (g : Only lo' hi' w w') (hd : hi ≤ lo' ∨ hi' ≤ lo) : ResEd w' lo hi v d := by
  obtain ⟨A, n, c, h1, h2, h3⟩ := h
  exact ⟨A, n, c, h1, h2, h3.only g hd⟩
theorem eqEdgeS_u {v u : Value} {d e : List Ed} {w : World} {lo hi lo' hi' : Nat} (h : ResEd w lo hi v d) (g : ResEd w lo' hi' u e) :
    Calls Tryz.prog 29 #[v, u] w fun r w' => r = .returned (.bool (decide (d = e))) ∧ Below w.heap.size w w' := by
  obtain ⟨A, n, c, rfl, h1, h2⟩ := h
  obtain ⟨B, m, b, rfl, g1, g2⟩ := g
  exact eqEdgeS_calls A B n m c b d e w lo hi lo' hi' h2 g2 (by unfold maxLen; omega) (by unfold maxLen; omega)
theorem markEdgeS_u {v : Value} {d : List Ed} {m : Int} {w : World} {lo hi : Nat} (h : ResEd w lo hi v d) (h0 : 0 < m) (h1 : m ≤ 549755813888) :
    Calls Tryz.prog 31 #[v, .int .i64 m] w fun e w' => ∃ m' d', e = .returned (.int .i64 m') ∧ m ≤ m' ∧ m' ≤ m + 8388608 ∧ Only lo hi w w' ∧ ResEd w' lo hi v d' ∧ HeldEd m d' m' := by
  obtain ⟨A, n, c, rfl, h2, h3⟩ := h
  have hl := h3.len
  obtain ⟨m, rfl⟩ : ∃ k : Nat, m = (k : Int) := ⟨m.toNat, by omega⟩
  refine (markEdgeS_calls A n c d m w lo hi h3 h2 (by omega) (by omega)).mono ?_
  rintro e w' ⟨rfl, hs, ho⟩
  refine ⟨_, _, rfl, by omega, by omega, ho, ⟨A, n, c, rfl, h2, hs⟩, by omega, h1, by rw [markD_len, hl]; omega, fun i hi => ?_⟩
  rw [markD_len] at hi
  rw [Int.toNat_natCast]
  exact markD_get m d n i (by omega) hi
theorem heldEdgeS_u {v : Value} {d : List Ed} {m m' : Int} {w : World} {lo hi : Nat} (h : ResEd w lo hi v d) (hh : HeldEd m d m') :
    Calls Tryz.prog 32 #[v, .int .i64 m] w fun e w' => e = .returned (.int .i64 m') ∧ w = w' := by
  obtain ⟨A, n, c, rfl, h2, h3⟩ := h
  obtain ⟨k0, k1, rfl, k2⟩ := hh
  have hl := h3.len
  obtain ⟨m, rfl⟩ : ∃ k : Nat, m = (k : Int) := ⟨m.toNat, by omega⟩
  rw [Int.toNat_natCast] at k2
  refine (heldEdgeS_calls A n c d m w lo hi h3 h2 (by omega) (by omega) (fun i hi => k2 i (by omega))).mono ?_
  rintro e w' ⟨rfl, hb⟩
  exact ⟨by rw [hl]; simp, hb⟩

end Go.Proofs.YthlaoedpjloloaaGreatDoor
