/-
  The greatest simulation, by the program: its first round. Conditions: sizes.
-/
import Derived.Test.YthlaoedpjloloaaGreatDoorSimK
import Derived.Carry
namespace Go.Proofs.YthlaoedpjloloaaGreatDoor
open Go.ChangeShapes Go.WideShapes Go.ChangeAt Go.RowKit Go.Sort
set_option linter.unusedVariables false
set_option linter.unusedSimpArgs false

theorem pairs_few {S : List PQ2} (hn : S.Nodup) (h : ∀ q, q ∈ S → (0 ≤ q.1 ∧ q.1 < 40) ∧ 0 ≤ q.2 ∧ q.2 < 40) : S.length ≤ 1600 := by
  have h1 : (S.map fun q => q.1.toNat * 40 + q.2.toNat).Nodup := by
    rw [List.Nodup, List.pairwise_map]
    refine List.Pairwise.imp_of_mem (fun {a b} ha hb hne e => hne ?_) hn
    have := h a ha
    have := h b hb
    exact Prod.ext (by omega) (by omega)
  have := nodup_few_aux 1600 _ h1 fun x hx => by
    obtain ⟨q, hq, rfl⟩ := List.mem_map.1 hx
    have := h q hq
    omega
  simpa using this

/-- The boxes of both systems. -/
structure BoxAB (w : World) (bA : Nat) (s0 s1 : Int) (A2 : Option Addr) (n2 k2 : Nat) (A3 : Option Addr) (n3 k3 : Nat) (r0 r1 : Int) (B2 : Option Addr) (m2 j2 : Nat) (B3 : Option Addr) (m3 j3 : Nat) (lt : List ByteArray) (et : List Ed) (lp : List ByteArray) (ep : List Ed) : Prop where
  kA : w.heap[bA]? = some (.cells #[.int .i64 s0, .int .i64 s1, .slice A2 n2 k2, .slice A3 n3 k3] 31 (0, 0))
  kB : w.heap[bA + 1]? = some (.cells #[.int .i64 r0, .int .i64 r1, .slice B2 m2 j2, .slice B3 m3 j3] 31 (0, 0))
theorem BoxAB.keep {w w' : World} {bA : Nat} {s0 s1 : Int} {A2 : Option Addr} {n2 k2 : Nat} {A3 : Option Addr} {n3 k3 : Nat} {r0 r1 : Int} {B2 : Option Addr} {m2 j2 : Nat} {B3 : Option Addr} {m3 j3 : Nat} {lt : List ByteArray} {et : List Ed} {lp : List ByteArray} {ep : List Ed}
    (h : BoxAB w bA s0 s1 A2 n2 k2 A3 n3 k3 r0 r1 B2 m2 j2 B3 m3 j3 lt et lp ep) (hk : ∀ b, b = bA ∨ b = bA + 1 → w'.heap[b]? = w.heap[b]?) : BoxAB w' bA s0 s1 A2 n2 k2 A3 n3 k3 r0 r1 B2 m2 j2 B3 m3 j3 lt et lp ep := ⟨(hk _ (.inl rfl)).trans h.kA, (hk _ (.inr rfl)).trans h.kB⟩

/-- The pairs that are laid first. -/
def laidB (p x y : Int) (u v : Int) : Prop := ((0 ≤ u ∧ u < x) ∧ 0 ≤ v ∧ v < p) ∨ (u = x ∧ 0 ≤ v ∧ v < y)

/-- Where the first round stands. -/
structure FstI (w wr : World) (bA m : Nat) (n p x y : Int) (S : List PQ2) (s0 s1 : Int) (A2 : Option Addr) (n2 k2 : Nat) (A3 : Option Addr) (n3 k3 : Nat) (r0 r1 : Int) (B2 : Option Addr) (m2 j2 : Nat) (B3 : Option Addr) (m3 j3 : Nat) (lt : List ByteArray) (et : List Ed) (lp : List ByteArray) (ep : List Ed) : Prop where
  box : BoxAB wr bA s0 s1 A2 n2 k2 A3 n3 k3 r0 r1 B2 m2 j2 B3 m3 j3 lt et lp ep
  now : NowAt wr (bA + 1 + 1 + 1) m S
  mem : ∀ u v, (u, v) ∈ S ↔ laidB p x y u v
  bel : Below w.heap.size w wr
  lo : w.heap.size ≤ bA
  mlo : m = bA + 1 + 1

theorem nodup_sub_len : ∀ {T S : List PQ2}, T.Nodup → (∀ q, q ∈ T → q ∈ S) → T.length ≤ S.length
  | [], S, _, _ => Nat.zero_le _
  | a :: T, S, hn, h => by
    have h1 : (S.erase a).length = S.length - 1 := List.length_erase_of_mem (h a (List.mem_cons_self ..))
    have h2 := nodup_sub_len (T := T) (S := S.erase a) (List.nodup_cons.1 hn).2 fun q hq => (List.mem_erase_of_ne (fun e : q = a => (List.nodup_cons.1 hn).1 (by rw [← e]; exact hq))).2 (h q (List.mem_cons_of_mem _ hq))
    have h3 : 0 < S.length := List.length_pos_of_mem (h a (List.mem_cons_self ..))
    simp only [List.length_cons]
    omega
theorem nodup_sub_eq {T S : List PQ2} (hT : T.Nodup) (h : ∀ q, q ∈ T → q ∈ S) (hl : S.length ≤ T.length) (q : PQ2) (hq : q ∈ S) : q ∈ T := by
  rcases Classical.em (q ∈ T) with h1 | h1
  · exact h1
  · have := nodup_sub_len (T := q :: T) (S := S) (List.nodup_cons.2 ⟨h1, hT⟩) fun z hz => by
      rcases List.mem_cons.1 hz with rfl | hz
      · exact hq
      · exact h z hz
    simp only [List.length_cons] at this
    omega

/-- The first round in which the pair is missing, among those looked at. -/
def MisS (S : Nat → Rel2) (i j : Int) (r : Nat) (m : Int) : Prop := (m = -1 ∧ ∀ k, k < r → S k i j) ∨ ∃ k : Nat, k < r ∧ m = (k : Int) ∧ ¬ S k i j ∧ ∀ l, l < k → S l i j
theorem MisS.hit {S : Nat → Rel2} {i j : Int} {r : Nat} {m : Int} (h : MisS S i j r m) (hm : m < 0) (hn : ¬ S r i j) : MisS S i j (r + 1) (r : Int) := by
  rcases h with ⟨-, h⟩ | ⟨k, -, rfl, -⟩
  · exact .inr ⟨r, by omega, rfl, hn, h⟩
  · omega
theorem MisS.skip {S : Nat → Rel2} {i j : Int} {r : Nat} {m : Int} (h : MisS S i j r m) (hn : ¬ (m < 0 ∧ ¬ S r i j)) : MisS S i j (r + 1) m := by
  rcases h with ⟨rfl, h⟩ | ⟨k, h1, h2⟩
  · refine .inl ⟨rfl, fun k hk => ?_⟩
    rcases Nat.lt_or_ge k r with h3 | h3
    · exact h k h3
    · have : k = r := by omega
      subst this
      exact Classical.not_not.1 fun h4 => hn ⟨by omega, h4⟩
  · exact .inr ⟨k, by omega, h2⟩
theorem MisS.done {S : Nat → Rel2} {i j : Int} {r : Nat} {m : Int} (h : MisS S i j (r + 1) m) (hs : ∀ k, S r i j → S (r + k) i j) : MisV S i j m := by
  rcases h with ⟨rfl, h⟩ | ⟨k, -, h2, h3, h4⟩
  · exact MisV.stop (n := r) (fun k hk => h k (by omega)) hs
  · exact .inr ⟨k, h2, h3, h4⟩
theorem PSet.ne {w : World} {m b : Nat} {S : List PQ2} (h : PSet w m S) {c : Array Value} {t : TypeId} {z : Nat × Nat} (hb : w.heap[b]? = some (.cells c t z)) : m ≠ b := fun e => by
  subst e
  obtain ⟨es, clock, h1⟩ := h.map
  rw [h1] at hb
  cases hb
theorem RSet.ne' {w : World} {m b r cnt : Nat} {S L : List PQ2} (h : RSet w m r S L cnt) {c : Array Value} {t : TypeId} {z : Nat × Nat} (hb : w.heap[b]? = some (.cells c t z)) : r ≠ b := fun e => by
  subst e
  obtain ⟨-, -, -, D, left, ⟨es, clock, since, seen, c0, -, -, -, -, h1, -⟩, -⟩ := h
  rw [h1] at hb
  cases hb
/-- Blocks of cells stay as they are. -/
def KeepC (a w : World) : Prop := ∀ (b : Nat) (c : Array Value) (t : TypeId) (z : Nat × Nat), a.heap[b]? = some (.cells c t z) → w.heap[b]? = some (.cells c t z)
theorem KeepC.below {a w w' : World} (h : KeepC a w) (hb : Below w.heap.size w w') : KeepC a w' := fun b c t z hc => (hb.block b (Array.getElem?_eq_some_iff.1 (h b c t z hc)).1).trans (h b c t z hc)
theorem KeepC.grown {a w w' : World} (h : KeepC a w) {r : Nat} (hg : w.grownBy w' (some r)) (hr : ∀ (b : Nat) (c : Array Value) (t : TypeId) (z : Nat × Nat), w.heap[b]? = some (.cells c t z) → r ≠ b) : KeepC a w' := fun b c t z hc =>
  (hg.block b (Array.getElem?_eq_some_iff.1 (h b c t z hc)).1 fun e => hr b c t z (h b c t z hc) (Option.some.inj e).symm).trans (h b c t z hc)

/-- Where a round stands. -/
structure RndI (w wr : World) (bA bF bN m : Nat) (K : Int) (r : Nat) (mis : Int) (S : List PQ2) (s0 s1 : Int) (A2 : Option Addr) (n2 k2 : Nat) (A3 : Option Addr) (n3 k3 : Nat) (r0 r1 : Int) (B2 : Option Addr) (m2 j2 : Nat) (B3 : Option Addr) (m3 j3 : Nat) (lt : List ByteArray) (et : List Ed) (lp : List ByteArray) (ep : List Ed) : Prop where
  box : BoxAB wr bA s0 s1 A2 n2 k2 A3 n3 k3 r0 r1 B2 m2 j2 B3 m3 j3 lt et lp ep
  kF : wr.heap[bF]? = some (.cells #[.int .i64 s1, .int .i64 r1] 107 (0, 0))
  now : NowAt wr bN m S
  mem : ∀ u v, (u, v) ∈ S ↔ simR K s0 r0 et lt ep lp r u v
  bel : Below w.heap.size w wr
  mlo : w.heap.size ≤ m
  mis : MisS (simR K s0 r0 et lt ep lp) s1 r1 r mis
  few : r + S.length ≤ 1600

end Go.Proofs.YthlaoedpjloloaaGreatDoor
