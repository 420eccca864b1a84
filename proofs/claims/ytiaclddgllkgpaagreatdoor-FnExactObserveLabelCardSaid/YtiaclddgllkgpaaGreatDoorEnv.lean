/-
  What a world brings of the library's settled variables, and the program's readings of numbers. Conditions: sizes.
-/
import Derived.Test.YtiaclddgllkgpaaGreatDoorShelf
import Derived.Test.YtiaclddgllkgpaaGreatDoorKindL
import Derived.Test.YtiaclddgllkgpaaGreatDoorSmall
import Derived.Test.YtiaclddgllkgpaaGreatDoorName
import Derived.Lib.AppendIntMem
import Derived.WalkSmall
namespace Go.Proofs.YtiaclddgllkgpaaGreatDoor
open Go.ChangeShapes Go.WideShapes Go.ChangeAt Go.RowKit
set_option linter.unusedVariables false

structure Good (w : World) : Prop where
  shape : w.ShapedOpen Tryz.prog
  tab : Lib.TabIs Tryz.prog w "internal/strconv.uint64pow10" .u64 Lib.pow10Tab
  syn : ∃ tp p, w.var? Tryz.prog "strconv.ErrSyntax" = some #[.iface tp p]
def Env (w : World) : Prop := ∃ W0, Good W0 ∧ Below W0.heap.size W0 w
theorem Env.of {w : World} (h : Good w) : Env w := ⟨w, h, Below.refl _ _⟩
theorem Env.below {w w' : World} {B : Nat} (h : Env w) (hb : Below B w w') (hB : w.heap.size ≤ B) : Env w' := by
  obtain ⟨W0, h0, h1⟩ := h
  have hs := h1.size
  exact ⟨W0, h0, h1.trans (hb.mono (by omega))⟩
theorem var_lt {W : World} {n : String} {cs : Array Value} {g : Nat} (hg : Tryz.prog.globalNamed n = some g) (hv : W.var? Tryz.prog n = some cs) : g < W.heap.size := by
  unfold World.var? at hv
  rw [hg] at hv
  rcases Nat.lt_or_ge g W.heap.size with h | h
  · exact h
  · simp [Array.getElem?_eq_none h] at hv
set_option maxRecDepth 100000 in
theorem Env.good {w : World} (h : Env w) : Good w := by
  obtain ⟨W0, h0, h1⟩ := h
  have hblk : ∀ {k : Nat} {o : Obj}, W0.heap[k]? = some o → w.heap[k]? = some o := fun {k o} hk => (h1.block k (Array.getElem?_eq_some_iff.1 hk).1).trans hk
  obtain ⟨g1, e1⟩ : ∃ g, Tryz.prog.globalNamed "internal/strconv.uint64pow10" = some g := Option.isSome_iff_exists.1 (by kernel_rfl)
  obtain ⟨g2, e2⟩ : ∃ g, Tryz.prog.globalNamed "strconv.ErrSyntax" = some g := Option.isSome_iff_exists.1 (by kernel_rfl)
  refine ⟨⟨fun g zero t hg hr => ?_, fun k hk1 hk2 => ?_⟩, ?_, ?_⟩
  · obtain ⟨cs, a, b, c⟩ := h0.shape.1 g zero t hg hr
    exact ⟨cs, hblk a, b, fun hb => Row.ok_of_shape (fun bb x hx => by
      unfold World.shape? at hx ⊢
      rcases Nat.lt_or_ge bb W0.heap.size with h | h
      · rw [h1.block bb h]; exact hx
      · simp [Array.getElem?_eq_none h] at hx) (c hb)⟩
  · obtain ⟨o, o2, a, b⟩ := h0.shape.2 k hk1 hk2
    exact ⟨o, o2, hblk a, b⟩
  · exact var?_below h1 e1 (var_lt e1 h0.tab) h0.tab
  · obtain ⟨tp, p, hv⟩ := h0.syn
    exact ⟨tp, p, var?_below h1 e2 (var_lt e2 hv) hv⟩

set_option maxRecDepth 100000 in
theorem decimal_calls (n : Int) (h0 : -9223372036854775808 ≤ n) (h1 : n ≤ 9223372036854775807) (w : World) (he : Env w) :
    Calls Tryz.prog 246 #[.int .i64 n] w fun e w' => e = .returned (.string ⟨(Lib.itoa n).toArray⟩) ∧ Below w.heap.size w w' := by
  have q := hide (Tryz.strconv_FormatInt_10 n h0 h1 w he.good.tab)
  clear he
  go_enter Tryz.func246, Tryz.ntmps246
  go_wp2_with fail
  refine q.out.mono ?_
  rintro e w1 ⟨rfl, k, os, rfl⟩
  go_wp2_with fail
  go_ret
  exact ⟨rfl, Lib.below_grow _ _ (Nat.le_refl _) _ _⟩

theorem parse_short (l : List UInt8) (h : ¬ 18 < (Lib.trimPrefix l [45]).length) :
    (∃ v : Int, Lib.parseIntB 64 l = .ok v ∧ -9223372036854775808 ≤ v ∧ v ≤ 9223372036854775807) ∨ Lib.parseIntB 64 l = .«syntax» := by
  cases l with
  | nil => exact .inr rfl
  | cons c r =>
    have key : ∀ t : List UInt8, t.length ≤ 18 → Lib.parseUintB 64 t = .«syntax» ∨ ∃ u, Lib.parseUintB 64 t = .ok u ∧ u < 10 ^ 18 := by
      intro t ht
      rw [parseUintB_short t ht]
      by_cases hd : t ≠ [] ∧ t.all isDig = true
      · rw [if_pos hd]
        exact .inr ⟨_, rfl, valN_18 ht hd.2⟩
      · rw [if_neg hd]
        exact .inl rfl
    have h18 : (10 : Nat) ^ 18 = 1000000000000000000 := by decide
    have h63 : (2 : Nat) ^ (64 - 1) = 9223372036854775808 := by decide
    rw [h18] at key
    unfold Lib.parseIntB
    by_cases hs : c.toNat = 43 ∨ c.toNat = 45
    · have hlen : r.length ≤ 18 := by
        by_cases hc : c = 45
        · subst hc
          have : Lib.trimPrefix (45 :: r) [45] = r := by unfold Lib.trimPrefix Lib.hasPrefix; simp
          rw [this] at h
          omega
        · have : Lib.trimPrefix (c :: r) [45] = c :: r := by
            unfold Lib.trimPrefix Lib.hasPrefix
            rw [if_neg]
            simp
            exact fun h => hc h.symm
          rw [this] at h
          simp only [List.length_cons] at h
          omega
      simp only [if_pos hs]
      rcases key _ hlen with h1 | ⟨u, h1, h2⟩
      · right
        rw [h1]
      · left
        rw [h1]
        simp only [h63]
        rw [if_neg (by omega), if_neg (by omega)]
        by_cases hn : c.toNat = 45
        · simp only [hn, if_true]
          exact ⟨_, rfl, by omega, by omega⟩
        · simp only [hn, if_false]
          exact ⟨_, rfl, by omega, by omega⟩
    · have hlen : (c :: r).length ≤ 18 := by
        have : Lib.trimPrefix (c :: r) [45] = c :: r := by
          unfold Lib.trimPrefix Lib.hasPrefix
          rw [if_neg]
          simp
          rintro rfl
          exact hs (Or.inr rfl)
        rw [this] at h
        omega
      simp only [if_neg hs]
      rcases key _ hlen with h1 | ⟨u, h1, h2⟩
      · right
        rw [h1]
      · left
        rw [h1]
        simp only [h63]
        rw [if_neg (by omega), if_neg (by omega)]
        have hn : ¬ c.toNat = 45 := fun e => hs (Or.inr e)
        simp only [hn, if_false]
        exact ⟨_, rfl, by omega, by omega⟩

/-- A number's reading as the two results. -/
def numR (o : Option Int) : Value := .tuple #[.int .i64 (o.getD 0), .bool o.isSome]
theorem numP_long {l : List UInt8} (h : 18 < (Lib.trimPrefix l [45]).length) : numP l = none := by unfold numP; rw [if_pos h]
theorem numP_syn {l : List UInt8} (h : Lib.parseIntB 64 l = .«syntax») : numP l = none := by unfold numP; rw [h]; split <;> rfl
theorem numP_ok {l : List UInt8} {v : Int} (hl : ¬ 18 < (Lib.trimPrefix l [45]).length) (h : Lib.parseIntB 64 l = .ok v) : numP l = if Lib.itoa v = l then some v else none := by unfold numP; rw [if_neg hl, h]
theorem bytes_eta (s : ByteArray) : (⟨s.data.toList.toArray⟩ : ByteArray) = s := by cases s; simp
theorem bytes_size (l : List UInt8) : (⟨l.toArray⟩ : ByteArray).size = l.length := by simp [ByteArray.size]

end Go.Proofs.YtiaclddgllkgpaaGreatDoor
