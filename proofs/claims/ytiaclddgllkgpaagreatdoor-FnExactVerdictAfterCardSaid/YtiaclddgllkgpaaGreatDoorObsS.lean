/-
  Sets of pairs that the program settles. Conditions: sizes.
-/
import Derived.Test.YtiaclddgllkgpaaGreatDoorObsI
namespace Go.Proofs.YtiaclddgllkgpaaGreatDoor
open Go.ChangeShapes Go.WideShapes Go.ChangeAt Go.RowKit Go.Sort
set_option linter.unusedVariables false
set_option linter.unusedSimpArgs false

theorem hasM_true {M : List (List Bool)} {z : Int × Int} (h0 : 0 ≤ z.1) : hasM M z = true ↔ ChM false M z.1 z.2 := by
  unfold hasM ChM
  rw [Bool.and_eq_true, decide_eq_true_eq]
  constructor
  · rintro ⟨h1, h2⟩
    refine ⟨h0, h1, ?_⟩
    cases hg : getM M z.1.toNat z.2.toNat with
    | none => rw [hg] at h2; cases h2
    | some c => rw [hg] at h2; simp only [Option.getD_some] at h2; rw [h2]; rfl
  · rintro ⟨-, h1, h2⟩
    exact ⟨h1, by rw [h2]; rfl⟩
theorem hasM_false {n p : Nat} {M : List (List Bool)} (hs : ShM n p M) {z : Int × Int} (h0 : 0 ≤ z.1 ∧ z.1 < (n : Int)) (h1 : z.2 < (p : Int)) : hasM M z = false ↔ hitD (ChM true M) z := by
  unfold hasM hitD ChM
  by_cases h2 : 0 ≤ z.2
  · obtain ⟨r, c, -, -, -, hg⟩ := hs.get (x := z.1.toNat) (y := z.2.toNat) (by omega) (by omega)
    rw [decide_eq_true h2, Bool.true_and, hg, Option.getD_some]
    constructor
    · rintro rfl
      exact .inr ⟨h0.1, h2, rfl⟩
    · rintro (h3 | ⟨-, -, h3⟩)
      · omega
      · exact Option.some.inj h3
  · rw [decide_eq_false h2, Bool.false_and]
    exact ⟨fun _ => .inl (by omega), fun _ => rfl⟩
theorem mov_nil {et : List Ed} {lt : List ByteArray} {ep : List Ed} {lp : List ByteArray} {x y : Int} : movT et lt ep lp x y = [] ↔ outE et x = [] := by
  unfold movT
  rw [List.map_eq_nil_iff]
  rfl

set_option maxRecDepth 100000 in
set_option maxHeartbeats 1600000 in
theorem lea1_calls (s0 s1 : Int) (A2 : Option Addr) (n2 k2 : Nat) (A3 : Option Addr) (n3 k3 : Nat) (r0 r1 : Int) (B2 : Option Addr) (m2 j2 : Nat) (B3 : Option Addr) (m3 j3 : Nat) (lt : List ByteArray) (et : List Ed) (lp : List ByteArray) (ep : List Ed) (bm lo b0 n p K bo : Nat) (M : List (List Bool)) (x y : Int) (w : World) (hD : ObsD w K s0 s1 A2 n2 k2 A3 n3 k3 r0 r1 B2 m2 j2 B3 m3 j3 lt et lp ep) (hK : K ≤ w.heap.size) (kO : w.heap[bo]? = some (.cells #[.int .i64 s0, .int .i64 s1, .slice A2 n2 k2, .slice A3 n3 k3, .int .i64 r0, .int .i64 r1, .slice B2 m2 j2, .slice B3 m3 j3] 141 (0, 0))) (hm : w.heap[bm]? = some (.cells #[.slice (some ⟨b0, 0, none⟩) n n] 137 (0, 0))) (h : MatAt w lo b0 n p M)
    (hn : s0 = (n : Int)) (hp : r0 = (p : Int)) (hy : y < (p : Int)) :
    Calls Tryz.prog 187 #[.int .i64 x, .int .i64 y, .func (.func 213) #[] #[.pointer (some ⟨bm, 0, none⟩)], .pointer (some ⟨bo, 0, none⟩)] w fun e w' => ∃ a : Bool, e = .returned (.bool a) ∧ (a = true ↔ leaF et lt ep lp (ChM false M) x y) ∧ Below w.heap.size w w' := by
  have hbo := (Array.getElem?_eq_some_iff.1 kO).1
  have hbm := (Array.getElem?_eq_some_iff.1 hm).1
  have hin : ∀ z, z ∈ movT et lt ep lp x y → (0 ≤ z.1 ∧ z.1 < (n : Int)) ∧ z.2 < (p : Int) := fun z hz => by
    have h1 := hD.hp
    unfold detV at h1
    rw [Bool.and_eq_true] at h1
    have := mov_in hD.ht h1.1 (by omega) (by rw [hp]; exact hy) hz
    omega
  have hb0 : Below w.heap.size w (w.alloc (.cells #[.func (.func 213) #[] #[.pointer (some ⟨bm, 0, none⟩)]] 205)) := (Below.refl _ _).alloc (Nat.le_refl _) _
  have kF := heap_alloc_new w (.cells #[.func (.func 213) #[] #[.pointer (some ⟨bm, 0, none⟩)]] 205)
  have kO0 := (hb0.block bo hbo).trans kO
  have km0 := (hb0.block bm hbm).trans hm
  have hM0 := h.below hb0
  have hz := hb0.size
  have hza : (w.alloc (.cells #[.func (.func 213) #[] #[.pointer (some ⟨bm, 0, none⟩)]] 205)).heap.size = w.heap.size + 1 := World.size_alloc _ _
  have c0 := (cell_of_row _ _ 0 _ _ (0, 0) kO0).trans rfl
  have c1 := (cell_of_row _ _ 1 _ _ (0, 0) kO0).trans rfl
  have c2 := (cell_of_row _ _ 2 _ _ (0, 0) kO0).trans rfl
  have c3 := (cell_of_row _ _ 3 _ _ (0, 0) kO0).trans rfl
  have c4 := (cell_of_row _ _ 4 _ _ (0, 0) kO0).trans rfl
  have c5 := (cell_of_row _ _ 5 _ _ (0, 0) kO0).trans rfl
  have c6 := (cell_of_row _ _ 6 _ _ (0, 0) kO0).trans rfl
  have c7 := (cell_of_row _ _ 7 _ _ (0, 0) kO0).trans rfl
  have q := hide (any_calls s0 s1 A2 n2 k2 A3 n3 k3 r0 r1 B2 m2 j2 B3 m3 j3 lt et lp ep 189 #[.pointer (some ⟨w.heap.size, 0, none⟩)] (fun z => decide (z.2 < 0) || hasM M z) K x y _ (hD.below hb0 hK) (by omega) (fun v u W => rfl) fun z hz' W hW =>
    lea11_calls w.heap.size bm lo b0 n p M z.1 z.2 W ((hW.block w.heap.size (by omega)).trans kF) ((hW.block bm (by omega)).trans km0) (hM0.below hW) (hin z hz').1.1 (hin z hz').1.2 (hin z hz').2)
  have hres : Hid (((movT et lt ep lp x y).any fun z => decide (z.2 < 0) || hasM M z) = true ↔ leaF et lt ep lp (ChM false M) x y) := by
    show _ ↔ _
    rw [List.any_eq_true]
    unfold leaF
    constructor
    · rintro ⟨z, hz', h1⟩
      rw [Bool.or_eq_true, decide_eq_true_eq] at h1
      exact ⟨z, hz', h1.imp_right (hasM_true (hin z hz').1.1).1⟩
    · rintro ⟨z, hz', h1⟩
      refine ⟨z, hz', ?_⟩
      rw [Bool.or_eq_true, decide_eq_true_eq]
      exact h1.imp_right (hasM_true (hin z hz').1.1).2
  replace hb0 := hide hb0
  clear hin kF kO0 km0 hM0 kO hm h hD hn hp hy
  go_enter Tryz.func187, Tryz.ntmps187
  go_upto_region 1 with fail
  go_wp2_with (first | (go_at_call 188; (with_reducible refine q.out.mono ?_); rintro e w5 ⟨rfl, hb5⟩))
  go_ret
  exact ⟨_, rfl, hres.out, hb0.out.trans (hb5.mono hz)⟩

set_option maxRecDepth 100000 in
set_option maxHeartbeats 1600000 in
theorem sta1_calls (s0 s1 : Int) (A2 : Option Addr) (n2 k2 : Nat) (A3 : Option Addr) (n3 k3 : Nat) (r0 r1 : Int) (B2 : Option Addr) (m2 j2 : Nat) (B3 : Option Addr) (m3 j3 : Nat) (lt : List ByteArray) (et : List Ed) (lp : List ByteArray) (ep : List Ed) (bm lo b0 n p K bo : Nat) (M : List (List Bool)) (x y : Int) (w : World) (hD : ObsD w K s0 s1 A2 n2 k2 A3 n3 k3 r0 r1 B2 m2 j2 B3 m3 j3 lt et lp ep) (hK : K ≤ w.heap.size) (kO : w.heap[bo]? = some (.cells #[.int .i64 s0, .int .i64 s1, .slice A2 n2 k2, .slice A3 n3 k3, .int .i64 r0, .int .i64 r1, .slice B2 m2 j2, .slice B3 m3 j3] 141 (0, 0))) (hm : w.heap[bm]? = some (.cells #[.slice (some ⟨b0, 0, none⟩) n n] 137 (0, 0))) (h : MatAt w lo b0 n p M)
    (hn : s0 = (n : Int)) (hp : r0 = (p : Int)) (hy : y < (p : Int)) :
    Calls Tryz.prog 190 #[.int .i64 x, .int .i64 y, .func (.func 213) #[] #[.pointer (some ⟨bm, 0, none⟩)], .pointer (some ⟨bo, 0, none⟩)] w fun e w' => ∃ a : Bool, e = .returned (.bool a) ∧ (a = true ↔ staF et lt ep lp (ChM true M) x y) ∧ Below w.heap.size w w' := by
  have hbo := (Array.getElem?_eq_some_iff.1 kO).1
  have hbm := (Array.getElem?_eq_some_iff.1 hm).1
  have hin : ∀ z, z ∈ movT et lt ep lp x y → (0 ≤ z.1 ∧ z.1 < (n : Int)) ∧ z.2 < (p : Int) := fun z hz => by
    have h1 := hD.hp
    unfold detV at h1
    rw [Bool.and_eq_true] at h1
    have := mov_in hD.ht h1.1 (by omega) (by rw [hp]; exact hy) hz
    omega
  have c0 := (cell_of_row _ _ 0 _ _ (0, 0) kO).trans rfl
  have c1 := (cell_of_row _ _ 1 _ _ (0, 0) kO).trans rfl
  have c2 := (cell_of_row _ _ 2 _ _ (0, 0) kO).trans rfl
  have c3 := (cell_of_row _ _ 3 _ _ (0, 0) kO).trans rfl
  have qo := hide (out_calls s0 s1 (.slice A2 n2 k2) A3 n3 k3 x et w 0 K hD.t3 hD.hes ⟨_, _, _, rfl⟩)
  have q := hide fun (W : World) (hW : Below w.heap.size w W) => any_calls s0 s1 A2 n2 k2 A3 n3 k3 r0 r1 B2 m2 j2 B3 m3 j3 lt et lp ep 213 #[.pointer (some ⟨bm, 0, none⟩)] (hasM M) K x y W (hD.below hW hK) (Nat.le_trans hK hW.size) (fun v u W => rfl) fun z hz' W' hW' =>
    has_calls bm lo b0 n p M z.1 z.2 W' ((hW'.block bm (Nat.lt_of_lt_of_le hbm hW.size)).trans ((hW.block bm hbm).trans hm)) ((h.below hW).below hW') (hin z hz').1.1 (hin z hz').1.2 (hin z hz').2
  have hres : outE et x ≠ [] → ((!((movT et lt ep lp x y).any (hasM M))) = true ↔ staF et lt ep lp (ChM true M) x y) := fun hne => by
    rw [Bool.not_eq_true', List.any_eq_false]
    unfold staF
    constructor
    · exact fun h1 => ⟨fun e => hne (mov_nil.1 e), fun z hz' => (hasM_false h.sh (hin z hz').1 (hin z hz').2).1 (Bool.eq_false_iff.2 (h1 z hz'))⟩
    · exact fun h1 z hz' => by rw [(hasM_false h.sh (hin z hz').1 (hin z hz').2).2 (h1.2 z hz')]; decide
  have hno : outE et x = [] → ¬ staF et lt ep lp (ChM true M) x y := fun e h1 => h1.1 (mov_nil.2 e)
  replace hres := hide hres
  replace hno := hide hno
  have kO' := hide kO
  clear hin kO hm h hD hn hp hy
  go_enter Tryz.func190, Tryz.ntmps190
  go_upto_region 1 with fail
  go_wp2_with (first | (go_at_call 132; (with_reducible refine qo.out.mono ?_); rintro e w1 ⟨Ao, no, co, rfl, ho, hno1, hb1⟩; have hlen := hide ho.len; have kO1 := (hb1.block bo hbo).trans kO'.out; have d0 := (cell_of_row _ _ 0 _ _ (0, 0) kO1).trans rfl; have d1 := (cell_of_row _ _ 1 _ _ (0, 0) kO1).trans rfl; have d2 := (cell_of_row _ _ 2 _ _ (0, 0) kO1).trans rfl; have d3 := (cell_of_row _ _ 3 _ _ (0, 0) kO1).trans rfl; have d4 := (cell_of_row _ _ 4 _ _ (0, 0) kO1).trans rfl; have d5 := (cell_of_row _ _ 5 _ _ (0, 0) kO1).trans rfl; have d6 := (cell_of_row _ _ 6 _ _ (0, 0) kO1).trans rfl; have d7 := (cell_of_row _ _ 7 _ _ (0, 0) kO1).trans rfl; have qq := hide (q.out w1 hb1); replace hb1 := hide hb1; clear kO1 ho; rcases Nat.eq_zero_or_pos no with h0 | h0; (subst h0); rotate_left; (have h0I : (0 : Int) < (no : Int) := by omega); rotate_right) | (go_at_call 188; (with_reducible refine qq.out.mono ?_); rintro e w5 ⟨rfl, hb5⟩; replace hb5 := hide hb5))
  all_goals go_ret
  all_goals first
    | exact ⟨_, rfl, by rw [Bool.false_eq_true, false_iff]; exact hno.out (List.eq_nil_of_length_eq_zero hlen.out), hb1.out⟩
    | exact ⟨_, rfl, hres.out (fun e => by have := hlen.out; rw [e] at this; simp at this; omega), hb1.out.trans (hb5.out.mono hb1.out.size)⟩

end Go.Proofs.YtiaclddgllkgpaaGreatDoor
