/-
  Pairs that can leave, by the reference. Conditions: sizes.
-/
import Derived.Test.YtiaclddgllkgpaaGreatDoorRefA
namespace Go.Proofs.YtiaclddgllkgpaaGreatDoor
open Go.ChangeShapes Go.WideShapes Go.ChangeAt Go.RowKit Go.Sort
set_option linter.unusedVariables false
set_option linter.unusedSimpArgs false

/-- A table laid out in one row. -/
structure FlatM (n p : Nat) (f : List Bool) (M : List (List Bool)) : Prop where
  sh : ShM n p M
  len : f.length = n * p
  eq : ∀ x y, x < n → y < p → f[x * p + y]? = getM M x y
theorem flat_lt {n p x y : Nat} (hx : x < n) (hy : y < p) : x * p + y < n * p := by
  have : (x + 1) * p ≤ n * p := Nat.mul_le_mul_right _ hx
  rw [Nat.add_mul] at this
  omega
theorem flat_inj {p x y u v : Nat} (hy : y < p) (hv : v < p) (h : x * p + y = u * p + v) : x = u ∧ y = v := by
  have h1 : (x * p + y) / p = x := by rw [Nat.add_comm, Nat.add_mul_div_right _ _ (by omega), Nat.div_eq_of_lt hy]; omega
  have h2 : (u * p + v) / p = u := by rw [Nat.add_comm, Nat.add_mul_div_right _ _ (by omega), Nat.div_eq_of_lt hv]; omega
  rw [h] at h1
  have : x = u := by rw [← h1, h2]
  subst this
  exact ⟨rfl, by omega⟩
theorem FlatM.fill (n p : Nat) (b : Bool) {f : List Bool} (h : f.length = n * p) (hf : ∀ i, i < n * p → f[i]? = some b) : FlatM n p f (fillM n p b) := by
  refine ⟨fillM_sh _ _ _, h, fun x y hx hy => ?_⟩
  rw [hf _ (flat_lt hx hy)]
  unfold getM fillM
  rw [List.getElem?_replicate, if_pos hx]
  simp [hy]
theorem FlatM.get {n p : Nat} {f : List Bool} {M : List (List Bool)} (h : FlatM n p f M) {x y : Nat} (hx : x < n) (hy : y < p) : getM M x y = some (inS f (x * p + y)) := by
  rw [← h.eq x y hx hy, inS_get (by rw [h.len]; exact flat_lt hx hy)]
theorem FlatM.set {n p : Nat} {f : List Bool} {M : List (List Bool)} (h : FlatM n p f M) {x y : Nat} (hx : x < n) (hy : y < p) (c : Bool) : FlatM n p (f.set (x * p + y) c) (setM M x y c) := by
  refine ⟨h.sh.set c hx, by rw [List.length_set]; exact h.len, fun u v hu hv => ?_⟩
  rw [getM_set (h.get hx hy)]
  by_cases e : u = x ∧ v = y
  · obtain ⟨rfl, rfl⟩ := e
    rw [if_pos ⟨rfl, rfl⟩, List.getElem?_set_self (by rw [h.len]; exact flat_lt hx hy)]
  · rw [if_neg e, List.getElem?_set_ne (fun e1 => e (by have := flat_inj hy hv e1; omega))]
    exact h.eq u v hu hv

set_option maxRecDepth 100000 in
set_option maxHeartbeats 1600000 in
theorem l30To_calls (bt bp be off : Nat) (x y : CL) (d s : DL) (f lb tg q : Int) (w : World) (h : LtsAt w bt x d) (g : LtsAt w bp y s) (hs : ltsV s = true) (he : w.cell? ⟨be, off + 1, none⟩ = some (.int .i64 lb)) (hbe : be < w.heap.size) (hlb : 0 ≤ lb ∧ lb < (d.2.2.1.length : Int)) :
    Calls Tryz.prog 141 #[.pointer (some ⟨bt, 0, none⟩), .pointer (some ⟨bp, 0, none⟩), .pointer (some ⟨be, off, none⟩), .int .i64 q] w fun e w' => e = .returned (.int .i64 (toP d.2.2.1 s.2.2.2 s.2.2.1 (f, lb, tg) q)) ∧ Below w.heap.size w w' := by
  have qg := hide fun (lab : ByteArray) => l12Go_calls bp y s q lab w.drew (g.below (Below.refl w.heap.size w).drew (Nat.le_refl _)) hs
  obtain ⟨s0, s1, v2, v3⟩ := x
  obtain ⟨st, ini, lt, et⟩ := d
  obtain ⟨⟨e0, e1, ⟨A2, n2, k2, e2, hn2, hs2, t2⟩, -⟩, htot, hbt, -, -, c2, -⟩ := h
  dsimp only at *
  subst e0 e1 e2
  have l2 := t2.len
  by_cases h0 : lb = 0
  · subst h0
    have hv : Hid (toP lt s.2.2.2 s.2.2.1 (f, 0, tg) q = q) := if_pos rfl
    clear t2 g hs2
    go_enter Tryz.func141, Tryz.ntmps141
    go_wp2_with fail
    go_ret
    exact ⟨ret_i (by rw [hv.out]), Below.refl _ _⟩
  · obtain ⟨b2, o2, r, rfl, -, -, g2, hr, p3, -⟩ := SlS.get t2 (show lb.toNat < n2 by omega)
    have hv : Hid (toP lt s.2.2.2 s.2.2.1 (f, lb, tg) q = goE s.2.2.2 s.2.2.1 r q) := by
      show _ = _
      unfold toP
      rw [if_neg h0]
      dsimp only
      rw [hr]
      rfl
    have hl0 : (0 : Int) ≤ lb := hlb.1
    have hl1 : lb < (n2 : Int) := by omega
    have hl' : (lb == 0) = false := by rw [beq_eq_false_iff_ne]; exact h0
    replace qg := hide (qg.out r)
    clear t2 g hs2 hr l2 hlb hn2 htot
    go_enter Tryz.func141, Tryz.ntmps141
    go_upto_region 3 with fail
    go_region_held3 (fun w' => w'.cell? ⟨bt, 2, none⟩ = some (.slice (some ⟨b2, o2, none⟩) n2 k2) ∧ w'.cell? ⟨be, off + 1, none⟩ = some (.int .i64 lb) ∧ w'.cell? ⟨b2, o2 + lb.toNat, none⟩ = some (.string r)) (first | exact ⟨c2, he, p3⟩ | exact ⟨u2, u3, u4⟩ | go_keep)
      (first | (go_at_call 100; (with_reducible refine qg.out.mono ?_); rintro e w5 ⟨rfl, hb5⟩; have u2 := (hb5.cell (p := ⟨bt, 2, none⟩) hbt).trans c2; have u3 := (hb5.cell (p := ⟨be, off + 1, none⟩) hbe).trans he; have u4 := (hb5.cell (p := ⟨b2, o2 + lb.toNat, none⟩) g2).trans p3; replace hb5 := hide hb5))
    all_goals (
      clear u2 u3 u4
      go_wp2_with fail
      go_ret
      exact ⟨ret_i (by rw [hv.out]), (Below.refl w.heap.size w).drew.trans hb5.out⟩)

/-- The table of the reference while pairs leave. -/
structure LeaI (n p : Nat) (et : List Ed) (lt : List ByteArray) (ep : List Ed) (lp : List ByteArray) (f : List Bool) (M : List (List Bool)) (i y : Nat) (more : Bool) : Prop where
  fl : FlatM n p f M
  si : SetI false n p (leaF et lt ep lp) M
  cl : more = false → ∀ j v : Nat, v < p → (j < i ∨ j = i ∧ v < y) → ∀ e, et[j]? = some e → hitD (ChM false M) (e.2.2, toP lt ep lp e (v : Int)) → ChM false M e.1 (v : Int)
section
variable {n p : Nat} {et : List Ed} {lt : List ByteArray} {ep : List Ed} {lp : List ByteArray} {f : List Bool} {M : List (List Bool)} {i y : Nat} {m : Bool}
theorem LeaI.again (h : LeaI n p et lt ep lp f M i y m) : LeaI n p et lt ep lp f M 0 0 false := ⟨h.fl, h.si, fun _ j v hv hl => by omega⟩
theorem LeaI.row (h : LeaI n p et lt ep lp f M i p m) : LeaI n p et lt ep lp f M (i + 1) 0 m := ⟨h.fl, h.si, fun e j v hv hl => h.cl e j v hv (by omega)⟩
theorem LeaI.skip (h : LeaI n p et lt ep lp f M i y m) {e : Ed} (he : et[i]? = some e) (hn : hitD (ChM false M) (e.2.2, toP lt ep lp e (y : Int)) → ChM false M e.1 (y : Int)) : LeaI n p et lt ep lp f M i (y + 1) m :=
  ⟨h.fl, h.si, fun em j v hv hl e' he' => by
    by_cases hh : j = i ∧ v = y
    · obtain ⟨rfl, rfl⟩ := hh
      rw [he] at he'
      cases he'
      exact hn
    · exact h.cl em j v hv (by omega) e' he'⟩
theorem LeaI.hit (h : LeaI n p et lt ep lp f M i y m) {x : Nat} {lb tg : Int} (he : et[i]? = some ((x : Int), lb, tg)) (hx : x < n) (hy : y < p) (hg : getM M x y = some false) (hh : hitD (ChM false M) (tg, toP lt ep lp ((x : Int), lb, tg) (y : Int))) : LeaI n p et lt ep lp (f.set (x * p + y) true) (setM M x y true) i (y + 1) true :=
  ⟨h.fl.set hx hy true, h.si.change (leaF_mono _ _ _ _) hx hg ⟨_, List.mem_map.2 ⟨_, List.mem_filter.2 ⟨List.mem_of_getElem? he, decide_eq_true rfl⟩, rfl⟩, hh⟩, fun e => by cases e⟩
theorem LeaI.done (h : LeaI n p et lt ep lp f M i 0 false) (hi : et.length ≤ i) (u v : Int) : ChM false M u v ↔ canL n p et lt ep lp u v := by
  refine Lf.done h.si.sound (fun u v hR hF => ?_) u v
  obtain ⟨⟨h1, h2⟩, h3, h4⟩ := hR
  obtain ⟨z, hz, hh⟩ := hF
  obtain ⟨e, he, rfl⟩ := List.mem_map.1 hz
  obtain ⟨he, hf⟩ := List.mem_filter.1 he
  rw [decide_eq_true_eq] at hf
  obtain ⟨j, hj⟩ := List.getElem?_of_mem he
  have := h.cl rfl j v.toNat (by omega) (.inl (by have := (List.getElem?_eq_some_iff.1 hj).1; omega)) e hj (by rwa [Int.toNat_of_nonneg h3])
  rwa [Int.toNat_of_nonneg h3, hf] at this
end
theorem wrap_mul {a b : Nat} (ha : a ≤ 1000) (hb : b ≤ 1000) : IntKind.i64.wrap ((a : Int) * (b : Int)) = ((a * b : Nat) : Int) := by
  have h1 : a * b ≤ 1000 * 1000 := Nat.mul_le_mul ha hb
  rw [← Int.natCast_mul]
  exact IntWalk.i64_in _ (by omega)
theorem wrap_at {a b c : Nat} (ha : a ≤ 1000) (hb : b ≤ 1000) (hc : c ≤ 1000) : IntKind.i64.wrap (IntKind.i64.wrap ((a : Int) * (b : Int)) + (c : Int)) = ((a * b + c : Nat) : Int) := by
  rw [wrap_mul ha hb, ← Int.natCast_add]
  have h1 : a * b ≤ 1000 * 1000 := Nat.mul_le_mul ha hb
  exact IntWalk.i64_in _ (by omega)

end Go.Proofs.YtiaclddgllkgpaaGreatDoor
