/-
  Pairs that can stay, by the reference. Conditions: sizes.
-/
import Derived.Test.YtiaclddgllkgpaaGreatDoorRefL
import Derived.Deep.DeepCutAuto
namespace Go.Proofs.YtiaclddgllkgpaaGreatDoor
open Go.ChangeShapes Go.WideShapes Go.ChangeAt Go.RowKit Go.Sort
set_option linter.unusedVariables false
set_option linter.unusedSimpArgs false

/-- An edge leads from the pair to one that is in the set. -/
def gE (lt : List ByteArray) (ep : List Ed) (lp : List ByteArray) (f : List Bool) (p : Nat) (y : Int) (e : Ed) : Bool := decide (0 ≤ toP lt ep lp e y) && inS f (e.2.2.toNat * p + (toP lt ep lp e y).toNat)
theorem toP_lt {p : Nat} {pini : Int} {lt : List ByteArray} {ep : List Ed} {lp : List ByteArray} (hs : ltsV ((p : Int), pini, lp, ep) = true) {v : Nat} (hv : v < p) (e : Ed) : toP lt ep lp e (v : Int) < (p : Int) := by
  unfold toP
  split
  · omega
  · exact goE_lt hs (by omega) _ _
theorem gE_hit {n p v : Nat} {ini pini : Int} {et : List Ed} {lt : List ByteArray} {ep : List Ed} {lp : List ByteArray} {f : List Bool} {M : List (List Bool)} (ht : ltsV ((n : Int), ini, lt, et) = true) (hs : ltsV ((p : Int), pini, lp, ep) = true) (h : FlatM n p f M) (hv : v < p) {e : Ed} (he : e ∈ et) :
    gE lt ep lp f p (v : Int) e = false ↔ hitD (ChM true M) (e.2.2, toP lt ep lp e (v : Int)) := by
  have hz := toP_lt (lt := lt) hs hv e
  obtain ⟨j, hj⟩ := List.getElem?_of_mem he
  obtain ⟨ff, lb, tg⟩ := e
  have ht2 := (edge_of ht hj).2.1
  unfold gE hitD ChM
  dsimp only
  generalize toP lt ep lp (ff, lb, tg) (v : Int) = z at *
  by_cases h0 : 0 ≤ z
  · rw [decide_eq_true h0, Bool.true_and, h.get (x := tg.toNat) (y := z.toNat) (by omega) (by omega)]
    constructor
    · intro h1
      rw [h1]
      exact .inr ⟨ht2.1, h0, rfl⟩
    · rintro (h1 | ⟨-, -, h1⟩)
      · omega
      · exact Option.some.inj h1
  · rw [decide_eq_false h0, Bool.false_and]
    exact ⟨fun _ => .inl (by omega), fun _ => rfl⟩
theorem gE_sta {n p v : Nat} {ini pini : Int} {et : List Ed} {lt : List ByteArray} {ep : List Ed} {lp : List ByteArray} {f : List Bool} {M : List (List Bool)} (ht : ltsV ((n : Int), ini, lt, et) = true) (hs : ltsV ((p : Int), pini, lp, ep) = true) (h : FlatM n p f M) (hv : v < p) {x : Int} (hne : outE et x ≠ []) :
    (outE et x).any (gE lt ep lp f p (v : Int)) = false ↔ staF et lt ep lp (ChM true M) x (v : Int) := by
  rw [List.any_eq_false]
  unfold staF
  constructor
  · intro h1
    refine ⟨fun e => hne (List.map_eq_nil_iff.1 e), fun z hz => ?_⟩
    obtain ⟨e, he, rfl⟩ := List.mem_map.1 hz
    exact (gE_hit ht hs h hv (List.mem_filter.1 he).1).1 (Bool.eq_false_iff.2 (h1 e he))
  · intro h1 e he
    rw [(gE_hit ht hs h hv (List.mem_filter.1 he).1).2 (h1.2 _ (List.mem_map.2 ⟨e, he, rfl⟩))]
    decide

/-- The table of the reference while pairs do not stay. -/
structure StaI (n p : Nat) (et : List Ed) (lt : List ByteArray) (ep : List Ed) (lp : List ByteArray) (f : List Bool) (M : List (List Bool)) (x y T : Nat) (more : Bool) : Prop where
  fl : FlatM n p f M
  si : SetI true n p (staF et lt ep lp) M
  cl : more = false → ClosedTo true p (staF et lt ep lp) M x y
  cnt : cntM true M + more.toNat ≤ T
section
variable {n p : Nat} {et : List Ed} {lt : List ByteArray} {ep : List Ed} {lp : List ByteArray} {f : List Bool} {M : List (List Bool)} {x y T : Nat} {m : Bool}
theorem StaI.again (h : StaI n p et lt ep lp f M x y (T + 1) true) : StaI n p et lt ep lp f M 0 0 T false := ⟨h.fl, h.si, fun _ => ClosedTo.start _ _ _ _, by have := h.cnt; simp only [Bool.toNat_true, Bool.toNat_false] at this ⊢; omega⟩
theorem StaI.row (h : StaI n p et lt ep lp f M x p T m) : StaI n p et lt ep lp f M (x + 1) 0 T m := ⟨h.fl, h.si, fun e => (h.cl e).row, h.cnt⟩
theorem StaI.skip (h : StaI n p et lt ep lp f M x y T m) (hn : staF et lt ep lp (ChM true M) (x : Int) (y : Int) → ChM true M (x : Int) (y : Int)) : StaI n p et lt ep lp f M x (y + 1) T m := ⟨h.fl, h.si, fun e => (h.cl e).next hn, h.cnt⟩
theorem StaI.hit (h : StaI n p et lt ep lp f M x y T m) (hx : x < n) (hy : y < p) (hg : getM M x y = some true) (hh : staF et lt ep lp (ChM true M) (x : Int) (y : Int)) : StaI n p et lt ep lp (f.set (x * p + y) false) (setM M x y false) x (y + 1) T true :=
  ⟨h.fl.set hx hy false, h.si.change (staF_mono _ _ _ _) hx hg hh, (fun e => by cases e), by
    have h1 := cntM_set (b := true) hg
    have h2 := h.cnt
    simp only [Bool.not_true] at h1
    simp only [Bool.toNat_true]
    omega⟩
end
theorem any_take2 {α : Type} {G : α → Bool} {l : List α} {k : Nat} {x : α} (hx : l[k]? = some x) : (l.take (k + 1)).any G = ((l.take k).any G || G x) := by
  rw [List.take_add_one, hx, List.any_append]
  simp

set_option maxRecDepth 100000 in
set_option maxHeartbeats 6400000 in
theorem l30Stay_calls (bt bp n p : Nat) (x y : CL) (ini pini : Int) (lt lp : List ByteArray) (et ep : List Ed) (w : World) (h : LtsAt w bt x ((n : Int), ini, lt, et)) (g : LtsAt w bp y ((p : Int), pini, lp, ep)) (ht : ltsV ((n : Int), ini, lt, et) = true) (hs : ltsV ((p : Int), pini, lp, ep) = true) (N : Nat) (hN : N = n * p) :
    Calls Tryz.prog 103 #[.pointer (some ⟨bt, 0, none⟩), .pointer (some ⟨bp, 0, none⟩)] w fun e w' => ∃ B f M, e = .returned (.slice (some ⟨B, 0, none⟩) N N) ∧ BoB w' B N f ∧ FlatM n p f M ∧ w.heap.size ≤ B ∧ (∀ u v, ChM true M u v ↔ notS n p et lt ep lp u v) ∧ Below w.heap.size w w' := by
  have hbP := lts_boundsA ht
  have hbS := lts_boundsA hs
  have hn40 : n ≤ 40 := by omega
  have hp40 : p ≤ 40 := by omega
  have hp0 : 0 < p := by omega
  have hN16 : N ≤ 1600 := by subst hN; exact Nat.mul_le_mul hn40 hp40
  have hq := hide fun (be off : Nat) (f lb tg q : Int) (W : World) (hb : Below w.heap.size w W) (he : W.cell? ⟨be, off + 1, none⟩ = some (.int .i64 lb)) (hbe : be < W.heap.size) (hlb : 0 ≤ lb ∧ lb < (lt.length : Int)) => l30To_calls bt bp be off x y ((n : Int), ini, lt, et) ((p : Int), pini, lp, ep) f lb tg q W (h.below hb (Nat.le_refl _)) (g.below hb (Nat.le_refl _)) hs he hbe hlb
  have ho := hide fun (s : Int) (W : World) (hb : Below w.heap.size w W) => l11Out_calls bt x ((n : Int), ini, lt, et) s W (h.below hb (Nat.le_refl _))
  obtain ⟨s0, s1, v2, v3⟩ := x
  obtain ⟨r0, r1, u2, u3⟩ := y
  obtain ⟨⟨e0, e1, -, -⟩, -, hbt, c0, -, -, -⟩ := h
  obtain ⟨⟨f0, f1, -, -⟩, -, hbp, g0, -, -, -⟩ := g
  dsimp only at *
  subst e0 e1 f0 f1
  have hmk := run_make_bool N (by omega)
  have hwm : IntKind.i64.wrap ((n : Int) * (p : Int)) = (N : Int) := by rw [hN]; exact wrap_mul (by omega) (by omega)
  have hb0 : Below w.heap.size w (w.alloc (.cells (madeCells #[.bool false] N) 4)).drew := ((Below.refl _ _).alloc (Nat.le_refl _) _).drew
  have hst0 : Hid (BoB (w.alloc (.cells (madeCells #[.bool false] N) 4)).drew w.heap.size N (setOf N fun i => decide (i < 0))) := by
    have h1 := BoB.made w N
    have h2 : setOf N (fun i => decide (i < 0)) = setOf N fun _ => false := setOf_congr fun v _ => by simp
    rw [h2]
    exact h1
  have m0 := Sv_alloc (o := .cells (madeCells #[.bool false] N) 4) c0
  have m1 := Sv_alloc (o := .cells (madeCells #[.bool false] N) 4) g0
  have hlbs : Hid (∀ e ∈ et, (0 ≤ e.2.1 ∧ e.2.1 < (lt.length : Int)) ∧ 0 ≤ e.2.2 ∧ e.2.2 < (n : Int)) := fun e he => by
    obtain ⟨j, hj⟩ := List.getElem?_of_mem he
    obtain ⟨f, lb, tg⟩ := e
    have := edge_of ht hj
    dsimp only
    omega
  replace ht := hide ht
  replace hs := hide hs
  replace hN := hide hN
  clear hbP hbS
  go_enter Tryz.func103, Tryz.ntmps103
  go_upto_region 1 with fail
  go_cut [5] (fun v wx => v = .slice (some ⟨w.heap.size, 0, none⟩) N N ∧ wx = (w.alloc (.cells (madeCells #[.bool false] N) 4)).drew)
  case first =>
    go_region_held3 (fun w' => w'.cell? ⟨bt, 0, none⟩ = some (.int .i64 (n : Int)) ∧ w'.cell? ⟨bp, 0, none⟩ = some (.int .i64 (p : Int))) (first | exact ⟨c0, g0⟩ | exact ⟨m0, m1⟩ | go_keep) (fail)
    all_goals (go_wp2_with fail; go_meet)
    all_goals exact ⟨rfl, rfl⟩
  case rest =>
  obtain ⟨rfl, rfl⟩ := hcut
  clear hmk hwm m0 m1
  generalize (w.alloc (.cells (madeCells #[.bool false] N) 4)).drew = W0 at *
  go_upto_region 3 with fail
  go_loopg [6] N (fun G i wr => ∃ k : Nat, k ≤ N ∧ i = .int .i64 (k : Nat) ∧ Hid (BoB wr w.heap.size N (setOf N fun i => decide (i < k))) ∧ Below w.heap.size w wr ∧ Hid (N - k ≤ G))
  case atStart => exact ⟨0, Nat.zero_le _, rfl, hst0, hb0, by show _ ≤ _; omega⟩
  case round =>
    clear hst0 hb0
    obtain ⟨k, hk, rfl, hbo, hb, hG⟩ := hrel
    by_cases hlt : k < N
    · obtain ⟨G2, rfl⟩ : ∃ G2, gk = G2 + 1 := ⟨gk - 1, by have := hG.out; omega⟩
      have hG2 : Hid (N - (k + 1) ≤ G2) := by have := hG.out; show _ ≤ _; omega
      obtain ⟨d0, d1, d2, d3⟩ := hbo.out.get hlt
      have hset : (setOf N fun i => decide (i < k)).set k true = setOf N fun i => decide (i < k + 1) := by
        refine inS_ext (by rw [List.length_set, setOf_len, setOf_len]) fun v hv => ?_
        rw [inS_set (by rw [setOf_len]; exact hlt), inS_setOf, inS_setOf]
        rw [List.length_set, setOf_len] at hv
        by_cases e : k = v
        · subst e; simp [hv]
        · rw [if_neg e]
          have : (v < k) ↔ (v < k + 1) := by omega
          simp [this]
      have hst2 := d3 true
      rw [hset] at hst2
      replace hst2 := hide hst2
      have hb2 := hide (hb.setCell (p := ⟨w.heap.size, k, none⟩) (Nat.le_refl _) (.bool true))
      have hI0 : (0 : Int) ≤ (k : Int) := by omega
      have hI1 : (k : Int) < (N : Int) := by omega
      clear hbo d3 hset hb
      go_wp2_with fail
      go_roundg G2
      case measure => omega
      case rel => exact ⟨k + 1, by omega, by go_num, hst2, hb2.out, hG2⟩
    · have hkn : k = N := by omega
      subst hkn
      have hinv : Hid (StaI n p et lt ep lp (setOf k fun i => decide (i < k)) (fillM n p true) n 0 (cntM true (fillM n p true) + 1) true) :=
        ⟨FlatM.fill n p true (by rw [setOf_len, hN.out]) (fun i hi => by rw [← hN.out] at hi; rw [setOf_get hi]; simp [hi]), SetI.start _ _ _ _, (fun e => by cases e), by simp⟩
      clear hG
      go_upto_region 7 with fail
      go_loopg [7] (cntM true (fillM n p true) + 1) (fun T m wr => ∃ (f : List Bool) (M : List (List Bool)) (mm : Bool), m = .bool mm ∧ Hid (StaI n p et lt ep lp f M n 0 T mm) ∧ Hid (BoB wr w.heap.size k f) ∧ Below w.heap.size w wr)
      case atStart => exact ⟨_, _, true, rfl, hinv, hbo, hb⟩
      case round =>
        clear hinv hbo hb
        obtain ⟨f, M, mm, rfl, hc, hbo, hb⟩ := hrel
        cases mm with
        | false =>
          have hfin := hide (fun u v => hc.out.si.done (hc.out.cl rfl) u v)
          have hfl := hide hc.out.fl
          replace hb := hide hb
          clear hc
          go_wp2_with fail
          go_ret
          exact ⟨_, f, M, rfl, hbo.out, hfl.out, Nat.le_refl _, hfin.out, hb.out⟩
        | true =>
          obtain ⟨T, rfl⟩ : ∃ T, gk = T + 1 := ⟨gk - 1, by have := hc.out.cnt; simp only [Bool.toNat_true] at this; omega⟩
          have hc1 := hide hc.out.again
          clear hc
          go_upto_region 10 with fail
          go_loopg [7, 8] n (fun G m i wr => ∃ (x : Nat) (f : List Bool) (M : List (List Bool)) (mm : Bool), x ≤ n ∧ m = .bool mm ∧ i = .int .i64 (x : Nat) ∧ Hid (StaI n p et lt ep lp f M x 0 T mm) ∧ Hid (BoB wr w.heap.size k f) ∧ Below w.heap.size w wr ∧ Hid (n - x ≤ G))
          case atStart => exact ⟨0, f, M, false, Nat.zero_le _, rfl, rfl, hc1, hbo, hb, by show _ ≤ _; omega⟩
          case round =>
            clear hc1 hbo hb
            obtain ⟨x, f, M, mm, hx, rfl, rfl, hc, hbo, hb, hG⟩ := hrel
            have yt := (hb.cell (p := ⟨bt, 0, none⟩) hbt).trans c0
            by_cases hxl : x < n
            · obtain ⟨G2, rfl⟩ : ∃ G2, gk = G2 + 1 := ⟨gk - 1, by have := hG.out; omega⟩
              have hG2 : Hid (n - (x + 1) ≤ G2) := by have := hG.out; show _ ≤ _; omega
              have hX1 : (x : Int) < (n : Int) := by omega
              have qo := hide (ho.out (x : Int) wr hb)
              have hBlt : w.heap.size < wr.heap.size := by obtain ⟨-, -, hh, -⟩ := hbo.out.get (k := 0) (by have := hN.out; rw [this]; exact Nat.mul_pos (by omega) hp0); exact hh
              have hbz := hb.size
              replace hb := hide hb
              go_upto_region 14 with (first | (go_at_call 87; (with_reducible refine qo.out.mono ?_); rintro e w5 ⟨Ao, no, co, rfl, hou, hno, hb5⟩))
              have hb6 := hb.out.trans (hb5.mono hbz)
              have hbo5 := hide (hbo.out.below hb5)
              have hlen := hide hou.len
              replace hou := hide hou
              have hz5 := hb5.size
              clear hbo hb5 qo yt hG
              go_loopg [7, 10] p (fun G m i wr5 => ∃ (v : Nat) (f : List Bool) (M : List (List Bool)) (mm : Bool), v ≤ p ∧ m = .bool mm ∧ i = .int .i64 (v : Nat) ∧ Hid (StaI n p et lt ep lp f M x v T mm) ∧ Hid (BoB wr5 w.heap.size k f) ∧ Below w.heap.size w wr5 ∧ Hid (Sav w.heap.size w5 wr5) ∧ Hid (p - v ≤ G))
              case atStart => exact ⟨0, f, M, mm, Nat.zero_le _, rfl, rfl, hc, hbo5, hb6, Sav.refl _ _, by show _ ≤ _; omega⟩
              case round =>
                clear hc hbo5 hb6
                generalize hwr5 : wr.heap.size = z5 at *
                clear hwr5 hb
                obtain ⟨v, f, M, mm, hv, rfl, rfl, hc, hbo, hb, hsv, hG⟩ := hrel
                have yp := (hb.cell (p := ⟨bp, 0, none⟩) hbp).trans g0
                by_cases hvl : v < p
                · obtain ⟨G3, rfl⟩ : ∃ G3, gk = G3 + 1 := ⟨gk - 1, by have := hG.out; omega⟩
                  have hG3 : Hid (p - (v + 1) ≤ G3) := by have := hG.out; show _ ≤ _; omega
                  have hJ1 : (v : Int) < (p : Int) := by omega
                  have hwa := hide (wrap_at (a := x) (b := p) (c := v) (by omega) (by omega) (by omega))
                  have hkl := flat_lt hxl hvl
                  rw [← hN.out] at hkl
                  have hgM := hide (hc.out.fl.get hxl hvl)
                  obtain ⟨d0, d1, d2, d3⟩ := hbo.out.get hkl
                  have hLh := hide fun h1 h2 => StaI.hit hc.out hxl hvl h1 h2
                  have hLs := hide fun h1 => StaI.skip hc.out h1
                  have hfl := hide hc.out.fl
                  generalize hkk : x * p + v = a at *
                  have hK0 : (0 : Int) ≤ (a : Int) := by omega
                  have hK1 : (a : Int) < (k : Int) := by omega
                  clear d3 hkk hc
                  go_upto_region 16 with fail
                  go_cut [11] (fun s wx => s = .int .i64 (a : Int) ∧ wx = wr)
                  case first =>
                    go_wp2_with fail
                    go_meet
                    exact ⟨by rw [← hwa.out, IntWalk.i64_left, IntWalk.i64_left], rfl⟩
                  case rest =>
                  obtain ⟨rfl, rfl⟩ := hcut
                  clear hwa
                  cases hfa : inS f a with
                  | false =>
                    rw [hfa] at d0 hgM
                    have hc2 := hide (hLs.out fun _ => ⟨by omega, by omega, by rw [Int.toNat_natCast, Int.toNat_natCast, hgM.out]; rfl⟩)
                    replace hb := hide hb
                    clear hLs hLh hgM hfa hfl
                    go_wp2_with fail
                    go_roundg G3
                    case measure => omega
                    case rel => exact ⟨v + 1, f, M, mm, by omega, rfl, by go_num, hc2, hbo, hb.out, hsv, hG3⟩
                  | true =>
                    rw [hfa] at d0 hgM
                    by_cases hn0 : no = 0
                    · have hc2 := hide (hLs.out fun h1 => by
                        have h2 : outE et (x : Int) = [] := List.eq_nil_of_length_eq_zero (by rw [hlen.out]; exact hn0)
                        exact absurd (by unfold movT; exact congrArg (List.map _) h2) h1.1)
                      subst hn0
                      replace hb := hide hb
                      clear hLs hLh hgM hfa hfl
                      go_wp2_with fail
                      go_roundg G3
                      case measure => omega
                      case rel => exact ⟨v + 1, f, M, mm, by omega, rfl, by go_num, hc2, hbo, hb.out, hsv, hG3⟩
                    · have hn1 : ((no : Int) == 0) = false := by rw [beq_eq_false_iff_ne]; omega
                      have hne : Hid (outE et (x : Int) ≠ []) := fun e => by have := hlen.out; rw [e] at this; simp at this; omega
                      clear hfa
                      go_upto_region 20 with fail
                      clear d0 d1
                      go_loopg [12, 13] no (fun G g i wr6 => ∃ j : Nat, j ≤ no ∧ g = .bool (((outE et (x : Int)).take j).any (gE lt ep lp f p (v : Int))) ∧ i = .int .i64 (j : Nat) ∧ Hid (BoB wr6 w.heap.size k f) ∧ Below w.heap.size w wr6 ∧ Hid (Sav w.heap.size w5 wr6) ∧ Hid (no - j ≤ G))
                      case atStart => exact ⟨0, Nat.zero_le _, rfl, rfl, hbo, hb, hsv, by show _ ≤ _; omega⟩
                      case round =>
                        clear hbo hb hsv hG yp
                        obtain ⟨j, hj, rfl, rfl, hbo, hb, hsv, hG⟩ := hrel
                        have yp := (hb.cell (p := ⟨bp, 0, none⟩) hbp).trans g0
                        by_cases hjl : j < no
                        · obtain ⟨G4, rfl⟩ : ∃ G4, gk = G4 + 1 := ⟨gk - 1, by have := hG.out; omega⟩
                          have hG4 : Hid (no - (j + 1) ≤ G4) := by have := hG.out; show _ ≤ _; omega
                          have hor := hou.out.keep hsv.out.size (fun b g1 g2 g3 => hsv.out.block b g3 (by omega))
                          obtain ⟨b7, o7, ff, lb, tg, rfl, -, -, g7, hx7, a0, a1, a2, -, -, -⟩ := SlE.get hor hjl
                          have hem := (List.mem_filter.1 (List.mem_of_getElem? hx7)).1
                          have hed := hlbs.out _ hem
                          dsimp only at hed
                          obtain ⟨tn, rfl⟩ : ∃ tn : Nat, tg = (tn : Int) := ⟨tg.toNat, by omega⟩
                          have htn : tn < n := by omega
                          have htk := any_take2 (G := gE lt ep lp f p (v : Int)) hx7
                          have hzr := toP_lt (lt := lt) hs.out hvl (ff, lb, (tn : Int))
                          have hgE : gE lt ep lp f p (v : Int) (ff, lb, (tn : Int)) = (decide (0 ≤ toP lt ep lp (ff, lb, (tn : Int)) (v : Int)) && inS f (tn * p + (toP lt ep lp (ff, lb, (tn : Int)) (v : Int)).toNat)) := rfl
                          have qt := hide (hq.out b7 (o7 + j * 3) ff lb (tn : Int) (v : Int) wr hb a1 g7 hed.1)
                          generalize toP lt ep lp (ff, lb, (tn : Int)) (v : Int) = z at *
                          generalize gE lt ep lp f p (v : Int) (ff, lb, (tn : Int)) = ge at *
                          generalize ((outE et (x : Int)).take j).any (gE lt ep lp f p (v : Int)) = gs at *
                          have hI0 : (0 : Int) ≤ (j : Int) := by omega
                          have hI1 : (j : Int) < (no : Int) := by omega
                          have htk' := hide htk
                          have hgE' := hide hgE
                          have hbz := hb.size
                          replace hb := hide hb
                          clear hx7 hem hor htk hgE a0
                          go_upto_region 23 with (first | (go_at_call 141; (with_reducible refine qt.out.mono ?_); rintro e w6 ⟨rfl, hb8⟩))
                          have hb9 := hb.out.trans (hb8.mono hbz)
                          have yp6 := (hb9.cell (p := ⟨bp, 0, none⟩) hbp).trans g0
                          have z2 := (hb8.cell (p := ⟨b7, o7 + j * 3 + 2, none⟩) g7).trans a2
                          have hbo6 := hide (hbo.out.below hb8)
                          have hsv6 := hide (hsv.out.trans (Sav.of_below hb8))
                          replace hb9 := hide hb9
                          clear hb8 a1 a2 yp qt hbo hsv
                          cases gs with
                          | true =>
                            have hval := hide (htk'.out.trans (Bool.true_or ge))
                            clear htk' hgE'
                            go_quiet (fail)
                            have hbq : Hid (Below w.heap.size w (w6.drewN nq)) := ⟨hb9.out.os, hb9.out.tape, hb9.out.output, hb9.out.size, hb9.out.block⟩
                            have hbo7 : Hid (BoB (w6.drewN nq) w.heap.size k f) := hbo6.out
                            have hsv7 : Hid (Sav w.heap.size w5 (w6.drewN nq)) := ⟨hsv6.out.os, hsv6.out.tape, hsv6.out.output, hsv6.out.size, hsv6.out.block⟩
                            clear hbo6 hsv6 hb9
                            go_wp2_with fail
                            go_roundg G4
                            case measure => omega
                            case rel => exact ⟨j + 1, by omega, by rw [hval.out], by go_num, hbo7, hbq.out, hsv7, hG4⟩
                          | false =>
                            by_cases hz : z < 0
                            · have hzd : decide ((0 : Int) ≤ z) = false := decide_eq_false (by omega)
                              have hzn : ¬ (0 : Int) ≤ z := by omega
                              rw [hzd, Bool.false_and] at hgE'
                              have hval := hide (htk'.out.trans (by rw [hgE'.out]; rfl : (false || ge) = false))
                              clear htk' hgE'
                              go_quiet (fail)
                              have hbq : Hid (Below w.heap.size w (w6.drewN nq)) := ⟨hb9.out.os, hb9.out.tape, hb9.out.output, hb9.out.size, hb9.out.block⟩
                              have hbo7 : Hid (BoB (w6.drewN nq) w.heap.size k f) := hbo6.out
                              have hsv7 : Hid (Sav w.heap.size w5 (w6.drewN nq)) := ⟨hsv6.out.os, hsv6.out.tape, hsv6.out.output, hsv6.out.size, hsv6.out.block⟩
                              clear hbo6 hsv6 hb9
                              go_wp2_with fail
                              go_roundg G4
                              case measure => omega
                              case rel => exact ⟨j + 1, by omega, by rw [hval.out], by go_num, hbo7, hbq.out, hsv7, hG4⟩
                            · obtain ⟨zn, rfl⟩ : ∃ zn : Nat, z = (zn : Int) := ⟨z.toNat, by omega⟩
                              have hzn : zn < p := by omega
                              have hk2 := flat_lt htn hzn
                              rw [← hN.out] at hk2
                              obtain ⟨i0, i1, -, -⟩ := hbo6.out.get hk2
                              have hw1 := wrap_mul (a := tn) (b := p) (by omega) (by omega)
                              have hw2 := wrap_at (a := tn) (b := p) (c := zn) (by omega) (by omega) (by omega)
                              rw [hw1] at hw2
                              have hzd : decide ((0 : Int) ≤ (zn : Int)) = true := decide_eq_true (by omega)
                              rw [hzd, Bool.true_and, Int.toNat_natCast] at hgE'
                              have hval := hide (htk'.out.trans (by rw [hgE'.out, Bool.false_or] : (false || ge) = inS f (tn * p + zn)))
                              generalize tn * p + zn = k2 at *
                              generalize tn * p = m1 at *
                              have hz0 : (0 : Int) ≤ (zn : Int) := by omega
                              have hK2 : (0 : Int) ≤ (k2 : Int) := by omega
                              have hK3 : (k2 : Int) < (k : Int) := by omega
                              clear htk' hgE'
                              go_quiet (fail)
                              have hbq : Hid (Below w.heap.size w (w6.drewN nq)) := ⟨hb9.out.os, hb9.out.tape, hb9.out.output, hb9.out.size, hb9.out.block⟩
                              have hbo7 : Hid (BoB (w6.drewN nq) w.heap.size k f) := hbo6.out
                              have hsv7 : Hid (Sav w.heap.size w5 (w6.drewN nq)) := ⟨hsv6.out.os, hsv6.out.tape, hsv6.out.output, hsv6.out.size, hsv6.out.block⟩
                              clear hbo6 hsv6 hb9
                              go_wp2_with fail
                              go_roundg G4
                              case measure => omega
                              case rel => exact ⟨j + 1, by omega, by rw [hval.out], by go_num, hbo7, hbq.out, hsv7, hG4⟩
                        · have hjn : j = no := by omega
                          subst hjn
                          have hall : (outE et (x : Int)).take j = outE et (x : Int) := List.take_of_length_le (by rw [hlen.out]; exact Nat.le_refl _)
                          rw [hall]
                          obtain ⟨d0, d1, -, d3⟩ := hbo.out.get hkl
                          have hst2 := hide (d3 false)
                          have hiff := hide (gE_sta ht.out hs.out hfl.out hvl hne.out)
                          clear d3 hall
                          cases hga : (outE et (x : Int)).any (gE lt ep lp f p (v : Int)) with
                          | true =>
                            rw [hga] at hiff
                            have hc2 := hide (hLs.out fun h1 => by have := hiff.out.2 h1; cases this)
                            replace hb := hide hb
                            clear hLs hLh hgM hfl hga hiff hst2
                            go_wp2_with fail
                            go_roundg G3
                            case measure => omega
                            case rel => exact ⟨v + 1, f, M, mm, by omega, rfl, by go_num, hc2, hbo, hb.out, hsv, hG3⟩
                          | false =>
                            rw [hga] at hiff
                            have hc2 := hide (hLh.out hgM.out (hiff.out.1 rfl))
                            have hb7 := hide (hb.setCell (p := ⟨w.heap.size, a, none⟩) (Nat.le_refl _) (.bool false))
                            have hsv7 := hide (hsv.out.trans (Sav.set wr ⟨w.heap.size, a, none⟩ (.bool false)))
                            clear hLs hLh hgM hfl hga hiff hsv hb
                            go_wp2_with fail
                            go_roundg G3
                            case measure => omega
                            case rel => exact ⟨v + 1, _, _, true, by omega, rfl, by go_num, hc2, hst2, hb7.out, hsv7, hG3⟩
                · have hvp : v = p := by omega
                  subst hvp
                  have hc2 := hide hc.out.row
                  replace hb := hide hb
                  clear hc
                  go_wp2_with fail
                  go_roundg G2
                  case measure => omega
                  case rel => exact ⟨x + 1, f, M, mm, by omega, rfl, by go_num, hc2, hbo, hb.out, hG2⟩
            · have hxn : x = n := by omega
              subst hxn
              replace hb := hide hb
              go_wp2_with fail
              go_roundg T
              case measure => omega
              case rel => exact ⟨f, M, mm, rfl, hc, hbo, hb.out⟩

end Go.Proofs.YtiaclddgllkgpaaGreatDoor
