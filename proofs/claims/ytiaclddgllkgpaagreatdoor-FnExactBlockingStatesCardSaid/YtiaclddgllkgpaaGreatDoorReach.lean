/-
  Reachable states, by the reference and by the program. Conditions: sizes.
-/
import Derived.Test.YtiaclddgllkgpaaGreatDoorFarU
import Derived.Test.YtiaclddgllkgpaaGreatDoorDel
import Derived.StillTailTactics
import Derived.Deep.LoopGhost
namespace Go.Proofs.YtiaclddgllkgpaaGreatDoor
open Go.ChangeShapes Go.WideShapes Go.ChangeAt Go.RowKit Go.Sort
set_option linter.unusedVariables false
set_option linter.unusedSimpArgs false

/-- How many are in a set. -/
def numB (s : List Bool) : Nat := (s.filter id).length
theorem numB_le (s : List Bool) : numB s ≤ s.length := List.length_filter_le _ _
theorem numB_set {s : List Bool} : ∀ {v : Nat}, v < s.length → inS s v = false → numB (s.set v true) = numB s + 1 := by
  induction s with
  | nil => intro v h; simp at h
  | cons b s ih =>
    intro v hv h
    cases v with
    | zero =>
      have hb : b = false := by simpa [inS] using h
      subst hb
      simp [numB]
    | succ v =>
      have h1 := ih (v := v) (by simpa using hv) (by simpa [inS] using h)
      unfold numB at h1 ⊢
      cases b <;> simp [List.filter_cons] at h1 ⊢ <;> omega


/-- State k is reached. -/
def ReachE (es : List Ed) (ini : Int) (k : Nat) : Prop := ∃ m, lay (srcE [ini]) (arcE true es) m k
noncomputable def reachB (es : List Ed) (ini : Int) (k : Nat) : Bool := open Classical in decide (ReachE es ini k)
theorem reachB_true {es : List Ed} {ini : Int} {k : Nat} : reachB es ini k = true ↔ ReachE es ini k := by
  unfold reachB
  simp
noncomputable def reachF (N : Nat) (es : List Ed) (ini : Int) : List Int := ((List.range N).filter (reachB es ini)).map Int.ofNat
theorem ReachE.step {es : List Ed} {ini : Int} {a k : Nat} (h : ReachE es ini a) (ha : arcE true es a k) : ReachE es ini k := by
  obtain ⟨m, hm⟩ := h
  exact ⟨m + 1, .inr ⟨a, hm, ha⟩⟩
theorem reach_sub {es : List Ed} {ini : Nat} {s : List Bool} (h0 : inS s ini = true) (hc : ∀ a k, arcE true es a k → inS s a = true → inS s k = true) {k : Nat} (h : ReachE es (ini : Int) k) : inS s k = true := by
  obtain ⟨m, hm⟩ := h
  induction m generalizing k with
  | zero =>
    have : (k : Int) ∈ [(ini : Int)] := hm
    have : k = ini := by simp at this; omega
    rw [this]; exact h0
  | succ m ih =>
    rcases hm with hm | ⟨a, ha, hk⟩
    · exact ih hm
    · exact hc a k hk (ih ha)

/-- In a round of the reference's search: what is marked is reached; the edges looked at lead from marked states to marked ones, if nothing was marked in this round. -/
structure SeenR (N : Nat) (es : List Ed) (ini : Nat) (old : List Bool) (j : Nat) (mo : Bool) (s : List Bool) : Prop where
  len : s.length = N
  start : inS s ini = true
  sound : ∀ k, inS s k = true → ReachE es (ini : Int) k
  same : mo = false → s = old
  more : mo = true → numB old < numB s
  grow : numB old ≤ numB s
  closed : mo = false → ∀ e ∈ es.take j, ∀ a k : Nat, e.1 = (a : Int) → e.2.2 = (k : Int) → inS s a = true → inS s k = true

theorem SeenR.begin {N : Nat} {es : List Ed} {ini : Nat} {s : List Bool} (h1 : s.length = N) (h2 : inS s ini = true) (h3 : ∀ k, inS s k = true → ReachE es (ini : Int) k) : SeenR N es ini s 0 false s :=
  ⟨h1, h2, h3, fun _ => rfl, (fun h => by cases h), Nat.le_refl _, fun _ e he => by simp at he⟩
theorem take_mem_succ {α : Type} {l : List α} {j : Nat} {e x : α} (hx : l[j]? = some e) (h : x ∈ l.take (j + 1)) : x ∈ l.take j ∨ x = e := by
  rw [List.take_add_one, hx, List.mem_append] at h
  rcases h with h | h
  · exact .inl h
  · simp at h; exact .inr h
theorem SeenR.skip {N : Nat} {es : List Ed} {ini : Nat} {old s : List Bool} {j : Nat} {mo : Bool} {f tg : Nat} {lb : Int} (h : SeenR N es ini old j mo s) (hx : es[j]? = some ((f : Int), lb, (tg : Int))) (hs : inS s f = true → inS s tg = true) : SeenR N es ini old (j + 1) mo s :=
  ⟨h.len, h.start, h.sound, h.same, h.more, h.grow, fun hm e he a k h1 h2 h3 => by
    rcases take_mem_succ hx he with h4 | rfl
    · exact h.closed hm e h4 a k h1 h2 h3
    · have : f = a := by dsimp only at h1; omega
      have : tg = k := by dsimp only at h2; omega
      subst_vars
      exact hs h3⟩
theorem SeenR.mark {N : Nat} {es : List Ed} {ini : Nat} {old s : List Bool} {j : Nat} {mo : Bool} {f tg : Nat} {lb : Int} (h : SeenR N es ini old j mo s) (hx : es[j]? = some ((f : Int), lb, (tg : Int))) (hf : inS s f = true) (ht : inS s tg = false) (htn : tg < N) : SeenR N es ini old (j + 1) true (s.set tg true) := by
  have htl : tg < s.length := by rw [h.len]; exact htn
  have hn := numB_set htl ht
  refine ⟨by rw [List.length_set]; exact h.len, ?_, fun k hk => ?_, (fun h => by cases h), fun _ => by have := h.grow; omega, by have := h.grow; omega, (fun h => by cases h)⟩
  · rw [inS_set htl]
    split
    · rfl
    · exact h.start
  · rw [inS_set htl] at hk
    split at hk
    · rename_i e
      subst e
      exact (h.sound f hf).step ⟨_, List.mem_of_getElem? hx, by simp⟩
    · exact h.sound k hk
theorem SlB.cell' {w : World} {lo hi n b off : Nat} {l : List Bool} (h : SlB w lo hi (some ⟨b, off, none⟩) n l) {k : Nat} (hk : k < n) : w.cell? ⟨b, off + k, none⟩ = some (.bool (inS l k)) ∧ w.frozen? ⟨b, off + k, none⟩ = false ∧ lo ≤ b ∧ b < hi ∧ b < w.heap.size := by
  obtain ⟨b', off', e, g1, g2, g3, -, h1, h2⟩ := h.get hk
  cases e
  exact ⟨h1, h2, g1, g2, g3⟩

set_option maxRecDepth 100000 in
set_option maxHeartbeats 3200000 in
theorem l11Reach_calls (bt : Nat) (x : CL) (d : DL) (w : World) (h : LtsAt w bt x d) (hval : ltsV d = true) :
    Calls Tryz.prog 70 #[.pointer (some ⟨bt, 0, none⟩)] w fun e w' => ∃ A n c, e = .returned (.slice A n c) ∧ SlI w' w.heap.size w'.heap.size A n (reachF d.1.toNat d.2.2.2 d.2.1) ∧ n ≤ 40 ∧ Below w.heap.size w w' := by
  obtain ⟨s0, s1, v2, v3⟩ := x
  obtain ⟨st, ini, ls, es⟩ := d
  have hst := lts_bounds hval
  have hed0 := edges_in hval
  obtain ⟨⟨e0, e1, ⟨A2, n2, k2, e2, hn2, hs2, t2⟩, ⟨A3, n3, k3, e3, hn3, t3⟩⟩, htot, hbt, c0, c1, -, c3⟩ := h
  dsimp only at *
  subst e0 e1 e2 e3
  obtain ⟨N, rfl⟩ : ∃ N : Nat, s0 = (N : Int) := ⟨s0.toNat, by omega⟩
  obtain ⟨ini, rfl⟩ : ∃ k : Nat, s1 = (k : Int) := ⟨s1.toNat, by omega⟩
  rw [Int.toNat_natCast]
  have hN1 : 1 ≤ N := by omega
  have hN2 : N ≤ 40 := by omega
  have hini : ini < N := by omega
  have l3 := hide t3.len
  have hes : n3 ≤ 1048576 := by rw [← l3.out]; exact Nat.le_trans (totL_edg ((N : Int), (ini : Int), ls, es)) htot
  have hE := hide elem_int64
  have hmk := run_make_bool N (by omega)
  replace t3 := hide t3
  replace hed0 := hide hed0
  have hs0 := (SlB.made w N).put hini true
  have hlen0 : ((setOf N fun _ => false).set ini true).length = N := by rw [List.length_set, setOf_len]
  have hst0 : inS ((setOf N fun _ => false).set ini true) ini = true := by rw [inS_set (by rw [setOf_len]; exact hini), if_pos rfl]
  have hso0 : ∀ k, inS ((setOf N fun _ => false).set ini true) k = true → ReachE es (ini : Int) k := fun k hk => by
    rw [inS_set (by rw [setOf_len]; exact hini)] at hk
    split at hk
    · rename_i e
      subst e
      exact ⟨0, by show (ini : Int) ∈ [(ini : Int)]; simp⟩
    · rw [inS_setOf] at hk
      simp at hk
  generalize ((setOf N fun _ => false).set ini true) = s0 at *
  have hb0 : Below w.heap.size w ((w.alloc (.cells (madeCells #[.bool false] N) 4)).setCell ⟨w.heap.size, 0 + ini, none⟩ (.bool true)) := ((Below.refl _ _).alloc (Nat.le_refl _) _).setCell (p := ⟨w.heap.size, 0 + ini, none⟩) (Nat.le_refl _) _
  have hcl := ((SlB.made w N).cell' hini)
  have f0 := hcl.1
  have f1 := hcl.2.1
  have d1 : (w.alloc (.cells (madeCells #[.bool false] N) 4)).cell? ⟨bt, 1, none⟩ = some (.int .i64 (ini : Int)) := (((Below.refl w.heap.size w).alloc (Nat.le_refl _) (.cells (madeCells #[.bool false] N) 4)).cell (p := ⟨bt, 1, none⟩) hbt).trans c1
  rw [Nat.zero_add] at f0 f1 hb0 hs0
  have hiI : (ini : Int) < (N : Int) := by omega
  rw [World.setCell_alloc_at (w := w) (madeCells #[.bool false] N) 4 w.heap.size ini (.bool true) rfl] at hs0 hb0
  have hs0' := hide hs0
  have hb0' := hide hb0
  clear hs0 hb0 hcl htot hs2 hn2 hn3 t2 hval hst
  go_enter Tryz.func70, Tryz.ntmps70
  go_upto_region 4 with fail
  clear f0 f1 d1
  generalize (w.alloc (.cells ((madeCells #[.bool false] N).setIfInBounds ini (.bool true)) 4)) = W0 at *
  have hzw := hb0'.out.size
  go_loopg [4] (N + 1) (fun G b wr => ∃ (s : List Bool) (mo : Bool), b = .bool mo ∧ SlB wr w.heap.size (w.heap.size + 1) (some ⟨w.heap.size, 0, none⟩) N s ∧ Hid (s.length = N ∧ inS s ini = true ∧ ∀ k, inS s k = true → ReachE es (ini : Int) k) ∧ Hid (mo = false → ∀ a k : Nat, arcE true es a k → inS s a = true → inS s k = true) ∧ Below w.heap.size w wr ∧ Hid (N + (if mo = true then 1 else 0) ≤ G + numB s))
  case atStart => exact ⟨s0, true, rfl, hs0'.out, ⟨hlen0, hst0, hso0⟩, (fun h => by cases h), hb0'.out, by show _ ≤ _; rw [if_pos rfl]; omega⟩
  case round =>
    obtain ⟨wo, rfl⟩ : ∃ wo : World, wo = wr := ⟨_, rfl⟩
    clear hs0' hb0' hlen0 hst0 hso0
    obtain ⟨s, mo, rfl, hs, hR, hC, hb1, hG⟩ := hrel
    cases mo with
    | true =>
      have hg1 := hG.out
      rw [if_pos rfl] at hg1
      have hnl := numB_le s
      rw [hR.out.1] at hnl
      obtain ⟨G2, rfl⟩ : ∃ G2, gk = G2 + 1 := ⟨gk - 1, by omega⟩
      have hbeg := hide (SeenR.begin hR.out.1 hR.out.2.1 hR.out.2.2)
      replace hs := hide hs
      replace hb1 := hide hb1
      clear hR hC hG
      go_upto_region 7 with fail
      go_loopw [4, 5] (fun b i wx => ∃ (j : Nat) (mo : Bool) (t : List Bool), j ≤ n3 ∧ b = .bool mo ∧ i = .int .i64 (j : Nat) ∧ SlB wx w.heap.size (w.heap.size + 1) (some ⟨w.heap.size, 0, none⟩) N t ∧ Hid (SeenR N es ini s j mo t) ∧ Below w.heap.size w wx) (fun _ i _ => n3 - (intOf i).toNat)
      case atStart => exact ⟨0, false, s, Nat.zero_le _, rfl, rfl, hs.out, hbeg, hb1.out⟩
      case round =>
        clear hs hbeg hb1
        obtain ⟨j, mo, t, hj, rfl, rfl, hs, hS, hb⟩ := hrel
        have y3 := (hb.cell (p := ⟨bt, 3, none⟩) hbt).trans c3
        by_cases hlt : j < n3
        · obtain ⟨b, off, f, lb, tg, rfl, -, -, g3, hx, p0, p1, p2, -, -, -⟩ := SlE.get t3.out hlt
          replace p0 := (hb.cell g3).trans p0
          replace p1 := (hb.cell (p := ⟨b, off + j * 3 + 1, none⟩) g3).trans p1
          replace p2 := (hb.cell (p := ⟨b, off + j * 3 + 2, none⟩) g3).trans p2
          have hed := hed0.out _ (List.mem_of_getElem? hx)
          dsimp only at hed
          obtain ⟨fn, rfl⟩ : ∃ fn : Nat, f = (fn : Int) := ⟨f.toNat, by omega⟩
          obtain ⟨tn, rfl⟩ : ∃ tn : Nat, tg = (tn : Int) := ⟨tg.toNat, by omega⟩
          have hfn : fn < N := by omega
          have htn : tn < N := by omega
          have hfI : (fn : Int) < (N : Int) := by omega
          have htI : (tn : Int) < (N : Int) := by omega
          obtain ⟨q0, -, -, -, -⟩ := hs.cell' hfn
          obtain ⟨r0, r1, -, -, -⟩ := hs.cell' htn
          rw [Nat.zero_add] at q0 r0 r1
          have hI0 : (0 : Int) ≤ (j : Int) := by omega
          have hI1 : (j : Int) < (n3 : Int) := by omega
          cases e1 : inS t fn with
          | false =>
            have hn := hide (hS.out.skip hx (fun h => by rw [e1] at h; cases h))
            rw [e1] at q0
            replace hs := hide hs
            replace hb := hide hb
            clear hx hed e1 hS
            go_wp2_with fail
            go_roundw
            case rel => exact ⟨j + 1, mo, t, by omega, rfl, by go_num, hs.out, hn, hb.out⟩
            case measure => simp [intOf]; omega
          | true =>
            rw [e1] at q0
            cases e2 : inS t tn with
            | true =>
              have hn := hide (hS.out.skip hx (fun _ => e2))
              rw [e2] at r0
              replace hs := hide hs
              replace hb := hide hb
              clear hx hed e1 hS e2
              go_wp2_with fail
              go_roundw
              case rel => exact ⟨j + 1, mo, t, by omega, rfl, by go_num, hs.out, hn, hb.out⟩
              case measure => simp [intOf]; omega
            | false =>
              have hn := hide (hS.out.mark hx e1 e2 htn)
              rw [e2] at r0
              have hput := hs.put htn true
              rw [Nat.zero_add] at hput
              replace hput := hide hput
              have hbp := hide (hb.setCell (p := ⟨w.heap.size, tn, none⟩) (Nat.le_refl _) (.bool true))
              clear hx hed e1 hS e2 hs hb
              go_wp2_with fail
              go_roundw
              case rel => exact ⟨j + 1, true, _, by omega, rfl, by go_num, hput.out, hn, hbp.out⟩
              case measure => simp [intOf]; omega
        · have hjn : j = n3 := by omega
          subst hjn
          have hS' := hS.out
          have hR : Hid (t.length = N ∧ inS t ini = true ∧ ∀ k, inS t k = true → ReachE es (ini : Int) k) := ⟨hS'.len, hS'.start, hS'.sound⟩
          have hC : Hid (mo = false → ∀ a k : Nat, arcE true es a k → inS t a = true → inS t k = true) := fun hm a k ha h1 => by
            obtain ⟨e, he, h2⟩ := ha
            simp only [if_true] at h2
            exact hS'.closed hm e (by rw [List.take_of_length_le (by rw [l3.out]; exact Nat.le_refl _)]; exact he) a k h2.1 h2.2 h1
          have hG' : Hid (N + (if mo = true then 1 else 0) ≤ G2 + numB t) := by
            show _ ≤ _
            cases mo with
            | false => have := hS'.grow; rw [if_neg (by decide)]; omega
            | true => have := hS'.more rfl; rw [if_pos rfl]; omega
          replace hs := hide hs
          replace hb := hide hb
          clear hS hS'
          go_wp2_with fail
          go_roundg G2
          case measure => omega
          case rel => exact ⟨t, mo, rfl, hs.out, hR, hC, hb.out, hG'⟩
    | false =>
      have hmk2 : ∀ k, k < N → inS s k = reachB es (ini : Int) k := fun k hk => by
        cases e1 : inS s k with
        | true => exact (reachB_true.2 (hR.out.2.2 k e1)).symm
        | false =>
          cases e2 : reachB es (ini : Int) k with
          | false => rfl
          | true => rw [reach_sub hR.out.2.1 (hC.out rfl) (reachB_true.1 e2)] at e1; cases e1
      replace hmk2 := hide hmk2
      replace hs := hide hs
      replace hb1 := hide hb1
      have hbA := hide (hb1.out.alloc hb1.out.size (.cells #[] 2))
      have hO0 := hide (Own.made (f := iv) (size := 1) wo 2 (Nat.le_refl _))
      clear hR hC hG hmk c1
      go_upto_region 14 with fail
      go_loopw [6, 7] (fun v i wr => ∃ (k : Nat) (A : Option Addr) (m c : Nat), k ≤ N ∧ i = .int .i64 (k : Nat) ∧ v = .slice A m c ∧ m ≤ k ∧ Hid (Own 1 iv wr wo.heap.size 2 A m c (((List.range k).filter (reachB es (ini : Int))).map Int.ofNat)) ∧ Below wo.heap.size wo wr) (fun _ i _ => N - (intOf i).toNat)
      case atStart => exact ⟨0, _, 0, 0, Nat.zero_le _, rfl, rfl, Nat.zero_le _, hO0, (Below.refl _ _).alloc (Nat.le_refl _) _⟩
      case round =>
        clear hO0 hbA
        obtain ⟨k, A, m, c, hk, rfl, rfl, hm, hown, hb⟩ := hrel
        have hbw := hb1.out.trans (hb.mono hb1.out.size)
        have y0 := (hbw.cell (p := ⟨bt, 0, none⟩) hbt).trans c0
        by_cases hlt : k < N
        · have hkI : (k : Int) < (N : Int) := by omega
          have hs2 := (hs.out.top).below hb (.inl (Nat.le_refl _))
          obtain ⟨q0, -, -, -, -⟩ := SlB.cell' hs2 hlt
          rw [Nat.zero_add, hmk2.out k hlt] at q0
          have hst : ((List.range (k + 1)).filter (reachB es (ini : Int))).map Int.ofNat = ((List.range k).filter (reachB es (ini : Int))).map Int.ofNat ++ (if reachB es (ini : Int) k = true then [(k : Int)] else []) := by
            rw [List.range_succ, List.filter_append, List.map_append]
            congr 1
            by_cases h : reachB es (ini : Int) k = true <;> simp [List.filter_cons, h]
          have hza : ∀ o, wo.heap.size ≤ (wr.alloc o).heap.size := fun o => by rw [World.size_alloc]; have := hb.size; omega
          have hz := hb.size
          cases e : reachB es (ini : Int) k with
          | true =>
            rw [e] at q0
            rw [e, if_pos rfl] at hst
            replace hst := hide hst
            replace hb := hide hb
            clear hs2 hbw e
            go_wp2_with (first | (at_builtin; (with_reducible refine wpList_app rfl (.tmp 77) (.tmp 79) rfl hE.out flat_iv rfl (hown.out.alloc _) rfl (Sl.lit1' wr 2 (k : Int) _ rfl 1 _ ?c0) ?c1 (hza _) ?_); rotate_right; intro A5 c5 w5 hown5 hgr5 hb5 _))
            case c0 => rfl
            case c1 => omega
            have hb6 := hide ((hb.out.alloc hz (.cells #[.int .i64 (k : Int)] 2)).trans hb5)
            go_roundw
            case rel => exact ⟨k + 1, A5, m + 1, c5, by omega, by go_num, rfl, by omega, by rw [hst.out]; exact hown5, hb6.out⟩
            case measure => simp [intOf]; omega
          | false =>
            rw [e] at q0
            rw [e, if_neg (by decide), List.append_nil] at hst
            replace hst := hide hst
            replace hb := hide hb
            clear hs2 hbw e
            go_wp2_with fail
            go_roundw
            case rel => exact ⟨k + 1, A, m, c, by omega, by go_num, rfl, by omega, by rw [hst.out]; exact hown.out, hb.out⟩
            case measure => simp [intOf]; omega
        · have hkn : k = N := by omega
          subst hkn
          replace hbw := hide hbw
          clear hb
          go_wp2_with fail
          go_ret
          exact ⟨A, m, c, rfl, (hown.out.sl flat_iv).more hb1.out.size (Nat.le_refl _), by omega, hbw.out⟩

end Go.Proofs.YtiaclddgllkgpaaGreatDoor
