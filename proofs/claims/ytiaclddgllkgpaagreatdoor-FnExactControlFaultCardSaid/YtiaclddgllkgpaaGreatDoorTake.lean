/-
  A region that draws its order and ends in a store to a cell that it loads: reads are taken first, what is known of the world need not hold behind the last store. Conditions: none.
-/
import Derived.Test.YtiaclddgllkgpaaGreatDoorTogW
import Derived.StillTail
import Derived.OrdersHeld
import Derived.Deep.RegionHeld3
namespace Go.Proofs.YtiaclddgllkgpaaGreatDoor
open Go
set_option linter.unusedVariables false

section
variable {P : Program} {ops : Array Oper} {Q : Exit → Act → World → Prop} {md : Region.Mode} {S : World → Prop} {st : Nat}

/-- Any order from here on; S holds behind each operation but number st. -/
def lateT (P : Program) (md : Region.Mode) (ops : Array Oper) (Q : Exit → Act → World → Prop) (S : World → Prop) (st : Nat) : Nat → Array Bool → Act → World → Prop
  | 0, got, a, w => Region.ready md ops got = [] ∧ Q .normal a w
  | m + 1, got, a, w => (Region.ready md ops got = [] → Q .normal a w) ∧
    ∀ i ∈ Region.ready md ops got, wpOp P ops Q i (fun a' w' => (i ≠ st → S w') ∧ lateT P md ops Q S st m (got.setIfInBounds i true) a' w') a w
theorem lateT.any : ∀ (m : Nat) (got : Array Bool) (a : Act) (w : World), lateT P md ops Q S st m got a w → wpAny P md ops Q m got a w
  | 0, _, _, _, h => h
  | m + 1, got, _, _, h => ⟨h.1, fun i hi => wpOp_mono (fun a' w' k => lateT.any m _ a' w' k.2) (h.2 i hi)⟩

/-- Each of these waits for the one ahead of it. -/
def chainW (md : Region.Mode) (ops : Array Oper) : Nat → List Nat → Bool
  | _, [] => true
  | i, d :: ds => Region.waitsFor md ops d i && chainW md ops d ds
def openW (got : Array Bool) (ds : List Nat) : Bool := ds.all fun d => !got.getD d true
theorem openW_mem {got : Array Bool} {ds : List Nat} (h : openW got ds = true) {d : Nat} (hd : d ∈ ds) : got.getD d true = false := by
  unfold openW at h
  have := List.all_eq_true.1 h d hd
  simpa using this
theorem chainW_shut {got : Array Bool} : ∀ (ds : List Nat) (i : Nat), chainW md ops i ds = true → got.getD i true = false → openW got ds = true → ∀ d ∈ ds, d ∉ Region.ready md ops got
  | [], _, _, _, _, d, hd => by cases hd
  | e :: ds, i, h, hi, ho, d, hd => by
    unfold chainW at h
    rw [Bool.and_eq_true] at h
    have he : got.getD e true = false := openW_mem ho (by simp)
    rcases List.mem_cons.1 hd with rfl | hd
    · intro hr
      obtain ⟨oj, h1, x, hx, hb, hon⟩ := Region.waitsFor_spec h.1
      obtain ⟨-, o, h2, h3⟩ := mem_ready.1 hr
      rw [h1] at h2
      obtain rfl := Option.some.inj h2
      have := h3 x hx hb
      rw [hon, getD_both hi] at this
      cases this
    · exact chainW_shut ds e h.2 he (by unfold openW at ho ⊢; rw [List.all_cons, Bool.and_eq_true] at ho; exact ho.2) d hd

theorem lateT_first {i : Nat} {oi : Oper} {v : Value} {ds : List Nat} (hi : ops[i]? = some oi) (hsel : Region.noSelect ops = true) (hc : chainW md ops i ds = true) (hst : st ∈ ds)
    (hQ : ∀ c a w, Q (.panic c) (a.put oi.dst v) w → Q (.panic c) a w) : ∀ (m : Nat) (got : Array Bool) (a : Act) (w : World),
      (∀ j oj, ops[j]? = some oj → j ≠ i → got.getD j true = false → (∀ e ∈ oj.after, Region.binds md e = true → e.on ≠ i) → oi.apart ops oj = true) →
      i ∈ Region.ready md ops got → openW got ds = true → YieldsIf P ops S oi v a → S w →
      lateT P md ops Q S st m (got.setIfInBounds i true) (a.put oi.dst v) w → lateT P md ops Q S st (m + 1) got a w
  | 0, got, a, w, _, hr, _, hy, hS, H => by
    refine ⟨fun h => (by rw [h] at hr; cases hr), fun j hj => ?_⟩
    by_cases hji : j = i
    · subst hji; exact hy.wpOp hi hS ⟨fun _ => hS, H⟩
    · have := ready_mono hj hji
      rw [H.1] at this
      cases this
  | m + 1, got, a, w, hfree, hr, ho, hy, hS, H => by
    refine ⟨fun h => (by rw [h] at hr; cases hr), fun j hj => ?_⟩
    by_cases hji : j = i
    · subst hji; exact hy.wpOp hi hS ⟨fun _ => hS, H⟩
    · have h1 := H.2 j (ready_mono hj hji)
      obtain ⟨hjun, oj, hoj, hall⟩ := mem_ready.1 hj
      have hi0 := (mem_ready.1 hr).1
      have hjd : j ∉ ds := fun hm => chainW_shut ds i hc hi0 ho j hm hj
      have hjst : j ≠ st := fun e => hjd (e ▸ hst)
      have hnot : ∀ e ∈ oj.after, Region.binds md e = true → e.on ≠ i := fun e he hb heq => by
        have h2 := hall e he hb
        rw [heq, getD_both hi0] at h2
        cases h2
      have h2 := wpOp_putIf hoj (hfree j oj hoj hji hjun hnot) (fun cs b => Region.noSelect_spec hsel i oi cs b hi) (fun cs b => Region.noSelect_spec hsel j oj cs b hoj) hQ hy h1
      refine wpOp_mono (fun a' w' h3 => ⟨h3.2.1, lateT_first hi hsel hc hst hQ m (got.setIfInBounds j true) a' w' (fun k ok hk hki hun hno => ?_) (ready_mono hr (Ne.symm hji)) ?_ h3.1 (h3.2.1 hjst) ?_⟩) h2
      · refine hfree k ok hk hki ?_ hno
        by_cases hjk : j = k
        · subst hjk; exact hjun
        · rw [getD_set_ne true hjk] at hun; exact hun
      · unfold openW
        rw [List.all_eq_true]
        intro d hd
        rw [getD_set_ne true (fun e : j = d => hjd (by rw [e]; exact hd)), openW_mem ho hd]
        rfl
      · rw [Array.setIfInBounds_comm _ _ hji]
        exact h3.2.2
/-- A read, an address, a copy is taken first. -/
theorem lateT_take {i : Nat} {oi : Oper} {v : Value} {m : Nat} {got : Array Bool} {a : Act} {w : World} (ds : List Nat) (hi : ops[i]? = some oi) (hsel : Region.noSelect ops = true) (hf : Region.free md ops got i = true)
    (hr : (Region.ready md ops got).contains i = true) (hc : (chainW md ops i ds && openW got ds && ds.contains st) = true) (hQ : ∀ c a w, Q (.panic c) (a.put oi.dst v) w → Q (.panic c) a w) (hy : YieldsIf P ops S oi v a) (hS : S w)
    (h : lateT P md ops Q S st m (got.setIfInBounds i true) (a.put oi.dst v) w) : lateT P md ops Q S st (m + 1) got a w := by
  rw [Bool.and_eq_true, Bool.and_eq_true] at hc
  exact lateT_first hi hsel hc.1.1 (by simpa using hc.2) hQ m got a w (Region.free_spec hi hf) (by simpa using hr) hc.1.2 hy hS h
/-- The only operation that may come. -/
theorem lateT_step {i : Nat} {o : Oper} {m : Nat} {got : Array Bool} {a : Act} {w : World} (hr : Region.ready md ops got = [i]) (ho : ops[i]? = some o)
    (h : ∀ K : Act → World → Prop, Shut (∀ a w, (i ≠ st → S w) → lateT P md ops Q S st m (got.setIfInBounds i true) a w → K a w) → if Region.wanted o (yielded ops a.tmps) = true then Oper.wp P o a w K Q else K (a.put o.dst undef) w) : lateT P md ops Q S st (m + 1) got a w := by
  refine ⟨fun h0 => (by rw [hr] at h0; cases h0), fun j hj => ?_⟩
  rw [hr] at hj
  obtain rfl := List.mem_singleton.1 hj
  exact wpOp_step ho fun K hK => h K fun a w hS hl => hK a w ⟨hS, hl⟩
/-- One of two operations comes next. -/
theorem lateT_two {i j : Nat} {o o' : Oper} {m : Nat} {got : Array Bool} {a : Act} {w : World} (hr : Region.ready md ops got = [i, j]) (ho : ops[i]? = some o) (ho' : ops[j]? = some o')
    (h : ∀ K : Act → World → Prop, Shut (∀ a w, (i ≠ st → S w) → lateT P md ops Q S st m (got.setIfInBounds i true) a w → K a w) → if Region.wanted o (yielded ops a.tmps) = true then Oper.wp P o a w K Q else K (a.put o.dst undef) w)
    (h' : ∀ K : Act → World → Prop, Shut (∀ a w, (j ≠ st → S w) → lateT P md ops Q S st m (got.setIfInBounds j true) a w → K a w) → if Region.wanted o' (yielded ops a.tmps) = true then Oper.wp P o' a w K Q else K (a.put o'.dst undef) w) : lateT P md ops Q S st (m + 1) got a w := by
  refine ⟨fun h0 => (by rw [hr] at h0; cases h0), fun k hk => ?_⟩
  rw [hr] at hk
  rcases List.mem_cons.1 hk with rfl | hk
  · exact wpOp_step ho fun K hK => h K fun a w hS hl => hK a w ⟨hS, hl⟩
  · obtain rfl := List.mem_singleton.1 hk
    exact wpOp_step ho' fun K hK => h' K fun a w hS hl => hK a w ⟨hS, hl⟩
theorem lateT_done {got : Array Bool} {a : Act} {w : World} (hr : Region.ready md ops got = []) (h : Q .normal a w) : ∀ m, lateT P md ops Q S st m got a w
  | 0 => ⟨hr, h⟩
  | _ + 1 => ⟨fun _ => h, by rw [hr]; simp⟩
theorem lateT_begin {id : Nat} {a : Act} {w : World} (hm : P.follows .mixedOrders = true) (h : lateT P .any ops Q S st ops.size (Array.replicate ops.size false) a w.drew) : (Code.region id ops true).wp P Q a w :=
  wp_region_any hm (lateT.any _ _ _ _ h)
end

end Go.Proofs.YtiaclddgllkgpaaGreatDoor
