/-
  Which pairs leave and stay, and the verdict, by the program. Conditions: sizes.
-/
import Derived.Test.YtiaclddgllkgpaaGreatDoorObsT
import Derived.Test.YtiaclddgllkgpaaGreatDoorFuncsM
namespace Go.Proofs.YtiaclddgllkgpaaGreatDoor
open Go.ChangeShapes Go.WideShapes Go.ChangeAt Go.RowKit Go.Sort
set_option linter.unusedVariables false
set_option linter.unusedSimpArgs false

set_option maxRecDepth 100000 in
set_option maxHeartbeats 1600000 in
theorem leave_calls (s0 s1 : Int) (A2 : Option Addr) (n2 k2 : Nat) (A3 : Option Addr) (n3 k3 : Nat) (r0 r1 : Int) (B2 : Option Addr) (m2 j2 : Nat) (B3 : Option Addr) (m3 j3 : Nat) (lt : List ByteArray) (et : List Ed) (lp : List ByteArray) (ep : List Ed) (n p K : Nat) (w : World) (hD : ObsD w K s0 s1 A2 n2 k2 A3 n3 k3 r0 r1 B2 m2 j2 B3 m3 j3 lt et lp ep) (hK : K ≤ w.heap.size) (hn : s0 = (n : Int)) (hp : r0 = (p : Int)) (hn0 : 0 < n) (hn1 : n ≤ 1000) (hp0 : 0 < p) (hp1 : p ≤ 1000) :
    Calls Tryz.prog 143 #[(.agg #[.int .i64 s0, .int .i64 s1, .slice A2 n2 k2, .slice A3 n3 k3, .int .i64 r0, .int .i64 r1, .slice B2 m2 j2, .slice B3 m3 j3])] w fun e w' => ∃ b0 M, e = .returned (.slice (some ⟨b0, 0, none⟩) n n) ∧ MatAt w' w.heap.size b0 n p M ∧ (∀ x y, ChM false M x y ↔ canL n p et lt ep lp x y) ∧ Below w.heap.size w w' := by
  have hb0 : Below w.heap.size w (w.alloc (.cells #[.int .i64 s0, .int .i64 s1, .slice A2 n2 k2, .slice A3 n3 k3, .int .i64 r0, .int .i64 r1, .slice B2 m2 j2, .slice B3 m3 j3] 141)) := (Below.refl _ _).alloc (Nat.le_refl _) _
  have hz : (w.alloc (.cells #[.int .i64 s0, .int .i64 s1, .slice A2 n2 k2, .slice A3 n3 k3, .int .i64 r0, .int .i64 r1, .slice B2 m2 j2, .slice B3 m3 j3] 141)).heap.size = w.heap.size + 1 := World.size_alloc _ _
  have kO := heap_alloc_new w (.cells #[.int .i64 s0, .int .i64 s1, .slice A2 n2 k2, .slice A3 n3 k3, .int .i64 r0, .int .i64 r1, .slice B2 m2 j2, .slice B3 m3 j3] 141)
  have q := hide (settle_calls n p s0 s1 A2 n2 k2 A3 n3 k3 r0 r1 B2 m2 j2 B3 m3 j3 lt et lp ep false 187 #[.pointer (some ⟨w.heap.size, 0, none⟩)] (leaF et lt ep lp) (w.alloc (.cells #[.int .i64 s0, .int .i64 s1, .slice A2 n2 k2, .slice A3 n3 k3, .int .i64 r0, .int .i64 r1, .slice B2 m2 j2, .slice B3 m3 j3] 141)) hn hp hn0 hn1 hp0 hp1 (leaF_mono _ _ _ _) (fun v u h W => rfl) fun bm b0 M x y W hW km hM hx hy =>
    lea1_calls s0 s1 A2 n2 k2 A3 n3 k3 r0 r1 B2 m2 j2 B3 m3 j3 lt et lp ep bm (w.alloc (.cells #[.int .i64 s0, .int .i64 s1, .slice A2 n2 k2, .slice A3 n3 k3, .int .i64 r0, .int .i64 r1, .slice B2 m2 j2, .slice B3 m3 j3] 141)).heap.size b0 n p K w.heap.size M x y W (hD.below (hb0.trans (hW.mono hb0.size)) hK) (Nat.le_trans hK (Nat.le_trans hb0.size hW.size)) ((hW.block _ (by omega)).trans kO) km hM hn hp (by omega))
  have c0 := (cell_of_row _ _ 0 _ _ (0, 0) kO).trans rfl
  have c1 := (cell_of_row _ _ 1 _ _ (0, 0) kO).trans rfl
  have c2 := (cell_of_row _ _ 2 _ _ (0, 0) kO).trans rfl
  have c3 := (cell_of_row _ _ 3 _ _ (0, 0) kO).trans rfl
  have c4 := (cell_of_row _ _ 4 _ _ (0, 0) kO).trans rfl
  have c5 := (cell_of_row _ _ 5 _ _ (0, 0) kO).trans rfl
  have c6 := (cell_of_row _ _ 6 _ _ (0, 0) kO).trans rfl
  have c7 := (cell_of_row _ _ 7 _ _ (0, 0) kO).trans rfl
  have hzs := hb0.size
  replace hb0 := hide hb0
  clear kO hD hn hp hz
  go_enter Tryz.func143, Tryz.ntmps143
  go_upto_region 1 with fail
  go_wp2_with (first | (go_at_call 186; (with_reducible refine q.out.mono ?_); rintro e w5 ⟨b5, M5, rfl, hM5, hc5, hb5⟩))
  go_ret
  exact ⟨b5, M5, rfl, hM5.more hzs, hc5, hb0.out.trans (hb5.mono hzs)⟩

set_option maxRecDepth 100000 in
set_option maxHeartbeats 1600000 in
theorem stay_calls (s0 s1 : Int) (A2 : Option Addr) (n2 k2 : Nat) (A3 : Option Addr) (n3 k3 : Nat) (r0 r1 : Int) (B2 : Option Addr) (m2 j2 : Nat) (B3 : Option Addr) (m3 j3 : Nat) (lt : List ByteArray) (et : List Ed) (lp : List ByteArray) (ep : List Ed) (n p K : Nat) (w : World) (hD : ObsD w K s0 s1 A2 n2 k2 A3 n3 k3 r0 r1 B2 m2 j2 B3 m3 j3 lt et lp ep) (hK : K ≤ w.heap.size) (hn : s0 = (n : Int)) (hp : r0 = (p : Int)) (hn0 : 0 < n) (hn1 : n ≤ 1000) (hp0 : 0 < p) (hp1 : p ≤ 1000) :
    Calls Tryz.prog 144 #[(.agg #[.int .i64 s0, .int .i64 s1, .slice A2 n2 k2, .slice A3 n3 k3, .int .i64 r0, .int .i64 r1, .slice B2 m2 j2, .slice B3 m3 j3])] w fun e w' => ∃ b0 M, e = .returned (.slice (some ⟨b0, 0, none⟩) n n) ∧ MatAt w' w.heap.size b0 n p M ∧ (∀ x y, ChM true M x y ↔ notS n p et lt ep lp x y) ∧ Below w.heap.size w w' := by
  have hb0 : Below w.heap.size w (w.alloc (.cells #[.int .i64 s0, .int .i64 s1, .slice A2 n2 k2, .slice A3 n3 k3, .int .i64 r0, .int .i64 r1, .slice B2 m2 j2, .slice B3 m3 j3] 141)) := (Below.refl _ _).alloc (Nat.le_refl _) _
  have hz : (w.alloc (.cells #[.int .i64 s0, .int .i64 s1, .slice A2 n2 k2, .slice A3 n3 k3, .int .i64 r0, .int .i64 r1, .slice B2 m2 j2, .slice B3 m3 j3] 141)).heap.size = w.heap.size + 1 := World.size_alloc _ _
  have kO := heap_alloc_new w (.cells #[.int .i64 s0, .int .i64 s1, .slice A2 n2 k2, .slice A3 n3 k3, .int .i64 r0, .int .i64 r1, .slice B2 m2 j2, .slice B3 m3 j3] 141)
  have q := hide (settle_calls n p s0 s1 A2 n2 k2 A3 n3 k3 r0 r1 B2 m2 j2 B3 m3 j3 lt et lp ep true 190 #[.pointer (some ⟨w.heap.size, 0, none⟩)] (staF et lt ep lp) (w.alloc (.cells #[.int .i64 s0, .int .i64 s1, .slice A2 n2 k2, .slice A3 n3 k3, .int .i64 r0, .int .i64 r1, .slice B2 m2 j2, .slice B3 m3 j3] 141)) hn hp hn0 hn1 hp0 hp1 (staF_mono _ _ _ _) (fun v u h W => rfl) fun bm b0 M x y W hW km hM hx hy =>
    sta1_calls s0 s1 A2 n2 k2 A3 n3 k3 r0 r1 B2 m2 j2 B3 m3 j3 lt et lp ep bm (w.alloc (.cells #[.int .i64 s0, .int .i64 s1, .slice A2 n2 k2, .slice A3 n3 k3, .int .i64 r0, .int .i64 r1, .slice B2 m2 j2, .slice B3 m3 j3] 141)).heap.size b0 n p K w.heap.size M x y W (hD.below (hb0.trans (hW.mono hb0.size)) hK) (Nat.le_trans hK (Nat.le_trans hb0.size hW.size)) ((hW.block _ (by omega)).trans kO) km hM hn hp (by omega))
  have c0 := (cell_of_row _ _ 0 _ _ (0, 0) kO).trans rfl
  have c1 := (cell_of_row _ _ 1 _ _ (0, 0) kO).trans rfl
  have c2 := (cell_of_row _ _ 2 _ _ (0, 0) kO).trans rfl
  have c3 := (cell_of_row _ _ 3 _ _ (0, 0) kO).trans rfl
  have c4 := (cell_of_row _ _ 4 _ _ (0, 0) kO).trans rfl
  have c5 := (cell_of_row _ _ 5 _ _ (0, 0) kO).trans rfl
  have c6 := (cell_of_row _ _ 6 _ _ (0, 0) kO).trans rfl
  have c7 := (cell_of_row _ _ 7 _ _ (0, 0) kO).trans rfl
  have hzs := hb0.size
  replace hb0 := hide hb0
  clear kO hD hn hp hz
  go_enter Tryz.func144, Tryz.ntmps144
  go_upto_region 1 with fail
  go_wp2_with (first | (go_at_call 186; (with_reducible refine q.out.mono ?_); rintro e w5 ⟨b5, M5, rfl, hM5, hc5, hb5⟩))
  go_ret
  exact ⟨b5, M5, rfl, hM5.more hzs, hc5, hb0.out.trans (hb5.mono hzs)⟩

/-- What the program's judge holds. -/
structure JudAt (w : World) (lo bL bS n p : Nat) (L N : Rel2) (ML MS : List (List Bool)) : Prop where
  ml : MatAt w lo bL n p ML
  ms : MatAt w lo bS n p MS
  cl : ∀ x y, ChM false ML x y ↔ L x y
  cs : ∀ x y, ChM true MS x y ↔ N x y

set_option maxRecDepth 100000 in
set_option maxHeartbeats 3200000 in
theorem judge_calls (s0 s1 : Int) (A2 : Option Addr) (n2 k2 : Nat) (A3 : Option Addr) (n3 k3 : Nat) (r0 r1 : Int) (B2 : Option Addr) (m2 j2 : Nat) (B3 : Option Addr) (m3 j3 : Nat) (lt : List ByteArray) (et : List Ed) (lp : List ByteArray) (ep : List Ed) (n p K : Nat) (w : World) (hD : ObsD w K s0 s1 A2 n2 k2 A3 n3 k3 r0 r1 B2 m2 j2 B3 m3 j3 lt et lp ep) (hK : K ≤ w.heap.size) (hn : s0 = (n : Int)) (hp : r0 = (p : Int)) (hn0 : 0 < n) (hn1 : n ≤ 1000) (hp0 : 0 < p) (hp1 : p ≤ 1000) :
    Calls Tryz.prog 106 #[(.agg #[.int .i64 s0, .int .i64 s1, .slice A2 n2 k2, .slice A3 n3 k3, .int .i64 r0, .int .i64 r1, .slice B2 m2 j2, .slice B3 m3 j3])] w fun e w' => ∃ bL bS ML MS, e = .returned (.agg #[.slice (some ⟨bL, 0, none⟩) n n, .slice (some ⟨bS, 0, none⟩) n n]) ∧ JudAt w' w.heap.size bL bS n p (canL n p et lt ep lp) (notS n p et lt ep lp) ML MS ∧ Below w.heap.size w w' := by
  have hz1 : (w.alloc (.cells #[.int .i64 s0, .int .i64 s1, .slice A2 n2 k2, .slice A3 n3 k3, .int .i64 r0, .int .i64 r1, .slice B2 m2 j2, .slice B3 m3 j3] 141)).heap.size = w.heap.size + 1 := World.size_alloc _ _
  have hz2 : ((w.alloc (.cells #[.int .i64 s0, .int .i64 s1, .slice A2 n2 k2, .slice A3 n3 k3, .int .i64 r0, .int .i64 r1, .slice B2 m2 j2, .slice B3 m3 j3] 141)).alloc (.cells #[.slice none 0 0, .slice none 0 0] 139)).heap.size = w.heap.size + 1 + 1 := by rw [World.size_alloc, hz1]
  have hb0 : Below w.heap.size w ((w.alloc (.cells #[.int .i64 s0, .int .i64 s1, .slice A2 n2 k2, .slice A3 n3 k3, .int .i64 r0, .int .i64 r1, .slice B2 m2 j2, .slice B3 m3 j3] 141)).alloc (.cells #[.slice none 0 0, .slice none 0 0] 139)) := ((Below.refl _ _).alloc (Nat.le_refl _) _).alloc (by omega) _
  have kJ := heap_alloc_new (w.alloc (.cells #[.int .i64 s0, .int .i64 s1, .slice A2 n2 k2, .slice A3 n3 k3, .int .i64 r0, .int .i64 r1, .slice B2 m2 j2, .slice B3 m3 j3] 141)) (.cells #[.slice none 0 0, .slice none 0 0] 139)
  rw [hz1] at kJ
  have kO := (Below.heap_alloc (w.alloc (.cells #[.int .i64 s0, .int .i64 s1, .slice A2 n2 k2, .slice A3 n3 k3, .int .i64 r0, .int .i64 r1, .slice B2 m2 j2, .slice B3 m3 j3] 141)) (.cells #[.slice none 0 0, .slice none 0 0] 139) w.heap.size (by omega)).trans (heap_alloc_new w (.cells #[.int .i64 s0, .int .i64 s1, .slice A2 n2 k2, .slice A3 n3 k3, .int .i64 r0, .int .i64 r1, .slice B2 m2 j2, .slice B3 m3 j3] 141))
  have hD0 := hD.below hb0 hK
  have hKW : K ≤ ((w.alloc (.cells #[.int .i64 s0, .int .i64 s1, .slice A2 n2 k2, .slice A3 n3 k3, .int .i64 r0, .int .i64 r1, .slice B2 m2 j2, .slice B3 m3 j3] 141)).alloc (.cells #[.slice none 0 0, .slice none 0 0] 139)).drew.heap.size := by show K ≤ ((w.alloc (.cells #[.int .i64 s0, .int .i64 s1, .slice A2 n2 k2, .slice A3 n3 k3, .int .i64 r0, .int .i64 r1, .slice B2 m2 j2, .slice B3 m3 j3] 141)).alloc (.cells #[.slice none 0 0, .slice none 0 0] 139)).heap.size; omega
  have hD1 : ObsD ((w.alloc (.cells #[.int .i64 s0, .int .i64 s1, .slice A2 n2 k2, .slice A3 n3 k3, .int .i64 r0, .int .i64 r1, .slice B2 m2 j2, .slice B3 m3 j3] 141)).alloc (.cells #[.slice none 0 0, .slice none 0 0] 139)).drew K s0 s1 A2 n2 k2 A3 n3 k3 r0 r1 B2 m2 j2 B3 m3 j3 lt et lp ep := hD0.below (Below.refl _ _).drew hKW
  have q := hide (leave_calls s0 s1 A2 n2 k2 A3 n3 k3 r0 r1 B2 m2 j2 B3 m3 j3 lt et lp ep n p K ((w.alloc (.cells #[.int .i64 s0, .int .i64 s1, .slice A2 n2 k2, .slice A3 n3 k3, .int .i64 r0, .int .i64 r1, .slice B2 m2 j2, .slice B3 m3 j3] 141)).alloc (.cells #[.slice none 0 0, .slice none 0 0] 139)).drew hD1 hKW hn hp hn0 hn1 hp0 hp1)
  have q2 := hide fun (W : World) (hW : Below ((w.alloc (.cells #[.int .i64 s0, .int .i64 s1, .slice A2 n2 k2, .slice A3 n3 k3, .int .i64 r0, .int .i64 r1, .slice B2 m2 j2, .slice B3 m3 j3] 141)).alloc (.cells #[.slice none 0 0, .slice none 0 0] 139)).drew.heap.size ((w.alloc (.cells #[.int .i64 s0, .int .i64 s1, .slice A2 n2 k2, .slice A3 n3 k3, .int .i64 r0, .int .i64 r1, .slice B2 m2 j2, .slice B3 m3 j3] 141)).alloc (.cells #[.slice none 0 0, .slice none 0 0] 139)).drew W) =>
    stay_calls s0 s1 A2 n2 k2 A3 n3 k3 r0 r1 B2 m2 j2 B3 m3 j3 lt et lp ep n p K W (hD1.below hW hKW) (Nat.le_trans hKW hW.size) hn hp hn0 hn1 hp0 hp1
  have c0 := (cell_of_row _ _ 0 _ _ (0, 0) kO).trans rfl
  have c1 := (cell_of_row _ _ 1 _ _ (0, 0) kO).trans rfl
  have c2 := (cell_of_row _ _ 2 _ _ (0, 0) kO).trans rfl
  have c3 := (cell_of_row _ _ 3 _ _ (0, 0) kO).trans rfl
  have c4 := (cell_of_row _ _ 4 _ _ (0, 0) kO).trans rfl
  have c5 := (cell_of_row _ _ 5 _ _ (0, 0) kO).trans rfl
  have c6 := (cell_of_row _ _ 6 _ _ (0, 0) kO).trans rfl
  have c7 := (cell_of_row _ _ 7 _ _ (0, 0) kO).trans rfl
  have j0 := (cell_of_row _ _ 0 _ _ (0, 0) kJ).trans rfl
  have j1 := (cell_of_row _ _ 1 _ _ (0, 0) kJ).trans rfl
  have hbt : w.heap.size < ((w.alloc (.cells #[.int .i64 s0, .int .i64 s1, .slice A2 n2 k2, .slice A3 n3 k3, .int .i64 r0, .int .i64 r1, .slice B2 m2 j2, .slice B3 m3 j3] 141)).alloc (.cells #[.slice none 0 0, .slice none 0 0] 139)).heap.size := by omega
  have hjt : w.heap.size + 1 < ((w.alloc (.cells #[.int .i64 s0, .int .i64 s1, .slice A2 n2 k2, .slice A3 n3 k3, .int .i64 r0, .int .i64 r1, .slice B2 m2 j2, .slice B3 m3 j3] 141)).alloc (.cells #[.slice none 0 0, .slice none 0 0] 139)).heap.size := by omega
  have hbd := hide hb0.drew
  replace kO := hide kO
  replace kJ := hide kJ
  clear hD hD0 hD1 hKW hn hp hb0 hz1 hz2
  go_enter Tryz.func106, Tryz.ntmps106
  go_upto_region 1 with fail
  generalize ((w.alloc (.cells #[.int .i64 s0, .int .i64 s1, .slice A2 n2 k2, .slice A3 n3 k3, .int .i64 r0, .int .i64 r1, .slice B2 m2 j2, .slice B3 m3 j3] 141)).alloc (.cells #[.slice none 0 0, .slice none 0 0] 139)) = W1 at *
  go_region_held3 (fun w' => w'.cell? ⟨w.heap.size, 0, none⟩ = some (.int .i64 s0) ∧ w'.cell? ⟨w.heap.size, 1, none⟩ = some (.int .i64 s1) ∧ w'.cell? ⟨w.heap.size, 2, none⟩ = some (.slice A2 n2 k2) ∧ w'.cell? ⟨w.heap.size, 3, none⟩ = some (.slice A3 n3 k3) ∧ w'.cell? ⟨w.heap.size, 4, none⟩ = some (.int .i64 r0) ∧ w'.cell? ⟨w.heap.size, 5, none⟩ = some (.int .i64 r1) ∧ w'.cell? ⟨w.heap.size, 6, none⟩ = some (.slice B2 m2 j2) ∧ w'.cell? ⟨w.heap.size, 7, none⟩ = some (.slice B3 m3 j3)) (first | exact ⟨c0, c1, c2, c3, c4, c5, c6, c7⟩ | exact ⟨d0, d1, d2, d3, d4, d5, d6, d7⟩ | exact ⟨e0, e1, e2, e3, e4, e5, e6, e7⟩ | exact ⟨f0, f1, f2, f3, f4, f5, f6, f7⟩ | go_keep)
    (first
      | (go_at_call 143; (with_reducible refine q.out.mono ?_); rintro e w5 ⟨bL, ML, rfl, hML, hcL, hb5⟩; have d0 := (hb5.cell (p := ⟨w.heap.size, 0, none⟩) hbt).trans c0; have d1 := (hb5.cell (p := ⟨w.heap.size, 1, none⟩) hbt).trans c1; have d2 := (hb5.cell (p := ⟨w.heap.size, 2, none⟩) hbt).trans c2; have d3 := (hb5.cell (p := ⟨w.heap.size, 3, none⟩) hbt).trans c3; have d4 := (hb5.cell (p := ⟨w.heap.size, 4, none⟩) hbt).trans c4; have d5 := (hb5.cell (p := ⟨w.heap.size, 5, none⟩) hbt).trans c5; have d6 := (hb5.cell (p := ⟨w.heap.size, 6, none⟩) hbt).trans c6; have d7 := (hb5.cell (p := ⟨w.heap.size, 7, none⟩) hbt).trans c7; have q3 := hide (q2.out w5 hb5); have hz5 := hb5.size; replace hb5 := hide hb5; replace hML := hide hML; replace hcL := hide hcL)
      | (go_at_call 144; (with_reducible refine q3.out.mono ?_); rintro e w6 ⟨bS, MS, rfl, hMS, hcS, hb6⟩; have hb6' := hb5.out.trans (hb6.mono hz5); have e0 := (hb6'.cell (p := ⟨w.heap.size, 0, none⟩) hbt).trans c0; have e1 := (hb6'.cell (p := ⟨w.heap.size, 1, none⟩) hbt).trans c1; have e2 := (hb6'.cell (p := ⟨w.heap.size, 2, none⟩) hbt).trans c2; have e3 := (hb6'.cell (p := ⟨w.heap.size, 3, none⟩) hbt).trans c3; have e4 := (hb6'.cell (p := ⟨w.heap.size, 4, none⟩) hbt).trans c4; have e5 := (hb6'.cell (p := ⟨w.heap.size, 5, none⟩) hbt).trans c5; have e6 := (hb6'.cell (p := ⟨w.heap.size, 6, none⟩) hbt).trans c6; have e7 := (hb6'.cell (p := ⟨w.heap.size, 7, none⟩) hbt).trans c7; have kJ6 := (hb6'.block _ hjt).trans kJ.out; have g0 : w6.cell? ⟨w.heap.size + 1, 0, none⟩ = some (.slice none 0 0) := (cell_of_row _ _ 0 _ _ (0, 0) kJ6).trans rfl; have g1 : w6.cell? ⟨w.heap.size + 1, 1, none⟩ = some (.slice none 0 0) := (cell_of_row _ _ 1 _ _ (0, 0) kJ6).trans rfl; have h0 : w6.frozen? ⟨w.heap.size + 1, 0, none⟩ = false := frozen_of_row _ _ 0 _ _ kJ6; have h1 : w6.frozen? ⟨w.heap.size + 1, 1, none⟩ = false := frozen_of_row _ _ 1 _ _ kJ6; have hs7 := (Sav.set w6 ⟨w.heap.size + 1, 0, none⟩ (.slice (some ⟨bL, 0, none⟩) n n)).trans (Sav.set (w6.setCell ⟨w.heap.size + 1, 0, none⟩ (.slice (some ⟨bL, 0, none⟩) n n)) ⟨w.heap.size + 1, 1, none⟩ (.slice (some ⟨bS, 0, none⟩) n n)); have hz6 : w.heap.size < w6.heap.size := Nat.lt_of_lt_of_le hbt hb6'.size; have hne : w.heap.size ≠ w.heap.size + 1 := Nat.ne_of_lt (Nat.lt_succ_self _); have f0 := hs7.cell e0 hz6 hne; have f1 := hs7.cell e1 hz6 hne; have f2 := hs7.cell e2 hz6 hne; have f3 := hs7.cell e3 hz6 hne; have f4 := hs7.cell e4 hz6 hne; have f5 := hs7.cell e5 hz6 hne; have f6 := hs7.cell e6 hz6 hne; have f7 := hs7.cell e7 hz6 hne; replace hMS := hide hMS; replace hcS := hide hcS; replace kJ6 := hide kJ6; replace hb6' := hide hb6'; replace hs7 := hide hs7; replace hb6 := hide hb6))
  all_goals (
    have hA5 : Hid (MatAt w6 (w.heap.size + 2) bL n p ML) := (hML.out.more (by show _ ≤ W1.heap.size; omega)).below hb6.out
    have hA6 : Hid (MatAt w6 (w.heap.size + 2) bS n p MS) := hMS.out.more (by have : W1.heap.size ≤ w5.heap.size := hz5; omega)
    have hJ : Hid (JudAt ((w6.setCell ⟨w.heap.size + 1, 0, none⟩ (.slice (some ⟨bL, 0, none⟩) n n)).setCell ⟨w.heap.size + 1, 1, none⟩ (.slice (some ⟨bS, 0, none⟩) n n)) w.heap.size bL bS n p (canL n p et lt ep lp) (notS n p et lt ep lp) ML MS) :=
      ⟨(hA5.out.sav hs7.out (by show w.heap.size + 1 < _; omega)).more (by omega), (hA6.out.sav hs7.out (by show w.heap.size + 1 < _; omega)).more (by omega), hcL.out, hcS.out⟩
    have hbF := hide ((hbd.out.trans (hb6'.out.mono (by show _ ≤ W1.heap.size; omega))).trans (hs7.out.below (B := w.heap.size) (by show _ ≤ w.heap.size + 1; omega) (by omega)))
    have i0 : (w6.setCell ⟨w.heap.size + 1, 0, none⟩ (.slice (some ⟨bL, 0, none⟩) n n)).cell? ⟨w.heap.size + 1, 0, none⟩ = some (.slice (some ⟨bL, 0, none⟩) n n) := World.cell?_setCell_same w6 _ _ g0
    have i1 : ((w6.setCell ⟨w.heap.size + 1, 0, none⟩ (.slice (some ⟨bL, 0, none⟩) n n)).setCell ⟨w.heap.size + 1, 1, none⟩ (.slice (some ⟨bS, 0, none⟩) n n)).cell? ⟨w.heap.size + 1, 1, none⟩ = some (.slice (some ⟨bS, 0, none⟩) n n) := World.cell?_setCell_same _ _ _ ((World.cell?_setCell_other w6 _ _ _ (by intro e; cases e)).trans g1)
    clear hA5 hA6
    go_wp2_with fail
    (try simp only [Exit.inBlock, Exit.then])
    refine bodyPost_ret (by simp [results, Tryz.results106, go_sem, i0, i1]; try rfl) rfl ?_
    exact ⟨bL, bS, ML, MS, rfl, hJ.out, hbF.out⟩)

/-- The verdict by two tests. -/
def vdB (y : Int) (l : List Int) (GL GS : Int → Bool) : Int := if y < 0 then 2 else if l.any GL = false then 1 else if l.any GS = false then 2 else 0
def inM (M : List (List Bool)) (y x : Int) : Bool := (getM M x.toNat y.toNat).getD false

set_option maxRecDepth 100000 in
set_option maxHeartbeats 800000 in
theorem ver1_calls (bj by' lo bL bS n p : Nat) (L N : Rel2) (ML MS : List (List Bool)) (x y : Nat) (w : World) (kj : w.heap[bj]? = some (.cells #[.slice (some ⟨bL, 0, none⟩) n n, .slice (some ⟨bS, 0, none⟩) n n] 139 (0, 0))) (ky : w.heap[by']? = some (.cells #[.int .i64 (y : Int)] 2 (0, 0)))
    (h : JudAt w lo bL bS n p L N ML MS) (hx : x < n) (hy : y < p) :
    Calls Tryz.prog 145 #[.int .i64 (x : Int), .pointer (some ⟨bj, 0, none⟩), .pointer (some ⟨by', 0, none⟩)] w (Says (inM ML (y : Int) (x : Int)) w) := by
  have c0 : w.cell? ⟨bj, 0, none⟩ = some (.slice (some ⟨bL, 0, none⟩) n n) := (cell_of_row _ _ 0 _ _ (0, 0) kj).trans rfl
  have c1 : w.cell? ⟨by', 0, none⟩ = some (.int .i64 (y : Int)) := (cell_of_row _ _ 0 _ _ (0, 0) ky).trans rfl
  obtain ⟨b5, o5, c5, hg, -, -, r1, r2, -, -⟩ := h.ml.get hx hy
  have hr : Hid (inM ML (y : Int) (x : Int) = c5) := by
    show _ = _
    unfold inM
    rw [Int.toNat_natCast, Int.toNat_natCast, hg, Option.getD_some]
  have hI0 : (0 : Int) ≤ (x : Int) := by omega
  have hI1 : (x : Int) < (n : Int) := by omega
  have hI2 : (0 : Int) ≤ (y : Int) := by omega
  have hI3 : (y : Int) < (p : Int) := by omega
  clear kj ky h hg
  go_enter Tryz.func145, Tryz.ntmps145
  go_upto_region 1 with fail
  go_quiet (fail)
  go_wp2_with fail
  go_ret
  exact ⟨ret_b (by rw [hr.out]), (Below.refl w.heap.size w).os, (Below.refl w.heap.size w).tape, (Below.refl w.heap.size w).output, (Below.refl w.heap.size w).size, (Below.refl w.heap.size w).block⟩
set_option maxRecDepth 100000 in
set_option maxHeartbeats 800000 in
theorem ver2_calls (bj by' lo bL bS n p : Nat) (L N : Rel2) (ML MS : List (List Bool)) (x y : Nat) (w : World) (kj : w.heap[bj]? = some (.cells #[.slice (some ⟨bL, 0, none⟩) n n, .slice (some ⟨bS, 0, none⟩) n n] 139 (0, 0))) (ky : w.heap[by']? = some (.cells #[.int .i64 (y : Int)] 2 (0, 0)))
    (h : JudAt w lo bL bS n p L N ML MS) (hx : x < n) (hy : y < p) :
    Calls Tryz.prog 146 #[.int .i64 (x : Int), .pointer (some ⟨bj, 0, none⟩), .pointer (some ⟨by', 0, none⟩)] w (Says (inM MS (y : Int) (x : Int)) w) := by
  have c0 : w.cell? ⟨bj, 1, none⟩ = some (.slice (some ⟨bS, 0, none⟩) n n) := (cell_of_row _ _ 1 _ _ (0, 0) kj).trans rfl
  have c1 : w.cell? ⟨by', 0, none⟩ = some (.int .i64 (y : Int)) := (cell_of_row _ _ 0 _ _ (0, 0) ky).trans rfl
  obtain ⟨b5, o5, c5, hg, -, -, r1, r2, -, -⟩ := h.ms.get hx hy
  have hr : Hid (inM MS (y : Int) (x : Int) = c5) := by
    show _ = _
    unfold inM
    rw [Int.toNat_natCast, Int.toNat_natCast, hg, Option.getD_some]
  have hI0 : (0 : Int) ≤ (x : Int) := by omega
  have hI1 : (x : Int) < (n : Int) := by omega
  have hI2 : (0 : Int) ≤ (y : Int) := by omega
  have hI3 : (y : Int) < (p : Int) := by omega
  clear kj ky h hg
  go_enter Tryz.func146, Tryz.ntmps146
  go_upto_region 1 with fail
  go_quiet (fail)
  go_wp2_with fail
  go_ret
  exact ⟨ret_b (by rw [hr.out]), (Below.refl w.heap.size w).os, (Below.refl w.heap.size w).tape, (Below.refl w.heap.size w).output, (Below.refl w.heap.size w).size, (Below.refl w.heap.size w).block⟩
theorem JudAt.below {w w' : World} {lo bL bS n p : Nat} {L N : Rel2} {ML MS : List (List Bool)} (h : JudAt w lo bL bS n p L N ML MS) (hb : Below w.heap.size w w') : JudAt w' lo bL bS n p L N ML MS := ⟨h.ml.below hb, h.ms.below hb, h.cl, h.cs⟩

set_option maxRecDepth 100000 in
set_option maxHeartbeats 1600000 in
theorem verdict_calls (lo bL bS n p : Nat) (L N : Rel2) (ML MS : List (List Bool)) (A1 : Option Addr) (n1 c1 : Nat) (l : List Int) (y : Int) (w : World) (lo1 hi1 : Nat) (h : JudAt w lo bL bS n p L N ML MS) (t1 : SlI w lo1 hi1 A1 n1 l) (hn1 : n1 ≤ 1048576) (hl : ∀ x, x ∈ l → 0 ≤ x ∧ x < (n : Int)) (hy : y < (p : Int)) :
    Calls Tryz.prog 107 #[.agg #[.slice (some ⟨bL, 0, none⟩) n n, .slice (some ⟨bS, 0, none⟩) n n], .slice A1 n1 c1, .int .i64 y] w fun e w' => e = .returned (.int .i64 (vdB y l (inM ML y) (inM MS y))) ∧ Below w.heap.size w w' := by
  have z1 : (w.alloc (.cells #[.slice (some ⟨bL, 0, none⟩) n n, .slice (some ⟨bS, 0, none⟩) n n] 139)).heap.size = w.heap.size + 1 := World.size_alloc _ _
  have z2 : ((w.alloc (.cells #[.slice (some ⟨bL, 0, none⟩) n n, .slice (some ⟨bS, 0, none⟩) n n] 139)).alloc (.cells #[.int .i64 y] 2)).heap.size = w.heap.size + 1 + 1 := by rw [World.size_alloc, z1]
  have hb0 : Below w.heap.size w ((w.alloc (.cells #[.slice (some ⟨bL, 0, none⟩) n n, .slice (some ⟨bS, 0, none⟩) n n] 139)).alloc (.cells #[.int .i64 y] 2)) := ((Below.refl _ _).alloc (Nat.le_refl _) _).alloc (by omega) _
  have ky := heap_alloc_new (w.alloc (.cells #[.slice (some ⟨bL, 0, none⟩) n n, .slice (some ⟨bS, 0, none⟩) n n] 139)) (.cells #[.int .i64 y] 2)
  rw [z1] at ky
  have kj := (Below.heap_alloc (w.alloc (.cells #[.slice (some ⟨bL, 0, none⟩) n n, .slice (some ⟨bS, 0, none⟩) n n] 139)) (.cells #[.int .i64 y] 2) w.heap.size (by omega)).trans (heap_alloc_new w (.cells #[.slice (some ⟨bL, 0, none⟩) n n, .slice (some ⟨bS, 0, none⟩) n n] 139))
  have d0 : ((w.alloc (.cells #[.slice (some ⟨bL, 0, none⟩) n n, .slice (some ⟨bS, 0, none⟩) n n] 139)).alloc (.cells #[.int .i64 y] 2)).cell? ⟨w.heap.size + 1, 0, none⟩ = some (.int .i64 y) := (cell_of_row _ _ 0 _ _ (0, 0) ky).trans rfl
  have h0 := h.below hb0
  have t10 := t1.below hb0 (.inr (Nat.le_refl _))
  by_cases hy0 : y < 0
  · have hr : Hid (vdB y l (inM ML y) (inM MS y) = 2) := if_pos hy0
    replace hb0 := hide hb0
    clear h h0 t1 t10 kj ky
    go_enter Tryz.func107, Tryz.ntmps107
    go_wp2_with fail
    go_ret
    exact ⟨ret_i (by rw [hr.out]), hb0.out⟩
  · obtain ⟨y', rfl⟩ : ∃ y' : Nat, y = (y' : Int) := ⟨y.toNat, by omega⟩
    have q1 := hide (containsFuncM_calls 145 #[.pointer (some ⟨w.heap.size, 0, none⟩), .pointer (some ⟨w.heap.size + 1, 0, none⟩)] (inM ML (y' : Int)) A1 n1 c1 l _ lo1 hi1 t10 hn1 (fun v W => rfl) fun v hv W hW => by
      have hv' := hl v hv
      obtain ⟨x', rfl⟩ : ∃ x' : Nat, v = (x' : Int) := ⟨v.toNat, by omega⟩
      exact ver1_calls w.heap.size (w.heap.size + 1) lo bL bS n p L N ML MS x' y' W ((hW.block _ (by omega)).trans kj) ((hW.block _ (by omega)).trans ky) (h0.below hW) (by omega) (by omega))
    have q2 := hide fun (W0 : World) (hW0 : Below ((w.alloc (.cells #[.slice (some ⟨bL, 0, none⟩) n n, .slice (some ⟨bS, 0, none⟩) n n] 139)).alloc (.cells #[.int .i64 (y' : Int)] 2)).heap.size ((w.alloc (.cells #[.slice (some ⟨bL, 0, none⟩) n n, .slice (some ⟨bS, 0, none⟩) n n] 139)).alloc (.cells #[.int .i64 (y' : Int)] 2)) W0) =>
      containsFuncM_calls 146 #[.pointer (some ⟨w.heap.size, 0, none⟩), .pointer (some ⟨w.heap.size + 1, 0, none⟩)] (inM MS (y' : Int)) A1 n1 c1 l W0 lo1 hi1 (t10.below hW0 (.inr (Nat.le_refl _))) hn1 (fun v W => rfl) fun v hv W hW => by
        have hv' := hl v hv
        obtain ⟨x', rfl⟩ : ∃ x' : Nat, v = (x' : Int) := ⟨v.toNat, by omega⟩
        have hz0 := hW0.size
        exact ver2_calls w.heap.size (w.heap.size + 1) lo bL bS n p L N ML MS x' y' W ((hW.block _ (by omega)).trans ((hW0.block _ (by omega)).trans kj)) ((hW.block _ (by omega)).trans ((hW0.block _ (by omega)).trans ky)) ((h0.below hW0).below hW) (by omega) (by omega)
    have hzb := hb0.size
    replace hb0 := hide hb0
    have hr : Hid (vdB (y' : Int) l (inM ML (y' : Int)) (inM MS (y' : Int)) = if l.any (inM ML (y' : Int)) = false then 1 else if l.any (inM MS (y' : Int)) = false then 2 else 0) := if_neg hy0
    clear h h0 t1 t10 kj ky z1 z2
    cases hL : l.any (inM ML (y' : Int)) with
    | false =>
      rw [hL] at q1 hr
      replace q1 := hide q1.out
      replace hr : Hid (vdB (y' : Int) l (inM ML (y' : Int)) (inM MS (y' : Int)) = 1) := hr
      go_enter Tryz.func107, Tryz.ntmps107
      go_wp2_with (first | (go_at_call 60; (with_reducible refine q1.out.mono ?_); rintro e w5 ⟨rfl, hb5⟩; replace hb5 := hide hb5))
      go_ret
      exact ⟨ret_i (by rw [hr.out]), hb0.out.trans (hb5.out.mono hzb)⟩
    | true =>
      rw [hL] at q1 hr
      replace q1 := hide q1.out
      cases hS : l.any (inM MS (y' : Int)) with
      | false =>
        rw [hS] at q2 hr
        replace hr : Hid (vdB (y' : Int) l (inM ML (y' : Int)) (inM MS (y' : Int)) = 2) := hr
        replace q2 := hide q2.out
        go_enter Tryz.func107, Tryz.ntmps107
        go_wp2_with (first | (go_at_call 60; (with_reducible refine q1.out.mono ?_); rintro e w5 ⟨rfl, hb5⟩; have q3 := hide (q2.out w5 hb5); clear q1; replace hb5 := hide hb5) | (go_at_call 60; (with_reducible refine q3.out.mono ?_); rintro e w6 ⟨rfl, hb6⟩; replace hb6 := hide hb6))
        go_ret
        exact ⟨ret_i (by rw [hr.out]), (hb0.out.trans (hb5.out.mono hzb)).trans (hb6.out.mono (Nat.le_trans hzb hb5.out.size))⟩
      | true =>
        rw [hS] at q2 hr
        replace hr : Hid (vdB (y' : Int) l (inM ML (y' : Int)) (inM MS (y' : Int)) = 0) := hr
        replace q2 := hide q2.out
        go_enter Tryz.func107, Tryz.ntmps107
        go_wp2_with (first | (go_at_call 60; (with_reducible refine q1.out.mono ?_); rintro e w5 ⟨rfl, hb5⟩; have q3 := hide (q2.out w5 hb5); clear q1; replace hb5 := hide hb5) | (go_at_call 60; (with_reducible refine q3.out.mono ?_); rintro e w6 ⟨rfl, hb6⟩; replace hb6 := hide hb6))
        go_ret
        exact ⟨ret_i (by rw [hr.out]), (hb0.out.trans (hb5.out.mono hzb)).trans (hb6.out.mono (Nat.le_trans hzb hb5.out.size))⟩

end Go.Proofs.YtiaclddgllkgpaaGreatDoor
