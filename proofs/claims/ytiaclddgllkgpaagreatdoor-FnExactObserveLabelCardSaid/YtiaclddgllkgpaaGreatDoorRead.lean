/-
  The program's reading of one number. Conditions: sizes.
-/
import Derived.Test.YtiaclddgllkgpaaGreatDoorEnv
namespace Go.Proofs.YtiaclddgllkgpaaGreatDoor
open Go.ChangeShapes Go.WideShapes Go.ChangeAt Go.RowKit
set_option linter.unusedVariables false

set_option maxRecDepth 100000 in
set_option maxHeartbeats 800000 in
theorem readDecimal_calls (s : ByteArray) (hs : s.size ≤ 1048576) (w : World) (he : Env w) :
    Calls Tryz.prog 235 #[.string s] w fun e w' => e = .returned (numR (numS s.data.toList)) ∧ Below w.heap.size w w' := by
  rw [← numP_eq]
  have q1 : Calls Tryz.prog 244 #[.string s, .string ⟨#[45]⟩] w fun e w' => e = .returned (.string ⟨(Lib.trimPrefix s.data.toList [45]).toArray⟩) ∧ w' = w := Tryz.strings_TrimPrefix s ⟨#[45]⟩ w
  have hsz := bytes_size (Lib.trimPrefix s.data.toList [45])
  generalize (⟨(Lib.trimPrefix s.data.toList [45]).toArray⟩ : ByteArray) = t at *
  replace q1 := hide q1
  by_cases hl : 18 < (Lib.trimPrefix s.data.toList [45]).length
  · have hv := hide (numP_long hl)
    have hlt : (18 : Int) < (t.size : Int) := by omega
    clear hl hsz he
    go_enter Tryz.func235, Tryz.ntmps235
    go_wp2_with fail
    refine q1.out.mono ?_
    rintro e w1 ⟨rfl, rfl⟩
    go_wp2_with fail
    go_ret2
    exact ⟨by rw [hv.out]; rfl, Below.refl _ _⟩
  · have hlt : ¬ (18 : Int) < (t.size : Int) := by omega
    clear hsz
    rcases parse_short _ hl with ⟨v, hp, hb0, hb1⟩ | hp
    · have q2 := hide (((Tryz.strconv_ParseInt_10_at64_ok s (by omega) v hp w).mono fun e w' ⟨a, b⟩ => ⟨a, b.elim (fun h => h ▸ Below.refl _ _) (fun ⟨t, h⟩ => h ▸ Lib.bytesWorld_below _ _ _)⟩ :
        Calls Tryz.prog 245 #[.string s, .int .i64 10, .int .i64 64] w fun e w' => e = .returned (.tuple #[.int .i64 v, .nilIface]) ∧ Below w.heap.size w w'))
      have q3 := hide (fun W (hW : Below w.heap.size w W) => decimal_calls v hb0 hb1 W (he.below hW (Nat.le_refl _)))
      have hv := hide (numP_ok hl hp)
      clear hl hp he hb0 hb1
      by_cases hi : Lib.itoa v = s.data.toList
      · have hq : (⟨(Lib.itoa v).toArray⟩ : ByteArray) = s := by rw [hi, bytes_eta]
        have hv2 : Hid (numP s.data.toList = some v) := by show _ = _; rw [hv.out, if_pos hi]
        rw [hq] at q3
        clear hv hi hq
        go_enter Tryz.func235, Tryz.ntmps235
        go_wp2_with fail
        refine q1.out.mono ?_
        rintro e w1 ⟨rfl, rfl⟩
        go_wp2_with fail
        refine q2.out.mono ?_
        rintro e w2 ⟨rfl, hb2⟩
        go_wp2_with fail
        refine (q3.out _ hb2).mono ?_
        rintro e w3 ⟨rfl, hb3⟩
        go_wp2_with fail
        go_ret2
        exact ⟨by rw [hv2.out]; rfl, hb2.trans (hb3.mono hb2.size)⟩
      · have hq : (⟨(Lib.itoa v).toArray⟩ : ByteArray) ≠ s := by
          intro h
          apply hi
          rw [← h]
        have hv2 : Hid (numP s.data.toList = none) := by show _ = _; rw [hv.out, if_neg hi]
        have hne := str_neq hq
        clear hv hi hq
        generalize (⟨(Lib.itoa v).toArray⟩ : ByteArray) = u at *
        go_enter Tryz.func235, Tryz.ntmps235
        go_wp2_with fail
        refine q1.out.mono ?_
        rintro e w1 ⟨rfl, rfl⟩
        go_wp2_with fail
        refine q2.out.mono ?_
        rintro e w2 ⟨rfl, hb2⟩
        go_wp2_with fail
        refine (q3.out _ hb2).mono ?_
        rintro e w3 ⟨rfl, hb3⟩
        go_wp2_with fail
        go_ret2
        exact ⟨by rw [hv2.out]; rfl, hb2.trans (hb3.mono hb2.size)⟩
    · obtain ⟨tp, p, hvar⟩ := he.good.syn
      have q2 := hide (((Tryz.strconv_ParseInt_10_at64_syntax_var s (by omega) hp tp p w hvar).mono fun e w' ⟨N, a, _, _, b⟩ => ⟨N, a, b⟩ :
        Calls Tryz.prog 245 #[.string s, .int .i64 10, .int .i64 64] w fun e w' => ∃ N, e = .returned (.tuple #[.int .i64 0, .iface 277 (.pointer (some ⟨N, 0, none⟩))]) ∧ Below w.heap.size w w'))
      have hv := hide (numP_syn hp)
      clear hl hp he hvar
      go_enter Tryz.func235, Tryz.ntmps235
      go_wp2_with fail
      refine q1.out.mono ?_
      rintro e w1 ⟨rfl, rfl⟩
      go_wp2_with fail
      refine q2.out.mono ?_
      rintro e w2 ⟨N, rfl, hb2⟩
      go_wp2_with fail
      go_ret2
      exact ⟨by rw [hv.out]; rfl, hb2⟩

end Go.Proofs.YtiaclddgllkgpaaGreatDoor
