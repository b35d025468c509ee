/- The walk of TagsLetters. -/
import Derived.Test.YtlcbfikmljmlpaaLaw26Known
import Derived.Test.YtlcbfikmljmlpaaTagsRFold
namespace Go.Proofs.Ytlcbfikmljmlpaa.tagsLetters
set_option linter.unusedVariables false
open Go.RowKit
set_option maxHeartbeats 1000000 in
set_option maxRecDepth 20000 in
theorem walk (s : ByteArray) (n : Int) (w : World) (hn : -9223372036854775808 ≤ n ∧ n < 9223372036854775808) :
    Calls Try.prog 3 #[.string s, .int .i64 n] w fun e w' => e = .returned (.bool true) ∧ Below w.heap.size w w' := by
  by_cases hs : s.size ≤ 300
  · have dz : decide (300 < (s.size : Int)) = false := decide_eq_false (by omega)
    have e1 := fun w => rcut_any s 1000 w (by omega)
    have e2 := fun w => rcut_any s n w (by omega)
    have e3 := fun w => letters_any s w (by omega)
    have e4 := fun w => cut_any s n w (by omega) (by omega)
    have hle := posL_le s n.toNat 0 (by omega)
    have e5 := fun w => letters_any (s.extract 0 (posL s n.toNat 0)) w (by simp; omega)
    have e6 := fun w => fold_any s w (by omega)
    have e7 := fun w => rfold_any s w (by omega)
    rw [show lenL s (1000 : Int).toNat 0 = lenL s s.size 0 from lenL_more s s.size _ 0 (by omega) (by show s.size ≤ 1000; omega)] at e1
    rw [show lenL (s.extract 0 (posL s n.toNat 0)) (s.extract 0 (posL s n.toNat 0)).size 0 = lenL s n.toNat 0 from lenL_pre s _ hle n.toNat _ 0 rfl (by omega) (by simp; omega)] at e5
    generalize s.extract 0 (posL s n.toNat 0) = cut at *
    generalize s.extract 0 (posL s (1000 : Int).toNat 0) = cutm at *
    generalize lenL s s.size 0 = K at *
    generalize lenL s n.toNat 0 = k at *
    generalize foldS s = F at *
    go_enter Try.func3, Try.ntmps3
    go_wp2_with fail
    refine (e1 _).mono ?_
    rintro e w1 ⟨rfl, rfl⟩
    go_wp2_with fail
    refine (e2 _).mono ?_
    rintro e w1 ⟨rfl, rfl⟩
    go_wp2_with fail
    refine (e3 _).mono ?_
    rintro e w1 ⟨rfl, hb1⟩
    go_wp2_with fail
    refine (e4 _).mono ?_
    rintro e w2 ⟨rfl, hb2⟩
    replace hb2 := hb1.trans (hb2.mono hb1.size)
    clear hb1
    go_wp2_with fail
    refine (e5 _).mono ?_
    rintro e w3 ⟨rfl, hb3⟩
    replace hb3 := hb2.trans (hb3.mono hb2.size)
    clear hb2
    go_wp2_with fail
    refine (e6 _).mono ?_
    rintro e w4 ⟨rfl, hb4⟩
    replace hb4 := hb3.trans (hb4.mono hb3.size)
    clear hb3
    go_wp2_with fail
    refine (e7 _).mono ?_
    rintro e w5 ⟨rfl, hb5⟩
    replace hb5 := hb4.trans (hb5.mono hb4.size)
    clear hb4
    go_wp2_with fail
    refine (known_any _).mono ?_
    rintro e w6 ⟨rfl, hb6⟩
    replace hb6 := hb5.trans (hb6.mono hb5.size)
    clear hb5
    go_wp2_with fail
    go_ret
    exact ⟨rfl, hb6⟩
  · have dz : decide (300 < (s.size : Int)) = true := decide_eq_true (by omega)
    go_enter Try.func3, Try.ntmps3
    go_wp2_with fail
    refine (known_any _).mono ?_
    rintro e w1 ⟨rfl, hb1⟩
    go_wp2_with fail
    go_ret
    exact ⟨rfl, hb1⟩
end Go.Proofs.Ytlcbfikmljmlpaa.tagsLetters
