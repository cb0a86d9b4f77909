/- The examples of the statements of package digit. -/
import Derived.Test.YtiheeopbifkalaaDigitRUns
namespace Go.Proofs.Ytiheeopbifkalaa
open Go.RowKit
set_option linter.unusedVariables false
set_option linter.unusedSimpArgs false
namespace Digit
theorem w1 : readR [49, 48, 57, 57, 53, 49, 49, 54, 50, 55, 55, 55, 54] = (1099511627776, 0) := by decide
theorem w2 : readR [49, 48, 57, 57, 53, 49, 49, 54, 50, 55, 55, 55, 55] = (0, 3) := by decide
theorem w3 : readR [48, 49] = (0, 3) := by decide
theorem w4 : unsP [97, 92, 120, 48, 48, 92, 110] = ([97, 0, 10], 0) := by decide
theorem w5 : unsP [92, 120, 52, 49] = ([], 3) := by decide
theorem w6 : readHexR [102, 101] = (254, 0) := by decide
theorem w7 : putR (-70) = [45, 55, 48] := by simp [putR, dec]
theorem w8 : putR (-9223372036854775808) = [45, 57, 50, 50, 51, 51, 55, 50, 48, 51, 54, 56, 53, 52, 55, 55, 53, 56, 48, 56] := by simp [putR, dec]
theorem w9 : padR 7 3 = [48, 48, 55] := by simp [padR, dec]
theorem w10 : showR [97, 92, 127, 10] = [97, 92, 92, 92, 120, 55, 102, 92, 110] := by decide
set_option maxHeartbeats 1000000 in
theorem works_any (w : World) : Calls Try.prog 40 #[] w fun e w' => e = .returned (.bool true) ∧ Fr No w w' := by
  go_enter Try.func40, Try.ntmps40
  go_wp2_with fail
  refine (read_any [49, 48, 57, 57, 53, 49, 49, 54, 50, 55, 55, 55, 54] (by unfold maxLen; decide) _).mono ?_
  rintro e v1 ⟨rfl, rfl⟩
  rw [w1]
  go_wp2_with fail
  refine (read_any [49, 48, 57, 57, 53, 49, 49, 54, 50, 55, 55, 55, 55] (by unfold maxLen; decide) _).mono ?_
  rintro e v1 ⟨rfl, rfl⟩
  rw [w2]
  go_wp2_with fail
  refine (read_any [48, 49] (by unfold maxLen; decide) _).mono ?_
  rintro e v1 ⟨rfl, rfl⟩
  rw [w3]
  go_wp2_with fail
  refine (unshow_any [97, 92, 120, 48, 48, 92, 110] _ (by decide)).mono ?_
  rintro e v1 ⟨rfl, hf⟩
  rw [w4]
  have F1 := Lib.hid hf; clear hf
  go_wp2_with fail
  refine (unshow_any [92, 120, 52, 49] _ (by decide)).mono ?_
  rintro e v2 ⟨rfl, hf⟩
  rw [w5]
  have F2 := Lib.hid (F1.out.then_no hf); clear hf
  go_wp2_with fail
  refine (readhex_any [102, 101] (by unfold maxLen; decide) _).mono ?_
  rintro e v3 ⟨rfl, rfl⟩
  rw [w6]
  go_wp2_with fail
  refine (put_any (-70) (by decide) _).mono ?_
  rintro e v3 ⟨rfl, hf⟩
  rw [w7]
  have F3 := Lib.hid (F2.out.then_no hf); clear hf
  go_wp2_with fail
  refine (put_any (-9223372036854775808) (by decide) _).mono ?_
  rintro e v4 ⟨rfl, hf⟩
  rw [w8]
  have F4 := Lib.hid (F3.out.then_no hf); clear hf
  go_wp2_with fail
  refine (pad_any 7 3 (by decide) (by decide) _).mono ?_
  rintro e v5 ⟨rfl, hf⟩
  rw [w9]
  have F5 := Lib.hid (F4.out.then_no hf); clear hf
  go_wp2_with fail
  refine (show_any [97, 92, 127, 10] _ (by decide)).mono ?_
  rintro e v6 ⟨rfl, hf⟩
  rw [w10]
  have F6 := Lib.hid (F5.out.then_no hf); clear hf
  go_wp2
  go_ret
  exact ⟨rfl, F6.out⟩
end Digit
end Go.Proofs.Ytiheeopbifkalaa
