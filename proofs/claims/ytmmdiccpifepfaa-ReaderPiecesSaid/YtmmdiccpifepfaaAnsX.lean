/- Answer: the example. -/
import Derived.Test.YtmmdiccpifepfaaAnsR
import Derived.Test.YtmmdiccpifepfaaAnsS
namespace Go.Proofs.Ytmmdiccpifepfaa
open Go.RowKit
set_option linter.unusedVariables false
set_option linter.unusedSimpArgs false
namespace Ans
open Digit Sls
theorem p210 : putR 210 = [50, 49, 48] := by
  show dec 210 = _
  rw [dec_step, if_neg (by decide), dec_step, if_neg (by decide), dec_step, if_pos (by decide)]; rfl
theorem p211 : putR 211 = [50, 49, 49] := by
  show dec 211 = _
  rw [dec_step, if_neg (by decide), dec_step, if_neg (by decide), dec_step, if_pos (by decide)]; rfl
theorem p220 : putR 220 = [50, 50, 48] := by
  show dec 220 = _
  rw [dec_step, if_neg (by decide), dec_step, if_neg (by decide), dec_step, if_pos (by decide)]; rfl
def wL : List Str := [[119, 101, 98, 49, 32, 117, 112], [97, 0]]
def wK : Str := [50, 49, 48, 45, 119, 101, 98, 49, 32, 117, 112, 13, 10, 50, 49, 48, 32, 97, 92, 120, 48, 48, 13, 10]
theorem w_put : putB 210 wL = wK := by
  have s1 : showR [119, 101, 98, 49, 32, 117, 112] = [119, 101, 98, 49, 32, 117, 112] := by decide
  have s2 : showR [97, 0] = [97, 92, 120, 48, 48] := by decide
  simp only [putB, wL, row, p210, s1, s2]
  rfl
theorem w_putA : putA (210, wL) = (wK, 0) := by
  unfold putA
  rw [if_neg (by decide), if_neg (by decide)]
  have : filled wL = wL := rfl
  rw [this, w_put]
theorem w_read : readA (wK ++ [120]) = ((210, wL), 24, 0) := by
  have h := read_back (n := 210) (by omega) [120] wL (wK ++ [120]).length.succ [] 0 [] (by decide) (by decide) (.inl rfl) (by decide)
  rw [w_put] at h
  exact h
theorem w_cut : readA [50, 49, 48, 45, 97, 13, 10] = ((0, []), 0, 13) := by
  have h := read_cut (n := 210) (by omega) [[97], [98]] 8 [] 0 [] 7 (.inl rfl) (by decide) (by
    have s1 : showR [97] = [97] := by decide
    have s2 : showR [98] = [98] := by decide
    simp only [putB, row, p210, s1, s2]
    decide)
  have e : (putB 210 [[97], [98]]).take 7 = [50, 49, 48, 45, 97, 13, 10] := by
    have s1 : showR [97] = [97] := by decide
    have s2 : showR [98] = [98] := by decide
    simp only [putB, row, p210, s1, s2]
    rfl
  rw [e] at h
  exact h
theorem w_form : readA [50, 49, 48, 45, 97, 13, 10, 50, 49, 49, 32, 98, 13, 10] = ((0, []), 0, 3) := by
  have s1 : showR [97] = [97] := by decide
  have s2 : showR [98] = [98] := by decide
  obtain ⟨p1, p2, p3, p4, p5⟩ := lin_parts (n := 210) (by omega) 45 [97]
  obtain ⟨q1, q2, q3, q4, q5⟩ := lin_parts (n := 211) (by omega) 32 [98]
  have e1 : lin 210 45 [97] = [50, 49, 48, 45, 97] := by unfold lin; rw [p210, s1]; rfl
  have e2 : lin 211 32 [98] = [50, 49, 49, 32, 98] := by unfold lin; rw [p211, s2]; rfl
  rw [e1] at p1 p2 p3 p4
  rw [e2] at q1 q2 q3 q4
  unfold readA
  show readF 15 _ _ _ _ = _
  unfold readF
  rw [show lineR (([50, 49, 48, 45, 97, 13, 10, 50, 49, 49, 32, 98, 13, 10] : Str).drop 0) = some [50, 49, 48, 45, 97] from by decide]
  simp only
  rw [p2, p3, p4, if_neg (fun h => h.elim p1 (get_ite (.inr rfl))), if_neg (by rintro (h | h | h | h); exact h rfl; exact h rfl; (simp only at h; omega); (simp only at h; omega)), if_neg (by decide), if_neg (by decide)]
  show readF 14 _ 7 _ _ = _
  unfold readF
  rw [show lineR (([50, 49, 48, 45, 97, 13, 10, 50, 49, 49, 32, 98, 13, 10] : Str).drop 7) = some [50, 49, 49, 32, 98] from by decide]
  simp only
  rw [q2, q3, q4, if_neg (fun h => h.elim q1 (get_ite (.inl rfl))), if_pos (.inr (.inr (.inr ⟨by decide, by decide⟩)))]
theorem w_220 : putA (220, []) = ([50, 50, 48, 32, 13, 10], 0) := by
  unfold putA
  rw [if_neg (by decide), if_neg (by decide)]
  simp only [filled, if_true, putB, row, p220]
  rfl
theorem w_99 : putA (99, []) = ([], 2) := by
  unfold putA
  rw [if_pos (by decide)]
theorem wL_ok : Okr wL := ⟨by decide, by decide⟩
theorem wL_sl (w : World) : RSl 1 RStr (w.alloc (.cells #[.string ⟨#[119, 101, 98, 49, 32, 117, 112]⟩, .string ⟨#[97, 0]⟩] 9)) (New w (w.alloc (.cells #[.string ⟨#[119, 101, 98, 49, 32, 117, 112]⟩, .string ⟨#[97, 0]⟩] 9))) [.slice (some ⟨w.heap.size, 0, none⟩) 2 2] wL :=
  grl_sl (Grow.lit w 9 1 encL wL rfl (by unfold maxLen; decide)) (fun x hx => by
    have := wL_ok.2 x hx
    unfold maxLen; omega)
end Ans
end Go.Proofs.Ytmmdiccpifepfaa
