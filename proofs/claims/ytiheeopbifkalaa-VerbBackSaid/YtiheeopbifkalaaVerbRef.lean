/- The reference of package verb: words, and what each takes. -/
import Derived.Test.YtiheeopbifkalaaVerbMade
namespace Go.Proofs.Ytiheeopbifkalaa
open Go.RowKit
set_option linter.unusedVariables false
set_option linter.unusedSimpArgs false
namespace Verb
def takesR (v : Int) : Int := if v = 1 then 2 else if v = 2 ∨ v = 3 ∨ v = 4 ∨ v = 7 ∨ v = 8 ∨ v = 10 ∨ v = 11 ∨ v = 12 then 1 else if v = 9 then 3 else 0
set_option maxRecDepth 100000 in
set_option maxHeartbeats 1000000 in
theorem takes_any (v : Int) (w : World) : Calls Try.prog 62 #[.int .i64 v] w fun e w' => e = .returned (.int .i64 (takesR v)) ∧ w = w' := by
  by_cases h1 : v = 1
  · subst h1
    go_enter Try.func62, Try.ntmps62
    go_wp2
    go_ret
    exact ⟨rfl, rfl⟩
  by_cases h2 : v = 2 ∨ v = 3 ∨ v = 4 ∨ v = 7 ∨ v = 8 ∨ v = 10 ∨ v = 11 ∨ v = 12
  · rcases h2 with rfl | rfl | rfl | rfl | rfl | rfl | rfl | rfl
    all_goals
      go_enter Try.func62, Try.ntmps62
      go_wp2
      go_ret
      exact ⟨rfl, rfl⟩
  by_cases h9 : v = 9
  · subst h9
    go_enter Try.func62, Try.ntmps62
    go_wp2
    go_ret
    exact ⟨rfl, rfl⟩
  have HR := Lib.hid (show takesR v = 0 by unfold takesR; rw [if_neg h1, if_neg h2, if_neg h9])
  simp only [not_or] at h2
  obtain ⟨a2, a3, a4, a7, a8, a10, a11, a12⟩ := h2
  have e1 := beq_eq_false_iff_ne.2 h1
  have e2 := beq_eq_false_iff_ne.2 a2
  have e3 := beq_eq_false_iff_ne.2 a3
  have e4 := beq_eq_false_iff_ne.2 a4
  have e7 := beq_eq_false_iff_ne.2 a7
  have e8 := beq_eq_false_iff_ne.2 a8
  have e10 := beq_eq_false_iff_ne.2 a10
  have e11 := beq_eq_false_iff_ne.2 a11
  have e12 := beq_eq_false_iff_ne.2 a12
  have e9 := beq_eq_false_iff_ne.2 h9
  clear h1 a2 a3 a4 a7 a8 a10 a11 a12 h9
  go_enter Try.func62, Try.ntmps62
  go_wp2
  go_ret
  rw [HR.out]
  exact ⟨rfl, rfl⟩
/-- The words of verbs, from 1 on. -/
def wordsL : List Str := [] :: verbs.map (·.2.1)
set_option maxRecDepth 100000 in
set_option maxHeartbeats 1000000 in
theorem words_any (w : World) : Calls Try.prog 30 #[] w fun e w' => e = .returned (.slice (some ⟨w.heap.size, 0, none⟩) 17 17) ∧ w' = w.alloc (.cells (wordsL.map Word.encS).toArray 9) := by
  go_enter Try.func30, Try.ntmps30
  go_wp2
  go_ret
  exact ⟨rfl, rfl⟩
end Verb
end Go.Proofs.Ytiheeopbifkalaa
