/- Statement RunnerNext of package runner. -/
import Derived.Test.YtnfkkonmhinlcaaRunTells
namespace Go.Proofs.Ytnfkkonmhinlcaa
open Go.RowKit
set_option linter.unusedVariables false
set_option linter.unusedSimpArgs false
namespace Run
theorem find_min {p : T → Bool} {a : Int} {l : List T} {x : T} (h : Up a l) (hf : l.find? p = some x) : ∀ y ∈ l, p y = true → x.1 ≤ y.1 := by
  induction l generalizing a with
  | nil => cases hf
  | cons z l ih =>
    obtain ⟨h1, h2⟩ := h.cons
    cases hz : p z
    · rw [List.find?_cons_of_neg (by simpa using hz)] at hf
      intro y hy hp
      rcases List.mem_cons.1 hy with rfl | hy
      · rw [hz] at hp; cases hp
      · exact ih h2 hf y hy hp
    · rw [List.find?_cons_of_pos hz] at hf
      injection hf with hf
      subst hf
      intro y hy hp
      rcases List.mem_cons.1 hy with rfl | hy
      · exact Int.le_refl _
      · exact h2.1 y hy
theorem upto_lt {a u v : Int} {l : List T} {x : T} (h : Up a l) (hx : x ∈ l) (hu : u < x.1) (hv : x.1 ≤ v) : (upto u l).length < (upto v l).length := by
  induction l generalizing a with
  | nil => cases hx
  | cons z l ih =>
    obtain ⟨h1, h2⟩ := h.cons
    by_cases hz : z.1 ≤ u
    · rw [upto_pos hz, upto_pos (by omega)]
      rcases List.mem_cons.1 hx with rfl | hx
      · omega
      · simpa using ih h2 hx
    · have : z.1 ≤ x.1 := by
        rcases List.mem_cons.1 hx with rfl | hx
        · exact Int.le_refl _
        · exact h2.1 x hx
      rw [upto_neg (by omega), upto_pos (by omega)]
      simp
structure Goes (l : List O) (start u a : Int) : Prop where
  lt : u < a
  le : a ≤ endsR start l
  ahead : dueT u (a - 1) (timesR start l) = []
  some : ∀ v, u ≤ v → v < a → dueT v a (timesR start l) ≠ [] ∨ endsR start l ≤ a
  more : (upto u (timesR start l)).length < (upto a (timesR start l)).length ∨ endsR start l ≤ a
theorem next_goes {start : Int} {l : List O} (hck : chkR start l = 0) {u : Int} (hu : ¬ endsR start l ≤ u) : ∃ a, nextT u (endsR start l) (timesR start l) = (a, true) ∧ Goes l start u a := by
  obtain ⟨u1, u2, u3⟩ := times_up hck
  unfold nextT
  cases hf : (timesR start l).find? (fun x => x.2.1 != 2 && decide (u < x.1)) with
  | some x =>
    have hm := List.mem_of_find?_eq_some hf
    have hp := List.find?_some hf
    simp at hp
    refine ⟨x.1, rfl, hp.2, u2 x hm, ?_, fun v h1 h2 => .inl ?_, .inl (upto_lt u1 hm hp.2 (Int.le_refl _))⟩
    · unfold dueT
      rw [List.filter_eq_nil_iff.2]
      · rfl
      · intro y hy hq
        simp at hq
        have := find_min u1 hf y hy (by simp; exact ⟨hq.1, hq.2.1⟩)
        omega
    · exact List.ne_nil_of_mem (List.mem_map.2 ⟨x, List.mem_filter.2 ⟨hm, by simp; exact ⟨hp.1, h2⟩⟩, rfl⟩)
  | none =>
    simp only
    rw [if_pos (by omega)]
    refine ⟨_, rfl, by omega, Int.le_refl _, ?_, fun v _ _ => .inr (Int.le_refl _), .inr (Int.le_refl _)⟩
    unfold dueT
    rw [List.filter_eq_nil_iff.2]
    · rfl
    · intro y hy hq
      have := List.find?_eq_none.1 hf y hy
      simp at hq this
      have := this hq.1
      omega
theorem next_over {start : Int} {l : List O} (hck : chkR start l = 0) {u : Int} (hu : endsR start l ≤ u) : nextT u (endsR start l) (timesR start l) = (0, false) := by
  obtain ⟨u1, u2, u3⟩ := times_up hck
  unfold nextT
  rw [List.find?_eq_none.2 (fun x hx => by have := u2 x hx; simp; omega)]
  simp only
  rw [if_neg (by omega)]
theorem upto_max {start u : Int} {l : List O} : (upto u (timesR start l)).length ≤ l.length := by
  have : (upto u (timesR start l)).length ≤ (timesR start l).length := by unfold upto; exact (List.takeWhile_sublist _).length_le
  rwa [times_len] at this
end Run
end Go.Proofs.Ytnfkkonmhinlcaa
