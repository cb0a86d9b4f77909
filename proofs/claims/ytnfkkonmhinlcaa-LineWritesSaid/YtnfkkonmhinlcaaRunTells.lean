/- Statement RunnerTells of package runner. -/
import Derived.Test.YtnfkkonmhinlcaaRunWorks
namespace Go.Proofs.Ytnfkkonmhinlcaa
open Go.RowKit
set_option linter.unusedVariables false
set_option linter.unusedSimpArgs false
namespace Run
theorem ops_go {w w' : World} {S S' : Nat → Prop} {cs : List Value} {l : List O} (h : RSl 3 ROp w S cs l) (hk : Kept S w w') (hs : ∀ k, S k → S' k) : RSl 3 ROp w' S' cs l := (RSl.stable ROp.stable).go h hk hs
theorem ops_wf {w : World} {S : Nat → Prop} {v : Value} {l : List O} (h : RSl 3 ROp w S [v] l) : ∀ x ∈ l, wfO x := by
  obtain ⟨A, cap, _, _, _, hel⟩ := op_cells h
  intro x hx
  obtain ⟨i, hi, rfl⟩ := List.getElem_of_mem hx
  obtain ⟨ad, _, _, _, _, _, hw⟩ := hel i hi
  exact hw
theorem ahead_fr {w w' : World} {v : Value} {l : List O} (h : RSl 3 ROp w (Ahead w.heap.size) [v] l) (hf : Fr No w w') : RSl 3 ROp w' (Ahead w.heap.size) [v] l ∧ ∀ k, Ahead w.heap.size k → k < w'.heap.size :=
  ⟨ops_go h (Kept.of_no hf fun k hk => hk) fun k hk => hk, fun k hk => Nat.lt_of_lt_of_le hk hf.size⟩
theorem next_when {now : Int} {l : List O} (hck : chkR now l = 0) (u : Int) : (nextT u (endsR now l) (timesR now l)).2 = !decide (endsR now l ≤ u) ∧ (l = [] → u = now - 1 → nextT u (endsR now l) (timesR now l) = (now, true)) := by
  obtain ⟨u1, u2, u3⟩ := times_up hck
  refine ⟨?_, fun h1 h2 => ?_⟩
  · unfold nextT
    cases hf : (timesR now l).find? (fun x => x.2.1 != 2 && decide (u < x.1)) with
    | some x =>
      have hm := List.mem_of_find?_eq_some hf
      have hp := List.find?_some hf
      simp at hp
      have := u2 x hm
      simp; omega
    | none =>
      simp only
      by_cases h : u < endsR now l
      · rw [if_pos h]; simp; omega
      · rw [if_neg h]; simp; omega
  · subst h1
    unfold nextT
    have : endsR now [] = now := rfl
    rw [this]
    simp only [timesR, List.find?_nil]
    rw [if_pos (by omega)]
theorem due_wf {was now start : Int} {l : List O} (h : ∀ x ∈ l, wfO x) : ∀ x ∈ dueT was now (timesR start l), wfO x := by
  intro x hx
  unfold dueT at hx
  obtain ⟨y, hy, rfl⟩ := List.mem_map.1 hx
  have hy := (List.mem_filter.1 hy).1
  refine h _ ?_
  rw [← times_snd start l]
  exact List.mem_map.2 ⟨y, hy, rfl⟩
end Run
end Go.Proofs.Ytnfkkonmhinlcaa
