/- Package digit: the reference's Read. -/
import Derived.Test.YtgfofigdejlbfaaDigitRead
namespace Go.Proofs.Ytgfofigdejlbfaa
open Go.RowKit
set_option linter.unusedVariables false
set_option linter.unusedSimpArgs false
namespace Digit
def rok (s : Str) : Prop := s ≠ [] ∧ s.length ≤ 13 ∧ ¬ (s.head? = some 48 ∧ 1 < s.length) ∧ (∀ c ∈ s, isD c) ∧ val s ≤ 1099511627776
theorem readR_yes {s : Str} (h : rok s) : readR s = (((val s : Nat) : Int), 0) := readR_good h.1 h.2.1 h.2.2.1 h.2.2.2.1 h.2.2.2.2
theorem readR_no {s : Str} (h : ¬ rok s) : readR s = (0, 3) := by
  unfold readR
  rw [if_pos]
  by_cases h1 : s = []
  · exact .inl h1
  by_cases h2 : 13 < s.length
  · exact .inr (.inl h2)
  by_cases h3 : s.head? = some 48 ∧ 1 < s.length
  · exact .inr (.inr (.inl h3))
  by_cases h4 : ∃ c ∈ s, ¬ isD c
  · exact .inr (.inr (.inr (.inl h4)))
  by_cases h5 : 1099511627776 < val s
  · exact .inr (.inr (.inr (.inr h5)))
  exact absurd ⟨h1, by omega, h3, fun c hc => Decidable.byContradiction fun hh => h4 ⟨c, hc, hh⟩, by omega⟩ h
theorem rok_dec {s : Str} (h : rok s) : dec (val s) = s := by
  obtain ⟨h1, h2, h3, h4, h5⟩ := h
  refine val_dec s h1 h4 ?_
  by_cases hh : s.head? = some 48
  · right
    have : s.length ≠ 0 := fun e => h1 (List.eq_nil_of_length_eq_zero e)
    have : ¬ 1 < s.length := fun e => h3 ⟨hh, e⟩
    omega
  · exact .inl hh
theorem dec_rok {n : Nat} (h : n ≤ 1099511627776) : rok (dec n) := by
  refine ⟨dec_ne n, dec_len 12 n (by omega), fun ⟨h1, h2⟩ => ?_, dec_digits n, by rw [dec_val]; exact h⟩
  rw [dec_head n h1, dec, if_pos (by omega)] at h2
  simp at h2
def rv (s : Str) : Int := s.foldl (fun n c => 10 * n + (c.toNat : Int) - 48) 0
theorem rv_snoc (s : Str) (c : UInt8) : rv (s ++ [c]) = 10 * rv s + (c.toNat : Int) - 48 := by simp [rv]
theorem rv_bound (s : Str) : -6 * ((10 ^ s.length : Nat) - 1 : Int) ≤ rv s ∧ rv s ≤ 24 * ((10 ^ s.length : Nat) - 1 : Int) := by
  induction s using snoc_ind with
  | h0 => simp [rv]
  | hs t c ih =>
    have hc : c.toNat < 256 := c.toNat_lt
    rw [rv_snoc, List.length_append, List.length_singleton, Nat.pow_succ]
    obtain ⟨M, hM⟩ : ∃ M, M = 10 ^ t.length := ⟨_, rfl⟩
    rw [← hM] at ih ⊢
    omega
theorem rv_val (s : Str) (h : ∀ c ∈ s, isD c) : rv s = ((val s : Nat) : Int) := by
  induction s using snoc_ind with
  | h0 => rfl
  | hs t c ih =>
    have hc := h c (by simp)
    unfold isD at hc
    rw [rv_snoc, val_snoc, ih fun d hd => h d (List.mem_append_left _ hd)]
    omega
theorem rv_eq {s : Str} : (if rv (s.take 14) < 0 ∨ 1099511627776 < rv (s.take 14) ∨ putR (rv (s.take 14)) ≠ s then (0, 3) else (rv (s.take 14), 0)) = readR s := by
  by_cases h : rok s
  · have h2 := h.2.1
    have e : rv (s.take 14) = ((val s : Nat) : Int) := by rw [List.take_of_length_le (by omega), rv_val s h.2.2.2.1]
    have hp : putR ((val s : Nat) : Int) = s := by unfold putR; rw [if_neg (by omega)]; exact rok_dec h
    have h5 := h.2.2.2.2
    rw [readR_yes h, e, hp, if_neg]
    rintro (h | h | h)
    · omega
    · omega
    · exact h rfl
  · rw [readR_no h]
    by_cases hc : rv (s.take 14) < 0 ∨ 1099511627776 < rv (s.take 14) ∨ putR (rv (s.take 14)) ≠ s
    · rw [if_pos hc]
    · obtain ⟨n, hn⟩ : ∃ n, n = rv (s.take 14) := ⟨_, rfl⟩
      rw [← hn] at hc
      have h1 : ¬ n < 0 := fun e => hc (.inl e)
      have h2 : ¬ 1099511627776 < n := fun e => hc (.inr (.inl e))
      have h3 : putR n = s := Decidable.byContradiction fun e => hc (.inr (.inr e))
      unfold putR at h3
      rw [if_neg h1] at h3
      exact absurd (h3 ▸ dec_rok (by omega)) h
end Digit
end Go.Proofs.Ytgfofigdejlbfaa
