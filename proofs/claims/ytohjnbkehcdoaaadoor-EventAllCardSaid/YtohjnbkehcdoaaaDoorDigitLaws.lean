/- The statements of package digit. -/
import Derived.Test.YtohjnbkehcdoaaaDoorDigitWorks
namespace Go.Proofs.YtohjnbkehcdoaaaDoor
open Go.RowKit
set_option linter.unusedVariables false
set_option linter.unusedSimpArgs false
namespace Digit
theorem wf64 {n : Int} (h : (Lit.int .i64 n).wf = true) : -9223372036854775808 ≤ n ∧ n ≤ 9223372036854775807 := by
  have e1 : IntKind.i64.min = -9223372036854775808 := rfl
  have e2 : IntKind.i64.max = 9223372036854775807 := rfl
  simpa [Lit.wf, e1, e2] using h
theorem wf8 {n : Int} (h : (Lit.int .u8 n).wf = true) : 0 ≤ n ∧ n ≤ 255 := by
  have e1 : IntKind.u8.min = 0 := rfl
  have e2 : IntKind.u8.max = 255 := rfl
  simpa [Lit.wf, e1, e2] using h
theorem readR_put (n : Int) : readR (putR n) = if 0 ≤ n ∧ n ≤ 1099511627776 then (n, 0) else (0, 3) := by
  by_cases h : 0 ≤ n ∧ n ≤ 1099511627776
  · have hp : putR n = dec n.natAbs := by unfold putR; rw [if_neg (by omega)]
    rw [if_pos h, hp, readR_yes (dec_rok (by omega)), dec_val]
    rw [show ((n.natAbs : Nat) : Int) = n by omega]
  · rw [if_neg h]
    refine readR_no fun hr => ?_
    by_cases hn : n < 0
    · have hp : putR n = 45 :: dec n.natAbs := by unfold putR; rw [if_pos hn]
      rw [hp] at hr
      have := hr.2.2.2.1 45 (by simp)
      exact absurd this (by decide)
    · have hp : putR n = dec n.natAbs := by unfold putR; rw [if_neg hn]
      have := hr.2.2.2.2
      rw [hp, dec_val] at this
      omega
theorem readR_back {s : Str} {a : Int} (h : readR s = (a, 0)) : putR a = s ∧ 0 ≤ a ∧ a ≤ 1099511627776 := by
  by_cases hr : rok s
  · rw [readR_yes hr] at h
    injection h with h _
    subst h
    have := hr.2.2.2.2
    refine ⟨?_, by omega, by omega⟩
    unfold putR
    rw [if_neg (by omega)]
    exact rok_dec hr
  · rw [readR_no hr] at h
    injection h with _ h
    cases h
theorem readR_code (s : Str) : (readR s).2 = 0 ∨ (readR s).2 = 3 := by
  by_cases hr : rok s
  · rw [readR_yes hr]; exact .inl rfl
  · rw [readR_no hr]; exact .inr rfl
theorem readHexR_code (s : Str) : (readHexR s).2 = 0 ∨ (readHexR s).2 = 3 := (readHexR_lt s).2.elim (fun h => .inl h.1) .inr
theorem sign_seen (c : UInt8) : ∀ d ∈ signR c, 32 ≤ d.toNat ∧ d.toNat ≤ 126 := by
  by_cases h92 : c = 92
  · subst h92; decide
  by_cases h10 : c = 10
  · subst h10; decide
  by_cases h13 : c = 13
  · subst h13; decide
  by_cases h9 : c = 9
  · subst h9; decide
  have hs : signR c = if c.toNat < 32 ∨ 126 < c.toNat then 92 :: 120 :: hexR c.toNat else [c] := by unfold signR; rw [if_neg h92, if_neg h10, if_neg h13, if_neg h9]
  by_cases g : c.toNat < 32 ∨ 126 < c.toNat
  · rw [if_pos g] at hs
    rw [hs]
    have hh : ∀ k : Fin 16, 32 ≤ (hx k).toNat ∧ (hx k).toNat ≤ 126 := by decide
    have hc := c.toNat_lt
    intro d hd
    simp only [List.mem_cons, hexR, List.not_mem_nil, or_false] at hd
    rcases hd with rfl | rfl | rfl | rfl
    · decide
    · decide
    · exact hh ⟨c.toNat / 16, by omega⟩
    · exact hh ⟨c.toNat % 16, by omega⟩
  · rw [if_neg g] at hs
    rw [hs]
    intro d hd
    rw [List.mem_singleton.1 hd]
    omega
theorem show_seen (s : Str) : ∀ d ∈ showR s, 32 ≤ d.toNat ∧ d.toNat ≤ 126 := by
  intro d hd
  obtain ⟨c, _, hc⟩ := List.mem_flatMap.1 hd
  exact sign_seen c d hc
end Digit
end Go.Proofs.YtohjnbkehcdoaaaDoor
