/- The reference's Read. -/
import Derived.Test.YtjelndobekcbmaaClockE
namespace Go.Proofs.Ytjelndobekcbmaa
open Go.RowKit
set_option linter.unusedVariables false
set_option linter.unusedSimpArgs false
namespace Clock
open Digit
theorem twoR_dg {s : Str} {a : Nat} {m : Int} (h : a + 1 < s.length) (h1 : s[a] = dg (m / 10)) (h2 : s[a + 1] = dg m) (h3 : 0 ≤ m ∧ m < 100) : twoR s a = m := by
  unfold twoR
  rw [dif_pos h, h1, h2, if_pos ⟨dg_isD _, dg_isD _⟩, dg_int, dg_int]
  omega
/-- What the reference reckons. -/
def rn (s : Str) : Int := (ahd (100 * twoR s 0 + twoR s 2) + bef (100 * twoR s 0 + twoR s 2) (twoR s 5 - 1).toNat + twoR s 8 - 1) * 86400 + twoR s 11 * 3600 + twoR s 14 * 60 + twoR s 17
theorem fmt_two {y m d a b c : Int} (hy : 0 ≤ y ∧ y < 10000) (hm : 0 ≤ m ∧ m < 100) (hd : 0 ≤ d ∧ d < 100) (ha : 0 ≤ a ∧ a < 100) (hb : 0 ≤ b ∧ b < 100) (hc : 0 ≤ c ∧ c < 100) :
    100 * twoR (fmt y m d a b c) 0 + twoR (fmt y m d a b c) 2 = y ∧ twoR (fmt y m d a b c) 5 = m ∧ twoR (fmt y m d a b c) 8 = d ∧ twoR (fmt y m d a b c) 11 = a ∧ twoR (fmt y m d a b c) 14 = b ∧ twoR (fmt y m d a b c) 17 = c := by
  have e1 : twoR (fmt y m d a b c) 0 = y / 100 := twoR_dg (by rw [fmt_len]; omega) (show dg (y / 1000) = dg (y / 100 / 10) by rw [show y / 100 / 10 = y / 1000 by omega]) rfl (by omega)
  have e2 : twoR (fmt y m d a b c) 2 = y % 100 := by
    have h : dg (y % 100 / 10) = dg (y / 10) := by apply UInt8.toNat_inj.1; rw [dg_nat, dg_nat]; omega
    have h' : dg (y % 100) = dg y := by apply UInt8.toNat_inj.1; rw [dg_nat, dg_nat]; omega
    exact twoR_dg (by rw [fmt_len]; omega) (show dg (y / 10) = _ by rw [h]) (show dg y = _ by rw [h']) (by omega)
  refine ⟨by rw [e1, e2]; omega, ?_, ?_, ?_, ?_, ?_⟩
  all_goals exact twoR_dg (by rw [fmt_len]; omega) rfl rfl (by assumption)
theorem good_rn {s : Str} {n : Int} (h : Good s n) : (2000 ≤ 100 * twoR s 0 + twoR s 2 ∧ 1 ≤ twoR s 5 ∧ twoR s 5 ≤ 12) ∧ rn s = n := by
  obtain ⟨y, k, d, a, b, c, hf, he, hy⟩ := h.fld
  obtain ⟨b1, b2, b3, b4, b5, b6⟩ := hf.bnd hy
  have hr := hf.rng
  obtain ⟨e1, e2, e3, e4, e5, e6⟩ := fmt_two b1 b2 b3 b4 b5 b6
  rw [← he] at e1 e2 e3 e4 e5 e6
  refine ⟨by omega, ?_⟩
  unfold rn
  rw [e1, e2, e3, e4, e5, e6, show ((k : Int) + 1 - 1).toNat = k by omega, hf.hn]
  unfold nOf
  omega
/-- The reference's answer. -/
theorem rread_no {s : Str} (h : ¬ (s.length = 19 ∧ 2000 ≤ 100 * twoR s 0 + twoR s 2 ∧ 1 ≤ twoR s 5 ∧ twoR s 5 ≤ 12)) : readS s = (0, 3) :=
  readS_no fun n hn => h ⟨hn.len, (good_rn hn).1⟩
theorem rread_ne {s : Str} (h : stampR (rn s) ≠ s) : readS s = (0, 3) :=
  readS_no fun n hn => h (by rw [(good_rn hn).2]; exact hn.e)
theorem rread_eq {s : Str} (hl : s.length = 19) (h : stampR (rn s) = s) : readS s = (rn s, 0) := by
  obtain ⟨h0, h1⟩ := stamp_in (n := rn s) (by rw [h]; intro e; rw [e] at hl; cases hl)
  exact readS_yes ⟨h0, h1, h⟩
end Clock
end Go.Proofs.Ytjelndobekcbmaa
