/- Stamps sign by sign, and the tick of a stamp: plain. -/
import Derived.Test.YtjelndobekcbmaaClockN
namespace Go.Proofs.Ytjelndobekcbmaa
open Go.RowKit
set_option linter.unusedVariables false
set_option linter.unusedSimpArgs false
namespace Clock
open Digit
/-- The last digit of a number, as a sign. -/
def dg (n : Int) : UInt8 := UInt8.ofNat (48 + (n % 10).toNat)
theorem dg_nat (n : Int) : (dg n).toNat = 48 + (n % 10).toNat := by
  unfold dg
  rw [UInt8.toNat_ofNat']
  omega
theorem dg_int (n : Int) : ((dg n).toNat : Int) = 48 + n % 10 := by rw [dg_nat]; omega
theorem dg_isD (n : Int) : isD (dg n) := by unfold isD; rw [dg_nat]; omega
theorem dg_of {c : UInt8} (h : isD c) : dg ((c.toNat : Int) - 48) = c := by
  unfold isD at h
  apply UInt8.toNat_inj.1
  rw [dg_nat]
  omega
theorem dec_one {n : Nat} (h : n < 10) : dec n = [UInt8.ofNat (48 + n)] := by rw [dec_step, if_pos (by omega), Nat.mod_eq_of_lt h]; rfl
theorem dec_more {n : Nat} (h : 10 ≤ n) : dec n = dec (n / 10) ++ [UInt8.ofNat (48 + n % 10)] := by rw [dec_step, if_neg (by omega)]
theorem dg_dec (n : Nat) : UInt8.ofNat (48 + n % 10) = dg (n : Int) := by
  unfold dg
  rw [show ((n : Int) % 10).toNat = n % 10 by omega]
theorem dg_dec1 {n : Nat} (h : n < 10) : UInt8.ofNat (48 + n) = dg (n : Int) := by
  rw [← dg_dec, Nat.mod_eq_of_lt h]
theorem pad2 {n : Int} (h0 : 0 ≤ n) (h1 : n < 100) : padR n 2 = [dg (n / 10), dg n] := by
  obtain ⟨m, rfl⟩ : ∃ m : Nat, n = m := ⟨n.toNat, by omega⟩
  unfold padR
  rw [if_neg (by omega), show ((m : Int)).natAbs = m by omega]
  by_cases h : m < 10
  · rw [dec_one h, dg_dec1 h, show (m : Int) / 10 = 0 by omega]
    rfl
  · rw [dec_more (by omega), dec_one (show m / 10 < 10 by omega), dg_dec, dg_dec1 (show m / 10 < 10 by omega), show ((m / 10 : Nat) : Int) = (m : Int) / 10 by omega]
    rfl
theorem pad4 {n : Int} (h0 : 1000 ≤ n) (h1 : n < 10000) : padR n 2 = [dg (n / 1000), dg (n / 100), dg (n / 10), dg n] := by
  obtain ⟨m, rfl⟩ : ∃ m : Nat, n = m := ⟨n.toNat, by omega⟩
  rw [pad_put (by omega)]
  unfold putR
  rw [if_neg (by omega), show ((m : Int)).natAbs = m by omega, dec_more (by omega), dec_more (show 10 ≤ m / 10 by omega), dec_more (show 10 ≤ m / 10 / 10 by omega), dec_one (show m / 10 / 10 / 10 < 10 by omega)]
  rw [dg_dec, dg_dec, dg_dec, dg_dec1 (show m / 10 / 10 / 10 < 10 by omega), show ((m / 10 / 10 / 10 : Nat) : Int) = (m : Int) / 1000 by omega, show ((m / 10 / 10 : Nat) : Int) = (m : Int) / 100 by omega, show ((m / 10 : Nat) : Int) = (m : Int) / 10 by omega]
  rfl
def fmt (y m d a b c : Int) : Str := [dg (y / 1000), dg (y / 100), dg (y / 10), dg y, 45, dg (m / 10), dg m, 45, dg (d / 10), dg d, 32, dg (a / 10), dg a, 58, dg (b / 10), dg b, 58, dg (c / 10), dg c]
/-- The tick of a date and a time. -/
def nOf (y : Int) (k : Nat) (d a b c : Int) : Int := (ahd y + bef y k + d - 1) * 86400 + a * 3600 + b * 60 + c
/-- These are the date and the time of a tick. -/
structure Fld (n y : Int) (k : Nat) (d a b c : Int) : Prop where
  i : IsD (n / 86400) y k d
  ha : 0 ≤ a ∧ a < 24
  hb : 0 ≤ b ∧ b < 60
  hc : 0 ≤ c ∧ c < 60
  hn : n = nOf y k d a b c
theorem fld_ex {n : Int} (h0 : 0 ≤ n) (h1 : n ≤ lastT) : ∃ y k d a b c, Fld n y k d a b c ∧ stampR n = fmt y ((k : Int) + 1) d a b c ∧ y < 10000 := by
  obtain ⟨y, k, d, hi, he⟩ := dateR_is h0 h1
  have hb := hi.bnd (by unfold lastT at h1; omega)
  have hk := hi.lt
  have hd := hi.d
  have hy := hi.y0
  refine ⟨y, k, d, n % 86400 / 3600, n % 86400 % 3600 / 60, n % 86400 % 60, ⟨hi, by omega, by omega, by omega, ?_⟩, ?_, hb.1⟩
  · unfold nOf
    omega
  · unfold stampR
    rw [if_pos ⟨h0, h1⟩, he]
    unfold timeR
    rw [if_pos ⟨h0, h1⟩]
    unfold threeR
    simp only
    rw [pad4 (by omega) (by omega), pad2 (n := (k : Int) + 1) (by omega) (by omega), pad2 (n := d) (by omega) (by omega), pad2 (n := n % 86400 / 3600) (by omega) (by omega), pad2 (n := n % 86400 % 3600 / 60) (by omega) (by omega), pad2 (n := n % 86400 % 60) (by omega) (by omega)]
    rfl
/-- s is the stamp of n. -/
structure Good (s : Str) (n : Int) : Prop where
  h0 : 0 ≤ n
  h1 : n ≤ lastT
  e : stampR n = s
theorem Good.fld {s : Str} {n : Int} (h : Good s n) : ∃ y k d a b c, Fld n y k d a b c ∧ s = fmt y ((k : Int) + 1) d a b c ∧ y < 10000 := by
  obtain ⟨y, k, d, a, b, c, hf, he, hy⟩ := fld_ex h.h0 h.h1
  exact ⟨y, k, d, a, b, c, hf, h.e.symm.trans he, hy⟩
theorem val2 {m : Int} (h0 : 0 ≤ m) (h1 : m < 100) : ((val [dg (m / 10), dg m] : Nat) : Int) = m := by
  simp only [val, List.foldl_cons, List.foldl_nil, dg_nat]
  omega
theorem val4 {m : Int} (h0 : 0 ≤ m) (h1 : m < 10000) : ((val [dg (m / 1000), dg (m / 100), dg (m / 10), dg m] : Nat) : Int) = m := by
  simp only [val, List.foldl_cons, List.foldl_nil, dg_nat]
  omega
/-- A date and a time that may be are those of their tick. -/
theorem fld_of {y d a b c : Int} {k : Nat} (hy : 2000 ≤ y) (hy2 : y < 10000) (hk : k < 12) (hd : 1 ≤ d ∧ d ≤ ml y ((k : Int) + 1)) (ha : 0 ≤ a ∧ a < 24) (hb : 0 ≤ b ∧ b < 60) (hc : 0 ≤ c ∧ c < 60) :
    Fld (nOf y k d a b c) y k d a b c ∧ 0 ≤ nOf y k d a b c ∧ nOf y k d a b c ≤ lastT := by
  have h1 : bef y (k + 1) = bef y k + ml y ((k : Int) + 1) := rfl
  have h2 := bef_up y (show k + 1 ≤ 12 from hk)
  rw [bef_12] at h2
  have h3 := ahd_step hy
  have h4 := bef_up y (Nat.zero_le k)
  have h5 : bef y 0 = 0 := rfl
  have h6 := ahd_lt (y := 2000) (z := y) (by omega) hy
  rw [ahd_2000] at h6
  have h7 := ahd_lt (y := y + 1) (z := 10000) (by omega) (by omega)
  rw [ahd_10000] at h7
  have hq : nOf y k d a b c / 86400 = ahd y + bef y k + d - 1 := by unfold nOf; omega
  refine ⟨⟨⟨hy, ?_, ?_, ?_, ?_, ?_⟩, ha, hb, hc, rfl⟩, ?_, ?_⟩
  · rw [hq]; omega
  · rw [hq]; omega
  · rw [hq]; omega
  · rw [hq]; omega
  · rw [hq]; omega
  · unfold nOf; omega
  · unfold nOf lastT; omega
theorem Fld.only {n y d a b c y' d' a' b' c' : Int} {k k' : Nat} (h : Fld n y k d a b c) (h' : Fld n y' k' d' a' b' c') : y = y' ∧ k = k' ∧ d = d' ∧ a = a' ∧ b = b' ∧ c = c' := by
  obtain ⟨e1, e2, e3⟩ := h.i.only h'.i
  subst e1 e2 e3
  have h1 := h.hn
  have h2 := h'.hn
  unfold nOf at h1 h2
  have := h.ha; have := h.hb; have := h.hc; have := h'.ha; have := h'.hb; have := h'.hc
  exact ⟨rfl, rfl, rfl, by omega, by omega, by omega⟩
theorem good_of {y d a b c : Int} {k : Nat} (hy : 2000 ≤ y) (hy2 : y < 10000) (hk : k < 12) (hd : 1 ≤ d ∧ d ≤ ml y ((k : Int) + 1)) (ha : 0 ≤ a ∧ a < 24) (hb : 0 ≤ b ∧ b < 60) (hc : 0 ≤ c ∧ c < 60) : Good (fmt y ((k : Int) + 1) d a b c) (nOf y k d a b c) := by
  obtain ⟨hf, h0, h1⟩ := fld_of hy hy2 hk hd ha hb hc
  obtain ⟨y', k', d', a', b', c', hf', he, -⟩ := fld_ex h0 h1
  obtain ⟨rfl, rfl, rfl, rfl, rfl, rfl⟩ := hf.only hf'
  exact ⟨h0, h1, he⟩
theorem dg_inj2 {m m' : Int} (h0 : 0 ≤ m ∧ m < 100) (h1 : 0 ≤ m' ∧ m' < 100) (e1 : dg (m / 10) = dg (m' / 10)) (e2 : dg m = dg m') : m = m' := by
  rw [← val2 h0.1 h0.2, ← val2 h1.1 h1.2, e1, e2]
theorem dg_inj4 {m m' : Int} (h0 : 0 ≤ m ∧ m < 10000) (h1 : 0 ≤ m' ∧ m' < 10000) (e1 : dg (m / 1000) = dg (m' / 1000)) (e2 : dg (m / 100) = dg (m' / 100)) (e3 : dg (m / 10) = dg (m' / 10)) (e4 : dg m = dg m') : m = m' := by
  rw [← val4 h0.1 h0.2, ← val4 h1.1 h1.2, e1, e2, e3, e4]
theorem Fld.bnd {n y d a b c : Int} {k : Nat} (h : Fld n y k d a b c) (hy : y < 10000) : (0 ≤ y ∧ y < 10000) ∧ (0 ≤ (k : Int) + 1 ∧ (k : Int) + 1 < 100) ∧ (0 ≤ d ∧ d < 100) ∧ (0 ≤ a ∧ a < 100) ∧ (0 ≤ b ∧ b < 100) ∧ (0 ≤ c ∧ c < 100) := by
  have h1 := h.i.y0
  have h2 := h.i.lt
  have h3 := h.i.d
  have h4 := h.i.k1
  have h5 := h.i.k2
  have h6 := ml_bnd y ((k : Int) + 1)
  simp only [bef] at h5
  have := h.ha; have := h.hb; have := h.hc
  exact ⟨by omega, by omega, by omega, by omega, by omega, by omega⟩
theorem Good.only {s : Str} {n n' : Int} (h : Good s n) (h' : Good s n') : n = n' := by
  obtain ⟨y, k, d, a, b, c, hf, he, hy⟩ := h.fld
  obtain ⟨y', k', d', a', b', c', hf', he', hy'⟩ := h'.fld
  obtain ⟨b1, b2, b3, b4, b5, b6⟩ := hf.bnd hy
  obtain ⟨q1, q2, q3, q4, q5, q6⟩ := hf'.bnd hy'
  rw [he] at he'
  simp only [fmt, List.cons.injEq, and_true, true_and] at he'
  obtain ⟨x1, x2, x3, x4, x5, x6, x7, x8, x9, x10, x11, x12, x13, x14⟩ := he'
  have e1 := dg_inj4 b1 q1 x1 x2 x3 x4
  have e2 : k = k' := by have := dg_inj2 b2 q2 x5 x6; omega
  have e3 := dg_inj2 b3 q3 x7 x8
  have e4 := dg_inj2 b4 q4 x9 x10
  have e5 := dg_inj2 b5 q5 x11 x12
  have e6 := dg_inj2 b6 q6 x13 x14
  subst e1 e2 e3 e4 e5 e6
  rw [hf.hn, hf'.hn]
open Classical in
/-- The tick of a stamp. -/
noncomputable def readS (s : Str) : Int × Int := if h : ∃ n, Good s n then (Classical.choose h, 0) else (0, 3)
theorem readS_yes {s : Str} {n : Int} (h : Good s n) : readS s = (n, 0) := by
  have hh : ∃ n, Good s n := ⟨n, h⟩
  unfold readS
  rw [dif_pos hh, (Classical.choose_spec hh).only h]
theorem readS_no {s : Str} (h : ∀ n, ¬ Good s n) : readS s = (0, 3) := by
  unfold readS
  rw [dif_neg (fun ⟨n, hn⟩ => h n hn)]
theorem good_stamp {n : Int} (h : 0 ≤ n ∧ n ≤ lastT) : Good (stampR n) n := ⟨h.1, h.2, rfl⟩
theorem stamp_in {n : Int} (h : stampR n ≠ []) : 0 ≤ n ∧ n ≤ lastT := by
  by_cases hh : 0 ≤ n ∧ n ≤ lastT
  · exact hh
  · exact absurd (by unfold stampR; rw [if_neg hh]) h
theorem fmt_len (y m d a b c : Int) : (fmt y m d a b c).length = 19 := rfl
theorem Good.len {s : Str} {n : Int} (h : Good s n) : s.length = 19 := by
  obtain ⟨y, k, d, a, b, c, -, he, -⟩ := h.fld
  rw [he]; rfl
theorem list19 {s : Str} (h : s.length = 19) : ∃ c0 c1 c2 c3 c4 c5 c6 c7 c8 c9 c10 c11 c12 c13 c14 c15 c16 c17 c18, s = [c0, c1, c2, c3, c4, c5, c6, c7, c8, c9, c10, c11, c12, c13, c14, c15, c16, c17, c18] := by
  match s, h with
  | [c0, c1, c2, c3, c4, c5, c6, c7, c8, c9, c10, c11, c12, c13, c14, c15, c16, c17, c18], _ => exact ⟨_, _, _, _, _, _, _, _, _, _, _, _, _, _, _, _, _, _, _, rfl⟩
end Clock
end Go.Proofs.Ytjelndobekcbmaa
