/- Package clock and its reference: stamps and spans. -/
import Derived.Test.YtjelndobekcbmaaClockR
namespace Go.Proofs.Ytjelndobekcbmaa
open Go.RowKit
set_option linter.unusedVariables false
set_option linter.unusedSimpArgs false
namespace Clock
open Digit
theorem ba_append (a b : Str) : (⟨a.toArray⟩ : ByteArray) ++ ⟨b.toArray⟩ = ⟨(a ++ b).toArray⟩ := by
  apply ByteArray.ext
  show (ByteArray.append _ _).data = _
  simp
theorem ba1 (a : UInt8) : (⟨#[a]⟩ : ByteArray) = ⟨([a] : Str).toArray⟩ := rfl
def wfI (n : Int) : Prop := -9223372036854775808 ≤ n ∧ n ≤ 9223372036854775807
theorem pad_len {n : Int} (h : wfI n) : (padR n 2).length ≤ 22 := by
  unfold padR
  split
  · simp
  · have := dec_20 (n := n.natAbs) (by unfold wfI at h; omega)
    simp
    omega
def threeR (a b c : Int) (s : Str) : Str := padR a 2 ++ s ++ padR b 2 ++ s ++ padR c 2
theorem three_any (a b c : Int) (s : Str) (ha : wfI a) (hb : wfI b) (hc : wfI c) (hs : s.length ≤ 4) (w : World) : Calls Try.prog 79 #[.int .i64 a, .int .i64 b, .int .i64 c, .string ⟨s.toArray⟩] w fun e w' => e = .returned (.string ⟨(threeR a b c s).toArray⟩) ∧ Fr No w w' := by
  have HA := Lib.hid (fun w => pad_any a 2 ha (by omega) w)
  have HB := Lib.hid (fun w => pad_any b 2 hb (by omega) w)
  have HC := Lib.hid (fun w => pad_any c 2 hc (by omega) w)
  have lp := pad_len ha
  have lq := pad_len hb
  have lr := pad_len hc
  obtain ⟨p, hp⟩ : ∃ p, padR a 2 = p := ⟨_, rfl⟩
  obtain ⟨q, hq⟩ : ∃ q, padR b 2 = q := ⟨_, rfl⟩
  obtain ⟨r, hr⟩ : ∃ r, padR c 2 = r := ⟨_, rfl⟩
  unfold threeR
  rw [hp, hq, hr]
  rw [hp] at HA
  rw [hq] at HB
  rw [hr] at HC
  rw [hp] at lp
  rw [hq] at lq
  rw [hr] at lr
  clear hp hq hr ha hb hc
  go_enter Try.func79, Try.ntmps79
  go_wp2_with fail
  refine (HA.out _).mono ?_
  rintro e w1 ⟨rfl, hf1⟩
  have F1 := Lib.hid hf1
  clear hf1
  go_wp2_with fail
  refine (HB.out _).mono ?_
  rintro e w2 ⟨rfl, hf2⟩
  have F2 := Lib.hid (F1.out.then_no hf2)
  clear hf2
  go_wp2_with fail
  refine (HC.out _).mono ?_
  rintro e w3 ⟨rfl, hf3⟩
  have F3 := Lib.hid (F2.out.then_no hf3)
  clear hf3
  go_wp2_with fail
  go_ret
  exact ⟨by simp only [ba_append]; rfl, F3.out⟩
theorem three_len {a b c : Int} {s : Str} (ha : wfI a) (hb : wfI b) (hc : wfI c) : (threeR a b c s).length ≤ 66 + 2 * s.length := by
  have := pad_len ha
  have := pad_len hb
  have := pad_len hc
  unfold threeR
  simp only [List.length_append]
  omega
/-- The stamp of a tick. -/
noncomputable def stampR (n : Int) : Str := if 0 ≤ n ∧ n ≤ lastT then threeR (dateR n).1 (dateR n).2.1 (dateR n).2.2 [45] ++ [32] ++ threeR (timeR n).1 (timeR n).2.1 (timeR n).2.2 [58] else []
theorem time_wf {n : Int} (h : 0 ≤ n ∧ n ≤ lastT) : ∃ a b c, timeR n = (a, b, c) ∧ (0 ≤ a ∧ a < 24) ∧ (0 ≤ b ∧ b < 60) ∧ (0 ≤ c ∧ c < 60) := by
  unfold timeR
  rw [if_pos h]
  exact ⟨_, _, _, rfl, by omega, by omega, by omega⟩
theorem date_wf {n : Int} (h : 0 ≤ n ∧ n ≤ lastT) : ∃ y m d, dateR n = (y, m, d) ∧ (2000 ≤ y ∧ y < 10000) ∧ (1 ≤ m ∧ m ≤ 12) ∧ (1 ≤ d ∧ d ≤ 31) := by
  obtain ⟨y, k, d, hi, he⟩ := dateR_is h.1 h.2
  have hb := hi.bnd (by have := h.2; unfold lastT at this; omega)
  have := hi.lt
  exact ⟨y, _, d, he, ⟨hi.y0, hb.1⟩, by omega, hb.2.1, hb.2.2.2⟩
theorem stamp_any (n : Int) (w : World) : Calls Try.prog 69 #[.int .i64 n] w fun e w' => e = .returned (.string ⟨(stampR n).toArray⟩) ∧ Fr No w w' := by
  by_cases h : 0 ≤ n ∧ n ≤ lastT
  · obtain ⟨y, m, d, hd, hy, hm, hdd⟩ := date_wf h
    obtain ⟨a, b, c, ht, ha, hb, hc⟩ := time_wf h
    have HD := Lib.hid (show tri (dateR n) = .tuple #[.int .i64 y, .int .i64 m, .int .i64 d] by rw [hd]; rfl)
    have HT := Lib.hid (show tri (timeR n) = .tuple #[.int .i64 a, .int .i64 b, .int .i64 c] by rw [ht]; rfl)
    have HS := Lib.hid (show stampR n = threeR y m d [45] ++ [32] ++ threeR a b c [58] by unfold stampR; rw [if_pos h, hd, ht])
    have H3 := Lib.hid (fun w => three_any y m d [45] (by unfold wfI; omega) (by unfold wfI; omega) (by unfold wfI; omega) (by simp) w)
    have H4 := Lib.hid (fun w => three_any a b c [58] (by unfold wfI; omega) (by unfold wfI; omega) (by unfold wfI; omega) (by simp) w)
    have l3 : (threeR y m d [45]).length ≤ 68 := three_len (by unfold wfI; omega) (by unfold wfI; omega) (by unfold wfI; omega)
    have l4 : (threeR a b c [58]).length ≤ 68 := three_len (by unfold wfI; omega) (by unfold wfI; omega) (by unfold wfI; omega)
    obtain ⟨u, hu⟩ : ∃ u, threeR y m d [45] = u := ⟨_, rfl⟩
    obtain ⟨v, hv⟩ : ∃ v, threeR a b c [58] = v := ⟨_, rfl⟩
    rw [hu] at HS H3 l3
    rw [hv] at HS H4 l4
    clear hu hv
    have Hn := Lib.hid h
    clear hd ht h hy hm hdd ha hb hc
    go_enter Try.func69, Try.ntmps69
    go_wp2_with fail
    refine (in_yes Hn.out _).mono ?_
    rintro e w1 ⟨rfl, rfl⟩
    go_wp2_with fail
    refine (date_any _ _).mono ?_
    rintro e w1 ⟨rfl, hf1⟩
    have F1 := Lib.hid hf1
    clear hf1
    rw [HD.out]
    go_wp2_with fail
    refine (time_any _ _).mono ?_
    rintro e w2 ⟨rfl, rfl⟩
    rw [HT.out]
    go_wp2_with fail
    refine (H3.out _).mono ?_
    rintro e w2 ⟨rfl, hf2⟩
    have F2 := Lib.hid (F1.out.then_no hf2)
    clear hf2
    go_wp2_with fail
    refine (H4.out _).mono ?_
    rintro e w3 ⟨rfl, hf3⟩
    have F3 := Lib.hid (F2.out.then_no hf3)
    clear hf3
    go_wp2_with fail
    go_ret
    exact ⟨by rw [HS.out, ← ba_append, ← ba_append]; rfl, F3.out⟩
  · have hs : stampR n = [] := by unfold stampR; rw [if_neg h]
    rw [hs]
    go_enter Try.func69, Try.ntmps69
    go_wp2_with (go_at_call 76; refine (in_no h _).mono ?_; rintro e w1 ⟨rfl, rfl⟩)
    go_ret
    exact ⟨rfl, Fr.refl _ _⟩
theorem dec_1 (n : Nat) : 1 ≤ (dec n).length := by
  rw [dec_step]; simp
theorem pad_put {y : Int} (h : 10 ≤ y) : padR y 2 = putR y := by
  have hl : 2 ≤ (dec y.natAbs).length := by
    rw [dec_step, if_neg (by omega), List.length_append]
    have := dec_1 (y.natAbs / 10)
    simp; omega
  unfold padR putR
  rw [if_neg (by omega), if_neg (by omega)]
  have : (2 : Int).toNat - (dec y.natAbs).length = 0 := by simp; omega
  rw [this]
  rfl
set_option maxRecDepth 100000 in
theorem rstamp_any (n : Int) (w : World) : Calls Try.prog 59 #[.int .i64 n] w fun e w' => e = .returned (.string ⟨(stampR n).toArray⟩) ∧ Fr No w w' := by
  by_cases h : 0 ≤ n ∧ n ≤ lastT
  · obtain ⟨y, m, d, hd, hy, hm, hdd⟩ := date_wf h
    obtain ⟨a, b, c, ht, ha, hb, hc⟩ := time_wf h
    have HD := Lib.hid (show tri (dateR n) = .tuple #[.int .i64 y, .int .i64 m, .int .i64 d] by rw [hd]; rfl)
    have HT := Lib.hid (show tri (timeR n) = .tuple #[.int .i64 a, .int .i64 b, .int .i64 c] by rw [ht]; rfl)
    have HS := Lib.hid (show stampR n = putR y ++ [45] ++ padR m 2 ++ [45] ++ padR d 2 ++ [32] ++ padR a 2 ++ [58] ++ padR b 2 ++ [58] ++ padR c 2 by unfold stampR; rw [if_pos h, hd, ht]; simp only [threeR, List.append_assoc]; rw [pad_put (by omega)])
    have HY := Lib.hid (fun w => rput_any y (by omega) w)
    have ly := putR_len (n := y) (by omega)
    obtain ⟨t, ht2⟩ : ∃ t, putR y = t := ⟨_, rfl⟩
    rw [ht2] at HS HY ly
    clear ht2
    have HPm := Lib.hid (fun w => rpad_any m 2 (by omega) (by omega) w)
    have lpm := pad_len (n := m) (by unfold wfI; omega)
    obtain ⟨pm, hpm⟩ : ∃ pm, padR m 2 = pm := ⟨_, rfl⟩
    rw [hpm] at HS HPm lpm
    clear hpm
    have HPd := Lib.hid (fun w => rpad_any d 2 (by omega) (by omega) w)
    have lpd := pad_len (n := d) (by unfold wfI; omega)
    obtain ⟨pd, hpd⟩ : ∃ pd, padR d 2 = pd := ⟨_, rfl⟩
    rw [hpd] at HS HPd lpd
    clear hpd
    have HPa := Lib.hid (fun w => rpad_any a 2 (by omega) (by omega) w)
    have lpa := pad_len (n := a) (by unfold wfI; omega)
    obtain ⟨pa, hpa⟩ : ∃ pa, padR a 2 = pa := ⟨_, rfl⟩
    rw [hpa] at HS HPa lpa
    clear hpa
    have HPb := Lib.hid (fun w => rpad_any b 2 (by omega) (by omega) w)
    have lpb := pad_len (n := b) (by unfold wfI; omega)
    obtain ⟨pb, hpb⟩ : ∃ pb, padR b 2 = pb := ⟨_, rfl⟩
    rw [hpb] at HS HPb lpb
    clear hpb
    have HPc := Lib.hid (fun w => rpad_any c 2 (by omega) (by omega) w)
    have lpc := pad_len (n := c) (by unfold wfI; omega)
    obtain ⟨pc, hpc⟩ : ∃ pc, padR c 2 = pc := ⟨_, rfl⟩
    rw [hpc] at HS HPc lpc
    clear hpc
    have h1 := h.1
    have h2 : n ≤ 252455615999 := h.2
    clear hd ht h hy hm hdd ha hb hc
    go_enter Try.func59, Try.ntmps59
    go_wp2_with (first
      | (go_at_call 71; refine (rdate_any _ _).mono ?_; rintro e w1 ⟨rfl, rfl⟩; rw [HD.out])
      | (go_at_call 72; refine (rtime_any _ _).mono ?_; rintro e w1 ⟨rfl, rfl⟩; rw [HT.out]))
    refine (HY.out _).mono ?_
    rintro e w1 ⟨rfl, rfl⟩
    go_wp2_with fail
    refine (HPm.out _).mono ?_
    rintro e w2 ⟨rfl, hf⟩
    have F2 := Lib.hid ((Fr.refl No w).then_no hf)
    clear hf
    go_wp2_with fail
    refine (HPd.out _).mono ?_
    rintro e w3 ⟨rfl, hf⟩
    have F3 := Lib.hid (F2.out.then_no hf)
    clear hf
    go_wp2_with fail
    refine (HPa.out _).mono ?_
    rintro e w4 ⟨rfl, hf⟩
    have F4 := Lib.hid (F3.out.then_no hf)
    clear hf
    go_wp2_with fail
    refine (HPb.out _).mono ?_
    rintro e w5 ⟨rfl, hf⟩
    have F5 := Lib.hid (F4.out.then_no hf)
    clear hf
    go_wp2_with fail
    refine (HPc.out _).mono ?_
    rintro e w6 ⟨rfl, hf⟩
    have F6 := Lib.hid (F5.out.then_no hf)
    clear hf
    go_wp2_with fail
    go_ret
    exact ⟨by rw [HS.out]; simp only [← ba_append]; rfl, F6.out⟩
  · have hs : stampR n = [] := by unfold stampR; rw [if_neg h]
    rw [hs]
    rcases out_cases h with h1 | ⟨h1, h2⟩
    all_goals
      clear h
      go_enter Try.func59, Try.ntmps59
      go_wp2
      go_ret
      exact ⟨rfl, Fr.refl _ _⟩
def spanR (n : Int) : Str := if n < 0 ∨ 1099511627776 < n then [] else (if 86400 ≤ n then putR (n / 86400) ++ [100, 32] else []) ++ threeR (n % 86400 / 3600) (n % 86400 / 60 % 60) (n % 60) [58]
end Clock
end Go.Proofs.Ytjelndobekcbmaa
