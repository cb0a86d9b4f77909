/- The reference's Read. -/
import Derived.Test.YtllnaflknnkgiaaClockE
namespace Go.Proofs.Ytllnaflknnkgiaa
open Go.RowKit
set_option linter.unusedVariables false
set_option linter.unusedSimpArgs false
namespace Clock
open Digit
theorem twoR_dg {s : Str} {a : Nat} {m : Int} (h : a + 1 < s.length) (h1 : s[a] = dg (m / 10)) (h2 : s[a + 1] = dg m) (h3 : 0 ≤ m ∧ m < 100) : twoR s a = m := by
  unfold twoR
  rw [dif_pos h, h1, h2, if_pos ⟨dg_isD _, dg_isD _⟩, dg_int, dg_int]
  omega
/-- What the reference reckons. -/
def rn (s : Str) : Int := (ahd (100 * twoR s 0 + twoR s 2) + bef (100 * twoR s 0 + twoR s 2) (twoR s 5 - 1).toNat + twoR s 8 - 1) * 86400 + twoR s 11 * 3600 + twoR s 14 * 60 + twoR s 17
theorem fmt_two {y m d a b c : Int} (hy : 0 ≤ y ∧ y < 10000) (hm : 0 ≤ m ∧ m < 100) (hd : 0 ≤ d ∧ d < 100) (ha : 0 ≤ a ∧ a < 100) (hb : 0 ≤ b ∧ b < 100) (hc : 0 ≤ c ∧ c < 100) :
    100 * twoR (fmt y m d a b c) 0 + twoR (fmt y m d a b c) 2 = y ∧ twoR (fmt y m d a b c) 5 = m ∧ twoR (fmt y m d a b c) 8 = d ∧ twoR (fmt y m d a b c) 11 = a ∧ twoR (fmt y m d a b c) 14 = b ∧ twoR (fmt y m d a b c) 17 = c := by
  have e1 : twoR (fmt y m d a b c) 0 = y / 100 := twoR_dg (by rw [fmt_len]; omega) (show dg (y / 1000) = dg (y / 100 / 10) by rw [show y / 100 / 10 = y / 1000 by omega]) rfl (by omega)
  have e2 : twoR (fmt y m d a b c) 2 = y % 100 := by
    have h : dg (y % 100 / 10) = dg (y / 10) := by apply UInt8.toNat_inj.1; rw [dg_nat, dg_nat]; omega
    have h' : dg (y % 100) = dg y := by apply UInt8.toNat_inj.1; rw [dg_nat, dg_nat]; omega
    exact twoR_dg (by rw [fmt_len]; omega) (show dg (y / 10) = _ by rw [h]) (show dg y = _ by rw [h']) (by omega)
  refine ⟨by rw [e1, e2]; omega, ?_, ?_, ?_, ?_, ?_⟩
  all_goals exact twoR_dg (by rw [fmt_len]; omega) rfl rfl (by assumption)
theorem good_rn {s : Str} {n : Int} (h : Good s n) : (2000 ≤ 100 * twoR s 0 + twoR s 2 ∧ 1 ≤ twoR s 5 ∧ twoR s 5 ≤ 12) ∧ rn s = n := by
  obtain ⟨y, k, d, a, b, c, hf, he, hy⟩ := h.fld
  obtain ⟨b1, b2, b3, b4, b5, b6⟩ := hf.bnd hy
  have hr := hf.rng
  obtain ⟨e1, e2, e3, e4, e5, e6⟩ := fmt_two b1 b2 b3 b4 b5 b6
  rw [← he] at e1 e2 e3 e4 e5 e6
  refine ⟨by omega, ?_⟩
  unfold rn
  rw [e1, e2, e3, e4, e5, e6, show ((k : Int) + 1 - 1).toNat = k by omega, hf.hn]
  unfold nOf
  omega
/-- The reference's answer. -/
theorem rread_no {s : Str} (h : ¬ (s.length = 19 ∧ 2000 ≤ 100 * twoR s 0 + twoR s 2 ∧ 1 ≤ twoR s 5 ∧ twoR s 5 ≤ 12)) : readS s = (0, 3) :=
  readS_no fun n hn => h ⟨hn.len, (good_rn hn).1⟩
theorem rread_ne {s : Str} (h : stampR (rn s) ≠ s) : readS s = (0, 3) :=
  readS_no fun n hn => h (by rw [(good_rn hn).2]; exact hn.e)
theorem rread_eq {s : Str} (hl : s.length = 19) (h : stampR (rn s) = s) : readS s = (rn s, 0) := by
  obtain ⟨h0, h1⟩ := stamp_in (n := rn s) (by rw [h]; intro e; rw [e] at hl; cases hl)
  exact readS_yes ⟨h0, h1, h⟩
set_option maxRecDepth 100000 in
set_option maxHeartbeats 4000000 in
theorem rread_any (s : Str) (hl : s.length ≤ 100) (w : World) : Calls Try.prog 46 #[.string ⟨s.toArray⟩] w fun e w' => e = .returned (.tuple #[.int .i64 (readS s).1, .int .i64 (readS s).2]) ∧ Fr No w w' := by
  have HN := Lib.hid (fun h => rread_no (s := s) h)
  have HE := Lib.hid (fun h => rread_ne (s := s) h)
  have HY := Lib.hid (fun h1 h2 => rread_eq (s := s) h1 h2)
  have hrn := Lib.hid (show rn s = (ahd (100 * twoR s 0 + twoR s 2) + bef (100 * twoR s 0 + twoR s 2) (twoR s 5 - 1).toNat + twoR s 8 - 1) * 86400 + twoR s 11 * 3600 + twoR s 14 * 60 + twoR s 17 from rfl)
  have H0 := Lib.hid (fun w => two_any s hl 0 (by omega) w)
  have hb0 := twoR_bnd s 0
  obtain ⟨t0, ht⟩ : ∃ t, twoR s 0 = t := ⟨_, rfl⟩
  rw [ht] at H0 hb0 HN hrn
  clear ht
  have H2 := Lib.hid (fun w => two_any s hl 2 (by omega) w)
  have hb2 := twoR_bnd s 2
  obtain ⟨t2, ht⟩ : ∃ t, twoR s 2 = t := ⟨_, rfl⟩
  rw [ht] at H2 hb2 HN hrn
  clear ht
  have H5 := Lib.hid (fun w => two_any s hl 5 (by omega) w)
  have hb5 := twoR_bnd s 5
  obtain ⟨t5, ht⟩ : ∃ t, twoR s 5 = t := ⟨_, rfl⟩
  rw [ht] at H5 hb5 HN hrn
  clear ht
  have H8 := Lib.hid (fun w => two_any s hl 8 (by omega) w)
  have hb8 := twoR_bnd s 8
  obtain ⟨t8, ht⟩ : ∃ t, twoR s 8 = t := ⟨_, rfl⟩
  rw [ht] at H8 hb8 hrn
  clear ht
  have H11 := Lib.hid (fun w => two_any s hl 11 (by omega) w)
  have hb11 := twoR_bnd s 11
  obtain ⟨t11, ht⟩ : ∃ t, twoR s 11 = t := ⟨_, rfl⟩
  rw [ht] at H11 hb11 hrn
  clear ht
  have H14 := Lib.hid (fun w => two_any s hl 14 (by omega) w)
  have hb14 := twoR_bnd s 14
  obtain ⟨t14, ht⟩ : ∃ t, twoR s 14 = t := ⟨_, rfl⟩
  rw [ht] at H14 hb14 hrn
  clear ht
  have H17 := Lib.hid (fun w => two_any s hl 17 (by omega) w)
  have hb17 := twoR_bnd s 17
  obtain ⟨t17, ht⟩ : ∃ t, twoR s 17 = t := ⟨_, rfl⟩
  rw [ht] at H17 hb17 hrn
  clear ht
  have HRN := hrn
  clear hrn
  go_enter Try.func46, Try.ntmps46
  go_wp2_with fail
  refine (H0.out _).mono ?_
  rintro e w1 ⟨rfl, hf⟩
  have F1 := Lib.hid hf
  clear hf
  go_wp2_with fail
  refine (H2.out _).mono ?_
  rintro e w2 ⟨rfl, hf⟩
  have F2 := Lib.hid (F1.out.then_no hf)
  clear hf
  go_wp2_with fail
  refine (H5.out _).mono ?_
  rintro e w3 ⟨rfl, hf⟩
  have F3 := Lib.hid (F2.out.then_no hf)
  clear hf
  go_wp2_with fail
  refine (H8.out _).mono ?_
  rintro e w4 ⟨rfl, hf⟩
  have F4 := Lib.hid (F3.out.then_no hf)
  clear hf
  by_cases g19 : s.length = 19
  case neg =>
    have hr := Lib.hid (HN.out (fun h => g19 h.1))
    have gn : ((s.length : Int) != 19) = true := by simp; omega
    clear g19
    go_wp2_with fail
    go_ret2
    exact ⟨by rw [hr.out]; rfl, F4.out⟩
  have gn : ((s.length : Int) != 19) = false := by rw [g19]; rfl
  by_cases gy : 100 * t0 + t2 < 2000
  case pos =>
    have hr := Lib.hid (HN.out (fun h => by omega))
    clear g19
    go_wp2_with fail
    go_ret2
    exact ⟨by rw [hr.out]; rfl, F4.out⟩
  by_cases g1 : t5 < 1
  case pos =>
    have hr := Lib.hid (HN.out (fun h => by omega))
    clear g19
    go_wp2_with fail
    go_ret2
    exact ⟨by rw [hr.out]; rfl, F4.out⟩
  by_cases g2 : 12 < t5
  case pos =>
    have hr := Lib.hid (HN.out (fun h => by omega))
    clear g19
    go_wp2_with fail
    go_ret2
    exact ⟨by rw [hr.out]; rfl, F4.out⟩
  have G19 := Lib.hid g19
  clear HN g19
  go_wp2_with fail
  obtain ⟨y, hy⟩ : ∃ y, 100 * t0 + t2 = y := ⟨_, rfl⟩
  rw [hy] at HRN gy
  simp only [hy]
  have hy2 : y ≤ 9999 := by omega
  clear hy hb0 hb2 H0 H2 H5 H8
  go_loop [7, 8] (fun a b => ∃ i : Int, a = .int .i64 (t8 - 1 + ahd i) ∧ b = .int .i64 i ∧ 2000 ≤ i ∧ i ≤ y) (fun _ b => 10000 - (intOf b).toNat)
  case atStart => exact ⟨2000, by rw [ahd_2000]; go_num, rfl, by omega, by omega⟩
  case round =>
    obtain ⟨i, rfl, rfl, hi, hi2⟩ := hrel
    have hs := ahd_step hi
    have hlow := ahd_lt (y := 2000) (z := i) (by omega) hi
    have hup := ahd_lt (y := i) (z := 10000) (by omega) (by omega)
    rw [ahd_2000] at hlow
    rw [ahd_10000] at hup
    have hm := ml2_bnd i
    have hlg := fun w => long_any (y := i) (m := 2) (by omega) w
    by_cases hlt : i < y
    · obtain ⟨m, hm2⟩ : ∃ m, ml i 2 = m := ⟨_, rfl⟩
      rw [hm2] at hs hm hlg
      obtain ⟨A, hA⟩ : ∃ A, ahd i = A := ⟨_, rfl⟩
      rw [hA] at hs hlow hup ⊢
      have HS := Lib.hid hs
      clear hs hm2 hA
      go_wp2_with (go_at_call 69; refine (hlg _).mono ?_; rintro e w5 ⟨rfl, rfl⟩)
      go_round
      case rel => exact ⟨i + 1, by rw [HS.out]; go_num, by go_num, by omega, by omega⟩
      case measure => simp [intOf]; omega
    · obtain rfl : i = y := by omega
      have HA := Lib.hid (show ahd i = ahd i from rfl)
      obtain ⟨A, hA⟩ : ∃ A, ahd i = A := ⟨_, rfl⟩
      rw [hA] at HRN hlow hup ⊢
      clear hs hlg hm hA HA
      go_wp2_with fail
      go_loop [7, 9] (fun a b => ∃ k : Nat, a = .int .i64 (t8 - 1 + A + bef i k) ∧ b = .int .i64 ((k : Int) + 1) ∧ (k : Int) + 1 ≤ t5) (fun _ b => 14 - (intOf b).toNat)
      case atStart => exact ⟨0, by simp [bef], rfl, by omega⟩
      case round =>
        obtain ⟨k, rfl, rfl, hk⟩ := hrel
        have hbs : bef i (k + 1) = bef i k + ml i ((k : Int) + 1) := rfl
        have hb1 := bef_bnd i (j := k) (by omega)
        have hm := ml_bnd i ((k : Int) + 1)
        have hlg := fun w => long_any (y := i) (m := (k : Int) + 1) (by omega) w
        by_cases hkt : (k : Int) + 1 < t5
        · obtain ⟨m, hm2⟩ : ∃ m, ml i ((k : Int) + 1) = m := ⟨_, rfl⟩
          rw [hm2] at hbs hm hlg
          obtain ⟨B, hB⟩ : ∃ B, bef i k = B := ⟨_, rfl⟩
          rw [hB] at hbs hb1 ⊢
          have HS := Lib.hid hbs
          clear hbs hm2 hB
          go_wp2_with (go_at_call 69; refine (hlg _).mono ?_; rintro e w5 ⟨rfl, rfl⟩)
          go_round
          case rel => exact ⟨k + 1, by rw [HS.out]; go_num, by go_num, by omega⟩
          case measure => simp [intOf]; omega
        · have hkn : (t5 - 1).toNat = k := by omega
          rw [hkn] at HRN
          obtain ⟨B, hB⟩ : ∃ B, bef i k = B := ⟨_, rfl⟩
          rw [hB] at HRN hb1 ⊢
          obtain ⟨n, hn⟩ : ∃ n, rn s = n := ⟨_, rfl⟩
          rw [hn] at HRN HE HY
          have hn2 : (t8 - 1 + A + B) * 86400 + t11 * 3600 + t14 * 60 + t17 = n := by rw [HRN.out]; omega
          have Hn2 := Lib.hid hn2
          clear hbs hlg hm hn hB hkn hn2
          go_wp2_with fail
          refine (H11.out _).mono ?_
          rintro e w5 ⟨rfl, hf⟩
          have F5 := Lib.hid (F4.out.then_no hf)
          clear hf
          go_wp2_with fail
          refine (H14.out _).mono ?_
          rintro e w6 ⟨rfl, hf⟩
          have F6 := Lib.hid (F5.out.then_no hf)
          clear hf
          go_wp2_with fail
          refine (H17.out _).mono ?_
          rintro e w7 ⟨rfl, hf⟩
          have F7 := Lib.hid (F6.out.then_no hf)
          clear hf
          go_wp2_with fail
          simp only [Hn2.out]
          refine (rstamp_any _ _).mono ?_
          rintro e w8 ⟨rfl, hf⟩
          have F8 := Lib.hid (F7.out.then_no hf)
          clear hf
          by_cases hst : stampR n = s
          · have hr := Lib.hid (HY.out G19.out hst)
            have e1 : (stampR n == s) = true := beq_iff_eq.2 hst
            have e2 : (stampR n != s) = false := by rw [bne, e1]; rfl
            obtain ⟨t, ht⟩ : ∃ t, stampR n = t := ⟨_, rfl⟩
            rw [ht] at e1 e2 hst ⊢
            clear ht hst
            go_wp2_with fail
            go_ret2
            exact ⟨by rw [hr.out]; rfl, F8.out⟩
          · have hr := Lib.hid (HE.out hst)
            have e1 : (stampR n == s) = false := beq_eq_false_iff_ne.2 hst
            have e2 : (stampR n != s) = true := by rw [bne, e1]; rfl
            obtain ⟨t, ht⟩ : ∃ t, stampR n = t := ⟨_, rfl⟩
            rw [ht] at e1 e2 hst ⊢
            clear ht hst
            go_wp2_with fail
            go_ret2
            exact ⟨by rw [hr.out]; rfl, F8.out⟩
end Clock
end Go.Proofs.Ytllnaflknnkgiaa
