/- Package word and its reference: Fits. -/
import Derived.Test.YtompphakagoaeaaWordIs
namespace Go.Proofs.Ytompphakagoaeaa
open Go.RowKit
set_option linter.unusedVariables false
set_option linter.unusedSimpArgs false
namespace Word
theorem isR_long {s : Str} (h : 32 < s.length) : isR s = false := by unfold isR; rw [decide_eq_false (by omega)]; rfl
theorem fitsR_long {s : Str} (h : 32 < s.length) : fitsR s = false := by unfold fitsR; rw [decide_eq_false (by omega)]; rfl
theorem isR_head {s : Str} (h : 0 < s.length) (hh : letB s[0] = false) : isR s = false := by unfold isR; rw [headL_zero h, hh]; simp
theorem isR_not {s : Str} {k : Nat} (h : k < s.length) (hh : innB s[k] = false) : isR s = false := by unfold isR; rw [all_not h hh]; simp
theorem fitsR_not {s : Str} {k : Nat} (h : k < s.length) (hh : fitB s[k] = false) : fitsR s = false := by unfold fitsR; rw [all_not h hh]; simp
theorem isR_yes {s : Str} (h : 0 < s.length) (h2 : s.length ≤ 32) (hh : letB s[0] = true) (ha : s.all innB = true) : isR s = true := by unfold isR; rw [headL_zero h, hh, ha, decide_eq_true (by omega)]; rfl
theorem fitsR_yes {s : Str} (h : 0 < s.length) (h2 : s.length ≤ 32) (ha : s.all fitB = true) : fitsR s = true := by unfold fitsR; rw [ha, decide_eq_true (by omega)]; rfl
theorem isP_step {s : Str} {k : Nat} (h : k < s.length) : ((s.take (k + 1)).all innB && headL (s.take (k + 1))) = (((s.take k).all innB && headL (s.take k)) && (innB s[k] && (decide (0 < k) || letB s[k]))) := by
  rw [all_take h, headL_take h]
  by_cases hk : k = 0
  · subst hk
    simp [headL]
  · rw [if_neg hk, decide_eq_true (show 0 < k by omega)]
    cases (s.take k).all innB <;> cases headL (s.take k) <;> cases innB s[k] <;> rfl
theorem ret_bool_of {a b : Bool} (h : a = b) : Ending.returned (.bool a) = .returned (.bool b) := by rw [h]
set_option maxRecDepth 100000 in
theorem fits_any (s : Str) (hs : s.length ≤ maxLen) (w : World) : Calls Try.prog 45 #[.string ⟨s.toArray⟩] w fun e w' => e = .returned (.bool (fitsR s)) ∧ w = w' := by
  by_cases h0 : s = []
  · subst h0
    go_enter Try.func45, Try.ntmps45
    go_wp2
    go_ret
    exact ⟨rfl, rfl⟩
  have e0 : (s == []) = false := beq_eq_false_iff_ne.2 h0
  have hp : 0 < s.length := List.length_pos_iff.2 h0
  have hm : maxLen = 9223372036854775807 := rfl
  rw [hm] at hs
  by_cases hl : 32 < s.length
  · have HR := Lib.hid (fitsR_long hl)
    clear h0 hm
    go_enter Try.func45, Try.ntmps45
    go_wp2_with fail
    go_ret
    exact ⟨by rw [HR.out]; rfl, rfl⟩
  have HY := Lib.hid (fitsR_yes hp (by omega))
  have HN := Lib.hid (fun k h hh => fitsR_not (s := s) (k := k) h hh)
  clear h0 hm
  go_enter Try.func45, Try.ntmps45
  go_wp2_with fail
  go_loop [13] (fun a => ∃ k : Nat, a = .int .i64 k ∧ k ≤ s.length ∧ Hid ((s.take k).all fitB = true)) (fun a => 40 - (intOf a).toNat)
  case atStart => exact ⟨0, rfl, by omega, Lib.hid rfl⟩
  case round =>
    obtain ⟨k, rfl, hk, HA⟩ := hrel
    by_cases hlt : k < s.length
    · have hix : (⟨s.toArray⟩ : ByteArray)[k]'(by simpa [ByteArray.size] using hlt) = s[k] := rfl
      have hin := fun w => inner_any s[k] w
      cases hb : innB s[k]
      · rw [hb] at hin
        by_cases h42 : s[k] = 42
        · have q1 := (u8_t (n := 42) (d := 42) rfl h42)
          have HA2 := Lib.hid (show (s.take (k + 1)).all fitB = true by rw [all_take hlt, HA.out, h42]; rfl)
          clear hb h42
          go_wp2_with (go_at_call 47; refine (hin _).mono ?_; rintro e w1 ⟨rfl, rfl⟩)
          go_round
          case rel => exact ⟨k + 1, by go_num, by omega, HA2⟩
          case measure => simp [intOf]; try omega
        · have q1 := (u8_f (n := 42) (d := 42) rfl h42)
          by_cases h63 : s[k] = 63
          · have q2 := (u8_t (n := 63) (d := 63) rfl h63)
            have HA2 := Lib.hid (show (s.take (k + 1)).all fitB = true by rw [all_take hlt, HA.out, h63]; rfl)
            clear hb h42 h63
            go_wp2_with (go_at_call 47; refine (hin _).mono ?_; rintro e w1 ⟨rfl, rfl⟩)
            go_round
            case rel => exact ⟨k + 1, by go_num, by omega, HA2⟩
            case measure => simp [intOf]; try omega
          · have q2 := (u8_f (n := 63) (d := 63) rfl h63)
            have HR := Lib.hid (HN.out k hlt (by
              unfold fitB
              rw [hb, decide_eq_false (fun h => h.elim (fun h => h42 (UInt8.toNat_inj.1 h)) (fun h => h63 (UInt8.toNat_inj.1 h)))]; rfl))
            clear hb h42 h63
            go_wp2_with (go_at_call 47; refine (hin _).mono ?_; rintro e w1 ⟨rfl, rfl⟩)
            go_ret
            exact ⟨by rw [HR.out]; rfl, rfl⟩
      · have HA2 := Lib.hid (show (s.take (k + 1)).all fitB = true by rw [all_take hlt, HA.out]; unfold fitB; rw [hb]; rfl)
        rw [hb] at hin
        clear hb
        go_wp2_with (go_at_call 47; refine (hin _).mono ?_; rintro e w1 ⟨rfl, rfl⟩)
        go_round
        case rel => exact ⟨k + 1, by go_num, by omega, HA2⟩
        case measure => simp [intOf]; try omega
    · have HR := Lib.hid (HY.out (by have := HA.out; rw [show k = s.length by omega, List.take_length] at this; exact this))
      go_wp2
      go_ret
      exact ⟨by rw [HR.out]; rfl, rfl⟩
theorem fitP_step {s : Str} {k : Nat} (h : k < s.length) : (s.take (k + 1)).all fitB = ((s.take k).all fitB && (innB s[k] || decide (s[k].toNat = 42 ∨ s[k].toNat = 63))) := all_take h
set_option maxRecDepth 100000 in
theorem rfits_any (s : Str) (hs : s.length ≤ 1000000) (w : World) : Calls Try.prog 40 #[.string ⟨s.toArray⟩] w fun e w' => e = .returned (.bool (fitsR s)) ∧ w = w' := by
  obtain ⟨c0, hc0⟩ : ∃ b, decide (1 ≤ s.length ∧ s.length ≤ 32) = b := ⟨_, rfl⟩
  have HR := Lib.hid (show fitsR s = (c0 && s.all fitB) by unfold fitsR; rw [hc0])
  go_enter Try.func40, Try.ntmps40
  by_cases g1 : 1 ≤ s.length ∧ s.length ≤ 32
  case' pos => have hc1 : c0 = true := by rw [← hc0]; exact decide_eq_true g1
  case' neg => have hc1 : c0 = false := by rw [← hc0]; exact decide_eq_false g1
  all_goals
    subst hc1
    clear hc0
  case neg =>
    rcases (show s.length = 0 ∨ (1 ≤ s.length ∧ 32 < s.length) by omega) with g | ⟨g, g2⟩
    all_goals
      clear g1
      go_wp2
      go_loop [3, 4] (fun a b => ∃ k : Nat, a = .bool false ∧ b = .int .i64 k ∧ k ≤ s.length) (fun _ b => 1000001 - (intOf b).toNat)
      case atStart => exact ⟨0, by first | rfl | (simp; omega), rfl, by omega⟩
      case round =>
        obtain ⟨k, rfl, rfl, hk⟩ := hrel
        by_cases hlt : k < s.length
        · first
          | (exfalso; omega)
          | (have hix : (⟨s.toArray⟩ : ByteArray)[k]'(by simpa [ByteArray.size] using hlt) = s[k] := rfl
             go_wp2_with fail
             go_round
             case rel => exact ⟨k + 1, rfl, by go_num, by omega⟩
             case measure => simp [intOf]; try omega)
        · go_wp2
          go_ret
          exact ⟨by rw [HR.out]; try rfl, rfl⟩
  case pos =>
    have g := g1.1
    have g2 := g1.2
    clear g1
    go_wp2
    go_loop [3, 4] (fun a b => ∃ (k : Nat) (v : Bool), a = .bool v ∧ b = .int .i64 k ∧ k ≤ s.length ∧ Hid ((s.take k).all fitB = v)) (fun _ b => 1000001 - (intOf b).toNat)
    case atStart => exact ⟨0, true, by first | rfl | (simp; omega), rfl, by omega, Lib.hid rfl⟩
    case round =>
      obtain ⟨k, v, rfl, rfl, hk, HV⟩ := hrel
      by_cases hlt : k < s.length
      · have hix : (⟨s.toArray⟩ : ByteArray)[k]'(by simpa [ByteArray.size] using hlt) = s[k] := rfl
        have HS := Lib.hid (fitP_step hlt)
        have hin := fun w => rinner_any s[k] w
        obtain ⟨b1, hb1⟩ : ∃ b, innB s[k] = b := ⟨_, rfl⟩
        rw [hb1] at hin HS
        clear hb1
        cases v
        · go_wp2_with fail
          go_round
          case rel => exact ⟨k + 1, false, rfl, by go_num, by omega, Lib.hid (by rw [HS.out, HV.out]; try rfl)⟩
          case measure => simp [intOf]; try omega
        · cases b1
          · by_cases h42 : s[k] = 42
            · have q1 := (u8_t (n := 42) (d := 42) rfl h42)
              have HD := Lib.hid (show decide (s[k].toNat = 42 ∨ s[k].toNat = 63) = true by rw [h42]; rfl)
              clear h42
              go_wp2_with (go_at_call 46; refine (hin _).mono ?_; rintro e w1 ⟨rfl, rfl⟩)
              go_round
              case rel => exact ⟨k + 1, true, rfl, by go_num, by omega, Lib.hid (by rw [HS.out, HV.out, HD.out]; try rfl)⟩
              case measure => simp [intOf]; try omega
            · have q1 := (u8_f (n := 42) (d := 42) rfl h42)
              by_cases h63 : s[k] = 63
              · have q2 := (u8_t (n := 63) (d := 63) rfl h63)
                have HD := Lib.hid (show decide (s[k].toNat = 42 ∨ s[k].toNat = 63) = true by rw [h63]; rfl)
                clear h42 h63
                go_wp2_with (go_at_call 46; refine (hin _).mono ?_; rintro e w1 ⟨rfl, rfl⟩)
                go_round
                case rel => exact ⟨k + 1, true, rfl, by go_num, by omega, Lib.hid (by rw [HS.out, HV.out, HD.out]; try rfl)⟩
                case measure => simp [intOf]; try omega
              · have q2 := (u8_f (n := 63) (d := 63) rfl h63)
                have HD := Lib.hid (show decide (s[k].toNat = 42 ∨ s[k].toNat = 63) = false from decide_eq_false (fun h => h.elim (fun h => h42 (UInt8.toNat_inj.1 h)) (fun h => h63 (UInt8.toNat_inj.1 h))))
                clear h42 h63
                go_wp2_with (go_at_call 46; refine (hin _).mono ?_; rintro e w1 ⟨rfl, rfl⟩)
                go_round
                case rel => exact ⟨k + 1, false, rfl, by go_num, by omega, Lib.hid (by rw [HS.out, HV.out, HD.out]; try rfl)⟩
                case measure => simp [intOf]; try omega
          · go_wp2_with (go_at_call 46; refine (hin _).mono ?_; rintro e w1 ⟨rfl, rfl⟩)
            go_round
            case rel => exact ⟨k + 1, true, rfl, by go_num, by omega, Lib.hid (by rw [HS.out, HV.out]; try rfl)⟩
            case measure => simp [intOf]; try omega
      · have HE := Lib.hid (show fitsR s = v by
          have := HV.out
          rw [show k = s.length by omega, List.take_length] at this
          rw [HR.out, this]; rfl)
        go_wp2
        go_ret
        exact ⟨by rw [HE.out]; rfl, rfl⟩
end Word
end Go.Proofs.Ytompphakagoaeaa
