/- Package word and its reference: letters, names, patterns. Printed by gen_wordis.py. -/
import Derived.Test.YtompphakagoaeaaWordB
namespace Go.Proofs.Ytompphakagoaeaa
open Go.RowKit
set_option linter.unusedVariables false
set_option linter.unusedSimpArgs false
namespace Word
def letB (c : UInt8) : Bool := decide ((97 ≤ c.toNat ∧ c.toNat ≤ 122) ∨ (65 ≤ c.toNat ∧ c.toNat ≤ 90))
def innB (c : UInt8) : Bool := letB c || decide ((48 ≤ c.toNat ∧ c.toNat ≤ 57) ∨ c.toNat = 45 ∨ c.toNat = 95 ∨ c.toNat = 46)
def fitB (c : UInt8) : Bool := innB c || decide (c.toNat = 42 ∨ c.toNat = 63)
def headL : Str → Bool
  | [] => true
  | c :: _ => letB c
/-- May it be a name? -/
def isR (s : Str) : Bool := decide (1 ≤ s.length ∧ s.length ≤ 32) && (s.all innB && headL s)
/-- May it be a pattern? -/
def fitsR (s : Str) : Bool := decide (1 ≤ s.length ∧ s.length ≤ 32) && s.all fitB
theorem all_take {p : UInt8 → Bool} {s : Str} {k : Nat} (h : k < s.length) : (s.take (k + 1)).all p = ((s.take k).all p && p s[k]) := by
  rw [List.take_succ_eq_append_getElem h, List.all_append]
  simp
theorem all_not {p : UInt8 → Bool} {s : Str} {k : Nat} (h : k < s.length) (hp : p s[k] = false) : s.all p = false := by
  rw [List.all_eq_false]
  exact ⟨s[k], List.getElem_mem h, by simp [hp]⟩
theorem headL_take {s : Str} {k : Nat} (h : k < s.length) : headL (s.take (k + 1)) = if k = 0 then letB s[k] else headL (s.take k) := by
  cases s with
  | nil => simp at h
  | cons c s =>
    cases k with
    | zero => rfl
    | succ k => rfl
theorem headL_zero {s : Str} (h : 0 < s.length) : headL s = letB s[0] := by
  cases s with
  | nil => simp at h
  | cons c s => rfl
theorem letter_any (c : UInt8) (w : World) : Calls Try.prog 49 #[.int .u8 c.toNat] w fun e w' => e = .returned (.bool (letB c)) ∧ w = w' := by
  have hb := c.toNat_lt
  obtain ⟨b, hl⟩ : ∃ b, letB c = b := ⟨_, rfl⟩
  have hn := hl
  unfold letB at hn
  rw [hl]
  obtain ⟨n, hcn⟩ : ∃ n : Nat, c.toNat = n := ⟨_, rfl⟩
  rw [hcn] at hb hn ⊢
  clear hcn hl
  rcases (show (n < 65) ∨ (65 ≤ n ∧ n ≤ 90) ∨ (90 < n ∧ n < 97) ∨ (97 ≤ n ∧ n ≤ 122) ∨ (122 < n) by omega) with h | ⟨h, h2⟩ | ⟨h, h2⟩ | ⟨h, h2⟩ | h
  · have hv : b = false := hn.symm.trans (decide_eq_false (by omega))
    subst hv
    clear hn
    go_enter Try.func49, Try.ntmps49
    go_wp2
    go_ret
    exact ⟨by first | rfl | (simp; done) | (simp; omega), rfl⟩
  · have hv : b = true := hn.symm.trans (decide_eq_true (by omega))
    subst hv
    clear hn
    go_enter Try.func49, Try.ntmps49
    go_wp2
    go_ret
    exact ⟨by first | rfl | (simp; done) | (simp; omega), rfl⟩
  · have hv : b = false := hn.symm.trans (decide_eq_false (by omega))
    subst hv
    clear hn
    go_enter Try.func49, Try.ntmps49
    go_wp2
    go_ret
    exact ⟨by first | rfl | (simp; done) | (simp; omega), rfl⟩
  · have hv : b = true := hn.symm.trans (decide_eq_true (by omega))
    subst hv
    clear hn
    go_enter Try.func49, Try.ntmps49
    go_wp2
    go_ret
    exact ⟨by first | rfl | (simp; done) | (simp; omega), rfl⟩
  · have hv : b = false := hn.symm.trans (decide_eq_false (by omega))
    subst hv
    clear hn
    go_enter Try.func49, Try.ntmps49
    go_wp2
    go_ret
    exact ⟨by first | rfl | (simp; done) | (simp; omega), rfl⟩
theorem rletter_any (c : UInt8) (w : World) : Calls Try.prog 48 #[.int .u8 c.toNat] w fun e w' => e = .returned (.bool (letB c)) ∧ w = w' := by
  have hb := c.toNat_lt
  obtain ⟨b, hl⟩ : ∃ b, letB c = b := ⟨_, rfl⟩
  have hn := hl
  unfold letB at hn
  rw [hl]
  obtain ⟨n, hcn⟩ : ∃ n : Nat, c.toNat = n := ⟨_, rfl⟩
  rw [hcn] at hb hn ⊢
  clear hcn hl
  rcases (show (n < 65) ∨ (65 ≤ n ∧ n ≤ 90) ∨ (90 < n ∧ n < 97) ∨ (97 ≤ n ∧ n ≤ 122) ∨ (122 < n) by omega) with h | ⟨h, h2⟩ | ⟨h, h2⟩ | ⟨h, h2⟩ | h
  · have hv : b = false := hn.symm.trans (decide_eq_false (by omega))
    subst hv
    clear hn
    go_enter Try.func48, Try.ntmps48
    go_wp2
    go_ret
    exact ⟨by first | rfl | (simp; done) | (simp; omega), rfl⟩
  · have hv : b = true := hn.symm.trans (decide_eq_true (by omega))
    subst hv
    clear hn
    go_enter Try.func48, Try.ntmps48
    go_wp2
    go_ret
    exact ⟨by first | rfl | (simp; done) | (simp; omega), rfl⟩
  · have hv : b = false := hn.symm.trans (decide_eq_false (by omega))
    subst hv
    clear hn
    go_enter Try.func48, Try.ntmps48
    go_wp2
    go_ret
    exact ⟨by first | rfl | (simp; done) | (simp; omega), rfl⟩
  · have hv : b = true := hn.symm.trans (decide_eq_true (by omega))
    subst hv
    clear hn
    go_enter Try.func48, Try.ntmps48
    go_wp2
    go_ret
    exact ⟨by first | rfl | (simp; done) | (simp; omega), rfl⟩
  · have hv : b = false := hn.symm.trans (decide_eq_false (by omega))
    subst hv
    clear hn
    go_enter Try.func48, Try.ntmps48
    go_wp2
    go_ret
    exact ⟨by first | rfl | (simp; done) | (simp; omega), rfl⟩
theorem inner_any (c : UInt8) (w : World) : Calls Try.prog 47 #[.int .u8 c.toNat] w fun e w' => e = .returned (.bool (innB c)) ∧ w = w' := by
  have hb := c.toNat_lt
  have hlet := fun w => letter_any c w
  obtain ⟨b, hl⟩ : ∃ b, innB c = b := ⟨_, rfl⟩
  have hn := hl
  unfold innB letB at hn
  obtain ⟨bl, hll⟩ : ∃ b, letB c = b := ⟨_, rfl⟩
  have hm := hll
  unfold letB at hm
  rw [hl]
  rw [hll] at hlet
  obtain ⟨n, hcn⟩ : ∃ n : Nat, c.toNat = n := ⟨_, rfl⟩
  rw [hcn] at hb hn hm hlet ⊢
  clear hcn hl hll
  rcases (show (n < 45) ∨ (n = 45) ∨ (n = 46) ∨ (n = 47) ∨ (48 ≤ n ∧ n ≤ 57) ∨ (57 < n ∧ n < 65) ∨ (65 ≤ n ∧ n ≤ 90) ∨ (90 < n ∧ n < 95) ∨ (n = 95) ∨ (n = 96) ∨ (97 ≤ n ∧ n ≤ 122) ∨ (122 < n) by omega) with h | rfl | rfl | rfl | ⟨h, h2⟩ | ⟨h, h2⟩ | ⟨h, h2⟩ | ⟨h, h2⟩ | rfl | rfl | ⟨h, h2⟩ | h
  · have hv : bl = false := hm.symm.trans (decide_eq_false (by omega))
    subst hv
    rw [hm, Bool.false_or] at hn
    have hv : b = false := hn.symm.trans (decide_eq_false (by omega))
    subst hv
    clear hn hm
    go_enter Try.func47, Try.ntmps47
    go_wp2_with (go_at_call 49; refine (hlet _).mono ?_; rintro e w1 ⟨rfl, rfl⟩)
    go_ret
    exact ⟨by first | rfl | (simp; done) | (simp; omega), rfl⟩
  · have hv : bl = false := hm.symm.trans (decide_eq_false (by omega))
    subst hv
    rw [hm, Bool.false_or] at hn
    have hv : b = true := hn.symm.trans (decide_eq_true (by omega))
    subst hv
    clear hn hm
    go_enter Try.func47, Try.ntmps47
    go_wp2_with (go_at_call 49; refine (hlet _).mono ?_; rintro e w1 ⟨rfl, rfl⟩)
    go_ret
    exact ⟨by first | rfl | (simp; done) | (simp; omega), rfl⟩
  · have hv : bl = false := hm.symm.trans (decide_eq_false (by omega))
    subst hv
    rw [hm, Bool.false_or] at hn
    have hv : b = true := hn.symm.trans (decide_eq_true (by omega))
    subst hv
    clear hn hm
    go_enter Try.func47, Try.ntmps47
    go_wp2_with (go_at_call 49; refine (hlet _).mono ?_; rintro e w1 ⟨rfl, rfl⟩)
    go_ret
    exact ⟨by first | rfl | (simp; done) | (simp; omega), rfl⟩
  · have hv : bl = false := hm.symm.trans (decide_eq_false (by omega))
    subst hv
    rw [hm, Bool.false_or] at hn
    have hv : b = false := hn.symm.trans (decide_eq_false (by omega))
    subst hv
    clear hn hm
    go_enter Try.func47, Try.ntmps47
    go_wp2_with (go_at_call 49; refine (hlet _).mono ?_; rintro e w1 ⟨rfl, rfl⟩)
    go_ret
    exact ⟨by first | rfl | (simp; done) | (simp; omega), rfl⟩
  · have hv : bl = false := hm.symm.trans (decide_eq_false (by omega))
    subst hv
    rw [hm, Bool.false_or] at hn
    have hv : b = true := hn.symm.trans (decide_eq_true (by omega))
    subst hv
    clear hn hm
    go_enter Try.func47, Try.ntmps47
    go_wp2_with (go_at_call 49; refine (hlet _).mono ?_; rintro e w1 ⟨rfl, rfl⟩)
    go_ret
    exact ⟨by first | rfl | (simp; done) | (simp; omega), rfl⟩
  · have hv : bl = false := hm.symm.trans (decide_eq_false (by omega))
    subst hv
    rw [hm, Bool.false_or] at hn
    have hv : b = false := hn.symm.trans (decide_eq_false (by omega))
    subst hv
    clear hn hm
    go_enter Try.func47, Try.ntmps47
    go_wp2_with (go_at_call 49; refine (hlet _).mono ?_; rintro e w1 ⟨rfl, rfl⟩)
    go_ret
    exact ⟨by first | rfl | (simp; done) | (simp; omega), rfl⟩
  · have hv : bl = true := hm.symm.trans (decide_eq_true (by omega))
    subst hv
    rw [hm, Bool.true_or] at hn
    have hv : b = true := hn.symm
    subst hv
    clear hn hm
    go_enter Try.func47, Try.ntmps47
    go_wp2_with (go_at_call 49; refine (hlet _).mono ?_; rintro e w1 ⟨rfl, rfl⟩)
    go_ret
    exact ⟨by first | rfl | (simp; done) | (simp; omega), rfl⟩
  · have hv : bl = false := hm.symm.trans (decide_eq_false (by omega))
    subst hv
    rw [hm, Bool.false_or] at hn
    have hv : b = false := hn.symm.trans (decide_eq_false (by omega))
    subst hv
    clear hn hm
    go_enter Try.func47, Try.ntmps47
    go_wp2_with (go_at_call 49; refine (hlet _).mono ?_; rintro e w1 ⟨rfl, rfl⟩)
    go_ret
    exact ⟨by first | rfl | (simp; done) | (simp; omega), rfl⟩
  · have hv : bl = false := hm.symm.trans (decide_eq_false (by omega))
    subst hv
    rw [hm, Bool.false_or] at hn
    have hv : b = true := hn.symm.trans (decide_eq_true (by omega))
    subst hv
    clear hn hm
    go_enter Try.func47, Try.ntmps47
    go_wp2_with (go_at_call 49; refine (hlet _).mono ?_; rintro e w1 ⟨rfl, rfl⟩)
    go_ret
    exact ⟨by first | rfl | (simp; done) | (simp; omega), rfl⟩
  · have hv : bl = false := hm.symm.trans (decide_eq_false (by omega))
    subst hv
    rw [hm, Bool.false_or] at hn
    have hv : b = false := hn.symm.trans (decide_eq_false (by omega))
    subst hv
    clear hn hm
    go_enter Try.func47, Try.ntmps47
    go_wp2_with (go_at_call 49; refine (hlet _).mono ?_; rintro e w1 ⟨rfl, rfl⟩)
    go_ret
    exact ⟨by first | rfl | (simp; done) | (simp; omega), rfl⟩
  · have hv : bl = true := hm.symm.trans (decide_eq_true (by omega))
    subst hv
    rw [hm, Bool.true_or] at hn
    have hv : b = true := hn.symm
    subst hv
    clear hn hm
    go_enter Try.func47, Try.ntmps47
    go_wp2_with (go_at_call 49; refine (hlet _).mono ?_; rintro e w1 ⟨rfl, rfl⟩)
    go_ret
    exact ⟨by first | rfl | (simp; done) | (simp; omega), rfl⟩
  · have hv : bl = false := hm.symm.trans (decide_eq_false (by omega))
    subst hv
    rw [hm, Bool.false_or] at hn
    have hv : b = false := hn.symm.trans (decide_eq_false (by omega))
    subst hv
    clear hn hm
    go_enter Try.func47, Try.ntmps47
    go_wp2_with (go_at_call 49; refine (hlet _).mono ?_; rintro e w1 ⟨rfl, rfl⟩)
    go_ret
    exact ⟨by first | rfl | (simp; done) | (simp; omega), rfl⟩
theorem rinner_any (c : UInt8) (w : World) : Calls Try.prog 46 #[.int .u8 c.toNat] w fun e w' => e = .returned (.bool (innB c)) ∧ w = w' := by
  have hb := c.toNat_lt
  have hlet := fun w => rletter_any c w
  obtain ⟨b, hl⟩ : ∃ b, innB c = b := ⟨_, rfl⟩
  have hn := hl
  unfold innB letB at hn
  obtain ⟨bl, hll⟩ : ∃ b, letB c = b := ⟨_, rfl⟩
  have hm := hll
  unfold letB at hm
  rw [hl]
  rw [hll] at hlet
  obtain ⟨n, hcn⟩ : ∃ n : Nat, c.toNat = n := ⟨_, rfl⟩
  rw [hcn] at hb hn hm hlet ⊢
  clear hcn hl hll
  rcases (show (n < 45) ∨ (n = 45) ∨ (n = 46) ∨ (n = 47) ∨ (48 ≤ n ∧ n ≤ 57) ∨ (57 < n ∧ n < 65) ∨ (65 ≤ n ∧ n ≤ 90) ∨ (90 < n ∧ n < 95) ∨ (n = 95) ∨ (n = 96) ∨ (97 ≤ n ∧ n ≤ 122) ∨ (122 < n) by omega) with h | rfl | rfl | rfl | ⟨h, h2⟩ | ⟨h, h2⟩ | ⟨h, h2⟩ | ⟨h, h2⟩ | rfl | rfl | ⟨h, h2⟩ | h
  · have hv : bl = false := hm.symm.trans (decide_eq_false (by omega))
    subst hv
    rw [hm, Bool.false_or] at hn
    have hv : b = false := hn.symm.trans (decide_eq_false (by omega))
    subst hv
    clear hn hm
    go_enter Try.func46, Try.ntmps46
    go_wp2_with (go_at_call 48; refine (hlet _).mono ?_; rintro e w1 ⟨rfl, rfl⟩)
    go_ret
    exact ⟨by first | rfl | (simp; done) | (simp; omega), rfl⟩
  · have hv : bl = false := hm.symm.trans (decide_eq_false (by omega))
    subst hv
    rw [hm, Bool.false_or] at hn
    have hv : b = true := hn.symm.trans (decide_eq_true (by omega))
    subst hv
    clear hn hm
    go_enter Try.func46, Try.ntmps46
    go_wp2_with (go_at_call 48; refine (hlet _).mono ?_; rintro e w1 ⟨rfl, rfl⟩)
    go_ret
    exact ⟨by first | rfl | (simp; done) | (simp; omega), rfl⟩
  · have hv : bl = false := hm.symm.trans (decide_eq_false (by omega))
    subst hv
    rw [hm, Bool.false_or] at hn
    have hv : b = true := hn.symm.trans (decide_eq_true (by omega))
    subst hv
    clear hn hm
    go_enter Try.func46, Try.ntmps46
    go_wp2_with (go_at_call 48; refine (hlet _).mono ?_; rintro e w1 ⟨rfl, rfl⟩)
    go_ret
    exact ⟨by first | rfl | (simp; done) | (simp; omega), rfl⟩
  · have hv : bl = false := hm.symm.trans (decide_eq_false (by omega))
    subst hv
    rw [hm, Bool.false_or] at hn
    have hv : b = false := hn.symm.trans (decide_eq_false (by omega))
    subst hv
    clear hn hm
    go_enter Try.func46, Try.ntmps46
    go_wp2_with (go_at_call 48; refine (hlet _).mono ?_; rintro e w1 ⟨rfl, rfl⟩)
    go_ret
    exact ⟨by first | rfl | (simp; done) | (simp; omega), rfl⟩
  · have hv : bl = false := hm.symm.trans (decide_eq_false (by omega))
    subst hv
    rw [hm, Bool.false_or] at hn
    have hv : b = true := hn.symm.trans (decide_eq_true (by omega))
    subst hv
    clear hn hm
    go_enter Try.func46, Try.ntmps46
    go_wp2_with (go_at_call 48; refine (hlet _).mono ?_; rintro e w1 ⟨rfl, rfl⟩)
    go_ret
    exact ⟨by first | rfl | (simp; done) | (simp; omega), rfl⟩
  · have hv : bl = false := hm.symm.trans (decide_eq_false (by omega))
    subst hv
    rw [hm, Bool.false_or] at hn
    have hv : b = false := hn.symm.trans (decide_eq_false (by omega))
    subst hv
    clear hn hm
    go_enter Try.func46, Try.ntmps46
    go_wp2_with (go_at_call 48; refine (hlet _).mono ?_; rintro e w1 ⟨rfl, rfl⟩)
    go_ret
    exact ⟨by first | rfl | (simp; done) | (simp; omega), rfl⟩
  · have hv : bl = true := hm.symm.trans (decide_eq_true (by omega))
    subst hv
    rw [hm, Bool.true_or] at hn
    have hv : b = true := hn.symm
    subst hv
    clear hn hm
    go_enter Try.func46, Try.ntmps46
    go_wp2_with (go_at_call 48; refine (hlet _).mono ?_; rintro e w1 ⟨rfl, rfl⟩)
    go_ret
    exact ⟨by first | rfl | (simp; done) | (simp; omega), rfl⟩
  · have hv : bl = false := hm.symm.trans (decide_eq_false (by omega))
    subst hv
    rw [hm, Bool.false_or] at hn
    have hv : b = false := hn.symm.trans (decide_eq_false (by omega))
    subst hv
    clear hn hm
    go_enter Try.func46, Try.ntmps46
    go_wp2_with (go_at_call 48; refine (hlet _).mono ?_; rintro e w1 ⟨rfl, rfl⟩)
    go_ret
    exact ⟨by first | rfl | (simp; done) | (simp; omega), rfl⟩
  · have hv : bl = false := hm.symm.trans (decide_eq_false (by omega))
    subst hv
    rw [hm, Bool.false_or] at hn
    have hv : b = true := hn.symm.trans (decide_eq_true (by omega))
    subst hv
    clear hn hm
    go_enter Try.func46, Try.ntmps46
    go_wp2_with (go_at_call 48; refine (hlet _).mono ?_; rintro e w1 ⟨rfl, rfl⟩)
    go_ret
    exact ⟨by first | rfl | (simp; done) | (simp; omega), rfl⟩
  · have hv : bl = false := hm.symm.trans (decide_eq_false (by omega))
    subst hv
    rw [hm, Bool.false_or] at hn
    have hv : b = false := hn.symm.trans (decide_eq_false (by omega))
    subst hv
    clear hn hm
    go_enter Try.func46, Try.ntmps46
    go_wp2_with (go_at_call 48; refine (hlet _).mono ?_; rintro e w1 ⟨rfl, rfl⟩)
    go_ret
    exact ⟨by first | rfl | (simp; done) | (simp; omega), rfl⟩
  · have hv : bl = true := hm.symm.trans (decide_eq_true (by omega))
    subst hv
    rw [hm, Bool.true_or] at hn
    have hv : b = true := hn.symm
    subst hv
    clear hn hm
    go_enter Try.func46, Try.ntmps46
    go_wp2_with (go_at_call 48; refine (hlet _).mono ?_; rintro e w1 ⟨rfl, rfl⟩)
    go_ret
    exact ⟨by first | rfl | (simp; done) | (simp; omega), rfl⟩
  · have hv : bl = false := hm.symm.trans (decide_eq_false (by omega))
    subst hv
    rw [hm, Bool.false_or] at hn
    have hv : b = false := hn.symm.trans (decide_eq_false (by omega))
    subst hv
    clear hn hm
    go_enter Try.func46, Try.ntmps46
    go_wp2_with (go_at_call 48; refine (hlet _).mono ?_; rintro e w1 ⟨rfl, rfl⟩)
    go_ret
    exact ⟨by first | rfl | (simp; done) | (simp; omega), rfl⟩
end Word
end Go.Proofs.Ytompphakagoaeaa
