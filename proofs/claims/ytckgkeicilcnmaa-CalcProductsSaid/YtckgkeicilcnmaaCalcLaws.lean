/- The walks of the four laws of package calc: each returns true, whatever it is given. -/
import Derived.Test.YtckgkeicilcnmaaCalc
import Derived.BigGuardPart
namespace Go.Proofs.Ytckgkeicilcnmaa
open Go.RowKit
set_option linter.unusedVariables false
set_option linter.unusedSimpArgs false
namespace Calc
theorem k1 : addR 1099511627776 0 = (1099511627776, 0) := by decide +kernel
theorem k2 : addR 1099511627776 1 = (0, 2) := by decide +kernel
theorem k3 : addR (-1) 1 = (0, 1) := by decide +kernel
theorem k4 : mulR 1048576 1048576 = (1099511627776, 0) := by decide +kernel
theorem k5 : mulR 1048577 1048576 = (0, 2) := by decide +kernel
theorem k6 : dblR 3 4 40 = (40, 0) := by decide +kernel
theorem k7 : holdR 5 1 3 = 3 := by decide +kernel
theorem works_any (w : World) : Calls Try.prog 16 #[] w fun e w' => e = .returned (.bool true) ∧ ∃ n, w' = w.drewN n := by
  go_enter Try.func16, Try.ntmps16
  go_wp2_with (first
    | (go_at_call 19; refine (add_any _ _ _).mono ?_; rintro e w' ⟨rfl, rfl⟩; simp only [pair, k1, k2, k3])
    | (go_at_call 12; refine (mul_any _ _ _).mono ?_; rintro e w' ⟨rfl, rfl⟩; simp only [pair, k4, k5])
    | (go_at_call 17; refine (double_any _ _ _ _ (by unfold I64; omega)).mono ?_; rintro e w' ⟨rfl, rfl⟩; simp only [pair, k6])
    | (go_at_call 14; refine (div_yes _ _ _ (by decide) (by decide) (by decide)).mono ?_; rintro e w' ⟨rfl, n, rfl⟩)
    | (go_at_call 26; refine (hold_any _ _ _ _).mono ?_; rintro e w' ⟨rfl, rfl⟩; simp only [k7]))
  go_ret
  exact ⟨rfl, _, rfl⟩
theorem products_any (a b : Int) (w : World) : Calls Try.prog 3 #[.int .i64 a, .int .i64 b] w fun e w' => e = .returned (.bool true) ∧ ∃ n, w' = w.drewN n := by
  by_cases hv : isT a = true ∧ isT b = true
  · obtain ⟨ha, hb⟩ := hv
    obtain ⟨a1, a2⟩ := isT_iff.1 ha
    obtain ⟨b1, b2⟩ := isT_iff.1 hb
    by_cases hz : b = 0
    · subst hz
      have hm : mulR a 0 = (0, 0) := by simp [mulR, ha, show isT 0 = true from rfl]
      have hd : ∀ x, divR x 0 = (0, 0, 1) := fun x => divR_no (.inr (.inr rfl))
      have Hm := Lib.hid hm
      have Hd := Lib.hid hd
      clear hm hd
      go_enter Try.func3, Try.ntmps3
      go_wp2_with (first
        | (go_at_call 12; refine (mul_any _ _ _).mono ?_; rintro e w' ⟨rfl, rfl⟩; simp only [pair, Hm.out])
        | (go_at_call 13; refine (rmul_any _ _ _).mono ?_; rintro e w' ⟨rfl, rfl⟩; simp only [pair, Hm.out])
        | (go_at_call 14; refine (div_any _ _ _).mono ?_; rintro e w' ⟨rfl, n, rfl⟩; simp only [trip, Hd.out])
        | (go_at_call 15; refine (ris_any _ _).mono ?_; rintro e w' ⟨rfl, rfl⟩)
        | (go_at_call 16; refine (works_any _).mono ?_; rintro e w' ⟨rfl, n, rfl⟩))
      go_ret
      exact ⟨rfl, _, rfl⟩
    · have hd := Lib.hid (divR_yes ha hb hz)
      have e1 : a / b * b + a % b = a := Int.ediv_mul_add_emod a b
      have e2 : 0 ≤ a % b := Int.emod_nonneg _ hz
      have e3 : a % b < b := Int.emod_lt_of_pos _ (by omega)
      have e4 : 0 ≤ a / b * b := Int.mul_nonneg (Int.ediv_nonneg a1 b1) b1
      have e5 : 0 < b := by omega
      have e6 : a / b * b ≤ a := by omega
      have e7 : (a / b * b + a % b == a) = true := by simpa using e1
      clear e1
      by_cases hc : a * b ≤ 1099511627776
      · have hab : isT (a * b) = true := isT_iff.2 ⟨Int.mul_nonneg a1 b1, hc⟩
        have Hm := Lib.hid (show mulR a b = (a * b, 0) by simp [mulR, ha, hb, hc])
        have Hd := Lib.hid (show divR (a * b) b = (a, 0, 0) by rw [divR_yes hab hb hz, Int.mul_ediv_cancel _ hz, Int.mul_emod_left])
        clear hc hab
        go_enter Try.func3, Try.ntmps3
        go_wp2_with (first
          | (go_at_call 12; refine (mul_any _ _ _).mono ?_; rintro e w' ⟨rfl, rfl⟩; simp only [pair, Hm.out])
          | (go_at_call 13; refine (rmul_any _ _ _).mono ?_; rintro e w' ⟨rfl, rfl⟩; simp only [pair, Hm.out])
          | (go_at_call 14; refine (div_any _ _ _).mono ?_; rintro e w' ⟨rfl, n, rfl⟩; simp only [trip, Hd.out, hd.out])
          | (go_at_call 15; refine (ris_any _ _).mono ?_; rintro e w' ⟨rfl, rfl⟩)
          | (go_at_call 16; refine (works_any _).mono ?_; rintro e w' ⟨rfl, n, rfl⟩))
        go_ret
        exact ⟨rfl, _, rfl⟩
      · have Hm := Lib.hid (show mulR a b = (0, 2) by simp [mulR, ha, hb]; omega)
        have Hd := Lib.hid (show divR 0 b = (0, 0, 0) by rw [divR_yes (by decide) hb hz]; simp)
        clear hc
        go_enter Try.func3, Try.ntmps3
        go_wp2_with (first
          | (go_at_call 12; refine (mul_any _ _ _).mono ?_; rintro e w' ⟨rfl, rfl⟩; simp only [pair, Hm.out])
          | (go_at_call 13; refine (rmul_any _ _ _).mono ?_; rintro e w' ⟨rfl, rfl⟩; simp only [pair, Hm.out])
          | (go_at_call 14; refine (div_any _ _ _).mono ?_; rintro e w' ⟨rfl, n, rfl⟩; simp only [trip, Hd.out, hd.out])
          | (go_at_call 15; refine (ris_any _ _).mono ?_; rintro e w' ⟨rfl, rfl⟩)
          | (go_at_call 16; refine (works_any _).mono ?_; rintro e w' ⟨rfl, n, rfl⟩))
        go_ret
        exact ⟨rfl, _, rfl⟩
  · have hv' : isT a = false ∨ isT b = false := by
      cases ha : isT a
      · exact .inl rfl
      · cases hb : isT b
        · exact .inr rfl
        · exact absurd ⟨ha, hb⟩ hv
    have Hm := Lib.hid (show mulR a b = (0, 1) by unfold mulR; rcases hv' with h | h <;> simp [h])
    have Hd := Lib.hid (show divR a b = (0, 0, 1) from divR_no (hv'.imp_right .inl))
    clear hv
    cases ha : isT a
    · clear hv'
      go_enter Try.func3, Try.ntmps3
      go_wp2_with (first
        | (go_at_call 12; refine (mul_any _ _ _).mono ?_; rintro e w' ⟨rfl, rfl⟩; simp only [pair, Hm.out])
        | (go_at_call 13; refine (rmul_any _ _ _).mono ?_; rintro e w' ⟨rfl, rfl⟩; simp only [pair, Hm.out])
        | (go_at_call 14; refine (div_any _ _ _).mono ?_; rintro e w' ⟨rfl, n, rfl⟩; simp only [trip, Hd.out])
        | (go_at_call 15; refine (ris_any _ _).mono ?_; rintro e w' ⟨rfl, rfl⟩)
        | (go_at_call 16; refine (works_any _).mono ?_; rintro e w' ⟨rfl, n, rfl⟩))
      go_ret
      exact ⟨rfl, _, rfl⟩
    · obtain hb : isT b = false := by rcases hv' with h | h; (rw [h] at ha; cases ha); exact h
      clear hv'
      go_enter Try.func3, Try.ntmps3
      go_wp2_with (first
        | (go_at_call 12; refine (mul_any _ _ _).mono ?_; rintro e w' ⟨rfl, rfl⟩; simp only [pair, Hm.out])
        | (go_at_call 13; refine (rmul_any _ _ _).mono ?_; rintro e w' ⟨rfl, rfl⟩; simp only [pair, Hm.out])
        | (go_at_call 14; refine (div_any _ _ _).mono ?_; rintro e w' ⟨rfl, n, rfl⟩; simp only [trip, Hd.out])
        | (go_at_call 15; refine (ris_any _ _).mono ?_; rintro e w' ⟨rfl, rfl⟩)
        | (go_at_call 16; refine (works_any _).mono ?_; rintro e w' ⟨rfl, n, rfl⟩))
      go_ret
      exact ⟨rfl, _, rfl⟩
theorem fr_drewN {w w' : World} (h : ∃ n, w' = w.drewN n) : Fr No w w' := by obtain ⟨n, rfl⟩ := h; exact (Fr.refl _ _).drewN n
theorem walk_CalcProducts (W : World) (v0 : Value) (x0 : Int) (h0 : (RInt .i64) W (Ahead W.heap.size) [v0] x0) (v1 : Value) (x1 : Int) (h1 : (RInt .i64) W (Ahead W.heap.size) [v1] x1) : Calls Try.prog 3 #[v0, v1] W fun e w' => e = .returned (.bool true) ∧ Fr No W w' := by
  obtain ⟨h0, _⟩ := h0
  obtain ⟨h1, _⟩ := h1
  injection h0 with h0
  injection h1 with h1
  subst h0 h1
  exact (products_any _ _ _).mono fun e w' h => ⟨h.1, fr_drewN h.2⟩
end Calc
end Go.Proofs.Ytckgkeicilcnmaa
