/- The walks of the four laws of package calc: each returns true, whatever it is given. -/
import Derived.Test.YtckgkeicilcnmaaCalc
import Derived.BigGuardPart
namespace Go.Proofs.Ytckgkeicilcnmaa
open Go.RowKit
set_option linter.unusedVariables false
set_option linter.unusedSimpArgs false
namespace Calc
theorem k1 : addR 1099511627776 0 = (1099511627776, 0) := by decide +kernel
theorem k2 : addR 1099511627776 1 = (0, 2) := by decide +kernel
theorem k3 : addR (-1) 1 = (0, 1) := by decide +kernel
theorem k4 : mulR 1048576 1048576 = (1099511627776, 0) := by decide +kernel
theorem k5 : mulR 1048577 1048576 = (0, 2) := by decide +kernel
theorem k6 : dblR 3 4 40 = (40, 0) := by decide +kernel
theorem k7 : holdR 5 1 3 = 3 := by decide +kernel
theorem works_any (w : World) : Calls Try.prog 16 #[] w fun e w' => e = .returned (.bool true) ∧ ∃ n, w' = w.drewN n := by
  go_enter Try.func16, Try.ntmps16
  go_wp2_with (first
    | (go_at_call 19; refine (add_any _ _ _).mono ?_; rintro e w' ⟨rfl, rfl⟩; simp only [pair, k1, k2, k3])
    | (go_at_call 12; refine (mul_any _ _ _).mono ?_; rintro e w' ⟨rfl, rfl⟩; simp only [pair, k4, k5])
    | (go_at_call 17; refine (double_any _ _ _ _ (by unfold I64; omega)).mono ?_; rintro e w' ⟨rfl, rfl⟩; simp only [pair, k6])
    | (go_at_call 14; refine (div_yes _ _ _ (by decide) (by decide) (by decide)).mono ?_; rintro e w' ⟨rfl, n, rfl⟩)
    | (go_at_call 26; refine (hold_any _ _ _ _).mono ?_; rintro e w' ⟨rfl, rfl⟩; simp only [k7]))
  go_ret
  exact ⟨rfl, _, rfl⟩
theorem products_any (a b : Int) (w : World) : Calls Try.prog 3 #[.int .i64 a, .int .i64 b] w fun e w' => e = .returned (.bool true) ∧ ∃ n, w' = w.drewN n := by
  by_cases hv : isT a = true ∧ isT b = true
  · obtain ⟨ha, hb⟩ := hv
    obtain ⟨a1, a2⟩ := isT_iff.1 ha
    obtain ⟨b1, b2⟩ := isT_iff.1 hb
    by_cases hz : b = 0
    · subst hz
      have hm : mulR a 0 = (0, 0) := by simp [mulR, ha, show isT 0 = true from rfl]
      have hd : ∀ x, divR x 0 = (0, 0, 1) := fun x => divR_no (.inr (.inr rfl))
      have Hm := Lib.hid hm
      have Hd := Lib.hid hd
      clear hm hd
      go_enter Try.func3, Try.ntmps3
      go_wp2_with (first
        | (go_at_call 12; refine (mul_any _ _ _).mono ?_; rintro e w' ⟨rfl, rfl⟩; simp only [pair, Hm.out])
        | (go_at_call 13; refine (rmul_any _ _ _).mono ?_; rintro e w' ⟨rfl, rfl⟩; simp only [pair, Hm.out])
        | (go_at_call 14; refine (div_any _ _ _).mono ?_; rintro e w' ⟨rfl, n, rfl⟩; simp only [trip, Hd.out])
        | (go_at_call 15; refine (ris_any _ _).mono ?_; rintro e w' ⟨rfl, rfl⟩)
        | (go_at_call 16; refine (works_any _).mono ?_; rintro e w' ⟨rfl, n, rfl⟩))
      go_ret
      exact ⟨rfl, _, rfl⟩
    · have hd := Lib.hid (divR_yes ha hb hz)
      have e1 : a / b * b + a % b = a := Int.ediv_mul_add_emod a b
      have e2 : 0 ≤ a % b := Int.emod_nonneg _ hz
      have e3 : a % b < b := Int.emod_lt_of_pos _ (by omega)
      have e4 : 0 ≤ a / b * b := Int.mul_nonneg (Int.ediv_nonneg a1 b1) b1
      have e5 : 0 < b := by omega
      have e6 : a / b * b ≤ a := by omega
      have e7 : (a / b * b + a % b == a) = true := by simpa using e1
      clear e1
      by_cases hc : a * b ≤ 1099511627776
      · have hab : isT (a * b) = true := isT_iff.2 ⟨Int.mul_nonneg a1 b1, hc⟩
        have Hm := Lib.hid (show mulR a b = (a * b, 0) by simp [mulR, ha, hb, hc])
        have Hd := Lib.hid (show divR (a * b) b = (a, 0, 0) by rw [divR_yes hab hb hz, Int.mul_ediv_cancel _ hz, Int.mul_emod_left])
        clear hc hab
        go_enter Try.func3, Try.ntmps3
        go_wp2_with (first
          | (go_at_call 12; refine (mul_any _ _ _).mono ?_; rintro e w' ⟨rfl, rfl⟩; simp only [pair, Hm.out])
          | (go_at_call 13; refine (rmul_any _ _ _).mono ?_; rintro e w' ⟨rfl, rfl⟩; simp only [pair, Hm.out])
          | (go_at_call 14; refine (div_any _ _ _).mono ?_; rintro e w' ⟨rfl, n, rfl⟩; simp only [trip, Hd.out, hd.out])
          | (go_at_call 15; refine (ris_any _ _).mono ?_; rintro e w' ⟨rfl, rfl⟩)
          | (go_at_call 16; refine (works_any _).mono ?_; rintro e w' ⟨rfl, n, rfl⟩))
        go_ret
        exact ⟨rfl, _, rfl⟩
      · have Hm := Lib.hid (show mulR a b = (0, 2) by simp [mulR, ha, hb]; omega)
        have Hd := Lib.hid (show divR 0 b = (0, 0, 0) by rw [divR_yes (by decide) hb hz]; simp)
        clear hc
        go_enter Try.func3, Try.ntmps3
        go_wp2_with (first
          | (go_at_call 12; refine (mul_any _ _ _).mono ?_; rintro e w' ⟨rfl, rfl⟩; simp only [pair, Hm.out])
          | (go_at_call 13; refine (rmul_any _ _ _).mono ?_; rintro e w' ⟨rfl, rfl⟩; simp only [pair, Hm.out])
          | (go_at_call 14; refine (div_any _ _ _).mono ?_; rintro e w' ⟨rfl, n, rfl⟩; simp only [trip, Hd.out, hd.out])
          | (go_at_call 15; refine (ris_any _ _).mono ?_; rintro e w' ⟨rfl, rfl⟩)
          | (go_at_call 16; refine (works_any _).mono ?_; rintro e w' ⟨rfl, n, rfl⟩))
        go_ret
        exact ⟨rfl, _, rfl⟩
  · have hv' : isT a = false ∨ isT b = false := by
      cases ha : isT a
      · exact .inl rfl
      · cases hb : isT b
        · exact .inr rfl
        · exact absurd ⟨ha, hb⟩ hv
    have Hm := Lib.hid (show mulR a b = (0, 1) by unfold mulR; rcases hv' with h | h <;> simp [h])
    have Hd := Lib.hid (show divR a b = (0, 0, 1) from divR_no (hv'.imp_right .inl))
    clear hv
    cases ha : isT a
    · clear hv'
      go_enter Try.func3, Try.ntmps3
      go_wp2_with (first
        | (go_at_call 12; refine (mul_any _ _ _).mono ?_; rintro e w' ⟨rfl, rfl⟩; simp only [pair, Hm.out])
        | (go_at_call 13; refine (rmul_any _ _ _).mono ?_; rintro e w' ⟨rfl, rfl⟩; simp only [pair, Hm.out])
        | (go_at_call 14; refine (div_any _ _ _).mono ?_; rintro e w' ⟨rfl, n, rfl⟩; simp only [trip, Hd.out])
        | (go_at_call 15; refine (ris_any _ _).mono ?_; rintro e w' ⟨rfl, rfl⟩)
        | (go_at_call 16; refine (works_any _).mono ?_; rintro e w' ⟨rfl, n, rfl⟩))
      go_ret
      exact ⟨rfl, _, rfl⟩
    · obtain hb : isT b = false := by rcases hv' with h | h; (rw [h] at ha; cases ha); exact h
      clear hv'
      go_enter Try.func3, Try.ntmps3
      go_wp2_with (first
        | (go_at_call 12; refine (mul_any _ _ _).mono ?_; rintro e w' ⟨rfl, rfl⟩; simp only [pair, Hm.out])
        | (go_at_call 13; refine (rmul_any _ _ _).mono ?_; rintro e w' ⟨rfl, rfl⟩; simp only [pair, Hm.out])
        | (go_at_call 14; refine (div_any _ _ _).mono ?_; rintro e w' ⟨rfl, n, rfl⟩; simp only [trip, Hd.out])
        | (go_at_call 15; refine (ris_any _ _).mono ?_; rintro e w' ⟨rfl, rfl⟩)
        | (go_at_call 16; refine (works_any _).mono ?_; rintro e w' ⟨rfl, n, rfl⟩))
      go_ret
      exact ⟨rfl, _, rfl⟩
theorem fr_drewN {w w' : World} (h : ∃ n, w' = w.drewN n) : Fr No w w' := by obtain ⟨n, rfl⟩ := h; exact (Fr.refl _ _).drewN n
theorem walk_CalcProducts (W : World) (v0 : Value) (x0 : Int) (h0 : (RInt .i64) W (Ahead W.heap.size) [v0] x0) (v1 : Value) (x1 : Int) (h1 : (RInt .i64) W (Ahead W.heap.size) [v1] x1) : Calls Try.prog 3 #[v0, v1] W fun e w' => e = .returned (.bool true) ∧ Fr No W w' := by
  obtain ⟨h0, _⟩ := h0
  obtain ⟨h1, _⟩ := h1
  injection h0 with h0
  injection h1 with h1
  subst h0 h1
  exact (products_any _ _ _).mono fun e w' h => ⟨h.1, fr_drewN h.2⟩
theorem doubles_any (b n m : Int) (w : World) (hn : I64 n) : Calls Try.prog 4 #[.int .i64 b, .int .i64 n, .int .i64 m] w fun e w' => e = .returned (.bool true) ∧ ∃ n, w' = w.drewN n := by
  cases hok : dblOk b n m
  · have Hd := Lib.hid (dblR_no hok)
    clear hok
    go_enter Try.func4, Try.ntmps4
    go_wp2_with (first
      | (go_at_call 17; refine (double_any _ _ _ _ (by first | assumption | exact hn1)).mono ?_; rintro e w' ⟨rfl, rfl⟩; simp only [pair, Hd.out])
      | (go_at_call 18; refine (rdouble_any _ _ _ _ (by assumption)).mono ?_; rintro e w' ⟨rfl, rfl⟩; simp only [pair, Hd.out])
      | (go_at_call 16; refine (works_any _).mono ?_; rintro e w' ⟨rfl, n, rfl⟩))
    go_ret
    exact ⟨rfl, _, rfl⟩
  · have Hd := Lib.hid (dblR_yes hok)
    obtain ⟨h1, h2, h3, h4⟩ := dblOk_iff.1 hok
    have i1 := dbl_in m n.toNat b h1 h2
    by_cases hbig : 1099511627776 < n
    · clear hok
      go_enter Try.func4, Try.ntmps4
      go_wp2_with (first
        | (go_at_call 17; refine (double_any _ _ _ _ (by first | assumption | exact hn1)).mono ?_; rintro e w' ⟨rfl, rfl⟩; simp only [pair, Hd.out])
        | (go_at_call 18; refine (rdouble_any _ _ _ _ (by assumption)).mono ?_; rintro e w' ⟨rfl, rfl⟩; simp only [pair, Hd.out])
        | (go_at_call 16; refine (works_any _).mono ?_; rintro e w' ⟨rfl, n, rfl⟩))
      go_ret
      exact ⟨rfl, _, rfl⟩
    · have hok1 : dblOk b (n + 1) m = true := dblOk_iff.2 ⟨h1, h2, h3, by omega⟩
      have Hd1 := Lib.hid (show dblR b (n + 1) m = (min (dbl m n.toNat b + dbl m n.toNat b) m, 0) by rw [dblR_yes hok1, show (n + 1).toNat = n.toNat + 1 by omega, dbl_succ])
      have hn1 : I64 (n + 1) := by unfold I64; omega
      obtain ⟨i2, i3⟩ := i1
      have Hx : ∃ x, x = dbl m n.toNat b := ⟨_, rfl⟩
      obtain ⟨x, hx⟩ := Hx
      rw [← hx] at i2 i3
      have Hd' := Lib.hid (show dblR b n m = (x, 0) by rw [hx]; exact Hd.out)
      obtain ⟨y, Hd1', y1, y2, y3⟩ : ∃ y, Hid (dblR b (n + 1) m = (y, 0)) ∧ x ≤ y ∧ y ≤ x + x ∧ y ≤ m := ⟨min (x + x) m, by rw [hx]; exact Hd1, by omega, by omega, by omega⟩
      clear hx Hd Hd1 hok hok1
      go_enter Try.func4, Try.ntmps4
      go_wp2_with (first
        | (go_at_call 17; refine (double_any _ _ _ _ (by first | assumption | exact hn1)).mono ?_; rintro e w' ⟨rfl, rfl⟩; simp only [pair, Hd'.out, Hd1'.out])
        | (go_at_call 18; refine (rdouble_any _ _ _ _ (by assumption)).mono ?_; rintro e w' ⟨rfl, rfl⟩; simp only [pair, Hd'.out, Hd1'.out])
        | (go_at_call 16; refine (works_any _).mono ?_; rintro e w' ⟨rfl, n, rfl⟩))
      go_ret
      exact ⟨rfl, _, rfl⟩
theorem addR_cases (a b : Int) : (addR a b = (a + b, 0) ∧ subR (a + b) b = (a, 0)) ∨ (∃ x y, addR a b = (x, y) ∧ (y == 0) = false ∧ (y != 0) = true) := by
  unfold addR
  by_cases h : (isT a && isT b) = true
  · rw [if_pos h]
    by_cases h2 : b ≤ 1099511627776 - a
    · left
      rw [if_pos h2]
      rw [Bool.and_eq_true, isT_iff, isT_iff] at h
      refine ⟨rfl, ?_⟩
      unfold subR
      have e1 : isT (a + b) = true := isT_iff.2 ⟨by omega, by omega⟩
      have e2 : isT b = true := isT_iff.2 ⟨by omega, by omega⟩
      rw [e1, e2, show (true && true) = true from rfl, if_pos rfl, if_pos (by omega)]
      congr 1
      omega
    · right; rw [if_neg h2]; exact ⟨_, _, rfl, rfl, rfl⟩
  · right; rw [if_neg h]; exact ⟨_, _, rfl, rfl, rfl⟩
theorem sums_any (a b : Int) (w : World) : Calls Try.prog 5 #[.int .i64 a, .int .i64 b] w fun e w' => e = .returned (.bool true) ∧ ∃ n, w' = w.drewN n := by
  rcases addR_cases a b with ⟨h1, h2⟩ | ⟨x, y, h1, h2, h3⟩
  · have H1 := Lib.hid h1
    have H2 := Lib.hid h2
    clear h1 h2
    go_enter Try.func5, Try.ntmps5
    go_wp2_with (first
      | (go_at_call 19; refine (add_any _ _ _).mono ?_; rintro e w' ⟨rfl, rfl⟩; simp only [pair, H1.out, H2.out])
      | (go_at_call 20; refine (radd_any _ _ _).mono ?_; rintro e w' ⟨rfl, rfl⟩; simp only [pair, H1.out, H2.out])
      | (go_at_call 21; refine (sub_any _ _ _).mono ?_; rintro e w' ⟨rfl, rfl⟩; simp only [pair, H1.out, H2.out])
      | (go_at_call 22; refine (rsub_any _ _ _).mono ?_; rintro e w' ⟨rfl, rfl⟩; simp only [pair, H1.out, H2.out])
      | (go_at_call 23; refine (is_any _ _).mono ?_; rintro e w' ⟨rfl, rfl⟩)
      | (go_at_call 15; refine (ris_any _ _).mono ?_; rintro e w' ⟨rfl, rfl⟩)
      | (go_at_call 16; refine (works_any _).mono ?_; rintro e w' ⟨rfl, n, rfl⟩))
    go_ret
    exact ⟨rfl, _, rfl⟩
  · have H1 := Lib.hid h1
    clear h1
    go_enter Try.func5, Try.ntmps5
    go_wp2_with (first
      | (go_at_call 19; refine (add_any _ _ _).mono ?_; rintro e w' ⟨rfl, rfl⟩; simp only [pair, H1.out])
      | (go_at_call 20; refine (radd_any _ _ _).mono ?_; rintro e w' ⟨rfl, rfl⟩; simp only [pair, H1.out])
      | (go_at_call 21; refine (sub_any _ _ _).mono ?_; rintro e w' ⟨rfl, rfl⟩; simp only [pair, H1.out])
      | (go_at_call 22; refine (rsub_any _ _ _).mono ?_; rintro e w' ⟨rfl, rfl⟩; simp only [pair, H1.out])
      | (go_at_call 23; refine (is_any _ _).mono ?_; rintro e w' ⟨rfl, rfl⟩)
      | (go_at_call 15; refine (ris_any _ _).mono ?_; rintro e w' ⟨rfl, rfl⟩)
      | (go_at_call 16; refine (works_any _).mono ?_; rintro e w' ⟨rfl, n, rfl⟩))
    go_ret
    exact ⟨rfl, _, rfl⟩
theorem totals_any (v : Value) (l : List Int) (lo hi : Int) (w : World) (S : Nat → Prop) (hv : RSl 1 (RInt .i64) w S [v] l) : Calls Try.prog 6 #[v, .int .i64 lo, .int .i64 hi] w fun e w' => e = .returned (.bool true) ∧ ∃ n, w' = w.drewN n := by
  have hv' := hv
  obtain ⟨A, cap, rfl, hc1, hc2, hel⟩ := hv.ints
  unfold maxLen at hc2
  have Hel := Lib.hid hel
  have Hv := Lib.hid hv'
  clear hel hv hv'
  by_cases hbig : 200 < l.length
  · go_enter Try.func6, Try.ntmps6
    go_wp2_with (first
      | (go_at_call 16; refine (works_any _).mono ?_; rintro e w' ⟨rfl, n, rfl⟩))
    go_ret
    exact ⟨rfl, _, rfl⟩
  · go_enter Try.func6, Try.ntmps6
    go_wp2_with (first
      | (go_at_call 24; refine (total_any _ l _ S Hv.out).mono ?_; rintro e w' ⟨rfl, rfl⟩; unfold pair)
      | (go_at_call 25; refine (rtotal_any _ l _ S Hv.out).mono ?_; rintro e w' ⟨rfl, rfl⟩; unfold pair))
    go_loop [11, 12] (fun i _ => ∃ k : Nat, i = .int .i64 k ∧ k ≤ l.length) (fun i _ => l.length - (intOf i).toNat)
    case atStart => exact ⟨0, rfl, by omega⟩
    case round =>
      obtain ⟨k, rfl, hk⟩ := hrel
      by_cases hlt : k < l.length
      · obtain ⟨ad, rfl, _, hcell, _⟩ := Hel.out k hlt
        generalize hx : l[k] = x at hcell
        clear hx
        by_cases c1 : lo ≤ hi
        · by_cases c2 : x < lo
          · have Hh := Lib.hid (show holdR x lo hi = lo by unfold holdR; rw [if_pos (by omega)])
            go_wp2_with (go_at_call 26; refine (hold_any _ _ _ _).mono ?_; rintro e w' ⟨rfl, rfl⟩; simp only [Hh.out])
            all_goals try (exfalso; omega)
            all_goals
              go_round
              case rel => exact ⟨k + 1, by go_num, by omega⟩
              case measure => simp [intOf]; omega
          · by_cases c3 : hi < x
            · have Hh := Lib.hid (show holdR x lo hi = hi by unfold holdR; rw [if_neg (by omega), if_pos (by omega)])
              go_wp2_with (go_at_call 26; refine (hold_any _ _ _ _).mono ?_; rintro e w' ⟨rfl, rfl⟩; simp only [Hh.out])
              all_goals try (exfalso; omega)
              all_goals
                go_round
                case rel => exact ⟨k + 1, by go_num, by omega⟩
                case measure => simp [intOf]; omega
            · have Hh := Lib.hid (show holdR x lo hi = x by unfold holdR; rw [if_neg (by omega), if_neg (by omega)])
              go_wp2_with (go_at_call 26; refine (hold_any _ _ _ _).mono ?_; rintro e w' ⟨rfl, rfl⟩; simp only [Hh.out])
              all_goals try (exfalso; omega)
              all_goals
                go_round
                case rel => exact ⟨k + 1, by go_num, by omega⟩
                case measure => simp [intOf]; omega
        · have Hh := Lib.hid (show holdR x lo hi = lo by unfold holdR; rw [if_pos (by omega)])
          go_wp2_with (go_at_call 26; refine (hold_any _ _ _ _).mono ?_; rintro e w' ⟨rfl, rfl⟩; simp only [Hh.out])
          all_goals try (exfalso; omega)
          all_goals
            go_round
            case rel => exact ⟨k + 1, by go_num, by omega⟩
            case measure => simp [intOf]; omega
      · go_wp2_with (go_at_call 16; refine (works_any _).mono ?_; rintro e w' ⟨rfl, n, rfl⟩)
        go_ret
        exact ⟨rfl, _, rfl⟩
theorem walk_CalcDoubles (W : World) (v0 : Value) (x0 : Int) (h0 : (RInt .i64) W (Ahead W.heap.size) [v0] x0) (v1 : Value) (x1 : Int) (h1 : (RInt .i64) W (Ahead W.heap.size) [v1] x1) (v2 : Value) (x2 : Int) (h2 : (RInt .i64) W (Ahead W.heap.size) [v2] x2) : Calls Try.prog 4 #[v0, v1, v2] W fun e w' => e = .returned (.bool true) ∧ Fr No W w' := by
  obtain ⟨h0, h0'⟩ := h0
  injection h0 with h0
  subst h0
  obtain ⟨h1, h1'⟩ := h1
  injection h1 with h1
  subst h1
  obtain ⟨h2, h2'⟩ := h2
  injection h2 with h2
  subst h2
  exact (doubles_any _ _ _ _ (i64_of h1')).mono fun e w' h => ⟨h.1, fr_drewN h.2⟩
theorem walk_CalcSums (W : World) (v0 : Value) (x0 : Int) (h0 : (RInt .i64) W (Ahead W.heap.size) [v0] x0) (v1 : Value) (x1 : Int) (h1 : (RInt .i64) W (Ahead W.heap.size) [v1] x1) : Calls Try.prog 5 #[v0, v1] W fun e w' => e = .returned (.bool true) ∧ Fr No W w' := by
  obtain ⟨h0, h0'⟩ := h0
  injection h0 with h0
  subst h0
  obtain ⟨h1, h1'⟩ := h1
  injection h1 with h1
  subst h1
  exact (sums_any _ _ _).mono fun e w' h => ⟨h.1, fr_drewN h.2⟩
theorem walk_CalcTotals (W : World) (v0 : Value) (x0 : (List Int)) (h0 : (RSl 1 (RInt .i64)) W (Ahead W.heap.size) [v0] x0) (v1 : Value) (x1 : Int) (h1 : (RInt .i64) W (Ahead W.heap.size) [v1] x1) (v2 : Value) (x2 : Int) (h2 : (RInt .i64) W (Ahead W.heap.size) [v2] x2) : Calls Try.prog 6 #[v0, v1, v2] W fun e w' => e = .returned (.bool true) ∧ Fr No W w' := by
  obtain ⟨h1, _⟩ := h1
  obtain ⟨h2, _⟩ := h2
  injection h1 with h1
  injection h2 with h2
  subst h1 h2
  exact (totals_any _ _ _ _ _ _ h0).mono fun e w' h => ⟨h.1, fr_drewN h.2⟩
end Calc
end Go.Proofs.Ytckgkeicilcnmaa
