/- Package digit: Put, Pad, and their reference. -/
import Derived.Test.YtohjnbkehcdoaaaDoorDigit
namespace Go.Proofs.YtohjnbkehcdoaaaDoor
open Go.RowKit
set_option linter.unusedVariables false
set_option linter.unusedSimpArgs false
namespace Digit
theorem dec_len (k : Nat) : ∀ n, n < 10 ^ (k + 1) → (dec n).length ≤ k + 1 := by
  induction k with
  | zero => intro n h; rw [dec, if_pos (by omega)]; simp
  | succ k ih =>
    intro n h
    rw [dec_step]
    split
    · simp
    · have := ih (n / 10) (by rw [Nat.pow_succ] at h; omega)
      simp; omega
theorem dec_20 {n : Nat} (h : n ≤ 9223372036854775808) : (dec n).length ≤ 20 := Nat.le_trans (dec_len 18 n (by omega)) (by omega)
def putR (n : Int) : Str := if n < 0 then 45 :: dec n.natAbs else dec n.natAbs
theorem put_any (n : Int) (hn : -9223372036854775808 ≤ n ∧ n ≤ 9223372036854775807) (w : World) : Calls Tryd.prog 21 #[.int .i64 n] w fun e w' => e = .returned (.string ⟨(putR n).toArray⟩) ∧ Fr No w w' := by
  by_cases h : n < 0
  · obtain ⟨m, rfl, hm⟩ : ∃ m : Nat, n = -(m : Int) ∧ m ≤ 9223372036854775808 := ⟨n.natAbs, by omega, by omega⟩
    have hl := dec_20 hm
    have hp : putR (-(m : Int)) = 45 :: dec m := by unfold putR; rw [if_pos h]; simp
    rw [hp]
    go_enter Tryd.func21, Tryd.ntmps21
    go_wp2_with (go_at_call 42; refine (small_any m hm _).mono ?_; rintro e w1 ⟨rfl, hf⟩; have Hf := Lib.hid hf; clear hf)
    go_ret
    exact ⟨rfl, Hf.out⟩
  · obtain ⟨m, rfl, hm⟩ : ∃ m : Nat, n = (m : Int) ∧ m ≤ 9223372036854775808 := ⟨n.natAbs, by omega, by omega⟩
    have hl := dec_20 hm
    have hp : putR (m : Int) = dec m := by unfold putR; rw [if_neg h]; simp
    rw [hp]
    go_enter Tryd.func21, Tryd.ntmps21
    go_wp2_with (go_at_call 42; refine (small_any m hm _).mono ?_; rintro e w1 ⟨rfl, hf⟩; have Hf := Lib.hid hf; clear hf)
    go_ret
    exact ⟨rfl, Hf.out⟩
def hexs : Str := [48, 49, 50, 51, 52, 53, 54, 55, 56, 57, 97, 98, 99, 100, 101, 102]
def hx (n : Nat) : UInt8 := hexs.getD n 0
theorem hx_dec (n : Nat) (h : n < 10) : hx n = UInt8.ofNat (48 + n) := by
  have : ∀ k : Fin 10, hx k = UInt8.ofNat (48 + k) := by decide
  exact this ⟨n, h⟩
theorem rdig_any (n : Nat) (hn : n < 16) (w : World) : Calls Tryd.prog 44 #[.int .i64 n] w fun e w' => e = .returned (.string ⟨[hx n].toArray⟩) ∧ w = w' := by
  have hsl := fun W : World => slice_one (P := Tryd.prog) W 9 Tryd.underlying9 hexs (n : Int) (n + 1) n (by simpa [hexs] using hn) rfl (by omega)
  have hh : hexs[n]'(by simpa [hexs] using hn) = hx n := by
    unfold hx
    rw [List.getD_eq_getElem?_getD, List.getElem?_eq_getElem (by simpa [hexs] using hn)]
    rfl
  rw [hh] at hsl
  unfold hexs at hsl
  clear hh
  go_enter Tryd.func44, Tryd.ntmps44
  go_wp2
  go_ret
  exact ⟨rfl, rfl⟩
theorem putR_len {n : Int} (hn : -9223372036854775808 ≤ n ∧ n ≤ 9223372036854775807) : (putR n).length ≤ 21 := by
  have := dec_20 (n := n.natAbs) (by omega)
  unfold putR; split <;> simp <;> omega
theorem dec_up {m : Nat} (h : 10 ≤ m) : dec m = dec (m / 10) ++ [hx (m % 10)] := by
  rw [dec_step, if_neg (by omega), hx_dec _ (by omega)]
set_option maxHeartbeats 1000000 in
theorem rput_pos (m : Nat) (hm : m ≤ 9223372036854775807) (w : World) : Calls Tryd.prog 25 #[.int .i64 m] w fun e w' => e = .returned (.string ⟨(dec m).toArray⟩) ∧ w = w' := by
  induction m using Nat.strongRecOn generalizing w with
  | _ m ih =>
    by_cases h1 : m < 10
    · have hp : dec m = [hx m] := by rw [dec, if_pos h1, hx_dec m h1]
      rw [hp]
      clear ih
      go_enter Tryd.func25, Tryd.ntmps25
      go_wp2_with (go_at_call 44; refine (rdig_any m (by omega) _).mono ?_; rintro e w1 ⟨rfl, rfl⟩)
      go_ret
      exact ⟨rfl, rfl⟩
    · have hs := dec_up (show 10 ≤ m by omega)
      have IH := fun w => ih (m / 10) (by omega) (by omega) w
      have hl := dec_20 (n := m / 10) (by omega)
      have hd := fun w => rdig_any (m % 10) (by omega) w
      rw [show ((m / 10 : Nat) : Int) = (m : Int) / 10 by omega] at IH
      rw [show ((m % 10 : Nat) : Int) = (m : Int) % 10 by omega] at hd
      have Hs := Lib.hid hs
      obtain ⟨q, hq⟩ : ∃ q, q = dec (m / 10) := ⟨_, rfl⟩
      obtain ⟨d, hdd⟩ : ∃ d, d = hx (m % 10) := ⟨_, rfl⟩
      rw [← hq, ← hdd] at hs
      rw [← hq] at hl IH
      rw [← hdd] at hd
      have Hs := Lib.hid hs
      clear ih hq hdd hs
      go_enter Tryd.func25, Tryd.ntmps25
      go_wp2_with (first
        | (go_at_call 25; refine (IH _).mono ?_; rintro e w1 ⟨rfl, rfl⟩)
        | (go_at_call 44; refine (hd _).mono ?_; rintro e w1 ⟨rfl, rfl⟩))
      go_ret
      rw [Hs.out]
      exact ⟨rfl, rfl⟩
set_option maxHeartbeats 1000000 in
theorem rput_neg (m : Nat) (hm0 : 1 ≤ m) (hm : m ≤ 9223372036854775808) (w : World) : Calls Tryd.prog 25 #[.int .i64 (-(m : Int))] w fun e w' => e = .returned (.string ⟨(45 :: dec m).toArray⟩) ∧ w = w' := by
  induction m using Nat.strongRecOn generalizing w with
  | _ m ih =>
    by_cases h1 : m < 10
    · have hp : dec m = [hx m] := by rw [dec, if_pos h1, hx_dec m h1]
      rw [hp]
      clear ih
      go_enter Tryd.func25, Tryd.ntmps25
      go_wp2_with (go_at_call 44; refine (rdig_any m (by omega) _).mono ?_; rintro e w1 ⟨rfl, rfl⟩)
      go_ret
      exact ⟨rfl, rfl⟩
    · have hs := dec_up (show 10 ≤ m by omega)
      have IH := fun w => ih (m / 10) (by omega) (by omega) (by omega) w
      have hl := dec_20 (n := m / 10) (by omega)
      have hd := fun w => rdig_any (m % 10) (by omega) w
      rw [show ((m / 10 : Nat) : Int) = (m : Int) / 10 by omega] at IH
      rw [show ((m % 10 : Nat) : Int) = (m : Int) % 10 by omega] at hd
      obtain ⟨q, hq⟩ : ∃ q, q = dec (m / 10) := ⟨_, rfl⟩
      obtain ⟨d, hdd⟩ : ∃ d, d = hx (m % 10) := ⟨_, rfl⟩
      rw [← hq, ← hdd] at hs
      rw [← hq] at hl IH
      rw [← hdd] at hd
      have Hs := Lib.hid hs
      clear ih hq hdd hs
      by_cases hr : (m : Int) % 10 = 0
      · rw [hr] at hd
        go_enter Tryd.func25, Tryd.ntmps25
        go_wp2_with (first
          | (go_at_call 25; refine (IH _).mono ?_; rintro e w1 ⟨rfl, rfl⟩)
          | (go_at_call 44; refine (hd _).mono ?_; rintro e w1 ⟨rfl, rfl⟩))
        go_ret
        rw [Hs.out]
        exact ⟨rfl, rfl⟩
      · have hr1 : 0 < (m : Int) % 10 := by omega
        go_enter Tryd.func25, Tryd.ntmps25
        go_wp2_with (first
          | (go_at_call 25; refine (IH _).mono ?_; rintro e w1 ⟨rfl, rfl⟩)
          | (go_at_call 44; refine (hd _).mono ?_; rintro e w1 ⟨rfl, rfl⟩))
        go_ret
        rw [Hs.out]
        exact ⟨rfl, rfl⟩
theorem rput_any (n : Int) (hn : -9223372036854775808 ≤ n ∧ n ≤ 9223372036854775807) (w : World) : Calls Tryd.prog 25 #[.int .i64 n] w fun e w' => e = .returned (.string ⟨(putR n).toArray⟩) ∧ w = w' := by
  by_cases h : n < 0
  · have hp : putR n = 45 :: dec n.natAbs := by unfold putR; rw [if_pos h]
    have := rput_neg n.natAbs (by omega) (by omega) w
    rw [hp]
    rwa [show -((n.natAbs : Nat) : Int) = n by omega] at this
  · have hp : putR n = dec n.natAbs := by unfold putR; rw [if_neg h]
    have := rput_pos n.natAbs (by omega) w
    rw [hp]
    rwa [show ((n.natAbs : Nat) : Int) = n by omega] at this
end Digit
end Go.Proofs.YtohjnbkehcdoaaaDoor
