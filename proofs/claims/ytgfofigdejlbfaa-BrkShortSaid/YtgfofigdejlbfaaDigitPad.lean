/- Package digit: Pad and its reference. -/
import Derived.Test.YtgfofigdejlbfaaDigitPut
namespace Go.Proofs.Ytgfofigdejlbfaa
open Go.RowKit
set_option linter.unusedVariables false
set_option linter.unusedSimpArgs false
namespace Digit
def padR (n width : Int) : Str := if n < 0 ∨ width < 0 ∨ 20 < width then [] else List.replicate (width.toNat - (dec n.natAbs).length) 48 ++ dec n.natAbs
set_option maxHeartbeats 1000000 in
theorem pad_any (n width : Int) (hn : -9223372036854775808 ≤ n ∧ n ≤ 9223372036854775807) (hwd : -9223372036854775808 ≤ width ∧ width ≤ 9223372036854775807) (w : World) : Calls Try.prog 33 #[.int .i64 n, .int .i64 width] w fun e w' => e = .returned (.string ⟨(padR n width).toArray⟩) ∧ Fr No w w' := by
  by_cases h : n < 0 ∨ width < 0 ∨ 20 < width
  · have hp : padR n width = [] := by unfold padR; rw [if_pos h]
    rw [hp]
    by_cases h1 : n < 0
    · go_enter Try.func33, Try.ntmps33
      go_wp2
      go_ret
      exact ⟨rfl, Fr.refl _ _⟩
    · by_cases h2 : width < 0
      · go_enter Try.func33, Try.ntmps33
        go_wp2
        go_ret
        exact ⟨rfl, Fr.refl _ _⟩
      · have h3 : 20 < width := by omega
        go_enter Try.func33, Try.ntmps33
        go_wp2
        go_ret
        exact ⟨rfl, Fr.refl _ _⟩
  · obtain ⟨m, rfl, hm⟩ : ∃ m : Nat, n = m ∧ m ≤ 9223372036854775807 := ⟨n.natAbs, by omega, by omega⟩
    obtain ⟨k, rfl, hk⟩ : ∃ k : Nat, width = k ∧ k ≤ 20 := ⟨width.natAbs, by omega, by omega⟩
    have hp : padR (m : Int) (k : Int) = List.replicate (k - (dec m).length) 48 ++ dec m := by unfold padR; rw [if_neg h]; simp
    have hput : putR (m : Int) = dec m := by unfold putR; rw [if_neg (by omega)]; simp
    rw [hp]
    have hl := dec_20 (n := m) (by omega)
    obtain ⟨t, ht⟩ : ∃ t, t = dec m := ⟨_, rfl⟩
    rw [← ht] at hl ⊢
    rw [← ht] at hput
    clear hp ht h
    have HP := Lib.hid hput
    clear hput
    go_enter Try.func33, Try.ntmps33
    go_wp2_with (go_at_call 36; refine (put_any (m : Int) (by omega) _).mono ?_; rintro e w1 ⟨rfl, hf⟩; have Hf := Lib.hid (hf); rw [HP.out]; clear hf)
    go_loop [5] (fun s => ∃ j : Nat, s = .string ⟨(List.replicate j (48 : UInt8) ++ t).toArray⟩ ∧ j ≤ k - t.length) (fun s => k - (match s with | .string b => b.size | _ => 0))
    case atStart => exact ⟨0, rfl, by omega⟩
    case round =>
      obtain ⟨j, rfl, hj⟩ := hrel
      have hsz : (List.replicate j (48 : UInt8) ++ t).length = j + t.length := by simp
      by_cases hlt : j + t.length < k
      · obtain ⟨r, hr⟩ : ∃ r, r = List.replicate j (48 : UInt8) ++ t := ⟨_, rfl⟩
        have hrn : 48 :: r = List.replicate (j + 1) (48 : UInt8) ++ t := by rw [hr]; rfl
        rw [← hr] at hsz ⊢
        have Hrn := Lib.hid hrn
        clear hr hrn
        go_wp2
        go_round
        case rel => exact ⟨j + 1, (by rw [← Hrn.out]; rfl), by omega⟩
        case measure =>
          have e : (⟨r.toArray⟩ : ByteArray).size = r.length := by simp [ByteArray.size]
          have e2 : ((⟨#[48]⟩ : ByteArray) ++ ⟨r.toArray⟩).size = 1 + r.length := by rw [ByteArray.size_append, e]; rfl
          simp only [e, e2, hsz]
          omega
      · have hje : j = k - t.length := by omega
        obtain ⟨r, hr⟩ : ∃ r, r = List.replicate j (48 : UInt8) ++ t := ⟨_, rfl⟩
        have HR := Lib.hid (show r = List.replicate (k - t.length) 48 ++ t by rw [hr, hje])
        rw [← hr] at hsz ⊢
        clear hr hje
        go_wp2
        go_ret
        rw [← HR.out]
        exact ⟨rfl, Hf.out⟩
set_option maxHeartbeats 1000000 in
theorem rpad_any (n width : Int) (hn : -9223372036854775808 ≤ n ∧ n ≤ 9223372036854775807) (hwd : -9223372036854775808 ≤ width ∧ width ≤ 9223372036854775807) (w : World) : Calls Try.prog 22 #[.int .i64 n, .int .i64 width] w fun e w' => e = .returned (.string ⟨(padR n width).toArray⟩) ∧ Fr No w w' := by
  by_cases h : n < 0 ∨ width < 0 ∨ 20 < width
  · have hp : padR n width = [] := by unfold padR; rw [if_pos h]
    rw [hp]
    by_cases h1 : n < 0
    · go_enter Try.func22, Try.ntmps22
      go_wp2
      go_ret
      exact ⟨rfl, Fr.refl _ _⟩
    · by_cases h2 : width < 0
      · go_enter Try.func22, Try.ntmps22
        go_wp2
        go_ret
        exact ⟨rfl, Fr.refl _ _⟩
      · have h3 : 20 < width := by omega
        go_enter Try.func22, Try.ntmps22
        go_wp2
        go_ret
        exact ⟨rfl, Fr.refl _ _⟩
  · obtain ⟨m, rfl, hm⟩ : ∃ m : Nat, n = m ∧ m ≤ 9223372036854775807 := ⟨n.natAbs, by omega, by omega⟩
    obtain ⟨k, rfl, hk⟩ : ∃ k : Nat, width = k ∧ k ≤ 20 := ⟨width.natAbs, by omega, by omega⟩
    have hp : padR (m : Int) (k : Int) = List.replicate (k - (dec m).length) 48 ++ dec m := by unfold padR; rw [if_neg h]; simp
    have hput : putR (m : Int) = dec m := by unfold putR; rw [if_neg (by omega)]; simp
    rw [hp]
    have hl := dec_20 (n := m) (by omega)
    obtain ⟨t, ht⟩ : ∃ t, t = dec m := ⟨_, rfl⟩
    rw [← ht] at hl ⊢
    rw [← ht] at hput
    clear hp ht h
    have HP := Lib.hid hput
    clear hput
    go_enter Try.func22, Try.ntmps22
    go_wp2_with (go_at_call 29; refine (rput_any (m : Int) (by omega) _).mono ?_; rintro e w1 ⟨rfl, hf⟩; have Hf := Lib.hid (Fr.of_same No hf); rw [HP.out]; clear hf)
    go_loop [5] (fun s => ∃ j : Nat, s = .string ⟨(List.replicate j (48 : UInt8) ++ t).toArray⟩ ∧ j ≤ k - t.length) (fun s => k - (match s with | .string b => b.size | _ => 0))
    case atStart => exact ⟨0, rfl, by omega⟩
    case round =>
      obtain ⟨j, rfl, hj⟩ := hrel
      have hsz : (List.replicate j (48 : UInt8) ++ t).length = j + t.length := by simp
      by_cases hlt : j + t.length < k
      · obtain ⟨r, hr⟩ : ∃ r, r = List.replicate j (48 : UInt8) ++ t := ⟨_, rfl⟩
        have hrn : 48 :: r = List.replicate (j + 1) (48 : UInt8) ++ t := by rw [hr]; rfl
        rw [← hr] at hsz ⊢
        have Hrn := Lib.hid hrn
        clear hr hrn
        go_wp2
        go_round
        case rel => exact ⟨j + 1, (by rw [← Hrn.out]; rfl), by omega⟩
        case measure =>
          have e : (⟨r.toArray⟩ : ByteArray).size = r.length := by simp [ByteArray.size]
          have e2 : ((⟨#[48]⟩ : ByteArray) ++ ⟨r.toArray⟩).size = 1 + r.length := by rw [ByteArray.size_append, e]; rfl
          simp only [e, e2, hsz]
          omega
      · have hje : j = k - t.length := by omega
        obtain ⟨r, hr⟩ : ∃ r, r = List.replicate j (48 : UInt8) ++ t := ⟨_, rfl⟩
        have HR := Lib.hid (show r = List.replicate (k - t.length) 48 ++ t by rw [hr, hje])
        rw [← hr] at hsz ⊢
        clear hr hje
        go_wp2
        go_ret
        rw [← HR.out]
        exact ⟨rfl, Hf.out⟩
end Digit
end Go.Proofs.Ytgfofigdejlbfaa
