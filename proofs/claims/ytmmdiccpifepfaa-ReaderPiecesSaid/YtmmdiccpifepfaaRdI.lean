/- The reference of package answer: find. -/
import Derived.Test.YtmmdiccpifepfaaAnsR
import Derived.Test.YtmmdiccpifepfaaAnsS
import Derived.BigQuiet
namespace Go.Proofs.Ytmmdiccpifepfaa
open Go.RowKit
set_option linter.unusedVariables false
set_option linter.unusedSimpArgs false
namespace Rd
open Ans
/-- Where a line ends; -1: it does not. -/
def findI (s : Str) (a : Nat) : Int := match lineR (s.drop a) with | none => -1 | some t => ((a + t.length : Nat) : Int)
theorem line_cons (a b : UInt8) (t : Str) : lineR (a :: b :: t) = if a = 13 ∧ b = 10 then some [] else (lineR (b :: t)).map (a :: ·) := rfl
theorem find_hit {s : Str} {k : Nat} (h : k + 1 < s.length) (h1 : s[k] = 13) (h2 : s[k + 1] = 10) : findI s k = (k : Nat) := by
  unfold findI
  rw [List.drop_eq_getElem_cons (show k < s.length by omega), List.drop_eq_getElem_cons h, line_cons, if_pos ⟨h1, h2⟩]
  simp
theorem find_on {s : Str} {k : Nat} (h : k + 1 < s.length) (h1 : ¬ (s[k] = 13 ∧ s[k + 1] = 10)) : findI s k = findI s (k + 1) := by
  unfold findI
  rw [List.drop_eq_getElem_cons (show k < s.length by omega), List.drop_eq_getElem_cons h, line_cons, if_neg h1]
  cases lineR (s[k + 1] :: s.drop (k + 1 + 1)) with
  | none => rfl
  | some t => simp; omega
theorem find_end {s : Str} {k : Nat} (h : ¬ k + 1 < s.length) : findI s k = -1 := by
  have h2 : lineR (s.drop k) = none := by
    match h : s.drop k with
    | [] => rfl
    | [_] => rfl
    | a :: b :: t =>
      have := congrArg List.length h
      simp at this
      omega
  unfold findI
  rw [h2]
theorem byte_t {c : UInt8} {n : Nat} (hn : n < 256) (h : c = UInt8.ofNat n) : ((c.toNat : Int) == (n : Int)) = true := by
  subst h
  simp [UInt8.toNat_ofNat']
  omega
set_option maxHeartbeats 1000000 in
theorem rfind_any (s : Str) (a : Nat) (ha : a ≤ s.length) (w : World) (hs : s.length ≤ 1000000) : Calls Try.prog 42 #[.string ⟨s.toArray⟩, .int .i64 a] w fun e w' => e = .returned (.int .i64 (findI s a)) ∧ w = w' := by
  go_enter Try.func42, Try.ntmps42
  go_wp2
  go_loop [5] (fun i => ∃ k : Nat, i = .int .i64 k ∧ k ≤ s.length ∧ Hid (findI s a = findI s k)) (fun i => s.length - (intOf i).toNat)
  case atStart => exact ⟨a, rfl, ha, rfl⟩
  case round =>
    obtain ⟨k, rfl, hk, HB⟩ := hrel
    by_cases hlt : k + 1 < s.length
    · have hk0 : k < s.length := by omega
      have hix : (⟨s.toArray⟩ : ByteArray)[k]'(by simpa [ByteArray.size] using hk0) = s[k] := rfl
      have hix2 : (⟨s.toArray⟩ : ByteArray)[k + 1]'(by simpa [ByteArray.size] using hlt) = s[k + 1] := rfl
      by_cases h1 : s[k] = 13
      · have e1 : ((s[k].toNat : Int) == 13) = true := by rw [h1]; rfl
        by_cases h2 : s[k + 1] = 10
        · have e2 : ((s[k + 1].toNat : Int) == 10) = true := by rw [h2]; rfl
          have HV := Lib.hid (HB.out.trans (find_hit hlt h1 h2))
          clear h1 h2
          go_wp2
          go_ret
          exact ⟨ret_int HV.out.symm, rfl⟩
        · have e2 : ((s[k + 1].toNat : Int) == 10) = false := by rw [beq_eq_false_iff_ne]; intro hh; exact h2 (UInt8.toNat_inj.1 (by have : (10 : UInt8).toNat = 10 := rfl; omega))
          have HV := Lib.hid (HB.out.trans (find_on hlt (fun h => h2 h.2)))
          clear h1 h2
          go_wp2
          go_round
          case rel => exact ⟨k + 1, by go_num, by omega, HV⟩
          case measure => simp [intOf]; omega
      · have e1 : ((s[k].toNat : Int) == 13) = false := by rw [beq_eq_false_iff_ne]; intro hh; exact h1 (UInt8.toNat_inj.1 (by have : (13 : UInt8).toNat = 13 := rfl; omega))
        have HV := Lib.hid (HB.out.trans (find_on hlt (fun h => h1 h.1)))
        clear h1
        go_wp2
        go_round
        case rel => exact ⟨k + 1, by go_num, by omega, HV⟩
        case measure => simp [intOf]; omega
    · have HV := Lib.hid (HB.out.trans (find_end hlt))
      go_wp2
      go_ret
      exact ⟨ret_int HV.out.symm, rfl⟩
end Rd
end Go.Proofs.Ytmmdiccpifepfaa
