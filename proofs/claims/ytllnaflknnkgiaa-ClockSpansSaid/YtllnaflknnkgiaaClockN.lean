/- Package clock: number; its reference: two. -/
import Derived.Test.YtllnaflknnkgiaaClockS
namespace Go.Proofs.Ytllnaflknnkgiaa
open Go.RowKit
set_option linter.unusedVariables false
set_option linter.unusedSimpArgs false
namespace Clock
def isD (c : UInt8) : Prop := 48 ≤ c.toNat ∧ c.toNat ≤ 57
instance (c : UInt8) : Decidable (isD c) := by unfold isD; exact inferInstance
def val (s : Str) : Nat := s.foldl (fun n c => 10 * n + (c.toNat - 48)) 0
theorem val_snoc (s : Str) (c : UInt8) : val (s ++ [c]) = 10 * val s + (c.toNat - 48) := by simp [val]
def numR (t : Str) : Int × Bool := if ∀ c ∈ t, isD c then ((val t : Int), true) else (0, false)
theorem numR_yes {t : Str} (h : ∀ c ∈ t, isD c) : numR t = ((val t : Int), true) := by unfold numR; rw [if_pos h]
theorem numR_no {t : Str} (h : ¬ ∀ c ∈ t, isD c) : numR t = (0, false) := by unfold numR; rw [if_neg h]
set_option maxRecDepth 100000 in
theorem number_any (t : Str) (hl : t.length ≤ 4) (w : World) : Calls Try.prog 73 #[.string ⟨t.toArray⟩] w fun e w' => e = .returned (.tuple #[.int .i64 (numR t).1, .bool (numR t).2]) ∧ w = w' := by
  go_enter Try.func73, Try.ntmps73
  go_wp2
  go_loop [4, 8] (fun a b => ∃ k m : Nat, a = .int .i64 m ∧ b = .int .i64 k ∧ k ≤ t.length ∧ m < 10 ^ k ∧ Hid (val (t.take k) = m ∧ ∀ c ∈ t.take k, isD c)) (fun _ b => 10 - (intOf b).toNat)
  case atStart => exact ⟨0, 0, rfl, rfl, by omega, by omega, Lib.hid ⟨rfl, by simp⟩⟩
  case round =>
    obtain ⟨k, m, rfl, rfl, hk, hm, HV⟩ := hrel
    by_cases hlt : k < t.length
    · have hix : (⟨t.toArray⟩ : ByteArray)[k]'(by simpa [ByteArray.size] using hlt) = t[k] := rfl
      have hm4 : m < 10000 := Nat.lt_of_lt_of_le hm (Nat.pow_le_pow_right (n := 10) (by omega) (show k ≤ 4 by omega))
      have htk : t.take (k + 1) = t.take k ++ [t[k]] := List.take_succ_eq_append_getElem hlt
      by_cases hd : isD t[k]
      · unfold isD at hd
        obtain ⟨hd1, hd2⟩ := hd
        obtain ⟨d, hdd⟩ : ∃ d : Nat, t[k].toNat = 48 + d := ⟨t[k].toNat - 48, by omega⟩
        have hdi : (t[k].toNat : Int) = 48 + d := by omega
        have hd9 : d ≤ 9 := by omega
        have HV2 := Lib.hid (show val (t.take (k + 1)) = 10 * m + d ∧ ∀ c ∈ t.take (k + 1), isD c from by
          rw [htk]
          refine ⟨by rw [val_snoc, HV.out.1, hdd]; omega, fun c hc => ?_⟩
          rcases List.mem_append.1 hc with hc | hc
          · exact HV.out.2 c hc
          · rw [List.mem_singleton.1 hc]; exact ⟨by omega, by omega⟩)
        have HE := Lib.hid (show (10 * (m : Int) + d) = ((10 * m + d : Nat) : Int) by omega)
        have hmp : 10 * m + d < 10 ^ (k + 1) := by rw [Nat.pow_succ]; omega
        have Hmp := Lib.hid hmp
        clear htk hm hmp
        go_wp2
        go_round
        case rel => exact ⟨k + 1, 10 * m + d, by go_num, by go_num, by omega, Hmp.out, HV2⟩
        case measure => simp [intOf]; omega
      · have hn := numR_no (t := t) (fun h => hd (h _ (List.getElem_mem hlt)))
        have HN := Lib.hid hn
        have hc : (t[k].toNat : Int) < 48 ∨ (48 ≤ (t[k].toNat : Int) ∧ 57 < (t[k].toNat : Int)) := by unfold isD at hd; omega
        clear hd htk hm hn
        rcases hc with h1 | ⟨h1, h2⟩
        all_goals
          go_wp2
          go_ret2
          exact ⟨by rw [HN.out]; rfl, rfl⟩
    · have hk : k = t.length := by omega
      have hn := numR_yes (t := t) (by have := HV.out.2; rw [hk, List.take_length] at this; exact this)
      have hv := HV.out.1
      rw [hk, List.take_length] at hv
      rw [hv] at hn
      have HN := Lib.hid hn
      clear hn hv hm
      go_wp2
      go_ret2
      exact ⟨by rw [HN.out]; rfl, rfl⟩
/-- The number of two signs at a place. -/
def twoR (s : Str) (a : Nat) : Int := if h : a + 1 < s.length then (if isD s[a] ∧ isD s[a + 1] then 10 * ((s[a].toNat : Int) - 48) + (s[a + 1].toNat : Int) - 48 else 0) else 0
theorem twoR_bnd (s : Str) (a : Nat) : 0 ≤ twoR s a ∧ twoR s a ≤ 99 := by
  unfold twoR
  split
  · split
    · rename_i h; unfold isD at h; omega
    · omega
  · omega
set_option maxRecDepth 100000 in
theorem two_any (s : Str) (hl : s.length ≤ 100) (a : Nat) (ha : a ≤ 100) (w : World) : Calls Try.prog 74 #[.string ⟨s.toArray⟩, .int .i64 a] w fun e w' => e = .returned (.int .i64 (twoR s a)) ∧ Fr No w w' := by
  by_cases h : a + 1 < s.length
  · have h1 : a < s.length := by omega
    have hix : (⟨s.toArray⟩ : ByteArray)[a]'(by simpa [ByteArray.size] using h1) = s[a] := rfl
    have hix2 : (⟨s.toArray⟩ : ByteArray)[a + 1]'(by simpa [ByteArray.size] using h) = s[a + 1] := rfl
    by_cases hd : isD s[a] ∧ isD s[a + 1]
    · have hv : twoR s a = 10 * ((s[a].toNat : Int) - 48) + (s[a + 1].toNat : Int) - 48 := by unfold twoR; rw [dif_pos h, if_pos hd]
      rw [hv]
      unfold isD at hd
      obtain ⟨⟨d1, d2⟩, d3, d4⟩ := hd
      obtain ⟨p, hp⟩ : ∃ p : Nat, s[a].toNat = p := ⟨_, rfl⟩
      obtain ⟨q, hq⟩ : ∃ q : Nat, s[a + 1].toNat = q := ⟨_, rfl⟩
      rw [hp] at d1 d2
      rw [hq] at d3 d4
      rw [hp, hq]
      have hpi : (s[a].toNat : Int) = p := by rw [hp]
      have hqi : (s[a + 1].toNat : Int) = q := by rw [hq]
      clear hv
      go_enter Try.func74, Try.ntmps74
      go_wp2
      go_quiet (fail)
      go_wp2
      go_ret
      exact ⟨congrArg (fun x => Ending.returned (.int .i64 x)) (by omega), (Fr.refl No w).drewN _⟩
    · have hv : twoR s a = 0 := by unfold twoR; rw [dif_pos h, if_neg hd]
      rw [hv]
      unfold isD at hd
      obtain ⟨p, hp⟩ : ∃ p : Nat, s[a].toNat = p := ⟨_, rfl⟩
      obtain ⟨q, hq⟩ : ∃ q : Nat, s[a + 1].toNat = q := ⟨_, rfl⟩
      rw [hp, hq] at hd
      have hpi : (s[a].toNat : Int) = p := by rw [hp]
      have hqi : (s[a + 1].toNat : Int) = q := by rw [hq]
      have hc : (p : Int) < 48 ∨ (48 ≤ (p : Int) ∧ 57 < (p : Int)) ∨ (48 ≤ (p : Int) ∧ (p : Int) ≤ 57 ∧ (q : Int) < 48) ∨ (48 ≤ (p : Int) ∧ (p : Int) ≤ 57 ∧ 48 ≤ (q : Int) ∧ 57 < (q : Int)) := by omega
      clear hv hd
      rcases hc with h3 | ⟨h3, h4⟩ | ⟨h3, h4, h5⟩ | ⟨h3, h4, h5, h6⟩
      all_goals
        go_enter Try.func74, Try.ntmps74
        go_wp2
        go_ret
        exact ⟨rfl, Fr.refl _ _⟩
  · have hv : twoR s a = 0 := by unfold twoR; rw [dif_neg h]
    rw [hv]
    have h2 : (s.length : Int) < a + 2 := by omega
    go_enter Try.func74, Try.ntmps74
    go_wp2
    go_ret
    exact ⟨rfl, Fr.refl _ _⟩
end Clock
end Go.Proofs.Ytllnaflknnkgiaa
