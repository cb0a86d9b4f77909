/- Package digit: a number's digits. -/
import Derived.Test.YtmmdiccpifepfaaRows
import Derived.Test.YtmmdiccpifepfaaMergedA
import Derived.WalkKit
import Derived.Outline
import Derived.BigQuiet
import Derived.Deep.QuietTactic
import Derived.Deep.RegionLaw
import Derived.Deep.DeepMust
import Derived.ScopeJumps
import Derived.WalkMore
import Derived.Lib.AppendStr
import Derived.Deep.LoopGhost
namespace Go.Proofs.Ytmmdiccpifepfaa
open Go.RowKit
set_option linter.unusedVariables false
set_option linter.unusedSimpArgs false
namespace Digit
theorem infoB : (Try.prog.info? 5).map (fun i => (i.zero, i.size, i.bytes)) = some (some (.int .u8 0), 1, 1) := by kernel_rfl
/-- A number's digits. -/
def dec (n : Nat) : Str := if n < 10 then [UInt8.ofNat (48 + n)] else dec (n / 10) ++ [UInt8.ofNat (48 + n % 10)]
termination_by n
theorem dec_step (n : Nat) : dec n = (if n / 10 = 0 then [] else dec (n / 10)) ++ [UInt8.ofNat (48 + n % 10)] := by
  rw [dec]
  by_cases h : n < 10
  · rw [if_pos h, if_pos (by omega), Nat.mod_eq_of_lt h]; rfl
  · rw [if_neg h, if_neg (by omega)]
theorem encD (m : Nat) : encB (UInt8.ofNat (48 + m % 10)) = .int .u8 (48 + (m : Int) % 10) := by
  have h : (UInt8.ofNat (48 + m % 10)).toNat = 48 + m % 10 := by rw [UInt8.toNat_ofNat']; omega
  unfold encB
  rw [h]
  simp
end Digit
end Go.Proofs.Ytmmdiccpifepfaa
/- Package digit: Put, Pad, and their reference. -/
namespace Go.Proofs.Ytmmdiccpifepfaa
open Go.RowKit
set_option linter.unusedVariables false
set_option linter.unusedSimpArgs false
namespace Digit
theorem dec_len (k : Nat) : ∀ n, n < 10 ^ (k + 1) → (dec n).length ≤ k + 1 := by
  induction k with
  | zero => intro n h; rw [dec, if_pos (by omega)]; simp
  | succ k ih =>
    intro n h
    rw [dec_step]
    split
    · simp
    · have := ih (n / 10) (by rw [Nat.pow_succ] at h; omega)
      simp; omega
theorem dec_20 {n : Nat} (h : n ≤ 9223372036854775808) : (dec n).length ≤ 20 := Nat.le_trans (dec_len 18 n (by omega)) (by omega)
def putR (n : Int) : Str := if n < 0 then 45 :: dec n.natAbs else dec n.natAbs
def hexs : Str := [48, 49, 50, 51, 52, 53, 54, 55, 56, 57, 97, 98, 99, 100, 101, 102]
def hx (n : Nat) : UInt8 := hexs.getD n 0
theorem hx_dec (n : Nat) (h : n < 10) : hx n = UInt8.ofNat (48 + n) := by
  have : ∀ k : Fin 10, hx k = UInt8.ofNat (48 + k) := by decide
  exact this ⟨n, h⟩
theorem rdig_any (n : Nat) (hn : n < 16) (w : World) : Calls Try.prog 46 #[.int .i64 n] w fun e w' => e = .returned (.string ⟨[hx n].toArray⟩) ∧ w = w' := by
  have hsl := fun W : World => slice_one (P := Try.prog) W 9 Try.underlying9 hexs (n : Int) (n + 1) n (by simpa [hexs] using hn) rfl (by omega)
  have hh : hexs[n]'(by simpa [hexs] using hn) = hx n := by
    unfold hx
    rw [List.getD_eq_getElem?_getD, List.getElem?_eq_getElem (by simpa [hexs] using hn)]
    rfl
  rw [hh] at hsl
  unfold hexs at hsl
  clear hh
  go_enter Try.func46, Try.ntmps46
  go_wp2
  go_ret
  exact ⟨rfl, rfl⟩
theorem putR_len {n : Int} (hn : -9223372036854775808 ≤ n ∧ n ≤ 9223372036854775807) : (putR n).length ≤ 21 := by
  have := dec_20 (n := n.natAbs) (by omega)
  unfold putR; split <;> simp <;> omega
theorem dec_up {m : Nat} (h : 10 ≤ m) : dec m = dec (m / 10) ++ [hx (m % 10)] := by
  rw [dec_step, if_neg (by omega), hx_dec _ (by omega)]
set_option maxHeartbeats 1000000 in
theorem rput_pos (m : Nat) (hm : m ≤ 9223372036854775807) (w : World) : Calls Try.prog 36 #[.int .i64 m] w fun e w' => e = .returned (.string ⟨(dec m).toArray⟩) ∧ w = w' := by
  induction m using Nat.strongRecOn generalizing w with
  | _ m ih =>
    by_cases h1 : m < 10
    · have hp : dec m = [hx m] := by rw [dec, if_pos h1, hx_dec m h1]
      rw [hp]
      clear ih
      go_enter Try.func36, Try.ntmps36
      go_wp2_with (go_at_call 46; refine (rdig_any m (by omega) _).mono ?_; rintro e w1 ⟨rfl, rfl⟩)
      go_ret
      exact ⟨rfl, rfl⟩
    · have hs := dec_up (show 10 ≤ m by omega)
      have IH := fun w => ih (m / 10) (by omega) (by omega) w
      have hl := dec_20 (n := m / 10) (by omega)
      have hd := fun w => rdig_any (m % 10) (by omega) w
      rw [show ((m / 10 : Nat) : Int) = (m : Int) / 10 by omega] at IH
      rw [show ((m % 10 : Nat) : Int) = (m : Int) % 10 by omega] at hd
      have Hs := Lib.hid hs
      obtain ⟨q, hq⟩ : ∃ q, q = dec (m / 10) := ⟨_, rfl⟩
      obtain ⟨d, hdd⟩ : ∃ d, d = hx (m % 10) := ⟨_, rfl⟩
      rw [← hq, ← hdd] at hs
      rw [← hq] at hl IH
      rw [← hdd] at hd
      have Hs := Lib.hid hs
      clear ih hq hdd hs
      go_enter Try.func36, Try.ntmps36
      go_wp2_with (first
        | (go_at_call 36; refine (IH _).mono ?_; rintro e w1 ⟨rfl, rfl⟩)
        | (go_at_call 46; refine (hd _).mono ?_; rintro e w1 ⟨rfl, rfl⟩))
      go_ret
      rw [Hs.out]
      exact ⟨rfl, rfl⟩
set_option maxHeartbeats 1000000 in
theorem rput_neg (m : Nat) (hm0 : 1 ≤ m) (hm : m ≤ 9223372036854775808) (w : World) : Calls Try.prog 36 #[.int .i64 (-(m : Int))] w fun e w' => e = .returned (.string ⟨(45 :: dec m).toArray⟩) ∧ w = w' := by
  induction m using Nat.strongRecOn generalizing w with
  | _ m ih =>
    by_cases h1 : m < 10
    · have hp : dec m = [hx m] := by rw [dec, if_pos h1, hx_dec m h1]
      rw [hp]
      clear ih
      go_enter Try.func36, Try.ntmps36
      go_wp2_with (go_at_call 46; refine (rdig_any m (by omega) _).mono ?_; rintro e w1 ⟨rfl, rfl⟩)
      go_ret
      exact ⟨rfl, rfl⟩
    · have hs := dec_up (show 10 ≤ m by omega)
      have IH := fun w => ih (m / 10) (by omega) (by omega) (by omega) w
      have hl := dec_20 (n := m / 10) (by omega)
      have hd := fun w => rdig_any (m % 10) (by omega) w
      rw [show ((m / 10 : Nat) : Int) = (m : Int) / 10 by omega] at IH
      rw [show ((m % 10 : Nat) : Int) = (m : Int) % 10 by omega] at hd
      obtain ⟨q, hq⟩ : ∃ q, q = dec (m / 10) := ⟨_, rfl⟩
      obtain ⟨d, hdd⟩ : ∃ d, d = hx (m % 10) := ⟨_, rfl⟩
      rw [← hq, ← hdd] at hs
      rw [← hq] at hl IH
      rw [← hdd] at hd
      have Hs := Lib.hid hs
      clear ih hq hdd hs
      by_cases hr : (m : Int) % 10 = 0
      · rw [hr] at hd
        go_enter Try.func36, Try.ntmps36
        go_wp2_with (first
          | (go_at_call 36; refine (IH _).mono ?_; rintro e w1 ⟨rfl, rfl⟩)
          | (go_at_call 46; refine (hd _).mono ?_; rintro e w1 ⟨rfl, rfl⟩))
        go_ret
        rw [Hs.out]
        exact ⟨rfl, rfl⟩
      · have hr1 : 0 < (m : Int) % 10 := by omega
        go_enter Try.func36, Try.ntmps36
        go_wp2_with (first
          | (go_at_call 36; refine (IH _).mono ?_; rintro e w1 ⟨rfl, rfl⟩)
          | (go_at_call 46; refine (hd _).mono ?_; rintro e w1 ⟨rfl, rfl⟩))
        go_ret
        rw [Hs.out]
        exact ⟨rfl, rfl⟩
theorem rput_any (n : Int) (hn : -9223372036854775808 ≤ n ∧ n ≤ 9223372036854775807) (w : World) : Calls Try.prog 36 #[.int .i64 n] w fun e w' => e = .returned (.string ⟨(putR n).toArray⟩) ∧ w = w' := by
  by_cases h : n < 0
  · have hp : putR n = 45 :: dec n.natAbs := by unfold putR; rw [if_pos h]
    have := rput_neg n.natAbs (by omega) (by omega) w
    rw [hp]
    rwa [show -((n.natAbs : Nat) : Int) = n by omega] at this
  · have hp : putR n = dec n.natAbs := by unfold putR; rw [if_neg h]
    have := rput_pos n.natAbs (by omega) w
    rw [hp]
    rwa [show ((n.natAbs : Nat) : Int) = n by omega] at this
end Digit
end Go.Proofs.Ytmmdiccpifepfaa
/- Package digit: Pad and its reference. -/
namespace Go.Proofs.Ytmmdiccpifepfaa
open Go.RowKit
set_option linter.unusedVariables false
set_option linter.unusedSimpArgs false
namespace Digit
def padR (n width : Int) : Str := if n < 0 ∨ width < 0 ∨ 20 < width then [] else List.replicate (width.toNat - (dec n.natAbs).length) 48 ++ dec n.natAbs
end Digit
end Go.Proofs.Ytmmdiccpifepfaa
/- Package digit: Read. -/
namespace Go.Proofs.Ytmmdiccpifepfaa
open Go.RowKit
set_option linter.unusedVariables false
set_option linter.unusedSimpArgs false
namespace Digit
theorem snoc_ind {P : Str → Prop} (h0 : P []) (hs : ∀ t c, P t → P (t ++ [c])) (s : Str) : P s := by
  obtain ⟨n, hn⟩ : ∃ n, n = s.length := ⟨_, rfl⟩
  induction n generalizing s with
  | zero => rw [List.eq_nil_of_length_eq_zero hn.symm]; exact h0
  | succ n ih =>
    rcases List.eq_nil_or_concat s with rfl | ⟨t, c, rfl⟩
    · simp at hn
    · rw [List.concat_eq_append] at hn ⊢
      exact hs t c (ih t (by simp at hn; omega))
theorem head_app (t r : Str) (h : t ≠ []) : (t ++ r).head? = t.head? := by
  cases t with
  | nil => exact absurd rfl h
  | cons a t => rfl
def isD (c : UInt8) : Prop := 48 ≤ c.toNat ∧ c.toNat ≤ 57
instance (c : UInt8) : Decidable (isD c) := by unfold isD; exact inferInstance
def val (s : Str) : Nat := s.foldl (fun n c => 10 * n + (c.toNat - 48)) 0
theorem val_snoc (s : Str) (c : UInt8) : val (s ++ [c]) = 10 * val s + (c.toNat - 48) := by simp [val]
theorem digit_of {k : Nat} (h : k < 10) : isD (UInt8.ofNat (48 + k)) ∧ (UInt8.ofNat (48 + k)).toNat = 48 + k := by
  have e : (UInt8.ofNat (48 + k)).toNat = 48 + k := by rw [UInt8.toNat_ofNat']; omega
  exact ⟨⟨by omega, by omega⟩, e⟩
theorem dec_digits (n : Nat) : ∀ c ∈ dec n, isD c := by
  induction n using Nat.strongRecOn with
  | _ n ih =>
    rw [dec_step]
    intro c hc
    rcases List.mem_append.1 hc with hc | hc
    · split at hc
      · cases hc
      · exact ih _ (by omega) c hc
    · rw [List.mem_singleton.1 hc]; exact (digit_of (by omega)).1
theorem dec_val (n : Nat) : val (dec n) = n := by
  induction n using Nat.strongRecOn with
  | _ n ih =>
    rw [dec_step, val_snoc, (digit_of (by omega)).2]
    split
    · simp [val]; omega
    · rw [ih _ (by omega)]; omega
theorem dec_ne (n : Nat) : dec n ≠ [] := by rw [dec_step]; simp
theorem dec_head (n : Nat) (h : (dec n).head? = some 48) : n = 0 := by
  induction n using Nat.strongRecOn with
  | _ n ih =>
    rw [dec_step] at h
    split at h
    · rename_i hz
      simp at h
      have h2 := (digit_of (k := n % 10) (by omega)).2
      have h3 : UInt8.ofNat (48 + n % 10) = 48 := by simpa using h
      rw [h3] at h2
      have : (48 : UInt8).toNat = 48 := rfl
      omega
    · rename_i hz
      rw [head_app _ _ (dec_ne _)] at h
      exact absurd (ih _ (by omega) h) hz
theorem val_pos (s : Str) : s ≠ [] → (∀ c ∈ s, isD c) → s.head? ≠ some 48 → 1 ≤ val s := by
  induction s using snoc_ind with
  | h0 => intro h; exact absurd rfl h
  | hs t c ih =>
    intro hne hd hh
    rw [val_snoc]
    by_cases ht : t = []
    · subst ht
      have hc := hd c (by simp)
      have : c ≠ 48 := fun e => hh (by simp [e])
      have : c.toNat ≠ 48 := fun e => this (UInt8.toNat_inj.1 e)
      unfold isD at hc
      omega
    · have := ih ht (fun d hdm => hd d (List.mem_append_left _ hdm)) (by rwa [head_app _ _ ht] at hh)
      omega
theorem val_dec (s : Str) : s ≠ [] → (∀ c ∈ s, isD c) → (s.head? ≠ some 48 ∨ s.length = 1) → dec (val s) = s := by
  induction s using snoc_ind with
  | h0 => intro h; exact absurd rfl h
  | hs t c ih =>
    intro hne hd hh
    have hc := hd c (by simp)
    unfold isD at hc
    have e : UInt8.ofNat (48 + (c.toNat - 48)) = c := by
      rw [show 48 + (c.toNat - 48) = c.toNat by omega]; simp
    rw [val_snoc, dec_step]
    by_cases ht : t = []
    · subst ht
      have h1 : (10 * val [] + (c.toNat - 48)) / 10 = 0 := by simp [val]; omega
      have h2 : (10 * val [] + (c.toNat - 48)) % 10 = c.toNat - 48 := by simp [val]; omega
      rw [if_pos h1, h2, e]
    · have hd2 : ∀ d ∈ t, isD d := fun d hdm => hd d (List.mem_append_left _ hdm)
      have hh2 : t.head? ≠ some 48 := by
        rcases hh with hh | hh
        · rwa [head_app _ _ ht] at hh
        · exact absurd (by simpa using hh) ht
      have hp := val_pos t ht hd2 hh2
      have h1 : (10 * val t + (c.toNat - 48)) / 10 = val t := by omega
      have h2 : (10 * val t + (c.toNat - 48)) % 10 = c.toNat - 48 := by omega
      rw [h1, h2, if_neg (by omega), e, ih ht hd2 (.inl hh2)]
def readR (s : Str) : Int × Int :=
  if s = [] ∨ 13 < s.length ∨ (s.head? = some 48 ∧ 1 < s.length) ∨ (∃ c ∈ s, ¬ isD c) ∨ 1099511627776 < val s then (0, 3) else (((val s : Nat) : Int), 0)
theorem val_lt (s : Str) (hd : ∀ c ∈ s, isD c) : val s < 10 ^ s.length := by
  induction s using snoc_ind with
  | h0 => simp [val]
  | hs t c ih =>
    have := ih (fun d h => hd d (List.mem_append_left _ h))
    have hc := hd c (by simp)
    unfold isD at hc
    rw [val_snoc, List.length_append, List.length_singleton, Nat.pow_succ]
    obtain ⟨M, hM⟩ : ∃ M, M = 10 ^ t.length := ⟨_, rfl⟩
    rw [← hM] at this ⊢
    omega
/-- At each jump back: k signs are read. -/
def ReadJ (s : Str) (w : World) (a' : Act) (w' : World) : Prop :=
  ∃ (k m : Nat) (u2 u3 u6 u7 u8 u9 u10 u11 u12 u13 u14 u15 u16 u17 u18 u19 u20 u21 u22 u23 u24 u25 u26 u27 u28 u29 u30 u31 u32 u33 u34 u35 u36 u37 u38 u39 u40 u41 u42 u43 u44 u45 u46 u47 u48 u49 : Value), a' = { tmps := #[.string ⟨s.toArray⟩, undef, u2, u3, .int .i64 m, .int .i64 k, u6, u7, u8, u9, u10, u11, u12, u13, u14, u15, u16, u17, u18, u19, u20, u21, u22, u23, u24, u25, u26, u27, u28, u29, u30, u31, u32, u33, u34, u35, u36, u37, u38, u39, u40, u41, u42, u43, u44, u45, u46, u47, u48, u49], defers := [] } ∧ k < s.length ∧ m ≤ 10000000000000 ∧ w = w' ∧ Hid (m = val (s.take k) ∧ ∀ c ∈ s.take k, isD c)
theorem readR_bad {s : Str} (h : ∃ c ∈ s, ¬ isD c) : readR s = (0, 3) := by
  unfold readR; rw [if_pos (.inr (.inr (.inr (.inl h))))]
theorem readR_big {s : Str} (h : 1099511627776 < val s) : readR s = (0, 3) := by
  unfold readR; rw [if_pos (.inr (.inr (.inr (.inr h))))]
theorem readR_good {s : Str} (h1 : s ≠ []) (h2 : s.length ≤ 13) (h3 : ¬ (s.head? = some 48 ∧ 1 < s.length)) (h4 : ∀ c ∈ s, isD c) (h5 : val s ≤ 1099511627776) : readR s = (((val s : Nat) : Int), 0) := by
  unfold readR
  rw [if_neg]
  rintro (h | h | h | ⟨c, hc, h⟩ | h)
  · exact h1 h
  · omega
  · exact h3 h
  · exact h (h4 c hc)
  · omega
set_option maxHeartbeats 1000000 in
theorem read_any (s : Str) (hl : s.length ≤ maxLen) (w : World) : Calls Try.prog 39 #[.string ⟨s.toArray⟩] w fun e w' => e = .returned (.tuple #[.int .i64 (readR s).1, .int .i64 (readR s).2]) ∧ w = w' := by
  unfold maxLen at hl
  by_cases h : s = [] ∨ 13 < s.length
  · have hp : readR s = (0, 3) := by unfold readR; rw [if_pos (by rcases h with h | h <;> simp [h])]
    rw [hp]
    rcases h with rfl | h
    · go_enter Try.func39, Try.ntmps39
      go_wp2
      go_step3
      go_wp2
      rw [Exit.noGoto_ret]
      go_ret2
      exact ⟨rfl, rfl⟩
    · have hne : s.isEmpty = false := by cases s <;> simp at h ⊢
      go_enter Try.func39, Try.ntmps39
      go_wp2
      go_step3
      go_wp2
      go_ret2
      exact ⟨rfl, rfl⟩
  · have hne : s ≠ [] := fun e => h (.inl e)
    have hl13 : s.length ≤ 13 := by omega
    have hnb : s.isEmpty = false := by simpa using hne
    have hs0 : 0 < s.length := by cases s <;> simp at hne ⊢
    have hix : (⟨s.toArray⟩ : ByteArray)[0]'(by simpa [ByteArray.size] using hs0) = s[0] := rfl
    have hhd : s.head? = some s[0] := by cases s <;> simp at hs0 ⊢
    by_cases hz : s[0] = 48 ∧ 1 < s.length
    · have hp : readR s = (0, 3) := by unfold readR; rw [if_pos (by rw [hhd, hz.1]; exact .inr (.inr (.inl ⟨rfl, hz.2⟩)))]
      rw [hp]
      have hc1 : ((s[0].toNat : Int) == 48) = true := by rw [hz.1]; rfl
      obtain ⟨_, hz⟩ := hz
      clear hhd
      go_enter Try.func39, Try.ntmps39
      go_wp2
      go_step3
      go_wp2
      rw [Exit.noGoto_ret]
      go_ret2
      exact ⟨rfl, rfl⟩
    · by_cases hz1 : s[0] = 48
      · obtain rfl : s = [48] := by
          cases s with
          | nil => exact absurd rfl hne
          | cons c t =>
            have hc : c = 48 := hz1
            have ht : t = [] := by
              cases t with
              | nil => rfl
              | cons d t => exact absurd ⟨hz1, by simp⟩ hz
            rw [hc, ht]
        have hp : readR [48] = (0, 0) := by decide
        rw [hp]
        clear hhd hix hz hz1 hs0
        go_enter Try.func39, Try.ntmps39
        go_wp2
        go_step3
        go_wp2
        go_step3
        go_wp2
        rw [Exit.noGoto_ret]
        go_ret2
        exact ⟨rfl, rfl⟩
      have hc1 : ((s[0].toNat : Int) == 48) = false := (u8_f (d := 48) rfl hz1).1
      have hz2 : ¬ (s.head? = some 48 ∧ 1 < s.length) := by rw [hhd]; simpa using hz
      have HZ := Lib.hid hz2
      clear hz2 hhd hz hz1
      go_enter Try.func39, Try.ntmps39
      go_wp2
      refine wp_scope_jumps 0 (ReadJ s w) (fun a' _ => 13 - (intOf (a'.tmps.getD 5 undef)).toNat) rfl ?_ ?_
      · go_wp2
        go_step3
        by_cases hd : isD s[0]
        · unfold isD at hd
          obtain ⟨hd1, hd2⟩ := hd
          obtain ⟨d, hdd⟩ : ∃ d : Nat, s[0].toNat = 48 + d := ⟨s[0].toNat - 48, by omega⟩
          have hdi : (s[0].toNat : Int) = 48 + d := by omega
          have hv : val (s.take 1) = 10 * 0 + d := by rw [show s.take 1 = s.take 0 ++ [s[0]] from List.take_succ_eq_append_getElem hs0, val_snoc, show val (s.take 0) = 0 from rfl, hdd]; omega
          have ha : ∀ c ∈ s.take 1, isD c := by
            rw [show s.take 1 = s.take 0 ++ [s[0]] from List.take_succ_eq_append_getElem hs0]
            intro c hc
            rcases List.mem_append.1 hc with hc | hc
            · cases hc
            · rw [List.mem_singleton.1 hc]; exact ⟨by omega, by omega⟩
          have hvl := val_lt _ ha
          have hd9 : d ≤ 9 := by omega
          have HV := Lib.hid (And.intro hv.symm ha)
          have HE := Lib.hid (show (48 + (d : Int) - 48) = ((10 * 0 + d : Nat) : Int) by omega)
          by_cases hmore : 1 < s.length
          · have hm2 : 10 * 0 + d ≤ 10000000000000 := by
              rw [hv, List.length_take] at hvl
              exact Nat.le_trans (Nat.le_of_lt hvl) (Nat.pow_le_pow_right (n := 10) (by omega) (show min 1 s.length ≤ 13 by omega))
            clear hv ha hvl
            go_wp2
            go_step3
            rw [HE.out]
            exact ⟨rfl, 1, 10 * 0 + d, _, _, _, _, _, _, _, _, _, _, _, _, _, _, _, _, _, _, _, _, _, _, _, _, _, _, _, _, _, _, _, _, _, _, _, _, _, _, _, _, _, _, _, _, _, _, rfl, hmore, hm2, rfl, HV.out⟩
          · have hks : s.take 1 = s := List.take_of_length_le (by omega)
            rw [hks] at hv ha hvl
            by_cases hbig : 1099511627776 < 10 * 0 + d
            · exfalso; omega
            · have HR := Lib.hid (readR_good hne hl13 HZ.out ha (by omega))
              rw [hv] at HR
              clear hv ha hvl
              go_wp2
              simp only [Exit.jump]
              rw [HE.out]
              go_ret2
              rw [HR.out]
              exact ⟨rfl, rfl⟩
        · have HR := Lib.hid (readR_bad (s := s) ⟨s[0], List.getElem_mem _, hd⟩)
          unfold isD at hd
          by_cases hd2 : s[0].toNat < 48
          · go_wp2
            simp only [Exit.jump]
            go_ret2
            rw [HR.out]
            exact ⟨rfl, rfl⟩
          · have hd3 : 57 < s[0].toNat := by omega
            go_wp2
            simp only [Exit.jump]
            go_ret2
            rw [HR.out]
            exact ⟨rfl, rfl⟩
      · rintro a' wr ⟨k, m, u2, u3, u6, u7, u8, u9, u10, u11, u12, u13, u14, u15, u16, u17, u18, u19, u20, u21, u22, u23, u24, u25, u26, u27, u28, u29, u30, u31, u32, u33, u34, u35, u36, u37, u38, u39, u40, u41, u42, u43, u44, u45, u46, u47, u48, u49, rfl, hk, hm, rfl, HJ⟩
        have hix2 : (⟨s.toArray⟩ : ByteArray)[k]'(by simpa [ByteArray.size] using hk) = s[k] := rfl
        by_cases hd : isD s[k]
        · unfold isD at hd
          obtain ⟨hd1, hd2⟩ := hd
          obtain ⟨d, hdd⟩ : ∃ d : Nat, s[k].toNat = 48 + d := ⟨s[k].toNat - 48, by omega⟩
          have hdi : (s[k].toNat : Int) = 48 + d := by omega
          have hv : val (s.take (k + 1)) = 10 * m + d := by rw [show s.take (k + 1) = s.take k ++ [s[k]] from List.take_succ_eq_append_getElem hk, val_snoc, ← HJ.out.1, hdd]; omega
          have ha : ∀ c ∈ s.take (k + 1), isD c := by
            rw [show s.take (k + 1) = s.take k ++ [s[k]] from List.take_succ_eq_append_getElem hk]
            intro c hc
            rcases List.mem_append.1 hc with hc | hc
            · exact HJ.out.2 c hc
            · rw [List.mem_singleton.1 hc]; exact ⟨by omega, by omega⟩
          have hvl := val_lt _ ha
          have hd9 : d ≤ 9 := by omega
          have HV := Lib.hid (And.intro hv.symm ha)
          have HE := Lib.hid (show (10 * (m : Int) + (48 + (d : Int) - 48)) = ((10 * m + d : Nat) : Int) by omega)
          by_cases hmore : k + 1 < s.length
          · have hm2 : 10 * m + d ≤ 10000000000000 := by
              rw [hv, List.length_take] at hvl
              exact Nat.le_trans (Nat.le_of_lt hvl) (Nat.pow_le_pow_right (n := 10) (by omega) (show min (k + 1) s.length ≤ 13 by omega))
            clear hv ha hvl
            go_wp2
            go_step3
            rw [HE.out]
            refine ⟨rfl, ⟨k + 1, 10 * m + d, _, _, _, _, _, _, _, _, _, _, _, _, _, _, _, _, _, _, _, _, _, _, _, _, _, _, _, _, _, _, _, _, _, _, _, _, _, _, _, _, _, _, _, _, _, _, rfl, hmore, hm2, rfl, HV.out⟩, ?_⟩
            simp [intOf]; omega
          · have hks : s.take (k + 1) = s := List.take_of_length_le (by omega)
            rw [hks] at hv ha hvl
            by_cases hbig : 1099511627776 < 10 * m + d
            · have HR := Lib.hid (readR_big (s := s) (by omega))
              clear hv ha hvl
              go_wp2
              simp only [Exit.jump]
              go_ret2
              rw [HR.out]
              exact ⟨rfl, rfl⟩
            · have HR := Lib.hid (readR_good hne hl13 HZ.out ha (by omega))
              rw [hv] at HR
              clear hv ha hvl
              go_wp2
              simp only [Exit.jump]
              rw [HE.out]
              go_ret2
              rw [HR.out]
              exact ⟨rfl, rfl⟩
        · have HR := Lib.hid (readR_bad (s := s) ⟨s[k], List.getElem_mem _, hd⟩)
          unfold isD at hd
          by_cases hd2 : s[k].toNat < 48
          · go_wp2
            simp only [Exit.jump]
            go_ret2
            rw [HR.out]
            exact ⟨rfl, rfl⟩
          · have hd3 : 57 < s[k].toNat := by omega
            go_wp2
            simp only [Exit.jump]
            go_ret2
            rw [HR.out]
            exact ⟨rfl, rfl⟩
end Digit
end Go.Proofs.Ytmmdiccpifepfaa
/- Package digit: the reference's Read. -/
namespace Go.Proofs.Ytmmdiccpifepfaa
open Go.RowKit
set_option linter.unusedVariables false
set_option linter.unusedSimpArgs false
namespace Digit
def rok (s : Str) : Prop := s ≠ [] ∧ s.length ≤ 13 ∧ ¬ (s.head? = some 48 ∧ 1 < s.length) ∧ (∀ c ∈ s, isD c) ∧ val s ≤ 1099511627776
theorem readR_yes {s : Str} (h : rok s) : readR s = (((val s : Nat) : Int), 0) := readR_good h.1 h.2.1 h.2.2.1 h.2.2.2.1 h.2.2.2.2
theorem readR_no {s : Str} (h : ¬ rok s) : readR s = (0, 3) := by
  unfold readR
  rw [if_pos]
  by_cases h1 : s = []
  · exact .inl h1
  by_cases h2 : 13 < s.length
  · exact .inr (.inl h2)
  by_cases h3 : s.head? = some 48 ∧ 1 < s.length
  · exact .inr (.inr (.inl h3))
  by_cases h4 : ∃ c ∈ s, ¬ isD c
  · exact .inr (.inr (.inr (.inl h4)))
  by_cases h5 : 1099511627776 < val s
  · exact .inr (.inr (.inr (.inr h5)))
  exact absurd ⟨h1, by omega, h3, fun c hc => Decidable.byContradiction fun hh => h4 ⟨c, hc, hh⟩, by omega⟩ h
theorem rok_dec {s : Str} (h : rok s) : dec (val s) = s := by
  obtain ⟨h1, h2, h3, h4, h5⟩ := h
  refine val_dec s h1 h4 ?_
  by_cases hh : s.head? = some 48
  · right
    have : s.length ≠ 0 := fun e => h1 (List.eq_nil_of_length_eq_zero e)
    have : ¬ 1 < s.length := fun e => h3 ⟨hh, e⟩
    omega
  · exact .inl hh
theorem dec_rok {n : Nat} (h : n ≤ 1099511627776) : rok (dec n) := by
  refine ⟨dec_ne n, dec_len 12 n (by omega), fun ⟨h1, h2⟩ => ?_, dec_digits n, by rw [dec_val]; exact h⟩
  rw [dec_head n h1, dec, if_pos (by omega)] at h2
  simp at h2
def rv (s : Str) : Int := s.foldl (fun n c => 10 * n + (c.toNat : Int) - 48) 0
theorem rv_snoc (s : Str) (c : UInt8) : rv (s ++ [c]) = 10 * rv s + (c.toNat : Int) - 48 := by simp [rv]
theorem rv_bound (s : Str) : -6 * ((10 ^ s.length : Nat) - 1 : Int) ≤ rv s ∧ rv s ≤ 24 * ((10 ^ s.length : Nat) - 1 : Int) := by
  induction s using snoc_ind with
  | h0 => simp [rv]
  | hs t c ih =>
    have hc : c.toNat < 256 := c.toNat_lt
    rw [rv_snoc, List.length_append, List.length_singleton, Nat.pow_succ]
    obtain ⟨M, hM⟩ : ∃ M, M = 10 ^ t.length := ⟨_, rfl⟩
    rw [← hM] at ih ⊢
    omega
theorem rv_val (s : Str) (h : ∀ c ∈ s, isD c) : rv s = ((val s : Nat) : Int) := by
  induction s using snoc_ind with
  | h0 => rfl
  | hs t c ih =>
    have hc := h c (by simp)
    unfold isD at hc
    rw [rv_snoc, val_snoc, ih fun d hd => h d (List.mem_append_left _ hd)]
    omega
theorem rv_eq {s : Str} : (if rv (s.take 14) < 0 ∨ 1099511627776 < rv (s.take 14) ∨ putR (rv (s.take 14)) ≠ s then (0, 3) else (rv (s.take 14), 0)) = readR s := by
  by_cases h : rok s
  · have h2 := h.2.1
    have e : rv (s.take 14) = ((val s : Nat) : Int) := by rw [List.take_of_length_le (by omega), rv_val s h.2.2.2.1]
    have hp : putR ((val s : Nat) : Int) = s := by unfold putR; rw [if_neg (by omega)]; exact rok_dec h
    have h5 := h.2.2.2.2
    rw [readR_yes h, e, hp, if_neg]
    rintro (h | h | h)
    · omega
    · omega
    · exact h rfl
  · rw [readR_no h]
    by_cases hc : rv (s.take 14) < 0 ∨ 1099511627776 < rv (s.take 14) ∨ putR (rv (s.take 14)) ≠ s
    · rw [if_pos hc]
    · obtain ⟨n, hn⟩ : ∃ n, n = rv (s.take 14) := ⟨_, rfl⟩
      rw [← hn] at hc
      have h1 : ¬ n < 0 := fun e => hc (.inl e)
      have h2 : ¬ 1099511627776 < n := fun e => hc (.inr (.inl e))
      have h3 : putR n = s := Decidable.byContradiction fun e => hc (.inr (.inr e))
      unfold putR at h3
      rw [if_neg h1] at h3
      exact absurd (h3 ▸ dec_rok (by omega)) h
set_option maxHeartbeats 1000000 in
theorem rread_any (s : Str) (hl : s.length ≤ maxLen) (w : World) : Calls Try.prog 43 #[.string ⟨s.toArray⟩] w fun e w' => e = .returned (.tuple #[.int .i64 (readR s).1, .int .i64 (readR s).2]) ∧ w = w' := by
  unfold maxLen at hl
  go_enter Try.func43, Try.ntmps43
  go_wp2
  go_loop [4, 5] (fun a i => ∃ (k : Nat) (n : Int), i = .int .i64 k ∧ a = .int .i64 n ∧ k ≤ s.length ∧ k ≤ 14 ∧ Hid (n = rv (s.take k))) (fun _ i => 14 - (intOf i).toNat)
  case atStart => exact ⟨0, 0, rfl, rfl, by omega, by omega, rfl⟩
  case round =>
    obtain ⟨k, n, rfl, rfl, hk, hk14, Hn⟩ := hrel
    have hb := rv_bound (s.take k)
    have hp : 10 ^ (s.take k).length ≤ 10 ^ 14 := Nat.pow_le_pow_right (by omega) (by rw [List.length_take]; omega)
    obtain ⟨M, hM⟩ : ∃ M, M = 10 ^ (s.take k).length := ⟨_, rfl⟩
    rw [← hM] at hb hp
    rw [← Hn.out] at hb
    clear hM
    have hn1 : -600000000000000 ≤ n ∧ n ≤ 2400000000000000 := by omega
    clear hb hp
    by_cases hlt : k < s.length ∧ k < 14
    · obtain ⟨hlt, hlt2⟩ := hlt
      have hix : (⟨s.toArray⟩ : ByteArray)[k]'(by simpa [ByteArray.size] using hlt) = s[k] := rfl
      have hc : s[k].toNat < 256 := s[k].toNat_lt
      have HN := Lib.hid (show 10 * n + (s[k].toNat : Int) - 48 = rv (s.take (k + 1)) by rw [List.take_succ_eq_append_getElem hlt, rv_snoc, ← Hn.out])
      go_wp2
      go_round
      case rel => exact ⟨k + 1, _, by go_num, rfl, by omega, by omega, HN.out⟩
      case measure => simp [intOf]; omega
    · have htk : s.take k = s.take 14 := by
        by_cases h14 : k = 14
        · rw [h14]
        · rw [List.take_of_length_le (by omega), List.take_of_length_le (by omega)]
      have hn : n = rv (s.take 14) := by rw [Hn.out, htk]
      have HN := Lib.hid hn
      clear Hn htk hn
      by_cases hk2 : k < s.length
      · have hk3 : k = 14 := by omega
        subst hk3
        clear hlt hk14 hk
        by_cases h1 : n < 0
        · go_wp2
          go_ret2
          rw [show readR s = (0, 3) by rw [← rv_eq, if_pos (.inl (by rw [← HN.out]; omega))]]
          exact ⟨rfl, rfl⟩
        by_cases h2 : 1099511627776 < n
        · go_wp2
          go_ret2
          rw [show readR s = (0, 3) by rw [← rv_eq, if_pos (.inr (.inl (by rw [← HN.out]; omega)))]]
          exact ⟨rfl, rfl⟩
        have hpc := fun w => rput_any n (by omega) w
        by_cases h3 : putR n = s
        · rw [h3] at hpc
          have H3 := Lib.hid h3
          clear h3
          go_wp2_with (go_at_call 36; refine (hpc _).mono ?_; rintro e w1 ⟨rfl, rfl⟩)
          go_ret2
          rw [show readR s = (n, 0) by rw [← rv_eq, ← HN.out, if_neg (fun h => h.elim (fun h => absurd h (by omega)) (fun h => h.elim (fun h => absurd h (by omega)) (fun h => h H3.out)))]]
          exact ⟨rfl, rfl⟩
        · obtain ⟨q, hq⟩ : ∃ q, q = putR n := ⟨_, rfl⟩
          rw [← hq] at hpc h3
          have HQ := Lib.hid hq
          have hqs : (q == s) = false := beq_eq_false_iff_ne.2 h3
          have H3 := Lib.hid h3
          clear hq h3
          go_wp2_with (go_at_call 36; refine (hpc _).mono ?_; rintro e w1 ⟨rfl, rfl⟩)
          go_ret2
          rw [show readR s = (0, 3) by rw [← rv_eq, if_pos (.inr (.inr (by rw [← HN.out, ← HQ.out]; exact H3.out)))]]
          exact ⟨rfl, rfl⟩
      · have hk3 : k = s.length := by omega
        clear hlt
        by_cases h1 : n < 0
        · go_wp2
          go_ret2
          rw [show readR s = (0, 3) by rw [← rv_eq, if_pos (.inl (by rw [← HN.out]; omega))]]
          exact ⟨rfl, rfl⟩
        by_cases h2 : 1099511627776 < n
        · go_wp2
          go_ret2
          rw [show readR s = (0, 3) by rw [← rv_eq, if_pos (.inr (.inl (by rw [← HN.out]; omega)))]]
          exact ⟨rfl, rfl⟩
        have hpc := fun w => rput_any n (by omega) w
        by_cases h3 : putR n = s
        · rw [h3] at hpc
          have H3 := Lib.hid h3
          clear h3
          go_wp2_with (go_at_call 36; refine (hpc _).mono ?_; rintro e w1 ⟨rfl, rfl⟩)
          go_ret2
          rw [show readR s = (n, 0) by rw [← rv_eq, ← HN.out, if_neg (fun h => h.elim (fun h => absurd h (by omega)) (fun h => h.elim (fun h => absurd h (by omega)) (fun h => h H3.out)))]]
          exact ⟨rfl, rfl⟩
        · obtain ⟨q, hq⟩ : ∃ q, q = putR n := ⟨_, rfl⟩
          rw [← hq] at hpc h3
          have HQ := Lib.hid hq
          have hqs : (q == s) = false := beq_eq_false_iff_ne.2 h3
          have H3 := Lib.hid h3
          clear hq h3
          go_wp2_with (go_at_call 36; refine (hpc _).mono ?_; rintro e w1 ⟨rfl, rfl⟩)
          go_ret2
          rw [show readR s = (0, 3) by rw [← rv_eq, if_pos (.inr (.inr (by rw [← HN.out, ← HQ.out]; exact H3.out)))]]
          exact ⟨rfl, rfl⟩
end Digit
end Go.Proofs.Ytmmdiccpifepfaa
/- Package digit: bytes as two digits. -/
namespace Go.Proofs.Ytmmdiccpifepfaa
open Go.RowKit
set_option linter.unusedVariables false
set_option linter.unusedSimpArgs false
namespace Digit
def hexR (m : Nat) : Str := [hx (m / 16), hx (m % 16)]
theorem half_any (n : Nat) (hn : n < 16) (w : World) : Calls Try.prog 54 #[.int .u8 n] w fun e w' => e = .returned (.int .u8 (hx n).toNat) ∧ w = w' := by
  by_cases h : n < 10
  · have e : (hx n).toNat = 48 + n := by rw [hx_dec n h]; exact (digit_of h).2
    rw [e]
    go_enter Try.func54, Try.ntmps54
    go_wp2
    go_ret
    exact ⟨rfl, rfl⟩
  · have e : (hx n).toNat = 87 + n := by
      have : ∀ k : Fin 16, 10 ≤ k.val → (hx k).toNat = 87 + k := by decide
      exact this ⟨n, hn⟩ (by show 10 ≤ n; omega)
    rw [e]
    go_enter Try.func54, Try.ntmps54
    go_wp2
    go_ret
    refine ⟨?_, rfl⟩
    show Ending.returned (.int .u8 _) = _
    rw [show (97 + (n : Int) - 10) = ((87 + n : Nat) : Int) by omega]
theorem conv_lit (w : World) (l : Str) (cs : Array Value) (h : cs.toList = l.map encB) (n : Nat) (hn : n = l.length) :
    (convert 37 9 (.slice (some ⟨w.heap.size, 0, none⟩) n n)).run Try.prog (w.alloc (.cells cs 5)) = .ok (.string ⟨l.toArray⟩) (w.alloc (.cells cs 5)) := by
  subst hn
  refine run_convert_bytes_back _ 37 9 5 ⟨w.heap.size, 0, none⟩ l.length l Try.underlying37 Try.underlying5 Try.underlying9 fun j hj => ?_
  refine cell_lit w cs 5 j _ ?_
  rw [h]
  simp [hj, encB]
theorem hex_any (m : Nat) (hm : m < 256) (w : World) : Calls Try.prog 52 #[.int .u8 m] w fun e w' => e = .returned (.string ⟨(hexR m).toArray⟩) ∧ Fr No w w' := by
  have c1 := fun w => half_any (m / 16) (by omega) w
  have c2 := fun w => half_any (m % 16) (by omega) w
  rw [show ((m / 16 : Nat) : Int) = (m : Int) / 16 by omega] at c1
  rw [show ((m % 16 : Nat) : Int) = (m : Int) % 16 by omega] at c2
  unfold hexR
  obtain ⟨a, ha⟩ : ∃ a, a = hx (m / 16) := ⟨_, rfl⟩
  obtain ⟨b, hb⟩ : ∃ b, b = hx (m % 16) := ⟨_, rfl⟩
  rw [← ha] at c1 ⊢
  rw [← hb] at c2 ⊢
  clear ha hb
  go_enter Try.func52, Try.ntmps52
  have hcv := conv_lit w [a, b] #[.int .u8 a.toNat, .int .u8 b.toNat] rfl 2 rfl
  go_wp2_with (first
    | (go_at_call 54; with_reducible refine (c1 _).mono ?_; rintro e w1 ⟨rfl, rfl⟩)
    | (go_at_call 54; with_reducible refine (c2 _).mono ?_; rintro e w1 ⟨rfl, rfl⟩))
  go_ret
  exact ⟨rfl, (Fr.refl _ _).alloc _⟩
/-- What a digit's sign is worth. -/
def wv (c : UInt8) : Option Nat := if 48 ≤ c.toNat ∧ c.toNat ≤ 57 then some (c.toNat - 48) else if 97 ≤ c.toNat ∧ c.toNat ≤ 102 then some (c.toNat - 87) else none
theorem worth_any (c : UInt8) (w : World) : Calls Try.prog 53 #[.int .u8 c.toNat] w fun e w' => e = .returned (.tuple #[.int .u8 (((wv c).getD 0 : Nat) : Int), .bool (wv c).isSome]) ∧ w = w' := by
  have hc := c.toNat_lt
  by_cases h1 : 48 ≤ c.toNat ∧ c.toNat ≤ 57
  · have e : wv c = some (c.toNat - 48) := if_pos h1
    obtain ⟨d, hd⟩ : ∃ d, c.toNat = 48 + d := ⟨c.toNat - 48, by omega⟩
    rw [e, hd]
    rw [hd] at h1 hc
    obtain ⟨h1, h2⟩ := h1
    clear e hd
    go_enter Try.func53, Try.ntmps53
    go_wp2
    go_ret2
    refine ⟨?_, rfl⟩
    show Ending.returned (.tuple #[.int .u8 (48 + (d : Int) - 48), _]) = _
    rw [show (48 + (d : Int) - 48) = ((48 + d - 48 : Nat) : Int) by omega]
    rfl
  · by_cases h2 : 97 ≤ c.toNat ∧ c.toNat ≤ 102
    · have e : wv c = some (c.toNat - 87) := by unfold wv; rw [if_neg h1, if_pos h2]
      obtain ⟨d, hd⟩ : ∃ d, c.toNat = 97 + d := ⟨c.toNat - 97, by omega⟩
      rw [e, hd]
      rw [hd] at h1 h2 hc
      obtain ⟨h2, h3⟩ := h2
      clear e hd
      go_enter Try.func53, Try.ntmps53
      go_wp2
      go_ret2
      refine ⟨?_, rfl⟩
      show Ending.returned (.tuple #[.int .u8 (97 + (d : Int) - 97 + 10), _]) = _
      rw [show (97 + (d : Int) - 97 + 10) = ((97 + d - 87 : Nat) : Int) by omega]
      rfl
    · have e : wv c = none := by unfold wv; rw [if_neg h1, if_neg h2]
      rw [e]
      by_cases g1 : c.toNat < 48
      · go_enter Try.func53, Try.ntmps53
        go_wp2
        go_ret2
        exact ⟨rfl, rfl⟩
      · by_cases g2 : c.toNat < 97
        · have g3 : 57 < c.toNat := by omega
          go_enter Try.func53, Try.ntmps53
          go_wp2
          go_ret2
          exact ⟨rfl, rfl⟩
        · have g3 : 102 < c.toNat := by omega
          go_enter Try.func53, Try.ntmps53
          go_wp2
          go_ret2
          exact ⟨rfl, rfl⟩
set_option maxRecDepth 100000 in
theorem wv_hx (c : UInt8) : ∀ n, wv c = some n → hx n = c ∧ n < 16 := by
  have : ∀ k : Fin 256, ∀ n, wv (UInt8.ofNat k) = some n → hx n = UInt8.ofNat k ∧ n < 16 := by
    intro k n h
    have hd : ∀ k : Fin 256, (match wv (UInt8.ofNat k) with | some n => decide (hx n = UInt8.ofNat k ∧ n < 16) | none => true) = true := by decide
    have := hd k
    rw [h] at this
    simpa using this
  have h2 := this ⟨c.toNat, c.toNat_lt⟩
  simpa using h2
def readHexR (s : Str) : Nat × Int := match s with
  | [a, b] => (match wv a, wv b with | some x, some y => (16 * x + y, 0) | _, _ => (0, 3))
  | _ => (0, 3)
set_option maxRecDepth 100000 in
theorem readHex_hex (m : Nat) (hm : m < 256) : readHexR (hexR m) = (m, 0) := by
  have : ∀ k : Fin 256, readHexR (hexR k) = (k.val, 0) := by decide
  exact this ⟨m, hm⟩
theorem readHex_cases (s : Str) : readHexR s = (0, 3) ∨ ∃ m, m < 256 ∧ s = hexR m := by
  unfold readHexR
  split
  · rename_i a b
    cases ha : wv a with
    | none => exact .inl (by simp)
    | some x =>
      cases hb : wv b with
      | none => exact .inl (by simp)
      | some y =>
        obtain ⟨h1, h2⟩ := wv_hx a x ha
        obtain ⟨h3, h4⟩ := wv_hx b y hb
        refine .inr ⟨16 * x + y, by omega, ?_⟩
        unfold hexR
        rw [show (16 * x + y) / 16 = x by omega, show (16 * x + y) % 16 = y by omega, h1, h3]
  · exact .inl rfl
theorem bits_or {x y : Nat} (hx : x < 16) (hy : y < 16) : bits BinOp.or IntKind.u8 ((x : Int) * 16) y = ((16 * x + y : Nat) : Int) := by
  have : ∀ x y : Fin 16, bits BinOp.or IntKind.u8 ((x.val : Int) * 16) y.val = ((16 * x.val + y.val : Nat) : Int) := by decide
  exact this ⟨x, hx⟩ ⟨y, hy⟩
set_option maxHeartbeats 1000000 in
theorem readhex_any (s : Str) (hl : s.length ≤ maxLen) (w : World) : Calls Try.prog 51 #[.string ⟨s.toArray⟩] w fun e w' => e = .returned (.tuple #[.int .u8 (readHexR s).1, .int .i64 (readHexR s).2]) ∧ w = w' := by
  unfold maxLen at hl
  by_cases h2 : s.length = 2
  · obtain ⟨a, b, rfl⟩ : ∃ a b, s = [a, b] := by
      match s, h2 with
      | [a, b], _ => exact ⟨a, b, rfl⟩
    have c1 := fun w => worth_any a w
    have c2 := fun w => worth_any b w
    have hix0 : (⟨#[a, b]⟩ : ByteArray)[0]'(by simp [ByteArray.size]) = a := rfl
    have hix1 : (⟨#[a, b]⟩ : ByteArray)[1]'(by simp [ByteArray.size]) = b := rfl
    have hr : readHexR [a, b] = (match wv a, wv b with | some x, some y => (16 * x + y, 0) | _, _ => (0, 3)) := rfl
    rw [hr]
    have w1 := wv_hx a
    have w2 := wv_hx b
    clear hr hl h2
    generalize wv a = o1 at c1 w1 ⊢
    generalize wv b = o2 at c2 w2 ⊢
    cases o1 with
    | none =>
      go_enter Try.func51, Try.ntmps51
      go_wp2_with (first
        | (go_at_call 53; with_reducible refine (c1 _).mono ?_; rintro e w1 ⟨rfl, rfl⟩)
        | (go_at_call 53; with_reducible refine (c2 _).mono ?_; rintro e w1 ⟨rfl, rfl⟩))
      go_ret2
      exact ⟨rfl, rfl⟩
    | some x =>
      cases o2 with
      | none =>
        go_enter Try.func51, Try.ntmps51
        go_wp2_with (first
          | (go_at_call 53; with_reducible refine (c1 _).mono ?_; rintro e w1 ⟨rfl, rfl⟩)
          | (go_at_call 53; with_reducible refine (c2 _).mono ?_; rintro e w1 ⟨rfl, rfl⟩))
        go_ret2
        exact ⟨rfl, rfl⟩
      | some y =>
        have hx16 := (w1 x rfl).2
        have hy16 := (w2 y rfl).2
        clear w1 w2
        go_enter Try.func51, Try.ntmps51
        go_wp2_with (first
          | (go_at_call 53; with_reducible refine (c1 _).mono ?_; rintro e w1 ⟨rfl, rfl⟩)
          | (go_at_call 53; with_reducible refine (c2 _).mono ?_; rintro e w1 ⟨rfl, rfl⟩))
        go_ret2
        refine ⟨?_, rfl⟩
        show Ending.returned (.tuple #[.int .u8 (bits BinOp.or IntKind.u8 ((x : Int) * 16) y), _]) = _
        rw [bits_or hx16 hy16]
        rfl
  · have hr : readHexR s = (0, 3) := by
      unfold readHexR
      split
      · simp at h2
      · rfl
    have hb : ((s.length : Int) != 2) = true := by simp; omega
    rw [hr]
    clear hr
    go_enter Try.func51, Try.ntmps51
    go_wp2
    go_ret2
    exact ⟨rfl, rfl⟩
theorem rhex_any (m : Nat) (hm : m < 256) (w : World) : Calls Try.prog 50 #[.int .u8 m] w fun e w' => e = .returned (.string ⟨(hexR m).toArray⟩) ∧ w = w' := by
  have c1 := fun w => rdig_any (m / 16) (by omega) w
  have c2 := fun w => rdig_any (m % 16) (by omega) w
  rw [show ((m / 16 : Nat) : Int) = (m : Int) / 16 by omega] at c1
  rw [show ((m % 16 : Nat) : Int) = (m : Int) % 16 by omega] at c2
  unfold hexR
  obtain ⟨a, ha⟩ : ∃ a, a = hx (m / 16) := ⟨_, rfl⟩
  obtain ⟨b, hb⟩ : ∃ b, b = hx (m % 16) := ⟨_, rfl⟩
  rw [← ha] at c1 ⊢
  rw [← hb] at c2 ⊢
  clear ha hb
  go_enter Try.func50, Try.ntmps50
  go_wp2_with (first
    | (go_at_call 46; with_reducible refine (c1 _).mono ?_; rintro e w1 ⟨rfl, rfl⟩)
    | (go_at_call 46; with_reducible refine (c2 _).mono ?_; rintro e w1 ⟨rfl, rfl⟩))
  go_ret
  exact ⟨rfl, rfl⟩
end Digit
end Go.Proofs.Ytmmdiccpifepfaa
/- Package digit: bytes as signs that can be seen. -/
namespace Go.Proofs.Ytmmdiccpifepfaa
open Go.RowKit
set_option linter.unusedVariables false
set_option linter.unusedSimpArgs false
theorem strCells_list (m : Str) : Lib.strCells ⟨m.toArray⟩ = m.map encB := by simp [Lib.strCells, encB]
/-- A row of the call's own, behind block 'base': it grows; nothing ahead of 'base' turns. -/
theorem own_grown {B : Nat} {W w w' : World} {e : TypeId} {size n : Nat} {v : Value} {xs : List Value} (hB : W.heap.size = B) (h : w.ownsRow B e size v n xs) (hf : Fr No W w) (hg : w.grownBy w' v.ownBlock) : Fr No W w' :=
  hf.grown hg fun k hk => .inr (by rw [hB]; exact (h.lt k hk).1)
namespace Digit
def signR (c : UInt8) : Str :=
  if c = 92 then [92, 92] else if c = 10 then [92, 110] else if c = 13 then [92, 114] else if c = 9 then [92, 116]
  else if c.toNat < 32 ∨ 126 < c.toNat then 92 :: 120 :: hexR c.toNat else [c]
theorem sign_len (c : UInt8) : 1 ≤ (signR c).length ∧ (signR c).length ≤ 4 := by
  unfold signR hexR
  repeat' split
  all_goals simp
set_option maxRecDepth 100000 in
theorem shown_any (c : UInt8) (w : World) : Calls Try.prog 49 #[.int .u8 c.toNat] w fun e w' => e = .returned (.string ⟨(signR c).toArray⟩) ∧ Fr No w w' := by
  by_cases h92 : c = 92
  · subst h92
    rw [show signR 92 = [92, 92] from rfl]
    go_enter Try.func49, Try.ntmps49
    go_wp2
    go_ret
    exact ⟨rfl, Fr.refl _ _⟩
  by_cases h10 : c = 10
  · subst h10
    rw [show signR 10 = [92, 110] from rfl]
    go_enter Try.func49, Try.ntmps49
    go_wp2
    go_ret
    exact ⟨rfl, Fr.refl _ _⟩
  by_cases h13 : c = 13
  · subst h13
    rw [show signR 13 = [92, 114] from rfl]
    go_enter Try.func49, Try.ntmps49
    go_wp2
    go_ret
    exact ⟨rfl, Fr.refl _ _⟩
  by_cases h9 : c = 9
  · subst h9
    rw [show signR 9 = [92, 116] from rfl]
    go_enter Try.func49, Try.ntmps49
    go_wp2
    go_ret
    exact ⟨rfl, Fr.refl _ _⟩
  have e92 : ((c.toNat : Int) == 92) = false := (u8_f (d := 92) rfl h92).1
  have e10 : ((c.toNat : Int) == 10) = false := (u8_f (d := 10) rfl h10).1
  have e13 : ((c.toNat : Int) == 13) = false := (u8_f (d := 13) rfl h13).1
  have e9 : ((c.toNat : Int) == 9) = false := (u8_f (d := 9) rfl h9).1
  have hs : signR c = if c.toNat < 32 ∨ 126 < c.toNat then 92 :: 120 :: hexR c.toNat else [c] := by unfold signR; rw [if_neg h92, if_neg h10, if_neg h13, if_neg h9]
  have hh : (hexR c.toNat).length = 2 := rfl
  have hcv := conv_lit w [c] #[.int .u8 c.toNat] rfl 1 rfl
  obtain ⟨q, hq⟩ : ∃ q, q = hexR c.toNat := ⟨_, rfl⟩
  clear h92 h10 h13 h9
  by_cases g1 : c.toNat < 32
  · rw [if_pos (by omega), ← hq] at hs
    rw [← hq] at hh
    have HS := Lib.hid hs
    have HQ := Lib.hid hq
    clear hs hq
    go_enter Try.func49, Try.ntmps49
    go_wp2_with (go_at_call 52; refine (hex_any c.toNat c.toNat_lt _).mono ?_; rintro e w1 ⟨rfl, hf⟩; rw [← HQ.out]; have Hf := Lib.hid (hf); clear hf)
    go_ret
    rw [HS.out]
    exact ⟨rfl, Hf.out⟩
  by_cases g2 : 126 < c.toNat
  · rw [if_pos (by omega), ← hq] at hs
    rw [← hq] at hh
    have HS := Lib.hid hs
    have HQ := Lib.hid hq
    clear hs hq
    go_enter Try.func49, Try.ntmps49
    go_wp2_with (go_at_call 52; refine (hex_any c.toNat c.toNat_lt _).mono ?_; rintro e w1 ⟨rfl, hf⟩; rw [← HQ.out]; have Hf := Lib.hid (hf); clear hf)
    go_ret
    rw [HS.out]
    exact ⟨rfl, Hf.out⟩
  rw [if_neg (by omega)] at hs
  have HS := Lib.hid hs
  clear hs hq hh
  go_enter Try.func49, Try.ntmps49
  go_wp2
  go_ret
  rw [HS.out]
  exact ⟨rfl, (Fr.refl _ _).alloc _⟩
set_option maxRecDepth 100000 in
theorem rsign_any (c : UInt8) (w : World) : Calls Try.prog 47 #[.int .u8 c.toNat] w fun e w' => e = .returned (.string ⟨(signR c).toArray⟩) ∧ Fr No w w' := by
  by_cases h92 : c = 92
  · subst h92
    rw [show signR 92 = [92, 92] from rfl]
    go_enter Try.func47, Try.ntmps47
    go_wp2
    go_ret
    exact ⟨rfl, Fr.refl _ _⟩
  by_cases h10 : c = 10
  · subst h10
    rw [show signR 10 = [92, 110] from rfl]
    go_enter Try.func47, Try.ntmps47
    go_wp2
    go_ret
    exact ⟨rfl, Fr.refl _ _⟩
  by_cases h13 : c = 13
  · subst h13
    rw [show signR 13 = [92, 114] from rfl]
    go_enter Try.func47, Try.ntmps47
    go_wp2
    go_ret
    exact ⟨rfl, Fr.refl _ _⟩
  by_cases h9 : c = 9
  · subst h9
    rw [show signR 9 = [92, 116] from rfl]
    go_enter Try.func47, Try.ntmps47
    go_wp2
    go_ret
    exact ⟨rfl, Fr.refl _ _⟩
  have e92 : ((c.toNat : Int) == 92) = false := (u8_f (d := 92) rfl h92).1
  have e10 : ((c.toNat : Int) == 10) = false := (u8_f (d := 10) rfl h10).1
  have e13 : ((c.toNat : Int) == 13) = false := (u8_f (d := 13) rfl h13).1
  have e9 : ((c.toNat : Int) == 9) = false := (u8_f (d := 9) rfl h9).1
  have hs : signR c = if c.toNat < 32 ∨ 126 < c.toNat then 92 :: 120 :: hexR c.toNat else [c] := by unfold signR; rw [if_neg h92, if_neg h10, if_neg h13, if_neg h9]
  have hh : (hexR c.toNat).length = 2 := rfl
  have hcv := conv_lit w [c] #[.int .u8 c.toNat] rfl 1 rfl
  obtain ⟨q, hq⟩ : ∃ q, q = hexR c.toNat := ⟨_, rfl⟩
  clear h92 h10 h13 h9
  by_cases g1 : c.toNat < 32
  · rw [if_pos (by omega), ← hq] at hs
    rw [← hq] at hh
    have HS := Lib.hid hs
    have HQ := Lib.hid hq
    clear hs hq
    go_enter Try.func47, Try.ntmps47
    go_wp2_with (go_at_call 50; refine (rhex_any c.toNat c.toNat_lt _).mono ?_; rintro e w1 ⟨rfl, hf⟩; rw [← HQ.out]; have Hf := Lib.hid (Fr.of_same No hf); clear hf)
    go_ret
    rw [HS.out]
    exact ⟨rfl, Hf.out⟩
  by_cases g2 : 126 < c.toNat
  · rw [if_pos (by omega), ← hq] at hs
    rw [← hq] at hh
    have HS := Lib.hid hs
    have HQ := Lib.hid hq
    clear hs hq
    go_enter Try.func47, Try.ntmps47
    go_wp2_with (go_at_call 50; refine (rhex_any c.toNat c.toNat_lt _).mono ?_; rintro e w1 ⟨rfl, hf⟩; rw [← HQ.out]; have Hf := Lib.hid (Fr.of_same No hf); clear hf)
    go_ret
    rw [HS.out]
    exact ⟨rfl, Hf.out⟩
  rw [if_neg (by omega)] at hs
  have HS := Lib.hid hs
  clear hs hq hh
  go_enter Try.func47, Try.ntmps47
  go_wp2
  go_ret
  rw [HS.out]
  exact ⟨rfl, (Fr.refl _ _).alloc _⟩
def showR (s : Str) : Str := s.flatMap signR
theorem show_snoc (s : Str) (c : UInt8) : showR (s ++ [c]) = showR s ++ signR c := by simp [showR]
theorem show_len (s : Str) : (showR s).length ≤ 4 * s.length := by
  induction s with
  | nil => simp [showR]
  | cons c s ih =>
    have e : showR (c :: s) = signR c ++ showR s := rfl
    have := (sign_len c).2
    rw [e]; simp; omega
set_option maxHeartbeats 1000000 in
theorem rshow_any (s : Str) (w : World) (hs : s.length ≤ 1000000) : Calls Try.prog 37 #[.string ⟨s.toArray⟩] w fun e w' => e = .returned (.string ⟨(showR s).toArray⟩) ∧ Fr No w w' := by
  go_enter Try.func37, Try.ntmps37
  go_wp2
  go_loopw [3, 4] (fun o i wr => ∃ (k : Nat) (t : Str), i = .int .i64 k ∧ o = .string ⟨t.toArray⟩ ∧ k ≤ s.length ∧ t.length ≤ 4 * k ∧ Hid (t = showR (s.take k)) ∧ Hid (Fr No w wr)) (fun _ i _ => s.length - (intOf i).toNat)
  case atStart => exact ⟨0, [], rfl, rfl, by omega, by simp, rfl, Fr.refl _ _⟩
  case round =>
    obtain ⟨k, t, rfl, rfl, hk, ht, Ht, Hd⟩ := hrel
    by_cases hlt : k < s.length
    · have hix : (⟨s.toArray⟩ : ByteArray)[k]'(by simpa [ByteArray.size] using hlt) = s[k] := rfl
      have hst : showR (s.take (k + 1)) = showR (s.take k) ++ signR s[k] := by rw [List.take_succ_eq_append_getElem hlt, show_snoc]
      have hc := fun w => rsign_any s[k] w
      have hsl := sign_len s[k]
      obtain ⟨g, hg⟩ : ∃ g, g = signR s[k] := ⟨_, rfl⟩
      rw [← hg] at hst hc hsl
      have Hst := Lib.hid hst
      clear hg hst
      go_wp2_with (go_at_call 47; refine (hc _).mono ?_; rintro e w1 ⟨rfl, hf⟩; have Hf := Lib.hid (Hd.out.then_no hf); clear hf)
      go_roundw
      case rel => exact ⟨k + 1, t ++ g, by go_num, rfl, by omega, by simp; omega, (show t ++ g = _ by rw [Hst.out, ← Ht.out]), Hf.out⟩
      case measure => simp [intOf]; omega
    · have HQ := Lib.hid (show t = showR s by rw [Ht.out, List.take_of_length_le (by omega)])
      go_wp2
      go_ret
      rw [← HQ.out]
      exact ⟨rfl, Hd.out⟩
end Digit
end Go.Proofs.Ytmmdiccpifepfaa
/- Package digit: the bytes of signs. -/
namespace Go.Proofs.Ytmmdiccpifepfaa
open Go.RowKit
set_option linter.unusedVariables false
set_option linter.unusedSimpArgs false
/-- 's[i:]' of a text. -/
theorem slice_from {P : Program} (w : World) (T : TypeId) (hT : P.underlying T = some .string) (s : Str) (i : Int) (a : Nat) (hi : i = a) (h : a ≤ s.length) :
    (Instr.slice T (.string ⟨s.toArray⟩) (some (.int .i64 i)) none none).run P w = .ok (.string ⟨(s.drop a).toArray⟩) w := by
  rw [run_slice_string_from_if w T ⟨s.toArray⟩ .i64 i hT, if_pos ⟨by omega, by rw [hi]; show (a : Int) ≤ ((s.toArray.size : Nat) : Int); simp; omega⟩]
  have e : (⟨s.toArray⟩ : ByteArray).size = s.length := by simp [ByteArray.size]
  rw [e, ByteArray.extract_mk, show i.toNat = a by omega]
  simp
  rw [List.take_of_length_le (by simp)]
/-- 's[:j]' of a text. -/
theorem slice_to {P : Program} (w : World) (T : TypeId) (hT : P.underlying T = some .string) (s : Str) (i : Int) (a : Nat) (hi : i = a) (h : a ≤ s.length) :
    (Instr.slice T (.string ⟨s.toArray⟩) none (some (.int .i64 i)) none).run P w = .ok (.string ⟨(s.take a).toArray⟩) w := by
  rw [run_slice_string_to_if w T ⟨s.toArray⟩ .i64 i hT, if_pos ⟨by omega, by rw [hi]; show (a : Int) ≤ ((s.toArray.size : Nat) : Int); simp; omega⟩]
  rw [ByteArray.extract_mk, show i.toNat = a by omega]
  simp
namespace Digit
def oneR : Str → UInt8 × Nat
  | [] => (0, 0)
  | a :: t => if a ≠ 92 then (a, 1) else
    match t with
    | [] => (0, 0)
    | b :: r => if b = 92 then (92, 2) else if b = 110 then (10, 2) else if b = 114 then (13, 2) else if b = 116 then (9, 2)
      else if b = 120 then (if (readHexR (r.take 2)).2 ≠ 0 then (0, 0) else (UInt8.ofNat (readHexR (r.take 2)).1, 4)) else (0, 0)
theorem readHexR_lt (s : Str) : (readHexR s).1 < 256 ∧ ((readHexR s).2 = 0 ∧ s.length = 2 ∨ (readHexR s).2 = 3) := by
  rcases readHex_cases s with h | ⟨m, hm, h⟩
  · rw [h]; exact ⟨by decide, .inr rfl⟩
  · rw [h, readHex_hex m hm]; exact ⟨hm, .inl ⟨rfl, rfl⟩⟩
theorem one_le (s : Str) : (oneR s).2 ≤ s.length := by
  unfold oneR
  split
  · simp
  · split
    · simp
    · split
      · simp
      · rename_i r
        have := (readHexR_lt (r.take 2)).2
        repeat' split
        all_goals simp at *
        omega
theorem one_sign (c : UInt8) (t : Str) : oneR (signR c ++ t) = (c, (signR c).length) := by
  by_cases h92 : c = 92
  · subst h92; rfl
  by_cases h10 : c = 10
  · subst h10; rfl
  by_cases h13 : c = 13
  · subst h13; rfl
  by_cases h9 : c = 9
  · subst h9; rfl
  have hs : signR c = if c.toNat < 32 ∨ 126 < c.toNat then 92 :: 120 :: hexR c.toNat else [c] := by unfold signR; rw [if_neg h92, if_neg h10, if_neg h13, if_neg h9]
  by_cases g : c.toNat < 32 ∨ 126 < c.toNat
  · rw [if_pos g] at hs
    rw [hs]
    have e : oneR (92 :: 120 :: hexR c.toNat ++ t) = if (readHexR ((hexR c.toNat ++ t).take 2)).2 ≠ 0 then (0, 0) else (UInt8.ofNat (readHexR ((hexR c.toNat ++ t).take 2)).1, 4) := rfl
    have e2 : (hexR c.toNat ++ t).take 2 = hexR c.toNat := rfl
    rw [e, e2, readHex_hex _ c.toNat_lt]
    simp [hexR]
  · rw [if_neg g] at hs
    rw [hs]
    show (if c ≠ 92 then (c, 1) else _) = _
    rw [if_pos h92]
    rfl
def uns : Nat → Str → Option Str
  | 0, s => if s = [] then some [] else none
  | f + 1, s => if s = [] then some [] else if (oneR s).2 = 0 ∨ signR (oneR s).1 ≠ s.take (oneR s).2 then none else (uns f (s.drop (oneR s).2)).map ((oneR s).1 :: ·)
theorem uns_fuel (f : Nat) : ∀ g s, s.length ≤ f → s.length ≤ g → uns f s = uns g s := by
  induction f with
  | zero =>
    intro g s h1 h2
    have : s = [] := List.eq_nil_of_length_eq_zero (by omega)
    subst this
    cases g <;> rfl
  | succ f ih =>
    intro g s h1 h2
    by_cases hs : s = []
    · subst hs; cases g <;> rfl
    · cases g with
      | zero => exact absurd (List.eq_nil_of_length_eq_zero (by omega)) hs
      | succ g =>
        unfold uns
        rw [if_neg hs, if_neg hs]
        split
        · rfl
        · rename_i hc
          have : (oneR s).2 ≠ 0 := fun e => hc (.inl e)
          rw [ih g (s.drop (oneR s).2) (by simp; omega) (by simp; omega)]
def unsR (s : Str) : Option Str := uns s.length s
theorem sign_ne (c : UInt8) (t : Str) : signR c ++ t ≠ [] := by
  have := (sign_len c).1
  intro h
  have h2 := congrArg List.length h
  rw [List.length_append] at h2
  simp only [List.length_nil] at h2
  omega
theorem unsR_sign (c : UInt8) (t : Str) : unsR (signR c ++ t) = (unsR t).map (c :: ·) := by
  unfold unsR
  have hl := (sign_len c).1
  obtain ⟨f, hf⟩ : ∃ f, (signR c ++ t).length = f + 1 := ⟨(signR c ++ t).length - 1, by simp; omega⟩
  rw [hf, uns, if_neg (sign_ne c t), one_sign]
  simp only
  rw [if_neg, List.drop_left, uns_fuel f t.length t (by simp at hf; omega) (Nat.le_refl _)]
  rintro (h | h)
  · omega
  · exact h (List.take_left).symm
theorem unsR_bad {s : Str} (h : s ≠ []) (hb : ∀ c t, s ≠ signR c ++ t) : unsR s = none := by
  unfold unsR
  cases hl : s.length with
  | zero => exact absurd (List.eq_nil_of_length_eq_zero hl) h
  | succ f =>
    rw [uns, if_neg h, if_pos]
    by_cases h0 : (oneR s).2 = 0
    · exact .inl h0
    · right
      intro e
      exact hb (oneR s).1 (s.drop (oneR s).2) (by rw [e, List.take_append_drop])
theorem unsR_show (s : Str) : unsR (showR s) = some s := by
  induction s with
  | nil => rfl
  | cons c s ih =>
    have e : showR (c :: s) = signR c ++ showR s := rfl
    rw [e, unsR_sign, ih]; rfl
theorem show_uns (n : Nat) : ∀ t c, t.length ≤ n → unsR t = some c → showR c = t := by
  induction n with
  | zero =>
    intro t c h hu
    have : t = [] := List.eq_nil_of_length_eq_zero (by omega)
    subst this
    have : some c = some [] := hu.symm
    injection this with this
    subst this; rfl
  | succ n ih =>
    intro t c h hu
    by_cases ht : t = []
    · subst ht
      have : some c = some [] := hu.symm
      injection this with this
      subst this; rfl
    · by_cases hx : ∃ d r, t = signR d ++ r
      · obtain ⟨d, r, rfl⟩ := hx
        rw [unsR_sign] at hu
        cases hr : unsR r with
        | none => rw [hr] at hu; cases hu
        | some q =>
          rw [hr] at hu
          injection hu with hu
          subst hu
          have hl := (sign_len d).1
          have := ih r q (by simp at h; omega) hr
          show signR d ++ showR q = _
          rw [this]
      · rw [unsR_bad ht (fun d r e => hx ⟨d, r, e⟩)] at hu
        cases hu
set_option maxHeartbeats 1000000 in
set_option maxRecDepth 100000 in
theorem one_92 (s : Str) (hl : s.length ≤ 1000000) (h1 : 1 < s.length) (hz : s[0] = 92) (hb : s[1] = 92) (hr : oneR s = (92, 2)) (w : World) : Calls Try.prog 48 #[.string ⟨s.toArray⟩] w fun e w' => e = .returned (.tuple #[.int .u8 (oneR s).1.toNat, .int .i64 (oneR s).2]) ∧ w = w' := by
  have hix : (⟨s.toArray⟩ : ByteArray)[0]'(by simp [ByteArray.size]; omega) = s[0] := rfl
  have hix2 : (⟨s.toArray⟩ : ByteArray)[1]'(by simpa [ByteArray.size] using h1) = s[1] := rfl
  have c0 : ((s[0].toNat : Int) != 92) = false := by rw [hz]; rfl
  have c1 : ((s[1].toNat : Int) == 92) = true := by rw [hb]; rfl
  rw [hr]
  clear hr hb hz
  go_enter Try.func48, Try.ntmps48
  go_wp2
  go_ret2
  exact ⟨rfl, rfl⟩
set_option maxHeartbeats 1000000 in
set_option maxRecDepth 100000 in
theorem one_110 (s : Str) (hl : s.length ≤ 1000000) (h1 : 1 < s.length) (hz : s[0] = 92) (hb : s[1] = 110) (hr : oneR s = (10, 2)) (w : World) : Calls Try.prog 48 #[.string ⟨s.toArray⟩] w fun e w' => e = .returned (.tuple #[.int .u8 (oneR s).1.toNat, .int .i64 (oneR s).2]) ∧ w = w' := by
  have hix : (⟨s.toArray⟩ : ByteArray)[0]'(by simp [ByteArray.size]; omega) = s[0] := rfl
  have hix2 : (⟨s.toArray⟩ : ByteArray)[1]'(by simpa [ByteArray.size] using h1) = s[1] := rfl
  have c0 : ((s[0].toNat : Int) != 92) = false := by rw [hz]; rfl
  have c1 : ((s[1].toNat : Int) == 92) = false := by rw [hb]; rfl
  have c2 : ((s[1].toNat : Int) == 110) = true := by rw [hb]; rfl
  rw [hr]
  clear hr hb hz
  go_enter Try.func48, Try.ntmps48
  go_wp2
  go_ret2
  exact ⟨rfl, rfl⟩
set_option maxHeartbeats 1000000 in
set_option maxRecDepth 100000 in
theorem one_114 (s : Str) (hl : s.length ≤ 1000000) (h1 : 1 < s.length) (hz : s[0] = 92) (hb : s[1] = 114) (hr : oneR s = (13, 2)) (w : World) : Calls Try.prog 48 #[.string ⟨s.toArray⟩] w fun e w' => e = .returned (.tuple #[.int .u8 (oneR s).1.toNat, .int .i64 (oneR s).2]) ∧ w = w' := by
  have hix : (⟨s.toArray⟩ : ByteArray)[0]'(by simp [ByteArray.size]; omega) = s[0] := rfl
  have hix2 : (⟨s.toArray⟩ : ByteArray)[1]'(by simpa [ByteArray.size] using h1) = s[1] := rfl
  have c0 : ((s[0].toNat : Int) != 92) = false := by rw [hz]; rfl
  have c1 : ((s[1].toNat : Int) == 92) = false := by rw [hb]; rfl
  have c2 : ((s[1].toNat : Int) == 110) = false := by rw [hb]; rfl
  have c3 : ((s[1].toNat : Int) == 114) = true := by rw [hb]; rfl
  rw [hr]
  clear hr hb hz
  go_enter Try.func48, Try.ntmps48
  go_wp2
  go_ret2
  exact ⟨rfl, rfl⟩
set_option maxHeartbeats 1000000 in
set_option maxRecDepth 100000 in
theorem one_116 (s : Str) (hl : s.length ≤ 1000000) (h1 : 1 < s.length) (hz : s[0] = 92) (hb : s[1] = 116) (hr : oneR s = (9, 2)) (w : World) : Calls Try.prog 48 #[.string ⟨s.toArray⟩] w fun e w' => e = .returned (.tuple #[.int .u8 (oneR s).1.toNat, .int .i64 (oneR s).2]) ∧ w = w' := by
  have hix : (⟨s.toArray⟩ : ByteArray)[0]'(by simp [ByteArray.size]; omega) = s[0] := rfl
  have hix2 : (⟨s.toArray⟩ : ByteArray)[1]'(by simpa [ByteArray.size] using h1) = s[1] := rfl
  have c0 : ((s[0].toNat : Int) != 92) = false := by rw [hz]; rfl
  have c1 : ((s[1].toNat : Int) == 92) = false := by rw [hb]; rfl
  have c2 : ((s[1].toNat : Int) == 110) = false := by rw [hb]; rfl
  have c3 : ((s[1].toNat : Int) == 114) = false := by rw [hb]; rfl
  have c4 : ((s[1].toNat : Int) == 116) = true := by rw [hb]; rfl
  rw [hr]
  clear hr hb hz
  go_enter Try.func48, Try.ntmps48
  go_wp2
  go_ret2
  exact ⟨rfl, rfl⟩
set_option maxHeartbeats 1000000 in
set_option maxRecDepth 100000 in
theorem one_120 (s : Str) (hl : s.length ≤ 1000000) (h1 : 1 < s.length) (hz : s[0] = 92) (hb : s[1] = 120) (x : Nat) (c : Int) (hx : readHexR ((s.drop 2).take 2) = (x, c)) (hr : oneR s = if c ≠ 0 then (0, 0) else (UInt8.ofNat x, 4)) (w : World) : Calls Try.prog 48 #[.string ⟨s.toArray⟩] w fun e w' => e = .returned (.tuple #[.int .u8 (oneR s).1.toNat, .int .i64 (oneR s).2]) ∧ w = w' := by
  have hix : (⟨s.toArray⟩ : ByteArray)[0]'(by simp [ByteArray.size]; omega) = s[0] := rfl
  have hix2 : (⟨s.toArray⟩ : ByteArray)[1]'(by simpa [ByteArray.size] using h1) = s[1] := rfl
  have c0 : ((s[0].toNat : Int) != 92) = false := by rw [hz]; rfl
  have c1 : ((s[1].toNat : Int) == 92) = false := by rw [hb]; rfl
  have c2 : ((s[1].toNat : Int) == 110) = false := by rw [hb]; rfl
  have c3 : ((s[1].toNat : Int) == 114) = false := by rw [hb]; rfl
  have c4 : ((s[1].toNat : Int) == 116) = false := by rw [hb]; rfl
  have c5 : ((s[1].toNat : Int) == 120) = true := by rw [hb]; rfl
  have hrl := readHexR_lt ((s.drop 2).take 2)
  have hc := fun w => readhex_any ((s.drop 2).take 2) (by rw [List.length_take]; unfold maxLen; omega) w
  rw [hx] at hrl hc
  have hx1 : x < 256 := hrl.1
  have hx2 : c = 0 ∨ c = 3 := hrl.2.elim (fun h => .inl h.1) .inr
  clear hx hrl hb hz
  obtain ⟨m, hm, hm2⟩ : ∃ m, m = min s.length 4 ∧ 2 ≤ m := ⟨_, rfl, by omega⟩
  have hsl := fun W : World => slice_str (P := Try.prog) W 9 Try.underlying9 s 2 (m : Int) 2 m rfl rfl hm2 (by omega)
  have e : (s.drop 2).take (m - 2) = (s.drop 2).take 2 := by
    by_cases h4 : 4 ≤ s.length
    · rw [show m - 2 = 2 by omega]
    · rw [List.take_of_length_le (by simp; omega), List.take_of_length_le (by simp; omega)]
  rw [e] at hsl
  obtain ⟨t, ht⟩ : ∃ t, t = (s.drop 2).take 2 := ⟨_, rfl⟩
  rw [← ht] at hsl hc
  clear e ht
  rw [hr]
  clear hr
  by_cases h4 : 4 < s.length
  · obtain rfl : m = 4 := by omega
    rw [show ((4 : Nat) : Int) = 4 from rfl] at hsl
    clear hm
    rcases hx2 with rfl | rfl
    · have hux : (UInt8.ofNat x).toNat = x := by rw [UInt8.toNat_ofNat']; omega
      rw [if_neg (by decide)]
      simp only [hux]
      clear hux
      go_enter Try.func48, Try.ntmps48
      go_wp2_with (go_at_call 51; refine (hc _).mono ?_; rintro e w1 ⟨rfl, rfl⟩)
      go_ret2
      exact ⟨rfl, rfl⟩
    · rw [if_pos (by decide)]
      go_enter Try.func48, Try.ntmps48
      go_wp2_with (go_at_call 51; refine (hc _).mono ?_; rintro e w1 ⟨rfl, rfl⟩)
      go_ret2
      exact ⟨rfl, rfl⟩
  · obtain rfl : m = s.length := by omega
    clear hm
    have h4' : s.length ≤ 4 := by omega
    rcases hx2 with rfl | rfl
    · have hux : (UInt8.ofNat x).toNat = x := by rw [UInt8.toNat_ofNat']; omega
      rw [if_neg (by decide)]
      simp only [hux]
      clear hux
      go_enter Try.func48, Try.ntmps48
      go_wp2_with (go_at_call 51; refine (hc _).mono ?_; rintro e w1 ⟨rfl, rfl⟩)
      go_ret2
      exact ⟨rfl, rfl⟩
    · rw [if_pos (by decide)]
      go_enter Try.func48, Try.ntmps48
      go_wp2_with (go_at_call 51; refine (hc _).mono ?_; rintro e w1 ⟨rfl, rfl⟩)
      go_ret2
      exact ⟨rfl, rfl⟩
set_option maxHeartbeats 1000000 in
set_option maxRecDepth 100000 in
theorem one_no (s : Str) (hl : s.length ≤ 1000000) (h1 : 1 < s.length) (hz : s[0] = 92) (g1 : ¬ s[1] = 92) (g2 : ¬ s[1] = 110) (g3 : ¬ s[1] = 114) (g4 : ¬ s[1] = 116) (g5 : ¬ s[1] = 120) (hr : oneR s = (0, 0)) (w : World) : Calls Try.prog 48 #[.string ⟨s.toArray⟩] w fun e w' => e = .returned (.tuple #[.int .u8 (oneR s).1.toNat, .int .i64 (oneR s).2]) ∧ w = w' := by
  have hix : (⟨s.toArray⟩ : ByteArray)[0]'(by simp [ByteArray.size]; omega) = s[0] := rfl
  have hix2 : (⟨s.toArray⟩ : ByteArray)[1]'(by simpa [ByteArray.size] using h1) = s[1] := rfl
  have c0 : ((s[0].toNat : Int) != 92) = false := by rw [hz]; rfl
  have c1 : ((s[1].toNat : Int) == 92) = false := (u8_f (d := 92) rfl g1).1
  have c2 : ((s[1].toNat : Int) == 110) = false := (u8_f (d := 110) rfl g2).1
  have c3 : ((s[1].toNat : Int) == 114) = false := (u8_f (d := 114) rfl g3).1
  have c4 : ((s[1].toNat : Int) == 116) = false := (u8_f (d := 116) rfl g4).1
  have c5 : ((s[1].toNat : Int) == 120) = false := (u8_f (d := 120) rfl g5).1
  rw [hr]
  clear hr g1 g2 g3 g4 g5 hz
  go_enter Try.func48, Try.ntmps48
  go_wp2
  go_ret2
  exact ⟨rfl, rfl⟩
set_option maxHeartbeats 1000000 in
theorem one_0 (s : Str) (hl : s.length ≤ 1000000) (h1 : 1 < s.length) (hz : ¬ s[0] = 92) (hr : oneR s = (s[0], 1)) (w : World) : Calls Try.prog 48 #[.string ⟨s.toArray⟩] w fun e w' => e = .returned (.tuple #[.int .u8 (oneR s).1.toNat, .int .i64 (oneR s).2]) ∧ w = w' := by
  have hix : (⟨s.toArray⟩ : ByteArray)[0]'(by simp [ByteArray.size]; omega) = s[0] := rfl
  have c0 : ((s[0].toNat : Int) != 92) = true := (u8_f (d := 92) rfl hz).2
  rw [hr]
  clear hr hz
  go_enter Try.func48, Try.ntmps48
  go_wp2
  go_ret2
  exact ⟨rfl, rfl⟩
theorem one_any (s : Str) (hne : s ≠ []) (hl : s.length ≤ 1000000) (w : World) : Calls Try.prog 48 #[.string ⟨s.toArray⟩] w fun e w' => e = .returned (.tuple #[.int .u8 (oneR s).1.toNat, .int .i64 (oneR s).2]) ∧ w = w' := by
  match s, hne, hl with
  | [a], _, hl =>
    have hix : (⟨([a] : Str).toArray⟩ : ByteArray)[0]'(by simp [ByteArray.size]) = a := rfl
    by_cases ha : a = 92
    · subst ha
      rw [show oneR [92] = (0, 0) from rfl]
      clear hix
      go_enter Try.func48, Try.ntmps48
      go_wp2
      go_ret2
      exact ⟨rfl, rfl⟩
    · have e : oneR [a] = (a, 1) := by show (if a ≠ 92 then (a, 1) else _) = _; rw [if_pos ha]
      rw [e]
      have hc1 : ((a.toNat : Int) != 92) = true := (u8_f (d := 92) rfl ha).2
      clear e ha
      go_enter Try.func48, Try.ntmps48
      go_wp2
      go_ret2
      exact ⟨rfl, rfl⟩
  | a :: b :: r, _, hl =>
    have h1 : 1 < (a :: b :: r).length := by simp
    by_cases ha : a = 92
    · subst ha
      have e : oneR (92 :: b :: r) = if b = 92 then (92, 2) else if b = 110 then (10, 2) else if b = 114 then (13, 2) else if b = 116 then (9, 2)
        else if b = 120 then (if (readHexR (r.take 2)).2 ≠ 0 then (0, 0) else (UInt8.ofNat (readHexR (r.take 2)).1, 4)) else (0, 0) := rfl
      by_cases g1 : b = 92
      · exact one_92 _ hl h1 rfl g1 (by rw [e, if_pos g1]) w
      by_cases g2 : b = 110
      · exact one_110 _ hl h1 rfl g2 (by rw [e, if_neg g1, if_pos g2]) w
      by_cases g3 : b = 114
      · exact one_114 _ hl h1 rfl g3 (by rw [e, if_neg g1, if_neg g2, if_pos g3]) w
      by_cases g4 : b = 116
      · exact one_116 _ hl h1 rfl g4 (by rw [e, if_neg g1, if_neg g2, if_neg g3, if_pos g4]) w
      by_cases g5 : b = 120
      · exact one_120 _ hl h1 rfl g5 (readHexR (r.take 2)).1 (readHexR (r.take 2)).2 rfl (by rw [e, if_neg g1, if_neg g2, if_neg g3, if_neg g4, if_pos g5]) w
      · exact one_no _ hl h1 rfl g1 g2 g3 g4 g5 (by rw [e, if_neg g1, if_neg g2, if_neg g3, if_neg g4, if_neg g5]) w
    · have e : oneR (a :: b :: r) = (a, 1) := by show (if a ≠ 92 then (a, 1) else _) = _; rw [if_pos ha]
      exact one_0 _ hl h1 ha e w
end Digit
end Go.Proofs.Ytmmdiccpifepfaa
/- Package digit: Unshow. -/
namespace Go.Proofs.Ytmmdiccpifepfaa
open Go.RowKit
set_option linter.unusedVariables false
set_option linter.unusedSimpArgs false
namespace Digit
def unsP (s : Str) : Str × Int := match unsR s with | some o => (o, 0) | none => ([], 3)
theorem unsP_yes {s t out : Str} (h : unsR s = (unsR t).map (out ++ ·)) (ht : t = []) : unsP s = (out, 0) := by
  subst ht
  unfold unsP
  rw [h, show unsR [] = some [] from rfl]
  simp
theorem unsP_no {s t out : Str} (h : unsR s = (unsR t).map (out ++ ·)) (ht : unsR t = none) : unsP s = ([], 3) := by
  unfold unsP
  rw [h, ht]
  rfl
theorem uns_on {s t r out : Str} {c : UInt8} (h : unsR s = (unsR t).map (out ++ ·)) (ht : t = signR c ++ r) : unsR s = (unsR r).map (out ++ [c] ++ ·) := by
  rw [h, ht, unsR_sign]
  cases unsR r <;> simp
set_option maxHeartbeats 1000000 in
theorem unshow_any (s : Str) (w : World) (hs : s.length ≤ 1000000) : Calls Try.prog 40 #[.string ⟨s.toArray⟩] w fun e w' => e = .returned (.tuple #[.string ⟨(unsP s).1.toArray⟩, .int .i64 (unsP s).2]) ∧ Fr No w w' := by
  go_enter Try.func40, Try.ntmps40
  go_wp2
  go_loopw [4, 5] (fun o rv wr => ∃ (t out : Str) (m : Nat), rv = .string ⟨t.toArray⟩ ∧ t.length + m ≤ s.length ∧ Hid (m = out.length) ∧ Hid (unsR s = (unsR t).map (out ++ ·)) ∧ Hid (wr.ownsRow 0 5 1 o m (out.map encB) ∧ Step No w (Of o) wr)) (fun _ rv _ => match rv with | .string b => b.size | _ => 0)
  case atStart => exact ⟨s, [], 0, rfl, by omega, rfl, (show unsR s = _ by cases unsR s <;> simp), World.ownsRow_nil _ _ _ _, Fr.refl _ _, fun k hk => (by cases hk)⟩
  case round =>
    obtain ⟨t, out, m, rfl, htm, Hm, Hu, Hd⟩ := hrel
    by_cases ht : t = []
    · subst ht
      have HP := Lib.hid (unsP_yes Hu.out rfl)
      obtain ⟨d1, d2⟩ := Hd.out
      obtain ⟨A, cc, hu⟩ := own_form d1
      subst hu
      have d1' : wr.ownsRow 0 5 1 (.slice A m cc) out.length (out.map encB) := by rw [← Hm.out]; exact d1
      have hcv := conv_bytes (P := Try.prog) (w := wr) 37 9 5 Try.underlying37 Try.underlying5 Try.underlying9 (own_bytes d1')
      have D2 := Lib.hid d2
      clear d1 d1' d2 Hd Hu
      go_wp2
      go_ret2
      rw [HP.out]
      exact ⟨rfl, D2.out.1⟩
    · have htb : t.isEmpty = false := by simpa using ht
      have h1 := fun w => one_any t ht (by omega) w
      have hle := one_le t
      obtain ⟨c, n, hcn⟩ : ∃ c n, oneR t = (c, n) := ⟨_, _, rfl⟩
      rw [hcn] at h1 hle
      have h1 : ∀ w, Calls Try.prog 48 #[.string ⟨t.toArray⟩] w fun e w' => e = .returned (.tuple #[.int .u8 c.toNat, .int .i64 n]) ∧ w = w' := h1
      have hle : n ≤ t.length := hle
      have h2 := fun w => shown_any c w
      have hsl := fun W : World => slice_to (P := Try.prog) W 9 Try.underlying9 t n n rfl hle
      have hsl2 := fun W : World => slice_from (P := Try.prog) W 9 Try.underlying9 t n n rfl hle
      by_cases hx : ∃ c' r, t = signR c' ++ r
      · obtain ⟨c', r, htr⟩ := hx
        have hone := one_sign c' r
        rw [← htr, hcn] at hone
        injection hone with hc1 hn1
        subst hc1
        have htk : t.take n = signR c := by rw [htr, hn1, List.take_left]
        have hdr : t.drop n = r := by rw [htr, hn1, List.drop_left]
        have hsg := sign_len c
        rw [← hn1] at hsg
        have hn0 : ((n : Int) == 0) = false := by rw [beq_eq_false_iff_ne]; omega
        obtain ⟨g, hg⟩ : ∃ g, g = signR c := ⟨_, rfl⟩
        rw [htk, ← hg] at hsl
        rw [← hg] at h2
        rw [hdr] at hsl2
        have Hon := Lib.hid (uns_on Hu.out htr)
        have hrl : r.length + n = t.length := by rw [htr, hn1]; simp; omega
        obtain ⟨A, cc, hu⟩ := own_form Hd.out.1
        subst hu
        clear htk hdr hg htr hn1 hcn Hu
        go_wp2_with (go_at_call 48; refine (h1 _).mono ?_; rintro e w1 ⟨rfl, rfl⟩)
        go_region_with (go_at_call 49; refine (h2 _).mono ?_; rintro e w1 ⟨rfl, hf⟩; have Hf := Lib.hid hf; clear hf)
        all_goals
          have Hf2 := Lib.hid (show Fr No wr w1 from (((Fr.refl No wr).drew).trans Hf.out fun _ h _ => h))
          have Ho := Lib.hid (own_fr Hd.out.1 Hf2.out (fun _ _ h => h))
          have Hs := Lib.hid (Hd.out.2.trans (Step.no Hf2.out))
          go_wp2
          go_region_law (go_loud (refine step_pushD rfl (.tmp 26) (.tmp 28) 37 rfl 5 (.int .u8 0) 1 1 Try.underlying37 infoB rfl (by decide) (.slice A m cc) m (out.map encB) (by simp [Act.eval, Act.put]) Ho.out #[.int .u8 c.toNat] (by simp [Act.eval, Act.put]) rfl (by intro u hu; simp at hu; subst hu; rfl) (by omega) (by unfold maxLen; omega) ?_; intro g4 cap4 w4 p1 p2 p3; have P1 := Lib.hid p1; have P2 := Lib.hid (Hs.out.trans (Step.of (n := m + 1) (c := cap4) p2 p3)); clear p1 p2 p3))
          all_goals
            go_wp2
            go_roundw
            case rel => exact ⟨_, _, _, _, ⟨r, rfl, out ++ [c], m + 1, by omega, (show m + 1 = _ by rw [Hm.out]; simp), Hon.out, by rw [List.map_append]; exact P1.out, P2.out⟩, rfl, rfl, rfl, rfl⟩
            case measure => omega
      · have HP := Lib.hid (unsP_no Hu.out (unsR_bad ht (fun c r e => hx ⟨c, r, e⟩)))
        by_cases hn : n = 0
        · have hn0 : ((n : Int) == 0) = true := by rw [hn]; rfl
          clear hcn hle hx h2
          go_wp2_with (go_at_call 48; refine (h1 _).mono ?_; rintro e w1 ⟨rfl, rfl⟩)
          go_quiet (fail)
          go_wp2
          go_ret2
          rw [HP.out]
          exact ⟨rfl, Hd.out.2.1.drewN _⟩
        · have hn0 : ((n : Int) == 0) = false := by rw [beq_eq_false_iff_ne]; omega
          have hgq : signR c ≠ t.take n := fun e => hx ⟨c, t.drop n, by rw [e, List.take_append_drop]⟩
          obtain ⟨g, hg⟩ : ∃ g, g = signR c := ⟨_, rfl⟩
          obtain ⟨q, hq⟩ : ∃ q, q = t.take n := ⟨_, rfl⟩
          rw [← hg, ← hq] at hgq
          rw [← hq] at hsl
          rw [← hg] at h2
          have hgq2 : (g == q) = false := beq_eq_false_iff_ne.2 hgq
          clear hg hq hgq hcn hx
          go_wp2_with (go_at_call 48; refine (h1 _).mono ?_; rintro e w1 ⟨rfl, rfl⟩)
          go_region_with (go_at_call 49; refine (h2 _).mono ?_; rintro e w1 ⟨rfl, hf⟩; have Hf := Lib.hid hf; clear hf)
          all_goals
            have Hf2 := Lib.hid (show Fr No wr w1 from (((Fr.refl No wr).drew).trans Hf.out fun _ h _ => h))
            go_wp2
            go_ret2
            rw [HP.out]
            exact ⟨rfl, Hd.out.2.1.then_no Hf2.out⟩
end Digit
end Go.Proofs.Ytmmdiccpifepfaa
/- Package digit: the reference's Unshow. -/
namespace Go.Proofs.Ytmmdiccpifepfaa
open Go.RowKit
set_option linter.unusedVariables false
set_option linter.unusedSimpArgs false
namespace Digit
theorem conv_one (c : UInt8) (k : Nat) (hk : c.toNat = k) (W : World) (b : Nat) (h1 : W.cell? ⟨b, 0, none⟩ = some (.int .u8 k)) :
    (convert 37 9 (.slice (some ⟨b, 0, none⟩) 1 1)).run Try.prog W = .ok (.string ⟨#[c]⟩) W := by
  refine run_convert_bytes_back W 37 9 5 ⟨b, 0, none⟩ 1 [c] Try.underlying37 Try.underlying5 Try.underlying9 fun j hj => ?_
  have : j = 0 := by simpa using hj
  subst this
  rw [add_zero, h1, ← hk]
  rfl
theorem take_sign {t : Str} {g : Str} (hl : g.length ≤ t.length) (h : t.take g.length = g) : t = g ++ t.drop g.length := by
  conv => lhs; rw [← List.take_append_drop g.length t, h]
/-- The inner loop: what was found among the first k. -/
def Fnd (t out : Str) (k : Nat) (t' out' : Str) (f : Bool) : Prop :=
  if f = true then ∃ c, t = signR c ++ t' ∧ out' = out ++ [c] else t' = t ∧ out' = out ∧ ∀ j, j < k → ∀ r, t ≠ signR (UInt8.ofNat j) ++ r
set_option maxHeartbeats 2000000 in
set_option maxRecDepth 100000 in
theorem runshow_any (s : Str) (w : World) (hs : s.length ≤ 1000000) : Calls Try.prog 44 #[.string ⟨s.toArray⟩] w fun e w' => e = .returned (.tuple #[.string ⟨(unsP s).1.toArray⟩, .int .i64 (unsP s).2]) ∧ Fr No w w' := by
  go_enter Try.func44, Try.ntmps44
  go_wp2
  go_loopg [0, 4] s.length (fun g sv o wr => ∃ t out : Str, sv = .string ⟨t.toArray⟩ ∧ o = .string ⟨out.toArray⟩ ∧ t.length ≤ g ∧ g ≤ s.length ∧ t.length + out.length ≤ s.length ∧ Hid (unsR s = (unsR t).map (out ++ ·)) ∧ Hid (Fr No w wr))
  case atStart => exact ⟨s, [], rfl, rfl, Nat.le_refl _, Nat.le_refl _, by simp, (show unsR s = _ by cases unsR s <;> simp), Fr.refl _ _⟩
  case round =>
    obtain ⟨t, out, rfl, rfl, htg, hgs, hto, Hu, Hd⟩ := hrel
    obtain ⟨G, hG⟩ : ∃ G, G = gk := ⟨_, rfl⟩
    subst hG
    obtain ⟨wo, hwo⟩ : ∃ wo, wo = wr := ⟨_, rfl⟩
    subst hwo
    by_cases ht : t = []
    · subst ht
      have HP := Lib.hid (unsP_yes Hu.out rfl)
      go_wp2
      go_ret2
      rw [HP.out]
      exact ⟨rfl, Hd.out⟩
    · have htb : t.isEmpty = false := by simpa using ht
      go_wp2
      go_loopg [0, 4, 5, 6] 256 (fun g sv o f iv wi => ∃ (t' out' : Str) (b : Bool) (k : Nat), sv = .string ⟨t'.toArray⟩ ∧ o = .string ⟨out'.toArray⟩ ∧ f = .bool b ∧ iv = .int .i64 k ∧ k ≤ 256 ∧ g = 256 - k ∧ t'.length ≤ t.length ∧ out'.length + t'.length ≤ s.length ∧ Hid (Fnd t out k t' out' b) ∧ Hid (Fr No w wi))
      case atStart => exact ⟨t, out, false, 0, rfl, rfl, rfl, rfl, by omega, by omega, by omega, by omega, ⟨rfl, rfl, fun j h => absurd h (by omega)⟩, Hd.out⟩
      case round =>
        obtain ⟨t', out', b, k, rfl, rfl, rfl, rfl, hk, hgk, htl, hol, Hf, Hd1⟩ := hrel
        by_cases hbk : b = false ∧ k < 256
        · obtain ⟨rfl, hk2⟩ := hbk
          obtain ⟨ht1, ho1, hno⟩ := Hf.out
          subst ht1 ho1
          obtain ⟨c, hc⟩ : ∃ c, c = UInt8.ofNat k := ⟨_, rfl⟩
          have hck : c.toNat = k := by rw [hc, UInt8.toNat_ofNat']; omega
          have h2 := fun w => rsign_any c w
          rw [hck] at h2
          obtain ⟨g, hg⟩ : ∃ g, g = signR c := ⟨_, rfl⟩
          have hgl := sign_len c
          rw [← hg] at h2 hgl
          by_cases hx : g.length ≤ t'.length ∧ t'.take g.length = g
          · obtain ⟨hx1, hx2⟩ := hx
            have htr := take_sign hx1 hx2
            obtain ⟨r, hr⟩ : ∃ r, r = t'.drop g.length := ⟨_, rfl⟩
            have hrl : r.length + g.length = t'.length := by rw [hr]; simp; omega
            rw [← hr] at htr
            have hsl := fun W : World => slice_to (P := Try.prog) W 9 Try.underlying9 t' (g.length : Nat) g.length rfl hx1
            rw [hx2] at hsl
            have hsl2 := fun W : World => slice_from (P := Try.prog) W 9 Try.underlying9 t' (g.length : Nat) g.length rfl hx1
            rw [← hr] at hsl2
            have hcv := conv_one c k hck
            have Htr := Lib.hid (show t' = signR c ++ r by rw [← hg]; exact htr)
            clear hno Hf hr htr hx2 hg hc hck
            go_wp2_with (go_at_call 47; refine (h2 _).mono ?_; rintro e w1 ⟨rfl, hf⟩; have Hf := Lib.hid (Hd1.out.then_no hf); clear hf)
            go_region
            all_goals
              go_wp2
              go_roundg (256 - (k + 1))
              case measure => omega
              case rel => exact ⟨r, out' ++ [c], true, k + 1, rfl, rfl, rfl, by go_num, by omega, rfl, by omega, by simp; omega, ⟨c, Htr.out, rfl⟩, by first | exact Hf.out.drewN _ | exact (Hf.out.alloc _).drew | exact (Hf.out.drew).alloc _ | exact Hf.out.alloc _ | exact ((Hf.out.alloc _).drewN _)⟩
          · have hno2 : ∀ j, j < k + 1 → ∀ r, t' ≠ signR (UInt8.ofNat j) ++ r := by
              intro j hj r e
              by_cases hjk : j = k
              · subst hjk
                rw [← hc, ← hg] at e
                exact hx ⟨by rw [e]; simp, by rw [e]; exact List.take_left⟩
              · exact hno j (by omega) r e
            have HN := Lib.hid hno2
            clear hno hno2 Hf
            by_cases hx1 : g.length ≤ t'.length
            · have hx2 : t'.take g.length ≠ g := fun e => hx ⟨hx1, e⟩
              have hsl := fun W : World => slice_to (P := Try.prog) W 9 Try.underlying9 t' (g.length : Nat) g.length rfl hx1
              obtain ⟨q, hq⟩ : ∃ q, q = t'.take g.length := ⟨_, rfl⟩
              rw [← hq] at hsl hx2
              have hqg : (q == g) = false := beq_eq_false_iff_ne.2 hx2
              clear hx hx2 hq hg hc hck
              go_wp2_with (go_at_call 47; refine (h2 _).mono ?_; rintro e w1 ⟨rfl, hf⟩; have Hf := Lib.hid (Hd1.out.then_no hf); clear hf)
              go_roundg (256 - (k + 1))
              case measure => omega
              case rel => exact ⟨t', out', false, k + 1, rfl, rfl, rfl, by go_num, by omega, rfl, by omega, by omega, ⟨rfl, rfl, HN.out⟩, Hf.out⟩
            · clear hx hg hc hck
              go_wp2_with (go_at_call 47; refine (h2 _).mono ?_; rintro e w1 ⟨rfl, hf⟩; have Hf := Lib.hid (Hd1.out.then_no hf); clear hf)
              go_roundg (256 - (k + 1))
              case measure => omega
              case rel => exact ⟨t', out', false, k + 1, rfl, rfl, rfl, by go_num, by omega, rfl, by omega, by omega, ⟨rfl, rfl, HN.out⟩, Hf.out⟩
        · cases b
          · have hk2 : k = 256 := by
              have : ¬ k < 256 := fun h => hbk ⟨rfl, h⟩
              omega
            obtain ⟨ht1, ho1, hno⟩ := Hf.out
            have HP := Lib.hid (unsP_no Hu.out (unsR_bad ht (fun c r e => hno c.toNat (by have := c.toNat_lt; omega) r (by simpa using e))))
            clear hno Hf hbk
            subst hk2
            go_wp2
            go_ret2
            rw [HP.out]
            exact ⟨rfl, Hd1.out⟩
          · obtain ⟨c, htr, ho1⟩ := Hf.out
            have Hon := Lib.hid (uns_on Hu.out htr)
            have hlt : t'.length < t.length := by
              have := (sign_len c).1
              rw [htr]; simp; omega
            have Hou := Lib.hid ho1
            clear htr ho1 Hf hbk
            by_cases hk2 : k < 256
            · go_wp2
              go_roundg t'.length
              case measure => omega
              case rel => exact ⟨t', out', rfl, rfl, Nat.le_refl _, by omega, by omega, by rw [Hou.out]; exact Hon.out, Hd1.out⟩
            · go_wp2
              go_roundg t'.length
              case measure => omega
              case rel => exact ⟨t', out', rfl, rfl, Nat.le_refl _, by omega, by omega, by rw [Hou.out]; exact Hon.out, Hd1.out⟩
end Digit
end Go.Proofs.Ytmmdiccpifepfaa
/- The examples of the statements of package digit. -/
namespace Go.Proofs.Ytmmdiccpifepfaa
open Go.RowKit
set_option linter.unusedVariables false
set_option linter.unusedSimpArgs false
namespace Digit
theorem w1 : readR [49, 48, 57, 57, 53, 49, 49, 54, 50, 55, 55, 55, 54] = (1099511627776, 0) := by decide
theorem w2 : readR [49, 48, 57, 57, 53, 49, 49, 54, 50, 55, 55, 55, 55] = (0, 3) := by decide
theorem w3 : readR [48, 49] = (0, 3) := by decide
theorem w4 : unsP [97, 92, 120, 48, 48, 92, 110] = ([97, 0, 10], 0) := by decide
theorem w5 : unsP [92, 120, 52, 49] = ([], 3) := by decide
theorem w6 : readHexR [102, 101] = (254, 0) := by decide
theorem w7 : putR (-70) = [45, 55, 48] := by simp [putR, dec]
theorem w8 : putR (-9223372036854775808) = [45, 57, 50, 50, 51, 51, 55, 50, 48, 51, 54, 56, 53, 52, 55, 55, 53, 56, 48, 56] := by simp [putR, dec]
theorem w9 : padR 7 3 = [48, 48, 55] := by simp [padR, dec]
theorem w10 : showR [97, 92, 127, 10] = [97, 92, 92, 92, 120, 55, 102, 92, 110] := by decide
end Digit
end Go.Proofs.Ytmmdiccpifepfaa
/- The statements of package digit. -/
namespace Go.Proofs.Ytmmdiccpifepfaa
open Go.RowKit
set_option linter.unusedVariables false
set_option linter.unusedSimpArgs false
namespace Digit
theorem wf64 {n : Int} (h : (Lit.int .i64 n).wf = true) : -9223372036854775808 ≤ n ∧ n ≤ 9223372036854775807 := by
  have e1 : IntKind.i64.min = -9223372036854775808 := rfl
  have e2 : IntKind.i64.max = 9223372036854775807 := rfl
  simpa [Lit.wf, e1, e2] using h
theorem wf8 {n : Int} (h : (Lit.int .u8 n).wf = true) : 0 ≤ n ∧ n ≤ 255 := by
  have e1 : IntKind.u8.min = 0 := rfl
  have e2 : IntKind.u8.max = 255 := rfl
  simpa [Lit.wf, e1, e2] using h
theorem readR_put (n : Int) : readR (putR n) = if 0 ≤ n ∧ n ≤ 1099511627776 then (n, 0) else (0, 3) := by
  by_cases h : 0 ≤ n ∧ n ≤ 1099511627776
  · have hp : putR n = dec n.natAbs := by unfold putR; rw [if_neg (by omega)]
    rw [if_pos h, hp, readR_yes (dec_rok (by omega)), dec_val]
    rw [show ((n.natAbs : Nat) : Int) = n by omega]
  · rw [if_neg h]
    refine readR_no fun hr => ?_
    by_cases hn : n < 0
    · have hp : putR n = 45 :: dec n.natAbs := by unfold putR; rw [if_pos hn]
      rw [hp] at hr
      have := hr.2.2.2.1 45 (by simp)
      exact absurd this (by decide)
    · have hp : putR n = dec n.natAbs := by unfold putR; rw [if_neg hn]
      have := hr.2.2.2.2
      rw [hp, dec_val] at this
      omega
theorem readR_back {s : Str} {a : Int} (h : readR s = (a, 0)) : putR a = s ∧ 0 ≤ a ∧ a ≤ 1099511627776 := by
  by_cases hr : rok s
  · rw [readR_yes hr] at h
    injection h with h _
    subst h
    have := hr.2.2.2.2
    refine ⟨?_, by omega, by omega⟩
    unfold putR
    rw [if_neg (by omega)]
    exact rok_dec hr
  · rw [readR_no hr] at h
    injection h with _ h
    cases h
theorem readR_code (s : Str) : (readR s).2 = 0 ∨ (readR s).2 = 3 := by
  by_cases hr : rok s
  · rw [readR_yes hr]; exact .inl rfl
  · rw [readR_no hr]; exact .inr rfl
theorem readHexR_code (s : Str) : (readHexR s).2 = 0 ∨ (readHexR s).2 = 3 := (readHexR_lt s).2.elim (fun h => .inl h.1) .inr
theorem sign_seen (c : UInt8) : ∀ d ∈ signR c, 32 ≤ d.toNat ∧ d.toNat ≤ 126 := by
  by_cases h92 : c = 92
  · subst h92; decide
  by_cases h10 : c = 10
  · subst h10; decide
  by_cases h13 : c = 13
  · subst h13; decide
  by_cases h9 : c = 9
  · subst h9; decide
  have hs : signR c = if c.toNat < 32 ∨ 126 < c.toNat then 92 :: 120 :: hexR c.toNat else [c] := by unfold signR; rw [if_neg h92, if_neg h10, if_neg h13, if_neg h9]
  by_cases g : c.toNat < 32 ∨ 126 < c.toNat
  · rw [if_pos g] at hs
    rw [hs]
    have hh : ∀ k : Fin 16, 32 ≤ (hx k).toNat ∧ (hx k).toNat ≤ 126 := by decide
    have hc := c.toNat_lt
    intro d hd
    simp only [List.mem_cons, hexR, List.not_mem_nil, or_false] at hd
    rcases hd with rfl | rfl | rfl | rfl
    · decide
    · decide
    · exact hh ⟨c.toNat / 16, by omega⟩
    · exact hh ⟨c.toNat % 16, by omega⟩
  · rw [if_neg g] at hs
    rw [hs]
    intro d hd
    rw [List.mem_singleton.1 hd]
    omega
theorem show_seen (s : Str) : ∀ d ∈ showR s, 32 ≤ d.toNat ∧ d.toNat ≤ 126 := by
  intro d hd
  obtain ⟨c, _, hc⟩ := List.mem_flatMap.1 hd
  exact sign_seen c d hc
end Digit
end Go.Proofs.Ytmmdiccpifepfaa
