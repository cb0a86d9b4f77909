/- Package digit: Read. -/
import Derived.Test.YtgfofigdejlbfaaDigitPad
namespace Go.Proofs.Ytgfofigdejlbfaa
open Go.RowKit
set_option linter.unusedVariables false
set_option linter.unusedSimpArgs false
namespace Digit
theorem snoc_ind {P : Str → Prop} (h0 : P []) (hs : ∀ t c, P t → P (t ++ [c])) (s : Str) : P s := by
  obtain ⟨n, hn⟩ : ∃ n, n = s.length := ⟨_, rfl⟩
  induction n generalizing s with
  | zero => rw [List.eq_nil_of_length_eq_zero hn.symm]; exact h0
  | succ n ih =>
    rcases List.eq_nil_or_concat s with rfl | ⟨t, c, rfl⟩
    · simp at hn
    · rw [List.concat_eq_append] at hn ⊢
      exact hs t c (ih t (by simp at hn; omega))
theorem head_app (t r : Str) (h : t ≠ []) : (t ++ r).head? = t.head? := by
  cases t with
  | nil => exact absurd rfl h
  | cons a t => rfl
def isD (c : UInt8) : Prop := 48 ≤ c.toNat ∧ c.toNat ≤ 57
instance (c : UInt8) : Decidable (isD c) := by unfold isD; exact inferInstance
def val (s : Str) : Nat := s.foldl (fun n c => 10 * n + (c.toNat - 48)) 0
theorem val_snoc (s : Str) (c : UInt8) : val (s ++ [c]) = 10 * val s + (c.toNat - 48) := by simp [val]
theorem digit_of {k : Nat} (h : k < 10) : isD (UInt8.ofNat (48 + k)) ∧ (UInt8.ofNat (48 + k)).toNat = 48 + k := by
  have e : (UInt8.ofNat (48 + k)).toNat = 48 + k := by rw [UInt8.toNat_ofNat']; omega
  exact ⟨⟨by omega, by omega⟩, e⟩
theorem dec_digits (n : Nat) : ∀ c ∈ dec n, isD c := by
  induction n using Nat.strongRecOn with
  | _ n ih =>
    rw [dec_step]
    intro c hc
    rcases List.mem_append.1 hc with hc | hc
    · split at hc
      · cases hc
      · exact ih _ (by omega) c hc
    · rw [List.mem_singleton.1 hc]; exact (digit_of (by omega)).1
theorem dec_val (n : Nat) : val (dec n) = n := by
  induction n using Nat.strongRecOn with
  | _ n ih =>
    rw [dec_step, val_snoc, (digit_of (by omega)).2]
    split
    · simp [val]; omega
    · rw [ih _ (by omega)]; omega
theorem dec_ne (n : Nat) : dec n ≠ [] := by rw [dec_step]; simp
theorem dec_head (n : Nat) (h : (dec n).head? = some 48) : n = 0 := by
  induction n using Nat.strongRecOn with
  | _ n ih =>
    rw [dec_step] at h
    split at h
    · rename_i hz
      simp at h
      have h2 := (digit_of (k := n % 10) (by omega)).2
      have h3 : UInt8.ofNat (48 + n % 10) = 48 := by simpa using h
      rw [h3] at h2
      have : (48 : UInt8).toNat = 48 := rfl
      omega
    · rename_i hz
      rw [head_app _ _ (dec_ne _)] at h
      exact absurd (ih _ (by omega) h) hz
theorem val_pos (s : Str) : s ≠ [] → (∀ c ∈ s, isD c) → s.head? ≠ some 48 → 1 ≤ val s := by
  induction s using snoc_ind with
  | h0 => intro h; exact absurd rfl h
  | hs t c ih =>
    intro hne hd hh
    rw [val_snoc]
    by_cases ht : t = []
    · subst ht
      have hc := hd c (by simp)
      have : c ≠ 48 := fun e => hh (by simp [e])
      have : c.toNat ≠ 48 := fun e => this (UInt8.toNat_inj.1 e)
      unfold isD at hc
      omega
    · have := ih ht (fun d hdm => hd d (List.mem_append_left _ hdm)) (by rwa [head_app _ _ ht] at hh)
      omega
theorem val_dec (s : Str) : s ≠ [] → (∀ c ∈ s, isD c) → (s.head? ≠ some 48 ∨ s.length = 1) → dec (val s) = s := by
  induction s using snoc_ind with
  | h0 => intro h; exact absurd rfl h
  | hs t c ih =>
    intro hne hd hh
    have hc := hd c (by simp)
    unfold isD at hc
    have e : UInt8.ofNat (48 + (c.toNat - 48)) = c := by
      rw [show 48 + (c.toNat - 48) = c.toNat by omega]; simp
    rw [val_snoc, dec_step]
    by_cases ht : t = []
    · subst ht
      have h1 : (10 * val [] + (c.toNat - 48)) / 10 = 0 := by simp [val]; omega
      have h2 : (10 * val [] + (c.toNat - 48)) % 10 = c.toNat - 48 := by simp [val]; omega
      rw [if_pos h1, h2, e]
    · have hd2 : ∀ d ∈ t, isD d := fun d hdm => hd d (List.mem_append_left _ hdm)
      have hh2 : t.head? ≠ some 48 := by
        rcases hh with hh | hh
        · rwa [head_app _ _ ht] at hh
        · exact absurd (by simpa using hh) ht
      have hp := val_pos t ht hd2 hh2
      have h1 : (10 * val t + (c.toNat - 48)) / 10 = val t := by omega
      have h2 : (10 * val t + (c.toNat - 48)) % 10 = c.toNat - 48 := by omega
      rw [h1, h2, if_neg (by omega), e, ih ht hd2 (.inl hh2)]
def readR (s : Str) : Int × Int :=
  if s = [] ∨ 13 < s.length ∨ (s.head? = some 48 ∧ 1 < s.length) ∨ (∃ c ∈ s, ¬ isD c) ∨ 1099511627776 < val s then (0, 3) else (((val s : Nat) : Int), 0)
theorem val_lt (s : Str) (hd : ∀ c ∈ s, isD c) : val s < 10 ^ s.length := by
  induction s using snoc_ind with
  | h0 => simp [val]
  | hs t c ih =>
    have := ih (fun d h => hd d (List.mem_append_left _ h))
    have hc := hd c (by simp)
    unfold isD at hc
    rw [val_snoc, List.length_append, List.length_singleton, Nat.pow_succ]
    obtain ⟨M, hM⟩ : ∃ M, M = 10 ^ t.length := ⟨_, rfl⟩
    rw [← hM] at this ⊢
    omega
/-- At each jump back: k signs are read. -/
def ReadJ (s : Str) (w : World) (a' : Act) (w' : World) : Prop :=
  ∃ (k m : Nat) (u2 u3 u6 u7 u8 u9 u10 u11 u12 u13 u14 u15 u16 u17 u18 u19 u20 u21 u22 u23 u24 u25 u26 u27 u28 u29 u30 u31 u32 u33 u34 u35 u36 u37 u38 u39 u40 u41 u42 u43 u44 u45 u46 u47 u48 u49 : Value), a' = { tmps := #[.string ⟨s.toArray⟩, undef, u2, u3, .int .i64 m, .int .i64 k, u6, u7, u8, u9, u10, u11, u12, u13, u14, u15, u16, u17, u18, u19, u20, u21, u22, u23, u24, u25, u26, u27, u28, u29, u30, u31, u32, u33, u34, u35, u36, u37, u38, u39, u40, u41, u42, u43, u44, u45, u46, u47, u48, u49], defers := [] } ∧ k < s.length ∧ m ≤ 10000000000000 ∧ w = w' ∧ Hid (m = val (s.take k) ∧ ∀ c ∈ s.take k, isD c)
theorem readR_bad {s : Str} (h : ∃ c ∈ s, ¬ isD c) : readR s = (0, 3) := by
  unfold readR; rw [if_pos (.inr (.inr (.inr (.inl h))))]
theorem readR_big {s : Str} (h : 1099511627776 < val s) : readR s = (0, 3) := by
  unfold readR; rw [if_pos (.inr (.inr (.inr (.inr h))))]
theorem readR_good {s : Str} (h1 : s ≠ []) (h2 : s.length ≤ 13) (h3 : ¬ (s.head? = some 48 ∧ 1 < s.length)) (h4 : ∀ c ∈ s, isD c) (h5 : val s ≤ 1099511627776) : readR s = (((val s : Nat) : Int), 0) := by
  unfold readR
  rw [if_neg]
  rintro (h | h | h | ⟨c, hc, h⟩ | h)
  · exact h1 h
  · omega
  · exact h3 h
  · exact h (h4 c hc)
  · omega
end Digit
end Go.Proofs.Ytgfofigdejlbfaa
