/- Package digit: Read. -/
import Derived.Test.YtohjnbkehcdoaaaDoorDigitPad
namespace Go.Proofs.YtohjnbkehcdoaaaDoor
open Go.RowKit
set_option linter.unusedVariables false
set_option linter.unusedSimpArgs false
namespace Digit
theorem snoc_ind {P : Str → Prop} (h0 : P []) (hs : ∀ t c, P t → P (t ++ [c])) (s : Str) : P s := by
  obtain ⟨n, hn⟩ : ∃ n, n = s.length := ⟨_, rfl⟩
  induction n generalizing s with
  | zero => rw [List.eq_nil_of_length_eq_zero hn.symm]; exact h0
  | succ n ih =>
    rcases List.eq_nil_or_concat s with rfl | ⟨t, c, rfl⟩
    · simp at hn
    · rw [List.concat_eq_append] at hn ⊢
      exact hs t c (ih t (by simp at hn; omega))
theorem head_app (t r : Str) (h : t ≠ []) : (t ++ r).head? = t.head? := by
  cases t with
  | nil => exact absurd rfl h
  | cons a t => rfl
def isD (c : UInt8) : Prop := 48 ≤ c.toNat ∧ c.toNat ≤ 57
instance (c : UInt8) : Decidable (isD c) := by unfold isD; exact inferInstance
def val (s : Str) : Nat := s.foldl (fun n c => 10 * n + (c.toNat - 48)) 0
theorem val_snoc (s : Str) (c : UInt8) : val (s ++ [c]) = 10 * val s + (c.toNat - 48) := by simp [val]
theorem digit_of {k : Nat} (h : k < 10) : isD (UInt8.ofNat (48 + k)) ∧ (UInt8.ofNat (48 + k)).toNat = 48 + k := by
  have e : (UInt8.ofNat (48 + k)).toNat = 48 + k := by rw [UInt8.toNat_ofNat']; omega
  exact ⟨⟨by omega, by omega⟩, e⟩
theorem dec_digits (n : Nat) : ∀ c ∈ dec n, isD c := by
  induction n using Nat.strongRecOn with
  | _ n ih =>
    rw [dec_step]
    intro c hc
    rcases List.mem_append.1 hc with hc | hc
    · split at hc
      · cases hc
      · exact ih _ (by omega) c hc
    · rw [List.mem_singleton.1 hc]; exact (digit_of (by omega)).1
theorem dec_val (n : Nat) : val (dec n) = n := by
  induction n using Nat.strongRecOn with
  | _ n ih =>
    rw [dec_step, val_snoc, (digit_of (by omega)).2]
    split
    · simp [val]; omega
    · rw [ih _ (by omega)]; omega
theorem dec_ne (n : Nat) : dec n ≠ [] := by rw [dec_step]; simp
theorem dec_head (n : Nat) (h : (dec n).head? = some 48) : n = 0 := by
  induction n using Nat.strongRecOn with
  | _ n ih =>
    rw [dec_step] at h
    split at h
    · rename_i hz
      simp at h
      have h2 := (digit_of (k := n % 10) (by omega)).2
      have h3 : UInt8.ofNat (48 + n % 10) = 48 := by simpa using h
      rw [h3] at h2
      have : (48 : UInt8).toNat = 48 := rfl
      omega
    · rename_i hz
      rw [head_app _ _ (dec_ne _)] at h
      exact absurd (ih _ (by omega) h) hz
theorem val_pos (s : Str) : s ≠ [] → (∀ c ∈ s, isD c) → s.head? ≠ some 48 → 1 ≤ val s := by
  induction s using snoc_ind with
  | h0 => intro h; exact absurd rfl h
  | hs t c ih =>
    intro hne hd hh
    rw [val_snoc]
    by_cases ht : t = []
    · subst ht
      have hc := hd c (by simp)
      have : c ≠ 48 := fun e => hh (by simp [e])
      have : c.toNat ≠ 48 := fun e => this (UInt8.toNat_inj.1 e)
      unfold isD at hc
      omega
    · have := ih ht (fun d hdm => hd d (List.mem_append_left _ hdm)) (by rwa [head_app _ _ ht] at hh)
      omega
theorem val_dec (s : Str) : s ≠ [] → (∀ c ∈ s, isD c) → (s.head? ≠ some 48 ∨ s.length = 1) → dec (val s) = s := by
  induction s using snoc_ind with
  | h0 => intro h; exact absurd rfl h
  | hs t c ih =>
    intro hne hd hh
    have hc := hd c (by simp)
    unfold isD at hc
    have e : UInt8.ofNat (48 + (c.toNat - 48)) = c := by
      rw [show 48 + (c.toNat - 48) = c.toNat by omega]; simp
    rw [val_snoc, dec_step]
    by_cases ht : t = []
    · subst ht
      have h1 : (10 * val [] + (c.toNat - 48)) / 10 = 0 := by simp [val]; omega
      have h2 : (10 * val [] + (c.toNat - 48)) % 10 = c.toNat - 48 := by simp [val]; omega
      rw [if_pos h1, h2, e]
    · have hd2 : ∀ d ∈ t, isD d := fun d hdm => hd d (List.mem_append_left _ hdm)
      have hh2 : t.head? ≠ some 48 := by
        rcases hh with hh | hh
        · rwa [head_app _ _ ht] at hh
        · exact absurd (by simpa using hh) ht
      have hp := val_pos t ht hd2 hh2
      have h1 : (10 * val t + (c.toNat - 48)) / 10 = val t := by omega
      have h2 : (10 * val t + (c.toNat - 48)) % 10 = c.toNat - 48 := by omega
      rw [h1, h2, if_neg (by omega), e, ih ht hd2 (.inl hh2)]
def readR (s : Str) : Int × Int :=
  if s = [] ∨ 13 < s.length ∨ (s.head? = some 48 ∧ 1 < s.length) ∨ (∃ c ∈ s, ¬ isD c) ∨ 1099511627776 < val s then (0, 3) else (((val s : Nat) : Int), 0)
theorem val_lt (s : Str) (hd : ∀ c ∈ s, isD c) : val s < 10 ^ s.length := by
  induction s using snoc_ind with
  | h0 => simp [val]
  | hs t c ih =>
    have := ih (fun d h => hd d (List.mem_append_left _ h))
    have hc := hd c (by simp)
    unfold isD at hc
    rw [val_snoc, List.length_append, List.length_singleton, Nat.pow_succ]
    obtain ⟨M, hM⟩ : ∃ M, M = 10 ^ t.length := ⟨_, rfl⟩
    rw [← hM] at this ⊢
    omega
/-- At each jump back: k signs are read. -/
def ReadJ (s : Str) (w : World) (a' : Act) (w' : World) : Prop :=
  ∃ (k m : Nat) (u2 u3 u6 u7 u8 u9 u10 u11 u12 u13 u14 u15 u16 u17 u18 u19 u20 u21 u22 u23 u24 u25 u26 u27 u28 u29 u30 u31 u32 u33 u34 u35 u36 u37 u38 u39 u40 u41 u42 u43 u44 u45 u46 u47 u48 u49 : Value), a' = { tmps := #[.string ⟨s.toArray⟩, undef, u2, u3, .int .i64 m, .int .i64 k, u6, u7, u8, u9, u10, u11, u12, u13, u14, u15, u16, u17, u18, u19, u20, u21, u22, u23, u24, u25, u26, u27, u28, u29, u30, u31, u32, u33, u34, u35, u36, u37, u38, u39, u40, u41, u42, u43, u44, u45, u46, u47, u48, u49], defers := [] } ∧ k < s.length ∧ m ≤ 10000000000000 ∧ w = w' ∧ Hid (m = val (s.take k) ∧ ∀ c ∈ s.take k, isD c)
theorem readR_bad {s : Str} (h : ∃ c ∈ s, ¬ isD c) : readR s = (0, 3) := by
  unfold readR; rw [if_pos (.inr (.inr (.inr (.inl h))))]
theorem readR_big {s : Str} (h : 1099511627776 < val s) : readR s = (0, 3) := by
  unfold readR; rw [if_pos (.inr (.inr (.inr (.inr h))))]
theorem readR_good {s : Str} (h1 : s ≠ []) (h2 : s.length ≤ 13) (h3 : ¬ (s.head? = some 48 ∧ 1 < s.length)) (h4 : ∀ c ∈ s, isD c) (h5 : val s ≤ 1099511627776) : readR s = (((val s : Nat) : Int), 0) := by
  unfold readR
  rw [if_neg]
  rintro (h | h | h | ⟨c, hc, h⟩ | h)
  · exact h1 h
  · omega
  · exact h3 h
  · exact h (h4 c hc)
  · omega
set_option maxHeartbeats 1000000 in
theorem read_any (s : Str) (hl : s.length ≤ maxLen) (w : World) : Calls Tryd.prog 46 #[.string ⟨s.toArray⟩] w fun e w' => e = .returned (.tuple #[.int .i64 (readR s).1, .int .i64 (readR s).2]) ∧ w = w' := by
  unfold maxLen at hl
  by_cases h : s = [] ∨ 13 < s.length
  · have hp : readR s = (0, 3) := by unfold readR; rw [if_pos (by rcases h with h | h <;> simp [h])]
    rw [hp]
    rcases h with rfl | h
    · go_enter Tryd.func46, Tryd.ntmps46
      go_wp2
      go_step3
      go_wp2
      rw [Exit.noGoto_ret]
      go_ret2
      exact ⟨rfl, rfl⟩
    · have hne : s.isEmpty = false := by cases s <;> simp at h ⊢
      go_enter Tryd.func46, Tryd.ntmps46
      go_wp2
      go_step3
      go_wp2
      go_ret2
      exact ⟨rfl, rfl⟩
  · have hne : s ≠ [] := fun e => h (.inl e)
    have hl13 : s.length ≤ 13 := by omega
    have hnb : s.isEmpty = false := by simpa using hne
    have hs0 : 0 < s.length := by cases s <;> simp at hne ⊢
    have hix : (⟨s.toArray⟩ : ByteArray)[0]'(by simpa [ByteArray.size] using hs0) = s[0] := rfl
    have hhd : s.head? = some s[0] := by cases s <;> simp at hs0 ⊢
    by_cases hz : s[0] = 48 ∧ 1 < s.length
    · have hp : readR s = (0, 3) := by unfold readR; rw [if_pos (by rw [hhd, hz.1]; exact .inr (.inr (.inl ⟨rfl, hz.2⟩)))]
      rw [hp]
      have hc1 : ((s[0].toNat : Int) == 48) = true := by rw [hz.1]; rfl
      obtain ⟨_, hz⟩ := hz
      clear hhd
      go_enter Tryd.func46, Tryd.ntmps46
      go_wp2
      go_step3
      go_wp2
      rw [Exit.noGoto_ret]
      go_ret2
      exact ⟨rfl, rfl⟩
    · by_cases hz1 : s[0] = 48
      · obtain rfl : s = [48] := by
          cases s with
          | nil => exact absurd rfl hne
          | cons c t =>
            have hc : c = 48 := hz1
            have ht : t = [] := by
              cases t with
              | nil => rfl
              | cons d t => exact absurd ⟨hz1, by simp⟩ hz
            rw [hc, ht]
        have hp : readR [48] = (0, 0) := by decide
        rw [hp]
        clear hhd hix hz hz1 hs0
        go_enter Tryd.func46, Tryd.ntmps46
        go_wp2
        go_step3
        go_wp2
        go_step3
        go_wp2
        rw [Exit.noGoto_ret]
        go_ret2
        exact ⟨rfl, rfl⟩
      have hc1 : ((s[0].toNat : Int) == 48) = false := (u8_f (d := 48) rfl hz1).1
      have hz2 : ¬ (s.head? = some 48 ∧ 1 < s.length) := by rw [hhd]; simpa using hz
      have HZ := Lib.hid hz2
      clear hz2 hhd hz hz1
      go_enter Tryd.func46, Tryd.ntmps46
      go_wp2
      refine wp_scope_jumps 0 (ReadJ s w) (fun a' _ => 13 - (intOf (a'.tmps.getD 5 undef)).toNat) rfl ?_ ?_
      · go_wp2
        go_step3
        by_cases hd : isD s[0]
        · unfold isD at hd
          obtain ⟨hd1, hd2⟩ := hd
          obtain ⟨d, hdd⟩ : ∃ d : Nat, s[0].toNat = 48 + d := ⟨s[0].toNat - 48, by omega⟩
          have hdi : (s[0].toNat : Int) = 48 + d := by omega
          have hv : val (s.take 1) = 10 * 0 + d := by rw [show s.take 1 = s.take 0 ++ [s[0]] from List.take_succ_eq_append_getElem hs0, val_snoc, show val (s.take 0) = 0 from rfl, hdd]; omega
          have ha : ∀ c ∈ s.take 1, isD c := by
            rw [show s.take 1 = s.take 0 ++ [s[0]] from List.take_succ_eq_append_getElem hs0]
            intro c hc
            rcases List.mem_append.1 hc with hc | hc
            · cases hc
            · rw [List.mem_singleton.1 hc]; exact ⟨by omega, by omega⟩
          have hvl := val_lt _ ha
          have hd9 : d ≤ 9 := by omega
          have HV := Lib.hid (And.intro hv.symm ha)
          have HE := Lib.hid (show (48 + (d : Int) - 48) = ((10 * 0 + d : Nat) : Int) by omega)
          by_cases hmore : 1 < s.length
          · have hm2 : 10 * 0 + d ≤ 10000000000000 := by
              rw [hv, List.length_take] at hvl
              exact Nat.le_trans (Nat.le_of_lt hvl) (Nat.pow_le_pow_right (n := 10) (by omega) (show min 1 s.length ≤ 13 by omega))
            clear hv ha hvl
            go_wp2
            go_step3
            rw [HE.out]
            exact ⟨rfl, 1, 10 * 0 + d, _, _, _, _, _, _, _, _, _, _, _, _, _, _, _, _, _, _, _, _, _, _, _, _, _, _, _, _, _, _, _, _, _, _, _, _, _, _, _, _, _, _, _, _, _, _, rfl, hmore, hm2, rfl, HV.out⟩
          · have hks : s.take 1 = s := List.take_of_length_le (by omega)
            rw [hks] at hv ha hvl
            by_cases hbig : 1099511627776 < 10 * 0 + d
            · exfalso; omega
            · have HR := Lib.hid (readR_good hne hl13 HZ.out ha (by omega))
              rw [hv] at HR
              clear hv ha hvl
              go_wp2
              simp only [Exit.jump]
              rw [HE.out]
              go_ret2
              rw [HR.out]
              exact ⟨rfl, rfl⟩
        · have HR := Lib.hid (readR_bad (s := s) ⟨s[0], List.getElem_mem _, hd⟩)
          unfold isD at hd
          by_cases hd2 : s[0].toNat < 48
          · go_wp2
            simp only [Exit.jump]
            go_ret2
            rw [HR.out]
            exact ⟨rfl, rfl⟩
          · have hd3 : 57 < s[0].toNat := by omega
            go_wp2
            simp only [Exit.jump]
            go_ret2
            rw [HR.out]
            exact ⟨rfl, rfl⟩
      · rintro a' wr ⟨k, m, u2, u3, u6, u7, u8, u9, u10, u11, u12, u13, u14, u15, u16, u17, u18, u19, u20, u21, u22, u23, u24, u25, u26, u27, u28, u29, u30, u31, u32, u33, u34, u35, u36, u37, u38, u39, u40, u41, u42, u43, u44, u45, u46, u47, u48, u49, rfl, hk, hm, rfl, HJ⟩
        have hix2 : (⟨s.toArray⟩ : ByteArray)[k]'(by simpa [ByteArray.size] using hk) = s[k] := rfl
        by_cases hd : isD s[k]
        · unfold isD at hd
          obtain ⟨hd1, hd2⟩ := hd
          obtain ⟨d, hdd⟩ : ∃ d : Nat, s[k].toNat = 48 + d := ⟨s[k].toNat - 48, by omega⟩
          have hdi : (s[k].toNat : Int) = 48 + d := by omega
          have hv : val (s.take (k + 1)) = 10 * m + d := by rw [show s.take (k + 1) = s.take k ++ [s[k]] from List.take_succ_eq_append_getElem hk, val_snoc, ← HJ.out.1, hdd]; omega
          have ha : ∀ c ∈ s.take (k + 1), isD c := by
            rw [show s.take (k + 1) = s.take k ++ [s[k]] from List.take_succ_eq_append_getElem hk]
            intro c hc
            rcases List.mem_append.1 hc with hc | hc
            · exact HJ.out.2 c hc
            · rw [List.mem_singleton.1 hc]; exact ⟨by omega, by omega⟩
          have hvl := val_lt _ ha
          have hd9 : d ≤ 9 := by omega
          have HV := Lib.hid (And.intro hv.symm ha)
          have HE := Lib.hid (show (10 * (m : Int) + (48 + (d : Int) - 48)) = ((10 * m + d : Nat) : Int) by omega)
          by_cases hmore : k + 1 < s.length
          · have hm2 : 10 * m + d ≤ 10000000000000 := by
              rw [hv, List.length_take] at hvl
              exact Nat.le_trans (Nat.le_of_lt hvl) (Nat.pow_le_pow_right (n := 10) (by omega) (show min (k + 1) s.length ≤ 13 by omega))
            clear hv ha hvl
            go_wp2
            go_step3
            rw [HE.out]
            refine ⟨rfl, ⟨k + 1, 10 * m + d, _, _, _, _, _, _, _, _, _, _, _, _, _, _, _, _, _, _, _, _, _, _, _, _, _, _, _, _, _, _, _, _, _, _, _, _, _, _, _, _, _, _, _, _, _, _, rfl, hmore, hm2, rfl, HV.out⟩, ?_⟩
            simp [intOf]; omega
          · have hks : s.take (k + 1) = s := List.take_of_length_le (by omega)
            rw [hks] at hv ha hvl
            by_cases hbig : 1099511627776 < 10 * m + d
            · have HR := Lib.hid (readR_big (s := s) (by omega))
              clear hv ha hvl
              go_wp2
              simp only [Exit.jump]
              go_ret2
              rw [HR.out]
              exact ⟨rfl, rfl⟩
            · have HR := Lib.hid (readR_good hne hl13 HZ.out ha (by omega))
              rw [hv] at HR
              clear hv ha hvl
              go_wp2
              simp only [Exit.jump]
              rw [HE.out]
              go_ret2
              rw [HR.out]
              exact ⟨rfl, rfl⟩
        · have HR := Lib.hid (readR_bad (s := s) ⟨s[k], List.getElem_mem _, hd⟩)
          unfold isD at hd
          by_cases hd2 : s[k].toNat < 48
          · go_wp2
            simp only [Exit.jump]
            go_ret2
            rw [HR.out]
            exact ⟨rfl, rfl⟩
          · have hd3 : 57 < s[k].toNat := by omega
            go_wp2
            simp only [Exit.jump]
            go_ret2
            rw [HR.out]
            exact ⟨rfl, rfl⟩
end Digit
end Go.Proofs.YtohjnbkehcdoaaaDoor
