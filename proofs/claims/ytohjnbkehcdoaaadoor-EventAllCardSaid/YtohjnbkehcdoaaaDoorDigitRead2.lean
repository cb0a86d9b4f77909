/- Package digit: the reference's Read. -/
import Derived.Test.YtohjnbkehcdoaaaDoorDigitRead
namespace Go.Proofs.YtohjnbkehcdoaaaDoor
open Go.RowKit
set_option linter.unusedVariables false
set_option linter.unusedSimpArgs false
namespace Digit
def rok (s : Str) : Prop := s ≠ [] ∧ s.length ≤ 13 ∧ ¬ (s.head? = some 48 ∧ 1 < s.length) ∧ (∀ c ∈ s, isD c) ∧ val s ≤ 1099511627776
theorem readR_yes {s : Str} (h : rok s) : readR s = (((val s : Nat) : Int), 0) := readR_good h.1 h.2.1 h.2.2.1 h.2.2.2.1 h.2.2.2.2
theorem readR_no {s : Str} (h : ¬ rok s) : readR s = (0, 3) := by
  unfold readR
  rw [if_pos]
  by_cases h1 : s = []
  · exact .inl h1
  by_cases h2 : 13 < s.length
  · exact .inr (.inl h2)
  by_cases h3 : s.head? = some 48 ∧ 1 < s.length
  · exact .inr (.inr (.inl h3))
  by_cases h4 : ∃ c ∈ s, ¬ isD c
  · exact .inr (.inr (.inr (.inl h4)))
  by_cases h5 : 1099511627776 < val s
  · exact .inr (.inr (.inr (.inr h5)))
  exact absurd ⟨h1, by omega, h3, fun c hc => Decidable.byContradiction fun hh => h4 ⟨c, hc, hh⟩, by omega⟩ h
theorem rok_dec {s : Str} (h : rok s) : dec (val s) = s := by
  obtain ⟨h1, h2, h3, h4, h5⟩ := h
  refine val_dec s h1 h4 ?_
  by_cases hh : s.head? = some 48
  · right
    have : s.length ≠ 0 := fun e => h1 (List.eq_nil_of_length_eq_zero e)
    have : ¬ 1 < s.length := fun e => h3 ⟨hh, e⟩
    omega
  · exact .inl hh
theorem dec_rok {n : Nat} (h : n ≤ 1099511627776) : rok (dec n) := by
  refine ⟨dec_ne n, dec_len 12 n (by omega), fun ⟨h1, h2⟩ => ?_, dec_digits n, by rw [dec_val]; exact h⟩
  rw [dec_head n h1, dec, if_pos (by omega)] at h2
  simp at h2
def rv (s : Str) : Int := s.foldl (fun n c => 10 * n + (c.toNat : Int) - 48) 0
theorem rv_snoc (s : Str) (c : UInt8) : rv (s ++ [c]) = 10 * rv s + (c.toNat : Int) - 48 := by simp [rv]
theorem rv_bound (s : Str) : -6 * ((10 ^ s.length : Nat) - 1 : Int) ≤ rv s ∧ rv s ≤ 24 * ((10 ^ s.length : Nat) - 1 : Int) := by
  induction s using snoc_ind with
  | h0 => simp [rv]
  | hs t c ih =>
    have hc : c.toNat < 256 := c.toNat_lt
    rw [rv_snoc, List.length_append, List.length_singleton, Nat.pow_succ]
    obtain ⟨M, hM⟩ : ∃ M, M = 10 ^ t.length := ⟨_, rfl⟩
    rw [← hM] at ih ⊢
    omega
theorem rv_val (s : Str) (h : ∀ c ∈ s, isD c) : rv s = ((val s : Nat) : Int) := by
  induction s using snoc_ind with
  | h0 => rfl
  | hs t c ih =>
    have hc := h c (by simp)
    unfold isD at hc
    rw [rv_snoc, val_snoc, ih fun d hd => h d (List.mem_append_left _ hd)]
    omega
theorem rv_eq {s : Str} : (if rv (s.take 14) < 0 ∨ 1099511627776 < rv (s.take 14) ∨ putR (rv (s.take 14)) ≠ s then (0, 3) else (rv (s.take 14), 0)) = readR s := by
  by_cases h : rok s
  · have h2 := h.2.1
    have e : rv (s.take 14) = ((val s : Nat) : Int) := by rw [List.take_of_length_le (by omega), rv_val s h.2.2.2.1]
    have hp : putR ((val s : Nat) : Int) = s := by unfold putR; rw [if_neg (by omega)]; exact rok_dec h
    have h5 := h.2.2.2.2
    rw [readR_yes h, e, hp, if_neg]
    rintro (h | h | h)
    · omega
    · omega
    · exact h rfl
  · rw [readR_no h]
    by_cases hc : rv (s.take 14) < 0 ∨ 1099511627776 < rv (s.take 14) ∨ putR (rv (s.take 14)) ≠ s
    · rw [if_pos hc]
    · obtain ⟨n, hn⟩ : ∃ n, n = rv (s.take 14) := ⟨_, rfl⟩
      rw [← hn] at hc
      have h1 : ¬ n < 0 := fun e => hc (.inl e)
      have h2 : ¬ 1099511627776 < n := fun e => hc (.inr (.inl e))
      have h3 : putR n = s := Decidable.byContradiction fun e => hc (.inr (.inr e))
      unfold putR at h3
      rw [if_neg h1] at h3
      exact absurd (h3 ▸ dec_rok (by omega)) h
set_option maxHeartbeats 1000000 in
theorem rread_any (s : Str) (hl : s.length ≤ maxLen) (w : World) : Calls Tryd.prog 34 #[.string ⟨s.toArray⟩] w fun e w' => e = .returned (.tuple #[.int .i64 (readR s).1, .int .i64 (readR s).2]) ∧ w = w' := by
  unfold maxLen at hl
  go_enter Tryd.func34, Tryd.ntmps34
  go_wp2
  go_loop [4, 5] (fun a i => ∃ (k : Nat) (n : Int), i = .int .i64 k ∧ a = .int .i64 n ∧ k ≤ s.length ∧ k ≤ 14 ∧ Hid (n = rv (s.take k))) (fun _ i => 14 - (intOf i).toNat)
  case atStart => exact ⟨0, 0, rfl, rfl, by omega, by omega, rfl⟩
  case round =>
    obtain ⟨k, n, rfl, rfl, hk, hk14, Hn⟩ := hrel
    have hb := rv_bound (s.take k)
    have hp : 10 ^ (s.take k).length ≤ 10 ^ 14 := Nat.pow_le_pow_right (by omega) (by rw [List.length_take]; omega)
    obtain ⟨M, hM⟩ : ∃ M, M = 10 ^ (s.take k).length := ⟨_, rfl⟩
    rw [← hM] at hb hp
    rw [← Hn.out] at hb
    clear hM
    have hn1 : -600000000000000 ≤ n ∧ n ≤ 2400000000000000 := by omega
    clear hb hp
    by_cases hlt : k < s.length ∧ k < 14
    · obtain ⟨hlt, hlt2⟩ := hlt
      have hix : (⟨s.toArray⟩ : ByteArray)[k]'(by simpa [ByteArray.size] using hlt) = s[k] := rfl
      have hc : s[k].toNat < 256 := s[k].toNat_lt
      have HN := Lib.hid (show 10 * n + (s[k].toNat : Int) - 48 = rv (s.take (k + 1)) by rw [List.take_succ_eq_append_getElem hlt, rv_snoc, ← Hn.out])
      go_wp2
      go_round
      case rel => exact ⟨k + 1, _, by go_num, rfl, by omega, by omega, HN.out⟩
      case measure => simp [intOf]; omega
    · have htk : s.take k = s.take 14 := by
        by_cases h14 : k = 14
        · rw [h14]
        · rw [List.take_of_length_le (by omega), List.take_of_length_le (by omega)]
      have hn : n = rv (s.take 14) := by rw [Hn.out, htk]
      have HN := Lib.hid hn
      clear Hn htk hn
      by_cases hk2 : k < s.length
      · have hk3 : k = 14 := by omega
        subst hk3
        clear hlt hk14 hk
        by_cases h1 : n < 0
        · go_wp2
          go_ret2
          rw [show readR s = (0, 3) by rw [← rv_eq, if_pos (.inl (by rw [← HN.out]; omega))]]
          exact ⟨rfl, rfl⟩
        by_cases h2 : 1099511627776 < n
        · go_wp2
          go_ret2
          rw [show readR s = (0, 3) by rw [← rv_eq, if_pos (.inr (.inl (by rw [← HN.out]; omega)))]]
          exact ⟨rfl, rfl⟩
        have hpc := fun w => rput_any n (by omega) w
        by_cases h3 : putR n = s
        · rw [h3] at hpc
          have H3 := Lib.hid h3
          clear h3
          go_wp2_with (go_at_call 25; refine (hpc _).mono ?_; rintro e w1 ⟨rfl, rfl⟩)
          go_ret2
          rw [show readR s = (n, 0) by rw [← rv_eq, ← HN.out, if_neg (fun h => h.elim (fun h => absurd h (by omega)) (fun h => h.elim (fun h => absurd h (by omega)) (fun h => h H3.out)))]]
          exact ⟨rfl, rfl⟩
        · obtain ⟨q, hq⟩ : ∃ q, q = putR n := ⟨_, rfl⟩
          rw [← hq] at hpc h3
          have HQ := Lib.hid hq
          have hqs : (q == s) = false := beq_eq_false_iff_ne.2 h3
          have H3 := Lib.hid h3
          clear hq h3
          go_wp2_with (go_at_call 25; refine (hpc _).mono ?_; rintro e w1 ⟨rfl, rfl⟩)
          go_ret2
          rw [show readR s = (0, 3) by rw [← rv_eq, if_pos (.inr (.inr (by rw [← HN.out, ← HQ.out]; exact H3.out)))]]
          exact ⟨rfl, rfl⟩
      · have hk3 : k = s.length := by omega
        clear hlt
        by_cases h1 : n < 0
        · go_wp2
          go_ret2
          rw [show readR s = (0, 3) by rw [← rv_eq, if_pos (.inl (by rw [← HN.out]; omega))]]
          exact ⟨rfl, rfl⟩
        by_cases h2 : 1099511627776 < n
        · go_wp2
          go_ret2
          rw [show readR s = (0, 3) by rw [← rv_eq, if_pos (.inr (.inl (by rw [← HN.out]; omega)))]]
          exact ⟨rfl, rfl⟩
        have hpc := fun w => rput_any n (by omega) w
        by_cases h3 : putR n = s
        · rw [h3] at hpc
          have H3 := Lib.hid h3
          clear h3
          go_wp2_with (go_at_call 25; refine (hpc _).mono ?_; rintro e w1 ⟨rfl, rfl⟩)
          go_ret2
          rw [show readR s = (n, 0) by rw [← rv_eq, ← HN.out, if_neg (fun h => h.elim (fun h => absurd h (by omega)) (fun h => h.elim (fun h => absurd h (by omega)) (fun h => h H3.out)))]]
          exact ⟨rfl, rfl⟩
        · obtain ⟨q, hq⟩ : ∃ q, q = putR n := ⟨_, rfl⟩
          rw [← hq] at hpc h3
          have HQ := Lib.hid hq
          have hqs : (q == s) = false := beq_eq_false_iff_ne.2 h3
          have H3 := Lib.hid h3
          clear hq h3
          go_wp2_with (go_at_call 25; refine (hpc _).mono ?_; rintro e w1 ⟨rfl, rfl⟩)
          go_ret2
          rw [show readR s = (0, 3) by rw [← rv_eq, if_pos (.inr (.inr (by rw [← HN.out, ← HQ.out]; exact H3.out)))]]
          exact ⟨rfl, rfl⟩
end Digit
end Go.Proofs.YtohjnbkehcdoaaaDoor
