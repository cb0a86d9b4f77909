/- Package digit: a number's digits. -/
import Derived.Test.YtnfkkonmhinlcaaRows
import Derived.Test.YtnfkkonmhinlcaaBytes
import Derived.WalkKit
import Derived.Outline
import Derived.BigQuiet
import Derived.Deep.QuietTactic
import Derived.Deep.RegionLaw
import Derived.Deep.DeepMust
import Derived.ScopeJumps
import Derived.WalkMore
import Derived.Lib.AppendStr
import Derived.Deep.LoopGhost
namespace Go.Proofs.Ytnfkkonmhinlcaa
open Go.RowKit
set_option linter.unusedVariables false
set_option linter.unusedSimpArgs false
namespace Digit
theorem infoB : (Try.prog.info? 5).map (fun i => (i.zero, i.size, i.bytes)) = some (some (.int .u8 0), 1, 1) := by kernel_rfl
/-- A number's digits. -/
def dec (n : Nat) : Str := if n < 10 then [UInt8.ofNat (48 + n)] else dec (n / 10) ++ [UInt8.ofNat (48 + n % 10)]
termination_by n
theorem dec_step (n : Nat) : dec n = (if n / 10 = 0 then [] else dec (n / 10)) ++ [UInt8.ofNat (48 + n % 10)] := by
  rw [dec]
  by_cases h : n < 10
  · rw [if_pos h, if_pos (by omega), Nat.mod_eq_of_lt h]; rfl
  · rw [if_neg h, if_neg (by omega)]
theorem encD (m : Nat) : encB (UInt8.ofNat (48 + m % 10)) = .int .u8 (48 + (m : Int) % 10) := by
  have h : (UInt8.ofNat (48 + m % 10)).toNat = 48 + m % 10 := by rw [UInt8.toNat_ofNat']; omega
  unfold encB
  rw [h]
  simp
end Digit
end Go.Proofs.Ytnfkkonmhinlcaa
/- Package digit: Put, Pad, and their reference. -/
namespace Go.Proofs.Ytnfkkonmhinlcaa
open Go.RowKit
set_option linter.unusedVariables false
set_option linter.unusedSimpArgs false
namespace Digit
theorem dec_len (k : Nat) : ∀ n, n < 10 ^ (k + 1) → (dec n).length ≤ k + 1 := by
  induction k with
  | zero => intro n h; rw [dec, if_pos (by omega)]; simp
  | succ k ih =>
    intro n h
    rw [dec_step]
    split
    · simp
    · have := ih (n / 10) (by rw [Nat.pow_succ] at h; omega)
      simp; omega
theorem dec_20 {n : Nat} (h : n ≤ 9223372036854775808) : (dec n).length ≤ 20 := Nat.le_trans (dec_len 18 n (by omega)) (by omega)
def putR (n : Int) : Str := if n < 0 then 45 :: dec n.natAbs else dec n.natAbs
def hexs : Str := [48, 49, 50, 51, 52, 53, 54, 55, 56, 57, 97, 98, 99, 100, 101, 102]
def hx (n : Nat) : UInt8 := hexs.getD n 0
theorem hx_dec (n : Nat) (h : n < 10) : hx n = UInt8.ofNat (48 + n) := by
  have : ∀ k : Fin 10, hx k = UInt8.ofNat (48 + k) := by decide
  exact this ⟨n, h⟩
theorem rdig_any (n : Nat) (hn : n < 16) (w : World) : Calls Try.prog 76 #[.int .i64 n] w fun e w' => e = .returned (.string ⟨[hx n].toArray⟩) ∧ w = w' := by
  have hsl := fun W : World => slice_one (P := Try.prog) W 9 Try.underlying9 hexs (n : Int) (n + 1) n (by simpa [hexs] using hn) rfl (by omega)
  have hh : hexs[n]'(by simpa [hexs] using hn) = hx n := by
    unfold hx
    rw [List.getD_eq_getElem?_getD, List.getElem?_eq_getElem (by simpa [hexs] using hn)]
    rfl
  rw [hh] at hsl
  unfold hexs at hsl
  clear hh
  go_enter Try.func76, Try.ntmps76
  go_wp2
  go_ret
  exact ⟨rfl, rfl⟩
theorem putR_len {n : Int} (hn : -9223372036854775808 ≤ n ∧ n ≤ 9223372036854775807) : (putR n).length ≤ 21 := by
  have := dec_20 (n := n.natAbs) (by omega)
  unfold putR; split <;> simp <;> omega
theorem dec_up {m : Nat} (h : 10 ≤ m) : dec m = dec (m / 10) ++ [hx (m % 10)] := by
  rw [dec_step, if_neg (by omega), hx_dec _ (by omega)]
set_option maxHeartbeats 1000000 in
theorem rput_pos (m : Nat) (hm : m ≤ 9223372036854775807) (w : World) : Calls Try.prog 75 #[.int .i64 m] w fun e w' => e = .returned (.string ⟨(dec m).toArray⟩) ∧ w = w' := by
  induction m using Nat.strongRecOn generalizing w with
  | _ m ih =>
    by_cases h1 : m < 10
    · have hp : dec m = [hx m] := by rw [dec, if_pos h1, hx_dec m h1]
      rw [hp]
      clear ih
      go_enter Try.func75, Try.ntmps75
      go_wp2_with (go_at_call 76; refine (rdig_any m (by omega) _).mono ?_; rintro e w1 ⟨rfl, rfl⟩)
      go_ret
      exact ⟨rfl, rfl⟩
    · have hs := dec_up (show 10 ≤ m by omega)
      have IH := fun w => ih (m / 10) (by omega) (by omega) w
      have hl := dec_20 (n := m / 10) (by omega)
      have hd := fun w => rdig_any (m % 10) (by omega) w
      rw [show ((m / 10 : Nat) : Int) = (m : Int) / 10 by omega] at IH
      rw [show ((m % 10 : Nat) : Int) = (m : Int) % 10 by omega] at hd
      have Hs := Lib.hid hs
      obtain ⟨q, hq⟩ : ∃ q, q = dec (m / 10) := ⟨_, rfl⟩
      obtain ⟨d, hdd⟩ : ∃ d, d = hx (m % 10) := ⟨_, rfl⟩
      rw [← hq, ← hdd] at hs
      rw [← hq] at hl IH
      rw [← hdd] at hd
      have Hs := Lib.hid hs
      clear ih hq hdd hs
      go_enter Try.func75, Try.ntmps75
      go_wp2_with (first
        | (go_at_call 75; refine (IH _).mono ?_; rintro e w1 ⟨rfl, rfl⟩)
        | (go_at_call 76; refine (hd _).mono ?_; rintro e w1 ⟨rfl, rfl⟩))
      go_ret
      rw [Hs.out]
      exact ⟨rfl, rfl⟩
set_option maxHeartbeats 1000000 in
theorem rput_neg (m : Nat) (hm0 : 1 ≤ m) (hm : m ≤ 9223372036854775808) (w : World) : Calls Try.prog 75 #[.int .i64 (-(m : Int))] w fun e w' => e = .returned (.string ⟨(45 :: dec m).toArray⟩) ∧ w = w' := by
  induction m using Nat.strongRecOn generalizing w with
  | _ m ih =>
    by_cases h1 : m < 10
    · have hp : dec m = [hx m] := by rw [dec, if_pos h1, hx_dec m h1]
      rw [hp]
      clear ih
      go_enter Try.func75, Try.ntmps75
      go_wp2_with (go_at_call 76; refine (rdig_any m (by omega) _).mono ?_; rintro e w1 ⟨rfl, rfl⟩)
      go_ret
      exact ⟨rfl, rfl⟩
    · have hs := dec_up (show 10 ≤ m by omega)
      have IH := fun w => ih (m / 10) (by omega) (by omega) (by omega) w
      have hl := dec_20 (n := m / 10) (by omega)
      have hd := fun w => rdig_any (m % 10) (by omega) w
      rw [show ((m / 10 : Nat) : Int) = (m : Int) / 10 by omega] at IH
      rw [show ((m % 10 : Nat) : Int) = (m : Int) % 10 by omega] at hd
      obtain ⟨q, hq⟩ : ∃ q, q = dec (m / 10) := ⟨_, rfl⟩
      obtain ⟨d, hdd⟩ : ∃ d, d = hx (m % 10) := ⟨_, rfl⟩
      rw [← hq, ← hdd] at hs
      rw [← hq] at hl IH
      rw [← hdd] at hd
      have Hs := Lib.hid hs
      clear ih hq hdd hs
      by_cases hr : (m : Int) % 10 = 0
      · rw [hr] at hd
        go_enter Try.func75, Try.ntmps75
        go_wp2_with (first
          | (go_at_call 75; refine (IH _).mono ?_; rintro e w1 ⟨rfl, rfl⟩)
          | (go_at_call 76; refine (hd _).mono ?_; rintro e w1 ⟨rfl, rfl⟩))
        go_ret
        rw [Hs.out]
        exact ⟨rfl, rfl⟩
      · have hr1 : 0 < (m : Int) % 10 := by omega
        go_enter Try.func75, Try.ntmps75
        go_wp2_with (first
          | (go_at_call 75; refine (IH _).mono ?_; rintro e w1 ⟨rfl, rfl⟩)
          | (go_at_call 76; refine (hd _).mono ?_; rintro e w1 ⟨rfl, rfl⟩))
        go_ret
        rw [Hs.out]
        exact ⟨rfl, rfl⟩
theorem rput_any (n : Int) (hn : -9223372036854775808 ≤ n ∧ n ≤ 9223372036854775807) (w : World) : Calls Try.prog 75 #[.int .i64 n] w fun e w' => e = .returned (.string ⟨(putR n).toArray⟩) ∧ w = w' := by
  by_cases h : n < 0
  · have hp : putR n = 45 :: dec n.natAbs := by unfold putR; rw [if_pos h]
    have := rput_neg n.natAbs (by omega) (by omega) w
    rw [hp]
    rwa [show -((n.natAbs : Nat) : Int) = n by omega] at this
  · have hp : putR n = dec n.natAbs := by unfold putR; rw [if_neg h]
    have := rput_pos n.natAbs (by omega) w
    rw [hp]
    rwa [show ((n.natAbs : Nat) : Int) = n by omega] at this
end Digit
end Go.Proofs.Ytnfkkonmhinlcaa
/- Package digit: Pad and its reference. -/
namespace Go.Proofs.Ytnfkkonmhinlcaa
open Go.RowKit
set_option linter.unusedVariables false
set_option linter.unusedSimpArgs false
namespace Digit
def padR (n width : Int) : Str := if n < 0 ∨ width < 0 ∨ 20 < width then [] else List.replicate (width.toNat - (dec n.natAbs).length) 48 ++ dec n.natAbs
set_option maxHeartbeats 1000000 in
theorem rpad_any (n width : Int) (hn : -9223372036854775808 ≤ n ∧ n ≤ 9223372036854775807) (hwd : -9223372036854775808 ≤ width ∧ width ≤ 9223372036854775807) (w : World) : Calls Try.prog 63 #[.int .i64 n, .int .i64 width] w fun e w' => e = .returned (.string ⟨(padR n width).toArray⟩) ∧ Fr No w w' := by
  by_cases h : n < 0 ∨ width < 0 ∨ 20 < width
  · have hp : padR n width = [] := by unfold padR; rw [if_pos h]
    rw [hp]
    by_cases h1 : n < 0
    · go_enter Try.func63, Try.ntmps63
      go_wp2
      go_ret
      exact ⟨rfl, Fr.refl _ _⟩
    · by_cases h2 : width < 0
      · go_enter Try.func63, Try.ntmps63
        go_wp2
        go_ret
        exact ⟨rfl, Fr.refl _ _⟩
      · have h3 : 20 < width := by omega
        go_enter Try.func63, Try.ntmps63
        go_wp2
        go_ret
        exact ⟨rfl, Fr.refl _ _⟩
  · obtain ⟨m, rfl, hm⟩ : ∃ m : Nat, n = m ∧ m ≤ 9223372036854775807 := ⟨n.natAbs, by omega, by omega⟩
    obtain ⟨k, rfl, hk⟩ : ∃ k : Nat, width = k ∧ k ≤ 20 := ⟨width.natAbs, by omega, by omega⟩
    have hp : padR (m : Int) (k : Int) = List.replicate (k - (dec m).length) 48 ++ dec m := by unfold padR; rw [if_neg h]; simp
    have hput : putR (m : Int) = dec m := by unfold putR; rw [if_neg (by omega)]; simp
    rw [hp]
    have hl := dec_20 (n := m) (by omega)
    obtain ⟨t, ht⟩ : ∃ t, t = dec m := ⟨_, rfl⟩
    rw [← ht] at hl ⊢
    rw [← ht] at hput
    clear hp ht h
    have HP := Lib.hid hput
    clear hput
    go_enter Try.func63, Try.ntmps63
    go_wp2_with (go_at_call 75; refine (rput_any (m : Int) (by omega) _).mono ?_; rintro e w1 ⟨rfl, hf⟩; have Hf := Lib.hid (Fr.of_same No hf); rw [HP.out]; clear hf)
    go_loop [5] (fun s => ∃ j : Nat, s = .string ⟨(List.replicate j (48 : UInt8) ++ t).toArray⟩ ∧ j ≤ k - t.length) (fun s => k - (match s with | .string b => b.size | _ => 0))
    case atStart => exact ⟨0, rfl, by omega⟩
    case round =>
      obtain ⟨j, rfl, hj⟩ := hrel
      have hsz : (List.replicate j (48 : UInt8) ++ t).length = j + t.length := by simp
      by_cases hlt : j + t.length < k
      · obtain ⟨r, hr⟩ : ∃ r, r = List.replicate j (48 : UInt8) ++ t := ⟨_, rfl⟩
        have hrn : 48 :: r = List.replicate (j + 1) (48 : UInt8) ++ t := by rw [hr]; rfl
        rw [← hr] at hsz ⊢
        have Hrn := Lib.hid hrn
        clear hr hrn
        go_wp2
        go_round
        case rel => exact ⟨j + 1, (by rw [← Hrn.out]; rfl), by omega⟩
        case measure =>
          have e : (⟨r.toArray⟩ : ByteArray).size = r.length := by simp [ByteArray.size]
          have e2 : ((⟨#[48]⟩ : ByteArray) ++ ⟨r.toArray⟩).size = 1 + r.length := by rw [ByteArray.size_append, e]; rfl
          simp only [e, e2, hsz]
          omega
      · have hje : j = k - t.length := by omega
        obtain ⟨r, hr⟩ : ∃ r, r = List.replicate j (48 : UInt8) ++ t := ⟨_, rfl⟩
        have HR := Lib.hid (show r = List.replicate (k - t.length) 48 ++ t by rw [hr, hje])
        rw [← hr] at hsz ⊢
        clear hr hje
        go_wp2
        go_ret
        rw [← HR.out]
        exact ⟨rfl, Hf.out⟩
end Digit
end Go.Proofs.Ytnfkkonmhinlcaa
/- Package digit: Read. -/
namespace Go.Proofs.Ytnfkkonmhinlcaa
open Go.RowKit
set_option linter.unusedVariables false
set_option linter.unusedSimpArgs false
namespace Digit
theorem snoc_ind {P : Str → Prop} (h0 : P []) (hs : ∀ t c, P t → P (t ++ [c])) (s : Str) : P s := by
  obtain ⟨n, hn⟩ : ∃ n, n = s.length := ⟨_, rfl⟩
  induction n generalizing s with
  | zero => rw [List.eq_nil_of_length_eq_zero hn.symm]; exact h0
  | succ n ih =>
    rcases List.eq_nil_or_concat s with rfl | ⟨t, c, rfl⟩
    · simp at hn
    · rw [List.concat_eq_append] at hn ⊢
      exact hs t c (ih t (by simp at hn; omega))
theorem head_app (t r : Str) (h : t ≠ []) : (t ++ r).head? = t.head? := by
  cases t with
  | nil => exact absurd rfl h
  | cons a t => rfl
def isD (c : UInt8) : Prop := 48 ≤ c.toNat ∧ c.toNat ≤ 57
instance (c : UInt8) : Decidable (isD c) := by unfold isD; exact inferInstance
def val (s : Str) : Nat := s.foldl (fun n c => 10 * n + (c.toNat - 48)) 0
theorem val_snoc (s : Str) (c : UInt8) : val (s ++ [c]) = 10 * val s + (c.toNat - 48) := by simp [val]
theorem digit_of {k : Nat} (h : k < 10) : isD (UInt8.ofNat (48 + k)) ∧ (UInt8.ofNat (48 + k)).toNat = 48 + k := by
  have e : (UInt8.ofNat (48 + k)).toNat = 48 + k := by rw [UInt8.toNat_ofNat']; omega
  exact ⟨⟨by omega, by omega⟩, e⟩
theorem dec_digits (n : Nat) : ∀ c ∈ dec n, isD c := by
  induction n using Nat.strongRecOn with
  | _ n ih =>
    rw [dec_step]
    intro c hc
    rcases List.mem_append.1 hc with hc | hc
    · split at hc
      · cases hc
      · exact ih _ (by omega) c hc
    · rw [List.mem_singleton.1 hc]; exact (digit_of (by omega)).1
theorem dec_val (n : Nat) : val (dec n) = n := by
  induction n using Nat.strongRecOn with
  | _ n ih =>
    rw [dec_step, val_snoc, (digit_of (by omega)).2]
    split
    · simp [val]; omega
    · rw [ih _ (by omega)]; omega
theorem dec_ne (n : Nat) : dec n ≠ [] := by rw [dec_step]; simp
theorem dec_head (n : Nat) (h : (dec n).head? = some 48) : n = 0 := by
  induction n using Nat.strongRecOn with
  | _ n ih =>
    rw [dec_step] at h
    split at h
    · rename_i hz
      simp at h
      have h2 := (digit_of (k := n % 10) (by omega)).2
      have h3 : UInt8.ofNat (48 + n % 10) = 48 := by simpa using h
      rw [h3] at h2
      have : (48 : UInt8).toNat = 48 := rfl
      omega
    · rename_i hz
      rw [head_app _ _ (dec_ne _)] at h
      exact absurd (ih _ (by omega) h) hz
theorem val_pos (s : Str) : s ≠ [] → (∀ c ∈ s, isD c) → s.head? ≠ some 48 → 1 ≤ val s := by
  induction s using snoc_ind with
  | h0 => intro h; exact absurd rfl h
  | hs t c ih =>
    intro hne hd hh
    rw [val_snoc]
    by_cases ht : t = []
    · subst ht
      have hc := hd c (by simp)
      have : c ≠ 48 := fun e => hh (by simp [e])
      have : c.toNat ≠ 48 := fun e => this (UInt8.toNat_inj.1 e)
      unfold isD at hc
      omega
    · have := ih ht (fun d hdm => hd d (List.mem_append_left _ hdm)) (by rwa [head_app _ _ ht] at hh)
      omega
theorem val_dec (s : Str) : s ≠ [] → (∀ c ∈ s, isD c) → (s.head? ≠ some 48 ∨ s.length = 1) → dec (val s) = s := by
  induction s using snoc_ind with
  | h0 => intro h; exact absurd rfl h
  | hs t c ih =>
    intro hne hd hh
    have hc := hd c (by simp)
    unfold isD at hc
    have e : UInt8.ofNat (48 + (c.toNat - 48)) = c := by
      rw [show 48 + (c.toNat - 48) = c.toNat by omega]; simp
    rw [val_snoc, dec_step]
    by_cases ht : t = []
    · subst ht
      have h1 : (10 * val [] + (c.toNat - 48)) / 10 = 0 := by simp [val]; omega
      have h2 : (10 * val [] + (c.toNat - 48)) % 10 = c.toNat - 48 := by simp [val]; omega
      rw [if_pos h1, h2, e]
    · have hd2 : ∀ d ∈ t, isD d := fun d hdm => hd d (List.mem_append_left _ hdm)
      have hh2 : t.head? ≠ some 48 := by
        rcases hh with hh | hh
        · rwa [head_app _ _ ht] at hh
        · exact absurd (by simpa using hh) ht
      have hp := val_pos t ht hd2 hh2
      have h1 : (10 * val t + (c.toNat - 48)) / 10 = val t := by omega
      have h2 : (10 * val t + (c.toNat - 48)) % 10 = c.toNat - 48 := by omega
      rw [h1, h2, if_neg (by omega), e, ih ht hd2 (.inl hh2)]
def readR (s : Str) : Int × Int :=
  if s = [] ∨ 13 < s.length ∨ (s.head? = some 48 ∧ 1 < s.length) ∨ (∃ c ∈ s, ¬ isD c) ∨ 1099511627776 < val s then (0, 3) else (((val s : Nat) : Int), 0)
theorem val_lt (s : Str) (hd : ∀ c ∈ s, isD c) : val s < 10 ^ s.length := by
  induction s using snoc_ind with
  | h0 => simp [val]
  | hs t c ih =>
    have := ih (fun d h => hd d (List.mem_append_left _ h))
    have hc := hd c (by simp)
    unfold isD at hc
    rw [val_snoc, List.length_append, List.length_singleton, Nat.pow_succ]
    obtain ⟨M, hM⟩ : ∃ M, M = 10 ^ t.length := ⟨_, rfl⟩
    rw [← hM] at this ⊢
    omega
/-- At each jump back: k signs are read. -/
def ReadJ (s : Str) (w : World) (a' : Act) (w' : World) : Prop :=
  ∃ (k m : Nat) (u2 u3 u6 u7 u8 u9 u10 u11 u12 u13 u14 u15 u16 u17 u18 u19 u20 u21 u22 u23 u24 u25 u26 u27 u28 u29 u30 u31 u32 u33 u34 u35 u36 u37 u38 u39 u40 u41 u42 u43 u44 u45 u46 u47 u48 u49 : Value), a' = { tmps := #[.string ⟨s.toArray⟩, undef, u2, u3, .int .i64 m, .int .i64 k, u6, u7, u8, u9, u10, u11, u12, u13, u14, u15, u16, u17, u18, u19, u20, u21, u22, u23, u24, u25, u26, u27, u28, u29, u30, u31, u32, u33, u34, u35, u36, u37, u38, u39, u40, u41, u42, u43, u44, u45, u46, u47, u48, u49], defers := [] } ∧ k < s.length ∧ m ≤ 10000000000000 ∧ w = w' ∧ Hid (m = val (s.take k) ∧ ∀ c ∈ s.take k, isD c)
theorem readR_bad {s : Str} (h : ∃ c ∈ s, ¬ isD c) : readR s = (0, 3) := by
  unfold readR; rw [if_pos (.inr (.inr (.inr (.inl h))))]
theorem readR_big {s : Str} (h : 1099511627776 < val s) : readR s = (0, 3) := by
  unfold readR; rw [if_pos (.inr (.inr (.inr (.inr h))))]
theorem readR_good {s : Str} (h1 : s ≠ []) (h2 : s.length ≤ 13) (h3 : ¬ (s.head? = some 48 ∧ 1 < s.length)) (h4 : ∀ c ∈ s, isD c) (h5 : val s ≤ 1099511627776) : readR s = (((val s : Nat) : Int), 0) := by
  unfold readR
  rw [if_neg]
  rintro (h | h | h | ⟨c, hc, h⟩ | h)
  · exact h1 h
  · omega
  · exact h3 h
  · exact h (h4 c hc)
  · omega
end Digit
end Go.Proofs.Ytnfkkonmhinlcaa
/- Package digit: the reference's Read. -/
namespace Go.Proofs.Ytnfkkonmhinlcaa
open Go.RowKit
set_option linter.unusedVariables false
set_option linter.unusedSimpArgs false
namespace Digit
def rok (s : Str) : Prop := s ≠ [] ∧ s.length ≤ 13 ∧ ¬ (s.head? = some 48 ∧ 1 < s.length) ∧ (∀ c ∈ s, isD c) ∧ val s ≤ 1099511627776
theorem readR_yes {s : Str} (h : rok s) : readR s = (((val s : Nat) : Int), 0) := readR_good h.1 h.2.1 h.2.2.1 h.2.2.2.1 h.2.2.2.2
theorem readR_no {s : Str} (h : ¬ rok s) : readR s = (0, 3) := by
  unfold readR
  rw [if_pos]
  by_cases h1 : s = []
  · exact .inl h1
  by_cases h2 : 13 < s.length
  · exact .inr (.inl h2)
  by_cases h3 : s.head? = some 48 ∧ 1 < s.length
  · exact .inr (.inr (.inl h3))
  by_cases h4 : ∃ c ∈ s, ¬ isD c
  · exact .inr (.inr (.inr (.inl h4)))
  by_cases h5 : 1099511627776 < val s
  · exact .inr (.inr (.inr (.inr h5)))
  exact absurd ⟨h1, by omega, h3, fun c hc => Decidable.byContradiction fun hh => h4 ⟨c, hc, hh⟩, by omega⟩ h
theorem rok_dec {s : Str} (h : rok s) : dec (val s) = s := by
  obtain ⟨h1, h2, h3, h4, h5⟩ := h
  refine val_dec s h1 h4 ?_
  by_cases hh : s.head? = some 48
  · right
    have : s.length ≠ 0 := fun e => h1 (List.eq_nil_of_length_eq_zero e)
    have : ¬ 1 < s.length := fun e => h3 ⟨hh, e⟩
    omega
  · exact .inl hh
theorem dec_rok {n : Nat} (h : n ≤ 1099511627776) : rok (dec n) := by
  refine ⟨dec_ne n, dec_len 12 n (by omega), fun ⟨h1, h2⟩ => ?_, dec_digits n, by rw [dec_val]; exact h⟩
  rw [dec_head n h1, dec, if_pos (by omega)] at h2
  simp at h2
def rv (s : Str) : Int := s.foldl (fun n c => 10 * n + (c.toNat : Int) - 48) 0
theorem rv_snoc (s : Str) (c : UInt8) : rv (s ++ [c]) = 10 * rv s + (c.toNat : Int) - 48 := by simp [rv]
theorem rv_bound (s : Str) : -6 * ((10 ^ s.length : Nat) - 1 : Int) ≤ rv s ∧ rv s ≤ 24 * ((10 ^ s.length : Nat) - 1 : Int) := by
  induction s using snoc_ind with
  | h0 => simp [rv]
  | hs t c ih =>
    have hc : c.toNat < 256 := c.toNat_lt
    rw [rv_snoc, List.length_append, List.length_singleton, Nat.pow_succ]
    obtain ⟨M, hM⟩ : ∃ M, M = 10 ^ t.length := ⟨_, rfl⟩
    rw [← hM] at ih ⊢
    omega
theorem rv_val (s : Str) (h : ∀ c ∈ s, isD c) : rv s = ((val s : Nat) : Int) := by
  induction s using snoc_ind with
  | h0 => rfl
  | hs t c ih =>
    have hc := h c (by simp)
    unfold isD at hc
    rw [rv_snoc, val_snoc, ih fun d hd => h d (List.mem_append_left _ hd)]
    omega
theorem rv_eq {s : Str} : (if rv (s.take 14) < 0 ∨ 1099511627776 < rv (s.take 14) ∨ putR (rv (s.take 14)) ≠ s then (0, 3) else (rv (s.take 14), 0)) = readR s := by
  by_cases h : rok s
  · have h2 := h.2.1
    have e : rv (s.take 14) = ((val s : Nat) : Int) := by rw [List.take_of_length_le (by omega), rv_val s h.2.2.2.1]
    have hp : putR ((val s : Nat) : Int) = s := by unfold putR; rw [if_neg (by omega)]; exact rok_dec h
    have h5 := h.2.2.2.2
    rw [readR_yes h, e, hp, if_neg]
    rintro (h | h | h)
    · omega
    · omega
    · exact h rfl
  · rw [readR_no h]
    by_cases hc : rv (s.take 14) < 0 ∨ 1099511627776 < rv (s.take 14) ∨ putR (rv (s.take 14)) ≠ s
    · rw [if_pos hc]
    · obtain ⟨n, hn⟩ : ∃ n, n = rv (s.take 14) := ⟨_, rfl⟩
      rw [← hn] at hc
      have h1 : ¬ n < 0 := fun e => hc (.inl e)
      have h2 : ¬ 1099511627776 < n := fun e => hc (.inr (.inl e))
      have h3 : putR n = s := Decidable.byContradiction fun e => hc (.inr (.inr e))
      unfold putR at h3
      rw [if_neg h1] at h3
      exact absurd (h3 ▸ dec_rok (by omega)) h
end Digit
end Go.Proofs.Ytnfkkonmhinlcaa
/- Package digit: bytes as two digits. -/
namespace Go.Proofs.Ytnfkkonmhinlcaa
open Go.RowKit
set_option linter.unusedVariables false
set_option linter.unusedSimpArgs false
namespace Digit
def hexR (m : Nat) : Str := [hx (m / 16), hx (m % 16)]
theorem conv_lit (w : World) (l : Str) (cs : Array Value) (h : cs.toList = l.map encB) (n : Nat) (hn : n = l.length) :
    (convert 56 9 (.slice (some ⟨w.heap.size, 0, none⟩) n n)).run Try.prog (w.alloc (.cells cs 5)) = .ok (.string ⟨l.toArray⟩) (w.alloc (.cells cs 5)) := by
  subst hn
  refine run_convert_bytes_back _ 56 9 5 ⟨w.heap.size, 0, none⟩ l.length l Try.underlying56 Try.underlying5 Try.underlying9 fun j hj => ?_
  refine cell_lit w cs 5 j _ ?_
  rw [h]
  simp [hj, encB]
/-- What a digit's sign is worth. -/
def wv (c : UInt8) : Option Nat := if 48 ≤ c.toNat ∧ c.toNat ≤ 57 then some (c.toNat - 48) else if 97 ≤ c.toNat ∧ c.toNat ≤ 102 then some (c.toNat - 87) else none
theorem worth_any (c : UInt8) (w : World) : Calls Try.prog 82 #[.int .u8 c.toNat] w fun e w' => e = .returned (.tuple #[.int .u8 (((wv c).getD 0 : Nat) : Int), .bool (wv c).isSome]) ∧ w = w' := by
  have hc := c.toNat_lt
  by_cases h1 : 48 ≤ c.toNat ∧ c.toNat ≤ 57
  · have e : wv c = some (c.toNat - 48) := if_pos h1
    obtain ⟨d, hd⟩ : ∃ d, c.toNat = 48 + d := ⟨c.toNat - 48, by omega⟩
    rw [e, hd]
    rw [hd] at h1 hc
    obtain ⟨h1, h2⟩ := h1
    clear e hd
    go_enter Try.func82, Try.ntmps82
    go_wp2
    go_ret2
    refine ⟨?_, rfl⟩
    show Ending.returned (.tuple #[.int .u8 (48 + (d : Int) - 48), _]) = _
    rw [show (48 + (d : Int) - 48) = ((48 + d - 48 : Nat) : Int) by omega]
    rfl
  · by_cases h2 : 97 ≤ c.toNat ∧ c.toNat ≤ 102
    · have e : wv c = some (c.toNat - 87) := by unfold wv; rw [if_neg h1, if_pos h2]
      obtain ⟨d, hd⟩ : ∃ d, c.toNat = 97 + d := ⟨c.toNat - 97, by omega⟩
      rw [e, hd]
      rw [hd] at h1 h2 hc
      obtain ⟨h2, h3⟩ := h2
      clear e hd
      go_enter Try.func82, Try.ntmps82
      go_wp2
      go_ret2
      refine ⟨?_, rfl⟩
      show Ending.returned (.tuple #[.int .u8 (97 + (d : Int) - 97 + 10), _]) = _
      rw [show (97 + (d : Int) - 97 + 10) = ((97 + d - 87 : Nat) : Int) by omega]
      rfl
    · have e : wv c = none := by unfold wv; rw [if_neg h1, if_neg h2]
      rw [e]
      by_cases g1 : c.toNat < 48
      · go_enter Try.func82, Try.ntmps82
        go_wp2
        go_ret2
        exact ⟨rfl, rfl⟩
      · by_cases g2 : c.toNat < 97
        · have g3 : 57 < c.toNat := by omega
          go_enter Try.func82, Try.ntmps82
          go_wp2
          go_ret2
          exact ⟨rfl, rfl⟩
        · have g3 : 102 < c.toNat := by omega
          go_enter Try.func82, Try.ntmps82
          go_wp2
          go_ret2
          exact ⟨rfl, rfl⟩
set_option maxRecDepth 100000 in
theorem wv_hx (c : UInt8) : ∀ n, wv c = some n → hx n = c ∧ n < 16 := by
  have : ∀ k : Fin 256, ∀ n, wv (UInt8.ofNat k) = some n → hx n = UInt8.ofNat k ∧ n < 16 := by
    intro k n h
    have hd : ∀ k : Fin 256, (match wv (UInt8.ofNat k) with | some n => decide (hx n = UInt8.ofNat k ∧ n < 16) | none => true) = true := by decide
    have := hd k
    rw [h] at this
    simpa using this
  have h2 := this ⟨c.toNat, c.toNat_lt⟩
  simpa using h2
def readHexR (s : Str) : Nat × Int := match s with
  | [a, b] => (match wv a, wv b with | some x, some y => (16 * x + y, 0) | _, _ => (0, 3))
  | _ => (0, 3)
set_option maxRecDepth 100000 in
theorem readHex_hex (m : Nat) (hm : m < 256) : readHexR (hexR m) = (m, 0) := by
  have : ∀ k : Fin 256, readHexR (hexR k) = (k.val, 0) := by decide
  exact this ⟨m, hm⟩
theorem readHex_cases (s : Str) : readHexR s = (0, 3) ∨ ∃ m, m < 256 ∧ s = hexR m := by
  unfold readHexR
  split
  · rename_i a b
    cases ha : wv a with
    | none => exact .inl (by simp)
    | some x =>
      cases hb : wv b with
      | none => exact .inl (by simp)
      | some y =>
        obtain ⟨h1, h2⟩ := wv_hx a x ha
        obtain ⟨h3, h4⟩ := wv_hx b y hb
        refine .inr ⟨16 * x + y, by omega, ?_⟩
        unfold hexR
        rw [show (16 * x + y) / 16 = x by omega, show (16 * x + y) % 16 = y by omega, h1, h3]
  · exact .inl rfl
theorem bits_or {x y : Nat} (hx : x < 16) (hy : y < 16) : bits BinOp.or IntKind.u8 ((x : Int) * 16) y = ((16 * x + y : Nat) : Int) := by
  have : ∀ x y : Fin 16, bits BinOp.or IntKind.u8 ((x.val : Int) * 16) y.val = ((16 * x.val + y.val : Nat) : Int) := by decide
  exact this ⟨x, hx⟩ ⟨y, hy⟩
set_option maxHeartbeats 1000000 in
theorem readhex_any (s : Str) (hl : s.length ≤ maxLen) (w : World) : Calls Try.prog 79 #[.string ⟨s.toArray⟩] w fun e w' => e = .returned (.tuple #[.int .u8 (readHexR s).1, .int .i64 (readHexR s).2]) ∧ w = w' := by
  unfold maxLen at hl
  by_cases h2 : s.length = 2
  · obtain ⟨a, b, rfl⟩ : ∃ a b, s = [a, b] := by
      match s, h2 with
      | [a, b], _ => exact ⟨a, b, rfl⟩
    have c1 := fun w => worth_any a w
    have c2 := fun w => worth_any b w
    have hix0 : (⟨#[a, b]⟩ : ByteArray)[0]'(by simp [ByteArray.size]) = a := rfl
    have hix1 : (⟨#[a, b]⟩ : ByteArray)[1]'(by simp [ByteArray.size]) = b := rfl
    have hr : readHexR [a, b] = (match wv a, wv b with | some x, some y => (16 * x + y, 0) | _, _ => (0, 3)) := rfl
    rw [hr]
    have w1 := wv_hx a
    have w2 := wv_hx b
    clear hr hl h2
    generalize wv a = o1 at c1 w1 ⊢
    generalize wv b = o2 at c2 w2 ⊢
    cases o1 with
    | none =>
      go_enter Try.func79, Try.ntmps79
      go_wp2_with (first
        | (go_at_call 82; with_reducible refine (c1 _).mono ?_; rintro e w1 ⟨rfl, rfl⟩)
        | (go_at_call 82; with_reducible refine (c2 _).mono ?_; rintro e w1 ⟨rfl, rfl⟩))
      go_ret2
      exact ⟨rfl, rfl⟩
    | some x =>
      cases o2 with
      | none =>
        go_enter Try.func79, Try.ntmps79
        go_wp2_with (first
          | (go_at_call 82; with_reducible refine (c1 _).mono ?_; rintro e w1 ⟨rfl, rfl⟩)
          | (go_at_call 82; with_reducible refine (c2 _).mono ?_; rintro e w1 ⟨rfl, rfl⟩))
        go_ret2
        exact ⟨rfl, rfl⟩
      | some y =>
        have hx16 := (w1 x rfl).2
        have hy16 := (w2 y rfl).2
        clear w1 w2
        go_enter Try.func79, Try.ntmps79
        go_wp2_with (first
          | (go_at_call 82; with_reducible refine (c1 _).mono ?_; rintro e w1 ⟨rfl, rfl⟩)
          | (go_at_call 82; with_reducible refine (c2 _).mono ?_; rintro e w1 ⟨rfl, rfl⟩))
        go_ret2
        refine ⟨?_, rfl⟩
        show Ending.returned (.tuple #[.int .u8 (bits BinOp.or IntKind.u8 ((x : Int) * 16) y), _]) = _
        rw [bits_or hx16 hy16]
        rfl
  · have hr : readHexR s = (0, 3) := by
      unfold readHexR
      split
      · simp at h2
      · rfl
    have hb : ((s.length : Int) != 2) = true := by simp; omega
    rw [hr]
    clear hr
    go_enter Try.func79, Try.ntmps79
    go_wp2
    go_ret2
    exact ⟨rfl, rfl⟩
theorem rhex_any (m : Nat) (hm : m < 256) (w : World) : Calls Try.prog 64 #[.int .u8 m] w fun e w' => e = .returned (.string ⟨(hexR m).toArray⟩) ∧ w = w' := by
  have c1 := fun w => rdig_any (m / 16) (by omega) w
  have c2 := fun w => rdig_any (m % 16) (by omega) w
  rw [show ((m / 16 : Nat) : Int) = (m : Int) / 16 by omega] at c1
  rw [show ((m % 16 : Nat) : Int) = (m : Int) % 16 by omega] at c2
  unfold hexR
  obtain ⟨a, ha⟩ : ∃ a, a = hx (m / 16) := ⟨_, rfl⟩
  obtain ⟨b, hb⟩ : ∃ b, b = hx (m % 16) := ⟨_, rfl⟩
  rw [← ha] at c1 ⊢
  rw [← hb] at c2 ⊢
  clear ha hb
  go_enter Try.func64, Try.ntmps64
  go_wp2_with (first
    | (go_at_call 76; with_reducible refine (c1 _).mono ?_; rintro e w1 ⟨rfl, rfl⟩)
    | (go_at_call 76; with_reducible refine (c2 _).mono ?_; rintro e w1 ⟨rfl, rfl⟩))
  go_ret
  exact ⟨rfl, rfl⟩
end Digit
end Go.Proofs.Ytnfkkonmhinlcaa
/- Package digit: bytes as signs that can be seen. -/
namespace Go.Proofs.Ytnfkkonmhinlcaa
open Go.RowKit
set_option linter.unusedVariables false
set_option linter.unusedSimpArgs false
theorem strCells_list (m : Str) : Lib.strCells ⟨m.toArray⟩ = m.map encB := by simp [Lib.strCells, encB]
/-- A row of the call's own, behind block 'base': it grows; nothing ahead of 'base' turns. -/
theorem own_grown {B : Nat} {W w w' : World} {e : TypeId} {size n : Nat} {v : Value} {xs : List Value} (hB : W.heap.size = B) (h : w.ownsRow B e size v n xs) (hf : Fr No W w) (hg : w.grownBy w' v.ownBlock) : Fr No W w' :=
  hf.grown hg fun k hk => .inr (by rw [hB]; exact (h.lt k hk).1)
namespace Digit
def signR (c : UInt8) : Str :=
  if c = 92 then [92, 92] else if c = 10 then [92, 110] else if c = 13 then [92, 114] else if c = 9 then [92, 116]
  else if c.toNat < 32 ∨ 126 < c.toNat then 92 :: 120 :: hexR c.toNat else [c]
theorem sign_len (c : UInt8) : 1 ≤ (signR c).length ∧ (signR c).length ≤ 4 := by
  unfold signR hexR
  repeat' split
  all_goals simp
set_option maxRecDepth 100000 in
theorem rsign_any (c : UInt8) (w : World) : Calls Try.prog 77 #[.int .u8 c.toNat] w fun e w' => e = .returned (.string ⟨(signR c).toArray⟩) ∧ Fr No w w' := by
  by_cases h92 : c = 92
  · subst h92
    rw [show signR 92 = [92, 92] from rfl]
    go_enter Try.func77, Try.ntmps77
    go_wp2
    go_ret
    exact ⟨rfl, Fr.refl _ _⟩
  by_cases h10 : c = 10
  · subst h10
    rw [show signR 10 = [92, 110] from rfl]
    go_enter Try.func77, Try.ntmps77
    go_wp2
    go_ret
    exact ⟨rfl, Fr.refl _ _⟩
  by_cases h13 : c = 13
  · subst h13
    rw [show signR 13 = [92, 114] from rfl]
    go_enter Try.func77, Try.ntmps77
    go_wp2
    go_ret
    exact ⟨rfl, Fr.refl _ _⟩
  by_cases h9 : c = 9
  · subst h9
    rw [show signR 9 = [92, 116] from rfl]
    go_enter Try.func77, Try.ntmps77
    go_wp2
    go_ret
    exact ⟨rfl, Fr.refl _ _⟩
  have e92 : ((c.toNat : Int) == 92) = false := (u8_f (d := 92) rfl h92).1
  have e10 : ((c.toNat : Int) == 10) = false := (u8_f (d := 10) rfl h10).1
  have e13 : ((c.toNat : Int) == 13) = false := (u8_f (d := 13) rfl h13).1
  have e9 : ((c.toNat : Int) == 9) = false := (u8_f (d := 9) rfl h9).1
  have hs : signR c = if c.toNat < 32 ∨ 126 < c.toNat then 92 :: 120 :: hexR c.toNat else [c] := by unfold signR; rw [if_neg h92, if_neg h10, if_neg h13, if_neg h9]
  have hh : (hexR c.toNat).length = 2 := rfl
  have hcv := conv_lit w [c] #[.int .u8 c.toNat] rfl 1 rfl
  obtain ⟨q, hq⟩ : ∃ q, q = hexR c.toNat := ⟨_, rfl⟩
  clear h92 h10 h13 h9
  by_cases g1 : c.toNat < 32
  · rw [if_pos (by omega), ← hq] at hs
    rw [← hq] at hh
    have HS := Lib.hid hs
    have HQ := Lib.hid hq
    clear hs hq
    go_enter Try.func77, Try.ntmps77
    go_wp2_with (go_at_call 64; refine (rhex_any c.toNat c.toNat_lt _).mono ?_; rintro e w1 ⟨rfl, hf⟩; rw [← HQ.out]; have Hf := Lib.hid (Fr.of_same No hf); clear hf)
    go_ret
    rw [HS.out]
    exact ⟨rfl, Hf.out⟩
  by_cases g2 : 126 < c.toNat
  · rw [if_pos (by omega), ← hq] at hs
    rw [← hq] at hh
    have HS := Lib.hid hs
    have HQ := Lib.hid hq
    clear hs hq
    go_enter Try.func77, Try.ntmps77
    go_wp2_with (go_at_call 64; refine (rhex_any c.toNat c.toNat_lt _).mono ?_; rintro e w1 ⟨rfl, hf⟩; rw [← HQ.out]; have Hf := Lib.hid (Fr.of_same No hf); clear hf)
    go_ret
    rw [HS.out]
    exact ⟨rfl, Hf.out⟩
  rw [if_neg (by omega)] at hs
  have HS := Lib.hid hs
  clear hs hq hh
  go_enter Try.func77, Try.ntmps77
  go_wp2
  go_ret
  rw [HS.out]
  exact ⟨rfl, (Fr.refl _ _).alloc _⟩
def showR (s : Str) : Str := s.flatMap signR
theorem show_snoc (s : Str) (c : UInt8) : showR (s ++ [c]) = showR s ++ signR c := by simp [showR]
theorem show_len (s : Str) : (showR s).length ≤ 4 * s.length := by
  induction s with
  | nil => simp [showR]
  | cons c s ih =>
    have e : showR (c :: s) = signR c ++ showR s := rfl
    have := (sign_len c).2
    rw [e]; simp; omega
set_option maxHeartbeats 1000000 in
theorem rshow_any (s : Str) (w : World) (hs : s.length ≤ 1000000) : Calls Try.prog 65 #[.string ⟨s.toArray⟩] w fun e w' => e = .returned (.string ⟨(showR s).toArray⟩) ∧ Fr No w w' := by
  go_enter Try.func65, Try.ntmps65
  go_wp2
  go_loopw [3, 4] (fun o i wr => ∃ (k : Nat) (t : Str), i = .int .i64 k ∧ o = .string ⟨t.toArray⟩ ∧ k ≤ s.length ∧ t.length ≤ 4 * k ∧ Hid (t = showR (s.take k)) ∧ Hid (Fr No w wr)) (fun _ i _ => s.length - (intOf i).toNat)
  case atStart => exact ⟨0, [], rfl, rfl, by omega, by simp, rfl, Fr.refl _ _⟩
  case round =>
    obtain ⟨k, t, rfl, rfl, hk, ht, Ht, Hd⟩ := hrel
    by_cases hlt : k < s.length
    · have hix : (⟨s.toArray⟩ : ByteArray)[k]'(by simpa [ByteArray.size] using hlt) = s[k] := rfl
      have hst : showR (s.take (k + 1)) = showR (s.take k) ++ signR s[k] := by rw [List.take_succ_eq_append_getElem hlt, show_snoc]
      have hc := fun w => rsign_any s[k] w
      have hsl := sign_len s[k]
      obtain ⟨g, hg⟩ : ∃ g, g = signR s[k] := ⟨_, rfl⟩
      rw [← hg] at hst hc hsl
      have Hst := Lib.hid hst
      clear hg hst
      go_wp2_with (go_at_call 77; refine (hc _).mono ?_; rintro e w1 ⟨rfl, hf⟩; have Hf := Lib.hid (Hd.out.then_no hf); clear hf)
      go_roundw
      case rel => exact ⟨k + 1, t ++ g, by go_num, rfl, by omega, by simp; omega, (show t ++ g = _ by rw [Hst.out, ← Ht.out]), Hf.out⟩
      case measure => simp [intOf]; omega
    · have HQ := Lib.hid (show t = showR s by rw [Ht.out, List.take_of_length_le (by omega)])
      go_wp2
      go_ret
      rw [← HQ.out]
      exact ⟨rfl, Hd.out⟩
end Digit
end Go.Proofs.Ytnfkkonmhinlcaa
/- Package digit: the bytes of signs. -/
namespace Go.Proofs.Ytnfkkonmhinlcaa
open Go.RowKit
set_option linter.unusedVariables false
set_option linter.unusedSimpArgs false
/-- 's[i:]' of a text. -/
theorem slice_from {P : Program} (w : World) (T : TypeId) (hT : P.underlying T = some .string) (s : Str) (i : Int) (a : Nat) (hi : i = a) (h : a ≤ s.length) :
    (Instr.slice T (.string ⟨s.toArray⟩) (some (.int .i64 i)) none none).run P w = .ok (.string ⟨(s.drop a).toArray⟩) w := by
  rw [run_slice_string_from_if w T ⟨s.toArray⟩ .i64 i hT, if_pos ⟨by omega, by rw [hi]; show (a : Int) ≤ ((s.toArray.size : Nat) : Int); simp; omega⟩]
  have e : (⟨s.toArray⟩ : ByteArray).size = s.length := by simp [ByteArray.size]
  rw [e, ByteArray.extract_mk, show i.toNat = a by omega]
  simp
  rw [List.take_of_length_le (by simp)]
/-- 's[:j]' of a text. -/
theorem slice_to {P : Program} (w : World) (T : TypeId) (hT : P.underlying T = some .string) (s : Str) (i : Int) (a : Nat) (hi : i = a) (h : a ≤ s.length) :
    (Instr.slice T (.string ⟨s.toArray⟩) none (some (.int .i64 i)) none).run P w = .ok (.string ⟨(s.take a).toArray⟩) w := by
  rw [run_slice_string_to_if w T ⟨s.toArray⟩ .i64 i hT, if_pos ⟨by omega, by rw [hi]; show (a : Int) ≤ ((s.toArray.size : Nat) : Int); simp; omega⟩]
  rw [ByteArray.extract_mk, show i.toNat = a by omega]
  simp
namespace Digit
def oneR : Str → UInt8 × Nat
  | [] => (0, 0)
  | a :: t => if a ≠ 92 then (a, 1) else
    match t with
    | [] => (0, 0)
    | b :: r => if b = 92 then (92, 2) else if b = 110 then (10, 2) else if b = 114 then (13, 2) else if b = 116 then (9, 2)
      else if b = 120 then (if (readHexR (r.take 2)).2 ≠ 0 then (0, 0) else (UInt8.ofNat (readHexR (r.take 2)).1, 4)) else (0, 0)
theorem readHexR_lt (s : Str) : (readHexR s).1 < 256 ∧ ((readHexR s).2 = 0 ∧ s.length = 2 ∨ (readHexR s).2 = 3) := by
  rcases readHex_cases s with h | ⟨m, hm, h⟩
  · rw [h]; exact ⟨by decide, .inr rfl⟩
  · rw [h, readHex_hex m hm]; exact ⟨hm, .inl ⟨rfl, rfl⟩⟩
theorem one_le (s : Str) : (oneR s).2 ≤ s.length := by
  unfold oneR
  split
  · simp
  · split
    · simp
    · split
      · simp
      · rename_i r
        have := (readHexR_lt (r.take 2)).2
        repeat' split
        all_goals simp at *
        omega
theorem one_sign (c : UInt8) (t : Str) : oneR (signR c ++ t) = (c, (signR c).length) := by
  by_cases h92 : c = 92
  · subst h92; rfl
  by_cases h10 : c = 10
  · subst h10; rfl
  by_cases h13 : c = 13
  · subst h13; rfl
  by_cases h9 : c = 9
  · subst h9; rfl
  have hs : signR c = if c.toNat < 32 ∨ 126 < c.toNat then 92 :: 120 :: hexR c.toNat else [c] := by unfold signR; rw [if_neg h92, if_neg h10, if_neg h13, if_neg h9]
  by_cases g : c.toNat < 32 ∨ 126 < c.toNat
  · rw [if_pos g] at hs
    rw [hs]
    have e : oneR (92 :: 120 :: hexR c.toNat ++ t) = if (readHexR ((hexR c.toNat ++ t).take 2)).2 ≠ 0 then (0, 0) else (UInt8.ofNat (readHexR ((hexR c.toNat ++ t).take 2)).1, 4) := rfl
    have e2 : (hexR c.toNat ++ t).take 2 = hexR c.toNat := rfl
    rw [e, e2, readHex_hex _ c.toNat_lt]
    simp [hexR]
  · rw [if_neg g] at hs
    rw [hs]
    show (if c ≠ 92 then (c, 1) else _) = _
    rw [if_pos h92]
    rfl
def uns : Nat → Str → Option Str
  | 0, s => if s = [] then some [] else none
  | f + 1, s => if s = [] then some [] else if (oneR s).2 = 0 ∨ signR (oneR s).1 ≠ s.take (oneR s).2 then none else (uns f (s.drop (oneR s).2)).map ((oneR s).1 :: ·)
theorem uns_fuel (f : Nat) : ∀ g s, s.length ≤ f → s.length ≤ g → uns f s = uns g s := by
  induction f with
  | zero =>
    intro g s h1 h2
    have : s = [] := List.eq_nil_of_length_eq_zero (by omega)
    subst this
    cases g <;> rfl
  | succ f ih =>
    intro g s h1 h2
    by_cases hs : s = []
    · subst hs; cases g <;> rfl
    · cases g with
      | zero => exact absurd (List.eq_nil_of_length_eq_zero (by omega)) hs
      | succ g =>
        unfold uns
        rw [if_neg hs, if_neg hs]
        split
        · rfl
        · rename_i hc
          have : (oneR s).2 ≠ 0 := fun e => hc (.inl e)
          rw [ih g (s.drop (oneR s).2) (by simp; omega) (by simp; omega)]
def unsR (s : Str) : Option Str := uns s.length s
theorem sign_ne (c : UInt8) (t : Str) : signR c ++ t ≠ [] := by
  have := (sign_len c).1
  intro h
  have h2 := congrArg List.length h
  rw [List.length_append] at h2
  simp only [List.length_nil] at h2
  omega
theorem unsR_sign (c : UInt8) (t : Str) : unsR (signR c ++ t) = (unsR t).map (c :: ·) := by
  unfold unsR
  have hl := (sign_len c).1
  obtain ⟨f, hf⟩ : ∃ f, (signR c ++ t).length = f + 1 := ⟨(signR c ++ t).length - 1, by simp; omega⟩
  rw [hf, uns, if_neg (sign_ne c t), one_sign]
  simp only
  rw [if_neg, List.drop_left, uns_fuel f t.length t (by simp at hf; omega) (Nat.le_refl _)]
  rintro (h | h)
  · omega
  · exact h (List.take_left).symm
theorem unsR_bad {s : Str} (h : s ≠ []) (hb : ∀ c t, s ≠ signR c ++ t) : unsR s = none := by
  unfold unsR
  cases hl : s.length with
  | zero => exact absurd (List.eq_nil_of_length_eq_zero hl) h
  | succ f =>
    rw [uns, if_neg h, if_pos]
    by_cases h0 : (oneR s).2 = 0
    · exact .inl h0
    · right
      intro e
      exact hb (oneR s).1 (s.drop (oneR s).2) (by rw [e, List.take_append_drop])
theorem unsR_show (s : Str) : unsR (showR s) = some s := by
  induction s with
  | nil => rfl
  | cons c s ih =>
    have e : showR (c :: s) = signR c ++ showR s := rfl
    rw [e, unsR_sign, ih]; rfl
theorem show_uns (n : Nat) : ∀ t c, t.length ≤ n → unsR t = some c → showR c = t := by
  induction n with
  | zero =>
    intro t c h hu
    have : t = [] := List.eq_nil_of_length_eq_zero (by omega)
    subst this
    have : some c = some [] := hu.symm
    injection this with this
    subst this; rfl
  | succ n ih =>
    intro t c h hu
    by_cases ht : t = []
    · subst ht
      have : some c = some [] := hu.symm
      injection this with this
      subst this; rfl
    · by_cases hx : ∃ d r, t = signR d ++ r
      · obtain ⟨d, r, rfl⟩ := hx
        rw [unsR_sign] at hu
        cases hr : unsR r with
        | none => rw [hr] at hu; cases hu
        | some q =>
          rw [hr] at hu
          injection hu with hu
          subst hu
          have hl := (sign_len d).1
          have := ih r q (by simp at h; omega) hr
          show signR d ++ showR q = _
          rw [this]
      · rw [unsR_bad ht (fun d r e => hx ⟨d, r, e⟩)] at hu
        cases hu
end Digit
end Go.Proofs.Ytnfkkonmhinlcaa
/- Package digit: Unshow. -/
namespace Go.Proofs.Ytnfkkonmhinlcaa
open Go.RowKit
set_option linter.unusedVariables false
set_option linter.unusedSimpArgs false
namespace Digit
def unsP (s : Str) : Str × Int := match unsR s with | some o => (o, 0) | none => ([], 3)
theorem unsP_yes {s t out : Str} (h : unsR s = (unsR t).map (out ++ ·)) (ht : t = []) : unsP s = (out, 0) := by
  subst ht
  unfold unsP
  rw [h, show unsR [] = some [] from rfl]
  simp
theorem unsP_no {s t out : Str} (h : unsR s = (unsR t).map (out ++ ·)) (ht : unsR t = none) : unsP s = ([], 3) := by
  unfold unsP
  rw [h, ht]
  rfl
theorem uns_on {s t r out : Str} {c : UInt8} (h : unsR s = (unsR t).map (out ++ ·)) (ht : t = signR c ++ r) : unsR s = (unsR r).map (out ++ [c] ++ ·) := by
  rw [h, ht, unsR_sign]
  cases unsR r <;> simp
end Digit
end Go.Proofs.Ytnfkkonmhinlcaa
/- Package digit: the reference's Unshow. -/
namespace Go.Proofs.Ytnfkkonmhinlcaa
open Go.RowKit
set_option linter.unusedVariables false
set_option linter.unusedSimpArgs false
namespace Digit
theorem conv_one (c : UInt8) (k : Nat) (hk : c.toNat = k) (W : World) (b : Nat) (h1 : W.cell? ⟨b, 0, none⟩ = some (.int .u8 k)) :
    (convert 56 9 (.slice (some ⟨b, 0, none⟩) 1 1)).run Try.prog W = .ok (.string ⟨#[c]⟩) W := by
  refine run_convert_bytes_back W 56 9 5 ⟨b, 0, none⟩ 1 [c] Try.underlying56 Try.underlying5 Try.underlying9 fun j hj => ?_
  have : j = 0 := by simpa using hj
  subst this
  rw [add_zero, h1, ← hk]
  rfl
theorem take_sign {t : Str} {g : Str} (hl : g.length ≤ t.length) (h : t.take g.length = g) : t = g ++ t.drop g.length := by
  conv => lhs; rw [← List.take_append_drop g.length t, h]
/-- The inner loop: what was found among the first k. -/
def Fnd (t out : Str) (k : Nat) (t' out' : Str) (f : Bool) : Prop :=
  if f = true then ∃ c, t = signR c ++ t' ∧ out' = out ++ [c] else t' = t ∧ out' = out ∧ ∀ j, j < k → ∀ r, t ≠ signR (UInt8.ofNat j) ++ r
end Digit
end Go.Proofs.Ytnfkkonmhinlcaa
