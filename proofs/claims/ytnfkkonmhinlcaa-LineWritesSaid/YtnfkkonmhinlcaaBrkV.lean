/- Package brk: the step with which a text begins. Printed by gen_brkv.py. -/
import Derived.Test.YtnfkkonmhinlcaaBrkP
namespace Go.Proofs.Ytnfkkonmhinlcaa
open Go.RowKit
set_option linter.unusedVariables false
set_option linter.unusedSimpArgs false
namespace Brk
open Digit
/-- A step as the program holds it. -/
def encI (x : Op) : Value := if x.1 = 1 then .iface 119 (.string ⟨x.2.1.toArray⟩) else if x.1 = 2 then .iface 121 (.int .i64 x.2.2) else .iface 132 (.agg #[])
def encS (p : Op × Nat) : Value := if p.2 = 0 then .nilIface else encI p.1
theorem encI_send (s : Str) (n : Int) : encI (1, s, n) = .iface 119 (.string ⟨s.toArray⟩) := rfl
theorem encI_wait (s : Str) (n : Int) : encI (2, s, n) = .iface 121 (.int .i64 n) := rfl
theorem encI_stop (s : Str) (n : Int) : encI (3, s, n) = .iface 132 (.agg #[]) := rfl
theorem head_ix {s : Str} {c : UInt8} (h : s.head? = some c) (hb : 0 < (⟨s.toArray⟩ : ByteArray).size) : (⟨s.toArray⟩ : ByteArray)[0]'hb = c := by
  cases s with
  | nil => cases h
  | cons a t => injection h with h
set_option maxRecDepth 100000 in
theorem number_any (s : Str) (hl : s.length ≤ 1000000) (w : World) : Calls Try.prog 78 #[.string ⟨s.toArray⟩] w fun e w' => e = .returned (.tuple #[.int .i64 (numR s), .bool (decide (0 < (numR s : Int)))]) ∧ Fr No w w' := by
  match s, hl with
  | [], hl =>
    rw [show numR [] = 0 from rfl]
    go_enter Try.func78, Try.ntmps78
    go_wp2
    go_ret2
    exact ⟨rfl, Fr.refl _ _⟩
  | [a], hl =>
    rw [show numR [a] = 0 from rfl]
    go_enter Try.func78, Try.ntmps78
    go_wp2
    go_ret2
    exact ⟨rfl, Fr.refl _ _⟩
  | a :: b :: t, hl =>
    have ha := a.toNat_lt
    have hb := b.toNat_lt
    have hr : numR (a :: b :: t) = if (48 ≤ a.toNat ∧ a.toNat ≤ 57) ∧ 48 ≤ b.toNat ∧ b.toNat ≤ 57 then 10 * (a.toNat - 48) + (b.toNat - 48) else 0 := rfl
    rw [hr]
    clear hr
    obtain ⟨s, hs⟩ : ∃ s, s = a :: b :: t := ⟨_, rfl⟩
    have hsz : 2 ≤ s.length := by rw [hs]; simp
    have h00 : s[0] = a := by subst hs; rfl
    have h01 : s[1] = b := by subst hs; rfl
    rw [← hs] at hl ⊢
    clear hs
    have hix : (⟨s.toArray⟩ : ByteArray)[0]'(by simp [ByteArray.size]; omega) = a := h00
    have hix2 : (⟨s.toArray⟩ : ByteArray)[1]'(by simp [ByteArray.size]; omega) = b := h01
    clear h00 h01
    by_cases h1 : a.toNat < 48
    · rw [if_neg (by omega)]
      go_enter Try.func78, Try.ntmps78
      go_wp2
      go_ret2
      exact ⟨rfl, Fr.refl _ _⟩
    by_cases h2 : 57 < a.toNat
    · rw [if_neg (by omega)]
      go_enter Try.func78, Try.ntmps78
      go_wp2
      go_ret2
      exact ⟨rfl, Fr.refl _ _⟩
    by_cases h3 : b.toNat < 48
    · rw [if_neg (by omega)]
      go_enter Try.func78, Try.ntmps78
      go_wp2
      go_ret2
      exact ⟨rfl, Fr.refl _ _⟩
    by_cases h4 : 57 < b.toNat
    · rw [if_neg (by omega)]
      go_enter Try.func78, Try.ntmps78
      go_wp2
      go_ret2
      exact ⟨rfl, Fr.refl _ _⟩
    obtain ⟨x, hx⟩ : ∃ x, a.toNat = 48 + x := ⟨a.toNat - 48, by omega⟩
    obtain ⟨y, hy⟩ : ∃ y, b.toNat = 48 + y := ⟨b.toNat - 48, by omega⟩
    rw [if_pos (by omega), hx, hy]
    have hx9 : x ≤ 9 := by omega
    have hy9 : y ≤ 9 := by omega
    rw [hx] at h1 h2 ha
    rw [hy] at h3 h4 hb
    rw [show 10 * (48 + x - 48) + (48 + y - 48) = 10 * x + y by omega]
    go_enter Try.func78, Try.ntmps78
    go_wp2
    go_region
    all_goals
      go_wp2
      go_ret2
      refine ⟨?_, by first | exact (Fr.refl _ _).drew | exact Fr.refl _ _⟩
      have e1 : (48 + (x : Int) - 48) = (x : Int) := by omega
      have e2 : (48 + (y : Int) - 48) = (y : Int) := by omega
      first | (simp; done) | (simp [e1, e2]; done) | (simp; omega)
set_option maxHeartbeats 1000000 in
set_option maxRecDepth 100000 in
theorem esc_92 (s : Str) (hl : s.length ≤ 1000000) (h1 : 1 < s.length) (hb : s[1] = 92) (w : World) : Calls Try.prog 67 #[.string ⟨s.toArray⟩] w fun e w' => e = .returned (.tuple #[encS ((1, [92], 0), 2), .int .i64 (2 : Nat)]) ∧ Fr No w w' := by
  have hix2 : (⟨s.toArray⟩ : ByteArray)[1]'(by simpa [ByteArray.size] using h1) = s[1] := rfl
  have hsl := fun W : World => slice_from (P := Try.prog) W 9 Try.underlying9 s 2 2 rfl h1
  have c0 : ((s[1].toNat : Int) == 92) = true := by rw [hb]; rfl
  clear hb
  rw [show encS ((1, [92], 0), 2) = .iface 119 (.string ⟨#[92]⟩) from rfl]
  go_enter Try.func67, Try.ntmps67
  go_wp2
  go_ret2
  exact ⟨rfl, Fr.refl _ _⟩
set_option maxHeartbeats 1000000 in
set_option maxRecDepth 100000 in
theorem esc_114 (s : Str) (hl : s.length ≤ 1000000) (h1 : 1 < s.length) (hb : s[1] = 114) (w : World) : Calls Try.prog 67 #[.string ⟨s.toArray⟩] w fun e w' => e = .returned (.tuple #[encS ((1, [13], 0), 2), .int .i64 (2 : Nat)]) ∧ Fr No w w' := by
  have hix2 : (⟨s.toArray⟩ : ByteArray)[1]'(by simpa [ByteArray.size] using h1) = s[1] := rfl
  have hsl := fun W : World => slice_from (P := Try.prog) W 9 Try.underlying9 s 2 2 rfl h1
  have c0 : ((s[1].toNat : Int) == 92) = false := by rw [hb]; rfl
  have c1 : ((s[1].toNat : Int) == 114) = true := by rw [hb]; rfl
  clear hb
  rw [show encS ((1, [13], 0), 2) = .iface 119 (.string ⟨#[13]⟩) from rfl]
  go_enter Try.func67, Try.ntmps67
  go_wp2
  go_ret2
  exact ⟨rfl, Fr.refl _ _⟩
set_option maxHeartbeats 1000000 in
set_option maxRecDepth 100000 in
theorem esc_110 (s : Str) (hl : s.length ≤ 1000000) (h1 : 1 < s.length) (hb : s[1] = 110) (w : World) : Calls Try.prog 67 #[.string ⟨s.toArray⟩] w fun e w' => e = .returned (.tuple #[encS ((1, [10], 0), 2), .int .i64 (2 : Nat)]) ∧ Fr No w w' := by
  have hix2 : (⟨s.toArray⟩ : ByteArray)[1]'(by simpa [ByteArray.size] using h1) = s[1] := rfl
  have hsl := fun W : World => slice_from (P := Try.prog) W 9 Try.underlying9 s 2 2 rfl h1
  have c0 : ((s[1].toNat : Int) == 92) = false := by rw [hb]; rfl
  have c1 : ((s[1].toNat : Int) == 114) = false := by rw [hb]; rfl
  have c2 : ((s[1].toNat : Int) == 110) = true := by rw [hb]; rfl
  clear hb
  rw [show encS ((1, [10], 0), 2) = .iface 119 (.string ⟨#[10]⟩) from rfl]
  go_enter Try.func67, Try.ntmps67
  go_wp2
  go_ret2
  exact ⟨rfl, Fr.refl _ _⟩
set_option maxHeartbeats 1000000 in
set_option maxRecDepth 100000 in
theorem esc_116 (s : Str) (hl : s.length ≤ 1000000) (h1 : 1 < s.length) (hb : s[1] = 116) (w : World) : Calls Try.prog 67 #[.string ⟨s.toArray⟩] w fun e w' => e = .returned (.tuple #[encS ((1, [9], 0), 2), .int .i64 (2 : Nat)]) ∧ Fr No w w' := by
  have hix2 : (⟨s.toArray⟩ : ByteArray)[1]'(by simpa [ByteArray.size] using h1) = s[1] := rfl
  have hsl := fun W : World => slice_from (P := Try.prog) W 9 Try.underlying9 s 2 2 rfl h1
  have c0 : ((s[1].toNat : Int) == 92) = false := by rw [hb]; rfl
  have c1 : ((s[1].toNat : Int) == 114) = false := by rw [hb]; rfl
  have c2 : ((s[1].toNat : Int) == 110) = false := by rw [hb]; rfl
  have c3 : ((s[1].toNat : Int) == 116) = true := by rw [hb]; rfl
  clear hb
  rw [show encS ((1, [9], 0), 2) = .iface 119 (.string ⟨#[9]⟩) from rfl]
  go_enter Try.func67, Try.ntmps67
  go_wp2
  go_ret2
  exact ⟨rfl, Fr.refl _ _⟩
set_option maxHeartbeats 1000000 in
set_option maxRecDepth 100000 in
theorem esc_100 (s : Str) (hl : s.length ≤ 1000000) (h1 : 1 < s.length) (hb : s[1] = 100) (w : World) : Calls Try.prog 67 #[.string ⟨s.toArray⟩] w fun e w' => e = .returned (.tuple #[encS ((2, [], 1), 2), .int .i64 (2 : Nat)]) ∧ Fr No w w' := by
  have hix2 : (⟨s.toArray⟩ : ByteArray)[1]'(by simpa [ByteArray.size] using h1) = s[1] := rfl
  have hsl := fun W : World => slice_from (P := Try.prog) W 9 Try.underlying9 s 2 2 rfl h1
  have c0 : ((s[1].toNat : Int) == 92) = false := by rw [hb]; rfl
  have c1 : ((s[1].toNat : Int) == 114) = false := by rw [hb]; rfl
  have c2 : ((s[1].toNat : Int) == 110) = false := by rw [hb]; rfl
  have c3 : ((s[1].toNat : Int) == 116) = false := by rw [hb]; rfl
  have c4 : ((s[1].toNat : Int) == 100) = true := by rw [hb]; rfl
  clear hb
  rw [show encS ((2, [], 1), 2) = .iface 121 (.int .i64 1) from rfl]
  go_enter Try.func67, Try.ntmps67
  go_wp2
  go_ret2
  exact ⟨rfl, Fr.refl _ _⟩
set_option maxHeartbeats 1000000 in
set_option maxRecDepth 100000 in
theorem esc_122 (s : Str) (hl : s.length ≤ 1000000) (h1 : 1 < s.length) (hb : s[1] = 122) (w : World) : Calls Try.prog 67 #[.string ⟨s.toArray⟩] w fun e w' => e = .returned (.tuple #[encS ((3, [], 0), 2), .int .i64 (2 : Nat)]) ∧ Fr No w w' := by
  have hix2 : (⟨s.toArray⟩ : ByteArray)[1]'(by simpa [ByteArray.size] using h1) = s[1] := rfl
  have hsl := fun W : World => slice_from (P := Try.prog) W 9 Try.underlying9 s 2 2 rfl h1
  have c0 : ((s[1].toNat : Int) == 92) = false := by rw [hb]; rfl
  have c1 : ((s[1].toNat : Int) == 114) = false := by rw [hb]; rfl
  have c2 : ((s[1].toNat : Int) == 110) = false := by rw [hb]; rfl
  have c3 : ((s[1].toNat : Int) == 116) = false := by rw [hb]; rfl
  have c4 : ((s[1].toNat : Int) == 100) = false := by rw [hb]; rfl
  have c5 : ((s[1].toNat : Int) == 122) = true := by rw [hb]; rfl
  clear hb
  rw [show encS ((3, [], 0), 2) = .iface 132 (.agg #[]) from rfl]
  go_enter Try.func67, Try.ntmps67
  go_wp2
  go_ret2
  exact ⟨rfl, Fr.refl _ _⟩
set_option maxHeartbeats 1000000 in
set_option maxRecDepth 100000 in
theorem esc_119 (s : Str) (hl : s.length ≤ 1000000) (h1 : 1 < s.length) (hb : s[1] = 119) (n : Nat) (hn : numR (s.drop 2) = n) (w : World) : Calls Try.prog 67 #[.string ⟨s.toArray⟩] w fun e w' => e = .returned (.tuple #[encS (if n = 0 then bad else ((2, [], (n : Int)), 4)), .int .i64 (if n = 0 then bad else ((2, [], (n : Int)), 4)).2]) ∧ Fr No w w' := by
  have hix2 : (⟨s.toArray⟩ : ByteArray)[1]'(by simpa [ByteArray.size] using h1) = s[1] := rfl
  have hsl := fun W : World => slice_from (P := Try.prog) W 9 Try.underlying9 s 2 2 rfl h1
  have c0 : ((s[1].toNat : Int) == 92) = false := by rw [hb]; rfl
  have c1 : ((s[1].toNat : Int) == 114) = false := by rw [hb]; rfl
  have c2 : ((s[1].toNat : Int) == 110) = false := by rw [hb]; rfl
  have c3 : ((s[1].toNat : Int) == 116) = false := by rw [hb]; rfl
  have c4 : ((s[1].toNat : Int) == 100) = false := by rw [hb]; rfl
  have c5 : ((s[1].toNat : Int) == 122) = false := by rw [hb]; rfl
  have c6 : ((s[1].toNat : Int) == 119) = true := by rw [hb]; rfl
  have hc := fun W => number_any (s.drop 2) (by simp; omega) W
  rw [hn] at hc
  clear hb hn
  generalize s.drop 2 = r at hsl hc
  cases n with
  | zero =>
    rw [if_pos rfl, show decide (0 < ((0 : Nat) : Int)) = false from rfl] at *
    go_enter Try.func67, Try.ntmps67
    go_wp2_with (go_at_call 78; refine (hc _).mono ?_; rintro e w1 ⟨rfl, hf⟩)
    go_ret2
    exact ⟨rfl, hf⟩
  | succ n =>
    rw [if_neg (by omega)]
    have e1 : decide (0 < ((n + 1 : Nat) : Int)) = true := decide_eq_true (by omega)
    rw [e1] at hc
    rw [show encS ((2, [], ((n + 1 : Nat) : Int)), 4) = .iface 121 (.int .i64 ((n + 1 : Nat) : Int)) from rfl]
    generalize ((n + 1 : Nat) : Int) = m at hc ⊢
    clear e1
    go_enter Try.func67, Try.ntmps67
    go_wp2_with (go_at_call 78; refine (hc _).mono ?_; rintro e w1 ⟨rfl, hf⟩)
    go_ret2
    exact ⟨rfl, hf⟩
theorem conv_send (c : UInt8) (k : Nat) (hk : c.toNat = k) (W : World) (b : Nat) (h1 : W.cell? ⟨b, 0, none⟩ = some (.int .u8 k)) :
    (convert 56 119 (.slice (some ⟨b, 0, none⟩) 1 1)).run Try.prog W = .ok (.string ⟨#[c]⟩) W := by
  refine run_convert_bytes_back W 56 119 5 ⟨b, 0, none⟩ 1 [c] Try.underlying56 Try.underlying5 Try.underlying119 fun j hj => ?_
  have : j = 0 := by simpa using hj
  subst this
  rw [add_zero, h1, ← hk]
  rfl
set_option maxHeartbeats 4000000 in
set_option maxRecDepth 100000 in
theorem esc_120 (s : Str) (hl : s.length ≤ 1000000) (h1 : 1 < s.length) (hb : s[1] = 120) (x : Nat) (c : Int) (hx : readHexR ((s.drop 2).take 2) = (x, c)) (w : World) : Calls Try.prog 67 #[.string ⟨s.toArray⟩] w fun e w' => e = .returned (.tuple #[encS (if c = 0 then ((1, [UInt8.ofNat x], 0), 4) else bad), .int .i64 (if c = 0 then ((1, [UInt8.ofNat x], 0), 4) else bad).2]) ∧ Fr No w w' := by
  have hix2 : (⟨s.toArray⟩ : ByteArray)[1]'(by simpa [ByteArray.size] using h1) = s[1] := rfl
  have hsl := fun W : World => slice_from (P := Try.prog) W 9 Try.underlying9 s 2 2 rfl h1
  have c0 : ((s[1].toNat : Int) == 92) = false := by rw [hb]; rfl
  have c1 : ((s[1].toNat : Int) == 114) = false := by rw [hb]; rfl
  have c2 : ((s[1].toNat : Int) == 110) = false := by rw [hb]; rfl
  have c3 : ((s[1].toNat : Int) == 116) = false := by rw [hb]; rfl
  have c4 : ((s[1].toNat : Int) == 100) = false := by rw [hb]; rfl
  have c5 : ((s[1].toNat : Int) == 122) = false := by rw [hb]; rfl
  have c6 : ((s[1].toNat : Int) == 119) = false := by rw [hb]; rfl
  have c7 : ((s[1].toNat : Int) == 120) = true := by rw [hb]; rfl
  clear hb
  have hrl := readHexR_lt ((s.drop 2).take 2)
  have hc := fun w => readhex_any ((s.drop 2).take 2) (by rw [List.length_take]; unfold maxLen; omega) w
  rw [hx] at hrl hc
  have hx1 : x < 256 := hrl.1
  have hx2 : c = 0 ∨ c = 3 := hrl.2.elim (fun h => .inl h.1) .inr
  clear hx hrl
  have hrl : (s.drop 2).length ≤ 1000000 := by simp; omega
  generalize s.drop 2 = r at hsl hc hrl
  obtain ⟨d, hd⟩ : ∃ d, d = UInt8.ofNat x := ⟨_, rfl⟩
  have hdx : d.toNat = x := by rw [hd, UInt8.toNat_ofNat']; omega
  have hcv := conv_send d x hdx
  simp only [← hd]
  clear hd hdx
  rcases (show 2 < r.length ∨ r.length = 2 ∨ r.length = 1 ∨ r.length = 0 by omega) with h2 | h2 | h2 | h2
  · have hs2 := fun W : World => slice_to (P := Try.prog) W 9 Try.underlying9 r 2 2 rfl (by omega)
    generalize r.take 2 = t at hc hs2
    rcases hx2 with rfl | rfl
    · rw [if_pos rfl, show encS ((1, [d], 0), 4) = .iface 119 (.string ⟨#[d]⟩) from rfl]
      go_enter Try.func67, Try.ntmps67
      go_wp2_with (go_at_call 79; refine (hc _).mono ?_; rintro e w1 ⟨rfl, rfl⟩)
      go_ret2
      exact ⟨rfl, (Fr.refl _ _).alloc _⟩
    · rw [if_neg (by decide), show encS bad = .nilIface from rfl]
      go_enter Try.func67, Try.ntmps67
      go_wp2_with (go_at_call 79; refine (hc _).mono ?_; rintro e w1 ⟨rfl, rfl⟩)
      go_ret2
      exact ⟨rfl, Fr.refl _ _⟩
  · have hs2 := fun W : World => slice_to (P := Try.prog) W 9 Try.underlying9 r 2 2 rfl (by omega)
    rw [List.take_of_length_le (by omega)] at hs2 hc
    rcases hx2 with rfl | rfl
    · rw [if_pos rfl, show encS ((1, [d], 0), 4) = .iface 119 (.string ⟨#[d]⟩) from rfl]
      go_enter Try.func67, Try.ntmps67
      go_wp2_with (go_at_call 79; refine (hc _).mono ?_; rintro e w1 ⟨rfl, rfl⟩)
      go_ret2
      exact ⟨rfl, (Fr.refl _ _).alloc _⟩
    · rw [if_neg (by decide), show encS bad = .nilIface from rfl]
      go_enter Try.func67, Try.ntmps67
      go_wp2_with (go_at_call 79; refine (hc _).mono ?_; rintro e w1 ⟨rfl, rfl⟩)
      go_ret2
      exact ⟨rfl, Fr.refl _ _⟩
  · have hs2 := fun W : World => slice_to (P := Try.prog) W 9 Try.underlying9 r 1 1 rfl (by omega)
    rw [List.take_of_length_le (by omega)] at hs2 hc
    rcases hx2 with rfl | rfl
    · rw [if_pos rfl, show encS ((1, [d], 0), 4) = .iface 119 (.string ⟨#[d]⟩) from rfl]
      go_enter Try.func67, Try.ntmps67
      go_wp2_with (go_at_call 79; refine (hc _).mono ?_; rintro e w1 ⟨rfl, rfl⟩)
      go_ret2
      exact ⟨rfl, (Fr.refl _ _).alloc _⟩
    · rw [if_neg (by decide), show encS bad = .nilIface from rfl]
      go_enter Try.func67, Try.ntmps67
      go_wp2_with (go_at_call 79; refine (hc _).mono ?_; rintro e w1 ⟨rfl, rfl⟩)
      go_ret2
      exact ⟨rfl, Fr.refl _ _⟩
  · have hs2 := fun W : World => slice_to (P := Try.prog) W 9 Try.underlying9 r 0 0 rfl (by omega)
    rw [List.take_of_length_le (by omega)] at hs2 hc
    rcases hx2 with rfl | rfl
    · rw [if_pos rfl, show encS ((1, [d], 0), 4) = .iface 119 (.string ⟨#[d]⟩) from rfl]
      go_enter Try.func67, Try.ntmps67
      go_wp2_with (go_at_call 79; refine (hc _).mono ?_; rintro e w1 ⟨rfl, rfl⟩)
      go_ret2
      exact ⟨rfl, (Fr.refl _ _).alloc _⟩
    · rw [if_neg (by decide), show encS bad = .nilIface from rfl]
      go_enter Try.func67, Try.ntmps67
      go_wp2_with (go_at_call 79; refine (hc _).mono ?_; rintro e w1 ⟨rfl, rfl⟩)
      go_ret2
      exact ⟨rfl, Fr.refl _ _⟩
set_option maxHeartbeats 1000000 in
set_option maxRecDepth 100000 in
theorem esc_no (s : Str) (hl : s.length ≤ 1000000) (h1 : 1 < s.length) (g0 : ¬ s[1] = 92) (g1 : ¬ s[1] = 114) (g2 : ¬ s[1] = 110) (g3 : ¬ s[1] = 116) (g4 : ¬ s[1] = 100) (g5 : ¬ s[1] = 122) (g6 : ¬ s[1] = 119) (g7 : ¬ s[1] = 120) (w : World) : Calls Try.prog 67 #[.string ⟨s.toArray⟩] w fun e w' => e = .returned (.tuple #[encS bad, .int .i64 bad.2]) ∧ Fr No w w' := by
  have hix2 : (⟨s.toArray⟩ : ByteArray)[1]'(by simpa [ByteArray.size] using h1) = s[1] := rfl
  have hsl := fun W : World => slice_from (P := Try.prog) W 9 Try.underlying9 s 2 2 rfl h1
  have c0 : ((s[1].toNat : Int) == 92) = false := (u8_f (d := 92) rfl g0).1
  have c1 : ((s[1].toNat : Int) == 114) = false := (u8_f (d := 114) rfl g1).1
  have c2 : ((s[1].toNat : Int) == 110) = false := (u8_f (d := 110) rfl g2).1
  have c3 : ((s[1].toNat : Int) == 116) = false := (u8_f (d := 116) rfl g3).1
  have c4 : ((s[1].toNat : Int) == 100) = false := (u8_f (d := 100) rfl g4).1
  have c5 : ((s[1].toNat : Int) == 122) = false := (u8_f (d := 122) rfl g5).1
  have c6 : ((s[1].toNat : Int) == 119) = false := (u8_f (d := 119) rfl g6).1
  have c7 : ((s[1].toNat : Int) == 120) = false := (u8_f (d := 120) rfl g7).1
  clear g0 g1 g2 g3 g4 g5 g6 g7
  rw [show encS bad = .nilIface from rfl]
  go_enter Try.func67, Try.ntmps67
  go_wp2
  go_ret2
  exact ⟨rfl, Fr.refl _ _⟩
theorem escaped_any (s : Str) (hs : ∃ t, s = 92 :: t) (hl : s.length ≤ 1000000) (w : World) : Calls Try.prog 67 #[.string ⟨s.toArray⟩] w fun e w' => e = .returned (.tuple #[encS (stepR s), .int .i64 (stepR s).2]) ∧ Fr No w w' := by
  obtain ⟨t, rfl⟩ := hs
  match t, hl with
  | [], hl =>
    rw [show encS (stepR [92]) = .nilIface from rfl, show (stepR [92]).2 = 0 from rfl]
    go_enter Try.func67, Try.ntmps67
    go_wp2
    go_ret2
    exact ⟨rfl, Fr.refl _ _⟩
  | d :: r, hl =>
    have h1 : 1 < (92 :: d :: r).length := by simp
    have e : stepR (92 :: d :: r) = escR d r := rfl
    rw [e]
    by_cases g0 : d = 92
    · have e2 : escR d r = ((1, [92], 0), 2) := by unfold escR; rw [if_pos g0]
      rw [e2]
      exact esc_92 _ hl h1 g0 w
    by_cases g1 : d = 114
    · have e2 : escR d r = ((1, [13], 0), 2) := by unfold escR; rw [if_neg g0]; rw [if_pos g1]
      rw [e2]
      exact esc_114 _ hl h1 g1 w
    by_cases g2 : d = 110
    · have e2 : escR d r = ((1, [10], 0), 2) := by unfold escR; rw [if_neg g0]; rw [if_neg g1]; rw [if_pos g2]
      rw [e2]
      exact esc_110 _ hl h1 g2 w
    by_cases g3 : d = 116
    · have e2 : escR d r = ((1, [9], 0), 2) := by unfold escR; rw [if_neg g0]; rw [if_neg g1]; rw [if_neg g2]; rw [if_pos g3]
      rw [e2]
      exact esc_116 _ hl h1 g3 w
    by_cases g4 : d = 100
    · have e2 : escR d r = ((2, [], 1), 2) := by unfold escR; rw [if_neg g0]; rw [if_neg g1]; rw [if_neg g2]; rw [if_neg g3]; rw [if_pos g4]
      rw [e2]
      exact esc_100 _ hl h1 g4 w
    by_cases g5 : d = 122
    · have e2 : escR d r = ((3, [], 0), 2) := by unfold escR; rw [if_neg g0]; rw [if_neg g1]; rw [if_neg g2]; rw [if_neg g3]; rw [if_neg g4]; rw [if_pos g5]
      rw [e2]
      exact esc_122 _ hl h1 g5 w
    by_cases g6 : d = 119
    · have e2 : escR d r = if numR r = 0 then bad else ((2, [], (numR r : Nat)), 4) := by unfold escR; rw [if_neg g0]; rw [if_neg g1]; rw [if_neg g2]; rw [if_neg g3]; rw [if_neg g4]; rw [if_neg g5]; rw [if_pos g6]
      rw [e2]
      exact esc_119 _ hl h1 g6 (numR r) rfl w
    by_cases g7 : d = 120
    · have e2 : escR d r = if (readHexR (r.take 2)).2 = 0 then ((1, [UInt8.ofNat (readHexR (r.take 2)).1], 0), 4) else bad := by unfold escR; rw [if_neg g0]; rw [if_neg g1]; rw [if_neg g2]; rw [if_neg g3]; rw [if_neg g4]; rw [if_neg g5]; rw [if_neg g6]; rw [if_pos g7]
      rw [e2]
      exact esc_120 _ hl h1 g7 (readHexR (r.take 2)).1 (readHexR (r.take 2)).2 rfl w
    have e2 : escR d r = bad := by unfold escR; rw [if_neg g0]; rw [if_neg g1]; rw [if_neg g2]; rw [if_neg g3]; rw [if_neg g4]; rw [if_neg g5]; rw [if_neg g6]; rw [if_neg g7]
    rw [e2]
    exact esc_no _ hl h1 g0 g1 g2 g3 g4 g5 g6 g7 w
set_option maxHeartbeats 1000000 in
set_option maxRecDepth 100000 in
theorem one_any (s : Str) (hs : s ≠ []) (hl : s.length ≤ 1000000) (w : World) : Calls Try.prog 51 #[.string ⟨s.toArray⟩] w fun e w' => e = .returned (.tuple #[encS (stepR s), .int .i64 (stepR s).2]) ∧ Fr No w w' := by
  match s, hs, hl with
  | c :: t, _, hl =>
    have hsz' : 1 ≤ (c :: t).length := by simp
    by_cases hc : c = 92
    · subst hc
      have hc0 := Lib.hid (fun W => escaped_any (92 :: t) ⟨t, rfl⟩ hl W)
      have c0 : (((92 : UInt8).toNat : Int) == 92) = true := rfl
      generalize stepR (92 :: t) = p at hc0 ⊢
      obtain ⟨s, hs⟩ : ∃ s, s = 92 :: t := ⟨_, rfl⟩
      have h00 : s.head? = some 92 := by subst hs; rfl
      rw [← hs] at hc0 hl hsz' ⊢
      clear hs
      have hix : (⟨s.toArray⟩ : ByteArray)[0]'(by simp [ByteArray.size]; omega) = 92 := head_ix h00 _
      go_enter Try.func51, Try.ntmps51
      go_wp2_with fail
      refine (hc0.out _).mono ?_
      rintro e w1 ⟨rfl, hf⟩
      go_wp2
      go_ret2
      exact ⟨rfl, hf⟩
    · have e : stepR (c :: t) = if c.toNat < 32 ∨ 126 < c.toNat then bad else ((1, [c], 0), 1) := by
        show (if c = 92 then _ else _) = _
        rw [if_neg hc]
      rw [e]
      clear e
      have c0 : ((c.toNat : Int) == 92) = false := (u8_f (d := 92) rfl hc).1
      have hsl := fun W : World => slice_to (P := Try.prog) W 9 Try.underlying9 (c :: t) 1 1 rfl hsz'
      rw [show (c :: t).take 1 = [c] from rfl] at hsl
      clear hc
      obtain ⟨s, hs⟩ : ∃ s, s = c :: t := ⟨_, rfl⟩
      have h00 : s.head? = some c := by subst hs; rfl
      rw [← hs] at hsl hl hsz' ⊢
      clear hs
      have hix : (⟨s.toArray⟩ : ByteArray)[0]'(by simp [ByteArray.size]; omega) = c := head_ix h00 _
      by_cases h1 : c.toNat < 32
      · rw [if_pos (.inl h1), show encS bad = .nilIface from rfl]
        go_enter Try.func51, Try.ntmps51
        go_wp2
        go_ret2
        exact ⟨rfl, Fr.refl _ _⟩
      · by_cases h2 : 126 < c.toNat
        · rw [if_pos (.inr h2), show encS bad = .nilIface from rfl]
          go_enter Try.func51, Try.ntmps51
          go_wp2
          go_ret2
          exact ⟨rfl, Fr.refl _ _⟩
        · rw [if_neg (by omega), show encS ((1, [c], 0), 1) = .iface 119 (.string ⟨#[c]⟩) from rfl]
          go_enter Try.func51, Try.ntmps51
          go_wp2
          go_ret2
          exact ⟨rfl, Fr.refl _ _⟩
end Brk
end Go.Proofs.Ytnfkkonmhinlcaa
