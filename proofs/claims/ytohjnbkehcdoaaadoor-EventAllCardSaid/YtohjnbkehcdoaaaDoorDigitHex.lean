/- Package digit: bytes as two digits. -/
import Derived.Test.YtohjnbkehcdoaaaDoorDigitRead2
namespace Go.Proofs.YtohjnbkehcdoaaaDoor
open Go.RowKit
set_option linter.unusedVariables false
set_option linter.unusedSimpArgs false
namespace Digit
def hexR (m : Nat) : Str := [hx (m / 16), hx (m % 16)]
theorem half_any (n : Nat) (hn : n < 16) (w : World) : Calls Tryd.prog 58 #[.int .u8 n] w fun e w' => e = .returned (.int .u8 (hx n).toNat) ∧ w = w' := by
  by_cases h : n < 10
  · have e : (hx n).toNat = 48 + n := by rw [hx_dec n h]; exact (digit_of h).2
    rw [e]
    go_enter Tryd.func58, Tryd.ntmps58
    go_wp2
    go_ret
    exact ⟨rfl, rfl⟩
  · have e : (hx n).toNat = 87 + n := by
      have : ∀ k : Fin 16, 10 ≤ k.val → (hx k).toNat = 87 + k := by decide
      exact this ⟨n, hn⟩ (by show 10 ≤ n; omega)
    rw [e]
    go_enter Tryd.func58, Tryd.ntmps58
    go_wp2
    go_ret
    refine ⟨?_, rfl⟩
    show Ending.returned (.int .u8 _) = _
    rw [show (97 + (n : Int) - 10) = ((87 + n : Nat) : Int) by omega]
theorem conv_lit (w : World) (l : Str) (cs : Array Value) (h : cs.toList = l.map encB) (n : Nat) (hn : n = l.length) :
    (convert 75 9 (.slice (some ⟨w.heap.size, 0, none⟩) n n)).run Tryd.prog (w.alloc (.cells cs 5)) = .ok (.string ⟨l.toArray⟩) (w.alloc (.cells cs 5)) := by
  subst hn
  refine run_convert_bytes_back _ 75 9 5 ⟨w.heap.size, 0, none⟩ l.length l Tryd.underlying75 Tryd.underlying5 Tryd.underlying9 fun j hj => ?_
  refine cell_lit w cs 5 j _ ?_
  rw [h]
  simp [hj, encB]
theorem hex_any (m : Nat) (hm : m < 256) (w : World) : Calls Tryd.prog 52 #[.int .u8 m] w fun e w' => e = .returned (.string ⟨(hexR m).toArray⟩) ∧ Fr No w w' := by
  have c1 := fun w => half_any (m / 16) (by omega) w
  have c2 := fun w => half_any (m % 16) (by omega) w
  rw [show ((m / 16 : Nat) : Int) = (m : Int) / 16 by omega] at c1
  rw [show ((m % 16 : Nat) : Int) = (m : Int) % 16 by omega] at c2
  unfold hexR
  obtain ⟨a, ha⟩ : ∃ a, a = hx (m / 16) := ⟨_, rfl⟩
  obtain ⟨b, hb⟩ : ∃ b, b = hx (m % 16) := ⟨_, rfl⟩
  rw [← ha] at c1 ⊢
  rw [← hb] at c2 ⊢
  clear ha hb
  go_enter Tryd.func52, Tryd.ntmps52
  have hcv := conv_lit w [a, b] #[.int .u8 a.toNat, .int .u8 b.toNat] rfl 2 rfl
  go_wp2_with (first
    | (go_at_call 58; with_reducible refine (c1 _).mono ?_; rintro e w1 ⟨rfl, rfl⟩)
    | (go_at_call 58; with_reducible refine (c2 _).mono ?_; rintro e w1 ⟨rfl, rfl⟩))
  go_ret
  exact ⟨rfl, (Fr.refl _ _).alloc _⟩
/-- What a digit's sign is worth. -/
def wv (c : UInt8) : Option Nat := if 48 ≤ c.toNat ∧ c.toNat ≤ 57 then some (c.toNat - 48) else if 97 ≤ c.toNat ∧ c.toNat ≤ 102 then some (c.toNat - 87) else none
theorem worth_any (c : UInt8) (w : World) : Calls Tryd.prog 59 #[.int .u8 c.toNat] w fun e w' => e = .returned (.tuple #[.int .u8 (((wv c).getD 0 : Nat) : Int), .bool (wv c).isSome]) ∧ w = w' := by
  have hc := c.toNat_lt
  by_cases h1 : 48 ≤ c.toNat ∧ c.toNat ≤ 57
  · have e : wv c = some (c.toNat - 48) := if_pos h1
    obtain ⟨d, hd⟩ : ∃ d, c.toNat = 48 + d := ⟨c.toNat - 48, by omega⟩
    rw [e, hd]
    rw [hd] at h1 hc
    obtain ⟨h1, h2⟩ := h1
    clear e hd
    go_enter Tryd.func59, Tryd.ntmps59
    go_wp2
    go_ret2
    refine ⟨?_, rfl⟩
    show Ending.returned (.tuple #[.int .u8 (48 + (d : Int) - 48), _]) = _
    rw [show (48 + (d : Int) - 48) = ((48 + d - 48 : Nat) : Int) by omega]
    rfl
  · by_cases h2 : 97 ≤ c.toNat ∧ c.toNat ≤ 102
    · have e : wv c = some (c.toNat - 87) := by unfold wv; rw [if_neg h1, if_pos h2]
      obtain ⟨d, hd⟩ : ∃ d, c.toNat = 97 + d := ⟨c.toNat - 97, by omega⟩
      rw [e, hd]
      rw [hd] at h1 h2 hc
      obtain ⟨h2, h3⟩ := h2
      clear e hd
      go_enter Tryd.func59, Tryd.ntmps59
      go_wp2
      go_ret2
      refine ⟨?_, rfl⟩
      show Ending.returned (.tuple #[.int .u8 (97 + (d : Int) - 97 + 10), _]) = _
      rw [show (97 + (d : Int) - 97 + 10) = ((97 + d - 87 : Nat) : Int) by omega]
      rfl
    · have e : wv c = none := by unfold wv; rw [if_neg h1, if_neg h2]
      rw [e]
      by_cases g1 : c.toNat < 48
      · go_enter Tryd.func59, Tryd.ntmps59
        go_wp2
        go_ret2
        exact ⟨rfl, rfl⟩
      · by_cases g2 : c.toNat < 97
        · have g3 : 57 < c.toNat := by omega
          go_enter Tryd.func59, Tryd.ntmps59
          go_wp2
          go_ret2
          exact ⟨rfl, rfl⟩
        · have g3 : 102 < c.toNat := by omega
          go_enter Tryd.func59, Tryd.ntmps59
          go_wp2
          go_ret2
          exact ⟨rfl, rfl⟩
set_option maxRecDepth 100000 in
theorem wv_hx (c : UInt8) : ∀ n, wv c = some n → hx n = c ∧ n < 16 := by
  have : ∀ k : Fin 256, ∀ n, wv (UInt8.ofNat k) = some n → hx n = UInt8.ofNat k ∧ n < 16 := by
    intro k n h
    have hd : ∀ k : Fin 256, (match wv (UInt8.ofNat k) with | some n => decide (hx n = UInt8.ofNat k ∧ n < 16) | none => true) = true := by decide
    have := hd k
    rw [h] at this
    simpa using this
  have h2 := this ⟨c.toNat, c.toNat_lt⟩
  simpa using h2
def readHexR (s : Str) : Nat × Int := match s with
  | [a, b] => (match wv a, wv b with | some x, some y => (16 * x + y, 0) | _, _ => (0, 3))
  | _ => (0, 3)
set_option maxRecDepth 100000 in
theorem readHex_hex (m : Nat) (hm : m < 256) : readHexR (hexR m) = (m, 0) := by
  have : ∀ k : Fin 256, readHexR (hexR k) = (k.val, 0) := by decide
  exact this ⟨m, hm⟩
theorem readHex_cases (s : Str) : readHexR s = (0, 3) ∨ ∃ m, m < 256 ∧ s = hexR m := by
  unfold readHexR
  split
  · rename_i a b
    cases ha : wv a with
    | none => exact .inl (by simp)
    | some x =>
      cases hb : wv b with
      | none => exact .inl (by simp)
      | some y =>
        obtain ⟨h1, h2⟩ := wv_hx a x ha
        obtain ⟨h3, h4⟩ := wv_hx b y hb
        refine .inr ⟨16 * x + y, by omega, ?_⟩
        unfold hexR
        rw [show (16 * x + y) / 16 = x by omega, show (16 * x + y) % 16 = y by omega, h1, h3]
  · exact .inl rfl
theorem bits_or {x y : Nat} (hx : x < 16) (hy : y < 16) : bits BinOp.or IntKind.u8 ((x : Int) * 16) y = ((16 * x + y : Nat) : Int) := by
  have : ∀ x y : Fin 16, bits BinOp.or IntKind.u8 ((x.val : Int) * 16) y.val = ((16 * x.val + y.val : Nat) : Int) := by decide
  exact this ⟨x, hx⟩ ⟨y, hy⟩
set_option maxHeartbeats 1000000 in
theorem readhex_any (s : Str) (hl : s.length ≤ maxLen) (w : World) : Calls Tryd.prog 54 #[.string ⟨s.toArray⟩] w fun e w' => e = .returned (.tuple #[.int .u8 (readHexR s).1, .int .i64 (readHexR s).2]) ∧ w = w' := by
  unfold maxLen at hl
  by_cases h2 : s.length = 2
  · obtain ⟨a, b, rfl⟩ : ∃ a b, s = [a, b] := by
      match s, h2 with
      | [a, b], _ => exact ⟨a, b, rfl⟩
    have c1 := fun w => worth_any a w
    have c2 := fun w => worth_any b w
    have hix0 : (⟨#[a, b]⟩ : ByteArray)[0]'(by simp [ByteArray.size]) = a := rfl
    have hix1 : (⟨#[a, b]⟩ : ByteArray)[1]'(by simp [ByteArray.size]) = b := rfl
    have hr : readHexR [a, b] = (match wv a, wv b with | some x, some y => (16 * x + y, 0) | _, _ => (0, 3)) := rfl
    rw [hr]
    have w1 := wv_hx a
    have w2 := wv_hx b
    clear hr hl h2
    generalize wv a = o1 at c1 w1 ⊢
    generalize wv b = o2 at c2 w2 ⊢
    cases o1 with
    | none =>
      go_enter Tryd.func54, Tryd.ntmps54
      go_wp2_with (first
        | (go_at_call 59; with_reducible refine (c1 _).mono ?_; rintro e w1 ⟨rfl, rfl⟩)
        | (go_at_call 59; with_reducible refine (c2 _).mono ?_; rintro e w1 ⟨rfl, rfl⟩))
      go_ret2
      exact ⟨rfl, rfl⟩
    | some x =>
      cases o2 with
      | none =>
        go_enter Tryd.func54, Tryd.ntmps54
        go_wp2_with (first
          | (go_at_call 59; with_reducible refine (c1 _).mono ?_; rintro e w1 ⟨rfl, rfl⟩)
          | (go_at_call 59; with_reducible refine (c2 _).mono ?_; rintro e w1 ⟨rfl, rfl⟩))
        go_ret2
        exact ⟨rfl, rfl⟩
      | some y =>
        have hx16 := (w1 x rfl).2
        have hy16 := (w2 y rfl).2
        clear w1 w2
        go_enter Tryd.func54, Tryd.ntmps54
        go_wp2_with (first
          | (go_at_call 59; with_reducible refine (c1 _).mono ?_; rintro e w1 ⟨rfl, rfl⟩)
          | (go_at_call 59; with_reducible refine (c2 _).mono ?_; rintro e w1 ⟨rfl, rfl⟩))
        go_ret2
        refine ⟨?_, rfl⟩
        show Ending.returned (.tuple #[.int .u8 (bits BinOp.or IntKind.u8 ((x : Int) * 16) y), _]) = _
        rw [bits_or hx16 hy16]
        rfl
  · have hr : readHexR s = (0, 3) := by
      unfold readHexR
      split
      · simp at h2
      · rfl
    have hb : ((s.length : Int) != 2) = true := by simp; omega
    rw [hr]
    clear hr
    go_enter Tryd.func54, Tryd.ntmps54
    go_wp2
    go_ret2
    exact ⟨rfl, rfl⟩
theorem rhex_any (m : Nat) (hm : m < 256) (w : World) : Calls Tryd.prog 53 #[.int .u8 m] w fun e w' => e = .returned (.string ⟨(hexR m).toArray⟩) ∧ w = w' := by
  have c1 := fun w => rdig_any (m / 16) (by omega) w
  have c2 := fun w => rdig_any (m % 16) (by omega) w
  rw [show ((m / 16 : Nat) : Int) = (m : Int) / 16 by omega] at c1
  rw [show ((m % 16 : Nat) : Int) = (m : Int) % 16 by omega] at c2
  unfold hexR
  obtain ⟨a, ha⟩ : ∃ a, a = hx (m / 16) := ⟨_, rfl⟩
  obtain ⟨b, hb⟩ : ∃ b, b = hx (m % 16) := ⟨_, rfl⟩
  rw [← ha] at c1 ⊢
  rw [← hb] at c2 ⊢
  clear ha hb
  go_enter Tryd.func53, Tryd.ntmps53
  go_wp2_with (first
    | (go_at_call 44; with_reducible refine (c1 _).mono ?_; rintro e w1 ⟨rfl, rfl⟩)
    | (go_at_call 44; with_reducible refine (c2 _).mono ?_; rintro e w1 ⟨rfl, rfl⟩))
  go_ret
  exact ⟨rfl, rfl⟩
end Digit
end Go.Proofs.YtohjnbkehcdoaaaDoor
