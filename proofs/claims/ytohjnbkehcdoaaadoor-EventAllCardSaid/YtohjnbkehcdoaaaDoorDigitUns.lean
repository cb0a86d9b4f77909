/- Package digit: the bytes of signs. -/
import Derived.Test.YtohjnbkehcdoaaaDoorDigitShow
namespace Go.Proofs.YtohjnbkehcdoaaaDoor
open Go.RowKit
set_option linter.unusedVariables false
set_option linter.unusedSimpArgs false
/-- 's[i:]' of a text. -/
theorem slice_from {P : Program} (w : World) (T : TypeId) (hT : P.underlying T = some .string) (s : Str) (i : Int) (a : Nat) (hi : i = a) (h : a ≤ s.length) :
    (Instr.slice T (.string ⟨s.toArray⟩) (some (.int .i64 i)) none none).run P w = .ok (.string ⟨(s.drop a).toArray⟩) w := by
  rw [run_slice_string_from_if w T ⟨s.toArray⟩ .i64 i hT, if_pos ⟨by omega, by rw [hi]; show (a : Int) ≤ ((s.toArray.size : Nat) : Int); simp; omega⟩]
  have e : (⟨s.toArray⟩ : ByteArray).size = s.length := by simp [ByteArray.size]
  rw [e, ByteArray.extract_mk, show i.toNat = a by omega]
  simp
  rw [List.take_of_length_le (by simp)]
/-- 's[:j]' of a text. -/
theorem slice_to {P : Program} (w : World) (T : TypeId) (hT : P.underlying T = some .string) (s : Str) (i : Int) (a : Nat) (hi : i = a) (h : a ≤ s.length) :
    (Instr.slice T (.string ⟨s.toArray⟩) none (some (.int .i64 i)) none).run P w = .ok (.string ⟨(s.take a).toArray⟩) w := by
  rw [run_slice_string_to_if w T ⟨s.toArray⟩ .i64 i hT, if_pos ⟨by omega, by rw [hi]; show (a : Int) ≤ ((s.toArray.size : Nat) : Int); simp; omega⟩]
  rw [ByteArray.extract_mk, show i.toNat = a by omega]
  simp
namespace Digit
def oneR : Str → UInt8 × Nat
  | [] => (0, 0)
  | a :: t => if a ≠ 92 then (a, 1) else
    match t with
    | [] => (0, 0)
    | b :: r => if b = 92 then (92, 2) else if b = 110 then (10, 2) else if b = 114 then (13, 2) else if b = 116 then (9, 2)
      else if b = 120 then (if (readHexR (r.take 2)).2 ≠ 0 then (0, 0) else (UInt8.ofNat (readHexR (r.take 2)).1, 4)) else (0, 0)
theorem readHexR_lt (s : Str) : (readHexR s).1 < 256 ∧ ((readHexR s).2 = 0 ∧ s.length = 2 ∨ (readHexR s).2 = 3) := by
  rcases readHex_cases s with h | ⟨m, hm, h⟩
  · rw [h]; exact ⟨by decide, .inr rfl⟩
  · rw [h, readHex_hex m hm]; exact ⟨hm, .inl ⟨rfl, rfl⟩⟩
theorem one_le (s : Str) : (oneR s).2 ≤ s.length := by
  unfold oneR
  split
  · simp
  · split
    · simp
    · split
      · simp
      · rename_i r
        have := (readHexR_lt (r.take 2)).2
        repeat' split
        all_goals simp at *
        omega
theorem one_sign (c : UInt8) (t : Str) : oneR (signR c ++ t) = (c, (signR c).length) := by
  by_cases h92 : c = 92
  · subst h92; rfl
  by_cases h10 : c = 10
  · subst h10; rfl
  by_cases h13 : c = 13
  · subst h13; rfl
  by_cases h9 : c = 9
  · subst h9; rfl
  have hs : signR c = if c.toNat < 32 ∨ 126 < c.toNat then 92 :: 120 :: hexR c.toNat else [c] := by unfold signR; rw [if_neg h92, if_neg h10, if_neg h13, if_neg h9]
  by_cases g : c.toNat < 32 ∨ 126 < c.toNat
  · rw [if_pos g] at hs
    rw [hs]
    have e : oneR (92 :: 120 :: hexR c.toNat ++ t) = if (readHexR ((hexR c.toNat ++ t).take 2)).2 ≠ 0 then (0, 0) else (UInt8.ofNat (readHexR ((hexR c.toNat ++ t).take 2)).1, 4) := rfl
    have e2 : (hexR c.toNat ++ t).take 2 = hexR c.toNat := rfl
    rw [e, e2, readHex_hex _ c.toNat_lt]
    simp [hexR]
  · rw [if_neg g] at hs
    rw [hs]
    show (if c ≠ 92 then (c, 1) else _) = _
    rw [if_pos h92]
    rfl
def uns : Nat → Str → Option Str
  | 0, s => if s = [] then some [] else none
  | f + 1, s => if s = [] then some [] else if (oneR s).2 = 0 ∨ signR (oneR s).1 ≠ s.take (oneR s).2 then none else (uns f (s.drop (oneR s).2)).map ((oneR s).1 :: ·)
theorem uns_fuel (f : Nat) : ∀ g s, s.length ≤ f → s.length ≤ g → uns f s = uns g s := by
  induction f with
  | zero =>
    intro g s h1 h2
    have : s = [] := List.eq_nil_of_length_eq_zero (by omega)
    subst this
    cases g <;> rfl
  | succ f ih =>
    intro g s h1 h2
    by_cases hs : s = []
    · subst hs; cases g <;> rfl
    · cases g with
      | zero => exact absurd (List.eq_nil_of_length_eq_zero (by omega)) hs
      | succ g =>
        unfold uns
        rw [if_neg hs, if_neg hs]
        split
        · rfl
        · rename_i hc
          have : (oneR s).2 ≠ 0 := fun e => hc (.inl e)
          rw [ih g (s.drop (oneR s).2) (by simp; omega) (by simp; omega)]
def unsR (s : Str) : Option Str := uns s.length s
theorem sign_ne (c : UInt8) (t : Str) : signR c ++ t ≠ [] := by
  have := (sign_len c).1
  intro h
  have h2 := congrArg List.length h
  rw [List.length_append] at h2
  simp only [List.length_nil] at h2
  omega
theorem unsR_sign (c : UInt8) (t : Str) : unsR (signR c ++ t) = (unsR t).map (c :: ·) := by
  unfold unsR
  have hl := (sign_len c).1
  obtain ⟨f, hf⟩ : ∃ f, (signR c ++ t).length = f + 1 := ⟨(signR c ++ t).length - 1, by simp; omega⟩
  rw [hf, uns, if_neg (sign_ne c t), one_sign]
  simp only
  rw [if_neg, List.drop_left, uns_fuel f t.length t (by simp at hf; omega) (Nat.le_refl _)]
  rintro (h | h)
  · omega
  · exact h (List.take_left).symm
theorem unsR_bad {s : Str} (h : s ≠ []) (hb : ∀ c t, s ≠ signR c ++ t) : unsR s = none := by
  unfold unsR
  cases hl : s.length with
  | zero => exact absurd (List.eq_nil_of_length_eq_zero hl) h
  | succ f =>
    rw [uns, if_neg h, if_pos]
    by_cases h0 : (oneR s).2 = 0
    · exact .inl h0
    · right
      intro e
      exact hb (oneR s).1 (s.drop (oneR s).2) (by rw [e, List.take_append_drop])
theorem unsR_show (s : Str) : unsR (showR s) = some s := by
  induction s with
  | nil => rfl
  | cons c s ih =>
    have e : showR (c :: s) = signR c ++ showR s := rfl
    rw [e, unsR_sign, ih]; rfl
theorem show_uns (n : Nat) : ∀ t c, t.length ≤ n → unsR t = some c → showR c = t := by
  induction n with
  | zero =>
    intro t c h hu
    have : t = [] := List.eq_nil_of_length_eq_zero (by omega)
    subst this
    have : some c = some [] := hu.symm
    injection this with this
    subst this; rfl
  | succ n ih =>
    intro t c h hu
    by_cases ht : t = []
    · subst ht
      have : some c = some [] := hu.symm
      injection this with this
      subst this; rfl
    · by_cases hx : ∃ d r, t = signR d ++ r
      · obtain ⟨d, r, rfl⟩ := hx
        rw [unsR_sign] at hu
        cases hr : unsR r with
        | none => rw [hr] at hu; cases hu
        | some q =>
          rw [hr] at hu
          injection hu with hu
          subst hu
          have hl := (sign_len d).1
          have := ih r q (by simp at h; omega) hr
          show signR d ++ showR q = _
          rw [this]
      · rw [unsR_bad ht (fun d r e => hx ⟨d, r, e⟩)] at hu
        cases hu
set_option maxHeartbeats 1000000 in
set_option maxRecDepth 100000 in
theorem one_92 (s : Str) (hl : s.length ≤ 1000000) (h1 : 1 < s.length) (hz : s[0] = 92) (hb : s[1] = 92) (hr : oneR s = (92, 2)) (w : World) : Calls Tryd.prog 47 #[.string ⟨s.toArray⟩] w fun e w' => e = .returned (.tuple #[.int .u8 (oneR s).1.toNat, .int .i64 (oneR s).2]) ∧ w = w' := by
  have hix : (⟨s.toArray⟩ : ByteArray)[0]'(by simp [ByteArray.size]; omega) = s[0] := rfl
  have hix2 : (⟨s.toArray⟩ : ByteArray)[1]'(by simpa [ByteArray.size] using h1) = s[1] := rfl
  have c0 : ((s[0].toNat : Int) != 92) = false := by rw [hz]; rfl
  have c1 : ((s[1].toNat : Int) == 92) = true := by rw [hb]; rfl
  rw [hr]
  clear hr hb hz
  go_enter Tryd.func47, Tryd.ntmps47
  go_wp2
  go_ret2
  exact ⟨rfl, rfl⟩
set_option maxHeartbeats 1000000 in
set_option maxRecDepth 100000 in
theorem one_110 (s : Str) (hl : s.length ≤ 1000000) (h1 : 1 < s.length) (hz : s[0] = 92) (hb : s[1] = 110) (hr : oneR s = (10, 2)) (w : World) : Calls Tryd.prog 47 #[.string ⟨s.toArray⟩] w fun e w' => e = .returned (.tuple #[.int .u8 (oneR s).1.toNat, .int .i64 (oneR s).2]) ∧ w = w' := by
  have hix : (⟨s.toArray⟩ : ByteArray)[0]'(by simp [ByteArray.size]; omega) = s[0] := rfl
  have hix2 : (⟨s.toArray⟩ : ByteArray)[1]'(by simpa [ByteArray.size] using h1) = s[1] := rfl
  have c0 : ((s[0].toNat : Int) != 92) = false := by rw [hz]; rfl
  have c1 : ((s[1].toNat : Int) == 92) = false := by rw [hb]; rfl
  have c2 : ((s[1].toNat : Int) == 110) = true := by rw [hb]; rfl
  rw [hr]
  clear hr hb hz
  go_enter Tryd.func47, Tryd.ntmps47
  go_wp2
  go_ret2
  exact ⟨rfl, rfl⟩
set_option maxHeartbeats 1000000 in
set_option maxRecDepth 100000 in
theorem one_114 (s : Str) (hl : s.length ≤ 1000000) (h1 : 1 < s.length) (hz : s[0] = 92) (hb : s[1] = 114) (hr : oneR s = (13, 2)) (w : World) : Calls Tryd.prog 47 #[.string ⟨s.toArray⟩] w fun e w' => e = .returned (.tuple #[.int .u8 (oneR s).1.toNat, .int .i64 (oneR s).2]) ∧ w = w' := by
  have hix : (⟨s.toArray⟩ : ByteArray)[0]'(by simp [ByteArray.size]; omega) = s[0] := rfl
  have hix2 : (⟨s.toArray⟩ : ByteArray)[1]'(by simpa [ByteArray.size] using h1) = s[1] := rfl
  have c0 : ((s[0].toNat : Int) != 92) = false := by rw [hz]; rfl
  have c1 : ((s[1].toNat : Int) == 92) = false := by rw [hb]; rfl
  have c2 : ((s[1].toNat : Int) == 110) = false := by rw [hb]; rfl
  have c3 : ((s[1].toNat : Int) == 114) = true := by rw [hb]; rfl
  rw [hr]
  clear hr hb hz
  go_enter Tryd.func47, Tryd.ntmps47
  go_wp2
  go_ret2
  exact ⟨rfl, rfl⟩
set_option maxHeartbeats 1000000 in
set_option maxRecDepth 100000 in
theorem one_116 (s : Str) (hl : s.length ≤ 1000000) (h1 : 1 < s.length) (hz : s[0] = 92) (hb : s[1] = 116) (hr : oneR s = (9, 2)) (w : World) : Calls Tryd.prog 47 #[.string ⟨s.toArray⟩] w fun e w' => e = .returned (.tuple #[.int .u8 (oneR s).1.toNat, .int .i64 (oneR s).2]) ∧ w = w' := by
  have hix : (⟨s.toArray⟩ : ByteArray)[0]'(by simp [ByteArray.size]; omega) = s[0] := rfl
  have hix2 : (⟨s.toArray⟩ : ByteArray)[1]'(by simpa [ByteArray.size] using h1) = s[1] := rfl
  have c0 : ((s[0].toNat : Int) != 92) = false := by rw [hz]; rfl
  have c1 : ((s[1].toNat : Int) == 92) = false := by rw [hb]; rfl
  have c2 : ((s[1].toNat : Int) == 110) = false := by rw [hb]; rfl
  have c3 : ((s[1].toNat : Int) == 114) = false := by rw [hb]; rfl
  have c4 : ((s[1].toNat : Int) == 116) = true := by rw [hb]; rfl
  rw [hr]
  clear hr hb hz
  go_enter Tryd.func47, Tryd.ntmps47
  go_wp2
  go_ret2
  exact ⟨rfl, rfl⟩
set_option maxHeartbeats 1000000 in
set_option maxRecDepth 100000 in
theorem one_120 (s : Str) (hl : s.length ≤ 1000000) (h1 : 1 < s.length) (hz : s[0] = 92) (hb : s[1] = 120) (x : Nat) (c : Int) (hx : readHexR ((s.drop 2).take 2) = (x, c)) (hr : oneR s = if c ≠ 0 then (0, 0) else (UInt8.ofNat x, 4)) (w : World) : Calls Tryd.prog 47 #[.string ⟨s.toArray⟩] w fun e w' => e = .returned (.tuple #[.int .u8 (oneR s).1.toNat, .int .i64 (oneR s).2]) ∧ w = w' := by
  have hix : (⟨s.toArray⟩ : ByteArray)[0]'(by simp [ByteArray.size]; omega) = s[0] := rfl
  have hix2 : (⟨s.toArray⟩ : ByteArray)[1]'(by simpa [ByteArray.size] using h1) = s[1] := rfl
  have c0 : ((s[0].toNat : Int) != 92) = false := by rw [hz]; rfl
  have c1 : ((s[1].toNat : Int) == 92) = false := by rw [hb]; rfl
  have c2 : ((s[1].toNat : Int) == 110) = false := by rw [hb]; rfl
  have c3 : ((s[1].toNat : Int) == 114) = false := by rw [hb]; rfl
  have c4 : ((s[1].toNat : Int) == 116) = false := by rw [hb]; rfl
  have c5 : ((s[1].toNat : Int) == 120) = true := by rw [hb]; rfl
  have hrl := readHexR_lt ((s.drop 2).take 2)
  have hc := fun w => readhex_any ((s.drop 2).take 2) (by rw [List.length_take]; unfold maxLen; omega) w
  rw [hx] at hrl hc
  have hx1 : x < 256 := hrl.1
  have hx2 : c = 0 ∨ c = 3 := hrl.2.elim (fun h => .inl h.1) .inr
  clear hx hrl hb hz
  obtain ⟨m, hm, hm2⟩ : ∃ m, m = min s.length 4 ∧ 2 ≤ m := ⟨_, rfl, by omega⟩
  have hsl := fun W : World => slice_str (P := Tryd.prog) W 9 Tryd.underlying9 s 2 (m : Int) 2 m rfl rfl hm2 (by omega)
  have e : (s.drop 2).take (m - 2) = (s.drop 2).take 2 := by
    by_cases h4 : 4 ≤ s.length
    · rw [show m - 2 = 2 by omega]
    · rw [List.take_of_length_le (by simp; omega), List.take_of_length_le (by simp; omega)]
  rw [e] at hsl
  obtain ⟨t, ht⟩ : ∃ t, t = (s.drop 2).take 2 := ⟨_, rfl⟩
  rw [← ht] at hsl hc
  clear e ht
  rw [hr]
  clear hr
  by_cases h4 : 4 < s.length
  · obtain rfl : m = 4 := by omega
    rw [show ((4 : Nat) : Int) = 4 from rfl] at hsl
    clear hm
    rcases hx2 with rfl | rfl
    · have hux : (UInt8.ofNat x).toNat = x := by rw [UInt8.toNat_ofNat']; omega
      rw [if_neg (by decide)]
      simp only [hux]
      clear hux
      go_enter Tryd.func47, Tryd.ntmps47
      go_wp2_with (go_at_call 54; refine (hc _).mono ?_; rintro e w1 ⟨rfl, rfl⟩)
      go_ret2
      exact ⟨rfl, rfl⟩
    · rw [if_pos (by decide)]
      go_enter Tryd.func47, Tryd.ntmps47
      go_wp2_with (go_at_call 54; refine (hc _).mono ?_; rintro e w1 ⟨rfl, rfl⟩)
      go_ret2
      exact ⟨rfl, rfl⟩
  · obtain rfl : m = s.length := by omega
    clear hm
    have h4' : s.length ≤ 4 := by omega
    rcases hx2 with rfl | rfl
    · have hux : (UInt8.ofNat x).toNat = x := by rw [UInt8.toNat_ofNat']; omega
      rw [if_neg (by decide)]
      simp only [hux]
      clear hux
      go_enter Tryd.func47, Tryd.ntmps47
      go_wp2_with (go_at_call 54; refine (hc _).mono ?_; rintro e w1 ⟨rfl, rfl⟩)
      go_ret2
      exact ⟨rfl, rfl⟩
    · rw [if_pos (by decide)]
      go_enter Tryd.func47, Tryd.ntmps47
      go_wp2_with (go_at_call 54; refine (hc _).mono ?_; rintro e w1 ⟨rfl, rfl⟩)
      go_ret2
      exact ⟨rfl, rfl⟩
set_option maxHeartbeats 1000000 in
set_option maxRecDepth 100000 in
theorem one_no (s : Str) (hl : s.length ≤ 1000000) (h1 : 1 < s.length) (hz : s[0] = 92) (g1 : ¬ s[1] = 92) (g2 : ¬ s[1] = 110) (g3 : ¬ s[1] = 114) (g4 : ¬ s[1] = 116) (g5 : ¬ s[1] = 120) (hr : oneR s = (0, 0)) (w : World) : Calls Tryd.prog 47 #[.string ⟨s.toArray⟩] w fun e w' => e = .returned (.tuple #[.int .u8 (oneR s).1.toNat, .int .i64 (oneR s).2]) ∧ w = w' := by
  have hix : (⟨s.toArray⟩ : ByteArray)[0]'(by simp [ByteArray.size]; omega) = s[0] := rfl
  have hix2 : (⟨s.toArray⟩ : ByteArray)[1]'(by simpa [ByteArray.size] using h1) = s[1] := rfl
  have c0 : ((s[0].toNat : Int) != 92) = false := by rw [hz]; rfl
  have c1 : ((s[1].toNat : Int) == 92) = false := (u8_f (d := 92) rfl g1).1
  have c2 : ((s[1].toNat : Int) == 110) = false := (u8_f (d := 110) rfl g2).1
  have c3 : ((s[1].toNat : Int) == 114) = false := (u8_f (d := 114) rfl g3).1
  have c4 : ((s[1].toNat : Int) == 116) = false := (u8_f (d := 116) rfl g4).1
  have c5 : ((s[1].toNat : Int) == 120) = false := (u8_f (d := 120) rfl g5).1
  rw [hr]
  clear hr g1 g2 g3 g4 g5 hz
  go_enter Tryd.func47, Tryd.ntmps47
  go_wp2
  go_ret2
  exact ⟨rfl, rfl⟩
set_option maxHeartbeats 1000000 in
theorem one_0 (s : Str) (hl : s.length ≤ 1000000) (h1 : 1 < s.length) (hz : ¬ s[0] = 92) (hr : oneR s = (s[0], 1)) (w : World) : Calls Tryd.prog 47 #[.string ⟨s.toArray⟩] w fun e w' => e = .returned (.tuple #[.int .u8 (oneR s).1.toNat, .int .i64 (oneR s).2]) ∧ w = w' := by
  have hix : (⟨s.toArray⟩ : ByteArray)[0]'(by simp [ByteArray.size]; omega) = s[0] := rfl
  have c0 : ((s[0].toNat : Int) != 92) = true := (u8_f (d := 92) rfl hz).2
  rw [hr]
  clear hr hz
  go_enter Tryd.func47, Tryd.ntmps47
  go_wp2
  go_ret2
  exact ⟨rfl, rfl⟩
theorem one_any (s : Str) (hne : s ≠ []) (hl : s.length ≤ 1000000) (w : World) : Calls Tryd.prog 47 #[.string ⟨s.toArray⟩] w fun e w' => e = .returned (.tuple #[.int .u8 (oneR s).1.toNat, .int .i64 (oneR s).2]) ∧ w = w' := by
  match s, hne, hl with
  | [a], _, hl =>
    have hix : (⟨([a] : Str).toArray⟩ : ByteArray)[0]'(by simp [ByteArray.size]) = a := rfl
    by_cases ha : a = 92
    · subst ha
      rw [show oneR [92] = (0, 0) from rfl]
      clear hix
      go_enter Tryd.func47, Tryd.ntmps47
      go_wp2
      go_ret2
      exact ⟨rfl, rfl⟩
    · have e : oneR [a] = (a, 1) := by show (if a ≠ 92 then (a, 1) else _) = _; rw [if_pos ha]
      rw [e]
      have hc1 : ((a.toNat : Int) != 92) = true := (u8_f (d := 92) rfl ha).2
      clear e ha
      go_enter Tryd.func47, Tryd.ntmps47
      go_wp2
      go_ret2
      exact ⟨rfl, rfl⟩
  | a :: b :: r, _, hl =>
    have h1 : 1 < (a :: b :: r).length := by simp
    by_cases ha : a = 92
    · subst ha
      have e : oneR (92 :: b :: r) = if b = 92 then (92, 2) else if b = 110 then (10, 2) else if b = 114 then (13, 2) else if b = 116 then (9, 2)
        else if b = 120 then (if (readHexR (r.take 2)).2 ≠ 0 then (0, 0) else (UInt8.ofNat (readHexR (r.take 2)).1, 4)) else (0, 0) := rfl
      by_cases g1 : b = 92
      · exact one_92 _ hl h1 rfl g1 (by rw [e, if_pos g1]) w
      by_cases g2 : b = 110
      · exact one_110 _ hl h1 rfl g2 (by rw [e, if_neg g1, if_pos g2]) w
      by_cases g3 : b = 114
      · exact one_114 _ hl h1 rfl g3 (by rw [e, if_neg g1, if_neg g2, if_pos g3]) w
      by_cases g4 : b = 116
      · exact one_116 _ hl h1 rfl g4 (by rw [e, if_neg g1, if_neg g2, if_neg g3, if_pos g4]) w
      by_cases g5 : b = 120
      · exact one_120 _ hl h1 rfl g5 (readHexR (r.take 2)).1 (readHexR (r.take 2)).2 rfl (by rw [e, if_neg g1, if_neg g2, if_neg g3, if_neg g4, if_pos g5]) w
      · exact one_no _ hl h1 rfl g1 g2 g3 g4 g5 (by rw [e, if_neg g1, if_neg g2, if_neg g3, if_neg g4, if_neg g5]) w
    · have e : oneR (a :: b :: r) = (a, 1) := by show (if a ≠ 92 then (a, 1) else _) = _; rw [if_pos ha]
      exact one_0 _ hl h1 ha e w
end Digit
end Go.Proofs.YtohjnbkehcdoaaaDoor
