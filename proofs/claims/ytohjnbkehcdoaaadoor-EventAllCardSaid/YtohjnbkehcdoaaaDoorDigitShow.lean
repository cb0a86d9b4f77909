/- Package digit: bytes as signs that can be seen. -/
import Derived.Test.YtohjnbkehcdoaaaDoorDigitHex
import Derived.Lib.AppendStr
namespace Go.Proofs.YtohjnbkehcdoaaaDoor
open Go.RowKit
set_option linter.unusedVariables false
set_option linter.unusedSimpArgs false
theorem strCells_list (m : Str) : Lib.strCells ⟨m.toArray⟩ = m.map encB := by simp [Lib.strCells, encB]
/-- A row of the call's own, behind block 'base': it grows; nothing ahead of 'base' turns. -/
theorem own_grown {B : Nat} {W w w' : World} {e : TypeId} {size n : Nat} {v : Value} {xs : List Value} (hB : W.heap.size = B) (h : w.ownsRow B e size v n xs) (hf : Fr No W w) (hg : w.grownBy w' v.ownBlock) : Fr No W w' :=
  hf.grown hg fun k hk => .inr (by rw [hB]; exact (h.lt k hk).1)
namespace Digit
def signR (c : UInt8) : Str :=
  if c = 92 then [92, 92] else if c = 10 then [92, 110] else if c = 13 then [92, 114] else if c = 9 then [92, 116]
  else if c.toNat < 32 ∨ 126 < c.toNat then 92 :: 120 :: hexR c.toNat else [c]
theorem sign_len (c : UInt8) : 1 ≤ (signR c).length ∧ (signR c).length ≤ 4 := by
  unfold signR hexR
  repeat' split
  all_goals simp
set_option maxRecDepth 100000 in
theorem shown_any (c : UInt8) (w : World) : Calls Tryd.prog 43 #[.int .u8 c.toNat] w fun e w' => e = .returned (.string ⟨(signR c).toArray⟩) ∧ Fr No w w' := by
  by_cases h92 : c = 92
  · subst h92
    rw [show signR 92 = [92, 92] from rfl]
    go_enter Tryd.func43, Tryd.ntmps43
    go_wp2
    go_ret
    exact ⟨rfl, Fr.refl _ _⟩
  by_cases h10 : c = 10
  · subst h10
    rw [show signR 10 = [92, 110] from rfl]
    go_enter Tryd.func43, Tryd.ntmps43
    go_wp2
    go_ret
    exact ⟨rfl, Fr.refl _ _⟩
  by_cases h13 : c = 13
  · subst h13
    rw [show signR 13 = [92, 114] from rfl]
    go_enter Tryd.func43, Tryd.ntmps43
    go_wp2
    go_ret
    exact ⟨rfl, Fr.refl _ _⟩
  by_cases h9 : c = 9
  · subst h9
    rw [show signR 9 = [92, 116] from rfl]
    go_enter Tryd.func43, Tryd.ntmps43
    go_wp2
    go_ret
    exact ⟨rfl, Fr.refl _ _⟩
  have e92 : ((c.toNat : Int) == 92) = false := (u8_f (d := 92) rfl h92).1
  have e10 : ((c.toNat : Int) == 10) = false := (u8_f (d := 10) rfl h10).1
  have e13 : ((c.toNat : Int) == 13) = false := (u8_f (d := 13) rfl h13).1
  have e9 : ((c.toNat : Int) == 9) = false := (u8_f (d := 9) rfl h9).1
  have hs : signR c = if c.toNat < 32 ∨ 126 < c.toNat then 92 :: 120 :: hexR c.toNat else [c] := by unfold signR; rw [if_neg h92, if_neg h10, if_neg h13, if_neg h9]
  have hh : (hexR c.toNat).length = 2 := rfl
  have hcv := conv_lit w [c] #[.int .u8 c.toNat] rfl 1 rfl
  obtain ⟨q, hq⟩ : ∃ q, q = hexR c.toNat := ⟨_, rfl⟩
  clear h92 h10 h13 h9
  by_cases g1 : c.toNat < 32
  · rw [if_pos (by omega), ← hq] at hs
    rw [← hq] at hh
    have HS := Lib.hid hs
    have HQ := Lib.hid hq
    clear hs hq
    go_enter Tryd.func43, Tryd.ntmps43
    go_wp2_with (go_at_call 52; refine (hex_any c.toNat c.toNat_lt _).mono ?_; rintro e w1 ⟨rfl, hf⟩; rw [← HQ.out]; have Hf := Lib.hid (hf); clear hf)
    go_ret
    rw [HS.out]
    exact ⟨rfl, Hf.out⟩
  by_cases g2 : 126 < c.toNat
  · rw [if_pos (by omega), ← hq] at hs
    rw [← hq] at hh
    have HS := Lib.hid hs
    have HQ := Lib.hid hq
    clear hs hq
    go_enter Tryd.func43, Tryd.ntmps43
    go_wp2_with (go_at_call 52; refine (hex_any c.toNat c.toNat_lt _).mono ?_; rintro e w1 ⟨rfl, hf⟩; rw [← HQ.out]; have Hf := Lib.hid (hf); clear hf)
    go_ret
    rw [HS.out]
    exact ⟨rfl, Hf.out⟩
  rw [if_neg (by omega)] at hs
  have HS := Lib.hid hs
  clear hs hq hh
  go_enter Tryd.func43, Tryd.ntmps43
  go_wp2
  go_ret
  rw [HS.out]
  exact ⟨rfl, (Fr.refl _ _).alloc _⟩
set_option maxRecDepth 100000 in
theorem rsign_any (c : UInt8) (w : World) : Calls Tryd.prog 45 #[.int .u8 c.toNat] w fun e w' => e = .returned (.string ⟨(signR c).toArray⟩) ∧ Fr No w w' := by
  by_cases h92 : c = 92
  · subst h92
    rw [show signR 92 = [92, 92] from rfl]
    go_enter Tryd.func45, Tryd.ntmps45
    go_wp2
    go_ret
    exact ⟨rfl, Fr.refl _ _⟩
  by_cases h10 : c = 10
  · subst h10
    rw [show signR 10 = [92, 110] from rfl]
    go_enter Tryd.func45, Tryd.ntmps45
    go_wp2
    go_ret
    exact ⟨rfl, Fr.refl _ _⟩
  by_cases h13 : c = 13
  · subst h13
    rw [show signR 13 = [92, 114] from rfl]
    go_enter Tryd.func45, Tryd.ntmps45
    go_wp2
    go_ret
    exact ⟨rfl, Fr.refl _ _⟩
  by_cases h9 : c = 9
  · subst h9
    rw [show signR 9 = [92, 116] from rfl]
    go_enter Tryd.func45, Tryd.ntmps45
    go_wp2
    go_ret
    exact ⟨rfl, Fr.refl _ _⟩
  have e92 : ((c.toNat : Int) == 92) = false := (u8_f (d := 92) rfl h92).1
  have e10 : ((c.toNat : Int) == 10) = false := (u8_f (d := 10) rfl h10).1
  have e13 : ((c.toNat : Int) == 13) = false := (u8_f (d := 13) rfl h13).1
  have e9 : ((c.toNat : Int) == 9) = false := (u8_f (d := 9) rfl h9).1
  have hs : signR c = if c.toNat < 32 ∨ 126 < c.toNat then 92 :: 120 :: hexR c.toNat else [c] := by unfold signR; rw [if_neg h92, if_neg h10, if_neg h13, if_neg h9]
  have hh : (hexR c.toNat).length = 2 := rfl
  have hcv := conv_lit w [c] #[.int .u8 c.toNat] rfl 1 rfl
  obtain ⟨q, hq⟩ : ∃ q, q = hexR c.toNat := ⟨_, rfl⟩
  clear h92 h10 h13 h9
  by_cases g1 : c.toNat < 32
  · rw [if_pos (by omega), ← hq] at hs
    rw [← hq] at hh
    have HS := Lib.hid hs
    have HQ := Lib.hid hq
    clear hs hq
    go_enter Tryd.func45, Tryd.ntmps45
    go_wp2_with (go_at_call 53; refine (rhex_any c.toNat c.toNat_lt _).mono ?_; rintro e w1 ⟨rfl, hf⟩; rw [← HQ.out]; have Hf := Lib.hid (Fr.of_same No hf); clear hf)
    go_ret
    rw [HS.out]
    exact ⟨rfl, Hf.out⟩
  by_cases g2 : 126 < c.toNat
  · rw [if_pos (by omega), ← hq] at hs
    rw [← hq] at hh
    have HS := Lib.hid hs
    have HQ := Lib.hid hq
    clear hs hq
    go_enter Tryd.func45, Tryd.ntmps45
    go_wp2_with (go_at_call 53; refine (rhex_any c.toNat c.toNat_lt _).mono ?_; rintro e w1 ⟨rfl, hf⟩; rw [← HQ.out]; have Hf := Lib.hid (Fr.of_same No hf); clear hf)
    go_ret
    rw [HS.out]
    exact ⟨rfl, Hf.out⟩
  rw [if_neg (by omega)] at hs
  have HS := Lib.hid hs
  clear hs hq hh
  go_enter Tryd.func45, Tryd.ntmps45
  go_wp2
  go_ret
  rw [HS.out]
  exact ⟨rfl, (Fr.refl _ _).alloc _⟩
def showR (s : Str) : Str := s.flatMap signR
theorem show_snoc (s : Str) (c : UInt8) : showR (s ++ [c]) = showR s ++ signR c := by simp [showR]
theorem show_len (s : Str) : (showR s).length ≤ 4 * s.length := by
  induction s with
  | nil => simp [showR]
  | cons c s ih =>
    have e : showR (c :: s) = signR c ++ showR s := rfl
    have := (sign_len c).2
    rw [e]; simp; omega
set_option maxHeartbeats 1000000 in
theorem show_any (s : Str) (w : World) (hs : s.length ≤ 1000000) : Calls Tryd.prog 22 #[.string ⟨s.toArray⟩] w fun e w' => e = .returned (.string ⟨(showR s).toArray⟩) ∧ Fr No w w' := by
  go_enter Tryd.func22, Tryd.ntmps22
  go_wp2
  go_loopw [3, 4] (fun o i wr => ∃ (k m : Nat), i = .int .i64 k ∧ k ≤ s.length ∧ m ≤ 4 * k ∧ Hid (m = (showR (s.take k)).length) ∧ Hid (wr.ownsRow w.heap.size 5 1 o m ((showR (s.take k)).map encB) ∧ Fr No w wr)) (fun _ i _ => s.length - (intOf i).toNat)
  case atStart => exact ⟨0, 0, rfl, by omega, by omega, rfl, World.ownsRow_nil _ _ _ _, Fr.refl _ _⟩
  case round =>
    obtain ⟨k, m, rfl, hk, hm, Hm, Hd⟩ := hrel
    by_cases hlt : k < s.length
    · have hix : (⟨s.toArray⟩ : ByteArray)[k]'(by simpa [ByteArray.size] using hlt) = s[k] := rfl
      have hst : showR (s.take (k + 1)) = showR (s.take k) ++ signR s[k] := by rw [List.take_succ_eq_append_getElem hlt, show_snoc]
      have hc := fun w => shown_any s[k] w
      have hsl := sign_len s[k]
      obtain ⟨g, hg⟩ : ∃ g, g = signR s[k] := ⟨_, rfl⟩
      rw [← hg] at hst hc hsl
      have Hst := Lib.hid hst
      clear hg hst
      obtain ⟨A, c, hu⟩ := own_form Hd.out.1
      subst hu
      obtain ⟨i0, hi, hz0, hz1, hz2⟩ := info_parts infoB
      have hi := Lib.hid hi
      go_wp2_with (first
        | (go_at_call 43; go_loud (refine (hc _).mono ?_; rintro e w1 ⟨rfl, hf⟩; have Ho := Lib.hid (own_fr Hd.out.1 hf (fun _ _ h => h)); have Hf := Lib.hid (Hd.out.2.then_no hf); clear hf))
        | (at_builtin; go_loud (refine Lib.wpList_append_own_string _ rfl (.tmp 11) (.tmp 15) 75 9 rfl w.heap.size 5 i0 Tryd.underlying75 Tryd.underlying9 hi.out hz0 hz1 hz2 _ m _ rfl Ho.out ⟨g.toArray⟩ rfl (by show m + g.toArray.size ≤ maxLen; unfold maxLen; simp; omega) (by show m + g.toArray.size ≤ _; simp; omega) Hf.out.size ?_; intro v' w2 h1 h2 _; have P1 := Lib.hid h1; have P2 := Lib.hid (own_grown rfl Ho.out Hf.out h2); clear h1 h2)))
      go_roundw
      case rel =>
        have hm2 : m + (⟨g.toArray⟩ : ByteArray).size = m + g.length := by simp [ByteArray.size]
        refine ⟨k + 1, m + g.length, by go_num, by omega, by omega, (show m + g.length = _ by rw [Hst.out, List.length_append, ← Hm.out]), ?_, P2.out⟩
        have := P1.out
        rw [hm2, strCells_list] at this
        rw [Hst.out, List.map_append]
        exact this
      case measure => simp [intOf]; omega
    · have hkl : s.take k = s := List.take_of_length_le (by omega)
      obtain ⟨d1, d2⟩ := Hd.out
      rw [hkl] at d1
      have hmm : m = (showR s).length := by rw [Hm.out, hkl]
      obtain ⟨A, c, hu⟩ := own_form d1
      subst hu
      have d1' : wr.ownsRow w.heap.size 5 1 (.slice A m c) (showR s).length ((showR s).map encB) := by rw [← hmm]; exact d1
      have hcv := conv_bytes (P := Tryd.prog) (w := wr) 75 9 5 Tryd.underlying75 Tryd.underlying5 Tryd.underlying9 (own_bytes d1')
      have D2 := Lib.hid d2
      obtain ⟨q, hq⟩ : ∃ q, q = showR s := ⟨_, rfl⟩
      rw [← hq] at hcv
      have HQ := Lib.hid hq
      clear d1 d1' d2 hkl hmm hq Hd Hm
      go_wp2
      go_ret
      rw [← HQ.out]
      exact ⟨rfl, D2.out⟩
set_option maxHeartbeats 1000000 in
theorem rshow_any (s : Str) (w : World) (hs : s.length ≤ 1000000) : Calls Tryd.prog 26 #[.string ⟨s.toArray⟩] w fun e w' => e = .returned (.string ⟨(showR s).toArray⟩) ∧ Fr No w w' := by
  go_enter Tryd.func26, Tryd.ntmps26
  go_wp2
  go_loopw [3, 4] (fun o i wr => ∃ (k : Nat) (t : Str), i = .int .i64 k ∧ o = .string ⟨t.toArray⟩ ∧ k ≤ s.length ∧ t.length ≤ 4 * k ∧ Hid (t = showR (s.take k)) ∧ Hid (Fr No w wr)) (fun _ i _ => s.length - (intOf i).toNat)
  case atStart => exact ⟨0, [], rfl, rfl, by omega, by simp, rfl, Fr.refl _ _⟩
  case round =>
    obtain ⟨k, t, rfl, rfl, hk, ht, Ht, Hd⟩ := hrel
    by_cases hlt : k < s.length
    · have hix : (⟨s.toArray⟩ : ByteArray)[k]'(by simpa [ByteArray.size] using hlt) = s[k] := rfl
      have hst : showR (s.take (k + 1)) = showR (s.take k) ++ signR s[k] := by rw [List.take_succ_eq_append_getElem hlt, show_snoc]
      have hc := fun w => rsign_any s[k] w
      have hsl := sign_len s[k]
      obtain ⟨g, hg⟩ : ∃ g, g = signR s[k] := ⟨_, rfl⟩
      rw [← hg] at hst hc hsl
      have Hst := Lib.hid hst
      clear hg hst
      go_wp2_with (go_at_call 45; refine (hc _).mono ?_; rintro e w1 ⟨rfl, hf⟩; have Hf := Lib.hid (Hd.out.then_no hf); clear hf)
      go_roundw
      case rel => exact ⟨k + 1, t ++ g, by go_num, rfl, by omega, by simp; omega, (show t ++ g = _ by rw [Hst.out, ← Ht.out]), Hf.out⟩
      case measure => simp [intOf]; omega
    · have HQ := Lib.hid (show t = showR s by rw [Ht.out, List.take_of_length_le (by omega)])
      go_wp2
      go_ret
      rw [← HQ.out]
      exact ⟨rfl, Hd.out⟩
end Digit
end Go.Proofs.YtohjnbkehcdoaaaDoor
