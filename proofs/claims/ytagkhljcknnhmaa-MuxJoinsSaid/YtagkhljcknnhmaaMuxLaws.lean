/- Statement MuxJoins of package mux. -/
import Derived.Test.YtagkhljcknnhmaaMuxWorks
namespace Go.Proofs.Ytagkhljcknnhmaa
open Go.RowKit
set_option linter.unusedVariables false
set_option linter.unusedSimpArgs false
namespace Mux
theorem twice_append (s t : Str) : twice (s ++ t) = twice s ++ twice t := by simp [twice]
theorem twice_count (s : Str) : (twice s).length = s.length + s.count 255 := by
  induction s with
  | nil => rfl
  | cons c s ih =>
    have e : twice (c :: s) = (if c = 255 then [255, 255] else [c]) ++ twice s := by simp [twice]
    rw [e]
    by_cases h : c = 255
    · subst h; simp [ih]; omega
    · simp [h, ih, List.count_cons]; omega
theorem twice_none (s : Str) (h : s.count 255 = 0) : twice s = s := by
  induction s with
  | nil => rfl
  | cons c s ih =>
    have e : twice (c :: s) = (if c = 255 then [255, 255] else [c]) ++ twice s := by simp [twice]
    rw [e]
    by_cases hc : c = 255
    · subst hc; simp at h
    · rw [if_neg hc, ih (by simpa [List.count_cons, hc] using h)]; rfl
set_option maxHeartbeats 1000000 in
theorem walk_MuxJoins (W : World) (v0 : Value) (x0 : Str) (h0 : RStr W (Ahead W.heap.size) [v0] x0) (v1 : Value) (x1 : Str) (h1 : RStr W (Ahead W.heap.size) [v1] x1) : Calls Try.prog 8 #[v0, v1] W fun e w' => e = .returned (.bool true) ∧ Fr No W w' := by
  obtain ⟨h0, hl0⟩ := h0
  obtain ⟨h1, hl1⟩ := h1
  injection h0 with h0 _
  injection h1 with h1 _
  subst h0 h1
  unfold maxLen at hl0 hl1
  go_enter Try.func8, Try.ntmps8
  by_cases b0 : 600 < x0.length
  · go_wp2_with (go_at_call 20; refine (works_any _).mono ?_; rintro e w' ⟨rfl, hf⟩; have Hf := Lib.hid hf; clear hf)
    go_ret
    exact ⟨rfl, Hf.out⟩
  by_cases b1 : 600 < x1.length
  · go_wp2_with (go_at_call 20; refine (works_any _).mono ?_; rintro e w' ⟨rfl, hf⟩; have Hf := Lib.hid hf; clear hf)
    go_ret
    exact ⟨rfl, Hf.out⟩
  go_wp2_with fail
  go_loop [5, 6] (fun a i => ∃ k m : Nat, i = .int .i64 k ∧ a = .int .i64 m ∧ k ≤ x0.length ∧ m ≤ k ∧ Hid (m = (x0.take k).count 255)) (fun _ i => x0.length - (intOf i).toNat)
  case atStart => exact ⟨0, 0, rfl, rfl, by omega, by omega, rfl⟩
  case round =>
    obtain ⟨k, m, rfl, rfl, hk, hm, Hm⟩ := hrel
    by_cases hlt : k < x0.length
    · have hix : (⟨x0.toArray⟩ : ByteArray)[k]'(by simpa [ByteArray.size] using hlt) = x0[k] := rfl
      have hct : (x0.take (k + 1)).count 255 = (x0.take k).count 255 + if x0[k] = 255 then 1 else 0 := by
        rw [List.take_succ_eq_append_getElem hlt, List.count_append]
        by_cases h : x0[k] = 255 <;> simp [h]
      by_cases hc : x0[k] = 255
      · have hc1 : ((x0[k].toNat : Int) == 255) = true := by rw [hc]; rfl
        rw [if_pos hc] at hct
        have Hct := Lib.hid hct
        clear hct hc
        go_wp2
        go_round
        case rel => exact ⟨k + 1, m + 1, by go_num, by go_num, by omega, by omega, (show m + 1 = _ by rw [Hct.out, ← Hm.out])⟩
        case measure => simp [intOf]; omega
      · have hc1 : ((x0[k].toNat : Int) == 255) = false := (u8_f (d := 255) rfl hc).1
        rw [if_neg hc] at hct
        have Hct := Lib.hid hct
        clear hct hc
        go_wp2
        go_round
        case rel => exact ⟨k + 1, m, by go_num, rfl, by omega, by omega, (show m = _ by rw [Hct.out, ← Hm.out]; rfl)⟩
        case measure => simp [intOf]; omega
    · have hkl : k = x0.length := by omega
      have hcm : m = x0.count 255 := by rw [Hm.out, hkl, List.take_length]
      have hlen : (twice x0).length = x0.length + m := by rw [twice_count, hcm]
      have hlen2 : (toldB x0).length = x0.length + m + 4 := by rw [toldB]; simp [hlen]
      have e1 : (⟨(twice (x0 ++ x1)).toArray⟩ : ByteArray) = ⟨(twice x0).toArray⟩ ++ ⟨(twice x1).toArray⟩ := by rw [twice_append]; rfl
      have E1 := Lib.hid e1
      have hl2 := twice_len x1
      have hdd : m = 0 → twice x0 = x0 := fun h => twice_none x0 (by omega)
      clear e1 hcm Hm hkl
      by_cases hm0 : m = 0
      · have hd0 := hdd hm0
        clear hdd hlen
        subst hm0
        rw [Nat.add_zero] at hlen2
        have Hd0 := Lib.hid hd0
        clear hd0
        go_wp2_with fail
        refine (data_any x0 _ (by omega)).mono ?_
        rintro e w1 ⟨rfl, hf⟩
        rw [Hd0.out] at E1 ⊢
        have F1 := Lib.hid hf; clear hf
        go_wp2_with fail
        refine (data_any (x0 ++ x1) _ (by simp; omega)).mono ?_
        rintro e w2 ⟨rfl, hf⟩
        rw [E1.out]
        have F2 := Lib.hid (F1.out.then_no hf); clear hf F1
        go_wp2_with fail
        refine (data_any x1 _ (by omega)).mono ?_
        rintro e w3 ⟨rfl, hf⟩
        have F3 := Lib.hid (F2.out.then_no hf); clear hf F2
        go_wp2_with fail
        refine (told_any x0 _ (by omega)).mono ?_
        rintro e w4 ⟨rfl, hf⟩
        have F4 := Lib.hid (F3.out.then_no hf); clear hf F3
        go_wp2_with fail
        refine (works_any _).mono ?_
        rintro e w5 ⟨rfl, hf⟩
        have F5 := Lib.hid (F4.out.then_no hf); clear hf F4
        go_wp2
        go_ret
        exact ⟨rfl, F5.out⟩
      · clear hdd
        go_wp2_with fail
        refine (data_any x0 _ (by omega)).mono ?_
        rintro e w1 ⟨rfl, hf⟩
        have F1 := Lib.hid hf; clear hf
        go_wp2_with fail
        refine (data_any (x0 ++ x1) _ (by simp; omega)).mono ?_
        rintro e w2 ⟨rfl, hf⟩
        rw [E1.out]
        have F2 := Lib.hid (F1.out.then_no hf); clear hf F1
        go_wp2_with fail
        refine (data_any x1 _ (by omega)).mono ?_
        rintro e w3 ⟨rfl, hf⟩
        have F3 := Lib.hid (F2.out.then_no hf); clear hf F2
        go_wp2_with fail
        refine (told_any x0 _ (by omega)).mono ?_
        rintro e w4 ⟨rfl, hf⟩
        have F4 := Lib.hid (F3.out.then_no hf); clear hf F3
        go_wp2_with fail
        refine (works_any _).mono ?_
        rintro e w5 ⟨rfl, hf⟩
        have F5 := Lib.hid (F4.out.then_no hf); clear hf F4
        go_wp2
        go_ret
        exact ⟨rfl, F5.out⟩
end Mux
end Go.Proofs.Ytagkhljcknnhmaa
