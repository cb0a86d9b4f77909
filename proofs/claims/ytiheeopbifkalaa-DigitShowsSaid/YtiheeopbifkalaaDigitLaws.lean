/- The statements of package digit. -/
import Derived.Test.YtiheeopbifkalaaDigitWorks
namespace Go.Proofs.Ytiheeopbifkalaa
open Go.RowKit
set_option linter.unusedVariables false
set_option linter.unusedSimpArgs false
namespace Digit
theorem wf64 {n : Int} (h : (Lit.int .i64 n).wf = true) : -9223372036854775808 ≤ n ∧ n ≤ 9223372036854775807 := by
  have e1 : IntKind.i64.min = -9223372036854775808 := rfl
  have e2 : IntKind.i64.max = 9223372036854775807 := rfl
  simpa [Lit.wf, e1, e2] using h
theorem wf8 {n : Int} (h : (Lit.int .u8 n).wf = true) : 0 ≤ n ∧ n ≤ 255 := by
  have e1 : IntKind.u8.min = 0 := rfl
  have e2 : IntKind.u8.max = 255 := rfl
  simpa [Lit.wf, e1, e2] using h
theorem walk_DigitPuts (W : World) (v0 : Value) (x0 : Int) (h0 : (RInt .i64) W (Ahead W.heap.size) [v0] x0) (v1 : Value) (x1 : Int) (h1 : (RInt .i64) W (Ahead W.heap.size) [v1] x1) : Calls Try.prog 9 #[v0, v1] W fun e w' => e = .returned (.bool true) ∧ Fr No W w' := by
  obtain ⟨h0, b0⟩ := h0
  obtain ⟨h1, b1⟩ := h1
  injection h0 with h0 _
  injection h1 with h1 _
  subst h0 h1
  have b0 := wf64 b0
  have b1 := wf64 b1
  have c1 := fun w => put_any x0 b0 w
  have c2 := fun w => rput_any x0 b0 w
  have c3 := fun w => pad_any x0 x1 b0 b1 w
  have c4 := fun w => rpad_any x0 x1 b0 b1 w
  generalize putR x0 = p at c1 c2
  generalize padR x0 x1 = q at c3 c4
  go_enter Try.func9, Try.ntmps9
  go_wp2_with (first
    | (go_at_call 36; refine (c1 _).mono ?_; rintro e w1 ⟨rfl, hf⟩; have F1 := Lib.hid hf; clear hf)
    | (go_at_call 37; refine (c2 _).mono ?_; rintro e w2 ⟨rfl, rfl⟩)
    | (go_at_call 38; refine (c3 _).mono ?_; rintro e w3 ⟨rfl, hf⟩; have F3 := Lib.hid (F1.out.then_no hf); clear hf)
    | (go_at_call 39; refine (c4 _).mono ?_; rintro e w4 ⟨rfl, hf⟩; have F4 := Lib.hid (F3.out.then_no hf); clear hf)
    | (go_at_call 40; refine (works_any _).mono ?_; rintro e w5 ⟨rfl, hf⟩; have F5 := Lib.hid (F4.out.then_no hf); clear hf))
  go_ret
  first | exact ⟨rfl, F5.out⟩ | exact ⟨ret_bool (by simp; omega), F5.out⟩
theorem readR_put (n : Int) : readR (putR n) = if 0 ≤ n ∧ n ≤ 1099511627776 then (n, 0) else (0, 3) := by
  by_cases h : 0 ≤ n ∧ n ≤ 1099511627776
  · have hp : putR n = dec n.natAbs := by unfold putR; rw [if_neg (by omega)]
    rw [if_pos h, hp, readR_yes (dec_rok (by omega)), dec_val]
    rw [show ((n.natAbs : Nat) : Int) = n by omega]
  · rw [if_neg h]
    refine readR_no fun hr => ?_
    by_cases hn : n < 0
    · have hp : putR n = 45 :: dec n.natAbs := by unfold putR; rw [if_pos hn]
      rw [hp] at hr
      have := hr.2.2.2.1 45 (by simp)
      exact absurd this (by decide)
    · have hp : putR n = dec n.natAbs := by unfold putR; rw [if_neg hn]
      have := hr.2.2.2.2
      rw [hp, dec_val] at this
      omega
theorem readR_back {s : Str} {a : Int} (h : readR s = (a, 0)) : putR a = s ∧ 0 ≤ a ∧ a ≤ 1099511627776 := by
  by_cases hr : rok s
  · rw [readR_yes hr] at h
    injection h with h _
    subst h
    have := hr.2.2.2.2
    refine ⟨?_, by omega, by omega⟩
    unfold putR
    rw [if_neg (by omega)]
    exact rok_dec hr
  · rw [readR_no hr] at h
    injection h with _ h
    cases h
theorem readR_code (s : Str) : (readR s).2 = 0 ∨ (readR s).2 = 3 := by
  by_cases hr : rok s
  · rw [readR_yes hr]; exact .inl rfl
  · rw [readR_no hr]; exact .inr rfl
set_option maxHeartbeats 1000000 in
theorem walk_DigitReads (W : World) (v0 : Value) (x0 : Str) (h0 : RStr W (Ahead W.heap.size) [v0] x0) (v1 : Value) (x1 : Int) (h1 : (RInt .i64) W (Ahead W.heap.size) [v1] x1) : Calls Try.prog 10 #[v0, v1] W fun e w' => e = .returned (.bool true) ∧ Fr No W w' := by
  obtain ⟨h0, b0⟩ := h0
  obtain ⟨h1, b1⟩ := h1
  injection h0 with h0 _
  injection h1 with h1 _
  subst h0 h1
  have b1 := wf64 b1
  have c1 := fun w => read_any x0 b0 w
  have c2 := fun w => rread_any x0 b0 w
  have hco := readR_code x0
  obtain ⟨a, e, hae⟩ : ∃ a e, readR x0 = (a, e) := ⟨_, _, rfl⟩
  have hbk := @readR_back x0
  rw [hae] at c1 c2 hco hbk
  have c5 := fun w => put_any x1 b1 w
  have hpl := putR_len b1
  have hrp := readR_put x1
  unfold maxLen at b0
  have c6 := fun w => read_any (putR x1) (Nat.le_trans hpl (by unfold maxLen; decide)) w
  generalize putR x1 = p at c5 hpl hrp c6
  rw [hrp] at c6
  clear hae hrp
  by_cases hbig : 100 < x0.length
  · go_enter Try.func10, Try.ntmps10
    go_wp2_with (go_at_call 40; refine (works_any _).mono ?_; rintro e w5 ⟨rfl, hf⟩; have F5 := Lib.hid hf; clear hf)
    go_ret
    first | exact ⟨rfl, F5.out⟩ | exact ⟨ret_bool (by simp; omega), F5.out⟩
  have hco : e = 0 ∨ e = 3 := hco
  rcases hco with rfl | rfl
  · obtain ⟨hpa, ha1, ha2⟩ := hbk rfl
    have c3 := fun w => put_any a (by omega) w
    rw [hpa] at c3
    clear hbk hpa
    by_cases hn : 0 ≤ x1 ∧ x1 ≤ 1099511627776
    · rw [if_pos hn] at c6
      obtain ⟨hn1, hn2⟩ := hn
      go_enter Try.func10, Try.ntmps10
      go_wp2_with (first
          | (go_at_call 41; with_reducible refine (c1 _).mono ?_; rintro e w1 ⟨rfl, rfl⟩)
          | (go_at_call 42; refine (c2 _).mono ?_; rintro e w2 ⟨rfl, rfl⟩)
          | (go_at_call 36; with_reducible refine (c3 _).mono ?_; rintro e w1 ⟨rfl, hf⟩; have F1 := Lib.hid hf; clear hf)
          | (go_at_call 36; with_reducible refine (c5 _).mono ?_; rintro e w1 ⟨rfl, hf⟩; have F2 := Lib.hid (F1.out.then_no hf); clear hf)
          | (go_at_call 41; with_reducible refine (c6 _).mono ?_; rintro e w1 ⟨rfl, rfl⟩)
          | (go_at_call 40; refine (works_any _).mono ?_; rintro e w5 ⟨rfl, hf⟩; have F5 := Lib.hid (F2.out.then_no hf); clear hf))
      go_ret
      first | exact ⟨rfl, F5.out⟩ | exact ⟨ret_bool (by simp; omega), F5.out⟩
    · rw [if_neg hn] at c6
      by_cases hn1 : 0 ≤ x1
      · have hn2 : 1099511627776 < x1 := by omega
        clear hn
        go_enter Try.func10, Try.ntmps10
        go_wp2_with (first
            | (go_at_call 41; with_reducible refine (c1 _).mono ?_; rintro e w1 ⟨rfl, rfl⟩)
            | (go_at_call 42; refine (c2 _).mono ?_; rintro e w2 ⟨rfl, rfl⟩)
            | (go_at_call 36; with_reducible refine (c3 _).mono ?_; rintro e w1 ⟨rfl, hf⟩; have F1 := Lib.hid hf; clear hf)
            | (go_at_call 36; with_reducible refine (c5 _).mono ?_; rintro e w1 ⟨rfl, hf⟩; have F2 := Lib.hid (F1.out.then_no hf); clear hf)
            | (go_at_call 41; with_reducible refine (c6 _).mono ?_; rintro e w1 ⟨rfl, rfl⟩)
            | (go_at_call 40; refine (works_any _).mono ?_; rintro e w5 ⟨rfl, hf⟩; have F5 := Lib.hid (F2.out.then_no hf); clear hf))
        go_ret
        first | exact ⟨rfl, F5.out⟩ | exact ⟨ret_bool (by simp; omega), F5.out⟩
      · clear hn
        go_enter Try.func10, Try.ntmps10
        go_wp2_with (first
            | (go_at_call 41; with_reducible refine (c1 _).mono ?_; rintro e w1 ⟨rfl, rfl⟩)
            | (go_at_call 42; refine (c2 _).mono ?_; rintro e w2 ⟨rfl, rfl⟩)
            | (go_at_call 36; with_reducible refine (c3 _).mono ?_; rintro e w1 ⟨rfl, hf⟩; have F1 := Lib.hid hf; clear hf)
            | (go_at_call 36; with_reducible refine (c5 _).mono ?_; rintro e w1 ⟨rfl, hf⟩; have F2 := Lib.hid (F1.out.then_no hf); clear hf)
            | (go_at_call 41; with_reducible refine (c6 _).mono ?_; rintro e w1 ⟨rfl, rfl⟩)
            | (go_at_call 40; refine (works_any _).mono ?_; rintro e w5 ⟨rfl, hf⟩; have F5 := Lib.hid (F2.out.then_no hf); clear hf))
        go_ret
        first | exact ⟨rfl, F5.out⟩ | exact ⟨ret_bool (by simp; omega), F5.out⟩
  · clear hbk
    by_cases hn : 0 ≤ x1 ∧ x1 ≤ 1099511627776
    · rw [if_pos hn] at c6
      obtain ⟨hn1, hn2⟩ := hn
      go_enter Try.func10, Try.ntmps10
      go_wp2_with (first
          | (go_at_call 41; with_reducible refine (c1 _).mono ?_; rintro e w1 ⟨rfl, rfl⟩)
          | (go_at_call 42; refine (c2 _).mono ?_; rintro e w2 ⟨rfl, rfl⟩)
          | (go_at_call 36; with_reducible refine (c5 _).mono ?_; rintro e w1 ⟨rfl, hf⟩; have F2 := Lib.hid (hf); clear hf)
          | (go_at_call 41; with_reducible refine (c6 _).mono ?_; rintro e w1 ⟨rfl, rfl⟩)
          | (go_at_call 40; refine (works_any _).mono ?_; rintro e w5 ⟨rfl, hf⟩; have F5 := Lib.hid (F2.out.then_no hf); clear hf))
      go_ret
      first | exact ⟨rfl, F5.out⟩ | exact ⟨ret_bool (by simp; omega), F5.out⟩
    · rw [if_neg hn] at c6
      by_cases hn1 : 0 ≤ x1
      · have hn2 : 1099511627776 < x1 := by omega
        clear hn
        go_enter Try.func10, Try.ntmps10
        go_wp2_with (first
            | (go_at_call 41; with_reducible refine (c1 _).mono ?_; rintro e w1 ⟨rfl, rfl⟩)
            | (go_at_call 42; refine (c2 _).mono ?_; rintro e w2 ⟨rfl, rfl⟩)
            | (go_at_call 36; with_reducible refine (c5 _).mono ?_; rintro e w1 ⟨rfl, hf⟩; have F2 := Lib.hid (hf); clear hf)
            | (go_at_call 41; with_reducible refine (c6 _).mono ?_; rintro e w1 ⟨rfl, rfl⟩)
            | (go_at_call 40; refine (works_any _).mono ?_; rintro e w5 ⟨rfl, hf⟩; have F5 := Lib.hid (F2.out.then_no hf); clear hf))
        go_ret
        first | exact ⟨rfl, F5.out⟩ | exact ⟨ret_bool (by simp; omega), F5.out⟩
      · clear hn
        go_enter Try.func10, Try.ntmps10
        go_wp2_with (first
            | (go_at_call 41; with_reducible refine (c1 _).mono ?_; rintro e w1 ⟨rfl, rfl⟩)
            | (go_at_call 42; refine (c2 _).mono ?_; rintro e w2 ⟨rfl, rfl⟩)
            | (go_at_call 36; with_reducible refine (c5 _).mono ?_; rintro e w1 ⟨rfl, hf⟩; have F2 := Lib.hid (hf); clear hf)
            | (go_at_call 41; with_reducible refine (c6 _).mono ?_; rintro e w1 ⟨rfl, rfl⟩)
            | (go_at_call 40; refine (works_any _).mono ?_; rintro e w5 ⟨rfl, hf⟩; have F5 := Lib.hid (F2.out.then_no hf); clear hf))
        go_ret
        first | exact ⟨rfl, F5.out⟩ | exact ⟨ret_bool (by simp; omega), F5.out⟩
theorem readHexR_code (s : Str) : (readHexR s).2 = 0 ∨ (readHexR s).2 = 3 := (readHexR_lt s).2.elim (fun h => .inl h.1) .inr
set_option maxHeartbeats 1000000 in
theorem walk_DigitHex (W : World) (v0 : Value) (x0 : Int) (h0 : (RInt .u8) W (Ahead W.heap.size) [v0] x0) (v1 : Value) (x1 : Str) (h1 : RStr W (Ahead W.heap.size) [v1] x1) : Calls Try.prog 11 #[v0, v1] W fun e w' => e = .returned (.bool true) ∧ Fr No W w' := by
  obtain ⟨h0, b0⟩ := h0
  obtain ⟨h1, b1⟩ := h1
  injection h0 with h0 _
  injection h1 with h1 _
  subst h0 h1
  have b0 := wf8 b0
  obtain ⟨m, rfl, hm⟩ : ∃ m : Nat, x0 = m ∧ m < 256 := ⟨x0.toNat, by omega, by omega⟩
  have c1 := fun w => readhex_any x1 b1 w
  have c2 := fun w => rreadhex_any x1 b1 w
  have c3 := fun w => hex_any m hm w
  have c4 := fun w => rhex_any m hm w
  have c5 := fun w => readhex_any (hexR m) (by unfold maxLen; show 2 ≤ _; decide) w
  rw [readHex_hex m hm] at c5
  generalize readHexR x1 = q at c1 c2
  generalize hexR m = p at c3 c4 c5
  obtain ⟨a, e⟩ := q
  clear b1
  go_enter Try.func11, Try.ntmps11
  go_wp2_with fail
  refine (c1 _).mono ?_
  rintro e1 w1 ⟨rfl, rfl⟩
  go_wp2_with fail
  refine (c2 _).mono ?_
  rintro e1 w1 ⟨rfl, rfl⟩
  go_wp2_with fail
  refine (c3 _).mono ?_
  rintro e1 w1 ⟨rfl, hf⟩
  have F1 := Lib.hid hf; clear hf
  go_wp2_with fail
  refine (c5 _).mono ?_
  rintro e1 w2 ⟨rfl, rfl⟩
  go_wp2_with fail
  refine (c3 _).mono ?_
  rintro e1 w2 ⟨rfl, hf⟩
  have F2 := Lib.hid (F1.out.then_no hf); clear hf
  go_wp2_with fail
  refine (c4 _).mono ?_
  rintro e1 w3 ⟨rfl, rfl⟩
  go_wp2_with fail
  refine (works_any _).mono ?_
  rintro e1 w5 ⟨rfl, hf⟩
  have F5 := Lib.hid (F2.out.then_no hf); clear hf
  go_wp2
  go_ret
  exact ⟨rfl, F5.out⟩
theorem sign_seen (c : UInt8) : ∀ d ∈ signR c, 32 ≤ d.toNat ∧ d.toNat ≤ 126 := by
  by_cases h92 : c = 92
  · subst h92; decide
  by_cases h10 : c = 10
  · subst h10; decide
  by_cases h13 : c = 13
  · subst h13; decide
  by_cases h9 : c = 9
  · subst h9; decide
  have hs : signR c = if c.toNat < 32 ∨ 126 < c.toNat then 92 :: 120 :: hexR c.toNat else [c] := by unfold signR; rw [if_neg h92, if_neg h10, if_neg h13, if_neg h9]
  by_cases g : c.toNat < 32 ∨ 126 < c.toNat
  · rw [if_pos g] at hs
    rw [hs]
    have hh : ∀ k : Fin 16, 32 ≤ (hx k).toNat ∧ (hx k).toNat ≤ 126 := by decide
    have hc := c.toNat_lt
    intro d hd
    simp only [List.mem_cons, hexR, List.not_mem_nil, or_false] at hd
    rcases hd with rfl | rfl | rfl | rfl
    · decide
    · decide
    · exact hh ⟨c.toNat / 16, by omega⟩
    · exact hh ⟨c.toNat % 16, by omega⟩
  · rw [if_neg g] at hs
    rw [hs]
    intro d hd
    rw [List.mem_singleton.1 hd]
    omega
theorem show_seen (s : Str) : ∀ d ∈ showR s, 32 ≤ d.toNat ∧ d.toNat ≤ 126 := by
  intro d hd
  obtain ⟨c, _, hc⟩ := List.mem_flatMap.1 hd
  exact sign_seen c d hc
set_option maxHeartbeats 1000000 in
theorem walk_DigitShows (W : World) (v0 : Value) (x0 : Str) (h0 : RStr W (Ahead W.heap.size) [v0] x0) (v1 : Value) (x1 : Str) (h1 : RStr W (Ahead W.heap.size) [v1] x1) : Calls Try.prog 12 #[v0, v1] W fun e w' => e = .returned (.bool true) ∧ Fr No W w' := by
  obtain ⟨h0, b0⟩ := h0
  obtain ⟨h1, b1⟩ := h1
  injection h0 with h0 _
  injection h1 with h1 _
  subst h0 h1
  unfold maxLen at b0 b1
  by_cases g0 : 300 < x0.length
  · go_enter Try.func12, Try.ntmps12
    go_wp2_with (go_at_call 40; refine (works_any _).mono ?_; rintro e w5 ⟨rfl, hf⟩; have F5 := Lib.hid hf; clear hf)
    go_ret
    exact ⟨rfl, F5.out⟩
  by_cases g1 : 300 < x1.length
  · go_enter Try.func12, Try.ntmps12
    go_wp2_with (go_at_call 40; refine (works_any _).mono ?_; rintro e w5 ⟨rfl, hf⟩; have F5 := Lib.hid hf; clear hf)
    go_ret
    exact ⟨rfl, F5.out⟩
  have c1 := fun w => show_any x0 w (by omega)
  have c2 := fun w => unshow_any (showR x0) w (by have := show_len x0; omega)
  have hu : unsP (showR x0) = (x0, 0) := by unfold unsP; rw [unsR_show]
  have c3 := fun w => unshow_any x1 w (by omega)
  have c4 := fun w => runshow_any x1 w (by omega)
  have c5 := fun w => rshow_any x0 w (by omega)
  have hseen := show_seen x0
  have hal := show_len x0
  rw [hu] at c2
  obtain ⟨a, ha⟩ : ∃ a, a = showR x0 := ⟨_, rfl⟩
  rw [← ha] at c1 c2 c5 hseen hal
  clear ha hu b0 b1
  have HS := Lib.hid hseen
  clear hseen
  obtain ⟨c, f, hcf⟩ : ∃ c f, unsP x1 = (c, f) := ⟨_, _, rfl⟩
  have hco : (f = 0 ∧ showR c = x1 ∧ c.length ≤ 1000000) ∨ f = 3 := by
    unfold unsP at hcf
    cases hu : unsR x1 with
    | none => rw [hu] at hcf; injection hcf with _ h; exact .inr h.symm
    | some o =>
      rw [hu] at hcf
      injection hcf with h1 h
      have := show_uns x1.length x1 o (Nat.le_refl _) hu
      subst h1
      refine .inl ⟨h.symm, this, ?_⟩
      have hl : ∀ s : Str, s.length ≤ (showR s).length := by
        intro s
        induction s with
        | nil => simp
        | cons d s ih =>
          have e : showR (d :: s) = signR d ++ showR s := rfl
          have := (sign_len d).1
          rw [e]; simp; omega
      have := hl o
      have h3 : (showR o).length = x1.length := by rw [show_uns x1.length x1 o (Nat.le_refl _) hu]
      omega
  rw [hcf] at c3 c4
  clear hcf
  go_enter Try.func12, Try.ntmps12
  go_wp2_with fail
  refine (c1 _).mono ?_
  rintro e1 w1 ⟨rfl, hf⟩
  have F1 := Lib.hid hf; clear hf
  go_wp2_with fail
  refine (c2 _).mono ?_
  rintro e1 w2 ⟨rfl, hf⟩
  have F2 := Lib.hid (F1.out.then_no hf); clear hf
  go_wp2_with fail
  refine (c3 _).mono ?_
  rintro e1 w3 ⟨rfl, hf⟩
  have F3 := Lib.hid (F2.out.then_no hf); clear hf
  go_wp2_with fail
  refine (c4 _).mono ?_
  rintro e1 w4 ⟨rfl, hf⟩
  have F4 := Lib.hid (F3.out.then_no hf); clear hf
  go_wp2_with fail
  go_loop [12] (fun i => ∃ k : Nat, i = .int .i64 k ∧ k ≤ a.length) (fun i => a.length - (intOf i).toNat)
  case atStart => exact ⟨0, rfl, by omega⟩
  case round =>
    obtain ⟨k, rfl, hk⟩ := hrel
    by_cases hlt : k < a.length
    · have hix : (⟨a.toArray⟩ : ByteArray)[k]'(by simpa [ByteArray.size] using hlt) = a[k] := rfl
      obtain ⟨s1, s2⟩ := HS.out a[k] (List.getElem_mem hlt)
      go_wp2
      go_round
      case rel => exact ⟨k + 1, by go_num, by omega⟩
      case measure => simp [intOf]; omega
    · rcases hco with ⟨rfl, hsh, hcl⟩ | rfl
      · have c6 := fun w => show_any c w hcl
        rw [hsh] at c6
        clear hsh hcl
        go_wp2_with fail
        refine (c5 _).mono ?_
        rintro e1 w5 ⟨rfl, hf⟩
        have F5 := Lib.hid (F4.out.then_no hf); clear hf
        go_wp2_with fail
        refine (c6 _).mono ?_
        rintro e1 w6 ⟨rfl, hf⟩
        have F6 := Lib.hid (F5.out.then_no hf); clear hf
        go_wp2_with fail
        refine (works_any _).mono ?_
        rintro e1 w7 ⟨rfl, hf⟩
        have F7 := Lib.hid (F6.out.then_no hf); clear hf
        go_wp2
        go_ret
        exact ⟨rfl, F7.out⟩
      · go_wp2_with fail
        refine (c5 _).mono ?_
        rintro e1 w5 ⟨rfl, hf⟩
        have F5 := Lib.hid (F4.out.then_no hf); clear hf
        go_wp2_with fail
        refine (works_any _).mono ?_
        rintro e1 w7 ⟨rfl, hf⟩
        have F7 := Lib.hid (F5.out.then_no hf); clear hf
        go_wp2
        go_ret
        exact ⟨rfl, F7.out⟩
end Digit
end Go.Proofs.Ytiheeopbifkalaa
