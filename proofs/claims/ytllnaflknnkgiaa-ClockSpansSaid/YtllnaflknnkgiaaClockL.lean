/- The statements of package clock. -/
import Derived.Test.YtllnaflknnkgiaaClockW
import Derived.Test.YtllnaflknnkgiaaLaw
namespace Go.Proofs.Ytllnaflknnkgiaa
open Go.RowKit
set_option linter.unusedVariables false
set_option linter.unusedSimpArgs false
namespace Clock
open Digit
theorem wf_i64 {n : Int} (h : (Lit.int .i64 n).wf = true) : -9223372036854775808 ≤ n ∧ n ≤ 9223372036854775807 := by
  have e1 : IntKind.i64.min = -9223372036854775808 := rfl
  have e2 : IntKind.i64.max = 9223372036854775807 := rfl
  simpa [Lit.wf, e1, e2] using h
theorem wf_u64 {n : Int} (h : (Lit.int .u64 n).wf = true) : 0 ≤ n ∧ n ≤ 18446744073709551615 := by
  have e1 : IntKind.u64.min = 0 := rfl
  have e2 : IntKind.u64.max = 18446744073709551615 := rfl
  simpa [Lit.wf, e1, e2] using h
theorem walk_ClockSpans (W : World) (v0 : Value) (x0 : Int) (h0 : (RInt .i64) W (Ahead W.heap.size) [v0] x0) : Calls Try.prog 11 #[v0] W fun e w' => e = .returned (.bool true) ∧ Fr No W w' := by
  obtain ⟨h0, -⟩ := h0
  injection h0 with h0 _
  subst h0
  have c1 := fun w => span_any x0 w
  have c2 := fun w => rspan_any x0 w
  generalize spanR x0 = p at c1 c2
  go_enter Try.func11, Try.ntmps11
  go_wp2_with (first
    | (go_at_call 47; refine (c1 _).mono ?_; rintro e w1 ⟨rfl, hf⟩; have F1 := Lib.hid hf; clear hf)
    | (go_at_call 48; refine (c2 _).mono ?_; rintro e w2 ⟨rfl, hf⟩; have F2 := Lib.hid (F1.out.then_no hf); clear hf)
    | (go_at_call 44; refine (works_any _).mono ?_; rintro e w5 ⟨rfl, hf⟩; have F5 := Lib.hid (F2.out.then_no hf); clear hf))
  go_ret
  first | exact ⟨rfl, F5.out⟩ | exact ⟨ret_bool (by simp; omega), F5.out⟩
theorem walk_ClockStamps (W : World) (v0 : Value) (x0 : Int) (h0 : (RInt .i64) W (Ahead W.heap.size) [v0] x0) : Calls Try.prog 8 #[v0] W fun e w' => e = .returned (.bool true) ∧ Fr No W w' := by
  obtain ⟨h0, -⟩ := h0
  injection h0 with h0 _
  subst h0
  have c1 := fun w => date_any x0 w
  have c2 := fun w => rdate_any x0 w
  obtain ⟨⟨y, m, d⟩, hd⟩ : ∃ p, dateR x0 = p := ⟨_, rfl⟩
  rw [hd] at c1 c2
  have c3 := fun w => time_any x0 w
  have c4 := fun w => rtime_any x0 w
  obtain ⟨⟨a, b, c⟩, ht⟩ : ∃ p, timeR x0 = p := ⟨_, rfl⟩
  rw [ht] at c3 c4
  unfold tri at c1 c2 c3 c4
  have c5 := fun w => weekday_any x0 w
  have c6 := fun w => rweekday_any x0 w
  generalize wdR x0 = wd at c5 c6
  have c7 := fun w => stamp_any x0 w
  have c8 := fun w => rstamp_any x0 w
  generalize stampR x0 = s at c7 c8
  have C1 := Lib.hid c1
  have C2 := Lib.hid c2
  have C3 := Lib.hid c3
  have C4 := Lib.hid c4
  have C5 := Lib.hid c5
  have C6 := Lib.hid c6
  have C7 := Lib.hid c7
  have C8 := Lib.hid c8
  clear hd ht c1 c2 c3 c4 c5 c6 c7 c8
  go_enter Try.func8, Try.ntmps8
  go_wp2_with fail
  refine (C1.out _).mono ?_
  rintro e w1 ⟨rfl, hf⟩
  have F1 := Lib.hid hf; clear hf
  go_wp2_with fail
  refine (C2.out _).mono ?_
  rintro e w2 ⟨rfl, rfl⟩
  go_wp2_with fail
  refine (C3.out _).mono ?_
  rintro e w2 ⟨rfl, rfl⟩
  go_wp2_with fail
  refine (C4.out _).mono ?_
  rintro e w2 ⟨rfl, rfl⟩
  go_wp2_with fail
  refine (C5.out _).mono ?_
  rintro e w2 ⟨rfl, rfl⟩
  go_wp2_with fail
  refine (C6.out _).mono ?_
  rintro e w2 ⟨rfl, rfl⟩
  go_wp2_with fail
  refine (C7.out _).mono ?_
  rintro e w2 ⟨rfl, hf⟩
  have F2 := Lib.hid (F1.out.then_no hf); clear hf
  go_wp2_with fail
  refine (C8.out _).mono ?_
  rintro e w3 ⟨rfl, hf⟩
  have F3 := Lib.hid (F2.out.then_no hf); clear hf
  go_wp2_with fail
  refine (works_any _).mono ?_
  rintro e w4 ⟨rfl, hf⟩
  have F4 := Lib.hid (F3.out.then_no hf); clear hf
  go_wp2
  go_ret
  exact ⟨rfl, F4.out⟩
theorem walk_ClockReads (W : World) (v0 : Value) (x0 : Str) (h0 : RStr W (Ahead W.heap.size) [v0] x0) (v1 : Value) (x1 : Int) (h1 : (RInt .u64) W (Ahead W.heap.size) [v1] x1) : Calls Try.prog 9 #[v0, v1] W fun e w' => e = .returned (.bool true) ∧ Fr No W w' := by
  obtain ⟨h0, b0⟩ := h0
  obtain ⟨h1, b1⟩ := h1
  injection h0 with h0 _
  injection h1 with h1 _
  subst h0 h1
  have b1 := wf_u64 b1
  by_cases hl : x0.length ≤ 100
  case neg =>
    go_enter Try.func9, Try.ntmps9
    go_wp2_with fail
    refine (works_any _).mono ?_
    rintro e w4 ⟨rfl, hf⟩
    have F4 := Lib.hid hf; clear hf
    go_wp2
    go_ret
    exact ⟨rfl, F4.out⟩
  obtain ⟨t, ht⟩ : ∃ t, x1 % 252455616000 = t := ⟨_, rfl⟩
  have htb : 0 ≤ t ∧ t ≤ lastT := by unfold lastT; omega
  have hg := good_stamp htb
  have C1 := Lib.hid (fun w => read_any x0 (by omega) w)
  have C2 := Lib.hid (fun w => rread_any x0 hl w)
  obtain ⟨⟨a, b⟩, hr⟩ : ∃ p, readS x0 = p := ⟨_, rfl⟩
  rw [hr] at C1 C2
  have C3 := Lib.hid (fun w => stamp_any t w)
  have C4 := Lib.hid (fun w => read_any (stampR t) (by rw [hg.len]; omega) w)
  have C5 := Lib.hid (readS_yes hg)
  have l3 := hg.len
  obtain ⟨s, hs⟩ : ∃ s, stampR t = s := ⟨_, rfl⟩
  rw [hs] at C3 C4 C5 l3
  have HT := Lib.hid ht
  have htb : 0 ≤ t ∧ t ≤ 252455615999 := htb
  clear hr hs hg ht
  go_enter Try.func9, Try.ntmps9
  go_wp2_with fail
  refine (C1.out _).mono ?_
  rintro e w1 ⟨rfl, hf⟩
  have F1 := Lib.hid hf; clear hf
  go_wp2_with fail
  refine (C2.out _).mono ?_
  rintro e w2 ⟨rfl, hf⟩
  have F2 := Lib.hid (F1.out.then_no hf); clear hf
  go_wp2_with fail
  simp only [HT.out]
  refine (C3.out _).mono ?_
  rintro e w3 ⟨rfl, hf⟩
  have F3 := Lib.hid (F2.out.then_no hf); clear hf
  go_wp2_with fail
  refine (C4.out _).mono ?_
  rintro e w4 ⟨rfl, hf⟩
  rw [C5.out]
  have F4 := Lib.hid (F3.out.then_no hf); clear hf
  go_wp2_with fail
  refine (works_any _).mono ?_
  rintro e w5 ⟨rfl, hf⟩
  have F5 := Lib.hid (F4.out.then_no hf); clear hf
  go_wp2
  go_ret
  exact ⟨rfl, F5.out⟩
/-! ### The order of stamps -/
theorem bl1 (a b : UInt8) (x y : Str) : Op.bytesLess (a :: x) (b :: y) = if a.toNat < b.toNat then true else if a.toNat = b.toNat then Op.bytesLess x y else false := by
  simp only [Op.bytesLess]
  by_cases h1 : a.toNat < b.toNat
  · have : a < b := UInt8.lt_iff_toNat_lt.2 h1
    simp [h1, this]
  · have : ¬ a < b := fun h => h1 (UInt8.lt_iff_toNat_lt.1 h)
    by_cases h2 : a.toNat = b.toNat
    · have h3 : a = b := UInt8.toNat_inj.1 h2
      subst h3
      simp
    · have h3 : ¬ a = b := fun h => h2 (by rw [h])
      simp [h1, h2, h3, this]
theorem bl2 {p q : Int} (hp : 0 ≤ p ∧ p < 100) (hq : 0 ≤ q ∧ q < 100) (x y : Str) : Op.bytesLess (dg (p / 10) :: dg p :: x) (dg (q / 10) :: dg q :: y) = if p = q then Op.bytesLess x y else decide (p < q) := by
  rw [bl1, bl1, dg_nat, dg_nat, dg_nat, dg_nat]
  by_cases h : p = q
  · subst h; simp
  · rw [if_neg h]
    by_cases h2 : p < q
    · rw [decide_eq_true h2]
      split
      · rfl
      · rw [if_pos (by omega), if_pos (by omega)]
    · rw [decide_eq_false h2, if_neg (by omega)]
      split
      · rw [if_neg (by omega), if_neg (by omega)]
      · rfl
theorem bl4 {p q : Int} (hp : 0 ≤ p ∧ p < 10000) (hq : 0 ≤ q ∧ q < 10000) (x y : Str) : Op.bytesLess (dg (p / 1000) :: dg (p / 100) :: dg (p / 10) :: dg p :: x) (dg (q / 1000) :: dg (q / 100) :: dg (q / 10) :: dg q :: y) = if p = q then Op.bytesLess x y else decide (p < q) := by
  have e1 : dg (p / 1000) = dg (p / 100 / 10) := by rw [show p / 100 / 10 = p / 1000 by omega]
  have e2 : dg (q / 1000) = dg (q / 100 / 10) := by rw [show q / 100 / 10 = q / 1000 by omega]
  have e3 : dg (p / 10) = dg (p % 100 / 10) := by apply UInt8.toNat_inj.1; rw [dg_nat, dg_nat]; omega
  have e4 : dg p = dg (p % 100) := by apply UInt8.toNat_inj.1; rw [dg_nat, dg_nat]; omega
  have e5 : dg (q / 10) = dg (q % 100 / 10) := by apply UInt8.toNat_inj.1; rw [dg_nat, dg_nat]; omega
  have e6 : dg q = dg (q % 100) := by apply UInt8.toNat_inj.1; rw [dg_nat, dg_nat]; omega
  rw [e1, e2, e3, e4, e5, e6, bl2 (by omega) (by omega), bl2 (by omega) (by omega)]
  by_cases h : p = q
  · subst h; simp
  · rw [if_neg h]
    by_cases h2 : p / 100 = q / 100
    · rw [if_pos h2, if_neg (by omega)]
      exact decide_eq_decide.2 (by omega)
    · rw [if_neg h2]
      exact decide_eq_decide.2 (by omega)
theorem bl_same (a : UInt8) (x y : Str) : Op.bytesLess (a :: x) (a :: y) = Op.bytesLess x y := by rw [bl1]; simp
theorem day_lt {D y k d D' y' k' d'} (h : IsD D y k d) (h' : IsD D' y' k' d') (hl : y < y' ∨ (y = y' ∧ (k < k' ∨ (k = k' ∧ d < d')))) : D < D' := by
  rcases hl with hl | ⟨rfl, hl | ⟨rfl, hl⟩⟩
  · have := ahd_lt (y := y + 1) (z := y') (by have := h.y0; omega) (by omega)
    have := h.y2; have := h'.y1; omega
  · have := bef_up y (show k + 1 ≤ k' from hl)
    have := h.k2; have := h'.k1; omega
  · have := h.d; have := h'.d; omega
theorem fld_lt {n y k d a b c n' y' k' d' a' b' c'} (h : Fld n y k d a b c) (h' : Fld n' y' k' d' a' b' c')
    (hl : y < y' ∨ (y = y' ∧ (k < k' ∨ (k = k' ∧ (d < d' ∨ (d = d' ∧ (a < a' ∨ (a = a' ∧ (b < b' ∨ (b = b' ∧ c < c'))))))))))  : n < n' := by
  by_cases hd : y < y' ∨ (y = y' ∧ (k < k' ∨ (k = k' ∧ d < d')))
  · have := day_lt h.i h'.i hd
    omega
  · have e1 : y = y' := by omega
    have e2 : k = k' := by omega
    have e3 : d = d' := by omega
    subst e1 e2 e3
    have q1 := h.hn
    have q2 := h'.hn
    unfold nOf at q1 q2
    have := h.ha; have := h.hb; have := h.hc; have := h'.ha; have := h'.hb; have := h'.hc
    omega
theorem stamp_less {m n : Int} (hm : 0 ≤ m ∧ m ≤ lastT) (hn : 0 ≤ n ∧ n ≤ lastT) : Op.bytesLess (stampR m) (stampR n) = decide (m < n) := by
  obtain ⟨y, k, d, a, b, c, hf, he, hy⟩ := (good_stamp hm).fld
  obtain ⟨y', k', d', a', b', c', hf', he', hy'⟩ := (good_stamp hn).fld
  obtain ⟨b1, b2, b3, b4, b5, b6⟩ := hf.bnd hy
  obtain ⟨q1, q2, q3, q4, q5, q6⟩ := hf'.bnd hy'
  have hlt := fld_lt hf hf'
  have hgt := fld_lt hf' hf
  have heq : (y = y' ∧ k = k' ∧ d = d' ∧ a = a' ∧ b = b' ∧ c = c') → m = n := by
    rintro ⟨rfl, rfl, rfl, rfl, rfl, rfl⟩
    rw [hf.hn, hf'.hn]
  rw [he, he']
  unfold fmt
  rw [bl4 b1 q1, bl_same, bl2 b2 q2, bl_same, bl2 b3 q3, bl_same, bl2 b4 q4, bl_same, bl2 b5 q5, bl_same, bl2 b6 q6]
  have h0 : Op.bytesLess [] [] = false := rfl
  rw [h0]
  clear he he' hf hf' hm hn
  by_cases g1 : y = y'
  · rw [if_pos g1]
    by_cases g2 : (k : Int) + 1 = (k' : Int) + 1
    · rw [if_pos g2]
      by_cases g3 : d = d'
      · rw [if_pos g3]
        by_cases g4 : a = a'
        · rw [if_pos g4]
          by_cases g5 : b = b'
          · rw [if_pos g5]
            by_cases g6 : c = c'
            · rw [if_pos g6]
              have := heq ⟨g1, by omega, g3, g4, g5, g6⟩
              exact (decide_eq_false (by omega)).symm
            · rw [if_neg g6]
              exact decide_eq_decide.2 (by omega)
          · rw [if_neg g5]
            exact decide_eq_decide.2 (by omega)
        · rw [if_neg g4]
          exact decide_eq_decide.2 (by omega)
      · rw [if_neg g3]
        exact decide_eq_decide.2 (by omega)
    · rw [if_neg g2]
      exact decide_eq_decide.2 (by omega)
  · rw [if_neg g1]
    exact decide_eq_decide.2 (by omega)
theorem stamp_same {m n : Int} (hm : 0 ≤ m ∧ m ≤ lastT) (hn : 0 ≤ n ∧ n ≤ lastT) : (stampR m == stampR n) = decide (m = n) := by
  by_cases h : m = n
  · subst h; simp
  · rw [decide_eq_false h]
    exact beq_eq_false_iff_ne.2 fun e => h (Good.only ⟨hm.1, hm.2, e⟩ (good_stamp hn))
theorem walk_ClockOrder (W : World) (v0 : Value) (x0 : Int) (h0 : (RInt .u64) W (Ahead W.heap.size) [v0] x0) (v1 : Value) (x1 : Int) (h1 : (RInt .u64) W (Ahead W.heap.size) [v1] x1) : Calls Try.prog 10 #[v0, v1] W fun e w' => e = .returned (.bool true) ∧ Fr No W w' := by
  obtain ⟨h0, b0⟩ := h0
  obtain ⟨h1, b1⟩ := h1
  injection h0 with h0 _
  injection h1 with h1 _
  subst h0 h1
  have b0 := wf_u64 b0
  have b1 := wf_u64 b1
  obtain ⟨m, hm⟩ : ∃ t, x0 % 252455616000 = t := ⟨_, rfl⟩
  obtain ⟨n, hn⟩ : ∃ t, x1 % 252455616000 = t := ⟨_, rfl⟩
  have hmb : 0 ≤ m ∧ m ≤ 252455615999 := by omega
  have hnb : 0 ≤ n ∧ n ≤ 252455615999 := by omega
  have C1 := Lib.hid (fun w => stamp_any m w)
  have C2 := Lib.hid (fun w => stamp_any n w)
  have hs := stamp_less (m := m) (n := n) hmb hnb
  have hq := stamp_same (m := m) (n := n) hmb hnb
  have hq2 : (stampR m != stampR n) = !decide (m = n) := by rw [bne, hq]
  have hl := (good_stamp (n := m) hmb).len
  have hmn : (m == n) = decide (m = n) := by by_cases h : m = n <;> simp [h]
  obtain ⟨s, hs1⟩ : ∃ s, stampR m = s := ⟨_, rfl⟩
  obtain ⟨t, ht1⟩ : ∃ s, stampR n = s := ⟨_, rfl⟩
  rw [hs1] at C1 hs hq hq2 hl
  rw [ht1] at C2 hs hq hq2
  have HM := Lib.hid hm
  have HN := Lib.hid hn
  clear hm hn hs1 ht1
  have c3 := fun w => weekday_any m w
  have c4 := fun w => weekday_any (m + 86400) w
  have hw : m ≤ 252455529599 → wdR (m + 86400) = wdR m % 7 + 1 ∧ 1 ≤ wdR m ∧ wdR m ≤ 7 := by
    intro h
    have hh : m + 86400 ≤ lastT := by unfold lastT; omega
    unfold wdR
    have hmb2 : 0 ≤ m ∧ m ≤ lastT := hmb
    rw [if_pos ⟨by omega, hh⟩, if_pos hmb2]
    omega
  generalize wdR m = p at c3 hw
  generalize wdR (m + 86400) = q at c4 hw
  have C3 := Lib.hid c3
  have C4 := Lib.hid c4
  clear c3 c4
  go_enter Try.func10, Try.ntmps10
  go_wp2_with fail
  simp only [HM.out, HN.out]
  refine (C1.out _).mono ?_
  rintro e w1 ⟨rfl, hf⟩
  have F1 := Lib.hid hf; clear hf
  go_wp2_with fail
  refine (C2.out _).mono ?_
  rintro e w2 ⟨rfl, hf⟩
  have F2 := Lib.hid (F1.out.then_no hf); clear hf
  by_cases hm : m ≤ 252455529599
  · obtain ⟨rfl, hp1, hp2⟩ := hw hm
    clear hw
    go_wp2_with fail
    refine (C4.out _).mono ?_
    rintro e w3 ⟨rfl, rfl⟩
    go_wp2_with fail
    refine (C3.out _).mono ?_
    rintro e w3 ⟨rfl, rfl⟩
    go_wp2_with fail
    refine (works_any _).mono ?_
    rintro e w5 ⟨rfl, hf⟩
    have F5 := Lib.hid (F2.out.then_no hf); clear hf
    go_wp2
    go_ret
    exact ⟨rfl, F5.out⟩
  · clear hw
    go_wp2_with fail
    refine (works_any _).mono ?_
    rintro e w5 ⟨rfl, hf⟩
    have F5 := Lib.hid (F2.out.then_no hf); clear hf
    go_wp2
    go_ret
    exact ⟨rfl, F5.out⟩
end Clock
end Go.Proofs.Ytllnaflknnkgiaa
