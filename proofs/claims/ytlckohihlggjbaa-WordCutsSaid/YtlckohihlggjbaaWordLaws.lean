/- The statements of package word. -/
import Derived.Test.YtlckohihlggjbaaWordWorks
import Derived.Test.YtlckohihlggjbaaWordRMatch
import Derived.Test.YtlckohihlggjbaaLaw
namespace Go.Proofs.Ytlckohihlggjbaa
open Go.RowKit
set_option linter.unusedVariables false
set_option linter.unusedSimpArgs false
namespace Word
theorem is_fits {s : Str} (h : isR s = true) : fitsR s = true := by
  unfold isR at h
  unfold fitsR
  simp only [Bool.and_eq_true, decide_eq_true_eq] at h ⊢
  refine ⟨h.1, ?_⟩
  rw [List.all_eq_true] at *
  intro c hc
  have := h.2.1 c hc
  unfold fitB
  rw [this]; rfl
theorem inn_plain {c : UInt8} (h : innB c = true) : c ≠ 42 ∧ c ≠ 63 := by
  constructor
  · rintro rfl; exact absurd h (by decide)
  · rintro rfl; exact absurd h (by decide)
theorem plain_match {s : Str} (h : ∀ c ∈ s, c ≠ 42 ∧ c ≠ 63) (t : Str) : mB s t = decide (s = t) := by
  induction s generalizing t with
  | nil => rw [mB_nil]; cases t <;> simp
  | cons c s ih =>
    have hc := h c (by simp)
    cases t with
    | nil => rw [mB_end hc.1]; simp
    | cons d t =>
      rw [mB_cons hc.1, ih (fun x hx => h x (by simp [hx])) t]
      unfold okC
      have : (c == 63) = false := beq_eq_false_iff_ne.2 hc.2
      rw [this, Bool.false_or]
      by_cases e : c = d
      · subst e; by_cases e2 : s = t <;> simp [e2]
      · have : (c == d) = false := beq_eq_false_iff_ne.2 e
        rw [this]; simp [e]
theorem is_match {s : Str} (h : isR s = true) (t : Str) : matchR s t = decide (s = t) := by
  have hp : ∀ c ∈ s, c ≠ 42 ∧ c ≠ 63 := by
    intro c hc
    unfold isR at h
    simp only [Bool.and_eq_true, decide_eq_true_eq] at h
    exact inn_plain (List.all_eq_true.1 h.2.1 c hc)
  unfold matchR
  rw [is_fits h, Bool.true_and, plain_match hp]
theorem match_len {p s : Str} (h : matchR p s = true) : p.length ≤ 32 ∧ fitsR p = true ∧ mB p s = true := by
  unfold matchR at h
  simp only [Bool.and_eq_true] at h
  have h1 := h.1
  unfold fitsR at h1
  simp only [Bool.and_eq_true, decide_eq_true_eq] at h1
  exact ⟨h1.1.2, h.1, h.2⟩
theorem fits_app {p q : Str} (hl : (p ++ q).length ≤ 32) (h : fitsR p = true) (hq : q.all fitB = true) : fitsR (p ++ q) = true ∧ fitsR (q ++ p) = true := by
  unfold fitsR at h ⊢
  simp only [Bool.and_eq_true, decide_eq_true_eq, List.all_append, List.length_append] at h ⊢ hl
  exact ⟨⟨by omega, h.2, hq⟩, by omega, hq, h.2⟩
theorem star_behind {p s : Str} (m : Str) (h : matchR p s = true) (hl : p.length ≤ 31) : matchR (p ++ [42]) (s ++ m) = true := by
  obtain ⟨h1, h2, h3⟩ := match_len h
  unfold matchR
  rw [(fits_app (p := p) (q := [42]) (by simp; omega) h2 (by decide)).1, Bool.true_and, mB_snoc_star]
  exact ⟨s.length, by simp, by rw [List.take_left' rfl]; exact h3⟩
theorem star_ahead {p s : Str} (m : Str) (h : matchR p s = true) (hl : p.length ≤ 31) : matchR (42 :: p) (m ++ s) = true := by
  obtain ⟨h1, h2, h3⟩ := match_len h
  have hf := (fits_app (p := p) (q := [42]) (by simp; omega) h2 (by decide)).2
  unfold matchR
  rw [show (42 :: p : Str) = [42] ++ p from rfl, hf, Bool.true_and]
  show mB (42 :: p) (m ++ s) = true
  rw [mB_star]
  exact ⟨m.length, by simp, by rw [List.drop_left' rfl]; exact h3⟩
theorem ba_app (a b : Str) : (⟨a.toArray⟩ : ByteArray) ++ ⟨b.toArray⟩ = ⟨(a ++ b).toArray⟩ := by
  apply ByteArray.ext
  show (ByteArray.append _ _).data = _
  simp
set_option maxHeartbeats 1000000 in
theorem walk_WordIs (W : World) (v0 : Value) (x0 : Str) (h0 : RStr W (Ahead W.heap.size) [v0] x0) (v1 : Value) (x1 : Str) (h1 : RStr W (Ahead W.heap.size) [v1] x1) : Calls Try.prog 11 #[v0, v1] W fun e w' => e = .returned (.bool true) ∧ Fr No W w' := by
  obtain ⟨h0, b0⟩ := h0
  obtain ⟨h1, b1⟩ := h1
  injection h0 with h0 _
  injection h1 with h1 _
  subst h0 h1
  by_cases g0 : 200 < x0.length
  · go_enter Try.func11, Try.ntmps11
    go_wp2_with fail
    refine (works_any _).mono ?_
    rintro e w4 ⟨rfl, hf⟩
    have F4 := Lib.hid hf; clear hf
    go_wp2
    go_ret
    exact ⟨rfl, F4.out⟩
  by_cases g1 : 200 < x1.length
  · go_enter Try.func11, Try.ntmps11
    go_wp2_with fail
    refine (works_any _).mono ?_
    rintro e w4 ⟨rfl, hf⟩
    have F4 := Lib.hid hf; clear hf
    go_wp2
    go_ret
    exact ⟨rfl, F4.out⟩
  have C1 := Lib.hid (fun w => is_any x0 b0 w)
  have C2 := Lib.hid (fun w => ris_any x0 (by omega) w)
  have C3 := Lib.hid (fun w => fits_any x0 b0 w)
  have C4 := Lib.hid (fun w => rfits_any x0 (by omega) w)
  have C5 := Lib.hid (fun w => match_any x0 x0 b0 (by omega) w)
  have C6 := Lib.hid (fun w => match_any x0 x1 b0 (by omega) w)
  cases hi : isR x0
  · rw [hi] at C1 C2
    generalize fitsR x0 = f at C3 C4
    clear hi C5 C6
    go_enter Try.func11, Try.ntmps11
    go_wp2_with fail
    refine (C1.out _).mono ?_
    rintro e w1 ⟨rfl, rfl⟩
    go_wp2_with fail
    refine (C2.out _).mono ?_
    rintro e w1 ⟨rfl, rfl⟩
    go_wp2_with fail
    refine (C3.out _).mono ?_
    rintro e w1 ⟨rfl, rfl⟩
    go_wp2_with fail
    refine (C4.out _).mono ?_
    rintro e w1 ⟨rfl, rfl⟩
    go_wp2_with fail
    refine (C1.out _).mono ?_
    rintro e w1 ⟨rfl, rfl⟩
    go_wp2_with fail
    refine (works_any _).mono ?_
    rintro e w4 ⟨rfl, hf⟩
    have F4 := Lib.hid hf; clear hf
    go_wp2
    go_ret
    exact ⟨rfl, F4.out⟩
  · rw [hi] at C1 C2
    rw [is_fits hi] at C3 C4
    rw [is_match hi, decide_eq_true rfl] at C5
    rw [is_match hi] at C6
    obtain ⟨b, hb⟩ : ∃ b, decide (x0 = x1) = b := ⟨_, rfl⟩
    rw [hb] at C6
    have q : (x0 == x1) = b := by rw [← hb]; by_cases e : x0 = x1 <;> simp [e]
    clear hi hb
    go_enter Try.func11, Try.ntmps11
    go_wp2_with fail
    refine (C1.out _).mono ?_
    rintro e w1 ⟨rfl, rfl⟩
    go_wp2_with fail
    refine (C2.out _).mono ?_
    rintro e w1 ⟨rfl, rfl⟩
    go_wp2_with fail
    refine (C3.out _).mono ?_
    rintro e w1 ⟨rfl, rfl⟩
    go_wp2_with fail
    refine (C4.out _).mono ?_
    rintro e w1 ⟨rfl, rfl⟩
    go_wp2_with fail
    refine (C1.out _).mono ?_
    rintro e w1 ⟨rfl, rfl⟩
    go_wp2_with fail
    refine (C3.out _).mono ?_
    rintro e w1 ⟨rfl, rfl⟩
    go_wp2_with fail
    refine (C5.out _).mono ?_
    rintro e w1 ⟨rfl, hf⟩
    have F1 := Lib.hid hf; clear hf
    go_wp2_with fail
    refine (C6.out _).mono ?_
    rintro e w2 ⟨rfl, hf⟩
    have F2 := Lib.hid (F1.out.then_no hf); clear hf
    cases b
    all_goals
      go_wp2_with fail
      refine (works_any _).mono ?_
      rintro e w4 ⟨rfl, hf⟩
      have F4 := Lib.hid (F2.out.then_no hf); clear hf
      go_wp2
      go_ret
      exact ⟨rfl, F4.out⟩
set_option maxHeartbeats 1000000 in
theorem walk_WordMatches (W : World) (v0 : Value) (x0 : Str) (h0 : RStr W (Ahead W.heap.size) [v0] x0) (v1 : Value) (x1 : Str) (h1 : RStr W (Ahead W.heap.size) [v1] x1) (v2 : Value) (x2 : Str) (h2 : RStr W (Ahead W.heap.size) [v2] x2) : Calls Try.prog 12 #[v0, v1, v2] W fun e w' => e = .returned (.bool true) ∧ Fr No W w' := by
  obtain ⟨h0, b0⟩ := h0
  obtain ⟨h1, b1⟩ := h1
  obtain ⟨h2, b2⟩ := h2
  injection h0 with h0 _
  injection h1 with h1 _
  injection h2 with h2 _
  subst h0 h1 h2
  by_cases g : 60 < x0.length ∨ 60 < x1.length ∨ 60 < x2.length
  · have gg : 60 < x0.length ∨ (x0.length ≤ 60 ∧ 60 < x1.length) ∨ (x0.length ≤ 60 ∧ x1.length ≤ 60 ∧ 60 < x2.length) := by omega
    clear g
    rcases gg with g | ⟨g, g2⟩ | ⟨g, g2, g3⟩
    all_goals
      go_enter Try.func12, Try.ntmps12
      go_wp2_with fail
      refine (works_any _).mono ?_
      rintro e w4 ⟨rfl, hf⟩
      have F4 := Lib.hid hf; clear hf
      go_wp2
      go_ret
      exact ⟨rfl, F4.out⟩
  have g0 : x0.length ≤ 60 := by omega
  have g1 : x1.length ≤ 60 := by omega
  have g2 : x2.length ≤ 60 := by omega
  clear g
  have C1 := Lib.hid (fun w => match_any x0 x1 b0 (by omega) w)
  have C2 := Lib.hid (fun w => rmatch_any x0 x1 (by omega) (by omega) w)
  have C3 := Lib.hid (fun w => match_any (x0 ++ [42]) (x1 ++ x2) (by simp; unfold maxLen; omega) (by simp; omega) w)
  have C4 := Lib.hid (fun w => match_any (42 :: x0) (x2 ++ x1) (by simp; unfold maxLen; omega) (by simp; omega) w)
  have HS := Lib.hid (fun h hl => star_behind (p := x0) (s := x1) x2 h hl)
  have HT := Lib.hid (fun h hl => star_ahead (p := x0) (s := x1) x2 h hl)
  obtain ⟨b, hb⟩ : ∃ b, matchR x0 x1 = b := ⟨_, rfl⟩
  rw [hb] at C1 C2 HS HT
  clear hb
  cases b
  · clear C3 C4 HS HT
    go_enter Try.func12, Try.ntmps12
    go_wp2_with fail
    refine (C1.out _).mono ?_
    rintro e w1 ⟨rfl, hf⟩
    have F1 := Lib.hid hf; clear hf
    go_wp2_with fail
    refine (C2.out _).mono ?_
    rintro e w2 ⟨rfl, hf⟩
    have F2 := Lib.hid (F1.out.then_no hf); clear hf
    go_wp2_with fail
    refine (C1.out _).mono ?_
    rintro e w3 ⟨rfl, hf⟩
    have F3 := Lib.hid (F2.out.then_no hf); clear hf
    go_wp2_with fail
    refine (works_any _).mono ?_
    rintro e w4 ⟨rfl, hf⟩
    have F4 := Lib.hid (F3.out.then_no hf); clear hf
    go_wp2
    go_ret
    exact ⟨rfl, F4.out⟩
  by_cases g31 : 31 < x0.length
  · clear C3 C4 HS HT
    go_enter Try.func12, Try.ntmps12
    go_wp2_with fail
    refine (C1.out _).mono ?_
    rintro e w1 ⟨rfl, hf⟩
    have F1 := Lib.hid hf; clear hf
    go_wp2_with fail
    refine (C2.out _).mono ?_
    rintro e w2 ⟨rfl, hf⟩
    have F2 := Lib.hid (F1.out.then_no hf); clear hf
    go_wp2_with fail
    refine (C1.out _).mono ?_
    rintro e w3 ⟨rfl, hf⟩
    have F3 := Lib.hid (F2.out.then_no hf); clear hf
    go_wp2_with fail
    refine (works_any _).mono ?_
    rintro e w4 ⟨rfl, hf⟩
    have F4 := Lib.hid (F3.out.then_no hf); clear hf
    go_wp2
    go_ret
    exact ⟨rfl, F4.out⟩
  have e3 := HS.out rfl (by omega)
  have e4 := HT.out rfl (by omega)
  rw [e3] at C3
  rw [e4] at C4
  have D3 : Hid (∀ w, Calls Try.prog 47 #[.string (⟨x0.toArray⟩ ++ ⟨#[42]⟩), .string (⟨x1.toArray⟩ ++ ⟨x2.toArray⟩)] w fun e w' => e = .returned (.bool true) ∧ Fr No w w') := Lib.hid (fun w => by rw [show (⟨x0.toArray⟩ ++ ⟨#[42]⟩ : ByteArray) = ⟨(x0 ++ [42]).toArray⟩ from ba_app x0 [42], ba_app x1 x2]; exact C3.out w)
  have D4 : Hid (∀ w, Calls Try.prog 47 #[.string (⟨#[42]⟩ ++ ⟨x0.toArray⟩), .string (⟨x2.toArray⟩ ++ ⟨x1.toArray⟩)] w fun e w' => e = .returned (.bool true) ∧ Fr No w w') := Lib.hid (fun w => by rw [show (⟨#[42]⟩ ++ ⟨x0.toArray⟩ : ByteArray) = ⟨(42 :: x0).toArray⟩ from ba_app [42] x0, ba_app x2 x1]; exact C4.out w)
  clear HS HT e3 e4 C3 C4
  go_enter Try.func12, Try.ntmps12
  go_wp2_with fail
  refine (C1.out _).mono ?_
  rintro e w1 ⟨rfl, hf⟩
  have F1 := Lib.hid hf; clear hf
  go_wp2_with fail
  refine (C2.out _).mono ?_
  rintro e w2 ⟨rfl, hf⟩
  have F2 := Lib.hid (F1.out.then_no hf); clear hf
  go_wp2_with fail
  refine (C1.out _).mono ?_
  rintro e w3 ⟨rfl, hf⟩
  have F3 := Lib.hid (F2.out.then_no hf); clear hf
  go_wp2_with fail
  refine (D3.out _).mono ?_
  rintro e w4 ⟨rfl, hf⟩
  have F4 := Lib.hid (F3.out.then_no hf); clear hf
  go_wp2_with fail
  refine (D4.out _).mono ?_
  rintro e w5 ⟨rfl, hf⟩
  have F5 := Lib.hid (F4.out.then_no hf); clear hf
  go_wp2_with fail
  refine (works_any _).mono ?_
  rintro e w6 ⟨rfl, hf⟩
  have F6 := Lib.hid (F5.out.then_no hf); clear hf
  go_wp2
  go_ret
  exact ⟨rfl, F6.out⟩
theorem tot_small {l : List Str} (h : ∀ x ∈ l, x.length ≤ 50) : tot l ≤ 51 * l.length := by
  induction l with
  | nil => simp [tot]
  | cons a l ih =>
    have h1 := ih (fun x hx => h x (by simp [hx]))
    have h2 := h a (by simp)
    simp only [tot, List.map_cons, List.sum_cons, List.length_cons] at h1 ⊢
    omega
theorem tot_cut (s : Str) : tot (cutR s) ≤ s.length + 1 := by
  have := cutG_len s []
  simp only [tot, cutR]
  simp at this
  omega
set_option maxHeartbeats 2000000 in
theorem walk_WordCuts (W : World) (v0 : Value) (x0 : Str) (h0 : RStr W (Ahead W.heap.size) [v0] x0) (v1 : Value) (x1 : (List Str)) (h1 : (RSl 1 RStr) W (Ahead W.heap.size) [v1] x1) : Calls Try.prog 13 #[v0, v1] W fun e w' => e = .returned (.bool true) ∧ Fr No W w' := by
  obtain ⟨h0, b0⟩ := h0
  injection h0 with h0 _
  subst h0
  have HV := Lib.hid h1
  obtain ⟨A, cap, rfl, hc1, hc2, hel⟩ := h1.strs
  have HE := Lib.hid hel
  unfold maxLen at hc2
  clear hel h1
  by_cases g0 : 300 < x0.length
  · go_enter Try.func13, Try.ntmps13
    go_wp2_with fail
    refine (works_any _).mono ?_
    rintro e w4 ⟨rfl, hf⟩
    have F4 := Lib.hid hf; clear hf
    go_wp2
    go_ret
    exact ⟨rfl, F4.out⟩
  by_cases g1 : 20 < x1.length
  · go_enter Try.func13, Try.ntmps13
    go_wp2_with fail
    refine (works_any _).mono ?_
    rintro e w4 ⟨rfl, hf⟩
    have F4 := Lib.hid hf; clear hf
    go_wp2
    go_ret
    exact ⟨rfl, F4.out⟩
  go_enter Try.func13, Try.ntmps13
  go_wp2_with fail
  go_loop [5] (fun a => ∃ i : Nat, a = .int .i64 i ∧ i ≤ x1.length ∧ Hid (∀ x ∈ x1.take i, x.length ≤ 50)) (fun a => 30 - (intOf a).toNat)
  case atStart => exact ⟨0, rfl, by omega, Lib.hid (by simp)⟩
  case round =>
    obtain ⟨i, rfl, hi, HS⟩ := hrel
    by_cases hlt : i < x1.length
    · obtain ⟨ad, rfl, -, y1, -⟩ := HE.out i hlt
      obtain ⟨x, hx⟩ : ∃ x, x1[i] = x := ⟨_, rfl⟩
      rw [hx] at y1
      by_cases h50 : 50 < x.length
      · clear hx
        go_wp2_with fail
        refine (works_any _).mono ?_
        rintro e w4 ⟨rfl, hf⟩
        have F4 := Lib.hid hf; clear hf
        go_wp2
        go_ret
        exact ⟨rfl, F4.out⟩
      · have HS2 := Lib.hid (show ∀ y ∈ x1.take (i + 1), y.length ≤ 50 from by
          rw [List.take_succ_eq_append_getElem hlt, hx]
          intro y hy
          rcases List.mem_append.1 hy with hy | hy
          · exact HS.out y hy
          · rw [List.mem_singleton.1 hy]; omega)
        clear hx
        go_wp2_with fail
        go_round
        case rel => exact ⟨i + 1, by go_num, by omega, HS2⟩
        case measure => simp [intOf]; omega
    · have hall : ∀ y ∈ x1, y.length ≤ 50 := by have h := HS.out; rw [List.take_of_length_le (by omega)] at h; exact h
      have ht := tot_small hall
      have HT := Lib.hid (show tot x1 ≤ 1000000 by omega)
      have HC := Lib.hid (show tot (cutR x0) ≤ 1000000 by have := tot_cut x0; omega)
      have HCB := Lib.hid (cut_back x0)
      have HJL := Lib.hid (show (joinR (cutR x0)).length ≤ 1000000 by have := join_len (cutR x0); have := tot_cut x0; omega)
      have HML := Lib.hid (fun x (hx : x ∈ cutR x0) => show x.length ≤ maxLen by have := cutR_mem hx; unfold maxLen; omega)
      have C1 := Lib.hid (fun w => cut_any x0 w (by omega))
      have C2 := Lib.hid (fun w => rcut_any x0 w (by omega))
      have C3 := Lib.hid (fun w => cut_any (joinR (cutR x0)) w HJL.out)
      obtain ⟨J, hJ⟩ : ∃ J, joinR (cutR x0) = J := ⟨_, rfl⟩
      rw [hJ] at C3 HCB
      have HJ := Lib.hid hJ
      rw [HCB.out] at C3
      obtain ⟨c, hc⟩ : ∃ c, cutR x0 = c := ⟨_, rfl⟩
      rw [hc] at C1 C2 C3 HML HC HJ
      have HCL := Lib.hid (show c.length ≤ 301 by have := cutR_len x0; rw [hc] at this; omega)
      clear hall ht hJ hc HCB HJL HS
      go_wp2_with fail
      refine (C1.out _).mono ?_
      rintro e w1 ⟨u1, rfl, ho, hs⟩
      obtain ⟨A1, c1, hu⟩ := own_form ho
      subst hu
      have H1 := Lib.hid (And.intro ho hs.1)
      clear ho hs
      go_wp2_with fail
      refine (C2.out _).mono ?_
      rintro e w2 ⟨u2, rfl, ho, hs⟩
      have H2 := Lib.hid (And.intro ho hs.1)
      clear ho hs
      have H12 : Hid (w2.ownsRow 0 9 1 (.slice A1 c.length c1) c.length (c.map encS) ∧ Fr No W w2) := Lib.hid ⟨own_fr H1.out.1 H2.out.2 (fun k hk h => h), H1.out.2.then_no H2.out.2⟩
      have R1 := Lib.hid (own_strs H12.out.1 HML.out)
      go_wp2_with fail
      refine (same_any _ _ c c _ _ _ R1.out (own_strs H2.out.1 HML.out)).mono ?_
      rintro e w3 ⟨rfl, n3, rfl⟩
      rw [decide_eq_true (rfl : c = c)]
      obtain ⟨W3, hW⟩ : ∃ W, w2.drewN n3 = W := ⟨_, rfl⟩
      have H3 : Hid (W3.ownsRow 0 9 1 (.slice A1 c.length c1) c.length (c.map encS) ∧ Fr No W W3) := Lib.hid (hW ▸ ⟨H12.out.1, H12.out.2.drewN _⟩)
      rw [hW]
      clear hW H12 R1 H2 H1
      go_wp2_with fail
      refine (join_any (.slice A1 c.length c1) c _ _ (fun k hk => (H3.out.1.lt k hk).2) (own_strs H3.out.1 HML.out) HC.out).mono ?_
      rintro e w4 ⟨rfl, hf⟩
      rw [HJ.out]
      have H4 : Hid (w4.ownsRow 0 9 1 (.slice A1 c.length c1) c.length (c.map encS) ∧ Fr No W w4) := Lib.hid ⟨own_fr H3.out.1 hf (fun k hk h => h), H3.out.2.then_no hf⟩
      clear hf H3
      go_wp2_with fail
      refine (C3.out _).mono ?_
      rintro e w5 ⟨u5, rfl, ho, hs⟩
      have H5 : Hid (w5.ownsRow 0 9 1 (.slice A1 c.length c1) c.length (c.map encS) ∧ Fr No W w5) := Lib.hid ⟨own_fr H4.out.1 hs.1 (fun k hk h => h), H4.out.2.then_no hs.1⟩
      have HO5 := Lib.hid ho
      clear ho hs H4
      go_wp2_with fail
      refine (same_any _ _ c c _ _ _ (own_strs HO5.out HML.out) (own_strs H5.out.1 HML.out)).mono ?_
      rintro e w6 ⟨rfl, n6, rfl⟩
      rw [decide_eq_true (rfl : c = c)]
      have F6 := Lib.hid (H5.out.2.drewN n6)
      have V6 := Lib.hid (strs_go HV.out (Kept.of_no F6.out (fun k hk => hk)) (fun k hk => hk))
      have hah := Lib.hid (fun k (hk : Ahead W.heap.size k) => Nat.lt_of_lt_of_le hk F6.out.size)
      generalize w5.drewN n6 = W6 at F6 V6 hah ⊢
      clear H5 HO5
      go_wp2_with fail
      refine (join_any (.slice A x1.length cap) x1 _ _ hah.out V6.out HT.out).mono ?_
      rintro e w7 ⟨rfl, hf⟩
      have F7 := Lib.hid (F6.out.then_no hf)
      clear hf V6 hah
      have V7 := Lib.hid (strs_go HV.out (Kept.of_no F7.out (fun k hk => hk)) (fun k hk => hk))
      go_wp2_with fail
      refine (rjoin_any (.slice A x1.length cap) x1 _ _ V7.out HT.out).mono ?_
      rintro e w8 ⟨rfl, n8, rfl⟩
      have F8 := Lib.hid (F7.out.drewN n8)
      have V8 := Lib.hid (strs_go HV.out (Kept.of_no F8.out (fun k hk => hk)) (fun k hk => hk))
      generalize w7.drewN n8 = W8 at F8 V8 ⊢
      generalize joinR x1 = jx
      clear V7
      go_wp2_with fail
      refine (wsort_any (.slice A x1.length cap) x1 _ _ V8.out (by omega)).mono ?_
      rintro e w9 ⟨u9, rfl, ho, hs⟩
      have F9 := Lib.hid (F8.out.then_no hs.1)
      have HO9 := Lib.hid ho
      clear ho hs V8
      have V9 := Lib.hid (strs_go HV.out (Kept.of_no F9.out (fun k hk => hk)) (fun k hk => hk))
      have hah := Lib.hid (fun k (hk : Ahead W.heap.size k) => Nat.lt_of_lt_of_le hk F9.out.size)
      go_wp2_with fail
      refine (rsort_any (.slice A x1.length cap) x1 _ _ V9.out hah.out (by omega)).mono ?_
      rintro e w10 ⟨u10, rfl, ho, hs⟩
      have F10 := Lib.hid (F9.out.then_no hs.1)
      have HSL := Lib.hid (fun x (hx : x ∈ sortR x1) => show x.length ≤ maxLen by
        obtain ⟨j, hj, rfl⟩ := List.getElem_of_mem ((sort_mem x1 x).1 hx)
        obtain ⟨_, _, _, _, h⟩ := HE.out j hj
        exact h)
      have HA10 := Lib.hid (own_strs (own_fr HO9.out hs.1 (fun k hk h => h)) HSL.out)
      have HB10 := Lib.hid (own_strs ho HSL.out)
      clear ho hs V9 hah HO9
      go_wp2_with fail
      refine (same_any _ _ (sortR x1) (sortR x1) _ _ _ HA10.out HB10.out).mono ?_
      rintro e w11 ⟨rfl, n11, rfl⟩
      rw [decide_eq_true (rfl : sortR x1 = sortR x1)]
      have F11 := Lib.hid (F10.out.drewN n11)
      generalize w10.drewN n11 = W11 at F11 ⊢
      go_wp2_with fail
      refine (works_any _).mono ?_
      rintro e w12 ⟨rfl, hf⟩
      have F12 := Lib.hid (F11.out.then_no hf)
      clear hf
      go_wp2
      go_ret
      exact ⟨rfl, F12.out⟩
end Word
end Go.Proofs.Ytlckohihlggjbaa
