/- Statement LinePlays of package line. Printed by gen_lnpl.py. -/
import Derived.Test.YtnfkkonmhinlcaaLnZ
import Derived.Deep.RegionHeld3
namespace Go.Proofs.Ytnfkkonmhinlcaa
open Go.RowKit
set_option linter.unusedVariables false
set_option linter.unusedSimpArgs false
namespace Ln
open Run (O ROp timesR endsR dueT nextT chk chkR Fit)
theorem newS_zero {b c j : Int} {t : Str} (h : (newS b c j t).2 ≠ 0) : newS b c j t = (zeroS, (newS b c j t).2) := by
  unfold newS at h ⊢
  by_cases h1 : Backoff.ok b c j = false
  · rw [if_pos h1]
  · rw [if_neg h1] at h ⊢
    by_cases h2 : (Brk.readR t).2 ≠ 0
    · rw [if_pos h2]
    · rw [if_neg h2] at h
      exact absurd rfl h
theorem newS_some {b c j : Int} {t : Str} (h : (newS b c j t).2 = 0) : ∃ L, newS b c j t = (⟨b, c, j, 0, 0, 0, L, [], 0, 0, []⟩, 0) := by
  unfold newS at h ⊢
  by_cases h1 : Backoff.ok b c j = false
  · rw [if_pos h1] at h; cases h
  · rw [if_neg h1] at h ⊢
    by_cases h2 : (Brk.readR t).2 ≠ 0
    · rw [if_pos h2] at h; exact absurd h h2
    · rw [if_neg h2]
      exact ⟨_, rfl⟩
theorem tries_at {w X : World} {G : Nat → Prop} {g : Nat} {s : S} (h : LW w G g s) : ∃ gw, w.cell? ⟨g, 0, none⟩ = some (.pointer (some ⟨gw, 0, none⟩)) ∧ w.frozen? ⟨g, 0, none⟩ = false ∧ ∀ X, Fr No w X → X.cell? ⟨g, 0, none⟩ = some (.pointer (some ⟨gw, 0, none⟩)) ∧ Calls Try.prog 21 #[.pointer (some ⟨gw, 0, none⟩)] X fun e w' => e = .returned (.int .i64 s.n) ∧ X = w' := by
  obtain ⟨gw, vF, rp, vh, Gr, h⟩ := h
  exact ⟨gw, h.blk.cell 0, h.blk.frozen 0, fun X hX => ⟨(h.no hX).blk.cell 0, Backoff.tries_any (h.no hX).wait⟩⟩
set_option maxRecDepth 100000 in
set_option maxHeartbeats 8000000 in
theorem plays_any (nm t : Str) (k1 k2 k3 k4 k5 b c j start : Int) (hst : -9223372036854775808 ≤ start) (v : Value) (l : List X19) (W : World) (hv : RSl 6 R19 W (Ahead W.heap.size) [v] l) :
    Calls Try.prog 4 #[.agg #[.string ⟨nm.toArray⟩, .int .i64 k1, .int .i64 k2, .int .i64 k3, .int .i64 k4, .int .i64 k5, .int .i64 b, .int .i64 c, .int .i64 j, .string ⟨t.toArray⟩], .int .i64 start, v] W fun e w' => e = .returned (.bool true) ∧ Fr No W w' := by
  obtain ⟨Av, cv, rfl, hv1, hv2⟩ := hv.slice
  have HV := Lib.hid hv
  obtain ⟨ln, hln⟩ : ∃ ln, ln = l.length := ⟨_, rfl⟩
  have HLN := Lib.hid hln
  rw [← hln] at hv1 ⊢
  clear hv hln
  unfold maxLen at hv2
  have XB := Lib.hid (Blk.new W 29 #[.string ⟨nm.toArray⟩, .int .i64 k1, .int .i64 k2, .int .i64 k3, .int .i64 k4, .int .i64 k5, .int .i64 b, .int .i64 c, .int .i64 j, .string ⟨t.toArray⟩])
  have F1 := Lib.hid ((Fr.refl No W).alloc (.cells #[.string ⟨nm.toArray⟩, .int .i64 k1, .int .i64 k2, .int .i64 k3, .int .i64 k4, .int .i64 k5, .int .i64 b, .int .i64 c, .int .i64 j, .string ⟨t.toArray⟩] 29))
  obtain ⟨bx, hbx⟩ : ∃ bx, W.heap.size = bx := ⟨_, rfl⟩
  have HBX := Lib.hid hbx
  have XB := Lib.hid (show Blk _ bx _ _ by rw [← hbx]; exact XB.out)
  by_cases hg : 255 < t.length ∨ 80 < ln ∨ 2199023255552 < start
  · have hg : 255 < t.length ∨ (t.length ≤ 255 ∧ 80 < ln) ∨ (t.length ≤ 255 ∧ ln ≤ 80 ∧ 2199023255552 < start) := by omega
    rcases hg with h1 | ⟨h1, h2⟩ | ⟨h1, h2, h3⟩
    · have h6 : decide (255 < (t.length : Int)) = true := decide_eq_true (by omega)
      go_enter Try.func4, Try.ntmps4
      go_upto_region 1 with (fail)
      generalize W.alloc (.cells #[.string ⟨nm.toArray⟩, .int .i64 k1, .int .i64 k2, .int .i64 k3, .int .i64 k4, .int .i64 k5, .int .i64 b, .int .i64 c, .int .i64 j, .string ⟨t.toArray⟩] 29) = w1 at XB F1 ⊢
      clear hbx
      have xo := XB.out
      have x0 := xo.cell 0
      have xf0 := xo.frozen 0
      have x1 := xo.cell 1
      have xf1 := xo.frozen 1
      have x2 := xo.cell 2
      have xf2 := xo.frozen 2
      have x3 := xo.cell 3
      have xf3 := xo.frozen 3
      have x4 := xo.cell 4
      have xf4 := xo.frozen 4
      have x5 := xo.cell 5
      have xf5 := xo.frozen 5
      have x6 := xo.cell 6
      have xf6 := xo.frozen 6
      have x7 := xo.cell 7
      have xf7 := xo.frozen 7
      have x8 := xo.cell 8
      have xf8 := xo.frozen 8
      have x9 := xo.cell 9
      have xf9 := xo.frozen 9
      simp only [List.getElem?_toArray, List.getElem?_cons_zero, List.getElem?_cons_succ] at x0 x1 x2 x3 x4 x5 x6 x7 x8 x9
      clear xo
      go_wp2_with (go_at_call 6; refine (works_any _).mono ?_; rintro e w' ⟨rfl, hf⟩; have Hf := Lib.hid hf; clear hf)
      go_ret
      exact ⟨rfl, F1.out.then_no Hf.out⟩
    · have h6 : decide (255 < (t.length : Int)) = false := decide_eq_false (by omega)
      have h5 : decide (80 < (ln : Int)) = true := decide_eq_true (by omega)
      go_enter Try.func4, Try.ntmps4
      go_upto_region 1 with (fail)
      generalize W.alloc (.cells #[.string ⟨nm.toArray⟩, .int .i64 k1, .int .i64 k2, .int .i64 k3, .int .i64 k4, .int .i64 k5, .int .i64 b, .int .i64 c, .int .i64 j, .string ⟨t.toArray⟩] 29) = w1 at XB F1 ⊢
      clear hbx
      have xo := XB.out
      have x0 := xo.cell 0
      have xf0 := xo.frozen 0
      have x1 := xo.cell 1
      have xf1 := xo.frozen 1
      have x2 := xo.cell 2
      have xf2 := xo.frozen 2
      have x3 := xo.cell 3
      have xf3 := xo.frozen 3
      have x4 := xo.cell 4
      have xf4 := xo.frozen 4
      have x5 := xo.cell 5
      have xf5 := xo.frozen 5
      have x6 := xo.cell 6
      have xf6 := xo.frozen 6
      have x7 := xo.cell 7
      have xf7 := xo.frozen 7
      have x8 := xo.cell 8
      have xf8 := xo.frozen 8
      have x9 := xo.cell 9
      have xf9 := xo.frozen 9
      simp only [List.getElem?_toArray, List.getElem?_cons_zero, List.getElem?_cons_succ] at x0 x1 x2 x3 x4 x5 x6 x7 x8 x9
      clear xo
      go_wp2_with (go_at_call 6; refine (works_any _).mono ?_; rintro e w' ⟨rfl, hf⟩; have Hf := Lib.hid hf; clear hf)
      go_ret
      exact ⟨rfl, F1.out.then_no Hf.out⟩
    · have h6 : decide (255 < (t.length : Int)) = false := decide_eq_false (by omega)
      have h5 : decide (80 < (ln : Int)) = false := decide_eq_false (by omega)
      have h4 : decide (2199023255552 < start) = true := decide_eq_true h3
      go_enter Try.func4, Try.ntmps4
      go_upto_region 1 with (fail)
      generalize W.alloc (.cells #[.string ⟨nm.toArray⟩, .int .i64 k1, .int .i64 k2, .int .i64 k3, .int .i64 k4, .int .i64 k5, .int .i64 b, .int .i64 c, .int .i64 j, .string ⟨t.toArray⟩] 29) = w1 at XB F1 ⊢
      clear hbx
      have xo := XB.out
      have x0 := xo.cell 0
      have xf0 := xo.frozen 0
      have x1 := xo.cell 1
      have xf1 := xo.frozen 1
      have x2 := xo.cell 2
      have xf2 := xo.frozen 2
      have x3 := xo.cell 3
      have xf3 := xo.frozen 3
      have x4 := xo.cell 4
      have xf4 := xo.frozen 4
      have x5 := xo.cell 5
      have xf5 := xo.frozen 5
      have x6 := xo.cell 6
      have xf6 := xo.frozen 6
      have x7 := xo.cell 7
      have xf7 := xo.frozen 7
      have x8 := xo.cell 8
      have xf8 := xo.frozen 8
      have x9 := xo.cell 9
      have xf9 := xo.frozen 9
      simp only [List.getElem?_toArray, List.getElem?_cons_zero, List.getElem?_cons_succ] at x0 x1 x2 x3 x4 x5 x6 x7 x8 x9
      clear xo
      go_wp2_with (go_at_call 6; refine (works_any _).mono ?_; rintro e w' ⟨rfl, hf⟩; have Hf := Lib.hid hf; clear hf)
      go_ret
      exact ⟨rfl, F1.out.then_no Hf.out⟩
  obtain ⟨h1, h2, h3⟩ : t.length ≤ 255 ∧ ln ≤ 80 ∧ start ≤ 2199023255552 := by omega
  clear hg
  have h4 : decide (2199023255552 < start) = false := decide_eq_false (by omega)
  have h6 : decide (255 < (t.length : Int)) = false := decide_eq_false (by omega)
  have h5 : decide (80 < (ln : Int)) = false := decide_eq_false (by omega)
  have HT := Lib.hid h1
  by_cases hq : (newS b c j t).2 = 0
  rotate_left
  · have hz := newS_zero hq
    obtain ⟨q, hqq⟩ : ∃ q, q = (newS b c j t).2 := ⟨_, rfl⟩
    rw [← hqq] at hq hz
    have HZ := Lib.hid hz
    have g0 : (q == 0) = false := by simpa using hq
    have HQ := Lib.hid hq
    clear hz hqq hq
    go_enter Try.func4, Try.ntmps4
    go_upto_region 1 with (fail)
    generalize W.alloc (.cells #[.string ⟨nm.toArray⟩, .int .i64 k1, .int .i64 k2, .int .i64 k3, .int .i64 k4, .int .i64 k5, .int .i64 b, .int .i64 c, .int .i64 j, .string ⟨t.toArray⟩] 29) = w1 at XB F1 ⊢
    clear hbx
    have xo := XB.out
    have x0 := xo.cell 0
    have xf0 := xo.frozen 0
    have x1 := xo.cell 1
    have xf1 := xo.frozen 1
    have x2 := xo.cell 2
    have xf2 := xo.frozen 2
    have x3 := xo.cell 3
    have xf3 := xo.frozen 3
    have x4 := xo.cell 4
    have xf4 := xo.frozen 4
    have x5 := xo.cell 5
    have xf5 := xo.frozen 5
    have x6 := xo.cell 6
    have xf6 := xo.frozen 6
    have x7 := xo.cell 7
    have xf7 := xo.frozen 7
    have x8 := xo.cell 8
    have xf8 := xo.frozen 8
    have x9 := xo.cell 9
    have xf9 := xo.frozen 9
    simp only [List.getElem?_toArray, List.getElem?_cons_zero, List.getElem?_cons_succ] at x0 x1 x2 x3 x4 x5 x6 x7 x8 x9
    clear xo
    go_wp2_with (first | (go_at_call 7; refine (new_any nm t k1 k2 k3 k4 k5 b c j _).mono ?_; intro e w2 hm; rw [HZ.out] at hm; obtain ⟨rfl, hf⟩ := new_not hm HQ.out; have F2 := Lib.hid (F1.out.then_no hf); have XB2 := Lib.hid (XB.out.fr hf (fun h => h)); clear hm hf; clear x0 xf0 x1 xf1 x2 xf2 x3 xf3 x4 xf4 x5 xf5 x6 xf6 x7 xf7 x8 xf8 x9 xf9; have xo := XB2.out; have x0 := xo.cell 0; have xf0 := xo.frozen 0; have x1 := xo.cell 1; have xf1 := xo.frozen 1; have x2 := xo.cell 2; have xf2 := xo.frozen 2; have x3 := xo.cell 3; have xf3 := xo.frozen 3; have x4 := xo.cell 4; have xf4 := xo.frozen 4; have x5 := xo.cell 5; have xf5 := xo.frozen 5; have x6 := xo.cell 6; have xf6 := xo.frozen 6; have x7 := xo.cell 7; have xf7 := xo.frozen 7; have x8 := xo.cell 8; have xf8 := xo.frozen 8; have x9 := xo.cell 9; have xf9 := xo.frozen 9; simp only [List.getElem?_toArray, List.getElem?_cons_zero, List.getElem?_cons_succ] at x0 x1 x2 x3 x4 x5 x6 x7 x8 x9; clear xo) | (go_at_call 16; refine (rnew_any nm t k1 k2 k3 k4 k5 b c j HT.out _).mono ?_; intro e w3 hm; rw [HZ.out] at hm; obtain ⟨vF, vL, rfl, hR, hf⟩ := hm; obtain ⟨A0, c0, rfl, -, -⟩ := hR.first.slice; obtain ⟨B0, d0, rfl, -, -⟩ := hR.seq.slice; have F3 := Lib.hid (F2.out.then_no hf); have ev : agL (.slice A0 (zeroS, q).1.first.length c0) (.slice B0 (zeroS, q).1.seq.length d0) (zeroS, q).1 = .agg #[.int .i64 0, .int .i64 0, .int .i64 0, .int .i64 0, .int .i64 0, .int .i64 0, .slice A0 0 c0, .slice B0 0 d0, .int .i64 0, .int .i64 0, .string ⟨#[]⟩] := rfl; rw [ev]; clear hR hf ev) | (go_at_call 6; refine (works_any _).mono ?_; rintro e w' ⟨rfl, hf⟩; have Hf := Lib.hid hf; clear hf))
    go_ret
    exact ⟨rfl, (F3.out.alloc _).then_no Hf.out⟩
  have hk0 := newS_ok hq
  obtain ⟨L, hz⟩ := newS_some hq
  have HZ := Lib.hid hz
  rw [hz] at hk0
  have HK0 := Lib.hid hk0
  clear hz hq hk0
  go_enter Try.func4, Try.ntmps4
  go_upto_region 1 with (fail)
  generalize W.alloc (.cells #[.string ⟨nm.toArray⟩, .int .i64 k1, .int .i64 k2, .int .i64 k3, .int .i64 k4, .int .i64 k5, .int .i64 b, .int .i64 c, .int .i64 j, .string ⟨t.toArray⟩] 29) = w1 at XB F1 ⊢
  clear hbx
  have xo := XB.out
  have x0 := xo.cell 0
  have xf0 := xo.frozen 0
  have x1 := xo.cell 1
  have xf1 := xo.frozen 1
  have x2 := xo.cell 2
  have xf2 := xo.frozen 2
  have x3 := xo.cell 3
  have xf3 := xo.frozen 3
  have x4 := xo.cell 4
  have xf4 := xo.frozen 4
  have x5 := xo.cell 5
  have xf5 := xo.frozen 5
  have x6 := xo.cell 6
  have xf6 := xo.frozen 6
  have x7 := xo.cell 7
  have xf7 := xo.frozen 7
  have x8 := xo.cell 8
  have xf8 := xo.frozen 8
  have x9 := xo.cell 9
  have xf9 := xo.frozen 9
  simp only [List.getElem?_toArray, List.getElem?_cons_zero, List.getElem?_cons_succ] at x0 x1 x2 x3 x4 x5 x6 x7 x8 x9
  clear xo
  go_upto_region 5 with (first | (go_at_call 7; refine (new_any nm t k1 k2 k3 k4 k5 b c j _).mono ?_; intro e w2 hm; rw [HZ.out] at hm; obtain ⟨g, G0, rfl, hn⟩ := new_now hm rfl; have F2 := Lib.hid (F1.out.then_no hn.fr); have XB2 := Lib.hid (XB.out.fr hn.fr (fun h => h)); have N2 := Lib.hid hn; clear hm hn; clear x0 xf0 x1 xf1 x2 xf2 x3 xf3 x4 xf4 x5 xf5 x6 xf6 x7 xf7 x8 xf8 x9 xf9; have xo := XB2.out; have x0 := xo.cell 0; have xf0 := xo.frozen 0; have x1 := xo.cell 1; have xf1 := xo.frozen 1; have x2 := xo.cell 2; have xf2 := xo.frozen 2; have x3 := xo.cell 3; have xf3 := xo.frozen 3; have x4 := xo.cell 4; have xf4 := xo.frozen 4; have x5 := xo.cell 5; have xf5 := xo.frozen 5; have x6 := xo.cell 6; have xf6 := xo.frozen 6; have x7 := xo.cell 7; have xf7 := xo.frozen 7; have x8 := xo.cell 8; have xf8 := xo.frozen 8; have x9 := xo.cell 9; have xf9 := xo.frozen 9; simp only [List.getElem?_toArray, List.getElem?_cons_zero, List.getElem?_cons_succ] at x0 x1 x2 x3 x4 x5 x6 x7 x8 x9; clear xo) | (go_at_call 16; refine (rnew_any nm t k1 k2 k3 k4 k5 b c j HT.out _).mono ?_; intro e w3 hm; rw [HZ.out] at hm; obtain ⟨vF, vL, rfl, hR, hf⟩ := hm; obtain ⟨A0, c0, rfl, -, -⟩ := hR.first.slice; obtain ⟨B0, d0, rfl, -, -⟩ := hR.seq.slice; have F3 := Lib.hid hf; obtain ⟨n0, hn0⟩ : ∃ n0, n0 = L.length := ⟨_, rfl⟩; have HR3 := Lib.hid (show RL w3 (New w2 w3) (.slice A0 n0 c0) (.slice B0 0 d0) ⟨b, c, j, 0, 0, 0, L, [], 0, 0, []⟩ from (by rw [hn0]; exact hR)); have HN0 := Lib.hid hn0; have ev : agL (.slice A0 L.length c0) (.slice B0 0 d0) ⟨b, c, j, 0, 0, 0, L, [], 0, 0, []⟩ = .agg #[.int .i64 b, .int .i64 c, .int .i64 j, .int .i64 0, .int .i64 0, .int .i64 0, .slice A0 n0 c0, .slice B0 0 d0, .int .i64 0, .int .i64 0, .string ⟨#[]⟩] := (by rw [hn0]; rfl); simp only [List.length_nil] at ev ⊢; rw [ev]; clear hR hf ev hn0))
  have N3 := Lib.hid (N2.out.no F3.out)
  have hL4 := (Blk.new w3 46 #[.int .i64 b, .int .i64 c, .int .i64 j, .int .i64 0, .int .i64 0, .int .i64 0, .slice A0 n0 c0, .slice B0 0 d0, .int .i64 0, .int .i64 0, .string ⟨#[]⟩])
  have F34 := Lib.hid ((Fr.refl No w3).alloc (.cells #[.int .i64 b, .int .i64 c, .int .i64 j, .int .i64 0, .int .i64 0, .int .i64 0, .slice A0 n0 c0, .slice B0 0 d0, .int .i64 0, .int .i64 0, .string ⟨#[]⟩] 46))
  obtain ⟨bq, hbq⟩ : ∃ bq, w3.heap.size = bq := ⟨_, rfl⟩
  rw [hbq] at hL4 ⊢
  have HBK := Lib.hid (show ∀ z, (z < W.heap.size ∨ New w2 w3 z) → z < w3.heap.size ∧ ¬ G0 z from fun z hz => by
    have a := F1.out.size
    have b := N2.out.fr.size
    have c := F3.out.size
    rcases hz with e | e
    · exact ⟨by omega, fun hg => by have := N2.out.new z hg; omega⟩
    · exact ⟨e.2, fun hg => by have := N2.out.at'.lt z hg; have := e.1; omega⟩)
  have HB0 := Lib.hid (show Both W (w3.alloc (.cells #[.int .i64 b, .int .i64 c, .int .i64 j, .int .i64 0, .int .i64 0, .int .i64 0, .slice A0 n0 c0, .slice B0 0 d0, .int .i64 0, .int .i64 0, .string ⟨#[]⟩] 46)) (fun z => z < W.heap.size ∨ New w2 w3 z) G0 g bq (.slice A0 n0 c0) (.slice B0 0 d0) ⟨b, c, j, 0, 0, 0, L, [], 0, 0, []⟩ from by
    have a := F1.out.size
    have b := N2.out.fr.size
    have c := F3.out.size
    refine ⟨(N3.out.at').no F34.out, ?_, hL4, fun z hz => (HBK.out z hz).2, fun k hk => Nat.le_trans a (N3.out.new k hk), ⟨by omega, fun hg => by have := N3.out.at'.lt _ hg; omega⟩, fun hz => by have := (HBK.out _ hz).1; omega, (F2.out.then_no F3.out).then_no F34.out⟩
    exact ⟨(RSl.stable ROp.stable).go HR3.out.first (Kept.of_no F34.out (fun k hk => hk.2)) (fun k hk => .inr hk), (RSl.stable ROp.stable).go HR3.out.seq (Kept.of_no F34.out (fun k hk => hk.2)) (fun k hk => .inr hk), fun k hk => by rw [size_alloc]; have := (HBK.out k hk).1; omega⟩)
  obtain ⟨Bk, hBk⟩ : ∃ Bk : Nat → Prop, Bk = fun z => z < W.heap.size ∨ New w2 w3 z := ⟨_, rfl⟩
  rw [← hBk] at HB0
  have HBA := Lib.hid (show ∀ z, z < W.heap.size → Bk z from fun z hz => by rw [hBk]; exact .inl hz)
  generalize w3.alloc (.cells #[.int .i64 b, .int .i64 c, .int .i64 j, .int .i64 0, .int .i64 0, .int .i64 0, .slice A0 n0 c0, .slice B0 0 d0, .int .i64 0, .int .i64 0, .string ⟨#[]⟩] 46) = w4 at HB0 F34 ⊢
  clear hBk hL4 hbq
  clear x0 xf0 x1 xf1 x2 xf2 x3 xf3 x4 xf4 x5 xf5 x6 xf6 x7 xf7 x8 xf8 x9 xf9
  go_wp2_with fail
  go_loopw [11, 12] (fun nv iv wr => ∃ (k : Nat) (now : Int), iv = .int .i64 k ∧ nv = .int .i64 now ∧ k ≤ ln ∧ start ≤ now ∧ now ≤ start + 255 * k ∧ Hid (∃ s G vF vL, Both W wr Bk G g bq vF vL s ∧ Ok s k)) (fun _ i _ => ln - (intOf i).toNat)
  case atStart => exact ⟨0, start, rfl, rfl, by omega, by omega, by omega, ⟨_, _, _, _, HB0.out, HK0.out⟩⟩
  case round =>
    obtain ⟨k, now, rfl, rfl, hk, hn1, hn2, hrel⟩ := hrel
    by_cases hlt : k < ln
    · have hlt2 : k < l.length := by rw [← HLN.out]; exact hlt
      obtain ⟨ad, vo, rfl, hadl, hel, hops, hkd, hgap, hq, hul⟩ := op19_at (W := W) (A := Av) (n := ln) (c := cv) (show RSl 6 R19 W (Ahead W.heap.size) [.slice Av ln cv] l by rw [HLN.out]; exact HV.out) hlt2
      obtain ⟨s, G, vF, vL, hB, hOk⟩ := hrel.out
      clear hrel
      obtain ⟨D, d3, rfl, hD1, hD2⟩ := hops.slice
      obtain ⟨x, hx⟩ : ∃ x, x = l[k] := ⟨_, rfl⟩
      rw [← hx] at hel hops hkd hgap hq hul hD1
      obtain ⟨kd, gap, okb, q, u, ops⟩ := x
      simp only at hel hops hkd hgap hq hul hD1
      obtain ⟨ol, hol⟩ : ∃ ol, ol = ops.length := ⟨_, rfl⟩
      have HOL := Lib.hid hol
      rw [← hol] at hel hops hD1
      have HOPS := Lib.hid hops
      have HEL := Lib.hid hel
      have HB := Lib.hid hB
      have HOK := Lib.hid hOk
      clear hx hel hops hol hB hOk hlt2
      unfold maxLen at hD2 hul
      have hadr : (ad.add (k * 6)).block < wr.heap.size := Nat.lt_of_lt_of_le hadl HB.out.fr.size
      have HCL := Lib.hid (fun (F : Nat → Prop) (X : World) (hX : Fr F wr X) (hF : ∀ k, F k → W.heap.size ≤ k) => ((HEL.out.fr HB.out.fr hadl (fun h => h)).fr hX hadr (fun h => by have := hF _ h; omega)))
      have hc := HCL.out No wr (Fr.refl _ _) (fun _ h => h.elim)
      obtain ⟨el0, el1, el2, el3, el4, el5⟩ := hc
      simp only at el0 el1 el2 el3 el4 el5
      by_cases hu : 2000 < u.length
      · have hu2 : decide (2000 < (u.length : Int)) = true := decide_eq_true (by omega)
        go_wp2_with fail
        go_roundw
        case rel => exact ⟨k + 1, now, by go_num, rfl, by omega, by omega, by omega, ⟨_, _, _, _, HB.out, HOK.out.mono (by omega)⟩⟩
        case measure => simp [intOf]; omega
      have hu : u.length ≤ 2000 := by omega
      have hu2 : decide (2000 < (u.length : Int)) = false := decide_eq_false (by omega)
      by_cases ho : 12 < ol
      · have ho2 : decide (12 < (ol : Int)) = true := decide_eq_true (by omega)
        go_wp2_with fail
        go_roundw
        case rel => exact ⟨k + 1, now, by go_num, rfl, by omega, by omega, by omega, ⟨_, _, _, _, HB.out, HOK.out.mono (by omega)⟩⟩
        case measure => simp [intOf]; omega
      have ho : ol ≤ 12 := by omega
      have ho2 : decide (12 < (ol : Int)) = false := decide_eq_false (by omega)
      obtain ⟨A1, g1, hvF, hf1, hf2⟩ := HB.out.ref.first.slice
      obtain ⟨B1, d1, hvL, hs1, hs2⟩ := HB.out.ref.seq.slice
      subst hvF hvL
      have HO1 := Lib.hid (HOK.out.do kd okb q u ops (now + gap) (by rw [← HOL.out]; omega) (Run.ops_wf HOPS.out))
      obtain ⟨r, hrr⟩ : ∃ r, doS s kd okb q u ops (now + gap) = r := ⟨_, rfl⟩
      rw [hrr] at HO1
      obtain ⟨sb, sc, sj, st, sn, sat, sfirst, sseq, sstart, swas, sheld⟩ := s
      obtain ⟨b2, c2, j2, st2, n2, at2, first2, seq2, start2, was2, held2⟩ := r
      simp only at HB hf1 hs1
      obtain ⟨n1, hN1⟩ : ∃ n1, n1 = sfirst.length := ⟨_, rfl⟩
      obtain ⟨m1, hM1⟩ : ∃ m1, m1 = sseq.length := ⟨_, rfl⟩
      obtain ⟨n3, hN3⟩ : ∃ n3, n3 = first2.length := ⟨_, rfl⟩
      obtain ⟨m3, hM3⟩ : ∃ m3, m3 = seq2.length := ⟨_, rfl⟩
      rw [← hN1] at HB hf1
      rw [← hM1] at HB hs1
      have HDO : Hid (∀ X, Fr No wr X → Calls Try.prog 17 #[.pointer (some ⟨g, 0, none⟩), .agg #[.int .i64 sb, .int .i64 sc, .int .i64 sj, .int .i64 st, .int .i64 sn, .int .i64 sat, .slice A1 n1 g1, .slice B1 m1 d1, .int .i64 sstart, .int .i64 swas, .string ⟨sheld.toArray⟩], .agg #[.int .u8 kd, .int .u8 gap, .bool okb, .int .i64 q, .string ⟨u.toArray⟩, .slice D ol d3], .int .i64 (now + gap)] X fun e w8 => ∃ A2 g2 B2 d2 G', e = .returned (.tuple #[.agg #[.int .i64 b2, .int .i64 c2, .int .i64 j2, .int .i64 st2, .int .i64 n2, .int .i64 at2, .slice A2 n3 g2, .slice B2 m3 d2, .int .i64 start2, .int .i64 was2, .string ⟨held2.toArray⟩], .bool true]) ∧ DoQ X w8 Bk G G' g (.slice A2 n3 g2) (.slice B2 m3 d2) ⟨b2, c2, j2, st2, n2, at2, first2, seq2, start2, was2, held2⟩) := fun X hX =>
        do_p HB.out HOK.out (by omega) hX kd gap q (now + gap) okb u (.slice D ol d3) ops hkd hq (by omega) ((RSl.stable ROp.stable).go HOPS.out (Kept.of_no HB.out.fr (fun k hk => hk)) (fun k hk => HBA.out k hk)) (by rw [← HOL.out]; omega) ⟨b2, c2, j2, st2, n2, at2, first2, seq2, start2, was2, held2⟩ hrr n3 m3 hN3 hM3
      have hbox : Blk wr bq 46 #[.int .i64 sb, .int .i64 sc, .int .i64 sj, .int .i64 st, .int .i64 sn, .int .i64 sat, .slice A1 n1 g1, .slice B1 m1 d1, .int .i64 sstart, .int .i64 swas, .string ⟨sheld.toArray⟩] := HB.out.box
      have HBOX := Lib.hid hbox
      have HK := Lib.hid (fun (X : World) (hX : Fr G wr X) => (show X.cell? ⟨bq, 0, none⟩ = some (.int .i64 sb) ∧ X.cell? ⟨bq, 1, none⟩ = some (.int .i64 sc) ∧ X.cell? ⟨bq, 2, none⟩ = some (.int .i64 sj) ∧ X.cell? ⟨bq, 3, none⟩ = some (.int .i64 st) ∧ X.cell? ⟨bq, 4, none⟩ = some (.int .i64 sn) ∧ X.cell? ⟨bq, 5, none⟩ = some (.int .i64 sat) ∧ X.cell? ⟨bq, 6, none⟩ = some (.slice A1 n1 g1) ∧ X.cell? ⟨bq, 7, none⟩ = some (.slice B1 m1 d1) ∧ X.cell? ⟨bq, 8, none⟩ = some (.int .i64 sstart) ∧ X.cell? ⟨bq, 9, none⟩ = some (.int .i64 swas) ∧ X.cell? ⟨bq, 10, none⟩ = some (.string ⟨sheld.toArray⟩) ∧ X.cell? (ad.add (k * 6)) = some (.int .u8 kd) ∧ X.cell? ⟨(ad.add (k * 6)).block, (ad.add (k * 6)).off + 1, none⟩ = some (.int .u8 gap) ∧ X.cell? ⟨(ad.add (k * 6)).block, (ad.add (k * 6)).off + 2, none⟩ = some (.bool okb) ∧ X.cell? ⟨(ad.add (k * 6)).block, (ad.add (k * 6)).off + 3, none⟩ = some (.int .i64 q) ∧ X.cell? ⟨(ad.add (k * 6)).block, (ad.add (k * 6)).off + 4, none⟩ = some (.string ⟨u.toArray⟩) ∧ X.cell? ⟨(ad.add (k * 6)).block, (ad.add (k * 6)).off + 5, none⟩ = some (.slice D ol d3) from by
        have a := hbox.fr hX HB.out.bqs.2
        have o := HCL.out G X hX HB.out.gn
        have a0 := a.cell 0
        have a1 := a.cell 1
        have a2 := a.cell 2
        have a3 := a.cell 3
        have a4 := a.cell 4
        have a5 := a.cell 5
        have a6 := a.cell 6
        have a7 := a.cell 7
        have a8 := a.cell 8
        have a9 := a.cell 9
        have a10 := a.cell 10
        simp only [List.getElem?_toArray, List.getElem?_cons_zero, List.getElem?_cons_succ] at a0 a1 a2 a3 a4 a5 a6 a7 a8 a9 a10
        exact ⟨a0, a1, a2, a3, a4, a5, a6, a7, a8, a9, a10, o.c0, o.c1, o.c2, o.c3, o.c4, o.c5⟩))
      have HN1 := Lib.hid hN1
      have HM1 := Lib.hid hM1
      have HN3 := Lib.hid hN3
      have HM3 := Lib.hid hM3
      have HRR := Lib.hid hrr
      clear hN1 hM1 hN3 hM3 hrr hbox hf1 hf2 hs1 hs2
      go_upto_region 15 with (fail)
      clear el0 el1 el2 el3 el4 el5
      go_cut [13, 14] from 87 to 97 (fun p o wx => ∃ (G' : Nat → Prop) (bt g2 d2 : Nat) (A2 B2 : Option Addr), p = .pointer (some ⟨bt, 0, none⟩) ∧ o = .bool true ∧ Hid (DoNow wr wx Bk G G' g bq bt (.slice A1 n1 g1) (.slice B1 m1 d1) (.slice A2 n3 g2) (.slice B2 m3 d2) ⟨sb, sc, sj, st, sn, sat, sfirst, sseq, sstart, swas, sheld⟩ ⟨b2, c2, j2, st2, n2, at2, first2, seq2, start2, was2, held2⟩))
      case first =>
        obtain ⟨x0, x1, x2, x3, x4, x5, x6, x7, x8, x9, x10, x11, x12, x13, x14, x15, x16⟩ := HK.out wr (Fr.refl _ _)
        go_region_held3 (fun X => X.cell? ⟨bq, 0, none⟩ = some (.int .i64 sb) ∧ X.cell? ⟨bq, 1, none⟩ = some (.int .i64 sc) ∧ X.cell? ⟨bq, 2, none⟩ = some (.int .i64 sj) ∧ X.cell? ⟨bq, 3, none⟩ = some (.int .i64 st) ∧ X.cell? ⟨bq, 4, none⟩ = some (.int .i64 sn) ∧ X.cell? ⟨bq, 5, none⟩ = some (.int .i64 sat) ∧ X.cell? ⟨bq, 6, none⟩ = some (.slice A1 n1 g1) ∧ X.cell? ⟨bq, 7, none⟩ = some (.slice B1 m1 d1) ∧ X.cell? ⟨bq, 8, none⟩ = some (.int .i64 sstart) ∧ X.cell? ⟨bq, 9, none⟩ = some (.int .i64 swas) ∧ X.cell? ⟨bq, 10, none⟩ = some (.string ⟨sheld.toArray⟩) ∧ X.cell? (ad.add (k * 6)) = some (.int .u8 kd) ∧ X.cell? ⟨(ad.add (k * 6)).block, (ad.add (k * 6)).off + 1, none⟩ = some (.int .u8 gap) ∧ X.cell? ⟨(ad.add (k * 6)).block, (ad.add (k * 6)).off + 2, none⟩ = some (.bool okb) ∧ X.cell? ⟨(ad.add (k * 6)).block, (ad.add (k * 6)).off + 3, none⟩ = some (.int .i64 q) ∧ X.cell? ⟨(ad.add (k * 6)).block, (ad.add (k * 6)).off + 4, none⟩ = some (.string ⟨u.toArray⟩) ∧ X.cell? ⟨(ad.add (k * 6)).block, (ad.add (k * 6)).off + 5, none⟩ = some (.slice D ol d3)) ((refine HK.out _ ?_; (repeat' (first | with_reducible assumption | with_reducible exact Fr.refl _ _ | with_reducible refine Fr.drew ?_ | with_reducible refine Fr.drewN ?_ _ | with_reducible refine Fr.alloc ?_ _ | with_reducible refine Fr.setCell ?_ (.inr ?_) _ | exact Nat.le_refl _)); done)) (first | (go_at_call 17; refine (HDO.out _ (by repeat' (first | with_reducible assumption | with_reducible exact Fr.refl _ _ | with_reducible refine Fr.drew ?_ | with_reducible refine Fr.drewN ?_ _ | with_reducible refine Fr.alloc ?_ _))).mono ?_; rintro e w8 ⟨A2, g2, B2, d2, G', rfl, hq8⟩; have g8 : Fr G wr w8 := (Fr.no (by repeat' (first | with_reducible assumption | with_reducible exact Fr.refl _ _ | with_reducible refine Fr.drew ?_ | with_reducible refine Fr.drewN ?_ _ | with_reducible refine Fr.alloc ?_ _)) _).trans hq8.step.1 (fun b hb _ => hb); (first | (have hb7 := (Blk.new wr 46 #[.int .i64 0, .int .i64 0, .int .i64 0, .int .i64 0, .int .i64 0, .int .i64 0, .slice none 0 0, .slice none 0 0, .int .i64 0, .int .i64 0, .string ⟨#[]⟩]).fr hq8.step.1 (fun h => by have := HB.out.line.lt _ h; omega); have yo := hb7; have y0 := yo.cell 0; have yf0 := yo.frozen 0; have y1 := yo.cell 1; have yf1 := yo.frozen 1; have y2 := yo.cell 2; have yf2 := yo.frozen 2; have y3 := yo.cell 3; have yf3 := yo.frozen 3; have y4 := yo.cell 4; have yf4 := yo.frozen 4; have y5 := yo.cell 5; have yf5 := yo.frozen 5; have y6 := yo.cell 6; have yf6 := yo.frozen 6; have y7 := yo.cell 7; have yf7 := yo.frozen 7; have y8 := yo.cell 8; have yf8 := yo.frozen 8; have y9 := yo.cell 9; have yf9 := yo.frozen 9; have y10 := yo.cell 10; have yf10 := yo.frozen 10; simp only [List.getElem?_toArray, List.getElem?_cons_zero, List.getElem?_cons_succ] at y0 y1 y2 y3 y4 y5 y6 y7 y8 y9 y10; clear yo; have HB7 := Lib.hid hb7; clear hb7) | (have hb7 := Blk.fr (w := (wr.alloc (.cells #[.int .i64 0, .int .i64 0, .int .i64 0, .int .i64 0, .int .i64 0, .int .i64 0, .slice none 0 0, .slice none 0 0, .int .i64 0, .int .i64 0, .string ⟨#[]⟩] 46)).drew) (show Blk ((wr.alloc (.cells #[.int .i64 0, .int .i64 0, .int .i64 0, .int .i64 0, .int .i64 0, .int .i64 0, .slice none 0 0, .slice none 0 0, .int .i64 0, .int .i64 0, .string ⟨#[]⟩] 46)).drew) wr.heap.size 46 #[.int .i64 0, .int .i64 0, .int .i64 0, .int .i64 0, .int .i64 0, .int .i64 0, .slice none 0 0, .slice none 0 0, .int .i64 0, .int .i64 0, .string ⟨#[]⟩] from Blk.new wr 46 #[.int .i64 0, .int .i64 0, .int .i64 0, .int .i64 0, .int .i64 0, .int .i64 0, .slice none 0 0, .slice none 0 0, .int .i64 0, .int .i64 0, .string ⟨#[]⟩]) hq8.step.1 (fun h => by have := HB.out.line.lt _ h; omega); have yo := hb7; have y0 := yo.cell 0; have yf0 := yo.frozen 0; have y1 := yo.cell 1; have yf1 := yo.frozen 1; have y2 := yo.cell 2; have yf2 := yo.frozen 2; have y3 := yo.cell 3; have yf3 := yo.frozen 3; have y4 := yo.cell 4; have yf4 := yo.frozen 4; have y5 := yo.cell 5; have yf5 := yo.frozen 5; have y6 := yo.cell 6; have yf6 := yo.frozen 6; have y7 := yo.cell 7; have yf7 := yo.frozen 7; have y8 := yo.cell 8; have yf8 := yo.frozen 8; have y9 := yo.cell 9; have yf9 := yo.frozen 9; have y10 := yo.cell 10; have yf10 := yo.frozen 10; simp only [List.getElem?_toArray, List.getElem?_cons_zero, List.getElem?_cons_succ] at y0 y1 y2 y3 y4 y5 y6 y7 y8 y9 y10; clear yo; have HB7 := Lib.hid hb7; clear hb7) | skip); have HQ8 := Lib.hid hq8; clear hq8))
        · go_wp2_with fail
          go_meet
          case rel => exact ⟨_, _, _, _, _, _, rfl, rfl, do_after HB.out HQ8.out (by repeat' (first | with_reducible assumption | with_reducible exact Fr.refl _ _ | with_reducible refine Fr.drew ?_ | with_reducible refine Fr.drewN ?_ _ | with_reducible refine Fr.alloc ?_ _))⟩
        · go_wp2_with fail
          go_meet
          case rel =>
            have b9 := HB7.out
            have b9 := b9.put 0 (.int .i64 b2)
            have b9 := b9.put 1 (.int .i64 c2)
            have b9 := b9.put 2 (.int .i64 j2)
            have b9 := b9.put 3 (.int .i64 st2)
            have b9 := b9.put 4 (.int .i64 n2)
            have b9 := b9.put 5 (.int .i64 at2)
            have b9 := b9.put 6 (.slice A2 n3 g2)
            have b9 := b9.put 7 (.slice B2 m3 d2)
            have b9 := b9.put 8 (.int .i64 start2)
            have b9 := b9.put 9 (.int .i64 was2)
            have b9 := b9.put 10 (.string ⟨held2.toArray⟩)
            simp only [List.setIfInBounds_toArray, List.set_cons_zero, List.set_cons_succ] at b9
            exact ⟨_, _, _, _, _, _, rfl, rfl, do_before HB.out HQ8.out (by repeat' (first | with_reducible assumption | with_reducible exact Fr.refl _ _ | with_reducible refine Fr.drew ?_ | with_reducible refine Fr.drewN ?_ _ | with_reducible refine Fr.alloc ?_ _)) (by show wr.heap.size < (wr.alloc _).heap.size; simp) (by (repeat with_reducible refine Fr.setCell (F := fun k => k = wr.heap.size) ?_ (.inl rfl) _); exact Fr.refl _ _) b9⟩
      case rest =>
        obtain ⟨G', bt, g2, d2, A2, B2, rfl, rfl, HN⟩ := hcut
        obtain ⟨wx, hwx⟩ : ∃ wx, wx = wc := ⟨_, rfl⟩
        subst hwx
        have ro := (show Blk wx bt 46 #[.int .i64 b2, .int .i64 c2, .int .i64 j2, .int .i64 st2, .int .i64 n2, .int .i64 at2, .slice A2 n3 g2, .slice B2 m3 d2, .int .i64 start2, .int .i64 was2, .string ⟨held2.toArray⟩] from HN.out.tb)
        have r0 := ro.cell 0
        have rf0 := ro.frozen 0
        have r1 := ro.cell 1
        have rf1 := ro.frozen 1
        have r2 := ro.cell 2
        have rf2 := ro.frozen 2
        have r3 := ro.cell 3
        have rf3 := ro.frozen 3
        have r4 := ro.cell 4
        have rf4 := ro.frozen 4
        have r5 := ro.cell 5
        have rf5 := ro.frozen 5
        have r6 := ro.cell 6
        have rf6 := ro.frozen 6
        have r7 := ro.cell 7
        have rf7 := ro.frozen 7
        have r8 := ro.cell 8
        have rf8 := ro.frozen 8
        have r9 := ro.cell 9
        have rf9 := ro.frozen 9
        have r10 := ro.cell 10
        have rf10 := ro.frozen 10
        simp only [List.getElem?_toArray, List.getElem?_cons_zero, List.getElem?_cons_succ] at r0 r1 r2 r3 r4 r5 r6 r7 r8 r9 r10
        clear ro
        have zo := (show Blk wx bq 46 #[.int .i64 sb, .int .i64 sc, .int .i64 sj, .int .i64 st, .int .i64 sn, .int .i64 sat, .slice A1 n1 g1, .slice B1 m1 d1, .int .i64 sstart, .int .i64 swas, .string ⟨sheld.toArray⟩] from HN.out.box)
        have z0 := zo.cell 0
        have zf0 := zo.frozen 0
        have z1 := zo.cell 1
        have zf1 := zo.frozen 1
        have z2 := zo.cell 2
        have zf2 := zo.frozen 2
        have z3 := zo.cell 3
        have zf3 := zo.frozen 3
        have z4 := zo.cell 4
        have zf4 := zo.frozen 4
        have z5 := zo.cell 5
        have zf5 := zo.frozen 5
        have z6 := zo.cell 6
        have zf6 := zo.frozen 6
        have z7 := zo.cell 7
        have zf7 := zo.frozen 7
        have z8 := zo.cell 8
        have zf8 := zo.frozen 8
        have z9 := zo.cell 9
        have zf9 := zo.frozen 9
        have z10 := zo.cell 10
        have zf10 := zo.frozen 10
        simp only [List.getElem?_toArray, List.getElem?_cons_zero, List.getElem?_cons_succ] at z0 z1 z2 z3 z4 z5 z6 z7 z8 z9 z10
        clear zo
        go_upto_region 17 with (fail)
        clear r0 rf0 r1 rf1 r2 rf2 r3 rf3 r4 rf4 r5 rf5 r6 rf6 r7 rf7 r8 rf8 r9 rf9 r10 rf10 z0 zf0 z1 zf1 z2 zf2 z3 zf3 z4 zf4 z5 zf5 z6 zf6 z7 zf7 z8 zf8 z9 zf9 z10 zf10
        have b9 : Blk wx bq 46 #[.int .i64 sb, .int .i64 sc, .int .i64 sj, .int .i64 st, .int .i64 sn, .int .i64 sat, .slice A1 n1 g1, .slice B1 m1 d1, .int .i64 sstart, .int .i64 swas, .string ⟨sheld.toArray⟩] := HN.out.box
        have b9 := b9.put 0 (.int .i64 b2)
        have b9 := b9.put 1 (.int .i64 c2)
        have b9 := b9.put 2 (.int .i64 j2)
        have b9 := b9.put 3 (.int .i64 st2)
        have b9 := b9.put 4 (.int .i64 n2)
        have b9 := b9.put 5 (.int .i64 at2)
        have b9 := b9.put 6 (.slice A2 n3 g2)
        have b9 := b9.put 7 (.slice B2 m3 d2)
        have b9 := b9.put 8 (.int .i64 start2)
        have b9 := b9.put 9 (.int .i64 was2)
        have b9 := b9.put 10 (.string ⟨held2.toArray⟩)
        simp only [List.setIfInBounds_toArray, List.set_cons_zero, List.set_cons_succ] at b9
        have hfy : Fr (fun k => k = bq) wx (((((((((((wx.setCell ⟨bq, 0, none⟩ (.int .i64 b2)).setCell ⟨bq, 1, none⟩ (.int .i64 c2)).setCell ⟨bq, 2, none⟩ (.int .i64 j2)).setCell ⟨bq, 3, none⟩ (.int .i64 st2)).setCell ⟨bq, 4, none⟩ (.int .i64 n2)).setCell ⟨bq, 5, none⟩ (.int .i64 at2)).setCell ⟨bq, 6, none⟩ (.slice A2 n3 g2)).setCell ⟨bq, 7, none⟩ (.slice B2 m3 d2)).setCell ⟨bq, 8, none⟩ (.int .i64 start2)).setCell ⟨bq, 9, none⟩ (.int .i64 was2)).setCell ⟨bq, 10, none⟩ (.string ⟨held2.toArray⟩)) := by
          (repeat with_reducible refine Fr.setCell (F := fun k => k = bq) ?_ (.inl rfl) _)
          exact Fr.refl _ _
        have HB2 := Lib.hid (do_laid HB.out HN.out hfy b9)
        generalize (((((((((((wx.setCell ⟨bq, 0, none⟩ (.int .i64 b2)).setCell ⟨bq, 1, none⟩ (.int .i64 c2)).setCell ⟨bq, 2, none⟩ (.int .i64 j2)).setCell ⟨bq, 3, none⟩ (.int .i64 st2)).setCell ⟨bq, 4, none⟩ (.int .i64 n2)).setCell ⟨bq, 5, none⟩ (.int .i64 at2)).setCell ⟨bq, 6, none⟩ (.slice A2 n3 g2)).setCell ⟨bq, 7, none⟩ (.slice B2 m3 d2)).setCell ⟨bq, 8, none⟩ (.int .i64 start2)).setCell ⟨bq, 9, none⟩ (.int .i64 was2)).setCell ⟨bq, 10, none⟩ (.string ⟨held2.toArray⟩)) = wy at HB2 ⊢
        clear b9 hfy
        obtain ⟨⟨a9, q9⟩, h9⟩ : ∃ p, p = nextS ⟨b2, c2, j2, st2, n2, at2, first2, seq2, start2, was2, held2⟩ := ⟨_, rfl⟩
        have NX := next_any HB2.out.line HO1.out.fit
        have RNX := fun (X : World) (hX : Fr No wy X) => rnext_any (HB2.out.ref.no hX) HO1.out.fit
        rw [← h9] at NX
        simp only [← h9] at RNX
        have RNX : ∀ X, Fr No wy X → Calls Try.prog 19 #[.agg #[.int .i64 b2, .int .i64 c2, .int .i64 j2, .int .i64 st2, .int .i64 n2, .int .i64 at2, .slice A2 n3 g2, .slice B2 m3 d2, .int .i64 start2, .int .i64 was2, .string ⟨held2.toArray⟩]] X fun e w' => e = .returned (.tuple #[.int .i64 a9, .bool q9]) ∧ Fr No X w' := RNX
        have NX := Lib.hid NX
        have RNX := Lib.hid RNX
        clear h9
        have HBX2 := Lib.hid (show Blk wy bq 46 #[.int .i64 b2, .int .i64 c2, .int .i64 j2, .int .i64 st2, .int .i64 n2, .int .i64 at2, .slice A2 n3 g2, .slice B2 m3 d2, .int .i64 start2, .int .i64 was2, .string ⟨held2.toArray⟩] from HB2.out.box)
        go_upto_region 18 with (go_at_call 18; refine NX.out.mono ?_; rintro e w5 ⟨rfl, hf5⟩; have F5 := Lib.hid hf5; clear hf5)
        have ro := (HBX2.out.fr F5.out (fun h => h))
        have r0 := ro.cell 0
        have rf0 := ro.frozen 0
        have r1 := ro.cell 1
        have rf1 := ro.frozen 1
        have r2 := ro.cell 2
        have rf2 := ro.frozen 2
        have r3 := ro.cell 3
        have rf3 := ro.frozen 3
        have r4 := ro.cell 4
        have rf4 := ro.frozen 4
        have r5 := ro.cell 5
        have rf5 := ro.frozen 5
        have r6 := ro.cell 6
        have rf6 := ro.frozen 6
        have r7 := ro.cell 7
        have rf7 := ro.frozen 7
        have r8 := ro.cell 8
        have rf8 := ro.frozen 8
        have r9 := ro.cell 9
        have rf9 := ro.frozen 9
        have r10 := ro.cell 10
        have rf10 := ro.frozen 10
        simp only [List.getElem?_toArray, List.getElem?_cons_zero, List.getElem?_cons_succ] at r0 r1 r2 r3 r4 r5 r6 r7 r8 r9 r10
        clear ro
        go_upto_region 19 with (go_at_call 19; refine (RNX.out _ F5.out).mono ?_; rintro e w6 ⟨rfl, hf6⟩; have F6 := Lib.hid (F5.out.then_no hf6); clear hf6)
        clear r0 rf0 r1 rf1 r2 rf2 r3 rf3 r4 rf4 r5 rf5 r6 rf6 r7 rf7 r8 rf8 r9 rf9 r10 rf10
        obtain ⟨gw, hgw0, hgwf, hgw⟩ := tries_at (X := wy) (HB2.out.line.no F6.out)
        have HGW := Lib.hid hgw
        have hx := HBX2.out.fr F6.out (fun h => h)
        have hx3 := hx.cell 3
        have hx4 := hx.cell 4
        have hx10 := hx.cell 10
        have hxf3 := hx.frozen 3
        have hxf4 := hx.frozen 4
        have hxf10 := hx.frozen 10
        simp only [List.getElem?_toArray, List.getElem?_cons_zero, List.getElem?_cons_succ] at hx3 hx4 hx10
        have HX := Lib.hid hx
        have SA := Lib.hid (fun (X : World) (hX : Fr No w6 X) => (lstate_any (HB2.out.line.no (F6.out.then_no hX)) : Calls _ _ _ X fun e w' => e = .returned (.int .i64 st2) ∧ X = w'))
        have HA := Lib.hid (fun (X : World) (hX : Fr No w6 X) => (lheld_any (HB2.out.line.no (F6.out.then_no hX)) : Calls _ _ _ X fun e w' => e = .returned (.int .i64 held2.length) ∧ X = w'))
        have TA := Lib.hid (fun (X : World) (hX : Fr No w6 X) => ((HGW.out X hX).2 : Calls _ _ _ X fun e w' => e = .returned (.int .i64 n2) ∧ X = w'))
        clear hgw hx
        go_quiet (first | (go_at_call 12; exact quiet_left (SA.out _ ((Fr.refl No _).drewN _))) | (go_at_call 20; exact quiet_left (HA.out _ ((Fr.refl No _).drewN _))) | (go_at_call 21; exact quiet_left (TA.out _ ((Fr.refl No _).drewN _))))
        go_wp2_with fail
        go_roundw
        case rel => exact ⟨k + 1, now + gap, by go_num, rfl, by omega, by omega, by omega, ⟨_, _, _, _, HB2.out.no ((F6.out).drewN _), by have := HO1.out; exact this⟩⟩
        case measure => simp [intOf]; omega
    · go_wp2_with (go_at_call 6; refine (works_any _).mono ?_; rintro e w' ⟨rfl, hf⟩; have Hf := Lib.hid hf; clear hf)
      go_ret
      obtain ⟨s, G, vF, vL, hB, hOk⟩ := hrel.out
      exact ⟨rfl, hB.fr.then_no Hf.out⟩
theorem cons_of {l : List Value} {v : Value} (h : l.take 1 = [v]) : l = v :: l.drop 1 := by
  rw [← List.singleton_append, ← h, List.take_append_drop]
abbrev XC := Str × (Int × (Int × (Int × (Int × (Int × (Int × (Int × (Int × Str))))))))
theorem con_form {w : World} {S : Nat → Prop} {cs : Array Value} {x : XC} (h : (RTwo 1 RStr (RTwo 1 (RInt .i64) (RTwo 1 (RInt .i64) (RTwo 1 (RInt .i64) (RTwo 1 (RInt .i64) (RTwo 1 (RInt .i64) (RTwo 1 (RInt .i64) (RTwo 1 (RInt .i64) (RTwo 1 (RInt .i64) RStr))))))))) w S cs.toList x) : cs = #[.string ⟨x.1.toArray⟩, .int .i64 x.2.1, .int .i64 x.2.2.1, .int .i64 x.2.2.2.1, .int .i64 x.2.2.2.2.1, .int .i64 x.2.2.2.2.2.1, .int .i64 x.2.2.2.2.2.2.1, .int .i64 x.2.2.2.2.2.2.2.1, .int .i64 x.2.2.2.2.2.2.2.2.1, .string ⟨x.2.2.2.2.2.2.2.2.2.toArray⟩] := by
  obtain ⟨_, ⟨h1, _⟩, _, ⟨h2, _⟩, _, ⟨h3, _⟩, _, ⟨h4, _⟩, _, ⟨h5, _⟩, _, ⟨h6, _⟩, _, ⟨h7, _⟩, _, ⟨h8, _⟩, _, ⟨h9, _⟩, h10, _⟩ := h
  apply Array.toList_inj.1
  rw [cons_of h1, cons_of h2, cons_of h3, cons_of h4, cons_of h5, cons_of h6, cons_of h7, cons_of h8, cons_of h9, h10]
theorem walk_LinePlays (W : World) (c0 : Array Value) (x0 : XC) (h0 : (RTwo 1 RStr (RTwo 1 (RInt .i64) (RTwo 1 (RInt .i64) (RTwo 1 (RInt .i64) (RTwo 1 (RInt .i64) (RTwo 1 (RInt .i64) (RTwo 1 (RInt .i64) (RTwo 1 (RInt .i64) (RTwo 1 (RInt .i64) RStr))))))))) W (Ahead W.heap.size) c0.toList x0) (v1 : Value) (x1 : Int) (h1 : (RInt .i64) W (Ahead W.heap.size) [v1] x1) (v2 : Value) (x2 : List X19) (h2 : RSl 6 R19 W (Ahead W.heap.size) [v2] x2) : Calls Try.prog 4 #[.agg c0, v1, v2] W fun e w' => e = .returned (.bool true) ∧ Fr No W w' := by
  rw [con_form h0]
  obtain ⟨h1, h1'⟩ := h1
  injection h1 with h1
  subst h1
  exact plays_any _ _ _ _ _ _ _ _ _ _ _ (Run.wf64.1 h1').1 v2 x2 W h2
end Ln
end Go.Proofs.Ytnfkkonmhinlcaa
