/- The reference of package mux: what was sent, taken apart. -/
import Derived.Test.YtmmdiccpifepfaaMergedD
namespace Go.Proofs.Ytmmdiccpifepfaa
open Go.RowKit
set_option linter.unusedVariables false
set_option linter.unusedSimpArgs false
/-- 's[i:]' of a text. -/
theorem slice_from {P : Program} (w : World) (T : TypeId) (hT : P.underlying T = some .string) (s : Str) (i : Int) (a : Nat) (hi : i = a) (h : a ≤ s.length) :
    (Instr.slice T (.string ⟨s.toArray⟩) (some (.int .i64 i)) none none).run P w = .ok (.string ⟨(s.drop a).toArray⟩) w := by
  rw [run_slice_string_from_if w T ⟨s.toArray⟩ .i64 i hT, if_pos ⟨by omega, by rw [hi]; show (a : Int) ≤ ((s.toArray.size : Nat) : Int); simp; omega⟩]
  have e : (⟨s.toArray⟩ : ByteArray).size = s.length := by simp [ByteArray.size]
  rw [e, ByteArray.extract_mk, show i.toNat = a by omega]
  simp
  rw [List.take_of_length_le (by simp)]
namespace Mux
structure SpI (s t : Str) (out : List (Str × Bool)) : Prop where
  toks : tk out ++ (run 0 [] t).2 = (run 0 [] s).2
  at_ : (run 0 [] t).1 = (run 0 [] s).1
  tot : tot out + t.length ≤ s.length
  len : out.length + t.length ≤ s.length
  ne : Ne out
theorem body_calls (t b : Str) (n : Nat) (h : bodyR t = (b, n)) (ht : t.length ≤ 1000000) (w : World) : Calls Try.prog 32 #[.string ⟨t.toArray⟩] w fun e w' => e = .returned (.tuple #[.string ⟨b.toArray⟩, .int .i64 n]) ∧ w = w' := by
  have := body_any t w ht
  rwa [h] at this
theorem flush_nil {b : Str} (h : b = []) (out : List (Str × Bool)) : flushR b out = out := by rw [h]; rfl
theorem flush_one {b : Str} (h : ¬ b = []) (out : List (Str × Bool)) : flushR b out = out ++ [(b, false)] := by unfold flushR; rw [if_neg h]
/-- Behind a body. -/
theorem SpI.body {s t : Str} {out : List (Str × Bool)} (h : SpI s t out) {b : Str} {n : Nat} (hb : bodyR t = (b, n)) {t1 : Str} (ht : t1 = t.drop n) : SpI s t1 (flushR b out) := by
  have hl := body_len t
  have hr := body_run t []
  rw [hb] at hl hr
  obtain ⟨l1, l2⟩ := hl
  subst ht
  have h1 := h.tot
  have h2 := h.len
  refine ⟨?_, ?_, ?_, ?_, h.ne.flush b⟩
  · rw [tk_flush, ← h.toks, hr]; simp
  · rw [← h.at_, hr]
  · unfold flushR
    split
    · simp; omega
    · rw [tot_snoc]; simp at l1 l2 ⊢; omega
  · unfold flushR
    split
    · simp; omega
    · rename_i hne
      have : b.length ≠ 0 := fun e => hne (List.length_eq_zero_iff.1 e)
      simp at l1 l2 ⊢; omega
/-- Behind a reply. -/
theorem SpI.reply {s r r2 u : Str} {m : Nat} {out : List (Str × Bool)} (h : SpI s (255 :: 1 :: r) out) (hu : bodyR r = (u, m)) (ht : 255 :: 2 :: r2 = r.drop m) : SpI s r2 (out ++ [(u, true)]) := by
  have hl := body_len r
  have hr := body_run2 r []
  rw [hu] at hl hr
  have hr2 : run 2 [] r = run 2 u (255 :: 2 :: r2) := by rw [hr, ht]; simp
  have hlen : (255 :: 2 :: r2).length = r.length - m := by rw [ht]; simp
  obtain ⟨l1, l2⟩ := hl
  have h1 := h.tot
  have h2 := h.len
  have h3 := h.toks
  have h4 := h.at_
  rw [run_open, hr2, run_close] at h3 h4
  refine ⟨?_, h4, ?_, ?_, h.ne.reply u⟩
  · rw [← h3, tk_append]; simp [tk, Mux.toks]
  · rw [tot_snoc]; simp at l1 l2 h1 hlen ⊢; omega
  · simp at l1 l2 h2 hlen ⊢; omega
theorem run_sub {r u t2 : Str} {m : Nat} (hu : bodyR r = (u, m)) (ht : t2 = r.drop m) : run 0 [] (255 :: 1 :: r) = run 2 u t2 := by
  have hr := body_run2 r []
  rw [hu] at hr
  rw [run_open, hr, ht]; simp
/-- What is told at an end. -/
def SpE (s : Str) (c : Int) (out : List (Str × Bool)) : Prop := checkR (run 0 [] s).1.1 = c ∧ tk out = (run 0 [] s).2 ∧ tot out ≤ s.length ∧ out.length ≤ s.length ∧ Ne out
theorem SpI.ends {s t : Str} {out : List (Str × Bool)} (h : SpI s t out) {p : Nat} {op : Str} {c : Int} (hr : run 0 [] t = ((p, op), [])) (hc : checkR p = c) : SpE s c out := by
  have h1 := h.toks
  have h2 := h.at_
  have h3 := h.tot
  have h4 := h.len
  rw [hr] at h1 h2
  refine ⟨by rw [← h2]; exact hc, by simpa using h1, by omega, by omega, h.ne⟩
def SplitPost (s : Str) (w : World) (e : Ending) (w' : World) : Prop :=
  ∃ v' l, e = .returned (.tuple #[v', .int .i64 (checkR (run 0 [] s).1.1)]) ∧ w'.ownsRow 0 62 2 v' l.length (l.flatMap encP) ∧ Step No w (Of v') w' ∧ tk l = (run 0 [] s).2 ∧ tot l ≤ s.length ∧ l.length ≤ s.length ∧ Ne l
theorem split_end {s : Str} {c : Int} {out0 out : List (Str × Bool)} {w w1 : World} {v : Value} {m : Nat} (h : SpE s c out) (ho : out = out0) (hm : m = out0.length) (h1 : w1.ownsRow 0 62 2 v m (out0.flatMap encP)) (h2 : Step No w (Of v) w1) :
    SplitPost s w (.returned (.tuple #[v, .int .i64 c])) w1 := by
  obtain ⟨e1, e2, e3, e4, e5⟩ := h
  subst ho
  subst hm
  exact ⟨v, out, by rw [e1], h1, h2, e2, e3, e4, e5⟩
theorem split_end1 {s : Str} {c : Int} {out0 out : List (Str × Bool)} {w w1 : World} {v : Value} {m : Nat} {b : Str} (h : SpE s c out) (ho : out = out0 ++ [(b, false)]) (hm : m = out0.length) (h1 : w1.ownsRow 0 62 2 v (m + 1) (out0.flatMap encP ++ #[Value.string ⟨b.toArray⟩, .bool false].toList)) (h2 : Step No w (Of v) w1) :
    SplitPost s w (.returned (.tuple #[v, .int .i64 c])) w1 := by
  obtain ⟨e1, e2, e3, e4, e5⟩ := h
  subst ho
  subst hm
  refine ⟨v, _, by rw [e1], ?_, h2, e2, e3, e4, e5⟩
  rw [List.flatMap_append, List.length_append]
  exact h1
set_option maxHeartbeats 1000000 in
theorem split_any (s : Str) (w : World) (hs : s.length ≤ 1000000) :
    Calls Try.prog 19 #[.string ⟨s.toArray⟩] w (SplitPost s w) := by
  go_enter Try.func19, Try.ntmps19
  go_wp2
  go_loopw [0, 4, 6] (fun sv o iv wr => ∃ (t : Str) (out : List (Str × Bool)) (k m : Nat), sv = .string ⟨t.toArray⟩ ∧ iv = .int .i64 k ∧ k + t.length ≤ s.length ∧ m ≤ s.length ∧ Hid (m = out.length) ∧ Hid (SpI s t out) ∧ Hid (wr.ownsRow 0 62 2 o m (out.flatMap encP) ∧ Step No w (Of o) wr)) (fun _ _ i _ => s.length + 1 - (intOf i).toNat)
  case atStart => exact ⟨s, [], 0, 0, rfl, rfl, by omega, by omega, rfl, ⟨rfl, rfl, by simp [tot], by simp, Ne.nil⟩, World.ownsRow_nil _ _ _ _, Fr.refl _ _, fun k hk => by cases hk⟩
  case round =>
    obtain ⟨t, out, k, m, rfl, rfl, hk, hm, Hm, Hsp, Hd⟩ := hrel
    obtain ⟨A1, c1, hu⟩ := own_form Hd.out.1
    subst hu
    have Hd1 := Lib.hid Hd.out.1
    have Hd2 := Lib.hid Hd.out.2
    obtain ⟨b, n, hbn⟩ : ∃ b n, bodyR t = (b, n) := ⟨_, _, rfl⟩
    have hbl := body_len t
    rw [hbn] at hbl
    obtain ⟨hn, hbl⟩ := hbl
    have hbc := body_calls t b n hbn (by omega)
    obtain ⟨t1, ht1⟩ : ∃ t1, t1 = t.drop n := ⟨_, rfl⟩
    have hsl := fun W : World => slice_from (P := Try.prog) W 9 Try.underlying9 t n n rfl hn
    rw [← ht1] at hsl
    have hrest := body_rest t
    rw [hbn, ← ht1] at hrest
    have htl : t1.length + n = t.length := by rw [ht1]; simp; omega
    have Hsp1 := Lib.hid (Hsp.out.body hbn ht1)
    clear hbn ht1 Hd Hsp
    have hm1 : m + 1 ≤ 2000000 := by omega
    rcases hrest with rfl | rfl | ⟨d, r, rfl, hd⟩
    · have Hz := Lib.hid (Hsp1.out.ends (c := 0) rfl rfl)
      by_cases hb : b = []
      · have P1 := Lib.hid (show _ from Hd1.out)
        have P2 := Lib.hid (show _ from Hd2.out)
        have Ho := Lib.hid (flush_nil hb out)
        have hbe : b.isEmpty = true := by rw [hb]; rfl
        clear hb
        go_wp2_with (first | (go_at_call 32; with_reducible refine (hbc _).mono ?_; rintro e w1 ⟨rfl, rfl⟩))
        all_goals
          go_ret2
          exact split_end Hz.out Ho.out Hm.out P1.out P2.out
      · have hbe : b.isEmpty = false := by simpa using hb
        have Ho := Lib.hid (flush_one hb out)
        clear hb
        go_wp2_with (first | (go_at_call 32; with_reducible refine (hbc _).mono ?_; rintro e w1 ⟨rfl, rfl⟩) | (at_builtin; go_loud (refine wp_push rfl (.tmp 25) (.tmp 28) 59 rfl 62 (.agg #[.string ByteArray.empty, .bool false]) 2 24 Try.underlying59 infoR rfl (by decide) _ _ _ rfl Hd1.out #[.string ⟨b.toArray⟩, .bool false] rfl rfl (by intro u hu; simp at hu; rcases hu with rfl | rfl <;> rfl) (by omega) (by unfold maxLen; omega) ?_; intro g4 cap4 w4 h1 h2 h3; have P1 := Lib.hid h1; have P2 := Lib.hid (Hd2.out.trans (Step.of (n := m + 1) (c := cap4) h2 h3)); clear h1 h2 h3)))
        all_goals
          go_ret2
          exact split_end1 Hz.out Ho.out Hm.out P1.out P2.out
    · have Hz := Lib.hid (Hsp1.out.ends (c := 13) (run_lone1 []) rfl)
      by_cases hb : b = []
      · have P1 := Lib.hid (show _ from Hd1.out)
        have P2 := Lib.hid (show _ from Hd2.out)
        have Ho := Lib.hid (flush_nil hb out)
        have hbe : b.isEmpty = true := by rw [hb]; rfl
        clear hb
        go_wp2_with (first | (go_at_call 32; with_reducible refine (hbc _).mono ?_; rintro e w1 ⟨rfl, rfl⟩))
        all_goals
          go_ret2
          exact split_end Hz.out Ho.out Hm.out P1.out P2.out
      · have hbe : b.isEmpty = false := by simpa using hb
        have Ho := Lib.hid (flush_one hb out)
        clear hb
        go_wp2_with (first | (go_at_call 32; with_reducible refine (hbc _).mono ?_; rintro e w1 ⟨rfl, rfl⟩) | (at_builtin; go_loud (refine wp_push rfl (.tmp 25) (.tmp 28) 59 rfl 62 (.agg #[.string ByteArray.empty, .bool false]) 2 24 Try.underlying59 infoR rfl (by decide) _ _ _ rfl Hd1.out #[.string ⟨b.toArray⟩, .bool false] rfl rfl (by intro u hu; simp at hu; rcases hu with rfl | rfl <;> rfl) (by omega) (by unfold maxLen; omega) ?_; intro g4 cap4 w4 h1 h2 h3; have P1 := Lib.hid h1; have P2 := Lib.hid (Hd2.out.trans (Step.of (n := m + 1) (c := cap4) h2 h3)); clear h1 h2 h3)))
        all_goals
          go_ret2
          exact split_end1 Hz.out Ho.out Hm.out P1.out P2.out
    · by_cases hd1 : d = 1
      · subst hd1
        obtain ⟨u, n2, hun⟩ : ∃ u n2, bodyR r = (u, n2) := ⟨_, _, rfl⟩
        have hul := body_len r
        rw [hun] at hul
        obtain ⟨hn2, hul⟩ := hul
        have hrl : r.length + 2 + n = t.length := by simpa using htl
        have huc := body_calls r u n2 hun (by omega)
        obtain ⟨t2, ht2⟩ : ∃ t2, t2 = r.drop n2 := ⟨_, rfl⟩
        have hsl1 := fun W : World => slice_from (P := Try.prog) W 9 Try.underlying9 (255 :: 1 :: r) 2 2 rfl (by simp)
        have hsl2 := fun W : World => slice_from (P := Try.prog) W 9 Try.underlying9 (255 :: 1 :: r) (2 + (n2 : Int)) (n2 + 2) (by omega) (by simp; omega)
        rw [show (255 :: 1 :: r : Str).drop 2 = r from rfl] at hsl1
        rw [show (255 :: 1 :: r : Str).drop (n2 + 2) = r.drop n2 from rfl, ← ht2] at hsl2
        have hix : (⟨(255 :: 1 :: r : Str).toArray⟩ : ByteArray)[1]'(by simp [ByteArray.size]) = 1 := rfl
        have hrest := body_rest r
        rw [hun, ← ht2] at hrest
        have htl2 : t2.length + n2 = r.length := by rw [ht2]; simp; omega
        have Hrun := Lib.hid (run_sub hun ht2)
        rcases hrest with rfl | rfl | ⟨d2, r2, rfl, hd2⟩
        · have Hz := Lib.hid (Hsp1.out.ends (c := 13) (by rw [Hrun.out]; rfl) rfl)
          clear hun ht2
          by_cases hb : b = []
          · have P1 := Lib.hid (show _ from Hd1.out)
            have P2 := Lib.hid (show _ from Hd2.out)
            have Ho := Lib.hid (flush_nil hb out)
            have hbe : b.isEmpty = true := by rw [hb]; rfl
            clear hb
            go_wp2_with (first | (go_at_call 32; with_reducible refine (hbc _).mono ?_; rintro e w1 ⟨rfl, rfl⟩) | (go_at_call 32; with_reducible refine (huc _).mono ?_; rintro e w1 ⟨rfl, rfl⟩))
            all_goals
              go_ret2
              exact split_end Hz.out Ho.out Hm.out P1.out P2.out
          · have hbe : b.isEmpty = false := by simpa using hb
            have Ho := Lib.hid (flush_one hb out)
            clear hb
            go_wp2_with (first | (go_at_call 32; with_reducible refine (hbc _).mono ?_; rintro e w1 ⟨rfl, rfl⟩) | (go_at_call 32; with_reducible refine (huc _).mono ?_; rintro e w1 ⟨rfl, rfl⟩) | (at_builtin; go_loud (refine wp_push rfl (.tmp 25) (.tmp 28) 59 rfl 62 (.agg #[.string ByteArray.empty, .bool false]) 2 24 Try.underlying59 infoR rfl (by decide) _ _ _ rfl Hd1.out #[.string ⟨b.toArray⟩, .bool false] rfl rfl (by intro u hu; simp at hu; rcases hu with rfl | rfl <;> rfl) (by omega) (by unfold maxLen; omega) ?_; intro g4 cap4 w4 h1 h2 h3; have P1 := Lib.hid h1; have P2 := Lib.hid (Hd2.out.trans (Step.of (n := m + 1) (c := cap4) h2 h3)); clear h1 h2 h3)))
            all_goals
              go_ret2
              exact split_end1 Hz.out Ho.out Hm.out P1.out P2.out
        · have Hz := Lib.hid (Hsp1.out.ends (c := 13) (by rw [Hrun.out]; exact run_lone2 u) rfl)
          clear hun ht2
          by_cases hb : b = []
          · have P1 := Lib.hid (show _ from Hd1.out)
            have P2 := Lib.hid (show _ from Hd2.out)
            have Ho := Lib.hid (flush_nil hb out)
            have hbe : b.isEmpty = true := by rw [hb]; rfl
            clear hb
            go_wp2_with (first | (go_at_call 32; with_reducible refine (hbc _).mono ?_; rintro e w1 ⟨rfl, rfl⟩) | (go_at_call 32; with_reducible refine (huc _).mono ?_; rintro e w1 ⟨rfl, rfl⟩))
            all_goals
              go_ret2
              exact split_end Hz.out Ho.out Hm.out P1.out P2.out
          · have hbe : b.isEmpty = false := by simpa using hb
            have Ho := Lib.hid (flush_one hb out)
            clear hb
            go_wp2_with (first | (go_at_call 32; with_reducible refine (hbc _).mono ?_; rintro e w1 ⟨rfl, rfl⟩) | (go_at_call 32; with_reducible refine (huc _).mono ?_; rintro e w1 ⟨rfl, rfl⟩) | (at_builtin; go_loud (refine wp_push rfl (.tmp 25) (.tmp 28) 59 rfl 62 (.agg #[.string ByteArray.empty, .bool false]) 2 24 Try.underlying59 infoR rfl (by decide) _ _ _ rfl Hd1.out #[.string ⟨b.toArray⟩, .bool false] rfl rfl (by intro u hu; simp at hu; rcases hu with rfl | rfl <;> rfl) (by omega) (by unfold maxLen; omega) ?_; intro g4 cap4 w4 h1 h2 h3; have P1 := Lib.hid h1; have P2 := Lib.hid (Hd2.out.trans (Step.of (n := m + 1) (c := cap4) h2 h3)); clear h1 h2 h3)))
            all_goals
              go_ret2
              exact split_end1 Hz.out Ho.out Hm.out P1.out P2.out
        · have hix2 : (⟨(255 :: d2 :: r2 : Str).toArray⟩ : ByteArray)[1]'(by simp [ByteArray.size]) = d2 := rfl
          by_cases hd3 : d2 = 2
          · subst hd3
            have Hsp2 := Lib.hid (Hsp1.out.reply hun ht2)
            have hsl3 := fun W : World => slice_from (P := Try.prog) W 9 Try.underlying9 (255 :: 2 :: r2) 2 2 rfl (by simp)
            rw [show (255 :: 2 :: r2 : Str).drop 2 = r2 from rfl] at hsl3
            have hl2 : r2.length + 2 + n2 = r.length := by simpa using htl2
            clear hun ht2
            by_cases hb : b = []
            · have P1 := Lib.hid (show _ from Hd1.out)
              have P2 := Lib.hid (show _ from Hd2.out)
              have Ho := Lib.hid (flush_nil hb out)
              have hbe : b.isEmpty = true := by rw [hb]; rfl
              clear hb
              go_wp2_with (first | (go_at_call 32; with_reducible refine (hbc _).mono ?_; rintro e w1 ⟨rfl, rfl⟩) | (go_at_call 32; with_reducible refine (huc _).mono ?_; rintro e w1 ⟨rfl, rfl⟩) | (at_builtin; go_loud (refine wp_push rfl (.tmp 62) (.tmp 65) 59 rfl 62 (.agg #[.string ByteArray.empty, .bool false]) 2 24 Try.underlying59 infoR rfl (by decide) _ _ _ rfl Hd1.out #[.string ⟨u.toArray⟩, .bool true] rfl rfl (by intro u hu; simp at hu; rcases hu with rfl | rfl <;> rfl) (by omega) (by unfold maxLen; omega) ?_; intro g5 cap5 w5 h1 h2 h3; have P3 := Lib.hid h1; have P4 := Lib.hid (Hd2.out.trans (Step.of (n := m + 1) (c := cap5) h2 h3)); clear h1 h2 h3)))
              all_goals
                go_wp2
                go_roundw
                case rel =>
                  refine ⟨r2, flushR b out ++ [(u, true)], k + 1, m + 1, rfl, by go_num, by omega, ?_, ?_, Hsp2.out, ?_, P4.out⟩
                  · have h := Hsp2.out.len
                    rw [Ho.out] at h
                    have h' := Hm.out
                    simp at h
                    omega
                  · show m + 1 = _
                    rw [Ho.out, Hm.out]; simp
                  · rw [Ho.out, List.flatMap_append]
                    exact P3.out
                case measure => simp [intOf]; omega
            · have hbe : b.isEmpty = false := by simpa using hb
              have Ho := Lib.hid (flush_one hb out)
              clear hb
              go_wp2_with (first | (go_at_call 32; with_reducible refine (hbc _).mono ?_; rintro e w1 ⟨rfl, rfl⟩) | (go_at_call 32; with_reducible refine (huc _).mono ?_; rintro e w1 ⟨rfl, rfl⟩) | (at_builtin; go_loud (refine wp_push rfl (.tmp 25) (.tmp 28) 59 rfl 62 (.agg #[.string ByteArray.empty, .bool false]) 2 24 Try.underlying59 infoR rfl (by decide) _ _ _ rfl Hd1.out #[.string ⟨b.toArray⟩, .bool false] rfl rfl (by intro u hu; simp at hu; rcases hu with rfl | rfl <;> rfl) (by omega) (by unfold maxLen; omega) ?_; intro g4 cap4 w4 h1 h2 h3; have P1 := Lib.hid h1; have P2 := Lib.hid (Hd2.out.trans (Step.of (n := m + 1) (c := cap4) h2 h3)); clear h1 h2 h3)) | (at_builtin; go_loud (refine wp_push rfl (.tmp 62) (.tmp 65) 59 rfl 62 (.agg #[.string ByteArray.empty, .bool false]) 2 24 Try.underlying59 infoR rfl (by decide) _ _ _ rfl P1.out #[.string ⟨u.toArray⟩, .bool true] rfl rfl (by intro u hu; simp at hu; rcases hu with rfl | rfl <;> rfl) (by omega) (by unfold maxLen; omega) ?_; intro g5 cap5 w5 h1 h2 h3; have P3 := Lib.hid h1; have P4 := Lib.hid (P2.out.trans (Step.of (n := (m + 1) + 1) (c := cap5) h2 h3)); clear h1 h2 h3)))
              all_goals
                go_wp2
                go_roundw
                case rel =>
                  refine ⟨r2, flushR b out ++ [(u, true)], k + 1, (m + 1) + 1, rfl, by go_num, by omega, ?_, ?_, Hsp2.out, ?_, P4.out⟩
                  · have h := Hsp2.out.len
                    rw [Ho.out] at h
                    have h' := Hm.out
                    simp at h
                    omega
                  · show (m + 1) + 1 = _
                    rw [Ho.out, Hm.out]; simp
                  · rw [Ho.out, List.flatMap_append, List.flatMap_append]
                    exact P3.out
                case measure => simp [intOf]; omega
          · have hn1 : ((d2.toNat : Int) != 2) = true := (u8_f (d := 2) rfl hd3).2
            have Hz := Lib.hid (Hsp1.out.ends (c := 3) (by rw [Hrun.out]; exact run_wrong2 u d2 r2 hd2 hd3) rfl)
            clear hun ht2
            by_cases hb : b = []
            · have P1 := Lib.hid (show _ from Hd1.out)
              have P2 := Lib.hid (show _ from Hd2.out)
              have Ho := Lib.hid (flush_nil hb out)
              have hbe : b.isEmpty = true := by rw [hb]; rfl
              clear hb
              go_wp2_with (first | (go_at_call 32; with_reducible refine (hbc _).mono ?_; rintro e w1 ⟨rfl, rfl⟩) | (go_at_call 32; with_reducible refine (huc _).mono ?_; rintro e w1 ⟨rfl, rfl⟩))
              all_goals
                go_ret2
                exact split_end Hz.out Ho.out Hm.out P1.out P2.out
            · have hbe : b.isEmpty = false := by simpa using hb
              have Ho := Lib.hid (flush_one hb out)
              clear hb
              go_wp2_with (first | (go_at_call 32; with_reducible refine (hbc _).mono ?_; rintro e w1 ⟨rfl, rfl⟩) | (go_at_call 32; with_reducible refine (huc _).mono ?_; rintro e w1 ⟨rfl, rfl⟩) | (at_builtin; go_loud (refine wp_push rfl (.tmp 25) (.tmp 28) 59 rfl 62 (.agg #[.string ByteArray.empty, .bool false]) 2 24 Try.underlying59 infoR rfl (by decide) _ _ _ rfl Hd1.out #[.string ⟨b.toArray⟩, .bool false] rfl rfl (by intro u hu; simp at hu; rcases hu with rfl | rfl <;> rfl) (by omega) (by unfold maxLen; omega) ?_; intro g4 cap4 w4 h1 h2 h3; have P1 := Lib.hid h1; have P2 := Lib.hid (Hd2.out.trans (Step.of (n := m + 1) (c := cap4) h2 h3)); clear h1 h2 h3)))
              all_goals
                go_ret2
                exact split_end1 Hz.out Ho.out Hm.out P1.out P2.out
      · have hn1 : ((d.toNat : Int) != 1) = true := (u8_f (d := 1) rfl hd1).2
        have hix : (⟨(255 :: d :: r : Str).toArray⟩ : ByteArray)[1]'(by simp [ByteArray.size]) = d := rfl
        have Hz := Lib.hid (Hsp1.out.ends (c := 3) (run_wrong1 [] d r hd hd1) rfl)
        clear hd hd1
        by_cases hb : b = []
        · have P1 := Lib.hid (show _ from Hd1.out)
          have P2 := Lib.hid (show _ from Hd2.out)
          have Ho := Lib.hid (flush_nil hb out)
          have hbe : b.isEmpty = true := by rw [hb]; rfl
          clear hb
          go_wp2_with (first | (go_at_call 32; with_reducible refine (hbc _).mono ?_; rintro e w1 ⟨rfl, rfl⟩))
          all_goals
            go_ret2
            exact split_end Hz.out Ho.out Hm.out P1.out P2.out
        · have hbe : b.isEmpty = false := by simpa using hb
          have Ho := Lib.hid (flush_one hb out)
          clear hb
          go_wp2_with (first | (go_at_call 32; with_reducible refine (hbc _).mono ?_; rintro e w1 ⟨rfl, rfl⟩) | (at_builtin; go_loud (refine wp_push rfl (.tmp 25) (.tmp 28) 59 rfl 62 (.agg #[.string ByteArray.empty, .bool false]) 2 24 Try.underlying59 infoR rfl (by decide) _ _ _ rfl Hd1.out #[.string ⟨b.toArray⟩, .bool false] rfl rfl (by intro u hu; simp at hu; rcases hu with rfl | rfl <;> rfl) (by omega) (by unfold maxLen; omega) ?_; intro g4 cap4 w4 h1 h2 h3; have P1 := Lib.hid h1; have P2 := Lib.hid (Hd2.out.trans (Step.of (n := m + 1) (c := cap4) h2 h3)); clear h1 h2 h3)))
          all_goals
            go_ret2
            exact split_end1 Hz.out Ho.out Hm.out P1.out P2.out
  all_goals (exfalso; omega)
end Mux
end Go.Proofs.Ytmmdiccpifepfaa
