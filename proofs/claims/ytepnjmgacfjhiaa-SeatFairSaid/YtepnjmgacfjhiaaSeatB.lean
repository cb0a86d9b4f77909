/- Package seat: Yield, Leave, Bump, New, and what is asked of it. Printed by gen_seata.py. -/
import Derived.Test.YtepnjmgacfjhiaaSeatA
namespace Go.Proofs.Ytepnjmgacfjhiaa
open Go.RowKit
set_option linter.unusedVariables false
set_option linter.unusedSimpArgs false
namespace Seat
open Sls
section
variable {w : World} {F : Nat → Prop} {b : Nat} {s : St}
/-- next, as the plain terms say it. -/
theorem next_all (h : SAt w F b s) (hw : s.wr = -1) (hn : s.q.Nodup) : Calls Try.prog 58 #[.pointer (some ⟨b, 0, none⟩)] w (Became (nextR s).1 (nextR s).2 F b w) := by
  cases hq : s.q with
  | nil =>
    have e : nextR s = (s, []) := by
      unfold nextR
      rw [hq]
      obtain ⟨L, m, wr, q⟩ := s
      simp only at hw hq
      rw [hw, hq]
    rw [e]
    exact next_none h hq
  | cons x t =>
    have e : nextR s = (⟨s.L, s.most, x, t.erase x⟩, [(x, 2)]) := by
      unfold nextR
      rw [hq]
      unfold becomeR
      simp only
      rw [if_neg (by decide), ← hq, next_eq hn hq]
      rfl
    rw [e]
    exact next_some h hw hq
/-- A row of shifts, and one more row behind it. -/
theorem sh_app {w0 w1 w2 : World} {F' : Nat → Prop} {g : Nat} {v' : Value} {m : Int × Int} {l : Sh} (ho : w2.ownsRow 0 79 2 v' (1 + l.length) ([.int .i64 m.1, .int .i64 m.2] ++ l.flatMap encM)) (hn : ∀ k, Of v' k → k = g ∨ New w1 w2 k) (hg : w0.heap.size ≤ g ∧ g < w1.heap.size) (hF : ∀ k, F' k → k ≠ g) (hlt : ∀ k, F' k → k < w1.heap.size) (hz : w0.heap.size ≤ w1.heap.size) (hz2 : w1.heap.size ≤ w2.heap.size) : ShR w0 w2 F' v' (m :: l) := by
  refine ⟨?_, fun k hk => ?_, fun k hk hf => ?_⟩
  · rw [List.length_cons, Nat.add_comm]
    simpa [encM] using ho
  · rcases hn k hk with h | h
    · subst h; exact ⟨hg.1, by omega⟩
    · exact ⟨Nat.le_trans hz h.1, h.2⟩
  · rcases hn k hk with h | h
    · exact hF k hf h
    · have := hlt k hf
      have := h.1
      omega
theorem app_step {w0 w1 w2 : World} {F F' : Nat → Prop} {g n c : Nat} (hs : Step F w0 F' w1) (hf : Fr (Of (.slice (some ⟨g, 0, none⟩) n c)) w1 w2) (hg : w0.heap.size ≤ g) : Step F w0 F' w2 := by
  refine ⟨hs.1.trans hf (fun k hk hl => ?_), fun k hk => ?_⟩
  · have := of_some hk
    omega
  · rcases hs.2 k hk with h | h
    · exact .inl h
    · exact .inr ⟨h.1, Nat.lt_of_lt_of_le h.2 hf.size⟩
set_option maxRecDepth 100000 in
set_option maxHeartbeats 4000000 in
theorem yield_any (h : SAt w F b s) (hi : Inv s) (id : Int) : Calls Try.prog 31 #[.pointer (some ⟨b, 0, none⟩), .int .i64 id] w (Tells (yieldR s id) F b w) := by
  have HM := Lib.hid (made_any h)
  have FI := Lib.hid (find_any h id)
  have H := Lib.hid h
  obtain ⟨p, hp⟩ : ∃ p, p = placeM s.L id := ⟨_, rfl⟩
  rw [← hp] at FI
  by_cases h1 : thereB s.L id = false
  · have e : yieldR s id = (s, [], 7) := by unfold yieldR; rw [if_pos h1]
    rw [e]
    have hpl : p < 0 := by
      rcases placeM_cases s.L id with ⟨g, _⟩ | ⟨k, _, _, g, _⟩
      · omega
      · rw [h1] at g; cases g
    clear h e h1 hp
    go_enter Try.func31, Try.ntmps31
    go_wp2_with fail
    refine HM.out.mono ?_
    rintro e w0 ⟨rfl, rfl⟩
    go_wp2_with fail
    refine FI.out.mono ?_
    rintro e w1 ⟨rfl, hf⟩
    have HF := Lib.hid hf
    clear hf
    go_wp2_with fail
    go_ret2
    exact Tells.no H.out HF.out
  · have hpl : 0 ≤ p := by
      rcases placeM_cases s.L id with ⟨_, g, _⟩ | ⟨k, _, g, _⟩
      · exact absurd g h1
      · omega
    obtain ⟨v, q, G, hq⟩ := h
    have HQ := Lib.hid hq
    obtain ⟨wr, hwr⟩ : ∃ wr, wr = s.wr := ⟨_, rfl⟩
    have HWR := Lib.hid hwr
    by_cases h2 : s.wr = id
    · have e : yieldR s id = ((nextR s).1, (id, 1) :: (nextR s).2, 0) := by unfold yieldR; rw [if_neg h1, if_neg (by simpa using h2)]
      rw [e]
      have hwe : (wr != id) = false := by rw [hwr]; simpa using h2
      clear hq e h1 hp h2 hwr
      go_enter Try.func31, Try.ntmps31
      go_wp2_with fail
      refine HM.out.mono ?_
      rintro e w0 ⟨rfl, rfl⟩
      go_wp2_with fail
      refine FI.out.mono ?_
      rintro e w1 ⟨rfl, hf⟩
      have HF := Lib.hid hf
      have Q1 := Lib.hid (HQ.out.no hf)
      have c2 := Q1.out.c2
      have f2 := Q1.out.f 2
      rw [← HWR.out] at c2
      clear hf
      go_upto_region 8 with (fail)
      obtain ⟨k1, k2⟩ := Q1.out.setW (-1)
      have Q2 := Lib.hid k1
      have S2 := Lib.hid ((Step.no (F := F) HF.out).trans k2)
      clear k1 k2 c2 f2
      generalize w1.setCell ⟨b, 2, none⟩ (.int .i64 (-1)) = w2 at Q2 S2 ⊢
      obtain ⟨g, hg⟩ : ∃ g, w2.heap.size = g := ⟨_, rfl⟩
      have L3 := Blk.new w2 79 #[.int .i64 id, .int .i64 1]
      have F3 := (Fr.refl No w2).alloc (.cells #[.int .i64 id, .int .i64 1] 79)
      have hl3 : g < (w2.alloc (.cells #[.int .i64 id, .int .i64 1] 79)).heap.size := by rw [size_alloc]; omega
      rw [hg] at L3
      have HG := Lib.hid hg
      go_wp2_with fail
      generalize w2.alloc (.cells #[.int .i64 id, .int .i64 1] 79) = w3 at L3 F3 hl3 ⊢
      have Q3 := Lib.hid (Q2.out.no F3)
      have S3 := Lib.hid (S2.out.trans (Step.no F3))
      have HNX := Lib.hid (next_all Q3.out.at rfl hi.qnodup)
      have L3 := Lib.hid L3
      have HL3 := Lib.hid hl3
      clear F3 hg hl3
      refine HNX.out.mono ?_
      rintro e wn ⟨F', v', rfl, hr, ha, hs⟩
      obtain ⟨B, c, rfl⟩ := own_form hr.own
      have e2 : nextR ⟨s.L, s.most, -1, s.q⟩ = nextR s := rfl
      rw [e2] at hr ha ⊢
      obtain ⟨l, hl⟩ : ∃ l, l = (nextR s).2 := ⟨_, rfl⟩
      rw [← hl] at hr ⊢
      obtain ⟨m, hm⟩ : ∃ m, m = l.length := ⟨_, rfl⟩
      have hml : m ≤ 2 := by
        rw [hm, hl]
        unfold nextR becomeR
        split
        · simp
        · simp
      have R4 := Lib.hid hr
      have A4 := Lib.hid ha
      have S4 := Lib.hid hs
      have HM2 := Lib.hid hm
      have HLL := Lib.hid hl
      have L4 := Lib.hid (L3.out.fr hs.1 (fun hF => by have := Q2.out.lt g hF; have := HG.out; omega))
      have O4 := Lib.hid (show wn.ownsRow 0 79 2 (.slice (some ⟨g, 0, none⟩) 1 1) 1 [.int .i64 id, .int .i64 1] from ⟨rfl, .inr ⟨g, 1, _, rfl, Nat.zero_le _, L4.out, Nat.le_refl _, by unfold maxLen; decide, rfl, rfl⟩⟩)
      have NW := Lib.hid (own_news R4.out.own (by decide))
      have hfl : (l.flatMap encM).length = m * 2 := by rw [fm2, ← HM2.out]
      rw [← hm]
      have HFL := Lib.hid hfl
      clear hr ha hs hm hl hfl
      go_wp2_with (at_builtin; go_loud (refine wp_app (B := B) (m := m) (c := c) (news := l.flatMap encM) rfl (.tmp 27) (.tmp 29) 61 rfl 79 (.agg #[.int .i64 0, .int .i64 0]) 2 16 Try.underlying61 infoH rfl (by decide) (.slice (some ⟨g, 0, none⟩) 1 1) 1 _ rfl (O4.out) rfl HFL.out NW.out (encM_one _) (by omega) (by unfold maxLen; omega) ?_; intro v4 w4 p1 p2 p3; have P1 := Lib.hid p1; have P2 := Lib.hid p2; have P3 := Lib.hid p3; clear p1 p2 p3))
      go_ret2
      have hF' : ∀ k, F' k → k ≠ g := fun k hk e => by
        subst e
        rcases S4.out.2 k hk with g1 | g1
        · have := Q2.out.lt k g1; have := HG.out; omega
        · have := g1.1; have := HL3.out; omega
      have hz4 := S4.out.1.size
      have hz2 := S2.out.1.size
      have hl3 := HL3.out
      have hgg := HG.out
      refine ⟨F', v4, rfl, sh_app (w1 := wn) (g := g) (m := (id, 1)) (by rw [← HLL.out, ← HM2.out]; exact P1.out) (fun k hk => (P3.out k hk).elim (fun h => .inl (of_some h)) .inr) ⟨by omega, by omega⟩ hF' A4.out.lt (Nat.le_trans S3.out.1.size hz4) P2.out.size, A4.out.fr P2.out (fun k hk h => hF' k hk (of_some h)), app_step (S3.out.trans S4.out) P2.out (by omega)⟩
    · have e : yieldR s id = (s, [], 9) := by unfold yieldR; rw [if_neg h1, if_pos h2]
      rw [e]
      have hwe : (wr != id) = true := by rw [hwr]; simpa using h2
      clear hq e h1 hp h2 hwr
      go_enter Try.func31, Try.ntmps31
      go_wp2_with fail
      refine HM.out.mono ?_
      rintro e w0 ⟨rfl, rfl⟩
      go_wp2_with fail
      refine FI.out.mono ?_
      rintro e w1 ⟨rfl, hf⟩
      have HF := Lib.hid hf
      have c2 := (HQ.out.no hf).c2
      rw [← HWR.out] at c2
      clear hf
      go_wp2_with fail
      go_ret2
      exact Tells.no H.out HF.out
end
end Seat
end Go.Proofs.Ytepnjmgacfjhiaa
