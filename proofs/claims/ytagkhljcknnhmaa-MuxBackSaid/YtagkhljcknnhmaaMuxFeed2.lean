/- The splitter of package mux: a text that is fed: the walk. -/
import Derived.Test.YtagkhljcknnhmaaMuxFeed
namespace Go.Proofs.Ytagkhljcknnhmaa
open Go.RowKit
set_option linter.unusedVariables false
set_option linter.unusedSimpArgs false
namespace Mux
def FeedPost (w : World) (F0 : Nat → Prop) (g : Nat) (r : (Nat × Str) × (Str × List (Str × Bool))) (e : Ending) (w' : World) : Prop :=
  ∃ F' A c, e = .returned (.slice A (flushR r.2.1 r.2.2).length c) ∧ w'.ownsRow 0 74 2 (.slice A (flushR r.2.1 r.2.2).length c) (flushR r.2.1 r.2.2).length ((flushR r.2.1 r.2.2).flatMap encP) ∧
    SAt w' F' g r.1.1 r.1.2 ∧ Step F0 w F' w' ∧ (∀ k, Of (.slice A (flushR r.2.1 r.2.2).length c) k → New w w' k ∧ ¬ F' k)
theorem feedR_cons (p : Nat) (op data : Str) (out : List (Str × Bool)) (c : UInt8) (s : Str) : feedR p op data out (c :: s) =
    if (stepR p op c).2.2 = true then feedR (stepR p op c).1.1 [] [] (flushR (data ++ (stepR p op c).2.1) out ++ [((stepR p op c).1.2, true)]) s
    else feedR (stepR p op c).1.1 (stepR p op c).1.2 (data ++ (stepR p op c).2.1) out s := rfl
theorem feed_nil (s : Str) (w : World) : Calls Try.prog 26 #[.pointer none, .string ⟨s.toArray⟩] w fun e w' => e = .returned (.slice none 0 0) ∧ w = w' := by
  go_enter Try.func26, Try.ntmps26
  go_wp2
  go_ret
  exact ⟨rfl, rfl⟩
theorem fs_new (w : World) (b : Nat) : FS ((w.alloc (.cells #[.slice none 0 0] 53)).alloc (.cells #[.slice none 0 0] 40)) (fun k => k = w.heap.size ∨ k = w.heap.size + 1) (w.heap.size + 1) w.heap.size [] [] := by
  have h1 := Blk.new w 53 #[.slice none 0 0]
  have h2 := Blk.new (w.alloc (.cells #[.slice none 0 0] 53)) 40 #[.slice none 0 0]
  rw [size_alloc] at h2
  refine ⟨_, _, h2, h1.alloc _, World.ownsRow_nil _ _ _ _, World.ownsRow_nil _ _ _ _, .inr rfl, .inl rfl, (fun k hk => by cases hk), (fun k hk => by cases hk), fun k hk => ?_⟩
  rw [size_alloc, size_alloc]
  omega
set_option maxHeartbeats 2000000 in
set_option maxRecDepth 100000 in
theorem feed_any (w : World) (F0 : Nat → Prop) (g p : Nat) (op s : Str) (h : SAt w F0 g p op) (hp : p ≤ 4) (hl : op.length + s.length ≤ 3000000) :
    Calls Try.prog 26 #[.pointer (some ⟨g, 0, none⟩), .string ⟨s.toArray⟩] w (FeedPost w F0 g (feedR p op [] [] s)) := by
  have H := Lib.hid h
  have hst := Lib.hid (show SAt ((w.alloc (.cells #[.slice none 0 0] 53)).alloc (.cells #[.slice none 0 0] 40)) F0 g p op from h.fr (((Fr.refl No w).alloc _).alloc _) (fun _ _ h => h))
  have hsz := Lib.hid h.size
  clear h
  go_enter Try.func26, Try.ntmps26
  go_wp2_with fail
  go_loopw [16] (fun i wr => ∃ (k q : Nat) (oq data : Str) (out : List (Str × Bool)) (F G : Nat → Prop), i = .int .i64 k ∧ k ≤ s.length ∧ q ≤ 4 ∧ oq.length ≤ op.length + k ∧ data.length ≤ k ∧ out.length ≤ 2 * k ∧ Hid (feedR p op [] [] s = feedR q oq data out (s.drop k) ∧ FI w F0 wr F G g (w.heap.size + 1) w.heap.size q oq data out)) (fun i _ => s.length - (intOf i).toNat)
  case atStart =>
    refine ⟨0, p, op, [], [], F0, _, rfl, by omega, hp, by omega, by simp, by simp, rfl, hst.out, fs_new w 0, ⟨((Fr.refl _ _).alloc _).alloc _, fun k hk => .inl hk⟩, fun k hk => ?_, fun k hk hg => ?_⟩
    · rw [New, size_alloc, size_alloc]; omega
    · have := hsz.out k hk; omega
  case round =>
    obtain ⟨k, q, oq, data, out, F, G, rfl, hk, hq, hoq, hda, hou, hd⟩ := hrel
    by_cases hlt : k < s.length
    · obtain ⟨hR, hI⟩ := hd.out
      have hix : (⟨s.toArray⟩ : ByteArray)[k]'(by simpa [ByteArray.size] using hlt) = s[k] := rfl
      have hc := step_any wr F g q oq s[k] hI.sat hq (by omega)
      obtain ⟨e1, e2, e3⟩ := stepR_ends q oq s[k] hq
      rw [List.drop_eq_getElem_cons hlt] at hR
      obtain ⟨⟨⟨q1, oq1⟩, b1, en⟩, hr⟩ : ∃ r, r = stepR q oq s[k] := ⟨_, rfl⟩
      rw [feedR_cons] at hR
      rw [← hr] at hc e1 e2 e3 hR
      simp only at e1 e2 e3 hR
      have HR := Lib.hid hR
      have HI := Lib.hid hI
      have Hc := Lib.hid hc
      clear hR hI hc hr hd
      cases en with
      | false =>
        go_wp2_with (first
          | (go_at_call 37; go_loud (refine Hc.out.mono ?_; rintro e w1 ⟨F1, vb, rfl, hrb, hsat, hstp⟩; have fi1 := HI.out.stepped hsat hstp; obtain ⟨vd, vo, x1, x2, x3, x4, x5, x6, x7, x8, x9⟩ := fi1.fs; obtain ⟨A1, k1, rfl⟩ := own_form x3; obtain ⟨A2, k2, rfl, hk21, hk22⟩ := hrb.slice; have d0 := x1.cell 0; have d1 := x1.frozen 0; simp at d0; have hnb := Lib.hid (bytes_news hrb); have X1 := Lib.hid x1; have X3 := Lib.hid x3; have FI1 := Lib.hid fi1; clear hrb hsat hstp fi1 x1 x2 x3 x4 x5 x6 x7 x8 x9))
          | (at_builtin; go_loud (refine wp_app rfl (.tmp 27) (.tmp 28) 40 rfl 5 (.int .u8 0) 1 1 Try.underlying40 infoB rfl (by decide) _ _ _ rfl X3.out (m := b1.length) (news := b1.map encB) rfl (by simp) hnb.out (encB_one b1) (by omega) (by unfold maxLen; omega) ?_; intro v2 w2 p1 p2 p3; have ho2 : w2.ownsRow 0 5 1 v2 (data ++ b1).length ((data ++ b1).map encB) := (by simpa using p1); obtain ⟨A3, k3, rfl⟩ := own_form p1; have y1 := X1.out.fr p2 (of_ne X3.out X1.out (by decide)); have f0 := y1.cell 0; have f1 := y1.frozen 0; simp at f0; have fs2 := FS.setData FI1.out.fs X1.out ho2 p2 p3; have FI2 := Lib.hid (FI1.out.turned fs2.1 fs2.2); clear p1 p2 p3 y1 ho2 fs2)))
        go_roundw
        case rel =>
          refine ⟨k + 1, q1, oq1, data ++ b1, out, F1, _, by go_num, by omega, e1, by omega, by simp; omega, by omega, ?_, FI2.out⟩
          simpa using HR.out
        case measure => simp [intOf]; omega
      | true =>
        go_wp2_with (first
          | (go_at_call 37; go_loud (refine Hc.out.mono ?_; rintro e w1 ⟨F1, vb, rfl, hrb, hsat, hstp⟩; have fi1 := HI.out.stepped hsat hstp; obtain ⟨vd, vo, x1, x2, x3, x4, x5, x6, x7, x8, x9⟩ := fi1.fs; obtain ⟨A1, k1, rfl⟩ := own_form x3; obtain ⟨A2, k2, rfl, hk21, hk22⟩ := hrb.slice; have d0 := x1.cell 0; have d1 := x1.frozen 0; simp at d0; have hnb := Lib.hid (bytes_news hrb); have X1 := Lib.hid x1; have X3 := Lib.hid x3; have FI1 := Lib.hid fi1; clear hrb hsat hstp fi1 x1 x2 x3 x4 x5 x6 x7 x8 x9))
          | (at_builtin; go_loud (refine wp_app rfl (.tmp 27) (.tmp 28) 40 rfl 5 (.int .u8 0) 1 1 Try.underlying40 infoB rfl (by decide) _ _ _ rfl X3.out (m := b1.length) (news := b1.map encB) rfl (by simp) hnb.out (encB_one b1) (by omega) (by unfold maxLen; omega) ?_; intro v2 w2 p1 p2 p3; have ho2 : w2.ownsRow 0 5 1 v2 (data ++ b1).length ((data ++ b1).map encB) := (by simpa using p1); obtain ⟨A3, k3, rfl⟩ := own_form p1; have y1 := X1.out.fr p2 (of_ne X3.out X1.out (by decide)); have f0 := y1.cell 0; have f1 := y1.frozen 0; simp at f0; have fs2 := FS.setData FI1.out.fs X1.out ho2 p2 p3; have FI2 := Lib.hid (FI1.out.turned fs2.1 fs2.2); clear p1 p2 p3 y1 ho2 fs2))
          | (go_at_call 36; go_loud (refine (flush_any FI2.out.fs (by omega)).mono ?_; rintro e w3 ⟨G3, rfl, hfs, hst3⟩; have fi3 := FI2.out.turned hfs hst3; obtain ⟨vd3, vo3, z1, z2, z3, z4, z5, z6, z7, z8, z9⟩ := fi3.fs; obtain ⟨A5, k5, rfl⟩ := own_form z4; obtain ⟨vp, s1, s2, s3, s4, s5⟩ := fi3.sat; obtain ⟨A6, k6, rfl⟩ := own_form s2; have d2 := z2.cell 0; have d3 := z2.frozen 0; have d4 := s1.cell 1; have d5 := s1.frozen 1; simp at d2 d4; have hcv := conv_bytes (P := Try.prog) (w := w3) 40 9 5 Try.underlying40 Try.underlying5 Try.underlying9 (own_bytes s2); have hcvd := conv_bytes (P := Try.prog) (w := w3.drew) 40 9 5 Try.underlying40 Try.underlying5 Try.underlying9 (own_bytes s2); have hlt3 := z2.lt; have hlt4 := s1.lt; have hne3 : w.heap.size ≠ w3.heap.size := (by omega); have Z2 := Lib.hid z2; have Z4 := Lib.hid z4; have FI3 := Lib.hid fi3; clear hfs hst3 fi3 z1 z2 z3 z4 z5 z6 z7 z8 z9 s1 s2 s3 s4 s5)))
        have hfl := flushR_len (data ++ b1) out
        obtain ⟨o3, ho3⟩ : ∃ o3, flushR (data ++ b1) out = o3 := ⟨_, rfl⟩
        rw [ho3] at hfl Z2 Z4 FI3 d2
        have Ho3 := Lib.hid ho3
        clear ho3
        go_region_law (go_loud (refine step_pushD rfl (.tmp 33) (.tmp 40) 53 rfl 74 (.agg #[.string ByteArray.empty, .bool false]) 2 24 Try.underlying53 infoP rfl (by decide) (.slice A5 o3.length k5) _ _ (by simp [Act.eval, Act.put]) Z4.out #[.string ⟨oq1.toArray⟩, .bool true] (by simp [Act.eval, Act.put]) rfl (by intro u hu; simp at hu; rcases hu with rfl | rfl <;> rfl) (by omega) (by unfold maxLen; omega) ?_; intro g4 cap4 w4 p1 p2 p3; have b2 := Z2.out.fr p2 (of_ne Z4.out Z2.out (by decide)); have q0 := b2.cell 0; have q1' := b2.frozen 0; simp at q0; have ho4 : w4.ownsRow 0 74 2 (.slice (some ⟨g4, 0, none⟩) (o3.length + 1) cap4) (o3 ++ [(oq1, true)]).length ((o3 ++ [(oq1, true)]).flatMap encP) := (by simpa [encP] using p1); have fs4 := FS.setOut FI3.out.fs Z2.out ho4 p2 (Step.of p2 p3).2; have fi4 := FI3.out.turned fs4.1 fs4.2; obtain ⟨vp4, s1, s2, s3, s4, s5⟩ := fi4.sat; have q2 := s1.cell 1; have q3 := s1.frozen 1; simp at q2; have FI4 := Lib.hid fi4; clear b2 p1 p2 p3 ho4 fs4 fi4 s1 s2 s3 s4 s5))
        all_goals
          go_wp2
          go_roundw
          case rel =>
            refine ⟨k + 1, q1, [], [], o3 ++ [(oq1, true)], F1, _, by go_num, by omega, e1, by simp, by simp, by simp; omega, ?_, FI4.out.stepped FI4.out.sat.drop FI4.out.sat.drop_step⟩
            have h1 := HR.out
            rw [if_pos trivial, Ho3.out] at h1
            exact h1
          case measure => simp [intOf]; omega
    · have hR := hd.out.1
      rw [List.drop_of_length_le (by omega)] at hR
      have hI := hd.out.2
      have HI := Lib.hid hI
      have HR := Lib.hid hR
      clear hR hI hd
      go_wp2_with (go_at_call 36; go_loud (refine (flush_any HI.out.fs (by omega)).mono ?_; rintro e w3 ⟨G3, rfl, hfs, hst3⟩; have fi3 := HI.out.turned hfs hst3; obtain ⟨vd3, vo3, z1, z2, z3, z4, z5, z6, z7, z8, z9⟩ := fi3.fs; obtain ⟨A5, k5, rfl⟩ := own_form z4; have d2 := z2.cell 0; simp at d2; have Z4 := Lib.hid z4; have Z8 := Lib.hid z8; have FI3 := Lib.hid fi3; clear hfs hst3 fi3 z1 z2 z3 z4 z5 z6 z7 z8 z9))
      go_ret
      rw [HR.out]
      exact ⟨F, A5, k5, rfl, Z4.out, FI3.out.sat, FI3.out.step, fun k hk => ⟨FI3.out.new k (Z8.out k hk), fun hF => FI3.out.dis k hF (Z8.out k hk)⟩⟩
end Mux
end Go.Proofs.Ytagkhljcknnhmaa
