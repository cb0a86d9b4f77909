/- The splitter inside a reader: a text that is fed; Check. Printed by gen_rds.py. -/
import Derived.Test.YtmmdiccpifepfaaRdS
namespace Go.Proofs.Ytmmdiccpifepfaa
open Go.RowKit
set_option linter.unusedVariables false
set_option linter.unusedSimpArgs false
namespace Rd
open Mux (stepR infoP encP of_ne blk_ne FS flushR flush_any feedR feedR_cons stepR_ends flushR_len fs_new checkR infoB)
structure FI (K : KV) (w0 : World) (F0 : Nat → Prop) (w : World) (F G : Nat → Prop) (g bd bo p : Nat) (op data : Str) (out : List (Str × Bool)) : Prop where
  sat : SAt K w F g p op
  fs : FS w G bd bo data out
  step : Step F0 w0 F w
  new : ∀ k, G k → New w0 w k
  dis : ∀ k, F k → ¬ G k
section
variable {K : KV} {w0 w w1 : World} {F0 F F1 G G1 : Nat → Prop} {g bd bo p p1 : Nat} {op op1 data data1 : Str} {out out1 : List (Str × Bool)}
theorem FI.stepped (h : FI K w0 F0 w F G g bd bo p op data out) (hs : SAt K w1 F1 g p1 op1) (st : Step F w F1 w1) : FI K w0 F0 w1 F1 G g bd bo p1 op1 data out :=
  ⟨hs, h.fs.fr st.1 (fun k hk hF => h.dis k hF hk), h.step.trans st, fun k hk => ⟨(h.new k hk).1, Nat.lt_of_lt_of_le (h.new k hk).2 st.1.size⟩, fun k hk hg => by
    rcases st.2 k hk with h1 | h1
    · exact h.dis k h1 hg
    · have := h.fs.size k hg; have := h1.1; omega⟩
theorem FI.turned (h : FI K w0 F0 w F G g bd bo p op data out) (hs : FS w1 G1 bd bo data1 out1) (st : Step G w G1 w1) : FI K w0 F0 w1 F G1 g bd bo p op data1 out1 :=
  ⟨h.sat.fr st.1 h.dis, hs, ⟨h.step.1.trans st.1 (fun k hk hl => absurd (h.new k hk).1 (by omega)), fun k hk => (h.step.2 k hk).elim .inl fun h1 => .inr ⟨h1.1, Nat.lt_of_lt_of_le h1.2 st.1.size⟩⟩,
   fun k hk => by
    rcases st.2 k hk with h1 | h1
    · exact ⟨(h.new k h1).1, Nat.lt_of_lt_of_le (h.new k h1).2 st.1.size⟩
    · exact ⟨Nat.le_trans h.step.1.size h1.1, h1.2⟩,
   fun k hk hg => by
    rcases st.2 k hg with h1 | h1
    · exact h.dis k hk h1
    · have := h.sat.size k hk; have := h1.1; omega⟩
theorem FI.quiet (h : FI K w0 F0 w F G g bd bo p op data out) (hf : Fr No w w1) : FI K w0 F0 w1 F G g bd bo p op data out :=
  h.stepped (h.sat.fr hf (fun _ _ h => h)) (Step.no hf)
/-- What is open is dropped. -/
theorem SAt.drop (h : SAt K w F g p op) : SAt K (w.setCell ⟨g, 5, none⟩ (.slice none 0 0)) F g p [] := by
  obtain ⟨v, h1, h2, h3, h4, h5⟩ := h
  exact ⟨.slice none 0 0, by simpa using h1.put 5 (.slice none 0 0), World.ownsRow_nil _ _ _ _, h3, (fun k hk => by cases hk), fun k hk => by rw [size_setCell]; exact h5 k hk⟩
theorem SAt.drop_step (h : SAt K w F g p op) : Step F w F (w.setCell ⟨g, 5, none⟩ (.slice none 0 0)) := ⟨(Fr.refl _ _).setCell (p := ⟨g, 5, none⟩) (.inl h.in_) _, fun k hk => .inl hk⟩
end
def FeedPost (K : KV) (w : World) (F0 : Nat → Prop) (g : Nat) (r : (Nat × Str) × (Str × List (Str × Bool))) (e : Ending) (w' : World) : Prop :=
  ∃ F' A c, e = .returned (.slice A (flushR r.2.1 r.2.2).length c) ∧ w'.ownsRow 0 57 2 (.slice A (flushR r.2.1 r.2.2).length c) (flushR r.2.1 r.2.2).length ((flushR r.2.1 r.2.2).flatMap encP) ∧
    SAt K w' F' g r.1.1 r.1.2 ∧ Step F0 w F' w' ∧ (∀ k, Of (.slice A (flushR r.2.1 r.2.2).length c) k → New w w' k ∧ ¬ F' k)
set_option maxHeartbeats 2000000 in
set_option maxRecDepth 100000 in
theorem feed_any (K : KV) (w : World) (F0 : Nat → Prop) (g p : Nat) (op s : Str) (h : SAt K w F0 g p op) (hp : p ≤ 4) (hl : op.length + s.length ≤ 3000000) :
    Calls Try.prog 16 #[.pointer (some ⟨g, 4, none⟩), .string ⟨s.toArray⟩] w (FeedPost K w F0 g (feedR p op [] [] s)) := by
  have H := Lib.hid h
  have hst := Lib.hid (show SAt K ((w.alloc (.cells #[.slice none 0 0] 54)).alloc (.cells #[.slice none 0 0] 37)) F0 g p op from h.fr (((Fr.refl No w).alloc _).alloc _) (fun _ _ h => h))
  have hsz := Lib.hid h.size
  clear h
  go_enter Try.func16, Try.ntmps16
  go_wp2_with fail
  go_loopw [16] (fun i wr => ∃ (k q : Nat) (oq data : Str) (out : List (Str × Bool)) (F G : Nat → Prop), i = .int .i64 k ∧ k ≤ s.length ∧ q ≤ 4 ∧ oq.length ≤ op.length + k ∧ data.length ≤ k ∧ out.length ≤ 2 * k ∧ Hid (feedR p op [] [] s = feedR q oq data out (s.drop k) ∧ FI K w F0 wr F G g (w.heap.size + 1) w.heap.size q oq data out)) (fun i _ => s.length - (intOf i).toNat)
  case atStart =>
    refine ⟨0, p, op, [], [], F0, _, rfl, by omega, hp, by omega, by simp, by simp, rfl, hst.out, fs_new w 0, ⟨((Fr.refl _ _).alloc _).alloc _, fun k hk => .inl hk⟩, fun k hk => ?_, fun k hk hg => ?_⟩
    · rw [New, size_alloc, size_alloc]; omega
    · have := hsz.out k hk; omega
  case round =>
    obtain ⟨k, q, oq, data, out, F, G, rfl, hk, hq, hoq, hda, hou, hd⟩ := hrel
    by_cases hlt : k < s.length
    · obtain ⟨hR, hI⟩ := hd.out
      have hix : (⟨s.toArray⟩ : ByteArray)[k]'(by simpa [ByteArray.size] using hlt) = s[k] := rfl
      have hc := step_any K wr F g q oq s[k] hI.sat hq (by omega)
      obtain ⟨e1, e2, e3⟩ := stepR_ends q oq s[k] hq
      rw [List.drop_eq_getElem_cons hlt] at hR
      obtain ⟨⟨⟨q1, oq1⟩, b1, en⟩, hr⟩ : ∃ r, r = stepR q oq s[k] := ⟨_, rfl⟩
      rw [feedR_cons] at hR
      rw [← hr] at hc e1 e2 e3 hR
      simp only at e1 e2 e3 hR
      have HR := Lib.hid hR
      have HI := Lib.hid hI
      have Hc := Lib.hid hc
      clear hR hI hc hr hd
      cases en with
      | false =>
        go_wp2_with (first
          | (go_at_call 27; go_loud (refine Hc.out.mono ?_; rintro e w1 ⟨F1, vb, rfl, hrb, hsat, hstp⟩; have fi1 := HI.out.stepped hsat hstp; obtain ⟨vd, vo, x1, x2, x3, x4, x5, x6, x7, x8, x9⟩ := fi1.fs; obtain ⟨A1, k1, rfl⟩ := own_form x3; obtain ⟨A2, k2, rfl, hk21, hk22⟩ := hrb.slice; have d0 := x1.cell 0; have d1 := x1.frozen 0; simp at d0; have hnb := Lib.hid (bytes_news hrb); have X1 := Lib.hid x1; have X3 := Lib.hid x3; have FI1 := Lib.hid fi1; clear hrb hsat hstp fi1 x1 x2 x3 x4 x5 x6 x7 x8 x9))
          | (at_builtin; go_loud (refine wp_app rfl (.tmp 27) (.tmp 28) 37 rfl 5 (.int .u8 0) 1 1 Try.underlying37 infoB rfl (by decide) _ _ _ rfl X3.out (m := b1.length) (news := b1.map encB) rfl (by simp) hnb.out (encB_one b1) (by omega) (by unfold maxLen; omega) ?_; intro v2 w2 p1 p2 p3; have ho2 : w2.ownsRow 0 5 1 v2 (data ++ b1).length ((data ++ b1).map encB) := (by simpa using p1); obtain ⟨A3, k3, rfl⟩ := own_form p1; have y1 := X1.out.fr p2 (of_ne X3.out X1.out (by decide)); have f0 := y1.cell 0; have f1 := y1.frozen 0; simp at f0; have fs2 := FS.setData FI1.out.fs X1.out ho2 p2 p3; have FI2 := Lib.hid (FI1.out.turned fs2.1 fs2.2); clear p1 p2 p3 y1 ho2 fs2)))
        go_roundw
        case rel =>
          refine ⟨k + 1, q1, oq1, data ++ b1, out, F1, _, by go_num, by omega, e1, by omega, by simp; omega, by omega, ?_, FI2.out⟩
          simpa using HR.out
        case measure => simp [intOf]; omega
      | true =>
        go_wp2_with (first
          | (go_at_call 27; go_loud (refine Hc.out.mono ?_; rintro e w1 ⟨F1, vb, rfl, hrb, hsat, hstp⟩; have fi1 := HI.out.stepped hsat hstp; obtain ⟨vd, vo, x1, x2, x3, x4, x5, x6, x7, x8, x9⟩ := fi1.fs; obtain ⟨A1, k1, rfl⟩ := own_form x3; obtain ⟨A2, k2, rfl, hk21, hk22⟩ := hrb.slice; have d0 := x1.cell 0; have d1 := x1.frozen 0; simp at d0; have hnb := Lib.hid (bytes_news hrb); have X1 := Lib.hid x1; have X3 := Lib.hid x3; have FI1 := Lib.hid fi1; clear hrb hsat hstp fi1 x1 x2 x3 x4 x5 x6 x7 x8 x9))
          | (at_builtin; go_loud (refine wp_app rfl (.tmp 27) (.tmp 28) 37 rfl 5 (.int .u8 0) 1 1 Try.underlying37 infoB rfl (by decide) _ _ _ rfl X3.out (m := b1.length) (news := b1.map encB) rfl (by simp) hnb.out (encB_one b1) (by omega) (by unfold maxLen; omega) ?_; intro v2 w2 p1 p2 p3; have ho2 : w2.ownsRow 0 5 1 v2 (data ++ b1).length ((data ++ b1).map encB) := (by simpa using p1); obtain ⟨A3, k3, rfl⟩ := own_form p1; have y1 := X1.out.fr p2 (of_ne X3.out X1.out (by decide)); have f0 := y1.cell 0; have f1 := y1.frozen 0; simp at f0; have fs2 := FS.setData FI1.out.fs X1.out ho2 p2 p3; have FI2 := Lib.hid (FI1.out.turned fs2.1 fs2.2); clear p1 p2 p3 y1 ho2 fs2))
          | (go_at_call 26; go_loud (refine (flush_any FI2.out.fs (by omega)).mono ?_; rintro e w3 ⟨G3, rfl, hfs, hst3⟩; have fi3 := FI2.out.turned hfs hst3; obtain ⟨vd3, vo3, z1, z2, z3, z4, z5, z6, z7, z8, z9⟩ := fi3.fs; obtain ⟨A5, k5, rfl⟩ := own_form z4; obtain ⟨vp, s1, s2, s3, s4, s5⟩ := fi3.sat; obtain ⟨A6, k6, rfl⟩ := own_form s2; have d2 := z2.cell 0; have d3 := z2.frozen 0; have d4 := s1.cell 5; have d5 := s1.frozen 5; simp at d2 d4; have hcv := conv_bytes (P := Try.prog) (w := w3) 37 9 5 Try.underlying37 Try.underlying5 Try.underlying9 (own_bytes s2); have hcvd := conv_bytes (P := Try.prog) (w := w3.drew) 37 9 5 Try.underlying37 Try.underlying5 Try.underlying9 (own_bytes s2); have hlt3 := z2.lt; have hlt4 := s1.lt; have hne3 : w.heap.size ≠ w3.heap.size := (by omega); have Z2 := Lib.hid z2; have Z4 := Lib.hid z4; have FI3 := Lib.hid fi3; clear hfs hst3 fi3 z1 z2 z3 z4 z5 z6 z7 z8 z9 s1 s2 s3 s4 s5)))
        have hfl := flushR_len (data ++ b1) out
        obtain ⟨o3, ho3⟩ : ∃ o3, flushR (data ++ b1) out = o3 := ⟨_, rfl⟩
        rw [ho3] at hfl Z2 Z4 FI3 d2
        have Ho3 := Lib.hid ho3
        clear ho3
        go_region_law (go_loud (refine step_pushD rfl (.tmp 33) (.tmp 40) 54 rfl 57 (.agg #[.string ByteArray.empty, .bool false]) 2 24 Try.underlying54 infoP rfl (by decide) (.slice A5 o3.length k5) _ _ (by simp [Act.eval, Act.put]) Z4.out #[.string ⟨oq1.toArray⟩, .bool true] (by simp [Act.eval, Act.put]) rfl (by intro u hu; simp at hu; rcases hu with rfl | rfl <;> rfl) (by omega) (by unfold maxLen; omega) ?_; intro g4 cap4 w4 p1 p2 p3; have b2 := Z2.out.fr p2 (of_ne Z4.out Z2.out (by decide)); have q0 := b2.cell 0; have q1' := b2.frozen 0; simp at q0; have ho4 : w4.ownsRow 0 57 2 (.slice (some ⟨g4, 0, none⟩) (o3.length + 1) cap4) (o3 ++ [(oq1, true)]).length ((o3 ++ [(oq1, true)]).flatMap encP) := (by simpa [encP] using p1); have fs4 := FS.setOut FI3.out.fs Z2.out ho4 p2 (Step.of p2 p3).2; have fi4 := FI3.out.turned fs4.1 fs4.2; obtain ⟨vp4, s1, s2, s3, s4, s5⟩ := fi4.sat; have q2 := s1.cell 5; have q3 := s1.frozen 5; simp at q2; have FI4 := Lib.hid fi4; clear b2 p1 p2 p3 ho4 fs4 fi4 s1 s2 s3 s4 s5))
        all_goals
          go_wp2
          go_roundw
          case rel =>
            refine ⟨k + 1, q1, [], [], o3 ++ [(oq1, true)], F1, _, by go_num, by omega, e1, by simp, by simp, by simp; omega, ?_, FI4.out.stepped FI4.out.sat.drop FI4.out.sat.drop_step⟩
            have h1 := HR.out
            rw [if_pos trivial, Ho3.out] at h1
            exact h1
          case measure => simp [intOf]; omega
    · have hR := hd.out.1
      rw [List.drop_of_length_le (by omega)] at hR
      have hI := hd.out.2
      have HI := Lib.hid hI
      have HR := Lib.hid hR
      clear hR hI hd
      go_wp2_with (go_at_call 26; go_loud (refine (flush_any HI.out.fs (by omega)).mono ?_; rintro e w3 ⟨G3, rfl, hfs, hst3⟩; have fi3 := HI.out.turned hfs hst3; obtain ⟨vd3, vo3, z1, z2, z3, z4, z5, z6, z7, z8, z9⟩ := fi3.fs; obtain ⟨A5, k5, rfl⟩ := own_form z4; have d2 := z2.cell 0; simp at d2; have Z4 := Lib.hid z4; have Z8 := Lib.hid z8; have FI3 := Lib.hid fi3; clear hfs hst3 fi3 z1 z2 z3 z4 z5 z6 z7 z8 z9))
      go_ret
      rw [HR.out]
      exact ⟨F, A5, k5, rfl, Z4.out, FI3.out.sat, FI3.out.step, fun k hk => ⟨FI3.out.new k (Z8.out k hk), fun hF => FI3.out.dis k hF (Z8.out k hk)⟩⟩
theorem check_any (K : KV) (w : World) (F : Nat → Prop) (g p : Nat) (op : Str) (h : SAt K w F g p op) (hp : p ≤ 4) : Calls Try.prog 21 #[.pointer (some ⟨g, 4, none⟩)] w fun e w' => e = .returned (.int .i64 (checkR p)) ∧ w = w' := by
  obtain ⟨v, h1, h2, h3, h4, h5⟩ := h
  have c0 := h1.cell 4
  simp at c0
  clear h1 h2 h4 h5
  obtain rfl | rfl | rfl | rfl | rfl : p = 0 ∨ p = 1 ∨ p = 2 ∨ p = 3 ∨ p = 4 := by omega
  all_goals
    go_enter Try.func21, Try.ntmps21
    go_wp2
    go_ret
    exact ⟨rfl, rfl⟩
end Rd
end Go.Proofs.Ytmmdiccpifepfaa
