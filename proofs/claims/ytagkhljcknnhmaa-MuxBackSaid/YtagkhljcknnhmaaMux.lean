/- Contracts of package mux. -/
import Derived.Test.YtagkhljcknnhmaaRows
import Derived.Test.YtagkhljcknnhmaaBytes
import Derived.WalkKit
import Derived.Outline
import Derived.BigQuiet
import Derived.Deep.QuietTactic
import Derived.Deep.RegionLaw
import Derived.Deep.DeepMust
namespace Go.Proofs.Ytagkhljcknnhmaa
open Go.RowKit
set_option linter.unusedVariables false
set_option linter.unusedSimpArgs false
namespace Mux
theorem infoB : (Try.prog.info? 5).map (fun i => (i.zero, i.size, i.bytes)) = some (some (.int .u8 0), 1, 1) := by kernel_rfl
/-- Each sign twice. -/
def twice (s : Str) : Str := s.flatMap fun c => if c = 255 then [255, 255] else [c]
theorem twice_snoc (s : Str) (c : UInt8) : twice (s ++ [c]) = twice s ++ if c = 255 then [255, 255] else [c] := by simp [twice]
theorem twice_len (s : Str) : (twice s).length ≤ 2 * s.length := by
  induction s with
  | nil => simp [twice]
  | cons c s ih =>
    unfold twice at *
    rw [List.flatMap_cons, List.length_append, List.length_cons]
    have : (if c = 255 then [255, 255] else [c] : List UInt8).length ≤ 2 := by split <;> simp
    omega
set_option maxHeartbeats 800000 in
theorem doubled_any (v : Value) (b s : Str) (w : World) (hown : w.ownsRow 0 5 1 v b.length (b.map encB)) (hb : b.length ≤ 1000000) (hs : s.length ≤ 1000000) :
    Calls Try.prog 35 #[v, .string ⟨s.toArray⟩] w fun e w' => ∃ v', e = .returned v' ∧ w'.ownsRow 0 5 1 v' (b ++ twice s).length ((b ++ twice s).map encB) ∧ Step (Of v) w (Of v') w' := by
  have Hown := Lib.hid hown
  clear hown
  go_enter Try.func35, Try.ntmps35
  go_wp2
  go_loopw [0, 8] (fun o i wr => ∃ (k : Nat) (m : Str), i = .int .i64 k ∧ k ≤ s.length ∧ m.length ≤ 3000000 ∧ Hid (m = b ++ twice (s.take k) ∧ wr.ownsRow 0 5 1 o m.length (m.map encB) ∧ Step (Of v) w (Of o) wr)) (fun _ i _ => s.length - (intOf i).toNat)
  case atStart => exact ⟨0, b, rfl, by omega, by omega, by simp [twice], Hown.out, Step.refl _ _⟩
  case round =>
    obtain ⟨k, m, rfl, hk, hm, hd⟩ := hrel
    by_cases hlt : k < s.length
    · have htw := twice_len (s.take (k + 1))
      have hlen : Hid ((b ++ twice (s.take (k + 1))).length ≤ 3000000) := by
        show (b ++ twice (s.take (k + 1))).length ≤ 3000000
        rw [List.length_take_of_le (by omega)] at htw
        rw [List.length_append]; omega
      obtain ⟨A1, c1, hu⟩ := own_form hd.out.2.1
      subst hu
      have Hd1 := Lib.hid hd.out.2.1
      have hix : (⟨s.toArray⟩ : ByteArray)[k]'(by simpa [ByteArray.size] using hlt) = s[k] := rfl
      have hst := Lib.hid (List.take_succ_eq_append_getElem hlt)
      clear htw
      by_cases hc : s[k] = 255
      · have hc1 : ((s[k].toNat : Int) == 255) = true := by rw [hc]; rfl
        have Hc := Lib.hid hc
        clear hc
        go_wp2_with (first
          | (at_builtin; go_loud (refine wp_push rfl (.tmp 15) (.tmp 16) 40 rfl 5 (.int .u8 0) 1 1 Try.underlying40 infoB rfl (by decide) _ _ _ rfl Hd1.out #[.int .u8 255] rfl rfl (one_lit rfl) (by omega) (by unfold maxLen; omega) ?_; intro g1 cap1 w1 h1 h2 h3; have P1 := Lib.hid h1; have F1 := Lib.hid h2; have L1 := Lib.hid h3; clear h1 h2 h3))
          | (at_builtin; go_loud (refine wp_push rfl (.tmp 18) (.tmp 22) 40 rfl 5 (.int .u8 0) 1 1 Try.underlying40 infoB rfl (by decide) _ _ _ rfl P1.out #[.int .u8 s[k].toNat] rfl rfl (one_lit rfl) (by omega) (by unfold maxLen; omega) ?_; intro g2 cap2 w2 h1 h2 h3; have P2 := Lib.hid h1; have F2 := Lib.hid h2; have L2 := Lib.hid h3; clear h1 h2 h3)))
        go_roundw
        case rel =>
          refine ⟨k + 1, m ++ [255, s[k]], by go_num, by omega, ?_, ?_, ?_, (hd.out.2.2.trans (Step.of F1.out L1.out)).trans (Step.of F2.out L2.out)⟩
          · have h1 := hlen.out; rw [hst.out, twice_snoc, if_pos Hc.out, ← List.append_assoc, ← hd.out.1] at h1; simpa using h1
          · rw [hst.out, twice_snoc, if_pos Hc.out, ← List.append_assoc, ← hd.out.1, Hc.out]
          · have := P2.out; simpa [encB] using this
        case measure => simp [intOf]; omega
      · have hc1 : ((s[k].toNat : Int) == 255) = false := by
          rw [beq_eq_false_iff_ne]
          intro h
          exact hc (UInt8.toNat_inj.1 (by have : (255 : UInt8).toNat = 255 := rfl; omega))
        have Hc := Lib.hid hc
        clear hc
        go_wp2_with (at_builtin; go_loud (refine wp_push rfl (.tmp 18) (.tmp 22) 40 rfl 5 (.int .u8 0) 1 1 Try.underlying40 infoB rfl (by decide) _ _ _ rfl Hd1.out #[.int .u8 s[k].toNat] rfl rfl (one_lit rfl) (by omega) (by unfold maxLen; omega) ?_; intro g2 cap2 w2 h1 h2 h3; have P2 := Lib.hid h1; have F2 := Lib.hid h2; have L2 := Lib.hid h3; clear h1 h2 h3))
        go_roundw
        case rel =>
          refine ⟨k + 1, m ++ [s[k]], by go_num, by omega, ?_, ?_, ?_, hd.out.2.2.trans (Step.of F2.out L2.out)⟩
          · have h1 := hlen.out; rw [hst.out, twice_snoc, if_neg Hc.out, ← List.append_assoc, ← hd.out.1] at h1; simpa using h1
          · rw [hst.out, twice_snoc, if_neg Hc.out, ← List.append_assoc, ← hd.out.1]
          · have := P2.out; simpa [encB] using this
        case measure => simp [intOf]; omega
    · go_wp2
      go_ret
      have hn : s.take k = s := List.take_of_length_le (by omega)
      obtain ⟨d1, d2, d3⟩ := hd.out
      rw [hn] at d1
      subst d1
      exact ⟨_, rfl, d2, d3⟩
theorem data_any (s : Str) (w : World) (hs : s.length ≤ 1000000) : Calls Try.prog 21 #[.string ⟨s.toArray⟩] w fun e w' => e = .returned (.string ⟨(twice s).toArray⟩) ∧ Fr No w w' := by
  go_enter Try.func21, Try.ntmps21
  go_wp2_with (go_at_call 35; go_loud (refine (doubled_any (.slice none 0 0) [] s _ (World.ownsRow_nil _ _ _ _) (by simp) hs).mono ?_; rintro e w1 ⟨v', rfl, hown, hst⟩; rw [List.nil_append] at hown; obtain ⟨A1, c1, rfl⟩ := own_form hown; have hcv := conv_bytes (P := Try.prog) 40 9 5 Try.underlying40 Try.underlying5 Try.underlying9 (own_bytes hown); have Hst := Lib.hid hst; clear hown hst))
  go_ret
  exact ⟨rfl, Hst.out.1.mono fun k hk _ => by cases hk⟩
def toldB (s : Str) : Str := [255, 1] ++ twice s ++ [255, 2]
theorem told_any (s : Str) (w : World) (hs : s.length ≤ 1000000) : Calls Try.prog 23 #[.string ⟨s.toArray⟩] w fun e w' => e = .returned (.string ⟨(toldB s).toArray⟩) ∧ Fr No w w' := by
  have htw := twice_len s
  go_enter Try.func23, Try.ntmps23
  go_wp2_with (first
    | (go_at_call 35; go_loud (refine (doubled_any (.slice (some ⟨w.heap.size, 0, none⟩) 2 2) [255, 1] s _ ?_ (by simp) hs).mono ?_; exact World.ownsRow_lit w #[.int .u8 255, .int .u8 1] 2 (Nat.zero_le _) (by unfold maxLen; decide) rfl; rintro e w1 ⟨v', rfl, hown, hst⟩; obtain ⟨m, hm⟩ : ∃ m, m = [255, 1] ++ twice s := ⟨_, rfl⟩; rw [← hm] at hown; have hml : m.length ≤ 2000002 := (by rw [hm]; simp; omega); obtain ⟨A1, c1, rfl⟩ := own_form hown; have Hown := Lib.hid hown; have Hst := Lib.hid hst; have Hm := Lib.hid hm; clear hown hst hm))
    | (at_builtin; go_loud (refine wp_pushes 2 (by decide) rfl (.tmp 7) (.tmp 8) 40 rfl 5 (.int .u8 0) 1 1 Try.underlying40 infoB rfl (by decide) _ _ _ rfl Hown.out #[.int .u8 255, .int .u8 2] rfl rfl (encB_one [255, 2]) (by omega) (by unfold maxLen; omega) ?_; intro g cap w2 h1 h2 h3; have h1' : w2.ownsRow 0 5 1 (.slice (some ⟨g, 0, none⟩) (m.length + 2) cap) (m ++ [255, 2]).length ((m ++ [255, 2]).map encB) := (by simpa [encB] using h1); have hcv := conv_bytes (P := Try.prog) 40 9 5 Try.underlying40 Try.underlying5 Try.underlying9 (own_bytes h1'); have F2 := Lib.hid h2; have L2 := Lib.hid h3; clear h1 h1' h2 h3)))
  go_ret
  refine ⟨ret_str (by rw [Hm.out]; rfl), ?_⟩
  have h1 : Step No w (Of (Value.slice A1 m.length c1)) w1 := by
    refine ⟨((Fr.refl _ _).alloc _).trans Hst.out.1 (fun k hk hl => ?_), fun k hk => ?_⟩
    · have hk' : some w.heap.size = some k := hk
      injection hk' with hk'
      omega
    · have := Hst.out.2 k hk
      rcases this with h | h
      · have hk' : some w.heap.size = some k := h
        injection hk' with hk'
        have := Hst.out.1.size
        rw [size_alloc] at this
        exact .inr ⟨by omega, by omega⟩
      · exact .inr ⟨by have := h.1; rw [size_alloc] at this; omega, h.2⟩
  exact h1.1.trans F2.out fun k hk hl => by
    rcases h1.2 k hk with h | h
    · exact h
    · have := h.1; omega
end Mux
end Go.Proofs.Ytagkhljcknnhmaa
