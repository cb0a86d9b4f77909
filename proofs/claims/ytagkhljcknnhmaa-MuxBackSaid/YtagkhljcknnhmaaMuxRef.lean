/- Check of package mux, and its reference's Data, Told and body. -/
import Derived.Test.YtagkhljcknnhmaaMuxFeed2
import Derived.Laws.Concat
namespace Go.Proofs.Ytagkhljcknnhmaa
open Go.RowKit
set_option linter.unusedVariables false
set_option linter.unusedSimpArgs false
namespace Mux
def checkR (p : Nat) : Int := if p = 4 then 3 else if p = 0 then 0 else 13
theorem check_any (w : World) (F : Nat → Prop) (g p : Nat) (op : Str) (h : SAt w F g p op) (hp : p ≤ 4) : Calls Try.prog 29 #[.pointer (some ⟨g, 0, none⟩)] w fun e w' => e = .returned (.int .i64 (checkR p)) ∧ w = w' := by
  obtain ⟨v, h1, h2, h3, h4, h5⟩ := h
  have c0 := h1.cell 0
  simp at c0
  clear h1 h2 h4 h5
  obtain rfl | rfl | rfl | rfl | rfl : p = 0 ∨ p = 1 ∨ p = 2 ∨ p = 3 ∨ p = 4 := by omega
  all_goals
    go_enter Try.func29, Try.ntmps29
    go_wp2
    go_ret
    exact ⟨rfl, rfl⟩
theorem check_nil (w : World) : Calls Try.prog 29 #[.pointer none] w fun e w' => e = .returned (.int .i64 14) ∧ w = w' := by
  go_enter Try.func29, Try.ntmps29
  go_wp2
  go_ret
  exact ⟨rfl, rfl⟩
set_option maxHeartbeats 800000 in
theorem rdata_any (s : Str) (w : World) (hs : s.length ≤ 1000000) :
    Calls Try.prog 22 #[.string ⟨s.toArray⟩] w fun e w' => e = .returned (.string ⟨(twice s).toArray⟩) ∧ Fr No w w' := by
  go_enter Try.func22, Try.ntmps22
  go_wp2
  go_loopw [3, 4] (fun o i wr => ∃ (k : Nat) (m : Str), i = .int .i64 k ∧ k ≤ s.length ∧ m.length ≤ 3000000 ∧ Hid (m = twice (s.take k) ∧ wr.ownsRow 0 5 1 o m.length (m.map encB) ∧ Step No w (Of o) wr)) (fun _ i _ => s.length - (intOf i).toNat)
  case atStart => exact ⟨0, [], rfl, by omega, by simp, by simp [twice], World.ownsRow_nil _ _ _ _, Fr.refl _ _, fun k hk => by cases hk⟩
  case round =>
    obtain ⟨k, m, rfl, hk, hm, hd⟩ := hrel
    by_cases hlt : k < s.length
    · have htw := twice_len (s.take (k + 1))
      have hlen : Hid ((twice (s.take (k + 1))).length ≤ 3000000) := by
        show (twice (s.take (k + 1))).length ≤ 3000000
        rw [List.length_take_of_le (by omega)] at htw
        omega
      obtain ⟨A1, c1, hu⟩ := own_form hd.out.2.1
      subst hu
      have Hd1 := Lib.hid hd.out.2.1
      have hix : (⟨s.toArray⟩ : ByteArray)[k]'(by simpa [ByteArray.size] using hlt) = s[k] := rfl
      have hst := Lib.hid (List.take_succ_eq_append_getElem hlt)
      clear htw
      by_cases hc : s[k] = 255
      · have hc1 : ((s[k].toNat : Int) == 255) = true := by rw [hc]; rfl
        have Hc := Lib.hid hc
        clear hc
        go_wp2_with (first
          | (at_builtin; go_loud (refine wp_push rfl (.tmp 15) (.tmp 16) 40 rfl 5 (.int .u8 0) 1 1 Try.underlying40 infoB rfl (by decide) _ _ _ rfl Hd1.out #[.int .u8 255] rfl rfl (one_lit rfl) (by omega) (by unfold maxLen; omega) ?_; intro g1 cap1 w1 h1 h2 h3; have P1 := Lib.hid h1; have F1 := Lib.hid h2; have L1 := Lib.hid h3; clear h1 h2 h3))
          | (at_builtin; go_loud (refine wp_push rfl (.tmp 18) (.tmp 22) 40 rfl 5 (.int .u8 0) 1 1 Try.underlying40 infoB rfl (by decide) _ _ _ rfl P1.out #[.int .u8 s[k].toNat] rfl rfl (one_lit rfl) (by omega) (by unfold maxLen; omega) ?_; intro g2 cap2 w2 h1 h2 h3; have P2 := Lib.hid h1; have F2 := Lib.hid h2; have L2 := Lib.hid h3; clear h1 h2 h3)))
        go_roundw
        case rel =>
          refine ⟨k + 1, m ++ [255, s[k]], by go_num, by omega, ?_, ?_, ?_, (hd.out.2.2.trans (Step.of F1.out L1.out)).trans (Step.of F2.out L2.out)⟩
          · have h1 := hlen.out; rw [hst.out, twice_snoc, if_pos Hc.out, ← hd.out.1] at h1; simpa using h1
          · rw [hst.out, twice_snoc, if_pos Hc.out, ← hd.out.1, Hc.out]
          · have := P2.out; simpa [encB] using this
        case measure => simp [intOf]; omega
      · have hc1 : ((s[k].toNat : Int) == 255) = false := by
          rw [beq_eq_false_iff_ne]
          intro h
          exact hc (UInt8.toNat_inj.1 (by have : (255 : UInt8).toNat = 255 := rfl; omega))
        have Hc := Lib.hid hc
        clear hc
        go_wp2_with (at_builtin; go_loud (refine wp_push rfl (.tmp 18) (.tmp 22) 40 rfl 5 (.int .u8 0) 1 1 Try.underlying40 infoB rfl (by decide) _ _ _ rfl Hd1.out #[.int .u8 s[k].toNat] rfl rfl (one_lit rfl) (by omega) (by unfold maxLen; omega) ?_; intro g2 cap2 w2 h1 h2 h3; have P2 := Lib.hid h1; have F2 := Lib.hid h2; have L2 := Lib.hid h3; clear h1 h2 h3))
        go_roundw
        case rel =>
          refine ⟨k + 1, m ++ [s[k]], by go_num, by omega, ?_, ?_, ?_, hd.out.2.2.trans (Step.of F2.out L2.out)⟩
          · have h1 := hlen.out; rw [hst.out, twice_snoc, if_neg Hc.out, ← hd.out.1] at h1; simpa using h1
          · rw [hst.out, twice_snoc, if_neg Hc.out, ← hd.out.1]
          · have := P2.out; simpa [encB] using this
        case measure => simp [intOf]; omega
    · have hn : s.take k = s := List.take_of_length_le (by omega)
      obtain ⟨d1, d2, d3⟩ := hd.out
      rw [hn] at d1
      obtain ⟨A1, c1, hu⟩ := own_form d2
      subst hu
      have hcv := conv_bytes (P := Try.prog) 40 9 5 Try.underlying40 Try.underlying5 Try.underlying9 (own_bytes d2)
      have D1 := Lib.hid d1
      have D3 := Lib.hid d3
      clear d1 d2 d3 hd hn
      go_wp2
      go_ret
      exact ⟨ret_str D1.out, D3.out.1⟩
end Mux
end Go.Proofs.Ytagkhljcknnhmaa
