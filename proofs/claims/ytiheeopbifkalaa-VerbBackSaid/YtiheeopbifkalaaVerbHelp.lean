/- Package verb: Help. -/
import Derived.Test.YtiheeopbifkalaaVerbFind
namespace Go.Proofs.Ytiheeopbifkalaa
open Go.RowKit
set_option linter.unusedVariables false
set_option linter.unusedSimpArgs false
namespace Verb
def lineH (x : V) : Str := x.2.1 ++ (if x.2.2.2.isEmpty then [] else 32 :: x.2.2.2)
def helpR : List Str := verbs.map lineH
theorem help_take {k : Nat} (h : k < verbs.length) : helpR.take (k + 1) = helpR.take k ++ [lineH verbs[k]] := by
  have h' : k < helpR.length := by unfold helpR; rwa [List.length_map]
  rw [List.take_succ_eq_append_getElem h']
  congr 2
  exact List.getElem_map lineH
set_option maxRecDepth 100000 in
set_option maxHeartbeats 2000000 in
theorem help_any (w : World) : Calls Try.prog 57 #[] w fun e w' => ∃ v, e = .returned v ∧ w'.ownsRow 0 9 1 v helpR.length (helpR.map Word.encS) ∧ Step No w (Of v) w' := by
  go_enter Try.func57, Try.ntmps57
  go_wp2_with (go_at_call 75; refine (rows_any _).mono ?_; rintro e w1 ⟨rfl, hf⟩; have HF := Lib.hid hf; clear hf)
  go_loopw [1, 6] (fun o iv wr => ∃ k : Nat, iv = .int .i64 k ∧ k ≤ 16 ∧ Hid (wr.ownsRow 0 9 1 o k ((helpR.take k).map Word.encS) ∧ Step No w (Of o) wr)) (fun _ i _ => 16 - (intOf i).toNat)
  case atStart => exact ⟨0, rfl, by omega, World.ownsRow_nil _ _ _ _, HF.out, fun k hk => by cases hk⟩
  case round =>
    obtain ⟨k, rfl, hk, Hw⟩ := hrel
    obtain ⟨A1, c1, hu⟩ := own_form Hw.out.1
    subst hu
    by_cases hlt : k < 16
    · have hix := fun W : World => index_row W k hlt
      have htk := help_take hlt
      obtain ⟨x, hx⟩ : ∃ x, x = verbs[k]'hlt := ⟨_, rfl⟩
      simp only [← hx] at hix htk
      have hb : x.2.1.length ≤ 20 ∧ x.2.2.2.length ≤ 20 := by
        have : ∀ x ∈ verbs, x.2.1.length ≤ 20 ∧ x.2.2.2.length ≤ 20 := by decide
        rw [hx]
        exact this _ (List.getElem_mem hlt)
      obtain ⟨xv, xw, xt, xh⟩ := x
      simp only [encV] at hix
      simp only at hb
      cases he : xh.isEmpty
      · have hs : (⟨xw.toArray⟩ : ByteArray) ++ (⟨#[32]⟩ ++ ⟨xh.toArray⟩) = ⟨(lineH (xv, xw, xt, xh)).toArray⟩ := by unfold lineH; simp only [he]; rfl
        obtain ⟨t, ht⟩ : ∃ t, t = lineH (xv, xw, xt, xh) := ⟨_, rfl⟩
        rw [← ht] at hs htk
        have Htk := Lib.hid htk
        have HO := Lib.hid Hw.out.1
        have HS := Lib.hid Hw.out.2
        clear hx htk ht Hw
        go_wp2_with (at_builtin; go_loud (refine wp_push rfl (.tmp 19) (.tmp 21) 45 rfl 9 (.string ByteArray.empty) 1 16 Try.underlying45 Word.infoS rfl (by decide) (.slice A1 k c1) k ((helpR.take k).map Word.encS) rfl (HO.out.alloc _) #[.string ⟨t.toArray⟩] (by rw [size_alloc]; rfl) rfl (one_lit rfl) (by omega) (by unfold maxLen; omega) ?_; intro g2 cap2 w2 h1 h2 h3; have P2 := Lib.hid h1; have F2 := Lib.hid (((HS.out.trans (Step.no ((Fr.refl No wr).alloc _))).trans (Step.of (n := k + 1) (c := cap2) h2 h3))); clear h1 h2 h3))
        go_roundw
        case rel =>
          refine ⟨k + 1, by go_num, by omega, ?_, F2.out⟩
          rw [Htk.out, List.map_append]
          exact P2.out
        case measure => simp [intOf]; omega
      · have hs : lineH (xv, xw, xt, xh) = xw := by unfold lineH; simp only [he, if_true, List.append_nil]
        obtain ⟨t, ht⟩ : ∃ t, t = xw := ⟨_, rfl⟩
        rw [hs] at htk
        subst ht
        have Htk := Lib.hid htk
        have HO := Lib.hid Hw.out.1
        have HS := Lib.hid Hw.out.2
        clear hx htk hs Hw
        go_wp2_with (at_builtin; go_loud (refine wp_push rfl (.tmp 19) (.tmp 21) 45 rfl 9 (.string ByteArray.empty) 1 16 Try.underlying45 Word.infoS rfl (by decide) (.slice A1 k c1) k ((helpR.take k).map Word.encS) rfl (HO.out.alloc _) #[.string ⟨t.toArray⟩] (by rw [size_alloc]; rfl) rfl (one_lit rfl) (by omega) (by unfold maxLen; omega) ?_; intro g2 cap2 w2 h1 h2 h3; have P2 := Lib.hid h1; have F2 := Lib.hid (((HS.out.trans (Step.no ((Fr.refl No wr).alloc _))).trans (Step.of (n := k + 1) (c := cap2) h2 h3))); clear h1 h2 h3))
        go_roundw
        case rel =>
          refine ⟨k + 1, by go_num, by omega, ?_, F2.out⟩
          rw [Htk.out, List.map_append]
          exact P2.out
        case measure => simp [intOf]; omega
    · have hkl : k = 16 := by omega
      obtain ⟨d1, d2⟩ := Hw.out
      have d1' : wr.ownsRow 0 9 1 (.slice A1 k c1) helpR.length (helpR.map Word.encS) := by
        rw [hkl] at d1 ⊢
        exact d1
      have D1 := Lib.hid d1'
      have D2 := Lib.hid d2
      clear d1 d1' d2 Hw hkl
      go_wp2
      go_ret
      exact ⟨_, rfl, D1.out, D2.out⟩
end Verb
end Go.Proofs.Ytiheeopbifkalaa
