/- Package word: Match. Printed by gen_wordmatch.py. -/
import Derived.Test.YtompphakagoaeaaWordM
import Derived.ScopeJumps
namespace Go.Proofs.Ytompphakagoaeaa
open Go.RowKit
set_option linter.unusedVariables false
set_option linter.unusedSimpArgs false
namespace Word
/-- At each jump back. -/
def MJ (p s : Str) (w : World) (a' : Act) (w' : World) : Prop :=
  ∃ (i k frm : Nat) (star : Int) (u4 u9 u10 u11 u12 u13 u14 u15 u16 u17 u18 u19 u20 u21 u22 u23 u24 u25 u26 u27 u28 u29 u30 u31 u32 u33 u34 u35 u36 u37 u38 u39 u40 u41 u42 u43 u44 u45 u46 u47 u48 u49 u50 u51 u52 u53 u54 u55 u56 u57 u58 u59 u60 u61 u62 u63 u64 u65 u66 u67 u68 u69 u70 u71 u72 u73 u74 u75 u76 u77 u78 u79 u80 u81 : Value), a' = { tmps := #[.string ⟨p.toArray⟩, .string ⟨s.toArray⟩, undef, undef, u4, .int .i64 i, .int .i64 k, .int .i64 star, .int .i64 frm, u9, u10, u11, u12, u13, u14, u15, u16, u17, u18, u19, u20, u21, u22, u23, u24, u25, u26, u27, u28, u29, u30, u31, u32, u33, u34, u35, u36, u37, u38, u39, u40, u41, u42, u43, u44, u45, u46, u47, u48, u49, u50, u51, u52, u53, u54, u55, u56, u57, u58, u59, u60, u61, u62, u63, u64, u65, u66, u67, u68, u69, u70, u71, u72, u73, u74, u75, u76, u77, u78, u79, u80, u81], defers := [] } ∧ -1 ≤ star ∧ star < i ∧ Hid (Fr No w w') ∧ Hid (Gr p s i k star frm)
def muM (s : Str) (a' : Act) : Nat := (s.length - (intOf (a'.tmps.getD 8 undef)).toNat) * 33 + (32 - (intOf (a'.tmps.getD 5 undef)).toNat)
theorem gr_good {p s : Str} {i k : Nat} {star : Int} {frm : Nat} (h : Gr p s i k star frm) (hi : i = p.length) (hk : k = s.length) : mB p s = true := by subst hi hk; exact h.good
set_option maxRecDepth 100000 in
set_option maxHeartbeats 4000000 in
theorem match_any (p s : Str) (hp : p.length ≤ maxLen) (hs : s.length ≤ 1000000) (w : World) : Calls Try.prog 35 #[.string ⟨p.toArray⟩, .string ⟨s.toArray⟩] w fun e w' => e = .returned (.bool (matchR p s)) ∧ Fr No w w' := by
  have hf := fun w => fits_any p hp w
  obtain ⟨b, hb⟩ : ∃ b, fitsR p = b := ⟨_, rfl⟩
  have HM := Lib.hid (show matchR p s = (b && mB p s) by unfold matchR; rw [hb])
  rw [hb] at hf
  have Hf := Lib.hid hf
  clear hf
  go_enter Try.func35, Try.ntmps35
  go_wp2_with fail
  cases b
  case false =>
    clear hb
    refine wp_scope_jumps 0 (fun _ _ => False) (fun a' _ => 0) rfl ?_ ?_
    · go_wp2_with fail
      refine (Hf.out _).mono ?_
      rintro e w1 ⟨rfl, rfl⟩
      go_wp2_with fail
      simp only [Exit.jump]
      go_ret
      exact ⟨by rw [HM.out]; try rfl, Fr.refl _ _⟩
    · exact fun _ _ h => h.elim
  case true =>
    have hp32 : p.length ≤ 32 := by
      unfold fitsR at hb
      simp at hb
      exact hb.1.2
    clear hb
    refine (fun (pass : ∀ a1 w1, MJ p s w a1 w1 → Code.wp Try.prog _ (Exit.jump 0 (fun a' w' => MJ p s w a' w' ∧ muM s a' < muM s a1) _) a1 w1) => wp_scope_jumps 0 (MJ p s w) (fun a' _ => muM s a') rfl ?first (fun a1 w1 hj => wp_seq (wp_skip (pass a1 w1 hj)))) ?pass
    case first =>
      go_wp2_with fail
      refine (Hf.out _).mono ?_
      rintro e w1 ⟨rfl, rfl⟩
      go_wp2_with fail
      rename_i K aK
      refine wp_label ?_
      refine aK _ _ (Code.wp_mono ?_ (pass _ _ ⟨0, 0, 0, -1, _, _, _, _, _, _, _, _, _, _, _, _, _, _, _, _, _, _, _, _, _, _, _, _, _, _, _, _, _, _, _, _, _, _, _, _, _, _, _, _, _, _, _, _, _, _, _, _, _, _, _, _, _, _, _, _, _, _, _, _, _, _, _, _, _, _, _, _, _, _, _, _, _, _, rfl, by omega, by omega, Lib.hid (Fr.refl _ _), Lib.hid (Gr.start p s)⟩))
      rintro e a' w' hq
      cases e
      case goto l => exact ⟨hq.1, hq.2.1⟩
      all_goals exact hq
    case pass =>
      clear Hf
      rintro a' wr ⟨i, k, frm, star, u4, u9, u10, u11, u12, u13, u14, u15, u16, u17, u18, u19, u20, u21, u22, u23, u24, u25, u26, u27, u28, u29, u30, u31, u32, u33, u34, u35, u36, u37, u38, u39, u40, u41, u42, u43, u44, u45, u46, u47, u48, u49, u50, u51, u52, u53, u54, u55, u56, u57, u58, u59, u60, u61, u62, u63, u64, u65, u66, u67, u68, u69, u70, u71, u72, u73, u74, u75, u76, u77, u78, u79, u80, u81, rfl, hst, hsi, FW, HG⟩
      have hi := HG.out.hi
      have hk := HG.out.hk
      have hfk := HG.out.hf
      have hm : maxLen = 9223372036854775807 := rfl
      rw [hm] at hp
      clear hm
      by_cases hil : i < p.length
      · have hix : (⟨p.toArray⟩ : ByteArray)[i]'(by simpa [ByteArray.size] using hil) = p[i] := rfl
        by_cases h42 : p[i] = 42
        · have q1 := u8_t (n := 42) (d := 42) rfl h42
          have HN := Lib.hid (HG.out.star_ hil h42)
          clear h42 HG
          go_wp2_with fail
          (try (go_quiet (fail); go_wp2_with fail))
          refine wp_goto (show (0 : Nat) = 0 ∧ MJ p s w _ _ ∧ muM s _ < muM s _ from ⟨rfl, ⟨i + 1, k, k, i, _, _, _, _, _, _, _, _, _, _, _, _, _, _, _, _, _, _, _, _, _, _, _, _, _, _, _, _, _, _, _, _, _, _, _, _, _, _, _, _, _, _, _, _, _, _, _, _, _, _, _, _, _, _, _, _, _, _, _, _, _, _, _, _, _, _, _, _, _, _, _, _, _, _, rfl, by omega, by omega, by first | exact FW | exact Lib.hid (FW.out.drewN _), HN⟩, ?_⟩)
          simp [muM, intOf]; omega
        · have q1 := u8_f (n := 42) (d := 42) rfl h42
          by_cases hkl : k < s.length
          · have hix2 : (⟨s.toArray⟩ : ByteArray)[k]'(by simpa [ByteArray.size] using hkl) = s[k] := rfl
            by_cases h63 : p[i] = 63
            · have q2 := u8_t (n := 63) (d := 63) rfl h63
              have HN := Lib.hid (HG.out.one hil hkl h42 (by unfold okC; rw [h63]; rfl))
              clear h42 h63 HG
              go_wp2_with fail
              (try (go_quiet (fail); go_wp2_with fail))
              refine wp_goto (show (0 : Nat) = 0 ∧ MJ p s w _ _ ∧ muM s _ < muM s _ from ⟨rfl, ⟨i + 1, k + 1, frm, star, _, _, _, _, _, _, _, _, _, _, _, _, _, _, _, _, _, _, _, _, _, _, _, _, _, _, _, _, _, _, _, _, _, _, _, _, _, _, _, _, _, _, _, _, _, _, _, _, _, _, _, _, _, _, _, _, _, _, _, _, _, _, _, _, _, _, _, _, _, _, _, _, _, _, rfl, by omega, by omega, by first | exact FW | exact Lib.hid (FW.out.drewN _), HN⟩, ?_⟩)
              simp [muM, intOf]; omega
            · have q2 := u8_f (n := 63) (d := 63) rfl h63
              have q3 := u8_eq p[i] s[k]
              by_cases heq : p[i] = s[k]
              · rw [show (p[i] == s[k]) = true from beq_iff_eq.2 heq] at q3
                have HN := Lib.hid (HG.out.one hil hkl h42 (by unfold okC; rw [heq]; simp))
                clear h42 h63 heq HG
                go_wp2_with fail
                (try (go_quiet (fail); go_wp2_with fail))
                refine wp_goto (show (0 : Nat) = 0 ∧ MJ p s w _ _ ∧ muM s _ < muM s _ from ⟨rfl, ⟨i + 1, k + 1, frm, star, _, _, _, _, _, _, _, _, _, _, _, _, _, _, _, _, _, _, _, _, _, _, _, _, _, _, _, _, _, _, _, _, _, _, _, _, _, _, _, _, _, _, _, _, _, _, _, _, _, _, _, _, _, _, _, _, _, _, _, _, _, _, _, _, _, _, _, _, _, _, _, _, _, _, rfl, by omega, by omega, by first | exact FW | exact Lib.hid (FW.out.drewN _), HN⟩, ?_⟩)
                simp [muM, intOf]; omega
              · rw [show (p[i] == s[k]) = false from beq_eq_false_iff_ne.2 heq] at q3
                have hst2 : stuck p s i k := ⟨by omega, fun _ => ⟨h42, fun _ => by unfold okC; simp [h63, heq]⟩⟩
                have HS := Lib.hid hst2
                clear h42 h63 heq hst2
                by_cases hsg : 0 ≤ star
                · by_cases hfl : frm < s.length
                  · obtain ⟨j, rfl⟩ : ∃ j : Nat, star = j := ⟨star.toNat, by omega⟩
                    have HN := Lib.hid (HG.out.next HS.out hfl)
                    clear HG HS
                    go_wp2_with fail
                    (try (go_quiet (fail); go_wp2_with fail))
                    refine wp_goto (show (0 : Nat) = 0 ∧ MJ p s w _ _ ∧ muM s _ < muM s _ from ⟨rfl, ⟨j + 1, frm + 1, frm + 1, j, _, _, _, _, _, _, _, _, _, _, _, _, _, _, _, _, _, _, _, _, _, _, _, _, _, _, _, _, _, _, _, _, _, _, _, _, _, _, _, _, _, _, _, _, _, _, _, _, _, _, _, _, _, _, _, _, _, _, _, _, _, _, _, _, _, _, _, _, _, _, _, _, _, _, rfl, by omega, by omega, by first | exact FW | exact Lib.hid (FW.out.drewN _), HN⟩, ?_⟩)
                    simp [muM, intOf]; omega
                  · first
                    | (exfalso; omega)
                    | (have HE := Lib.hid (HG.out.fail HS.out (.inr (by omega)))
                       clear HG HS
                       go_wp2_with fail
                       (try (go_quiet (fail); go_wp2_with fail))
                       simp only [Exit.jump]
                       go_ret
                       exact ⟨by rw [HM.out, HE.out]; try rfl, by first | exact FW.out | exact FW.out.drewN _⟩)
                · have hs1 : star = -1 := by omega
                  subst hs1
                  have HE := Lib.hid (HG.out.fail HS.out (.inl rfl))
                  clear HG HS
                  go_wp2_with fail
                  (try (go_quiet (fail); go_wp2_with fail))
                  simp only [Exit.jump]
                  go_ret
                  exact ⟨by rw [HM.out, HE.out]; try rfl, by first | exact FW.out | exact FW.out.drewN _⟩
          · have hks : k = s.length := by omega
            have hst2 : stuck p s i k := ⟨by omega, fun _ => ⟨h42, fun h => by omega⟩⟩
            have HS := Lib.hid hst2
            clear h42 hst2 hkl
            by_cases hsg : 0 ≤ star
            · by_cases hfl : frm < s.length
              · obtain ⟨j, rfl⟩ : ∃ j : Nat, star = j := ⟨star.toNat, by omega⟩
                have HN := Lib.hid (HG.out.next HS.out hfl)
                clear HG HS
                go_wp2_with fail
                (try (go_quiet (fail); go_wp2_with fail))
                refine wp_goto (show (0 : Nat) = 0 ∧ MJ p s w _ _ ∧ muM s _ < muM s _ from ⟨rfl, ⟨j + 1, frm + 1, frm + 1, j, _, _, _, _, _, _, _, _, _, _, _, _, _, _, _, _, _, _, _, _, _, _, _, _, _, _, _, _, _, _, _, _, _, _, _, _, _, _, _, _, _, _, _, _, _, _, _, _, _, _, _, _, _, _, _, _, _, _, _, _, _, _, _, _, _, _, _, _, _, _, _, _, _, _, rfl, by omega, by omega, by first | exact FW | exact Lib.hid (FW.out.drewN _), HN⟩, ?_⟩)
                simp [muM, intOf]; omega
              · first
                | (exfalso; omega)
                | (have HE := Lib.hid (HG.out.fail HS.out (.inr (by omega)))
                   clear HG HS
                   go_wp2_with fail
                   (try (go_quiet (fail); go_wp2_with fail))
                   simp only [Exit.jump]
                   go_ret
                   exact ⟨by rw [HM.out, HE.out]; try rfl, by first | exact FW.out | exact FW.out.drewN _⟩)
            · have hs1 : star = -1 := by omega
              subst hs1
              have HE := Lib.hid (HG.out.fail HS.out (.inl rfl))
              clear HG HS
              go_wp2_with fail
              (try (go_quiet (fail); go_wp2_with fail))
              simp only [Exit.jump]
              go_ret
              exact ⟨by rw [HM.out, HE.out]; try rfl, by first | exact FW.out | exact FW.out.drewN _⟩
      · have hip : i = p.length := by omega
        by_cases hkl : k < s.length
        · have hst2 : stuck p s i k := ⟨by omega, fun h => by omega⟩
          have HS := Lib.hid hst2
          clear hst2
          by_cases hsg : 0 ≤ star
          · by_cases hfl : frm < s.length
            · obtain ⟨j, rfl⟩ : ∃ j : Nat, star = j := ⟨star.toNat, by omega⟩
              have HN := Lib.hid (HG.out.next HS.out hfl)
              clear HG HS
              go_wp2_with fail
              (try (go_quiet (fail); go_wp2_with fail))
              refine wp_goto (show (0 : Nat) = 0 ∧ MJ p s w _ _ ∧ muM s _ < muM s _ from ⟨rfl, ⟨j + 1, frm + 1, frm + 1, j, _, _, _, _, _, _, _, _, _, _, _, _, _, _, _, _, _, _, _, _, _, _, _, _, _, _, _, _, _, _, _, _, _, _, _, _, _, _, _, _, _, _, _, _, _, _, _, _, _, _, _, _, _, _, _, _, _, _, _, _, _, _, _, _, _, _, _, _, _, _, _, _, _, _, rfl, by omega, by omega, by first | exact FW | exact Lib.hid (FW.out.drewN _), HN⟩, ?_⟩)
              simp [muM, intOf]; omega
            · first
              | (exfalso; omega)
              | (have HE := Lib.hid (HG.out.fail HS.out (.inr (by omega)))
                 clear HG HS
                 go_wp2_with fail
                 (try (go_quiet (fail); go_wp2_with fail))
                 simp only [Exit.jump]
                 go_ret
                 exact ⟨by rw [HM.out, HE.out]; try rfl, by first | exact FW.out | exact FW.out.drewN _⟩)
          · have hs1 : star = -1 := by omega
            subst hs1
            have HE := Lib.hid (HG.out.fail HS.out (.inl rfl))
            clear HG HS
            go_wp2_with fail
            (try (go_quiet (fail); go_wp2_with fail))
            simp only [Exit.jump]
            go_ret
            exact ⟨by rw [HM.out, HE.out]; try rfl, by first | exact FW.out | exact FW.out.drewN _⟩
        · have HE := Lib.hid (gr_good HG.out hip (by omega))
          clear HG
          go_wp2_with fail
          (try (go_quiet (fail); go_wp2_with fail))
          simp only [Exit.jump]
          go_ret
          exact ⟨by rw [HM.out, HE.out]; try rfl, by first | exact FW.out | exact FW.out.drewN _⟩
end Word
end Go.Proofs.Ytompphakagoaeaa
