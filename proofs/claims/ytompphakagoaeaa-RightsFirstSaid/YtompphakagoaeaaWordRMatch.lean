/- The reference's Match. -/
import Derived.Test.YtompphakagoaeaaWordM
import Derived.Laws.OwnMore
namespace Go.Proofs.Ytompphakagoaeaa
open Go.RowKit
set_option linter.unusedVariables false
set_option linter.unusedSimpArgs false
namespace Word
theorem infoBool : (Try.prog.info? 4).map (fun i => (i.zero, i.size, i.bytes)) = some (some (.bool false), 1, 1) := by kernel_rfl
/-- The row o lies behind block B. -/
abbrev BRow (w : World) (B : Nat) (o : Value) (l : List Bool) : Prop := w.ownsRow B 4 1 o l.length (l.map Value.bool)
theorem BRow.form {w : World} {B : Nat} {o : Value} {l : List Bool} (h : BRow w B o l) (hl : 0 < l.length) : ∃ g cap, o = .slice (some ⟨g, 0, none⟩) l.length cap := by
  obtain ⟨g, cap, e, _⟩ := World.ownsRow.form h hl
  exact ⟨g, cap, e⟩
theorem BRow.at {w : World} {B g n cap : Nat} {l : List Bool} (h : BRow w B (.slice (some ⟨g, 0, none⟩) n cap) l) (k : Nat) (hk : k < l.length) : w.cell? ⟨g, k, none⟩ = some (.bool l[k]) := by
  have h1 := h.cells (g := g) rfl k (.bool l[k]) (by simp [hk])
  simpa [Addr.add_lit] using h1
theorem row_take (p s : Str) (i k : Nat) (h : k ≤ s.length) : (rowR p s i).take (k + 1) = (rowR p s i).take k ++ [mB (p.take i) (s.take k)] := by
  rw [List.take_succ_eq_append_getElem (by rw [row_len]; omega), row_at _ _ _ _ h]
theorem row_one_take (p s : Str) (i : Nat) : (rowR p s i).take 1 = [mB (p.take i) (s.take 0)] := by
  have := row_take p s i 0 (by omega)
  simpa using this
theorem own_base {w : World} {B g n cap size : Nat} {e : TypeId} {xs : List Value} (h : w.ownsRow 0 e size (.slice (some ⟨g, 0, none⟩) n cap) n xs) (hb : B ≤ g) : w.ownsRow B e size (.slice (some ⟨g, 0, none⟩) n cap) n xs := by
  refine ⟨h.1, ?_⟩
  rcases h.2 with ⟨h0, _⟩ | ⟨g', cap', cur, h0, _, r⟩
  · cases h0
  · have h1 := h0
    injection h1 with h1 _ _
    injection h1 with h1
    injection h1 with h1
    subst h1
    exact .inr ⟨g, cap', cur, h0, hb, r⟩
set_option maxRecDepth 100000 in
set_option maxHeartbeats 4000000 in
theorem rmatch_any (p s : Str) (hp : p.length ≤ 1000000) (hs : s.length ≤ 1000000) (w : World) : Calls Try.prog 23 #[.string ⟨p.toArray⟩, .string ⟨s.toArray⟩] w fun e w' => e = .returned (.bool (matchR p s)) ∧ Fr No w w' := by
  have hf := fun w => rfits_any p hp w
  obtain ⟨b, hb⟩ : ∃ b, fitsR p = b := ⟨_, rfl⟩
  have HM := Lib.hid (show matchR p s = (b && mB p s) by unfold matchR; rw [hb])
  rw [hb] at hf
  have Hf := Lib.hid hf
  clear hf
  go_enter Try.func23, Try.ntmps23
  go_wp2_with fail
  refine (Hf.out _).mono ?_
  rintro e w1 ⟨rfl, rfl⟩
  cases b
  case false =>
    clear hb
    go_wp2_with fail
    go_ret
    exact ⟨by rw [HM.out]; try rfl, Fr.refl _ _⟩
  have hp32 : p.length ≤ 32 := by
    unfold fitsR at hb
    simp at hb
    exact hb.1.2
  clear hb Hf
  go_wp2_with fail
  go_loopw [5, 6] (fun o iv wr => ∃ (k : Nat), iv = .int .i64 k ∧ k ≤ s.length ∧ Hid (wr.ownsRow w.heap.size 4 1 o (k + 1) ((true :: List.replicate k false).map Value.bool) ∧ Fr No w wr)) (fun _ i _ => s.length - (intOf i).toNat)
  case atStart => exact ⟨0, rfl, by omega, Lib.hid ⟨World.ownsRow_lit w #[.bool true] 1 (Nat.le_refl _) (by unfold maxLen; omega) rfl, (Fr.refl No w).alloc _⟩⟩
  case round =>
    obtain ⟨k, rfl, hk, Hw⟩ := hrel
    obtain ⟨A1, c1, hu⟩ := own_form Hw.out.1
    subst hu
    by_cases hlt : k < s.length
    · have hsz := Hw.out.2.size
      go_wp2_with (at_builtin; go_loud (refine wp_pushB rfl (.tmp 21) (.tmp 22) 69 rfl w.heap.size hsz 4 (.bool false) 1 1 Try.underlying69 infoBool rfl (by decide) (.slice A1 (k + 1) c1) (k + 1) _ rfl Hw.out.1 #[.bool false] rfl rfl (one_lit rfl) (by omega) (by unfold maxLen; omega) ?_; intro g2 cap2 w2 h1 h2; have P2 := Lib.hid h1; have F2 := Lib.hid (own_grown rfl (Hw.out.1.alloc _) (Hw.out.2.alloc _) h2); clear h1 h2))
      go_roundw
      case rel =>
        refine ⟨k + 1, by go_num, by omega, Lib.hid ⟨?_, F2.out⟩⟩
        have h := P2.out
        rw [show ((true :: List.replicate (k + 1) false).map Value.bool) = (true :: List.replicate k false).map Value.bool ++ [Value.bool false] by rw [List.replicate_succ']; simp]
        exact h
      case measure => simp [intOf]; omega
    · have hks : k = s.length := by omega
      clear hlt
      subst hks
      have HW : Hid (BRow wr w.heap.size (.slice A1 (s.length + 1) c1) (rowR p s 0) ∧ Fr No w wr) := by
        refine Lib.hid ⟨?_, Hw.out.2⟩
        show wr.ownsRow w.heap.size _ 1 _ (rowR p s 0).length _
        rw [row_len, row_zero]
        exact Hw.out.1
      clear Hw hk
      go_wp2_with fail
      go_loopw [5, 7] (fun o iv wr => ∃ (i : Nat), iv = .int .i64 i ∧ i ≤ p.length ∧ Hid (BRow wr w.heap.size o (rowR p s i) ∧ Fr No w wr)) (fun _ i _ => p.length - (intOf i).toNat)
      case atStart => exact ⟨0, rfl, by omega, HW⟩
      case round =>
        clear HW
        obtain ⟨i, rfl, hi, Hw⟩ := hrel
        obtain ⟨g, cap, hu⟩ := Hw.out.1.form (by rw [row_len]; omega)
        rw [row_len] at hu
        subst hu
        by_cases hil : i < p.length
        · have hix : (⟨p.toArray⟩ : ByteArray)[i]'(by simpa [ByteArray.size] using hil) = p[i] := rfl
          have y0 := Hw.out.1.at 0 (by rw [row_len]; omega)
          have hsz := Hw.out.2.size
          have hgl := Hw.out.1.lt g rfl
          rw [row_at _ _ _ _ (by omega)] at y0
          by_cases h42 : p[i] = 42
          · have q1 := u8_t (n := 42) (d := 42) rfl h42
            have R0 := Lib.hid (row_star0 (s := s) hil h42)
            have RK := Lib.hid (fun k (hk : k < s.length) => row_star (s := s) hil h42 hk)
            obtain ⟨b0, hb0⟩ : ∃ b, mB (p.take i) (s.take 0) = b := ⟨_, rfl⟩
            rw [hb0] at y0 R0
            clear h42 hb0
            go_wp2_with fail
            go_loopw [8, 9] (fun nx kv wc => ∃ (k : Nat), kv = .int .i64 ((k : Int) + 1) ∧ k ≤ s.length ∧ Hid (wc.ownsRow 0 4 1 nx (k + 1) (((rowR p s (i + 1)).take (k + 1)).map Value.bool) ∧ BRow wc w.heap.size (.slice (some ⟨g, 0, none⟩) (s.length + 1) cap) (rowR p s i) ∧ (∀ h, Of nx h → h ≠ g ∧ w.heap.size ≤ h) ∧ Fr No w wc)) (fun _ i _ => s.length + 1 - (intOf i).toNat)
            case atStart =>
              refine ⟨0, rfl, by omega, Lib.hid ⟨?_, Hw.out.1.alloc _, fun h hh => ?_, Hw.out.2.alloc _⟩⟩
              · rw [row_one_take, R0.out]
                exact World.ownsRow_lit wr #[.bool b0] 1 (Nat.zero_le _) (by unfold maxLen; omega) rfl
              · have hh' : some wr.heap.size = some h := hh
                injection hh' with hh'
                omega
            case round =>
              clear Hw
              obtain ⟨k, rfl, hk, Hw⟩ := hrel
              obtain ⟨g2, cap2, hu⟩ := World.ownsRow.form Hw.out.1 (by omega)
              obtain ⟨hu, -⟩ := hu
              subst hu
              have hgl2 := Hw.out.2.1.lt g rfl
              have hgg := Hw.out.2.2.1 g2 rfl
              by_cases hlt : k < s.length
              · have z0 := Hw.out.2.1.at k (by rw [row_len]; omega)
                have z1 := Hw.out.2.1.at (k + 1) (by rw [row_len]; omega)
                have z2 := Hw.out.1.cellAt k (by omega)
                rw [row_at _ _ _ _ (by omega)] at z0 z1
                rw [show (((rowR p s (i + 1)).take (k + 1)).map Value.bool)[k]? = some (.bool (mB (p.take (i + 1)) (s.take k))) by
                  rw [row_take _ _ _ _ hk]; simp [row_len, show min k (s.length + 1) = k by omega]] at z2
                have HK := Lib.hid (RK.out k hlt)
                have HT := Lib.hid (row_take p s (i + 1) (k + 1) (by omega))
                have hsz2 := Hw.out.2.2.2.size
                have hix2 : (⟨s.toArray⟩ : ByteArray)[k]'(by simpa [ByteArray.size] using hlt) = s[k] := rfl
                obtain ⟨r1, hr1⟩ : ∃ b, mB (p.take i) (s.take (k + 1)) = b := ⟨_, rfl⟩
                obtain ⟨n0, hn0⟩ : ∃ b, mB (p.take (i + 1)) (s.take k) = b := ⟨_, rfl⟩
                rw [hr1] at z1 HK
                rw [hn0] at z2 HK
                clear hr1 hn0 z0
                have Hw2 := Hw
                cases r1
                · cases n0
                  · skip
                    have HN := Lib.hid (show mB (p.take (i + 1)) (s.take (k + 1)) = false by rw [HK.out]; rfl)
                    go_wp2_with (at_builtin; go_loud (refine wp_push rfl (.tmp 82) (.tmp 84) 69 rfl 4 (.bool false) 1 1 Try.underlying69 infoBool rfl (by decide) (.slice (some ⟨g2, 0, none⟩) (k + 1) cap2) (k + 1) _ rfl Hw2.out.1 #[.bool false] rfl rfl (one_lit rfl) (by omega) (by unfold maxLen; omega) ?_; intro g3 cap3 w3 h1 h2 h3; have P2 := Lib.hid h1; have F2 := Lib.hid h2; have L2 := Lib.hid h3; clear h1 h2 h3))
                    go_roundw
                    case rel =>
                      have hsz3 := Hw2.out.2.2.2.size
                      have hgl3 := Hw2.out.2.1.lt g rfl
                      refine ⟨k + 1, by go_num, by omega, Lib.hid ⟨?_, ?_, fun h hh => ?_, Hw2.out.2.2.2.trans F2.out (fun b hb hl => by have := (Hw2.out.2.2.1 b hb).2; omega)⟩⟩
                      · rw [HT.out, List.map_append, HN.out]
                        exact P2.out
                      · exact own_fr Hw2.out.2.1 F2.out (fun b hb hb2 => (Hw2.out.2.2.1 b hb2).1 (by injection hb with hb; exact hb.symm))
                      · have hh' : some g3 = some h := hh
                        injection hh' with hh'
                        subst hh'
                        rcases L2.out with h4 | h4
                        · exact Hw2.out.2.2.1 _ h4
                        · have := h4.1; omega
                    case measure => simp [intOf]; omega
                  · skip
                    have HN := Lib.hid (show mB (p.take (i + 1)) (s.take (k + 1)) = true by rw [HK.out]; rfl)
                    go_wp2_with (at_builtin; go_loud (refine wp_push rfl (.tmp 82) (.tmp 84) 69 rfl 4 (.bool false) 1 1 Try.underlying69 infoBool rfl (by decide) (.slice (some ⟨g2, 0, none⟩) (k + 1) cap2) (k + 1) _ rfl Hw2.out.1 #[.bool true] rfl rfl (one_lit rfl) (by omega) (by unfold maxLen; omega) ?_; intro g3 cap3 w3 h1 h2 h3; have P2 := Lib.hid h1; have F2 := Lib.hid h2; have L2 := Lib.hid h3; clear h1 h2 h3))
                    go_roundw
                    case rel =>
                      have hsz3 := Hw2.out.2.2.2.size
                      have hgl3 := Hw2.out.2.1.lt g rfl
                      refine ⟨k + 1, by go_num, by omega, Lib.hid ⟨?_, ?_, fun h hh => ?_, Hw2.out.2.2.2.trans F2.out (fun b hb hl => by have := (Hw2.out.2.2.1 b hb).2; omega)⟩⟩
                      · rw [HT.out, List.map_append, HN.out]
                        exact P2.out
                      · exact own_fr Hw2.out.2.1 F2.out (fun b hb hb2 => (Hw2.out.2.2.1 b hb2).1 (by injection hb with hb; exact hb.symm))
                      · have hh' : some g3 = some h := hh
                        injection hh' with hh'
                        subst hh'
                        rcases L2.out with h4 | h4
                        · exact Hw2.out.2.2.1 _ h4
                        · have := h4.1; omega
                    case measure => simp [intOf]; omega
                · skip
                  have HN := Lib.hid (show mB (p.take (i + 1)) (s.take (k + 1)) = true by rw [HK.out]; rfl)
                  go_wp2_with (at_builtin; go_loud (refine wp_push rfl (.tmp 82) (.tmp 84) 69 rfl 4 (.bool false) 1 1 Try.underlying69 infoBool rfl (by decide) (.slice (some ⟨g2, 0, none⟩) (k + 1) cap2) (k + 1) _ rfl Hw2.out.1 #[.bool true] rfl rfl (one_lit rfl) (by omega) (by unfold maxLen; omega) ?_; intro g3 cap3 w3 h1 h2 h3; have P2 := Lib.hid h1; have F2 := Lib.hid h2; have L2 := Lib.hid h3; clear h1 h2 h3))
                  go_roundw
                  case rel =>
                    have hsz3 := Hw2.out.2.2.2.size
                    have hgl3 := Hw2.out.2.1.lt g rfl
                    refine ⟨k + 1, by go_num, by omega, Lib.hid ⟨?_, ?_, fun h hh => ?_, Hw2.out.2.2.2.trans F2.out (fun b hb hl => by have := (Hw2.out.2.2.1 b hb).2; omega)⟩⟩
                    · rw [HT.out, List.map_append, HN.out]
                      exact P2.out
                    · exact own_fr Hw2.out.2.1 F2.out (fun b hb hb2 => (Hw2.out.2.2.1 b hb2).1 (by injection hb with hb; exact hb.symm))
                    · have hh' : some g3 = some h := hh
                      injection hh' with hh'
                      subst hh'
                      rcases L2.out with h4 | h4
                      · exact Hw2.out.2.2.1 _ h4
                      · have := h4.1; omega
                  case measure => simp [intOf]; omega
              · have hks : k = s.length := by omega
                clear hlt
                subst hks
                have HW : Hid (BRow wr w.heap.size (.slice (some ⟨g2, 0, none⟩) (s.length + 1) cap2) (rowR p s (i + 1)) ∧ Fr No w wr) := by
                  refine Lib.hid ⟨?_, Hw.out.2.2.2⟩
                  have h := own_base Hw.out.1 hgg.2
                  rw [List.take_of_length_le (by rw [row_len]; omega)] at h
                  show wr.ownsRow w.heap.size _ 1 _ (rowR p s (i + 1)).length _
                  rw [row_len]
                  exact h
                clear Hw
                go_wp2_with fail
                go_roundw
                case rel => exact ⟨i + 1, by go_num, by omega, HW⟩
                case measure => simp [intOf]; omega
          · have q1 := u8_f (n := 42) (d := 42) rfl h42
            have R0 := Lib.hid (row_one0 (s := s) hil h42)
            have RK := Lib.hid (fun k (hk : k < s.length) => row_one (s := s) hil h42 hk)
            clear h42 y0
            go_wp2_with fail
            go_loopw [8, 9] (fun nx kv wc => ∃ (k : Nat), kv = .int .i64 ((k : Int) + 1) ∧ k ≤ s.length ∧ Hid (wc.ownsRow 0 4 1 nx (k + 1) (((rowR p s (i + 1)).take (k + 1)).map Value.bool) ∧ BRow wc w.heap.size (.slice (some ⟨g, 0, none⟩) (s.length + 1) cap) (rowR p s i) ∧ (∀ h, Of nx h → h ≠ g ∧ w.heap.size ≤ h) ∧ Fr No w wc)) (fun _ i _ => s.length + 1 - (intOf i).toNat)
            case atStart =>
              refine ⟨0, rfl, by omega, Lib.hid ⟨?_, Hw.out.1.alloc _, fun h hh => ?_, Hw.out.2.alloc _⟩⟩
              · rw [row_one_take, R0.out]
                exact World.ownsRow_lit wr #[.bool false] 1 (Nat.zero_le _) (by unfold maxLen; omega) rfl
              · have hh' : some wr.heap.size = some h := hh
                injection hh' with hh'
                omega
            case round =>
              clear Hw
              obtain ⟨k, rfl, hk, Hw⟩ := hrel
              obtain ⟨g2, cap2, hu⟩ := World.ownsRow.form Hw.out.1 (by omega)
              obtain ⟨hu, -⟩ := hu
              subst hu
              have hgl2 := Hw.out.2.1.lt g rfl
              have hgg := Hw.out.2.2.1 g2 rfl
              by_cases hlt : k < s.length
              · have z0 := Hw.out.2.1.at k (by rw [row_len]; omega)
                have z1 := Hw.out.2.1.at (k + 1) (by rw [row_len]; omega)
                have z2 := Hw.out.1.cellAt k (by omega)
                rw [row_at _ _ _ _ (by omega)] at z0 z1
                rw [show (((rowR p s (i + 1)).take (k + 1)).map Value.bool)[k]? = some (.bool (mB (p.take (i + 1)) (s.take k))) by
                  rw [row_take _ _ _ _ hk]; simp [row_len, show min k (s.length + 1) = k by omega]] at z2
                have HK := Lib.hid (RK.out k hlt)
                have HT := Lib.hid (row_take p s (i + 1) (k + 1) (by omega))
                have hsz2 := Hw.out.2.2.2.size
                have hix2 : (⟨s.toArray⟩ : ByteArray)[k]'(by simpa [ByteArray.size] using hlt) = s[k] := rfl
                obtain ⟨r0, hr0⟩ : ∃ b, mB (p.take i) (s.take k) = b := ⟨_, rfl⟩
                rw [hr0] at z0 HK
                clear hr0 z1 z2
                cases r0
                · skip
                  have HN := Lib.hid (show mB (p.take (i + 1)) (s.take (k + 1)) = false by rw [HK.out]; rfl)
                  go_wp2_with fail
                  go_quiet (fail)
                  have Hw2 : Hid _ := Lib.hid (show (wr.drewN nq).ownsRow _ _ _ _ _ _ ∧ BRow (wr.drewN nq) _ _ _ ∧ _ ∧ Fr No w (wr.drewN nq) from ⟨Hw.out.1, Hw.out.2.1, Hw.out.2.2.1, Hw.out.2.2.2.drewN _⟩)
                  go_wp2_with (at_builtin; go_loud (refine wp_push rfl (.tmp 82) (.tmp 84) 69 rfl 4 (.bool false) 1 1 Try.underlying69 infoBool rfl (by decide) (.slice (some ⟨g2, 0, none⟩) (k + 1) cap2) (k + 1) _ rfl Hw2.out.1 #[.bool false] rfl rfl (one_lit rfl) (by omega) (by unfold maxLen; omega) ?_; intro g3 cap3 w3 h1 h2 h3; have P2 := Lib.hid h1; have F2 := Lib.hid h2; have L2 := Lib.hid h3; clear h1 h2 h3))
                  go_roundw
                  case rel =>
                    have hsz3 := Hw2.out.2.2.2.size
                    have hgl3 := Hw2.out.2.1.lt g rfl
                    refine ⟨k + 1, by go_num, by omega, Lib.hid ⟨?_, ?_, fun h hh => ?_, Hw2.out.2.2.2.trans F2.out (fun b hb hl => by have := (Hw2.out.2.2.1 b hb).2; omega)⟩⟩
                    · rw [HT.out, List.map_append, HN.out]
                      exact P2.out
                    · exact own_fr Hw2.out.2.1 F2.out (fun b hb hb2 => (Hw2.out.2.2.1 b hb2).1 (by injection hb with hb; exact hb.symm))
                    · have hh' : some g3 = some h := hh
                      injection hh' with hh'
                      subst hh'
                      rcases L2.out with h4 | h4
                      · exact Hw2.out.2.2.1 _ h4
                      · have := h4.1; omega
                  case measure => simp [intOf]; omega
                · by_cases h63 : p[i] = 63
                  · have q2 := u8_t (n := 63) (d := 63) rfl h63
                    have HO := Lib.hid (show okC p[i] s[k] = true by unfold okC; rw [h63]; rfl)
                    clear h63
                    have HN := Lib.hid (show mB (p.take (i + 1)) (s.take (k + 1)) = true by rw [HK.out, HO.out]; rfl)
                    go_wp2_with fail
                    go_quiet (fail)
                    have Hw2 : Hid _ := Lib.hid (show (wr.drewN nq).ownsRow _ _ _ _ _ _ ∧ BRow (wr.drewN nq) _ _ _ ∧ _ ∧ Fr No w (wr.drewN nq) from ⟨Hw.out.1, Hw.out.2.1, Hw.out.2.2.1, Hw.out.2.2.2.drewN _⟩)
                    go_wp2_with (at_builtin; go_loud (refine wp_push rfl (.tmp 82) (.tmp 84) 69 rfl 4 (.bool false) 1 1 Try.underlying69 infoBool rfl (by decide) (.slice (some ⟨g2, 0, none⟩) (k + 1) cap2) (k + 1) _ rfl Hw2.out.1 #[.bool true] rfl rfl (one_lit rfl) (by omega) (by unfold maxLen; omega) ?_; intro g3 cap3 w3 h1 h2 h3; have P2 := Lib.hid h1; have F2 := Lib.hid h2; have L2 := Lib.hid h3; clear h1 h2 h3))
                    go_roundw
                    case rel =>
                      have hsz3 := Hw2.out.2.2.2.size
                      have hgl3 := Hw2.out.2.1.lt g rfl
                      refine ⟨k + 1, by go_num, by omega, Lib.hid ⟨?_, ?_, fun h hh => ?_, Hw2.out.2.2.2.trans F2.out (fun b hb hl => by have := (Hw2.out.2.2.1 b hb).2; omega)⟩⟩
                      · rw [HT.out, List.map_append, HN.out]
                        exact P2.out
                      · exact own_fr Hw2.out.2.1 F2.out (fun b hb hb2 => (Hw2.out.2.2.1 b hb2).1 (by injection hb with hb; exact hb.symm))
                      · have hh' : some g3 = some h := hh
                        injection hh' with hh'
                        subst hh'
                        rcases L2.out with h4 | h4
                        · exact Hw2.out.2.2.1 _ h4
                        · have := h4.1; omega
                    case measure => simp [intOf]; omega
                  · have q2 := u8_f (n := 63) (d := 63) rfl h63
                    have q3 := u8_eq p[i] s[k]
                    by_cases heq : p[i] = s[k]
                    · rw [show (p[i] == s[k]) = true from beq_iff_eq.2 heq] at q3
                      have HO := Lib.hid (show okC p[i] s[k] = true by unfold okC; rw [heq]; simp)
                      clear h63 heq
                      have HN := Lib.hid (show mB (p.take (i + 1)) (s.take (k + 1)) = true by rw [HK.out, HO.out]; rfl)
                      go_wp2_with fail
                      go_quiet (fail)
                      have Hw2 : Hid _ := Lib.hid (show (wr.drewN nq).ownsRow _ _ _ _ _ _ ∧ BRow (wr.drewN nq) _ _ _ ∧ _ ∧ Fr No w (wr.drewN nq) from ⟨Hw.out.1, Hw.out.2.1, Hw.out.2.2.1, Hw.out.2.2.2.drewN _⟩)
                      go_wp2_with (at_builtin; go_loud (refine wp_push rfl (.tmp 82) (.tmp 84) 69 rfl 4 (.bool false) 1 1 Try.underlying69 infoBool rfl (by decide) (.slice (some ⟨g2, 0, none⟩) (k + 1) cap2) (k + 1) _ rfl Hw2.out.1 #[.bool true] rfl rfl (one_lit rfl) (by omega) (by unfold maxLen; omega) ?_; intro g3 cap3 w3 h1 h2 h3; have P2 := Lib.hid h1; have F2 := Lib.hid h2; have L2 := Lib.hid h3; clear h1 h2 h3))
                      go_roundw
                      case rel =>
                        have hsz3 := Hw2.out.2.2.2.size
                        have hgl3 := Hw2.out.2.1.lt g rfl
                        refine ⟨k + 1, by go_num, by omega, Lib.hid ⟨?_, ?_, fun h hh => ?_, Hw2.out.2.2.2.trans F2.out (fun b hb hl => by have := (Hw2.out.2.2.1 b hb).2; omega)⟩⟩
                        · rw [HT.out, List.map_append, HN.out]
                          exact P2.out
                        · exact own_fr Hw2.out.2.1 F2.out (fun b hb hb2 => (Hw2.out.2.2.1 b hb2).1 (by injection hb with hb; exact hb.symm))
                        · have hh' : some g3 = some h := hh
                          injection hh' with hh'
                          subst hh'
                          rcases L2.out with h4 | h4
                          · exact Hw2.out.2.2.1 _ h4
                          · have := h4.1; omega
                      case measure => simp [intOf]; omega
                    · rw [show (p[i] == s[k]) = false from beq_eq_false_iff_ne.2 heq] at q3
                      have HO := Lib.hid (show okC p[i] s[k] = false by unfold okC; simp [h63, heq])
                      clear h63 heq
                      have HN := Lib.hid (show mB (p.take (i + 1)) (s.take (k + 1)) = false by rw [HK.out, HO.out]; rfl)
                      go_wp2_with fail
                      go_quiet (fail)
                      have Hw2 : Hid _ := Lib.hid (show (wr.drewN nq).ownsRow _ _ _ _ _ _ ∧ BRow (wr.drewN nq) _ _ _ ∧ _ ∧ Fr No w (wr.drewN nq) from ⟨Hw.out.1, Hw.out.2.1, Hw.out.2.2.1, Hw.out.2.2.2.drewN _⟩)
                      go_wp2_with (at_builtin; go_loud (refine wp_push rfl (.tmp 82) (.tmp 84) 69 rfl 4 (.bool false) 1 1 Try.underlying69 infoBool rfl (by decide) (.slice (some ⟨g2, 0, none⟩) (k + 1) cap2) (k + 1) _ rfl Hw2.out.1 #[.bool false] rfl rfl (one_lit rfl) (by omega) (by unfold maxLen; omega) ?_; intro g3 cap3 w3 h1 h2 h3; have P2 := Lib.hid h1; have F2 := Lib.hid h2; have L2 := Lib.hid h3; clear h1 h2 h3))
                      go_roundw
                      case rel =>
                        have hsz3 := Hw2.out.2.2.2.size
                        have hgl3 := Hw2.out.2.1.lt g rfl
                        refine ⟨k + 1, by go_num, by omega, Lib.hid ⟨?_, ?_, fun h hh => ?_, Hw2.out.2.2.2.trans F2.out (fun b hb hl => by have := (Hw2.out.2.2.1 b hb).2; omega)⟩⟩
                        · rw [HT.out, List.map_append, HN.out]
                          exact P2.out
                        · exact own_fr Hw2.out.2.1 F2.out (fun b hb hb2 => (Hw2.out.2.2.1 b hb2).1 (by injection hb with hb; exact hb.symm))
                        · have hh' : some g3 = some h := hh
                          injection hh' with hh'
                          subst hh'
                          rcases L2.out with h4 | h4
                          · exact Hw2.out.2.2.1 _ h4
                          · have := h4.1; omega
                      case measure => simp [intOf]; omega
              · have hks : k = s.length := by omega
                clear hlt
                subst hks
                have HW : Hid (BRow wr w.heap.size (.slice (some ⟨g2, 0, none⟩) (s.length + 1) cap2) (rowR p s (i + 1)) ∧ Fr No w wr) := by
                  refine Lib.hid ⟨?_, Hw.out.2.2.2⟩
                  have h := own_base Hw.out.1 hgg.2
                  rw [List.take_of_length_le (by rw [row_len]; omega)] at h
                  show wr.ownsRow w.heap.size _ 1 _ (rowR p s (i + 1)).length _
                  rw [row_len]
                  exact h
                clear Hw
                go_wp2_with fail
                go_roundw
                case rel => exact ⟨i + 1, by go_num, by omega, HW⟩
                case measure => simp [intOf]; omega
        · have hip : i = p.length := by omega
          subst hip
          have y0 := Hw.out.1.at s.length (by rw [row_len]; omega)
          rw [row_end] at y0
          go_wp2_with fail
          go_ret
          exact ⟨by rw [HM.out]; try rfl, Hw.out.2⟩
end Word
end Go.Proofs.Ytompphakagoaeaa
