/- Package digit: Unshow. -/
import Derived.Test.YtohjnbkehcdoaaaDoorDigitUns
namespace Go.Proofs.YtohjnbkehcdoaaaDoor
open Go.RowKit
set_option linter.unusedVariables false
set_option linter.unusedSimpArgs false
namespace Digit
def unsP (s : Str) : Str × Int := match unsR s with | some o => (o, 0) | none => ([], 3)
theorem unsP_yes {s t out : Str} (h : unsR s = (unsR t).map (out ++ ·)) (ht : t = []) : unsP s = (out, 0) := by
  subst ht
  unfold unsP
  rw [h, show unsR [] = some [] from rfl]
  simp
theorem unsP_no {s t out : Str} (h : unsR s = (unsR t).map (out ++ ·)) (ht : unsR t = none) : unsP s = ([], 3) := by
  unfold unsP
  rw [h, ht]
  rfl
theorem uns_on {s t r out : Str} {c : UInt8} (h : unsR s = (unsR t).map (out ++ ·)) (ht : t = signR c ++ r) : unsR s = (unsR r).map (out ++ [c] ++ ·) := by
  rw [h, ht, unsR_sign]
  cases unsR r <;> simp
set_option maxHeartbeats 1000000 in
theorem unshow_any (s : Str) (w : World) (hs : s.length ≤ 1000000) : Calls Tryd.prog 32 #[.string ⟨s.toArray⟩] w fun e w' => e = .returned (.tuple #[.string ⟨(unsP s).1.toArray⟩, .int .i64 (unsP s).2]) ∧ Fr No w w' := by
  go_enter Tryd.func32, Tryd.ntmps32
  go_wp2
  go_loopw [4, 5] (fun o rv wr => ∃ (t out : Str) (m : Nat), rv = .string ⟨t.toArray⟩ ∧ t.length + m ≤ s.length ∧ Hid (m = out.length) ∧ Hid (unsR s = (unsR t).map (out ++ ·)) ∧ Hid (wr.ownsRow 0 5 1 o m (out.map encB) ∧ Step No w (Of o) wr)) (fun _ rv _ => match rv with | .string b => b.size | _ => 0)
  case atStart => exact ⟨s, [], 0, rfl, by omega, rfl, (show unsR s = _ by cases unsR s <;> simp), World.ownsRow_nil _ _ _ _, Fr.refl _ _, fun k hk => (by cases hk)⟩
  case round =>
    obtain ⟨t, out, m, rfl, htm, Hm, Hu, Hd⟩ := hrel
    by_cases ht : t = []
    · subst ht
      have HP := Lib.hid (unsP_yes Hu.out rfl)
      obtain ⟨d1, d2⟩ := Hd.out
      obtain ⟨A, cc, hu⟩ := own_form d1
      subst hu
      have d1' : wr.ownsRow 0 5 1 (.slice A m cc) out.length (out.map encB) := by rw [← Hm.out]; exact d1
      have hcv := conv_bytes (P := Tryd.prog) (w := wr) 75 9 5 Tryd.underlying75 Tryd.underlying5 Tryd.underlying9 (own_bytes d1')
      have D2 := Lib.hid d2
      clear d1 d1' d2 Hd Hu
      go_wp2
      go_ret2
      rw [HP.out]
      exact ⟨rfl, D2.out.1⟩
    · have htb : t.isEmpty = false := by simpa using ht
      have h1 := fun w => one_any t ht (by omega) w
      have hle := one_le t
      obtain ⟨c, n, hcn⟩ : ∃ c n, oneR t = (c, n) := ⟨_, _, rfl⟩
      rw [hcn] at h1 hle
      have h1 : ∀ w, Calls Tryd.prog 47 #[.string ⟨t.toArray⟩] w fun e w' => e = .returned (.tuple #[.int .u8 c.toNat, .int .i64 n]) ∧ w = w' := h1
      have hle : n ≤ t.length := hle
      have h2 := fun w => shown_any c w
      have hsl := fun W : World => slice_to (P := Tryd.prog) W 9 Tryd.underlying9 t n n rfl hle
      have hsl2 := fun W : World => slice_from (P := Tryd.prog) W 9 Tryd.underlying9 t n n rfl hle
      by_cases hx : ∃ c' r, t = signR c' ++ r
      · obtain ⟨c', r, htr⟩ := hx
        have hone := one_sign c' r
        rw [← htr, hcn] at hone
        injection hone with hc1 hn1
        subst hc1
        have htk : t.take n = signR c := by rw [htr, hn1, List.take_left]
        have hdr : t.drop n = r := by rw [htr, hn1, List.drop_left]
        have hsg := sign_len c
        rw [← hn1] at hsg
        have hn0 : ((n : Int) == 0) = false := by rw [beq_eq_false_iff_ne]; omega
        obtain ⟨g, hg⟩ : ∃ g, g = signR c := ⟨_, rfl⟩
        rw [htk, ← hg] at hsl
        rw [← hg] at h2
        rw [hdr] at hsl2
        have Hon := Lib.hid (uns_on Hu.out htr)
        have hrl : r.length + n = t.length := by rw [htr, hn1]; simp; omega
        obtain ⟨A, cc, hu⟩ := own_form Hd.out.1
        subst hu
        clear htk hdr hg htr hn1 hcn Hu
        go_wp2_with (go_at_call 47; refine (h1 _).mono ?_; rintro e w1 ⟨rfl, rfl⟩)
        go_region_with (go_at_call 43; refine (h2 _).mono ?_; rintro e w1 ⟨rfl, hf⟩; have Hf := Lib.hid hf; clear hf)
        all_goals
          have Hf2 := Lib.hid (show Fr No wr w1 from (((Fr.refl No wr).drew).trans Hf.out fun _ h _ => h))
          have Ho := Lib.hid (own_fr Hd.out.1 Hf2.out (fun _ _ h => h))
          have Hs := Lib.hid (Hd.out.2.trans (Step.no Hf2.out))
          go_wp2
          go_region_law (go_loud (refine step_pushD rfl (.tmp 26) (.tmp 28) 75 rfl 5 (.int .u8 0) 1 1 Tryd.underlying75 infoB rfl (by decide) (.slice A m cc) m (out.map encB) (by simp [Act.eval, Act.put]) Ho.out #[.int .u8 c.toNat] (by simp [Act.eval, Act.put]) rfl (by intro u hu; simp at hu; subst hu; rfl) (by omega) (by unfold maxLen; omega) ?_; intro g4 cap4 w4 p1 p2 p3; have P1 := Lib.hid p1; have P2 := Lib.hid (Hs.out.trans (Step.of (n := m + 1) (c := cap4) p2 p3)); clear p1 p2 p3))
          all_goals
            go_wp2
            go_roundw
            case rel => exact ⟨_, _, _, _, ⟨r, rfl, out ++ [c], m + 1, by omega, (show m + 1 = _ by rw [Hm.out]; simp), Hon.out, by rw [List.map_append]; exact P1.out, P2.out⟩, rfl, rfl, rfl, rfl⟩
            case measure => omega
      · have HP := Lib.hid (unsP_no Hu.out (unsR_bad ht (fun c r e => hx ⟨c, r, e⟩)))
        by_cases hn : n = 0
        · have hn0 : ((n : Int) == 0) = true := by rw [hn]; rfl
          clear hcn hle hx h2
          go_wp2_with (go_at_call 47; refine (h1 _).mono ?_; rintro e w1 ⟨rfl, rfl⟩)
          go_quiet (fail)
          go_wp2
          go_ret2
          rw [HP.out]
          exact ⟨rfl, Hd.out.2.1.drewN _⟩
        · have hn0 : ((n : Int) == 0) = false := by rw [beq_eq_false_iff_ne]; omega
          have hgq : signR c ≠ t.take n := fun e => hx ⟨c, t.drop n, by rw [e, List.take_append_drop]⟩
          obtain ⟨g, hg⟩ : ∃ g, g = signR c := ⟨_, rfl⟩
          obtain ⟨q, hq⟩ : ∃ q, q = t.take n := ⟨_, rfl⟩
          rw [← hg, ← hq] at hgq
          rw [← hq] at hsl
          rw [← hg] at h2
          have hgq2 : (g == q) = false := beq_eq_false_iff_ne.2 hgq
          clear hg hq hgq hcn hx
          go_wp2_with (go_at_call 47; refine (h1 _).mono ?_; rintro e w1 ⟨rfl, rfl⟩)
          go_region_with (go_at_call 43; refine (h2 _).mono ?_; rintro e w1 ⟨rfl, hf⟩; have Hf := Lib.hid hf; clear hf)
          all_goals
            have Hf2 := Lib.hid (show Fr No wr w1 from (((Fr.refl No wr).drew).trans Hf.out fun _ h _ => h))
            go_wp2
            go_ret2
            rw [HP.out]
            exact ⟨rfl, Hd.out.2.1.then_no Hf2.out⟩
end Digit
end Go.Proofs.YtohjnbkehcdoaaaDoor
