/- Package digit: the reference's Unshow. -/
import Derived.Test.YtohjnbkehcdoaaaDoorDigitUns2
import Derived.Deep.LoopGhost
namespace Go.Proofs.YtohjnbkehcdoaaaDoor
open Go.RowKit
set_option linter.unusedVariables false
set_option linter.unusedSimpArgs false
namespace Digit
theorem conv_one (c : UInt8) (k : Nat) (hk : c.toNat = k) (W : World) (b : Nat) (h1 : W.cell? ⟨b, 0, none⟩ = some (.int .u8 k)) :
    (convert 75 9 (.slice (some ⟨b, 0, none⟩) 1 1)).run Tryd.prog W = .ok (.string ⟨#[c]⟩) W := by
  refine run_convert_bytes_back W 75 9 5 ⟨b, 0, none⟩ 1 [c] Tryd.underlying75 Tryd.underlying5 Tryd.underlying9 fun j hj => ?_
  have : j = 0 := by simpa using hj
  subst this
  rw [add_zero, h1, ← hk]
  rfl
theorem take_sign {t : Str} {g : Str} (hl : g.length ≤ t.length) (h : t.take g.length = g) : t = g ++ t.drop g.length := by
  conv => lhs; rw [← List.take_append_drop g.length t, h]
/-- The inner loop: what was found among the first k. -/
def Fnd (t out : Str) (k : Nat) (t' out' : Str) (f : Bool) : Prop :=
  if f = true then ∃ c, t = signR c ++ t' ∧ out' = out ++ [c] else t' = t ∧ out' = out ∧ ∀ j, j < k → ∀ r, t ≠ signR (UInt8.ofNat j) ++ r
set_option maxHeartbeats 2000000 in
set_option maxRecDepth 100000 in
theorem runshow_any (s : Str) (w : World) (hs : s.length ≤ 1000000) : Calls Tryd.prog 35 #[.string ⟨s.toArray⟩] w fun e w' => e = .returned (.tuple #[.string ⟨(unsP s).1.toArray⟩, .int .i64 (unsP s).2]) ∧ Fr No w w' := by
  go_enter Tryd.func35, Tryd.ntmps35
  go_wp2
  go_loopg [0, 4] s.length (fun g sv o wr => ∃ t out : Str, sv = .string ⟨t.toArray⟩ ∧ o = .string ⟨out.toArray⟩ ∧ t.length ≤ g ∧ g ≤ s.length ∧ t.length + out.length ≤ s.length ∧ Hid (unsR s = (unsR t).map (out ++ ·)) ∧ Hid (Fr No w wr))
  case atStart => exact ⟨s, [], rfl, rfl, Nat.le_refl _, Nat.le_refl _, by simp, (show unsR s = _ by cases unsR s <;> simp), Fr.refl _ _⟩
  case round =>
    obtain ⟨t, out, rfl, rfl, htg, hgs, hto, Hu, Hd⟩ := hrel
    obtain ⟨G, hG⟩ : ∃ G, G = gk := ⟨_, rfl⟩
    subst hG
    obtain ⟨wo, hwo⟩ : ∃ wo, wo = wr := ⟨_, rfl⟩
    subst hwo
    by_cases ht : t = []
    · subst ht
      have HP := Lib.hid (unsP_yes Hu.out rfl)
      go_wp2
      go_ret2
      rw [HP.out]
      exact ⟨rfl, Hd.out⟩
    · have htb : t.isEmpty = false := by simpa using ht
      go_wp2
      go_loopg [0, 4, 5, 6] 256 (fun g sv o f iv wi => ∃ (t' out' : Str) (b : Bool) (k : Nat), sv = .string ⟨t'.toArray⟩ ∧ o = .string ⟨out'.toArray⟩ ∧ f = .bool b ∧ iv = .int .i64 k ∧ k ≤ 256 ∧ g = 256 - k ∧ t'.length ≤ t.length ∧ out'.length + t'.length ≤ s.length ∧ Hid (Fnd t out k t' out' b) ∧ Hid (Fr No w wi))
      case atStart => exact ⟨t, out, false, 0, rfl, rfl, rfl, rfl, by omega, by omega, by omega, by omega, ⟨rfl, rfl, fun j h => absurd h (by omega)⟩, Hd.out⟩
      case round =>
        obtain ⟨t', out', b, k, rfl, rfl, rfl, rfl, hk, hgk, htl, hol, Hf, Hd1⟩ := hrel
        by_cases hbk : b = false ∧ k < 256
        · obtain ⟨rfl, hk2⟩ := hbk
          obtain ⟨ht1, ho1, hno⟩ := Hf.out
          subst ht1 ho1
          obtain ⟨c, hc⟩ : ∃ c, c = UInt8.ofNat k := ⟨_, rfl⟩
          have hck : c.toNat = k := by rw [hc, UInt8.toNat_ofNat']; omega
          have h2 := fun w => rsign_any c w
          rw [hck] at h2
          obtain ⟨g, hg⟩ : ∃ g, g = signR c := ⟨_, rfl⟩
          have hgl := sign_len c
          rw [← hg] at h2 hgl
          by_cases hx : g.length ≤ t'.length ∧ t'.take g.length = g
          · obtain ⟨hx1, hx2⟩ := hx
            have htr := take_sign hx1 hx2
            obtain ⟨r, hr⟩ : ∃ r, r = t'.drop g.length := ⟨_, rfl⟩
            have hrl : r.length + g.length = t'.length := by rw [hr]; simp; omega
            rw [← hr] at htr
            have hsl := fun W : World => slice_to (P := Tryd.prog) W 9 Tryd.underlying9 t' (g.length : Nat) g.length rfl hx1
            rw [hx2] at hsl
            have hsl2 := fun W : World => slice_from (P := Tryd.prog) W 9 Tryd.underlying9 t' (g.length : Nat) g.length rfl hx1
            rw [← hr] at hsl2
            have hcv := conv_one c k hck
            have Htr := Lib.hid (show t' = signR c ++ r by rw [← hg]; exact htr)
            clear hno Hf hr htr hx2 hg hc hck
            go_wp2_with (go_at_call 45; refine (h2 _).mono ?_; rintro e w1 ⟨rfl, hf⟩; have Hf := Lib.hid (Hd1.out.then_no hf); clear hf)
            go_region
            all_goals
              go_wp2
              go_roundg (256 - (k + 1))
              case measure => omega
              case rel => exact ⟨r, out' ++ [c], true, k + 1, rfl, rfl, rfl, by go_num, by omega, rfl, by omega, by simp; omega, ⟨c, Htr.out, rfl⟩, by first | exact Hf.out.drewN _ | exact (Hf.out.alloc _).drew | exact (Hf.out.drew).alloc _ | exact Hf.out.alloc _ | exact ((Hf.out.alloc _).drewN _)⟩
          · have hno2 : ∀ j, j < k + 1 → ∀ r, t' ≠ signR (UInt8.ofNat j) ++ r := by
              intro j hj r e
              by_cases hjk : j = k
              · subst hjk
                rw [← hc, ← hg] at e
                exact hx ⟨by rw [e]; simp, by rw [e]; exact List.take_left⟩
              · exact hno j (by omega) r e
            have HN := Lib.hid hno2
            clear hno hno2 Hf
            by_cases hx1 : g.length ≤ t'.length
            · have hx2 : t'.take g.length ≠ g := fun e => hx ⟨hx1, e⟩
              have hsl := fun W : World => slice_to (P := Tryd.prog) W 9 Tryd.underlying9 t' (g.length : Nat) g.length rfl hx1
              obtain ⟨q, hq⟩ : ∃ q, q = t'.take g.length := ⟨_, rfl⟩
              rw [← hq] at hsl hx2
              have hqg : (q == g) = false := beq_eq_false_iff_ne.2 hx2
              clear hx hx2 hq hg hc hck
              go_wp2_with (go_at_call 45; refine (h2 _).mono ?_; rintro e w1 ⟨rfl, hf⟩; have Hf := Lib.hid (Hd1.out.then_no hf); clear hf)
              go_roundg (256 - (k + 1))
              case measure => omega
              case rel => exact ⟨t', out', false, k + 1, rfl, rfl, rfl, by go_num, by omega, rfl, by omega, by omega, ⟨rfl, rfl, HN.out⟩, Hf.out⟩
            · clear hx hg hc hck
              go_wp2_with (go_at_call 45; refine (h2 _).mono ?_; rintro e w1 ⟨rfl, hf⟩; have Hf := Lib.hid (Hd1.out.then_no hf); clear hf)
              go_roundg (256 - (k + 1))
              case measure => omega
              case rel => exact ⟨t', out', false, k + 1, rfl, rfl, rfl, by go_num, by omega, rfl, by omega, by omega, ⟨rfl, rfl, HN.out⟩, Hf.out⟩
        · cases b
          · have hk2 : k = 256 := by
              have : ¬ k < 256 := fun h => hbk ⟨rfl, h⟩
              omega
            obtain ⟨ht1, ho1, hno⟩ := Hf.out
            have HP := Lib.hid (unsP_no Hu.out (unsR_bad ht (fun c r e => hno c.toNat (by have := c.toNat_lt; omega) r (by simpa using e))))
            clear hno Hf hbk
            subst hk2
            go_wp2
            go_ret2
            rw [HP.out]
            exact ⟨rfl, Hd1.out⟩
          · obtain ⟨c, htr, ho1⟩ := Hf.out
            have Hon := Lib.hid (uns_on Hu.out htr)
            have hlt : t'.length < t.length := by
              have := (sign_len c).1
              rw [htr]; simp; omega
            have Hou := Lib.hid ho1
            clear htr ho1 Hf hbk
            by_cases hk2 : k < 256
            · go_wp2
              go_roundg t'.length
              case measure => omega
              case rel => exact ⟨t', out', rfl, rfl, Nat.le_refl _, by omega, by omega, by rw [Hou.out]; exact Hon.out, Hd1.out⟩
            · go_wp2
              go_roundg t'.length
              case measure => omega
              case rel => exact ⟨t', out', rfl, rfl, Nat.le_refl _, by omega, by omega, by rw [Hou.out]; exact Hon.out, Hd1.out⟩
end Digit
end Go.Proofs.YtohjnbkehcdoaaaDoor
