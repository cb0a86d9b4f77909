/- The reference of package mux: bytes up to a lone sign. -/
import Derived.Test.YtagkhljcknnhmaaMuxRef
namespace Go.Proofs.Ytagkhljcknnhmaa
open Go.RowKit
set_option linter.unusedVariables false
set_option linter.unusedSimpArgs false
namespace Mux
/-- The bytes up to a lone sign, each double sign once; how many bytes that are. -/
def bodyR : Str → Str × Nat
  | [] => ([], 0)
  | c :: s => if c = 255 then (match s with | d :: r => if d = 255 then (255 :: (bodyR r).1, (bodyR r).2 + 2) else ([], 0) | [] => ([], 0)) else (c :: (bodyR s).1, (bodyR s).2 + 1)
theorem bodyR_plain {c : UInt8} (s : Str) (h : ¬ c = 255) : bodyR (c :: s) = (c :: (bodyR s).1, (bodyR s).2 + 1) := by cases s <;> simp [bodyR, h]
theorem bodyR_one : bodyR [255] = ([], 0) := by simp [bodyR]
theorem bodyR_two (s : Str) : bodyR (255 :: 255 :: s) = (255 :: (bodyR s).1, (bodyR s).2 + 2) := by simp [bodyR]
theorem bodyR_lone {d : UInt8} (s : Str) (h : ¬ d = 255) : bodyR (255 :: d :: s) = ([], 0) := by simp [bodyR, h]
theorem take1 {s : Str} {k : Nat} (h : k < s.length) : (s.drop k).take 1 = [s[k]] := by
  rw [List.drop_eq_getElem_cons h]; rfl
set_option maxHeartbeats 1000000 in
theorem body_any (s : Str) (w : World) (hs : s.length ≤ 1000000) : Calls Try.prog 38 #[.string ⟨s.toArray⟩] w fun e w' => e = .returned (.tuple #[.string ⟨(bodyR s).1.toArray⟩, .int .i64 (bodyR s).2]) ∧ w = w' := by
  go_enter Try.func38, Try.ntmps38
  go_wp2
  go_loop [4, 5] (fun o i => ∃ (k : Nat) (m : Str), i = .int .i64 k ∧ o = .string ⟨m.toArray⟩ ∧ k ≤ s.length ∧ m.length ≤ k ∧ Hid (bodyR s = (m ++ (bodyR (s.drop k)).1, k + (bodyR (s.drop k)).2))) (fun _ i => s.length - (intOf i).toNat)
  case atStart => exact ⟨0, [], rfl, rfl, by omega, by simp, (show bodyR s = _ by simp)⟩
  case round =>
    obtain ⟨k, m, rfl, rfl, hk, hm, hd⟩ := hrel
    by_cases hlt : k < s.length
    · have hix : (⟨s.toArray⟩ : ByteArray)[k]'(by simpa [ByteArray.size] using hlt) = s[k] := rfl
      have hb := hd.out
      rw [List.drop_eq_getElem_cons hlt] at hb
      by_cases hc : s[k] = 255
      · have hc1 : ((s[k].toNat : Int) == 255) = true := by rw [hc]; rfl
        by_cases hlt2 : k + 1 < s.length
        · have hix2 : (⟨s.toArray⟩ : ByteArray)[k + 1]'(by simpa [ByteArray.size] using hlt2) = s[k + 1] := rfl
          rw [List.drop_eq_getElem_cons hlt2] at hb
          by_cases hc2 : s[k + 1] = 255
          · have hn1 : ((s[k + 1].toNat : Int) != 255) = false := by rw [hc2]; rfl
            have hbb : bodyR s = (m ++ [s[k + 1]] ++ (bodyR (s.drop (k + 2))).1, k + 2 + (bodyR (s.drop (k + 2))).2) := by
              rw [hb]
              simp only [bodyR, hc, hc2, if_true]
              rw [List.append_assoc, show k + 2 = k + 1 + 1 from rfl]
              simp
              omega
            have Hb := Lib.hid hbb
            have hsl := fun W : World => slice_one (P := Try.prog) W 9 Try.underlying9 s (k + 1) (k + 1 + 1) (k + 1) hlt2 (by omega) (by omega)
            have hml : m.length ≤ 1000000 := by omega
            clear hd hb hbb hc hc2
            go_wp2
            go_round
            case rel => exact ⟨k + 2, m ++ [s[k + 1]], by go_num, by rfl, by omega, by simp; omega, Hb.out⟩
            case measure => simp [intOf]; omega
          · have hn1 : ((s[k + 1].toNat : Int) != 255) = true := (u8_f (d := 255) rfl hc2).2
            have hbb : bodyR s = (m, k) := by
              rw [hb]
              rw [hc, bodyR_lone _ hc2]
              simp
            have Hb := Lib.hid hbb
            clear hd hb hbb hc hc2
            go_wp2
            go_ret2
            rw [Hb.out]
            exact ⟨rfl, rfl⟩
        · have hbb : bodyR s = (m, k) := by
            rw [hb, List.drop_of_length_le (by omega)]
            rw [hc, bodyR_one]
            simp
          have Hb := Lib.hid hbb
          clear hd hb hbb hc
          go_wp2
          go_ret2
          rw [Hb.out]
          exact ⟨rfl, rfl⟩
      · have hc1 : ((s[k].toNat : Int) == 255) = false := (u8_f (d := 255) rfl hc).1
        have hbb : bodyR s = (m ++ [s[k]] ++ (bodyR (s.drop (k + 1))).1, k + 1 + (bodyR (s.drop (k + 1))).2) := by
          rw [hb]
          rw [bodyR_plain _ hc]
          refine Prod.ext ?_ ?_
          · simp
          · show k + ((bodyR (s.drop (k + 1))).2 + 1) = k + 1 + (bodyR (s.drop (k + 1))).2
            omega
        have Hb := Lib.hid hbb
        have hsl := fun W : World => slice_one (P := Try.prog) W 9 Try.underlying9 s k (k + 1) k hlt (by omega) (by omega)
        clear hd hb hbb hc
        go_wp2
        go_round
        case rel => exact ⟨k + 1, m ++ [s[k]], by go_num, by rfl, by omega, by simp; omega, Hb.out⟩
        case measure => simp [intOf]; omega
    · go_wp2
      go_ret2
      have h1 := hd.out
      rw [List.drop_of_length_le (by omega)] at h1
      refine ⟨?_, rfl⟩
      rw [h1]
      have : k = s.length := by omega
      simp [bodyR]
end Mux
end Go.Proofs.Ytagkhljcknnhmaa
