/- Package digit: a number's digits. -/
import Derived.Test.YtohjnbkehcdoaaaDoorRows
import Derived.Test.YtohjnbkehcdoaaaDoorBytes
import Derived.WalkKit
import Derived.Outline
import Derived.BigQuiet
import Derived.Deep.QuietTactic
import Derived.Deep.RegionLaw
import Derived.Deep.DeepMust
import Derived.ScopeJumps
import Derived.WalkMore
namespace Go.Proofs.YtohjnbkehcdoaaaDoor
open Go.RowKit
set_option linter.unusedVariables false
set_option linter.unusedSimpArgs false
namespace Digit
theorem infoB : (Tryd.prog.info? 5).map (fun i => (i.zero, i.size, i.bytes)) = some (some (.int .u8 0), 1, 1) := by kernel_rfl
/-- A number's digits. -/
def dec (n : Nat) : Str := if n < 10 then [UInt8.ofNat (48 + n)] else dec (n / 10) ++ [UInt8.ofNat (48 + n % 10)]
termination_by n
theorem dec_step (n : Nat) : dec n = (if n / 10 = 0 then [] else dec (n / 10)) ++ [UInt8.ofNat (48 + n % 10)] := by
  rw [dec]
  by_cases h : n < 10
  · rw [if_pos h, if_pos (by omega), Nat.mod_eq_of_lt h]; rfl
  · rw [if_neg h, if_neg (by omega)]
theorem encD (m : Nat) : encB (UInt8.ofNat (48 + m % 10)) = .int .u8 (48 + (m : Int) % 10) := by
  have h : (UInt8.ofNat (48 + m % 10)).toNat = 48 + m % 10 := by rw [UInt8.toNat_ofNat']; omega
  unfold encB
  rw [h]
  simp
/-- A row of 20 bytes, from k on, as a text, behind a store at k. -/
theorem arr_conv {w : World} {g k c n : Nat} {cs : Str} {d : UInt8} {v : Value} (hB : Blk w g 94 (cs.map encB).toArray) (hv : v = encB d) (hk : k < cs.length) (hn : cs.length - k = n) :
    (convert 75 9 (.slice (some ⟨g, k, none⟩) n c)).run Tryd.prog (w.setCell ⟨g, k, none⟩ v) = .ok (.string ⟨(d :: cs.drop (k + 1)).toArray⟩) (w.setCell ⟨g, k, none⟩ v) := by
  have hl : (d :: cs.drop (k + 1)).length = n := by simp; omega
  rw [← hl]
  refine run_convert_bytes_back _ 75 9 5 ⟨g, k, none⟩ c (d :: cs.drop (k + 1)) Tryd.underlying75 Tryd.underlying5 Tryd.underlying9 fun j hj => ?_
  have hP := hB.put k v
  have e : (⟨g, k, none⟩ : Addr).add j = ⟨g, k + j, none⟩ := by unfold Addr.add; split <;> simp_all
  rw [e, hP.cell (k + j), hv]
  rcases Nat.eq_zero_or_pos j with rfl | hj0
  · simp [encB, hk]
  · obtain ⟨i, rfl⟩ : ∃ i, j = i + 1 := ⟨j - 1, by omega⟩
    simp at hj
    have h2 : k + (i + 1) < cs.length := by omega
    simp [encB, h2, show k ≠ k + (i + 1) by omega, show k + 1 + i = k + (i + 1) by omega]
set_option maxRecDepth 100000 in
theorem arr_from (W : World) (g k : Nat) (hk : k < 20) : (Instr.sliceAt 94 (.pointer (some ⟨g, 0, none⟩)) (some (.int .i64 k)) none none).run Tryd.prog W = .ok (.slice (some ⟨g, k, none⟩) (20 - k) (20 - k)) W := by
  have hl : Tryd.prog.arrayLen 94 = 20 := by kernel_rfl
  have he : Tryd.prog.elem 94 = 5 := by kernel_rfl
  obtain ⟨i0, hi, hz0, hz1, hz2⟩ := info_parts infoB
  have h := run_sliceAt_array_l (P := Tryd.prog) (w := W) (t := 94) (a := ⟨g, 0, none⟩) Tryd.underlying94 .i64 (k : Int) (by omega) (by rw [hl]; omega)
  rw [h, hl, he]
  simp [sizeOf, typeInfo, hi, hz1, slicedAt]
  rw [if_neg (by omega)]
  unfold Addr.add
  split <;> simp_all
theorem blk_put {w : World} {g k : Nat} {cs : Str} {d : UInt8} {v : Value} (hB : Blk w g 94 (cs.map encB).toArray) (hv : v = encB d) : Blk (w.setCell ⟨g, k, none⟩ v) g 94 ((cs.set k d).map encB).toArray := by
  have := hB.put k v
  rw [hv] at this ⊢
  simpa [List.map_set] using this
def SmallJ (m : Nat) (w : World) (a' : Act) (w' : World) : Prop :=
  ∃ (m' k : Nat) (cs : Str) (u5 u6 u7 u8 u9 u10 u11 u12 u13 u14 u15 u16 u17 u18 u19 : Value), a' = { tmps := #[.int .i64 (-(m' : Int)), undef, .string { data := #[] }, .pointer (some ⟨w.heap.size, 0, none⟩), .int .i64 (k + 1), u5, u6, u7, u8, u9, u10, u11, u12, u13, u14, u15, u16, u17, u18, u19], defers := [] } ∧ k < 19 ∧ m' < 10 ^ (k + 1) ∧ m' ≤ 9223372036854775808 ∧ Hid (cs.length = 20 ∧ Blk w' w.heap.size 94 (cs.map encB).toArray ∧ dec m = dec m' ++ cs.drop (k + 1) ∧ Fr No w w')
set_option maxHeartbeats 1000000 in
set_option maxRecDepth 100000 in
theorem small_any (m : Nat) (hm : m ≤ 9223372036854775808) (w : World) : Calls Tryd.prog 42 #[.int .i64 (-(m : Int))] w fun e w' => e = .returned (.string ⟨(dec m).toArray⟩) ∧ Fr No w w' := by
  go_enter Tryd.func42, Tryd.ntmps42
  go_wp2
  refine wp_scope_jumps 0 (SmallJ m w) (fun a' _ => (intOf (a'.tmps.getD 4 undef)).toNat) rfl ?_ ?_
  · go_wp2
    go_step3
    generalize hw1 : w.alloc _ = w1
    have hB : Blk w1 w.heap.size 94 ((List.replicate 20 (0 : UInt8)).map encB).toArray := by rw [← hw1]; exact Blk.new _ _ _
    have hF : Fr No w w1 := by rw [← hw1]; exact (Fr.refl _ _).alloc _
    have k0 := hB.cell 19
    have f0 := hB.frozen 19
    simp at k0
    obtain ⟨d, hd⟩ : ∃ d, d = UInt8.ofNat (48 + m % 10) := ⟨_, rfl⟩
    have he := encD m
    have hs := dec_step m
    rw [← hd] at he hs
    have hcv := arr_conv (k := 19) (c := 1) (n := 1) hB he.symm (by simp) (by simp)
    have hp := blk_put (k := 19) hB he.symm
    have HP := Lib.hid hp
    have HF := Lib.hid hF
    have HS := Lib.hid hs
    clear hw1 hB hF hd he hs hp
    by_cases hz : m / 10 = 0
    · have hg : (-((m : Int) / 10) != 0) = false := by simp; omega
      go_wp2
      simp only [Exit.jump]
      go_ret
      have hs := HS.out
      rw [if_pos hz] at hs
      rw [hs]
      exact ⟨rfl, HF.out.setCell (p := ⟨w.heap.size, 19, none⟩) (.inr (Nat.le_refl _)) _⟩
    · have hg : (-((m : Int) / 10) != 0) = true := by simp; omega
      go_wp2
      go_step3
      have hs := HS.out
      rw [if_neg hz] at hs
      refine ⟨rfl, m / 10, 18, (List.replicate 20 0).set 19 d, _, _, _, _, _, _, _, _, _, _, _, _, _, _, _, rfl, by omega, by omega, by omega, ⟨by simp, HP.out, by rw [hs]; simp [List.replicate], HF.out.setCell (p := ⟨w.heap.size, 19, none⟩) (.inr (Nat.le_refl _)) _⟩⟩
  · rintro a' wr ⟨m', k, cs, u5, u6, u7, u8, u9, u10, u11, u12, u13, u14, u15, u16, u17, u18, u19, rfl, hk, hmk, hm', Hj⟩
    obtain ⟨hcs, hB, hdm, hF⟩ := Hj.out
    have hk2 : k < cs.length := by omega
    have k0 : wr.cell? ⟨w.heap.size, k, none⟩ = some (encB cs[k]) := by rw [hB.cell k]; simp [hk2]
    have f0 := hB.frozen k
    obtain ⟨d, hd⟩ : ∃ d, d = UInt8.ofNat (48 + m' % 10) := ⟨_, rfl⟩
    have he := encD m'
    have hs := dec_step m'
    rw [← hd] at he hs
    have hcv := arr_conv (k := k) (c := 20 - k) (n := 20 - k) hB he.symm (by omega) (by omega)
    have hp := blk_put (k := k) hB he.symm
    have HP := Lib.hid hp
    have HS := Lib.hid hs
    have hsl := fun W : World => arr_from W w.heap.size k (by omega)
    clear hB hF hd he hs hp hdm
    by_cases hz : m' / 10 = 0
    · have hg : (-((m' : Int) / 10) != 0) = false := by simp; omega
      go_wp2
      simp only [Exit.jump]
      go_ret
      obtain ⟨hcs, hB, hdm, hF⟩ := Hj.out
      have hs := HS.out
      rw [if_pos hz] at hs
      rw [hdm, hs]
      exact ⟨rfl, hF.setCell (p := ⟨w.heap.size, k, none⟩) (.inr (Nat.le_refl _)) _⟩
    · have hg : (-((m' : Int) / 10) != 0) = true := by simp; omega
      obtain ⟨k, rfl⟩ : ∃ k', k = k' + 1 := by
        refine ⟨k - 1, ?_⟩
        rcases Nat.eq_zero_or_pos k with rfl | h
        · simp at hmk; omega
        · omega
      go_wp2
      go_step3
      obtain ⟨hcs, hB, hdm, hF⟩ := Hj.out
      have hs := HS.out
      rw [if_neg hz] at hs
      have hpow : m' / 10 < 10 ^ (k + 1) := by
        rw [Nat.pow_succ] at hmk
        omega
      refine ⟨rfl, ⟨m' / 10, k, cs.set (k + 1) d, _, _, _, _, _, _, _, _, _, _, _, _, _, _, _, rfl, by omega, hpow, by omega, by simpa using hcs, HP.out, ?_, hF.setCell (p := ⟨w.heap.size, k + 1, none⟩) (.inr (Nat.le_refl _)) _⟩, ?_⟩
      · rw [hdm, hs, List.drop_set, if_neg (by omega), List.drop_eq_getElem_cons (show k + 1 < cs.length by omega), Nat.sub_self, List.set_cons_zero, List.append_assoc]
        rfl
      · simp [intOf]; omega
end Digit
end Go.Proofs.YtohjnbkehcdoaaaDoor
