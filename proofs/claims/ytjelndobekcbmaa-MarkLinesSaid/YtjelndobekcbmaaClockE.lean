/- Package clock: Read. Printed by gen_clocke.py. -/
import Derived.Test.YtjelndobekcbmaaClockQ
import Derived.Deep.CutRange
namespace Go.Proofs.Ytjelndobekcbmaa
open Go.RowKit
set_option linter.unusedVariables false
set_option linter.unusedSimpArgs false
namespace Clock
open Digit
theorem dig2 {p q : UInt8} (hp : isD p) (hq : isD q) : [p, q] = [dg (((val [p, q] : Nat) : Int) / 10), dg ((val [p, q] : Nat) : Int)] ∧ val [p, q] < 100 := by
  unfold isD at hp hq
  have hv : val [p, q] = 10 * (p.toNat - 48) + (q.toNat - 48) := by simp [val]
  refine ⟨?_, by omega⟩
  have e1 : dg (((val [p, q] : Nat) : Int) / 10) = p := by apply UInt8.toNat_inj.1; rw [dg_nat, hv]; omega
  have e2 : dg ((val [p, q] : Nat) : Int) = q := by apply UInt8.toNat_inj.1; rw [dg_nat, hv]; omega
  rw [e1, e2]
theorem dig4 {p q r t : UInt8} (hp : isD p) (hq : isD q) (hr : isD r) (ht : isD t) :
    [p, q, r, t] = [dg (((val [p, q, r, t] : Nat) : Int) / 1000), dg (((val [p, q, r, t] : Nat) : Int) / 100), dg (((val [p, q, r, t] : Nat) : Int) / 10), dg ((val [p, q, r, t] : Nat) : Int)] ∧ val [p, q, r, t] < 10000 := by
  unfold isD at hp hq hr ht
  have hv : val [p, q, r, t] = 10 * (10 * (10 * (p.toNat - 48) + (q.toNat - 48)) + (r.toNat - 48)) + (t.toNat - 48) := by simp [val]
  refine ⟨?_, by omega⟩
  have e1 : dg (((val [p, q, r, t] : Nat) : Int) / 1000) = p := by apply UInt8.toNat_inj.1; rw [dg_nat, hv]; omega
  have e2 : dg (((val [p, q, r, t] : Nat) : Int) / 100) = q := by apply UInt8.toNat_inj.1; rw [dg_nat, hv]; omega
  have e3 : dg (((val [p, q, r, t] : Nat) : Int) / 10) = r := by apply UInt8.toNat_inj.1; rw [dg_nat, hv]; omega
  have e4 : dg ((val [p, q, r, t] : Nat) : Int) = t := by apply UInt8.toNat_inj.1; rw [dg_nat, hv]; omega
  rw [e1, e2, e3, e4]
/-- What a stamp's signs are. -/
structure G19 (F : List Str) (n : Int) (y : Int) (k : Nat) (d a b c : Int) : Prop where
  hf : Fld n y k d a b c
  hy : y < 10000
  he : F = [[dg (y / 1000), dg (y / 100), dg (y / 10), dg y], [dg (((k : Int) + 1) / 10), dg ((k : Int) + 1)], [dg (d / 10), dg d], [dg (a / 10), dg a], [dg (b / 10), dg b], [dg (c / 10), dg c]]
theorem good19 {c0 c1 c2 c3 c4 c5 c6 c7 c8 c9 c10 c11 c12 c13 c14 c15 c16 c17 c18 : UInt8} {n : Int} (h : Good [c0, c1, c2, c3, c4, c5, c6, c7, c8, c9, c10, c11, c12, c13, c14, c15, c16, c17, c18] n) : (c4 = 45 ∧ c7 = 45 ∧ c10 = 32 ∧ c13 = 58 ∧ c16 = 58) ∧ ∃ y k d a b c, G19 ([[c0, c1, c2, c3], [c5, c6], [c8, c9], [c11, c12], [c14, c15], [c17, c18]] : List Str) n y k d a b c := by
  obtain ⟨y, k, d, a, b, c, hf, he, hy⟩ := h.fld
  simp only [fmt, List.cons.injEq, and_true] at he
  obtain ⟨rfl, rfl, rfl, rfl, rfl, rfl, rfl, rfl, rfl, rfl, rfl, rfl, rfl, rfl, rfl, rfl, rfl, rfl, rfl⟩ := he
  exact ⟨⟨rfl, rfl, rfl, rfl, rfl⟩, y, k, d, a, b, c, hf, hy, rfl⟩
theorem G19.digits {F : List Str} {n y d a b c : Int} {k : Nat} (h : G19 F n y k d a b c) : ∀ t ∈ F, ∀ x ∈ t, isD x := by
  rw [h.he]
  intro t ht x hx
  simp only [List.mem_cons, List.not_mem_nil, or_false] at ht
  rcases ht with rfl | rfl | rfl | rfl | rfl | rfl
  all_goals
    simp only [List.mem_cons, List.not_mem_nil, or_false] at hx
    first
    | (rcases hx with rfl | rfl | rfl | rfl <;> exact dg_isD _)
    | (rcases hx with rfl | rfl <;> exact dg_isD _)
theorem G19.vals {F : List Str} {n y d a b c : Int} {k : Nat} (h : G19 F n y k d a b c) : (val (F.getD 0 []) : Int) = y ∧ (val (F.getD 1 []) : Int) = (k : Int) + 1 ∧ (val (F.getD 2 []) : Int) = d ∧ (val (F.getD 3 []) : Int) = a ∧ (val (F.getD 4 []) : Int) = b ∧ (val (F.getD 5 []) : Int) = c := by
  obtain ⟨b1, b2, b3, b4, b5, b6⟩ := h.hf.bnd h.hy
  rw [h.he]
  exact ⟨val4 b1.1 b1.2, val2 b2.1 b2.2, val2 b3.1 b3.2, val2 b4.1 b4.2, val2 b5.1 b5.2, val2 b6.1 b6.2⟩
theorem Fld.rng {n y d a b c : Int} {k : Nat} (h : Fld n y k d a b c) : 2000 ≤ y ∧ k < 12 ∧ 1 ≤ d ∧ d ≤ ml y ((k : Int) + 1) ∧ a < 24 ∧ b < 60 ∧ c < 60 := by
  have h1 := h.i.y0
  have h2 := h.i.lt
  have h3 := h.i.d
  have h4 := h.i.k1
  have h5 := h.i.k2
  simp only [bef] at h5
  have := h.ha; have := h.hb; have := h.hc
  exact ⟨by omega, by omega, by omega, by omega, by omega, by omega, by omega⟩
theorem bef_bnd (y : Int) {j : Nat} (h : j ≤ 12) : 0 ≤ bef y j ∧ bef y j ≤ 366 := by
  have h1 := bef_up y (Nat.zero_le j)
  have h2 := bef_up y h
  rw [bef_12] at h2
  have := (ml2_bnd y).2
  have h3 : bef y 0 = 0 := rfl
  omega
theorem infoI : (Try.prog.info? 3).map (fun i => (i.zero, i.size, i.bytes)) = some (some (.int .i64 0), 1, 8) := by kernel_rfl
set_option maxRecDepth 100000 in
theorem arr_to (W : World) (g k : Nat) (hk : k ≤ 12) : (Instr.sliceAt 117 (.pointer (some ⟨g, 0, none⟩)) none (some (.int .i64 k)) none).run Try.prog W = .ok (.slice (some ⟨g, 0, none⟩) k 12) W := by
  have hl : Try.prog.arrayLen 117 = 12 := by kernel_rfl
  have h := run_sliceAt_array_h (P := Try.prog) (w := W) (t := 117) (a := ⟨g, 0, none⟩) Try.underlying117 .i64 (k : Int) (by omega) (by rw [hl]; omega)
  obtain ⟨i0, hi, hz0, hz1, hz2⟩ := info_parts infoI
  have he : Try.prog.elem 117 = 3 := by kernel_rfl
  rw [h, hl, he]
  simp [sizeOf, typeInfo, hi, hz1, slicedAt, Addr.add]
/-- The fields that are read so far. -/
def lk (F : List Str) (k : Nat) : Array Value := ((List.range 6).map fun i => if i < k then Value.int .i64 (val (F.getD i []) : Int) else .int .i64 0).toArray
end Clock
end Go.Proofs.Ytjelndobekcbmaa
