/- Package clock: Read. Printed by gen_clocke.py. -/
import Derived.Test.YtllnaflknnkgiaaClockQ
import Derived.Deep.CutRange
namespace Go.Proofs.Ytllnaflknnkgiaa
open Go.RowKit
set_option linter.unusedVariables false
set_option linter.unusedSimpArgs false
namespace Clock
open Digit
theorem dig2 {p q : UInt8} (hp : isD p) (hq : isD q) : [p, q] = [dg (((val [p, q] : Nat) : Int) / 10), dg ((val [p, q] : Nat) : Int)] ∧ val [p, q] < 100 := by
  unfold isD at hp hq
  have hv : val [p, q] = 10 * (p.toNat - 48) + (q.toNat - 48) := by simp [val]
  refine ⟨?_, by omega⟩
  have e1 : dg (((val [p, q] : Nat) : Int) / 10) = p := by apply UInt8.toNat_inj.1; rw [dg_nat, hv]; omega
  have e2 : dg ((val [p, q] : Nat) : Int) = q := by apply UInt8.toNat_inj.1; rw [dg_nat, hv]; omega
  rw [e1, e2]
theorem dig4 {p q r t : UInt8} (hp : isD p) (hq : isD q) (hr : isD r) (ht : isD t) :
    [p, q, r, t] = [dg (((val [p, q, r, t] : Nat) : Int) / 1000), dg (((val [p, q, r, t] : Nat) : Int) / 100), dg (((val [p, q, r, t] : Nat) : Int) / 10), dg ((val [p, q, r, t] : Nat) : Int)] ∧ val [p, q, r, t] < 10000 := by
  unfold isD at hp hq hr ht
  have hv : val [p, q, r, t] = 10 * (10 * (10 * (p.toNat - 48) + (q.toNat - 48)) + (r.toNat - 48)) + (t.toNat - 48) := by simp [val]
  refine ⟨?_, by omega⟩
  have e1 : dg (((val [p, q, r, t] : Nat) : Int) / 1000) = p := by apply UInt8.toNat_inj.1; rw [dg_nat, hv]; omega
  have e2 : dg (((val [p, q, r, t] : Nat) : Int) / 100) = q := by apply UInt8.toNat_inj.1; rw [dg_nat, hv]; omega
  have e3 : dg (((val [p, q, r, t] : Nat) : Int) / 10) = r := by apply UInt8.toNat_inj.1; rw [dg_nat, hv]; omega
  have e4 : dg ((val [p, q, r, t] : Nat) : Int) = t := by apply UInt8.toNat_inj.1; rw [dg_nat, hv]; omega
  rw [e1, e2, e3, e4]
/-- What a stamp's signs are. -/
structure G19 (F : List Str) (n : Int) (y : Int) (k : Nat) (d a b c : Int) : Prop where
  hf : Fld n y k d a b c
  hy : y < 10000
  he : F = [[dg (y / 1000), dg (y / 100), dg (y / 10), dg y], [dg (((k : Int) + 1) / 10), dg ((k : Int) + 1)], [dg (d / 10), dg d], [dg (a / 10), dg a], [dg (b / 10), dg b], [dg (c / 10), dg c]]
theorem good19 {c0 c1 c2 c3 c4 c5 c6 c7 c8 c9 c10 c11 c12 c13 c14 c15 c16 c17 c18 : UInt8} {n : Int} (h : Good [c0, c1, c2, c3, c4, c5, c6, c7, c8, c9, c10, c11, c12, c13, c14, c15, c16, c17, c18] n) : (c4 = 45 ∧ c7 = 45 ∧ c10 = 32 ∧ c13 = 58 ∧ c16 = 58) ∧ ∃ y k d a b c, G19 ([[c0, c1, c2, c3], [c5, c6], [c8, c9], [c11, c12], [c14, c15], [c17, c18]] : List Str) n y k d a b c := by
  obtain ⟨y, k, d, a, b, c, hf, he, hy⟩ := h.fld
  simp only [fmt, List.cons.injEq, and_true] at he
  obtain ⟨rfl, rfl, rfl, rfl, rfl, rfl, rfl, rfl, rfl, rfl, rfl, rfl, rfl, rfl, rfl, rfl, rfl, rfl, rfl⟩ := he
  exact ⟨⟨rfl, rfl, rfl, rfl, rfl⟩, y, k, d, a, b, c, hf, hy, rfl⟩
theorem G19.digits {F : List Str} {n y d a b c : Int} {k : Nat} (h : G19 F n y k d a b c) : ∀ t ∈ F, ∀ x ∈ t, isD x := by
  rw [h.he]
  intro t ht x hx
  simp only [List.mem_cons, List.not_mem_nil, or_false] at ht
  rcases ht with rfl | rfl | rfl | rfl | rfl | rfl
  all_goals
    simp only [List.mem_cons, List.not_mem_nil, or_false] at hx
    first
    | (rcases hx with rfl | rfl | rfl | rfl <;> exact dg_isD _)
    | (rcases hx with rfl | rfl <;> exact dg_isD _)
theorem G19.vals {F : List Str} {n y d a b c : Int} {k : Nat} (h : G19 F n y k d a b c) : (val (F.getD 0 []) : Int) = y ∧ (val (F.getD 1 []) : Int) = (k : Int) + 1 ∧ (val (F.getD 2 []) : Int) = d ∧ (val (F.getD 3 []) : Int) = a ∧ (val (F.getD 4 []) : Int) = b ∧ (val (F.getD 5 []) : Int) = c := by
  obtain ⟨b1, b2, b3, b4, b5, b6⟩ := h.hf.bnd h.hy
  rw [h.he]
  exact ⟨val4 b1.1 b1.2, val2 b2.1 b2.2, val2 b3.1 b3.2, val2 b4.1 b4.2, val2 b5.1 b5.2, val2 b6.1 b6.2⟩
theorem Fld.rng {n y d a b c : Int} {k : Nat} (h : Fld n y k d a b c) : 2000 ≤ y ∧ k < 12 ∧ 1 ≤ d ∧ d ≤ ml y ((k : Int) + 1) ∧ a < 24 ∧ b < 60 ∧ c < 60 := by
  have h1 := h.i.y0
  have h2 := h.i.lt
  have h3 := h.i.d
  have h4 := h.i.k1
  have h5 := h.i.k2
  simp only [bef] at h5
  have := h.ha; have := h.hb; have := h.hc
  exact ⟨by omega, by omega, by omega, by omega, by omega, by omega, by omega⟩
theorem bef_bnd (y : Int) {j : Nat} (h : j ≤ 12) : 0 ≤ bef y j ∧ bef y j ≤ 366 := by
  have h1 := bef_up y (Nat.zero_le j)
  have h2 := bef_up y h
  rw [bef_12] at h2
  have := (ml2_bnd y).2
  have h3 : bef y 0 = 0 := rfl
  omega
theorem infoI : (Try.prog.info? 3).map (fun i => (i.zero, i.size, i.bytes)) = some (some (.int .i64 0), 1, 8) := by kernel_rfl
set_option maxRecDepth 100000 in
theorem arr_to (W : World) (g k : Nat) (hk : k ≤ 12) : (Instr.sliceAt 104 (.pointer (some ⟨g, 0, none⟩)) none (some (.int .i64 k)) none).run Try.prog W = .ok (.slice (some ⟨g, 0, none⟩) k 12) W := by
  have hl : Try.prog.arrayLen 104 = 12 := by kernel_rfl
  have h := run_sliceAt_array_h (P := Try.prog) (w := W) (t := 104) (a := ⟨g, 0, none⟩) Try.underlying104 .i64 (k : Int) (by omega) (by rw [hl]; omega)
  obtain ⟨i0, hi, hz0, hz1, hz2⟩ := info_parts infoI
  have he : Try.prog.elem 104 = 3 := by kernel_rfl
  rw [h, hl, he]
  simp [sizeOf, typeInfo, hi, hz1, slicedAt, Addr.add]
/-- The fields that are read so far. -/
def lk (F : List Str) (k : Nat) : Array Value := ((List.range 6).map fun i => if i < k then Value.int .i64 (val (F.getD i []) : Int) else .int .i64 0).toArray
set_option maxRecDepth 100000 in
set_option maxHeartbeats 8000000 in
theorem read_any (s : Str) (hl : s.length ≤ 1000) (w : World) : Calls Try.prog 45 #[.string ⟨s.toArray⟩] w fun e w' => e = .returned (.tuple #[.int .i64 (readS s).1, .int .i64 (readS s).2]) ∧ Fr No w w' := by
  by_cases h19 : s.length = 19
  · obtain ⟨c0, c1, c2, c3, c4, c5, c6, c7, c8, c9, c10, c11, c12, c13, c14, c15, c16, c17, c18, rfl⟩ := list19 h19
    clear h19 hl
    have HG := Lib.hid (fun n (h : Good [c0, c1, c2, c3, c4, c5, c6, c7, c8, c9, c10, c11, c12, c13, c14, c15, c16, c17, c18] n) => good19 h)
    have x4 : (⟨List.toArray [c0, c1, c2, c3, c4, c5, c6, c7, c8, c9, c10, c11, c12, c13, c14, c15, c16, c17, c18]⟩ : ByteArray)[4]'(by simp [ByteArray.size]) = c4 := rfl
    have x7 : (⟨List.toArray [c0, c1, c2, c3, c4, c5, c6, c7, c8, c9, c10, c11, c12, c13, c14, c15, c16, c17, c18]⟩ : ByteArray)[7]'(by simp [ByteArray.size]) = c7 := rfl
    have x10 : (⟨List.toArray [c0, c1, c2, c3, c4, c5, c6, c7, c8, c9, c10, c11, c12, c13, c14, c15, c16, c17, c18]⟩ : ByteArray)[10]'(by simp [ByteArray.size]) = c10 := rfl
    have x13 : (⟨List.toArray [c0, c1, c2, c3, c4, c5, c6, c7, c8, c9, c10, c11, c12, c13, c14, c15, c16, c17, c18]⟩ : ByteArray)[13]'(by simp [ByteArray.size]) = c13 := rfl
    have x16 : (⟨List.toArray [c0, c1, c2, c3, c4, c5, c6, c7, c8, c9, c10, c11, c12, c13, c14, c15, c16, c17, c18]⟩ : ByteArray)[16]'(by simp [ByteArray.size]) = c16 := rfl

    by_cases s4 : c4 = 45
    case neg =>
      have hr : readS [c0, c1, c2, c3, c4, c5, c6, c7, c8, c9, c10, c11, c12, c13, c14, c15, c16, c17, c18] = (0, 3) := readS_no (fun n h => s4 (HG.out n h).1.1)
      rw [hr]
      have g4 := (u8_f (d := 45) (n := 45) rfl s4).2
      clear s4 hr
      go_enter Try.func45, Try.ntmps45
      go_wp2
      go_ret2
      exact ⟨rfl, Fr.refl _ _⟩
    have g4 := (u8_t (d := 45) (n := 45) rfl s4).2
    have S4 := Lib.hid s4
    clear s4
    by_cases s7 : c7 = 45
    case neg =>
      have hr : readS [c0, c1, c2, c3, c4, c5, c6, c7, c8, c9, c10, c11, c12, c13, c14, c15, c16, c17, c18] = (0, 3) := readS_no (fun n h => s7 (HG.out n h).1.2.1)
      rw [hr]
      have g7 := (u8_f (d := 45) (n := 45) rfl s7).2
      clear s7 hr
      go_enter Try.func45, Try.ntmps45
      go_wp2
      go_ret2
      exact ⟨rfl, Fr.refl _ _⟩
    have g7 := (u8_t (d := 45) (n := 45) rfl s7).2
    have S7 := Lib.hid s7
    clear s7
    by_cases s10 : c10 = 32
    case neg =>
      have hr : readS [c0, c1, c2, c3, c4, c5, c6, c7, c8, c9, c10, c11, c12, c13, c14, c15, c16, c17, c18] = (0, 3) := readS_no (fun n h => s10 (HG.out n h).1.2.2.1)
      rw [hr]
      have g10 := (u8_f (d := 32) (n := 32) rfl s10).2
      clear s10 hr
      go_enter Try.func45, Try.ntmps45
      go_wp2
      go_ret2
      exact ⟨rfl, Fr.refl _ _⟩
    have g10 := (u8_t (d := 32) (n := 32) rfl s10).2
    have S10 := Lib.hid s10
    clear s10
    by_cases s13 : c13 = 58
    case neg =>
      have hr : readS [c0, c1, c2, c3, c4, c5, c6, c7, c8, c9, c10, c11, c12, c13, c14, c15, c16, c17, c18] = (0, 3) := readS_no (fun n h => s13 (HG.out n h).1.2.2.2.1)
      rw [hr]
      have g13 := (u8_f (d := 58) (n := 58) rfl s13).2
      clear s13 hr
      go_enter Try.func45, Try.ntmps45
      go_wp2
      go_ret2
      exact ⟨rfl, Fr.refl _ _⟩
    have g13 := (u8_t (d := 58) (n := 58) rfl s13).2
    have S13 := Lib.hid s13
    clear s13
    by_cases s16 : c16 = 58
    case neg =>
      have hr : readS [c0, c1, c2, c3, c4, c5, c6, c7, c8, c9, c10, c11, c12, c13, c14, c15, c16, c17, c18] = (0, 3) := readS_no (fun n h => s16 (HG.out n h).1.2.2.2.2)
      rw [hr]
      have g16 := (u8_f (d := 58) (n := 58) rfl s16).2
      clear s16 hr
      go_enter Try.func45, Try.ntmps45
      go_wp2
      go_ret2
      exact ⟨rfl, Fr.refl _ _⟩
    have g16 := (u8_t (d := 58) (n := 58) rfl s16).2
    have S16 := Lib.hid s16
    clear s16
    have hsl := fun (a b : Nat) (h : a ≤ b) (hb : b ≤ 19) (W : World) => slice_str (P := Try.prog) W 9 Try.underlying9 [c0, c1, c2, c3, c4, c5, c6, c7, c8, c9, c10, c11, c12, c13, c14, c15, c16, c17, c18] a b a b rfl rfl h hb
    have sl0 : ∀ W : World, (Instr.slice 9 (.string ⟨List.toArray [c0, c1, c2, c3, c4, c5, c6, c7, c8, c9, c10, c11, c12, c13, c14, c15, c16, c17, c18]⟩) (some (.int .i64 0)) (some (.int .i64 4)) none).run Try.prog W = .ok (.string ⟨List.toArray [c0, c1, c2, c3]⟩) W := fun W => hsl 0 4 (by omega) (by omega) W
    have sl1 : ∀ W : World, (Instr.slice 9 (.string ⟨List.toArray [c0, c1, c2, c3, c4, c5, c6, c7, c8, c9, c10, c11, c12, c13, c14, c15, c16, c17, c18]⟩) (some (.int .i64 5)) (some (.int .i64 7)) none).run Try.prog W = .ok (.string ⟨List.toArray [c5, c6]⟩) W := fun W => hsl 5 7 (by omega) (by omega) W
    have sl2 : ∀ W : World, (Instr.slice 9 (.string ⟨List.toArray [c0, c1, c2, c3, c4, c5, c6, c7, c8, c9, c10, c11, c12, c13, c14, c15, c16, c17, c18]⟩) (some (.int .i64 8)) (some (.int .i64 10)) none).run Try.prog W = .ok (.string ⟨List.toArray [c8, c9]⟩) W := fun W => hsl 8 10 (by omega) (by omega) W
    have sl3 : ∀ W : World, (Instr.slice 9 (.string ⟨List.toArray [c0, c1, c2, c3, c4, c5, c6, c7, c8, c9, c10, c11, c12, c13, c14, c15, c16, c17, c18]⟩) (some (.int .i64 11)) (some (.int .i64 13)) none).run Try.prog W = .ok (.string ⟨List.toArray [c11, c12]⟩) W := fun W => hsl 11 13 (by omega) (by omega) W
    have sl4 : ∀ W : World, (Instr.slice 9 (.string ⟨List.toArray [c0, c1, c2, c3, c4, c5, c6, c7, c8, c9, c10, c11, c12, c13, c14, c15, c16, c17, c18]⟩) (some (.int .i64 14)) (some (.int .i64 16)) none).run Try.prog W = .ok (.string ⟨List.toArray [c14, c15]⟩) W := fun W => hsl 14 16 (by omega) (by omega) W
    have sl5 : ∀ W : World, (Instr.slice 9 (.string ⟨List.toArray [c0, c1, c2, c3, c4, c5, c6, c7, c8, c9, c10, c11, c12, c13, c14, c15, c16, c17, c18]⟩) (some (.int .i64 17)) (some (.int .i64 19)) none).run Try.prog W = .ok (.string ⟨List.toArray [c17, c18]⟩) W := fun W => hsl 17 19 (by omega) (by omega) W
    clear hsl
    go_enter Try.func45, Try.ntmps45
    go_wp2
    have B0 := Lib.hid (Blk.new w 109 (lk ([[c0, c1, c2, c3], [c5, c6], [c8, c9], [c11, c12], [c14, c15], [c17, c18]] : List Str) 0))
    have F0 := Lib.hid ((Fr.refl No w).alloc (.cells (lk ([[c0, c1, c2, c3], [c5, c6], [c8, c9], [c11, c12], [c14, c15], [c17, c18]] : List Str) 0) 109))
    go_loopw [43] (fun iv wr => ∃ k : Nat, iv = .int .i64 k ∧ k ≤ 6 ∧ Hid (∀ i, i < k → ∀ x ∈ ([[c0, c1, c2, c3], [c5, c6], [c8, c9], [c11, c12], [c14, c15], [c17, c18]] : List Str).getD i [], isD x) ∧ Hid (Blk wr w.heap.size 109 (lk ([[c0, c1, c2, c3], [c5, c6], [c8, c9], [c11, c12], [c14, c15], [c17, c18]] : List Str) k)) ∧ Hid (Fr No w wr)) (fun i _ => 6 - (intOf i).toNat)
    case atStart => exact ⟨0, rfl, by omega, Lib.hid (fun i h => by omega), B0.out, F0.out⟩
    case round =>
      obtain ⟨k, rfl, hk, HD, HB, HF⟩ := hrel
      by_cases hlt : k < 6
      · have hsz := HB.out.lt
        obtain rfl | rfl | rfl | rfl | rfl | rfl : k = 0 ∨ k = 1 ∨ k = 2 ∨ k = 3 ∨ k = 4 ∨ k = 5 := by omega
        · by_cases hd : ∀ x ∈ [c0, c1, c2, c3], isD x
          · have hn := numR_yes hd
            have hnum := fun W => number_any [c0, c1, c2, c3] (by simp) W
            rw [hn] at hnum
            have HD2 := Lib.hid (show ∀ i, i < 1 → ∀ x ∈ ([[c0, c1, c2, c3], [c5, c6], [c8, c9], [c11, c12], [c14, c15], [c17, c18]] : List Str).getD i [], isD x from fun i hi => by
              by_cases e : i = 0
              · subst e; exact hd
              · exact HD.out i (by omega))
            obtain ⟨v, hv⟩ : ∃ v : Int, ((val [c0, c1, c2, c3] : Nat) : Int) = v := ⟨_, rfl⟩
            have HV := Lib.hid hv
            rw [hv] at hnum
            have z := HB.out.frozen 0
            have ix : ∀ W : World, (Instr.index 109 (.agg #[.int .i64 0, .int .i64 5, .int .i64 8, .int .i64 11, .int .i64 14, .int .i64 17]) (.int .i64 0)).run Try.prog W = .ok (.int .i64 0) W := fun W => by (show _ = _; kernel_rfl)
            have y := HB.out.cell 0
            clear hd hn hv
            go_wp2_with (go_at_call 73; refine (hnum _).mono ?_; rintro e w1 ⟨rfl, rfl⟩)
            go_roundw
            case rel => exact ⟨1, by go_num, by omega, HD2, (show Blk _ _ _ (lk ([[c0, c1, c2, c3], [c5, c6], [c8, c9], [c11, c12], [c14, c15], [c17, c18]] : List Str) 1) by have := HB.out.put 0 (.int .i64 v); rw [← HV.out] at this ⊢; exact this), HF.out.setCell (.inr (Nat.le_refl _)) _⟩
            case measure => simp [intOf]
          · have hr : readS [c0, c1, c2, c3, c4, c5, c6, c7, c8, c9, c10, c11, c12, c13, c14, c15, c16, c17, c18] = (0, 3) := readS_no (fun n h => hd (fun x hx => by
              obtain ⟨-, y, k, d, a, b, c, hg⟩ := HG.out n h
              exact hg.digits [c0, c1, c2, c3] (by simp) x hx))
            have HR := Lib.hid hr
            have hn := numR_no hd
            have hnum := fun W => number_any [c0, c1, c2, c3] (by simp) W
            rw [hn] at hnum
            clear hd hn hr
            have ix : ∀ W : World, (Instr.index 109 (.agg #[.int .i64 0, .int .i64 5, .int .i64 8, .int .i64 11, .int .i64 14, .int .i64 17]) (.int .i64 0)).run Try.prog W = .ok (.int .i64 0) W := fun W => by (show _ = _; kernel_rfl)
            go_wp2_with (go_at_call 73; refine (hnum _).mono ?_; rintro e w1 ⟨rfl, rfl⟩)
            go_ret2
            exact ⟨by rw [HR.out]; rfl, HF.out⟩
        · by_cases hd : ∀ x ∈ [c5, c6], isD x
          · have hn := numR_yes hd
            have hnum := fun W => number_any [c5, c6] (by simp) W
            rw [hn] at hnum
            have HD2 := Lib.hid (show ∀ i, i < 2 → ∀ x ∈ ([[c0, c1, c2, c3], [c5, c6], [c8, c9], [c11, c12], [c14, c15], [c17, c18]] : List Str).getD i [], isD x from fun i hi => by
              by_cases e : i = 1
              · subst e; exact hd
              · exact HD.out i (by omega))
            obtain ⟨v, hv⟩ : ∃ v : Int, ((val [c5, c6] : Nat) : Int) = v := ⟨_, rfl⟩
            have HV := Lib.hid hv
            rw [hv] at hnum
            have z := HB.out.frozen 1
            have ix : ∀ W : World, (Instr.index 109 (.agg #[.int .i64 0, .int .i64 5, .int .i64 8, .int .i64 11, .int .i64 14, .int .i64 17]) (.int .i64 1)).run Try.prog W = .ok (.int .i64 5) W := fun W => by (show _ = _; kernel_rfl)
            have y := HB.out.cell 1
            clear hd hn hv
            go_wp2_with (go_at_call 73; refine (hnum _).mono ?_; rintro e w1 ⟨rfl, rfl⟩)
            go_roundw
            case rel => exact ⟨2, by go_num, by omega, HD2, (show Blk _ _ _ (lk ([[c0, c1, c2, c3], [c5, c6], [c8, c9], [c11, c12], [c14, c15], [c17, c18]] : List Str) 2) by have := HB.out.put 1 (.int .i64 v); rw [← HV.out] at this ⊢; exact this), HF.out.setCell (.inr (Nat.le_refl _)) _⟩
            case measure => simp [intOf]
          · have hr : readS [c0, c1, c2, c3, c4, c5, c6, c7, c8, c9, c10, c11, c12, c13, c14, c15, c16, c17, c18] = (0, 3) := readS_no (fun n h => hd (fun x hx => by
              obtain ⟨-, y, k, d, a, b, c, hg⟩ := HG.out n h
              exact hg.digits [c5, c6] (by simp) x hx))
            have HR := Lib.hid hr
            have hn := numR_no hd
            have hnum := fun W => number_any [c5, c6] (by simp) W
            rw [hn] at hnum
            clear hd hn hr
            have ix : ∀ W : World, (Instr.index 109 (.agg #[.int .i64 0, .int .i64 5, .int .i64 8, .int .i64 11, .int .i64 14, .int .i64 17]) (.int .i64 1)).run Try.prog W = .ok (.int .i64 5) W := fun W => by (show _ = _; kernel_rfl)
            go_wp2_with (go_at_call 73; refine (hnum _).mono ?_; rintro e w1 ⟨rfl, rfl⟩)
            go_ret2
            exact ⟨by rw [HR.out]; rfl, HF.out⟩
        · by_cases hd : ∀ x ∈ [c8, c9], isD x
          · have hn := numR_yes hd
            have hnum := fun W => number_any [c8, c9] (by simp) W
            rw [hn] at hnum
            have HD2 := Lib.hid (show ∀ i, i < 3 → ∀ x ∈ ([[c0, c1, c2, c3], [c5, c6], [c8, c9], [c11, c12], [c14, c15], [c17, c18]] : List Str).getD i [], isD x from fun i hi => by
              by_cases e : i = 2
              · subst e; exact hd
              · exact HD.out i (by omega))
            obtain ⟨v, hv⟩ : ∃ v : Int, ((val [c8, c9] : Nat) : Int) = v := ⟨_, rfl⟩
            have HV := Lib.hid hv
            rw [hv] at hnum
            have z := HB.out.frozen 2
            have ix : ∀ W : World, (Instr.index 109 (.agg #[.int .i64 0, .int .i64 5, .int .i64 8, .int .i64 11, .int .i64 14, .int .i64 17]) (.int .i64 2)).run Try.prog W = .ok (.int .i64 8) W := fun W => by (show _ = _; kernel_rfl)
            have y := HB.out.cell 2
            clear hd hn hv
            go_wp2_with (go_at_call 73; refine (hnum _).mono ?_; rintro e w1 ⟨rfl, rfl⟩)
            go_roundw
            case rel => exact ⟨3, by go_num, by omega, HD2, (show Blk _ _ _ (lk ([[c0, c1, c2, c3], [c5, c6], [c8, c9], [c11, c12], [c14, c15], [c17, c18]] : List Str) 3) by have := HB.out.put 2 (.int .i64 v); rw [← HV.out] at this ⊢; exact this), HF.out.setCell (.inr (Nat.le_refl _)) _⟩
            case measure => simp [intOf]
          · have hr : readS [c0, c1, c2, c3, c4, c5, c6, c7, c8, c9, c10, c11, c12, c13, c14, c15, c16, c17, c18] = (0, 3) := readS_no (fun n h => hd (fun x hx => by
              obtain ⟨-, y, k, d, a, b, c, hg⟩ := HG.out n h
              exact hg.digits [c8, c9] (by simp) x hx))
            have HR := Lib.hid hr
            have hn := numR_no hd
            have hnum := fun W => number_any [c8, c9] (by simp) W
            rw [hn] at hnum
            clear hd hn hr
            have ix : ∀ W : World, (Instr.index 109 (.agg #[.int .i64 0, .int .i64 5, .int .i64 8, .int .i64 11, .int .i64 14, .int .i64 17]) (.int .i64 2)).run Try.prog W = .ok (.int .i64 8) W := fun W => by (show _ = _; kernel_rfl)
            go_wp2_with (go_at_call 73; refine (hnum _).mono ?_; rintro e w1 ⟨rfl, rfl⟩)
            go_ret2
            exact ⟨by rw [HR.out]; rfl, HF.out⟩
        · by_cases hd : ∀ x ∈ [c11, c12], isD x
          · have hn := numR_yes hd
            have hnum := fun W => number_any [c11, c12] (by simp) W
            rw [hn] at hnum
            have HD2 := Lib.hid (show ∀ i, i < 4 → ∀ x ∈ ([[c0, c1, c2, c3], [c5, c6], [c8, c9], [c11, c12], [c14, c15], [c17, c18]] : List Str).getD i [], isD x from fun i hi => by
              by_cases e : i = 3
              · subst e; exact hd
              · exact HD.out i (by omega))
            obtain ⟨v, hv⟩ : ∃ v : Int, ((val [c11, c12] : Nat) : Int) = v := ⟨_, rfl⟩
            have HV := Lib.hid hv
            rw [hv] at hnum
            have z := HB.out.frozen 3
            have ix : ∀ W : World, (Instr.index 109 (.agg #[.int .i64 0, .int .i64 5, .int .i64 8, .int .i64 11, .int .i64 14, .int .i64 17]) (.int .i64 3)).run Try.prog W = .ok (.int .i64 11) W := fun W => by (show _ = _; kernel_rfl)
            have y := HB.out.cell 3
            clear hd hn hv
            go_wp2_with (go_at_call 73; refine (hnum _).mono ?_; rintro e w1 ⟨rfl, rfl⟩)
            go_roundw
            case rel => exact ⟨4, by go_num, by omega, HD2, (show Blk _ _ _ (lk ([[c0, c1, c2, c3], [c5, c6], [c8, c9], [c11, c12], [c14, c15], [c17, c18]] : List Str) 4) by have := HB.out.put 3 (.int .i64 v); rw [← HV.out] at this ⊢; exact this), HF.out.setCell (.inr (Nat.le_refl _)) _⟩
            case measure => simp [intOf]
          · have hr : readS [c0, c1, c2, c3, c4, c5, c6, c7, c8, c9, c10, c11, c12, c13, c14, c15, c16, c17, c18] = (0, 3) := readS_no (fun n h => hd (fun x hx => by
              obtain ⟨-, y, k, d, a, b, c, hg⟩ := HG.out n h
              exact hg.digits [c11, c12] (by simp) x hx))
            have HR := Lib.hid hr
            have hn := numR_no hd
            have hnum := fun W => number_any [c11, c12] (by simp) W
            rw [hn] at hnum
            clear hd hn hr
            have ix : ∀ W : World, (Instr.index 109 (.agg #[.int .i64 0, .int .i64 5, .int .i64 8, .int .i64 11, .int .i64 14, .int .i64 17]) (.int .i64 3)).run Try.prog W = .ok (.int .i64 11) W := fun W => by (show _ = _; kernel_rfl)
            go_wp2_with (go_at_call 73; refine (hnum _).mono ?_; rintro e w1 ⟨rfl, rfl⟩)
            go_ret2
            exact ⟨by rw [HR.out]; rfl, HF.out⟩
        · by_cases hd : ∀ x ∈ [c14, c15], isD x
          · have hn := numR_yes hd
            have hnum := fun W => number_any [c14, c15] (by simp) W
            rw [hn] at hnum
            have HD2 := Lib.hid (show ∀ i, i < 5 → ∀ x ∈ ([[c0, c1, c2, c3], [c5, c6], [c8, c9], [c11, c12], [c14, c15], [c17, c18]] : List Str).getD i [], isD x from fun i hi => by
              by_cases e : i = 4
              · subst e; exact hd
              · exact HD.out i (by omega))
            obtain ⟨v, hv⟩ : ∃ v : Int, ((val [c14, c15] : Nat) : Int) = v := ⟨_, rfl⟩
            have HV := Lib.hid hv
            rw [hv] at hnum
            have z := HB.out.frozen 4
            have ix : ∀ W : World, (Instr.index 109 (.agg #[.int .i64 0, .int .i64 5, .int .i64 8, .int .i64 11, .int .i64 14, .int .i64 17]) (.int .i64 4)).run Try.prog W = .ok (.int .i64 14) W := fun W => by (show _ = _; kernel_rfl)
            have y := HB.out.cell 4
            clear hd hn hv
            go_wp2_with (go_at_call 73; refine (hnum _).mono ?_; rintro e w1 ⟨rfl, rfl⟩)
            go_roundw
            case rel => exact ⟨5, by go_num, by omega, HD2, (show Blk _ _ _ (lk ([[c0, c1, c2, c3], [c5, c6], [c8, c9], [c11, c12], [c14, c15], [c17, c18]] : List Str) 5) by have := HB.out.put 4 (.int .i64 v); rw [← HV.out] at this ⊢; exact this), HF.out.setCell (.inr (Nat.le_refl _)) _⟩
            case measure => simp [intOf]
          · have hr : readS [c0, c1, c2, c3, c4, c5, c6, c7, c8, c9, c10, c11, c12, c13, c14, c15, c16, c17, c18] = (0, 3) := readS_no (fun n h => hd (fun x hx => by
              obtain ⟨-, y, k, d, a, b, c, hg⟩ := HG.out n h
              exact hg.digits [c14, c15] (by simp) x hx))
            have HR := Lib.hid hr
            have hn := numR_no hd
            have hnum := fun W => number_any [c14, c15] (by simp) W
            rw [hn] at hnum
            clear hd hn hr
            have ix : ∀ W : World, (Instr.index 109 (.agg #[.int .i64 0, .int .i64 5, .int .i64 8, .int .i64 11, .int .i64 14, .int .i64 17]) (.int .i64 4)).run Try.prog W = .ok (.int .i64 14) W := fun W => by (show _ = _; kernel_rfl)
            go_wp2_with (go_at_call 73; refine (hnum _).mono ?_; rintro e w1 ⟨rfl, rfl⟩)
            go_ret2
            exact ⟨by rw [HR.out]; rfl, HF.out⟩
        · by_cases hd : ∀ x ∈ [c17, c18], isD x
          · have hn := numR_yes hd
            have hnum := fun W => number_any [c17, c18] (by simp) W
            rw [hn] at hnum
            have HD2 := Lib.hid (show ∀ i, i < 6 → ∀ x ∈ ([[c0, c1, c2, c3], [c5, c6], [c8, c9], [c11, c12], [c14, c15], [c17, c18]] : List Str).getD i [], isD x from fun i hi => by
              by_cases e : i = 5
              · subst e; exact hd
              · exact HD.out i (by omega))
            obtain ⟨v, hv⟩ : ∃ v : Int, ((val [c17, c18] : Nat) : Int) = v := ⟨_, rfl⟩
            have HV := Lib.hid hv
            rw [hv] at hnum
            have z := HB.out.frozen 5
            have ix : ∀ W : World, (Instr.index 109 (.agg #[.int .i64 0, .int .i64 5, .int .i64 8, .int .i64 11, .int .i64 14, .int .i64 17]) (.int .i64 5)).run Try.prog W = .ok (.int .i64 17) W := fun W => by (show _ = _; kernel_rfl)
            have y := HB.out.cell 5
            clear hd hn hv
            go_wp2_with (go_at_call 73; refine (hnum _).mono ?_; rintro e w1 ⟨rfl, rfl⟩)
            go_roundw
            case rel => exact ⟨6, by go_num, by omega, HD2, (show Blk _ _ _ (lk ([[c0, c1, c2, c3], [c5, c6], [c8, c9], [c11, c12], [c14, c15], [c17, c18]] : List Str) 6) by have := HB.out.put 5 (.int .i64 v); rw [← HV.out] at this ⊢; exact this), HF.out.setCell (.inr (Nat.le_refl _)) _⟩
            case measure => simp [intOf]
          · have hr : readS [c0, c1, c2, c3, c4, c5, c6, c7, c8, c9, c10, c11, c12, c13, c14, c15, c16, c17, c18] = (0, 3) := readS_no (fun n h => hd (fun x hx => by
              obtain ⟨-, y, k, d, a, b, c, hg⟩ := HG.out n h
              exact hg.digits [c17, c18] (by simp) x hx))
            have HR := Lib.hid hr
            have hn := numR_no hd
            have hnum := fun W => number_any [c17, c18] (by simp) W
            rw [hn] at hnum
            clear hd hn hr
            have ix : ∀ W : World, (Instr.index 109 (.agg #[.int .i64 0, .int .i64 5, .int .i64 8, .int .i64 11, .int .i64 14, .int .i64 17]) (.int .i64 5)).run Try.prog W = .ok (.int .i64 17) W := fun W => by (show _ = _; kernel_rfl)
            go_wp2_with (go_at_call 73; refine (hnum _).mono ?_; rintro e w1 ⟨rfl, rfl⟩)
            go_ret2
            exact ⟨by rw [HR.out]; rfl, HF.out⟩
      · obtain rfl : k = 6 := by omega
        have hD := fun t (ht : t ∈ ([[c0, c1, c2, c3], [c5, c6], [c8, c9], [c11, c12], [c14, c15], [c17, c18]] : List Str)) => (show ∀ x ∈ t, isD x from by
          simp only [List.mem_cons, List.not_mem_nil, or_false] at ht
          rcases ht with rfl | rfl | rfl | rfl | rfl | rfl
          · exact HD.out 0 (by omega)
          · exact HD.out 1 (by omega)
          · exact HD.out 2 (by omega)
          · exact HD.out 3 (by omega)
          · exact HD.out 4 (by omega)
          · exact HD.out 5 (by omega))
        have HDD := Lib.hid hD
        clear x4 x7 x10 x13 x16 hD HD sl0 sl1 sl2 sl3 sl4 sl5 g4 g7 g10 g13 g16
        have hgw := HB.out.lt
        have hq0 := dig4 (HDD.out [c0, c1, c2, c3] (by simp) c0 (by simp)) (HDD.out [c0, c1, c2, c3] (by simp) c1 (by simp)) (HDD.out [c0, c1, c2, c3] (by simp) c2 (by simp)) (HDD.out [c0, c1, c2, c3] (by simp) c3 (by simp))
        have hq1 := dig2 (HDD.out [c5, c6] (by simp) c5 (by simp)) (HDD.out [c5, c6] (by simp) c6 (by simp))
        have hq2 := dig2 (HDD.out [c8, c9] (by simp) c8 (by simp)) (HDD.out [c8, c9] (by simp) c9 (by simp))
        have hq3 := dig2 (HDD.out [c11, c12] (by simp) c11 (by simp)) (HDD.out [c11, c12] (by simp) c12 (by simp))
        have hq4 := dig2 (HDD.out [c14, c15] (by simp) c14 (by simp)) (HDD.out [c14, c15] (by simp) c15 (by simp))
        have hq5 := dig2 (HDD.out [c17, c18] (by simp) c17 (by simp)) (HDD.out [c17, c18] (by simp) c18 (by simp))
        have hvals := fun n (h : Good [c0, c1, c2, c3, c4, c5, c6, c7, c8, c9, c10, c11, c12, c13, c14, c15, c16, c17, c18] n) => (show ∃ y k d a b c, Fld n y k d a b c ∧ ((val [c0, c1, c2, c3] : Nat) : Int) = y ∧ ((val [c5, c6] : Nat) : Int) = (k : Int) + 1 ∧ ((val [c8, c9] : Nat) : Int) = d ∧ ((val [c11, c12] : Nat) : Int) = a ∧ ((val [c14, c15] : Nat) : Int) = b ∧ ((val [c17, c18] : Nat) : Int) = c from by
          obtain ⟨-, y, k, d, a, b, c, hg⟩ := HG.out n h
          exact ⟨y, k, d, a, b, c, hg.hf, hg.vals⟩)
        have y0 : wr.cell? ⟨w.heap.size, 0, none⟩ = some (.int .i64 ((val [c0, c1, c2, c3] : Nat) : Int)) := HB.out.cell 0
        have y1 : wr.cell? ⟨w.heap.size, 1, none⟩ = some (.int .i64 ((val [c5, c6] : Nat) : Int)) := HB.out.cell 1
        have y2 : wr.cell? ⟨w.heap.size, 2, none⟩ = some (.int .i64 ((val [c8, c9] : Nat) : Int)) := HB.out.cell 2
        have y3 : wr.cell? ⟨w.heap.size, 3, none⟩ = some (.int .i64 ((val [c11, c12] : Nat) : Int)) := HB.out.cell 3
        have y4 : wr.cell? ⟨w.heap.size, 4, none⟩ = some (.int .i64 ((val [c14, c15] : Nat) : Int)) := HB.out.cell 4
        have y5 : wr.cell? ⟨w.heap.size, 5, none⟩ = some (.int .i64 ((val [c17, c18] : Nat) : Int)) := HB.out.cell 5
        obtain ⟨v0, hv0⟩ : ∃ v : Int, ((val [c0, c1, c2, c3] : Nat) : Int) = v := ⟨_, rfl⟩
        obtain ⟨v1, hv1⟩ : ∃ v : Int, ((val [c5, c6] : Nat) : Int) = v := ⟨_, rfl⟩
        obtain ⟨v2, hv2⟩ : ∃ v : Int, ((val [c8, c9] : Nat) : Int) = v := ⟨_, rfl⟩
        obtain ⟨v3, hv3⟩ : ∃ v : Int, ((val [c11, c12] : Nat) : Int) = v := ⟨_, rfl⟩
        obtain ⟨v4, hv4⟩ : ∃ v : Int, ((val [c14, c15] : Nat) : Int) = v := ⟨_, rfl⟩
        obtain ⟨v5, hv5⟩ : ∃ v : Int, ((val [c17, c18] : Nat) : Int) = v := ⟨_, rfl⟩
        have hb0 : 0 ≤ v0 ∧ v0 < 10000 := by rw [← hv0]; have := hq0.2; omega
        have hb1 : 0 ≤ v1 ∧ v1 < 100 := by rw [← hv1]; have := hq1.2; omega
        have hb2 : 0 ≤ v2 ∧ v2 < 100 := by rw [← hv2]; have := hq2.2; omega
        have hb3 : 0 ≤ v3 ∧ v3 < 100 := by rw [← hv3]; have := hq3.2; omega
        have hb4 : 0 ≤ v4 ∧ v4 < 100 := by rw [← hv4]; have := hq4.2; omega
        have hb5 : 0 ≤ v5 ∧ v5 < 100 := by rw [← hv5]; have := hq5.2; omega
        simp only [hv0, hv1, hv2, hv3, hv4, hv5] at hvals
        rw [hv0] at hq0 y0
        rw [hv1] at hq1 y1
        rw [hv2] at hq2 y2
        rw [hv3] at hq3 y3
        rw [hv4] at hq4 y4
        rw [hv5] at hq5 y5
        have HV := Lib.hid hvals
        have HQ := Lib.hid (show [c0, c1, c2, c3, c4, c5, c6, c7, c8, c9, c10, c11, c12, c13, c14, c15, c16, c17, c18] = fmt v0 v1 v2 v3 v4 v5 from by
          have a0 := hq0.1
          have a1 := hq1.1
          have a2 := hq2.1
          have a3 := hq3.1
          have a4 := hq4.1
          have a5 := hq5.1
          simp only [List.cons.injEq, and_true] at a0 a1 a2 a3 a4 a5
          obtain ⟨a00, a01, a02, a03⟩ := a0
          obtain ⟨a10, a11⟩ := a1
          obtain ⟨a20, a21⟩ := a2
          obtain ⟨a30, a31⟩ := a3
          obtain ⟨a40, a41⟩ := a4
          obtain ⟨a50, a51⟩ := a5
          rw [S4.out, S7.out, S10.out, S13.out, S16.out]
          unfold fmt
          rw [← a00, ← a01, ← a02, ← a03, ← a10, ← a11, ← a20, ← a21, ← a30, ← a31, ← a40, ← a41, ← a50, ← a51])
        clear hq0 hq1 hq2 hq3 hq4 hq5 hvals hv0 hv1 hv2 hv3 hv4 hv5 HDD HG HB B0 F0
        by_cases r0 : v0 < 2000
        case pos =>
          have HR := Lib.hid (show readS [c0, c1, c2, c3, c4, c5, c6, c7, c8, c9, c10, c11, c12, c13, c14, c15, c16, c17, c18] = (0, 3) from readS_no (fun n h => by
            obtain ⟨y, k, d, a, b, c, hf, e0, e1, e2, e3, e4, e5⟩ := HV.out n h
            have := hf.rng
            omega))
          go_wp2
          go_ret2
          exact ⟨by rw [HR.out]; rfl, HF.out⟩
        by_cases r1 : v1 < 1
        case pos =>
          have HR := Lib.hid (show readS [c0, c1, c2, c3, c4, c5, c6, c7, c8, c9, c10, c11, c12, c13, c14, c15, c16, c17, c18] = (0, 3) from readS_no (fun n h => by
            obtain ⟨y, k, d, a, b, c, hf, e0, e1, e2, e3, e4, e5⟩ := HV.out n h
            have := hf.rng
            omega))
          go_wp2
          go_ret2
          exact ⟨by rw [HR.out]; rfl, HF.out⟩
        by_cases r2 : 12 < v1
        case pos =>
          have HR := Lib.hid (show readS [c0, c1, c2, c3, c4, c5, c6, c7, c8, c9, c10, c11, c12, c13, c14, c15, c16, c17, c18] = (0, 3) from readS_no (fun n h => by
            obtain ⟨y, k, d, a, b, c, hf, e0, e1, e2, e3, e4, e5⟩ := HV.out n h
            have := hf.rng
            omega))
          go_wp2
          go_ret2
          exact ⟨by rw [HR.out]; rfl, HF.out⟩
        by_cases r3 : 23 < v3
        case pos =>
          have HR := Lib.hid (show readS [c0, c1, c2, c3, c4, c5, c6, c7, c8, c9, c10, c11, c12, c13, c14, c15, c16, c17, c18] = (0, 3) from readS_no (fun n h => by
            obtain ⟨y, k, d, a, b, c, hf, e0, e1, e2, e3, e4, e5⟩ := HV.out n h
            have := hf.rng
            omega))
          go_wp2
          go_ret2
          exact ⟨by rw [HR.out]; rfl, HF.out⟩
        by_cases r4 : 59 < v4
        case pos =>
          have HR := Lib.hid (show readS [c0, c1, c2, c3, c4, c5, c6, c7, c8, c9, c10, c11, c12, c13, c14, c15, c16, c17, c18] = (0, 3) from readS_no (fun n h => by
            obtain ⟨y, k, d, a, b, c, hf, e0, e1, e2, e3, e4, e5⟩ := HV.out n h
            have := hf.rng
            omega))
          go_wp2
          go_ret2
          exact ⟨by rw [HR.out]; rfl, HF.out⟩
        by_cases r5 : 59 < v5
        case pos =>
          have HR := Lib.hid (show readS [c0, c1, c2, c3, c4, c5, c6, c7, c8, c9, c10, c11, c12, c13, c14, c15, c16, c17, c18] = (0, 3) from readS_no (fun n h => by
            obtain ⟨y, k, d, a, b, c, hf, e0, e1, e2, e3, e4, e5⟩ := HV.out n h
            have := hf.rng
            omega))
          go_wp2
          go_ret2
          exact ⟨by rw [HR.out]; rfl, HF.out⟩
        obtain ⟨k, rfl⟩ : ∃ k : Nat, v1 = (k : Int) + 1 := ⟨(v1 - 1).toNat, by omega⟩
        have hk12 : k < 12 := by omega
        have hmon := fun w => months_any (y := v0) (by omega) (by omega) w
        have hmat := monthsV_at v0 hk12
        have hmat2 := fun j (hj : j < 12) => monthsV_at v0 hj
        unfold monthsV at hmon hmat hmat2
        have hmb := ml_bnd v0 ((k : Int) + 1)
        have HM := Lib.hid (show ∀ n, Good [c0, c1, c2, c3, c4, c5, c6, c7, c8, c9, c10, c11, c12, c13, c14, c15, c16, c17, c18] n → v2 ≤ ml v0 ((k : Int) + 1) from fun n h => by
          obtain ⟨y, k', d, a, b, c, hf, e0, e1, e2, e3, e4, e5⟩ := HV.out n h
          have hr := hf.rng
          obtain rfl : k = k' := by omega
          subst e0 e2
          exact hr.2.2.2.1)
        have HGD := Lib.hid (fun (h1 : 1 ≤ v2) (h2 : v2 ≤ ml v0 ((k : Int) + 1)) => (show Good [c0, c1, c2, c3, c4, c5, c6, c7, c8, c9, c10, c11, c12, c13, c14, c15, c16, c17, c18] (nOf v0 k v2 v3 v4 v5) from by
          rw [HQ.out]
          exact good_of (by omega) (by omega) hk12 ⟨h1, h2⟩ (by omega) (by omega) (by omega)))
        have Hmat2 := Lib.hid hmat2
        obtain ⟨m2, hm2⟩ : ∃ m2, ml v0 2 = m2 := ⟨_, rfl⟩
        rw [hm2] at hmon hmat Hmat2
        obtain ⟨mk, hmk⟩ : ∃ mk, ml v0 ((k : Int) + 1) = mk := ⟨_, rfl⟩
        rw [hmk] at hmat hmb HM HGD
        have hgl := HF.out.size
        clear hmat2 hm2 hmk HQ
        go_upto_region 18 with (go_at_call 68; refine (hmon _).mono ?_; rintro e w2 ⟨rfl, hf2⟩; have HF2 := Lib.hid hf2; clear hf2)
        have bm := Blk.new w2 104 #[.int .i64 31, .int .i64 m2, .int .i64 31, .int .i64 30, .int .i64 31, .int .i64 30, .int .i64 31, .int .i64 31, .int .i64 30, .int .i64 31, .int .i64 30, .int .i64 31]
        have hlm := bm.lt
        have qk := (bm.cell k).trans hmat
        have f3 : Fr No wr (w2.alloc (.cells #[.int .i64 31, .int .i64 m2, .int .i64 31, .int .i64 30, .int .i64 31, .int .i64 30, .int .i64 31, .int .i64 31, .int .i64 30, .int .i64 31, .int .i64 30, .int .i64 31] 104)) := HF2.out.alloc _
        have y0 := (f3.cell (p := ⟨w.heap.size, 0, none⟩) hgw (fun h => h)).trans y0
        have y1 := (f3.cell (p := ⟨w.heap.size, 1, none⟩) hgw (fun h => h)).trans y1
        have y2 := (f3.cell (p := ⟨w.heap.size, 2, none⟩) hgw (fun h => h)).trans y2
        have y3 := (f3.cell (p := ⟨w.heap.size, 3, none⟩) hgw (fun h => h)).trans y3
        have y4 := (f3.cell (p := ⟨w.heap.size, 4, none⟩) hgw (fun h => h)).trans y4
        have y5 := (f3.cell (p := ⟨w.heap.size, 5, none⟩) hgw (fun h => h)).trans y5
        have HF3 := Lib.hid (HF.out.then_no f3)
        obtain ⟨W3, hW3⟩ : ∃ W3, w2.alloc (.cells #[.int .i64 31, .int .i64 m2, .int .i64 31, .int .i64 30, .int .i64 31, .int .i64 30, .int .i64 31, .int .i64 31, .int .i64 30, .int .i64 31, .int .i64 30, .int .i64 31] 104) = W3 := ⟨_, rfl⟩
        rw [hW3] at bm hlm qk y0 y1 y2 y3 y4 y5 HF3 ⊢
        obtain ⟨g2, hg2⟩ : ∃ g2, w2.heap.size = g2 := ⟨_, rfl⟩
        rw [hg2] at bm hlm qk ⊢
        have BM := Lib.hid bm
        clear f3 hW3 hg2 bm hmat hmon HF HF2 hgl
        by_cases d1 : v2 < 1
        · have HR := Lib.hid (show readS [c0, c1, c2, c3, c4, c5, c6, c7, c8, c9, c10, c11, c12, c13, c14, c15, c16, c17, c18] = (0, 3) from readS_no (fun n h => by
            obtain ⟨y, k, d, a, b, c, hf, e0, e1, e2, e3, e4, e5⟩ := HV.out n h
            have := hf.rng
            omega))
          have hd1 : decide (v2 < 1) = true := decide_eq_true d1
          go_quiet (fail)
          go_wp2
          go_ret2
          exact ⟨by rw [HR.out]; rfl, HF3.out.drewN _⟩
        have hd1 : decide (v2 < 1) = false := decide_eq_false d1
        by_cases d2 : mk < v2
        · have HR := Lib.hid (show readS [c0, c1, c2, c3, c4, c5, c6, c7, c8, c9, c10, c11, c12, c13, c14, c15, c16, c17, c18] = (0, 3) from readS_no (fun n h => by
            have := HM.out n h
            omega))
          go_quiet (fail)
          go_wp2
          go_ret2
          exact ⟨by rw [HR.out]; rfl, HF3.out.drewN _⟩
        have HR := Lib.hid (readS_yes (HGD.out (by omega) (by omega)))
        have hah := fun W => ahead_any (y := v0) (by omega) (by omega) W
        have hA := ahd_lt (y := 2000) (z := v0) (by omega) (by omega)
        have hA2 := ahd_lt (y := v0) (z := 10000) (by omega) (by omega)
        rw [ahd_2000] at hA
        rw [ahd_10000] at hA2
        obtain ⟨A, hAA⟩ : ∃ A, ahd v0 = A := ⟨_, rfl⟩
        have HA := Lib.hid hAA
        rw [hAA] at hah hA hA2
        have hA3 : 0 ≤ A ∧ A ≤ 2921940 := by omega
        clear hAA hA hA2 HM HGD HV
        go_quiet (fail)
        have hsl := fun W => arr_to W g2 k (by omega)
        go_upto_region 20 with (fail)
        obtain ⟨W4, hW4⟩ : ∃ W4, W3.drewN nq = W4 := ⟨_, rfl⟩
        have y0 : (W3.drewN nq).cell? ⟨w.heap.size, 0, none⟩ = _ := y0
        have y1 : (W3.drewN nq).cell? ⟨w.heap.size, 1, none⟩ = _ := y1
        have y2 : (W3.drewN nq).cell? ⟨w.heap.size, 2, none⟩ = _ := y2
        have y3 : (W3.drewN nq).cell? ⟨w.heap.size, 3, none⟩ = _ := y3
        have y4 : (W3.drewN nq).cell? ⟨w.heap.size, 4, none⟩ = _ := y4
        have y5 : (W3.drewN nq).cell? ⟨w.heap.size, 5, none⟩ = _ := y5
        have HF4 := Lib.hid (HF3.out.drewN nq)
        have HM4 := Lib.hid (fun j (hj : j < 12) => (show (W3.drewN nq).cell? ⟨g2, j, none⟩ = _ from (BM.out.cell j).trans (Hmat2.out j hj)))
        rw [hW4] at y0 y1 y2 y3 y4 y5 HF4 HM4 ⊢
        clear hW4 qk
        go_quiet ((go_at_call 67; exact quiet_left (hah _)))
        go_wp2
        obtain ⟨W5, hW5⟩ : ∃ W5, W4.drewN nq = W5 := ⟨_, rfl⟩
        have y3 : (W4.drewN nq).cell? ⟨w.heap.size, 3, none⟩ = _ := y3
        have y4 : (W4.drewN nq).cell? ⟨w.heap.size, 4, none⟩ = _ := y4
        have y5 : (W4.drewN nq).cell? ⟨w.heap.size, 5, none⟩ = _ := y5
        have HF5 := Lib.hid (HF4.out.drewN nq)
        have HM5 := Lib.hid (fun j (hj : j < 12) => (show (W4.drewN nq).cell? ⟨g2, j, none⟩ = _ from HM4.out j hj))
        rw [hW5] at y3 y4 y5 HF5 HM5 ⊢
        clear hW5 hsl hah HM4 HF4 HF3 Hmat2 BM y0 y1 y2
        go_loop [11, 121] (fun a b => ∃ j : Nat, a = .int .i64 (A + v2 - 1 + bef v0 j) ∧ b = .int .i64 j ∧ j ≤ k) (fun _ b => 12 - (intOf b).toNat)
        case atStart => exact ⟨0, by simp [bef], rfl, by omega⟩
        case round =>
          obtain ⟨j, rfl, rfl, hj⟩ := hrel
          have hbb := bef_bnd v0 (j := j) (by omega)
          by_cases hjk : j < k
          · have hqj := HM5.out j (by omega)
            have hbs := Lib.hid (show bef v0 (j + 1) = bef v0 j + ml v0 ((j : Int) + 1) from rfl)
            have hmj := ml_bnd v0 ((j : Int) + 1)
            obtain ⟨b, hb⟩ : ∃ b, bef v0 j = b := ⟨_, rfl⟩
            obtain ⟨m, hm⟩ : ∃ m, ml v0 ((j : Int) + 1) = m := ⟨_, rfl⟩
            rw [hb] at hbb hbs ⊢
            rw [hm] at hmj hqj hbs
            clear hb hm
            go_wp2
            go_round
            case rel => exact ⟨j + 1, by rw [hbs.out]; go_num, by go_num, by omega⟩
            case measure => simp [intOf]; omega
          · obtain rfl : j = k := by omega
            have HE := Lib.hid (show nOf v0 j v2 v3 v4 v5 = (A + v2 - 1 + bef v0 j) * 86400 + v3 * 3600 + v4 * 60 + v5 from by unfold nOf; rw [HA.out]; omega)
            obtain ⟨b, hb⟩ : ∃ b, bef v0 j = b := ⟨_, rfl⟩
            rw [hb] at hbb HE ⊢
            clear hb
            go_wp2
            go_ret2
            exact ⟨by rw [HR.out, HE.out]; rfl, HF5.out⟩
  · have hr : readS s = (0, 3) := readS_no (fun n h => h19 h.len)
    rw [hr]
    have hn : ((s.length : Int) != 19) = true := by simp; omega
    clear hr h19
    go_enter Try.func45, Try.ntmps45
    go_wp2
    go_ret2
    exact ⟨rfl, Fr.refl _ _⟩
end Clock
end Go.Proofs.Ytllnaflknnkgiaa
