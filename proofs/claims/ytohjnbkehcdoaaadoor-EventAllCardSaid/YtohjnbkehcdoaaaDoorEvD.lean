/- Package event: the reference's Check. Printed by gen_evd.py. -/
import Derived.Test.YtohjnbkehcdoaaaDoorEvC
namespace Go.Proofs.YtohjnbkehcdoaaaDoor
open Go.RowKit
set_option linter.unusedVariables false
set_option linter.unusedSimpArgs false
namespace Ev
open Digit Sls
theorem row_has : ∀ r ∈ rowsP, ∃ k : Nat, ∃ h : k < 11, r.k = k ∧ (fsP[k]'h).contains 119 = r.w ∧ (fsP[k]'h).contains 121 = r.y ∧ (fsP[k]'h).contains 110 = r.n ∧ (fsP[k]'h).contains 115 = r.s := by
  intro r hr
  simp only [rowsP, List.mem_cons, List.not_mem_nil, or_false] at hr
  rcases hr with rfl | rfl | rfl | rfl | rfl | rfl | rfl | rfl | rfl | rfl
  · exact ⟨1, by decide, rfl, rfl, rfl, rfl, rfl⟩
  · exact ⟨2, by decide, rfl, rfl, rfl, rfl, rfl⟩
  · exact ⟨3, by decide, rfl, rfl, rfl, rfl, rfl⟩
  · exact ⟨4, by decide, rfl, rfl, rfl, rfl, rfl⟩
  · exact ⟨5, by decide, rfl, rfl, rfl, rfl, rfl⟩
  · exact ⟨6, by decide, rfl, rfl, rfl, rfl, rfl⟩
  · exact ⟨7, by decide, rfl, rfl, rfl, rfl, rfl⟩
  · exact ⟨8, by decide, rfl, rfl, rfl, rfl, rfl⟩
  · exact ⟨9, by decide, rfl, rfl, rfl, rfl, rfl⟩
  · exact ⟨10, by decide, rfl, rfl, rfl, rfl, rfl⟩
/-- has, at a kind that there is. -/
theorem has_row {k : Int} {r : R} (h : byK k = some r) : ∀ w : World,
    (Calls Tryd.prog 24 #[.int .i64 k, .string ⟨#[119]⟩] w fun e w' => e = .returned (.bool r.w) ∧ Fr No w w') ∧
    (Calls Tryd.prog 24 #[.int .i64 k, .string ⟨#[121]⟩] w fun e w' => e = .returned (.bool r.y) ∧ Fr No w w') ∧
    (Calls Tryd.prog 24 #[.int .i64 k, .string ⟨#[110]⟩] w fun e w' => e = .returned (.bool r.n) ∧ Fr No w w') ∧
    (Calls Tryd.prog 24 #[.int .i64 k, .string ⟨#[115]⟩] w fun e w' => e = .returned (.bool r.s) ∧ Fr No w w') := by
  intro w
  obtain ⟨hm, hk⟩ := byK_mem h
  obtain ⟨n, hn, e1, e2, e3, e4, e5⟩ := row_has r hm
  rw [← hk, e1]
  exact ⟨by rw [← e2]; exact has_any n hn 119 w, by rw [← e3]; exact has_any n hn 121 w, by rw [← e4]; exact has_any n hn 110 w, by rw [← e5]; exact has_any n hn 115 w⟩
theorem byK_in {k : Int} : (∃ r, byK k = some r) ↔ 1 ≤ k ∧ k ≤ 10 := by
  constructor
  · rintro ⟨r, h⟩
    obtain ⟨hm, rfl⟩ := byK_mem h
    obtain ⟨n, hn, e1, -⟩ := row_has r hm
    have : ∀ r ∈ rowsP, 1 ≤ r.k ∧ r.k ≤ 10 := by decide
    exact this r hm
  · intro h
    have : k = 1 ∨ k = 2 ∨ k = 3 ∨ k = 4 ∨ k = 5 ∨ k = 6 ∨ k = 7 ∨ k = 8 ∨ k = 9 ∨ k = 10 := by omega
    rcases this with rfl | rfl | rfl | rfl | rfl | rfl | rfl | rfl | rfl | rfl <;> exact ⟨_, rfl⟩
set_option maxRecDepth 100000 in
set_option maxHeartbeats 8000000 in
theorem rcheck_any (e : E) (w : World) : Calls Tryd.prog 17 #[.agg (cE e)] w fun x w' => x = .returned (.int .i64 (checkE e)) ∧ Fr No w w' := by
  obtain ⟨ek, ew, en, eo, es⟩ := e
  unfold cE
  simp only
  have X1 := Blk.new w 23 #[.int .i64 ek, .int .i64 ew, .int .i64 en, .bool eo, .string ⟨es.toArray⟩]
  have FA := Lib.hid ((Fr.refl No w).alloc (.cells #[.int .i64 ek, .int .i64 ew, .int .i64 en, .bool eo, .string ⟨es.toArray⟩] 23))
  obtain ⟨b1, hb1⟩ : ∃ b, w.heap.size = b := ⟨_, rfl⟩
  rw [hb1] at X1
  have hlt : b1 < (w.alloc (.cells #[.int .i64 ek, .int .i64 ew, .int .i64 en, .bool eo, .string ⟨es.toArray⟩] 23)).heap.size := X1.lt
  go_enter Tryd.func17, Tryd.ntmps17
  go_upto_region 1 with (fail)
  try rw [hb1]
  clear hb1
  generalize w.alloc (.cells #[.int .i64 ek, .int .i64 ew, .int .i64 en, .bool eo, .string ⟨es.toArray⟩] 23) = wa at X1 FA hlt ⊢
  have XX := Lib.hid (fun W (hW : Fr No wa W) => X1.fr hW (fun h => h))
  have y0 := X1.cell 0
  have y1 := X1.cell 1
  have y2 := X1.cell 2
  have y3 := X1.cell 3
  have y4 := X1.cell 4
  simp only [List.getElem?_toArray, List.getElem?_cons_zero, List.getElem?_cons_succ] at y0 y1 y2 y3 y4
  clear X1 hlt
  cases hr : byK ek with
  | none =>
    have HE := Lib.hid (check_none (e := ⟨ek, ew, en, eo, es⟩) hr)
    have hno : ek < 1 ∨ (1 ≤ ek ∧ 10 < ek) := by
      have h9 : ¬ (1 ≤ ek ∧ ek ≤ 10) := fun h => by obtain ⟨r, h⟩ := byK_in.2 h; rw [hr] at h; cases h
      omega
    clear hr
    rcases hno with hno | hno
    all_goals
      go_wp2_with fail
      all_goals try (exfalso; omega)
      go_ret
      rw [HE.out]
      exact ⟨rfl, FA.out⟩
  | some r =>
    have HR := Lib.hid hr
    obtain ⟨k1, k2⟩ := byK_in.1 ⟨r, hr⟩
    have g1 : decide (ek < 1) = false := decide_eq_false (by omega)
    have g2 : decide (10 < ek) = false := decide_eq_false (by omega)
    have g3 : decide (ek > 10) = false := decide_eq_false (by omega)
    have HH := Lib.hid (has_row hr)
    have HI := Lib.hid rin_any
    clear hr
    obtain ⟨xk, xt, x2, x3, x4, x5⟩ := r
    simp only at HH
    cases h1 : inR ew with
    | false =>
      have HE := Lib.hid (check_range (e := ⟨ek, ew, en, eo, es⟩) HR.out (.inl h1))
      go_wp2_with (go_at_call 40; refine (HI.out ew _).mono ?_; rw [h1]; rintro e w2 ⟨rfl, hw⟩; subst hw)
      all_goals try (exfalso; omega)
      go_ret
      rw [HE.out]
      exact ⟨rfl, FA.out⟩
    | true =>
      cases h2 : inR en with
      | false =>
        have HE := Lib.hid (check_range (e := ⟨ek, ew, en, eo, es⟩) HR.out (.inr h2))
        go_wp2_with (first | (go_at_call 40; with_reducible refine (HI.out ew _).mono ?_; rw [h1]; rintro e w2 ⟨rfl, hw⟩; subst hw) | (go_at_call 40; with_reducible refine (HI.out en _).mono ?_; rw [h2]; rintro e w2 ⟨rfl, hw⟩; subst hw))
        all_goals try (exfalso; omega)
        go_ret
        rw [HE.out]
        exact ⟨rfl, FA.out⟩
      | true =>
        have HE := Lib.hid (check_form (e := ⟨ek, ew, en, eo, es⟩) HR.out h1 h2)
        go_upto_region 5 with (first | (go_at_call 40; with_reducible refine (HI.out ew _).mono ?_; rw [h1]; rintro e w2 ⟨rfl, hw⟩; subst hw) | (go_at_call 40; with_reducible refine (HI.out en _).mono ?_; rw [h2]; rintro e w2 ⟨rfl, hw⟩; subst hw))
        have HF0 : Fr No wa wa := Fr.refl No wa
        cases hw : (ew != 0) <;> cases hn : (en != 0) <;> cases eo <;> cases hs : (es != [])
        all_goals
          go_wp2_with (first
            | (go_at_call 24; with_reducible refine (HH.out _).1.mono ?_; rintro e w2 ⟨rfl, hf⟩; have F2 : Fr No wa w2 := (show Fr No wa _ from (by with_reducible assumption)).then_no hf; have Z2 := XX.out w2 F2; have z0 := Z2.cell 0; have z1 := Z2.cell 1; have z2 := Z2.cell 2; have z3 := Z2.cell 3; have z4 := Z2.cell 4; simp only [List.getElem?_toArray, List.getElem?_cons_zero, List.getElem?_cons_succ] at z0 z1 z2 z3 z4; clear Z2 hf)
            | (go_at_call 24; with_reducible refine (HH.out _).2.1.mono ?_; rintro e w2 ⟨rfl, hf⟩; have F2 : Fr No wa w2 := (show Fr No wa _ from (by with_reducible assumption)).then_no hf; have Z2 := XX.out w2 F2; have z0 := Z2.cell 0; have z1 := Z2.cell 1; have z2 := Z2.cell 2; have z3 := Z2.cell 3; have z4 := Z2.cell 4; simp only [List.getElem?_toArray, List.getElem?_cons_zero, List.getElem?_cons_succ] at z0 z1 z2 z3 z4; clear Z2 hf)
            | (go_at_call 24; with_reducible refine (HH.out _).2.2.1.mono ?_; rintro e w2 ⟨rfl, hf⟩; have F2 : Fr No wa w2 := (show Fr No wa _ from (by with_reducible assumption)).then_no hf; have Z2 := XX.out w2 F2; have z0 := Z2.cell 0; have z1 := Z2.cell 1; have z2 := Z2.cell 2; have z3 := Z2.cell 3; have z4 := Z2.cell 4; simp only [List.getElem?_toArray, List.getElem?_cons_zero, List.getElem?_cons_succ] at z0 z1 z2 z3 z4; clear Z2 hf)
            | (go_at_call 24; with_reducible refine (HH.out _).2.2.2.mono ?_; rintro e w2 ⟨rfl, hf⟩; have F2 : Fr No wa w2 := (show Fr No wa _ from (by with_reducible assumption)).then_no hf; have Z2 := XX.out w2 F2; have z0 := Z2.cell 0; have z1 := Z2.cell 1; have z2 := Z2.cell 2; have z3 := Z2.cell 3; have z4 := Z2.cell 4; simp only [List.getElem?_toArray, List.getElem?_cons_zero, List.getElem?_cons_succ] at z0 z1 z2 z3 z4; clear Z2 hf))
          all_goals
            go_ret
            rw [HE.out]
            refine ⟨?_, by first | exact (FA.out.then_no (by with_reducible assumption)) | exact FA.out⟩
            unfold extra
            simp_all
end Ev
end Go.Proofs.YtohjnbkehcdoaaaDoor
