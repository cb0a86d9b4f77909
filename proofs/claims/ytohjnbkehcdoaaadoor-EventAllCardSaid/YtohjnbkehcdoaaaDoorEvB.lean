/- Package event: Check. Printed by gen_evb.py. -/
import Derived.Test.YtohjnbkehcdoaaaDoorEvA
import Derived.Deep.CutRange
namespace Go.Proofs.YtohjnbkehcdoaaaDoor
open Go.RowKit
set_option linter.unusedVariables false
set_option linter.unusedSimpArgs false
namespace Ev
open Digit Sls
def cE (e : E) : Array Value := #[.int .i64 e.k, .int .i64 e.who, .int .i64 e.n, .bool e.ok, .string ⟨e.s.toArray⟩]
theorem check_none {e : E} (h : byK e.k = none) : checkE e = 1 := by unfold checkE; rw [h]
theorem check_range {e : E} {r : R} (h : byK e.k = some r) (h1 : inR e.who = false ∨ inR e.n = false) : checkE e = 2 := by
  unfold checkE; rw [h]; simp only; rw [if_pos]; rcases h1 with h1 | h1 <;> simp [h1]
theorem check_form {e : E} {r : R} (h : byK e.k = some r) (h1 : inR e.who = true) (h2 : inR e.n = true) : checkE e = if extra r e = true then 3 else 0 := by
  unfold checkE; rw [h]; simp only; rw [if_neg]; simp [h1, h2]
set_option maxRecDepth 100000 in
set_option maxHeartbeats 4000000 in
theorem check_any (e : E) (w : World) : Calls Tryd.prog 9 #[.agg (cE e)] w fun x w' => x = .returned (.int .i64 (checkE e)) ∧ Fr No w w' := by
  obtain ⟨ek, ew, en, eo, es⟩ := e
  unfold cE
  simp only
  have X1 := Lib.hid (Blk.new w 23 #[.int .i64 ek, .int .i64 ew, .int .i64 en, .bool eo, .string ⟨es.toArray⟩])
  have FA := Lib.hid ((Fr.refl No w).alloc (.cells #[.int .i64 ek, .int .i64 ew, .int .i64 en, .bool eo, .string ⟨es.toArray⟩] 23))
  obtain ⟨b1, hb1⟩ : ∃ b, w.heap.size = b := ⟨_, rfl⟩
  have X1 := Lib.hid (show Blk _ b1 _ _ from by rw [← hb1]; exact X1.out)
  go_enter Tryd.func9, Tryd.ntmps9
  go_wp2_with fail
  try rw [hb1]
  clear hb1
  generalize w.alloc (.cells #[.int .i64 ek, .int .i64 ew, .int .i64 en, .bool eo, .string ⟨es.toArray⟩] 23) = wa at X1 FA ⊢
  refine (find_check1 wa b1 (fun r => r.k == ek) (fun W hW x => check1_any W b1 ek x ((X1.out.fr hW (fun h => h)).cell 0) (X1.out.fr hW (fun h => h)).lt)).mono ?_
  unfold FindIs
  rw [show rowsP.find? (fun r => r.k == ek) = byK ek from rfl]
  rintro e w1 ⟨rfl, hf⟩
  have XE := Lib.hid (X1.out.fr hf (fun h => h))
  have F1 := Lib.hid (FA.out.then_no hf)
  clear hf X1 FA
  cases hr : byK ek with
  | none =>
    have HE := Lib.hid (check_none (e := ⟨ek, ew, en, eo, es⟩) hr)
    clear hr
    unfold cR R0
    simp only [Option.getD_none, Option.isSome_none]
    have F2 := Lib.hid (F1.out.alloc (.cells #[.int .i64 0, .string ⟨([] : Str).toArray⟩, .bool false, .bool false, .bool false, .bool false] 46))
    go_wp2_with fail
    go_ret
    rw [HE.out]
    exact ⟨rfl, F2.out⟩
  | some r =>
    have HR := Lib.hid hr
    clear hr
    simp only [Option.getD_some, Option.isSome_some]
    obtain ⟨xk, xt, x2, x3, x4, x5⟩ := r
    unfold cR
    simp only
    have F2 := Lib.hid (F1.out.alloc (.cells #[.int .i64 xk, .string ⟨xt.toArray⟩, .bool x2, .bool x3, .bool x4, .bool x5] 46))
    have XR := Blk.new w1 46 #[.int .i64 xk, .string ⟨xt.toArray⟩, .bool x2, .bool x3, .bool x4, .bool x5]
    have XE2 := XE.out.alloc (.cells #[.int .i64 xk, .string ⟨xt.toArray⟩, .bool x2, .bool x3, .bool x4, .bool x5] 46)
    have r2 := XR.cell 2
    have r3 := XR.cell 3
    have r4 := XR.cell 4
    have r5 := XR.cell 5
    have y1 := XE2.cell 1
    have y2 := XE2.cell 2
    have y3 := XE2.cell 3
    have y4 := XE2.cell 4
    simp only [List.getElem?_toArray, List.getElem?_cons_zero, List.getElem?_cons_succ] at r2 r3 r4 r5 y1 y2 y3 y4
    have HI := Lib.hid in_any
    obtain ⟨b3, hb3⟩ : ∃ b, w1.heap.size = b := ⟨_, rfl⟩
    rw [hb3] at r2 r3 r4 r5
    clear XR XE2
    go_upto_region 2 with (fail)
    try rw [hb3]
    clear hb3
    generalize w1.alloc (.cells #[.int .i64 xk, .string ⟨xt.toArray⟩, .bool x2, .bool x3, .bool x4, .bool x5] 46) = W at F2 r2 r3 r4 r5 y1 y2 y3 y4 ⊢
    cases h1 : inR ew with
    | false =>
      have HE := Lib.hid (check_range (e := ⟨ek, ew, en, eo, es⟩) HR.out (.inl h1))
      go_wp2_with (go_at_call 28; refine (HI.out ew _).mono ?_; rw [h1]; rintro e w2 ⟨rfl, hw⟩; subst hw)
      go_ret
      rw [HE.out]
      exact ⟨rfl, F2.out⟩
    | true =>
      cases h2 : inR en with
      | false =>
        have HE := Lib.hid (check_range (e := ⟨ek, ew, en, eo, es⟩) HR.out (.inr h2))
        go_wp2_with (first | (go_at_call 28; with_reducible refine (HI.out ew _).mono ?_; rw [h1]; rintro e w2 ⟨rfl, hw⟩; subst hw) | (go_at_call 28; with_reducible refine (HI.out en _).mono ?_; rw [h2]; rintro e w2 ⟨rfl, hw⟩; subst hw))
        go_ret
        rw [HE.out]
        exact ⟨rfl, F2.out⟩
      | true =>
        have HE := Lib.hid (check_form (e := ⟨ek, ew, en, eo, es⟩) HR.out h1 h2)
        go_wp2_with (first | (go_at_call 28; with_reducible refine (HI.out ew _).mono ?_; rw [h1]; rintro e w2 ⟨rfl, hw⟩; subst hw) | (go_at_call 28; with_reducible refine (HI.out en _).mono ?_; rw [h2]; rintro e w2 ⟨rfl, hw⟩; subst hw))
        all_goals
          go_ret
          rw [HE.out]
          refine ⟨?_, F2.out⟩
          unfold extra
          simp only [Bool.not_eq_true] at *
          simp_all
end Ev
end Go.Proofs.YtohjnbkehcdoaaaDoor
