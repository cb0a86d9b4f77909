/- The examples of the statements of package runner. -/
import Derived.Test.YtagkhljcknnhmaaRunAt
namespace Go.Proofs.Ytagkhljcknnhmaa
open Go.RowKit
set_option linter.unusedVariables false
set_option linter.unusedSimpArgs false
namespace Run
abbrev L5 : List O := [(1, [97], 0), (2, [], 3), (3, [], 0), (1, [98], 0), (2, [], 2)]
theorem fit5 : Fit L5 10 := ⟨by decide, by decide, by decide, by
  intro x hx
  simp at hx
  rcases hx with rfl | rfl | rfl | rfl | rfl <;> exact ⟨by decide, by unfold maxLen; decide, by decide⟩⟩
set_option maxRecDepth 100000 in
set_option maxHeartbeats 2000000 in
theorem works_any (w : World) : Calls Try.prog 9 #[] w fun e w' => e = .returned (.bool true) ∧ Fr No w w' := by
  have d0 : Hid (chk 10 L5 = 0) := Lib.hid (by decide)
  have d1 : Hid (chk 0 [((2 : Int), ([] : Str), (0 : Int))] = 1) := Lib.hid (by decide)
  have d2 : Hid (chk 1099511627776 [((2 : Int), ([] : Str), (1 : Int))] = 2) := Lib.hid (by decide)
  have d3 : Hid (nextT 9 (endsR 10 L5) (timesR 10 L5) = (10, true)) := Lib.hid (by decide)
  have d4 : Hid (dueT 9 10 (timesR 10 L5) = [(1, [97], 0)]) := Lib.hid (by decide)
  have d5 : Hid (nextT 10 (endsR 10 L5) (timesR 10 L5) = (13, true)) := Lib.hid (by decide)
  have d6 : Hid (dueT 10 12 (timesR 10 L5) = []) := Lib.hid (by decide)
  have d7 : Hid (dueT 12 13 (timesR 10 L5) = [(3, [], 0), (1, [98], 0)]) := Lib.hid (by decide)
  have d8 : Hid (nextT 13 (endsR 10 L5) (timesR 10 L5) = (15, true)) := Lib.hid (by decide)
  have d9 : Hid (decide (endsR 10 L5 ≤ 13) = false) := Lib.hid (by decide)
  have d10 : Hid (dueT 13 15 (timesR 10 L5) = []) := Lib.hid (by decide)
  have d11 : Hid (nextT 15 (endsR 10 L5) (timesR 10 L5) = (0, false)) := Lib.hid (by decide)
  have d12 : Hid (decide (endsR 10 L5 ≤ 15) = true) := Lib.hid (by decide)
  have d13 : Hid (endsR 10 L5 = 15) := Lib.hid (by decide)
  go_enter Try.func9, Try.ntmps9
  go_wp2_with fail
  refine (lit_new w L5 10 _ rfl fit5.wf (by decide)).mono ?_
  intro e w1 hp
  obtain ⟨g, G, rfl, hR, hf, hG⟩ := hp.yes d0.out
  have R1 := Lib.hid (hR.rw (was := 9) fit5.ck (by decide))
  have HG := Lib.hid (fun k hk => (hG k hk).1)
  have hgw : w.heap.size + 1 ≤ g := by have := (hG g R1.out.has.1).1; rwa [size_alloc] at this
  have F1 := Lib.hid ((((Fr.refl No w).alloc _).then_no hf))
  clear hR hf hG hp
  go_wp2_with fail
  refine (lit_new w1 [((2 : Int), ([] : Str), (0 : Int))] 0 _ rfl (by intro x hx; simp at hx; subst hx; exact ⟨by decide, by unfold maxLen; decide, by decide⟩) (by decide)).mono ?_
  intro e w2 hp
  obtain ⟨rfl, hf⟩ := hp.no d1.out (by decide)
  have F2 := Lib.hid (((Fr.refl No w1).alloc _).then_no hf)
  clear hp hf
  go_wp2_with fail
  refine (lit_new w2 [((2 : Int), ([] : Str), (1 : Int))] 1099511627776 _ rfl (by intro x hx; simp at hx; subst hx; exact ⟨by decide, by unfold maxLen; decide, by decide⟩) (by decide)).mono ?_
  intro e w3 hp
  obtain ⟨rfl, hf⟩ := hp.no d2.out (by decide)
  have F3 := Lib.hid (F2.out.then_no (((Fr.refl No w2).alloc _).then_no hf))
  clear hp hf F2
  have R3 := Lib.hid (R1.out.fr F3.out)
  go_wp2_with fail
  refine (next_any _ _ _ _ _ _ fit5 R3.out).mono ?_
  rintro e w4 ⟨hn, hf⟩
  rw [d3.out] at hn
  have hn : e = .returned (.tuple #[.int .i64 10, .bool true]) := hn
  subst hn
  have R4 := Lib.hid (R3.out.fr hf)
  have F4 := Lib.hid (F1.out.then_no (F3.out.then_no hf))
  clear hf
  go_wp2_with fail
  refine (step_any _ _ _ _ _ _ _ fit5 R4.out (by decide) (by decide)).mono ?_
  intro e w5 hp
  obtain ⟨A5, c5, rfl, h1, h2, h3⟩ := hp.known d4.out rfl
  have R5 := Lib.hid h2
  have F5 := Lib.hid (F4.out.trans h3 fun k hk hl => by have hk : k = g := hk; omega)
  clear h1 h2 h3 hp
  go_wp2_with fail
  refine (next_any _ _ _ _ _ _ fit5 R5.out).mono ?_
  rintro e w6 ⟨hn, hf⟩
  rw [d5.out] at hn
  have hn : e = .returned (.tuple #[.int .i64 13, .bool true]) := hn
  subst hn
  have R6 := Lib.hid (R5.out.fr hf)
  have F6 := Lib.hid (F5.out.then_no hf)
  clear hf
  go_wp2_with fail
  refine (step_any _ _ _ _ _ _ _ fit5 R6.out (by decide) (by decide)).mono ?_
  intro e w7 hp
  obtain ⟨A7, c7, rfl, h1, h2, h3⟩ := hp.known d6.out rfl
  have R7 := Lib.hid h2
  have F7 := Lib.hid (F6.out.trans h3 fun k hk hl => by have hk : k = g := hk; omega)
  clear h1 h2 h3 hp
  go_wp2_with fail
  refine (step_any _ _ _ _ _ _ _ fit5 R7.out (by decide) (by decide)).mono ?_
  intro e w8 hp
  obtain ⟨A8, c8, rfl, h1, h2, h3⟩ := hp.known d7.out rfl
  have O8 := Lib.hid h1
  have B8 := Lib.hid (Nat.lt_of_lt_of_le (R7.out.has.2 g R7.out.has.1) (Nat.le_refl _))
  have R8 := Lib.hid h2
  have F8 := Lib.hid (F7.out.trans h3 fun k hk hl => by have hk : k = g := hk; omega)
  clear h1 h2 h3 hp
  go_wp2_with fail
  refine (next_any _ _ _ _ _ _ fit5 R8.out).mono ?_
  rintro e w9 ⟨hn, hf⟩
  rw [d8.out] at hn
  have hn : e = .returned (.tuple #[.int .i64 15, .bool true]) := hn
  subst hn
  have R9 := Lib.hid (R8.out.fr hf)
  have O9 := Lib.hid (own_fr O8.out hf fun _ _ h => h)
  have F9 := Lib.hid (F8.out.then_no hf)
  clear hf
  go_wp2_with fail
  refine (rdone_any _ _ _ _ _ _ R9.out).mono ?_
  rintro e w9' ⟨rfl, rfl⟩
  rw [d9.out]
  go_wp2_with fail
  refine (step_any _ _ _ _ _ _ _ fit5 R9.out (by decide) (by decide)).mono ?_
  intro e w10 hp
  obtain ⟨A10, c10, rfl, h1, h2, h3⟩ := hp.known d10.out rfl
  have R10 := Lib.hid h2
  have O10 := Lib.hid (own_fr O9.out h3 fun k hk h => by
    have := (O9.out.lt k hk).1
    have := B8.out
    have h : k = g := h
    omega)
  have F10 := Lib.hid (F9.out.trans h3 fun k hk hl => by have hk : k = g := hk; omega)
  clear h1 h2 h3 hp
  go_wp2_with fail
  refine (next_any _ _ _ _ _ _ fit5 R10.out).mono ?_
  rintro e w11 ⟨hn, hf⟩
  rw [d11.out] at hn
  have hn : e = .returned (.tuple #[.int .i64 0, .bool false]) := hn
  subst hn
  have R11 := Lib.hid (R10.out.fr hf)
  have o11 := own_fr O10.out hf fun _ _ h => h
  have F11 := Lib.hid (F10.out.then_no hf)
  clear hf
  obtain ⟨g8, rfl⟩ : ∃ g, A8 = some ⟨g, 0, none⟩ := by
    rcases o11.2 with ⟨_, h0⟩ | ⟨g, cap', cur, h0, _⟩
    · cases h0
    · injection h0 with h0 _; exact ⟨g, h0⟩
  have k1 := o11.cellAt 4 (by decide)
  simp [encO] at k1
  clear o11
  go_wp2_with (first
    | (go_at_call 16; with_reducible refine (rdone_any _ _ _ _ _ _ R11.out).mono ?_; rintro e w12 ⟨rfl, rfl⟩; rw [d12.out])
    | (go_at_call 12; with_reducible refine (rwends_any _ _ _ _ _ _ R11.out).mono ?_; rintro e w12 ⟨rfl, rfl⟩; rw [d13.out]))
  trace_state
  go_ret
  exact ⟨rfl, F11.out⟩
end Run
end Go.Proofs.Ytagkhljcknnhmaa
