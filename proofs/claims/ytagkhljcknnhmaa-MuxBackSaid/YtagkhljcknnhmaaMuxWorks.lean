/- The examples of the statements of package mux. -/
import Derived.Test.YtagkhljcknnhmaaMuxSplit
namespace Go.Proofs.Ytagkhljcknnhmaa
open Go.RowKit
set_option linter.unusedVariables false
set_option linter.unusedSimpArgs false
namespace Mux
theorem sat_new (w : World) : SAt (w.alloc (.cells #[.int .i64 0, .slice none 0 0] 51)) (fun k => k = w.heap.size) w.heap.size 0 [] := by
  refine ⟨.slice none 0 0, Blk.new _ _ _, World.ownsRow_nil _ _ _ _, rfl, fun k hk => ?_, fun k hk => ?_⟩
  · cases hk
  · rw [size_alloc, show k = w.heap.size from hk]; omega
theorem FeedPost.known {w w' : World} {F0 : Nat → Prop} {g p : Nat} {op : Str} {r : (Nat × Str) × (Str × List (Str × Bool))} {L : List (Str × Bool)} {e : Ending} (h : FeedPost w F0 g r e w') (hr : r.1 = (p, op)) (hL : flushR r.2.1 r.2.2 = L) :
    ∃ F' A c, e = .returned (.slice A L.length c) ∧ w'.ownsRow 0 74 2 (.slice A L.length c) L.length (L.flatMap encP) ∧ SAt w' F' g p op ∧ Step F0 w F' w' ∧ (∀ k, Of (.slice A L.length c) k → New w w' k ∧ ¬ F' k) := by
  subst hL
  obtain ⟨F', A, c, h1, h2, h3, h4, h5⟩ := h
  rw [hr] at h3
  exact ⟨F', A, c, h1, h2, h3, h4, h5⟩
theorem eql_part (W : World) (a b : Str) (p q : Bool) :
    (binOp .eql 74 (.agg #[.string ⟨a.toArray⟩, .bool p]) (.agg #[.string ⟨b.toArray⟩, .bool q])).run Try.prog W = .ok (.bool (decide ((a, p) = (b, q)))) W := by
  have h1 : Try.prog.underlying 74 = some (.struct (Try.prog.fieldsOf 74)) := by kernel_rfl
  have h2 : Try.prog.stoodInHeld 74 = false := by kernel_rfl
  have hu := Try.underlying74
  rw [run_eql_struct, run_equalIn_struct W _ _ _ _ h1 h2]
  simp [Program.fieldsOf, hu, Op.eqFields, go_sem]
  by_cases e1 : a = b <;> by_cases e2 : p = q <;> simp [e1, e2]
set_option maxHeartbeats 1000000 in
theorem works_any (w : World) : Calls Try.prog 20 #[] w fun e w' => e = .returned (.bool true) ∧ Fr No w w' := by
  have d1 : twice [97, 255, 98] = [97, 255, 255, 98] := by decide
  have d2 : toldB [50, 49, 48, 32, 255] = [255, 1, 50, 49, 48, 32, 255, 255, 255, 2] := by decide
  have d3 : feedR 0 [] [] [] [97, 255, 255, 98, 255, 1, 50, 49, 48, 32, 255, 255, 255, 2, 99, 255] = ((1, []), ([99], [([97, 255, 98], false), ([50, 49, 48, 32, 255], true)])) := by decide
  have d4 : feedR 1 [] [] [] [255, 100, 255, 7, 120] = ((4, []), ([255, 100], [])) := by decide
  have d5 : twice [97, 255] = [97, 255, 255] := by decide
  have d6 : toldB [120] = [255, 1, 120, 255, 2] := by decide
  go_enter Try.func20, Try.ntmps20
  go_wp2_with fail
  have S0 := Lib.hid (sat_new w)
  refine (data_any [97, 255, 98] _ (by decide)).mono ?_
  rintro e w1 ⟨rfl, hf⟩
  rw [d1]
  have F1 := Lib.hid hf; clear hf
  go_wp2_with fail
  refine (told_any [50, 49, 48, 32, 255] _ (by decide)).mono ?_
  rintro e w2 ⟨rfl, hf⟩
  rw [d2]
  have F2 := Lib.hid (F1.out.then_no hf); clear hf F1
  go_wp2_with fail
  have S2 := Lib.hid (S0.out.fr F2.out (fun k _ h => h))
  refine (feed_any _ _ _ 0 [] [97, 255, 255, 98, 255, 1, 50, 49, 48, 32, 255, 255, 255, 2, 99, 255] S2.out (by decide) (by decide)).mono ?_
  intro e w3 hp
  obtain ⟨G3, A3, c3, rfl, h1, h2, h3, h4⟩ := hp.known (p := 1) (op := []) (L := [([97, 255, 98], false), ([50, 49, 48, 32, 255], true), ([99], false)]) (by rw [d3]) (by rw [d3]; rfl)
  have O3 := Lib.hid h1; have S3 := Lib.hid h2; have T3 := Lib.hid h3; have N3 := Lib.hid h4; clear h1 h2 h3 h4 hp
  go_wp2_with fail
  refine (check_any _ _ _ _ _ S3.out (by decide)).mono ?_
  rintro e w4 ⟨rfl, rfl⟩
  rw [show checkR 1 = 13 from rfl]
  go_wp2_with fail
  refine (feed_any _ _ _ 1 [] [255, 100, 255, 7, 120] S3.out (by decide) (by decide)).mono ?_
  intro e w4 hp
  obtain ⟨G4, A4, c4, rfl, h1, h2, h3, h4⟩ := hp.known (p := 4) (op := []) (L := [([255, 100], false)]) (by rw [d4]) (by rw [d4]; rfl)
  have O4 := Lib.hid h1; have S4 := Lib.hid h2; have T4 := Lib.hid h3; have N4 := Lib.hid h4; clear h1 h2 h3 h4 hp
  go_wp2_with fail
  refine (data_any [97, 255] _ (by decide)).mono ?_
  rintro e w5 ⟨rfl, hf⟩
  rw [d5]
  have F5 := Lib.hid hf; clear hf
  go_wp2_with fail
  refine (told_any [120] _ (by decide)).mono ?_
  rintro e w6 ⟨rfl, hf⟩
  rw [d6]
  have F6 := Lib.hid (F5.out.then_no hf); clear hf F5
  have S6 := Lib.hid (S4.out.fr F6.out (fun k _ h => h))
  have o3 := own_fr (own_fr O3.out T4.out.1 (fun k hk => (N3.out k hk).2)) F6.out (fun k _ h => h)
  have o4 := own_fr O4.out F6.out (fun k _ h => h)
  obtain ⟨g3, rfl⟩ : ∃ g, A3 = some ⟨g, 0, none⟩ := by
    rcases o3.2 with ⟨_, h0⟩ | ⟨g, cap', cur, h0, _⟩
    · cases h0
    · injection h0 with h0 _; exact ⟨g, h0⟩
  obtain ⟨g4, rfl⟩ : ∃ g, A4 = some ⟨g, 0, none⟩ := by
    rcases o4.2 with ⟨_, h0⟩ | ⟨g, cap', cur, h0, _⟩
    · cases h0
    · injection h0 with h0 _; exact ⟨g, h0⟩
  have k0 := o3.cellAt 0 (by decide)
  have k1 := o3.cellAt 1 (by decide)
  have k2 := o3.cellAt 2 (by decide)
  have k3 := o3.cellAt 3 (by decide)
  have k4 := o3.cellAt 4 (by decide)
  have k5 := o3.cellAt 5 (by decide)
  have m0 := o4.cellAt 0 (by decide)
  simp [encP] at k0 k1 k2 k3 k4 k5 m0
  have q1 := eql_part w6 [97, 255, 98] [97, 255, 98] false false
  have q2 := eql_part w6 [50, 49, 48, 32, 255] [50, 49, 48, 32, 255] true true
  have q3 := eql_part w6 [99] [99] false false
  have hg : Try.prog.eqGuardType Try.prog.depth 74 = false := by kernel_rfl
  rw [decide_eq_true rfl] at q1 q2 q3
  go_wp2_with (first
    | (go_at_call 29; with_reducible refine (check_any _ _ _ _ _ S6.out (by decide)).mono ?_; rintro e w7 ⟨rfl, rfl⟩; rw [show checkR 4 = 3 from rfl])
    | (go_at_call 29; with_reducible refine (check_nil _).mono ?_; rintro e w7 ⟨rfl, rfl⟩)
    | (go_at_call 26; refine (feed_nil [97] _).mono ?_; rintro e w7 ⟨rfl, rfl⟩))
  go_ret
  refine ⟨rfl, (((Fr.refl No w).alloc _).then_no F2.out).trans ((T3.out.trans T4.out).1.then_no F6.out) fun k hk hl => ?_⟩
  rw [show k = w.heap.size from hk] at hl
  omega
end Mux
end Go.Proofs.Ytagkhljcknnhmaa
