/- The reference's Told of package mux. -/
import Derived.Test.YtagkhljcknnhmaaMuxRef
namespace Go.Proofs.Ytagkhljcknnhmaa
open Go.RowKit
set_option linter.unusedVariables false
set_option linter.unusedSimpArgs false
namespace Mux
theorem frcell {W w1 : World} (h : Fr No W w1) : (∀ b o, b < W.heap.size → w1.cell? ⟨b, o, none⟩ = W.cell? ⟨b, o, none⟩) ∧ W.heap.size ≤ w1.heap.size := ⟨fun b o hb => h.cell (p := ⟨b, o, none⟩) hb (fun h => h), h.size⟩
theorem conv_two (c d : UInt8) (W : World) (b : Nat) (h1 : W.cell? ⟨b, 0, none⟩ = some (.int .u8 c.toNat)) (h2 : W.cell? ⟨b, 1, none⟩ = some (.int .u8 d.toNat)) :
    (convert 40 9 (.slice (some ⟨b, 0, none⟩) 2 2)).run Try.prog W = .ok (.string ⟨#[c, d]⟩) W := by
  refine conv_bytes (S := fun _ => True) (l := [c, d]) 40 9 5 Try.underlying40 Try.underlying5 Try.underlying9 ⟨some ⟨b, 0, none⟩, 2, rfl, Nat.le_refl _, by unfold maxLen; decide, (fun h => by cases h), fun i hi => ?_⟩
  simp at hi
  obtain rfl | rfl : i = 0 ∨ i = 1 := by omega
  · exact ⟨_, [encB c], rfl, trivial, rfl, (fun j hj => by (obtain rfl : j = 0 := (by omega)); simpa [Addr.add_lit, encB] using h1), rfl⟩
  · exact ⟨_, [encB d], rfl, trivial, rfl, (fun j hj => by (obtain rfl : j = 0 := (by omega)); simpa [Addr.add_lit, encB] using h2), rfl⟩
set_option maxHeartbeats 2000000 in
theorem rtold_any (s : Str) (w : World) (hs : s.length ≤ 1000000) : Calls Try.prog 24 #[.string ⟨s.toArray⟩] w fun e w' => e = .returned (.string ⟨(toldB s).toArray⟩) ∧ Fr No w w' := by
  have htw := twice_len s
  obtain ⟨m, hm⟩ : ∃ m, m = twice s := ⟨_, rfl⟩
  have hml : m.length ≤ 2000000 := by rw [hm]; omega
  have Hm := Lib.hid hm
  have hcall := fun W : World => (rdata_any s W hs)
  rw [← hm] at hcall
  have Hcall := Lib.hid hcall
  have hcv1 := conv_two 255 1
  have hcv2 := conv_two 255 2
  have hn2 : ∀ n : Nat, n < n + 1 + 1 := fun n => by omega
  have hn3 : ∀ n : Nat, n < n + 2 := fun n => by omega
  clear hm hcall htw
  go_enter Try.func24, Try.ntmps24
  go_wp2
  go_region_with ((go_at_call 22; refine (Hcall.out _).mono ?_; rintro e w1 ⟨rfl, hf⟩; obtain ⟨hc, hz⟩ := frcell hf; try simp at hz; try (have hz2 : w.heap.size < w1.heap.size := (by omega)); have Hf := Lib.hid hf; clear hf))
  all_goals
    go_wp2
    go_ret
    refine ⟨ret_str (by rw [toldB, ← Hm.out]; simp), ?_⟩
    repeat (first | exact Fr.refl _ _ | apply Fr.drew | apply Fr.drewN | apply Fr.alloc | refine Fr.then_no ?_ Hf.out | refine Fr.then_no ?_ hf)
end Mux
end Go.Proofs.Ytagkhljcknnhmaa
