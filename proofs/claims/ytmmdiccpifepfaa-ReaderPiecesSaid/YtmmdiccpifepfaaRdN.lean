/- Reader: the law's works. Printed by gen_rdn.py. -/
import Derived.Test.YtmmdiccpifepfaaRdL
namespace Go.Proofs.Ytmmdiccpifepfaa
open Go.RowKit
set_option linter.unusedVariables false
set_option linter.unusedSimpArgs false
namespace Rd
open Ans Digit Sls Word
open Mux (run twice toldB Tok)
theorem RA.lt {w : World} {A : Nat → Prop} {g p : Nat} {x : X} {op : Str} (h : RA w A g x p op) : ∀ k, A k → k < w.heap.size := by
  obtain ⟨Fs, B, vR, vV, rv, h1, h2, h3⟩ := h
  exact h3
theorem fit2 : Fit 4 x2 := ⟨by decide, by decide, by decide⟩
set_option maxRecDepth 100000 in
set_option maxHeartbeats 8000000 in
theorem works_any (w : World) : Calls Try.prog 5 #[] w fun e w' => e = .returned (.bool true) ∧ Fr No w w' := by
  obtain ⟨t1, h1⟩ : ∃ t, t = toldB [50, 50, 48, 32, 119, 104, 101, 101, 108, 104, 111, 117, 115, 101, 13, 10] := ⟨_, rfl⟩
  obtain ⟨t2, h2⟩ : ∃ t, t = toldB [51, 49, 48, 32, 121, 111, 117, 32, 119, 114, 105, 116, 101, 32, 116, 111, 32, 119, 101, 98, 49, 13, 10] := ⟨_, rfl⟩
  obtain ⟨t3, h3⟩ : ∃ t, t = toldB [51, 49, 49, 32, 121, 111, 117, 32, 108, 111, 111, 107, 32, 111, 110, 32, 97, 116, 32, 119, 101, 98, 49, 13, 10] := ⟨_, rfl⟩
  obtain ⟨t4, h4⟩ : ∃ t, t = toldB [51, 49, 51, 32, 121, 111, 117, 32, 108, 101, 102, 116, 32, 119, 101, 98, 49, 13, 10] := ⟨_, rfl⟩
  obtain ⟨d1, h5⟩ : ∃ t, t = twice [97, 98, 255] := ⟨_, rfl⟩
  obtain ⟨d2, h6⟩ : ∃ t, t = twice [99] := ⟨_, rfl⟩
  have M1 := Lib.hid (show t1 ++ t2 ++ d1 = m1 by rw [h1, h2, h5]; exact m1_eq)
  have M2 := Lib.hid (show t3 ++ d2 ++ t4 = m2 by rw [h3, h4, h6]; exact m2_eq)
  have b1 : t1.length ≤ 100 := by rw [h1]; decide
  have b2 : t2.length ≤ 100 := by rw [h2]; decide
  have b3 : t3.length ≤ 100 := by rw [h3]; decide
  have b4 : t4.length ≤ 100 := by rw [h4]; decide
  have b5 : d1.length ≤ 100 := by rw [h5]; decide
  have b6 : d2.length ≤ 100 := by rw [h6]; decide
  have s1 := fun W => Go.run_string_add_sum (P := Try.prog) (w := W) ⟨t1.toArray⟩ ⟨t2.toArray⟩ (by simp [ByteArray.size]; omega)
  have s2 := fun W => Go.run_string_add_sum (P := Try.prog) (w := W) ⟨(t1 ++ t2).toArray⟩ ⟨d1.toArray⟩ (by simp [ByteArray.size]; omega)
  have s3 := fun W => Go.run_string_add_sum (P := Try.prog) (w := W) ⟨t3.toArray⟩ ⟨d2.toArray⟩ (by simp [ByteArray.size]; omega)
  have s4 := fun W => Go.run_string_add_sum (P := Try.prog) (w := W) ⟨(t3 ++ d2).toArray⟩ ⟨t4.toArray⟩ (by simp [ByteArray.size]; omega)
  rw [ba_app] at s1 s2 s3 s4
  have T1 := fun W => ltold_any 220 [119, 104, 101, 101, 108, 104, 111, 117, 115, 101] [50, 50, 48, 32, 119, 104, 101, 101, 108, 104, 111, 117, 115, 101, 13, 10] W (by decide) (by omega) ka220 (by decide)
  have T2 := fun W => ltold_any 310 [121, 111, 117, 32, 119, 114, 105, 116, 101, 32, 116, 111, 32, 119, 101, 98, 49] [51, 49, 48, 32, 121, 111, 117, 32, 119, 114, 105, 116, 101, 32, 116, 111, 32, 119, 101, 98, 49, 13, 10] W (by decide) (by omega) ka310 (by decide)
  have T3 := fun W => ltold_any 311 [121, 111, 117, 32, 108, 111, 111, 107, 32, 111, 110, 32, 97, 116, 32, 119, 101, 98, 49] [51, 49, 49, 32, 121, 111, 117, 32, 108, 111, 111, 107, 32, 111, 110, 32, 97, 116, 32, 119, 101, 98, 49, 13, 10] W (by decide) (by omega) ka311 (by decide)
  have T4 := fun W => ltold_any 313 [121, 111, 117, 32, 108, 101, 102, 116, 32, 119, 101, 98, 49] [51, 49, 51, 32, 121, 111, 117, 32, 108, 101, 102, 116, 32, 119, 101, 98, 49, 13, 10] W (by decide) (by omega) ka313 (by decide)
  have T5 := fun W => Mux.data_any [97, 98, 255] W (by decide)
  have T6 := fun W => Mux.data_any [99] W (by decide)
  rw [← h1] at T1
  rw [← h2] at T2
  rw [← h3] at T3
  rw [← h4] at T4
  rw [← h5] at T5
  rw [← h6] at T6
  have T1 := Lib.hid T1
  have T2 := Lib.hid T2
  have T3 := Lib.hid T3
  have T4 := Lib.hid T4
  have T5 := Lib.hid T5
  have T6 := Lib.hid T6
  clear h1 h2 h3 h4 h5 h6
  go_enter Try.func5, Try.ntmps5
  go_wp2_with fail
  refine (new_all w).mono ?_
  rintro e w1 ⟨g, rfl, hra, hf, hn⟩
  have RA1 := Lib.hid hra
  have F1 := Lib.hid hf
  have HN := Lib.hid hn
  clear hra hf hn
  go_wp2_with fail
  refine (T1.out _).mono ?_
  rintro e w2 ⟨rfl, hf⟩
  have G2 := Lib.hid hf
  clear hf
  go_wp2_with fail
  refine (T2.out _).mono ?_
  rintro e w3 ⟨rfl, hf⟩
  have G3 := Lib.hid (G2.out.then_no hf)
  clear hf
  go_wp2_with fail
  refine (T5.out _).mono ?_
  rintro e wq4 ⟨rfl, hf⟩
  have G4 := Lib.hid (G3.out.then_no hf)
  clear hf
  go_wp2_with fail
  rw [← List.append_assoc, M1.out]
  refine (feed_all [] m1 _ _ g (RA1.out.no G4.out) (by decide)).mono ?_
  rw [List.nil_append, run1, all1]
  rintro e w5 ⟨he, A5, hra, hst⟩
  obtain rfl : e = .returned (.int .i64 0) := he
  have RA5 := Lib.hid hra
  have ST5 := Lib.hid hst
  clear hra hst
  go_wp2_with fail
  refine (role_any RA5.out).mono ?_
  rintro e w6 ⟨he, hw⟩
  obtain rfl : e = .returned (.int .i64 2) := he
  subst hw
  go_wp2_with fail
  refine (T3.out _).mono ?_
  rintro e w7 ⟨rfl, hf⟩
  have G7 := Lib.hid hf
  clear hf
  go_wp2_with fail
  refine (T6.out _).mono ?_
  rintro e w8 ⟨rfl, hf⟩
  have G8 := Lib.hid (G7.out.then_no hf)
  clear hf
  go_wp2_with fail
  refine (T4.out _).mono ?_
  rintro e w9 ⟨rfl, hf⟩
  have G9 := Lib.hid (G8.out.then_no hf)
  clear hf
  go_wp2_with fail
  rw [← List.append_assoc, M2.out]
  refine (feed_all m1 m2 _ _ g (by rw [run1, all1]; exact RA5.out.no G9.out) (by decide)).mono ?_
  rw [run12, all2]
  rintro e w10 ⟨he, A10, hra, hst⟩
  obtain rfl : e = .returned (.int .i64 0) := he
  have RA10 := Lib.hid hra
  have ST10 := Lib.hid hst
  clear hra hst
  go_wp2_with fail
  obtain ⟨Fs, B, vR, vV, rv, hp⟩ := RA10.out.rp
  have HP10 := Lib.hid hp
  refine (views_any hp (fit2.mono (by omega))).mono ?_
  unfold CopyV
  clear hp
  rw [show x2.V = [([119, 101, 98, 49], [97, 98, 255, 99], false)] from rfl]
  rintro e w11 ⟨AC, cC, rfl, hC, hf, hN⟩
  obtain ⟨gC, hgC⟩ := slice_pos hC (by decide)
  subst hgC
  obtain ⟨v0, v1, v2⟩ := view_at hC (k := 0) (by decide)
  have HV := Lib.hid (And.intro v0 (And.intro v1 v2))
  have G11 := Lib.hid hf
  have HCN := Lib.hid (hN gC rfl)
  have HCO := Lib.hid hC
  clear hf hN hC v0 v1 v2
  go_wp2_with fail
  refine (feed_all (m1 ++ m2) [120] _ A10 g (by rw [run12, all2]; exact RA10.out.no G11.out) (by decide)).mono ?_
  rw [all3]
  rintro e w12 ⟨he, A12, hra, hst⟩
  obtain rfl : e = .returned (.int .i64 3) := he
  have hC12 := own_fr HCO.out hst.1 (fun k hk hA => by have := of_at hk; subst this; have := HCN.out.1; have := RA10.out.lt _ hA; omega)
  obtain ⟨v0, v1, v2⟩ := view_at hC12 (k := 0) (by decide)
  simp only [List.getElem_cons_zero, Nat.zero_mul, Nat.zero_add] at v0 v1 v2
  have RA12 := Lib.hid hra
  have ST12 := Lib.hid hst
  obtain ⟨Fs2, B2, vR2, vV2, rv2, hp2⟩ := hra.rp
  have HP12 := Lib.hid hp2
  have HRP := Lib.hid (replies_any hp2 ((show Fit 4 (badR x2) from fit2.bad).mono (by omega)))
  have hl2 := hp2.rows.lines.1
  have HL4 := Lib.hid (show rv2.length = 4 from hl2)
  have HRO := Lib.hid (fun W (hW : Fr No w12 W) => role_any (hra.no hW))
  clear hra hst hC12 hp2 hl2
  go_wp2_with fail
  refine HRP.out.mono ?_
  unfold CopyR
  rw [HL4.out]
  rintro e w13 ⟨AQ, cQ, rfl, -, -, hf, -⟩
  have G13 := Lib.hid hf
  clear hf
  go_wp2_with fail
  refine (HRO.out _ G13.out).mono ?_
  rintro e w14 ⟨he, hw⟩
  obtain rfl : e = .returned (.int .i64 0) := he
  subst hw
  go_wp2_with fail
  refine (rdfeed_nil [120] _).mono ?_
  rintro e w15 ⟨rfl, hw⟩
  subst hw
  go_wp2_with fail
  refine (rdcheck_nil _).mono ?_
  rintro e w16 ⟨rfl, hw⟩
  subst hw
  go_wp2_with fail
  go_ret
  refine ⟨rfl, ?_⟩
  have f1 : Fr No w wq4 := F1.out.then_no G4.out
  have hg := HN.out
  have f5 : Fr (fun k => k = g) w wq4 := f1.no _
  have s4 := G4.out.size
  have st : Step (fun k => k = g) wq4 A12 w13 := ((((ST5.out.trans (Step.no G9.out)).trans ST10.out).trans (Step.no G11.out)).trans ST12.out).trans (Step.no G13.out)
  exact f1.trans st.1 (fun k hk hl => by have := hg.1; omega)
end Rd
end Go.Proofs.Ytmmdiccpifepfaa
