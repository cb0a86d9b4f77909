/- Rights: the example. Printed by gen_rtk.py. -/
import Derived.Test.YtompphakagoaeaaRtWk
namespace Go.Proofs.Ytompphakagoaeaa
open Go.RowKit
set_option linter.unusedVariables false
set_option linter.unusedSimpArgs false
namespace Conf
open Word
theorem two_get (W : World) (t : TypeId) : ∀ k (hk : k < ([0, 1] : List Int).length), ∃ ad, some (⟨W.heap.size, 0, none⟩ : Addr) = some ad ∧ (W.alloc (.cells #[.int .i64 0, .int .i64 1] t)).cell? (ad.add k) = some (.int .i64 ([0, 1] : List Int)[k]) := by
  intro k hk
  refine ⟨_, rfl, cell_lit W #[.int .i64 0, .int .i64 1] t k _ ?_⟩
  obtain rfl | rfl : k = 0 ∨ k = 1 := by simp at hk; omega
  · rfl
  · rfl
theorem same_lit (v : Value) (W : World) (h : W.ownsRow 0 3 1 v ([0, 1] : List Int).length (([0, 1] : List Int).map encI)) : Calls Try.prog 11 #[v, .slice (some ⟨W.heap.size, 0, none⟩) 2 2] (W.alloc (.cells #[.int .i64 0, .int .i64 1] 3)) fun e w' => e = .returned (.bool true) ∧ Fr No W w' := by
  have h2 := own_fr h ((Fr.refl No W).alloc (.cells #[.int .i64 0, .int .i64 1] 3)) (fun b hb h => h)
  obtain ⟨A, c, rfl⟩ := own_form h2
  obtain ⟨-, hc1, hc2, hel⟩ := own_get h2
  exact (same_get A (some ⟨W.heap.size, 0, none⟩) c 2 [0, 1] [0, 1] _ hc1 hc2 hel (by decide) (by unfold maxLen; decide) (two_get W _)).mono (fun e w' h => ⟨h.1, ((Fr.refl No W).alloc _).then_no h.2⟩)
set_option maxRecDepth 100000 in
set_option maxHeartbeats 4000000 in
theorem works_any (w : World) : Calls Try.prog 16 #[] w fun e w' => e = .returned (.bool true) ∧ Fr No w w' := by
  go_enter Try.func16, Try.ntmps16
  go_wp2_with fail
  refine (sample_any _).mono ?_
  rintro e w1 ⟨cs, rfl, hq, hf1⟩
  have hst := fun W (hf : Fr No w1 W) => (show (∀ k, New w w1 k → k < W.heap.size) ∧ QConf W (New w w1) cs.toList smpC from ⟨fun k hk => Nat.lt_of_lt_of_le hk.2 hf.size, stable_q.go hq (Kept.of_no hf (fun k hk => hk.2)) (fun b hb => hb)⟩)
  have HGR := Lib.hid (fun name W (hf : Fr No w1 W) => group_any cs smpC name W (New w w1) (hst W hf).1 (hst W hf).2)
  have HPI := Lib.hid (fun user name (h1 : user.length ≤ 40) (h2 : name.length ≤ 40) W (hf : Fr No w1 W) => pick_any cs smpC user name W (New w w1) (hst W hf).1 (hst W hf).2 h1 h2)
  have HLV := Lib.hid (fun user name (h1 : user.length ≤ 40) (h2 : name.length ≤ 40) W (hf : Fr No w1 W) => level_any cs smpC user name W (New w w1) (hst W hf).1 (hst W hf).2 h2 h1)
  have HMA := Lib.hid (fun user name n (h1 : user.length ≤ 40) (h2 : name.length ≤ 40) W (hf : Fr No w1 W) => may_any cs smpC user name n W (New w w1) (hst W hf).1 (hst W hf).2 h2 h1)
  have HSE := Lib.hid (fun user (h1 : user.length ≤ 40) W (hf : Fr No w1 W) => sees_any cs smpC user W (New w w1) (hst W hf).1 (hst W hf).2 h1)
  have HEN := Lib.hid (fun user pass W (hf : Fr No w1 W) => enter_any cs smpC user pass W (New w w1) (hst W hf).1 (q_r (hst W hf).2))
  have hbk := Blk.new w1 28 cs
  have hF := (Fr.refl No w1).alloc (.cells cs 28)
  obtain ⟨AC, kC, AG, kG, AU, kU, AA, kA, s0, s1, s2, s3, s4, s5, s6, s7, s8, s9, rfl, -, -, -, -⟩ := q_lit hq
  clear hst hq
  generalize smpC.2.2.2.1.length = nA at HGR HPI HLV HMA HSE HEN hbk hF ⊢
  generalize smpC.2.2.1.length = nU at HGR HPI HLV HMA HSE HEN hbk hF ⊢
  generalize smpC.2.1.length = nG at HGR HPI HLV HMA HSE HEN hbk hF ⊢
  generalize smpC.1.length = nC at HGR HPI HLV HMA HSE HEN hbk hF ⊢
  have HB := Lib.hid hbk
  have F := Lib.hid hF
  have F0 := Lib.hid hf1
  clear hbk hF hf1
  have y0 := HB.out.cell 0
  have y1 := HB.out.cell 1
  have y2 := HB.out.cell 2
  have y3 := HB.out.cell 3
  have y4 := HB.out.cell 4
  have y5 := HB.out.cell 5
  have y6 := HB.out.cell 6
  have y7 := HB.out.cell 7
  have y8 := HB.out.cell 8
  have y9 := HB.out.cell 9
  have y10 := HB.out.cell 10
  have y11 := HB.out.cell 11
  have y12 := HB.out.cell 12
  have y13 := HB.out.cell 13
  simp only [List.getElem?_toArray, List.getElem?_cons_zero, List.getElem?_cons_succ] at y0 y1 y2 y3 y4 y5 y6 y7 y8 y9 y10 y11 y12 y13
  go_wp2_with fail
  have hc := fun W (hf : Fr No w1 W) => HGR.out [119, 101, 98, 115] W hf
  simp only [v5] at hc
  refine (hc _ F.out).mono ?_
  clear hc
  rintro e w2 ⟨u1, rfl, ho, hs⟩
  have hf : Fr No _ w2 := hs.1
  have F9 := Lib.hid (F.out.then_no hf)
  have HB9 := Lib.hid (HB.out.fr hf (fun h => h))
  have O1 := Lib.hid ho
  clear ho
  clear hs
  clear hf F HB y0 y1 y2 y3 y4 y5 y6 y7 y8 y9 y10 y11 y12 y13
  have F := F9
  have HB := HB9
  clear F9 HB9
  have y0 := HB.out.cell 0
  have y1 := HB.out.cell 1
  have y2 := HB.out.cell 2
  have y3 := HB.out.cell 3
  have y4 := HB.out.cell 4
  have y5 := HB.out.cell 5
  have y6 := HB.out.cell 6
  have y7 := HB.out.cell 7
  have y8 := HB.out.cell 8
  have y9 := HB.out.cell 9
  have y10 := HB.out.cell 10
  have y11 := HB.out.cell 11
  have y12 := HB.out.cell 12
  have y13 := HB.out.cell 13
  simp only [List.getElem?_toArray, List.getElem?_cons_zero, List.getElem?_cons_succ] at y0 y1 y2 y3 y4 y5 y6 y7 y8 y9 y10 y11 y12 y13
  go_wp2_with fail
  have hc := fun W (hf : Fr No w1 W) => HGR.out [120] W hf
  simp only [v6] at hc
  refine (hc _ F.out).mono ?_
  clear hc
  rintro e w2 ⟨u2, rfl, ho, hs⟩
  have hf : Fr No _ w2 := hs.1
  have F9 := Lib.hid (F.out.then_no hf)
  have HB9 := Lib.hid (HB.out.fr hf (fun h => h))
  have O1 := Lib.hid (own_fr O1.out hf (fun b hb h => h))
  clear ho
  clear hs
  clear hf F HB y0 y1 y2 y3 y4 y5 y6 y7 y8 y9 y10 y11 y12 y13
  have F := F9
  have HB := HB9
  clear F9 HB9
  have y0 := HB.out.cell 0
  have y1 := HB.out.cell 1
  have y2 := HB.out.cell 2
  have y3 := HB.out.cell 3
  have y4 := HB.out.cell 4
  have y5 := HB.out.cell 5
  have y6 := HB.out.cell 6
  have y7 := HB.out.cell 7
  have y8 := HB.out.cell 8
  have y9 := HB.out.cell 9
  have y10 := HB.out.cell 10
  have y11 := HB.out.cell 11
  have y12 := HB.out.cell 12
  have y13 := HB.out.cell 13
  simp only [List.getElem?_toArray, List.getElem?_cons_zero, List.getElem?_cons_succ] at y0 y1 y2 y3 y4 y5 y6 y7 y8 y9 y10 y11 y12 y13
  go_wp2_with fail
  have hc := fun W (hf : Fr No w1 W) => HPI.out [97, 110, 110] [119, 101, 98, 50] (by decide) (by decide) W hf
  simp only [v7] at hc
  refine (hc _ F.out).mono ?_
  clear hc
  rintro e w2 ⟨rfl, h⟩
  have hf : Fr No _ w2 := h
  have F9 := Lib.hid (F.out.then_no hf)
  have HB9 := Lib.hid (HB.out.fr hf (fun h => h))
  have O1 := Lib.hid (own_fr O1.out hf (fun b hb h => h))
  clear h
  clear hf F HB y0 y1 y2 y3 y4 y5 y6 y7 y8 y9 y10 y11 y12 y13
  have F := F9
  have HB := HB9
  clear F9 HB9
  have y0 := HB.out.cell 0
  have y1 := HB.out.cell 1
  have y2 := HB.out.cell 2
  have y3 := HB.out.cell 3
  have y4 := HB.out.cell 4
  have y5 := HB.out.cell 5
  have y6 := HB.out.cell 6
  have y7 := HB.out.cell 7
  have y8 := HB.out.cell 8
  have y9 := HB.out.cell 9
  have y10 := HB.out.cell 10
  have y11 := HB.out.cell 11
  have y12 := HB.out.cell 12
  have y13 := HB.out.cell 13
  simp only [List.getElem?_toArray, List.getElem?_cons_zero, List.getElem?_cons_succ] at y0 y1 y2 y3 y4 y5 y6 y7 y8 y9 y10 y11 y12 y13
  go_wp2_with fail
  have hc := fun W (hf : Fr No w1 W) => HPI.out [97, 110, 110] [119, 101, 98] (by decide) (by decide) W hf
  simp only [v8] at hc
  refine (hc _ F.out).mono ?_
  clear hc
  rintro e w2 ⟨rfl, h⟩
  have hf : Fr No _ w2 := h
  have F9 := Lib.hid (F.out.then_no hf)
  have HB9 := Lib.hid (HB.out.fr hf (fun h => h))
  have O1 := Lib.hid (own_fr O1.out hf (fun b hb h => h))
  clear h
  clear hf F HB y0 y1 y2 y3 y4 y5 y6 y7 y8 y9 y10 y11 y12 y13
  have F := F9
  have HB := HB9
  clear F9 HB9
  have y0 := HB.out.cell 0
  have y1 := HB.out.cell 1
  have y2 := HB.out.cell 2
  have y3 := HB.out.cell 3
  have y4 := HB.out.cell 4
  have y5 := HB.out.cell 5
  have y6 := HB.out.cell 6
  have y7 := HB.out.cell 7
  have y8 := HB.out.cell 8
  have y9 := HB.out.cell 9
  have y10 := HB.out.cell 10
  have y11 := HB.out.cell 11
  have y12 := HB.out.cell 12
  have y13 := HB.out.cell 13
  simp only [List.getElem?_toArray, List.getElem?_cons_zero, List.getElem?_cons_succ] at y0 y1 y2 y3 y4 y5 y6 y7 y8 y9 y10 y11 y12 y13
  go_wp2_with fail
  have hc := fun W (hf : Fr No w1 W) => HPI.out [97, 110, 110] [100, 98] (by decide) (by decide) W hf
  simp only [v9] at hc
  refine (hc _ F.out).mono ?_
  clear hc
  rintro e w2 ⟨rfl, h⟩
  have hf : Fr No _ w2 := h
  have F9 := Lib.hid (F.out.then_no hf)
  have HB9 := Lib.hid (HB.out.fr hf (fun h => h))
  have O1 := Lib.hid (own_fr O1.out hf (fun b hb h => h))
  clear h
  clear hf F HB y0 y1 y2 y3 y4 y5 y6 y7 y8 y9 y10 y11 y12 y13
  have F := F9
  have HB := HB9
  clear F9 HB9
  have y0 := HB.out.cell 0
  have y1 := HB.out.cell 1
  have y2 := HB.out.cell 2
  have y3 := HB.out.cell 3
  have y4 := HB.out.cell 4
  have y5 := HB.out.cell 5
  have y6 := HB.out.cell 6
  have y7 := HB.out.cell 7
  have y8 := HB.out.cell 8
  have y9 := HB.out.cell 9
  have y10 := HB.out.cell 10
  have y11 := HB.out.cell 11
  have y12 := HB.out.cell 12
  have y13 := HB.out.cell 13
  simp only [List.getElem?_toArray, List.getElem?_cons_zero, List.getElem?_cons_succ] at y0 y1 y2 y3 y4 y5 y6 y7 y8 y9 y10 y11 y12 y13
  go_wp2_with fail
  have hc := fun W (hf : Fr No w1 W) => HPI.out [98, 111, 98] [119, 101, 98, 49] (by decide) (by decide) W hf
  simp only [v10] at hc
  refine (hc _ F.out).mono ?_
  clear hc
  rintro e w2 ⟨rfl, h⟩
  have hf : Fr No _ w2 := h
  have F9 := Lib.hid (F.out.then_no hf)
  have HB9 := Lib.hid (HB.out.fr hf (fun h => h))
  have O1 := Lib.hid (own_fr O1.out hf (fun b hb h => h))
  clear h
  clear hf F HB y0 y1 y2 y3 y4 y5 y6 y7 y8 y9 y10 y11 y12 y13
  have F := F9
  have HB := HB9
  clear F9 HB9
  have y0 := HB.out.cell 0
  have y1 := HB.out.cell 1
  have y2 := HB.out.cell 2
  have y3 := HB.out.cell 3
  have y4 := HB.out.cell 4
  have y5 := HB.out.cell 5
  have y6 := HB.out.cell 6
  have y7 := HB.out.cell 7
  have y8 := HB.out.cell 8
  have y9 := HB.out.cell 9
  have y10 := HB.out.cell 10
  have y11 := HB.out.cell 11
  have y12 := HB.out.cell 12
  have y13 := HB.out.cell 13
  simp only [List.getElem?_toArray, List.getElem?_cons_zero, List.getElem?_cons_succ] at y0 y1 y2 y3 y4 y5 y6 y7 y8 y9 y10 y11 y12 y13
  go_wp2_with fail
  have hc := fun W (hf : Fr No w1 W) => HLV.out [97, 110, 110] [119, 101, 98, 49] (by decide) (by decide) W hf
  simp only [v1] at hc
  refine (hc _ F.out).mono ?_
  clear hc
  rintro e w2 ⟨rfl, h⟩
  have hf : Fr No _ w2 := h
  have F9 := Lib.hid (F.out.then_no hf)
  have HB9 := Lib.hid (HB.out.fr hf (fun h => h))
  have O1 := Lib.hid (own_fr O1.out hf (fun b hb h => h))
  clear h
  clear hf F HB y0 y1 y2 y3 y4 y5 y6 y7 y8 y9 y10 y11 y12 y13
  have F := F9
  have HB := HB9
  clear F9 HB9
  have y0 := HB.out.cell 0
  have y1 := HB.out.cell 1
  have y2 := HB.out.cell 2
  have y3 := HB.out.cell 3
  have y4 := HB.out.cell 4
  have y5 := HB.out.cell 5
  have y6 := HB.out.cell 6
  have y7 := HB.out.cell 7
  have y8 := HB.out.cell 8
  have y9 := HB.out.cell 9
  have y10 := HB.out.cell 10
  have y11 := HB.out.cell 11
  have y12 := HB.out.cell 12
  have y13 := HB.out.cell 13
  simp only [List.getElem?_toArray, List.getElem?_cons_zero, List.getElem?_cons_succ] at y0 y1 y2 y3 y4 y5 y6 y7 y8 y9 y10 y11 y12 y13
  go_wp2_with fail
  have hc := fun W (hf : Fr No w1 W) => HLV.out [97, 110, 110] [100, 98] (by decide) (by decide) W hf
  simp only [v2] at hc
  refine (hc _ F.out).mono ?_
  clear hc
  rintro e w2 ⟨rfl, h⟩
  have hf : Fr No _ w2 := h
  have F9 := Lib.hid (F.out.then_no hf)
  have HB9 := Lib.hid (HB.out.fr hf (fun h => h))
  have O1 := Lib.hid (own_fr O1.out hf (fun b hb h => h))
  clear h
  clear hf F HB y0 y1 y2 y3 y4 y5 y6 y7 y8 y9 y10 y11 y12 y13
  have F := F9
  have HB := HB9
  clear F9 HB9
  have y0 := HB.out.cell 0
  have y1 := HB.out.cell 1
  have y2 := HB.out.cell 2
  have y3 := HB.out.cell 3
  have y4 := HB.out.cell 4
  have y5 := HB.out.cell 5
  have y6 := HB.out.cell 6
  have y7 := HB.out.cell 7
  have y8 := HB.out.cell 8
  have y9 := HB.out.cell 9
  have y10 := HB.out.cell 10
  have y11 := HB.out.cell 11
  have y12 := HB.out.cell 12
  have y13 := HB.out.cell 13
  simp only [List.getElem?_toArray, List.getElem?_cons_zero, List.getElem?_cons_succ] at y0 y1 y2 y3 y4 y5 y6 y7 y8 y9 y10 y11 y12 y13
  go_wp2_with fail
  have hc := fun W (hf : Fr No w1 W) => HLV.out [98, 111, 98] [100, 98] (by decide) (by decide) W hf
  simp only [v3] at hc
  refine (hc _ F.out).mono ?_
  clear hc
  rintro e w2 ⟨rfl, h⟩
  have hf : Fr No _ w2 := h
  have F9 := Lib.hid (F.out.then_no hf)
  have HB9 := Lib.hid (HB.out.fr hf (fun h => h))
  have O1 := Lib.hid (own_fr O1.out hf (fun b hb h => h))
  clear h
  clear hf F HB y0 y1 y2 y3 y4 y5 y6 y7 y8 y9 y10 y11 y12 y13
  have F := F9
  have HB := HB9
  clear F9 HB9
  have y0 := HB.out.cell 0
  have y1 := HB.out.cell 1
  have y2 := HB.out.cell 2
  have y3 := HB.out.cell 3
  have y4 := HB.out.cell 4
  have y5 := HB.out.cell 5
  have y6 := HB.out.cell 6
  have y7 := HB.out.cell 7
  have y8 := HB.out.cell 8
  have y9 := HB.out.cell 9
  have y10 := HB.out.cell 10
  have y11 := HB.out.cell 11
  have y12 := HB.out.cell 12
  have y13 := HB.out.cell 13
  simp only [List.getElem?_toArray, List.getElem?_cons_zero, List.getElem?_cons_succ] at y0 y1 y2 y3 y4 y5 y6 y7 y8 y9 y10 y11 y12 y13
  go_wp2_with fail
  have hc := fun W (hf : Fr No w1 W) => HSE.out [97, 110, 110] (by decide) W hf
  simp only [v4] at hc
  refine (hc _ F.out).mono ?_
  clear hc
  rintro e w2 ⟨u3, rfl, ho, hs⟩
  have hf : Fr No _ w2 := hs.1
  have F9 := Lib.hid (F.out.then_no hf)
  have HB9 := Lib.hid (HB.out.fr hf (fun h => h))
  have O1 := Lib.hid (own_fr O1.out hf (fun b hb h => h))
  have O3 := Lib.hid ho
  clear ho
  clear hs
  clear hf F HB y0 y1 y2 y3 y4 y5 y6 y7 y8 y9 y10 y11 y12 y13
  have F := F9
  have HB := HB9
  clear F9 HB9
  have y0 := HB.out.cell 0
  have y1 := HB.out.cell 1
  have y2 := HB.out.cell 2
  have y3 := HB.out.cell 3
  have y4 := HB.out.cell 4
  have y5 := HB.out.cell 5
  have y6 := HB.out.cell 6
  have y7 := HB.out.cell 7
  have y8 := HB.out.cell 8
  have y9 := HB.out.cell 9
  have y10 := HB.out.cell 10
  have y11 := HB.out.cell 11
  have y12 := HB.out.cell 12
  have y13 := HB.out.cell 13
  simp only [List.getElem?_toArray, List.getElem?_cons_zero, List.getElem?_cons_succ] at y0 y1 y2 y3 y4 y5 y6 y7 y8 y9 y10 y11 y12 y13
  go_wp2_with fail
  refine (same_lit _ _ O3.out).mono ?_
  rintro e w2 ⟨rfl, hf⟩
  have F9 := Lib.hid (F.out.then_no hf)
  have HB9 := Lib.hid (HB.out.fr hf (fun h => h))
  have O1 := Lib.hid (own_fr O1.out hf (fun b hb h => h))
  clear hf F HB y0 y1 y2 y3 y4 y5 y6 y7 y8 y9 y10 y11 y12 y13
  have F := F9
  have HB := HB9
  clear F9 HB9
  have y0 := HB.out.cell 0
  have y1 := HB.out.cell 1
  have y2 := HB.out.cell 2
  have y3 := HB.out.cell 3
  have y4 := HB.out.cell 4
  have y5 := HB.out.cell 5
  have y6 := HB.out.cell 6
  have y7 := HB.out.cell 7
  have y8 := HB.out.cell 8
  have y9 := HB.out.cell 9
  have y10 := HB.out.cell 10
  have y11 := HB.out.cell 11
  have y12 := HB.out.cell 12
  have y13 := HB.out.cell 13
  simp only [List.getElem?_toArray, List.getElem?_cons_zero, List.getElem?_cons_succ] at y0 y1 y2 y3 y4 y5 y6 y7 y8 y9 y10 y11 y12 y13
  go_wp2_with fail
  refine (same_lit _ _ O1.out).mono ?_
  rintro e w2 ⟨rfl, hf⟩
  have F9 := Lib.hid (F.out.then_no hf)
  have HB9 := Lib.hid (HB.out.fr hf (fun h => h))
  clear hf F HB y0 y1 y2 y3 y4 y5 y6 y7 y8 y9 y10 y11 y12 y13
  have F := F9
  have HB := HB9
  clear F9 HB9
  have y0 := HB.out.cell 0
  have y1 := HB.out.cell 1
  have y2 := HB.out.cell 2
  have y3 := HB.out.cell 3
  have y4 := HB.out.cell 4
  have y5 := HB.out.cell 5
  have y6 := HB.out.cell 6
  have y7 := HB.out.cell 7
  have y8 := HB.out.cell 8
  have y9 := HB.out.cell 9
  have y10 := HB.out.cell 10
  have y11 := HB.out.cell 11
  have y12 := HB.out.cell 12
  have y13 := HB.out.cell 13
  simp only [List.getElem?_toArray, List.getElem?_cons_zero, List.getElem?_cons_succ] at y0 y1 y2 y3 y4 y5 y6 y7 y8 y9 y10 y11 y12 y13
  go_wp2_with fail
  have hc := fun W (hf : Fr No w1 W) => HEN.out [97, 110, 110] [120] W hf
  simp only [v11] at hc
  refine (hc _ F.out).mono ?_
  clear hc
  rintro e w2 ⟨rfl, h⟩
  have hf : Fr No _ w2 := h
  have F9 := Lib.hid (F.out.then_no hf)
  have HB9 := Lib.hid (HB.out.fr hf (fun h => h))
  clear h
  clear hf F HB y0 y1 y2 y3 y4 y5 y6 y7 y8 y9 y10 y11 y12 y13
  have F := F9
  have HB := HB9
  clear F9 HB9
  have y0 := HB.out.cell 0
  have y1 := HB.out.cell 1
  have y2 := HB.out.cell 2
  have y3 := HB.out.cell 3
  have y4 := HB.out.cell 4
  have y5 := HB.out.cell 5
  have y6 := HB.out.cell 6
  have y7 := HB.out.cell 7
  have y8 := HB.out.cell 8
  have y9 := HB.out.cell 9
  have y10 := HB.out.cell 10
  have y11 := HB.out.cell 11
  have y12 := HB.out.cell 12
  have y13 := HB.out.cell 13
  simp only [List.getElem?_toArray, List.getElem?_cons_zero, List.getElem?_cons_succ] at y0 y1 y2 y3 y4 y5 y6 y7 y8 y9 y10 y11 y12 y13
  go_wp2_with fail
  have hc := fun W (hf : Fr No w1 W) => HEN.out [97, 110, 110] [121] W hf
  simp only [v12] at hc
  refine (hc _ F.out).mono ?_
  clear hc
  rintro e w2 ⟨rfl, h⟩
  have hf : Fr No _ w2 := h
  have F9 := Lib.hid (F.out.then_no hf)
  have HB9 := Lib.hid (HB.out.fr hf (fun h => h))
  clear h
  clear hf F HB y0 y1 y2 y3 y4 y5 y6 y7 y8 y9 y10 y11 y12 y13
  have F := F9
  have HB := HB9
  clear F9 HB9
  have y0 := HB.out.cell 0
  have y1 := HB.out.cell 1
  have y2 := HB.out.cell 2
  have y3 := HB.out.cell 3
  have y4 := HB.out.cell 4
  have y5 := HB.out.cell 5
  have y6 := HB.out.cell 6
  have y7 := HB.out.cell 7
  have y8 := HB.out.cell 8
  have y9 := HB.out.cell 9
  have y10 := HB.out.cell 10
  have y11 := HB.out.cell 11
  have y12 := HB.out.cell 12
  have y13 := HB.out.cell 13
  simp only [List.getElem?_toArray, List.getElem?_cons_zero, List.getElem?_cons_succ] at y0 y1 y2 y3 y4 y5 y6 y7 y8 y9 y10 y11 y12 y13
  go_wp2_with fail
  have hc := fun W (hf : Fr No w1 W) => HEN.out [98, 111, 98] [120] W hf
  simp only [v13] at hc
  refine (hc _ F.out).mono ?_
  clear hc
  rintro e w2 ⟨rfl, h⟩
  have hf : Fr No _ w2 := h
  have F9 := Lib.hid (F.out.then_no hf)
  have HB9 := Lib.hid (HB.out.fr hf (fun h => h))
  clear h
  clear hf F HB y0 y1 y2 y3 y4 y5 y6 y7 y8 y9 y10 y11 y12 y13
  have F := F9
  have HB := HB9
  clear F9 HB9
  have y0 := HB.out.cell 0
  have y1 := HB.out.cell 1
  have y2 := HB.out.cell 2
  have y3 := HB.out.cell 3
  have y4 := HB.out.cell 4
  have y5 := HB.out.cell 5
  have y6 := HB.out.cell 6
  have y7 := HB.out.cell 7
  have y8 := HB.out.cell 8
  have y9 := HB.out.cell 9
  have y10 := HB.out.cell 10
  have y11 := HB.out.cell 11
  have y12 := HB.out.cell 12
  have y13 := HB.out.cell 13
  simp only [List.getElem?_toArray, List.getElem?_cons_zero, List.getElem?_cons_succ] at y0 y1 y2 y3 y4 y5 y6 y7 y8 y9 y10 y11 y12 y13
  go_wp2_with fail
  have hc := fun W (hf : Fr No w1 W) => HMA.out [97, 110, 110] [119, 101, 98, 49] 2 (by decide) (by decide) W hf
  simp only [v1, show decide ((2 : Int) ≤ 2) = true from rfl] at hc
  refine (hc _ F.out).mono ?_
  clear hc
  rintro e w2 ⟨rfl, h⟩
  have hf : Fr No _ w2 := h
  have F9 := Lib.hid (F.out.then_no hf)
  have HB9 := Lib.hid (HB.out.fr hf (fun h => h))
  clear h
  clear hf F HB y0 y1 y2 y3 y4 y5 y6 y7 y8 y9 y10 y11 y12 y13
  have F := F9
  have HB := HB9
  clear F9 HB9
  have y0 := HB.out.cell 0
  have y1 := HB.out.cell 1
  have y2 := HB.out.cell 2
  have y3 := HB.out.cell 3
  have y4 := HB.out.cell 4
  have y5 := HB.out.cell 5
  have y6 := HB.out.cell 6
  have y7 := HB.out.cell 7
  have y8 := HB.out.cell 8
  have y9 := HB.out.cell 9
  have y10 := HB.out.cell 10
  have y11 := HB.out.cell 11
  have y12 := HB.out.cell 12
  have y13 := HB.out.cell 13
  simp only [List.getElem?_toArray, List.getElem?_cons_zero, List.getElem?_cons_succ] at y0 y1 y2 y3 y4 y5 y6 y7 y8 y9 y10 y11 y12 y13
  go_wp2_with fail
  have hc := fun W (hf : Fr No w1 W) => HMA.out [97, 110, 110] [119, 101, 98, 49] 3 (by decide) (by decide) W hf
  simp only [v1, show decide ((3 : Int) ≤ 2) = false from rfl] at hc
  refine (hc _ F.out).mono ?_
  clear hc
  rintro e w2 ⟨rfl, h⟩
  have hf : Fr No _ w2 := h
  have F9 := Lib.hid (F.out.then_no hf)
  have HB9 := Lib.hid (HB.out.fr hf (fun h => h))
  clear h
  clear hf F HB y0 y1 y2 y3 y4 y5 y6 y7 y8 y9 y10 y11 y12 y13
  have F := F9
  have HB := HB9
  clear F9 HB9
  go_wp2_with fail
  go_ret
  exact ⟨rfl, F0.out.then_no F.out⟩
end Conf
end Go.Proofs.Ytompphakagoaeaa
