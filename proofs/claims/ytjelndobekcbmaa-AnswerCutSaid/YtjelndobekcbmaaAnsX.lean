/- Answer: the example. -/
import Derived.Test.YtjelndobekcbmaaAnsR
import Derived.Test.YtjelndobekcbmaaAnsS
namespace Go.Proofs.Ytjelndobekcbmaa
open Go.RowKit
set_option linter.unusedVariables false
set_option linter.unusedSimpArgs false
namespace Ans
open Digit Sls
theorem p210 : putR 210 = [50, 49, 48] := by
  show dec 210 = _
  rw [dec_step, if_neg (by decide), dec_step, if_neg (by decide), dec_step, if_pos (by decide)]; rfl
theorem p211 : putR 211 = [50, 49, 49] := by
  show dec 211 = _
  rw [dec_step, if_neg (by decide), dec_step, if_neg (by decide), dec_step, if_pos (by decide)]; rfl
theorem p220 : putR 220 = [50, 50, 48] := by
  show dec 220 = _
  rw [dec_step, if_neg (by decide), dec_step, if_neg (by decide), dec_step, if_pos (by decide)]; rfl
def wL : List Str := [[119, 101, 98, 49, 32, 117, 112], [97, 0]]
def wK : Str := [50, 49, 48, 45, 119, 101, 98, 49, 32, 117, 112, 13, 10, 50, 49, 48, 32, 97, 92, 120, 48, 48, 13, 10]
theorem w_put : putB 210 wL = wK := by
  have s1 : showR [119, 101, 98, 49, 32, 117, 112] = [119, 101, 98, 49, 32, 117, 112] := by decide
  have s2 : showR [97, 0] = [97, 92, 120, 48, 48] := by decide
  simp only [putB, wL, row, p210, s1, s2]
  rfl
theorem w_putA : putA (210, wL) = (wK, 0) := by
  unfold putA
  rw [if_neg (by decide), if_neg (by decide)]
  have : filled wL = wL := rfl
  rw [this, w_put]
theorem w_read : readA (wK ++ [120]) = ((210, wL), 24, 0) := by
  have h := read_back (n := 210) (by omega) [120] wL (wK ++ [120]).length.succ [] 0 [] (by decide) (by decide) (.inl rfl) (by decide)
  rw [w_put] at h
  exact h
theorem w_cut : readA [50, 49, 48, 45, 97, 13, 10] = ((0, []), 0, 13) := by
  have h := read_cut (n := 210) (by omega) [[97], [98]] 8 [] 0 [] 7 (.inl rfl) (by decide) (by
    have s1 : showR [97] = [97] := by decide
    have s2 : showR [98] = [98] := by decide
    simp only [putB, row, p210, s1, s2]
    decide)
  have e : (putB 210 [[97], [98]]).take 7 = [50, 49, 48, 45, 97, 13, 10] := by
    have s1 : showR [97] = [97] := by decide
    have s2 : showR [98] = [98] := by decide
    simp only [putB, row, p210, s1, s2]
    rfl
  rw [e] at h
  exact h
theorem w_form : readA [50, 49, 48, 45, 97, 13, 10, 50, 49, 49, 32, 98, 13, 10] = ((0, []), 0, 3) := by
  have s1 : showR [97] = [97] := by decide
  have s2 : showR [98] = [98] := by decide
  obtain ⟨p1, p2, p3, p4, p5⟩ := lin_parts (n := 210) (by omega) 45 [97]
  obtain ⟨q1, q2, q3, q4, q5⟩ := lin_parts (n := 211) (by omega) 32 [98]
  have e1 : lin 210 45 [97] = [50, 49, 48, 45, 97] := by unfold lin; rw [p210, s1]; rfl
  have e2 : lin 211 32 [98] = [50, 49, 49, 32, 98] := by unfold lin; rw [p211, s2]; rfl
  rw [e1] at p1 p2 p3 p4
  rw [e2] at q1 q2 q3 q4
  unfold readA
  show readF 15 _ _ _ _ = _
  unfold readF
  rw [show lineR (([50, 49, 48, 45, 97, 13, 10, 50, 49, 49, 32, 98, 13, 10] : Str).drop 0) = some [50, 49, 48, 45, 97] from by decide]
  simp only
  rw [p2, p3, p4, if_neg (fun h => h.elim p1 (get_ite (.inr rfl))), if_neg (by rintro (h | h | h | h); exact h rfl; exact h rfl; (simp only at h; omega); (simp only at h; omega)), if_neg (by decide), if_neg (by decide)]
  show readF 14 _ 7 _ _ = _
  unfold readF
  rw [show lineR (([50, 49, 48, 45, 97, 13, 10, 50, 49, 49, 32, 98, 13, 10] : Str).drop 7) = some [50, 49, 49, 32, 98] from by decide]
  simp only
  rw [q2, q3, q4, if_neg (fun h => h.elim q1 (get_ite (.inl rfl))), if_pos (.inr (.inr (.inr ⟨by decide, by decide⟩)))]
theorem w_220 : putA (220, []) = ([50, 50, 48, 32, 13, 10], 0) := by
  unfold putA
  rw [if_neg (by decide), if_neg (by decide)]
  simp only [filled, if_true, putB, row, p220]
  rfl
theorem w_99 : putA (99, []) = ([], 2) := by
  unfold putA
  rw [if_pos (by decide)]
theorem wL_ok : Okr wL := ⟨by decide, by decide⟩
theorem wL_sl (w : World) : RSl 1 RStr (w.alloc (.cells #[.string ⟨#[119, 101, 98, 49, 32, 117, 112]⟩, .string ⟨#[97, 0]⟩] 9)) (New w (w.alloc (.cells #[.string ⟨#[119, 101, 98, 49, 32, 117, 112]⟩, .string ⟨#[97, 0]⟩] 9))) [.slice (some ⟨w.heap.size, 0, none⟩) 2 2] wL :=
  grl_sl (Grow.lit w 9 1 encL wL rfl (by unfold maxLen; decide)) (fun x hx => by
    have := wL_ok.2 x hx
    unfold maxLen; omega)
set_option maxRecDepth 100000 in
set_option maxHeartbeats 4000000 in
theorem works_any (w : World) : Calls Try.prog 21 #[] w fun e w' => e = .returned (.bool true) ∧ Fr No w w' := by
  have H0 := Lib.hid (wL_sl w)
  have F0 := Lib.hid ((Fr.refl No w).alloc (.cells #[.string ⟨#[119, 101, 98, 49, 32, 117, 112]⟩, .string ⟨#[97, 0]⟩] 9))
  go_enter Try.func21, Try.ntmps21
  go_wp2_with fail
  refine (put_any 210 _ wL _ _ (fun k hk => hk.2) H0.out wL_ok (by omega)).mono ?_
  unfold PutPost
  rw [w_putA]
  rintro e w1 ⟨rfl, hf⟩
  have F1 := Lib.hid (F0.out.then_no hf)
  clear hf H0 F0
  have HK := Lib.hid (show wK = [50, 49, 48, 45, 119, 101, 98, 49, 32, 117, 112, 13, 10, 50, 49, 48, 32, 97, 92, 120, 48, 48, 13, 10] from rfl)
  have hkl : wK.length ≤ 24 := by decide
  have hba : (⟨wK.toArray⟩ : ByteArray) ++ ⟨#[120]⟩ = ⟨(wK ++ [120]).toArray⟩ := by rw [show (⟨#[120]⟩ : ByteArray) = ⟨([120] : Str).toArray⟩ from rfl, ba_app]
  go_wp2_with fail
  refine (read_any (wK ++ [120]) _ (by decide)).mono ?_
  unfold ReadPost
  rw [w_read]
  rintro e w2 ⟨v2, rfl, hr, hf⟩
  have F2 := Lib.hid (F1.out.then_no hf)
  obtain ⟨A2, c2, rfl, hd1, hd2⟩ := hr.slice
  have R2 := Lib.hid hr
  clear hf hr F1 hba
  go_wp2_with fail
  have B2 := Lib.hid (Blk.new w2 36 #[.int .i64 210, .slice A2 wL.length c2])
  have E2 := Lib.hid (Fr.refl No (w2.alloc (.cells #[.int .i64 210, .slice A2 wL.length c2] 36)))
  refine (read_any [50, 49, 48, 45, 97, 13, 10] _ (by decide)).mono ?_
  unfold ReadPost
  rw [w_cut]
  rintro e w3 ⟨v3, rfl, hr, hf⟩
  have E3 := Lib.hid (E2.out.then_no hf)
  clear hf
  obtain ⟨A3, c3, rfl, -, -⟩ := hr.slice
  clear hr
  have G3 := Lib.hid (E3.out.alloc (.cells #[.int .i64 0, .slice A3 ([] : List Str).length c3] 36))
  go_wp2_with fail
  refine (read_any [50, 49, 48, 45, 97, 13, 10, 50, 49, 49, 32, 98, 13, 10] _ (by decide)).mono ?_
  unfold ReadPost
  rw [w_form]
  rintro e w4 ⟨v4, rfl, hr, hf⟩
  have E4 := Lib.hid (G3.out.then_no hf)
  clear hf
  obtain ⟨A4, c4, rfl, -, -⟩ := hr.slice
  clear hr G3 E3
  have G4 := Lib.hid (E4.out.alloc (.cells #[.int .i64 0, .slice A4 ([] : List Str).length c4] 36))
  go_wp2_with fail
  refine (put_any 220 _ [] _ No (fun k hk => hk.elim) nil_sl ⟨by decide, (fun s hs => by cases hs)⟩ (by omega)).mono ?_
  unfold PutPost
  rw [w_220]
  rintro e w5 ⟨rfl, hf⟩
  have E5 := Lib.hid (G4.out.then_no hf)
  clear hf G4 E4
  go_wp2_with fail
  refine (put_any 99 _ [] _ No (fun k hk => hk.elim) nil_sl ⟨by decide, (fun s hs => by cases hs)⟩ (by omega)).mono ?_
  unfold PutPost
  rw [w_99]
  rintro e w6 ⟨rfl, hf⟩
  have E6 := Lib.hid (E5.out.then_no hf)
  clear hf E5
  have K6 := Lib.hid (B2.out.fr E6.out (fun h => h))
  have k0 := K6.out.cell 0
  have k1 := K6.out.cell 1
  have klt := K6.out.lt
  simp only [List.getElem?_toArray, List.getElem?_cons_zero, List.getElem?_cons_succ] at k0 k1
  have F6 := Lib.hid ((F2.out.alloc (.cells #[.int .i64 210, .slice A2 wL.length c2] 36)).then_no E6.out)
  have E7 := Lib.hid ((((Fr.refl No w2).alloc (.cells #[.int .i64 210, .slice A2 wL.length c2] 36)).then_no E6.out).alloc (.cells #[.string ⟨#[119, 101, 98, 49, 32, 117, 112]⟩, .string ⟨#[97, 0]⟩] 9))
  have R7 := Lib.hid (strs_go R2.out (S' := fun k => k < (w6.alloc (.cells #[.string ⟨#[119, 101, 98, 49, 32, 117, 112]⟩, .string ⟨#[97, 0]⟩] 9)).heap.size) (Kept.of_no E7.out (fun k hk => hk.2)) (fun k hk => Nat.lt_of_lt_of_le hk.2 E7.out.size))
  have Q7 := Lib.hid (strs_go (wL_sl w6) (S' := fun k => k < (w6.alloc (.cells #[.string ⟨#[119, 101, 98, 49, 32, 117, 112]⟩, .string ⟨#[97, 0]⟩] 9)).heap.size) (Kept.refl _ _) (fun k hk => hk.2))
  have G7 := Lib.hid (F6.out.alloc (.cells #[.string ⟨#[119, 101, 98, 49, 32, 117, 112]⟩, .string ⟨#[97, 0]⟩] 9))
  clear B2 R2 E2 E6 E7 F2 HK
  have hwl : wL.length = 2 := rfl
  have hwk : wK.length = 24 := rfl
  have hwe : (wK == [50, 49, 48, 45, 119, 101, 98, 49, 32, 117, 112, 13, 10, 50, 49, 48, 32, 97, 92, 120, 48, 48, 13, 10]) = true := by decide
  go_wp2_with fail
  refine (same_yes 210 _ _ wL wL _ _ (fun k hk => hk) R7.out Q7.out rfl).mono ?_
  rintro e w8 ⟨rfl, hf⟩
  have F8 := Lib.hid (G7.out.then_no hf)
  clear hf
  go_wp2_with fail
  go_ret
  exact ⟨rfl, F8.out⟩
end Ans
end Go.Proofs.Ytjelndobekcbmaa
