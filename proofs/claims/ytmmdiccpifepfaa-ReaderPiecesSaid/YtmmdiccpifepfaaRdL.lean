/- Reader: the law's example. Printed by gen_rdl.py. -/
import Derived.Test.YtmmdiccpifepfaaRdZ
import Derived.Test.YtmmdiccpifepfaaAnsX
namespace Go.Proofs.Ytmmdiccpifepfaa
open Go.RowKit
set_option linter.unusedVariables false
set_option linter.unusedSimpArgs false
namespace Rd
open Ans Digit Sls Word
open Mux (run stepR twice toldB Tok feedR)
theorem q220 : putR 220 = [50, 50, 48] := by
  show dec 220 = _
  rw [dec_step, if_neg (by decide), dec_step, if_neg (by decide), dec_step, if_pos (by decide)]; rfl
theorem k220 : putB 220 [[119, 104, 101, 101, 108, 104, 111, 117, 115, 101]] = [50, 50, 48, 32, 119, 104, 101, 101, 108, 104, 111, 117, 115, 101, 13, 10] := by
  have s1 : showR [119, 104, 101, 101, 108, 104, 111, 117, 115, 101] = [119, 104, 101, 101, 108, 104, 111, 117, 115, 101] := by decide
  simp only [putB, row, q220, s1]
  rfl
theorem ka220 : putA (220, [[119, 104, 101, 101, 108, 104, 111, 117, 115, 101]]) = ([50, 50, 48, 32, 119, 104, 101, 101, 108, 104, 111, 117, 115, 101, 13, 10], 0) := by
  unfold putA
  rw [if_neg (by decide), if_neg (by decide)]
  have : filled [[119, 104, 101, 101, 108, 104, 111, 117, 115, 101]] = [[119, 104, 101, 101, 108, 104, 111, 117, 115, 101]] := rfl
  rw [this, k220]
theorem kr220 : readA [50, 50, 48, 32, 119, 104, 101, 101, 108, 104, 111, 117, 115, 101, 13, 10] = ((220, [[119, 104, 101, 101, 108, 104, 111, 117, 115, 101]]), 16, 0) := by
  have h := read_back (n := 220) (by omega) [] [[119, 104, 101, 101, 108, 104, 111, 117, 115, 101]] (putB 220 [[119, 104, 101, 101, 108, 104, 111, 117, 115, 101]]).length.succ [] 0 [] (by decide) (by rw [k220]; decide) (.inl rfl) (by decide)
  rw [k220] at h
  exact h
theorem q310 : putR 310 = [51, 49, 48] := by
  show dec 310 = _
  rw [dec_step, if_neg (by decide), dec_step, if_neg (by decide), dec_step, if_pos (by decide)]; rfl
theorem k310 : putB 310 [[121, 111, 117, 32, 119, 114, 105, 116, 101, 32, 116, 111, 32, 119, 101, 98, 49]] = [51, 49, 48, 32, 121, 111, 117, 32, 119, 114, 105, 116, 101, 32, 116, 111, 32, 119, 101, 98, 49, 13, 10] := by
  have s1 : showR [121, 111, 117, 32, 119, 114, 105, 116, 101, 32, 116, 111, 32, 119, 101, 98, 49] = [121, 111, 117, 32, 119, 114, 105, 116, 101, 32, 116, 111, 32, 119, 101, 98, 49] := by decide
  simp only [putB, row, q310, s1]
  rfl
theorem ka310 : putA (310, [[121, 111, 117, 32, 119, 114, 105, 116, 101, 32, 116, 111, 32, 119, 101, 98, 49]]) = ([51, 49, 48, 32, 121, 111, 117, 32, 119, 114, 105, 116, 101, 32, 116, 111, 32, 119, 101, 98, 49, 13, 10], 0) := by
  unfold putA
  rw [if_neg (by decide), if_neg (by decide)]
  have : filled [[121, 111, 117, 32, 119, 114, 105, 116, 101, 32, 116, 111, 32, 119, 101, 98, 49]] = [[121, 111, 117, 32, 119, 114, 105, 116, 101, 32, 116, 111, 32, 119, 101, 98, 49]] := rfl
  rw [this, k310]
theorem kr310 : readA [51, 49, 48, 32, 121, 111, 117, 32, 119, 114, 105, 116, 101, 32, 116, 111, 32, 119, 101, 98, 49, 13, 10] = ((310, [[121, 111, 117, 32, 119, 114, 105, 116, 101, 32, 116, 111, 32, 119, 101, 98, 49]]), 23, 0) := by
  have h := read_back (n := 310) (by omega) [] [[121, 111, 117, 32, 119, 114, 105, 116, 101, 32, 116, 111, 32, 119, 101, 98, 49]] (putB 310 [[121, 111, 117, 32, 119, 114, 105, 116, 101, 32, 116, 111, 32, 119, 101, 98, 49]]).length.succ [] 0 [] (by decide) (by rw [k310]; decide) (.inl rfl) (by decide)
  rw [k310] at h
  exact h
theorem q311 : putR 311 = [51, 49, 49] := by
  show dec 311 = _
  rw [dec_step, if_neg (by decide), dec_step, if_neg (by decide), dec_step, if_pos (by decide)]; rfl
theorem k311 : putB 311 [[121, 111, 117, 32, 108, 111, 111, 107, 32, 111, 110, 32, 97, 116, 32, 119, 101, 98, 49]] = [51, 49, 49, 32, 121, 111, 117, 32, 108, 111, 111, 107, 32, 111, 110, 32, 97, 116, 32, 119, 101, 98, 49, 13, 10] := by
  have s1 : showR [121, 111, 117, 32, 108, 111, 111, 107, 32, 111, 110, 32, 97, 116, 32, 119, 101, 98, 49] = [121, 111, 117, 32, 108, 111, 111, 107, 32, 111, 110, 32, 97, 116, 32, 119, 101, 98, 49] := by decide
  simp only [putB, row, q311, s1]
  rfl
theorem ka311 : putA (311, [[121, 111, 117, 32, 108, 111, 111, 107, 32, 111, 110, 32, 97, 116, 32, 119, 101, 98, 49]]) = ([51, 49, 49, 32, 121, 111, 117, 32, 108, 111, 111, 107, 32, 111, 110, 32, 97, 116, 32, 119, 101, 98, 49, 13, 10], 0) := by
  unfold putA
  rw [if_neg (by decide), if_neg (by decide)]
  have : filled [[121, 111, 117, 32, 108, 111, 111, 107, 32, 111, 110, 32, 97, 116, 32, 119, 101, 98, 49]] = [[121, 111, 117, 32, 108, 111, 111, 107, 32, 111, 110, 32, 97, 116, 32, 119, 101, 98, 49]] := rfl
  rw [this, k311]
theorem kr311 : readA [51, 49, 49, 32, 121, 111, 117, 32, 108, 111, 111, 107, 32, 111, 110, 32, 97, 116, 32, 119, 101, 98, 49, 13, 10] = ((311, [[121, 111, 117, 32, 108, 111, 111, 107, 32, 111, 110, 32, 97, 116, 32, 119, 101, 98, 49]]), 25, 0) := by
  have h := read_back (n := 311) (by omega) [] [[121, 111, 117, 32, 108, 111, 111, 107, 32, 111, 110, 32, 97, 116, 32, 119, 101, 98, 49]] (putB 311 [[121, 111, 117, 32, 108, 111, 111, 107, 32, 111, 110, 32, 97, 116, 32, 119, 101, 98, 49]]).length.succ [] 0 [] (by decide) (by rw [k311]; decide) (.inl rfl) (by decide)
  rw [k311] at h
  exact h
theorem q313 : putR 313 = [51, 49, 51] := by
  show dec 313 = _
  rw [dec_step, if_neg (by decide), dec_step, if_neg (by decide), dec_step, if_pos (by decide)]; rfl
theorem k313 : putB 313 [[121, 111, 117, 32, 108, 101, 102, 116, 32, 119, 101, 98, 49]] = [51, 49, 51, 32, 121, 111, 117, 32, 108, 101, 102, 116, 32, 119, 101, 98, 49, 13, 10] := by
  have s1 : showR [121, 111, 117, 32, 108, 101, 102, 116, 32, 119, 101, 98, 49] = [121, 111, 117, 32, 108, 101, 102, 116, 32, 119, 101, 98, 49] := by decide
  simp only [putB, row, q313, s1]
  rfl
theorem ka313 : putA (313, [[121, 111, 117, 32, 108, 101, 102, 116, 32, 119, 101, 98, 49]]) = ([51, 49, 51, 32, 121, 111, 117, 32, 108, 101, 102, 116, 32, 119, 101, 98, 49, 13, 10], 0) := by
  unfold putA
  rw [if_neg (by decide), if_neg (by decide)]
  have : filled [[121, 111, 117, 32, 108, 101, 102, 116, 32, 119, 101, 98, 49]] = [[121, 111, 117, 32, 108, 101, 102, 116, 32, 119, 101, 98, 49]] := rfl
  rw [this, k313]
theorem kr313 : readA [51, 49, 51, 32, 121, 111, 117, 32, 108, 101, 102, 116, 32, 119, 101, 98, 49, 13, 10] = ((313, [[121, 111, 117, 32, 108, 101, 102, 116, 32, 119, 101, 98, 49]]), 19, 0) := by
  have h := read_back (n := 313) (by omega) [] [[121, 111, 117, 32, 108, 101, 102, 116, 32, 119, 101, 98, 49]] (putB 313 [[121, 111, 117, 32, 108, 101, 102, 116, 32, 119, 101, 98, 49]]).length.succ [] 0 [] (by decide) (by rw [k313]; decide) (.inl rfl) (by decide)
  rw [k313] at h
  exact h
def m1 : Str := [255, 1, 50, 50, 48, 32, 119, 104, 101, 101, 108, 104, 111, 117, 115, 101, 13, 10, 255, 2, 255, 1, 51, 49, 48, 32, 121, 111, 117, 32, 119, 114, 105, 116, 101, 32, 116, 111, 32, 119, 101, 98, 49, 13, 10, 255, 2, 97, 98, 255, 255]
def m2 : Str := [255, 1, 51, 49, 49, 32, 121, 111, 117, 32, 108, 111, 111, 107, 32, 111, 110, 32, 97, 116, 32, 119, 101, 98, 49, 13, 10, 255, 2, 99, 255, 1, 51, 49, 51, 32, 121, 111, 117, 32, 108, 101, 102, 116, 32, 119, 101, 98, 49, 13, 10, 255, 2]
deriving instance DecidableEq for X
def x1 : X := ⟨[(220, [[119, 104, 101, 101, 108, 104, 111, 117, 115, 101]]), (310, [[121, 111, 117, 32, 119, 114, 105, 116, 101, 32, 116, 111, 32, 119, 101, 98, 49]])], [([119, 101, 98, 49], [97, 98, 255], true)], 2, false⟩
def x2 : X := ⟨[(220, [[119, 104, 101, 101, 108, 104, 111, 117, 115, 101]]), (310, [[121, 111, 117, 32, 119, 114, 105, 116, 101, 32, 116, 111, 32, 119, 101, 98, 49]]), (311, [[121, 111, 117, 32, 108, 111, 111, 107, 32, 111, 110, 32, 97, 116, 32, 119, 101, 98, 49]]), (313, [[121, 111, 117, 32, 108, 101, 102, 116, 32, 119, 101, 98, 49]])], [([119, 101, 98, 49], [97, 98, 255, 99], false)], 0, false⟩
theorem m1_eq : toldB [50, 50, 48, 32, 119, 104, 101, 101, 108, 104, 111, 117, 115, 101, 13, 10] ++ toldB [51, 49, 48, 32, 121, 111, 117, 32, 119, 114, 105, 116, 101, 32, 116, 111, 32, 119, 101, 98, 49, 13, 10] ++ twice [97, 98, 255] = m1 := by decide
theorem m2_eq : toldB [51, 49, 49, 32, 121, 111, 117, 32, 108, 111, 111, 107, 32, 111, 110, 32, 97, 116, 32, 119, 101, 98, 49, 13, 10] ++ twice [99] ++ toldB [51, 49, 51, 32, 121, 111, 117, 32, 108, 101, 102, 116, 32, 119, 101, 98, 49, 13, 10] = m2 := by decide
theorem run1 : run 0 [] m1 = ((0, []), [Tok.r [50, 50, 48, 32, 119, 104, 101, 101, 108, 104, 111, 117, 115, 101, 13, 10], Tok.r [51, 49, 48, 32, 121, 111, 117, 32, 119, 114, 105, 116, 101, 32, 116, 111, 32, 119, 101, 98, 49, 13, 10], Tok.d 97, Tok.d 98, Tok.d 255]) := by kernel_rfl
theorem run2 : run 0 [] m2 = ((0, []), [Tok.r [51, 49, 49, 32, 121, 111, 117, 32, 108, 111, 111, 107, 32, 111, 110, 32, 97, 116, 32, 119, 101, 98, 49, 13, 10], Tok.d 99, Tok.r [51, 49, 51, 32, 121, 111, 117, 32, 108, 101, 102, 116, 32, 119, 101, 98, 49, 13, 10]]) := by kernel_rfl
theorem rep_of {x : X} {s : Str} {r : Rep} (hb : x.bad = false) (h : readA s = (r, s.length, 0)) : stepT x (Tok.r s) = actR { x with R := x.R ++ [r] } r := by
  show stepP x (s, true) = _
  unfold stepP
  rw [if_neg (by simp [hb]), if_pos rfl, reply_ok (by rw [h]; exact ⟨rfl, rfl⟩), h]
theorem all1 : allR m1 = x1 := by
  unfold allR
  rw [run1]
  simp only [List.foldl_cons, List.foldl_nil]
  rw [rep_of rfl kr220, show actR { X0 with R := X0.R ++ [(220, [[119, 104, 101, 101, 108, 104, 111, 117, 115, 101]])] } (220, [[119, 104, 101, 101, 108, 104, 111, 117, 115, 101]]) = ⟨[(220, [[119, 104, 101, 101, 108, 104, 111, 117, 115, 101]])], [], 0, false⟩ from by decide, rep_of rfl kr310]
  decide
theorem all2 : allR (m1 ++ m2) = x2 := by
  rw [all_append, run1, run2, all1]
  simp only [List.foldl_cons, List.foldl_nil]
  rw [rep_of rfl kr311, show stepT (actR { x1 with R := x1.R ++ [(311, [[121, 111, 117, 32, 108, 111, 111, 107, 32, 111, 110, 32, 97, 116, 32, 119, 101, 98, 49]])] } (311, [[121, 111, 117, 32, 108, 111, 111, 107, 32, 111, 110, 32, 97, 116, 32, 119, 101, 98, 49]])) (Tok.d 99) = ⟨[(220, [[119, 104, 101, 101, 108, 104, 111, 117, 115, 101]]), (310, [[121, 111, 117, 32, 119, 114, 105, 116, 101, 32, 116, 111, 32, 119, 101, 98, 49]]), (311, [[121, 111, 117, 32, 108, 111, 111, 107, 32, 111, 110, 32, 97, 116, 32, 119, 101, 98, 49]])], [([119, 101, 98, 49], [97, 98, 255, 99], true)], 1, false⟩ from by decide, rep_of rfl kr313]
  decide
theorem run12 : run 0 [] (m1 ++ m2) = ((0, []), [Tok.r [50, 50, 48, 32, 119, 104, 101, 101, 108, 104, 111, 117, 115, 101, 13, 10], Tok.r [51, 49, 48, 32, 121, 111, 117, 32, 119, 114, 105, 116, 101, 32, 116, 111, 32, 119, 101, 98, 49, 13, 10], Tok.d 97, Tok.d 98, Tok.d 255, Tok.r [51, 49, 49, 32, 121, 111, 117, 32, 108, 111, 111, 107, 32, 111, 110, 32, 97, 116, 32, 119, 101, 98, 49, 13, 10], Tok.d 99, Tok.r [51, 49, 51, 32, 121, 111, 117, 32, 108, 101, 102, 116, 32, 119, 101, 98, 49, 13, 10]]) := by rw [Mux.run_append, run1, run2]; rfl
theorem all3 : allR (m1 ++ m2 ++ [120]) = badR x2 := by
  rw [all_append, run12, all2]
  decide
/-- All that was fed. -/
theorem fit_all (s : Str) : Fit (8 * s.length) (allR s) := by
  have h := all_feed [] s
  rw [show run 0 [] [] = ((0, []), []) from rfl, show allR [] = X0 from rfl, List.nil_append] at h
  rw [← h]
  have hz := Mux.feed_sz s 0 [] [] [] (by omega)
  refine (Fit.parts _ fit_nil).mono ?_
  simp [Mux.sz, Mux.tot] at hz
  simp [Mux.tot]
  omega
theorem feed_all (s t : Str) (w : World) (A : Nat → Prop) (g : Nat) (h : RA w A g (allR s) (run 0 [] s).1.1 (run 0 [] s).1.2) (hl : s.length + t.length ≤ 20000) :
    Calls Try.prog 7 #[.pointer (some ⟨g, 0, none⟩), .string ⟨t.toArray⟩] w (FeedP w A g (allR (s ++ t)) (run 0 [] (s ++ t)).1.1 (run 0 [] (s ++ t)).1.2) := by
  have hr := Mux.run_le s 0 [] (by omega)
  have := rdfeed_any t w A g _ _ _ h hr.1 (8 * s.length) (fit_all s) (by have := hr.2; simp at this; omega)
  rw [show (partsR (run 0 [] s).1.1 (run 0 [] s).1.2 t).foldl stepP (allR s) = allR (s ++ t) from all_feed s t, (Mux.feedR_run t _ _ [] []).1] at this
  rw [Mux.run_append]
  exact this
theorem new_all (w : World) : Calls Try.prog 6 #[] w fun e w' => ∃ g, e = .returned (.pointer (some ⟨g, 0, none⟩)) ∧ RA w' (fun k => k = g) g (allR []) (run 0 [] []).1.1 (run 0 [] []).1.2 ∧ Fr No w w' ∧ New w w' g := rdnew_any w
theorem one_sl (w : World) (s : Str) (h : s.length ≤ 1000) : RSl 1 RStr (w.alloc (.cells #[.string ⟨s.toArray⟩] 9)) (New w (w.alloc (.cells #[.string ⟨s.toArray⟩] 9))) [.slice (some ⟨w.heap.size, 0, none⟩) 1 1] [s] :=
  grl_sl (Grow.lit w 9 1 encL [s] rfl (by unfold maxLen; simp)) (fun x hx => by
    rw [List.mem_singleton.1 hx]; unfold maxLen; omega)
set_option maxRecDepth 100000 in
theorem ltold_any (n : Int) (s k : Str) (w : World) (hs : s.length ≤ 100) (hn : 100 ≤ n ∧ n ≤ 999) (hk : putA (n, [s]) = (k, 0)) (hl : k.length ≤ 1000) :
    Calls Try.prog 14 #[.int .i64 n, .string ⟨s.toArray⟩] w fun e w' => e = .returned (.string ⟨(toldB k).toArray⟩) ∧ Fr No w w' := by
  have H0 := Lib.hid (one_sl w s (by omega))
  have F0 := Lib.hid ((Fr.refl No w).alloc (.cells #[.string ⟨s.toArray⟩] 9))
  have HK := Lib.hid hk
  have HN := Lib.hid hn
  have HO := Lib.hid (show Okr [s] from ⟨by simp, fun x hx => by rw [List.mem_singleton.1 hx]; omega⟩)
  clear hk hn
  go_enter Try.func14, Try.ntmps14
  go_wp2_with fail
  refine (rputA_any n _ [s] _ _ (fun k hk => hk.2) H0.out HO.out (by have := HN.out; omega)).mono ?_
  unfold PutPost
  rw [HK.out]
  rintro e w1 ⟨rfl, hf⟩
  have F1 := Lib.hid (F0.out.then_no hf)
  clear hf H0 F0
  go_wp2_with fail
  refine (Mux.told_any k _ (by omega)).mono ?_
  rintro e w2 ⟨rfl, hf⟩
  have F2 := Lib.hid (F1.out.then_no hf)
  clear hf F1
  go_wp2_with fail
  go_ret
  exact ⟨rfl, F2.out⟩

end Rd
end Go.Proofs.Ytmmdiccpifepfaa
