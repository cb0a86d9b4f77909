/- Package brk: the examples of the statements. Printed by gen_brkx.py. -/
import Derived.Test.YtgfofigdejlbfaaBrkRa
import Derived.Test.YtgfofigdejlbfaaBrkRb
import Derived.Test.YtgfofigdejlbfaaBrkT
import Derived.Test.YtgfofigdejlbfaaPush
import Derived.Deep.CutRange
namespace Go.Proofs.Ytgfofigdejlbfaa
open Go.RowKit
set_option linter.unusedVariables false
set_option linter.unusedSimpArgs false
namespace Brk
open Digit Sls
theorem inv_end (f : Nat) : ∀ s t acc l, t.length ≤ f → Inv s t acc → readL t acc = some l → Inv s [] l := by
  induction f with
  | zero =>
    intro s t acc l hl hi h
    have : t = [] := List.eq_nil_of_length_eq_zero (by omega)
    subst this
    rw [readL_nil] at h
    injection h with h
    subst h
    exact hi
  | succ f ih =>
    intro s t acc l hl hi h
    by_cases ht : t = []
    · subst ht
      rw [readL_nil] at h
      injection h with h
      subst h
      exact hi
    · by_cases hn : (stepR t).2 = 0
      · rw [readL_bad acc ht hn] at h; cases h
      · rw [readL_on acc ht hn] at h
        exact ih _ _ _ _ (by rw [List.length_drop]; omega) (hi.on ht hn) h
structure ReadOk (l : List Op) : Prop where
  fine : ∀ x ∈ l, Fine x
  ok : ∀ x ∈ l, OpOk x
  short : ∀ x ∈ l, x.2.1.length ≤ 255
  sumN : Brk.sumN l ≤ 1000000
  sumS : (allS l).length ≤ 1000000
  len : l.length ≤ 255
theorem read_ok (s : Str) : ReadOk (readR s).1 := by
  unfold readR
  split
  · exact ⟨by simp, by simp, by simp, by simp [Brk.sumN], by simp [allS], by simp⟩
  · rename_i hl
    split
    · rename_i l h
      have hi := inv_end s.length s s [] l (Nat.le_refl _) (Inv.start s) h
      have a := hi.sumN
      have b := hi.sumS
      have d := hi.len
      have he : ∀ x ∈ l, x.2.1.length ≤ 255 ∧ 0 ≤ x.2.2 ∧ x.2.2 ≤ 99 * 255 := fun x hx => by have := hi.el hx; omega
      refine ⟨hi.fine, fun x hx => ?_, fun x hx => (he x hx).1, by simp only [List.length_nil] at a; show Brk.sumN l ≤ 1000000; omega, by simp only [List.length_nil] at b; show (allS l).length ≤ 1000000; omega, by simp only [List.length_nil] at d; show l.length ≤ 255; omega⟩
      have hk : -9223372036854775808 ≤ x.1 ∧ x.1 ≤ 9223372036854775807 := by cases hi.fine x hx <;> simp
      have := he x hx
      exact ⟨wf_of hk.1 hk.2, by omega, wf_of (by omega) (by omega)⟩
    · exact ⟨by simp, by simp, by simp, by simp [Brk.sumN], by simp [allS], by simp⟩
theorem gro_sl {w wr : World} {v : Value} {l : List Op} (h : GrO w wr v l) (ho : ∀ x ∈ l, OpOk x) : RSl 3 ROp wr (New w wr) [v] l := h.sl (fun _ _ => rfl) (fun x hx _ _ => ⟨rfl, ho x hx⟩)
theorem new_lt {w wr : World} : ∀ k, New w wr k → k < wr.heap.size := fun k h => h.2
theorem cost_g {w wr : World} {v : Value} {l : List Op} (h : GrO w wr v l) (ho : ReadOk l) : Calls Try.prog 10 #[v] wr fun e w' => e = .returned (.int .i64 (sumN l)) ∧ Fr No wr w' := cost_any v l ho.fine ho.sumN wr (New w wr) new_lt (gro_sl h ho.ok)
theorem rcost_g {w wr : World} {v : Value} {l : List Op} (h : GrO w wr v l) (ho : ReadOk l) : Calls Try.prog 11 #[v] wr fun e w' => e = .returned (.int .i64 (sumN l)) ∧ Fr No wr w' := rcost_any v l ho.fine ho.sumN wr (New w wr) new_lt (gro_sl h ho.ok)
theorem bytes_g {w wr : World} {v : Value} {l : List Op} (h : GrO w wr v l) (ho : ReadOk l) : Calls Try.prog 12 #[v] wr fun e w' => e = .returned (.string ⟨(allS l).toArray⟩) ∧ Fr No wr w' := bytes_any v l ho.fine ho.sumS wr (New w wr) new_lt (gro_sl h ho.ok)
theorem rbytes_g {w wr : World} {v : Value} {l : List Op} (h : GrO w wr v l) (ho : ReadOk l) : Calls Try.prog 13 #[v] wr fun e w' => e = .returned (.string ⟨(allS l).toArray⟩) ∧ Fr No wr w' := rbytes_any v l ho.sumS wr (New w wr) new_lt (gro_sl h ho.ok)
theorem put_g {w wr : World} {v : Value} {l : List Op} (h : GrO w wr v l) (ho : ReadOk l) : Calls Try.prog 14 #[v] wr fun e w' => e = .returned (.tuple #[.string ⟨(putR l).1.toArray⟩, .int .i64 (putR l).2]) ∧ Fr No wr w' := put_any v l ho.short ho.len wr (New w wr) new_lt (gro_sl h ho.ok)
theorem same_g {w wr w2 : World} {v u : Value} {l : List Op} (h : GrO w wr v l) (k : GrO w2 wr u l) (ho : ReadOk l) : Calls Try.prog 9 #[v, u] wr fun e w' => e = .returned (.bool true) ∧ Fr No wr w' := rsame_yes v u l wr (New w wr) (New w2 wr) new_lt (gro_sl h ho.ok) new_lt (gro_sl k ho.ok)
theorem good_of (l : List Op) (p : Int) (h : match l with | [] => True | x :: t => Fine x ∧ ¬ (p = x.1 ∧ x.1 < 3) ∧ Good x.1 t) : Good p l := by
  cases l with
  | nil => exact .nil p
  | cons x t => exact .cons h.1 h.2.1 h.2.2
def ex : List Op := [(1, [97, 13], 0), (2, [], 13), (3, [], 0), (3, [], 0), (1, [126], 0)]
theorem ex1 : readR [97, 92, 114, 92, 119, 49, 50, 92, 100, 92, 122, 92, 122, 126] = (ex, 0) := by decide
theorem ex2 : readR [92, 119, 48, 48] = ([], 3) := by decide
theorem wait13 : waitR 13 = [92, 119, 49, 51] := by
  have : cnt 13 = 0 := by decide
  unfold waitR
  rw [this, if_neg (by decide), two_pad 13 (by omega)]
  rfl
theorem ex3 : putR ex = ([97, 92, 114, 92, 119, 49, 51, 92, 122, 92, 122, 126], 0) := by
  have hc : cat ex = [97, 92, 114, 92, 119, 49, 51, 92, 122, 92, 122, 126] := by
    show tx (1, [97, 13], 0) ++ (tx (waitO 13) ++ (tx (3, [], 0) ++ (tx (3, [], 0) ++ (tx (1, [126], 0) ++ [])))) = _
    rw [text_yes (text_wait (n := 13) (by omega)), wait13]
    decide
  rw [put_yes, hc]
  · refine .cons (.send _ (by simp)) (by simp) (.cons (.wait 13 (by omega)) (by simp) (.cons .stop (by simp) (.cons .stop (by simp) (.cons (.send _ (by simp)) (by simp) (.nil _)))))
  · rw [hc]; decide
theorem ex4 : putR [(2, [], 1), (2, [], 1)] = ([], 1) := put_bad fun h => by
  cases h with
  | cons h1 h2 h3 =>
    cases h3 with
    | cons h4 h5 h6 => exact h5 ⟨rfl, by decide⟩
theorem ex5 : putR [(2, [], 1099511627776)] = ([], 5) := by
  have hc : cnt 1099511627776 = 64 := by decide
  have hw := (wait_len 1099511627776 (by omega) (by omega)).1
  rw [hc] at hw
  refine put_long (.cons (.wait 1099511627776 (by omega)) (by simp) (.nil _)) ?_
  show 255 < (tx (waitO 1099511627776) ++ []).length
  rw [text_yes (text_wait (n := 1099511627776) (by omega)), List.append_nil]
  omega
theorem ex6 : sumN ex = 13 := by decide
theorem ex7 : allS ex = [97, 13, 126] := by decide
theorem ex_ok : ReadOk ex := by have := read_ok [97, 92, 114, 92, 119, 49, 50, 92, 100, 92, 122, 92, 122, 126]; rw [ex1] at this; exact this
set_option maxRecDepth 100000 in
set_option maxHeartbeats 4000000 in
theorem works_any (w : World) : Calls Try.prog 6 #[] w fun e w' => e = .returned (.bool true) ∧ Fr No w w' := by
  have C1 := Lib.hid (fun W => read_any [97, 92, 114, 92, 119, 49, 50, 92, 100, 92, 122, 92, 122, 126] (by simp) W)
  rw [ex1] at C1
  have C2 := Lib.hid (fun W => read_any [92, 119, 48, 48] (by simp) W)
  rw [ex2] at C2
  go_enter Try.func6, Try.ntmps6
  go_wp2_with fail
  refine (C1.out _).mono ?_
  rintro e w1 ⟨v1, rfl, hg⟩
  have G1 := Lib.hid hg
  have P1 := Lib.hid (put_g hg ex_ok)
  rw [ex3] at P1
  clear hg
  go_wp2_with fail
  refine P1.out.mono ?_
  rintro e w2 ⟨rfl, hf⟩
  have G2 := Lib.hid (G1.out.no hf)
  clear hf G1 P1 C1
  go_wp2_with fail
  refine (C2.out _).mono ?_
  rintro e w3 ⟨v3, rfl, hg⟩
  have G3 := Lib.hid (G2.out.no hg.fr)
  clear hg G2 C2
  go_upto_region 4 with (fail)
  have L4 := Lib.hid (Grow.lit w3 32 3 encO [(2, [], 1), (2, [], 1)] rfl (by unfold maxLen; decide))
  have G4 := Lib.hid (G3.out.no L4.out.fr)
  have P4 := Lib.hid (put_any _ _ (by simp) (by simp) _ _ new_lt (gro_sl L4.out (by intro x hx; simp at hx; subst hx; exact ⟨rfl, by simp, rfl⟩)))
  rw [ex4] at P4
  go_wp2_with fail
  refine P4.out.mono ?_
  rintro e w4 ⟨rfl, hf⟩
  have G5 := Lib.hid (G4.out.no hf)
  clear hf P4 L4 G4 G3
  go_upto_region 5 with (fail)
  have L4 := Lib.hid (Grow.lit w4 32 3 encO [(2, [], 1099511627776)] rfl (by unfold maxLen; decide))
  have G6 := Lib.hid (G5.out.no L4.out.fr)
  have P4 := Lib.hid (put_any _ _ (by simp) (by simp) _ _ new_lt (gro_sl L4.out (by intro x hx; simp at hx; subst hx; exact ⟨rfl, by simp, rfl⟩)))
  rw [ex5] at P4
  go_wp2_with fail
  refine P4.out.mono ?_
  rintro e w5 ⟨rfl, hf⟩
  have G7 := Lib.hid (G6.out.no hf)
  clear hf P4 L4 G6 G5
  go_upto_region 6 with (fail)
  have L7 := Lib.hid (Grow.lit w5 32 3 encO ex rfl (by unfold maxLen; decide))
  have G8 := Lib.hid (G7.out.no L7.out.fr)
  have S8 := Lib.hid (same_g G8.out L7.out ex_ok)
  go_wp2_with fail
  refine S8.out.mono ?_
  rintro e w6 ⟨rfl, hf⟩
  have G9 := Lib.hid (G8.out.no hf)
  have K9 := Lib.hid (cost_g G9.out ex_ok)
  rw [ex6] at K9
  clear hf S8 L7 G8 G7
  go_wp2_with fail
  refine K9.out.mono ?_
  rintro e w7 ⟨rfl, hf⟩
  have G10 := Lib.hid (G9.out.no hf)
  have K10 := Lib.hid (bytes_g G10.out ex_ok)
  rw [ex7] at K10
  clear hf K9 G9
  go_wp2_with fail
  refine K10.out.mono ?_
  rintro e w8 ⟨rfl, hf⟩
  have G11 := Lib.hid (G10.out.fr.then_no hf)
  clear hf K10 G10
  go_wp2_with fail
  go_ret
  exact ⟨rfl, G11.out⟩
end Brk
end Go.Proofs.Ytgfofigdejlbfaa
