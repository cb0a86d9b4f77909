/- Package brk: the examples of the statements. Printed by gen_brkx.py. -/
import Derived.Test.YtnfkkonmhinlcaaBrkRa
import Derived.Test.YtnfkkonmhinlcaaBrkRb
import Derived.Test.YtnfkkonmhinlcaaBrkT
import Derived.Test.YtnfkkonmhinlcaaPush
import Derived.Deep.CutRange
namespace Go.Proofs.Ytnfkkonmhinlcaa
open Go.RowKit
set_option linter.unusedVariables false
set_option linter.unusedSimpArgs false
namespace Brk
open Digit Sls
theorem inv_end (f : Nat) : ∀ s t acc l, t.length ≤ f → Inv s t acc → readL t acc = some l → Inv s [] l := by
  induction f with
  | zero =>
    intro s t acc l hl hi h
    have : t = [] := List.eq_nil_of_length_eq_zero (by omega)
    subst this
    rw [readL_nil] at h
    injection h with h
    subst h
    exact hi
  | succ f ih =>
    intro s t acc l hl hi h
    by_cases ht : t = []
    · subst ht
      rw [readL_nil] at h
      injection h with h
      subst h
      exact hi
    · by_cases hn : (stepR t).2 = 0
      · rw [readL_bad acc ht hn] at h; cases h
      · rw [readL_on acc ht hn] at h
        exact ih _ _ _ _ (by rw [List.length_drop]; omega) (hi.on ht hn) h
structure ReadOk (l : List Op) : Prop where
  fine : ∀ x ∈ l, Fine x
  ok : ∀ x ∈ l, OpOk x
  short : ∀ x ∈ l, x.2.1.length ≤ 255
  sumN : Brk.sumN l ≤ 1000000
  sumS : (allS l).length ≤ 1000000
  len : l.length ≤ 255
theorem read_ok (s : Str) : ReadOk (readR s).1 := by
  unfold readR
  split
  · exact ⟨by simp, by simp, by simp, by simp [Brk.sumN], by simp [allS], by simp⟩
  · rename_i hl
    split
    · rename_i l h
      have hi := inv_end s.length s s [] l (Nat.le_refl _) (Inv.start s) h
      have a := hi.sumN
      have b := hi.sumS
      have d := hi.len
      have he : ∀ x ∈ l, x.2.1.length ≤ 255 ∧ 0 ≤ x.2.2 ∧ x.2.2 ≤ 99 * 255 := fun x hx => by have := hi.el hx; omega
      refine ⟨hi.fine, fun x hx => ?_, fun x hx => (he x hx).1, by simp only [List.length_nil] at a; show Brk.sumN l ≤ 1000000; omega, by simp only [List.length_nil] at b; show (allS l).length ≤ 1000000; omega, by simp only [List.length_nil] at d; show l.length ≤ 255; omega⟩
      have hk : -9223372036854775808 ≤ x.1 ∧ x.1 ≤ 9223372036854775807 := by cases hi.fine x hx <;> simp
      have := he x hx
      exact ⟨wf_of hk.1 hk.2, by omega, wf_of (by omega) (by omega)⟩
    · exact ⟨by simp, by simp, by simp, by simp [Brk.sumN], by simp [allS], by simp⟩
theorem gro_sl {w wr : World} {v : Value} {l : List Op} (h : GrO w wr v l) (ho : ∀ x ∈ l, OpOk x) : RSl 3 ROp wr (New w wr) [v] l := h.sl (fun _ _ => rfl) (fun x hx _ _ => ⟨rfl, ho x hx⟩)
theorem new_lt {w wr : World} : ∀ k, New w wr k → k < wr.heap.size := fun k h => h.2
theorem rbytes_g {w wr : World} {v : Value} {l : List Op} (h : GrO w wr v l) (ho : ReadOk l) : Calls Try.prog 15 #[v] wr fun e w' => e = .returned (.string ⟨(allS l).toArray⟩) ∧ Fr No wr w' := rbytes_any v l ho.sumS wr (New w wr) new_lt (gro_sl h ho.ok)
theorem good_of (l : List Op) (p : Int) (h : match l with | [] => True | x :: t => Fine x ∧ ¬ (p = x.1 ∧ x.1 < 3) ∧ Good x.1 t) : Good p l := by
  cases l with
  | nil => exact .nil p
  | cons x t => exact .cons h.1 h.2.1 h.2.2
def ex : List Op := [(1, [97, 13], 0), (2, [], 13), (3, [], 0), (3, [], 0), (1, [126], 0)]
theorem ex1 : readR [97, 92, 114, 92, 119, 49, 50, 92, 100, 92, 122, 92, 122, 126] = (ex, 0) := by decide
theorem ex2 : readR [92, 119, 48, 48] = ([], 3) := by decide
theorem wait13 : waitR 13 = [92, 119, 49, 51] := by
  have : cnt 13 = 0 := by decide
  unfold waitR
  rw [this, if_neg (by decide), two_pad 13 (by omega)]
  rfl
theorem ex3 : putR ex = ([97, 92, 114, 92, 119, 49, 51, 92, 122, 92, 122, 126], 0) := by
  have hc : cat ex = [97, 92, 114, 92, 119, 49, 51, 92, 122, 92, 122, 126] := by
    show tx (1, [97, 13], 0) ++ (tx (waitO 13) ++ (tx (3, [], 0) ++ (tx (3, [], 0) ++ (tx (1, [126], 0) ++ [])))) = _
    rw [text_yes (text_wait (n := 13) (by omega)), wait13]
    decide
  rw [put_yes, hc]
  · refine .cons (.send _ (by simp)) (by simp) (.cons (.wait 13 (by omega)) (by simp) (.cons .stop (by simp) (.cons .stop (by simp) (.cons (.send _ (by simp)) (by simp) (.nil _)))))
  · rw [hc]; decide
theorem ex4 : putR [(2, [], 1), (2, [], 1)] = ([], 1) := put_bad fun h => by
  cases h with
  | cons h1 h2 h3 =>
    cases h3 with
    | cons h4 h5 h6 => exact h5 ⟨rfl, by decide⟩
theorem ex5 : putR [(2, [], 1099511627776)] = ([], 5) := by
  have hc : cnt 1099511627776 = 64 := by decide
  have hw := (wait_len 1099511627776 (by omega) (by omega)).1
  rw [hc] at hw
  refine put_long (.cons (.wait 1099511627776 (by omega)) (by simp) (.nil _)) ?_
  show 255 < (tx (waitO 1099511627776) ++ []).length
  rw [text_yes (text_wait (n := 1099511627776) (by omega)), List.append_nil]
  omega
theorem ex6 : sumN ex = 13 := by decide
theorem ex7 : allS ex = [97, 13, 126] := by decide
theorem ex_ok : ReadOk ex := by have := read_ok [97, 92, 114, 92, 119, 49, 50, 92, 100, 92, 122, 92, 122, 126]; rw [ex1] at this; exact this
end Brk
end Go.Proofs.Ytnfkkonmhinlcaa
