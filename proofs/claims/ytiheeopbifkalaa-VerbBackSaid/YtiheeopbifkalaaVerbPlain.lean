/- Package verb: what a line's command is, by the program and by the reference. -/
import Derived.Test.YtiheeopbifkalaaVerbRef

namespace Go.Proofs.Ytiheeopbifkalaa
open Go.RowKit
set_option linter.unusedVariables false
set_option linter.unusedSimpArgs false
namespace Verb
def parseW (L : List Str) : C × Int := match L with
  | [] => (zeroC, 7)
  | a :: l => if (findR (fun x => x.2.1 == a)).2 = false then (zeroC, 3) else if (madeR (findR (fun x => x.2.1 == a)).1 l).2 = false then (zeroC, 1) else ((madeR (findR (fun x => x.2.1 == a)).1 l).1, 0)
def parseR (s : Str) : C × Int := parseW (Word.cutR s)
def ParseIs (r : C × Int) (e : Ending) : Prop := e = .returned (.tuple #[.agg #[.int .i64 r.1.1, .string ⟨r.1.2.1.toArray⟩, .string ⟨r.1.2.2.toArray⟩], .int .i64 r.2])
theorem rsl_none {w : World} {S : Nat → Prop} {ad : Addr} {c : Nat} (hc : c ≤ maxLen) : RSl 1 RStr w S [.slice (some ad) 0 c] [] := ⟨some ad, c, rfl, Nat.zero_le _, hc, fun h => (by cases h), fun i hi => by simp at hi⟩
def lookK (a : Str) : Nat → Nat
  | 0 => 0
  | k + 1 => if 1 ≤ k ∧ wordsL.getD k [] = a then k else lookK a k
def rparseW (L : List Str) : C × Int := match L with
  | [] => (zeroC, 7)
  | a :: l => if lookK a 17 = 0 then (zeroC, 3) else if (takesR (lookK a 17) = 3 ∧ l.length < 2) ∨ (takesR (lookK a 17) < 3 ∧ (l.length : Int) ≠ takesR (lookK a 17)) then (zeroC, 1) else (((lookK a 17 : Nat), l.getD 0 [], Word.joinR (l.drop 1)), 0)
theorem lookK_lt (a : Str) (k : Nat) : lookK a k ≤ 16 ∨ 17 < k := by
  induction k with
  | zero => exact .inl (Nat.zero_le _)
  | succ k ih =>
    unfold lookK
    split
    · omega
    · omega
theorem find_look (a : Str) : (verbs.find? (fun x => x.2.1 == a) = none → lookK a 17 = 0) ∧ ∀ x, verbs.find? (fun x => x.2.1 == a) = some x → ((lookK a 17 : Nat) : Int) = x.1 ∧ takesR x.1 = x.2.2.1 ∧ lookK a 17 ≠ 0 := by
  constructor
  · intro h
    have hn := List.find?_eq_none.1 h
    have key : ∀ k, k ≤ 17 → lookK a k = 0 := by
      intro k
      induction k with
      | zero => intro _; rfl
      | succ k ih =>
        intro hk
        unfold lookK
        rw [if_neg, ih (by omega)]
        rintro ⟨h1, h2⟩
        obtain ⟨j, rfl⟩ : ∃ j, k = j + 1 := ⟨k - 1, by omega⟩
        have hk16 : j < verbs.length := by show j < 16; omega
        have hw : wordsL.getD (j + 1) [] = (verbs[j]).2.1 := by
          unfold wordsL
          rw [List.getD_cons_succ]
          simp [List.getD, hk16]
        have := hn _ (List.getElem_mem hk16)
        rw [hw] at h2
        simp [h2] at this
    exact key 17 (Nat.le_refl _)
  · intro x h
    have hm := List.mem_of_find?_eq_some h
    have hp := List.find?_some h
    have hp : x.2.1 = a := by simpa using hp
    subst hp
    have : ∀ x ∈ verbs, ((lookK x.2.1 17 : Nat) : Int) = x.1 ∧ takesR x.1 = x.2.2.1 ∧ lookK x.2.1 17 ≠ 0 := by decide
    exact this x hm
theorem takes_in : ∀ x ∈ verbs, x.2.2.1 = 0 ∨ x.2.2.1 = 1 ∨ x.2.2.1 = 2 ∨ x.2.2.1 = 3 := by decide
theorem rparse_eq (L : List Str) : rparseW L = parseW L := by
  cases L with
  | nil => rfl
  | cons a l =>
    obtain ⟨h1, h2⟩ := find_look a
    unfold rparseW parseW findR
    cases hf : verbs.find? (fun x => x.2.1 == a) with
    | none => simp only [hf]; rw [if_pos (h1 hf), if_pos trivial]
    | some x =>
      obtain ⟨g1, g2, g3⟩ := h2 x hf
      have hm := takes_in x (List.mem_of_find?_eq_some hf)
      simp only [hf]
      rw [if_neg g3, if_neg (show ¬ true = false by decide), g1, g2]
      obtain ⟨xv, xw, xt, xh⟩ := x
      simp only at hm ⊢
      rcases hm with rfl | rfl | rfl | rfl
      · show _ = if (madeR (xv, xw, 0, xh) l).2 = false then (zeroC, 1) else ((madeR (xv, xw, 0, xh) l).1, 0)
        have : madeR (xv, xw, 0, xh) l = ((xv, [], []), (l.length : Int) == 0) := rfl
        rw [this]
        cases l with
        | nil => simp [Word.joinR]
        | cons b l =>
          rw [if_pos (Or.inr ⟨by decide, by rw [List.length_cons]; omega⟩), if_pos (by rw [List.length_cons]; exact beq_eq_false_iff_ne.2 (by omega))]
      · rw [made_1]
        by_cases hl : l.length = 1
        · rw [if_pos hl, if_neg (by omega)]
          cases l with
          | nil => simp at hl
          | cons b l => cases l with
            | nil => simp [Word.joinR]
            | cons _ _ => simp at hl
        · rw [if_neg hl, if_pos (by omega)]; simp
      · rw [made_2]
        by_cases hl : l.length = 2
        · rw [if_pos hl, if_neg (by omega)]
          match l, hl with
          | [b, c], _ => simp [Word.joinR]
        · rw [if_neg hl, if_pos (by omega)]; simp
      · rw [made_3]
        by_cases hl : 2 ≤ l.length
        · rw [if_pos hl, if_neg (by omega)]; simp
        · rw [if_neg hl, if_pos (by omega)]; simp
end Verb
end Go.Proofs.Ytiheeopbifkalaa
