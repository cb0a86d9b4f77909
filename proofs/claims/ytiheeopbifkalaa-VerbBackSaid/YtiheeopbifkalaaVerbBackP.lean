/- Package verb: what was read can be put, and is read as the same: plain facts. -/
import Derived.Test.YtiheeopbifkalaaVerbLaws
import Derived.Test.YtiheeopbifkalaaVerbPut
namespace Go.Proofs.Ytiheeopbifkalaa
open Go.RowKit
set_option linter.unusedVariables false
set_option linter.unusedSimpArgs false
namespace Verb
theorem put_ok {c : C} {t : Str} (h : putR c = (t, 0)) : parseR t = (c, 0) := by
  unfold putR at h
  split at h
  · injection h with _ h; cases h
  · split at h
    · injection h with _ h; cases h
    · rename_i hn
      injection h with h _
      subst h
      have h1 : (parseR (lineR (findR (fun x => x.1 == c.1)).1.2.1 c)).2 = 0 := Decidable.byContradiction fun e => hn (.inl e)
      have h2 : (parseR (lineR (findR (fun x => x.1 == c.1)).1.2.1 c)).1 = c := Decidable.byContradiction fun e => hn (.inr e)
      exact Prod.ext h2 h1
theorem cut_joined (L : List Str) (h : ∀ x ∈ L, Word.Solid x) : Word.cutR (Word.joinR L) = L := by
  have := Word.cut_join L [] h (.inl rfl)
  simp at this
  unfold Word.cutR
  rw [this]; simp [Word.cutG]
theorem solid_ne {b : Str} (h : Word.Solid b) : b.isEmpty = false := by
  cases b with
  | nil => exact absurd rfl h.1
  | cons _ _ => rfl
theorem join_ne {b : Str} {m : List Str} (h : Word.Solid b) : (Word.joinR (b :: m)).isEmpty = false := by
  have hb := solid_ne h
  cases m with
  | nil => exact hb
  | cons c m =>
    cases b with
    | nil => simp at hb
    | cons _ _ => rfl
theorem line_join (a : Str) (l : List Str) (xv : Int) (xw xh : Str) (xt : Int) (ht : xt = 0 ∨ xt = 1 ∨ xt = 2 ∨ xt = 3) (hs : ∀ y ∈ l, Word.Solid y) (hm : (madeR (xv, xw, xt, xh) l).2 = true) :
    lineR a (madeR (xv, xw, xt, xh) l).1 = Word.joinR (a :: l) ∧ (madeR (xv, xw, xt, xh) l).1.1 = xv := by
  rcases ht with rfl | rfl | rfl | rfl
  · have e : madeR (xv, xw, 0, xh) l = ((xv, [], []), (l.length : Int) == 0) := rfl
    rw [e] at hm ⊢
    have : l = [] := List.eq_nil_of_length_eq_zero (by have := eq_of_beq hm; omega)
    subst this
    exact ⟨by simp [lineR, Word.joinR], rfl⟩
  · rw [made_1] at hm ⊢
    by_cases h : l.length = 1
    · rw [if_pos h] at hm ⊢
      match l, h, hs with
      | [b], _, hs =>
        have hb := solid_ne (hs b (by simp))
        exact ⟨by simp [lineR, Word.joinR, hb], rfl⟩
    · rw [if_neg h] at hm; cases hm
  · rw [made_2] at hm ⊢
    by_cases h : l.length = 2
    · rw [if_pos h] at hm ⊢
      match l, h, hs with
      | [b, c], _, hs =>
        have hb := solid_ne (hs b (by simp))
        have hc := solid_ne (hs c (by simp))
        exact ⟨by simp [lineR, Word.joinR, hb, hc], rfl⟩
    · rw [if_neg h] at hm; cases hm
  · rw [made_3] at hm ⊢
    by_cases h : 2 ≤ l.length
    · rw [if_pos h] at hm ⊢
      match l, h, hs with
      | b :: c :: m, _, hs =>
        have hb := solid_ne (hs b (by simp))
        have hc := join_ne (m := m) (hs c (by simp))
        refine ⟨?_, rfl⟩
        show a ++ (if b.isEmpty then [] else 32 :: b) ++ (if (Word.joinR (c :: m)).isEmpty then [] else 32 :: Word.joinR (c :: m)) = a ++ 32 :: (b ++ 32 :: Word.joinR (c :: m))
        rw [hb, hc]
        simp
    · rw [if_neg h] at hm; cases hm
/-- What was read can be put, and is read as the same. -/
theorem back {s : Str} {x : C} (h : parseR s = (x, 0)) : ∃ t, putR x = (t, 0) ∧ x.2.1.length ≤ 2 * s.length + 2 ∧ x.2.2.length ≤ 2 * s.length + 2 ∧ t.length ≤ 2 * s.length + 2 := by
  have htot : Word.tot (Word.cutR s) ≤ 2 * s.length + 2 := by
    have := Word.cutG_len s []
    simp at this
    unfold Word.tot Word.cutR
    omega
  have hsol := Word.cut_all s [] (fun c hc => by cases hc)
  have hsol : ∀ y ∈ Word.cutR s, Word.Solid y := hsol
  unfold parseR at h
  generalize Word.cutR s = L at h htot hsol
  cases L with
  | nil => unfold parseW at h; injection h with _ h; cases h
  | cons a l =>
    have hpw : parseW (a :: l) = (x, 0) := h
    unfold parseW at h
    cases hf : verbs.find? (fun x => x.2.1 == a) with
    | none =>
      have : (findR (fun x => x.2.1 == a)).2 = false := by unfold findR; rw [hf]
      simp only [this, if_true] at h
      injection h with _ h; cases h
    | some row =>
      have hfr : findR (fun x => x.2.1 == a) = (row, true) := by unfold findR; rw [hf]
      simp only at h
      rw [hfr] at h
      simp only at h
      rw [if_neg (show ¬ true = false by decide)] at h
      have hmem := List.mem_of_find?_eq_some hf
      have hword : row.2.1 = a := by have := List.find?_some hf; simpa using this
      have hself : ∀ r ∈ verbs, findR (fun x => x.1 == r.1) = (r, true) := by decide
      have hself := hself row hmem
      have htk := takes_in row hmem
      obtain ⟨xv, xw, xt, xh⟩ := row
      simp only at hword htk hself
      cases hm : (madeR (xv, xw, xt, xh) l).2
      · rw [hm, if_pos rfl] at h
        injection h with _ h; cases h
      · rw [hm, if_neg (show ¬ true = false by decide)] at h
        injection h with h _
        obtain ⟨g1, g2⟩ := line_join a l xv xw xh xt htk (fun y hy => hsol y (by simp [hy])) hm
        rw [h] at g1 g2
        have hcut := cut_joined (a :: l) hsol
        have hlen : (Word.joinR (a :: l)).length ≤ 2 * s.length + 2 := Nat.le_trans (Word.join_len _) htot
        have hpr : parseR (lineR xw x) = (x, 0) := by
          rw [hword, g1]
          unfold parseR
          rw [hcut]
          exact hpw
        have hl : (lineR xw x).length ≤ 2 * s.length + 2 := by rw [hword, g1]; exact hlen
        refine ⟨lineR xw x, ?_, ?_, ?_, hl⟩
        · unfold putR
          rw [g2, hself]
          simp only
          rw [if_neg (show ¬ true = false by decide), if_neg]
          rw [hpr]
          simp
        · unfold lineR at hl
          simp only [List.length_append] at hl
          by_cases e : x.2.1.isEmpty = true
          · have : x.2.1 = [] := by simpa using e
            rw [this]; simp
          · rw [if_neg e] at hl; simp at hl; omega
        · unfold lineR at hl
          simp only [List.length_append] at hl
          by_cases e : x.2.2.isEmpty = true
          · have : x.2.2 = [] := by simpa using e
            rw [this]; simp
          · rw [if_neg e] at hl; simp at hl; omega
end Verb
end Go.Proofs.Ytiheeopbifkalaa
