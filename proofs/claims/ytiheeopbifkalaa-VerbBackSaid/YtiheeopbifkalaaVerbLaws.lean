/- Package verb: plain facts: words that are put together are the words of that. -/
import Derived.Test.YtiheeopbifkalaaVerbPlain
namespace Go.Proofs.Ytiheeopbifkalaa
open Go.RowKit
set_option linter.unusedVariables false
set_option linter.unusedSimpArgs false
namespace Word
def Solid (x : Str) : Prop := x ≠ [] ∧ ∀ c ∈ x, isB c = false
theorem cut_solid (w x s : Str) (h : ∀ c ∈ x, isB c = false) : cutG w (x ++ s) = cutG (w ++ x) s := by
  induction x generalizing w with
  | nil => simp
  | cons c x ih =>
    show cutG w (c :: (x ++ s)) = _
    rw [show cutG w (c :: (x ++ s)) = cutG (w ++ [c]) (x ++ s) by
      conv => lhs; unfold cutG
      rw [h c (by simp)]; rfl]
    rw [ih _ (fun c hc => h c (by simp [hc]))]
    simp
theorem cut_blank (w s : Str) (c : UInt8) (h : isB c = true) : cutG w (c :: s) = (if w.isEmpty then [] else [w]) ++ cutG [] s := by
  conv => lhs; unfold cutG
  rw [h]
  cases w <;> rfl
theorem cut_join (L : List Str) (s : Str) (h : ∀ x ∈ L, Solid x) (hs : s = [] ∨ ∃ c t, s = c :: t ∧ isB c = true) : cutG [] (joinR L ++ s) = L ++ cutG [] s := by
  induction L with
  | nil => rfl
  | cons a l ih =>
    have ha := h a (by simp)
    have hne : a.isEmpty = false := by cases a with
      | nil => exact absurd rfl ha.1
      | cons _ _ => rfl
    cases l with
    | nil =>
      show cutG [] (a ++ s) = _
      rw [cut_solid [] a s ha.2, List.nil_append]
      rcases hs with rfl | ⟨c, t, rfl, hc⟩
      · unfold cutG; rw [hne]; rfl
      · rw [cut_blank _ _ _ hc, cut_blank _ _ _ hc, hne]; rfl
    | cons b l =>
      show cutG [] ((a ++ 32 :: joinR (b :: l)) ++ s) = _
      rw [List.append_assoc, cut_solid [] a _ ha.2, List.nil_append, List.cons_append, cut_blank _ _ _ (by decide), hne, ih (fun x hx => h x (by simp [hx]))]
      rfl
theorem cut_all (s w : Str) (hw : ∀ c ∈ w, isB c = false) : ∀ x ∈ cutG w s, Solid x := by
  induction s generalizing w with
  | nil =>
    intro x hx
    unfold cutG at hx
    split at hx
    · cases hx
    · rename_i he
      rw [List.mem_singleton.1 hx]
      exact ⟨fun e => he (by rw [e]; rfl), hw⟩
  | cons c s ih =>
    intro x hx
    cases hb : isB c
    · rw [show cutG w (c :: s) = cutG (w ++ [c]) s by
        conv => lhs; unfold cutG
        rw [hb]; rfl] at hx
      refine ih _ (fun d hd => ?_) x hx
      rcases List.mem_append.1 hd with hd | hd
      · exact hw d hd
      · rw [List.mem_singleton.1 hd]; exact hb
    · rw [cut_blank _ _ _ hb] at hx
      rcases List.mem_append.1 hx with hx | hx
      · split at hx
        · cases hx
        · rename_i he
          rw [List.mem_singleton.1 hx]
          exact ⟨fun e => he (by rw [e]; rfl), hw⟩
      · exact ih [] (fun c hc => by cases hc) x hx
/-- However many blanks. -/
theorem cut_blanks (s : Str) : cutR ([32, 32] ++ joinR (cutR s) ++ [9]) = cutR s := by
  show cutG [] (32 :: 32 :: (joinR (cutR s) ++ [9])) = _
  rw [cut_blank _ _ _ (by decide), cut_blank _ _ _ (by decide)]
  show cutG [] (joinR (cutR s) ++ [9]) = _
  rw [cut_join (cutR s) [9] (cut_all s [] (fun c hc => by cases hc)) (.inr ⟨9, [], rfl, by decide⟩)]
  show cutR s ++ cutG [] [9] = cutR s
  rw [cut_blank _ _ _ (by decide)]
  simp [cutG]
end Word
end Go.Proofs.Ytiheeopbifkalaa
