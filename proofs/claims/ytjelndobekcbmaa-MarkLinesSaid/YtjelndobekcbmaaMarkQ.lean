/- Mark: the lines of items as text, plain. -/
import Derived.Test.YtjelndobekcbmaaMarkP
import Derived.Test.YtjelndobekcbmaaClockQ
namespace Go.Proofs.Ytjelndobekcbmaa
open Go.RowKit
set_option linter.unusedVariables false
set_option linter.unusedSimpArgs false
namespace Mark
open Digit Clock
def lnStep (p : List Str × Str) (c : UInt8) : List Str × Str := if c = 10 then (p.1 ++ [p.2 ++ [c]], []) else (p.1, p.2 ++ [c])
def lnF (p : List Str × Str) (s : Str) : List Str × Str := s.foldl lnStep p
/-- The lines of a text. -/
def linesR (s : Str) : List Str := (lnF ([], []) s).1 ++ (if (lnF ([], []) s).2 = [] then [] else [(lnF ([], []) s).2])
theorem ln_app (p : List Str × Str) (s t : Str) : lnF p (s ++ t) = lnF (lnF p s) t := by simp [lnF]
theorem ln_one (p : List Str × Str) (c : UInt8) : lnF p [c] = lnStep p c := rfl
theorem ln_no (p : List Str × Str) (s : Str) (h : ∀ c ∈ s, c ≠ 10) : lnF p s = (p.1, p.2 ++ s) := by
  induction s generalizing p with
  | nil => simp [lnF]
  | cons c s ih =>
    show lnF (lnStep p c) s = _
    rw [ih _ fun d hd => h d (List.mem_cons_of_mem _ hd)]
    unfold lnStep
    rw [if_neg (h c (by simp))]
    simp
theorem dg_no (n : Int) : dg n ≠ 10 := by
  intro h
  have := dg_nat n
  rw [h] at this
  simp at this
  omega
theorem st_no {n : Int} (h : 0 ≤ n ∧ n ≤ lastT) : (∀ c ∈ stR n, c ≠ 10) ∧ (stR n).length = 22 ∧ ∃ t : Str, t.length = 19 ∧ stR n = 91 :: t ++ [93, 32] := by
  obtain ⟨y, k, d, a, b, c, -, he, -⟩ := fld_ex h.1 h.2
  refine ⟨?_, ?_, stampR n, ?_, rfl⟩
  · intro x hx
    unfold stR at hx
    rw [he] at hx
    simp only [fmt, List.mem_append, List.mem_cons, List.not_mem_nil, or_false, List.cons_append, List.nil_append] at hx
    rcases hx with rfl | rfl | rfl | rfl | rfl | rfl | rfl | rfl | rfl | rfl | rfl | rfl | rfl | rfl | rfl | rfl | rfl | rfl | rfl | rfl | rfl | rfl <;> first | exact dg_no _ | decide
  · unfold stR; rw [he]; rfl
  · rw [he]; rfl
/-- A line that begins with a stamp. -/
def Lin (z : Str) : Prop := ∃ n b, (0 ≤ n ∧ n ≤ lastT) ∧ b ≠ [] ∧ z = stR n ++ b
theorem Lin.len {z : Str} (h : Lin z) : 23 ≤ z.length := by
  obtain ⟨n, b, hn, hb, rfl⟩ := h
  have := (st_no hn).2.1
  have : 0 < b.length := List.length_pos_iff.2 hb
  simp; omega
theorem Lin.at {z : Str} (h : Lin z) : z[0]? = some 91 ∧ (z.drop 20).take 2 = [93, 32] := by
  obtain ⟨n, b, hn, hb, rfl⟩ := h
  obtain ⟨-, -, t, ht, e⟩ := st_no hn
  rw [e]
  refine ⟨rfl, ?_⟩
  have e2 : (91 :: t ++ [93, 32] ++ b) = (91 :: t) ++ ([93, 32] ++ b) := by simp
  rw [e2, List.drop_append_of_le_length (by simp; omega), List.drop_of_length_le (by simp; omega)]
  simp
theorem Lin.more {z : Str} (h : Lin z) (c : UInt8) : Lin (z ++ [c]) := by
  obtain ⟨n, b, hn, hb, rfl⟩ := h
  exact ⟨n, b ++ [c], hn, by simp, by simp⟩
/-- Where the lines stand behind some items: all begin with a stamp; is a line begun? -/
def LInv (p : List Str × Str) (o : Bool) : Prop := (∀ z ∈ p.1, Lin z) ∧ (if o then Lin p.2 else p.2 = [])
theorem inv_more {p : List Str × Str} (h : LInv p true) (c : UInt8) : LInv (lnStep p c) (c != 10) := by
  obtain ⟨h1, h2⟩ := h
  simp only [if_true, if_pos] at h2
  unfold lnStep
  by_cases hc : c = 10
  · subst hc
    simp only [if_true, if_pos]
    refine ⟨fun z hz => ?_, rfl⟩
    rcases List.mem_append.1 hz with hz | hz
    · exact h1 z hz
    · rw [List.mem_singleton.1 hz]; exact h2.more _
  · rw [if_neg hc]
    have : (c != 10) = true := by rw [bne_iff_ne]; exact hc
    rw [this]
    exact ⟨h1, h2.more c⟩
theorem inv_first {p : List Str × Str} {n : Int} (hn : 0 ≤ n ∧ n ≤ lastT) (h : LInv p false) (c : UInt8) : LInv (lnStep (lnF p (stR n)) c) (c != 10) := by
  obtain ⟨h1, h2⟩ := h
  have h2 : p.2 = [] := h2
  rw [ln_no _ _ (st_no hn).1, h2, List.nil_append]
  unfold lnStep
  by_cases hc : c = 10
  · subst hc
    simp only [if_true, if_pos]
    refine ⟨fun z hz => ?_, rfl⟩
    rcases List.mem_append.1 hz with hz | hz
    · exact h1 z hz
    · rw [List.mem_singleton.1 hz]; exact ⟨n, [10], hn, by simp, rfl⟩
  · rw [if_neg hc]
    have : (c != 10) = true := by rw [bne_iff_ne]; exact hc
    rw [this]
    exact ⟨h1, n, [c], hn, by simp, rfl⟩
theorem inv_data {p : List Str × Str} {n : Int} (hn : 0 ≤ n ∧ n ≤ lastT) (o : Bool) (h : LInv p o) (s : Str) : LInv (lnF p (dataR n o s).1) (dataR n o s).2 := by
  induction s using snoc_ind with
  | nil => exact h
  | append_singleton s c ih =>
    rw [data_snoc]
    generalize dataR n o s = r at ih
    obtain ⟨t, q⟩ := r
    unfold dStep
    simp only at ih ⊢
    rw [ln_app, ln_app, ln_one]
    cases q
    · exact inv_first hn ih c
    · exact inv_more ih c
theorem show_no (s : Str) (h : ∀ d ∈ showR s, 32 ≤ d.toNat) : ∀ c ∈ showR s, c ≠ 10 := by
  intro c hc e
  have := h c hc
  rw [e] at this
  simp at this
theorem inv_note {p : List Str × Str} {n : Int} (hn : 0 ≤ n ∧ n ≤ lastT) (o : Bool) (h : LInv p o) (s : Str) (hs : ∀ c ∈ s, c ≠ 10) : LInv (lnF p (noteR n o s)) false := by
  have h0 : LInv (lnF p (if o then [10] else [])) false := by
    cases o
    · exact h
    · have := inv_more h 10
      exact this
  unfold noteR
  generalize hp : lnF p (if o then [10] else []) = p0 at h0
  have e : (if o = true then ([10] : Str) else []) ++ stR n ++ [45, 45, 32] ++ s ++ [32, 45, 45, 10] = (if o = true then ([10] : Str) else []) ++ (stR n ++ ([45, 45, 32] ++ s ++ [32, 45, 45]) ++ [10]) := by simp
  rw [e, ln_app, hp, ln_app, ln_one]
  obtain ⟨h1, h2⟩ := h0
  have h2 : p0.2 = [] := h2
  rw [ln_no, h2, List.nil_append]
  · unfold lnStep
    simp only [if_true, if_pos]
    refine ⟨fun z hz => ?_, rfl⟩
    rcases List.mem_append.1 hz with hz | hz
    · exact h1 z hz
    · rw [List.mem_singleton.1 hz]; exact ⟨n, _, hn, by simp, List.append_assoc _ _ _⟩
  · intro c hc
    simp only [List.mem_append, List.mem_cons, List.not_mem_nil, or_false] at hc
    rcases hc with hc | (hc | hc) | hc
    · exact (st_no hn).1 c hc
    · rcases hc with rfl | rfl | rfl <;> decide
    · exact hs c hc
    · rcases hc with rfl | rfl | rfl <;> decide
theorem sign_ge (c : UInt8) : ∀ d ∈ signR c, d ≠ 10 := by
  intro d hd
  unfold signR at hd
  have hx : ∀ n : Nat, n < 16 → hx n ≠ 10 := by decide
  split at hd
  · simp at hd; subst hd; decide
  · split at hd
    · simp at hd; rcases hd with rfl | rfl <;> decide
    · split at hd
      · simp at hd; rcases hd with rfl | rfl <;> decide
      · split at hd
        · simp at hd; rcases hd with rfl | rfl <;> decide
        · split at hd
          · unfold hexR at hd
            have hb := c.toNat_lt
            simp only [List.mem_cons, List.not_mem_nil, or_false] at hd
            rcases hd with rfl | rfl | rfl | rfl
            · decide
            · decide
            · exact hx _ (by omega)
            · exact hx _ (by omega)
          · rename_i h1 h2 h3 h4 h5
            simp at hd
            subst hd
            exact h2
theorem show_ne (s : Str) : ∀ c ∈ showR s, c ≠ 10 := by
  intro c hc
  obtain ⟨d, -, hd⟩ := List.mem_flatMap.1 hc
  exact sign_ge d c hd
theorem inv_add {p : List Str × Str} (o : Bool) (x : It) (hn : 0 ≤ x.2.1 ∧ x.2.1 ≤ lastT) (h : LInv p o) : LInv (lnF p (addR o x).1) (addR o x).2 := by
  unfold addR
  repeat' split
  · exact inv_data hn o h _
  · exact inv_note hn o h _ (show_ne _)
  · refine inv_note hn o h _ fun c hc => ?_
    rcases List.mem_append.1 hc with hc | hc
    · exact show_ne _ c hc
    · simp only [List.mem_cons, List.not_mem_nil, or_false] at hc
      rcases hc with rfl | rfl | rfl | rfl | rfl <;> decide
  · exact h
theorem inv_all (l : List It) (hl : ∀ x ∈ l, 0 ≤ x.2.1 ∧ x.2.1 ≤ lastT) : LInv (lnF ([], []) (allR l).1) (allR l).2 := by
  induction l using snoc_ind with
  | nil => exact ⟨(fun z hz => by cases hz), rfl⟩
  | append_singleton l x ih =>
    rw [all_snoc]
    unfold stepR
    simp only
    rw [ln_app]
    exact inv_add _ x (hl x (by simp)) (ih fun y hy => hl y (List.mem_append_left _ hy))
theorem lines_lin (l : List It) (hl : ∀ x ∈ l, 0 ≤ x.2.1 ∧ x.2.1 ≤ lastT) : ∀ z ∈ linesR (allR l).1, Lin z := by
  intro z hz
  obtain ⟨h1, h2⟩ := inv_all l hl
  unfold linesR at hz
  rcases List.mem_append.1 hz with hz | hz
  · exact h1 z hz
  · split at hz
    · cases hz
    · rename_i hne
      rw [List.mem_singleton.1 hz]
      cases ho : (allR l).2 with
      | true => rw [ho] at h2; exact h2
      | false => rw [ho] at h2; exact absurd h2 hne
/-- What stands behind the stamps. -/
def backR (p : List Str × Str) : Str := p.1.flatMap (fun z => z.drop 22) ++ p.2.drop 22
theorem back_more {p : List Str × Str} (h : LInv p true) (c : UInt8) : backR (lnStep p c) = backR p ++ [c] := by
  obtain ⟨h1, h2⟩ := h
  have hl := Lin.len (z := p.2) h2
  unfold backR lnStep
  split
  · simp [List.drop_append_of_le_length (show 22 ≤ p.2.length by omega)]
  · simp [List.drop_append_of_le_length (show 22 ≤ p.2.length by omega)]
theorem back_first {p : List Str × Str} {n : Int} (hn : 0 ≤ n ∧ n ≤ lastT) (h : LInv p false) (c : UInt8) : backR (lnStep (lnF p (stR n)) c) = backR p ++ [c] := by
  obtain ⟨h1, h2⟩ := h
  have h2 : p.2 = [] := h2
  have hl := (st_no hn).2.1
  rw [ln_no _ _ (st_no hn).1, h2, List.nil_append]
  unfold backR lnStep
  rw [h2]
  split
  · simp [List.drop_append_of_le_length (show 22 ≤ (stR n).length by omega), List.drop_of_length_le (show (stR n).length ≤ 22 by omega)]
  · simp [List.drop_append_of_le_length (show 22 ≤ (stR n).length by omega), List.drop_of_length_le (show (stR n).length ≤ 22 by omega)]
theorem back_data {p : List Str × Str} {n : Int} (hn : 0 ≤ n ∧ n ≤ lastT) (o : Bool) (h : LInv p o) (s : Str) : backR (lnF p (dataR n o s).1) = backR p ++ s := by
  induction s using snoc_ind with
  | nil => rw [data_nil]; simp [lnF]
  | append_singleton s c ih =>
    have hi := inv_data hn o h s
    rw [data_snoc]
    generalize dataR n o s = r at ih hi
    obtain ⟨t, q⟩ := r
    unfold dStep
    simp only at ih hi ⊢
    rw [ln_app, ln_app, ln_one]
    cases q
    · rw [show (if false = true then ([] : Str) else stR n) = stR n from rfl, back_first hn hi, ih, List.append_assoc]
    · rw [show (if true = true then ([] : Str) else stR n) = [] from rfl]
      show backR (lnStep (lnF p t) c) = _
      rw [back_more hi, ih, List.append_assoc]
theorem back_all (l : List It) (hl : ∀ x ∈ l, 0 ≤ x.2.1 ∧ x.2.1 ≤ lastT) (hd : ∀ x ∈ l, x.1 = 1) : backR (lnF ([], []) (allR l).1) = toldR l := by
  induction l using snoc_ind with
  | nil => rfl
  | append_singleton l x ih =>
    have hl' : ∀ y ∈ l, 0 ≤ y.2.1 ∧ y.2.1 ≤ lastT := fun y hy => hl y (List.mem_append_left _ hy)
    have ih := ih hl' fun y hy => hd y (List.mem_append_left _ hy)
    have hx := hd x (by simp)
    rw [all_snoc, told_snoc, if_pos hx]
    unfold stepR addR
    rw [if_pos hx]
    simp only
    rw [ln_app, back_data (hl x (by simp)) _ (inv_all l hl'), ih]
theorem back_lines (s : Str) : (linesR s).flatMap (fun z => z.drop 22) = backR (lnF ([], []) s) := by
  unfold linesR backR
  rw [List.flatMap_append]
  congr 1
  split
  · rename_i h; rw [h]; rfl
  · simp
theorem told_filter (l : List It) : toldR (l.filter (fun x => x.1 == 1)) = toldR l := by
  induction l with
  | nil => rfl
  | cons x l ih =>
    by_cases h : x.1 = 1
    · have : (x.1 == 1) = true := by simpa using h
      rw [List.filter_cons_of_pos (p := fun y : It => y.1 == 1) this]
      unfold toldR at ih ⊢
      rw [List.flatMap_cons, List.flatMap_cons, ih]
    · have : ¬ (x.1 == 1) = true := by simpa using h
      rw [List.filter_cons_of_neg (p := fun y : It => y.1 == 1) this, ih]
      unfold toldR
      rw [List.flatMap_cons, if_neg h]
      rfl
end Mark
end Go.Proofs.Ytjelndobekcbmaa
