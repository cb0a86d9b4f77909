/- Mark: items as text, plain. -/
import Derived.Test.YtjelndobekcbmaaClockS
import Derived.Test.YtjelndobekcbmaaDigitShow
namespace Go.Proofs.Ytjelndobekcbmaa
open Go.RowKit
set_option linter.unusedVariables false
set_option linter.unusedSimpArgs false
namespace Mark
open Digit Clock
theorem snoc_ind {α : Type} {p : List α → Prop} (nil : p []) (append_singleton : ∀ l x, p l → p (l ++ [x])) (l : List α) : p l := by
  have h : ∀ m : List α, p m.reverse := by
    intro m
    induction m with
    | nil => exact nil
    | cons x m ih => rw [List.reverse_cons]; exact append_singleton _ _ ih
  have := h l.reverse
  rwa [List.reverse_reverse] at this
/-- An item: its kind, its time, its bytes. -/
abbrev It := Int × Int × Str
abbrev RIt : Rd It := RTwo 1 (RInt .i64) (RTwo 1 (RInt .i64) RStr)
theorem stable_it : RIt.Stable := RTwo.stable (RInt.stable _) (RTwo.stable (RInt.stable _) RStr.stable)
noncomputable def stR (n : Int) : Str := [91] ++ stampR n ++ [93, 32]
/-- Is a line of a text begun? -/
def opn (s : Str) : Bool := match s.getLast? with
  | none => false
  | some c => c != 10
noncomputable def dStep (n : Int) (p : Str × Bool) (c : UInt8) : Str × Bool := (p.1 ++ (if p.2 then [] else stR n) ++ [c], c != 10)
noncomputable def dataR (n : Int) (o : Bool) (s : Str) : Str × Bool := s.foldl (dStep n) ([], o)
noncomputable def noteR (n : Int) (o : Bool) (s : Str) : Str := (if o then [10] else []) ++ stR n ++ [45, 45, 32] ++ s ++ [32, 45, 45, 10]
noncomputable def addR (o : Bool) (x : It) : Str × Bool :=
  if x.1 = 1 then dataR x.2.1 o x.2.2
  else if x.1 = 2 then (noteR x.2.1 o (showR x.2.2), false)
  else if x.1 = 3 then (noteR x.2.1 o (showR x.2.2 ++ [32, 108, 111, 115, 116]), false)
  else ([], o)
noncomputable def stepR (p : Str × Bool) (x : It) : Str × Bool := (p.1 ++ (addR p.2 x).1, (addR p.2 x).2)
noncomputable def allR (l : List It) : Str × Bool := l.foldl stepR ([], false)
def toldR (l : List It) : Str := l.flatMap fun x => if x.1 = 1 then x.2.2 else []
theorem data_nil (n : Int) (o : Bool) : dataR n o [] = ([], o) := rfl
theorem data_snoc (n : Int) (o : Bool) (s : Str) (c : UInt8) : dataR n o (s ++ [c]) = dStep n (dataR n o s) c := by simp [dataR]
theorem data_app (n : Int) (s t : Str) (o : Bool) : dataR n o (s ++ t) = ((dataR n o s).1 ++ (dataR n (dataR n o s).2 t).1, (dataR n (dataR n o s).2 t).2) := by
  have h : ∀ (t a : Str) (o : Bool), t.foldl (dStep n) (a, o) = (a ++ (t.foldl (dStep n) ([], o)).1, (t.foldl (dStep n) ([], o)).2) := by
    intro t
    induction t with
    | nil => intro a o; simp
    | cons c t ih =>
      intro a o
      simp only [List.foldl_cons]
      rw [ih, ih (dStep n ([], o) c).1]
      simp [dStep]
  unfold dataR
  rw [List.foldl_append]
  exact h t _ _
theorem all_snoc (l : List It) (x : It) : allR (l ++ [x]) = stepR (allR l) x := by simp [allR]
theorem all_nil : allR [] = ([], false) := rfl
theorem told_snoc (l : List It) (x : It) : toldR (l ++ [x]) = toldR l ++ (if x.1 = 1 then x.2.2 else []) := by simp [toldR]
theorem opn_snoc (s : Str) (c : UInt8) : opn (s ++ [c]) = (c != 10) := by simp [opn]
theorem opn_nil : opn [] = false := rfl
theorem opn_app {s t : Str} (h : t ≠ []) : opn (s ++ t) = opn t := by
  have e := List.dropLast_concat_getLast h
  rw [← e, ← List.append_assoc, opn_snoc, opn_snoc]
theorem opn_data (n : Int) (a s : Str) : ∀ o, opn a = o → opn (a ++ (dataR n o s).1) = (dataR n o s).2 := by
  intro o ho
  induction s using snoc_ind with
  | nil => simpa [data_nil] using ho
  | append_singleton s c ih => rw [data_snoc]; unfold dStep; rw [← List.append_assoc, opn_snoc]
theorem note_end (n : Int) (o : Bool) (s : Str) : noteR n o s = ((if o then [10] else []) ++ stR n ++ [45, 45, 32] ++ s ++ [32, 45, 45]) ++ [10] := by simp [noteR]
theorem opn_note (n : Int) (a : Str) (o : Bool) (s : Str) : opn (a ++ noteR n o s) = false := by
  rw [note_end, ← List.append_assoc, opn_snoc]; rfl
theorem opn_add (a : Str) (o : Bool) (x : It) (h : opn a = o) : opn (a ++ (addR o x).1) = (addR o x).2 := by
  unfold addR
  repeat' split
  · exact opn_data _ _ _ _ h
  · exact opn_note _ _ _ _
  · exact opn_note _ _ _ _
  · simpa using h
theorem opn_all (l : List It) : opn (allR l).1 = (allR l).2 := by
  induction l using snoc_ind with
  | nil => rfl
  | append_singleton l x ih => rw [all_snoc]; exact opn_add _ _ _ ih
theorem st_len (n : Int) : 3 ≤ (stR n).length ∧ (stR n).length ≤ 140 := by
  have h : (stampR n).length ≤ 137 := by
    by_cases h : 0 ≤ n ∧ n ≤ lastT
    · obtain ⟨y, m, d, hd, hy, hm, hdd⟩ := date_wf h
      obtain ⟨a, b, c, ht, ha, hb, hc⟩ := time_wf h
      unfold stampR
      rw [if_pos h, hd, ht]
      have l3 : (threeR y m d [45]).length ≤ 68 := three_len (by unfold wfI; omega) (by unfold wfI; omega) (by unfold wfI; omega)
      have l4 : (threeR a b c [58]).length ≤ 68 := three_len (by unfold wfI; omega) (by unfold wfI; omega) (by unfold wfI; omega)
      simp only [List.length_append, List.length_cons, List.length_nil]
      omega
    · unfold stampR; rw [if_neg h]; simp
  unfold stR
  simp only [List.length_append, List.length_cons, List.length_nil]
  omega
theorem data_len (n : Int) (o : Bool) (s : Str) : (dataR n o s).1.length ≤ 141 * s.length := by
  induction s using snoc_ind with
  | nil => simp [data_nil]
  | append_singleton s c ih =>
    rw [data_snoc]
    have := (st_len n).2
    unfold dStep
    simp only [List.length_append, List.length_cons, List.length_nil]
    split <;> simp <;> omega
theorem note_len (n : Int) (o : Bool) (s : Str) : (noteR n o s).length ≤ 148 + s.length := by
  have := (st_len n).2
  unfold noteR
  simp only [List.length_append, List.length_cons, List.length_nil]
  split <;> simp <;> omega
theorem add_len (o : Bool) (x : It) : (addR o x).1.length ≤ 153 + 141 * x.2.2.length := by
  have h := show_len x.2.2
  unfold addR
  repeat' split
  · have := data_len x.2.1 o x.2.2; omega
  · have := note_len x.2.1 o (showR x.2.2); simp only; omega
  · have := note_len x.2.1 o (showR x.2.2 ++ [32, 108, 111, 115, 116]); simp only [List.length_append, List.length_cons, List.length_nil] at this ⊢; omega
  · simp
/-- Few items, none of them long. -/
def Fewl (l : List It) : Prop := l.length ≤ 40 ∧ ∀ x ∈ l, x.2.2.length ≤ 100
theorem all_len {l : List It} (h : ∀ x ∈ l, x.2.2.length ≤ 100) : (allR l).1.length ≤ 14253 * l.length := by
  induction l using snoc_ind with
  | nil => simp [all_nil]
  | append_singleton l x ih =>
    have h1 := ih fun y hy => h y (List.mem_append_left _ hy)
    have h2 := h x (by simp)
    have h3 := add_len (allR l).2 x
    rw [all_snoc]
    unfold stepR
    simp only [List.length_append, List.length_cons, List.length_nil]
    omega
theorem all_max {l : List It} (h : Fewl l) (k : Nat) : (allR (l.take k)).1.length ≤ 570120 := by
  have h1 := all_len (l := l.take k) fun x hx => h.2 x (List.mem_of_mem_take hx)
  have h2 : (l.take k).length ≤ 40 := by rw [List.length_take]; have := h.1; omega
  have : 14253 * (l.take k).length ≤ 14253 * 40 := Nat.mul_le_mul_left _ h2
  omega
theorem told_len {l : List It} (h : Fewl l) (k : Nat) : (toldR (l.take k)).length ≤ 4000 := by
  have h1 : ∀ m : List It, (∀ x ∈ m, x.2.2.length ≤ 100) → (toldR m).length ≤ 100 * m.length := by
    intro m
    induction m using snoc_ind with
    | nil => intro _; simp [toldR]
    | append_singleton m x ih =>
      intro h
      have h1 := ih fun y hy => h y (List.mem_append_left _ hy)
      have h2 := h x (by simp)
      rw [told_snoc, List.length_append, List.length_append]
      split <;> simp <;> omega
  have h2 := h1 (l.take k) fun x hx => h.2 x (List.mem_of_mem_take hx)
  have h3 : (l.take k).length ≤ 40 := by rw [List.length_take]; have := h.1; omega
  omega
/-- All items but one: in two pieces, that one is the same text. -/
theorem all_pieces (l m : List It) (n : Int) (s t : Str) : allR (l ++ [(1, n, s), (1, n, t)] ++ m) = allR (l ++ [(1, n, s ++ t)] ++ m) := by
  unfold allR
  simp only [List.foldl_append, List.foldl_cons, List.foldl_nil]
  congr 1
  unfold stepR addR
  simp only [if_true, if_pos]
  rw [data_app]
  simp
end Mark
end Go.Proofs.Ytjelndobekcbmaa
