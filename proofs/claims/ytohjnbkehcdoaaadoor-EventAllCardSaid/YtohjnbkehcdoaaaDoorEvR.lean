/- Package event: events as lines are read as the same ones (plain). -/
import Derived.Test.YtohjnbkehcdoaaaDoorEvM
namespace Go.Proofs.YtohjnbkehcdoaaaDoor
open Go.RowKit
set_option linter.unusedVariables false
set_option linter.unusedSimpArgs false
namespace Ev
open Digit Sls
/-- The first code of some events that is not 0. -/
def firstF (l : List E) : Int := l.foldl (fun f e => if f = 0 then checkE e else f) 0
theorem fold_stay {l : List E} {f : Int} (h : f ≠ 0) : l.foldl (fun f e => if f = 0 then checkE e else f) f = f := by
  induction l with
  | nil => rfl
  | cons e l ih => rw [List.foldl_cons, if_neg h]; exact ih
theorem firstF_cons (e : E) (l : List E) : firstF (e :: l) = if checkE e = 0 then firstF l else checkE e := by
  unfold firstF
  rw [List.foldl_cons, if_pos rfl]
  by_cases h : checkE e = 0
  · rw [h, if_pos rfl]
  · rw [if_neg h, fold_stay h]
theorem firstF_snoc (e : E) (l : List E) : firstF (l ++ [e]) = if firstF l = 0 then checkE e else firstF l := by
  unfold firstF
  rw [List.foldl_append]
  rfl
theorem put_code (e : E) : (putE e).2 = checkE e := by
  unfold putE
  cases hr : byK e.k with
  | none => rfl
  | some r =>
    simp only
    by_cases h : checkE e = 0
    · rw [if_pos h, h]
    · rw [if_neg h]
def linesT (l : List E) : Str := l.flatMap fun e => (putE e).1 ++ [10]
theorem textG_eq (l : List E) : ∀ acc, textG acc l = if firstF l = 0 then (acc ++ linesT l, 0) else ([], firstF l) := by
  induction l with
  | nil => intro acc; simp [textG, firstF, linesT]
  | cons e l ih =>
    intro acc
    rw [textG, firstF_cons, put_code]
    by_cases h : checkE e = 0
    · rw [if_pos h, if_pos h, ih]
      by_cases h2 : firstF l = 0
      · rw [if_pos h2, if_pos h2]
        simp [linesT]
      · rw [if_neg h2, if_neg h2]
    · rw [if_neg h, if_neg h, if_neg h]
theorem textE_eq (l : List E) : textE l = if firstF l = 0 then (linesT l, 0) else ([], firstF l) := by
  unfold textE
  rw [textG_eq]
  rfl
/-- A line that is put is not empty, begins with no '#', and holds no end of a line. -/
theorem line_good {e : E} (h : checkE e = 0) : ∃ c t, (putE e).1 = c :: t ∧ c ≠ 35 ∧ ∀ d ∈ (putE e).1, d ≠ 10 := by
  obtain ⟨r, hr, i1, i2, -⟩ := check_row h
  have hm := (byK_mem hr).1
  rw [put_ok hr h]
  have hw : ∃ c t, r.word = c :: t ∧ c ≠ 35 ∧ ∀ d ∈ r.word, d ≠ 10 := by
    simp only [rowsP, List.mem_cons, List.not_mem_nil, or_false] at hm
    rcases hm with rfl | rfl | rfl | rfl | rfl | rfl | rfl | rfl | rfl | rfl <;> exact ⟨_, _, rfl, by decide, by decide⟩
  obtain ⟨c, t, hw, hc, hd⟩ := hw
  have hp : ∀ {n : Int}, inR n = true → ∀ d ∈ putR n, d ≠ 10 := by
    intro n hn d hd
    have hn := of_decide_eq_true hn
    unfold putR at hd
    rw [if_neg (by omega)] at hd
    have := dec_digits _ d hd
    rintro rfl
    exact absurd this (by decide)
  have hy : ∀ d ∈ yn e.ok, d ≠ 10 := by cases e.ok <;> decide
  have hs : ∀ d ∈ showR e.s, d ≠ 10 := by
    intro d hd
    have := show_seen e.s d hd
    rintro rfl
    exact absurd this.1 (by decide)
  refine ⟨c, t ++ ((if r.w then 32 :: putR e.who else []) ++ (if r.y then 32 :: yn e.ok else []) ++ (if r.n then 32 :: putR e.n else []) ++ (if r.s then 32 :: showR e.s else [])), ?_, hc, ?_⟩
  · show lineR r e = _
    unfold lineR
    rw [hw]
    simp
  · intro d hdd
    have hdd : d ∈ lineR r e := hdd
    unfold lineR at hdd
    simp only [List.mem_append] at hdd
    rcases hdd with (((hdd | hdd) | hdd) | hdd) | hdd
    · exact hd d hdd
    · split at hdd
      · rcases List.mem_cons.1 hdd with rfl | hdd
        · decide
        · exact hp i1 d hdd
      · cases hdd
    · split at hdd
      · rcases List.mem_cons.1 hdd with rfl | hdd
        · decide
        · exact hy d hdd
      · cases hdd
    · split at hdd
      · rcases List.mem_cons.1 hdd with rfl | hdd
        · decide
        · exact hp i2 d hdd
      · cases hdd
    · split at hdd
      · rcases List.mem_cons.1 hdd with rfl | hdd
        · decide
        · exact hs d hdd
      · cases hdd
theorem goA_line (t : Str) : ∀ (o : List E) (n : Nat) (cur rest : Str), (∀ d ∈ t, d ≠ 10) → goA o n cur (t ++ 10 :: rest) = thenA (stepL o n (cur ++ t)) fun o' => goA o' (n + 1) [] rest := by
  induction t with
  | nil => intro o n cur rest _; rw [List.nil_append, goA, if_pos rfl, List.append_nil]; cases stepL o n cur <;> rfl
  | cons c t ih =>
    intro o n cur rest h
    rw [List.cons_append, goA, if_neg (h c (by simp)), ih _ _ _ _ (fun d hd => h d (by simp [hd]))]
    simp
theorem read_line {e : E} (h : checkE e = 0) : readE (putE e).1 = (e, 0) := by
  obtain ⟨r, hr, -⟩ := check_row h
  rw [put_ok hr h]
  exact read_put h hr
theorem goA_text (l : List E) : ∀ (o : List E) (n : Nat), firstF l = 0 → goA o n [] (linesT l) = .ok (o ++ l) := by
  induction l with
  | nil => intro o n _; rw [List.append_nil]; show stepL o n [] = _; exact step_skip (.inl rfl)
  | cons e l ih =>
    intro o n h
    rw [firstF_cons] at h
    by_cases h0 : checkE e = 0
    · rw [if_pos h0] at h
      obtain ⟨c, t, e1, e2, e3⟩ := line_good h0
      have e4 : linesT (e :: l) = (putE e).1 ++ 10 :: linesT l := by unfold linesT; rw [List.flatMap_cons]; simp
      rw [e4, goA_line _ _ _ _ _ e3, List.nil_append, step_ok (e := e) ?_ (read_line h0)]
      · unfold thenA
        simp only
        rw [ih _ _ h]
        simp
      · rintro (h | h)
        · rw [e1] at h; cases h
        · rw [e1] at h; simp at h; exact e2 h
    · rw [if_neg h0] at h; exact absurd h h0
theorem all_text {l : List E} (h : firstF l = 0) : allE (linesT l) = .ok l := by unfold allE; rw [goA_text l _ _ h]; rfl
theorem linesT_len {l : List E} (h : ∀ e ∈ l, e.s.length ≤ 200) : (linesT l).length ≤ l.length * 900 := by
  induction l with
  | nil => exact Nat.zero_le _
  | cons e l ih =>
    have h1 := ih fun x hx => h x (by simp [hx])
    have h2 := put_len e
    have h3 := h e (by simp)
    have e4 : linesT (e :: l) = ((putE e).1 ++ [10]) ++ linesT l := by unfold linesT; rw [List.flatMap_cons]
    rw [e4]
    simp only [List.length_append, List.length_cons, List.length_nil]
    omega
theorem stepL_err {o : List E} {n m : Nat} {cur : Str} (h : stepL o n cur = .error m) : m = n := by
  unfold stepL at h
  split at h
  · cases h
  · split at h
    · cases h
    · injection h with h; exact h.symm
theorem goA_err (s : Str) : ∀ (o : List E) (n m : Nat) (cur : Str), goA o n cur s = .error m → n ≤ m := by
  induction s with
  | nil => intro o n m cur h; exact Nat.le_of_eq (stepL_err h).symm
  | cons c s ih =>
    intro o n m cur h
    rw [goA] at h
    by_cases hc : c = 10
    · rw [if_pos hc] at h
      cases hs : stepL o n cur with
      | ok o' => rw [hs] at h; exact Nat.le_trans (Nat.le_succ n) (ih _ _ _ _ h)
      | error k =>
        rw [hs] at h
        injection h with h
        rw [← h]
        exact Nat.le_of_eq (stepL_err hs).symm
    · rw [if_neg hc] at h; exact ih _ _ _ _ h
theorem all_err {s : Str} {n : Nat} (h : allE s = .error n) : 0 < n := goA_err s [] 1 n [] h
end Ev
end Go.Proofs.YtohjnbkehcdoaaaDoor
