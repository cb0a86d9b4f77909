/- Package runner: what steps are due when: plain facts. -/
import Derived.Test.YtnfkkonmhinlcaaRunStep
namespace Go.Proofs.Ytnfkkonmhinlcaa
open Go.RowKit
set_option linter.unusedVariables false
set_option linter.unusedSimpArgs false
namespace Run
abbrev T := Int × O
def upto (now : Int) (l : List T) : List T := l.takeWhile (fun x => decide (x.1 ≤ now))
/-- What is due behind one time and up to another one. -/
def dueT (was now : Int) (l : List T) : List O := (l.filter (fun x => x.2.1 != 2 && (decide (was < x.1) && decide (x.1 ≤ now)))).map (·.2)
def nextT (was ends : Int) (l : List T) : Int × Bool :=
  match l.find? (fun x => x.2.1 != 2 && decide (was < x.1)) with
  | some x => (x.1, true)
  | none => if was < ends then (ends, true) else (0, false)
def Up (a : Int) (l : List T) : Prop := (∀ x ∈ l, a ≤ x.1) ∧ l.Pairwise (fun x y => x.1 ≤ y.1)
theorem Up.cons {a : Int} {x : T} {l : List T} (h : Up a (x :: l)) : a ≤ x.1 ∧ Up x.1 l :=
  ⟨h.1 x (by simp), fun y hy => (List.pairwise_cons.1 h.2).1 y hy, (List.pairwise_cons.1 h.2).2⟩
theorem Up.mono {a b : Int} {l : List T} (h : Up a l) (hb : b ≤ a) : Up b l := ⟨fun x hx => Int.le_trans hb (h.1 x hx), h.2⟩
theorem times_len (a : Int) (l : List O) : (timesR a l).length = l.length := by
  induction l generalizing a with
  | nil => rfl
  | cons x l ih => simp [timesR, ih]
theorem times_snd (a : Int) (l : List O) : (timesR a l).map (·.2) = l := by
  induction l generalizing a with
  | nil => rfl
  | cons x l ih => simp [timesR, ih]
theorem chk_cons {a : Int} {x : O} {l : List O} (h : chkR a (x :: l) = 0) : 0 ≤ x.2.2 ∧ a + x.2.2 ≤ 1099511627776 ∧ chkR (a + x.2.2) l = 0 := by
  unfold chkR at h
  by_cases h1 : okO x = false
  · rw [if_pos h1] at h; cases h
  rw [if_neg h1] at h
  by_cases h2 : 1099511627776 < a + x.2.2
  · rw [if_pos h2] at h; cases h
  rw [if_neg h2] at h
  exact ⟨okO_n (by simpa using h1), by omega, h⟩
theorem times_up {a : Int} {l : List O} (h : chkR a l = 0) : Up a (timesR a l) ∧ (∀ x ∈ timesR a l, x.1 ≤ endsR a l) ∧ a ≤ endsR a l := by
  induction l generalizing a with
  | nil => exact ⟨⟨fun x hx => (by cases hx), List.Pairwise.nil⟩, fun x hx => (by cases hx), Int.le_refl _⟩
  | cons x l ih =>
    obtain ⟨h1, h2, h3⟩ := chk_cons h
    obtain ⟨i1, i2, i3⟩ := ih h3
    have he : endsR a (x :: l) = endsR (a + x.2.2) l := rfl
    rw [he]
    refine ⟨⟨fun y hy => ?_, ?_⟩, fun y hy => ?_, by omega⟩
    · rcases List.mem_cons.1 hy with rfl | hy
      · show a ≤ a + x.2.2; omega
      · have := i1.1 y hy; omega
    · exact List.pairwise_cons.2 ⟨fun y hy => i1.1 y hy, i1.2⟩
    · rcases List.mem_cons.1 hy with rfl | hy
      · exact i3
      · exact i2 y hy
theorem ends_max {a : Int} {l : List O} (h : chkR a l = 0) (ha : a ≤ 1099511627776) : endsR a l ≤ 1099511627776 := by
  induction l generalizing a with
  | nil => exact ha
  | cons x l ih =>
    obtain ⟨h1, h2, h3⟩ := chk_cons h
    exact ih h3 h2
theorem upto_low {a now : Int} {l : List T} (h : Up a l) (hn : now < a) : upto now l = [] := by
  cases l with
  | nil => rfl
  | cons x l =>
    have := h.cons.1
    unfold upto
    rw [List.takeWhile_cons_of_neg (by simp; omega)]
theorem upto_pos {now : Int} {x : T} {l : List T} (h : x.1 ≤ now) : upto now (x :: l) = x :: upto now l := by
  unfold upto; rw [List.takeWhile_cons_of_pos (by simpa using h)]
theorem upto_neg {now : Int} {x : T} {l : List T} (h : now < x.1) : upto now (x :: l) = [] := by
  unfold upto; rw [List.takeWhile_cons_of_neg (by simp; omega)]
theorem upto_le {a b : Int} (h : a ≤ b) (l : List T) : (upto a l).length ≤ (upto b l).length := by
  induction l with
  | nil => exact Nat.le_refl _
  | cons x l ih =>
    by_cases hx : x.1 ≤ a
    · rw [upto_pos hx, upto_pos (by omega)]; simpa using ih
    · rw [upto_neg (by omega)]; simp
theorem upto_all {now : Int} {l : List T} (h : ∀ x ∈ l, x.1 ≤ now) : upto now l = l := (tw_all h).symm
theorem due_none {was now : Int} {l : List T} (h : ∀ x ∈ l, now < x.1) : dueT was now l = [] := by
  unfold dueT
  rw [List.filter_eq_nil_iff.2 (fun x hx => by have := h x hx; simp; omega)]
  rfl
theorem sel_up {a was now : Int} {l : List T} (h : Up a l) (hw : was ≤ now) : sel (upto was l).length (upto now l) = dueT was now l := by
  induction l generalizing a with
  | nil => rfl
  | cons x l ih =>
    obtain ⟨h1, h2⟩ := h.cons
    by_cases hx : x.1 ≤ was
    · rw [upto_pos hx, upto_pos (by omega)]
      have : dueT was now (x :: l) = dueT was now l := by
        unfold dueT; rw [List.filter_cons_of_neg (by simp; omega)]
      rw [this, ← ih h2]
      unfold sel
      simp
    · by_cases hn : x.1 ≤ now
      · have i := ih h2
        rw [upto_low h2 (by omega)] at i
        rw [upto_neg (by omega), upto_pos hn]
        unfold sel dueT at i ⊢
        simp only [List.length_nil, List.drop_zero] at i ⊢
        by_cases hk : (x.2.1 != 2) = true
        · rw [List.filter_cons_of_pos (p := fun x : T => x.2.1 != 2) hk, List.filter_cons_of_pos (by rw [hk]; simp; omega), List.map_cons, List.map_cons, i]
        · rw [List.filter_cons_of_neg (p := fun x : T => x.2.1 != 2) hk, List.filter_cons_of_neg (by simp at hk ⊢; omega), i]
      · rw [upto_neg (show now < x.1 by omega), due_none]
        · unfold sel; simp
        · intro y hy
          rcases List.mem_cons.1 hy with rfl | hy
          · omega
          · have := h2.1 y hy; omega
theorem find_up {a was : Int} {l : List T} (h : Up a l) : (l.drop (upto was l).length).find? (fun x => x.2.1 != 2) = l.find? (fun x => x.2.1 != 2 && decide (was < x.1)) := by
  induction l generalizing a with
  | nil => rfl
  | cons x l ih =>
    obtain ⟨h1, h2⟩ := h.cons
    by_cases hx : x.1 ≤ was
    · rw [upto_pos hx, List.find?_cons_of_neg (by simp; omega), ← ih h2]
      simp
    · have i := ih h2
      rw [upto_low h2 (by omega)] at i
      simp only [List.length_nil, List.drop_zero] at i
      rw [upto_neg (by omega), List.length_nil, List.drop_zero]
      by_cases hk : (x.2.1 != 2) = true
      · rw [List.find?_cons_of_pos (p := fun x : T => x.2.1 != 2) hk, List.find?_cons_of_pos (by rw [hk]; simp; omega)]
      · rw [List.find?_cons_of_neg (p := fun x : T => x.2.1 != 2) hk, List.find?_cons_of_neg (by simp at hk ⊢; omega), i]
end Run
end Go.Proofs.Ytnfkkonmhinlcaa
