/- What a reader reads: plain, without the program. -/
import Derived.Test.YtmmdiccpifepfaaMuxSplit
import Derived.Test.YtmmdiccpifepfaaAnsR
import Derived.Test.YtmmdiccpifepfaaWordCut
namespace Go.Proofs.Ytmmdiccpifepfaa
open Go.RowKit
set_option linter.unusedVariables false
set_option linter.unusedSimpArgs false
namespace Rd
open Mux Ans Digit Word
/-- A view: its console, what that told, and whether it is open. -/
abbrev Vw := Str × Str × Bool
structure X where
  R : List Rep
  V : List Vw
  role : Int
  bad : Bool
def X0 : X := ⟨[], [], 0, false⟩
/-- The view that is open. -/
def opn (V : List Vw) : Option (Str × Str) := match V.getLast? with
  | some (n, t, true) => some (n, t)
  | _ => none
def lastR (r : Rep) : Str := match r.2 with
  | [l] => (cutR l).getLast?.getD []
  | _ => []
def badR (x : X) : X := { x with bad := true }
def setV (x : X) (v : Vw) : X := { x with V := x.V.dropLast ++ [v] }
def dataR (x : X) (s : Str) : X := match opn x.V with
  | some (n, t) => setV x (n, t ++ s, true)
  | none => badR x
def beR (x : X) (role : Int) (name : Str) : X := match opn x.V with
  | some (n, t) => if n = name then { x with role := role } else badR x
  | none => { x with role := role, V := x.V ++ [(name, [], true)] }
def leaveR (x : X) (name : Str) : X := match opn x.V with
  | some (n, t) => if n = name then { setV x (n, t, false) with role := 0 } else badR x
  | none => badR x
def dropR (x : X) : X := match opn x.V with
  | some (n, t) => { setV x (n, t, false) with role := 0 }
  | none => { x with role := 0 }
def actR (x : X) (r : Rep) : X :=
  if r.1 = 310 then beR x 2 (lastR r) else if r.1 = 311 then beR x 1 (lastR r) else if r.1 = 312 then beR x 3 (lastR r)
  else if r.1 = 313 then leaveR x (lastR r) else if r.1 = 460 then dropR x else x
def replyR (x : X) (s : Str) : X :=
  if (readA s).2.2 = 0 ∧ (readA s).2.1 = s.length then actR { x with R := x.R ++ [(readA s).1] } (readA s).1 else badR x
def stepP (x : X) (p : Str × Bool) : X := if x.bad = true then x else if p.2 = true then replyR x p.1 else dataR x p.1
def stepT (x : X) : Tok → X
  | .d c => stepP x ([c], false)
  | .r s => stepP x (s, true)
theorem stepP_bad {x : X} (h : x.bad = true) (p : Str × Bool) : stepP x p = x := by unfold stepP; rw [if_pos h]
theorem stepT_bad {x : X} (h : x.bad = true) (t : Tok) : stepT x t = x := by cases t <;> exact stepP_bad h _
theorem foldT_bad {x : X} (h : x.bad = true) (l : List Tok) : l.foldl stepT x = x := by
  induction l with
  | nil => rfl
  | cons t l ih => rw [List.foldl_cons, stepT_bad h, ih]
theorem opn_some {V : List Vw} {n t : Str} (h : opn V = some (n, t)) : ∃ U, V = U ++ [(n, t, true)] := by
  unfold opn at h
  split at h
  · rename_i a b hl
    obtain ⟨U, rfl⟩ := List.getLast?_eq_some_iff.1 hl
    injection h with h
    injection h with h1 h2
    subst h1 h2
    exact ⟨U, rfl⟩
  · cases h
theorem opn_snoc (U : List Vw) (n t : Str) : opn (U ++ [(n, t, true)]) = some (n, t) := by unfold opn; simp
theorem opn_shut (U : List Vw) (n t : Str) : opn (U ++ [(n, t, false)]) = none := by unfold opn; simp
theorem opn_none {V : List Vw} (h : opn V = none) : V = [] ∨ ∃ U n t, V = U ++ [(n, t, false)] := by
  rcases List.eq_nil_or_concat V with rfl | ⟨U, ⟨n, t, b⟩, rfl⟩
  · exact .inl rfl
  · rw [List.concat_eq_append] at *
    cases b
    · exact .inr ⟨U, n, t, rfl⟩
    · rw [opn_snoc] at h; cases h
theorem data_some {x : X} {U : List Vw} {n t : Str} (h : x.V = U ++ [(n, t, true)]) (s : Str) : dataR x s = { x with V := U ++ [(n, t ++ s, true)] } := by
  unfold dataR; rw [h, opn_snoc]; unfold setV; rw [h]; simp
theorem data_none {x : X} (h : opn x.V = none) (s : Str) : dataR x s = badR x := by unfold dataR; rw [h]
theorem data_two {x : X} (hb : x.bad = false) (a b : Str) : stepP (dataR x a) (b, false) = dataR x (a ++ b) := by
  cases h : opn x.V with
  | none => rw [data_none h, data_none h]; exact stepP_bad rfl _
  | some p =>
    obtain ⟨n, t⟩ := p
    obtain ⟨U, hU⟩ := opn_some h
    rw [data_some hU, data_some hU]
    unfold stepP
    rw [if_neg (by simp [hb]), if_neg (by simp), data_some rfl]
    simp
theorem fold_data (s : Str) : ∀ (x : X) (a : Str), x.bad = false → (s.map Tok.d).foldl stepT (dataR x a) = dataR x (a ++ s) := by
  induction s with
  | nil => intro x a _; simp
  | cons c s ih =>
    intro x a hb
    rw [List.map_cons, List.foldl_cons, show stepT (dataR x a) (Tok.d c) = stepP (dataR x a) ([c], false) from rfl, data_two hb, ih x _ hb]
    simp
theorem fold_part {x : X} {p : Str × Bool} (h : p.2 = false → p.1 ≠ []) : (toks p).foldl stepT x = stepP x p := by
  obtain ⟨s, b⟩ := p
  cases b with
  | true => rfl
  | false =>
    cases hb : x.bad with
    | true => rw [foldT_bad hb, stepP_bad hb]
    | false =>
      obtain ⟨c, s, rfl⟩ := List.exists_cons_of_ne_nil (h rfl)
      show ((c :: s).map Tok.d).foldl stepT x = _
      rw [List.map_cons, List.foldl_cons, show stepT x (Tok.d c) = dataR x [c] from by show stepP x _ = _; unfold stepP; rw [if_neg (by simp [hb]), if_neg (by simp)], fold_data s x _ hb]
      unfold stepP; rw [if_neg (by simp [hb]), if_neg (by simp)]; rfl
/-- Parts are their tokens. -/
theorem fold_tk (l : List (Str × Bool)) (h : Ne l) : ∀ x, l.foldl stepP x = (tk l).foldl stepT x := by
  induction l with
  | nil => intro x; rfl
  | cons p l ih =>
    intro x
    rw [List.foldl_cons, show tk (p :: l) = toks p ++ tk l from rfl, List.foldl_append, fold_part (h p List.mem_cons_self), ih fun y hy => h y (List.mem_cons_of_mem _ hy)]
/-- All that was sent. -/
def allR (s : Str) : X := (run 0 [] s).2.foldl stepT X0
theorem all_append (s t : Str) : allR (s ++ t) = (run (run 0 [] s).1.1 (run 0 [] s).1.2 t).2.foldl stepT (allR s) := by
  unfold allR; rw [run_append, List.foldl_append]
theorem all_feed (s t : Str) : (flushR (feedR (run 0 [] s).1.1 (run 0 [] s).1.2 [] [] t).2.1 (feedR (run 0 [] s).1.1 (run 0 [] s).1.2 [] [] t).2.2).foldl stepP (allR s) = allR (s ++ t) := by
  rw [fold_tk _ (feedR_ne _ _ _ _ _ Ne.nil), (feedR_run _ _ _ _ _).2, all_append]
  rfl
theorem all_split {s : Str} {l : List (Str × Bool)} (h : tk l = (run 0 [] s).2) (hn : Ne l) : l.foldl stepP X0 = allR s := by
  rw [fold_tk l hn, h]; rfl
def codeR (x : X) (p : Nat) : Int := if x.bad = true then 3 else checkR p
/-- How much was read. -/
def Fit (n : Nat) (x : X) : Prop := x.R.length ≤ n ∧ x.V.length ≤ n ∧ ∀ v ∈ x.V, v.2.1.length ≤ n
theorem Fit.mono {n m : Nat} {x : X} (h : Fit n x) (hm : n ≤ m) : Fit m x := ⟨Nat.le_trans h.1 hm, Nat.le_trans h.2.1 hm, fun v hv => Nat.le_trans (h.2.2 v hv) hm⟩
theorem Fit.bad {n : Nat} {x : X} (h : Fit n x) : Fit n (badR x) := h
theorem Fit.role {n : Nat} {x : X} (h : Fit n x) (r : Int) : Fit n { x with role := r } := h
theorem Fit.set {n : Nat} {x : X} (h : Fit n x) {U : List Vw} {u : Vw} (hU : x.V = U ++ [u]) {v : Vw} (hv : v.2.1.length ≤ n) : Fit n (setV x v) := by
  obtain ⟨h1, h2, h3⟩ := h
  unfold setV
  rw [hU] at h2 h3
  refine ⟨h1, ?_, fun y hy => ?_⟩
  · simp only [hU]; simpa using h2
  · simp only [hU] at hy
    simp at hy
    rcases hy with hy | rfl
    · exact h3 y (by simp [hy])
    · exact hv
theorem Fit.be {n : Nat} {x : X} (h : Fit n x) (r : Int) (s : Str) : Fit (n + 1) (beR x r s) := by
  unfold beR
  split
  · split
    · exact h.mono (by omega)
    · exact h.mono (by omega)
  · refine ⟨Nat.le_trans h.1 (by omega), by simpa using h.2.1, fun v hv => ?_⟩
    simp at hv
    rcases hv with hv | rfl
    · exact Nat.le_trans (h.2.2 v hv) (by omega)
    · simp
theorem Fit.leave {n : Nat} {x : X} (h : Fit n x) (s : Str) : Fit n (leaveR x s) := by
  unfold leaveR
  split
  · rename_i a t ho
    obtain ⟨U, hU⟩ := opn_some ho
    split
    · exact Fit.role (h.set hU (v := (a, t, false)) (h.2.2 (a, t, true) (by rw [hU]; simp))) 0
    · exact h
  · exact h
theorem Fit.drop {n : Nat} {x : X} (h : Fit n x) : Fit n (dropR x) := by
  unfold dropR
  split
  · rename_i a t ho
    obtain ⟨U, hU⟩ := opn_some ho
    exact Fit.role (h.set hU (v := (a, t, false)) (h.2.2 (a, t, true) (by rw [hU]; simp))) 0
  · exact h
theorem Fit.data {n : Nat} {x : X} (h : Fit n x) (s : Str) : Fit (n + s.length) (dataR x s) := by
  unfold dataR
  split
  · rename_i a t ho
    obtain ⟨U, hU⟩ := opn_some ho
    refine (h.mono (by omega)).set hU ?_
    have := h.2.2 (a, t, true) (by rw [hU]; simp)
    simp only [List.length_append] at this ⊢
    omega
  · exact h.mono (by omega)
theorem Fit.act {n : Nat} {x : X} (h : Fit n x) (r : Rep) : Fit (n + 1) (actR x r) := by
  unfold actR
  split
  · exact h.be _ _
  split
  · exact h.be _ _
  split
  · exact h.be _ _
  split
  · exact (h.leave _).mono (by omega)
  split
  · exact h.drop.mono (by omega)
  · exact h.mono (by omega)
theorem Fit.reply {n : Nat} {x : X} (h : Fit n x) (s : Str) : Fit (n + 2) (replyR x s) := by
  unfold replyR
  split
  · refine Fit.act (n := n + 1) ?_ _
    exact ⟨by simpa using h.1, Nat.le_trans h.2.1 (by omega), fun v hv => Nat.le_trans (h.2.2 v hv) (by omega)⟩
  · exact h.mono (by omega)
theorem Fit.part {n : Nat} {x : X} (h : Fit n x) (p : Str × Bool) : Fit (n + p.1.length + 2) (stepP x p) := by
  unfold stepP
  split
  · exact h.mono (by omega)
  split
  · exact (h.reply p.1).mono (by omega)
  · exact (h.data p.1).mono (by omega)
theorem Fit.parts (l : List (Str × Bool)) : ∀ {n : Nat} {x : X}, Fit n x → Fit (n + tot l + 2 * l.length) (l.foldl stepP x) := by
  induction l with
  | nil => intro n x h; simpa [tot] using h
  | cons p l ih =>
    intro n x h
    have e : tot (p :: l) = p.1.length + tot l := by simp [tot]
    rw [List.foldl_cons, e, List.length_cons]
    exact (ih (h.part p)).mono (by omega)
theorem fit_nil : Fit 0 X0 := ⟨Nat.le_refl _, Nat.le_refl _, fun v hv => by cases hv⟩
/-- The lines of a reply are no longer than its text. -/
theorem line_le {s t : Str} (h : lineR s = some t) : t.length ≤ s.length := by
  obtain ⟨r, rfl⟩ := line_some h
  simp
theorem readF_le (s : Str) : ∀ (f a : Nat) (num : Int) (L : List Str), (∀ x ∈ L, x.length ≤ s.length) → ∀ x ∈ (readF f s a num L).1.2, x.length ≤ s.length := by
  intro f
  induction f with
  | zero => intro a num L h x hx; simp [readF] at hx
  | succ f ih =>
    intro a num L h x hx
    unfold readF at hx
    cases hl : lineR (s.drop a) with
    | none => rw [hl] at hx; simp at hx
    | some t =>
      rw [hl] at hx
      have h1 := line_le hl
      have h2 := uns_len (t.drop 4)
      simp only [List.length_drop] at h1 h2
      have h3 : ∀ y ∈ L ++ [(unsP (t.drop 4)).1], y.length ≤ s.length := by
        intro y hy
        rcases List.mem_append.1 hy with hy | hy
        · exact h y hy
        · rw [List.mem_singleton.1 hy]; omega
      simp only at hx
      split at hx
      · simp at hx
      split at hx
      · simp at hx
      split at hx
      · simp at hx
      split at hx
      · exact h3 x hx
      · exact ih _ _ _ h3 x hx
theorem read_le (s : Str) : ∀ x ∈ (readA s).1.2, x.length ≤ s.length := readF_le s _ _ _ _ (fun x hx => by cases hx)
end Rd
end Go.Proofs.Ytmmdiccpifepfaa
