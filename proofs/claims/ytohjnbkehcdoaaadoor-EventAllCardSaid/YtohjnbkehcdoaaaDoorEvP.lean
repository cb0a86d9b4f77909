/- Package event in plain terms: an event as a line, and the event of a line; what the program reads is what the reference reads. Plain lemmas. -/
import Derived.Test.YtohjnbkehcdoaaaDoorDigitLaws
import Derived.Test.YtohjnbkehcdoaaaDoorDigitUns2
namespace Go.Proofs.YtohjnbkehcdoaaaDoor
open Go.RowKit
set_option linter.unusedVariables false
set_option linter.unusedSimpArgs false
namespace Ev
open Digit
/-- An event: its kind, who, the number, yes or no, the bytes. -/
structure E where
  k : Int
  who : Int
  n : Int
  ok : Bool
  s : Str
deriving DecidableEq
def E0 : E := ⟨0, 0, 0, false, []⟩
/-- A kind: its number, its word, and what stands behind it. -/
structure R where
  k : Int
  word : Str
  w : Bool
  y : Bool
  n : Bool
  s : Bool
deriving DecidableEq
def rowsP : List R := [⟨1, [99, 111, 109, 101], true, false, false, false⟩, ⟨2, [103, 111, 110, 101], true, false, false, false⟩, ⟨3, [116, 121, 112, 101], true, false, false, true⟩, ⟨4, [114, 111, 111, 109], true, false, true, false⟩,
  ⟨5, [111, 112, 101, 110, 101, 100], true, true, true, false⟩, ⟨6, [108, 111, 115, 116], true, false, true, false⟩, ⟨7, [116, 111, 108, 100], true, false, false, true⟩, ⟨8, [116, 105, 99, 107], false, false, true, false⟩,
  ⟨9, [102, 97, 117, 108, 116], false, false, true, false⟩, ⟨10, [99, 111, 110, 102], false, false, false, true⟩]
def byK (k : Int) : Option R := rowsP.find? fun r => r.k == k
def byW (t : Str) : Option R := rowsP.find? fun r => r.word == t
def inR (n : Int) : Bool := decide (0 ≤ n ∧ n ≤ 1073741824)
def extra (r : R) (e : E) : Bool := (!r.w && e.who != 0) || (!r.n && e.n != 0) || (!r.y && e.ok) || (!r.s && e.s != [])
def checkE (e : E) : Int := match byK e.k with
  | none => 1
  | some r => if (!inR e.who || !inR e.n) = true then 2 else if extra r e = true then 3 else 0
def yesB : Str := [121, 101, 115]
def noB : Str := [110, 111]
def yn (b : Bool) : Str := if b then yesB else noB
/-- What stands behind the word, each piece with a blank behind it. -/
def tailR (r : R) (e : E) : Str := (if r.w then putR e.who ++ [32] else []) ++ (if r.y then yn e.ok ++ [32] else []) ++ (if r.n then putR e.n ++ [32] else []) ++ (if r.s then showR e.s ++ [32] else [])
def lineR (r : R) (e : E) : Str := r.word ++ (if r.w then 32 :: putR e.who else []) ++ (if r.y then 32 :: yn e.ok else []) ++ (if r.n then 32 :: putR e.n else []) ++ (if r.s then 32 :: showR e.s else [])
def putE (e : E) : Str × Int := match byK e.k with
  | none => ([], checkE e)
  | some r => if checkE e = 0 then (lineR r e, 0) else ([], checkE e)
theorem line_tail (r : R) (e : E) : lineR r e ++ [32] = r.word ++ 32 :: tailR r e := by
  unfold lineR tailR
  cases r.w <;> cases r.y <;> cases r.n <;> cases r.s <;> simp
/-- What is ahead of the first blank, and behind it. -/
def cutB : Str → Option (Str × Str)
  | [] => none
  | c :: s => if c = 32 then some ([], s) else (cutB s).map fun p => (c :: p.1, p.2)
theorem cutB_app {a : Str} (h : ∀ c ∈ a, c ≠ 32) (b : Str) : cutB (a ++ 32 :: b) = some (a, b) := by
  induction a with
  | nil => simp [cutB]
  | cons c a ih => rw [List.cons_append, cutB, if_neg (h c (by simp)), ih (fun d hd => h d (by simp [hd]))]; rfl
theorem cutB_some {s a b : Str} (h : cutB s = some (a, b)) : s = a ++ 32 :: b ∧ ∀ c ∈ a, c ≠ 32 := by
  induction s generalizing a with
  | nil => cases h
  | cons c s ih =>
    unfold cutB at h
    split at h
    · rename_i hc
      injection h with h
      injection h with h1 h2
      subst h1 h2 hc
      exact ⟨rfl, fun c hc => by cases hc⟩
    · rename_i hc
      cases hs : cutB s with
      | none => rw [hs] at h; cases h
      | some p =>
        rw [hs] at h
        injection h with h
        injection h with h1 h2
        obtain ⟨g1, g2⟩ := ih (a := p.1) (by rw [hs, ← h2])
        subst h1
        refine ⟨by rw [g1]; rfl, fun d hd => ?_⟩
        rcases List.mem_cons.1 hd with rfl | hd
        · exact hc
        · exact g2 d hd
theorem cutB_none {s : Str} (h : cutB s = none) : ∀ c ∈ s, c ≠ 32 := by
  induction s with
  | nil => intro c hc; cases hc
  | cons c s ih =>
    unfold cutB at h
    split at h
    · cases h
    · rename_i hc
      intro d hd
      rcases List.mem_cons.1 hd with rfl | hd
      · exact hc
      · exact ih (by cases hs : cutB s <;> simp_all) d hd
/-- What is left of a line, and whether it is wrong. -/
abbrev St := Str × Bool
def word (x : St) : Str × St := match cutB x.1 with
  | some (a, b) => (a, (b, x.2))
  | none => ([], (x.1, true))
def number (x : St) : Int × St := ((readR (word x).1).1, ((word x).2.1, (word x).2.2 || (readR (word x).1).2 != 0))
def stW (r : R) (q : E × St) : E × St := if r.w then ({ q.1 with who := (number q.2).1 }, (number q.2).2) else q
def stY (r : R) (q : E × St) : E × St := if r.y then ({ q.1 with ok := (word q.2).1 == yesB }, ((word q.2).2.1, (word q.2).2.2 || ((word q.2).1 != yesB && (word q.2).1 != noB))) else q
def stN (r : R) (q : E × St) : E × St := if r.n then ({ q.1 with n := (number q.2).1 }, (number q.2).2) else q
def stS (r : R) (q : E × St) : E × St :=
  if (r.s && !q.2.2) = true then ({ q.1 with s := (unsP (q.2.1.take (q.2.1.length - 1))).1 }, ([], q.2.1 == [] || (unsP (q.2.1.take (q.2.1.length - 1))).2 != 0)) else q
def finE (q : E × St) : E × Int := if (q.2.2 || q.2.1 != [] || checkE q.1 != 0) = true then (E0, 3) else (q.1, 0)
def readE (line : Str) : E × Int := match byW (word (line ++ [32], false)).1 with
  | none => (E0, 3)
  | some r => finE (stS r (stN r (stY r (stW r ({ E0 with k := r.k }, (word (line ++ [32], false)).2)))))
/-- The reference: piece by piece, and held against the line. -/
def piece (s : Str) : Str × Str := match cutB s with
  | some (a, b) => (a, b)
  | none => (s, [])
def rW (r : R) (q : E × Str) : E × Str := if r.w then ({ q.1 with who := (readR (piece q.2).1).1 }, (piece q.2).2) else q
def rY (r : R) (q : E × Str) : E × Str := if r.y then ({ q.1 with ok := (piece q.2).1 == yesB }, (piece q.2).2) else q
def rN (r : R) (q : E × Str) : E × Str := if r.n then ({ q.1 with n := (readR (piece q.2).1).1 }, (piece q.2).2) else q
def rS (r : R) (q : E × Str) : E × Str := if r.s then ({ q.1 with s := (unsP q.2).1 }, q.2) else q
def rreadE (s : Str) : E × Int := match byW (piece s).1 with
  | none => (E0, 3)
  | some r => if ((putE (rS r (rN r (rY r (rW r ({ E0 with k := r.k }, (piece s).2))))).1).2 != 0 || (putE (rS r (rN r (rY r (rW r ({ E0 with k := r.k }, (piece s).2))))).1).1 != s) = true then (E0, 3) else ((rS r (rN r (rY r (rW r ({ E0 with k := r.k }, (piece s).2))))).1, 0)
theorem rows_ok : ∀ r ∈ rowsP, byK r.k = some r ∧ byW r.word = some r ∧ (∀ c ∈ r.word, c ≠ 32) ∧ r.k ≠ 0 := by decide
theorem byK_mem {k : Int} {r : R} (h : byK k = some r) : r ∈ rowsP ∧ r.k = k := ⟨List.mem_of_find?_eq_some h, by have := List.find?_some h; simpa using this⟩
theorem byW_mem {t : Str} {r : R} (h : byW t = some r) : r ∈ rowsP ∧ r.word = t := ⟨List.mem_of_find?_eq_some h, by have := List.find?_some h; simpa using this⟩
theorem put_nb {n : Int} (h : inR n = true) : (∀ c ∈ putR n, c ≠ 32) ∧ readR (putR n) = (n, 0) := by
  have h := of_decide_eq_true h
  refine ⟨fun c hc => ?_, by rw [readR_put, if_pos ⟨h.1, by omega⟩]⟩
  unfold putR at hc
  rw [if_neg (by omega)] at hc
  have := dec_digits _ c hc
  rintro rfl
  exact absurd this (by decide)
theorem yn_nb (b : Bool) : ∀ c ∈ yn b, c ≠ 32 := by cases b <;> decide
theorem show_back (s : Str) : unsP (showR s) = (s, 0) := by unfold unsP; rw [unsR_show]
theorem uns_back {t u : Str} (h : unsP t = (u, 0)) : showR u = t := by
  unfold unsP at h
  cases hu : unsR t with
  | none => rw [hu] at h; injection h with _ h; cases h
  | some o =>
    rw [hu] at h
    injection h with h _
    subst h
    exact show_uns t.length t o (Nat.le_refl _) hu
theorem word_app {a : Str} (h : ∀ c ∈ a, c ≠ 32) (b : Str) (bd : Bool) : word (a ++ 32 :: b, bd) = (a, (b, bd)) := by unfold word; simp only; rw [cutB_app h]
theorem number_app {n : Int} (h : inR n = true) (b : Str) (bd : Bool) : number (putR n ++ 32 :: b, bd) = (n, (b, bd)) := by
  unfold number
  rw [word_app (put_nb h).1, (put_nb h).2]
  simp
theorem check_row {e : E} (h : checkE e = 0) : ∃ r, byK e.k = some r ∧ inR e.who = true ∧ inR e.n = true ∧ (r.w = false → e.who = 0) ∧ (r.n = false → e.n = 0) ∧ (r.y = false → e.ok = false) ∧ (r.s = false → e.s = []) := by
  unfold checkE at h
  cases hr : byK e.k with
  | none => rw [hr] at h; cases h
  | some r =>
    rw [hr] at h
    simp only at h
    split at h
    · cases h
    rename_i h1
    split at h
    · cases h
    rename_i h2
    simp only [Bool.or_eq_true, Bool.not_eq_true', not_or, Bool.not_eq_false] at h1
    refine ⟨r, rfl, h1.1, h1.2, fun h3 => ?_, fun h3 => ?_, fun h3 => ?_, fun h3 => ?_⟩
    all_goals
      by_cases h4 : extra r e = true
      · exact absurd h4 h2
      · unfold extra at h4
        simp [h3] at h4
        first
          | exact h4.1
          | exact h4.2.1
          | exact h4.2.2.1
          | exact h4.2.2.2
          | simp_all
/-- What is put is read as it. -/
theorem read_put {e : E} {r : R} (hc : checkE e = 0) (hr : byK e.k = some r) : readE (lineR r e) = (e, 0) := by
  obtain ⟨r', hr', h1, h2, h3, h4, h5, h6⟩ := check_row hc
  rw [hr] at hr'
  injection hr' with hr'
  subst hr'
  obtain ⟨hm, hk⟩ := byK_mem hr
  obtain ⟨-, g1, g2, -⟩ := rows_ok r hm
  unfold readE
  rw [line_tail, word_app g2]
  simp only
  rw [g1]
  simp only
  have e1 : stW r ({ E0 with k := r.k }, (tailR r e, false)) = ({ E0 with k := r.k, who := e.who }, ((if r.y then yn e.ok ++ [32] else []) ++ (if r.n then putR e.n ++ [32] else []) ++ (if r.s then showR e.s ++ [32] else []), false)) := by
    unfold stW tailR
    cases hw : r.w with
    | true => simp only [if_true, List.append_assoc, List.singleton_append, List.cons_append, List.nil_append]; rw [number_app h1]
    | false => simp [h3 hw, E0]
  rw [e1]
  have e2 : stY r ({ E0 with k := r.k, who := e.who }, ((if r.y then yn e.ok ++ [32] else []) ++ (if r.n then putR e.n ++ [32] else []) ++ (if r.s then showR e.s ++ [32] else []), false)) = ({ E0 with k := r.k, who := e.who, ok := e.ok }, ((if r.n then putR e.n ++ [32] else []) ++ (if r.s then showR e.s ++ [32] else []), false)) := by
    unfold stY
    cases hw : r.y with
    | true =>
      simp only [if_true, List.append_assoc, List.singleton_append, List.cons_append, List.nil_append]
      rw [word_app (yn_nb e.ok)]
      cases e.ok <;> simp [yn, yesB, noB]
    | false => simp [h5 hw, E0]
  rw [e2]
  have e3 : stN r ({ E0 with k := r.k, who := e.who, ok := e.ok }, ((if r.n then putR e.n ++ [32] else []) ++ (if r.s then showR e.s ++ [32] else []), false)) = ({ E0 with k := r.k, who := e.who, ok := e.ok, n := e.n }, ((if r.s then showR e.s ++ [32] else []), false)) := by
    unfold stN
    cases hw : r.n with
    | true => simp only [if_true, List.append_assoc, List.singleton_append, List.cons_append, List.nil_append]; rw [number_app h2]
    | false => simp [h4 hw, E0]
  rw [e3]
  have e4 : stS r ({ E0 with k := r.k, who := e.who, ok := e.ok, n := e.n }, ((if r.s then showR e.s ++ [32] else []), false)) = (e, ([], false)) := by
    unfold stS
    cases hw : r.s with
    | true =>
      simp only [Bool.not_false, Bool.and_true, if_true, List.length_append, List.length_singleton, Nat.add_sub_cancel, List.take_left]
      rw [show_back]
      simp [hk]
    | false => have h7 := h6 hw; cases e; simp only at h7 hk; simp [h7, hk, E0]
  rw [e4]
  unfold finE
  simp [hc]
/-- What is read is put as it stood. -/
theorem word_good {x : St} {t : Str} {x' : St} (h : word x = (t, x')) (hb : x'.2 = false) : x.1 = t ++ 32 :: x'.1 ∧ x.2 = false ∧ ∀ c ∈ t, c ≠ 32 := by
  unfold word at h
  cases hc : cutB x.1 with
  | none => rw [hc] at h; injection h with _ h; subst h; cases hb
  | some p =>
    rw [hc] at h
    injection h with h1 h2
    subst h1 h2
    obtain ⟨g1, g2⟩ := cutB_some (a := p.1) (b := p.2) hc
    exact ⟨g1, hb, g2⟩
theorem number_good {x : St} {n : Int} {x' : St} (h : number x = (n, x')) (hb : x'.2 = false) : x.1 = putR n ++ 32 :: x'.1 ∧ x.2 = false := by
  unfold number at h
  injection h with h1 h2
  subst h1 h2
  simp only [Bool.or_eq_false_iff, bne_eq_false_iff_eq] at hb
  obtain ⟨g1, g2, -⟩ := word_good (x := x) (t := (word x).1) (x' := (word x).2) rfl hb.1
  have h3 := (readR_back (s := (word x).1) (a := (readR (word x).1).1) (by rw [← hb.2])).1
  exact ⟨by rw [h3]; exact g1, g2⟩
theorem stW_good {r : R} {q : E × St} (hb : (stW r q).2.2 = false) : q.2.2 = false ∧ q.2.1 = (if r.w then putR (stW r q).1.who ++ [32] else []) ++ (stW r q).2.1 ∧ (stW r q).1 = { q.1 with who := (stW r q).1.who } := by
  unfold stW at hb ⊢
  cases hw : r.w with
  | true =>
    rw [hw] at hb
    simp only [if_true] at hb ⊢
    obtain ⟨g1, g2⟩ := number_good (x := q.2) (n := (number q.2).1) (x' := (number q.2).2) rfl hb
    exact ⟨g2, by rw [g1]; simp, trivial⟩
  | false => rw [hw] at hb; exact ⟨by simpa using hb, by simp, by simp⟩
theorem stY_good {r : R} {q : E × St} (hb : (stY r q).2.2 = false) : q.2.2 = false ∧ q.2.1 = (if r.y then yn (stY r q).1.ok ++ [32] else []) ++ (stY r q).2.1 ∧ (stY r q).1 = { q.1 with ok := (stY r q).1.ok } := by
  unfold stY at hb ⊢
  cases hw : r.y with
  | true =>
    rw [hw] at hb
    simp only [if_true, Bool.or_eq_false_iff] at hb ⊢
    obtain ⟨g1, g2, -⟩ := word_good (x := q.2) (t := (word q.2).1) (x' := (word q.2).2) rfl hb.1
    refine ⟨g2, ?_, trivial⟩
    rw [g1]
    have h3 : (word q.2).1 = yesB ∨ (word q.2).1 = noB := by
      have h4 := hb.2
      simp only [Bool.and_eq_false_iff, bne_eq_false_iff_eq] at h4
      exact h4
    rcases h3 with h3 | h3
    · rw [h3]; simp [yn]
    · rw [h3]; simp [yn, yesB, noB]
  | false => rw [hw] at hb; exact ⟨by simpa using hb, by simp, by simp⟩
theorem stN_good {r : R} {q : E × St} (hb : (stN r q).2.2 = false) : q.2.2 = false ∧ q.2.1 = (if r.n then putR (stN r q).1.n ++ [32] else []) ++ (stN r q).2.1 ∧ (stN r q).1 = { q.1 with n := (stN r q).1.n } := by
  unfold stN at hb ⊢
  cases hw : r.n with
  | true =>
    rw [hw] at hb
    simp only [if_true] at hb ⊢
    obtain ⟨g1, g2⟩ := number_good (x := q.2) (n := (number q.2).1) (x' := (number q.2).2) rfl hb
    exact ⟨g2, by rw [g1]; simp, trivial⟩
  | false => rw [hw] at hb; exact ⟨by simpa using hb, by simp, by simp⟩
theorem stS_good {r : R} {q : E × St} (hb : (stS r q).2.2 = false) (he : (stS r q).2.1 = []) (hl : q.2.1 ≠ [] → ∃ u, q.2.1 = u ++ [32]) : q.2.2 = false ∧ q.2.1 = (if r.s then showR (stS r q).1.s ++ [32] else []) ∧ (stS r q).1 = { q.1 with s := (stS r q).1.s } := by
  unfold stS at hb he ⊢
  cases hw : r.s with
  | true =>
    cases hq : q.2.2 with
    | true => rw [hw, hq] at hb; simp [hq] at hb
    | false =>
      rw [hw, hq] at hb
      simp only [Bool.not_false, Bool.and_true, if_true, Bool.or_eq_false_iff, beq_eq_false_iff_ne, bne_eq_false_iff_eq] at hb ⊢
      obtain ⟨u, hu⟩ := hl hb.1
      refine ⟨trivial, ?_, trivial⟩
      have h3 : q.2.1.take (q.2.1.length - 1) = u := by rw [hu]; simp
      rw [h3] at hb ⊢
      have h4 := uns_back (t := u) (u := (unsP u).1) (by rw [← hb.2])
      rw [h4, hu]
  | false =>
    rw [hw] at hb he
    simp only [Bool.false_and, Bool.false_eq_true, if_false] at hb he ⊢
    exact ⟨hb, he, trivial⟩
theorem suf_end {s a b : Str} (h : s ++ [32] = a ++ b) (hb : b ≠ []) : ∃ u, b = u ++ [32] := by
  rcases List.eq_nil_or_concat b with rfl | ⟨u, c, rfl⟩
  · exact absurd rfl hb
  · rw [List.concat_eq_append] at h ⊢
    rw [← List.append_assoc] at h
    obtain ⟨-, h2⟩ := List.append_inj' h rfl
    injection h2 with h2
    exact ⟨u, by rw [← h2]⟩
theorem put_read {s : Str} {e : E} (h : readE s = (e, 0)) : ∃ r, byK e.k = some r ∧ checkE e = 0 ∧ lineR r e = s := by
  unfold readE at h
  cases hr : byW (word (s ++ [32], false)).1 with
  | none => rw [hr] at h; injection h with _ h; cases h
  | some r =>
    rw [hr] at h
    simp only at h
    obtain ⟨hm, hw⟩ := byW_mem hr
    obtain ⟨g1, -, -, -⟩ := rows_ok r hm
    obtain ⟨⟨t, x1⟩, h1⟩ : ∃ q, q = word (s ++ [32], false) := ⟨_, rfl⟩
    rw [← h1] at h hw
    simp only at h hw
    obtain ⟨q2, h2⟩ : ∃ q, q = stW r ({ E0 with k := r.k }, x1) := ⟨_, rfl⟩
    obtain ⟨q3, h3⟩ : ∃ q, q = stY r q2 := ⟨_, rfl⟩
    obtain ⟨q4, h4⟩ : ∃ q, q = stN r q3 := ⟨_, rfl⟩
    obtain ⟨q5, h5⟩ : ∃ q, q = stS r q4 := ⟨_, rfl⟩
    rw [← h2, ← h3, ← h4, ← h5] at h
    unfold finE at h
    split at h
    · injection h with _ h; cases h
    rename_i hf
    simp only [Bool.or_eq_true, not_or, Bool.not_eq_true, bne_eq_false_iff_eq] at hf
    injection h with h _
    subst h
    obtain ⟨⟨f1, f2⟩, f3⟩ := hf
    -- backwards: nothing was wrong
    have b4 : q4.2.2 = false := by
      rw [h5] at f1
      unfold stS at f1
      split at f1
      · rename_i hc; simp only [Bool.and_eq_true, Bool.not_eq_true'] at hc; exact hc.2
      · exact f1
    obtain ⟨b3, t3, w3⟩ := stN_good (r := r) (q := q3) (by rw [← h4]; exact b4)
    obtain ⟨b2, t2, w2⟩ := stY_good (r := r) (q := q2) (by rw [← h3]; exact b3)
    obtain ⟨b1, t1, w1⟩ := stW_good (r := r) (q := ({ E0 with k := r.k }, x1)) (by rw [← h2]; exact b2)
    obtain ⟨t0, -, -⟩ := word_good h1.symm b1
    rw [← h2] at t1 w1
    rw [← h3] at t2 w2
    rw [← h4] at t3 w3
    simp only at t0 t1 w1
    have hs : s ++ [32] = (t ++ 32 :: ((if r.w then putR q2.1.who ++ [32] else []) ++ ((if r.y then yn q3.1.ok ++ [32] else []) ++ (if r.n then putR q4.1.n ++ [32] else [])))) ++ q4.2.1 := by rw [t0, t1, t2, t3]; simp
    obtain ⟨-, t4, w4⟩ := stS_good (r := r) (q := q4) (by rw [← h5]; exact f1) (by rw [← h5]; exact f2) (fun hne => suf_end hs hne)
    rw [← h5] at t4 w4
    have ek : q5.1.k = r.k := by rw [w4, w3, w2, w1]
    have ew : q5.1.who = q2.1.who := by rw [w4, w3, w2]
    have eo : q5.1.ok = q3.1.ok := by rw [w4, w3]
    have en : q5.1.n = q4.1.n := by rw [w4]
    refine ⟨r, by rw [ek]; exact g1, f3, ?_⟩
    have h9 : lineR r q5.1 ++ [32] = s ++ [32] := by
      rw [line_tail, hs, t4, hw]
      unfold tailR
      rw [ew, eo, en]
      simp
    exact (List.append_inj' h9 rfl).1
/-- The reference on what is put. -/
theorem piece_tail {t b : Str} (h : ∀ c ∈ t, c ≠ 32) : piece ((t ++ 32 :: b).dropLast) = (t, b.dropLast) := by
  unfold piece
  rcases List.eq_nil_or_concat b with rfl | ⟨u, c, rfl⟩
  · have e : (t ++ [32]).dropLast = t := by simp
    rw [e]
    cases hc : cutB t with
    | none => rfl
    | some p =>
      obtain ⟨g1, -⟩ := cutB_some (a := p.1) (b := p.2) hc
      exact absurd rfl (h 32 (by rw [g1]; simp))
  · rw [List.concat_eq_append]
    have e : (t ++ 32 :: (u ++ [c])).dropLast = t ++ 32 :: u := by
      rw [show t ++ 32 :: (u ++ [c]) = (t ++ 32 :: u) ++ [c] by simp, List.dropLast_concat]
    rw [e, cutB_app h]
    simp
theorem rread_put {e : E} {r : R} (hc : checkE e = 0) (hr : byK e.k = some r) : rreadE (lineR r e) = (e, 0) := by
  obtain ⟨r', hr', h1, h2, h3, h4, h5, h6⟩ := check_row hc
  rw [hr] at hr'
  injection hr' with hr'
  subst hr'
  obtain ⟨hm, hk⟩ := byK_mem hr
  obtain ⟨-, g1, g2, -⟩ := rows_ok r hm
  have hl : lineR r e = (r.word ++ 32 :: tailR r e).dropLast := by rw [← line_tail]; simp
  have hp : piece (lineR r e) = (r.word, (tailR r e).dropLast) := by rw [hl, piece_tail g2]
  have hfin : (rS r (rN r (rY r (rW r ({ E0 with k := r.k }, (tailR r e).dropLast))))).1 = e := by
    have e1 : rW r ({ E0 with k := r.k }, (tailR r e).dropLast) = ({ E0 with k := r.k, who := e.who }, ((if r.y then yn e.ok ++ [32] else []) ++ (if r.n then putR e.n ++ [32] else []) ++ (if r.s then showR e.s ++ [32] else [])).dropLast) := by
      unfold rW tailR
      cases hw : r.w with
      | true => simp only [if_true, List.append_assoc, List.singleton_append, List.cons_append, List.nil_append]; rw [piece_tail (put_nb h1).1, (put_nb h1).2]
      | false => simp [h3 hw, E0]
    have e2 : rY r ({ E0 with k := r.k, who := e.who }, ((if r.y then yn e.ok ++ [32] else []) ++ (if r.n then putR e.n ++ [32] else []) ++ (if r.s then showR e.s ++ [32] else [])).dropLast) = ({ E0 with k := r.k, who := e.who, ok := e.ok }, ((if r.n then putR e.n ++ [32] else []) ++ (if r.s then showR e.s ++ [32] else [])).dropLast) := by
      unfold rY
      cases hw : r.y with
      | true =>
        simp only [if_true, List.append_assoc, List.singleton_append, List.cons_append, List.nil_append]
        rw [piece_tail (yn_nb e.ok)]
        cases e.ok <;> simp [yn, yesB, noB]
      | false => simp [h5 hw, E0]
    have e3 : rN r ({ E0 with k := r.k, who := e.who, ok := e.ok }, ((if r.n then putR e.n ++ [32] else []) ++ (if r.s then showR e.s ++ [32] else [])).dropLast) = ({ E0 with k := r.k, who := e.who, ok := e.ok, n := e.n }, (if r.s then showR e.s ++ [32] else []).dropLast) := by
      unfold rN
      cases hw : r.n with
      | true => simp only [if_true, List.append_assoc, List.singleton_append, List.cons_append, List.nil_append]; rw [piece_tail (put_nb h2).1, (put_nb h2).2]
      | false => simp [h4 hw, E0]
    rw [e1, e2, e3]
    unfold rS
    cases hw : r.s with
    | true => simp only [if_true, List.dropLast_concat]; rw [show_back]; simp [hk]
    | false => have h7 := h6 hw; cases e; simp only at h7 hk; simp [h7, hk, E0]
  unfold rreadE
  rw [hp]
  simp only
  rw [g1]
  simp only
  rw [hfin]
  have hput : putE e = (lineR r e, 0) := by unfold putE; rw [hr]; simp only; rw [if_pos hc]
  rw [hput]
  simp
theorem rput_read {s : Str} {e : E} (h : rreadE s = (e, 0)) : putE e = (s, 0) := by
  unfold rreadE at h
  split at h
  · injection h with _ h; cases h
  · split at h
    · injection h with _ h; cases h
    · rename_i hf
      simp only [Bool.or_eq_true, not_or, Bool.not_eq_true, bne_eq_false_iff_eq] at hf
      injection h with h _
      subst h
      exact Prod.ext hf.2 hf.1
theorem putE_ok {e : E} {s : Str} (h : putE e = (s, 0)) : ∃ r, byK e.k = some r ∧ checkE e = 0 ∧ lineR r e = s := by
  unfold putE at h
  cases hr : byK e.k with
  | none =>
    rw [hr] at h
    injection h with _ h
    unfold checkE at h
    rw [hr] at h
    cases h
  | some r =>
    rw [hr] at h
    simp only at h
    split at h
    · rename_i hc; injection h with h _; exact ⟨r, rfl, hc, h⟩
    · rename_i hc; injection h with _ h; exact absurd h hc
theorem readE_code (s : Str) : (∃ e, readE s = (e, 0)) ∨ readE s = (E0, 3) := by
  unfold readE
  split
  · exact .inr rfl
  · unfold finE
    split
    · exact .inr rfl
    · exact .inl ⟨_, rfl⟩
theorem rreadE_code (s : Str) : (∃ e, rreadE s = (e, 0)) ∨ rreadE s = (E0, 3) := by
  unfold rreadE
  split
  · exact .inr rfl
  · split
    · exact .inr rfl
    · exact .inl ⟨_, rfl⟩
/-- Both read the same. -/
theorem read_same (s : Str) : rreadE s = readE s := by
  rcases readE_code s with ⟨e, h⟩ | h
  · obtain ⟨r, h1, h2, rfl⟩ := put_read h
    rw [h, rread_put h2 h1]
  · rcases rreadE_code s with ⟨e, h'⟩ | h'
    · obtain ⟨r, h1, h2, rfl⟩ := putE_ok (rput_read h')
      rw [read_put h2 h1] at h
      injection h with _ h
      cases h
    · rw [h, h']
end Ev
end Go.Proofs.YtohjnbkehcdoaaaDoor
