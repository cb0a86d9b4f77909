/- Answer: replies as bytes, plain. -/
import Derived.Test.YtmmdiccpifepfaaMergedC
namespace Go.Proofs.Ytmmdiccpifepfaa
open Go.RowKit
set_option linter.unusedVariables false
set_option linter.unusedSimpArgs false
namespace Ans
open Digit
abbrev Rep := Int × List Str
abbrev RRep : Rd Rep := RTwo 1 (RInt .i64) (RSl 1 RStr)
theorem stable_rep : RRep.Stable := RTwo.stable (RInt.stable _) (RSl.stable RStr.stable)
/-- One line of a reply. -/
def row (n : Int) (c : UInt8) (s : Str) : Str := putR n ++ [c] ++ showR s ++ [13, 10]
def putB (n : Int) : List Str → Str
  | [] => []
  | s :: t => row n (if t = [] then 32 else 45) s ++ putB n t
def filled (L : List Str) : List Str := if L = [] then [[]] else L
/-- A reply as bytes, or why it has none. -/
def putA (r : Rep) : Str × Int := if r.1 < 100 ∨ 999 < r.1 then ([], 2) else if 4200 < r.2.length then ([], 5) else (putB r.1 (filled r.2), 0)
/-- The first line of a text. -/
def lineR : Str → Option Str
  | [] => none
  | [_] => none
  | a :: b :: t => if a = 13 ∧ b = 10 then some [] else (lineR (b :: t)).map (a :: ·)
def readF : Nat → Str → Nat → Int → List Str → Rep × Nat × Int
  | 0, _, _, _, _ => ((0, []), 0, 13)
  | f + 1, s, a, num, L => match lineR (s.drop a) with
    | none => ((0, []), 0, 13)
    | some t =>
      if t.length < 4 ∨ (t[3]? ≠ some 32 ∧ t[3]? ≠ some 45) then ((0, []), 0, 3)
      else if (readR (t.take 3)).2 ≠ 0 ∨ (unsP (t.drop 4)).2 ≠ 0 ∨ (readR (t.take 3)).1 < 100 ∨ (0 < a ∧ (readR (t.take 3)).1 ≠ num) then ((0, []), 0, 3)
      else if L.length = 4200 then ((0, []), 0, 5)
      else if t[3]? = some 32 then (((readR (t.take 3)).1, L ++ [(unsP (t.drop 4)).1]), a + t.length + 2, 0)
      else readF f s (a + t.length + 2) (readR (t.take 3)).1 (L ++ [(unsP (t.drop 4)).1])
/-- The reply with which a text begins. -/
def readA (s : Str) : Rep × Nat × Int := readF (s.length + 1) s 0 0 []
theorem line_some {s t : Str} (h : lineR s = some t) : ∃ r, s = t ++ 13 :: 10 :: r := by
  induction s generalizing t with
  | nil => cases h
  | cons a s ih =>
    cases s with
    | nil => cases h
    | cons b s =>
      unfold lineR at h
      split at h
      · rename_i hh
        injection h with h
        subst h
        obtain ⟨rfl, rfl⟩ := hh
        exact ⟨s, rfl⟩
      · obtain ⟨u, hu, rfl⟩ := Option.map_eq_some_iff.1 h
        obtain ⟨r, hr⟩ := ih hu
        exact ⟨r, by rw [hr]; rfl⟩
theorem line_of (u r : Str) (h : ∀ c ∈ u, c ≠ 13) : lineR (u ++ 13 :: 10 :: r) = some u := by
  induction u with
  | nil => simp [lineR]
  | cons a u ih =>
    have ha := h a (by simp)
    have ih := ih fun c hc => h c (List.mem_cons_of_mem _ hc)
    cases u with
    | nil =>
      simp only [List.cons_append, List.nil_append] at ih ⊢
      unfold lineR
      rw [if_neg (fun e => ha e.1), ih]; rfl
    | cons b u =>
      simp only [List.cons_append] at ih ⊢
      unfold lineR
      rw [if_neg (fun e => ha e.1), ih]; rfl
theorem line_no (u : Str) (h : ∀ c ∈ u, c ≠ 13) : lineR u = none ∧ lineR (u ++ [13]) = none := by
  induction u with
  | nil => exact ⟨rfl, rfl⟩
  | cons a u ih =>
    have ha := h a (by simp)
    obtain ⟨i1, i2⟩ := ih fun c hc => h c (List.mem_cons_of_mem _ hc)
    cases u with
    | nil =>
      refine ⟨rfl, ?_⟩
      simp only [List.cons_append, List.nil_append] at i2 ⊢
      unfold lineR
      rw [if_neg (fun e => ha e.1), i2]; rfl
    | cons b u =>
      simp only [List.cons_append] at i2 ⊢
      refine ⟨?_, ?_⟩
      · unfold lineR
        rw [if_neg (fun e => ha e.1), i1]; rfl
      · unfold lineR
        rw [if_neg (fun e => ha e.1), i2]; rfl
theorem dec_dig (n : Nat) : ∀ c ∈ dec n, 48 ≤ c.toNat ∧ c.toNat ≤ 57 := by
  induction n using Nat.strongRecOn with
  | ind n ih =>
    rw [dec_step]
    have hd : ∀ m : Nat, m < 10 → 48 ≤ (UInt8.ofNat (48 + m)).toNat ∧ (UInt8.ofNat (48 + m)).toNat ≤ 57 := by
      intro m hm
      rw [UInt8.toNat_ofNat']
      omega
    intro c hc
    rcases List.mem_append.1 hc with hc | hc
    · split at hc
      · cases hc
      · exact ih (n / 10) (by omega) c hc
    · rw [List.mem_singleton.1 hc]
      exact hd _ (by omega)
theorem put_dig {n : Int} (h : 100 ≤ n ∧ n ≤ 999) : (putR n).length = 3 ∧ ∀ c ∈ putR n, 48 ≤ c.toNat ∧ c.toNat ≤ 57 := by
  unfold putR
  rw [if_neg (by omega)]
  refine ⟨?_, dec_dig _⟩
  obtain ⟨m, rfl⟩ : ∃ m : Nat, n = m := ⟨n.toNat, by omega⟩
  rw [show ((m : Int)).natAbs = m by omega, dec_step, if_neg (by omega), dec_step, if_neg (by omega), dec_step, if_pos (by omega)]
  simp
theorem uns_showR (s : Str) : unsP (showR s) = (s, 0) := by
  have h : unsR (showR s) = some s := by
    induction s with
    | nil => rfl
    | cons c s ih =>
      have e : showR (c :: s) = signR c ++ showR s := rfl
      rw [e, unsR_sign, ih]; rfl
  unfold unsP
  rw [h]
/-- A line, without its end. -/
def lin (n : Int) (c : UInt8) (s : Str) : Str := putR n ++ [c] ++ showR s
theorem row_lin (n : Int) (c : UInt8) (s : Str) : row n c s = lin n c s ++ 13 :: 10 :: [] := rfl
theorem lin_seen {n : Int} (h : 100 ≤ n ∧ n ≤ 999) {c : UInt8} (hc : c = 32 ∨ c = 45) (s : Str) : ∀ d ∈ lin n c s, 32 ≤ d.toNat ∧ d.toNat ≤ 126 := by
  intro d hd
  unfold lin at hd
  simp only [List.mem_append, List.mem_singleton] at hd
  rcases hd with (hd | rfl) | hd
  · have := (put_dig h).2 d hd; omega
  · rcases hc with rfl | rfl <;> decide
  · exact show_seen s d hd
theorem seen_no {u : Str} (h : ∀ d ∈ u, 32 ≤ d.toNat ∧ d.toNat ≤ 126) : ∀ c ∈ u, c ≠ 13 := by
  intro c hc e
  have := h c hc
  rw [e] at this
  simp at this
theorem lin_parts {n : Int} (h : 100 ≤ n ∧ n ≤ 999) (c : UInt8) (s : Str) : ¬ (lin n c s).length < 4 ∧ (lin n c s)[3]? = some c ∧ readR ((lin n c s).take 3) = (n, 0) ∧ unsP ((lin n c s).drop 4) = (s, 0) ∧ (lin n c s).length + 2 = (row n c s).length := by
  have hl := (put_dig h).1
  have e : lin n c s = putR n ++ (c :: showR s) := by simp [lin]
  refine ⟨?_, ?_, ?_, ?_, ?_⟩
  · rw [e]; simp [hl]; omega
  · rw [e, List.getElem?_append_right (by omega), hl]; rfl
  · rw [e, List.take_append_of_le_length (by omega), List.take_of_length_le (by omega), readR_put, if_pos (by omega)]
  · rw [e, show putR n ++ (c :: showR s) = (putR n ++ [c]) ++ showR s by simp, List.drop_append_of_le_length (by simp [hl]), List.drop_of_length_le (by simp [hl]), List.nil_append, uns_showR]
  · rw [row_lin]; simp
theorem get_ite {c : UInt8} (h : c = 32 ∨ c = 45) : ¬ (some c ≠ some (32 : UInt8) ∧ some c ≠ some 45) := by
  rcases h with rfl | rfl
  · intro h; exact h.1 rfl
  · intro h; exact h.2 rfl
/-- What is put is read. -/
theorem read_back {n : Int} (hn : 100 ≤ n ∧ n ≤ 999) (more : Str) : ∀ (L : List Str) (f : Nat) (pre : Str) (num : Int) (L0 : List Str), L ≠ [] → L.length ≤ f → (pre.length = 0 ∨ num = n) → L0.length + L.length ≤ 4200 →
    readF f (pre ++ (putB n L ++ more)) pre.length num L0 = ((n, L0 ++ L), pre.length + (putB n L).length, 0)
  | [], _, _, _, _, h, _, _, _ => absurd rfl h
  | s :: t, 0, _, _, _, _, hf, _, _ => by simp at hf
  | s :: t, f + 1, pre, num, L0, _, hf, hp, hL => by
    have hsg : (if t = [] then (32 : UInt8) else 45) = 32 ∨ (if t = [] then (32 : UInt8) else 45) = 45 := by split; exact .inl rfl; exact .inr rfl
    obtain ⟨p1, p2, p3, p4, p5⟩ := lin_parts hn (if t = [] then (32 : UInt8) else 45) s
    have e : putB n (s :: t) = row n (if t = [] then 32 else 45) s ++ putB n t := rfl
    have hline : lineR ((pre ++ (putB n (s :: t) ++ more)).drop pre.length) = some (lin n (if t = [] then 32 else 45) s) := by
      rw [List.drop_append_of_le_length (Nat.le_refl _), List.drop_length, List.nil_append, e, row_lin, List.append_assoc, List.append_assoc]
      exact line_of _ _ (seen_no (lin_seen hn hsg s))
    unfold readF
    rw [hline]
    simp only
    rw [p2, p3, p4, if_neg (fun h => h.elim p1 (get_ite hsg)), if_neg (by rintro (h | h | h | h); exact h rfl; exact h rfl; (simp only at h; omega); (simp only at h; omega)), if_neg (by simp at hL; omega)]
    by_cases ht : t = []
    · subst ht
      rw [if_pos (by simp)]
      simp only [if_true] at p5
      simp only [putB, if_true, List.append_nil]
      rw [← p5, Nat.add_assoc]
    · rw [if_neg (by simp [ht])]
      rw [if_neg ht] at p5 hline ⊢
      have ih := read_back hn more t f (pre ++ row n 45 s) n (L0 ++ [s]) ht (by simpa using hf) (.inr rfl) (by simp at hL ⊢; omega)
      have e2 : pre ++ (putB n (s :: t) ++ more) = (pre ++ row n 45 s) ++ (putB n t ++ more) := by rw [e, if_neg ht]; simp
      have e3 : pre.length + (lin n 45 s).length + 2 = (pre ++ row n 45 s).length := by rw [List.length_append, ← p5, Nat.add_assoc]
      rw [e2, e3, ih, e, if_neg ht]
      simp [Nat.add_assoc]
/-- Of what is put, cut off, more is wanted. -/
theorem read_cut {n : Int} (hn : 100 ≤ n ∧ n ≤ 999) : ∀ (L : List Str) (f : Nat) (pre : Str) (num : Int) (L0 : List Str) (k : Nat), (pre.length = 0 ∨ num = n) → L0.length + L.length ≤ 4200 → k < (putB n L).length →
    readF f (pre ++ (putB n L).take k) pre.length num L0 = ((0, []), 0, 13)
  | [], _, _, _, _, _, _, _, h => by simp [putB] at h
  | s :: t, 0, _, _, _, _, _, _, _ => rfl
  | s :: t, f + 1, pre, num, L0, k, hp, hL, hk => by
    have hsg : (if t = [] then (32 : UInt8) else 45) = 32 ∨ (if t = [] then (32 : UInt8) else 45) = 45 := by split; exact .inl rfl; exact .inr rfl
    obtain ⟨p1, p2, p3, p4, p5⟩ := lin_parts hn (if t = [] then (32 : UInt8) else 45) s
    have e : putB n (s :: t) = row n (if t = [] then 32 else 45) s ++ putB n t := rfl
    have hseen := seen_no (lin_seen hn hsg s)
    by_cases hkr : k < (row n (if t = [] then 32 else 45) s).length
    · have hline : lineR ((pre ++ (putB n (s :: t)).take k).drop pre.length) = none := by
        rw [List.drop_append_of_le_length (Nat.le_refl _), List.drop_length, List.nil_append, e, List.take_append_of_le_length (by omega), row_lin]
        by_cases h1 : k ≤ (lin n (if t = [] then 32 else 45) s).length
        · rw [List.take_append_of_le_length h1]
          exact (line_no _ fun c hc => hseen c (List.mem_of_mem_take hc)).1
        · have h2 : k = (lin n (if t = [] then 32 else 45) s).length + 1 := by omega
          rw [h2, List.take_append, List.take_of_length_le (by omega), show (lin n (if t = [] then 32 else 45) s).length + 1 - (lin n (if t = [] then 32 else 45) s).length = 1 by omega]
          exact (line_no _ hseen).2
      unfold readF
      rw [hline]
    · have ht : t ≠ [] := by
        intro ht
        subst ht
        rw [e] at hk
        simp [putB] at hk hkr
        omega
      have htk : (putB n (s :: t)).take k = row n 45 s ++ (putB n t).take (k - (row n 45 s).length) := by
        rw [if_neg ht] at hkr e
        rw [e, List.take_append, List.take_of_length_le (by omega)]
      rw [if_neg ht] at p1 p2 p3 p4 p5 hseen e hkr
      have hline : lineR ((pre ++ (putB n (s :: t)).take k).drop pre.length) = some (lin n 45 s) := by
        rw [List.drop_append_of_le_length (Nat.le_refl _), List.drop_length, List.nil_append, htk, row_lin, List.append_assoc]
        exact line_of _ _ hseen
      unfold readF
      rw [hline]
      simp only
      rw [p2, p3, p4, if_neg (fun h => h.elim p1 (get_ite (.inr rfl))), if_neg (by rintro (h | h | h | h); exact h rfl; exact h rfl; (simp only at h; omega); (simp only at h; omega)), if_neg (by simp at hL; omega), if_neg (by decide)]
      have ih := read_cut hn t f (pre ++ row n 45 s) n (L0 ++ [s]) (k - (row n 45 s).length) (.inr rfl) (by simp at hL ⊢; omega) (by rw [e] at hk; simp at hk; omega)
      rw [htk, show pre ++ (row n 45 s ++ (putB n t).take (k - (row n 45 s).length)) = (pre ++ row n 45 s) ++ (putB n t).take (k - (row n 45 s).length) by simp, show pre.length + (lin n 45 s).length + 2 = (pre ++ row n 45 s).length by rw [List.length_append, ← p5, Nat.add_assoc]]
      exact ih
/-- Each byte is a sign that can be seen, or part of a line's end. -/
def okAt (s : Str) (i : Nat) : Prop := (s[i]? = some 13 ∧ s[i + 1]? = some 10) ∨ (s[i]? = some 10 ∧ 0 < i ∧ s[i - 1]? = some 13) ∨ ∃ c, s[i]? = some c ∧ 32 ≤ c.toNat ∧ c.toNat ≤ 126
theorem put_ok {n : Int} (hn : 100 ≤ n ∧ n ≤ 999) : ∀ (L : List Str) (i : Nat), i < (putB n L).length → okAt (putB n L) i
  | [], i, h => by simp [putB] at h
  | s :: t, i, h => by
    have hsg : (if t = [] then (32 : UInt8) else 45) = 32 ∨ (if t = [] then (32 : UInt8) else 45) = 45 := by split; exact .inl rfl; exact .inr rfl
    have hseen := lin_seen hn hsg s
    have e : putB n (s :: t) = row n (if t = [] then 32 else 45) s ++ putB n t := rfl
    generalize (if t = [] then (32 : UInt8) else 45) = c at hsg hseen e
    by_cases hir : i < (row n c s).length
    · have hrl : (row n c s).length = (lin n c s).length + 2 := by rw [row_lin]; simp
      rw [e, row_lin]
      rw [List.append_assoc]
      by_cases h1 : i < (lin n c s).length
      · refine .inr (.inr ⟨(lin n c s)[i], ?_, hseen _ (List.getElem_mem h1)⟩)
        rw [List.getElem?_append_left h1, List.getElem?_eq_getElem h1]
      · by_cases h2 : i = (lin n c s).length
        · subst h2
          refine .inl ⟨?_, ?_⟩
          · rw [List.getElem?_append_right (Nat.le_refl _), Nat.sub_self]; rfl
          · rw [List.getElem?_append_right (by omega), show (lin n c s).length + 1 - (lin n c s).length = 1 by omega]; rfl
        · obtain rfl : i = (lin n c s).length + 1 := by omega
          refine .inr (.inl ⟨?_, by omega, ?_⟩)
          · rw [List.getElem?_append_right (by omega), show (lin n c s).length + 1 - (lin n c s).length = 1 by omega]; rfl
          · rw [show (lin n c s).length + 1 - 1 = (lin n c s).length by omega, List.getElem?_append_right (Nat.le_refl _), Nat.sub_self]; rfl
    · have hlt : i - (row n c s).length < (putB n t).length := by rw [e] at h; simp at h; omega
      have ih := put_ok hn t (i - (row n c s).length) hlt
      rw [e]
      unfold okAt at ih ⊢
      rcases ih with ⟨h1, h2⟩ | ⟨h1, h2, h3⟩ | ⟨c', h1, h2⟩
      · refine .inl ⟨?_, ?_⟩
        · rw [List.getElem?_append_right (by omega)]; exact h1
        · rw [List.getElem?_append_right (by omega), show i + 1 - (row n c s).length = i - (row n c s).length + 1 by omega]; exact h2
      · refine .inr (.inl ⟨?_, by omega, ?_⟩)
        · rw [List.getElem?_append_right (by omega)]; exact h1
        · rw [List.getElem?_append_right (by omega), show i - 1 - (row n c s).length = i - (row n c s).length - 1 by omega]; exact h3
      · exact .inr (.inr ⟨c', by rw [List.getElem?_append_right (by omega)]; exact h1, h2⟩)
end Ans
end Go.Proofs.Ytmmdiccpifepfaa
