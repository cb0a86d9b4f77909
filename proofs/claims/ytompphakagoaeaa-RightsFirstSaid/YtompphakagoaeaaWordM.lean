/- Which texts a pattern stands for: plain. -/
import Derived.Test.YtompphakagoaeaaWordFits
namespace Go.Proofs.Ytompphakagoaeaa
open Go.RowKit
set_option linter.unusedVariables false
set_option linter.unusedSimpArgs false
namespace Word
def okC (c d : UInt8) : Bool := c == 63 || c == d
/-- Does p stand for s? -/
def mB : Str → Str → Bool
  | [], s => s.isEmpty
  | c :: p, s => if c = 42 then (List.range (s.length + 1)).any fun k => mB p (s.drop k) else
    match s with
    | [] => false
    | d :: t => okC c d && mB p t
def matchR (p s : Str) : Bool := fitsR p && mB p s
theorem mB_nil (s : Str) : mB [] s = s.isEmpty := rfl
theorem mB_star_eq (p s : Str) : mB (42 :: p) s = (List.range (s.length + 1)).any fun k => mB p (s.drop k) := by
  conv => lhs; unfold mB
  rw [if_pos rfl]
theorem mB_star (p s : Str) : mB (42 :: p) s = true ↔ ∃ k, k ≤ s.length ∧ mB p (s.drop k) = true := by
  rw [mB_star_eq, List.any_eq_true]
  constructor
  · rintro ⟨k, hk, h⟩
    exact ⟨k, by have := List.mem_range.1 hk; omega, h⟩
  · rintro ⟨k, hk, h⟩
    exact ⟨k, List.mem_range.2 (by omega), h⟩
theorem mB_cons {c : UInt8} (h : c ≠ 42) (p s : Str) (d : UInt8) : mB (c :: p) (d :: s) = (okC c d && mB p s) := by
  conv => lhs; unfold mB
  rw [if_neg h]
theorem mB_end {c : UInt8} (h : c ≠ 42) (p : Str) : mB (c :: p) [] = false := by
  conv => lhs; unfold mB
  rw [if_neg h]
/-- A pattern of two parts. -/
theorem mB_app (p q s : Str) : mB (p ++ q) s = true ↔ ∃ k, k ≤ s.length ∧ mB p (s.take k) = true ∧ mB q (s.drop k) = true := by
  induction p generalizing s with
  | nil =>
    constructor
    · intro h
      exact ⟨0, by omega, by simp [mB_nil], by simpa using h⟩
    · rintro ⟨k, hk, h1, h2⟩
      rw [mB_nil, List.isEmpty_iff] at h1
      have : k = 0 := by
        have := congrArg List.length h1
        simp at this
        rcases this with h | h
        · exact h
        · subst h; simp at hk; exact hk
      subst this
      simpa using h2
  | cons c p ih =>
    by_cases hc : c = 42
    · subst hc
      rw [List.cons_append, mB_star]
      constructor
      · rintro ⟨j, hj, h⟩
        obtain ⟨k, hk, h1, h2⟩ := (ih _).1 h
        rw [List.length_drop] at hk
        refine ⟨j + k, by omega, (mB_star _ _).2 ⟨j, by rw [List.length_take]; omega, ?_⟩, ?_⟩
        · rw [List.drop_take, show j + k - j = k by omega]; exact h1
        · rw [List.drop_drop] at h2; exact h2
      · rintro ⟨k, hk, h1, h2⟩
        obtain ⟨j, hj, h1⟩ := (mB_star _ _).1 h1
        rw [List.length_take] at hj
        refine ⟨j, by omega, (ih _).2 ⟨k - j, by rw [List.length_drop]; omega, ?_, ?_⟩⟩
        · rw [List.drop_take] at h1; exact h1
        · rw [List.drop_drop, show j + (k - j) = k by omega]; exact h2
    · cases s with
      | nil =>
        rw [List.cons_append, mB_end hc]
        constructor
        · intro h; cases h
        · rintro ⟨k, hk, h1, h2⟩
          rw [List.take_nil, mB_end hc] at h1
          cases h1
      | cons d s =>
        rw [List.cons_append, mB_cons hc, Bool.and_eq_true, ih]
        constructor
        · rintro ⟨h0, k, hk, h1, h2⟩
          refine ⟨k + 1, by simp; omega, ?_, ?_⟩
          · rw [List.take_succ_cons, mB_cons hc, h0, h1]; rfl
          · exact h2
        · rintro ⟨k, hk, h1, h2⟩
          cases k with
          | zero => rw [List.take_zero, mB_end hc] at h1; cases h1
          | succ k =>
            rw [List.take_succ_cons, mB_cons hc, Bool.and_eq_true] at h1
            exact ⟨h1.1, k, by simp at hk; omega, h1.2, h2⟩
theorem mB_star1 (s : Str) : mB [42] s = true := (mB_star [] s).2 ⟨s.length, by omega, by rw [List.drop_length]; rfl⟩
theorem mB_one {c : UInt8} (h : c ≠ 42) (s : Str) : mB [c] s = true ↔ ∃ d, s = [d] ∧ okC c d = true := by
  cases s with
  | nil => rw [mB_end h]; constructor <;> intro h <;> simp at h
  | cons d s =>
    rw [mB_cons h, Bool.and_eq_true, mB_nil, List.isEmpty_iff]
    constructor
    · rintro ⟨h1, rfl⟩; exact ⟨d, rfl, h1⟩
    · rintro ⟨d', h1, h2⟩
      injection h1 with h1 h3
      subst h1 h3
      exact ⟨h2, rfl⟩
/-- A star more at the end. -/
theorem mB_snoc_star (p s : Str) : mB (p ++ [42]) s = true ↔ ∃ k, k ≤ s.length ∧ mB p (s.take k) = true := by
  rw [mB_app]
  constructor
  · rintro ⟨k, hk, h, _⟩; exact ⟨k, hk, h⟩
  · rintro ⟨k, hk, h⟩; exact ⟨k, hk, h, mB_star1 _⟩
theorem mB_snoc_nil {c : UInt8} (h : c ≠ 42) (p : Str) : mB (p ++ [c]) [] = false := by
  rw [Bool.eq_false_iff]
  intro hh
  obtain ⟨k, _, _, h2⟩ := (mB_app _ _ _).1 hh
  rw [List.drop_nil, mB_end h] at h2
  cases h2
theorem mB_snoc {c : UInt8} (h : c ≠ 42) (p s : Str) (d : UInt8) : mB (p ++ [c]) (s ++ [d]) = (mB p s && okC c d) := by
  rw [Bool.eq_iff_iff, mB_app, Bool.and_eq_true]
  constructor
  · rintro ⟨k, hk, h1, h2⟩
    obtain ⟨d', h3, h4⟩ := (mB_one h _).1 h2
    have hl := congrArg List.length h3
    simp at hl hk
    obtain rfl : k = s.length := by omega
    rw [List.take_left'] at h1
    · rw [List.drop_left' rfl] at h3
      injection h3 with h3 _
      subst h3
      exact ⟨h1, h4⟩
    · rfl
  · rintro ⟨h1, h2⟩
    exact ⟨s.length, by simp, by rw [List.take_left' rfl]; exact h1, by rw [List.drop_left' rfl]; exact (mB_one h _).2 ⟨d, rfl, h2⟩⟩
/-! ### The table of the reference -/
/-- The row behind i signs of the pattern. -/
def rowR (p s : Str) (i : Nat) : List Bool := (List.range (s.length + 1)).map fun k => mB (p.take i) (s.take k)
theorem row_len (p s : Str) (i : Nat) : (rowR p s i).length = s.length + 1 := by simp [rowR]
theorem row_at (p s : Str) (i k : Nat) (h : k ≤ s.length) : (rowR p s i)[k]'(by rw [row_len]; omega) = mB (p.take i) (s.take k) := by simp [rowR]
theorem row_zero (p s : Str) : rowR p s 0 = true :: List.replicate s.length false := by
  apply List.ext_getElem
  · simp [rowR]
  · intro k h1 h2
    rw [row_len] at h1
    rw [row_at _ _ _ _ (by omega), List.take_zero, mB_nil]
    cases k with
    | zero => simp
    | succ k =>
      have : s.take (k + 1) ≠ [] := by
        intro e
        rw [List.take_eq_nil_iff] at e
        rcases e with h | h
        · omega
        · subst h; simp at h1
      simp [this]
theorem row_end (p s : Str) : (rowR p s p.length)[s.length]'(by rw [row_len]; omega) = mB p s := by rw [row_at _ _ _ _ (Nat.le_refl _), List.take_length, List.take_length]
/-- How the next row comes of the one ahead. -/
theorem row_star0 {p s : Str} {i : Nat} (h : i < p.length) (hc : p[i] = 42) : mB (p.take (i + 1)) (s.take 0) = mB (p.take i) (s.take 0) := by
  rw [List.take_succ_eq_append_getElem h, hc, Bool.eq_iff_iff, mB_snoc_star]
  constructor
  · rintro ⟨k, hk, hh⟩; simpa using hh
  · intro hh; exact ⟨0, by omega, by simpa using hh⟩
theorem row_star {p s : Str} {i k : Nat} (h : i < p.length) (hc : p[i] = 42) (hk : k < s.length) : mB (p.take (i + 1)) (s.take (k + 1)) = (mB (p.take i) (s.take (k + 1)) || mB (p.take (i + 1)) (s.take k)) := by
  rw [List.take_succ_eq_append_getElem h, hc, Bool.eq_iff_iff, Bool.or_eq_true, mB_snoc_star, mB_snoc_star]
  constructor
  · rintro ⟨j, hj, hh⟩
    rw [List.length_take] at hj
    by_cases e : j = k + 1
    · subst e
      rw [List.take_take, show min (k + 1) (k + 1) = k + 1 by omega] at hh
      exact .inl hh
    · refine .inr ⟨j, by rw [List.length_take]; omega, ?_⟩
      rw [List.take_take, show min j (k + 1) = j by omega] at hh
      rw [List.take_take, show min j k = j by omega]
      exact hh
  · rintro (hh | ⟨j, hj, hh⟩)
    · exact ⟨k + 1, by rw [List.length_take]; omega, by rw [List.take_take, show min (k + 1) (k + 1) = k + 1 by omega]; exact hh⟩
    · rw [List.length_take] at hj
      rw [List.take_take, show min j k = j by omega] at hh
      exact ⟨j, by rw [List.length_take]; omega, by rw [List.take_take, show min j (k + 1) = j by omega]; exact hh⟩
theorem row_one0 {p s : Str} {i : Nat} (h : i < p.length) (hc : p[i] ≠ 42) : mB (p.take (i + 1)) (s.take 0) = false := by
  rw [List.take_succ_eq_append_getElem h, List.take_zero, mB_snoc_nil hc]
theorem row_one {p s : Str} {i k : Nat} (h : i < p.length) (hc : p[i] ≠ 42) (hk : k < s.length) : mB (p.take (i + 1)) (s.take (k + 1)) = (mB (p.take i) (s.take k) && okC p[i] s[k]) := by
  rw [List.take_succ_eq_append_getElem h, List.take_succ_eq_append_getElem hk, mB_snoc hc]
/-! ### The greedy walk -/
/-- A text without stars. -/
def noStar (p : Str) : Prop := ∀ c ∈ p, c ≠ 42
def seg : Str → Str → Bool
  | [], [] => true
  | c :: p, d :: s => okC c d && seg p s
  | _, _ => false
theorem mB_noStar {p : Str} (h : noStar p) (q s : Str) : mB (p ++ q) s = true ↔ p.length ≤ s.length ∧ seg p (s.take p.length) = true ∧ mB q (s.drop p.length) = true := by
  induction p generalizing s with
  | nil => simp [seg]
  | cons c p ih =>
    have hc := h c (by simp)
    have hp : noStar p := fun d hd => h d (by simp [hd])
    cases s with
    | nil =>
      rw [List.cons_append, mB_end hc]
      simp
    | cons d s =>
      rw [List.cons_append, mB_cons hc, Bool.and_eq_true, ih hp]
      simp only [List.length_cons, List.take_succ_cons, List.drop_succ_cons, seg, Bool.and_eq_true]
      constructor
      · rintro ⟨a, b, c, d⟩; exact ⟨by omega, ⟨a, c⟩, d⟩
      · rintro ⟨a, ⟨b, c⟩, d⟩; exact ⟨b, by omega, c, d⟩
/-- The state of the greedy walk: the rest of the pattern stands for the rest of the text, or the part behind the last star stands for a later piece. -/
structure Gr (p s : Str) (i k : Nat) (star : Int) (frm : Nat) : Prop where
  hi : i ≤ p.length
  hk : k ≤ s.length
  hf : frm ≤ k
  none : star = -1 → frm = 0 ∧ (mB p s = mB (p.drop i) (s.drop k))
  some : star ≠ -1 → ∃ j : Nat, star = j ∧ j < i ∧ k = frm + (i - (j + 1)) ∧ noStar ((p.drop (j + 1)).take (i - (j + 1))) ∧ seg ((p.drop (j + 1)).take (i - (j + 1))) ((s.drop frm).take (i - (j + 1))) = true ∧
    (mB p s = true ↔ ∃ f, frm ≤ f ∧ f ≤ s.length ∧ mB (p.drop (j + 1)) (s.drop f) = true)
theorem Gr.start (p s : Str) : Gr p s 0 0 (-1) 0 := ⟨by omega, by omega, by omega, fun _ => ⟨rfl, by simp⟩, fun h => absurd rfl h⟩
theorem drop_cut {p : Str} {i j : Nat} (h : j < i) (h2 : i ≤ p.length) : p.drop (j + 1) = (p.drop (j + 1)).take (i - (j + 1)) ++ p.drop i := by
  conv => lhs; rw [← List.take_append_drop (i - (j + 1)) (p.drop (j + 1))]
  rw [List.drop_drop, show j + 1 + (i - (j + 1)) = i by omega]
/-- A star is met. -/
theorem Gr.star_ {p s : Str} {i k : Nat} {star : Int} {frm : Nat} (h : Gr p s i k star frm) (hi : i < p.length) (hc : p[i] = 42) : Gr p s (i + 1) k i k := by
  have hd : p.drop i = 42 :: p.drop (i + 1) := by rw [List.drop_eq_getElem_cons hi, hc]
  have key : mB p s = true ↔ ∃ f, k ≤ f ∧ f ≤ s.length ∧ mB (p.drop (i + 1)) (s.drop f) = true := by
    have hst : mB (p.drop i) (s.drop k) = true ↔ ∃ f, k ≤ f ∧ f ≤ s.length ∧ mB (p.drop (i + 1)) (s.drop f) = true := by
      rw [hd, mB_star]
      constructor
      · rintro ⟨j, hj, hh⟩
        rw [List.length_drop] at hj
        rw [List.drop_drop] at hh
        exact ⟨k + j, by omega, by have := h.hk; omega, hh⟩
      · rintro ⟨f, h1, h2, hh⟩
        refine ⟨f - k, by rw [List.length_drop]; omega, ?_⟩
        rw [List.drop_drop, show k + (f - k) = f by omega]
        exact hh
    by_cases hs : star = -1
    · rw [(h.none hs).2]; exact hst
    · obtain ⟨j, rfl, hj, hk, hns, hsg, hm⟩ := h.some hs
      rw [hm]
      have hcut := drop_cut hj (Nat.le_of_lt hi)
      have hlen : ((p.drop (j + 1)).take (i - (j + 1))).length = i - (j + 1) := by rw [List.length_take, List.length_drop]; omega
      constructor
      · rintro ⟨f, h1, h2, hh⟩
        rw [hcut, mB_noStar hns, hlen, List.drop_drop, hd] at hh
        obtain ⟨a, b, c⟩ := hh
        obtain ⟨g, hg, hh⟩ := (mB_star _ _).1 c
        rw [List.length_drop] at a hg
        rw [List.drop_drop] at hh
        exact ⟨f + (i - (j + 1)) + g, by omega, by omega, hh⟩
      · rintro ⟨f, h1, h2, hh⟩
        refine ⟨frm, Nat.le_refl _, by omega, ?_⟩
        rw [hcut, mB_noStar hns, hlen, List.drop_drop]
        refine ⟨by rw [List.length_drop]; omega, hsg, ?_⟩
        rw [← hk]
        exact hst.2 ⟨f, h1, h2, hh⟩
  refine ⟨hi, h.hk, Nat.le_refl _, fun hh => by omega, fun _ => ⟨i, rfl, by omega, by omega, ?_, ?_, key⟩⟩
  · intro c hc; simp at hc
  · simp [seg]
theorem seg_snoc {p s : Str} {c d : UInt8} (h : seg p s = true) (h2 : okC c d = true) : seg (p ++ [c]) (s ++ [d]) = true := by
  induction p generalizing s with
  | nil =>
    cases s with
    | nil => simp [seg, h2]
    | cons e s => cases h
  | cons a p ih =>
    cases s with
    | nil => cases h
    | cons e s =>
      simp only [seg, Bool.and_eq_true] at h
      simp only [List.cons_append, seg, Bool.and_eq_true]
      exact ⟨h.1, ih h.2⟩
theorem seg_len {p s : Str} (h : seg p s = true) : p.length = s.length := by
  induction p generalizing s with
  | nil => cases s with
    | nil => rfl
    | cons e s => cases h
  | cons a p ih => cases s with
    | nil => cases h
    | cons e s =>
      simp only [seg, Bool.and_eq_true] at h
      simp [ih h.2]
/-- A sign is met. -/
theorem Gr.one {p s : Str} {i k : Nat} {star : Int} {frm : Nat} (h : Gr p s i k star frm) (hi : i < p.length) (hk : k < s.length) (hc : p[i] ≠ 42) (ho : okC p[i] s[k] = true) : Gr p s (i + 1) (k + 1) star frm := by
  have hd : p.drop i = p[i] :: p.drop (i + 1) := List.drop_eq_getElem_cons hi
  have hd2 : s.drop k = s[k] :: s.drop (k + 1) := List.drop_eq_getElem_cons hk
  refine ⟨hi, hk, by have := h.hf; omega, fun hs => ⟨(h.none hs).1, ?_⟩, fun hs => ?_⟩
  · rw [(h.none hs).2, hd, hd2, mB_cons hc, ho]; rfl
  · obtain ⟨j, rfl, hj, hkk, hns, hsg, hm⟩ := h.some hs
    have HM := Lib.hid hm
    clear hm
    have t1 : (p.drop (j + 1)).take (i + 1 - (j + 1)) = (p.drop (j + 1)).take (i - (j + 1)) ++ [p[i]] := by
      rw [show i + 1 - (j + 1) = (i - (j + 1)) + 1 by omega, List.take_succ_eq_append_getElem (by rw [List.length_drop]; omega), List.getElem_drop]
      congr 3; omega
    have t2 : (s.drop frm).take (i + 1 - (j + 1)) = (s.drop frm).take (i - (j + 1)) ++ [s[k]] := by
      rw [show i + 1 - (j + 1) = (i - (j + 1)) + 1 by omega, List.take_succ_eq_append_getElem (by rw [List.length_drop]; omega), List.getElem_drop]
      congr 3; omega
    refine ⟨j, rfl, by omega, by omega, ?_, ?_, HM.out⟩
    · rw [t1]
      intro c hcm
      rcases List.mem_append.1 hcm with hcm | hcm
      · exact hns c hcm
      · rw [List.mem_singleton.1 hcm]; exact hc
    · rw [t1, t2]
      exact seg_snoc hsg ho
/-- Nothing fits here. -/
def stuck (p s : Str) (i k : Nat) : Prop := ¬ (k = s.length ∧ i = p.length) ∧ ∀ (hi : i < p.length), p[i] ≠ 42 ∧ ∀ (hk : k < s.length), okC p[i] s[k] = false
theorem stuck_no {p s : Str} {i k : Nat} (h : stuck p s i k) (hi : i ≤ p.length) (hk : k ≤ s.length) : mB (p.drop i) (s.drop k) = false := by
  by_cases e : i < p.length
  · rw [List.drop_eq_getElem_cons e]
    by_cases e2 : k < s.length
    · rw [List.drop_eq_getElem_cons e2, mB_cons (h.2 e).1, (h.2 e).2 e2]; rfl
    · rw [show s.drop k = [] from List.drop_of_length_le (by omega), mB_end (h.2 e).1]
  · rw [List.drop_of_length_le (by omega), mB_nil]
    have : k ≠ s.length := fun e3 => h.1 ⟨e3, by omega⟩
    have : s.drop k ≠ [] := fun e4 => by
      have := congrArg List.length e4
      simp at this
      omega
    simpa using this
theorem Gr.next {p s : Str} {i k j : Nat} {frm : Nat} (h : Gr p s i k j frm) (hst : stuck p s i k) (hf : frm < s.length) : Gr p s (j + 1) (frm + 1) j (frm + 1) := by
  obtain ⟨j', e, hj, hkk, hns, hsg, hm⟩ := h.some (by omega)
  obtain rfl : j' = j := by omega
  refine ⟨by have := h.hi; omega, by omega, by omega, fun hh => by omega, fun _ => ⟨j', rfl, by omega, by omega, ?_, ?_, ?_⟩⟩
  · intro c hc; simp at hc
  · simp [seg]
  · rw [hm]
    constructor
    · rintro ⟨f, h1, h2, hh⟩
      by_cases e : f = frm
      · subst e
        have hlen : ((p.drop (j' + 1)).take (i - (j' + 1))).length = i - (j' + 1) := by rw [List.length_take, List.length_drop]; have := h.hi; omega
        rw [drop_cut hj h.hi, mB_noStar hns, hlen, List.drop_drop, ← hkk, stuck_no hst h.hi h.hk] at hh
        cases hh.2.2
      · exact ⟨f, by omega, h2, hh⟩
    · rintro ⟨f, h1, h2, hh⟩; exact ⟨f, by omega, h2, hh⟩
theorem Gr.fail {p s : Str} {i k : Nat} {star : Int} {frm : Nat} (h : Gr p s i k star frm) (hst : stuck p s i k) (hf : star = -1 ∨ s.length ≤ frm) : mB p s = false := by
  by_cases hs : star = -1
  · rw [(h.none hs).2, stuck_no hst h.hi h.hk]
  · obtain ⟨j, e, hj, hkk, hns, hsg, hm⟩ := h.some hs
    rw [Bool.eq_false_iff]
    intro hh
    obtain ⟨f, h1, h2, hh⟩ := hm.1 hh
    have hk := h.hk
    obtain rfl : f = frm := by omega
    have hlen : ((p.drop (j + 1)).take (i - (j + 1))).length = i - (j + 1) := by rw [List.length_take, List.length_drop]; have := h.hi; omega
    rw [drop_cut hj h.hi, mB_noStar hns, hlen, List.drop_drop, ← hkk, stuck_no hst h.hi h.hk] at hh
    cases hh.2.2
theorem Gr.good {p s : Str} {star : Int} {frm : Nat} (h : Gr p s p.length s.length star frm) : mB p s = true := by
  by_cases hs : star = -1
  · rw [(h.none hs).2, List.drop_length, List.drop_length]; rfl
  · obtain ⟨j, e, hj, hkk, hns, hsg, hm⟩ := h.some hs
    rw [hm]
    refine ⟨frm, Nat.le_refl _, by omega, ?_⟩
    have hlen : ((p.drop (j + 1)).take (p.length - (j + 1))).length = p.length - (j + 1) := by rw [List.length_take, List.length_drop]; omega
    rw [drop_cut hj (Nat.le_refl _), mB_noStar hns, hlen, List.drop_drop, ← hkk, List.drop_length, List.drop_length]
    refine ⟨by rw [List.length_drop]; omega, hsg, rfl⟩
end Word
end Go.Proofs.Ytompphakagoaeaa
