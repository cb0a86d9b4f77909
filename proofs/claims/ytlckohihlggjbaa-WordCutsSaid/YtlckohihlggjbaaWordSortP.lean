/- Texts in order, each once: plain. -/
import Derived.Test.YtlckohihlggjbaaWordM
import Derived.Lib.SlicesCompact
namespace Go.Proofs.Ytlckohihlggjbaa
open Go.RowKit
set_option linter.unusedVariables false
set_option linter.unusedSimpArgs false
namespace Word
theorem blt1 (a b : UInt8) (x y : Str) : Op.bytesLess (a :: x) (b :: y) = if a.toNat < b.toNat then true else if a.toNat = b.toNat then Op.bytesLess x y else false := by
  simp only [Op.bytesLess]
  by_cases h1 : a.toNat < b.toNat
  · have : a < b := UInt8.lt_iff_toNat_lt.2 h1
    simp [h1, this]
  · have : ¬ a < b := fun h => h1 (UInt8.lt_iff_toNat_lt.1 h)
    by_cases h2 : a.toNat = b.toNat
    · have h3 : a = b := UInt8.toNat_inj.1 h2
      subst h3
      simp
    · have h3 : ¬ a = b := fun h => h2 (by rw [h])
      simp [h1, h2, h3, this]
theorem blt_nil (x : Str) : Op.bytesLess x [] = false := by cases x <;> rfl
theorem blt_irrefl (x : Str) : Op.bytesLess x x = false := by
  induction x with
  | nil => rfl
  | cons a x ih => rw [blt1, if_neg (by omega), if_pos rfl, ih]
theorem blt_trans {x y z : Str} (h : Op.bytesLess x y = true) (k : Op.bytesLess y z = true) : Op.bytesLess x z = true := by
  induction x generalizing y z with
  | nil =>
    cases z with
    | nil => rw [blt_nil] at k; cases k
    | cons c z => rfl
  | cons a x ih =>
    cases y with
    | nil => rw [blt_nil] at h; cases h
    | cons b y =>
      cases z with
      | nil => rw [blt_nil] at k; cases k
      | cons c z =>
        rw [blt1] at h k ⊢
        by_cases h1 : a.toNat < b.toNat
        · by_cases k1 : b.toNat < c.toNat
          · rw [if_pos (by omega)]
          · rw [if_neg k1] at k
            by_cases k2 : b.toNat = c.toNat
            · rw [if_pos (by omega)]
            · rw [if_neg k2] at k; cases k
        · rw [if_neg h1] at h
          by_cases h2 : a.toNat = b.toNat
          · rw [if_pos h2] at h
            by_cases k1 : b.toNat < c.toNat
            · rw [if_pos (by omega)]
            · rw [if_neg k1] at k
              by_cases k2 : b.toNat = c.toNat
              · rw [if_pos k2] at k
                rw [if_neg (by omega), if_pos (by omega)]
                exact ih h k
              · rw [if_neg k2] at k; cases k
          · rw [if_neg h2] at h; cases h
theorem blt_tri {x y : Str} (h : Op.bytesLess x y = false) (k : Op.bytesLess y x = false) : x = y := by
  induction x generalizing y with
  | nil =>
    cases y with
    | nil => rfl
    | cons b y => cases h
  | cons a x ih =>
    cases y with
    | nil => cases k
    | cons b y =>
      rw [blt1] at h k
      by_cases h1 : a.toNat < b.toNat
      · rw [if_pos h1] at h; cases h
      · rw [if_neg h1] at h
        by_cases h2 : b.toNat < a.toNat
        · rw [if_pos h2] at k; cases k
        · rw [if_pos (by omega)] at h
          rw [if_neg h2, if_pos (by omega)] at k
          rw [UInt8.toNat_inj.1 (show a.toNat = b.toNat by omega), ih h k]
theorem blt_iff (x y : Str) : Op.bytesLess x y = true ↔ x < y := by
  induction x generalizing y with
  | nil =>
    cases y with
    | nil => exact ⟨fun h => (by cases h), fun h => absurd h (List.lt_irrefl _)⟩
    | cons b y => exact ⟨fun _ => List.nil_lt_cons _ _, fun _ => rfl⟩
  | cons a x ih =>
    cases y with
    | nil => exact ⟨fun h => (by cases h), fun h => absurd h (List.not_lt_nil _)⟩
    | cons b y =>
      rw [List.cons_lt_cons_iff, ← ih, blt1]
      by_cases h1 : a.toNat < b.toNat
      · rw [if_pos h1]
        exact ⟨fun _ => .inl (UInt8.lt_iff_toNat_lt.2 h1), fun _ => rfl⟩
      · rw [if_neg h1]
        by_cases h2 : a.toNat = b.toNat
        · rw [if_pos h2]
          exact ⟨fun h => .inr ⟨UInt8.toNat_inj.1 h2, h⟩, fun h => h.elim (fun h => absurd (UInt8.lt_iff_toNat_lt.1 h) h1) (fun h => h.2)⟩
        · rw [if_neg h2]
          exact ⟨fun h => (by cases h), fun h => h.elim (fun h => absurd (UInt8.lt_iff_toNat_lt.1 h) h1) (fun h => absurd (by rw [h.1]) h2)⟩
theorem ble (x y : Str) : decide (x ≤ y) = !Op.bytesLess y x := by
  cases h : Op.bytesLess y x
  · exact decide_eq_true (show ¬ y < x from fun hh => by rw [(blt_iff y x).2 hh] at h; cases h)
  · exact decide_eq_false (show ¬ ¬ y < x from fun hh => hh ((blt_iff y x).1 h))
def SS (l : List Str) : Prop := l.Pairwise fun a b => Op.bytesLess a b = true
theorem ss_ext {l m : List Str} (hl : SS l) (hm : SS m) (h : ∀ x, x ∈ l ↔ x ∈ m) : l = m := by
  induction l generalizing m with
  | nil =>
    cases m with
    | nil => rfl
    | cons b m => exact absurd ((h b).2 (by simp)) (by simp)
  | cons a l ih =>
    cases m with
    | nil => exact absurd ((h a).1 (by simp)) (by simp)
    | cons b m =>
      have hl' := List.pairwise_cons.1 hl
      have hm' := List.pairwise_cons.1 hm
      have e : a = b := by
        rcases List.mem_cons.1 ((h a).1 (by simp)) with e | e
        · exact e
        · rcases List.mem_cons.1 ((h b).2 (by simp)) with e2 | e2
          · exact e2.symm
          · have h1 := hm'.1 a e
            have h2 := hl'.1 b e2
            have := blt_trans h1 h2
            rw [blt_irrefl] at this
            cases this
      subst e
      congr 1
      refine ih hl'.2 hm'.2 fun x => ?_
      have hx := h x
      simp only [List.mem_cons] at hx
      constructor
      · intro hh
        rcases hx.1 (.inr hh) with e | e
        · subst e; have := hl'.1 x hh; rw [blt_irrefl] at this; cases this
        · exact e
      · intro hh
        rcases hx.2 (.inr hh) with e | e
        · subst e; have := hm'.1 x hh; rw [blt_irrefl] at this; cases this
        · exact e
/-- One more. -/
def insR : List Str → Str → List Str
  | [], x => [x]
  | y :: l, x => if Op.bytesLess y x then y :: insR l x else if y = x then y :: l else x :: y :: l
def sortR (l : List Str) : List Str := l.foldl insR []
theorem sort_take {l : List Str} {k : Nat} (h : k < l.length) : sortR (l.take (k + 1)) = insR (sortR (l.take k)) l[k] := by
  unfold sortR
  rw [List.take_succ_eq_append_getElem h, List.foldl_append]
  rfl
theorem ins_mem (l : List Str) (x y : Str) : y ∈ insR l x ↔ y ∈ l ∨ y = x := by
  induction l with
  | nil => simp [insR]
  | cons a l ih =>
    unfold insR
    split
    · rw [List.mem_cons, ih, List.mem_cons]
      constructor
      · rintro (h | h | h)
        · exact .inl (.inl h)
        · exact .inl (.inr h)
        · exact .inr h
      · rintro ((h | h) | h)
        · exact .inl h
        · exact .inr (.inl h)
        · exact .inr (.inr h)
    · split
      · rename_i e
        subst e
        simp only [List.mem_cons]
        constructor
        · intro h; exact .inl h
        · rintro (h | h)
          · exact h
          · exact .inl h
      · simp only [List.mem_cons]
        constructor
        · rintro (h | h | h)
          · exact .inr h
          · exact .inl (.inl h)
          · exact .inl (.inr h)
        · rintro ((h | h) | h)
          · exact .inr (.inl h)
          · exact .inr (.inr h)
          · exact .inl h
theorem ins_ss {l : List Str} (h : SS l) (x : Str) : SS (insR l x) := by
  induction l with
  | nil => exact List.pairwise_singleton _ _
  | cons a l ih =>
    have h' := List.pairwise_cons.1 h
    unfold insR
    split
    · rename_i e
      refine List.pairwise_cons.2 ⟨fun y hy => ?_, ih h'.2⟩
      rcases (ins_mem l x y).1 hy with hy | rfl
      · exact h'.1 y hy
      · exact e
    · rename_i e
      split
      · exact h
      · rename_i ne
        have hxa : Op.bytesLess x a = true := by
          cases hb : Op.bytesLess x a
          · exact absurd (blt_tri (by simpa using e) hb) ne
          · rfl
        refine List.pairwise_cons.2 ⟨fun y hy => ?_, h⟩
        rcases List.mem_cons.1 hy with rfl | hy
        · exact hxa
        · exact blt_trans hxa (h'.1 y hy)
theorem fold_ss (l m : List Str) (h : SS m) : SS (l.foldl insR m) ∧ ∀ x, x ∈ l.foldl insR m ↔ x ∈ m ∨ x ∈ l := by
  induction l generalizing m with
  | nil => exact ⟨h, fun x => by simp⟩
  | cons a l ih =>
    obtain ⟨h1, h2⟩ := ih (insR m a) (ins_ss h a)
    refine ⟨h1, fun x => ?_⟩
    rw [List.foldl_cons, h2, ins_mem, List.mem_cons]
    constructor
    · rintro ((h | h) | h)
      · exact .inl h
      · exact .inr (.inl h)
      · exact .inr (.inr h)
    · rintro (h | h | h)
      · exact .inl (.inl h)
      · exact .inl (.inr h)
      · exact .inr h
theorem sort_ss (l : List Str) : SS (sortR l) := (fold_ss l [] List.Pairwise.nil).1
theorem sort_mem (l : List Str) (x : Str) : x ∈ sortR l ↔ x ∈ l := by rw [sortR, (fold_ss l [] List.Pairwise.nil).2]; simp
/-- Where one more comes. -/
theorem ins_at {out : List Str} {x : Str} {k : Nat} (hk : k ≤ out.length) (h1 : ∀ y ∈ out.take k, Op.bytesLess y x = true) (h2 : ∀ (h : k < out.length), Op.bytesLess out[k] x = false) :
    insR out x = if out[k]? = some x then out else out.take k ++ x :: out.drop k := by
  induction out generalizing k with
  | nil => simp [insR]
  | cons a out ih =>
    cases k with
    | zero =>
      have := h2 (by simp)
      simp only [List.getElem_cons_zero] at this
      unfold insR
      rw [this]
      simp only [Bool.false_eq_true, if_false, List.getElem?_cons_zero, Option.some.injEq, List.take_zero, List.nil_append, List.drop_zero]
    | succ k =>
      have ha := h1 a (by simp)
      unfold insR
      rw [ha, if_pos rfl, ih (k := k) (by simpa using hk) (fun y hy => h1 y (by simp [hy])) (fun h => by have := h2 (by simpa using h); simpa using this)]
      simp only [List.getElem?_cons_succ, List.take_succ_cons, List.drop_succ_cons, List.cons_append]
      split <;> rfl
theorem ins_len (l : List Str) (x : Str) : (insR l x).length ≤ l.length + 1 := by
  induction l with
  | nil => simp [insR]
  | cons a l ih =>
    unfold insR
    split
    · simp; omega
    · split
      · simp
      · simp
/-! ### The kit's words -/
theorem comp_inv (d : Array Str) (hs : ∀ i j, i < j → j < d.size → Op.bytesLess d[j]! d[i]! = false) : ∀ m, m ≤ d.size →
    SS (Lib.compactUpTo d m) ∧ (∀ x, x ∈ Lib.compactUpTo d m ↔ ∃ j, j < m ∧ d[j]! = x) := by
  intro m
  induction m with
  | zero => intro _; exact ⟨by simp [Lib.compactUpTo, SS], fun x => by simp [Lib.compactUpTo]⟩
  | succ m ih =>
    intro hm
    obtain ⟨i1, i2⟩ := ih (by omega)
    rw [Lib.compactUpTo_succ]
    by_cases hk : Lib.keeps d m = true
    · rw [if_pos hk]
      refine ⟨List.pairwise_append.2 ⟨i1, List.pairwise_singleton _ _, fun a ha b hb => ?_⟩, fun x => ?_⟩
      · rw [List.mem_singleton.1 hb]
        obtain ⟨j, hj, rfl⟩ := (i2 a).1 ha
        cases hl : Op.bytesLess d[j]! d[m]!
        · exfalso
          have e := blt_tri hl (hs j m hj (by omega))
          simp only [Lib.keeps, decide_eq_true_eq] at hk
          have hne : d[m]! ≠ d[m - 1]! := by
            rcases hk with h | h
            · omega
            · exact h
          by_cases hj2 : j = m - 1
          · subst hj2; exact hne e.symm
          · have q1 := hs j (m - 1) (by omega) (by omega)
            have q2 := hs (m - 1) m (by omega) (by omega)
            rw [← e] at q2
            exact hne (by rw [← e]; exact blt_tri q2 q1)
        · rfl
      · rw [List.mem_append, i2, List.mem_singleton]
        constructor
        · rintro (⟨j, hj, rfl⟩ | rfl)
          · exact ⟨j, by omega, rfl⟩
          · exact ⟨m, by omega, rfl⟩
        · rintro ⟨j, hj, rfl⟩
          by_cases e : j = m
          · subst e; exact .inr rfl
          · exact .inl ⟨j, by omega, rfl⟩
    · rw [if_neg hk, List.append_nil]
      refine ⟨i1, fun x => ?_⟩
      rw [i2]
      simp only [Lib.keeps, decide_eq_true_eq, not_or, ne_eq, Decidable.not_not] at hk
      constructor
      · rintro ⟨j, hj, rfl⟩; exact ⟨j, by omega, rfl⟩
      · rintro ⟨j, hj, rfl⟩
        by_cases e : j = m
        · subst e; exact ⟨j - 1, by omega, hk.2.symm⟩
        · exact ⟨j, by omega, rfl⟩
theorem compact_sort (l : List Str) : Lib.compactUpTo (l.mergeSort fun x y => decide (x ≤ y)).toArray (l.mergeSort fun x y => decide (x ≤ y)).toArray.size = sortR l := by
  have ht : ∀ a b c : Str, decide (a ≤ b) = true → decide (b ≤ c) = true → decide (a ≤ c) = true := by
    intro a b c h1 h2
    rw [ble, Bool.not_eq_true'] at h1 h2 ⊢
    cases h : Op.bytesLess c a
    · rfl
    · exfalso
      by_cases e : Op.bytesLess a b = true
      · have := blt_trans h e; rw [h2] at this; cases this
      · have := blt_tri (by simpa using e) h1
        subst this
        rw [h2] at h; cases h
  have hto : ∀ a b : Str, (decide (a ≤ b) || decide (b ≤ a)) = true := by
    intro a b
    rw [ble, ble]
    cases h : Op.bytesLess a b
    · simp
    · cases h2 : Op.bytesLess b a
      · simp
      · have := blt_trans h h2; rw [blt_irrefl] at this; cases this
  have hp := List.pairwise_mergeSort ht hto l
  have hperm := List.mergeSort_perm l (fun x y => decide (x ≤ y))
  obtain ⟨m, hm⟩ : ∃ m, l.mergeSort (fun x y => decide (x ≤ y)) = m := ⟨_, rfl⟩
  rw [hm] at hp hperm ⊢
  have hs : ∀ i j, i < j → j < m.toArray.size → Op.bytesLess m.toArray[j]! m.toArray[i]! = false := by
    intro i j hij hj
    have hj' : j < m.length := by simpa using hj
    have h := List.pairwise_iff_getElem.1 hp i j (by omega) hj' hij
    rw [ble, Bool.not_eq_true'] at h
    rw [getElem!_pos m.toArray j hj, getElem!_pos m.toArray i (by omega)]
    simpa using h
  obtain ⟨c1, c2⟩ := comp_inv m.toArray hs m.toArray.size (Nat.le_refl _)
  refine ss_ext c1 (sort_ss l) fun x => ?_
  rw [c2, sort_mem, ← hperm.mem_iff]
  constructor
  · rintro ⟨j, hj, rfl⟩
    rw [getElem!_pos m.toArray j hj]
    simp
  · intro h
    obtain ⟨j, hj, rfl⟩ := List.getElem_of_mem h
    refine ⟨j, by simpa using hj, ?_⟩
    rw [getElem!_pos m.toArray j (by simpa using hj)]
    simp
end Word
end Go.Proofs.Ytlckohihlggjbaa
