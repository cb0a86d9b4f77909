/- Slices of slices: from a place on, and up to one. Plain lemmas over any program. -/
import Derived.Test.YtompphakagoaeaaBytes
namespace Go.Proofs.Ytompphakagoaeaa
open Go.RowKit
set_option linter.unusedVariables false
section
variable {P : Program} {T e : TypeId} {z : Value} {size bytes : Nat}
theorem size_run (hinfo : (P.info? e).map (fun i => (i.zero, i.size, i.bytes)) = some (some z, size, bytes)) (W : World) : (sizeOf e).run P W = .ok size W := by
  obtain ⟨i0, hi, hz0, hz1, hz2⟩ := info_parts hinfo
  simp [sizeOf, typeInfo, hi, hz1]
/-- 'l[k:]'. -/
theorem slice_from (ht : P.underlying T = some (.slice e)) (he : P.elem T = e) (hinfo : (P.info? e).map (fun i => (i.zero, i.size, i.bytes)) = some (some z, size, bytes)) {A : Option Addr} {m c k : Nat} (hk : k ≤ m) (hc : m ≤ c) :
    ∃ B c2, m - k ≤ c2 ∧ c2 ≤ c ∧ (∀ W, (Instr.slice T (.slice A m c) (some (.int .i64 (k : Int))) none none).run P W = .ok (.slice B (m - k) c2) W) ∧
      (∀ (w : World) (xs : List Value), xs.length = m * size → (∀ j u, xs[j]? = some u → ∃ ad, A = some ad ∧ w.cell? (ad.add j) = some u) → ∀ j u, (xs.drop (k * size))[j]? = some u → ∃ ad, B = some ad ∧ w.cell? (ad.add j) = some u) ∧
      (∀ {α : Type} {R : Rd α} {w : World} {S : Nat → Prop} {l : List α}, c ≤ maxLen → RSl size R w S [.slice A m c] l → RSl size R w S [.slice B (m - k) c2] (l.drop k)) ∧ (∀ ad, B = some ad → ∃ a0, A = some a0 ∧ ad.block = a0.block) := by
  refine ⟨if c = k then A else A.map (·.add (k * size)), c - k, by omega, by omega, fun W => ?_, ?_, ?_, ?_⟩
  · rw [run_slice_l W T A m c (by rw [he]; exact ht) .i64 (k : Int) (by omega) (by omega), he, size_run hinfo]
    simp [Result.andThen, sliced]
  · intro w xs hl h j u hj
    by_cases hck : c = k
    · have : xs.drop (k * size) = [] := List.drop_of_length_le (by rw [hl, show m = k by omega]; exact Nat.le_refl _)
      rw [this] at hj
      simp at hj
    · rw [if_neg hck]
      rw [List.getElem?_drop] at hj
      obtain ⟨ad, rfl, h1⟩ := h _ _ hj
      exact ⟨ad.add (k * size), rfl, by rw [add_add]; exact h1⟩
  · intro α R w S l hcm h
    obtain ⟨A', cap, h1, h2, h3, h4, h5⟩ := h
    injection h1 with h1 _
    injection h1 with h1 h6 h7
    subst h1 h6 h7
    by_cases hck : c = k
    · refine ⟨_, c - k, by rw [List.length_drop], by rw [List.length_drop]; omega, by omega, fun hh => by omega, fun i hi => ?_⟩
      rw [List.length_drop] at hi
      omega
    · refine ⟨_, c - k, by rw [List.length_drop], by rw [List.length_drop]; omega, by omega, fun hh => ?_, fun i hi => ?_⟩
      · rw [if_neg hck] at hh
        cases A with
        | none => have := h4 rfl; omega
        | some a => cases hh
      · rw [List.length_drop] at hi
        obtain ⟨ad, ecs, g1, g2, g3, g4, g5⟩ := h5 (k + i) (by omega)
        subst g1
        rw [if_neg hck]
        refine ⟨ad.add (k * size), ecs, rfl, by rw [block_add]; exact g2, g3, fun j hj => ?_, by rw [List.getElem_drop]; exact g5⟩
        rw [add_add, ← g4 j hj, Nat.add_mul, Nat.add_assoc]
  · intro ad h
    by_cases hck : c = k
    · rw [if_pos hck] at h; exact ⟨ad, h, rfl⟩
    · rw [if_neg hck] at h
      cases A with
      | none => cases h
      | some a => injection h with h; exact ⟨a, rfl, by rw [← h, block_add]⟩
/-- 'l[:k]'. -/
theorem slice_to (ht : P.underlying T = some (.slice e)) (he : P.elem T = e) (hinfo : (P.info? e).map (fun i => (i.zero, i.size, i.bytes)) = some (some z, size, bytes)) {A : Option Addr} {m c k : Nat} (hk : k ≤ c) (W : World) :
    (Instr.slice T (.slice A m c) none (some (.int .i64 (k : Int))) none).run P W = .ok (.slice A k c) W := by
  rw [run_slice_h W T A m c (by rw [he]; exact ht) .i64 (k : Int) (by omega) (by omega), he, size_run hinfo]
  cases A with
  | none => simp [Result.andThen, sliced]
  | some a => simp [Result.andThen, sliced, add_zero]
end
theorem news_take {A : Option Addr} {w : World} {xs : List Value} (n : Nat) (h : ∀ j u, xs[j]? = some u → ∃ ad, A = some ad ∧ w.cell? (ad.add j) = some u) : ∀ j u, (xs.take n)[j]? = some u → ∃ ad, A = some ad ∧ w.cell? (ad.add j) = some u := by
  intro j u hj
  rw [List.getElem?_take] at hj
  split at hj
  · exact h j u hj
  · cases hj
/-- Where the cells of a row of one's own lie. -/
theorem own_news {w : World} {base : Nat} {e : TypeId} {size n m c : Nat} {A : Option Addr} {xs : List Value} (h : w.ownsRow base e size (.slice A m c) n xs) : ∀ j u, xs[j]? = some u → ∃ ad, A = some ad ∧ w.cell? (ad.add j) = some u := by
  intro j u hj
  rcases h.2 with ⟨h1, rfl⟩ | ⟨g, cap, cur, h1, _⟩
  · have := h.1
    rw [Nat.zero_mul] at this
    rw [List.eq_nil_of_length_eq_zero this] at hj
    simp at hj
  · injection h1 with h1 _ _
    subst h1
    exact ⟨_, rfl, h.cells (g := g) rfl j u hj⟩
theorem own_len {w : World} {base : Nat} {e : TypeId} {size n m c : Nat} {A : Option Addr} {xs : List Value} (h : w.ownsRow base e size (.slice A m c) n xs) : m = n ∧ n ≤ c ∧ c ≤ maxLen := by
  rcases h.2 with ⟨h1, rfl⟩ | ⟨g, cap, cur, h1, _, _, h2, h3, _⟩
  · injection h1 with h1 h2 h3
    subst h1 h2 h3
    exact ⟨rfl, Nat.le_refl _, Nat.zero_le _⟩
  · injection h1 with h1 h4 h5
    subst h1 h4 h5
    exact ⟨rfl, h2, h3⟩
end Go.Proofs.Ytompphakagoaeaa
