/- Package timer, in plain terms: a heap of entries; one step up, one step down. No program in sight. -/
import Derived.Test.YtkmlmjglipmdcaaSls
namespace Go.Proofs.Ytkmlmjglipmdcaa
open Go.RowKit
set_option linter.unusedVariables false
set_option linter.unusedSimpArgs false
namespace Tm
/-- An entry: its block, who, and when. -/
abbrev E := Nat × Int × Int
def lt (x y : E) : Bool := if x.2.2 = y.2.2 then decide (x.2.1 < y.2.1) else decide (x.2.2 < y.2.2)
theorem lt_iff {x y : E} : lt x y = true ↔ x.2.2 < y.2.2 ∨ x.2.2 = y.2.2 ∧ x.2.1 < y.2.1 := by
  unfold lt
  split
  · rw [decide_eq_true_iff]; omega
  · rw [decide_eq_true_iff]; omega
theorem lt_not {x y : E} : lt x y = false ↔ y.2.2 < x.2.2 ∨ y.2.2 = x.2.2 ∧ y.2.1 ≤ x.2.1 := by
  rw [← Bool.not_eq_true, lt_iff]; omega
theorem le_trans {x y z : E} (h : lt y x = false) (k : lt z y = false) : lt z x = false := by
  rw [lt_not] at *; omega
theorem lt_le {x y : E} (h : lt x y = true) : lt y x = false := by
  rw [lt_iff] at h; rw [lt_not]; omega
theorem lt_irr (x : E) : lt x x = false := by rw [lt_not]; omega
def par (k : Nat) : Nat := (k - 1) / 2
def swf (f : Nat → E) (i k : Nat) : Nat → E := fun m => if m = k then f i else if m = i then f k else f m
/-- The first n are a heap. -/
def Ok (f : Nat → E) (n : Nat) : Prop := ∀ k, 0 < k → k < n → lt (f k) (f (par k)) = false
/-- But for j, which may have to go up. -/
def UpO (f : Nat → E) (n j : Nat) : Prop := (∀ k, 0 < k → k < n → k ≠ j → lt (f k) (f (par k)) = false) ∧ (∀ k, 0 < k → k < n → par k = j → 0 < j → lt (f k) (f (par j)) = false)
/-- But for i, which may have to go either way. -/
def ExO (f : Nat → E) (n i : Nat) : Prop := (∀ k, 0 < k → k < n → k ≠ i → par k ≠ i → lt (f k) (f (par k)) = false) ∧ (∀ k, 0 < k → k < n → par k = i → 0 < i → lt (f k) (f (par i)) = false)
def Dn (f : Nat → E) (n i i0 : Nat) : Prop := ExO f n i ∧ (i ≠ i0 → 0 < i → lt (f i) (f (par i)) = false)
theorem up_end {f : Nat → E} {n j : Nat} (h : UpO f n j) (hj : j = 0 ∨ lt (f j) (f (par j)) = false) : Ok f n := fun k h0 hn => by
  by_cases e : k = j
  · subst e
    rcases hj with g | g
    · omega
    · exact g
  · exact h.1 k h0 hn e
theorem up_step {f : Nat → E} {n j : Nat} (h : UpO f n j) (h0 : 0 < j) (hn : j < n) (hl : lt (f j) (f (par j)) = true) : UpO (swf f (par j) j) n (par j) := by
  have hp : par j < j := by unfold par; omega
  have hr := lt_le hl
  refine ⟨fun k hk hkn hne => ?_, fun k hk hkn hpk hp0 => ?_⟩
  · unfold swf
    by_cases e : k = j
    · subst e
      rw [if_pos rfl, if_neg (by omega), if_pos rfl]
      exact hr
    · rw [if_neg e, if_neg hne]
      by_cases e2 : par k = j
      · rw [if_pos e2]
        exact h.2 k hk hkn e2 h0
      · rw [if_neg e2]
        have h1 := h.1 k hk hkn e
        by_cases e3 : par k = par j
        · rw [if_pos e3]
          rw [e3] at h1
          exact le_trans hr h1
        · rw [if_neg e3]
          exact h1
  · have hpp : par (par j) < par j := by
      show (par j - 1) / 2 < par j
      omega
    unfold swf
    rw [if_neg (show par (par j) ≠ j by omega), if_neg (show par (par j) ≠ par j by omega)]
    have h1 := h.1 (par j) hp0 (by omega) (by omega)
    by_cases e : k = j
    · rw [if_pos e]
      exact h1
    · rw [if_neg e, if_neg (show k ≠ par j by intro e2; rw [e2] at hpk; omega)]
      have h2 := h.1 k hk hkn e
      rw [hpk] at h2
      exact le_trans h1 h2
theorem par_child {k i : Nat} (hk : 0 < k) : par k = i ↔ k = 2 * i + 1 ∨ k = 2 * i + 2 := by unfold par; omega
theorem down_step {f : Nat → E} {n i i0 j : Nat} (h : Dn f n i i0) (hi : i0 ≤ i) (hj : par j = i) (hj0 : 0 < j) (hn : j < n) (hm : ∀ k, 0 < k → k < n → par k = i → lt (f k) (f j) = false) (hl : lt (f j) (f i) = true) : Dn (swf f i j) n j i0 := by
  have hp : i < j := by rw [← hj]; unfold par; omega
  have hr := lt_le hl
  refine ⟨⟨fun k hk hkn hne hne2 => ?_, fun k hk hkn hpk _ => ?_⟩, fun _ _ => ?_⟩
  · unfold swf
    rw [if_neg hne, if_neg hne2]
    by_cases e : k = i
    · rw [if_pos e]
      subst e
      rw [if_neg (show par k ≠ k by unfold par; omega)]
      exact h.1.2 j hj0 hn hj hk
    · rw [if_neg e]
      by_cases e2 : par k = i
      · rw [if_pos e2]
        exact hm k hk hkn e2
      · rw [if_neg e2]
        exact h.1.1 k hk hkn e e2
  · have hkj : k ≠ j := by intro e; rw [e, hj] at hpk; omega
    have hki : k ≠ i := by intro e; rw [e] at hpk; have : par i ≤ i := by unfold par; omega
                           omega
    unfold swf
    rw [if_neg hkj, if_neg hki, if_neg (show par j ≠ j by omega), if_pos hj]
    have := h.1.1 k hk hkn hki (by omega)
    rw [hpk] at this
    exact this
  · unfold swf
    rw [if_pos rfl, if_neg (show par j ≠ j by omega), if_pos hj]
    exact hr
theorem down_end {f : Nat → E} {n i i0 : Nat} (h : Dn f n i i0) (hc : ∀ k, 0 < k → k < n → par k = i → lt (f k) (f i) = false) : UpO f n i ∧ (i ≠ i0 → Ok f n) := by
  have h1 : UpO f n i := ⟨fun k hk hkn hne => by
    by_cases e : par k = i
    · have := hc k hk hkn e
      rw [e]; exact this
    · exact h.1.1 k hk hkn hne e, h.1.2⟩
  refine ⟨h1, fun hne => up_end h1 ?_⟩
  by_cases e : i = 0
  · exact .inl e
  · exact .inr (h.2 hne (by omega))
/-- Another one stands at i. -/
theorem turned {f g : Nat → E} {n n0 i : Nat} (h : Ok f n0) (hn : n ≤ n0) (hi : i < n) (hg : ∀ m, m < n → m ≠ i → g m = f m) : Dn g n i i := by
  refine ⟨⟨fun k hk hkn hne hne2 => ?_, fun k hk hkn hpk h0 => ?_⟩, fun h => absurd rfl h⟩
  · have : par k < n := by unfold par; omega
    rw [hg k hkn hne, hg _ this hne2]
    exact h k hk (by omega)
  · have hpi : par i < n := by unfold par; omega
    have hki : k ≠ i := by intro e; rw [e] at hpk; unfold par at hpk; omega
    rw [hg k hkn hki, hg _ hpi (by unfold par; omega)]
    have h1 := h k hk (by omega)
    rw [hpk] at h1
    exact le_trans (h i h0 (by omega)) h1
theorem pushed {f g : Nat → E} {n : Nat} (h : Ok f n) (hg : ∀ m, m < n → g m = f m) : UpO g (n + 1) n := by
  refine ⟨fun k hk hkn hne => ?_, fun k hk hkn hpk h0 => ?_⟩
  · have : par k < n := by unfold par; omega
    rw [hg k (by omega), hg _ this]
    exact h k hk (by omega)
  · unfold par at hpk; omega
theorem root_min {f : Nat → E} {n : Nat} (h : Ok f n) (k : Nat) (hk : k < n) : lt (f k) (f 0) = false := by
  induction k using Nat.strongRecOn with
  | _ k ih =>
    by_cases e : k = 0
    · rw [e]; exact lt_irr _
    · have hp : par k < k := by unfold par; omega
      exact le_trans (ih _ hp (by omega)) (h k (by omega) hk)
theorem Ok.less {f : Nat → E} {n m : Nat} (h : Ok f n) (hm : m ≤ n) : Ok f m := fun k h0 hk => h k h0 (by omega)
theorem Ok.congr {f g : Nat → E} {n : Nat} (h : Ok f n) (hg : ∀ m, m < n → g m = f m) : Ok g n := fun k h0 hk => by
  rw [hg k hk, hg _ (by unfold par; omega)]; exact h k h0 hk
/-! ### Rows -/
def at' (P : List E) (m : Nat) : E := P.getD m (0, 0, 0)
theorem at_get {P : List E} {m : Nat} (h : m < P.length) : at' P m = P[m] := by unfold at' List.getD; rw [List.getElem?_eq_getElem h]; rfl
def sw (P : List E) (i k : Nat) : List E := (P.set i (at' P k)).set k (at' P i)
theorem sw_len (P : List E) (i k : Nat) : (sw P i k).length = P.length := by simp [sw]
theorem sw_get {P : List E} {i k m : Nat} (hm : m < P.length) : (sw P i k)[m]'(by rw [sw_len]; exact hm) = if m = k then at' P i else if m = i then at' P k else P[m] := by
  unfold sw
  rw [List.getElem_set]
  by_cases e : k = m
  · rw [if_pos e, if_pos e.symm]
  · rw [if_neg e, if_neg (fun g => e g.symm), List.getElem_set]
    by_cases e2 : i = m
    · rw [if_pos e2, if_pos e2.symm]
    · rw [if_neg e2, if_neg (fun g => e2 g.symm)]
theorem sw_at {P : List E} {i k : Nat} (hi : i < P.length) (hk : k < P.length) : at' (sw P i k) = swf (at' P) i k := by
  funext m
  unfold swf
  by_cases hm : m < P.length
  · rw [at_get (by rw [sw_len]; exact hm), sw_get hm, at_get hm]
  · have h1 : at' (sw P i k) m = (0, 0, 0) := by unfold at' List.getD; rw [List.getElem?_eq_none (by rw [sw_len]; omega)]; rfl
    have h2 : at' P m = (0, 0, 0) := by unfold at' List.getD; rw [List.getElem?_eq_none (by omega)]; rfl
    rw [h1, h2, if_neg (by omega), if_neg (by omega)]
theorem sw_perm {P : List E} {i k : Nat} (hi : i < P.length) (hk : k < P.length) : (sw P i k).Perm P := by
  rw [List.perm_iff_count]
  intro a
  unfold sw
  obtain ⟨x, hx⟩ : ∃ x, x = at' P i := ⟨_, rfl⟩
  obtain ⟨y, hy⟩ : ∃ y, y = at' P k := ⟨_, rfl⟩
  rw [← hx, ← hy]
  rw [at_get hi] at hx
  rw [at_get hk] at hy
  have hk' : k < (P.set i y).length := by rw [List.length_set]; exact hk
  rw [List.count_set hk', List.count_set hi, List.getElem_set]
  subst hx hy
  by_cases e : i = k
  · subst e
    rw [if_pos rfl]
    have : 0 < P.count P[i] := List.count_pos_iff.2 (List.getElem_mem hi)
    by_cases g : P[i] = a
    · subst g; (simp; try omega)
    · simp [g]
  · rw [if_neg e]
    have c1 : 0 < P.count P[i] := List.count_pos_iff.2 (List.getElem_mem hi)
    have c2 : 0 < P.count P[k] := List.count_pos_iff.2 (List.getElem_mem hk)
    by_cases g1 : P[i] = a
    · subst g1
      by_cases g2 : P[k] = P[i]
      · (simp [g2]; try omega)
      · (simp [g2]; try omega)
    · by_cases g2 : P[k] = a
      · subst g2
        simp [g1]
      · simp [g1, g2]
end Tm
end Go.Proofs.Ytkmlmjglipmdcaa
