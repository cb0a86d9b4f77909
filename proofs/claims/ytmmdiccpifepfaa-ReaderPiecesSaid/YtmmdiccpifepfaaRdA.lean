/- Reader: the object in memory; here, data. Printed by gen_rda.py. -/
import Derived.Test.YtmmdiccpifepfaaRdM
namespace Go.Proofs.Ytmmdiccpifepfaa
open Go.RowKit
set_option linter.unusedVariables false
set_option linter.unusedSimpArgs false
/-- A cell of a row of the call's own is set. -/
theorem own_set {w : World} {base : Nat} {e : TypeId} {size n c g : Nat} {xs : List Value} (h : w.ownsRow base e size (.slice (some ⟨g, 0, none⟩) n c) n xs) (j : Nat) (hj : j < xs.length) (u : Value) :
    (w.setCell ⟨g, j, none⟩ u).ownsRow base e size (.slice (some ⟨g, 0, none⟩) n c) n (xs.set j u) := by
  obtain ⟨hl, h⟩ := h
  refine ⟨by rw [List.length_set]; exact hl, .inr ?_⟩
  rcases h with ⟨h, _⟩ | ⟨g', cap, cur, h1, h2, h3, h4, h5, h6, h7⟩
  · cases h
  · injection h1 with a1 a2 a3
    injection a1 with a1
    injection a1 with a1
    subst a1 a3
    have hb : Blk w g e cur := h3
    refine ⟨g, c, cur.setIfInBounds j u, rfl, h2, hb.put j u, h4, h5, by simpa using h6, ?_⟩
    rw [Array.toList_setIfInBounds, List.take_set, h7]
theorem own_frozen {w : World} {base : Nat} {e : TypeId} {size n c g : Nat} {xs : List Value} (h : w.ownsRow base e size (.slice (some ⟨g, 0, none⟩) n c) n xs) (j : Nat) : w.frozen? ⟨g, j, none⟩ = false := by
  rcases h.2 with ⟨h, _⟩ | ⟨g', cap, cur, h1, h2, h3, h4, h5, h6, h7⟩
  · cases h
  · injection h1 with a1 a2 a3
    injection a1 with a1
    injection a1 with a1
    subst a1
    exact Blk.frozen (cs := cur) (t := e) h3 j
namespace Rd
open Ans Digit Sls Word
section
variable {K : KV} {w w' : World} {F G : Nat → Prop} {g p : Nat} {op : Str}
theorem SAt.set0 (h : SAt K w F g p op) (u : Value) : SAt (u, K.2) (w.setCell ⟨g, 0, none⟩ u) F g p op := by
  obtain ⟨v, h1, h2, h3, h4, h5⟩ := h
  exact ⟨v, by simpa using h1.put 0 u, own_fr h2 (Fr.setCell (F := fun k => k = g) (Fr.refl _ _) (p := ⟨g, 0, none⟩) (.inl rfl) _) (fun k hk e => (h4 k hk).2 e), h3, h4, fun k hk => by rw [size_setCell]; exact h5 k hk⟩
theorem SAt.set1 (h : SAt K w F g p op) (u : Value) : SAt (K.1, u, K.2.2) (w.setCell ⟨g, 1, none⟩ u) F g p op := by
  obtain ⟨v, h1, h2, h3, h4, h5⟩ := h
  exact ⟨v, by simpa using h1.put 1 u, own_fr h2 (Fr.setCell (F := fun k => k = g) (Fr.refl _ _) (p := ⟨g, 1, none⟩) (.inl rfl) _) (fun k hk e => (h4 k hk).2 e), h3, h4, fun k hk => by rw [size_setCell]; exact h5 k hk⟩
theorem SAt.set2 (h : SAt K w F g p op) (u : Value) : SAt (K.1, K.2.1, u, K.2.2.2) (w.setCell ⟨g, 2, none⟩ u) F g p op := by
  obtain ⟨v, h1, h2, h3, h4, h5⟩ := h
  exact ⟨v, by simpa using h1.put 2 u, own_fr h2 (Fr.setCell (F := fun k => k = g) (Fr.refl _ _) (p := ⟨g, 2, none⟩) (.inl rfl) _) (fun k hk e => (h4 k hk).2 e), h3, h4, fun k hk => by rw [size_setCell]; exact h5 k hk⟩
theorem SAt.set3 (h : SAt K w F g p op) (u : Value) : SAt (K.1, K.2.1, K.2.2.1, u) (w.setCell ⟨g, 3, none⟩ u) F g p op := by
  obtain ⟨v, h1, h2, h3, h4, h5⟩ := h
  exact ⟨v, by simpa using h1.put 3 u, own_fr h2 (Fr.setCell (F := fun k => k = g) (Fr.refl _ _) (p := ⟨g, 3, none⟩) (.inl rfl) _) (fun k hk e => (h4 k hk).2 e), h3, h4, fun k hk => by rw [size_setCell]; exact h5 k hk⟩
theorem SAt.cells (h : SAt K w F g p op) : w.cell? ⟨g, 0, none⟩ = some K.1 ∧ w.cell? ⟨g, 1, none⟩ = some K.2.1 ∧ w.cell? ⟨g, 2, none⟩ = some K.2.2.1 ∧ w.cell? ⟨g, 3, none⟩ = some K.2.2.2 ∧ (∀ i, w.frozen? ⟨g, i, none⟩ = false) ∧ g < w.heap.size := by
  obtain ⟨v, h1, h2, h3, h4, h5⟩ := h
  exact ⟨h1.cell 0, h1.cell 1, h1.cell 2, h1.cell 3, h1.frozen, h1.lt⟩
end
/-- A reader at block g: what was read, where its splitter is, what is open. -/
structure RP (w : World) (Fs B : Nat → Prop) (g : Nat) (vR vV : Value) (rv : List (Int × Value)) (x : X) (p : Nat) (op : Str) : Prop where
  sat : SAt (vR, vV, .int .i64 x.role, .bool x.bad) w Fs g p op
  rows : Rows 49 w B vR vV rv x
  hR : ∀ k, Of vR k → ¬ Fs k
  hV : ∀ k, Of vV k → ¬ Fs k
  hF : ∀ k, B k → ¬ Fs k
/-- All that a reader has lies in A. -/
def RA (w : World) (A : Nat → Prop) (g : Nat) (x : X) (p : Nat) (op : Str) : Prop :=
  ∃ Fs B vR vV rv, RP w Fs B g vR vV rv x p op ∧ (∀ k, Fs k ∨ B k ∨ Of vR k ∨ Of vV k → A k) ∧ ∀ k, A k → k < w.heap.size
section
variable {w w' : World} {Fs B A G : Nat → Prop} {g p : Nat} {vR vV : Value} {rv : List (Int × Value)} {x y : X} {op : Str}
theorem RP.fr (h : RP w Fs B g vR vV rv x p op) (hf : Fr G w w') (h1 : ∀ k, Fs k → ¬ G k) (h2 : ∀ k, Of vR k → ¬ G k) (h3 : ∀ k, Of vV k → ¬ G k) (h4 : ∀ k, B k → ¬ G k) : RP w' Fs B g vR vV rv x p op :=
  ⟨h.sat.fr hf h1, h.rows.fr hf h2 h3 h4, h.hR, h.hV, h.hF⟩
theorem RP.no (h : RP w Fs B g vR vV rv x p op) (hf : Fr No w w') : RP w' Fs B g vR vV rv x p op := h.fr hf (fun _ _ h => h) (fun _ _ h => h) (fun _ _ h => h) (fun _ _ h => h)
theorem RA.fr (h : RA w A g x p op) (hf : Fr G w w') (hn : ∀ k, A k → ¬ G k) : RA w' A g x p op := by
  obtain ⟨Fs, B, vR, vV, rv, h1, h2, h3⟩ := h
  exact ⟨Fs, B, vR, vV, rv, h1.fr hf (fun k hk => hn k (h2 k (.inl hk))) (fun k hk => hn k (h2 k (.inr (.inr (.inl hk))))) (fun k hk => hn k (h2 k (.inr (.inr (.inr hk))))) (fun k hk => hn k (h2 k (.inr (.inl hk)))), h2, fun k hk => Nat.lt_of_lt_of_le (h3 k hk) hf.size⟩
theorem RA.no (h : RA w A g x p op) (hf : Fr No w w') : RA w' A g x p op := h.fr hf (fun _ _ h => h)
theorem RP.nf (h : RP w Fs B g vR vV rv x p op) : (∀ k, Of vR k → k ≠ g) ∧ (∀ k, Of vV k → k ≠ g) ∧ ∀ k, B k → k ≠ g :=
  ⟨fun k hk e => h.hR k hk (e ▸ h.sat.in_), fun k hk e => h.hV k hk (e ▸ h.sat.in_), fun k hk e => h.hF k hk (e ▸ h.sat.in_)⟩
/-- A cell of the block itself is set. -/
theorem RP.key (h : RP w Fs B g vR vV rv x p op) (i : Nat) (u : Value) (hs : SAt (vR, vV, .int .i64 y.role, .bool y.bad) (w.setCell ⟨g, i, none⟩ u) Fs g p op) (hR : y.R = x.R) (hV : y.V = x.V) : RP (w.setCell ⟨g, i, none⟩ u) Fs B g vR vV rv y p op := by
  obtain ⟨n1, n2, n3⟩ := h.nf
  have hr := h.rows.fr (Fr.setCell (F := fun k => k = g) (Fr.refl _ _) (p := ⟨g, i, none⟩) (.inl rfl) u) n1 n2 n3
  exact ⟨hs, ⟨hr.rown, by rw [hR]; exact hr.lines, by rw [hV]; exact hr.vown, hr.hRV, hr.hB⟩, h.hR, h.hV, h.hF⟩
theorem RP.bad (h : RP w Fs B g vR vV rv x p op) : RP (w.setCell ⟨g, 3, none⟩ (.bool true)) Fs B g vR vV rv (badR x) p op := h.key 3 _ (h.sat.set3 (.bool true)) rfl rfl
theorem RP.role (h : RP w Fs B g vR vV rv x p op) (r : Int) : RP (w.setCell ⟨g, 2, none⟩ (.int .i64 r)) Fs B g vR vV rv { x with role := r } p op := h.key 2 _ (h.sat.set2 (.int .i64 r)) rfl rfl
theorem RP.step (h : RP w Fs B g vR vV rv x p op) (hA : ∀ k, Fs k ∨ B k ∨ Of vR k ∨ Of vV k → A k) (i : Nat) (u : Value) : Step A w A (w.setCell ⟨g, i, none⟩ u) :=
  ⟨(Fr.refl A w).setCell (p := ⟨g, i, none⟩) (.inl (hA g (.inl h.sat.in_))) u, fun k hk => .inl hk⟩
theorem set_v0 (U : List Vw) (v u : Vw) : (((U ++ [v]).flatMap encV).set (U.length * 3 + 1) (.string ⟨u.2.1.toArray⟩)) = (U ++ [(v.1, u.2.1, v.2.2)]).flatMap encV := by
  rw [List.flatMap_append, List.flatMap_append, List.set_append_right _ _ (by rw [fmV]; omega), fmV, show U.length * 3 + 1 - U.length * 3 = 1 by omega]
  rfl
theorem set_v2 (U : List Vw) (v : Vw) (b : Bool) : (((U ++ [v]).flatMap encV).set (U.length * 3 + 2) (.bool b)) = (U ++ [(v.1, v.2.1, b)]).flatMap encV := by
  rw [List.flatMap_append, List.flatMap_append, List.set_append_right _ _ (by rw [fmV]; omega), fmV, show U.length * 3 + 2 - U.length * 3 = 2 by omega]
  rfl
/-- A cell of the last view is set. -/
theorem RP.view {gV n c : Nat} (h : RP w Fs B g vR (.slice (some ⟨gV, 0, none⟩) n c) rv x p op) (hn : n = x.V.length) {j : Nat} (hj : j < n * 3) (u : Value) (he : (x.V.flatMap encV).set j u = y.V.flatMap encV) (hl : y.V.length = x.V.length) (hR : y.R = x.R) (h1 : y.role = x.role) (h2 : y.bad = x.bad) :
    RP (w.setCell ⟨gV, j, none⟩ u) Fs B g vR (.slice (some ⟨gV, 0, none⟩) n c) rv y p op := by
  have hfr : Fr (fun k => k = gV) w (w.setCell ⟨gV, j, none⟩ u) := Fr.setCell (F := fun k => k = gV) (Fr.refl _ _) (p := ⟨gV, j, none⟩) (.inl rfl) u
  have ho : Of (.slice (some ⟨gV, 0, none⟩) n c) gV := rfl
  refine ⟨by rw [h1, h2]; exact h.sat.fr hfr (fun k hk e => h.hV gV ho (e ▸ hk)), ⟨own_fr h.rows.rown hfr (fun k hk e => h.rows.hRV k hk (e ▸ ho)), ?_, ?_, h.rows.hRV, fun k hk => ⟨by rw [size_setCell]; exact (h.rows.hB k hk).1, (h.rows.hB k hk).2⟩⟩, h.hR, h.hV, h.hF⟩
  · rw [hR]; exact h.rows.lines.fr hfr (fun k hk => ⟨(h.rows.hB k hk).1, fun e => (h.rows.hB k hk).2.2 (e ▸ ho)⟩)
  · rw [← he, hl]
    have hv := h.rows.vown
    rw [← hn] at hv ⊢
    exact own_set hv j (by rw [fmV, ← hn]; exact hj) u
end
theorem here_none {w : World} {Fs B : Nat → Prop} {g p : Nat} {vR vV : Value} {rv : List (Int × Value)} {x : X} {op : Str} (h : RP w Fs B g vR vV rv x p op) (ho : opn x.V = none) :
    Calls Try.prog 31 #[.pointer (some ⟨g, 0, none⟩)] w fun e w' => e = .returned (.pointer none) ∧ w = w' := by
  obtain ⟨c0, c1, c2, c3, fz, hlt⟩ := h.sat.cells
  have hv := h.rows.vown
  obtain ⟨A, c, rfl⟩ := own_form hv
  rcases opn_none ho with hx | ⟨U, n, t, hx⟩
  · rw [hx] at c1 hv
    clear h hv ho hx
    go_enter Try.func31, Try.ntmps31
    go_wp2
    go_ret
    exact ⟨rfl, rfl⟩
  · rw [hx] at c1 hv
    obtain ⟨m, hm⟩ : ∃ m, m = U.length := ⟨_, rfl⟩
    have hl : (U ++ [(n, t, false)]).length = m + 1 := by simp [hm]
    obtain ⟨gV, rfl⟩ : ∃ gV, A = some ⟨gV, 0, none⟩ := by
      rcases hv.2 with ⟨h1, h2⟩ | ⟨g, cap, cur, h1, _⟩
      · rw [hl] at h2; omega
      · injection h1 with h1; exact ⟨g, h1⟩
    obtain ⟨d0, d1, d2⟩ := view_at hv (k := m) (by omega)
    simp only [hm, List.getElem_concat_length] at d2
    rw [← hm] at d2
    rw [hl] at c1
    have hcap : m + 1 ≤ maxLen := by
      rcases hv.2 with ⟨h1, h2⟩ | ⟨g, cap, cur, h1, h2, h3, h4, h5, _⟩
      · cases h1
      · rw [hl] at h4; omega
    unfold maxLen at hcap
    have hb0 : decide ((0 : Int) ≤ ((m + 1 : Nat) : Int) - 1) = true := decide_eq_true (by omega)
    clear h hv ho hx hl hm d0 d1
    go_enter Try.func31, Try.ntmps31
    go_wp2
    go_ret
    exact ⟨rfl, rfl⟩
theorem here_some {w : World} {Fs B : Nat → Prop} {g p gV m c : Nat} {vR : Value} {rv : List (Int × Value)} {x : X} {op n t : Str} {U : List Vw} (h : RP w Fs B g vR (.slice (some ⟨gV, 0, none⟩) (m + 1) c) rv x p op) (hx : x.V = U ++ [(n, t, true)]) (hm : m = U.length) :
    Calls Try.prog 31 #[.pointer (some ⟨g, 0, none⟩)] w fun e w' => e = .returned (.pointer (some ⟨gV, m * 3, none⟩)) ∧ w = w' := by
  obtain ⟨c0, c1, c2, c3, fz, hlt⟩ := h.sat.cells
  have hv := h.rows.vown
  rw [hx] at hv
  have hl : (U ++ [(n, t, true)]).length = m + 1 := by simp [hm]
  obtain ⟨d0, d1, d2⟩ := view_at (by rw [hl] at hv ⊢; exact hv) (k := m) (by omega)
  simp only [hm, List.getElem_concat_length] at d2
  rw [← hm] at d2
  have hcap : m + 1 ≤ maxLen := by
    rcases hv.2 with ⟨h1, h2⟩ | ⟨g, cap, cur, h1, h2, h3, h4, h5, _⟩
    · cases h1
    · rw [hl] at h4; omega
  unfold maxLen at hcap
  have hb0 : decide ((0 : Int) ≤ ((m + 1 : Nat) : Int) - 1) = true := decide_eq_true (by omega)
  clear h hv hx hl hm d0 d1
  go_enter Try.func31, Try.ntmps31
  go_wp2
  go_ret
  exact ⟨rfl, rfl⟩
end Rd
end Go.Proofs.Ytmmdiccpifepfaa
