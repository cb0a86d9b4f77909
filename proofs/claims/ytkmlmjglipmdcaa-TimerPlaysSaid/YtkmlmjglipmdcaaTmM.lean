/- Package timer in memory: the pile: a row of pointers to entries, each of which knows its place; its methods. -/
import Derived.Test.YtkmlmjglipmdcaaRows
import Derived.Test.YtkmlmjglipmdcaaTmP
import Derived.Test.YtkmlmjglipmdcaaPush
import Derived.Outline
import Derived.WalkSpells
import Derived.BigQuiet
import Derived.Deep.QuietTactic
import Derived.Deep.RegionHeld3
import Derived.BigGuardPart
namespace Go.Proofs.Ytkmlmjglipmdcaa
open Go.RowKit
set_option linter.unusedVariables false
set_option linter.unusedSimpArgs false
theorem own_set {w : World} {base : Nat} {e : TypeId} {size n c g : Nat} {xs : List Value} (h : w.ownsRow base e size (.slice (some ⟨g, 0, none⟩) n c) n xs) (j : Nat) (hj : j < xs.length) (u : Value) :
    (w.setCell ⟨g, j, none⟩ u).ownsRow base e size (.slice (some ⟨g, 0, none⟩) n c) n (xs.set j u) := by
  obtain ⟨hl, h⟩ := h
  refine ⟨by rw [List.length_set]; exact hl, .inr ?_⟩
  rcases h with ⟨h, _⟩ | ⟨g', cap, cur, h1, h2, h3, h4, h5, h6, h7⟩
  · cases h
  · injection h1 with a1 a2 a3
    injection a1 with a1
    injection a1 with a1
    subst a1 a3
    have hb : Blk w g e cur := h3
    refine ⟨g, c, cur.setIfInBounds j u, rfl, h2, hb.put j u, h4, h5, by simpa using h6, ?_⟩
    rw [Array.toList_setIfInBounds, List.take_set, h7]
theorem own_frozen {w : World} {base : Nat} {e : TypeId} {size n c g : Nat} {xs : List Value} (h : w.ownsRow base e size (.slice (some ⟨g, 0, none⟩) n c) n xs) (j : Nat) : w.frozen? ⟨g, j, none⟩ = false := by
  rcases h.2 with ⟨h, _⟩ | ⟨g', cap, cur, h1, h2, h3, h4, h5, h6, h7⟩
  · cases h
  · injection h1 with a1 a2 a3
    injection a1 with a1
    injection a1 with a1
    subst a1
    exact Blk.frozen (cs := cur) (t := e) h3 j
namespace Tm
open Sls
def encP (x : E) : Value := .pointer (some ⟨x.1, 0, none⟩)
/-- The blocks of a pile, but for the timer's own. -/
def Foot (v : Value) (P : List E) : Nat → Prop := fun k => Of v k ∨ ∃ x ∈ P, x.1 = k
structure PP (w : World) (b : Nat) (c0 c2 v : Value) (P : List E) : Prop where
  blk : Blk w b 61 #[c0, v, c2]
  row : w.ownsRow 0 62 1 v P.length (P.map encP)
  ent : ∀ i (h : i < P.length), Blk w P[i].1 65 #[.int .i64 P[i].2.1, .int .i64 P[i].2.2, .int .i64 i]
  nodup : (P.map (·.1)).Nodup
  off : ∀ x ∈ P, x.1 ≠ b ∧ ¬ Of v x.1
  vb : ¬ Of v b
theorem own_cell {w : World} {base : Nat} {e : TypeId} {n c g i : Nat} {xs : List Value} (h : w.ownsRow base e 1 (.slice (some ⟨g, 0, none⟩) n c) n xs) (hi : i < xs.length) : w.cell? ⟨g, i, none⟩ = some xs[i] := by
  obtain ⟨hl, h⟩ := h
  rcases h with ⟨h, _⟩ | ⟨g', cap, cur, h1, h2, h3, h4, h5, h6, h7⟩
  · cases h
  · injection h1 with a1 a2 a3
    injection a1 with a1
    injection a1 with a1
    subst a1 a3
    have hb : Blk w g e cur := h3
    rw [hb.cell i]
    have : xs[i]? = (cur.toList.take (n * 1))[i]? := by rw [h7]
    rw [List.getElem?_eq_getElem hi, List.getElem?_take_of_lt (by omega), Array.getElem?_toList] at this
    exact this.symm
section
variable {w w' : World} {b : Nat} {c0 c2 v : Value} {P : List E}
theorem PP.form (h : PP w b c0 c2 v P) : ∃ A c, v = .slice A P.length c := own_form h.row
/-- Where there is an entry, there is a row. -/
theorem PP.has (h : PP w b c0 c2 v P) (hp : 0 < P.length) : ∃ g c, v = .slice (some ⟨g, 0, none⟩) P.length c := by
  rcases h.row.2 with ⟨h1, h2⟩ | ⟨g, cap, cur, h1, _⟩
  · omega
  · exact ⟨g, cap, h1⟩
theorem PP.cell {g c i : Nat} (h : PP w b c0 c2 (.slice (some ⟨g, 0, none⟩) P.length c) P) (hi : i < P.length) : w.cell? ⟨g, i, none⟩ = some (.pointer (some ⟨P[i].1, 0, none⟩)) := by
  have := own_cell h.row (i := i) (by rw [List.length_map]; exact hi)
  rw [this, List.getElem_map]
  rfl
theorem foot_lt (h : PP w b c0 c2 v P) : ∀ k, Foot v P k → k < w.heap.size := fun k hk => by
  rcases hk with g | ⟨x, hx, rfl⟩
  · exact (h.row.lt k g).2
  · obtain ⟨i, hi, rfl⟩ := List.getElem_of_mem hx
    exact (h.ent i hi).lt
theorem PP.fr {H : Nat → Prop} (h : PP w b c0 c2 v P) (hf : Fr H w w') (hb : ¬ H b) (hn : ∀ k, Foot v P k → ¬ H k) : PP w' b c0 c2 v P :=
  ⟨h.blk.fr hf hb, own_fr h.row hf (fun k hk => hn k (.inl hk)), fun i hi => (h.ent i hi).fr hf (hn _ (.inr ⟨_, List.getElem_mem hi, rfl⟩)), h.nodup, h.off, h.vb⟩
theorem PP.no (h : PP w b c0 c2 v P) (hf : Fr No w w') : PP w' b c0 c2 v P := h.fr hf (fun h => h) (fun _ _ h => h)
theorem PP.block_ne (h : PP w b c0 c2 v P) {i k : Nat} (hi : i < P.length) (hk : k < P.length) (hne : i ≠ k) : P[i].1 ≠ P[k].1 := fun e => by
  have := (List.nodup_iff_pairwise_ne.1 h.nodup)
  have h2 := List.pairwise_iff_getElem.1 this
  rcases Nat.lt_or_gt_of_ne hne with g | g
  · have := h2 i k (by rw [List.length_map]; exact hi) (by rw [List.length_map]; exact hk) g
    rw [List.getElem_map, List.getElem_map] at this
    exact this e
  · have := h2 k i (by rw [List.length_map]; exact hk) (by rw [List.length_map]; exact hi) g
    rw [List.getElem_map, List.getElem_map] at this
    exact this e.symm
/-! ### The pile's methods -/
theorem len_any (A : Option Addr) (n c : Nat) (w : World) : Calls Try.prog 43 #[.slice A n c] w fun e w' => e = .returned (.int .i64 n) ∧ w = w' := by
  go_enter Try.func43, Try.ntmps43
  go_wp2
  go_ret
  exact ⟨rfl, rfl⟩
set_option maxRecDepth 100000 in
set_option maxHeartbeats 2000000 in
theorem less_any (h : PP w b c0 c2 v P) {i k : Nat} (hi : i < P.length) (hk : k < P.length) (hl : P.length ≤ 4096) : Calls Try.prog 44 #[v, .int .i64 i, .int .i64 k] w fun e w' => e = .returned (.bool (lt (at' P i) (at' P k))) ∧ Fr No w w' := by
  obtain ⟨g, c, rfl⟩ := h.has (by omega)
  have r1 := h.cell hi
  have r2 := h.cell hk
  have a0 := (h.ent i hi).cell 0
  have a1 := (h.ent i hi).cell 1
  have b0 := (h.ent k hk).cell 0
  have b1 := (h.ent k hk).cell 1
  have e : lt (at' P i) (at' P k) = lt P[i] P[k] := by rw [at_get hi, at_get hk]
  rw [e]
  clear e h
  obtain ⟨x, hx⟩ : ∃ x, x = P[i] := ⟨_, rfl⟩
  obtain ⟨y, hy⟩ : ∃ y, y = P[k] := ⟨_, rfl⟩
  rw [← hx] at a0 a1 r1 ⊢
  rw [← hy] at b0 b1 r2 ⊢
  clear hx hy
  obtain ⟨n, hn⟩ : ∃ n, n = P.length := ⟨_, rfl⟩
  rw [← hn] at hi hk hl ⊢
  obtain ⟨eb, ed, ea⟩ := x
  obtain ⟨fb, fd, fa⟩ := y
  simp only [List.getElem?_toArray, List.getElem?_cons_zero, List.getElem?_cons_succ] at a0 a1 b0 b1 r1 r2
  clear hn
  by_cases he : ea = fa
  · subst he
    have hne : (ea != ea) = false := by simp
    have e : lt (eb, ed, ea) (fb, fd, ea) = decide (ed < fd) := by unfold lt; rw [if_pos rfl]
    rw [e]
    clear e
    go_enter Try.func44, Try.ntmps44
    go_wp2_with fail
    go_quiet (fail)
    all_goals
      go_wp2_with fail
      try go_quiet (fail)
      try go_wp2_with fail
      go_ret
      exact ⟨rfl, by repeat' (first | with_reducible exact Fr.refl _ _ | with_reducible refine Fr.drew ?_ | with_reducible refine Fr.drewN ?_ _)⟩
  · have hne : (ea != fa) = true := by simpa using he
    have e : lt (eb, ed, ea) (fb, fd, fa) = decide (ea < fa) := by unfold lt; rw [if_neg he]
    rw [e]
    clear e he
    go_enter Try.func44, Try.ntmps44
    go_wp2_with fail
    go_quiet (fail)
    all_goals
      go_wp2_with fail
      try go_quiet (fail)
      try go_wp2_with fail
      go_ret
      exact ⟨rfl, by repeat' (first | with_reducible exact Fr.refl _ _ | with_reducible refine Fr.drew ?_ | with_reducible refine Fr.drewN ?_ _)⟩
end
end Tm
end Go.Proofs.Ytkmlmjglipmdcaa
