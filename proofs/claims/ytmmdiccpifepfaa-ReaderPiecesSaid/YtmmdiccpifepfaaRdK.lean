/- Reader: the reference's reader as a value: its rows in memory. Printed by gen_rdk.py. -/
import Derived.Test.YtmmdiccpifepfaaRdH
import Derived.Test.YtmmdiccpifepfaaTail
import Derived.Test.YtmmdiccpifepfaaMergedA
namespace Go.Proofs.Ytmmdiccpifepfaa
open Go.RowKit
set_option linter.unusedVariables false
set_option linter.unusedSimpArgs false
namespace Rd
open Ans Digit Sls Word
abbrev TV : TypeId := 50
theorem infoW : (Try.prog.info? 50).map (fun i => (i.zero, i.size, i.bytes)) = some (some (.agg #[.string ByteArray.empty, .string ByteArray.empty, .bool false]), 3, 40) := by kernel_rfl
/-- The cells of the reference's reader. -/
def cellsX (vR vV : Value) (x : X) : Array Value := #[vR, vV, .int .i64 x.role, .bool x.bad]
/-- The reference's reader: all that it has lies in A. -/
def RB (w : World) (A : Nat → Prop) (x : X) (c : Array Value) : Prop :=
  ∃ B vR vV rv, c = cellsX vR vV x ∧ Rows TV w B vR vV rv x ∧ (∀ k, B k ∨ Of vR k ∨ Of vV k → A k) ∧ ∀ k, A k → k < w.heap.size
def ToldP (w : World) (A : Nat → Prop) (y : X) (e : Ending) (w' : World) : Prop := ∃ c A', e = .returned (.agg c) ∧ RB w' A' y c ∧ Step A w A' w'
theorem RB.no {w w' : World} {A : Nat → Prop} {x : X} {c : Array Value} (h : RB w A x c) (hf : Fr No w w') : RB w' A x c := by
  obtain ⟨B, vR, vV, rv, rfl, h1, h2, h3⟩ := h
  exact ⟨B, vR, vV, rv, rfl, h1.no hf, h2, fun k hk => Nat.lt_of_lt_of_le (h3 k hk) hf.size⟩
theorem RB.fr {w w' : World} {A G : Nat → Prop} {x : X} {c : Array Value} (h : RB w A x c) (hf : Fr G w w') (hn : ∀ k, A k → ¬ G k) : RB w' A x c := by
  obtain ⟨B, vR, vV, rv, rfl, h1, h2, h3⟩ := h
  exact ⟨B, vR, vV, rv, rfl, h1.fr hf (fun k hk => hn k (h2 k (.inr (.inl hk)))) (fun k hk => hn k (h2 k (.inr (.inr hk)))) (fun k hk => hn k (h2 k (.inl hk))), h2, fun k hk => Nat.lt_of_lt_of_le (h3 k hk) hf.size⟩
theorem own_pos {w : World} {base : Nat} {e : TypeId} {size n : Nat} {v : Value} {xs : List Value} (h : w.ownsRow base e size v n xs) (hn : 0 < n) : ∃ g c, v = .slice (some ⟨g, 0, none⟩) n c := by
  rcases h.2 with ⟨_, h2⟩ | ⟨g, cap, cur, h1, _⟩
  · omega
  · exact ⟨g, cap, h1⟩
theorem own_empty_at (w : World) (e : TypeId) (size b : Nat) (hb : w.heap.size = b) : (w.alloc (.cells #[] e)).ownsRow 0 e size (.slice (some ⟨b, 0, none⟩) 0 0) 0 [] := by subst hb; exact own_empty w e size
section
variable {T : TypeId} {w w0 w1 : World} {B G : Nat → Prop} {vR vV v' : Value} {rv : List (Int × Value)} {x : X}
theorem Rows.more (h : Rows T w0 B vR vV rv x) (hf : Fr No w0 w) (hnew : ∀ k, G k → New w0 w k) : Rows T w (fun k => B k ∨ G k) vR vV rv x := by
  have h1 := h.no hf
  refine ⟨h1.rown, h1.lines.mono (fun k hk => .inl hk), h1.vown, h1.hRV, fun k hk => ?_⟩
  rcases hk with hk | hk
  · exact h1.hB k hk
  · have hk := hnew k hk
    exact ⟨hk.2, fun hv => by have := of_lt h.rown k hv; have := hk.1; omega, fun hv => by have := of_lt h.vown k hv; have := hk.1; omega⟩
/-- The views are other ones, in a row that was laid since. -/
theorem Rows.setV {n : Nat} {V : List Vw} (h : Rows T w B vR vV rv x) (hf : Fr No w w1) (ho : w1.ownsRow 0 T 3 v' n (V.flatMap encV)) (hn : n = V.length) (hv : ∀ k, Of v' k → New w w1 k) : Rows T w1 B vR v' rv { x with V := V } := by
  subst hn
  have h1 := h.no hf
  refine ⟨h1.rown, h1.lines, ho, fun k hk hk' => ?_, fun k hk => ⟨(h1.hB k hk).1, (h1.hB k hk).2.1, fun hk' => ?_⟩⟩
  · have := of_lt h.rown k hk; have := (hv k hk').1; omega
  · have := (h.hB k hk).1; have := (hv k hk').1; omega
/-- A view more. -/
theorem Rows.vpush {g4 n1 cap : Nat} {y : Vw} (h : Rows T w B vR vV rv x) (ho : w1.ownsRow 0 T 3 (.slice (some ⟨g4, 0, none⟩) n1 cap) n1 (x.V.flatMap encV ++ encV y)) (hn1 : n1 = x.V.length + 1) (hf : Fr (Of vV) w w1) (hn : Of vV g4 ∨ New w w1 g4) :
    Rows T w1 B vR (.slice (some ⟨g4, 0, none⟩) n1 cap) rv { x with V := x.V ++ [y] } := by
  subst hn1
  have hof : ∀ k, Of (.slice (some ⟨g4, 0, none⟩) (x.V.length + 1) cap) k → k = g4 := fun k hk => by
    have hk : some g4 = some k := hk
    injection hk with hk
    exact hk.symm
  have old : ∀ k, k < w.heap.size → ¬ Of vV k → k ≠ g4 := fun k hk hn' e => by
    subst e
    rcases hn with hn | hn
    · exact hn' hn
    · have := hn.1; omega
  refine ⟨own_fr h.rown hf (fun k hk => h.hRV k hk), h.lines.fr hf (fun k hk => ⟨(h.hB k hk).1, (h.hB k hk).2.2⟩), ?_, fun k hk hk' => old k (of_lt h.rown k hk) (h.hRV k hk) (hof k hk'), fun k hk => ⟨Nat.lt_of_lt_of_le (h.hB k hk).1 hf.size, (h.hB k hk).2.1, fun hk' => old k (h.hB k hk).1 (h.hB k hk).2.2 (hof k hk')⟩⟩
  have e : (x.V ++ [y]).flatMap encV = x.V.flatMap encV ++ encV y := by simp
  show World.ownsRow _ _ _ _ _ (x.V ++ [y]).length ((x.V ++ [y]).flatMap encV)
  rw [e, List.length_append, List.length_singleton]
  exact ho
/-- A reply more. -/
theorem Rows.rpush {g4 n1 cap : Nat} {num : Int} {v : Value} {L : List Str} (h : Rows T w B vR vV rv x) (hL : RSl 1 RStr w B [v] L)
    (ho : w1.ownsRow 0 69 2 (.slice (some ⟨g4, 0, none⟩) n1 cap) n1 (rv.flatMap encR ++ encR (num, v))) (hn1 : n1 = rv.length + 1) (hf : Fr (Of vR) w w1) (hn : Of vR g4 ∨ New w w1 g4) :
    Rows T w1 B (.slice (some ⟨g4, 0, none⟩) n1 cap) vV (rv ++ [(num, v)]) { x with R := x.R ++ [(num, L)] } := by
  subst hn1
  have hof : ∀ k, Of (.slice (some ⟨g4, 0, none⟩) (rv.length + 1) cap) k → k = g4 := fun k hk => by
    have hk : some g4 = some k := hk
    injection hk with hk
    exact hk.symm
  have old : ∀ k, k < w.heap.size → ¬ Of vR k → k ≠ g4 := fun k hk hn' e => by
    subst e
    rcases hn with hn | hn
    · exact hn' hn
    · have := hn.1; omega
  refine ⟨?_, (h.lines.push (n := num) hL).fr hf (fun k hk => ⟨(h.hB k hk).1, (h.hB k hk).2.1⟩), own_fr h.vown hf (fun k hk hr => h.hRV k hr hk), fun k hr hk => old k (of_lt h.vown k hk) (fun hr' => h.hRV k hr' hk) (hof k hr), fun k hk => ⟨Nat.lt_of_lt_of_le (h.hB k hk).1 hf.size, fun hv => old k (h.hB k hk).1 (h.hB k hk).2.1 (hof k hv), (h.hB k hk).2.2⟩⟩
  have e : (rv ++ [(num, v)]).flatMap encR = rv.flatMap encR ++ encR (num, v) := by simp
  rw [e, List.length_append, List.length_singleton]
  exact ho
/-- The last view's cells, where it is open. -/
theorem Rows.open_ (h : Rows T w B vR vV rv x) {n t : Str} (ho : opn x.V = some (n, t)) :
    ∃ U gV m c, x.V = U ++ [(n, t, true)] ∧ m = U.length ∧ vV = .slice (some ⟨gV, 0, none⟩) (m + 1) c ∧ m + 1 ≤ c := by
  obtain ⟨U, hU⟩ := opn_some ho
  have hv := h.vown
  have hl : x.V.length = U.length + 1 := by rw [hU]; simp
  rcases hv.2 with ⟨h1, h2⟩ | ⟨g, cap, cur, h1, h2, h3, h4, _⟩
  · omega
  · exact ⟨U, g, U.length, cap, hU, rfl, by rw [h1, hl], by omega⟩
theorem Rows.at_ {gV m c : Nat} {U : List Vw} {n t : Str} {b : Bool} (h : Rows T w B vR (.slice (some ⟨gV, 0, none⟩) (m + 1) c) rv x) (hx : x.V = U ++ [(n, t, b)]) (hm : m = U.length) :
    w.cell? ⟨gV, m * 3, none⟩ = some (.string ⟨n.toArray⟩) ∧ w.cell? ⟨gV, m * 3 + 1, none⟩ = some (.string ⟨t.toArray⟩) ∧ w.cell? ⟨gV, m * 3 + 2, none⟩ = some (.bool b) := by
  have hv := h.vown
  rw [hx] at hv
  have hl : (U ++ [(n, t, b)]).length = m + 1 := by simp [hm]
  have := view_at (by rw [hl] at hv ⊢; exact hv) (k := m) (by omega)
  simpa only [hm, List.getElem_concat_length] using this
/-- The cells of all views but the last. -/
theorem Rows.cut {gV m c : Nat} {U : List Vw} {u : Vw} (h : Rows T w B vR (.slice (some ⟨gV, 0, none⟩) (m + 1) c) rv x) (hx : x.V = U ++ [u]) : ∀ j y, (U.flatMap encV)[j]? = some y → ∃ ad, some (⟨gV, 0, none⟩ : Addr) = some ad ∧ w.cell? (ad.add j) = some y := by
  intro j y hj
  have hv := h.vown
  refine ⟨_, rfl, hv.cells (g := gV) rfl j y ?_⟩
  rw [hx, List.flatMap_append, List.getElem?_append_left (List.getElem?_eq_some_iff.1 hj).1]
  exact hj
end
/-- A row that was laid from W on, where nothing that lay there has turned. -/
structure Laid (T : TypeId) (W w7 : World) (g7 n7 c7 : Nat) (xs : List Value) : Prop where
  own : w7.ownsRow 0 T 3 (.slice (some ⟨g7, 0, none⟩) n7 c7) n7 xs
  fr : Fr No W w7
  new : New W w7 g7
/-- The end of told: the result is laid. -/
theorem told_end {w W Wf : World} {A B : Nat → Prop} {vR vV : Value} {rv : List (Int × Value)} {y : X} {bx br : Nat} (hS : Fr A w W) (hr : Rows TV W B vR vV rv y) (hA : ∀ k, B k ∨ Of vR k ∨ Of vV k → A k ∨ New w W k) (hlt : ∀ k, A k → k < w.heap.size)
    (hf : Fr (fun k => k = bx ∨ k = br) W Wf) (hb : ∀ k, k = bx ∨ k = br → w.heap.size ≤ k ∧ ¬ B k ∧ ¬ Of vR k ∧ ¬ Of vV k) : ToldP w A y (.returned (.agg #[vR, vV, .int .i64 y.role, .bool y.bad])) Wf := by
  refine ⟨cellsX vR vV y, fun k => A k ∨ New w Wf k, rfl, ⟨B, vR, vV, rv, rfl, hr.fr hf (fun k hk hg => (hb k hg).2.2.1 hk) (fun k hk hg => (hb k hg).2.2.2 hk) (fun k hk hg => (hb k hg).2.1 hk), fun k hk => ?_, fun k hk => ?_⟩, hS.trans hf (fun k hk hl => absurd (hb k hk).1 (by omega)), fun k hk => hk⟩
  · exact (hA k hk).imp id fun h => ⟨h.1, Nat.lt_of_lt_of_le h.2 hf.size⟩
  · exact hk.elim (fun h => Nat.lt_of_lt_of_le (hlt k h) (Nat.le_trans hS.size hf.size)) (fun h => h.2)
end Rd
end Go.Proofs.Ytmmdiccpifepfaa
