/- Reader: a reply more, in memory. Printed by gen_rdc.py. -/
import Derived.Test.YtmmdiccpifepfaaRdB
namespace Go.Proofs.Ytmmdiccpifepfaa
open Go.RowKit
set_option linter.unusedVariables false
set_option linter.unusedSimpArgs false
namespace Rd
open Ans Digit Sls Word
section
variable {w w0 w1 w' : World} {Fs B A A' G : Nat → Prop} {g p : Nat} {vR vV : Value} {rv : List (Int × Value)} {x y : X} {op : Str}
/-- What a call has laid since may be lines. -/
theorem RP.more (h : RP w0 Fs B g vR vV rv x p op) (hf : Fr No w0 w) : RP w Fs (fun k => B k ∨ New w0 w k) g vR vV rv x p op := by
  have h1 := h.no hf
  have old : ∀ k, New w0 w k → ¬ k < w0.heap.size := fun k hk hl => by have := hk.1; omega
  refine ⟨h1.sat, ⟨h1.rows.rown, h1.rows.lines.mono (fun k hk => .inl hk), h1.rows.vown, h1.rows.hRV, fun k hk => ?_⟩, h1.hR, h1.hV, fun k hk => ?_⟩
  · rcases hk with hk | hk
    · exact h1.rows.hB k hk
    · exact ⟨hk.2, fun hv => old k hk (of_lt h.rows.rown k hv), fun hv => old k hk (of_lt h.rows.vown k hv)⟩
  · rcases hk with hk | hk
    · exact h1.hF k hk
    · exact fun hv => old k hk (h.sat.size k hv)
/-- A reply more. -/
theorem RP.rpush {g4 n1 cap : Nat} {num : Int} {v : Value} {L : List Str} (h : RP w Fs B g vR vV rv x p op) (hL : RSl 1 RStr w B [v] L)
    (ho : w1.ownsRow 0 69 2 (.slice (some ⟨g4, 0, none⟩) n1 cap) n1 (rv.flatMap encR ++ encR (num, v))) (hn1 : n1 = rv.length + 1) (hf : Fr (Of vR) w w1) (hn : Of vR g4 ∨ New w w1 g4) :
    RP (w1.setCell ⟨g, 0, none⟩ (.slice (some ⟨g4, 0, none⟩) n1 cap)) Fs B g (.slice (some ⟨g4, 0, none⟩) n1 cap) vV (rv ++ [(num, v)]) { x with R := x.R ++ [(num, L)] } p op := by
  subst hn1
  have hof : ∀ k, Of (.slice (some ⟨g4, 0, none⟩) (rv.length + 1) cap) k → k = g4 := fun k hk => by
    have hk : some g4 = some k := hk
    injection hk with hk
    exact hk.symm
  have hs1 := h.sat.fr hf (fun k hk hv => h.hR k hv hk)
  have hg4 : ∀ k, Fs k → k ≠ g4 := fun k hk e => by
    subst e
    rcases hn with hn | hn
    · exact h.hR k hn hk
    · have := h.sat.size k hk; have := hn.1; omega
  have hv4 : ∀ k, Of vV k → k ≠ g4 := fun k hk e => by
    subst e
    rcases hn with hn | hn
    · exact h.rows.hRV k hn hk
    · have := of_lt h.rows.vown k hk; have := hn.1; omega
  have hb4 : ∀ k, B k → k ≠ g4 := fun k hk e => by
    subst e
    rcases hn with hn | hn
    · exact (h.rows.hB k hk).2.1 hn
    · have := (h.rows.hB k hk).1; have := hn.1; omega
  have hfg : Fr (fun k => k = g) w1 (w1.setCell ⟨g, 0, none⟩ (.slice (some ⟨g4, 0, none⟩) (rv.length + 1) cap)) := Fr.setCell (F := fun k => k = g) (Fr.refl _ _) (p := ⟨g, 0, none⟩) (.inl rfl) _
  obtain ⟨n1, n2, n3⟩ := h.nf
  have hl2 := (h.rows.lines.push (n := num) hL)
  have hl3 := (hl2.fr hf (fun k hk => ⟨(h.rows.hB k hk).1, (h.rows.hB k hk).2.1⟩)).fr hfg (fun k hk => ⟨Nat.lt_of_lt_of_le (h.rows.hB k hk).1 hf.size, n3 k hk⟩)
  refine ⟨hs1.set0 _, ⟨?_, hl3, own_fr (own_fr h.rows.vown hf (fun k hk hr => h.rows.hRV k hr hk)) hfg n2, fun k hr hk => hv4 k hk (hof k hr), fun k hk => ⟨by rw [size_setCell]; exact Nat.lt_of_lt_of_le (h.rows.hB k hk).1 hf.size, fun hv => hb4 k hk (hof k hv), (h.rows.hB k hk).2.2⟩⟩, fun k hv hk => hg4 k hk (hof k hv), h.hV, h.hF⟩
  have e : (rv ++ [(num, v)]).flatMap encR = rv.flatMap encR ++ encR (num, v) := by simp
  rw [e, List.length_append, List.length_singleton]
  exact own_fr ho hfg fun k hk e => (hg4 g h.sat.in_) (by rw [← hof k hk, e])
/-- All that lies in A, or is new. -/
theorem RA.of (h : RP w Fs B g vR vV rv x p op) (hf : Fr A w0 w) (hA : ∀ k, Fs k ∨ B k ∨ Of vR k ∨ Of vV k → A k ∨ New w0 w k) (hlt : ∀ k, A k → k < w0.heap.size) :
    RA w (fun k => A k ∨ New w0 w k) g x p op ∧ Step A w0 (fun k => A k ∨ New w0 w k) w :=
  ⟨⟨Fs, B, vR, vV, rv, h, hA, fun k hk => hk.elim (fun h1 => Nat.lt_of_lt_of_le (hlt k h1) hf.size) (fun h1 => h1.2)⟩, hf, fun k hk => hk⟩
end
end Rd
end Go.Proofs.Ytmmdiccpifepfaa
