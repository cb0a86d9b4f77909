/- Rights: what the laws' walks share. -/
import Derived.Test.YtompphakagoaeaaRtWorks
import Derived.Test.YtompphakagoaeaaFq
namespace Go.Proofs.Ytompphakagoaeaa
open Go.RowKit
set_option linter.unusedVariables false
set_option linter.unusedSimpArgs false
namespace Conf
open Word
def Btw (lo hi : Nat) : Nat → Prop := fun b => lo ≤ b ∧ b < hi
theorem r_cells {w : World} {S : Nat → Prop} {c0 : Array Value} {x : C} (h : RConf w S c0.toList x) : ∃ (AC AG AU AA : Option Addr) (nC kC nG kG nU kU nA kA : Nat) (s0 s1 s2 s3 s4 s5 s6 s7 s8 s9 : Str), c0 = #[.slice AC nC kC, .slice AG nG kG, .slice AU nU kU, .slice AA nA kA, .string ⟨s0.toArray⟩, .string ⟨s1.toArray⟩, .string ⟨s2.toArray⟩, .string ⟨s3.toArray⟩, .string ⟨s4.toArray⟩, .string ⟨s5.toArray⟩, .string ⟨s6.toArray⟩, .string ⟨s7.toArray⟩, .string ⟨s8.toArray⟩, .string ⟨s9.toArray⟩] := by
  obtain ⟨vC, vG, vU, vA, bs, rfl, hC, hG, hU, hA, hB⟩ := conf_open h
  obtain ⟨AC, kC, rfl, -, -⟩ := hC.slice
  obtain ⟨AG, kG, rfl, -, -⟩ := hG.slice
  obtain ⟨AU, kU, rfl, -, -⟩ := hU.slice
  obtain ⟨AA, kA, rfl, -, -⟩ := hA.slice
  obtain ⟨hB1, hb⟩ := arr_get hB
  clear hC hG hU hA hB h
  obtain ⟨b0, b1, b2, b3, b4, b5, b6, b7, b8, b9, rfl⟩ := list10 hB1
  obtain ⟨s0, d0, -⟩ := hb 0 (by omega)
  simp at d0
  subst d0
  obtain ⟨s1, d1, -⟩ := hb 1 (by omega)
  simp at d1
  subst d1
  obtain ⟨s2, d2, -⟩ := hb 2 (by omega)
  simp at d2
  subst d2
  obtain ⟨s3, d3, -⟩ := hb 3 (by omega)
  simp at d3
  subst d3
  obtain ⟨s4, d4, -⟩ := hb 4 (by omega)
  simp at d4
  subst d4
  obtain ⟨s5, d5, -⟩ := hb 5 (by omega)
  simp at d5
  subst d5
  obtain ⟨s6, d6, -⟩ := hb 6 (by omega)
  simp at d6
  subst d6
  obtain ⟨s7, d7, -⟩ := hb 7 (by omega)
  simp at d7
  subst d7
  obtain ⟨s8, d8, -⟩ := hb 8 (by omega)
  simp at d8
  subst d8
  obtain ⟨s9, d9, -⟩ := hb 9 (by omega)
  simp at d9
  subst d9
  exact ⟨AC, AG, AU, AA, _, kC, _, kG, _, kU, _, kA, s0, s1, s2, s3, s4, s5, s6, s7, s8, s9, rfl⟩
theorem own_fr2 {e : TypeId} {size : Nat} {w w' : World} {v : Value} {n : Nat} {xs : List Value} {base : Nat} (hf : Fr No w w') (h : w.ownsRow base e size v n xs) : w'.ownsRow base e size v n xs := own_fr h hf (fun b hb h => h)
theorem same_yes (v u : Value) (l : List Int) (w : World) (hv : w.ownsRow 0 3 1 v l.length (l.map encI)) (hu : w.ownsRow 0 3 1 u l.length (l.map encI)) :
    Calls Try.prog 11 #[v, u] w fun e w' => e = .returned (.bool true) ∧ Fr No w w' := (same_own v u l l w hv hu).mono (fun e w' h => ⟨by rw [h.1, decide_eq_true rfl], h.2⟩)
end Conf
end Go.Proofs.Ytompphakagoaeaa
