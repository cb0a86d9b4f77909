/- Answer: what its functions do. -/
import Derived.Test.YtmmdiccpifepfaaAnsP
import Derived.Test.YtmmdiccpifepfaaMergedA
import Derived.BigQuiet
import Derived.Outline
import Derived.Deep.RegionHeld3
namespace Go.Proofs.Ytmmdiccpifepfaa
open Go.RowKit
set_option linter.unusedVariables false
set_option linter.unusedSimpArgs false
namespace Ans
open Digit Sls
theorem ba_app (a b : Str) : (⟨a.toArray⟩ : ByteArray) ++ ⟨b.toArray⟩ = ⟨(a ++ b).toArray⟩ := by
  apply ByteArray.ext
  show (ByteArray.append _ _).data = _
  simp
def encL (s : Str) : List Value := [.string ⟨s.toArray⟩]
theorem infoStr : (Try.prog.info? 9).map (fun i => (i.zero, i.size, i.bytes)) = some (some (.string ByteArray.empty), 1, 16) := by kernel_rfl
theorem encL_one (l : List Str) : ∀ u ∈ l.flatMap encL, u.oneCell' = true := by
  intro u hu
  obtain ⟨x, -, h⟩ := List.mem_flatMap.1 hu
  rw [List.mem_singleton.1 h]; rfl
theorem encL_len (l : List Str) : (l.flatMap encL).length = l.length * 1 := by
  induction l with
  | nil => rfl
  | cons x l ih => rw [List.flatMap_cons, List.length_append, ih, List.length_cons]; simp [encL]; omega
theorem encL_rd {s : Str} (h : s.length ≤ maxLen) (w : World) (S : Nat → Prop) : RStr w S (encL s) s := ⟨rfl, h⟩
abbrev GrL (w wr : World) (v : Value) (l : List Str) : Prop := Grow w wr 9 1 encL v l
theorem grl_sl {w wr : World} {v : Value} {l : List Str} (h : GrL w wr v l) (hl : ∀ x ∈ l, x.length ≤ maxLen) : RSl 1 RStr wr (New w wr) [v] l := h.sl (fun _ _ => rfl) (fun x hx => encL_rd (hl x hx))
theorem strs_len {w : World} {S : Nat → Prop} {v : Value} {l : List Str} (h : RSl 1 RStr w S [v] l) : ∀ x ∈ l, x.length ≤ maxLen := by
  intro x hx
  obtain ⟨j, hj, rfl⟩ := List.getElem_of_mem hx
  obtain ⟨_, _, _, _, _, _, h5⟩ := h
  obtain ⟨_, _, _, _, _, _, h6⟩ := h5 j hj
  exact h6.2
def ClonePost (w : World) (l : List Str) (e : Ending) (w' : World) : Prop := ∃ v, e = .returned v ∧ RSl 1 RStr w' (New w w') [v] l ∧ Fr No w w'
/-- The code of the n-th byte of a row. -/
theorem row_ba (n : Int) (c : UInt8) (s acc : Str) : (⟨acc.toArray⟩ : ByteArray) ++ ⟨(putR n).toArray⟩ ++ ⟨[c].toArray⟩ ++ ⟨(showR s).toArray⟩ ++ ⟨#[13, 10]⟩ = ⟨(acc ++ row n c s).toArray⟩ := by
  rw [show (⟨#[13, 10]⟩ : ByteArray) = ⟨([13, 10] : Str).toArray⟩ from rfl]
  simp only [ba_app]
  unfold row
  simp only [List.append_assoc]
theorem putB_drop (n : Int) (L : List Str) (k : Nat) (h : k < L.length) : putB n (L.drop k) = row n (if k + 1 = L.length then 32 else 45) L[k] ++ putB n (L.drop (k + 1)) := by
  rw [List.drop_eq_getElem_cons h]
  have : (L.drop (k + 1) = []) ↔ k + 1 = L.length := by rw [List.drop_eq_nil_iff]; omega
  show row n (if L.drop (k + 1) = [] then 32 else 45) _ ++ _ = _
  simp only [this]
/-- A reply whose lines are not long. -/
def Okr (L : List Str) : Prop := L.length ≤ 60 ∧ ∀ s ∈ L, s.length ≤ 100
theorem row_len {n : Int} (h : 100 ≤ n ∧ n ≤ 999) (c : UInt8) {s : Str} (hs : s.length ≤ 100) : (row n c s).length ≤ 406 := by
  have := (put_dig h).1
  have := show_len s
  unfold row
  simp only [List.length_append, List.length_cons, List.length_nil]
  omega
theorem putB_len {n : Int} (h : 100 ≤ n ∧ n ≤ 999) : ∀ (L : List Str), (∀ s ∈ L, s.length ≤ 100) → (putB n L).length ≤ 406 * L.length
  | [], _ => by simp [putB]
  | s :: t, hl => by
    have h1 := row_len h (if t = [] then 32 else 45) (hl s (by simp))
    have h2 := putB_len h t fun x hx => hl x (List.mem_cons_of_mem _ hx)
    show (row n (if t = [] then 32 else 45) s ++ putB n t).length ≤ _
    rw [List.length_append, List.length_cons]
    omega
theorem str_keep {w w' : World} {S : Nat → Prop} {v : Value} {L : List Str} (h : RSl 1 RStr w S [v] L) (hf : Fr No w w') (hS : ∀ k, S k → k < w.heap.size) : RSl 1 RStr w' S [v] L := strs_go h (Kept.of_no hf hS) (fun k hk => hk)
theorem str_at {w : World} {S : Nat → Prop} {A : Option Addr} {n c k : Nat} {L : List Str} (h : RSl 1 RStr w S [.slice A n c] L) (hk : k < L.length) : ∃ ad, A = some ad ∧ w.cell? (ad.add k) = some (.string ⟨L[k].toArray⟩) ∧ ad.block = ad.block ∧ S ad.block := by
  obtain ⟨A', cap', e', -, -, hel⟩ := h.strs
  injection e' with e1 e2 e3
  subst e1
  obtain ⟨bd, h1, h2, cz, -⟩ := hel k hk
  exact ⟨bd, h1, cz, rfl, h2⟩
def PutPost (w : World) (r : Str × Int) (e : Ending) (w' : World) : Prop := e = .returned (.tuple #[.string ⟨r.1.toArray⟩, .int .i64 r.2]) ∧ Fr No w w'
end Ans
end Go.Proofs.Ytmmdiccpifepfaa
