/- Contracts of slices.Index, slices.Delete and slices.Clone, at slices of integers and of strings. -/
import Derived.Test.YtlckohihlggjbaaRows
import Derived.Test.YtlckohihlggjbaaOwn
import Derived.WalkKit
import Derived.Outline
import Derived.WalkSpells
import Derived.BigQuiet
import Derived.Deep.QuietTactic
import Derived.Deep.RegionLaw
import Derived.Deep.AppendLies
import Derived.Lib.SliceRun
namespace Go.Proofs.Ytlckohihlggjbaa
open Go.RowKit
set_option linter.unusedVariables false
set_option linter.unusedSimpArgs false
/-- The place of x in l; -1: it is not there. -/
def place {α : Type} [BEq α] (l : List α) (x : α) : Int := match l.findIdx? (· == x) with | some i => (i : Int) | none => -1
theorem place_at {α : Type} [BEq α] {l : List α} {x : α} {k : Nat} (h : k < l.length) (hx : (l[k] == x) = true) (hn : ∀ j (h : j < l.length), j < k → (l[j] == x) = false) : place l x = (k : Int) := by
  have : l.findIdx? (· == x) = some k := by
    rw [List.findIdx?_eq_some_iff_getElem]
    exact ⟨h, by simpa using hx, fun j hj => by simpa using hn j (by omega) hj⟩
  simp [place, this]
theorem place_none {α : Type} [BEq α] {l : List α} {x : α} (hn : ∀ j (h : j < l.length), (l[j] == x) = false) : place l x = -1 := by
  have : l.findIdx? (· == x) = none := by
    rw [List.findIdx?_eq_none_iff]
    intro y hy
    obtain ⟨j, h, rfl⟩ := List.getElem_of_mem hy
    exact hn j h
  simp [place, this]
theorem place_cases {α : Type} [BEq α] (l : List α) (x : α) : (place l x = -1 ∧ ∀ j (h : j < l.length), (l[j] == x) = false) ∨ ∃ k, ∃ h : k < l.length, place l x = (k : Int) ∧ (l[k] == x) = true ∧ ∀ j (h : j < l.length), j < k → (l[j] == x) = false := by
  cases hf : l.findIdx? (· == x) with
  | none =>
    rw [List.findIdx?_eq_none_iff] at hf
    exact .inl ⟨place_none fun j h => hf _ (List.getElem_mem h), fun j h => hf _ (List.getElem_mem h)⟩
  | some k =>
    rw [List.findIdx?_eq_some_iff_getElem] at hf
    obtain ⟨h, h1, h2⟩ := hf
    have h3 : ∀ j (h : j < l.length), j < k → (l[j] == x) = false := fun j h hj => by simpa using h2 j hj
    exact .inr ⟨k, h, place_at h h1 h3, h1, h3⟩
namespace Sint
theorem infoE : (Try.prog.info? 3).map (fun i => (i.zero, i.size, i.bytes)) = some (some (.int .i64 0), 1, 8) := by kernel_rfl
theorem zeroE : ∀ w, (zeroValue 3).run Try.prog w = .ok (.int .i64 0) w := fun w => by kernel_rfl
def enc (x : Int) : Value := .int .i64 x
theorem enc_one (l : List Int) : ∀ u ∈ l.map enc, u.oneCell' = true := by
  intro u hu
  obtain ⟨x, _, rfl⟩ := List.mem_map.1 hu
  rfl
theorem sl_cells {w : World} {S : Nat → Prop} {ad : Addr} {cap n : Nat} {l : List Int} (hv : RSl 1 (RInt .i64) w S [.slice (some ad) n cap] l) : ∀ j u, (l.map enc)[j]? = some u → w.cell? (ad.add j) = some u := by
  obtain ⟨A, cap', hA, _, _, hel⟩ := hv.ints
  injection hA with hA _ _
  subst hA
  intro j u hu
  have hj : j < l.length := by
    have := (List.getElem?_eq_some_iff.1 hu).1
    simpa using this
  obtain ⟨ad', e, _, hc, _⟩ := hel j hj
  injection e with e
  subst e
  rw [hc, ← hu]
  simp [hj, enc]
end Sint
namespace Sstr
theorem infoE : (Try.prog.info? 9).map (fun i => (i.zero, i.size, i.bytes)) = some (some (.string ByteArray.empty), 1, 16) := by kernel_rfl
theorem zeroE : ∀ w, (zeroValue 9).run Try.prog w = .ok (.string ByteArray.empty) w := fun w => by kernel_rfl
def enc (x : Str) : Value := .string ⟨x.toArray⟩
theorem enc_one (l : List Str) : ∀ u ∈ l.map enc, u.oneCell' = true := by
  intro u hu
  obtain ⟨x, _, rfl⟩ := List.mem_map.1 hu
  rfl
theorem sl_cells {w : World} {S : Nat → Prop} {ad : Addr} {cap n : Nat} {l : List Str} (hv : RSl 1 RStr w S [.slice (some ad) n cap] l) : ∀ j u, (l.map enc)[j]? = some u → w.cell? (ad.add j) = some u := by
  obtain ⟨A, cap', hA, _, _, hel⟩ := hv.strs
  injection hA with hA _ _
  subst hA
  intro j u hu
  have hj : j < l.length := by
    have := (List.getElem?_eq_some_iff.1 hu).1
    simpa using this
  obtain ⟨ad', e, _, hc, _⟩ := hel j hj
  injection e with e
  subst e
  rw [hc, ← hu]
  simp [hj, enc]
theorem clone_any (v : Value) (l : List Str) (w : World) (S : Nat → Prop) (hv : RSl 1 RStr w S [v] l) (hlen : l.length * 16 ≤ 140737488355328) :
    Calls Try.prog 70 #[v] w fun e w' => ∃ v', e = .returned v' ∧ w'.ownsRow w.heap.size 9 1 v' l.length (l.map enc) ∧ Fr No w w' := by
  obtain ⟨i0, hi, hz0, hz1, hz2⟩ := info_parts infoE
  obtain ⟨A, cap, rfl, hc1, hc2, hel⟩ := hv.strs
  cases A with
  | none =>
    have hl : l = [] := by
      cases l with
      | nil => rfl
      | cons a l => obtain ⟨ad, h, _⟩ := hel 0 (by simp); cases h
    subst hl
    clear hv hel hlen
    have q := fun (W : World) (a : Option Addr) (n c n' c' : Nat) => Lib.run_eql_slice_nil (P := Try.prog) W 67 9 a n c n' c' Try.underlying67
    go_enter Try.func70, Try.ntmps70
    go_wp2
    go_ret
    exact ⟨_, rfl, World.ownsRow_nil _ _ _ _, Fr.refl _ _⟩
  | some ad =>
    have Hc := Lib.hid (sl_cells hv)
    have h1 := Lib.hid (enc_one l)
    clear hv hel
    have q := fun (W : World) (a : Option Addr) (n c n' c' : Nat) => Lib.run_eql_slice_nil (P := Try.prog) W 67 9 a n c n' c' Try.underlying67
    go_enter Try.func70, Try.ntmps70
    go_wp2_with (at_builtin; refine wpList_append_own _ rfl _ _ 67 rfl w.heap.size 9 i0 (.string ByteArray.empty) 1 16 Try.underlying67 hi hz0 hz1 hz2 rfl (by decide) _ 0 [] rfl (World.ownsRow_lit w #[] 0 (Nat.le_refl _) (Nat.zero_le _) rfl) ad l.length cap (l.map enc) rfl (by simp) (fun j u hu => (World.cell?_alloc_lt w _ _ (World.block_lt_of_cell? w _ (Hc.out j u hu))).trans (Hc.out j u hu)) h1.out (by unfold maxLen at hc2 ⊢; omega) (by omega) (by simp) ?_; intro v' w1 hown' hgrow _)
    go_ret
    rw [Nat.zero_add, List.nil_append] at hown'
    exact ⟨_, rfl, hown', ((Fr.refl _ _).alloc _).grown hgrow (fun k hk => by have hk' : some w.heap.size = some k := hk; injection hk' with hk'; subst hk'; exact .inr (Nat.le_refl _))⟩
end Sstr
end Go.Proofs.Ytlckohihlggjbaa
