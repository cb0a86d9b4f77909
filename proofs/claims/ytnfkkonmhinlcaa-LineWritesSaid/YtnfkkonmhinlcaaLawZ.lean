/- Openers of arguments that also say that no text among them is longer than the form's reach. Plain lemmas over any program. -/
import Derived.Test.YtnfkkonmhinlcaaLaw
import Derived.SizedLaws
namespace Go.Proofs.Ytnfkkonmhinlcaa
open Go.ChangeShapes Go.WideShapes Go.ChangeAt Go.RowKit
set_option linter.unusedVariables false
/-- A text, of at most so many bytes. -/
def RStrZ : Rd Str := fun _ _ cs s => cs = [.string ⟨s.toArray⟩] ∧ s.length ≤ 140737488351232
theorem RStrZ.str {w : World} {S : Nat → Prop} {cs : List Value} {s : Str} (h : RStrZ w S cs s) : RStr w S cs s := ⟨h.1, by have := h.2; unfold maxLen; omega⟩
theorem RStrZ.stable : Rd.Stable RStrZ := ⟨fun h _ _ => h⟩
/-- Whatever can be read as data at type t, no part of it beyond the reach, reads as R says. -/
def OpnZ (P : Program) (t : TypeId) {α : Type} (R : Rd α) : Prop :=
  ∀ {H : Type} {enc : TypeId × Value → H} {W : World} {S : Nat → Prop} {fuel : Nat} {cs : List Value} {d : DataW H} {ps : List MemPlace},
    DataW.trod enc P W 0 (fun _ => true) true fuel t cs = some (d, ps) → (∀ p ∈ ps, S p.block) → (∀ n ∈ d.weights P t, n ≤ reachBytes) → ∃ a, R W S cs a
def OpnFZ (P : Program) (off tot : Nat) (fs : List Field) {α : Type} (R : Rd α) : Prop :=
  ∀ {H : Type} {enc : TypeId × Value → H} {W : World} {S : Nat → Prop} {n : Nat} {cs : List Value} (xs : List (DataW H × List MemPlace)),
    (∀ (i : Nat) (f : Field), fs[i]? = some f → DataW.trod enc P W 0 (fun _ => true) true n f.type ((cs.drop f.offset).take (P.cellsOf f.type)) = xs[i]?) → cs.length = tot → xs.length = fs.length →
    (∀ x ∈ xs, ∀ p ∈ x.2, S p.block) → (∀ n ∈ DataW.weightsEach P (fs.map (·.type)) (xs.map (·.1)), n ≤ reachBytes) → ∃ a, R W S (cs.drop off) a
section
variable {P : Program} {t e : TypeId} {α β : Type}
theorem OpnZ.of {R : Rd α} (h : Opn P t R) : OpnZ P t R := fun h1 h2 _ => h h1 h2
theorem reach_is : reachBytes = 140737488351232 := by decide
theorem opnZ_str (ht : P.underlying t = some .string) : OpnZ P t RStrZ := by
  intro H enc W S fuel cs d ps h _ hz
  obtain ⟨⟨⟨l⟩⟩, h1, hx, h2⟩ := DataW.trod_string ht h
  injection hx with hx _
  refine ⟨l, h1, ?_⟩
  have := hz l.length (by rw [hx]; simp [DataW.weights])
  rw [reach_is] at this
  exact this
theorem weights_all {H : Type} {xs : List (DataW H)} {i : Nat} (hi : i < xs.length) {n : Nat} (hn : n ∈ xs[i].weights P e) : n ∈ DataW.weightsAll P e xs := by
  induction xs generalizing i with
  | nil => simp at hi
  | cons x xs ih =>
    simp only [DataW.weightsAll, List.mem_append]
    cases i with
    | zero => exact .inl hn
    | succ i => exact .inr (ih (by simpa using hi) hn)
theorem opnZ_sl {R : Rd α} {n : Nat} (hn : 0 < n) (ht : P.underlying t = some (.slice e)) (hc : P.cellsOf e = n) (hR : OpnZ P e R) : OpnZ P t (RSl n R) := by
  intro H enc W S fuel cs d ps h hS hz
  rcases DataW.trod_slice ht h with ⟨rfl, _⟩ | ⟨a, len, cap, elems, rest, m, _, rfl, hx, hb, hl, hm, hlen, hel, _, _⟩
  · exact ⟨[], none, 0, rfl, Nat.le_refl _, Nat.zero_le _, fun _ => rfl, fun i hi => by simp at hi⟩
  · simp only [Prod.mk.injEq] at hx
    have hblk : 0 < len → S a.block := fun h0 => hS (.cell a.block a.off) (by
      rw [hx.2, List.mem_append]; left
      apply mem_row; rw [hlen, hc]; exact Nat.mul_pos (by omega) hn)
    have each : ∀ i, i < len → ∃ x : α, ∃ ecs : List Value, ecs.length = n ∧ (∀ j, j < n → W.cell? (a.add (i * n + j)) = ecs[j]?) ∧ R W S ecs x := by
      intro i hi
      have h1 := hel i hi
      rw [List.getElem?_eq_getElem (by omega)] at h1
      obtain ⟨ecs, h2, h3⟩ := Option.bind_eq_some_iff.1 h1
      obtain ⟨_, h4, h5⟩ := World.cells?_some h2
      rw [hc] at h4 h5
      obtain ⟨x, hx'⟩ := hR (d := (elems[i]'(by omega)).1) (ps := (elems[i]'(by omega)).2) (S := S) h3 (fun p hp => hS p (by
        rw [hx.2, List.mem_append]; right
        exact List.mem_flatMap.2 ⟨elems[i]'(by omega), List.mem_append_left _ (List.getElem_mem _), hp⟩)) (fun k hk => hz k (by
        rw [hx.1]
        simp only [DataW.weights, ht, List.mem_cons, List.mem_append]
        refine .inr (.inl (weights_all (i := i) (by simp; omega) ?_))
        simpa using hk))
      refine ⟨x, ecs, h4, fun j hj => ?_, hx'⟩
      rw [← add_add]
      exact h5 j hj
    obtain ⟨l, hll, hp⟩ := list_of_pos len each
    subst hll
    refine ⟨l, some a, cap, rfl, hl, hm, fun h => (by cases h), fun i hi => ?_⟩
    obtain ⟨ecs, g1, g2, g3⟩ := hp i hi
    exact ⟨a, ecs, rfl, hblk (by omega), g1, g2, g3⟩
theorem opnFZ_last {off tot n : Nat} {f : Field} {R : Rd α} (ho : f.offset = off) (hc : P.cellsOf f.type = n) (hn : tot = off + n) (hR : OpnZ P f.type R) : OpnFZ P off tot [f] R := by
  intro H enc W S m cs xs hx hl hlx hS hz
  have h1 := hx 0 f rfl
  simp at hlx
  match xs, hlx with
  | [x], _ =>
    simp only [List.getElem?_cons_zero] at h1
    rw [ho, hc, List.take_of_length_le (by simp; omega)] at h1
    exact hR (d := x.1) (ps := x.2) h1 (hS _ (by simp)) (fun k hk => hz k (by simpa [DataW.weightsEach] using hk))
theorem opnFZ_cons {off tot n : Nat} {f : Field} {fs : List Field} {R : Rd α} {R' : Rd β} (ho : f.offset = off) (hc : P.cellsOf f.type = n) (hle : off + n ≤ tot) (hR : OpnZ P f.type R) (hF : OpnFZ P (off + n) tot fs R') : OpnFZ P off tot (f :: fs) (RTwo n R R') := by
  intro H enc W S m cs xs hx hl hlx hS hz
  have h1 := hx 0 f rfl
  simp at hlx
  rw [List.getElem?_eq_getElem (by omega), ho, hc] at h1
  match xs, hlx with
  | x :: xr, hlx =>
    simp only [List.map_cons, DataW.weightsEach, List.mem_append] at hz
    obtain ⟨a, ha⟩ := hR (d := x.1) (ps := x.2) h1 (hS _ (by simp)) (fun k hk => hz k (.inl hk))
    obtain ⟨b, hb⟩ := hF (xs := xr) (n := m) (cs := cs) (fun i g hg => by rw [hx (i + 1) g (by simpa using hg)]; simp) hl (by simpa using hlx) (fun z hzm => hS z (List.mem_cons_of_mem _ hzm)) (fun k hk => hz k (.inr hk))
    refine ⟨(a, b), by simp; omega, ha, ?_⟩
    rw [List.drop_drop]
    exact hb
theorem opnZ_struct {fs : Array Field} {tot : Nat} {R : Rd α} (ht : P.underlying t = some (.struct fs)) (hc : P.cellsOf t = tot) (hF : OpnFZ P 0 tot fs.toList R) : OpnZ P t R := by
  intro H enc W S fuel cs d ps h hS hz
  obtain ⟨xs, n, _, hx, hl, hlen, hf⟩ := DataW.trod_struct ht h
  simp only [Prod.mk.injEq] at hx
  obtain ⟨a, ha⟩ := hF (cs := cs) xs (fun i f hi => hf i f (by simpa using hi)) (by omega) (by simpa using hlen) (fun x hxm p hp => hS p (by rw [hx.2]; exact List.mem_flatMap.2 ⟨x, hxm, hp⟩)) (fun k hk => hz k (by
    rw [hx.1]
    simp only [DataW.weights, ht]
    exact hk))
  exact ⟨a, by simpa using ha⟩
theorem arg_oneZ {W : World} {r : Reach} {b : Nat} {H : Type} {enc : TypeId × Value → H} {v : Value} {d : DataW H} {p : List MemPlace} {R : Rd α} (h1 : OneV P t) (hR : OpnZ P t R)
    (hok : Value.okWide P W r b t v) (h : DataW.Trod enc P W 0 (fun _ => true) true t v d p) (hp : ∀ x ∈ p, x.block < W.heap.size) (hz : ∀ n ∈ d.weights P t, n ≤ reachBytes) : ∃ a, R W (Ahead W.heap.size) [v] a := by
  obtain ⟨fuel, hf⟩ := h
  rw [h1 hok] at hf
  exact hR (S := Ahead W.heap.size) hf hp hz
end
end Go.Proofs.Ytnfkkonmhinlcaa
