/- Rows of elements that have no memory of their own: read, cut, laid. Plain lemmas over any program. -/
import Derived.Test.YtohjnbkehcdoaaaDoorOwn
namespace Go.Proofs.YtohjnbkehcdoaaaDoor
open Go.RowKit
set_option linter.unusedVariables false
set_option linter.unusedSimpArgs false
/-- Nothing but the block b. -/
def One (b : Nat) : Nat → Prop := fun k => k = b
namespace Sls
theorem sl_at {α : Type} {n m c i : Nat} {R : Rd α} {w : World} {S : Nat → Prop} {A : Option Addr} {l : List α} (h : RSl n R w S [.slice A m c] l) (hi : i < l.length) :
    ∃ ad ecs, A = some ad ∧ S ad.block ∧ ecs.length = n ∧ (∀ j, j < n → w.cell? ((ad.add (i * n)).add j) = ecs[j]?) ∧ R w S ecs l[i] := by
  obtain ⟨A', cap, h1, h2, h3, h4, h5⟩ := h
  injection h1 with h1 _
  injection h1 with h1 h6 h7
  subst h1
  obtain ⟨ad, ecs, g1, g2, g3, g4, g5⟩ := h5 i hi
  exact ⟨ad, ecs, g1, g2, g3, fun j hj => by rw [add_add]; exact g4 j hj, g5⟩
theorem flat_get {α : Type} (l : List (List α)) (k i j : Nat) (hi : i < l.length) (hk : ∀ x ∈ l, x.length = k) (hj : j < k) : (l.flatten)[i * k + j]? = (l[i])[j]? := by
  induction l generalizing i with
  | nil => simp at hi
  | cons x l ih =>
    have hx : x.length = k := hk x (by simp)
    cases i with
    | zero => rw [List.flatten_cons, Nat.zero_mul, Nat.zero_add, List.getElem?_append_left (by omega)]; rfl
    | succ i =>
      have h1 : (i + 1) * k + j - x.length = i * k + j := by rw [hx, Nat.add_mul]; omega
      rw [List.flatten_cons, List.getElem?_append_right (by rw [hx, Nat.add_mul]; omega), h1, ih i (by simpa using hi) fun y hy => hk y (List.mem_cons_of_mem _ hy)]
      rfl
theorem fm_get {α : Type} (l : List α) (enc : α → List Value) (k i j : Nat) (hi : i < l.length) (hk : ∀ x ∈ l, (enc x).length = k) (hj : j < k) : (l.flatMap enc)[i * k + j]? = (enc l[i])[j]? := by
  have h := flat_get (l.map enc) k i j (by simpa using hi) (by simpa using hk) hj
  rw [List.getElem_map] at h
  rw [← h]
  simp [List.flatMap_def]
/-- A row of the call's own reads as its elements. -/
theorem own_slE {w : World} {base : Nat} {e : TypeId} {k : Nat} {v : Value} {α : Type} {R : Rd α} {enc : α → List Value} {l : List α} {S : Nat → Prop} (h : w.ownsRow base e k v l.length (l.flatMap enc)) (hk : ∀ x ∈ l, (enc x).length = k)
    (hR : ∀ x ∈ l, R w S (enc x) x) (hS : ∀ b, Of v b → S b) : RSl k R w S [v] l := by
  rcases h.2 with ⟨rfl, h0⟩ | ⟨g, cap, cur, rfl, _, hg, h1, h2, h3, h4⟩
  · have : l = [] := List.eq_nil_of_length_eq_zero (by omega)
    subst this
    exact ⟨none, 0, rfl, Nat.le_refl _, Nat.zero_le _, fun _ => rfl, fun i hi => by simp at hi⟩
  · refine ⟨some ⟨g, 0, none⟩, cap, rfl, by omega, h2, fun h => (by cases h), fun i hi => ⟨⟨g, 0, none⟩, enc l[i], rfl, hS _ rfl, hk _ (List.getElem_mem _), fun j hj => ?_, hR _ (List.getElem_mem _)⟩⟩
    have e1 : (l.flatMap enc)[i * k + j]? = some ((enc l[i])[j]'(by rw [hk _ (List.getElem_mem _)]; exact hj)) := by
      rw [fm_get l enc k i j hi hk hj]
      exact List.getElem?_eq_getElem _
    have hh := h.cells (g := g) rfl (i * k + j) _ e1
    rw [hh, List.getElem?_eq_getElem]
/-- The cells of a row that is read, as what an append copies. -/
theorem sl_news {α : Type} {k : Nat} (hk0 : 0 < k) {R : Rd α} {enc : α → List Value} {w : World} {S : Nat → Prop} {A : Option Addr} {n c : Nat} {l : List α} (h : RSl k R w S [.slice A n c] l) (hk : ∀ x ∈ l, (enc x).length = k)
    (hR : ∀ cs x, R w S cs x → cs = enc x) : ∀ j u, (l.flatMap enc)[j]? = some u → ∃ ad, A = some ad ∧ w.cell? (ad.add j) = some u := by
  intro j u hj
  have hlen : (l.flatMap enc).length = l.length * k := by
    clear hj h
    induction l with
    | nil => simp
    | cons x l ih => rw [List.flatMap_cons, List.length_append, hk x (by simp), ih fun y hy => hk y (List.mem_cons_of_mem _ hy), List.length_cons, Nat.add_mul]; omega
  have hlt : j < l.length * k := by rw [← hlen]; exact (List.getElem?_eq_some_iff.1 hj).1
  have hi : j / k < l.length := (Nat.div_lt_iff_lt_mul hk0).2 hlt
  have hm : j % k < k := Nat.mod_lt _ hk0
  have e : j / k * k + j % k = j := by have := Nat.div_add_mod j k; rw [Nat.mul_comm] at this; exact this
  obtain ⟨ad, ecs, h1, h2, h3, h4, h5⟩ := sl_at h hi
  refine ⟨ad, h1, ?_⟩
  have := h4 (j % k) hm
  rw [add_add, e, hR _ _ h5, ← fm_get l enc k (j / k) (j % k) hi hk hm, e] at this
  rw [this, hj]
/-- A row from its k-th element on. -/
theorem sl_drop {α : Type} {n m c k : Nat} {R : Rd α} {w : World} {S : Nat → Prop} {ad : Addr} {l : List α} (h : RSl n R w S [.slice (some ad) m c] l) (hk : k ≤ l.length) : RSl n R w S [.slice (some (ad.add (k * n))) (m - k) (c - k)] (l.drop k) := by
  obtain ⟨A', cap, h1, h2, h3, h4, h5⟩ := h
  injection h1 with h1 _
  injection h1 with h1 h6 h7
  subst h1 h6 h7
  refine ⟨some (ad.add (k * n)), _, by rw [List.length_drop], by rw [List.length_drop]; omega, by omega, fun h => (by cases h), fun i hi => ?_⟩
  rw [List.length_drop] at hi
  obtain ⟨ad', ecs, g1, g2, g3, g4, g5⟩ := h5 (k + i) (by omega)
  injection g1 with g1
  subst g1
  refine ⟨ad.add (k * n), ecs, rfl, by rw [block_add]; exact g2, g3, fun j hj => ?_, by rw [List.getElem_drop]; exact g5⟩
  rw [add_add, show k * n + (i * n + j) = (k + i) * n + j by rw [Nat.add_mul]; omega]
  exact g4 j hj
theorem sl_nil {α : Type} {n m c : Nat} {R : Rd α} {w : World} {S : Nat → Prop} {A : Option Addr} {l : List α} (h : RSl n R w S [.slice A m c] l) : m = l.length ∧ l.length ≤ c ∧ c ≤ maxLen ∧ (A = none → l = []) := by
  obtain ⟨A', cap, h1, h2, h3, h4, h5⟩ := h
  injection h1 with h1 _
  injection h1 with h1 h6 h7
  subst h1 h6 h7
  exact ⟨rfl, h2, h3, fun e => List.eq_nil_of_length_eq_zero (by have := h4 e; omega)⟩
theorem own_keep {e : TypeId} {size : Nat} {w w' : World} {v : Value} {n : Nat} {xs : List Value} {base : Nat} {F : Nat → Prop} (h : w.ownsRow base e size v n xs) (hf : Fr F w w') (hn : ∀ k, Of v k → ¬ F k) : w'.ownsRow base e size v n xs := own_fr h hf hn
/-- A row that a call builds by append: its elements have no memory of their own; nothing else has turned. -/
structure Grow {α : Type} (w wr : World) (e : TypeId) (k : Nat) (enc : α → List Value) (v : Value) (l : List α) : Prop where
  own : wr.ownsRow 0 e k v l.length (l.flatMap enc)
  new : ∀ b, Of v b → New w wr b
  fr : Fr No w wr
section
variable {α : Type} {w wr w2 : World} {e : TypeId} {k : Nat} {enc : α → List Value} {v v' : Value} {l m : List α} {x : α}
theorem Grow.start (w : World) (e : TypeId) (k : Nat) (enc : α → List Value) : Grow w w e k enc (.slice none 0 0) [] := ⟨World.ownsRow_nil _ _ _ _, fun b h => (by cases h), Fr.refl _ _⟩
theorem Grow.form (h : Grow w wr e k enc v l) : ∃ A c, v = .slice A l.length c := own_form h.own
theorem Grow.no (h : Grow w wr e k enc v l) (hf : Fr No wr w2) : Grow w w2 e k enc v l := ⟨own_fr h.own hf (fun _ _ h => h), fun b hb => ⟨(h.new b hb).1, Nat.lt_of_lt_of_le (h.new b hb).2 hf.size⟩, h.fr.then_no hf⟩
theorem Grow.app (h : Grow w wr e k enc v l) (ho : w2.ownsRow 0 e k v' (l.length + m.length) (l.flatMap enc ++ m.flatMap enc)) (hf : Fr (Of v) wr w2) (hn : ∀ g, Of v' g → Of v g ∨ New wr w2 g) : Grow w w2 e k enc v' (l ++ m) := by
  refine ⟨by rw [List.length_append, List.flatMap_append]; exact ho, fun b hb => ?_, h.fr.trans hf fun b hb hl => ?_⟩
  · rcases hn b hb with h1 | h1
    · have := h.new b h1; exact ⟨this.1, Nat.lt_of_lt_of_le this.2 hf.size⟩
    · exact ⟨Nat.le_trans h.fr.size h1.1, h1.2⟩
  · have := (h.new b hb).1; omega
theorem Grow.push {g c : Nat} (h : Grow w wr e k enc v l) (ho : w2.ownsRow 0 e k (.slice (some ⟨g, 0, none⟩) (l.length + 1) c) (l.length + 1) (l.flatMap enc ++ enc x)) (hf : Fr (Of v) wr w2) (hn : Of v g ∨ New wr w2 g) : Grow w w2 e k enc (.slice (some ⟨g, 0, none⟩) (l.length + 1) c) (l ++ [x]) :=
  h.app (m := [x]) (by simpa using ho) hf fun b hb => by
    have hb' : some g = some b := hb
    injection hb' with hb'
    subst hb'
    exact hn
theorem Grow.sl {R : Rd α} (h : Grow w wr e k enc v l) (hk : ∀ x ∈ l, (enc x).length = k) (hR : ∀ x ∈ l, ∀ w S, R w S (enc x) x) : RSl k R wr (New w wr) [v] l := own_slE h.own hk (fun x hx => hR x hx _ _) h.new
end
end Sls
end Go.Proofs.YtohjnbkehcdoaaaDoor
