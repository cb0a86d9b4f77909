/- A row that grows by 'append' in a region that draws its order: the steps in terms of Grow. Own work. -/
import Derived.Test.YtompphakagoaeaaPush2
namespace Go.Proofs.Ytompphakagoaeaa
open Go.RowKit
set_option linter.unusedVariables false
namespace Sls
theorem blk_news {w : World} {g : Nat} {e : TypeId} {cs : Array Value} (h : Blk w g e cs) : ∀ j u, cs.toList[j]? = some u → ∃ ad, (some ⟨g, 0, none⟩ : Option Addr) = some ad ∧ w.cell? (ad.add j) = some u := fun j u hu => ⟨_, rfl, by
  have h1 := h.cell j
  have e1 : (⟨g, 0, none⟩ : Addr).add j = ⟨g, j, none⟩ := by cases j <;> simp [Addr.add]
  rw [e1, h1, ← Array.getElem?_toList]
  exact hu⟩
theorem of_slice {g m c b : Nat} (h : Of (.slice (some ⟨g, 0, none⟩) m c) b) : g = b := by
  have hb' : some g = some b := h
  injection hb'
theorem Grow.lits {α : Type} {w W : World} {g : Nat} {e : TypeId} {k : Nat} {enc : α → List Value} {l : List α} (h : Blk W g e (l.flatMap enc).toArray) (hg : w.heap.size ≤ g) (hf : Fr No w W) (hk : (l.flatMap enc).length = l.length * k) (hm : l.length ≤ maxLen) :
    Grow w W e k enc (.slice (some ⟨g, 0, none⟩) l.length l.length) l := by
  refine ⟨⟨hk, .inr ⟨g, l.length, (l.flatMap enc).toArray, rfl, Nat.zero_le _, h, Nat.le_refl _, hm, by simpa using hk, by rw [List.toList_toArray, ← hk, List.take_length]⟩⟩, fun b hb => ?_, hf⟩
  have hb' : some g = some b := hb
  injection hb' with hb'
  subst hb'
  exact ⟨hg, h.lt⟩
section
variable {P : Program} {W : World} {ops : Array Oper} {o : Oper} {a : Act} {Q : Exit → Act → World → Prop} {K : Act → World → Prop} {E : Prop}
/-- 'out = append(out, l...)' in terms of Grow; C is what else is kept. -/
theorem step_grow {α : Type} {enc : α → List Value} {w : World} {B : Option Addr} {m c n : Nat} {l mm : List α} (C : World → Prop) (hgd : o.guard = none) (s x : Operand) (t : TypeId) (ho : o.op = .call { callee := .builtin .append, args := #[s, x], argTypes := #[t, t] })
    (e : TypeId) (z : Value) (size bytes : Nat) (ht : P.underlying t = some (.slice e)) (hinfo : (P.info? e).map (fun i => (i.zero, i.size, i.bytes)) = some (some z, size, bytes)) (hzs : z.cells.size = size) (hsz : 0 < size)
    (v : Value) (hs : a.eval s = v) (hn : l.length = n) (hG : Grow w W e size enc v l)
    (hx : a.eval x = .slice B m c) (hm : mm.length = m) (hl : (mm.flatMap enc).length = m * size) (hnews : ∀ j u, (mm.flatMap enc)[j]? = some u → ∃ ad, B = some ad ∧ W.cell? (ad.add j) = some u) (h1 : ∀ u ∈ mm.flatMap enc, u.oneCell' = true)
    (hb1 : (n + m) * bytes ≤ 140737488355328) (hb2 : n + m ≤ maxLen) (hC : ∀ w', Fr (Of v) W w' → C w')
    (h : ∀ A c' w', Grow w w' e size enc (.slice A (n + m) c') (l ++ mm) → C w' → K (a.put o.dst (.slice A (n + m) c')) w') :
    if Region.wanted o (yielded ops a.tmps) = true then Oper.wp P o a W K Q else E := by
  subst hn hm
  refine step_app hgd s x t ho e z size bytes ht hinfo hzs hsz v l.length (l.flatMap enc) hs hG.own hx hl hnews h1 hb1 hb2 ?_
  intro v' w' p1 p2 p3
  have G := hG.app (m := mm) p1 p2 p3
  obtain ⟨A, c', e'⟩ := G.form
  rw [List.length_append] at e'
  subst e'
  exact h A c' w' G (hC w' p2)
end
end Sls
end Go.Proofs.Ytompphakagoaeaa
