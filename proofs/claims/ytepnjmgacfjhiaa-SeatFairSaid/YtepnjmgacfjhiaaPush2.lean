/- Appends of a row at a step of a region that draws its order. -/
import Derived.Test.YtepnjmgacfjhiaaPush
namespace Go.Proofs.Ytepnjmgacfjhiaa
open Go.RowKit
set_option linter.unusedVariables false
namespace Sls
/-- A block that is known whole, as a row of the call's own. -/
theorem own_blk {w : World} {g n size : Nat} {e : TypeId} {cs : Array Value} (h : Blk w g e cs) (hs : cs.size = n * size) (hm : n ≤ maxLen) : w.ownsRow 0 e size (.slice (some ⟨g, 0, none⟩) n n) n cs.toList :=
  ⟨by simpa using hs, .inr ⟨g, n, cs, rfl, Nat.zero_le _, h, Nat.le_refl _, hm, hs, by rw [← hs, ← Array.length_toList, List.take_length]⟩⟩
section
variable {P : Program} {W : World} {ops : Array Oper} {o : Oper} {a : Act} {Q : Exit → Act → World → Prop} {K : Act → World → Prop} {E : Prop}
/-- 'out = append(out, l...)', at a step of a region that draws its order. -/
theorem step_app {B : Option Addr} {m c : Nat} {news : List Value} (hgd : o.guard = none) (s x : Operand) (t : TypeId) (ho : o.op = .call { callee := .builtin .append, args := #[s, x], argTypes := #[t, t] })
    (e : TypeId) (z : Value) (size bytes : Nat) (ht : P.underlying t = some (.slice e)) (hinfo : (P.info? e).map (fun i => (i.zero, i.size, i.bytes)) = some (some z, size, bytes)) (hzs : z.cells.size = size) (hsz : 0 < size)
    (v : Value) (n : Nat) (xs : List Value) (hs : a.eval s = v) (hown : W.ownsRow 0 e size v n xs)
    (hx : a.eval x = .slice B m c) (hl : news.length = m * size) (hnews : ∀ j u, news[j]? = some u → ∃ ad, B = some ad ∧ W.cell? (ad.add j) = some u) (h1 : ∀ u ∈ news, u.oneCell' = true)
    (hn : (n + m) * bytes ≤ 140737488355328) (hn2 : n + m ≤ maxLen)
    (h : ∀ v' w', w'.ownsRow 0 e size v' (n + m) (xs ++ news) → Fr (Of v) W w' → (∀ g, Of v' g → Of v g ∨ New W w' g) → K (a.put o.dst v') w') :
    if Region.wanted o (yielded ops a.tmps) = true then Oper.wp P o a W K Q else E := by
  obtain ⟨i0, hi, hz0, hz1, hz2⟩ := info_parts hinfo
  by_cases hm : m = 0
  · have hnil : news = [] := List.eq_nil_of_length_eq_zero (by rw [hl, hm]; simp)
    subst hnil hm
    have hw : Region.wanted o (yielded ops a.tmps) = true := by simp [Region.wanted, hgd]
    rw [if_pos hw]
    have hrun : (Builtin.append_ #[t, t] o.type #[v, .slice B 0 c]).run P W = .ok v W := by
      rcases hown.2 with ⟨rfl, rfl⟩ | ⟨g, cap, cur, rfl, _, _, hnc, _⟩
      · cases B <;> simp [Builtin.append_, run_underlying ht, sizeOf, typeInfo, hi, Builtin.lenOf, Builtin.firstCells, loadCells, loadCellsFrom]
      · cases B <;> simp [Builtin.append_, run_underlying ht, sizeOf, typeInfo, hi, Builtin.lenOf, Builtin.firstCells, loadCells, loadCellsFrom, hnc, storeCells]
    unfold Oper.wp execOp
    simp only [ho, resolve, invoke, builtin, Sem.run_bind, Sem.run_pure, Result.andThen_ok, List.map_toArray, List.map_cons, List.map_nil, hs, hx, hrun]
    exact h v W (by simpa using hown) (Fr.refl _ _) fun g hg => .inl hg
  · obtain ⟨u0, hu0⟩ : ∃ u, news[0]? = some u := ⟨_, List.getElem?_eq_getElem (by rw [hl]; exact Nat.mul_pos (by omega) hsz)⟩
    obtain ⟨ad, rfl, _⟩ := hnews 0 u0 hu0
    refine step_append_lies _ hgd s x t ho 0 e i0 z size bytes ht hi hz0 hz1 hz2 hzs hsz v n xs hs hown ad m c news hx hl (fun j u hu => by obtain ⟨ad', e', h'⟩ := hnews j u hu; injection e' with e'; subst e'; exact h') h1 (by omega) hn2 hn (Nat.zero_le _) _ rfl ?_
    intro g cap w' h2 h3 h4 h5
    refine h _ w' h2 ((Fr.refl _ _).grown h3 (fun k hk => .inl hk)) fun k hk => ?_
    have hk' : some g = some k := hk
    injection hk' with hk'
    subst hk'
    exact h4.elim .inl fun h => .inr ⟨by omega, h5⟩
end
end Sls
end Go.Proofs.Ytepnjmgacfjhiaa
