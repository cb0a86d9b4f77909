/- Texts as elements of slices; rows of one's own that grow. Plain lemmas. -/
import Derived.Test.YtmmdiccpifepfaaMergedA
import Derived.Test.YtmmdiccpifepfaaRows
import Derived.WalkKit
import Derived.Outline
import Derived.BigQuiet
import Derived.Deep.QuietTactic
import Derived.Deep.RegionLaw
import Derived.Deep.DeepMust
import Derived.Lib.AppendStr
namespace Go.Proofs.Ytmmdiccpifepfaa
open Go.RowKit
set_option linter.unusedVariables false
set_option linter.unusedSimpArgs false
/-- A row of the call's own, behind block 'base': it grows; nothing ahead of 'base' turns. -/
theorem own_grown {B : Nat} {W w w' : World} {e : TypeId} {size n : Nat} {v : Value} {xs : List Value} (hB : W.heap.size = B) (h : w.ownsRow B e size v n xs) (hf : Fr No W w) (hg : w.grownBy w' v.ownBlock) : Fr No W w' :=
  hf.grown hg fun k hk => .inr (by rw [hB]; exact (h.lt k hk).1)
section
variable {P : Program} {W : World} {ops : Array Oper} {rest : List Oper} {o : Oper} {a : Act} {Q : Exit → Act → World → Prop}
/-- 'out = append(out, x)', out a slice of the call's own, behind block B. -/
theorem wp_pushB (hgd : o.guard = none) (s x : Operand) (t : TypeId) (ho : o.op = .call { callee := .builtin .append, args := #[s, x], argTypes := #[t, t] }) (B : Nat) (hB : B ≤ W.heap.size)
    (e : TypeId) (z : Value) (size bytes : Nat) (ht : P.underlying t = some (.slice e)) (hinfo : (P.info? e).map (fun i => (i.zero, i.size, i.bytes)) = some (some z, size, bytes)) (hzs : z.cells.size = size) (hsz : 0 < size)
    (v : Value) (n : Nat) (xs : List Value) (hs : a.eval s = v) (hown : W.ownsRow B e size v n xs)
    (cs : Array Value) (hx : a.eval x = .slice (some ⟨W.heap.size, 0, none⟩) 1 1) (hcs : cs.size = size) (h1 : ∀ u ∈ cs.toList, u.oneCell' = true)
    (hn : (n + 1) * bytes ≤ 140737488355328) (hn2 : n + 1 ≤ maxLen)
    (h : ∀ g cap w', w'.ownsRow B e size (.slice (some ⟨g, 0, none⟩) (n + 1) cap) (n + 1) (xs ++ cs.toList) → (W.alloc (.cells cs e)).grownBy w' v.ownBlock →
      wpList P ops Q rest (a.put o.dst (.slice (some ⟨g, 0, none⟩) (n + 1) cap)) w') : wpList P ops Q (o :: rest) a (W.alloc (.cells cs e)) := by
  obtain ⟨i0, hi, hz0, hz1, hz2⟩ := info_parts hinfo
  refine wpList_append_lies _ hgd s x t ho B e i0 z size bytes ht hi hz0 hz1 hz2 hzs hsz v n xs hs (hown.alloc _) ⟨W.heap.size, 0, none⟩ 1 1 cs.toList hx (by simpa using hcs) (cell_lit W cs e) h1 (by decide) hn2 hn (by simp; omega) _ rfl ?_
  intro g cap w' h2 h3 h4 h5
  exact h g cap w' h2 h3
end
namespace Word
theorem infoS : (Try.prog.info? 9).map (fun i => (i.zero, i.size, i.bytes)) = some (some (.string ByteArray.empty), 1, 16) := by kernel_rfl
def encS (s : Str) : Value := .string ⟨s.toArray⟩
theorem encS_one (l : List Str) : ∀ u ∈ l.map encS, u.oneCell' = true := by
  intro u hu
  obtain ⟨x, _, rfl⟩ := List.mem_map.1 hu
  rfl
theorem u8_eq (c d : UInt8) : ((c.toNat : Int) == (d.toNat : Int)) = (c == d) := by
  rw [Bool.eq_iff_iff, beq_iff_eq, beq_iff_eq]
  exact ⟨fun h => UInt8.toNat_inj.1 (by omega), fun h => by rw [h]⟩
theorem own_strs {w : World} {base : Nat} {e : TypeId} {v : Value} {l : List Str} (h : w.ownsRow base e 1 v l.length (l.map encS)) (hl : ∀ x ∈ l, x.length ≤ maxLen) : RSl 1 RStr w (Of v) [v] l := own_sl h rfl fun x hx _ => ⟨rfl, hl x hx⟩
end Word
end Go.Proofs.Ytmmdiccpifepfaa
