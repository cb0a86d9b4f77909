/- Appends of several elements at once, at a step of a region that draws its order. -/
import Derived.Test.YtohjnbkehcdoaaaDoorBytes
import Derived.Test.YtohjnbkehcdoaaaDoorSls
namespace Go.Proofs.YtohjnbkehcdoaaaDoor
open Go.RowKit
set_option linter.unusedVariables false
namespace Sls
/-- 's[i:]' of a text. -/
theorem slice_from {P : Program} (w : World) (T : TypeId) (hT : P.underlying T = some .string) (s : Str) (i : Int) (a : Nat) (hi : i = a) (h : a ≤ s.length) :
    (Instr.slice T (.string ⟨s.toArray⟩) (some (.int .i64 i)) none none).run P w = .ok (.string ⟨(s.drop a).toArray⟩) w := by
  rw [run_slice_string_from_if w T ⟨s.toArray⟩ .i64 i hT, if_pos ⟨by omega, by rw [hi]; show (a : Int) ≤ ((s.toArray.size : Nat) : Int); simp; omega⟩]
  have e : (⟨s.toArray⟩ : ByteArray).size = s.length := by simp [ByteArray.size]
  rw [e, ByteArray.extract_mk, show i.toNat = a by omega]
  simp
  rw [List.take_of_length_le (by simp)]
/-- 's[:j]' of a text. -/
theorem slice_to {P : Program} (w : World) (T : TypeId) (hT : P.underlying T = some .string) (s : Str) (i : Int) (a : Nat) (hi : i = a) (h : a ≤ s.length) :
    (Instr.slice T (.string ⟨s.toArray⟩) none (some (.int .i64 i)) none).run P w = .ok (.string ⟨(s.take a).toArray⟩) w := by
  rw [run_slice_string_to_if w T ⟨s.toArray⟩ .i64 i hT, if_pos ⟨by omega, by rw [hi]; show (a : Int) ≤ ((s.toArray.size : Nat) : Int); simp; omega⟩]
  rw [ByteArray.extract_mk, show i.toNat = a by omega]
  simp
section
variable {P : Program} {W : World} {ops : Array Oper} {o : Oper} {a : Act} {Q : Exit → Act → World → Prop} {K : Act → World → Prop} {E : Prop}
/-- 'out = append(out, x, y, ..)', at a step of a region that draws its order. -/
theorem step_pushes (m : Nat) (hm : 0 < m) (hgd : o.guard = none) (s x : Operand) (t : TypeId) (ho : o.op = .call { callee := .builtin .append, args := #[s, x], argTypes := #[t, t] })
    (e : TypeId) (z : Value) (size bytes : Nat) (ht : P.underlying t = some (.slice e)) (hinfo : (P.info? e).map (fun i => (i.zero, i.size, i.bytes)) = some (some z, size, bytes)) (hzs : z.cells.size = size) (hsz : 0 < size)
    (v : Value) (n : Nat) (xs : List Value) (hs : a.eval s = v) (hown : W.ownsRow 0 e size v n xs)
    (cs : Array Value) (hx : a.eval x = .slice (some ⟨W.heap.size, 0, none⟩) m m) (hcs : cs.size = m * size) (h1 : ∀ u ∈ cs.toList, u.oneCell' = true)
    (hn : (n + m) * bytes ≤ 140737488355328) (hn2 : n + m ≤ maxLen)
    (h : ∀ g cap w', w'.ownsRow 0 e size (.slice (some ⟨g, 0, none⟩) (n + m) cap) (n + m) (xs ++ cs.toList) → Fr (Of v) W w' → (Of v g ∨ New W w' g) →
      K (a.put o.dst (.slice (some ⟨g, 0, none⟩) (n + m) cap)) w') :
    if Region.wanted o (yielded ops a.tmps) = true then Oper.wp P o a (W.alloc (.cells cs e)) K Q else E := by
  obtain ⟨i0, hi, hz0, hz1, hz2⟩ := info_parts hinfo
  refine step_append_lies _ hgd s x t ho 0 e i0 z size bytes ht hi hz0 hz1 hz2 hzs hsz v n xs hs (hown.alloc _) ⟨W.heap.size, 0, none⟩ m m cs.toList hx (by simpa using hcs) (cell_lit W cs e) h1 hm hn2 hn (Nat.zero_le _) _ rfl ?_
  intro g cap w' h2 h3 h4 h5
  refine h g cap w' h2 (((Fr.refl _ _).alloc _).grown h3 (fun k hk => .inl hk)) (h4.elim .inl fun h => .inr ⟨?_, h5⟩)
  rw [h]; simp
/-- 'out = append(out, x, y, ..)', at a step of a region that draws its order. -/
theorem step_pushesD (m : Nat) (hm : 0 < m) (hgd : o.guard = none) (s x : Operand) (t : TypeId) (ho : o.op = .call { callee := .builtin .append, args := #[s, x], argTypes := #[t, t] })
    (e : TypeId) (z : Value) (size bytes : Nat) (ht : P.underlying t = some (.slice e)) (hinfo : (P.info? e).map (fun i => (i.zero, i.size, i.bytes)) = some (some z, size, bytes)) (hzs : z.cells.size = size) (hsz : 0 < size)
    (v : Value) (n : Nat) (xs : List Value) (hs : a.eval s = v) (hown : W.ownsRow 0 e size v n xs)
    (cs : Array Value) (hx : a.eval x = .slice (some ⟨W.heap.size, 0, none⟩) m m) (hcs : cs.size = m * size) (h1 : ∀ u ∈ cs.toList, u.oneCell' = true)
    (hn : (n + m) * bytes ≤ 140737488355328) (hn2 : n + m ≤ maxLen)
    (h : ∀ g cap w', w'.ownsRow 0 e size (.slice (some ⟨g, 0, none⟩) (n + m) cap) (n + m) (xs ++ cs.toList) → Fr (Of v) W w' → (Of v g ∨ New W w' g) →
      K (a.put o.dst (.slice (some ⟨g, 0, none⟩) (n + m) cap)) w') :
    if Region.wanted o (yielded ops a.tmps) = true then Oper.wp P o a (W.alloc (.cells cs e)).drew K Q else E :=
  step_pushes m hm hgd s x t ho e z size bytes ht hinfo hzs hsz v n xs hs (W := W.drew) hown cs hx hcs h1 hn hn2 fun g cap w' h2 h3 h4 => h g cap w' h2 ⟨h3.os, h3.tape, h3.output, h3.size, h3.block⟩ h4
end
/-- A literal row, as a row that a call builds. -/
theorem Grow.lit {α : Type} (w : World) (e : TypeId) (k : Nat) (enc : α → List Value) (l : List α) (hk : (l.flatMap enc).length = l.length * k) (hm : l.length ≤ maxLen) :
    Grow w (w.alloc (.cells (l.flatMap enc).toArray e)) e k enc (.slice (some ⟨w.heap.size, 0, none⟩) l.length l.length) l := by
  refine ⟨⟨hk, .inr ⟨w.heap.size, l.length, (l.flatMap enc).toArray, rfl, Nat.zero_le _, Blk.new w e _, Nat.le_refl _, hm, by simpa using hk, by rw [List.toList_toArray, ← hk, List.take_length]⟩⟩, fun b hb => ?_, (Fr.refl _ _).alloc _⟩
  have hb' : some w.heap.size = some b := hb
  injection hb' with hb'
  subst hb'
  exact ⟨Nat.le_refl _, by simp⟩
end Sls
end Go.Proofs.YtohjnbkehcdoaaaDoor
