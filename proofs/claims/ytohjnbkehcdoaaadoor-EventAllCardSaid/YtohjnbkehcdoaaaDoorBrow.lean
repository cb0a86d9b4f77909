/- A row of bytes that a call builds by append: its laws. Plain lemmas over any program. -/
import Derived.Test.YtohjnbkehcdoaaaDoorBytes
import Derived.Lib.AppendStr
namespace Go.Proofs.YtohjnbkehcdoaaaDoor
open Go.RowKit
set_option linter.unusedVariables false
set_option linter.unusedSimpArgs false
/-- Bytes that a call, begun at w, has laid; nothing that lay ahead has turned. -/
structure BRow (w wr : World) (e : TypeId) (v : Value) (l : Str) : Prop where
  own : wr.ownsRow w.heap.size e 1 v l.length (l.map encB)
  fr : Fr No w wr
section
variable {w wr w2 : World} {e : TypeId} {v : Value} {l : Str}
theorem BRow.start (w : World) (e : TypeId) : BRow w w e (.slice none 0 0) [] := ⟨World.ownsRow_nil _ _ _ _, Fr.refl _ _⟩
theorem BRow.form (h : BRow w wr e v l) : ∃ A c, v = .slice A l.length c := own_form h.own
theorem BRow.no (h : BRow w wr e v l) (hf : Fr No wr w2) : BRow w w2 e v l := ⟨own_fr h.own hf (fun _ _ h => h), h.fr.then_no hf⟩
theorem BRow.conv {P : Program} {src dst : TypeId} {A : Option Addr} {c n : Nat} (h : BRow w wr e (.slice A n c) l) (hs : P.underlying src = some (.slice e)) (he : P.underlying e = some (.int .u8)) (hd : P.underlying dst = some .string) : (convert src dst (.slice A n c)).run P wr = .ok (.string ⟨l.toArray⟩) wr :=
  conv_bytes src dst e hs he hd (own_bytes h.own)
theorem brow_grown {w w1 w3 : World} {xs : List Value} {n : Nat} {v : Value} {e : TypeId} (h : w1.ownsRow w.heap.size e 1 v n xs) (hf : Fr No w w1) (hg : w1.grownBy w3 v.ownBlock) : Fr No w w3 :=
  hf.grown hg fun k hk => .inr (h.lt k hk).1
end
section
variable {P : Program} {w W : World} {ops : Array Oper} {rest : List Oper} {o : Oper} {a : Act} {Q : Exit → Act → World → Prop}
/-- 'b = append(b, c)'. -/
theorem wp_bpush (hgd : o.guard = none) (s x : Operand) (t : TypeId) (ho : o.op = .call { callee := .builtin .append, args := #[s, x], argTypes := #[t, t] })
    (e : TypeId) (ht : P.underlying t = some (.slice e)) (hinfo : (P.info? e).map (fun i => (i.zero, i.size, i.bytes)) = some (some (.int .u8 0), 1, 1))
    (v : Value) (l : Str) (hs : a.eval s = v) (hb : BRow w W e v l) (c : UInt8) (n : Int) (hn : n = c.toNat) (hx : a.eval x = .slice (some ⟨W.heap.size, 0, none⟩) 1 1) (hl : l.length ≤ 100000000)
    (h : ∀ v' w', BRow w w' e v' (l ++ [c]) → wpList P ops Q rest (a.put o.dst v') w') : wpList P ops Q (o :: rest) a (W.alloc (.cells #[.int .u8 n] e)) := by
  obtain ⟨i0, hi, hz0, hz1, hz2⟩ := info_parts hinfo
  subst hn
  refine wpList_append_own _ hgd s x t ho w.heap.size e i0 (.int .u8 0) 1 1 ht hi hz0 hz1 hz2 rfl (by decide) v l.length (l.map encB) hs (hb.own.alloc _) ⟨W.heap.size, 0, none⟩ 1 1 [encB c] hx rfl (fun j u hu => ?_) (fun u hu => by rw [List.mem_singleton.1 hu]; rfl) (by unfold maxLen; omega) (by omega) (by have := hb.fr.size; simp; omega) ?_
  · have := cell_lit W #[encB c] e j u (by simpa using hu)
    exact this
  · intro v' w' h2 h3 _
    refine h v' w' ⟨by simpa using h2, brow_grown (hb.own.alloc _) (hb.fr.alloc _) h3⟩
/-- 'b = append(b, s...)', s a text. -/
theorem wp_bstr (hgd : o.guard = none) (s x : Operand) (t u : TypeId) (ho : o.op = .call { callee := .builtin .append, args := #[s, x], argTypes := #[t, u] })
    (e : TypeId) (ht : P.underlying t = some (.slice e)) (hu : P.underlying u = some .string) (hinfo : (P.info? e).map (fun i => (i.zero, i.size, i.bytes)) = some (some (.int .u8 0), 1, 1))
    (v : Value) (l : Str) (hs : a.eval s = v) (hb : BRow w W e v l) (m : Str) (hx : a.eval x = .string ⟨m.toArray⟩) (hl : l.length + m.length ≤ 100000000)
    (h : ∀ v' w', BRow w w' e v' (l ++ m) → wpList P ops Q rest (a.put o.dst v') w') : wpList P ops Q (o :: rest) a W := by
  obtain ⟨i0, hi, hz0, hz1, hz2⟩ := info_parts hinfo
  have hm : (⟨m.toArray⟩ : ByteArray).size = m.length := by simp [ByteArray.size]
  refine Lib.wpList_append_own_string _ hgd s x t u ho w.heap.size e i0 ht hu hi hz0 hz1 hz2 v l.length (l.map encB) hs hb.own ⟨m.toArray⟩ hx (by rw [hm]; unfold maxLen; omega) (by rw [hm]; omega) hb.fr.size ?_
  intro v' w' h2 h3 _
  refine h v' w' ⟨?_, brow_grown hb.own hb.fr h3⟩
  rw [hm] at h2
  have e1 : Lib.strCells ⟨m.toArray⟩ = m.map encB := by simp [Lib.strCells, encB]
  rw [e1, ← List.map_append, ← List.length_append] at h2
  exact h2
end
end Go.Proofs.YtohjnbkehcdoaaaDoor
