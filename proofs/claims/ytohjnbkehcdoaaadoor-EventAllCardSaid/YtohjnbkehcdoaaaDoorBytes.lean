/- Rows of bytes, texts made of them; the append laws where a region draws its order. Plain lemmas. -/
import Derived.Test.YtohjnbkehcdoaaaDoorOwn
import Derived.Laws.IdiomStrings
import Derived.Lib.BufferRead
import Derived.Laws.Strings2
namespace Go.Proofs.YtohjnbkehcdoaaaDoor
open Go.RowKit
set_option linter.unusedVariables false

def encB (c : UInt8) : Value := .int .u8 c.toNat
def RByte : Rd UInt8 := fun _ _ cs c => cs = [encB c]
theorem RByte.stable : Rd.Stable RByte := ⟨fun h _ _ => h⟩
theorem encB_one (l : List UInt8) : ∀ u ∈ l.map encB, u.oneCell' = true := by
  intro u hu
  obtain ⟨x, _, rfl⟩ := List.mem_map.1 hu
  rfl
theorem bytes_go {w w' : World} {S S' : Nat → Prop} {cs : List Value} {l : List UInt8} (h : RSl 1 RByte w S cs l) (hk : Kept S w w') (hs : ∀ k, S k → S' k) : RSl 1 RByte w' S' cs l := (RSl.stable RByte.stable).go h hk hs
theorem own_bytes {w : World} {base : Nat} {e : TypeId} {v : Value} {l : List UInt8} (h : w.ownsRow base e 1 v l.length (l.map encB)) : RSl 1 RByte w (Of v) [v] l := own_sl h rfl fun x _ _ => rfl
theorem bytes_none {w : World} {S : Nat → Prop} : RSl 1 RByte w S [.slice none 0 0] [] := ⟨none, 0, rfl, Nat.le_refl _, Nat.zero_le _, fun _ => rfl, fun i hi => by simp at hi⟩
theorem bytes_news {w : World} {S : Nat → Prop} {A : Option Addr} {n cap : Nat} {l : List UInt8} (hv : RSl 1 RByte w S [.slice A n cap] l) :
    ∀ j u, (l.map encB)[j]? = some u → ∃ ad, A = some ad ∧ w.cell? (ad.add j) = some u := sl_news hv fun x S w cs h => h
/-- 'string(b)'. -/
theorem conv_bytes {P : Program} {w : World} {S : Nat → Prop} {A : Option Addr} {n c : Nat} {l : List UInt8} (src dst e : TypeId) (hs : P.underlying src = some (.slice e)) (he : P.underlying e = some (.int .u8)) (hd : P.underlying dst = some .string)
    (hv : RSl 1 RByte w S [.slice A n c] l) : (convert src dst (.slice A n c)).run P w = .ok (.string ⟨l.toArray⟩) w := by
  obtain ⟨A', cap, hA, _, _, _, hel⟩ := hv
  injection hA with hA _
  injection hA with hA hn hc
  subst hA hn hc
  cases A with
  | none =>
    have : l = [] := by
      cases l with
      | nil => rfl
      | cons a l => obtain ⟨ad, _, h, _⟩ := hel 0 (by simp); cases h
    subst this
    exact Lib.run_convert_nil_bytes w src dst e c hs he hd
  | some ad =>
    refine run_convert_bytes_back w src dst e ad c l hs he hd fun j hj => ?_
    obtain ⟨ad', ecs, e1, _, _, h4, h5⟩ := hel j hj
    injection e1 with e1
    subst e1
    have := h4 0 (by omega)
    rw [h5] at this
    simpa [encB] using this
theorem u8_t {c d : UInt8} {n : Int} (hd : (d.toNat : Int) = n) (h : c = d) : ((c.toNat : Int) == n) = true ∧ ((c.toNat : Int) != n) = false := by subst h; rw [hd]; simp
theorem u8_f {c d : UInt8} {n : Int} (hd : (d.toNat : Int) = n) (h : ¬ c = d) : ((c.toNat : Int) == n) = false ∧ ((c.toNat : Int) != n) = true := by
  have : ¬ (c.toNat : Int) = n := fun e => h (UInt8.toNat_inj.1 (by omega))
  simp [this]
/-- 's[i:j]' of a text. -/
theorem slice_str {P : Program} (w : World) (T : TypeId) (hT : P.underlying T = some .string) (s : Str) (i j : Int) (a b : Nat) (hi : i = a) (hj : j = b) (h : a ≤ b) (hb : b ≤ s.length) :
    (Instr.slice T (.string ⟨s.toArray⟩) (some (.int .i64 i)) (some (.int .i64 j)) none).run P w = .ok (.string ⟨((s.drop a).take (b - a)).toArray⟩) w := by
  rw [run_slice_string w T ⟨s.toArray⟩ .i64 .i64 i j hT (by omega) (by omega) (by rw [hj]; show (b : Int) ≤ ((s.toArray.size : Nat) : Int); simp; omega), ByteArray.extract_mk]
  rw [show i.toNat = a by omega, show j.toNat = b by omega]
/-- 's[i:i+1]' of a text. -/
theorem slice_one {P : Program} (w : World) (T : TypeId) (hT : P.underlying T = some .string) (s : Str) (i j : Int) (a : Nat) (ha : a < s.length) (hi : i = a) (hj : j = a + 1) :
    (Instr.slice T (.string ⟨s.toArray⟩) (some (.int .i64 i)) (some (.int .i64 j)) none).run P w = .ok (.string ⟨[s[a]].toArray⟩) w := by
  rw [slice_str w T hT s i j a (a + 1) hi (by omega) (by omega) (by omega), List.drop_eq_getElem_cons ha, show a + 1 - a = 1 by omega]
  rfl
section
variable {P : Program} {W : World} {ops : Array Oper} {o : Oper} {a : Act} {Q : Exit → Act → World → Prop} {K : Act → World → Prop} {E : Prop}
/-- 'out = append(out, x)', at a step of a region that draws its order. -/
theorem step_push (hgd : o.guard = none) (s x : Operand) (t : TypeId) (ho : o.op = .call { callee := .builtin .append, args := #[s, x], argTypes := #[t, t] })
    (e : TypeId) (z : Value) (size bytes : Nat) (ht : P.underlying t = some (.slice e)) (hinfo : (P.info? e).map (fun i => (i.zero, i.size, i.bytes)) = some (some z, size, bytes)) (hzs : z.cells.size = size) (hsz : 0 < size)
    (v : Value) (n : Nat) (xs : List Value) (hs : a.eval s = v) (hown : W.ownsRow 0 e size v n xs)
    (cs : Array Value) (hx : a.eval x = .slice (some ⟨W.heap.size, 0, none⟩) 1 1) (hcs : cs.size = size) (h1 : ∀ u ∈ cs.toList, u.oneCell' = true)
    (hn : (n + 1) * bytes ≤ 140737488355328) (hn2 : n + 1 ≤ maxLen)
    (h : ∀ g cap w', w'.ownsRow 0 e size (.slice (some ⟨g, 0, none⟩) (n + 1) cap) (n + 1) (xs ++ cs.toList) → Fr (Of v) W w' → (Of v g ∨ New W w' g) →
      K (a.put o.dst (.slice (some ⟨g, 0, none⟩) (n + 1) cap)) w') :
    if Region.wanted o (yielded ops a.tmps) = true then Oper.wp P o a (W.alloc (.cells cs e)) K Q else E := by
  obtain ⟨i0, hi, hz0, hz1, hz2⟩ := info_parts hinfo
  refine step_append_lies _ hgd s x t ho 0 e i0 z size bytes ht hi hz0 hz1 hz2 hzs hsz v n xs hs (hown.alloc _) ⟨W.heap.size, 0, none⟩ 1 1 cs.toList hx (by simpa using hcs) (cell_lit W cs e) h1 (by decide) hn2 hn (Nat.zero_le _) _ rfl ?_
  intro g cap w' h2 h3 h4 h5
  refine h g cap w' h2 (((Fr.refl _ _).alloc _).grown h3 (fun k hk => .inl hk)) (h4.elim .inl fun h => .inr ⟨?_, h5⟩)
  rw [h]; simp
/-- 'out = append(out, x)', at a step of a region that draws its order. -/
theorem step_pushD (hgd : o.guard = none) (s x : Operand) (t : TypeId) (ho : o.op = .call { callee := .builtin .append, args := #[s, x], argTypes := #[t, t] })
    (e : TypeId) (z : Value) (size bytes : Nat) (ht : P.underlying t = some (.slice e)) (hinfo : (P.info? e).map (fun i => (i.zero, i.size, i.bytes)) = some (some z, size, bytes)) (hzs : z.cells.size = size) (hsz : 0 < size)
    (v : Value) (n : Nat) (xs : List Value) (hs : a.eval s = v) (hown : W.ownsRow 0 e size v n xs)
    (cs : Array Value) (hx : a.eval x = .slice (some ⟨W.heap.size, 0, none⟩) 1 1) (hcs : cs.size = size) (h1 : ∀ u ∈ cs.toList, u.oneCell' = true)
    (hn : (n + 1) * bytes ≤ 140737488355328) (hn2 : n + 1 ≤ maxLen)
    (h : ∀ g cap w', w'.ownsRow 0 e size (.slice (some ⟨g, 0, none⟩) (n + 1) cap) (n + 1) (xs ++ cs.toList) → Fr (Of v) W w' → (Of v g ∨ New W w' g) →
      K (a.put o.dst (.slice (some ⟨g, 0, none⟩) (n + 1) cap)) w') :
    if Region.wanted o (yielded ops a.tmps) = true then Oper.wp P o a (W.alloc (.cells cs e)).drew K Q else E :=
  step_push hgd s x t ho e z size bytes ht hinfo hzs hsz v n xs hs (W := W.drew) hown cs hx hcs h1 hn hn2 fun g cap w' h2 h3 h4 => h g cap w' h2 ⟨h3.os, h3.tape, h3.output, h3.size, h3.block⟩ h4
end
end Go.Proofs.YtohjnbkehcdoaaaDoor
