/- Slices that lie at the head of a block of their own, and blocks that are known whole: more words for memory. Plain lemmas. -/
import Derived.Test.YtohjnbkehcdoaaaDoorMem
import Derived.Deep.AppendLies
import Derived.Deep.Upon
import Derived.Lib.SliceRun
import Derived.OwnWalk
namespace Go.Proofs.YtohjnbkehcdoaaaDoor
open Go.RowKit
set_option linter.unusedVariables false

/-- A block that is known whole. -/
def Blk (w : World) (g : Nat) (t : TypeId) (cs : Array Value) : Prop := w.heap[g]? = some (.cells cs t (0, 0))
section
variable {w w' : World} {g : Nat} {t : TypeId} {cs : Array Value}
theorem Blk.lt (h : Blk w g t cs) : g < w.heap.size := (Array.getElem?_eq_some_iff.1 h).1
theorem Blk.cell (h : Blk w g t cs) (i : Nat) : w.cell? ⟨g, i, none⟩ = cs[i]? := cell_of_row w g i cs t (0, 0) h
theorem Blk.frozen (h : Blk w g t cs) (i : Nat) : w.frozen? ⟨g, i, none⟩ = false := by unfold Blk at h; simp [World.frozen?, h]
theorem Blk.new (w : World) (t : TypeId) (cs : Array Value) : Blk (w.alloc (.cells cs t)) w.heap.size t cs := heap_alloc_new w _
theorem Blk.alloc (h : Blk w g t cs) (o : Obj) : Blk (w.alloc o) g t cs := (Below.heap_alloc w o g h.lt).trans h
theorem Blk.drewN (h : Blk w g t cs) (n : Nat) : Blk (w.drewN n) g t cs := h
theorem Blk.fr {F : Nat → Prop} (h : Blk w g t cs) (hf : Fr F w w') (hn : ¬ F g) : Blk w' g t cs := (hf.block g h.lt hn).trans h
theorem Blk.grown {row : Option Nat} (h : Blk w g t cs) (hb : w.grownBy w' row) (hg : some g ≠ row) : Blk w' g t cs := (hb.block g h.lt hg).trans h
theorem Blk.far (h : Blk w g t cs) {p : Addr} (hp : g ≠ p.block) (u : Value) : Blk (w.setCell p u) g t cs := (Below.heap_setCell w p u g hp).trans h
theorem Blk.put (h : Blk w g t cs) (i : Nat) (u : Value) : Blk (w.setCell ⟨g, i, none⟩ u) g t (cs.setIfInBounds i u) := by
  unfold Blk at h ⊢
  simp [World.setCell, Array.getElem?_modify, h]
theorem Blk.puts : ∀ (vs : List Value) (o : Nat) {w : World} {cs : Array Value}, Blk w g t cs → o + vs.length ≤ cs.size → Blk (w.setCells g o vs) g t (cs.toList.take o ++ vs ++ cs.toList.drop (o + vs.length)).toArray
  | [], o, w, cs, h, _ => by simpa [World.setCells] using h
  | v :: vs, o, w, cs, h, hl => by
    simp only [List.length_cons] at hl
    have h1 := Blk.puts vs (o + 1) (h.put o v) (by simp; omega)
    unfold World.setCells
    have e : ((cs.setIfInBounds o v).toList.take (o + 1) ++ vs ++ (cs.setIfInBounds o v).toList.drop (o + 1 + vs.length)) = cs.toList.take o ++ (v :: vs) ++ cs.toList.drop (o + (v :: vs).length) := by
      rw [Array.toList_setIfInBounds]
      have e1 : (cs.toList.set o v).take (o + 1) = cs.toList.take o ++ [v] := by
        rw [List.take_set, List.take_succ_eq_append_getElem (by simp; omega), List.set_append_right _ _ (by simp; omega)]
        simp [show o - min o cs.size = 0 by omega]
      have e2 : (cs.toList.set o v).drop (o + 1 + vs.length) = cs.toList.drop (o + 1 + vs.length) := by
        rw [List.drop_set, if_pos (by omega)]
      rw [e1, e2]
      simp [Nat.add_comm, Nat.add_left_comm]
    rw [e] at h1
    exact h1
end
theorem fr_setCells {F : Nat → Prop} {w w1 : World} (g o : Nat) (vs : List Value) (h : Fr F w w1) (hg : F g ∨ w.heap.size ≤ g) : Fr F w (w1.setCells g o vs) := by
  induction vs generalizing o w1 with
  | nil => exact h
  | cons v vs ih => exact ih (o + 1) (h.setCell hg v)
/-- The cells of a literal that was just made. -/
theorem cell_lit (w : World) (c : Array Value) (e : TypeId) : ∀ j u, c.toList[j]? = some u → (w.alloc (.cells c e)).cell? ((⟨w.heap.size, 0, none⟩ : Addr).add j) = some u := by
  intro j u hu
  rw [Addr.add_lit, (Blk.new w e c).cell]
  simpa using hu
theorem one_lit {x : Value} (h : x.oneCell' = true) : ∀ u ∈ [x], u.oneCell' = true := by
  intro u hu
  rw [List.mem_singleton.1 hu]
  exact h
theorem own_form {w : World} {base : Nat} {e : TypeId} {size n : Nat} {v : Value} {xs : List Value} (h : w.ownsRow base e size v n xs) : ∃ A c, v = .slice A n c := by
  rcases h.2 with ⟨rfl, rfl⟩ | ⟨g, cap, _, rfl, _⟩
  · exact ⟨_, _, rfl⟩
  · exact ⟨_, _, rfl⟩
theorem own_fr {e : TypeId} {size : Nat} {G : Nat → Prop} {w w' : World} {v : Value} {n : Nat} {xs : List Value} {base : Nat} (h : w.ownsRow base e size v n xs) (hf : Fr G w w') (hn : ∀ k, v.ownBlock = some k → ¬ G k) : w'.ownsRow base e size v n xs := by
  refine ⟨h.1, ?_⟩
  rcases h.2 with h1 | ⟨g, cap, cur, rfl, hb, hg, r⟩
  · exact .inl h1
  · exact .inr ⟨g, cap, cur, rfl, hb, (hf.block g (Array.getElem?_eq_some_iff.1 hg).1 (hn g rfl)).trans hg, r⟩
theorem size_alloc (w : World) (o : Obj) : (w.alloc o).heap.size = w.heap.size + 1 := by simp
theorem size_setCell (w : World) (a : Addr) (u : Value) : (w.setCell a u).heap.size = w.heap.size := by simp [World.setCell]
/-- The slice v lies at the head of a block of its own: its cells, of elements that have size cells each. -/
theorem own_sl {w : World} {base : Nat} {e : TypeId} {v : Value} {n : Nat} {α : Type} {R : Rd α} {enc : α → Value} {l : List α} (h : w.ownsRow base e 1 v l.length (l.map enc)) (hc : l.length = n)
    (hR : ∀ x ∈ l, ∀ S, R w S [enc x] x) : RSl 1 R w (fun k => v.ownBlock = some k) [v] l := by
  rcases h.2 with ⟨rfl, h0⟩ | ⟨g, cap, cur, rfl, _, hg, h1, h2, h3, h4⟩
  · have : l = [] := List.eq_nil_of_length_eq_zero h0
    subst this
    exact ⟨none, 0, rfl, Nat.le_refl _, Nat.zero_le _, fun _ => rfl, fun i hi => by simp at hi⟩
  · refine ⟨some ⟨g, 0, none⟩, cap, rfl, h1, h2, fun h => (by cases h), fun i hi => ⟨⟨g, 0, none⟩, [enc l[i]], rfl, rfl, rfl, fun j hj => ?_, hR _ (List.getElem_mem hi) _⟩⟩
    obtain rfl : j = 0 := by omega
    have hh := h.cells (g := g) rfl i (enc l[i]) (by simp [hi])
    simpa using hh
/-- The blocks that came between the two worlds. -/
def New (w w' : World) : Nat → Prop := fun k => w.heap.size ≤ k ∧ k < w'.heap.size
/-- The block of the slice v. -/
def Of (v : Value) : Nat → Prop := fun k => v.ownBlock = some k
/-- An act on a thing in the blocks F: nothing else has turned; behind it the thing lies in F', among F and new blocks. -/
def Step (F : Nat → Prop) (w : World) (F' : Nat → Prop) (w' : World) : Prop := Fr F w w' ∧ (∀ k, F' k → F k ∨ New w w' k)
theorem Step.refl (F : Nat → Prop) (w : World) : Step F w F w := ⟨Fr.refl _ _, fun k h => .inl h⟩
theorem Step.trans {F F1 F2 : Nat → Prop} {w w1 w2 : World} (h : Step F w F1 w1) (k : Step F1 w1 F2 w2) : Step F w F2 w2 :=
  ⟨h.1.trans k.1 (fun b hb hl => by rcases h.2 b hb with h | h; exact h; exact absurd h.1 (by omega)), fun b hb => by
    rcases k.2 b hb with h2 | h2
    · rcases h.2 b h2 with h3 | h3
      · exact .inl h3
      · exact .inr ⟨h3.1, Nat.lt_of_lt_of_le h3.2 k.1.size⟩
    · exact .inr ⟨Nat.le_trans h.1.size h2.1, h2.2⟩⟩
theorem Step.of {v : Value} {w w' : World} {g n c : Nat} (h : Fr (Of v) w w') (hg : Of v g ∨ New w w' g) : Step (Of v) w (Of (.slice (some ⟨g, 0, none⟩) n c)) w' :=
  ⟨h, fun k hk => by
    have hk' : some g = some k := hk
    injection hk' with hk'
    subst hk'
    exact hg⟩
theorem Step.no {F : Nat → Prop} {w w' : World} (h : Fr No w w') : Step F w F w' := ⟨h.no _, fun k hk => .inl hk⟩
section
variable {P : Program} {W : World} {ops : Array Oper} {rest : List Oper} {o : Oper} {a : Act} {Q : Exit → Act → World → Prop}
/-- 'out = append(out, x)', out a slice of the call's own. -/
theorem wp_push (hgd : o.guard = none) (s x : Operand) (t : TypeId) (ho : o.op = .call { callee := .builtin .append, args := #[s, x], argTypes := #[t, t] })
    (e : TypeId) (z : Value) (size bytes : Nat) (ht : P.underlying t = some (.slice e)) (hinfo : (P.info? e).map (fun i => (i.zero, i.size, i.bytes)) = some (some z, size, bytes)) (hzs : z.cells.size = size) (hsz : 0 < size)
    (v : Value) (n : Nat) (xs : List Value) (hs : a.eval s = v) (hown : W.ownsRow 0 e size v n xs)
    (cs : Array Value) (hx : a.eval x = .slice (some ⟨W.heap.size, 0, none⟩) 1 1) (hcs : cs.size = size) (h1 : ∀ u ∈ cs.toList, u.oneCell' = true)
    (hn : (n + 1) * bytes ≤ 140737488355328) (hn2 : n + 1 ≤ maxLen)
    (h : ∀ g cap w', w'.ownsRow 0 e size (.slice (some ⟨g, 0, none⟩) (n + 1) cap) (n + 1) (xs ++ cs.toList) → Fr (Of v) W w' → (Of v g ∨ New W w' g) →
      wpList P ops Q rest (a.put o.dst (.slice (some ⟨g, 0, none⟩) (n + 1) cap)) w') : wpList P ops Q (o :: rest) a (W.alloc (.cells cs e)) := by
  obtain ⟨i0, hi, hz0, hz1, hz2⟩ := info_parts hinfo
  refine wpList_append_lies _ hgd s x t ho 0 e i0 z size bytes ht hi hz0 hz1 hz2 hzs hsz v n xs hs (hown.alloc _) ⟨W.heap.size, 0, none⟩ 1 1 cs.toList hx (by simpa using hcs) (cell_lit W cs e) h1 (by decide) hn2 hn (Nat.zero_le _) _ rfl ?_
  intro g cap w' h2 h3 h4 h5
  refine h g cap w' h2 (((Fr.refl _ _).alloc _).grown h3 (fun k hk => .inl hk)) (h4.elim .inl fun h => .inr ⟨?_, h5⟩)
  rw [h]; simp
/-- 'out = append(out, x, y, ..)', out a slice of the call's own. -/
theorem wp_pushes (m : Nat) (hm : 0 < m) (hgd : o.guard = none) (s x : Operand) (t : TypeId) (ho : o.op = .call { callee := .builtin .append, args := #[s, x], argTypes := #[t, t] })
    (e : TypeId) (z : Value) (size bytes : Nat) (ht : P.underlying t = some (.slice e)) (hinfo : (P.info? e).map (fun i => (i.zero, i.size, i.bytes)) = some (some z, size, bytes)) (hzs : z.cells.size = size) (hsz : 0 < size)
    (v : Value) (n : Nat) (xs : List Value) (hs : a.eval s = v) (hown : W.ownsRow 0 e size v n xs)
    (cs : Array Value) (hx : a.eval x = .slice (some ⟨W.heap.size, 0, none⟩) m m) (hcs : cs.size = m * size) (h1 : ∀ u ∈ cs.toList, u.oneCell' = true)
    (hn : (n + m) * bytes ≤ 140737488355328) (hn2 : n + m ≤ maxLen)
    (h : ∀ g cap w', w'.ownsRow 0 e size (.slice (some ⟨g, 0, none⟩) (n + m) cap) (n + m) (xs ++ cs.toList) → Fr (Of v) W w' → (Of v g ∨ New W w' g) →
      wpList P ops Q rest (a.put o.dst (.slice (some ⟨g, 0, none⟩) (n + m) cap)) w') : wpList P ops Q (o :: rest) a (W.alloc (.cells cs e)) := by
  obtain ⟨i0, hi, hz0, hz1, hz2⟩ := info_parts hinfo
  refine wpList_append_lies _ hgd s x t ho 0 e i0 z size bytes ht hi hz0 hz1 hz2 hzs hsz v n xs hs (hown.alloc _) ⟨W.heap.size, 0, none⟩ m m cs.toList hx (by simpa using hcs) (cell_lit W cs e) h1 hm hn2 hn (Nat.zero_le _) _ rfl ?_
  intro g cap w' h2 h3 h4 h5
  refine h g cap w' h2 (((Fr.refl _ _).alloc _).grown h3 (fun k hk => .inl hk)) (h4.elim .inl fun h => .inr ⟨?_, h5⟩)
  rw [h]; simp
/-- 'out = append(out, l...)'. -/
theorem wp_app {B : Option Addr} {m c : Nat} {news : List Value} (hgd : o.guard = none) (s x : Operand) (t : TypeId) (ho : o.op = .call { callee := .builtin .append, args := #[s, x], argTypes := #[t, t] })
    (e : TypeId) (z : Value) (size bytes : Nat) (ht : P.underlying t = some (.slice e)) (hinfo : (P.info? e).map (fun i => (i.zero, i.size, i.bytes)) = some (some z, size, bytes)) (hzs : z.cells.size = size) (hsz : 0 < size)
    (v : Value) (n : Nat) (xs : List Value) (hs : a.eval s = v) (hown : W.ownsRow 0 e size v n xs)
    (hx : a.eval x = .slice B m c) (hl : news.length = m * size) (hnews : ∀ j u, news[j]? = some u → ∃ ad, B = some ad ∧ W.cell? (ad.add j) = some u) (h1 : ∀ u ∈ news, u.oneCell' = true)
    (hn : (n + m) * bytes ≤ 140737488355328) (hn2 : n + m ≤ maxLen)
    (h : ∀ v' w', w'.ownsRow 0 e size v' (n + m) (xs ++ news) → Fr (Of v) W w' → (∀ g, Of v' g → Of v g ∨ New W w' g) →
      wpList P ops Q rest (a.put o.dst v') w') : wpList P ops Q (o :: rest) a W := by
  obtain ⟨i0, hi, hz0, hz1, hz2⟩ := info_parts hinfo
  by_cases hm : m = 0
  · have hnil : news = [] := List.eq_nil_of_length_eq_zero (by rw [hl, hm]; simp)
    subst hnil hm
    refine wpList_plain hgd fun K hK => ?_
    have hrun : (Builtin.append_ #[t, t] o.type #[v, .slice B 0 c]).run P W = .ok v W := by
      rcases hown.2 with ⟨rfl, rfl⟩ | ⟨g, cap, cur, rfl, _, _, hnc, _⟩
      · cases B <;> simp [Builtin.append_, run_underlying ht, sizeOf, typeInfo, hi, Builtin.lenOf, Builtin.firstCells, loadCells, loadCellsFrom]
      · cases B <;> simp [Builtin.append_, run_underlying ht, sizeOf, typeInfo, hi, Builtin.lenOf, Builtin.firstCells, loadCells, loadCellsFrom, hnc, storeCells]
    unfold Oper.wp execOp
    simp only [ho, resolve, invoke, builtin, Sem.run_bind, Sem.run_pure, Result.andThen_ok, List.map_toArray, List.map_cons, List.map_nil, hs, hx, hrun]
    exact hK _ _ (h v W (by simpa using hown) (Fr.refl _ _) fun g hg => .inl hg)
  · obtain ⟨u0, hu0⟩ : ∃ u, news[0]? = some u := ⟨_, List.getElem?_eq_getElem (by rw [hl]; exact Nat.mul_pos (by omega) hsz)⟩
    obtain ⟨ad, rfl, _⟩ := hnews 0 u0 hu0
    refine wpList_append_lies _ hgd s x t ho 0 e i0 z size bytes ht hi hz0 hz1 hz2 hzs hsz v n xs hs hown ad m c news hx hl (fun j u hu => by obtain ⟨ad', e', h'⟩ := hnews j u hu; injection e' with e'; subst e'; exact h') h1 (by omega) hn2 hn (Nat.zero_le _) _ rfl ?_
    intro g cap w' h2 h3 h4 h5
    refine h _ w' h2 ((Fr.refl _ _).grown h3 (fun k hk => .inl hk)) fun k hk => ?_
    have hk' : some g = some k := hk
    injection hk' with hk'
    subst hk'
    exact h4.elim .inl fun h => .inr ⟨by omega, h5⟩
end
theorem sl_news {w : World} {S : Nat → Prop} {A : Option Addr} {n cap : Nat} {α : Type} {R : Rd α} {enc : α → Value} {l : List α} (hv : RSl 1 R w S [.slice A n cap] l) (hR : ∀ x S w cs, R w S cs x → cs = [enc x]) :
    ∀ j u, (l.map enc)[j]? = some u → ∃ ad, A = some ad ∧ w.cell? (ad.add j) = some u := by
  intro j u hu
  obtain ⟨A', cap', hA, _, _, _, hel⟩ := hv
  injection hA with hA _
  injection hA with hA _ _
  subst hA
  have hj : j < l.length := by
    have := (List.getElem?_eq_some_iff.1 hu).1
    simpa using this
  obtain ⟨ad, ecs, e, _, _, hc, hr⟩ := hel j hj
  have h0 := hc 0 (by omega)
  rw [hR _ _ _ _ hr] at h0
  refine ⟨ad, e, ?_⟩
  rw [← hu]
  simpa [hj] using h0
theorem quiet_left {P : Program} {f : FuncId} {args : Array Value} {w : World} {n : Nat} {v : Value}
    (h : Calls P f args (w.drewN n) fun e w' => e = .returned v ∧ w.drewN n = w') : Calls P f args (w.drewN n) fun e w'' => e = .returned v ∧ ∃ m, w'' = w.drewN m :=
  h.mono fun _ _ ⟨he, hm⟩ => ⟨he, n, hm.symm⟩
end Go.Proofs.YtohjnbkehcdoaaaDoor
