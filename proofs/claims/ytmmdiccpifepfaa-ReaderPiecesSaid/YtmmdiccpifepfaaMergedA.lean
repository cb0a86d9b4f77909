/- Words for memory, used by all proofs of this seat: frames (which blocks a call may have turned), and readings (which cells hold which plain data). Plain lemmas, no program in sight. -/
import Derived.WalkKit
import Derived.ProofKit
import Derived.OpenShut
import Derived.Deep.Draws
import Derived.Lib.Hide
import Derived.Deep.AppendLies
import Derived.Deep.Upon
import Derived.Lib.SliceRun
import Derived.OwnWalk
import Derived.Laws.IdiomStrings
import Derived.Lib.BufferRead
import Derived.Laws.Strings2
import Derived.Lib.AppendStr
namespace Go.Proofs.Ytmmdiccpifepfaa
open Go.RowKit
set_option linter.unusedVariables false

/-- Nothing but the blocks of F, and new ones, differs between the two worlds. -/
structure Fr (F : Nat → Prop) (w w' : World) : Prop where
  os : w'.os = w.os
  tape : w'.tape = w.tape
  output : w'.output = w.output
  size : w.heap.size ≤ w'.heap.size
  block : ∀ k, k < w.heap.size → ¬ F k → w'.heap[k]? = w.heap[k]?
/-- No block. -/
def No : Nat → Prop := fun _ => False
/-- The blocks from B on. -/
def From (B : Nat) : Nat → Prop := fun k => B ≤ k
/-- The blocks ahead of B. -/
def Ahead (B : Nat) : Nat → Prop := fun k => k < B

section
variable {F F' : Nat → Prop} {w w1 w2 : World}
theorem Fr.refl (F : Nat → Prop) (w : World) : Fr F w w := ⟨rfl, rfl, rfl, Nat.le_refl _, fun _ _ _ => rfl⟩
theorem Fr.trans (h : Fr F w w1) (k : Fr F' w1 w2) (hs : ∀ b, F' b → b < w.heap.size → F b) : Fr F w w2 :=
  ⟨k.os.trans h.os, k.tape.trans h.tape, k.output.trans h.output, Nat.le_trans h.size k.size,
    fun i hi hn => (k.block i (Nat.lt_of_lt_of_le hi h.size) (fun hf => hn (hs i hf hi))).trans (h.block i hi hn)⟩
theorem Fr.mono (h : Fr F w w1) (hs : ∀ b, F b → b < w.heap.size → F' b) : Fr F' w w1 :=
  ⟨h.os, h.tape, h.output, h.size, fun i hi hn => h.block i hi fun hf => hn (hs i hf hi)⟩
theorem Fr.no (h : Fr No w w1) (F : Nat → Prop) : Fr F w w1 := h.mono fun _ h _ => h.elim
theorem Fr.then_no (h : Fr F w w1) (k : Fr No w1 w2) : Fr F w w2 := h.trans k fun _ h _ => h.elim
theorem Fr.drew (h : Fr F w w1) : Fr F w w1.drew := ⟨h.os, h.tape, h.output, h.size, h.block⟩
theorem Fr.drewN (h : Fr F w w1) (n : Nat) : Fr F w (w1.drewN n) := ⟨h.os, h.tape, h.output, h.size, h.block⟩
theorem Fr.alloc (h : Fr F w w1) (o : Obj) : Fr F w (w1.alloc o) :=
  h.trans (F' := No) ⟨rfl, rfl, rfl, by simp, fun k hk _ => Below.heap_alloc _ _ _ hk⟩ fun _ h _ => h.elim
theorem Fr.setCell (h : Fr F w w1) {p : Addr} (hp : F p.block ∨ w.heap.size ≤ p.block) (u : Value) : Fr F w (w1.setCell p u) :=
  h.trans (F' := fun k => k = p.block) ⟨rfl, rfl, rfl, by simp [World.setCell], fun k hk hn => Below.heap_setCell _ _ _ _ hn⟩ fun b hb hl => by
    subst hb; rcases hp with hp | hp
    · exact hp
    · omega
theorem Fr.grown (h : Fr F w w1) {row : Option Nat} (hg : w1.grownBy w2 row) (hr : ∀ k, row = some k → F k ∨ w.heap.size ≤ k) : Fr F w w2 :=
  h.trans (F' := fun k => row = some k) ⟨hg.os, hg.tape, hg.output, hg.size, fun k hk hn => hg.block k hk fun e => hn e.symm⟩ fun b hb hl => by
    rcases hr b hb with h | h
    · exact h
    · omega
theorem Fr.cell (h : Fr F w w1) {p : Addr} (hp : p.block < w.heap.size) (hn : ¬ F p.block) : w1.cell? p = w.cell? p := World.cell?_of_block (w := w) (h.block p.block hp hn)
theorem Fr.frozen (h : Fr F w w1) {p : Addr} (hp : p.block < w.heap.size) (hn : ¬ F p.block) : w1.frozen? p = w.frozen? p := World.frozen?_of_block (w := w) (h.block p.block hp hn)
theorem Fr.below (h : Fr No w w1) : Below w.heap.size w w1 := ⟨h.os, h.tape, h.output, h.size, fun k hk => h.block k hk (fun h => h)⟩
theorem Fr.of_below (h : Below w.heap.size w w1) (F : Nat → Prop) : Fr F w w1 := ⟨h.os, h.tape, h.output, h.size, fun k hk _ => h.block k hk⟩
theorem Fr.of_same (F : Nat → Prop) (h : w = w1) : Fr F w w1 := h ▸ Fr.refl F w
/-- What a call from a later world on may turn, all behind B: seen from B on. -/
theorem Fr.from_ {B : Nat} (h : Fr (From B) w w1) (k : Fr F w1 w2) (hs : ∀ b, F b → B ≤ b) : Fr (From B) w w2 := h.trans k fun b hb _ => hs b hb
end

theorem ret_int {k : IntKind} {a b : Int} (h : a = b) : Ending.returned (.int k a) = .returned (.int k b) := by rw [h]
theorem ret_bool {a b : Bool} (h : a = b) : Ending.returned (.bool a) = .returned (.bool b) := by rw [h]

theorem ret_str {l m : List UInt8} (h : l = m) : Ending.returned (.string ⟨l.toArray⟩) = .returned (.string ⟨m.toArray⟩) := by rw [h]
theorem ret_ib {a b : Int} {p q : Bool} (h : a = b) (h' : p = q) : Ending.returned (.tuple #[.int .i64 a, .bool p]) = .returned (.tuple #[.int .i64 b, .bool q]) := by rw [h, h']
/-! ### Readings: cells hold data; all that is read of memory lies in the blocks of S. -/
abbrev Rd (α : Type) := World → (Nat → Prop) → List Value → α → Prop
/-- The cells of S read as they did. -/
def Kept (S : Nat → Prop) (w w' : World) : Prop := ∀ p : Addr, S p.block → w'.cell? p = w.cell? p
theorem Kept.of_fr {F S : Nat → Prop} {w w' : World} (h : Fr F w w') (hs : ∀ k, S k → k < w.heap.size ∧ ¬ F k) : Kept S w w' := fun p hp => h.cell (hs _ hp).1 (hs _ hp).2
theorem Kept.of_no {S : Nat → Prop} {w w' : World} (h : Fr No w w') (hs : ∀ k, S k → k < w.heap.size) : Kept S w w' := fun p hp => h.cell (hs _ hp) (fun h => h)
structure Rd.Stable {α : Type} (R : Rd α) : Prop where
  go : ∀ {w w' : World} {S S' : Nat → Prop} {cs : List Value} {a : α}, R w S cs a → Kept S w w' → (∀ k, S k → S' k) → R w' S' cs a

def RInt (k : IntKind) : Rd Int := fun _ _ cs n => cs = [.int k n] ∧ (Lit.int k n).wf = true
def RBool : Rd Bool := fun _ _ cs b => cs = [.bool b]
/-- A text: its bytes. -/
abbrev Str := List UInt8
def RStr : Rd Str := fun _ _ cs s => cs = [.string ⟨s.toArray⟩] ∧ s.length ≤ maxLen
def RSl {α : Type} (n : Nat) (R : Rd α) : Rd (List α) := fun w S cs l =>
  ∃ A cap, cs = [.slice A l.length cap] ∧ l.length ≤ cap ∧ cap ≤ maxLen ∧ (A = none → cap = 0) ∧
    ∀ i (h : i < l.length), ∃ ad ecs, A = some ad ∧ S ad.block ∧ ecs.length = n ∧ (∀ j, j < n → w.cell? (ad.add (i * n + j)) = ecs[j]?) ∧ R w S ecs l[i]
/-- Two fields, one behind the other: the first has n cells. -/
def RTwo {α β : Type} (n : Nat) (R : Rd α) (R' : Rd β) : Rd (α × β) := fun w S cs x => n ≤ cs.length ∧ R w S (cs.take n) x.1 ∧ R' w S (cs.drop n) x.2

theorem block_add (a : Addr) (n : Nat) : (a.add n).block = a.block := by unfold Addr.add; split <;> rfl
theorem add_zero (a : Addr) : a.add 0 = a := by simp [Addr.add]
theorem add_add (a : Addr) (i j : Nat) : (a.add i).add j = a.add (i + j) := by
  unfold Addr.add
  by_cases hi : i = 0 <;> by_cases hj : j = 0 <;> simp [hi, hj, Nat.add_assoc]

theorem RInt.stable (k : IntKind) : Rd.Stable (RInt k) := ⟨fun h _ _ => h⟩
theorem RBool.stable : Rd.Stable RBool := ⟨fun h _ _ => h⟩
theorem RStr.stable : Rd.Stable RStr := ⟨fun h _ _ => h⟩
theorem RSl.stable {α : Type} {n : Nat} {R : Rd α} (hR : R.Stable) : Rd.Stable (RSl n R) := by
  constructor
  rintro w w' S S' cs l ⟨A, cap, h1, h2, h3, h4, h5⟩ hk hs
  refine ⟨A, cap, h1, h2, h3, h4, fun i hi => ?_⟩
  obtain ⟨ad, ecs, g1, g2, g3, g4, g5⟩ := h5 i hi
  exact ⟨ad, ecs, g1, hs _ g2, g3, fun j hj => (hk _ (by rw [block_add]; exact g2)).trans (g4 j hj), hR.go g5 hk hs⟩
theorem RTwo.stable {α β : Type} {n : Nat} {R : Rd α} {R' : Rd β} (h : R.Stable) (h' : R'.Stable) : Rd.Stable (RTwo n R R') :=
  ⟨fun ⟨g1, g2, g3⟩ hk hs => ⟨g1, h.go g2 hk hs, h'.go g3 hk hs⟩⟩

theorem ints_go {k : IntKind} {w w' : World} {S S' : Nat → Prop} {cs : List Value} {l : List Int} (h : RSl 1 (RInt k) w S cs l) (hk : Kept S w w') (hs : ∀ k, S k → S' k) : RSl 1 (RInt k) w' S' cs l := (RSl.stable (RInt.stable k)).go h hk hs
theorem strs_go {w w' : World} {S S' : Nat → Prop} {cs : List Value} {l : List Str} (h : RSl 1 RStr w S cs l) (hk : Kept S w w') (hs : ∀ k, S k → S' k) : RSl 1 RStr w' S' cs l := (RSl.stable RStr.stable).go h hk hs
theorem Kept.refl (S : Nat → Prop) (w : World) : Kept S w w := fun _ _ => rfl
section
variable {α : Type} {w w' : World} {S : Nat → Prop} {v : Value}
theorem RSl.slice {n : Nat} {R : Rd α} {l : List α} (h : RSl n R w S [v] l) : ∃ A cap, v = .slice A l.length cap ∧ l.length ≤ cap ∧ cap ≤ maxLen := by
  obtain ⟨A, cap, h1, h2, h3, _⟩ := h
  exact ⟨A, cap, by injection h1, h2, h3⟩
theorem RSl.cut {n : Nat} {R : Rd α} {l : List α} {A : Option Addr} {m c k : Nat} (h : RSl n R w S [.slice A m c] l) (hk : k ≤ l.length) : RSl n R w S [.slice A k c] (l.take k) := by
  obtain ⟨A', cap, h1, h2, h3, h4, h5⟩ := h
  injection h1 with h1 _
  injection h1 with h1 h6 h7
  subst h1 h7
  refine ⟨A, c, by rw [List.length_take_of_le hk], by rw [List.length_take_of_le hk]; omega, h3, h4, fun i hi => ?_⟩
  rw [List.length_take_of_le hk] at hi
  obtain ⟨ad, ecs, g1, g2, g3, g4, g5⟩ := h5 i (by omega)
  exact ⟨ad, ecs, g1, g2, g3, g4, by rw [List.getElem_take]; exact g5⟩
/-- A slice of integers: its value, and each of its cells. -/
theorem RSl.ints {k : IntKind} {l : List Int} (h : RSl 1 (RInt k) w S [v] l) :
    ∃ A cap, v = .slice A l.length cap ∧ l.length ≤ cap ∧ cap ≤ maxLen ∧ ∀ i (hi : i < l.length), ∃ ad, A = some ad ∧ S ad.block ∧ w.cell? (ad.add i) = some (.int k l[i]) ∧ (Lit.int k l[i]).wf = true := by
  obtain ⟨A, cap, h1, h2, h3, _, h5⟩ := h
  refine ⟨A, cap, by injection h1, h2, h3, fun i hi => ?_⟩
  obtain ⟨ad, ecs, g1, g2, g3, g4, g5, g6⟩ := h5 i hi
  have := g4 0 (by omega)
  subst g5
  exact ⟨ad, g1, g2, by simpa using this, g6⟩
/-- A slice of structs of two fields, one cell each. -/
theorem RSl.twos {α β : Type} {R : Rd α} {R' : Rd β} {l : List (α × β)} (h : RSl 2 (RTwo 1 R R') w S [v] l) :
    ∃ A cap, v = .slice A l.length cap ∧ l.length ≤ cap ∧ cap ≤ maxLen ∧ ∀ i (hi : i < l.length), ∃ ad c d, A = some ad ∧ S ad.block ∧ w.cell? (ad.add (i * 2)) = some c ∧ w.cell? ⟨(ad.add (i * 2)).block, (ad.add (i * 2)).off + 1, none⟩ = some d ∧ R w S [c] l[i].1 ∧ R' w S [d] l[i].2 := by
  obtain ⟨A, cap, h1, h2, h3, _, h5⟩ := h
  refine ⟨A, cap, by injection h1, h2, h3, fun i hi => ?_⟩
  obtain ⟨ad, ecs, g1, g2, g3, g4, g5, g6, g7⟩ := h5 i hi
  match ecs, g3 with
  | [c, d], _ =>
    have e0 := g4 0 (by omega)
    have e1 := g4 1 (by omega)
    rw [← add_add] at e1
    exact ⟨ad, c, d, g1, g2, by simpa using e0, (show w.cell? ((ad.add (i * 2)).add 1) = some d by simpa using e1), by simpa using g6, by simpa using g7⟩
theorem RSl.wfs {k : IntKind} {l : List Int} {cs : List Value} (h : RSl 1 (RInt k) w S cs l) : ∀ y ∈ l, (Lit.int k y).wf = true := by
  intro y hy
  obtain ⟨j, hj, rfl⟩ := List.getElem_of_mem hy
  obtain ⟨_, _, _, _, _, _, h5⟩ := h
  obtain ⟨_, _, _, _, _, _, h6⟩ := h5 j hj
  exact h6.2
theorem RSl.strs {l : List Str} (h : RSl 1 RStr w S [v] l) :
    ∃ A cap, v = .slice A l.length cap ∧ l.length ≤ cap ∧ cap ≤ maxLen ∧ ∀ i (hi : i < l.length), ∃ ad, A = some ad ∧ S ad.block ∧ w.cell? (ad.add i) = some (.string ⟨l[i].toArray⟩) ∧ l[i].length ≤ maxLen := by
  obtain ⟨A, cap, h1, h2, h3, _, h5⟩ := h
  refine ⟨A, cap, by injection h1, h2, h3, fun i hi => ?_⟩
  obtain ⟨ad, ecs, g1, g2, g3, g4, g5, g6⟩ := h5 i hi
  have := g4 0 (by omega)
  subst g5
  exact ⟨ad, g1, g2, by simpa using this, g6⟩
end
end Go.Proofs.Ytmmdiccpifepfaa
/- Slices that lie at the head of a block of their own, and blocks that are known whole: more words for memory. Plain lemmas. -/
namespace Go.Proofs.Ytmmdiccpifepfaa
open Go.RowKit
set_option linter.unusedVariables false

/-- A block that is known whole. -/
def Blk (w : World) (g : Nat) (t : TypeId) (cs : Array Value) : Prop := w.heap[g]? = some (.cells cs t (0, 0))
section
variable {w w' : World} {g : Nat} {t : TypeId} {cs : Array Value}
theorem Blk.lt (h : Blk w g t cs) : g < w.heap.size := (Array.getElem?_eq_some_iff.1 h).1
theorem Blk.cell (h : Blk w g t cs) (i : Nat) : w.cell? ⟨g, i, none⟩ = cs[i]? := cell_of_row w g i cs t (0, 0) h
theorem Blk.frozen (h : Blk w g t cs) (i : Nat) : w.frozen? ⟨g, i, none⟩ = false := by unfold Blk at h; simp [World.frozen?, h]
theorem Blk.new (w : World) (t : TypeId) (cs : Array Value) : Blk (w.alloc (.cells cs t)) w.heap.size t cs := heap_alloc_new w _
theorem Blk.alloc (h : Blk w g t cs) (o : Obj) : Blk (w.alloc o) g t cs := (Below.heap_alloc w o g h.lt).trans h
theorem Blk.drewN (h : Blk w g t cs) (n : Nat) : Blk (w.drewN n) g t cs := h
theorem Blk.fr {F : Nat → Prop} (h : Blk w g t cs) (hf : Fr F w w') (hn : ¬ F g) : Blk w' g t cs := (hf.block g h.lt hn).trans h
theorem Blk.grown {row : Option Nat} (h : Blk w g t cs) (hb : w.grownBy w' row) (hg : some g ≠ row) : Blk w' g t cs := (hb.block g h.lt hg).trans h
theorem Blk.far (h : Blk w g t cs) {p : Addr} (hp : g ≠ p.block) (u : Value) : Blk (w.setCell p u) g t cs := (Below.heap_setCell w p u g hp).trans h
theorem Blk.put (h : Blk w g t cs) (i : Nat) (u : Value) : Blk (w.setCell ⟨g, i, none⟩ u) g t (cs.setIfInBounds i u) := by
  unfold Blk at h ⊢
  simp [World.setCell, Array.getElem?_modify, h]
theorem Blk.puts : ∀ (vs : List Value) (o : Nat) {w : World} {cs : Array Value}, Blk w g t cs → o + vs.length ≤ cs.size → Blk (w.setCells g o vs) g t (cs.toList.take o ++ vs ++ cs.toList.drop (o + vs.length)).toArray
  | [], o, w, cs, h, _ => by simpa [World.setCells] using h
  | v :: vs, o, w, cs, h, hl => by
    simp only [List.length_cons] at hl
    have h1 := Blk.puts vs (o + 1) (h.put o v) (by simp; omega)
    unfold World.setCells
    have e : ((cs.setIfInBounds o v).toList.take (o + 1) ++ vs ++ (cs.setIfInBounds o v).toList.drop (o + 1 + vs.length)) = cs.toList.take o ++ (v :: vs) ++ cs.toList.drop (o + (v :: vs).length) := by
      rw [Array.toList_setIfInBounds]
      have e1 : (cs.toList.set o v).take (o + 1) = cs.toList.take o ++ [v] := by
        rw [List.take_set, List.take_succ_eq_append_getElem (by simp; omega), List.set_append_right _ _ (by simp; omega)]
        simp [show o - min o cs.size = 0 by omega]
      have e2 : (cs.toList.set o v).drop (o + 1 + vs.length) = cs.toList.drop (o + 1 + vs.length) := by
        rw [List.drop_set, if_pos (by omega)]
      rw [e1, e2]
      simp [Nat.add_comm, Nat.add_left_comm]
    rw [e] at h1
    exact h1
end
theorem fr_setCells {F : Nat → Prop} {w w1 : World} (g o : Nat) (vs : List Value) (h : Fr F w w1) (hg : F g ∨ w.heap.size ≤ g) : Fr F w (w1.setCells g o vs) := by
  induction vs generalizing o w1 with
  | nil => exact h
  | cons v vs ih => exact ih (o + 1) (h.setCell hg v)
/-- The cells of a literal that was just made. -/
theorem cell_lit (w : World) (c : Array Value) (e : TypeId) : ∀ j u, c.toList[j]? = some u → (w.alloc (.cells c e)).cell? ((⟨w.heap.size, 0, none⟩ : Addr).add j) = some u := by
  intro j u hu
  rw [Addr.add_lit, (Blk.new w e c).cell]
  simpa using hu
theorem one_lit {x : Value} (h : x.oneCell' = true) : ∀ u ∈ [x], u.oneCell' = true := by
  intro u hu
  rw [List.mem_singleton.1 hu]
  exact h
theorem own_form {w : World} {base : Nat} {e : TypeId} {size n : Nat} {v : Value} {xs : List Value} (h : w.ownsRow base e size v n xs) : ∃ A c, v = .slice A n c := by
  rcases h.2 with ⟨rfl, rfl⟩ | ⟨g, cap, _, rfl, _⟩
  · exact ⟨_, _, rfl⟩
  · exact ⟨_, _, rfl⟩
theorem own_fr {e : TypeId} {size : Nat} {G : Nat → Prop} {w w' : World} {v : Value} {n : Nat} {xs : List Value} {base : Nat} (h : w.ownsRow base e size v n xs) (hf : Fr G w w') (hn : ∀ k, v.ownBlock = some k → ¬ G k) : w'.ownsRow base e size v n xs := by
  refine ⟨h.1, ?_⟩
  rcases h.2 with h1 | ⟨g, cap, cur, rfl, hb, hg, r⟩
  · exact .inl h1
  · exact .inr ⟨g, cap, cur, rfl, hb, (hf.block g (Array.getElem?_eq_some_iff.1 hg).1 (hn g rfl)).trans hg, r⟩
theorem size_alloc (w : World) (o : Obj) : (w.alloc o).heap.size = w.heap.size + 1 := by simp
theorem size_setCell (w : World) (a : Addr) (u : Value) : (w.setCell a u).heap.size = w.heap.size := by simp [World.setCell]
/-- The slice v lies at the head of a block of its own: its cells, of elements that have size cells each. -/
theorem own_sl {w : World} {base : Nat} {e : TypeId} {v : Value} {n : Nat} {α : Type} {R : Rd α} {enc : α → Value} {l : List α} (h : w.ownsRow base e 1 v l.length (l.map enc)) (hc : l.length = n)
    (hR : ∀ x ∈ l, ∀ S, R w S [enc x] x) : RSl 1 R w (fun k => v.ownBlock = some k) [v] l := by
  rcases h.2 with ⟨rfl, h0⟩ | ⟨g, cap, cur, rfl, _, hg, h1, h2, h3, h4⟩
  · have : l = [] := List.eq_nil_of_length_eq_zero h0
    subst this
    exact ⟨none, 0, rfl, Nat.le_refl _, Nat.zero_le _, fun _ => rfl, fun i hi => by simp at hi⟩
  · refine ⟨some ⟨g, 0, none⟩, cap, rfl, h1, h2, fun h => (by cases h), fun i hi => ⟨⟨g, 0, none⟩, [enc l[i]], rfl, rfl, rfl, fun j hj => ?_, hR _ (List.getElem_mem hi) _⟩⟩
    obtain rfl : j = 0 := by omega
    have hh := h.cells (g := g) rfl i (enc l[i]) (by simp [hi])
    simpa using hh
/-- The blocks that came between the two worlds. -/
def New (w w' : World) : Nat → Prop := fun k => w.heap.size ≤ k ∧ k < w'.heap.size
/-- The block of the slice v. -/
def Of (v : Value) : Nat → Prop := fun k => v.ownBlock = some k
/-- An act on a thing in the blocks F: nothing else has turned; behind it the thing lies in F', among F and new blocks. -/
def Step (F : Nat → Prop) (w : World) (F' : Nat → Prop) (w' : World) : Prop := Fr F w w' ∧ (∀ k, F' k → F k ∨ New w w' k)
theorem Step.refl (F : Nat → Prop) (w : World) : Step F w F w := ⟨Fr.refl _ _, fun k h => .inl h⟩
theorem Step.trans {F F1 F2 : Nat → Prop} {w w1 w2 : World} (h : Step F w F1 w1) (k : Step F1 w1 F2 w2) : Step F w F2 w2 :=
  ⟨h.1.trans k.1 (fun b hb hl => by rcases h.2 b hb with h | h; exact h; exact absurd h.1 (by omega)), fun b hb => by
    rcases k.2 b hb with h2 | h2
    · rcases h.2 b h2 with h3 | h3
      · exact .inl h3
      · exact .inr ⟨h3.1, Nat.lt_of_lt_of_le h3.2 k.1.size⟩
    · exact .inr ⟨Nat.le_trans h.1.size h2.1, h2.2⟩⟩
theorem Step.of {v : Value} {w w' : World} {g n c : Nat} (h : Fr (Of v) w w') (hg : Of v g ∨ New w w' g) : Step (Of v) w (Of (.slice (some ⟨g, 0, none⟩) n c)) w' :=
  ⟨h, fun k hk => by
    have hk' : some g = some k := hk
    injection hk' with hk'
    subst hk'
    exact hg⟩
theorem Step.no {F : Nat → Prop} {w w' : World} (h : Fr No w w') : Step F w F w' := ⟨h.no _, fun k hk => .inl hk⟩
section
variable {P : Program} {W : World} {ops : Array Oper} {rest : List Oper} {o : Oper} {a : Act} {Q : Exit → Act → World → Prop}
/-- 'out = append(out, x)', out a slice of the call's own. -/
theorem wp_push (hgd : o.guard = none) (s x : Operand) (t : TypeId) (ho : o.op = .call { callee := .builtin .append, args := #[s, x], argTypes := #[t, t] })
    (e : TypeId) (z : Value) (size bytes : Nat) (ht : P.underlying t = some (.slice e)) (hinfo : (P.info? e).map (fun i => (i.zero, i.size, i.bytes)) = some (some z, size, bytes)) (hzs : z.cells.size = size) (hsz : 0 < size)
    (v : Value) (n : Nat) (xs : List Value) (hs : a.eval s = v) (hown : W.ownsRow 0 e size v n xs)
    (cs : Array Value) (hx : a.eval x = .slice (some ⟨W.heap.size, 0, none⟩) 1 1) (hcs : cs.size = size) (h1 : ∀ u ∈ cs.toList, u.oneCell' = true)
    (hn : (n + 1) * bytes ≤ 140737488355328) (hn2 : n + 1 ≤ maxLen)
    (h : ∀ g cap w', w'.ownsRow 0 e size (.slice (some ⟨g, 0, none⟩) (n + 1) cap) (n + 1) (xs ++ cs.toList) → Fr (Of v) W w' → (Of v g ∨ New W w' g) →
      wpList P ops Q rest (a.put o.dst (.slice (some ⟨g, 0, none⟩) (n + 1) cap)) w') : wpList P ops Q (o :: rest) a (W.alloc (.cells cs e)) := by
  obtain ⟨i0, hi, hz0, hz1, hz2⟩ := info_parts hinfo
  refine wpList_append_lies _ hgd s x t ho 0 e i0 z size bytes ht hi hz0 hz1 hz2 hzs hsz v n xs hs (hown.alloc _) ⟨W.heap.size, 0, none⟩ 1 1 cs.toList hx (by simpa using hcs) (cell_lit W cs e) h1 (by decide) hn2 hn (Nat.zero_le _) _ rfl ?_
  intro g cap w' h2 h3 h4 h5
  refine h g cap w' h2 (((Fr.refl _ _).alloc _).grown h3 (fun k hk => .inl hk)) (h4.elim .inl fun h => .inr ⟨?_, h5⟩)
  rw [h]; simp
/-- 'out = append(out, x, y, ..)', out a slice of the call's own. -/
theorem wp_pushes (m : Nat) (hm : 0 < m) (hgd : o.guard = none) (s x : Operand) (t : TypeId) (ho : o.op = .call { callee := .builtin .append, args := #[s, x], argTypes := #[t, t] })
    (e : TypeId) (z : Value) (size bytes : Nat) (ht : P.underlying t = some (.slice e)) (hinfo : (P.info? e).map (fun i => (i.zero, i.size, i.bytes)) = some (some z, size, bytes)) (hzs : z.cells.size = size) (hsz : 0 < size)
    (v : Value) (n : Nat) (xs : List Value) (hs : a.eval s = v) (hown : W.ownsRow 0 e size v n xs)
    (cs : Array Value) (hx : a.eval x = .slice (some ⟨W.heap.size, 0, none⟩) m m) (hcs : cs.size = m * size) (h1 : ∀ u ∈ cs.toList, u.oneCell' = true)
    (hn : (n + m) * bytes ≤ 140737488355328) (hn2 : n + m ≤ maxLen)
    (h : ∀ g cap w', w'.ownsRow 0 e size (.slice (some ⟨g, 0, none⟩) (n + m) cap) (n + m) (xs ++ cs.toList) → Fr (Of v) W w' → (Of v g ∨ New W w' g) →
      wpList P ops Q rest (a.put o.dst (.slice (some ⟨g, 0, none⟩) (n + m) cap)) w') : wpList P ops Q (o :: rest) a (W.alloc (.cells cs e)) := by
  obtain ⟨i0, hi, hz0, hz1, hz2⟩ := info_parts hinfo
  refine wpList_append_lies _ hgd s x t ho 0 e i0 z size bytes ht hi hz0 hz1 hz2 hzs hsz v n xs hs (hown.alloc _) ⟨W.heap.size, 0, none⟩ m m cs.toList hx (by simpa using hcs) (cell_lit W cs e) h1 hm hn2 hn (Nat.zero_le _) _ rfl ?_
  intro g cap w' h2 h3 h4 h5
  refine h g cap w' h2 (((Fr.refl _ _).alloc _).grown h3 (fun k hk => .inl hk)) (h4.elim .inl fun h => .inr ⟨?_, h5⟩)
  rw [h]; simp
/-- 'out = append(out, l...)'. -/
theorem wp_app {B : Option Addr} {m c : Nat} {news : List Value} (hgd : o.guard = none) (s x : Operand) (t : TypeId) (ho : o.op = .call { callee := .builtin .append, args := #[s, x], argTypes := #[t, t] })
    (e : TypeId) (z : Value) (size bytes : Nat) (ht : P.underlying t = some (.slice e)) (hinfo : (P.info? e).map (fun i => (i.zero, i.size, i.bytes)) = some (some z, size, bytes)) (hzs : z.cells.size = size) (hsz : 0 < size)
    (v : Value) (n : Nat) (xs : List Value) (hs : a.eval s = v) (hown : W.ownsRow 0 e size v n xs)
    (hx : a.eval x = .slice B m c) (hl : news.length = m * size) (hnews : ∀ j u, news[j]? = some u → ∃ ad, B = some ad ∧ W.cell? (ad.add j) = some u) (h1 : ∀ u ∈ news, u.oneCell' = true)
    (hn : (n + m) * bytes ≤ 140737488355328) (hn2 : n + m ≤ maxLen)
    (h : ∀ v' w', w'.ownsRow 0 e size v' (n + m) (xs ++ news) → Fr (Of v) W w' → (∀ g, Of v' g → Of v g ∨ New W w' g) →
      wpList P ops Q rest (a.put o.dst v') w') : wpList P ops Q (o :: rest) a W := by
  obtain ⟨i0, hi, hz0, hz1, hz2⟩ := info_parts hinfo
  by_cases hm : m = 0
  · have hnil : news = [] := List.eq_nil_of_length_eq_zero (by rw [hl, hm]; simp)
    subst hnil hm
    refine wpList_plain hgd fun K hK => ?_
    have hrun : (Builtin.append_ #[t, t] o.type #[v, .slice B 0 c]).run P W = .ok v W := by
      rcases hown.2 with ⟨rfl, rfl⟩ | ⟨g, cap, cur, rfl, _, _, hnc, _⟩
      · cases B <;> simp [Builtin.append_, run_underlying ht, sizeOf, typeInfo, hi, Builtin.lenOf, Builtin.firstCells, loadCells, loadCellsFrom]
      · cases B <;> simp [Builtin.append_, run_underlying ht, sizeOf, typeInfo, hi, Builtin.lenOf, Builtin.firstCells, loadCells, loadCellsFrom, hnc, storeCells]
    unfold Oper.wp execOp
    simp only [ho, resolve, invoke, builtin, Sem.run_bind, Sem.run_pure, Result.andThen_ok, List.map_toArray, List.map_cons, List.map_nil, hs, hx, hrun]
    exact hK _ _ (h v W (by simpa using hown) (Fr.refl _ _) fun g hg => .inl hg)
  · obtain ⟨u0, hu0⟩ : ∃ u, news[0]? = some u := ⟨_, List.getElem?_eq_getElem (by rw [hl]; exact Nat.mul_pos (by omega) hsz)⟩
    obtain ⟨ad, rfl, _⟩ := hnews 0 u0 hu0
    refine wpList_append_lies _ hgd s x t ho 0 e i0 z size bytes ht hi hz0 hz1 hz2 hzs hsz v n xs hs hown ad m c news hx hl (fun j u hu => by obtain ⟨ad', e', h'⟩ := hnews j u hu; injection e' with e'; subst e'; exact h') h1 (by omega) hn2 hn (Nat.zero_le _) _ rfl ?_
    intro g cap w' h2 h3 h4 h5
    refine h _ w' h2 ((Fr.refl _ _).grown h3 (fun k hk => .inl hk)) fun k hk => ?_
    have hk' : some g = some k := hk
    injection hk' with hk'
    subst hk'
    exact h4.elim .inl fun h => .inr ⟨by omega, h5⟩
end
theorem sl_news {w : World} {S : Nat → Prop} {A : Option Addr} {n cap : Nat} {α : Type} {R : Rd α} {enc : α → Value} {l : List α} (hv : RSl 1 R w S [.slice A n cap] l) (hR : ∀ x S w cs, R w S cs x → cs = [enc x]) :
    ∀ j u, (l.map enc)[j]? = some u → ∃ ad, A = some ad ∧ w.cell? (ad.add j) = some u := by
  intro j u hu
  obtain ⟨A', cap', hA, _, _, _, hel⟩ := hv
  injection hA with hA _
  injection hA with hA _ _
  subst hA
  have hj : j < l.length := by
    have := (List.getElem?_eq_some_iff.1 hu).1
    simpa using this
  obtain ⟨ad, ecs, e, _, _, hc, hr⟩ := hel j hj
  have h0 := hc 0 (by omega)
  rw [hR _ _ _ _ hr] at h0
  refine ⟨ad, e, ?_⟩
  rw [← hu]
  simpa [hj] using h0
theorem quiet_left {P : Program} {f : FuncId} {args : Array Value} {w : World} {n : Nat} {v : Value}
    (h : Calls P f args (w.drewN n) fun e w' => e = .returned v ∧ w.drewN n = w') : Calls P f args (w.drewN n) fun e w'' => e = .returned v ∧ ∃ m, w'' = w.drewN m :=
  h.mono fun _ _ ⟨he, hm⟩ => ⟨he, n, hm.symm⟩
end Go.Proofs.Ytmmdiccpifepfaa
/- Rows of bytes, texts made of them; the append laws where a region draws its order. Plain lemmas. -/
namespace Go.Proofs.Ytmmdiccpifepfaa
open Go.RowKit
set_option linter.unusedVariables false

def encB (c : UInt8) : Value := .int .u8 c.toNat
def RByte : Rd UInt8 := fun _ _ cs c => cs = [encB c]
theorem RByte.stable : Rd.Stable RByte := ⟨fun h _ _ => h⟩
theorem encB_one (l : List UInt8) : ∀ u ∈ l.map encB, u.oneCell' = true := by
  intro u hu
  obtain ⟨x, _, rfl⟩ := List.mem_map.1 hu
  rfl
theorem bytes_go {w w' : World} {S S' : Nat → Prop} {cs : List Value} {l : List UInt8} (h : RSl 1 RByte w S cs l) (hk : Kept S w w') (hs : ∀ k, S k → S' k) : RSl 1 RByte w' S' cs l := (RSl.stable RByte.stable).go h hk hs
theorem own_bytes {w : World} {base : Nat} {e : TypeId} {v : Value} {l : List UInt8} (h : w.ownsRow base e 1 v l.length (l.map encB)) : RSl 1 RByte w (Of v) [v] l := own_sl h rfl fun x _ _ => rfl
theorem bytes_none {w : World} {S : Nat → Prop} : RSl 1 RByte w S [.slice none 0 0] [] := ⟨none, 0, rfl, Nat.le_refl _, Nat.zero_le _, fun _ => rfl, fun i hi => by simp at hi⟩
theorem bytes_news {w : World} {S : Nat → Prop} {A : Option Addr} {n cap : Nat} {l : List UInt8} (hv : RSl 1 RByte w S [.slice A n cap] l) :
    ∀ j u, (l.map encB)[j]? = some u → ∃ ad, A = some ad ∧ w.cell? (ad.add j) = some u := sl_news hv fun x S w cs h => h
/-- 'string(b)'. -/
theorem conv_bytes {P : Program} {w : World} {S : Nat → Prop} {A : Option Addr} {n c : Nat} {l : List UInt8} (src dst e : TypeId) (hs : P.underlying src = some (.slice e)) (he : P.underlying e = some (.int .u8)) (hd : P.underlying dst = some .string)
    (hv : RSl 1 RByte w S [.slice A n c] l) : (convert src dst (.slice A n c)).run P w = .ok (.string ⟨l.toArray⟩) w := by
  obtain ⟨A', cap, hA, _, _, _, hel⟩ := hv
  injection hA with hA _
  injection hA with hA hn hc
  subst hA hn hc
  cases A with
  | none =>
    have : l = [] := by
      cases l with
      | nil => rfl
      | cons a l => obtain ⟨ad, _, h, _⟩ := hel 0 (by simp); cases h
    subst this
    exact Lib.run_convert_nil_bytes w src dst e c hs he hd
  | some ad =>
    refine run_convert_bytes_back w src dst e ad c l hs he hd fun j hj => ?_
    obtain ⟨ad', ecs, e1, _, _, h4, h5⟩ := hel j hj
    injection e1 with e1
    subst e1
    have := h4 0 (by omega)
    rw [h5] at this
    simpa [encB] using this
theorem u8_t {c d : UInt8} {n : Int} (hd : (d.toNat : Int) = n) (h : c = d) : ((c.toNat : Int) == n) = true ∧ ((c.toNat : Int) != n) = false := by subst h; rw [hd]; simp
theorem u8_f {c d : UInt8} {n : Int} (hd : (d.toNat : Int) = n) (h : ¬ c = d) : ((c.toNat : Int) == n) = false ∧ ((c.toNat : Int) != n) = true := by
  have : ¬ (c.toNat : Int) = n := fun e => h (UInt8.toNat_inj.1 (by omega))
  simp [this]
/-- 's[i:j]' of a text. -/
theorem slice_str {P : Program} (w : World) (T : TypeId) (hT : P.underlying T = some .string) (s : Str) (i j : Int) (a b : Nat) (hi : i = a) (hj : j = b) (h : a ≤ b) (hb : b ≤ s.length) :
    (Instr.slice T (.string ⟨s.toArray⟩) (some (.int .i64 i)) (some (.int .i64 j)) none).run P w = .ok (.string ⟨((s.drop a).take (b - a)).toArray⟩) w := by
  rw [run_slice_string w T ⟨s.toArray⟩ .i64 .i64 i j hT (by omega) (by omega) (by rw [hj]; show (b : Int) ≤ ((s.toArray.size : Nat) : Int); simp; omega), ByteArray.extract_mk]
  rw [show i.toNat = a by omega, show j.toNat = b by omega]
/-- 's[i:i+1]' of a text. -/
theorem slice_one {P : Program} (w : World) (T : TypeId) (hT : P.underlying T = some .string) (s : Str) (i j : Int) (a : Nat) (ha : a < s.length) (hi : i = a) (hj : j = a + 1) :
    (Instr.slice T (.string ⟨s.toArray⟩) (some (.int .i64 i)) (some (.int .i64 j)) none).run P w = .ok (.string ⟨[s[a]].toArray⟩) w := by
  rw [slice_str w T hT s i j a (a + 1) hi (by omega) (by omega) (by omega), List.drop_eq_getElem_cons ha, show a + 1 - a = 1 by omega]
  rfl
section
variable {P : Program} {W : World} {ops : Array Oper} {o : Oper} {a : Act} {Q : Exit → Act → World → Prop} {K : Act → World → Prop} {E : Prop}
/-- 'out = append(out, x)', at a step of a region that draws its order. -/
theorem step_push (hgd : o.guard = none) (s x : Operand) (t : TypeId) (ho : o.op = .call { callee := .builtin .append, args := #[s, x], argTypes := #[t, t] })
    (e : TypeId) (z : Value) (size bytes : Nat) (ht : P.underlying t = some (.slice e)) (hinfo : (P.info? e).map (fun i => (i.zero, i.size, i.bytes)) = some (some z, size, bytes)) (hzs : z.cells.size = size) (hsz : 0 < size)
    (v : Value) (n : Nat) (xs : List Value) (hs : a.eval s = v) (hown : W.ownsRow 0 e size v n xs)
    (cs : Array Value) (hx : a.eval x = .slice (some ⟨W.heap.size, 0, none⟩) 1 1) (hcs : cs.size = size) (h1 : ∀ u ∈ cs.toList, u.oneCell' = true)
    (hn : (n + 1) * bytes ≤ 140737488355328) (hn2 : n + 1 ≤ maxLen)
    (h : ∀ g cap w', w'.ownsRow 0 e size (.slice (some ⟨g, 0, none⟩) (n + 1) cap) (n + 1) (xs ++ cs.toList) → Fr (Of v) W w' → (Of v g ∨ New W w' g) →
      K (a.put o.dst (.slice (some ⟨g, 0, none⟩) (n + 1) cap)) w') :
    if Region.wanted o (yielded ops a.tmps) = true then Oper.wp P o a (W.alloc (.cells cs e)) K Q else E := by
  obtain ⟨i0, hi, hz0, hz1, hz2⟩ := info_parts hinfo
  refine step_append_lies _ hgd s x t ho 0 e i0 z size bytes ht hi hz0 hz1 hz2 hzs hsz v n xs hs (hown.alloc _) ⟨W.heap.size, 0, none⟩ 1 1 cs.toList hx (by simpa using hcs) (cell_lit W cs e) h1 (by decide) hn2 hn (Nat.zero_le _) _ rfl ?_
  intro g cap w' h2 h3 h4 h5
  refine h g cap w' h2 (((Fr.refl _ _).alloc _).grown h3 (fun k hk => .inl hk)) (h4.elim .inl fun h => .inr ⟨?_, h5⟩)
  rw [h]; simp
/-- 'out = append(out, x)', at a step of a region that draws its order. -/
theorem step_pushD (hgd : o.guard = none) (s x : Operand) (t : TypeId) (ho : o.op = .call { callee := .builtin .append, args := #[s, x], argTypes := #[t, t] })
    (e : TypeId) (z : Value) (size bytes : Nat) (ht : P.underlying t = some (.slice e)) (hinfo : (P.info? e).map (fun i => (i.zero, i.size, i.bytes)) = some (some z, size, bytes)) (hzs : z.cells.size = size) (hsz : 0 < size)
    (v : Value) (n : Nat) (xs : List Value) (hs : a.eval s = v) (hown : W.ownsRow 0 e size v n xs)
    (cs : Array Value) (hx : a.eval x = .slice (some ⟨W.heap.size, 0, none⟩) 1 1) (hcs : cs.size = size) (h1 : ∀ u ∈ cs.toList, u.oneCell' = true)
    (hn : (n + 1) * bytes ≤ 140737488355328) (hn2 : n + 1 ≤ maxLen)
    (h : ∀ g cap w', w'.ownsRow 0 e size (.slice (some ⟨g, 0, none⟩) (n + 1) cap) (n + 1) (xs ++ cs.toList) → Fr (Of v) W w' → (Of v g ∨ New W w' g) →
      K (a.put o.dst (.slice (some ⟨g, 0, none⟩) (n + 1) cap)) w') :
    if Region.wanted o (yielded ops a.tmps) = true then Oper.wp P o a (W.alloc (.cells cs e)).drew K Q else E :=
  step_push hgd s x t ho e z size bytes ht hinfo hzs hsz v n xs hs (W := W.drew) hown cs hx hcs h1 hn hn2 fun g cap w' h2 h3 h4 => h g cap w' h2 ⟨h3.os, h3.tape, h3.output, h3.size, h3.block⟩ h4
end
end Go.Proofs.Ytmmdiccpifepfaa
/- Rows of elements that have no memory of their own: read, cut, laid. Plain lemmas over any program. -/
namespace Go.Proofs.Ytmmdiccpifepfaa
open Go.RowKit
set_option linter.unusedVariables false
set_option linter.unusedSimpArgs false
/-- Nothing but the block b. -/
def One (b : Nat) : Nat → Prop := fun k => k = b
namespace Sls
theorem sl_at {α : Type} {n m c i : Nat} {R : Rd α} {w : World} {S : Nat → Prop} {A : Option Addr} {l : List α} (h : RSl n R w S [.slice A m c] l) (hi : i < l.length) :
    ∃ ad ecs, A = some ad ∧ S ad.block ∧ ecs.length = n ∧ (∀ j, j < n → w.cell? ((ad.add (i * n)).add j) = ecs[j]?) ∧ R w S ecs l[i] := by
  obtain ⟨A', cap, h1, h2, h3, h4, h5⟩ := h
  injection h1 with h1 _
  injection h1 with h1 h6 h7
  subst h1
  obtain ⟨ad, ecs, g1, g2, g3, g4, g5⟩ := h5 i hi
  exact ⟨ad, ecs, g1, g2, g3, fun j hj => by rw [add_add]; exact g4 j hj, g5⟩
theorem flat_get {α : Type} (l : List (List α)) (k i j : Nat) (hi : i < l.length) (hk : ∀ x ∈ l, x.length = k) (hj : j < k) : (l.flatten)[i * k + j]? = (l[i])[j]? := by
  induction l generalizing i with
  | nil => simp at hi
  | cons x l ih =>
    have hx : x.length = k := hk x (by simp)
    cases i with
    | zero => rw [List.flatten_cons, Nat.zero_mul, Nat.zero_add, List.getElem?_append_left (by omega)]; rfl
    | succ i =>
      have h1 : (i + 1) * k + j - x.length = i * k + j := by rw [hx, Nat.add_mul]; omega
      rw [List.flatten_cons, List.getElem?_append_right (by rw [hx, Nat.add_mul]; omega), h1, ih i (by simpa using hi) fun y hy => hk y (List.mem_cons_of_mem _ hy)]
      rfl
theorem fm_get {α : Type} (l : List α) (enc : α → List Value) (k i j : Nat) (hi : i < l.length) (hk : ∀ x ∈ l, (enc x).length = k) (hj : j < k) : (l.flatMap enc)[i * k + j]? = (enc l[i])[j]? := by
  have h := flat_get (l.map enc) k i j (by simpa using hi) (by simpa using hk) hj
  rw [List.getElem_map] at h
  rw [← h]
  simp [List.flatMap_def]
/-- A row of the call's own reads as its elements. -/
theorem own_slE {w : World} {base : Nat} {e : TypeId} {k : Nat} {v : Value} {α : Type} {R : Rd α} {enc : α → List Value} {l : List α} {S : Nat → Prop} (h : w.ownsRow base e k v l.length (l.flatMap enc)) (hk : ∀ x ∈ l, (enc x).length = k)
    (hR : ∀ x ∈ l, R w S (enc x) x) (hS : ∀ b, Of v b → S b) : RSl k R w S [v] l := by
  rcases h.2 with ⟨rfl, h0⟩ | ⟨g, cap, cur, rfl, _, hg, h1, h2, h3, h4⟩
  · have : l = [] := List.eq_nil_of_length_eq_zero (by omega)
    subst this
    exact ⟨none, 0, rfl, Nat.le_refl _, Nat.zero_le _, fun _ => rfl, fun i hi => by simp at hi⟩
  · refine ⟨some ⟨g, 0, none⟩, cap, rfl, by omega, h2, fun h => (by cases h), fun i hi => ⟨⟨g, 0, none⟩, enc l[i], rfl, hS _ rfl, hk _ (List.getElem_mem _), fun j hj => ?_, hR _ (List.getElem_mem _)⟩⟩
    have e1 : (l.flatMap enc)[i * k + j]? = some ((enc l[i])[j]'(by rw [hk _ (List.getElem_mem _)]; exact hj)) := by
      rw [fm_get l enc k i j hi hk hj]
      exact List.getElem?_eq_getElem _
    have hh := h.cells (g := g) rfl (i * k + j) _ e1
    rw [hh, List.getElem?_eq_getElem]
/-- The cells of a row that is read, as what an append copies. -/
theorem sl_news {α : Type} {k : Nat} (hk0 : 0 < k) {R : Rd α} {enc : α → List Value} {w : World} {S : Nat → Prop} {A : Option Addr} {n c : Nat} {l : List α} (h : RSl k R w S [.slice A n c] l) (hk : ∀ x ∈ l, (enc x).length = k)
    (hR : ∀ cs x, R w S cs x → cs = enc x) : ∀ j u, (l.flatMap enc)[j]? = some u → ∃ ad, A = some ad ∧ w.cell? (ad.add j) = some u := by
  intro j u hj
  have hlen : (l.flatMap enc).length = l.length * k := by
    clear hj h
    induction l with
    | nil => simp
    | cons x l ih => rw [List.flatMap_cons, List.length_append, hk x (by simp), ih fun y hy => hk y (List.mem_cons_of_mem _ hy), List.length_cons, Nat.add_mul]; omega
  have hlt : j < l.length * k := by rw [← hlen]; exact (List.getElem?_eq_some_iff.1 hj).1
  have hi : j / k < l.length := (Nat.div_lt_iff_lt_mul hk0).2 hlt
  have hm : j % k < k := Nat.mod_lt _ hk0
  have e : j / k * k + j % k = j := by have := Nat.div_add_mod j k; rw [Nat.mul_comm] at this; exact this
  obtain ⟨ad, ecs, h1, h2, h3, h4, h5⟩ := sl_at h hi
  refine ⟨ad, h1, ?_⟩
  have := h4 (j % k) hm
  rw [add_add, e, hR _ _ h5, ← fm_get l enc k (j / k) (j % k) hi hk hm, e] at this
  rw [this, hj]
/-- A row from its k-th element on. -/
theorem sl_drop {α : Type} {n m c k : Nat} {R : Rd α} {w : World} {S : Nat → Prop} {ad : Addr} {l : List α} (h : RSl n R w S [.slice (some ad) m c] l) (hk : k ≤ l.length) : RSl n R w S [.slice (some (ad.add (k * n))) (m - k) (c - k)] (l.drop k) := by
  obtain ⟨A', cap, h1, h2, h3, h4, h5⟩ := h
  injection h1 with h1 _
  injection h1 with h1 h6 h7
  subst h1 h6 h7
  refine ⟨some (ad.add (k * n)), _, by rw [List.length_drop], by rw [List.length_drop]; omega, by omega, fun h => (by cases h), fun i hi => ?_⟩
  rw [List.length_drop] at hi
  obtain ⟨ad', ecs, g1, g2, g3, g4, g5⟩ := h5 (k + i) (by omega)
  injection g1 with g1
  subst g1
  refine ⟨ad.add (k * n), ecs, rfl, by rw [block_add]; exact g2, g3, fun j hj => ?_, by rw [List.getElem_drop]; exact g5⟩
  rw [add_add, show k * n + (i * n + j) = (k + i) * n + j by rw [Nat.add_mul]; omega]
  exact g4 j hj
theorem sl_nil {α : Type} {n m c : Nat} {R : Rd α} {w : World} {S : Nat → Prop} {A : Option Addr} {l : List α} (h : RSl n R w S [.slice A m c] l) : m = l.length ∧ l.length ≤ c ∧ c ≤ maxLen ∧ (A = none → l = []) := by
  obtain ⟨A', cap, h1, h2, h3, h4, h5⟩ := h
  injection h1 with h1 _
  injection h1 with h1 h6 h7
  subst h1 h6 h7
  exact ⟨rfl, h2, h3, fun e => List.eq_nil_of_length_eq_zero (by have := h4 e; omega)⟩
theorem own_keep {e : TypeId} {size : Nat} {w w' : World} {v : Value} {n : Nat} {xs : List Value} {base : Nat} {F : Nat → Prop} (h : w.ownsRow base e size v n xs) (hf : Fr F w w') (hn : ∀ k, Of v k → ¬ F k) : w'.ownsRow base e size v n xs := own_fr h hf hn
/-- A row that a call builds by append: its elements have no memory of their own; nothing else has turned. -/
structure Grow {α : Type} (w wr : World) (e : TypeId) (k : Nat) (enc : α → List Value) (v : Value) (l : List α) : Prop where
  own : wr.ownsRow 0 e k v l.length (l.flatMap enc)
  new : ∀ b, Of v b → New w wr b
  fr : Fr No w wr
section
variable {α : Type} {w wr w2 : World} {e : TypeId} {k : Nat} {enc : α → List Value} {v v' : Value} {l m : List α} {x : α}
theorem Grow.start (w : World) (e : TypeId) (k : Nat) (enc : α → List Value) : Grow w w e k enc (.slice none 0 0) [] := ⟨World.ownsRow_nil _ _ _ _, fun b h => (by cases h), Fr.refl _ _⟩
theorem Grow.form (h : Grow w wr e k enc v l) : ∃ A c, v = .slice A l.length c := own_form h.own
theorem Grow.no (h : Grow w wr e k enc v l) (hf : Fr No wr w2) : Grow w w2 e k enc v l := ⟨own_fr h.own hf (fun _ _ h => h), fun b hb => ⟨(h.new b hb).1, Nat.lt_of_lt_of_le (h.new b hb).2 hf.size⟩, h.fr.then_no hf⟩
theorem Grow.app (h : Grow w wr e k enc v l) (ho : w2.ownsRow 0 e k v' (l.length + m.length) (l.flatMap enc ++ m.flatMap enc)) (hf : Fr (Of v) wr w2) (hn : ∀ g, Of v' g → Of v g ∨ New wr w2 g) : Grow w w2 e k enc v' (l ++ m) := by
  refine ⟨by rw [List.length_append, List.flatMap_append]; exact ho, fun b hb => ?_, h.fr.trans hf fun b hb hl => ?_⟩
  · rcases hn b hb with h1 | h1
    · have := h.new b h1; exact ⟨this.1, Nat.lt_of_lt_of_le this.2 hf.size⟩
    · exact ⟨Nat.le_trans h.fr.size h1.1, h1.2⟩
  · have := (h.new b hb).1; omega
theorem Grow.push {g c : Nat} (h : Grow w wr e k enc v l) (ho : w2.ownsRow 0 e k (.slice (some ⟨g, 0, none⟩) (l.length + 1) c) (l.length + 1) (l.flatMap enc ++ enc x)) (hf : Fr (Of v) wr w2) (hn : Of v g ∨ New wr w2 g) : Grow w w2 e k enc (.slice (some ⟨g, 0, none⟩) (l.length + 1) c) (l ++ [x]) :=
  h.app (m := [x]) (by simpa using ho) hf fun b hb => by
    have hb' : some g = some b := hb
    injection hb' with hb'
    subst hb'
    exact hn
theorem Grow.sl {R : Rd α} (h : Grow w wr e k enc v l) (hk : ∀ x ∈ l, (enc x).length = k) (hR : ∀ x ∈ l, ∀ w S, R w S (enc x) x) : RSl k R wr (New w wr) [v] l := own_slE h.own hk (fun x hx => hR x hx _ _) h.new
end
end Sls
end Go.Proofs.Ytmmdiccpifepfaa
/- Appends of several elements at once, at a step of a region that draws its order. -/
namespace Go.Proofs.Ytmmdiccpifepfaa
open Go.RowKit
set_option linter.unusedVariables false
namespace Sls
/-- 's[i:]' of a text. -/
theorem slice_from {P : Program} (w : World) (T : TypeId) (hT : P.underlying T = some .string) (s : Str) (i : Int) (a : Nat) (hi : i = a) (h : a ≤ s.length) :
    (Instr.slice T (.string ⟨s.toArray⟩) (some (.int .i64 i)) none none).run P w = .ok (.string ⟨(s.drop a).toArray⟩) w := by
  rw [run_slice_string_from_if w T ⟨s.toArray⟩ .i64 i hT, if_pos ⟨by omega, by rw [hi]; show (a : Int) ≤ ((s.toArray.size : Nat) : Int); simp; omega⟩]
  have e : (⟨s.toArray⟩ : ByteArray).size = s.length := by simp [ByteArray.size]
  rw [e, ByteArray.extract_mk, show i.toNat = a by omega]
  simp
  rw [List.take_of_length_le (by simp)]
/-- 's[:j]' of a text. -/
theorem slice_to {P : Program} (w : World) (T : TypeId) (hT : P.underlying T = some .string) (s : Str) (i : Int) (a : Nat) (hi : i = a) (h : a ≤ s.length) :
    (Instr.slice T (.string ⟨s.toArray⟩) none (some (.int .i64 i)) none).run P w = .ok (.string ⟨(s.take a).toArray⟩) w := by
  rw [run_slice_string_to_if w T ⟨s.toArray⟩ .i64 i hT, if_pos ⟨by omega, by rw [hi]; show (a : Int) ≤ ((s.toArray.size : Nat) : Int); simp; omega⟩]
  rw [ByteArray.extract_mk, show i.toNat = a by omega]
  simp
section
variable {P : Program} {W : World} {ops : Array Oper} {o : Oper} {a : Act} {Q : Exit → Act → World → Prop} {K : Act → World → Prop} {E : Prop}
/-- 'out = append(out, x, y, ..)', at a step of a region that draws its order. -/
theorem step_pushes (m : Nat) (hm : 0 < m) (hgd : o.guard = none) (s x : Operand) (t : TypeId) (ho : o.op = .call { callee := .builtin .append, args := #[s, x], argTypes := #[t, t] })
    (e : TypeId) (z : Value) (size bytes : Nat) (ht : P.underlying t = some (.slice e)) (hinfo : (P.info? e).map (fun i => (i.zero, i.size, i.bytes)) = some (some z, size, bytes)) (hzs : z.cells.size = size) (hsz : 0 < size)
    (v : Value) (n : Nat) (xs : List Value) (hs : a.eval s = v) (hown : W.ownsRow 0 e size v n xs)
    (cs : Array Value) (hx : a.eval x = .slice (some ⟨W.heap.size, 0, none⟩) m m) (hcs : cs.size = m * size) (h1 : ∀ u ∈ cs.toList, u.oneCell' = true)
    (hn : (n + m) * bytes ≤ 140737488355328) (hn2 : n + m ≤ maxLen)
    (h : ∀ g cap w', w'.ownsRow 0 e size (.slice (some ⟨g, 0, none⟩) (n + m) cap) (n + m) (xs ++ cs.toList) → Fr (Of v) W w' → (Of v g ∨ New W w' g) →
      K (a.put o.dst (.slice (some ⟨g, 0, none⟩) (n + m) cap)) w') :
    if Region.wanted o (yielded ops a.tmps) = true then Oper.wp P o a (W.alloc (.cells cs e)) K Q else E := by
  obtain ⟨i0, hi, hz0, hz1, hz2⟩ := info_parts hinfo
  refine step_append_lies _ hgd s x t ho 0 e i0 z size bytes ht hi hz0 hz1 hz2 hzs hsz v n xs hs (hown.alloc _) ⟨W.heap.size, 0, none⟩ m m cs.toList hx (by simpa using hcs) (cell_lit W cs e) h1 hm hn2 hn (Nat.zero_le _) _ rfl ?_
  intro g cap w' h2 h3 h4 h5
  refine h g cap w' h2 (((Fr.refl _ _).alloc _).grown h3 (fun k hk => .inl hk)) (h4.elim .inl fun h => .inr ⟨?_, h5⟩)
  rw [h]; simp
/-- 'out = append(out, x, y, ..)', at a step of a region that draws its order. -/
theorem step_pushesD (m : Nat) (hm : 0 < m) (hgd : o.guard = none) (s x : Operand) (t : TypeId) (ho : o.op = .call { callee := .builtin .append, args := #[s, x], argTypes := #[t, t] })
    (e : TypeId) (z : Value) (size bytes : Nat) (ht : P.underlying t = some (.slice e)) (hinfo : (P.info? e).map (fun i => (i.zero, i.size, i.bytes)) = some (some z, size, bytes)) (hzs : z.cells.size = size) (hsz : 0 < size)
    (v : Value) (n : Nat) (xs : List Value) (hs : a.eval s = v) (hown : W.ownsRow 0 e size v n xs)
    (cs : Array Value) (hx : a.eval x = .slice (some ⟨W.heap.size, 0, none⟩) m m) (hcs : cs.size = m * size) (h1 : ∀ u ∈ cs.toList, u.oneCell' = true)
    (hn : (n + m) * bytes ≤ 140737488355328) (hn2 : n + m ≤ maxLen)
    (h : ∀ g cap w', w'.ownsRow 0 e size (.slice (some ⟨g, 0, none⟩) (n + m) cap) (n + m) (xs ++ cs.toList) → Fr (Of v) W w' → (Of v g ∨ New W w' g) →
      K (a.put o.dst (.slice (some ⟨g, 0, none⟩) (n + m) cap)) w') :
    if Region.wanted o (yielded ops a.tmps) = true then Oper.wp P o a (W.alloc (.cells cs e)).drew K Q else E :=
  step_pushes m hm hgd s x t ho e z size bytes ht hinfo hzs hsz v n xs hs (W := W.drew) hown cs hx hcs h1 hn hn2 fun g cap w' h2 h3 h4 => h g cap w' h2 ⟨h3.os, h3.tape, h3.output, h3.size, h3.block⟩ h4
end
/-- A literal row, as a row that a call builds. -/
theorem Grow.lit {α : Type} (w : World) (e : TypeId) (k : Nat) (enc : α → List Value) (l : List α) (hk : (l.flatMap enc).length = l.length * k) (hm : l.length ≤ maxLen) :
    Grow w (w.alloc (.cells (l.flatMap enc).toArray e)) e k enc (.slice (some ⟨w.heap.size, 0, none⟩) l.length l.length) l := by
  refine ⟨⟨hk, .inr ⟨w.heap.size, l.length, (l.flatMap enc).toArray, rfl, Nat.zero_le _, Blk.new w e _, Nat.le_refl _, hm, by simpa using hk, by rw [List.toList_toArray, ← hk, List.take_length]⟩⟩, fun b hb => ?_, (Fr.refl _ _).alloc _⟩
  have hb' : some w.heap.size = some b := hb
  injection hb' with hb'
  subst hb'
  exact ⟨Nat.le_refl _, by simp⟩
end Sls
end Go.Proofs.Ytmmdiccpifepfaa
/- A row of bytes that a call builds by append: its laws. Plain lemmas over any program. -/
namespace Go.Proofs.Ytmmdiccpifepfaa
open Go.RowKit
set_option linter.unusedVariables false
set_option linter.unusedSimpArgs false
/-- Bytes that a call, begun at w, has laid; nothing that lay ahead has turned. -/
structure BRow (w wr : World) (e : TypeId) (v : Value) (l : Str) : Prop where
  own : wr.ownsRow w.heap.size e 1 v l.length (l.map encB)
  fr : Fr No w wr
section
variable {w wr w2 : World} {e : TypeId} {v : Value} {l : Str}
theorem BRow.start (w : World) (e : TypeId) : BRow w w e (.slice none 0 0) [] := ⟨World.ownsRow_nil _ _ _ _, Fr.refl _ _⟩
theorem BRow.form (h : BRow w wr e v l) : ∃ A c, v = .slice A l.length c := own_form h.own
theorem BRow.no (h : BRow w wr e v l) (hf : Fr No wr w2) : BRow w w2 e v l := ⟨own_fr h.own hf (fun _ _ h => h), h.fr.then_no hf⟩
theorem BRow.conv {P : Program} {src dst : TypeId} {A : Option Addr} {c n : Nat} (h : BRow w wr e (.slice A n c) l) (hs : P.underlying src = some (.slice e)) (he : P.underlying e = some (.int .u8)) (hd : P.underlying dst = some .string) : (convert src dst (.slice A n c)).run P wr = .ok (.string ⟨l.toArray⟩) wr :=
  conv_bytes src dst e hs he hd (own_bytes h.own)
theorem brow_grown {w w1 w3 : World} {xs : List Value} {n : Nat} {v : Value} {e : TypeId} (h : w1.ownsRow w.heap.size e 1 v n xs) (hf : Fr No w w1) (hg : w1.grownBy w3 v.ownBlock) : Fr No w w3 :=
  hf.grown hg fun k hk => .inr (h.lt k hk).1
end
section
variable {P : Program} {w W : World} {ops : Array Oper} {rest : List Oper} {o : Oper} {a : Act} {Q : Exit → Act → World → Prop}
/-- 'b = append(b, c)'. -/
theorem wp_bpush (hgd : o.guard = none) (s x : Operand) (t : TypeId) (ho : o.op = .call { callee := .builtin .append, args := #[s, x], argTypes := #[t, t] })
    (e : TypeId) (ht : P.underlying t = some (.slice e)) (hinfo : (P.info? e).map (fun i => (i.zero, i.size, i.bytes)) = some (some (.int .u8 0), 1, 1))
    (v : Value) (l : Str) (hs : a.eval s = v) (hb : BRow w W e v l) (c : UInt8) (n : Int) (hn : n = c.toNat) (hx : a.eval x = .slice (some ⟨W.heap.size, 0, none⟩) 1 1) (hl : l.length ≤ 100000000)
    (h : ∀ v' w', BRow w w' e v' (l ++ [c]) → wpList P ops Q rest (a.put o.dst v') w') : wpList P ops Q (o :: rest) a (W.alloc (.cells #[.int .u8 n] e)) := by
  obtain ⟨i0, hi, hz0, hz1, hz2⟩ := info_parts hinfo
  subst hn
  refine wpList_append_own _ hgd s x t ho w.heap.size e i0 (.int .u8 0) 1 1 ht hi hz0 hz1 hz2 rfl (by decide) v l.length (l.map encB) hs (hb.own.alloc _) ⟨W.heap.size, 0, none⟩ 1 1 [encB c] hx rfl (fun j u hu => ?_) (fun u hu => by rw [List.mem_singleton.1 hu]; rfl) (by unfold maxLen; omega) (by omega) (by have := hb.fr.size; simp; omega) ?_
  · have := cell_lit W #[encB c] e j u (by simpa using hu)
    exact this
  · intro v' w' h2 h3 _
    refine h v' w' ⟨by simpa using h2, brow_grown (hb.own.alloc _) (hb.fr.alloc _) h3⟩
/-- 'b = append(b, s...)', s a text. -/
theorem wp_bstr (hgd : o.guard = none) (s x : Operand) (t u : TypeId) (ho : o.op = .call { callee := .builtin .append, args := #[s, x], argTypes := #[t, u] })
    (e : TypeId) (ht : P.underlying t = some (.slice e)) (hu : P.underlying u = some .string) (hinfo : (P.info? e).map (fun i => (i.zero, i.size, i.bytes)) = some (some (.int .u8 0), 1, 1))
    (v : Value) (l : Str) (hs : a.eval s = v) (hb : BRow w W e v l) (m : Str) (hx : a.eval x = .string ⟨m.toArray⟩) (hl : l.length + m.length ≤ 100000000)
    (h : ∀ v' w', BRow w w' e v' (l ++ m) → wpList P ops Q rest (a.put o.dst v') w') : wpList P ops Q (o :: rest) a W := by
  obtain ⟨i0, hi, hz0, hz1, hz2⟩ := info_parts hinfo
  have hm : (⟨m.toArray⟩ : ByteArray).size = m.length := by simp [ByteArray.size]
  refine Lib.wpList_append_own_string _ hgd s x t u ho w.heap.size e i0 ht hu hi hz0 hz1 hz2 v l.length (l.map encB) hs hb.own ⟨m.toArray⟩ hx (by rw [hm]; unfold maxLen; omega) (by rw [hm]; omega) hb.fr.size ?_
  intro v' w' h2 h3 _
  refine h v' w' ⟨?_, brow_grown hb.own hb.fr h3⟩
  rw [hm] at h2
  have e1 : Lib.strCells ⟨m.toArray⟩ = m.map encB := by simp [Lib.strCells, encB]
  rw [e1, ← List.map_append, ← List.length_append] at h2
  exact h2
end
end Go.Proofs.Ytmmdiccpifepfaa
/- Appends of a row at a step of a region that draws its order. -/
namespace Go.Proofs.Ytmmdiccpifepfaa
open Go.RowKit
set_option linter.unusedVariables false
namespace Sls
/-- A block that is known whole, as a row of the call's own. -/
theorem own_blk {w : World} {g n size : Nat} {e : TypeId} {cs : Array Value} (h : Blk w g e cs) (hs : cs.size = n * size) (hm : n ≤ maxLen) : w.ownsRow 0 e size (.slice (some ⟨g, 0, none⟩) n n) n cs.toList :=
  ⟨by simpa using hs, .inr ⟨g, n, cs, rfl, Nat.zero_le _, h, Nat.le_refl _, hm, hs, by rw [← hs, ← Array.length_toList, List.take_length]⟩⟩
section
variable {P : Program} {W : World} {ops : Array Oper} {o : Oper} {a : Act} {Q : Exit → Act → World → Prop} {K : Act → World → Prop} {E : Prop}
/-- 'out = append(out, l...)', at a step of a region that draws its order. -/
theorem step_app {B : Option Addr} {m c : Nat} {news : List Value} (hgd : o.guard = none) (s x : Operand) (t : TypeId) (ho : o.op = .call { callee := .builtin .append, args := #[s, x], argTypes := #[t, t] })
    (e : TypeId) (z : Value) (size bytes : Nat) (ht : P.underlying t = some (.slice e)) (hinfo : (P.info? e).map (fun i => (i.zero, i.size, i.bytes)) = some (some z, size, bytes)) (hzs : z.cells.size = size) (hsz : 0 < size)
    (v : Value) (n : Nat) (xs : List Value) (hs : a.eval s = v) (hown : W.ownsRow 0 e size v n xs)
    (hx : a.eval x = .slice B m c) (hl : news.length = m * size) (hnews : ∀ j u, news[j]? = some u → ∃ ad, B = some ad ∧ W.cell? (ad.add j) = some u) (h1 : ∀ u ∈ news, u.oneCell' = true)
    (hn : (n + m) * bytes ≤ 140737488355328) (hn2 : n + m ≤ maxLen)
    (h : ∀ v' w', w'.ownsRow 0 e size v' (n + m) (xs ++ news) → Fr (Of v) W w' → (∀ g, Of v' g → Of v g ∨ New W w' g) → K (a.put o.dst v') w') :
    if Region.wanted o (yielded ops a.tmps) = true then Oper.wp P o a W K Q else E := by
  obtain ⟨i0, hi, hz0, hz1, hz2⟩ := info_parts hinfo
  by_cases hm : m = 0
  · have hnil : news = [] := List.eq_nil_of_length_eq_zero (by rw [hl, hm]; simp)
    subst hnil hm
    have hw : Region.wanted o (yielded ops a.tmps) = true := by simp [Region.wanted, hgd]
    rw [if_pos hw]
    have hrun : (Builtin.append_ #[t, t] o.type #[v, .slice B 0 c]).run P W = .ok v W := by
      rcases hown.2 with ⟨rfl, rfl⟩ | ⟨g, cap, cur, rfl, _, _, hnc, _⟩
      · cases B <;> simp [Builtin.append_, run_underlying ht, sizeOf, typeInfo, hi, Builtin.lenOf, Builtin.firstCells, loadCells, loadCellsFrom]
      · cases B <;> simp [Builtin.append_, run_underlying ht, sizeOf, typeInfo, hi, Builtin.lenOf, Builtin.firstCells, loadCells, loadCellsFrom, hnc, storeCells]
    unfold Oper.wp execOp
    simp only [ho, resolve, invoke, builtin, Sem.run_bind, Sem.run_pure, Result.andThen_ok, List.map_toArray, List.map_cons, List.map_nil, hs, hx, hrun]
    exact h v W (by simpa using hown) (Fr.refl _ _) fun g hg => .inl hg
  · obtain ⟨u0, hu0⟩ : ∃ u, news[0]? = some u := ⟨_, List.getElem?_eq_getElem (by rw [hl]; exact Nat.mul_pos (by omega) hsz)⟩
    obtain ⟨ad, rfl, _⟩ := hnews 0 u0 hu0
    refine step_append_lies _ hgd s x t ho 0 e i0 z size bytes ht hi hz0 hz1 hz2 hzs hsz v n xs hs hown ad m c news hx hl (fun j u hu => by obtain ⟨ad', e', h'⟩ := hnews j u hu; injection e' with e'; subst e'; exact h') h1 (by omega) hn2 hn (Nat.zero_le _) _ rfl ?_
    intro g cap w' h2 h3 h4 h5
    refine h _ w' h2 ((Fr.refl _ _).grown h3 (fun k hk => .inl hk)) fun k hk => ?_
    have hk' : some g = some k := hk
    injection hk' with hk'
    subst hk'
    exact h4.elim .inl fun h => .inr ⟨by omega, h5⟩
end
end Sls
end Go.Proofs.Ytmmdiccpifepfaa
