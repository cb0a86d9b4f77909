/- Words for memory, used by all proofs of this seat: frames (which blocks a call may have turned), and readings (which cells hold which plain data). Plain lemmas, no program in sight. -/
import Derived.WalkKit
import Derived.ProofKit
import Derived.OpenShut
import Derived.Deep.Draws
import Derived.Lib.Hide
namespace Go.Proofs.YtohjnbkehcdoaaaDoor
open Go.RowKit
set_option linter.unusedVariables false

/-- Nothing but the blocks of F, and new ones, differs between the two worlds. -/
structure Fr (F : Nat → Prop) (w w' : World) : Prop where
  os : w'.os = w.os
  tape : w'.tape = w.tape
  output : w'.output = w.output
  size : w.heap.size ≤ w'.heap.size
  block : ∀ k, k < w.heap.size → ¬ F k → w'.heap[k]? = w.heap[k]?
/-- No block. -/
def No : Nat → Prop := fun _ => False
/-- The blocks from B on. -/
def From (B : Nat) : Nat → Prop := fun k => B ≤ k
/-- The blocks ahead of B. -/
def Ahead (B : Nat) : Nat → Prop := fun k => k < B

section
variable {F F' : Nat → Prop} {w w1 w2 : World}
theorem Fr.refl (F : Nat → Prop) (w : World) : Fr F w w := ⟨rfl, rfl, rfl, Nat.le_refl _, fun _ _ _ => rfl⟩
theorem Fr.trans (h : Fr F w w1) (k : Fr F' w1 w2) (hs : ∀ b, F' b → b < w.heap.size → F b) : Fr F w w2 :=
  ⟨k.os.trans h.os, k.tape.trans h.tape, k.output.trans h.output, Nat.le_trans h.size k.size,
    fun i hi hn => (k.block i (Nat.lt_of_lt_of_le hi h.size) (fun hf => hn (hs i hf hi))).trans (h.block i hi hn)⟩
theorem Fr.mono (h : Fr F w w1) (hs : ∀ b, F b → b < w.heap.size → F' b) : Fr F' w w1 :=
  ⟨h.os, h.tape, h.output, h.size, fun i hi hn => h.block i hi fun hf => hn (hs i hf hi)⟩
theorem Fr.no (h : Fr No w w1) (F : Nat → Prop) : Fr F w w1 := h.mono fun _ h _ => h.elim
theorem Fr.then_no (h : Fr F w w1) (k : Fr No w1 w2) : Fr F w w2 := h.trans k fun _ h _ => h.elim
theorem Fr.drew (h : Fr F w w1) : Fr F w w1.drew := ⟨h.os, h.tape, h.output, h.size, h.block⟩
theorem Fr.drewN (h : Fr F w w1) (n : Nat) : Fr F w (w1.drewN n) := ⟨h.os, h.tape, h.output, h.size, h.block⟩
theorem Fr.alloc (h : Fr F w w1) (o : Obj) : Fr F w (w1.alloc o) :=
  h.trans (F' := No) ⟨rfl, rfl, rfl, by simp, fun k hk _ => Below.heap_alloc _ _ _ hk⟩ fun _ h _ => h.elim
theorem Fr.setCell (h : Fr F w w1) {p : Addr} (hp : F p.block ∨ w.heap.size ≤ p.block) (u : Value) : Fr F w (w1.setCell p u) :=
  h.trans (F' := fun k => k = p.block) ⟨rfl, rfl, rfl, by simp [World.setCell], fun k hk hn => Below.heap_setCell _ _ _ _ hn⟩ fun b hb hl => by
    subst hb; rcases hp with hp | hp
    · exact hp
    · omega
theorem Fr.grown (h : Fr F w w1) {row : Option Nat} (hg : w1.grownBy w2 row) (hr : ∀ k, row = some k → F k ∨ w.heap.size ≤ k) : Fr F w w2 :=
  h.trans (F' := fun k => row = some k) ⟨hg.os, hg.tape, hg.output, hg.size, fun k hk hn => hg.block k hk fun e => hn e.symm⟩ fun b hb hl => by
    rcases hr b hb with h | h
    · exact h
    · omega
theorem Fr.cell (h : Fr F w w1) {p : Addr} (hp : p.block < w.heap.size) (hn : ¬ F p.block) : w1.cell? p = w.cell? p := World.cell?_of_block (w := w) (h.block p.block hp hn)
theorem Fr.frozen (h : Fr F w w1) {p : Addr} (hp : p.block < w.heap.size) (hn : ¬ F p.block) : w1.frozen? p = w.frozen? p := World.frozen?_of_block (w := w) (h.block p.block hp hn)
theorem Fr.below (h : Fr No w w1) : Below w.heap.size w w1 := ⟨h.os, h.tape, h.output, h.size, fun k hk => h.block k hk (fun h => h)⟩
theorem Fr.of_below (h : Below w.heap.size w w1) (F : Nat → Prop) : Fr F w w1 := ⟨h.os, h.tape, h.output, h.size, fun k hk _ => h.block k hk⟩
theorem Fr.of_same (F : Nat → Prop) (h : w = w1) : Fr F w w1 := h ▸ Fr.refl F w
/-- What a call from a later world on may turn, all behind B: seen from B on. -/
theorem Fr.from_ {B : Nat} (h : Fr (From B) w w1) (k : Fr F w1 w2) (hs : ∀ b, F b → B ≤ b) : Fr (From B) w w2 := h.trans k fun b hb _ => hs b hb
end

theorem ret_int {k : IntKind} {a b : Int} (h : a = b) : Ending.returned (.int k a) = .returned (.int k b) := by rw [h]
theorem ret_bool {a b : Bool} (h : a = b) : Ending.returned (.bool a) = .returned (.bool b) := by rw [h]

theorem ret_str {l m : List UInt8} (h : l = m) : Ending.returned (.string ⟨l.toArray⟩) = .returned (.string ⟨m.toArray⟩) := by rw [h]
theorem ret_ib {a b : Int} {p q : Bool} (h : a = b) (h' : p = q) : Ending.returned (.tuple #[.int .i64 a, .bool p]) = .returned (.tuple #[.int .i64 b, .bool q]) := by rw [h, h']
/-! ### Readings: cells hold data; all that is read of memory lies in the blocks of S. -/
abbrev Rd (α : Type) := World → (Nat → Prop) → List Value → α → Prop
/-- The cells of S read as they did. -/
def Kept (S : Nat → Prop) (w w' : World) : Prop := ∀ p : Addr, S p.block → w'.cell? p = w.cell? p
theorem Kept.of_fr {F S : Nat → Prop} {w w' : World} (h : Fr F w w') (hs : ∀ k, S k → k < w.heap.size ∧ ¬ F k) : Kept S w w' := fun p hp => h.cell (hs _ hp).1 (hs _ hp).2
theorem Kept.of_no {S : Nat → Prop} {w w' : World} (h : Fr No w w') (hs : ∀ k, S k → k < w.heap.size) : Kept S w w' := fun p hp => h.cell (hs _ hp) (fun h => h)
structure Rd.Stable {α : Type} (R : Rd α) : Prop where
  go : ∀ {w w' : World} {S S' : Nat → Prop} {cs : List Value} {a : α}, R w S cs a → Kept S w w' → (∀ k, S k → S' k) → R w' S' cs a

def RInt (k : IntKind) : Rd Int := fun _ _ cs n => cs = [.int k n] ∧ (Lit.int k n).wf = true
def RBool : Rd Bool := fun _ _ cs b => cs = [.bool b]
/-- A text: its bytes. -/
abbrev Str := List UInt8
def RStr : Rd Str := fun _ _ cs s => cs = [.string ⟨s.toArray⟩] ∧ s.length ≤ maxLen
def RSl {α : Type} (n : Nat) (R : Rd α) : Rd (List α) := fun w S cs l =>
  ∃ A cap, cs = [.slice A l.length cap] ∧ l.length ≤ cap ∧ cap ≤ maxLen ∧ (A = none → cap = 0) ∧
    ∀ i (h : i < l.length), ∃ ad ecs, A = some ad ∧ S ad.block ∧ ecs.length = n ∧ (∀ j, j < n → w.cell? (ad.add (i * n + j)) = ecs[j]?) ∧ R w S ecs l[i]
/-- Two fields, one behind the other: the first has n cells. -/
def RTwo {α β : Type} (n : Nat) (R : Rd α) (R' : Rd β) : Rd (α × β) := fun w S cs x => n ≤ cs.length ∧ R w S (cs.take n) x.1 ∧ R' w S (cs.drop n) x.2

theorem block_add (a : Addr) (n : Nat) : (a.add n).block = a.block := by unfold Addr.add; split <;> rfl
theorem add_zero (a : Addr) : a.add 0 = a := by simp [Addr.add]
theorem add_add (a : Addr) (i j : Nat) : (a.add i).add j = a.add (i + j) := by
  unfold Addr.add
  by_cases hi : i = 0 <;> by_cases hj : j = 0 <;> simp [hi, hj, Nat.add_assoc]

theorem RInt.stable (k : IntKind) : Rd.Stable (RInt k) := ⟨fun h _ _ => h⟩
theorem RBool.stable : Rd.Stable RBool := ⟨fun h _ _ => h⟩
theorem RStr.stable : Rd.Stable RStr := ⟨fun h _ _ => h⟩
theorem RSl.stable {α : Type} {n : Nat} {R : Rd α} (hR : R.Stable) : Rd.Stable (RSl n R) := by
  constructor
  rintro w w' S S' cs l ⟨A, cap, h1, h2, h3, h4, h5⟩ hk hs
  refine ⟨A, cap, h1, h2, h3, h4, fun i hi => ?_⟩
  obtain ⟨ad, ecs, g1, g2, g3, g4, g5⟩ := h5 i hi
  exact ⟨ad, ecs, g1, hs _ g2, g3, fun j hj => (hk _ (by rw [block_add]; exact g2)).trans (g4 j hj), hR.go g5 hk hs⟩
theorem RTwo.stable {α β : Type} {n : Nat} {R : Rd α} {R' : Rd β} (h : R.Stable) (h' : R'.Stable) : Rd.Stable (RTwo n R R') :=
  ⟨fun ⟨g1, g2, g3⟩ hk hs => ⟨g1, h.go g2 hk hs, h'.go g3 hk hs⟩⟩

theorem ints_go {k : IntKind} {w w' : World} {S S' : Nat → Prop} {cs : List Value} {l : List Int} (h : RSl 1 (RInt k) w S cs l) (hk : Kept S w w') (hs : ∀ k, S k → S' k) : RSl 1 (RInt k) w' S' cs l := (RSl.stable (RInt.stable k)).go h hk hs
theorem strs_go {w w' : World} {S S' : Nat → Prop} {cs : List Value} {l : List Str} (h : RSl 1 RStr w S cs l) (hk : Kept S w w') (hs : ∀ k, S k → S' k) : RSl 1 RStr w' S' cs l := (RSl.stable RStr.stable).go h hk hs
theorem Kept.refl (S : Nat → Prop) (w : World) : Kept S w w := fun _ _ => rfl
section
variable {α : Type} {w w' : World} {S : Nat → Prop} {v : Value}
theorem RSl.slice {n : Nat} {R : Rd α} {l : List α} (h : RSl n R w S [v] l) : ∃ A cap, v = .slice A l.length cap ∧ l.length ≤ cap ∧ cap ≤ maxLen := by
  obtain ⟨A, cap, h1, h2, h3, _⟩ := h
  exact ⟨A, cap, by injection h1, h2, h3⟩
theorem RSl.cut {n : Nat} {R : Rd α} {l : List α} {A : Option Addr} {m c k : Nat} (h : RSl n R w S [.slice A m c] l) (hk : k ≤ l.length) : RSl n R w S [.slice A k c] (l.take k) := by
  obtain ⟨A', cap, h1, h2, h3, h4, h5⟩ := h
  injection h1 with h1 _
  injection h1 with h1 h6 h7
  subst h1 h7
  refine ⟨A, c, by rw [List.length_take_of_le hk], by rw [List.length_take_of_le hk]; omega, h3, h4, fun i hi => ?_⟩
  rw [List.length_take_of_le hk] at hi
  obtain ⟨ad, ecs, g1, g2, g3, g4, g5⟩ := h5 i (by omega)
  exact ⟨ad, ecs, g1, g2, g3, g4, by rw [List.getElem_take]; exact g5⟩
/-- A slice of integers: its value, and each of its cells. -/
theorem RSl.ints {k : IntKind} {l : List Int} (h : RSl 1 (RInt k) w S [v] l) :
    ∃ A cap, v = .slice A l.length cap ∧ l.length ≤ cap ∧ cap ≤ maxLen ∧ ∀ i (hi : i < l.length), ∃ ad, A = some ad ∧ S ad.block ∧ w.cell? (ad.add i) = some (.int k l[i]) ∧ (Lit.int k l[i]).wf = true := by
  obtain ⟨A, cap, h1, h2, h3, _, h5⟩ := h
  refine ⟨A, cap, by injection h1, h2, h3, fun i hi => ?_⟩
  obtain ⟨ad, ecs, g1, g2, g3, g4, g5, g6⟩ := h5 i hi
  have := g4 0 (by omega)
  subst g5
  exact ⟨ad, g1, g2, by simpa using this, g6⟩
/-- A slice of structs of two fields, one cell each. -/
theorem RSl.twos {α β : Type} {R : Rd α} {R' : Rd β} {l : List (α × β)} (h : RSl 2 (RTwo 1 R R') w S [v] l) :
    ∃ A cap, v = .slice A l.length cap ∧ l.length ≤ cap ∧ cap ≤ maxLen ∧ ∀ i (hi : i < l.length), ∃ ad c d, A = some ad ∧ S ad.block ∧ w.cell? (ad.add (i * 2)) = some c ∧ w.cell? ⟨(ad.add (i * 2)).block, (ad.add (i * 2)).off + 1, none⟩ = some d ∧ R w S [c] l[i].1 ∧ R' w S [d] l[i].2 := by
  obtain ⟨A, cap, h1, h2, h3, _, h5⟩ := h
  refine ⟨A, cap, by injection h1, h2, h3, fun i hi => ?_⟩
  obtain ⟨ad, ecs, g1, g2, g3, g4, g5, g6, g7⟩ := h5 i hi
  match ecs, g3 with
  | [c, d], _ =>
    have e0 := g4 0 (by omega)
    have e1 := g4 1 (by omega)
    rw [← add_add] at e1
    exact ⟨ad, c, d, g1, g2, by simpa using e0, (show w.cell? ((ad.add (i * 2)).add 1) = some d by simpa using e1), by simpa using g6, by simpa using g7⟩
theorem RSl.wfs {k : IntKind} {l : List Int} {cs : List Value} (h : RSl 1 (RInt k) w S cs l) : ∀ y ∈ l, (Lit.int k y).wf = true := by
  intro y hy
  obtain ⟨j, hj, rfl⟩ := List.getElem_of_mem hy
  obtain ⟨_, _, _, _, _, _, h5⟩ := h
  obtain ⟨_, _, _, _, _, _, h6⟩ := h5 j hj
  exact h6.2
theorem RSl.strs {l : List Str} (h : RSl 1 RStr w S [v] l) :
    ∃ A cap, v = .slice A l.length cap ∧ l.length ≤ cap ∧ cap ≤ maxLen ∧ ∀ i (hi : i < l.length), ∃ ad, A = some ad ∧ S ad.block ∧ w.cell? (ad.add i) = some (.string ⟨l[i].toArray⟩) ∧ l[i].length ≤ maxLen := by
  obtain ⟨A, cap, h1, h2, h3, _, h5⟩ := h
  refine ⟨A, cap, by injection h1, h2, h3, fun i hi => ?_⟩
  obtain ⟨ad, ecs, g1, g2, g3, g4, g5, g6⟩ := h5 i hi
  have := g4 0 (by omega)
  subst g5
  exact ⟨ad, g1, g2, by simpa using this, g6⟩
end
end Go.Proofs.YtohjnbkehcdoaaaDoor
