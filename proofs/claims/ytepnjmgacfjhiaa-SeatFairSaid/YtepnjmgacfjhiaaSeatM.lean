/- Package seat in memory: which blocks a seat has, and what acts on them leave. Printed by gen_seatm.py. -/
import Derived.Test.YtepnjmgacfjhiaaSeatS
namespace Go.Proofs.Ytepnjmgacfjhiaa
open Go.RowKit
set_option linter.unusedVariables false
set_option linter.unusedSimpArgs false
namespace Seat
open Sls
abbrev qv (q : Nat) : Value := .iface 100 (.pointer (some ⟨q, 0, none⟩))
structure SP (w : World) (b : Nat) (v : Value) (q : Nat) (G : Nat → Prop) (s : St) : Prop where
  blk : Blk w b 107 #[v, .int .i64 s.most, .int .i64 s.wr, qv q]
  row : w.ownsRow 0 114 2 v s.L.length (s.L.flatMap encM)
  que : Qint.QAt w G q s.q s.most
  vb : ∀ k, Of v k → k ≠ b ∧ ¬ G k
  gb : ¬ G b
structure SQ (w : World) (F : Nat → Prop) (b : Nat) (v : Value) (q : Nat) (G : Nat → Prop) (s : St) : Prop where
  sp : SP w b v q G s
  fb : F b
  fv : ∀ k, Of v k → F k
  fg : ∀ k, G k → F k
  lt : ∀ k, F k → k < w.heap.size
/-- A seat at b, all of it in the blocks F. -/
def SAt (w : World) (F : Nat → Prop) (b : Nat) (s : St) : Prop := ∃ v q G, SQ w F b v q G s
section
variable {w w' w1 : World} {F : Nat → Prop} {b q : Nat} {v : Value} {G : Nat → Prop} {s : St}
theorem SQ.at (h : SQ w F b v q G s) : SAt w F b s := ⟨v, q, G, h⟩
theorem SQ.form (h : SQ w F b v q G s) : ∃ A c, v = .slice A s.L.length c := own_form h.sp.row
theorem SQ.blt (h : SQ w F b v q G s) : b < w.heap.size := h.sp.blk.lt
theorem SQ.c0 (h : SQ w F b v q G s) : w.cell? ⟨b, 0, none⟩ = some v := h.sp.blk.cell 0
theorem SQ.c1 (h : SQ w F b v q G s) : w.cell? ⟨b, 1, none⟩ = some (.int .i64 s.most) := h.sp.blk.cell 1
theorem SQ.c2 (h : SQ w F b v q G s) : w.cell? ⟨b, 2, none⟩ = some (.int .i64 s.wr) := h.sp.blk.cell 2
theorem SQ.c3 (h : SQ w F b v q G s) : w.cell? ⟨b, 3, none⟩ = some (qv q) := h.sp.blk.cell 3
theorem SQ.f (h : SQ w F b v q G s) (i : Nat) : w.frozen? ⟨b, i, none⟩ = false := h.sp.blk.frozen i
theorem SQ.fr {H : Nat → Prop} (h : SQ w F b v q G s) (hf : Fr H w w') (hn : ∀ k, F k → ¬ H k) : SQ w' F b v q G s :=
  ⟨⟨h.sp.blk.fr hf (hn _ h.fb), own_fr h.sp.row hf (fun k hk => hn k (h.fv k hk)), h.sp.que.fr hf (fun k hk => hn k (h.fg k hk)), h.sp.vb, h.sp.gb⟩, h.fb, h.fv, h.fg, fun k hk => Nat.lt_of_lt_of_le (h.lt k hk) hf.size⟩
theorem SQ.no (h : SQ w F b v q G s) (hf : Fr No w w') : SQ w' F b v q G s := h.fr hf (fun _ _ h => h)
theorem SAt.fr {H : Nat → Prop} (h : SAt w F b s) (hf : Fr H w w') (hn : ∀ k, F k → ¬ H k) : SAt w' F b s := by
  obtain ⟨v, q, G, h⟩ := h
  exact (h.fr hf hn).at
theorem SAt.no (h : SAt w F b s) (hf : Fr No w w') : SAt w' F b s := h.fr hf (fun _ _ h => h)
theorem SAt.lt (h : SAt w F b s) : ∀ k, F k → k < w.heap.size := by
  obtain ⟨v, q, G, h⟩ := h
  exact h.lt
/-- Another writer. -/
theorem SQ.setW (h : SQ w F b v q G s) (x : Int) : SQ (w.setCell ⟨b, 2, none⟩ (.int .i64 x)) F b v q G ⟨s.L, s.most, x, s.q⟩ ∧ Step F w F (w.setCell ⟨b, 2, none⟩ (.int .i64 x)) := by
  have hf : Fr (fun k => k = b) w (w.setCell ⟨b, 2, none⟩ (.int .i64 x)) := Fr.setCell (F := fun k => k = b) (Fr.refl _ _) (p := ⟨b, 2, none⟩) (.inl rfl) _
  refine ⟨⟨⟨h.sp.blk.put 2 (.int .i64 x), own_fr h.sp.row hf (fun k hk e => (h.sp.vb k hk).1 e), h.sp.que.fr hf (fun k hk e => h.sp.gb (by have e : k = b := e; rw [← e]; exact hk)), h.sp.vb, h.sp.gb⟩, h.fb, h.fv, h.fg, fun k hk => by rw [size_setCell]; exact h.lt k hk⟩, hf.mono (fun k hk _ => by have hk : k = b := hk; rw [hk]; exact h.fb), fun k hk => .inl hk⟩
/-- An act on those who wait. -/
theorem SQ.queue {G' : Nat → Prop} {q' : List Int} (h : SQ w F b v q G s) (hq : Qint.QAt w' G' q q' s.most) (hs : Step G w G' w') : SQ w' (fun k => F k ∨ G' k) b v q G' ⟨s.L, s.most, s.wr, q'⟩ ∧ Step F w (fun k => F k ∨ G' k) w' := by
  have hlt : ∀ k, G' k → k < w'.heap.size := fun k hk => (hs.2 k hk).elim (fun g => Nat.lt_of_lt_of_le (h.lt k (h.fg k g)) hs.1.size) (fun g => g.2)
  refine ⟨⟨⟨h.sp.blk.fr hs.1 h.sp.gb, own_fr h.sp.row hs.1 (fun k hk => (h.sp.vb k hk).2), hq, fun k hk => ⟨(h.sp.vb k hk).1, fun g => (hs.2 k g).elim (h.sp.vb k hk).2 (fun g => by have := h.lt k (h.fv k hk); have := g.1; omega)⟩, fun g => (hs.2 b g).elim h.sp.gb (fun g => by have := h.blt; have := g.1; omega)⟩, .inl h.fb, fun k hk => .inl (h.fv k hk), fun k hk => .inr hk, fun k hk => hk.elim (fun g => Nat.lt_of_lt_of_le (h.lt k g) hs.1.size) (hlt k)⟩, hs.1.mono (fun k hk _ => h.fg k hk), fun k hk => hk.elim .inl (fun g => (hs.2 k g).elim (fun g => .inl (h.fg k g)) .inr)⟩
/-- Another row of members, in the old block or in a new one. -/
theorem SQ.row {v' : Value} {L' : Sh} (h : SQ w F b v q G s) (ho : w1.ownsRow 0 114 2 v' L'.length (L'.flatMap encM)) (hf : Fr (Of v) w w1) (hn : ∀ k, Of v' k → Of v k ∨ New w w1 k) :
    SQ (w1.setCell ⟨b, 0, none⟩ v') (fun k => F k ∨ Of v' k) b v' q G ⟨L', s.most, s.wr, s.q⟩ ∧ Step F w (fun k => F k ∨ Of v' k) (w1.setCell ⟨b, 0, none⟩ v') := by
  have hf2 : Fr (fun k => k = b) w1 (w1.setCell ⟨b, 0, none⟩ v') := Fr.setCell (F := fun k => k = b) (Fr.refl _ _) (p := ⟨b, 0, none⟩) (.inl rfl) _
  have hb1 : Blk w1 b _ _ := h.sp.blk.fr hf (fun e => (h.sp.vb b e).1 rfl)
  have hbl := h.blt
  have hvb : ∀ k, Of v' k → k ≠ b ∧ ¬ G k := fun k hk => by
    rcases hn k hk with g | g
    · exact h.sp.vb k g
    · exact ⟨fun e => by have := g.1; omega, fun e => by have := h.lt k (h.fg k e); have := g.1; omega⟩
  have hlt : ∀ k, Of v' k → k < w1.heap.size := fun k hk => own_lt ho k hk
  refine ⟨⟨⟨hb1.put 0 v', own_fr ho hf2 (fun k hk e => (hvb k hk).1 e), (h.sp.que.fr hf (fun k hk e => (h.sp.vb k e).2 hk)).fr hf2 (fun k hk e => h.sp.gb (by have e : k = b := e; rw [← e]; exact hk)), hvb, h.sp.gb⟩, .inl h.fb, fun k hk => .inr hk, fun k hk => .inl (h.fg k hk), fun k hk => by
    rw [size_setCell]
    exact hk.elim (fun g => Nat.lt_of_lt_of_le (h.lt k g) hf.size) (hlt k)⟩, ?_, fun k hk => ?_⟩
  · exact (hf.mono (fun k hk _ => h.fv k hk)).trans (hf2.mono (F' := F) (fun k hk _ => by have hk : k = b := hk; rw [hk]; exact h.fb)) (fun _ g _ => g)
  · rcases hk with g | g
    · exact .inl g
    · rcases hn k g with g2 | g2
      · exact .inl (h.fv k g2)
      · exact .inr ⟨g2.1, by rw [size_setCell]; exact g2.2⟩
theorem SAt.more {F' : Nat → Prop} (h : SAt w F b s) (hs : ∀ k, F k → F' k) (hl : ∀ k, F' k → k < w.heap.size) : SAt w F' b s := by
  obtain ⟨v, q, G, h⟩ := h
  exact ⟨v, q, G, h.sp, hs _ h.fb, fun k hk => hs _ (h.fv k hk), fun k hk => hs _ (h.fg k hk), hl⟩
end
/-- Shifts that an act tells: a row of its own, none of the seat's blocks. -/
structure ShR (w w' : World) (F' : Nat → Prop) (v : Value) (l : Sh) : Prop where
  own : w'.ownsRow 0 79 2 v l.length (l.flatMap encM)
  new : ∀ k, Of v k → New w w' k
  off : ∀ k, Of v k → ¬ F' k
/-- What an act answers. -/
def Tells (r : St × Sh × Int) (F : Nat → Prop) (b : Nat) (w : World) (e : Ending) (w' : World) : Prop :=
  ∃ F' v, e = .returned (.tuple #[v, .int .i64 r.2.2]) ∧ ShR w w' F' v r.2.1 ∧ SAt w' F' b r.1 ∧ Step F w F' w'
theorem infoH : (Try.prog.info? 79).map (fun i => (i.zero, i.size, i.bytes)) = some (some (.agg #[.int .i64 0, .int .i64 0]), 2, 16) := by kernel_rfl
theorem ShR.nil (w w' : World) (F' : Nat → Prop) : ShR w w' F' (.slice none 0 0) [] := ⟨World.ownsRow_nil _ _ _ _, fun k h => (by cases h), fun k h => (by cases h)⟩
/-- Nothing was done. -/
theorem Tells.no {w w' : World} {F : Nat → Prop} {b : Nat} {s : St} {c : Int} (h : SAt w F b s) (hf : Fr No w w') : Tells (s, [], c) F b w (.returned (.tuple #[.slice none 0 0, .int .i64 c])) w' :=
  ⟨F, _, rfl, ShR.nil _ _ _, h.no hf, Step.no hf⟩
/-- One shift, as a literal, behind all else. -/
theorem ShR.one {w w1 : World} {F' : Nat → Prop} (m : Int × Int) (hF : ∀ k, F' k → k < w1.heap.size) (hs : w.heap.size ≤ w1.heap.size) : ShR w (w1.alloc (.cells #[.int .i64 m.1, .int .i64 m.2] 79)) F' (.slice (some ⟨w1.heap.size, 0, none⟩) 1 1) [m] := by
  refine ⟨⟨rfl, .inr ⟨w1.heap.size, 1, #[.int .i64 m.1, .int .i64 m.2], rfl, Nat.zero_le _, Blk.new w1 _ _, Nat.le_refl _, by unfold maxLen; decide, rfl, rfl⟩⟩, fun k hk => ?_, fun k hk hF' => ?_⟩
  · have hk' : some w1.heap.size = some k := hk
    injection hk' with hk'
    subst hk'
    exact ⟨hs, by simp⟩
  · have hk' : some w1.heap.size = some k := hk
    injection hk' with hk'
    subst hk'
    have := hF _ hF'
    omega
end Seat
end Go.Proofs.Ytepnjmgacfjhiaa
