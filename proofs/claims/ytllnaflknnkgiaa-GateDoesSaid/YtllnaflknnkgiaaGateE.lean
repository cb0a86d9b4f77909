/- Two new structs beside a text: how they lie, however they were laid. Plain lemmas. -/
import Derived.Test.YtllnaflknnkgiaaGateW
namespace Go.Proofs.Ytllnaflknnkgiaa
open Go.RowKit
set_option linter.unusedVariables false
set_option linter.unusedSimpArgs false
namespace Gate
/-- Behind a call: two new blocks, of five cells and of two, and the text of a third one. -/
structure Lay (wr : World) (bx ba bt : Nat) (T U : TypeId) (a0 a1 a2 a3 a4 p q : Value) (s : ByteArray) (wx : World) : Prop where
  x : Blk wx bx T #[a0, a1, a2, a3, a4]
  a : Blk wx ba U #[p, q]
  t : wx.cell? ⟨bt, 0, none⟩ = some (.string s)
  hx : wr.heap.size ≤ bx
  ha : wr.heap.size ≤ ba
  ht : wr.heap.size ≤ bt
  hl : bt < wx.heap.size
  fr : Fr No wr wx
section
variable {wr w7 : World} {bt : Nat} {T U : TypeId} {a0 a1 a2 a3 a4 p q z0 z1 z2 z3 z4 y0 y1 : Value} {s : ByteArray}
theorem Lay.of {wx : World} {bx ba : Nat} (hI : Fr No wr w7) (h1 : w7.cell? ⟨bt, 0, none⟩ = some (.string s)) (hb : wr.heap.size ≤ bt ∧ bt < w7.heap.size) (hxn : bt ≠ bx) (han : bt ≠ ba) (hx : Blk wx bx T #[a0, a1, a2, a3, a4]) (ha : Blk wx ba U #[p, q])
    (hfr : Fr (fun b => b = bx ∨ b = ba) w7 wx) (h2 : wr.heap.size ≤ bx) (h3 : wr.heap.size ≤ ba) : Lay wr bx ba bt T U a0 a1 a2 a3 a4 p q s wx :=
  ⟨hx, ha, (hfr.cell (p := ⟨bt, 0, none⟩) hb.2 (fun h => h.elim hxn han)).trans h1, h2, h3, hb.1, Nat.lt_of_lt_of_le hb.2 hfr.size, hI.trans hfr fun k hk hl => by rcases hk with hk | hk <;> omega⟩
/-- Five cells stored. -/
theorem blk_five {w : World} {b : Nat} (h : Blk w b T #[z0, z1, z2, z3, z4]) (a0 a1 a2 a3 a4 : Value) : Blk (((((w.setCell ⟨b, 0, none⟩ a0).setCell ⟨b, 1, none⟩ a1).setCell ⟨b, 2, none⟩ a2).setCell ⟨b, 3, none⟩ a3).setCell ⟨b, 4, none⟩ a4) b T #[a0, a1, a2, a3, a4] := by
  have := ((((h.put 0 a0).put 1 a1).put 2 a2).put 3 a3).put 4 a4
  simpa using this
theorem blk_five_far {w : World} {b g : Nat} {V : TypeId} {cs : Array Value} (h : Blk w g V cs) (hn : g ≠ b) (a0 a1 a2 a3 a4 : Value) : Blk (((((w.setCell ⟨b, 0, none⟩ a0).setCell ⟨b, 1, none⟩ a1).setCell ⟨b, 2, none⟩ a2).setCell ⟨b, 3, none⟩ a3).setCell ⟨b, 4, none⟩ a4) g V cs :=
  ((((h.far (p := ⟨b, 0, none⟩) hn a0).far (p := ⟨b, 1, none⟩) hn a1).far (p := ⟨b, 2, none⟩) hn a2).far (p := ⟨b, 3, none⟩) hn a3).far (p := ⟨b, 4, none⟩) hn a4
theorem blk_two {w : World} {b : Nat} (h : Blk w b U #[y0, y1]) (p q : Value) : Blk ((w.setCell ⟨b, 0, none⟩ p).setCell ⟨b, 1, none⟩ q) b U #[p, q] := by
  have := (h.put 0 p).put 1 q
  simpa using this
theorem blk_two_far {w : World} {b g : Nat} {V : TypeId} {cs : Array Value} (h : Blk w g V cs) (hn : g ≠ b) (p q : Value) : Blk ((w.setCell ⟨b, 0, none⟩ p).setCell ⟨b, 1, none⟩ q) g V cs :=
  (h.far (p := ⟨b, 0, none⟩) hn p).far (p := ⟨b, 1, none⟩) hn q
theorem fr_five {F : Nat → Prop} {w w1 : World} {b : Nat} (h : Fr F w w1) (hb : F b) (a0 a1 a2 a3 a4 : Value) : Fr F w (((((w1.setCell ⟨b, 0, none⟩ a0).setCell ⟨b, 1, none⟩ a1).setCell ⟨b, 2, none⟩ a2).setCell ⟨b, 3, none⟩ a3).setCell ⟨b, 4, none⟩ a4) :=
  ((((h.setCell (p := ⟨b, 0, none⟩) (.inl hb) a0).setCell (p := ⟨b, 1, none⟩) (.inl hb) a1).setCell (p := ⟨b, 2, none⟩) (.inl hb) a2).setCell (p := ⟨b, 3, none⟩) (.inl hb) a3).setCell (p := ⟨b, 4, none⟩) (.inl hb) a4
theorem fr_two {F : Nat → Prop} {w w1 : World} {b : Nat} (h : Fr F w w1) (hb : F b) (p q : Value) : Fr F w ((w1.setCell ⟨b, 0, none⟩ p).setCell ⟨b, 1, none⟩ q) :=
  (h.setCell (p := ⟨b, 0, none⟩) (.inl hb) p).setCell (p := ⟨b, 1, none⟩) (.inl hb) q
theorem lay_n1 (hI : Fr No wr w7) (h1 : w7.cell? ⟨bt, 0, none⟩ = some (.string s)) (hb : wr.heap.size ≤ bt ∧ bt < w7.heap.size) :
    Lay wr w7.heap.size (w7.heap.size + 1) bt T U a0 a1 a2 a3 a4 p q s ((w7.alloc (.cells #[a0, a1, a2, a3, a4] T)).alloc (.cells #[p, q] U)) := by
  have ha := Blk.new (w7.alloc (.cells #[a0, a1, a2, a3, a4] T)) U #[p, q]
  rw [size_alloc] at ha
  exact Lay.of hI h1 hb (by omega) (by omega) ((Blk.new w7 T #[a0, a1, a2, a3, a4]).alloc _) ha (((Fr.refl _ w7).alloc _).alloc _) hI.size (Nat.le_succ_of_le hI.size)
theorem lay_n2 (hI : Fr No wr w7) (h1 : w7.cell? ⟨bt, 0, none⟩ = some (.string s)) (hb : wr.heap.size ≤ bt ∧ bt < w7.heap.size) :
    Lay wr (w7.heap.size + 1) w7.heap.size bt T U a0 a1 a2 a3 a4 p q s ((w7.alloc (.cells #[p, q] U)).alloc (.cells #[a0, a1, a2, a3, a4] T)) := by
  have hx := Blk.new (w7.alloc (.cells #[p, q] U)) T #[a0, a1, a2, a3, a4]
  rw [size_alloc] at hx
  exact Lay.of hI h1 hb (by omega) (by omega) hx ((Blk.new w7 U #[p, q]).alloc _) (((Fr.refl _ w7).alloc _).alloc _) (Nat.le_succ_of_le hI.size) hI.size
/-- The first is laid ahead of the call, the second behind it. -/
theorem lay_r (hI : Fr No wr w7) (h1 : w7.cell? ⟨bt, 0, none⟩ = some (.string s)) (hb : wr.heap.size + 1 ≤ bt ∧ bt < w7.heap.size) (hz : Blk w7 wr.heap.size T #[z0, z1, z2, z3, z4]) :
    Lay wr wr.heap.size w7.heap.size bt T U a0 a1 a2 a3 a4 p q s ((((((((w7.alloc (.cells #[y0, y1] U)).setCell ⟨wr.heap.size, 0, none⟩ a0).setCell ⟨wr.heap.size, 1, none⟩ a1).setCell ⟨wr.heap.size, 2, none⟩ a2).setCell ⟨wr.heap.size, 3, none⟩ a3).setCell ⟨wr.heap.size, 4, none⟩ a4).setCell ⟨w7.heap.size, 0, none⟩ p).setCell ⟨w7.heap.size, 1, none⟩ q) := by
  have hl := hz.lt
  exact Lay.of hI h1 ⟨by omega, hb.2⟩ (by omega) (by omega) (blk_two_far (blk_five (hz.alloc _) a0 a1 a2 a3 a4) (by omega) p q) (blk_two (blk_five_far (Blk.new w7 U #[y0, y1]) (by omega) a0 a1 a2 a3 a4) p q)
    (fr_two (fr_five ((Fr.refl _ w7).alloc _) (.inl rfl) a0 a1 a2 a3 a4) (.inr rfl) p q) (Nat.le_refl _) hI.size
/-- The second is laid ahead of the call, the first behind it. -/
theorem lay_p (hI : Fr No wr w7) (h1 : w7.cell? ⟨bt, 0, none⟩ = some (.string s)) (hb : wr.heap.size + 1 ≤ bt ∧ bt < w7.heap.size) (hz : Blk w7 wr.heap.size U #[y0, y1]) :
    Lay wr w7.heap.size wr.heap.size bt T U a0 a1 a2 a3 a4 p q s (((w7.alloc (.cells #[a0, a1, a2, a3, a4] T)).setCell ⟨wr.heap.size, 0, none⟩ p).setCell ⟨wr.heap.size, 1, none⟩ q) := by
  have hl := hz.lt
  exact Lay.of hI h1 ⟨by omega, hb.2⟩ (by omega) (by omega) (blk_two_far (Blk.new w7 T #[a0, a1, a2, a3, a4]) (by omega) p q) (blk_two (hz.alloc _) p q)
    (fr_two ((Fr.refl _ w7).alloc _) (.inr rfl) p q) hI.size (Nat.le_refl _)
/-- The first is laid ahead of the call, and stored; the second is laid behind it all. -/
theorem lay_r2 (hI : Fr No wr w7) (h1 : w7.cell? ⟨bt, 0, none⟩ = some (.string s)) (hb : wr.heap.size + 1 ≤ bt ∧ bt < w7.heap.size) (hz : Blk w7 wr.heap.size T #[z0, z1, z2, z3, z4]) :
    Lay wr wr.heap.size w7.heap.size bt T U a0 a1 a2 a3 a4 p q s ((((((w7.setCell ⟨wr.heap.size, 0, none⟩ a0).setCell ⟨wr.heap.size, 1, none⟩ a1).setCell ⟨wr.heap.size, 2, none⟩ a2).setCell ⟨wr.heap.size, 3, none⟩ a3).setCell ⟨wr.heap.size, 4, none⟩ a4).alloc (.cells #[p, q] U)) := by
  have hl := hz.lt
  have hn := Blk.new (((((w7.setCell ⟨wr.heap.size, 0, none⟩ a0).setCell ⟨wr.heap.size, 1, none⟩ a1).setCell ⟨wr.heap.size, 2, none⟩ a2).setCell ⟨wr.heap.size, 3, none⟩ a3).setCell ⟨wr.heap.size, 4, none⟩ a4) U #[p, q]
  simp only [size_setCell] at hn
  exact Lay.of hI h1 ⟨by omega, hb.2⟩ (by omega) (by omega) ((blk_five hz a0 a1 a2 a3 a4).alloc _) hn
    ((fr_five (Fr.refl _ w7) (.inl rfl) a0 a1 a2 a3 a4).alloc _) (Nat.le_refl _) hI.size
theorem lay_p2 (hI : Fr No wr w7) (h1 : w7.cell? ⟨bt, 0, none⟩ = some (.string s)) (hb : wr.heap.size + 1 ≤ bt ∧ bt < w7.heap.size) (hz : Blk w7 wr.heap.size U #[y0, y1]) :
    Lay wr w7.heap.size wr.heap.size bt T U a0 a1 a2 a3 a4 p q s (((w7.setCell ⟨wr.heap.size, 0, none⟩ p).setCell ⟨wr.heap.size, 1, none⟩ q).alloc (.cells #[a0, a1, a2, a3, a4] T)) := by
  have hl := hz.lt
  have hn := Blk.new ((w7.setCell ⟨wr.heap.size, 0, none⟩ p).setCell ⟨wr.heap.size, 1, none⟩ q) T #[a0, a1, a2, a3, a4]
  simp only [size_setCell] at hn
  exact Lay.of hI h1 ⟨by omega, hb.2⟩ (by omega) (by omega) hn ((blk_two hz p q).alloc _)
    ((fr_two (Fr.refl _ w7) (.inr rfl) p q).alloc _) hI.size (Nat.le_refl _)
theorem lay_rp (hI : Fr No wr w7) (h1 : w7.cell? ⟨bt, 0, none⟩ = some (.string s)) (hb : wr.heap.size + 1 + 1 ≤ bt ∧ bt < w7.heap.size) (hz : Blk w7 wr.heap.size T #[z0, z1, z2, z3, z4]) (hy : Blk w7 (wr.heap.size + 1) U #[y0, y1]) :
    Lay wr wr.heap.size (wr.heap.size + 1) bt T U a0 a1 a2 a3 a4 p q s (((((((w7.setCell ⟨wr.heap.size, 0, none⟩ a0).setCell ⟨wr.heap.size, 1, none⟩ a1).setCell ⟨wr.heap.size, 2, none⟩ a2).setCell ⟨wr.heap.size, 3, none⟩ a3).setCell ⟨wr.heap.size, 4, none⟩ a4).setCell ⟨wr.heap.size + 1, 0, none⟩ p).setCell ⟨wr.heap.size + 1, 1, none⟩ q) := by
  exact Lay.of hI h1 ⟨by omega, hb.2⟩ (by omega) (by omega) (blk_two_far (blk_five hz a0 a1 a2 a3 a4) (by omega) p q) (blk_two (blk_five_far hy (by omega) a0 a1 a2 a3 a4) p q)
    (fr_two (fr_five (Fr.refl _ w7) (.inl rfl) a0 a1 a2 a3 a4) (.inr rfl) p q) (Nat.le_refl _) (Nat.le_succ _)
theorem lay_pr (hI : Fr No wr w7) (h1 : w7.cell? ⟨bt, 0, none⟩ = some (.string s)) (hb : wr.heap.size + 1 + 1 ≤ bt ∧ bt < w7.heap.size) (hz : Blk w7 (wr.heap.size + 1) T #[z0, z1, z2, z3, z4]) (hy : Blk w7 wr.heap.size U #[y0, y1]) :
    Lay wr (wr.heap.size + 1) wr.heap.size bt T U a0 a1 a2 a3 a4 p q s (((((((w7.setCell ⟨wr.heap.size + 1, 0, none⟩ a0).setCell ⟨wr.heap.size + 1, 1, none⟩ a1).setCell ⟨wr.heap.size + 1, 2, none⟩ a2).setCell ⟨wr.heap.size + 1, 3, none⟩ a3).setCell ⟨wr.heap.size + 1, 4, none⟩ a4).setCell ⟨wr.heap.size, 0, none⟩ p).setCell ⟨wr.heap.size, 1, none⟩ q) := by
  exact Lay.of hI h1 ⟨by omega, hb.2⟩ (by omega) (by omega) (blk_two_far (blk_five hz a0 a1 a2 a3 a4) (by omega) p q) (blk_two (blk_five_far hy (by omega) a0 a1 a2 a3 a4) p q)
    (fr_two (fr_five (Fr.refl _ w7) (.inl rfl) a0 a1 a2 a3 a4) (.inr rfl) p q) (Nat.le_succ _) (Nat.le_refl _)
end
end Gate
end Go.Proofs.Ytllnaflknnkgiaa
