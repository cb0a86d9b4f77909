/- Package seat: the seat and the reference's, side by side, as the laws' loops hold them. Printed by gen_seati.py. -/
import Derived.Test.YtepnjmgacfjhiaaSeatH
namespace Go.Proofs.Ytepnjmgacfjhiaa
open Go.RowKit
set_option linter.unusedVariables false
set_option linter.unusedSimpArgs false
namespace Seat
open Sls
/-- The seat, and the box g in which the reference's lies. -/
structure Both (W w : World) (F S : Nat → Prop) (b g : Nat) (vL vW : Value) (s : St) : Prop where
  now : Now W w F b s
  ref : RS w S vL vW s
  sf : ∀ k, S k → ¬ F k
  box : Blk w g 71 #[vL, .int .i64 s.most, .int .i64 s.wr, vW]
  gn : W.heap.size ≤ g ∧ ¬ F g ∧ ¬ S g
theorem Both.no {W w w' : World} {F S : Nat → Prop} {b g : Nat} {vL vW : Value} {s : St} (h : Both W w F S b g vL vW s) (hf : Fr No w w') : Both W w' F S b g vL vW s :=
  ⟨h.now.no hf, h.ref.no hf, h.sf, h.box.fr hf (fun h => h), h.gn⟩
theorem Both.start {W w w1 : World} {F : Nat → Prop} {b : Nat} {most : Int} (h : Now W w F b ⟨[], most, -1, []⟩) (hf : Fr No w w1) : Both W (w1.alloc (.cells #[.slice none 0 0, .int .i64 most, .int .i64 (-1), .slice none 0 0] 71)) F No b w1.heap.size (.slice none 0 0) (.slice none 0 0) ⟨[], most, -1, []⟩ :=
  ⟨h.no (hf.alloc _), rs_new _ _, fun k hk => hk.elim, Blk.new w1 _ _, ⟨Nat.le_trans h.fr.size hf.size, fun g => by have := h.at'.lt _ g; have := hf.size; omega, fun h => h⟩⟩
theorem step_then {F F' : Nat → Prop} {w w1 w2 : World} (h : Step F w F' w1) (hf : Fr No w1 w2) : Step F w F' w2 := h.trans ⟨hf.no _, fun k hk => .inl hk⟩
theorem step_from {F F' : Nat → Prop} {w w1 w2 : World} (hf : Fr No w w1) (h : Step F w1 F' w2) : Step F w F' w2 := Step.trans ⟨hf.no _, fun k hk => .inl hk⟩ h
theorem fr_both {F : Nat → Prop} {w w1 w2 : World} {g : Nat} (h : Fr F w w1) (k : Fr (fun k => k = g) w1 w2) : Fr (fun k => F k ∨ k = g) w w2 := (h.mono (fun _ h _ => .inl h)).trans (k.mono (F' := fun k => F k ∨ k = g) (fun _ h _ => .inr h)) (fun _ h _ => h)
/-- What do leaves. -/
structure DoQ (X w' : World) (F S F' S' : Nat → Prop) (b : Nat) (r : St × Sh × Int) (vL vW v : Value) : Prop where
  at' : SAt w' F' b r.1
  step : Step F X F' w'
  rs : RS w' S' vL vW r.1
  sf : ∀ k, S' k → ¬ F' k
  sn : ∀ k, S' k → S k ∨ New X w' k
  row : w'.ownsRow 0 79 2 v r.2.1.length (r.2.1.flatMap encM)
  rn : ∀ k, Of v k → New X w' k ∧ ¬ F' k
def DoP (wr X : World) (F S : Nat → Prop) (b : Nat) (r : St × Sh × Int) (n8 m8 k8 : Nat) (ms8 wr8 : Int) (e : Ending) (w' : World) : Prop :=
  ∃ F' S' A8 c8 B8 d8 A9 c9, e = .returned (.tuple #[.agg #[.slice A8 n8 c8, .int .i64 ms8, .int .i64 wr8, .slice B8 m8 d8], .slice A9 k8 c9, .bool true]) ∧ DoQ X w' F S F' S' b r (.slice A8 n8 c8) (.slice B8 m8 d8) (.slice A9 k8 c9) ∧ Fr F wr w'
theorem do_p {W w X : World} {F S : Nat → Prop} {b g : Nat} {vL vW : Value} {s : St} (h : Both W w F S b g vL vW s) (hf : Fr No w X) (kd id level : Int) (hid : (Lit.int .i64 id).wf = true) (hlv : (Lit.int .i64 level).wf = true) (hk0 : 0 ≤ kd) (hk1 : kd < 256)
    (r : St × Sh × Int) (hr : r = doR s kd id level) (n8 m8 k8 : Nat) (ms8 wr8 : Int) (hn : n8 = r.1.L.length) (hm : m8 = r.1.q.length) (hk : k8 = r.2.1.length) (hms : ms8 = r.1.most) (hwr : wr8 = r.1.wr) :
    Calls Try.prog 33 #[.pointer (some ⟨b, 0, none⟩), agS vL vW s, .agg #[.int .u8 kd, .int .i64 id, .int .i64 level]] X (DoP w X F S b r n8 m8 k8 ms8 wr8) := by
  refine (do_any (h.now.at'.no hf) h.now.inv (h.ref.no hf) h.sf kd id level hid hlv hk0 hk1).mono ?_
  subst hr
  rintro e w' ⟨F', S', vL', vW', v, rfl, h1, h2, h3, h4, h5, h6, h7⟩
  obtain ⟨A8, c8, B8, d8, rfl, rfl, -⟩ := h3.forms
  obtain ⟨A9, c9, rfl⟩ := own_form h6
  subst hn hm hk hms hwr
  exact ⟨F', S', A8, c8, B8, d8, A9, c9, rfl, ⟨h1, h2, h3, h4, h5, h6, h7⟩, (step_from hf h2).1⟩
/-- Behind it, with the answer's box. -/
structure DoNow (wr wx : World) (F S F' S' : Nat → Prop) (b g bt : Nat) (r : St × Sh × Int) (vL vW v : Value) (ms8 wr8 : Int) (old : Array Value) : Prop where
  at' : SAt wx F' b r.1
  step : Step F wr F' wx
  rs : RS wx S' vL vW r.1
  sf : ∀ k, S' k → ¬ F' k
  tb : Blk wx bt 71 #[vL, .int .i64 ms8, .int .i64 wr8, vW]
  gb : Blk wx g 71 old
  tn : New wr wx bt ∧ ¬ F' bt ∧ ¬ S' bt
  gn : ¬ F' g ∧ ¬ S' g
  sn : ∀ k, S' k → S k ∨ New wr wx k
  row : wx.ownsRow 0 79 2 v r.2.1.length (r.2.1.flatMap encM)
  rn : ∀ k, Of v k → New wr wx k ∧ ¬ F' k ∧ k ≠ bt
section
variable {W wr X w8 : World} {F S F' S' : Nat → Prop} {b g : Nat} {vL vW v : Value} {s : St} {r : St × Sh × Int} {n8 m8 k8 c8 d8 c9 : Nat} {A8 B8 A9 : Option Addr} {ms8 wr8 : Int}
theorem do_after (h : Both W wr F S b g vL vW s) (hq : DoQ X w8 F S F' S' b r (.slice A8 n8 c8) (.slice B8 m8 d8) v) (hf : Fr No wr X) :
    DoNow wr (w8.alloc (.cells #[.slice A8 n8 c8, .int .i64 ms8, .int .i64 wr8, .slice B8 m8 d8] 71)) F S F' S' b g w8.heap.size r (.slice A8 n8 c8) (.slice B8 m8 d8) v ms8 wr8 #[vL, .int .i64 s.most, .int .i64 s.wr, vW] := by
  have hal : Fr No w8 (w8.alloc (.cells #[.slice A8 n8 c8, .int .i64 ms8, .int .i64 wr8, .slice B8 m8 d8] 71)) := (Fr.refl _ _).alloc _
  have z1 := hf.size
  have z2 := hq.step.1.size
  have hg := h.box.lt
  have hz : (w8.alloc (.cells #[.slice A8 n8 c8, .int .i64 ms8, .int .i64 wr8, .slice B8 m8 d8] 71)).heap.size = w8.heap.size + 1 := by simp
  have hFlt : ∀ k, F k → k < wr.heap.size := h.now.at'.lt
  have hSlt : ∀ k, S k → k < wr.heap.size := h.ref.lt
  refine ⟨hq.at'.no hal, step_then (step_from hf hq.step) hal, hq.rs.no hal, hq.sf, Blk.new w8 _ _, ((h.box.fr hf (fun h => h)).fr hq.step.1 h.gn.2.1).fr hal (fun h => h), ⟨⟨by omega, by omega⟩, fun hk => ?_, fun hk => ?_⟩, ⟨fun hk => ?_, fun hk => ?_⟩, fun k hk => (hq.sn k hk).imp id (fun g => ⟨by have := g.1; omega, by have := g.2; omega⟩), own_fr2 hal hq.row, fun k hk => ?_⟩
  · have := hq.at'.lt _ hk; omega
  · have := hq.rs.lt _ hk; omega
  · rcases hq.step.2 _ hk with k1 | k1
    · exact h.gn.2.1 k1
    · have := k1.1; omega
  · rcases hq.sn _ hk with k1 | k1
    · exact h.gn.2.2 k1
    · have := k1.1; omega
  · have := hq.rn k hk
    exact ⟨⟨by have := this.1.1; omega, by have := this.1.2; omega⟩, this.2, by have := this.1.2; omega⟩
theorem do_before (h : Both W wr F S b g vL vW s) (hq : DoQ X w8 F S F' S' b r (.slice A8 n8 c8) (.slice B8 m8 d8) v) (hf : Fr No wr X) (hX : wr.heap.size < X.heap.size) (hb : Blk w8 wr.heap.size 71 #[.slice none 0 0, .int .i64 0, .int .i64 0, .slice none 0 0]) :
    DoNow wr ((((w8.setCell ⟨wr.heap.size, 0, none⟩ (.slice A8 n8 c8)).setCell ⟨wr.heap.size, 1, none⟩ (.int .i64 ms8)).setCell ⟨wr.heap.size, 2, none⟩ (.int .i64 wr8)).setCell ⟨wr.heap.size, 3, none⟩ (.slice B8 m8 d8)) F S F' S' b g wr.heap.size r (.slice A8 n8 c8) (.slice B8 m8 d8) v ms8 wr8 #[vL, .int .i64 s.most, .int .i64 s.wr, vW] := by
  have f8 : Fr (fun k => k = wr.heap.size) w8 ((((w8.setCell ⟨wr.heap.size, 0, none⟩ (.slice A8 n8 c8)).setCell ⟨wr.heap.size, 1, none⟩ (.int .i64 ms8)).setCell ⟨wr.heap.size, 2, none⟩ (.int .i64 wr8)).setCell ⟨wr.heap.size, 3, none⟩ (.slice B8 m8 d8)) := (Fr.setCell (F := fun k => k = wr.heap.size) (Fr.setCell (F := fun k => k = wr.heap.size) (Fr.setCell (F := fun k => k = wr.heap.size) (Fr.setCell (F := fun k => k = wr.heap.size) (Fr.refl _ _) (p := ⟨wr.heap.size, 0, none⟩) (.inl rfl) _) (p := ⟨wr.heap.size, 1, none⟩) (.inl rfl) _) (p := ⟨wr.heap.size, 2, none⟩) (.inl rfl) _) (p := ⟨wr.heap.size, 3, none⟩) (.inl rfl) _)
  have b9 := (((hb.put 0 (.slice A8 n8 c8)).put 1 (.int .i64 ms8)).put 2 (.int .i64 wr8)).put 3 (.slice B8 m8 d8)
  simp only [List.setIfInBounds_toArray, List.set_cons_zero, List.set_cons_succ] at b9
  have z1 := hf.size
  have z2 := hq.step.1.size
  have z3 := f8.size
  have hg := h.box.lt
  have hFlt : ∀ k, F k → k < wr.heap.size := h.now.at'.lt
  have hSlt : ∀ k, S k → k < wr.heap.size := h.ref.lt
  have hF' : ∀ k, F' k → k ≠ wr.heap.size := fun k hk => by
    rcases hq.step.2 _ hk with k1 | k1
    · have := hFlt k k1; omega
    · have := k1.1; omega
  have hS' : ∀ k, S' k → k ≠ wr.heap.size := fun k hk => by
    rcases hq.sn _ hk with k1 | k1
    · have := hSlt k k1; omega
    · have := k1.1; omega
  have hst := step_from hf hq.step
  refine ⟨hq.at'.fr f8 hF', ⟨hst.1.trans f8 (fun k hk hl => by have hk : k = wr.heap.size := hk; omega), fun k hk => (hst.2 k hk).imp id (fun k1 => ⟨k1.1, by have := k1.2; omega⟩)⟩, hq.rs.fr f8 hS', hq.sf, b9, ((h.box.fr hf (fun h => h)).fr hq.step.1 h.gn.2.1).fr f8 (fun e => by have e : g = wr.heap.size := e; omega), ⟨⟨by omega, by omega⟩, fun hk => hF' _ hk rfl, fun hk => hS' _ hk rfl⟩, ⟨fun hk => ?_, fun hk => ?_⟩, fun k hk => (hq.sn k hk).imp id (fun g => ⟨by have := g.1; omega, by have := g.2; omega⟩), own_fr hq.row f8 (fun k hk e => ?_), fun k hk => ?_⟩
  · rcases hq.step.2 _ hk with k1 | k1
    · exact h.gn.2.1 k1
    · have := k1.1; omega
  · rcases hq.sn _ hk with k1 | k1
    · exact h.gn.2.2 k1
    · have := k1.1; omega
  · have e : k = wr.heap.size := e
    have := (hq.rn k hk).1.1
    omega
  · have := hq.rn k hk
    exact ⟨⟨by have := this.1.1; omega, by have := this.1.2; omega⟩, this.2, by have := this.1.1; omega⟩
/-- The answer's box is laid into the reference's. -/
theorem do_laid {wx : World} {bt : Nat} (h : Both W wr F S b g vL vW s) (hd : DoNow wr wx F S F' S' b g bt r (.slice A8 n8 c8) (.slice B8 m8 d8) v ms8 wr8 #[vL, .int .i64 s.most, .int .i64 s.wr, vW]) (hi : Inv r.1) (hms : ms8 = r.1.most) (hwr : wr8 = r.1.wr) :
    Both W ((((wx.setCell ⟨g, 0, none⟩ (.slice A8 n8 c8)).setCell ⟨g, 1, none⟩ (.int .i64 ms8)).setCell ⟨g, 2, none⟩ (.int .i64 wr8)).setCell ⟨g, 3, none⟩ (.slice B8 m8 d8)) F' S' b g (.slice A8 n8 c8) (.slice B8 m8 d8) r.1 ∧ Fr (fun k => k = g) wx ((((wx.setCell ⟨g, 0, none⟩ (.slice A8 n8 c8)).setCell ⟨g, 1, none⟩ (.int .i64 ms8)).setCell ⟨g, 2, none⟩ (.int .i64 wr8)).setCell ⟨g, 3, none⟩ (.slice B8 m8 d8)) ∧ ((((wx.setCell ⟨g, 0, none⟩ (.slice A8 n8 c8)).setCell ⟨g, 1, none⟩ (.int .i64 ms8)).setCell ⟨g, 2, none⟩ (.int .i64 wr8)).setCell ⟨g, 3, none⟩ (.slice B8 m8 d8)).ownsRow 0 79 2 v r.2.1.length (r.2.1.flatMap encM) := by
  have f8 : Fr (fun k => k = g) wx ((((wx.setCell ⟨g, 0, none⟩ (.slice A8 n8 c8)).setCell ⟨g, 1, none⟩ (.int .i64 ms8)).setCell ⟨g, 2, none⟩ (.int .i64 wr8)).setCell ⟨g, 3, none⟩ (.slice B8 m8 d8)) := (Fr.setCell (F := fun k => k = g) (Fr.setCell (F := fun k => k = g) (Fr.setCell (F := fun k => k = g) (Fr.setCell (F := fun k => k = g) (Fr.refl _ _) (p := ⟨g, 0, none⟩) (.inl rfl) _) (p := ⟨g, 1, none⟩) (.inl rfl) _) (p := ⟨g, 2, none⟩) (.inl rfl) _) (p := ⟨g, 3, none⟩) (.inl rfl) _)
  have b9 := (((hd.gb.put 0 (.slice A8 n8 c8)).put 1 (.int .i64 ms8)).put 2 (.int .i64 wr8)).put 3 (.slice B8 m8 d8)
  simp only [List.setIfInBounds_toArray, List.set_cons_zero, List.set_cons_succ] at b9
  have hg := h.box.lt
  have h1 := h.now.steps hd.at' hd.step hi
  refine ⟨⟨⟨hd.at'.fr f8 (fun k hk e => hd.gn.1 (by have e : k = g := e; rw [← e]; exact hk)), hi, h1.fr.trans f8 (fun k hk hl => by have hk : k = g := hk; have := h.gn.1; omega), h1.new⟩, hd.rs.fr f8 (fun k hk e => hd.gn.2 (by have e : k = g := e; rw [← e]; exact hk)), hd.sf, by rw [← hms, ← hwr]; exact b9, h.gn.1, hd.gn⟩, f8, own_fr hd.row f8 (fun k hk e => ?_)⟩
  have e : k = g := e
  have := (hd.rn k hk).1.1
  omega
end
/-- An act of the law's list, in memory. -/
theorem op_at {W wr : World} {A : Option Addr} {n c : Nat} {l : List (Int × Int × Int)} (h : RSl 3 (RTwo 1 (RInt .u8) (RTwo 1 (RInt .i64) (RInt .i64))) W (Ahead W.heap.size) [.slice A n c] l) (hf : Fr No W wr) {k : Nat} (hk : k < l.length) :
    ∃ ad, A = some ad ∧ (ad.add (k * 3)).block < W.heap.size ∧ (∀ G X, Fr G wr X → (∀ k, G k → W.heap.size ≤ k) → X.cell? (ad.add (k * 3)) = some (.int .u8 l[k].1) ∧ X.cell? ⟨(ad.add (k * 3)).block, (ad.add (k * 3)).off + 1, none⟩ = some (.int .i64 l[k].2.1) ∧ X.cell? ⟨(ad.add (k * 3)).block, (ad.add (k * 3)).off + 2, none⟩ = some (.int .i64 l[k].2.2)) ∧
      (0 ≤ l[k].1 ∧ l[k].1 < 256) ∧ (Lit.int .i64 l[k].2.1).wf = true ∧ (Lit.int .i64 l[k].2.2).wf = true := by
  obtain ⟨ad, ecs, rfl, hb, hl, hc, h1, ⟨e1, w1⟩, h3, ⟨e2, w2⟩, ⟨e3, w3⟩⟩ := sl_at h hk
  have hb' : (ad.add (k * 3)).block < W.heap.size := by rw [block_add]; exact hb
  have u0 := hc 0 (by omega)
  have u1 := hc 1 (by omega)
  have u2 := hc 2 (by omega)
  have he : ecs = [.int .u8 l[k].1, .int .i64 l[k].2.1, .int .i64 l[k].2.2] := by
    match ecs, hl with
    | [a, b, c], _ =>
      simp at e1 e2 e3
      rw [e1, e2, e3]
  rw [he] at u0 u1 u2
  rw [add_zero] at u0
  have hu8 : 0 ≤ l[k].1 ∧ l[k].1 ≤ 255 := by simpa [Lit.wf, IntKind.min, IntKind.max, IntKind.signed, IntKind.bits] using w1
  refine ⟨ad, rfl, hb', fun G X hX hG => (have hz : (ad.add (k * 3)).block < wr.heap.size := Nat.lt_of_lt_of_le hb' hf.size; have hng : ¬ G (ad.add (k * 3)).block := fun g => (by have := hG _ g; omega); ⟨?_, ?_, ?_⟩), ⟨hu8.1, by omega⟩, w2, w3⟩
  · exact ((hX.cell hz hng).trans (hf.cell hb' (fun h => h))).trans u0
  · exact ((hX.cell (p := ⟨(ad.add (k * 3)).block, (ad.add (k * 3)).off + 1, none⟩) hz hng).trans (hf.cell (p := ⟨(ad.add (k * 3)).block, (ad.add (k * 3)).off + 1, none⟩) hb' (fun h => h))).trans u1
  · exact ((hX.cell (p := ⟨(ad.add (k * 3)).block, (ad.add (k * 3)).off + 2, none⟩) hz hng).trans (hf.cell (p := ⟨(ad.add (k * 3)).block, (ad.add (k * 3)).off + 2, none⟩) hb' (fun h => h))).trans u2
end Seat
end Go.Proofs.Ytepnjmgacfjhiaa
