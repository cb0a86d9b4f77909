/- Package timer: the law TimerPlays, both timers side by side: plain lemmas. Printed by gen_tmd.py. -/
import Derived.Test.YtkmlmjglipmdcaaTmC
import Derived.Test.YtkmlmjglipmdcaaTmY
namespace Go.Proofs.Ytkmlmjglipmdcaa
open Go.RowKit
set_option linter.unusedVariables false
set_option linter.unusedSimpArgs false
namespace Tm
open Sls
/-- The timer, and the box g in which the reference's lies. -/
structure Both (W w : World) (F S : Nat → Prop) (b g : Nat) (vL : Value) (most : Int) (L : List A2) : Prop where
  now : Now W w F b most L
  ref : RT w S vL L
  sf : ∀ k, S k → ¬ F k
  box : Blk w g 37 #[vL, .int .i64 most]
  gn : W.heap.size ≤ g ∧ ¬ F g ∧ ¬ S g
theorem Both.no {W w w' : World} {F S : Nat → Prop} {b g : Nat} {vL : Value} {most : Int} {L : List A2} (h : Both W w F S b g vL most L) (hf : Fr No w w') : Both W w' F S b g vL most L :=
  ⟨h.now.no hf, h.ref.no hf, h.sf, h.box.fr hf (fun h => h), h.gn⟩
theorem Both.start {W w : World} {F : Nat → Prop} {b : Nat} {most : Int} (h : Now W w F b most []) : Both W (w.alloc (.cells #[.slice none 0 0, .int .i64 most] 37)) F No b w.heap.size (.slice none 0 0) most [] :=
  ⟨h.no ((Fr.refl _ _).alloc _), ⟨⟨none, 0, rfl, Nat.le_refl _, Nat.zero_le _, fun _ => rfl, fun i hi => by simp at hi⟩, fun k hk => hk.elim⟩, fun k hk => hk.elim, Blk.new w _ _, ⟨h.fr.size, fun g => by have := h.at'.lt _ g; omega, fun h => h⟩⟩
/-- What an act of the reference leaves: who is waited for, in the blocks S'; a row v of numbers. -/
structure RQ (X w' : World) (S S' : Nat → Prop) (vL : Value) (L' : List A2) (v : Value) (l : List Int) : Prop where
  rt : RT w' S' vL L'
  sn : ∀ k, S' k → S k ∨ New X w' k
  row : w'.ownsRow 0 3 1 v l.length (l.map encI)
  rn : ∀ k, Of v k → New X w' k
  fr : Fr No X w'
def RP (X : World) (S : Nat → Prop) (L' : List A2) (n8 : Nat) (most : Int) (r : Value) (e : Ending) (w' : World) : Prop := ∃ S' A8 c8, e = .returned (.tuple #[.agg #[.slice A8 n8 c8, .int .i64 most], r]) ∧ RQ X w' S S' (.slice A8 n8 c8) L' (.slice none 0 0) []
theorem rp_of {X w' : World} {S : Nat → Prop} {L' : List A2} {n8 : Nat} {most : Int} {r : Value} {e : Ending} (h : RTells L' r most S X e w') (hn : n8 = L'.length) : RP X S L' n8 most r e w' := by
  obtain ⟨S', vL', rfl, h1, h2, h3⟩ := h
  obtain ⟨A8, c8, rfl, _, _⟩ := h1.form
  subst hn
  exact ⟨S', A8, c8, rfl, h1, h2, World.ownsRow_nil _ _ _ _, fun k hk => (by cases hk), h3⟩
def RPD (X : World) (S : Nat → Prop) (L' : List A2) (n8 : Nat) (most : Int) (l : List Int) (k8 : Nat) (e : Ending) (w' : World) : Prop := ∃ S' A8 c8 A9 c9, e = .returned (.tuple #[.agg #[.slice A8 n8 c8, .int .i64 most], .slice A9 k8 c9]) ∧ RQ X w' S S' (.slice A8 n8 c8) L' (.slice A9 k8 c9) l
theorem rpd_of {X w' : World} {S : Nat → Prop} {L : List A2} {n8 k8 : Nat} {most now : Int} {e : Ending} (h : RDue L most now S X k8 e w') (hn : n8 = (restL L now).length) (hk : k8 = (ids (dueL L now)).length) : RPD X S (restL L now) n8 most (ids (dueL L now)) k8 e w' := by
  obtain ⟨vL', A, c, rfl, h1, h2, h3, h4⟩ := h
  obtain ⟨A8, c8, rfl, _, _⟩ := h1.form
  subst hn
  exact ⟨S, A8, c8, A, c, rfl, h1, fun k hk => .inl hk, by rw [← hk]; exact h2, h3, h4⟩
/-- Behind it, with the answer's box. -/
structure RNow (wr wx : World) (S S' : Nat → Prop) (bt : Nat) (most : Int) (vL : Value) (L' : List A2) (v : Value) (l : List Int) : Prop where
  rt : RT wx S' vL L'
  sn : ∀ k, S' k → S k ∨ New wr wx k
  tb : Blk wx bt 37 #[vL, .int .i64 most]
  tn : New wr wx bt ∧ ¬ S' bt
  row : wx.ownsRow 0 3 1 v l.length (l.map encI)
  rn : ∀ k, Of v k → New wr wx k
  fr : Fr No wr wx
section
variable {W wr X w8 wx : World} {F F' S S' : Nat → Prop} {b g bt : Nat} {vL v : Value} {L L' : List A2} {n8 c8 : Nat} {A8 : Option Addr} {most : Int} {l : List Int}
theorem ref_after (hS : ∀ k, S k → k < wr.heap.size) (hq : RQ X w8 S S' (.slice A8 n8 c8) L' v l) (hf : Fr No wr X) : RNow wr (w8.alloc (.cells #[.slice A8 n8 c8, .int .i64 most] 37)) S S' w8.heap.size most (.slice A8 n8 c8) L' v l := by
  have hal : Fr No w8 (w8.alloc (.cells #[.slice A8 n8 c8, .int .i64 most] 37)) := (Fr.refl _ _).alloc _
  have z1 := hf.size
  have z2 := hq.fr.size
  have hz : (w8.alloc (.cells #[.slice A8 n8 c8, .int .i64 most] 37)).heap.size = w8.heap.size + 1 := by simp
  refine ⟨hq.rt.no hal, fun k hk => (hq.sn k hk).imp id (fun g => ⟨by have := g.1; omega, by have := g.2; omega⟩), Blk.new w8 _ _, ⟨⟨by omega, by omega⟩, fun hk => by have := hq.rt.lt _ hk; omega⟩, own_fr hq.row hal (fun _ _ h => h), fun k hk => ⟨by have := (hq.rn k hk).1; omega, by have := (hq.rn k hk).2; omega⟩, (hf.then_no hq.fr).alloc _⟩
theorem ref_before (hS : ∀ k, S k → k < wr.heap.size) (hq : RQ X w8 S S' (.slice A8 n8 c8) L' v l) (hf : Fr No wr X) (hX : wr.heap.size < X.heap.size) (hb : Blk w8 wr.heap.size 37 #[.slice none 0 0, .int .i64 0]) :
    RNow wr ((w8.setCell ⟨wr.heap.size, 0, none⟩ (.slice A8 n8 c8)).setCell ⟨wr.heap.size, 1, none⟩ (.int .i64 most)) S S' wr.heap.size most (.slice A8 n8 c8) L' v l := by
  have f8 : Fr (fun k => k = wr.heap.size) w8 ((w8.setCell ⟨wr.heap.size, 0, none⟩ (.slice A8 n8 c8)).setCell ⟨wr.heap.size, 1, none⟩ (.int .i64 most)) := ((Fr.refl (fun k => k = wr.heap.size) w8).setCell (p := ⟨wr.heap.size, 0, none⟩) (.inl rfl) _).setCell (p := ⟨wr.heap.size, 1, none⟩) (.inl rfl) _
  have b9 := (hb.put 0 (.slice A8 n8 c8)).put 1 (.int .i64 most)
  simp only [List.setIfInBounds_toArray, List.set_cons_zero, List.set_cons_succ] at b9
  have z2 := hq.fr.size
  have z3 := f8.size
  have hS' : ∀ k, S' k → k ≠ wr.heap.size := fun k hk => by
    rcases hq.sn k hk with g | g
    · have := hS k g; omega
    · have := g.1; omega
  refine ⟨hq.rt.fr f8 hS', fun k hk => (hq.sn k hk).imp id (fun g => ⟨by have := g.1; omega, by have := g.2; omega⟩), b9, ⟨⟨Nat.le_refl _, by omega⟩, fun hk => hS' _ hk rfl⟩, own_fr hq.row f8 (fun k hk e => by have := (hq.rn k hk).1; have e : k = wr.heap.size := e; omega), fun k hk => ⟨by have := (hq.rn k hk).1; omega, by have := (hq.rn k hk).2; omega⟩, (hf.then_no hq.fr).trans f8 (fun k hk hl => by have hk : k = wr.heap.size := hk; omega)⟩
/-- The answer's box is laid into the reference's, behind the timer's own act. -/
theorem ref_laid {w8 w9 : World} (h : Both W wr F S b g vL most L) (hd : RNow wr wx S S' bt most (.slice A8 n8 c8) L' v l) (hn : Now W w8 F' b most L') (hs : Step F wx F' w8) (hf : Fr No w8 w9) : Both W ((w9.setCell ⟨g, 0, none⟩ (.slice A8 n8 c8)).setCell ⟨g, 1, none⟩ (.int .i64 most)) F' S' b g (.slice A8 n8 c8) most L' := by
  have hg := h.box.lt
  have z1 := hd.fr.size
  have hFl : ∀ k, F k → k < wr.heap.size := h.now.at'.lt
  have hg8 : ¬ F' g := fun hk => by
    rcases hs.2 g hk with k1 | k1
    · exact h.gn.2.1 k1
    · have := k1.1; omega
  have hgS : ¬ S' g := fun hk => by
    rcases hd.sn g hk with k1 | k1
    · exact h.gn.2.2 k1
    · have := k1.1; omega
  have hSF : ∀ k, S' k → ¬ F' k := fun k hk k1 => by
    rcases hs.2 k k1 with k2 | k2
    · rcases hd.sn k hk with k3 | k3
      · exact h.sf k k3 k2
      · have := hFl k k2; have := k3.1; omega
    · have := hd.rt.lt k hk; have := k2.1; omega
  have hS8 : ∀ k, S' k → ¬ F k := fun k hk k1 => by
    rcases hd.sn k hk with k3 | k3
    · exact h.sf k k3 k1
    · have := hFl k k1; have := k3.1; omega
  have r8 : RT w9 S' (.slice A8 n8 c8) L' := (hd.rt.fr hs.1 hS8).no hf
  have f8 : Fr (fun k => k = g) w9 ((w9.setCell ⟨g, 0, none⟩ (.slice A8 n8 c8)).setCell ⟨g, 1, none⟩ (.int .i64 most)) := ((Fr.refl (fun k => k = g) w9).setCell (p := ⟨g, 0, none⟩) (.inl rfl) _).setCell (p := ⟨g, 1, none⟩) (.inl rfl) _
  have gb := (((h.box.fr hd.fr (fun h => h)).fr hs.1 h.gn.2.1).fr hf (fun h => h))
  have b9 := Blk.put (Blk.put (cs := #[vL, .int .i64 most]) gb 0 (.slice A8 n8 c8)) 1 (.int .i64 most)
  simp only [List.setIfInBounds_toArray, List.set_cons_zero, List.set_cons_succ] at b9
  have n9 := hn.no hf
  exact ⟨⟨n9.at'.fr f8 (fun k hk e => hg8 (by have e : k = g := e; rw [← e]; exact hk)), n9.fr.trans f8 (fun k hk hl => by have hk : k = g := hk; have := h.gn.1; omega), n9.new⟩, r8.fr f8 (fun k hk e => hgS (by have e : k = g := e; rw [← e]; exact hk)), hSF, b9, h.gn.1, hg8, hgS⟩
end
/-- An act of the law's list, in memory. -/
theorem op_at {W wr : World} {A : Option Addr} {n c : Nat} {l : List (Int × Int × Int)} (h : RSl 3 (RTwo 1 (RInt .u8) (RTwo 1 (RInt .i64) (RInt .i64))) W (Ahead W.heap.size) [.slice A n c] l) (hf : Fr No W wr) {k : Nat} (hk : k < l.length) :
    ∃ ad, A = some ad ∧ (ad.add (k * 3)).block < W.heap.size ∧ (∀ G X, Fr G wr X → (∀ k, G k → W.heap.size ≤ k) → X.cell? (ad.add (k * 3)) = some (.int .u8 l[k].1) ∧ X.cell? ⟨(ad.add (k * 3)).block, (ad.add (k * 3)).off + 1, none⟩ = some (.int .i64 l[k].2.1) ∧ X.cell? ⟨(ad.add (k * 3)).block, (ad.add (k * 3)).off + 2, none⟩ = some (.int .i64 l[k].2.2)) ∧
      (0 ≤ l[k].1 ∧ l[k].1 < 256) := by
  obtain ⟨ad, ecs, rfl, hb, hl, hc, h1, ⟨e1, w1⟩, h3, ⟨e2, w2⟩, ⟨e3, w3⟩⟩ := sl_at h hk
  have hb' : (ad.add (k * 3)).block < W.heap.size := by rw [block_add]; exact hb
  have u0 := hc 0 (by omega)
  have u1 := hc 1 (by omega)
  have u2 := hc 2 (by omega)
  have he : ecs = [.int .u8 l[k].1, .int .i64 l[k].2.1, .int .i64 l[k].2.2] := by
    match ecs, hl with
    | [a, b, c], _ =>
      simp at e1 e2 e3
      rw [e1, e2, e3]
  rw [he] at u0 u1 u2
  rw [add_zero] at u0
  have hu8 : 0 ≤ l[k].1 ∧ l[k].1 ≤ 255 := by simpa [Lit.wf, IntKind.min, IntKind.max, IntKind.signed, IntKind.bits] using w1
  refine ⟨ad, rfl, hb', fun G X hX hG => (have hz : (ad.add (k * 3)).block < wr.heap.size := Nat.lt_of_lt_of_le hb' hf.size; have hng : ¬ G (ad.add (k * 3)).block := fun g => (by have := hG _ g; omega); ⟨?_, ?_, ?_⟩), ⟨hu8.1, by omega⟩⟩
  · exact ((hX.cell hz hng).trans (hf.cell hb' (fun h => h))).trans u0
  · exact ((hX.cell (p := ⟨(ad.add (k * 3)).block, (ad.add (k * 3)).off + 1, none⟩) hz hng).trans (hf.cell (p := ⟨(ad.add (k * 3)).block, (ad.add (k * 3)).off + 1, none⟩) hb' (fun h => h))).trans u1
  · exact ((hX.cell (p := ⟨(ad.add (k * 3)).block, (ad.add (k * 3)).off + 2, none⟩) hz hng).trans (hf.cell (p := ⟨(ad.add (k * 3)).block, (ad.add (k * 3)).off + 2, none⟩) hb' (fun h => h))).trans u2
set_option maxRecDepth 100000 in
set_option maxHeartbeats 2000000 in
theorem same_any (A A' : Option Addr) (c c' n : Nat) (l : List Int) (hn : n = l.length) (hl : n ≤ 4096) (w : World) (h1 : w.ownsRow 0 3 1 (.slice A n c) l.length (l.map encI)) (h2 : w.ownsRow 0 3 1 (.slice A' n c') l.length (l.map encI)) :
    Calls Try.prog 15 #[.slice A n c, .slice A' n c'] w fun e w' => e = .returned (.bool true) ∧ Fr No w w' := by
  have HC := Lib.hid (fun (i : Nat) (hi : i < l.length) => (show ∃ g g', A = some ⟨g, 0, none⟩ ∧ A' = some ⟨g', 0, none⟩ ∧ w.cell? ⟨g, i, none⟩ = some (.int .i64 l[i]) ∧ w.cell? ⟨g', i, none⟩ = some (.int .i64 l[i]) ∧ g < w.heap.size ∧ g' < w.heap.size from by
    obtain ⟨g, e1, k1⟩ := told_cell (W := w) (F := No) ⟨h1, fun _ _ h => h⟩ hi
    obtain ⟨g', e2, k2⟩ := told_cell (W := w) (F := No) ⟨h2, fun _ _ h => h⟩ hi
    exact ⟨g, g', e1, e2, k1, k2, (h1.lt g (by rw [e1]; rfl)).2, (h2.lt g' (by rw [e2]; rfl)).2⟩))
  have HN := Lib.hid hn
  have hnn : ((n : Int) != (n : Int)) = false := by simp
  clear h1 h2 hn
  go_enter Try.func15, Try.ntmps15
  go_wp2_with fail
  go_loopw [5] (fun iv wr => ∃ (k : Nat), iv = .int .i64 k ∧ k ≤ n ∧ Hid (Fr No w wr)) (fun i _ => n - (intOf i).toNat)
  case atStart => exact ⟨0, rfl, Nat.zero_le _, Fr.refl _ _⟩
  case round =>
    obtain ⟨k, rfl, hk, HF⟩ := hrel
    by_cases hlt : k < n
    · obtain ⟨g, g', rfl, rfl, k1, k2, g1, g2⟩ := HC.out k (by rw [← HN.out]; exact hlt)
      have k1 := (HF.out.cell (p := ⟨g, k, none⟩) g1 (fun h => h)).trans k1
      have k2 := (HF.out.cell (p := ⟨g', k, none⟩) g2 (fun h => h)).trans k2
      obtain ⟨x, hx⟩ : ∃ x, x = l[k]'(by rw [← HN.out]; exact hlt) := ⟨_, rfl⟩
      rw [← hx] at k1 k2
      have hxx : (x != x) = false := by simp
      clear hx g1 g2
      go_wp2_with fail
      go_quiet (fail)
      all_goals
        go_wp2_with fail
        go_roundw
        case rel => exact ⟨k + 1, by go_num, by omega, (show Fr No w _ from HF.out.then_no (by repeat' (first | with_reducible assumption | with_reducible exact Fr.refl _ _ | with_reducible refine Fr.drew ?_ | with_reducible refine Fr.drewN ?_ _ | with_reducible refine Fr.alloc ?_ _)))⟩
        case measure => simp [intOf]; omega
    · go_wp2_with fail
      go_ret
      exact ⟨rfl, HF.out⟩
end Tm
end Go.Proofs.Ytkmlmjglipmdcaa
