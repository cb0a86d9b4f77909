/- Package seat: its reference: Take. Printed by gen_seatu.py. -/
import Derived.Test.YtepnjmgacfjhiaaSeatQ
import Derived.Test.YtepnjmgacfjhiaaCalm
import Derived.BigQuiet
import Derived.Deep.CutRange
import Derived.Deep.RegionHeld3
import Derived.Outline
namespace Go.Proofs.Ytepnjmgacfjhiaa
open Go.RowKit
set_option linter.unusedVariables false
set_option linter.unusedSimpArgs false
namespace Seat
open Sls
section
variable {w w' : World} {S : Nat → Prop} {vL vW : Value} {s : St}
/-- The end of an act of the reference: the struct is laid into the result's block br. -/
theorem rt_of {W : World} {S' : Nat → Prop} {br : Nat} {vL' vW' v : Value} {s' : St} {l : Sh} {c : Int} (hF : Fr No w W) (hbr : w.heap.size ≤ br) (hR : RS W S' vL' vW' s') (hS : ∀ k, S' k → (S k ∨ New w W k) ∧ k ≠ br) (hSl : ∀ k, S k → k < w.heap.size) (hv : W.ownsRow 0 79 2 v l.length (l.flatMap encM)) (hvn : ∀ k, Of v k → New w W k ∧ k ≠ br) (a0 a1 a2 a3 : Value) :
    RTells (s', l, c) S w (.returned (.tuple #[agS vL' vW' s', v, .int .i64 c])) ((((W.setCell ⟨br, 0, none⟩ a0).setCell ⟨br, 1, none⟩ a1).setCell ⟨br, 2, none⟩ a2).setCell ⟨br, 3, none⟩ a3) := by
  have f67 : Fr (fun k => k = br) W ((((W.setCell ⟨br, 0, none⟩ a0).setCell ⟨br, 1, none⟩ a1).setCell ⟨br, 2, none⟩ a2).setCell ⟨br, 3, none⟩ a3) := Fr.setCell (F := fun k => k = br) (Fr.setCell (F := fun k => k = br) (Fr.setCell (F := fun k => k = br) (Fr.setCell (F := fun k => k = br) (Fr.refl _ _) (p := ⟨br, 0, none⟩) (.inl rfl) _) (p := ⟨br, 1, none⟩) (.inl rfl) _) (p := ⟨br, 2, none⟩) (.inl rfl) _) (p := ⟨br, 3, none⟩) (.inl rfl) _
  have F7 := hF.trans f67 (fun k hk hl => by have hk : k = br := hk; omega)
  have hz := f67.size
  refine ⟨vL', vW', v, rfl, (hR.fr f67 (fun k hk e => (hS k hk).2 e)).more (fun k hk => (hS k hk).1.elim .inl (fun g => .inr ⟨g.1, Nat.lt_of_lt_of_le g.2 hz⟩)) ?_, ⟨own_fr hv f67 (fun k hk e => (hvn k hk).2 e), fun k hk => ⟨(hvn k hk).1.1, Nat.lt_of_lt_of_le (hvn k hk).1.2 hz⟩⟩, F7⟩
  intro k hk
  rcases hk with hk | hk
  · exact Nat.lt_of_lt_of_le (hSl k hk) F7.size
  · exact hk.2
set_option maxRecDepth 100000 in
set_option maxHeartbeats 4000000 in
theorem rtake_any (h : RS w S vL vW s) (hq : s.q.length ≤ 4096) (hi : s.wr = -1 ∨ 0 ≤ s.wr) (id : Int) (force : Bool) : Calls Try.prog 61 #[agS vL vW s, .int .i64 id, .bool force] w (RTells (takeR s id force) S w) := by
  obtain ⟨A, c, B, d, rfl, rfl, hA1, hA2, hB1, hB2⟩ := h.forms
  obtain ⟨n, hn⟩ : ∃ n, n = s.L.length := ⟨_, rfl⟩
  obtain ⟨m, hm⟩ : ∃ m, m = s.q.length := ⟨_, rfl⟩
  obtain ⟨wr, hwr⟩ : ∃ wr, wr = s.wr := ⟨_, rfl⟩
  obtain ⟨ms, hms⟩ : ∃ ms, ms = s.most := ⟨_, rfl⟩
  have ag : agS (.slice A s.L.length c) (.slice B s.q.length d) s = .agg #[.slice A n c, .int .i64 ms, .int .i64 wr, .slice B m d] := by rw [hn, hm, hwr, hms]
  rw [ag]
  have AG := Lib.hid ag
  have HN := Lib.hid hn
  have HM := Lib.hid hm
  have HMS := Lib.hid hms
  have HWR := Lib.hid hwr
  have H := Lib.hid h
  have XB := (Blk.new w 71 #[.slice A n c, .int .i64 ms, .int .i64 wr, .slice B m d]).alloc (.cells #[.slice none 0 0, .int .i64 0, .int .i64 0, .slice none 0 0] 71)
  have XR := Blk.new (w.alloc (.cells #[.slice A n c, .int .i64 ms, .int .i64 wr, .slice B m d] 71)) 71 #[.slice none 0 0, .int .i64 0, .int .i64 0, .slice none 0 0]
  have F1 := ((Fr.refl No w).alloc (.cells #[.slice A n c, .int .i64 ms, .int .i64 wr, .slice B m d] 71)).alloc (.cells #[.slice none 0 0, .int .i64 0, .int .i64 0, .slice none 0 0] 71)
  rw [size_alloc] at XR
  obtain ⟨bx, hbx⟩ : ∃ bx, w.heap.size = bx := ⟨_, rfl⟩
  obtain ⟨br, hbr⟩ : ∃ br, bx + 1 = br := ⟨_, rfl⟩
  rw [hbx] at XB XR
  rw [hbr] at XR
  have XB := Lib.hid XB
  have XR := Lib.hid XR
  have F1 := Lib.hid F1
  have HBX := Lib.hid hbx
  have HBR := Lib.hid hbr
  obtain ⟨cd, hcd⟩ : ∃ cd, wantsR s id = cd := ⟨_, rfl⟩
  have HW := Lib.hid (fun (X : World) (hf : Fr No w X) => rwants_any (H.out.no hf) id)
  simp only [AG.out, hcd] at HW
  have HBE := Lib.hid (fun (X : World) (hf : Fr No w X) => rbecome_any (H.out.no hf) hq id)
  simp only [AG.out] at HBE
  have HL1 := Lib.hid (fun (X : World) (hf : Fr No w X) => rlevel_any (H.out.no hf) id)
  have HL2 := Lib.hid (fun (X : World) (hf : Fr No w X) => rlevel_any (H.out.no hf) wr)
  obtain ⟨lv, hlv⟩ : ∃ lv, lv = levelR s.L id := ⟨_, rfl⟩
  obtain ⟨lw, hlw⟩ : ∃ lw, lw = levelR s.L wr := ⟨_, rfl⟩
  simp only [AG.out, ← hlv] at HL1
  simp only [AG.out, ← hlw] at HL2
  have HBL := Lib.hid (show w.heap.size ≤ br by omega)
  by_cases h0 : cd = 0
  · subst h0
    have hcs : (force = true ∧ decide (lv < 3) = true ∧ takeR s id force = (s, [], 10)) ∨ (force = true ∧ decide (lv < 3) = false ∧ takeR s id force = ((becomeR s id).1, (becomeR s id).2, 0)) ∨
        (force = false ∧ decide (0 ≤ wr) = false ∧ takeR s id force = ((becomeR s id).1, (becomeR s id).2, 0)) ∨ (force = false ∧ decide (0 ≤ wr) = true ∧ decide (lv ≤ lw) = true ∧ takeR s id force = (s, [], 10)) ∨ (force = false ∧ decide (0 ≤ wr) = true ∧ decide (lv ≤ lw) = false ∧ takeR s id force = ((becomeR s id).1, (becomeR s id).2, 0)) := by
      have ht : takeR s id force = if takeB s id force = true then (s, [], 10) else ((becomeR s id).1, (becomeR s id).2, 0) := by unfold takeR; rw [if_neg (by simp [hcd])]
      rw [ht]
      cases force with
      | true =>
        have tb : takeB s id true = decide (lv < 3) := by rw [hlv]; rfl
        rw [tb]
        cases hd : decide (lv < 3)
        · exact .inr (.inl ⟨rfl, rfl, rfl⟩)
        · exact .inl ⟨rfl, rfl, rfl⟩
      | false =>
        have tb : takeB s id false = (decide (0 ≤ wr) && decide (lv ≤ lw)) := by
          rw [hlv, hlw, hwr]
          show decide (_ ∧ _) = _
          rw [Bool.decide_and]
        rw [tb]
        cases hd : decide (0 ≤ wr)
        · exact .inr (.inr (.inl ⟨rfl, rfl, rfl⟩))
        · cases he : decide (lv ≤ lw)
          · exact .inr (.inr (.inr (.inr ⟨rfl, rfl, rfl, rfl⟩)))
          · exact .inr (.inr (.inr (.inl ⟨rfl, rfl, rfl, rfl⟩)))
    clear h hq ag hn hm hms hwr hcd hlv hlw hi
    rcases hcs with ⟨rfl, g1, e⟩ | ⟨rfl, g1, e⟩ | ⟨rfl, g1, e⟩ | ⟨rfl, g1, g2, e⟩ | ⟨rfl, g1, g2, e⟩
    · have HE := Lib.hid e
      clear e
      go_enter Try.func61, Try.ntmps61
      go_upto_region 1 with (fail)
      generalize (w.alloc (.cells #[.slice A n c, .int .i64 ms, .int .i64 wr, .slice B m d] 71)).alloc (.cells #[.slice none 0 0, .int .i64 0, .int .i64 0, .slice none 0 0] 71) = w1 at XB XR F1 ⊢
      clear hbx hbr
      have XBo := XB.out
      have x0 := XBo.cell 0
      have x1 := XBo.cell 1
      have x2 := XBo.cell 2
      have x3 := XBo.cell 3
      have xf0 := XBo.frozen 0
      have xf1 := XBo.frozen 1
      have xf2 := XBo.frozen 2
      have xf3 := XBo.frozen 3
      simp only [List.getElem?_toArray, List.getElem?_cons_zero, List.getElem?_cons_succ] at x0 x1 x2 x3
      clear XBo
      have W1 := Lib.hid (HW.out w1 F1.out)
      go_wp2_with fail
      refine W1.out.mono ?_
      rintro e w2 ⟨rfl, hf⟩
      have F2 := Lib.hid (F1.out.then_no hf)
      have XB2 := Lib.hid (XB.out.fr hf (fun h => h))
      have XR2 := Lib.hid (XR.out.fr hf (fun h => h))
      clear hf x0 x1 x2 x3 xf0 xf1 xf2 xf3
      go_upto_region 4 with (fail)
      refine wp_region_calm (w0 := w2) (by kernel_rfl) (by kernel_rfl) (Fr.refl _ _) ?_
      intro I hne g hg hcl
      have HG := Lib.hid hg
      have HCL := Lib.hid hcl
      have xb0 := fun i => (XB2.out.fr (hg i) (fun h => h)).cell 0
      have xb1 := fun i => (XB2.out.fr (hg i) (fun h => h)).cell 1
      have xb2 := fun i => (XB2.out.fr (hg i) (fun h => h)).cell 2
      have xb3 := fun i => (XB2.out.fr (hg i) (fun h => h)).cell 3
      simp only [List.getElem?_toArray, List.getElem?_cons_zero, List.getElem?_cons_succ] at xb0 xb1 xb2 xb3
      clear hg hcl
      repeat (go_big_quiet_step (first | (go_at_call 40; with_reducible exact calm_left HCL.out (HL1.out _ (F2.out.then_no (HG.out _)))) | (go_at_call 40; with_reducible exact calm_left HCL.out (HL2.out _ (F2.out.then_no (HG.out _))))))
      refine wpQuiet_nil ?_
      intro _ hw'
      obtain ⟨i, rfl⟩ := hw'
      have HGI := Lib.hid (HG.out i)
      clear xb0 xb1 xb2 xb3
      generalize g i = w3 at HGI ⊢
      have F3 := Lib.hid (F2.out.then_no HGI.out)
      have XB3 := Lib.hid (XB2.out.fr HGI.out (fun h => h))
      have XR3 := Lib.hid (XR2.out.fr HGI.out (fun h => h))
      have XBo := XB3.out
      have x0 := XBo.cell 0
      have x1 := XBo.cell 1
      have x2 := XBo.cell 2
      have x3 := XBo.cell 3
      have xf0 := XBo.frozen 0
      have xf1 := XBo.frozen 1
      have xf2 := XBo.frozen 2
      have xf3 := XBo.frozen 3
      simp only [List.getElem?_toArray, List.getElem?_cons_zero, List.getElem?_cons_succ] at x0 x1 x2 x3
      have XRo := XR3.out
      have r0 := XRo.cell 0
      have r1 := XRo.cell 1
      have r2 := XRo.cell 2
      have r3 := XRo.cell 3
      have rf0 := XRo.frozen 0
      have rf1 := XRo.frozen 1
      have rf2 := XRo.frozen 2
      have rf3 := XRo.frozen 3
      simp only [List.getElem?_toArray, List.getElem?_cons_zero, List.getElem?_cons_succ] at r0 r1 r2 r3
      clear XBo XRo
      go_wp2_with fail
      have hrlt := XR3.out.lt
      have hRS := H.out.no F3.out
      rw [← HN.out, ← HM.out] at hRS
      have rt := rt_of (br := br) (c := 10) (l := []) F3.out HBL.out hRS (fun k hk => ⟨.inl hk, fun e => by have := H.out.lt k hk; have := HBL.out; omega⟩) H.out.lt (World.ownsRow_nil _ _ _ _) (fun k hk => (of_nil hk).elim) (.slice A n c) (.int .i64 ms) (.int .i64 wr) (.slice B m d)
      rw [show agS (.slice A n c) (.slice B m d) s = .agg #[.slice A n c, .int .i64 ms, .int .i64 wr, .slice B m d] by rw [HMS.out, HWR.out]] at rt
      rw [HE.out]
      have b9 := (((XR3.out.put 0 (.slice A n c)).put 1 (.int .i64 ms)).put 2 (.int .i64 wr)).put 3 (.slice B m d)
      simp only [List.setIfInBounds_toArray, List.set_cons_zero, List.set_cons_succ] at b9
      have e0 := b9.cell 0
      have e1 := b9.cell 1
      have e2 := b9.cell 2
      have e3 := b9.cell 3
      simp only [List.getElem?_toArray, List.getElem?_cons_zero, List.getElem?_cons_succ] at e0 e1 e2 e3
      refine bodyPost_ret (v := .tuple #[.agg #[.slice A n c, .int .i64 ms, .int .i64 wr, .slice B m d], .slice none 0 0, .int .i64 10]) ?_ rfl rt
      clear b9
      simp [results, Try.f61, go_sem, e0, e1, e2, e3]
    · have HE := Lib.hid e
      clear e
      go_enter Try.func61, Try.ntmps61
      go_upto_region 1 with (fail)
      generalize (w.alloc (.cells #[.slice A n c, .int .i64 ms, .int .i64 wr, .slice B m d] 71)).alloc (.cells #[.slice none 0 0, .int .i64 0, .int .i64 0, .slice none 0 0] 71) = w1 at XB XR F1 ⊢
      clear hbx hbr
      have XBo := XB.out
      have x0 := XBo.cell 0
      have x1 := XBo.cell 1
      have x2 := XBo.cell 2
      have x3 := XBo.cell 3
      have xf0 := XBo.frozen 0
      have xf1 := XBo.frozen 1
      have xf2 := XBo.frozen 2
      have xf3 := XBo.frozen 3
      simp only [List.getElem?_toArray, List.getElem?_cons_zero, List.getElem?_cons_succ] at x0 x1 x2 x3
      clear XBo
      have W1 := Lib.hid (HW.out w1 F1.out)
      go_wp2_with fail
      refine W1.out.mono ?_
      rintro e w2 ⟨rfl, hf⟩
      have F2 := Lib.hid (F1.out.then_no hf)
      have XB2 := Lib.hid (XB.out.fr hf (fun h => h))
      have XR2 := Lib.hid (XR.out.fr hf (fun h => h))
      clear hf x0 x1 x2 x3 xf0 xf1 xf2 xf3
      go_upto_region 4 with (fail)
      refine wp_region_calm (w0 := w2) (by kernel_rfl) (by kernel_rfl) (Fr.refl _ _) ?_
      intro I hne g hg hcl
      have HG := Lib.hid hg
      have HCL := Lib.hid hcl
      have xb0 := fun i => (XB2.out.fr (hg i) (fun h => h)).cell 0
      have xb1 := fun i => (XB2.out.fr (hg i) (fun h => h)).cell 1
      have xb2 := fun i => (XB2.out.fr (hg i) (fun h => h)).cell 2
      have xb3 := fun i => (XB2.out.fr (hg i) (fun h => h)).cell 3
      simp only [List.getElem?_toArray, List.getElem?_cons_zero, List.getElem?_cons_succ] at xb0 xb1 xb2 xb3
      clear hg hcl
      repeat (go_big_quiet_step (first | (go_at_call 40; with_reducible exact calm_left HCL.out (HL1.out _ (F2.out.then_no (HG.out _)))) | (go_at_call 40; with_reducible exact calm_left HCL.out (HL2.out _ (F2.out.then_no (HG.out _))))))
      refine wpQuiet_nil ?_
      intro _ hw'
      obtain ⟨i, rfl⟩ := hw'
      have HGI := Lib.hid (HG.out i)
      clear xb0 xb1 xb2 xb3
      generalize g i = w3 at HGI ⊢
      have F3 := Lib.hid (F2.out.then_no HGI.out)
      have XB3 := Lib.hid (XB2.out.fr HGI.out (fun h => h))
      have XR3 := Lib.hid (XR2.out.fr HGI.out (fun h => h))
      have XBo := XB3.out
      have x0 := XBo.cell 0
      have x1 := XBo.cell 1
      have x2 := XBo.cell 2
      have x3 := XBo.cell 3
      have xf0 := XBo.frozen 0
      have xf1 := XBo.frozen 1
      have xf2 := XBo.frozen 2
      have xf3 := XBo.frozen 3
      simp only [List.getElem?_toArray, List.getElem?_cons_zero, List.getElem?_cons_succ] at x0 x1 x2 x3
      clear XBo
      go_wp2_with fail
      refine (HBE.out _ F3.out).mono ?_
      rintro e w8 ⟨vL, vW, v, rfl, hR, ⟨hv, hvn⟩, hf⟩
      obtain ⟨A8, c8, B8, d8, rfl, rfl, -⟩ := hR.forms
      obtain ⟨A9, c9, rfl⟩ := own_form hv
      obtain ⟨st, hst⟩ : ∃ st, st = (becomeR s id).1 := ⟨_, rfl⟩
      obtain ⟨l8, hl8⟩ : ∃ l8, l8 = (becomeR s id).2 := ⟨_, rfl⟩
      simp only [← hst, ← hl8] at hR hv hvn ⊢
      obtain ⟨n8, hn8⟩ : ∃ n8, n8 = st.L.length := ⟨_, rfl⟩
      obtain ⟨m8, hm8⟩ : ∃ m8, m8 = st.q.length := ⟨_, rfl⟩
      obtain ⟨k8, hk8⟩ : ∃ k8, k8 = l8.length := ⟨_, rfl⟩
      obtain ⟨wr8, hwr8⟩ : ∃ wr8, wr8 = st.wr := ⟨_, rfl⟩
      obtain ⟨ms8, hms8⟩ : ∃ ms8, ms8 = st.most := ⟨_, rfl⟩
      rw [show agS (.slice A8 st.L.length c8) (.slice B8 st.q.length d8) st = .agg #[.slice A8 n8 c8, .int .i64 ms8, .int .i64 wr8, .slice B8 m8 d8] by rw [hn8, hm8, hwr8, hms8], ← hk8]
      rw [← hn8, ← hm8] at hR
      rw [← hk8] at hv hvn
      have hrl := XR3.out.lt
      have HR8 := Lib.hid hR
      have HV8 := Lib.hid hv
      have HVN8 := Lib.hid hvn
      have HF8 := Lib.hid hf
      have HST := Lib.hid (And.intro hst (And.intro hl8 (And.intro hwr8 (And.intro hms8 hk8))))
      have XR8 := Lib.hid (XR3.out.fr hf (fun h => h))
      have F8 := Lib.hid (F3.out.then_no hf)
      clear hR hv hvn hf hst hl8 hn8 hm8 hk8 hwr8 hms8
      have XRo := XR8.out
      have r0 := XRo.cell 0
      have r1 := XRo.cell 1
      have r2 := XRo.cell 2
      have r3 := XRo.cell 3
      have rf0 := XRo.frozen 0
      have rf1 := XRo.frozen 1
      have rf2 := XRo.frozen 2
      have rf3 := XRo.frozen 3
      simp only [List.getElem?_toArray, List.getElem?_cons_zero, List.getElem?_cons_succ] at r0 r1 r2 r3
      clear XRo x0 x1 x2 x3 xf0 xf1 xf2 xf3
      go_wp2_with fail
      obtain ⟨g1, g2, g3, g4, g5⟩ := HST.out
      have zz := HF8.out.size
      have hv8 := HV8.out
      rw [g5] at hv8
      have rt := rt_of (br := br) (c := 0) (l := l8) F8.out HBL.out HR8.out (fun k hk => ⟨hk.elim .inl (fun g => .inr ⟨Nat.le_trans F3.out.size g.1, g.2⟩), fun e => hk.elim (fun g => by have := H.out.lt k g; have := HBL.out; omega) (fun g => by have := g.1; omega)⟩) H.out.lt hv8 (fun k hk => by
        rw [← g5] at hk
        have h9 := HVN8.out k hk
        exact ⟨⟨Nat.le_trans F3.out.size h9.1, h9.2⟩, by have := h9.1; omega⟩) (.slice A8 n8 c8) (.int .i64 ms8) (.int .i64 wr8) (.slice B8 m8 d8)
      rw [show agS (.slice A8 n8 c8) (.slice B8 m8 d8) st = .agg #[.slice A8 n8 c8, .int .i64 ms8, .int .i64 wr8, .slice B8 m8 d8] by rw [g3, g4], ← g5] at rt
      rw [HE.out, ← g1, ← g2]
      have b9 := (((XR8.out.put 0 (.slice A8 n8 c8)).put 1 (.int .i64 ms8)).put 2 (.int .i64 wr8)).put 3 (.slice B8 m8 d8)
      simp only [List.setIfInBounds_toArray, List.set_cons_zero, List.set_cons_succ] at b9
      have e0 := b9.cell 0
      have e1 := b9.cell 1
      have e2 := b9.cell 2
      have e3 := b9.cell 3
      simp only [List.getElem?_toArray, List.getElem?_cons_zero, List.getElem?_cons_succ] at e0 e1 e2 e3
      refine bodyPost_ret (v := .tuple #[.agg #[.slice A8 n8 c8, .int .i64 ms8, .int .i64 wr8, .slice B8 m8 d8], .slice A9 k8 c9, .int .i64 0]) ?_ rfl rt
      clear b9
      simp [results, Try.f61, go_sem, e0, e1, e2, e3]
    · have HE := Lib.hid e
      clear e
      go_enter Try.func61, Try.ntmps61
      go_upto_region 1 with (fail)
      generalize (w.alloc (.cells #[.slice A n c, .int .i64 ms, .int .i64 wr, .slice B m d] 71)).alloc (.cells #[.slice none 0 0, .int .i64 0, .int .i64 0, .slice none 0 0] 71) = w1 at XB XR F1 ⊢
      clear hbx hbr
      have XBo := XB.out
      have x0 := XBo.cell 0
      have x1 := XBo.cell 1
      have x2 := XBo.cell 2
      have x3 := XBo.cell 3
      have xf0 := XBo.frozen 0
      have xf1 := XBo.frozen 1
      have xf2 := XBo.frozen 2
      have xf3 := XBo.frozen 3
      simp only [List.getElem?_toArray, List.getElem?_cons_zero, List.getElem?_cons_succ] at x0 x1 x2 x3
      clear XBo
      have W1 := Lib.hid (HW.out w1 F1.out)
      go_wp2_with fail
      refine W1.out.mono ?_
      rintro e w2 ⟨rfl, hf⟩
      have F2 := Lib.hid (F1.out.then_no hf)
      have XB2 := Lib.hid (XB.out.fr hf (fun h => h))
      have XR2 := Lib.hid (XR.out.fr hf (fun h => h))
      clear hf x0 x1 x2 x3 xf0 xf1 xf2 xf3
      go_upto_region 4 with (fail)
      refine wp_region_calm (w0 := w2) (by kernel_rfl) (by kernel_rfl) (Fr.refl _ _) ?_
      intro I hne g hg hcl
      have HG := Lib.hid hg
      have HCL := Lib.hid hcl
      have xb0 := fun i => (XB2.out.fr (hg i) (fun h => h)).cell 0
      have xb1 := fun i => (XB2.out.fr (hg i) (fun h => h)).cell 1
      have xb2 := fun i => (XB2.out.fr (hg i) (fun h => h)).cell 2
      have xb3 := fun i => (XB2.out.fr (hg i) (fun h => h)).cell 3
      simp only [List.getElem?_toArray, List.getElem?_cons_zero, List.getElem?_cons_succ] at xb0 xb1 xb2 xb3
      clear hg hcl
      repeat (go_big_quiet_step (first | (go_at_call 40; with_reducible exact calm_left HCL.out (HL1.out _ (F2.out.then_no (HG.out _)))) | (go_at_call 40; with_reducible exact calm_left HCL.out (HL2.out _ (F2.out.then_no (HG.out _))))))
      refine wpQuiet_nil ?_
      intro _ hw'
      obtain ⟨i, rfl⟩ := hw'
      have HGI := Lib.hid (HG.out i)
      clear xb0 xb1 xb2 xb3
      generalize g i = w3 at HGI ⊢
      have F3 := Lib.hid (F2.out.then_no HGI.out)
      have XB3 := Lib.hid (XB2.out.fr HGI.out (fun h => h))
      have XR3 := Lib.hid (XR2.out.fr HGI.out (fun h => h))
      have XBo := XB3.out
      have x0 := XBo.cell 0
      have x1 := XBo.cell 1
      have x2 := XBo.cell 2
      have x3 := XBo.cell 3
      have xf0 := XBo.frozen 0
      have xf1 := XBo.frozen 1
      have xf2 := XBo.frozen 2
      have xf3 := XBo.frozen 3
      simp only [List.getElem?_toArray, List.getElem?_cons_zero, List.getElem?_cons_succ] at x0 x1 x2 x3
      clear XBo
      go_wp2_with fail
      refine (HBE.out _ F3.out).mono ?_
      rintro e w8 ⟨vL, vW, v, rfl, hR, ⟨hv, hvn⟩, hf⟩
      obtain ⟨A8, c8, B8, d8, rfl, rfl, -⟩ := hR.forms
      obtain ⟨A9, c9, rfl⟩ := own_form hv
      obtain ⟨st, hst⟩ : ∃ st, st = (becomeR s id).1 := ⟨_, rfl⟩
      obtain ⟨l8, hl8⟩ : ∃ l8, l8 = (becomeR s id).2 := ⟨_, rfl⟩
      simp only [← hst, ← hl8] at hR hv hvn ⊢
      obtain ⟨n8, hn8⟩ : ∃ n8, n8 = st.L.length := ⟨_, rfl⟩
      obtain ⟨m8, hm8⟩ : ∃ m8, m8 = st.q.length := ⟨_, rfl⟩
      obtain ⟨k8, hk8⟩ : ∃ k8, k8 = l8.length := ⟨_, rfl⟩
      obtain ⟨wr8, hwr8⟩ : ∃ wr8, wr8 = st.wr := ⟨_, rfl⟩
      obtain ⟨ms8, hms8⟩ : ∃ ms8, ms8 = st.most := ⟨_, rfl⟩
      rw [show agS (.slice A8 st.L.length c8) (.slice B8 st.q.length d8) st = .agg #[.slice A8 n8 c8, .int .i64 ms8, .int .i64 wr8, .slice B8 m8 d8] by rw [hn8, hm8, hwr8, hms8], ← hk8]
      rw [← hn8, ← hm8] at hR
      rw [← hk8] at hv hvn
      have hrl := XR3.out.lt
      have HR8 := Lib.hid hR
      have HV8 := Lib.hid hv
      have HVN8 := Lib.hid hvn
      have HF8 := Lib.hid hf
      have HST := Lib.hid (And.intro hst (And.intro hl8 (And.intro hwr8 (And.intro hms8 hk8))))
      have XR8 := Lib.hid (XR3.out.fr hf (fun h => h))
      have F8 := Lib.hid (F3.out.then_no hf)
      clear hR hv hvn hf hst hl8 hn8 hm8 hk8 hwr8 hms8
      have XRo := XR8.out
      have r0 := XRo.cell 0
      have r1 := XRo.cell 1
      have r2 := XRo.cell 2
      have r3 := XRo.cell 3
      have rf0 := XRo.frozen 0
      have rf1 := XRo.frozen 1
      have rf2 := XRo.frozen 2
      have rf3 := XRo.frozen 3
      simp only [List.getElem?_toArray, List.getElem?_cons_zero, List.getElem?_cons_succ] at r0 r1 r2 r3
      clear XRo x0 x1 x2 x3 xf0 xf1 xf2 xf3
      go_wp2_with fail
      obtain ⟨g1, g2, g3, g4, g5⟩ := HST.out
      have zz := HF8.out.size
      have hv8 := HV8.out
      rw [g5] at hv8
      have rt := rt_of (br := br) (c := 0) (l := l8) F8.out HBL.out HR8.out (fun k hk => ⟨hk.elim .inl (fun g => .inr ⟨Nat.le_trans F3.out.size g.1, g.2⟩), fun e => hk.elim (fun g => by have := H.out.lt k g; have := HBL.out; omega) (fun g => by have := g.1; omega)⟩) H.out.lt hv8 (fun k hk => by
        rw [← g5] at hk
        have h9 := HVN8.out k hk
        exact ⟨⟨Nat.le_trans F3.out.size h9.1, h9.2⟩, by have := h9.1; omega⟩) (.slice A8 n8 c8) (.int .i64 ms8) (.int .i64 wr8) (.slice B8 m8 d8)
      rw [show agS (.slice A8 n8 c8) (.slice B8 m8 d8) st = .agg #[.slice A8 n8 c8, .int .i64 ms8, .int .i64 wr8, .slice B8 m8 d8] by rw [g3, g4], ← g5] at rt
      rw [HE.out, ← g1, ← g2]
      have b9 := (((XR8.out.put 0 (.slice A8 n8 c8)).put 1 (.int .i64 ms8)).put 2 (.int .i64 wr8)).put 3 (.slice B8 m8 d8)
      simp only [List.setIfInBounds_toArray, List.set_cons_zero, List.set_cons_succ] at b9
      have e0 := b9.cell 0
      have e1 := b9.cell 1
      have e2 := b9.cell 2
      have e3 := b9.cell 3
      simp only [List.getElem?_toArray, List.getElem?_cons_zero, List.getElem?_cons_succ] at e0 e1 e2 e3
      refine bodyPost_ret (v := .tuple #[.agg #[.slice A8 n8 c8, .int .i64 ms8, .int .i64 wr8, .slice B8 m8 d8], .slice A9 k8 c9, .int .i64 0]) ?_ rfl rt
      clear b9
      simp [results, Try.f61, go_sem, e0, e1, e2, e3]
    · have HE := Lib.hid e
      clear e
      go_enter Try.func61, Try.ntmps61
      go_upto_region 1 with (fail)
      generalize (w.alloc (.cells #[.slice A n c, .int .i64 ms, .int .i64 wr, .slice B m d] 71)).alloc (.cells #[.slice none 0 0, .int .i64 0, .int .i64 0, .slice none 0 0] 71) = w1 at XB XR F1 ⊢
      clear hbx hbr
      have XBo := XB.out
      have x0 := XBo.cell 0
      have x1 := XBo.cell 1
      have x2 := XBo.cell 2
      have x3 := XBo.cell 3
      have xf0 := XBo.frozen 0
      have xf1 := XBo.frozen 1
      have xf2 := XBo.frozen 2
      have xf3 := XBo.frozen 3
      simp only [List.getElem?_toArray, List.getElem?_cons_zero, List.getElem?_cons_succ] at x0 x1 x2 x3
      clear XBo
      have W1 := Lib.hid (HW.out w1 F1.out)
      go_wp2_with fail
      refine W1.out.mono ?_
      rintro e w2 ⟨rfl, hf⟩
      have F2 := Lib.hid (F1.out.then_no hf)
      have XB2 := Lib.hid (XB.out.fr hf (fun h => h))
      have XR2 := Lib.hid (XR.out.fr hf (fun h => h))
      clear hf x0 x1 x2 x3 xf0 xf1 xf2 xf3
      go_upto_region 4 with (fail)
      refine wp_region_calm (w0 := w2) (by kernel_rfl) (by kernel_rfl) (Fr.refl _ _) ?_
      intro I hne g hg hcl
      have HG := Lib.hid hg
      have HCL := Lib.hid hcl
      have xb0 := fun i => (XB2.out.fr (hg i) (fun h => h)).cell 0
      have xb1 := fun i => (XB2.out.fr (hg i) (fun h => h)).cell 1
      have xb2 := fun i => (XB2.out.fr (hg i) (fun h => h)).cell 2
      have xb3 := fun i => (XB2.out.fr (hg i) (fun h => h)).cell 3
      simp only [List.getElem?_toArray, List.getElem?_cons_zero, List.getElem?_cons_succ] at xb0 xb1 xb2 xb3
      clear hg hcl
      repeat (go_big_quiet_step (first | (go_at_call 40; with_reducible exact calm_left HCL.out (HL1.out _ (F2.out.then_no (HG.out _)))) | (go_at_call 40; with_reducible exact calm_left HCL.out (HL2.out _ (F2.out.then_no (HG.out _))))))
      refine wpQuiet_nil ?_
      intro _ hw'
      obtain ⟨i, rfl⟩ := hw'
      have HGI := Lib.hid (HG.out i)
      clear xb0 xb1 xb2 xb3
      generalize g i = w3 at HGI ⊢
      have F3 := Lib.hid (F2.out.then_no HGI.out)
      have XB3 := Lib.hid (XB2.out.fr HGI.out (fun h => h))
      have XR3 := Lib.hid (XR2.out.fr HGI.out (fun h => h))
      have XBo := XB3.out
      have x0 := XBo.cell 0
      have x1 := XBo.cell 1
      have x2 := XBo.cell 2
      have x3 := XBo.cell 3
      have xf0 := XBo.frozen 0
      have xf1 := XBo.frozen 1
      have xf2 := XBo.frozen 2
      have xf3 := XBo.frozen 3
      simp only [List.getElem?_toArray, List.getElem?_cons_zero, List.getElem?_cons_succ] at x0 x1 x2 x3
      have XRo := XR3.out
      have r0 := XRo.cell 0
      have r1 := XRo.cell 1
      have r2 := XRo.cell 2
      have r3 := XRo.cell 3
      have rf0 := XRo.frozen 0
      have rf1 := XRo.frozen 1
      have rf2 := XRo.frozen 2
      have rf3 := XRo.frozen 3
      simp only [List.getElem?_toArray, List.getElem?_cons_zero, List.getElem?_cons_succ] at r0 r1 r2 r3
      clear XBo XRo
      go_wp2_with fail
      have hrlt := XR3.out.lt
      have hRS := H.out.no F3.out
      rw [← HN.out, ← HM.out] at hRS
      have rt := rt_of (br := br) (c := 10) (l := []) F3.out HBL.out hRS (fun k hk => ⟨.inl hk, fun e => by have := H.out.lt k hk; have := HBL.out; omega⟩) H.out.lt (World.ownsRow_nil _ _ _ _) (fun k hk => (of_nil hk).elim) (.slice A n c) (.int .i64 ms) (.int .i64 wr) (.slice B m d)
      rw [show agS (.slice A n c) (.slice B m d) s = .agg #[.slice A n c, .int .i64 ms, .int .i64 wr, .slice B m d] by rw [HMS.out, HWR.out]] at rt
      rw [HE.out]
      have b9 := (((XR3.out.put 0 (.slice A n c)).put 1 (.int .i64 ms)).put 2 (.int .i64 wr)).put 3 (.slice B m d)
      simp only [List.setIfInBounds_toArray, List.set_cons_zero, List.set_cons_succ] at b9
      have e0 := b9.cell 0
      have e1 := b9.cell 1
      have e2 := b9.cell 2
      have e3 := b9.cell 3
      simp only [List.getElem?_toArray, List.getElem?_cons_zero, List.getElem?_cons_succ] at e0 e1 e2 e3
      refine bodyPost_ret (v := .tuple #[.agg #[.slice A n c, .int .i64 ms, .int .i64 wr, .slice B m d], .slice none 0 0, .int .i64 10]) ?_ rfl rt
      clear b9
      simp [results, Try.f61, go_sem, e0, e1, e2, e3]
    · have HE := Lib.hid e
      clear e
      go_enter Try.func61, Try.ntmps61
      go_upto_region 1 with (fail)
      generalize (w.alloc (.cells #[.slice A n c, .int .i64 ms, .int .i64 wr, .slice B m d] 71)).alloc (.cells #[.slice none 0 0, .int .i64 0, .int .i64 0, .slice none 0 0] 71) = w1 at XB XR F1 ⊢
      clear hbx hbr
      have XBo := XB.out
      have x0 := XBo.cell 0
      have x1 := XBo.cell 1
      have x2 := XBo.cell 2
      have x3 := XBo.cell 3
      have xf0 := XBo.frozen 0
      have xf1 := XBo.frozen 1
      have xf2 := XBo.frozen 2
      have xf3 := XBo.frozen 3
      simp only [List.getElem?_toArray, List.getElem?_cons_zero, List.getElem?_cons_succ] at x0 x1 x2 x3
      clear XBo
      have W1 := Lib.hid (HW.out w1 F1.out)
      go_wp2_with fail
      refine W1.out.mono ?_
      rintro e w2 ⟨rfl, hf⟩
      have F2 := Lib.hid (F1.out.then_no hf)
      have XB2 := Lib.hid (XB.out.fr hf (fun h => h))
      have XR2 := Lib.hid (XR.out.fr hf (fun h => h))
      clear hf x0 x1 x2 x3 xf0 xf1 xf2 xf3
      go_upto_region 4 with (fail)
      refine wp_region_calm (w0 := w2) (by kernel_rfl) (by kernel_rfl) (Fr.refl _ _) ?_
      intro I hne g hg hcl
      have HG := Lib.hid hg
      have HCL := Lib.hid hcl
      have xb0 := fun i => (XB2.out.fr (hg i) (fun h => h)).cell 0
      have xb1 := fun i => (XB2.out.fr (hg i) (fun h => h)).cell 1
      have xb2 := fun i => (XB2.out.fr (hg i) (fun h => h)).cell 2
      have xb3 := fun i => (XB2.out.fr (hg i) (fun h => h)).cell 3
      simp only [List.getElem?_toArray, List.getElem?_cons_zero, List.getElem?_cons_succ] at xb0 xb1 xb2 xb3
      clear hg hcl
      repeat (go_big_quiet_step (first | (go_at_call 40; with_reducible exact calm_left HCL.out (HL1.out _ (F2.out.then_no (HG.out _)))) | (go_at_call 40; with_reducible exact calm_left HCL.out (HL2.out _ (F2.out.then_no (HG.out _))))))
      refine wpQuiet_nil ?_
      intro _ hw'
      obtain ⟨i, rfl⟩ := hw'
      have HGI := Lib.hid (HG.out i)
      clear xb0 xb1 xb2 xb3
      generalize g i = w3 at HGI ⊢
      have F3 := Lib.hid (F2.out.then_no HGI.out)
      have XB3 := Lib.hid (XB2.out.fr HGI.out (fun h => h))
      have XR3 := Lib.hid (XR2.out.fr HGI.out (fun h => h))
      have XBo := XB3.out
      have x0 := XBo.cell 0
      have x1 := XBo.cell 1
      have x2 := XBo.cell 2
      have x3 := XBo.cell 3
      have xf0 := XBo.frozen 0
      have xf1 := XBo.frozen 1
      have xf2 := XBo.frozen 2
      have xf3 := XBo.frozen 3
      simp only [List.getElem?_toArray, List.getElem?_cons_zero, List.getElem?_cons_succ] at x0 x1 x2 x3
      clear XBo
      go_wp2_with fail
      refine (HBE.out _ F3.out).mono ?_
      rintro e w8 ⟨vL, vW, v, rfl, hR, ⟨hv, hvn⟩, hf⟩
      obtain ⟨A8, c8, B8, d8, rfl, rfl, -⟩ := hR.forms
      obtain ⟨A9, c9, rfl⟩ := own_form hv
      obtain ⟨st, hst⟩ : ∃ st, st = (becomeR s id).1 := ⟨_, rfl⟩
      obtain ⟨l8, hl8⟩ : ∃ l8, l8 = (becomeR s id).2 := ⟨_, rfl⟩
      simp only [← hst, ← hl8] at hR hv hvn ⊢
      obtain ⟨n8, hn8⟩ : ∃ n8, n8 = st.L.length := ⟨_, rfl⟩
      obtain ⟨m8, hm8⟩ : ∃ m8, m8 = st.q.length := ⟨_, rfl⟩
      obtain ⟨k8, hk8⟩ : ∃ k8, k8 = l8.length := ⟨_, rfl⟩
      obtain ⟨wr8, hwr8⟩ : ∃ wr8, wr8 = st.wr := ⟨_, rfl⟩
      obtain ⟨ms8, hms8⟩ : ∃ ms8, ms8 = st.most := ⟨_, rfl⟩
      rw [show agS (.slice A8 st.L.length c8) (.slice B8 st.q.length d8) st = .agg #[.slice A8 n8 c8, .int .i64 ms8, .int .i64 wr8, .slice B8 m8 d8] by rw [hn8, hm8, hwr8, hms8], ← hk8]
      rw [← hn8, ← hm8] at hR
      rw [← hk8] at hv hvn
      have hrl := XR3.out.lt
      have HR8 := Lib.hid hR
      have HV8 := Lib.hid hv
      have HVN8 := Lib.hid hvn
      have HF8 := Lib.hid hf
      have HST := Lib.hid (And.intro hst (And.intro hl8 (And.intro hwr8 (And.intro hms8 hk8))))
      have XR8 := Lib.hid (XR3.out.fr hf (fun h => h))
      have F8 := Lib.hid (F3.out.then_no hf)
      clear hR hv hvn hf hst hl8 hn8 hm8 hk8 hwr8 hms8
      have XRo := XR8.out
      have r0 := XRo.cell 0
      have r1 := XRo.cell 1
      have r2 := XRo.cell 2
      have r3 := XRo.cell 3
      have rf0 := XRo.frozen 0
      have rf1 := XRo.frozen 1
      have rf2 := XRo.frozen 2
      have rf3 := XRo.frozen 3
      simp only [List.getElem?_toArray, List.getElem?_cons_zero, List.getElem?_cons_succ] at r0 r1 r2 r3
      clear XRo x0 x1 x2 x3 xf0 xf1 xf2 xf3
      go_wp2_with fail
      obtain ⟨g1, g2, g3, g4, g5⟩ := HST.out
      have zz := HF8.out.size
      have hv8 := HV8.out
      rw [g5] at hv8
      have rt := rt_of (br := br) (c := 0) (l := l8) F8.out HBL.out HR8.out (fun k hk => ⟨hk.elim .inl (fun g => .inr ⟨Nat.le_trans F3.out.size g.1, g.2⟩), fun e => hk.elim (fun g => by have := H.out.lt k g; have := HBL.out; omega) (fun g => by have := g.1; omega)⟩) H.out.lt hv8 (fun k hk => by
        rw [← g5] at hk
        have h9 := HVN8.out k hk
        exact ⟨⟨Nat.le_trans F3.out.size h9.1, h9.2⟩, by have := h9.1; omega⟩) (.slice A8 n8 c8) (.int .i64 ms8) (.int .i64 wr8) (.slice B8 m8 d8)
      rw [show agS (.slice A8 n8 c8) (.slice B8 m8 d8) st = .agg #[.slice A8 n8 c8, .int .i64 ms8, .int .i64 wr8, .slice B8 m8 d8] by rw [g3, g4], ← g5] at rt
      rw [HE.out, ← g1, ← g2]
      have b9 := (((XR8.out.put 0 (.slice A8 n8 c8)).put 1 (.int .i64 ms8)).put 2 (.int .i64 wr8)).put 3 (.slice B8 m8 d8)
      simp only [List.setIfInBounds_toArray, List.set_cons_zero, List.set_cons_succ] at b9
      have e0 := b9.cell 0
      have e1 := b9.cell 1
      have e2 := b9.cell 2
      have e3 := b9.cell 3
      simp only [List.getElem?_toArray, List.getElem?_cons_zero, List.getElem?_cons_succ] at e0 e1 e2 e3
      refine bodyPost_ret (v := .tuple #[.agg #[.slice A8 n8 c8, .int .i64 ms8, .int .i64 wr8, .slice B8 m8 d8], .slice A9 k8 c9, .int .i64 0]) ?_ rfl rt
      clear b9
      simp [results, Try.f61, go_sem, e0, e1, e2, e3]
  · have e : takeR s id force = (s, [], cd) := by unfold takeR; rw [if_pos (by rw [hcd]; exact h0), hcd]
    have hcn : (cd != 0) = true := by simpa using h0
    have HE := Lib.hid e
    clear h hq ag hn hm hms hwr hcd hlv hlw hi h0 e
    go_enter Try.func61, Try.ntmps61
    go_upto_region 1 with (fail)
    generalize (w.alloc (.cells #[.slice A n c, .int .i64 ms, .int .i64 wr, .slice B m d] 71)).alloc (.cells #[.slice none 0 0, .int .i64 0, .int .i64 0, .slice none 0 0] 71) = w1 at XB XR F1 ⊢
    clear hbx hbr
    have XBo := XB.out
    have x0 := XBo.cell 0
    have x1 := XBo.cell 1
    have x2 := XBo.cell 2
    have x3 := XBo.cell 3
    have xf0 := XBo.frozen 0
    have xf1 := XBo.frozen 1
    have xf2 := XBo.frozen 2
    have xf3 := XBo.frozen 3
    simp only [List.getElem?_toArray, List.getElem?_cons_zero, List.getElem?_cons_succ] at x0 x1 x2 x3
    clear XBo
    have W1 := Lib.hid (HW.out w1 F1.out)
    go_wp2_with fail
    refine W1.out.mono ?_
    rintro e w2 ⟨rfl, hf⟩
    have F2 := Lib.hid (F1.out.then_no hf)
    have XB2 := Lib.hid (XB.out.fr hf (fun h => h))
    have XR2 := Lib.hid (XR.out.fr hf (fun h => h))
    clear hf x0 x1 x2 x3 xf0 xf1 xf2 xf3
    have XBo := XB2.out
    have x0 := XBo.cell 0
    have x1 := XBo.cell 1
    have x2 := XBo.cell 2
    have x3 := XBo.cell 3
    have xf0 := XBo.frozen 0
    have xf1 := XBo.frozen 1
    have xf2 := XBo.frozen 2
    have xf3 := XBo.frozen 3
    simp only [List.getElem?_toArray, List.getElem?_cons_zero, List.getElem?_cons_succ] at x0 x1 x2 x3
    have XRo := XR2.out
    have r0 := XRo.cell 0
    have r1 := XRo.cell 1
    have r2 := XRo.cell 2
    have r3 := XRo.cell 3
    have rf0 := XRo.frozen 0
    have rf1 := XRo.frozen 1
    have rf2 := XRo.frozen 2
    have rf3 := XRo.frozen 3
    simp only [List.getElem?_toArray, List.getElem?_cons_zero, List.getElem?_cons_succ] at r0 r1 r2 r3
    clear XBo XRo
    go_wp2_with fail
    have hrlt := XR2.out.lt
    have hRS := H.out.no F2.out
    rw [← HN.out, ← HM.out] at hRS
    have rt := rt_of (br := br) (c := cd) (l := []) F2.out HBL.out hRS (fun k hk => ⟨.inl hk, fun e => by have := H.out.lt k hk; have := HBL.out; omega⟩) H.out.lt (World.ownsRow_nil _ _ _ _) (fun k hk => (of_nil hk).elim) (.slice A n c) (.int .i64 ms) (.int .i64 wr) (.slice B m d)
    rw [show agS (.slice A n c) (.slice B m d) s = .agg #[.slice A n c, .int .i64 ms, .int .i64 wr, .slice B m d] by rw [HMS.out, HWR.out]] at rt
    rw [HE.out]
    have b9 := (((XR2.out.put 0 (.slice A n c)).put 1 (.int .i64 ms)).put 2 (.int .i64 wr)).put 3 (.slice B m d)
    simp only [List.setIfInBounds_toArray, List.set_cons_zero, List.set_cons_succ] at b9
    have e0 := b9.cell 0
    have e1 := b9.cell 1
    have e2 := b9.cell 2
    have e3 := b9.cell 3
    simp only [List.getElem?_toArray, List.getElem?_cons_zero, List.getElem?_cons_succ] at e0 e1 e2 e3
    refine bodyPost_ret (v := .tuple #[.agg #[.slice A n c, .int .i64 ms, .int .i64 wr, .slice B m d], .slice none 0 0, .int .i64 cd]) ?_ rfl rt
    clear b9
    simp [results, Try.f61, go_sem, e0, e1, e2, e3]
end
end Seat
end Go.Proofs.Ytepnjmgacfjhiaa
