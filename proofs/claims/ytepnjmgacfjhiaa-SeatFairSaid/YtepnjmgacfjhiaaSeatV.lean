/- Package seat: its reference: Ask. Printed by gen_seatv.py. -/
import Derived.Test.YtepnjmgacfjhiaaSeatU
import Derived.BigQuiet
import Derived.Deep.CutRange
import Derived.Deep.RegionHeld3
import Derived.Outline
namespace Go.Proofs.Ytepnjmgacfjhiaa
open Go.RowKit
set_option linter.unusedVariables false
set_option linter.unusedSimpArgs false
namespace Seat
open Sls
section
variable {w w' : World} {S : Nat → Prop} {vL vW : Value} {s : St}
set_option maxRecDepth 100000 in
set_option maxHeartbeats 4000000 in
theorem rask_any (h : RS w S vL vW s) (hq : s.q.length ≤ 4096) (id : Int) (hid : (Lit.int .i64 id).wf = true) : Calls Try.prog 60 #[agS vL vW s, .int .i64 id] w (RTells (askR s id) S w) := by
  obtain ⟨A, c, B, d, rfl, rfl, hA1, hA2, hB1, hB2⟩ := h.forms
  obtain ⟨n, hn⟩ : ∃ n, n = s.L.length := ⟨_, rfl⟩
  obtain ⟨m, hm⟩ : ∃ m, m = s.q.length := ⟨_, rfl⟩
  obtain ⟨wr, hwr⟩ : ∃ wr, wr = s.wr := ⟨_, rfl⟩
  obtain ⟨ms, hms⟩ : ∃ ms, ms = s.most := ⟨_, rfl⟩
  have ag : agS (.slice A s.L.length c) (.slice B s.q.length d) s = .agg #[.slice A n c, .int .i64 ms, .int .i64 wr, .slice B m d] := by rw [hn, hm, hwr, hms]
  rw [ag]
  have AG := Lib.hid ag
  have HN := Lib.hid hn
  have HM := Lib.hid hm
  have HMS := Lib.hid hms
  have HWR := Lib.hid hwr
  have H := Lib.hid h
  have XB := (Blk.new w 71 #[.slice A n c, .int .i64 ms, .int .i64 wr, .slice B m d]).alloc (.cells #[.slice none 0 0, .int .i64 0, .int .i64 0, .slice none 0 0] 71)
  have XR := Blk.new (w.alloc (.cells #[.slice A n c, .int .i64 ms, .int .i64 wr, .slice B m d] 71)) 71 #[.slice none 0 0, .int .i64 0, .int .i64 0, .slice none 0 0]
  have F1 := ((Fr.refl No w).alloc (.cells #[.slice A n c, .int .i64 ms, .int .i64 wr, .slice B m d] 71)).alloc (.cells #[.slice none 0 0, .int .i64 0, .int .i64 0, .slice none 0 0] 71)
  rw [size_alloc] at XR
  obtain ⟨bx, hbx⟩ : ∃ bx, w.heap.size = bx := ⟨_, rfl⟩
  obtain ⟨br, hbr⟩ : ∃ br, bx + 1 = br := ⟨_, rfl⟩
  rw [hbx] at XB XR
  rw [hbr] at XR
  have XB := Lib.hid XB
  have XR := Lib.hid XR
  have F1 := Lib.hid F1
  have HBX := Lib.hid hbx
  have HBR := Lib.hid hbr
  obtain ⟨cd, hcd⟩ : ∃ cd, wantsR s id = cd := ⟨_, rfl⟩
  have HW := Lib.hid (fun (X : World) (hf : Fr No w X) => rwants_any (H.out.no hf) id)
  simp only [AG.out, hcd] at HW
  have HBE := Lib.hid (fun (X : World) (hf : Fr No w X) => rbecome_any (H.out.no hf) hq id)
  simp only [AG.out] at HBE
  have HPU := Lib.hid (fun (X : World) (hf : Fr No w X) => Ref29.put_any _ s.q s.most id X S (H.out.no hf).lt (H.out.no hf).q hid hq)
  obtain ⟨p, hp⟩ : ∃ p, p = Qint.putR s.q s.most id := ⟨_, rfl⟩
  obtain ⟨pc, hpc⟩ : ∃ pc, pc = p.2 := ⟨_, rfl⟩
  simp only [← hp, ← hpc] at HPU
  simp only [← hm, ← hms] at HPU
  have HBL := Lib.hid (show w.heap.size ≤ br by omega)
  have HP := Lib.hid hp
  have HPC := Lib.hid hpc
  by_cases h0 : cd = 0
  · subst h0
    by_cases h1 : wr < 0
    · have HE := Lib.hid (show askR s id = ((becomeR s id).1, (becomeR s id).2, 0) by unfold askR; rw [if_neg (by simp [hcd]), if_pos (by rw [← hwr]; exact h1)])
      clear h hq ag hn hm hms hwr hcd hp hpc
      go_enter Try.func60, Try.ntmps60
      go_upto_region 1 with (fail)
      generalize (w.alloc (.cells #[.slice A n c, .int .i64 ms, .int .i64 wr, .slice B m d] 71)).alloc (.cells #[.slice none 0 0, .int .i64 0, .int .i64 0, .slice none 0 0] 71) = w1 at XB XR F1 ⊢
      clear hbx hbr
      have XBo := XB.out
      have x0 := XBo.cell 0
      have x1 := XBo.cell 1
      have x2 := XBo.cell 2
      have x3 := XBo.cell 3
      have xf0 := XBo.frozen 0
      have xf1 := XBo.frozen 1
      have xf2 := XBo.frozen 2
      have xf3 := XBo.frozen 3
      simp only [List.getElem?_toArray, List.getElem?_cons_zero, List.getElem?_cons_succ] at x0 x1 x2 x3
      clear XBo
      have W1 := Lib.hid (HW.out w1 F1.out)
      go_wp2_with fail
      refine W1.out.mono ?_
      rintro e w2 ⟨rfl, hf⟩
      have F2 := Lib.hid (F1.out.then_no hf)
      have XB2 := Lib.hid (XB.out.fr hf (fun h => h))
      have XR2 := Lib.hid (XR.out.fr hf (fun h => h))
      clear hf x0 x1 x2 x3 xf0 xf1 xf2 xf3
      have XBo := XB2.out
      have x0 := XBo.cell 0
      have x1 := XBo.cell 1
      have x2 := XBo.cell 2
      have x3 := XBo.cell 3
      have xf0 := XBo.frozen 0
      have xf1 := XBo.frozen 1
      have xf2 := XBo.frozen 2
      have xf3 := XBo.frozen 3
      simp only [List.getElem?_toArray, List.getElem?_cons_zero, List.getElem?_cons_succ] at x0 x1 x2 x3
      clear XBo
      go_wp2_with fail
      refine (HBE.out _ F2.out).mono ?_
      rintro e w8 ⟨vL, vW, v, rfl, hR, ⟨hv, hvn⟩, hf⟩
      obtain ⟨A8, c8, B8, d8, rfl, rfl, -⟩ := hR.forms
      obtain ⟨A9, c9, rfl⟩ := own_form hv
      obtain ⟨st, hst⟩ : ∃ st, st = (becomeR s id).1 := ⟨_, rfl⟩
      obtain ⟨l8, hl8⟩ : ∃ l8, l8 = (becomeR s id).2 := ⟨_, rfl⟩
      simp only [← hst, ← hl8] at hR hv hvn ⊢
      obtain ⟨n8, hn8⟩ : ∃ n8, n8 = st.L.length := ⟨_, rfl⟩
      obtain ⟨m8, hm8⟩ : ∃ m8, m8 = st.q.length := ⟨_, rfl⟩
      obtain ⟨k8, hk8⟩ : ∃ k8, k8 = l8.length := ⟨_, rfl⟩
      obtain ⟨wr8, hwr8⟩ : ∃ wr8, wr8 = st.wr := ⟨_, rfl⟩
      obtain ⟨ms8, hms8⟩ : ∃ ms8, ms8 = st.most := ⟨_, rfl⟩
      rw [show agS (.slice A8 st.L.length c8) (.slice B8 st.q.length d8) st = .agg #[.slice A8 n8 c8, .int .i64 ms8, .int .i64 wr8, .slice B8 m8 d8] by rw [hn8, hm8, hwr8, hms8], ← hk8]
      rw [← hn8, ← hm8] at hR
      rw [← hk8] at hv hvn
      have hrl := XR2.out.lt
      have HR8 := Lib.hid hR
      have HV8 := Lib.hid hv
      have HVN8 := Lib.hid hvn
      have HF8 := Lib.hid hf
      have HST := Lib.hid (And.intro hst (And.intro hl8 (And.intro hwr8 (And.intro hms8 hk8))))
      have XR8 := Lib.hid (XR2.out.fr hf (fun h => h))
      have F8 := Lib.hid (F2.out.then_no hf)
      clear hR hv hvn hf hst hl8 hn8 hm8 hk8 hwr8 hms8
      have XRo := XR8.out
      have r0 := XRo.cell 0
      have r1 := XRo.cell 1
      have r2 := XRo.cell 2
      have r3 := XRo.cell 3
      have rf0 := XRo.frozen 0
      have rf1 := XRo.frozen 1
      have rf2 := XRo.frozen 2
      have rf3 := XRo.frozen 3
      simp only [List.getElem?_toArray, List.getElem?_cons_zero, List.getElem?_cons_succ] at r0 r1 r2 r3
      clear XRo x0 x1 x2 x3 xf0 xf1 xf2 xf3
      go_wp2_with fail
      obtain ⟨g1, g2, g3, g4, g5⟩ := HST.out
      have zz := HF8.out.size
      have hv8 := HV8.out
      rw [g5] at hv8
      have rt := rt_of (br := br) (c := 0) (l := l8) F8.out HBL.out HR8.out (fun k hk => ⟨hk.elim .inl (fun g => .inr ⟨Nat.le_trans F2.out.size g.1, g.2⟩), fun e => hk.elim (fun g => by have := H.out.lt k g; have := HBL.out; omega) (fun g => by have := g.1; omega)⟩) H.out.lt hv8 (fun k hk => by
        rw [← g5] at hk
        have h9 := HVN8.out k hk
        exact ⟨⟨Nat.le_trans F2.out.size h9.1, h9.2⟩, by have := h9.1; omega⟩) (.slice A8 n8 c8) (.int .i64 ms8) (.int .i64 wr8) (.slice B8 m8 d8)
      rw [show agS (.slice A8 n8 c8) (.slice B8 m8 d8) st = .agg #[.slice A8 n8 c8, .int .i64 ms8, .int .i64 wr8, .slice B8 m8 d8] by rw [g3, g4], ← g5] at rt
      rw [HE.out, ← g1, ← g2]
      have b9 := (((XR8.out.put 0 (.slice A8 n8 c8)).put 1 (.int .i64 ms8)).put 2 (.int .i64 wr8)).put 3 (.slice B8 m8 d8)
      simp only [List.setIfInBounds_toArray, List.set_cons_zero, List.set_cons_succ] at b9
      have e0 := b9.cell 0
      have e1 := b9.cell 1
      have e2 := b9.cell 2
      have e3 := b9.cell 3
      simp only [List.getElem?_toArray, List.getElem?_cons_zero, List.getElem?_cons_succ] at e0 e1 e2 e3
      refine bodyPost_ret (v := .tuple #[.agg #[.slice A8 n8 c8, .int .i64 ms8, .int .i64 wr8, .slice B8 m8 d8], .slice A9 k8 c9, .int .i64 0]) ?_ rfl rt
      clear b9
      simp [results, Try.f60, go_sem, e0, e1, e2, e3]
    · have h1' : 0 ≤ wr := by omega
      by_cases hp0 : pc = 0
      · have HE := Lib.hid (show askR s id = (⟨s.L, s.most, s.wr, p.1⟩, [(id, 3)], 0) by unfold askR; rw [if_neg (by simp [hcd]), if_neg (by rw [← hwr]; exact h1), if_neg (by rw [← hp, ← hpc, hp0]; simp), ← hp])
        subst hp0
        clear h hq ag hn hm hms hwr hcd hp hpc h1
        go_enter Try.func60, Try.ntmps60
        go_upto_region 1 with (fail)
        generalize (w.alloc (.cells #[.slice A n c, .int .i64 ms, .int .i64 wr, .slice B m d] 71)).alloc (.cells #[.slice none 0 0, .int .i64 0, .int .i64 0, .slice none 0 0] 71) = w1 at XB XR F1 ⊢
        clear hbx hbr
        have XBo := XB.out
        have x0 := XBo.cell 0
        have x1 := XBo.cell 1
        have x2 := XBo.cell 2
        have x3 := XBo.cell 3
        have xf0 := XBo.frozen 0
        have xf1 := XBo.frozen 1
        have xf2 := XBo.frozen 2
        have xf3 := XBo.frozen 3
        simp only [List.getElem?_toArray, List.getElem?_cons_zero, List.getElem?_cons_succ] at x0 x1 x2 x3
        clear XBo
        have W1 := Lib.hid (HW.out w1 F1.out)
        go_wp2_with fail
        refine W1.out.mono ?_
        rintro e w2 ⟨rfl, hf⟩
        have F2 := Lib.hid (F1.out.then_no hf)
        have XB2 := Lib.hid (XB.out.fr hf (fun h => h))
        have XR2 := Lib.hid (XR.out.fr hf (fun h => h))
        clear hf x0 x1 x2 x3 xf0 xf1 xf2 xf3
        have XBo := XB2.out
        have x0 := XBo.cell 0
        have x1 := XBo.cell 1
        have x2 := XBo.cell 2
        have x3 := XBo.cell 3
        have xf0 := XBo.frozen 0
        have xf1 := XBo.frozen 1
        have xf2 := XBo.frozen 2
        have xf3 := XBo.frozen 3
        simp only [List.getElem?_toArray, List.getElem?_cons_zero, List.getElem?_cons_succ] at x0 x1 x2 x3
        clear XBo
        have W2 := Lib.hid (HPU.out w2 F2.out)
        go_wp2_with fail
        refine W2.out.mono ?_
        rintro e w3 ⟨v', rfl, hr3, hf⟩
        obtain ⟨B3, d3, rfl, -⟩ := hr3.slice
        obtain ⟨m3, hm3⟩ : ∃ m3, m3 = p.1.length := ⟨_, rfl⟩
        rw [← hm3] at hr3 ⊢
        have HR3 := Lib.hid hr3
        have F3 := Lib.hid (F2.out.then_no hf)
        have Z3 := Lib.hid hf
        have XB3 := Lib.hid (XB2.out.fr hf (fun h => h))
        have XR3 := Lib.hid (XR2.out.fr hf (fun h => h))
        have HM3 := Lib.hid hm3
        clear hf hr3 hm3 x0 x1 x2 x3 xf0 xf1 xf2 xf3
        have XBo := XB3.out
        have x0 := XBo.cell 0
        have x1 := XBo.cell 1
        have x2 := XBo.cell 2
        have x3 := XBo.cell 3
        have xf0 := XBo.frozen 0
        have xf1 := XBo.frozen 1
        have xf2 := XBo.frozen 2
        have xf3 := XBo.frozen 3
        simp only [List.getElem?_toArray, List.getElem?_cons_zero, List.getElem?_cons_succ] at x0 x1 x2 x3
        clear XBo
        go_upto_region 10 with (fail)
        have hf4 : Fr (fun k => k = bx) w3 (w3.setCell ⟨bx, 3, none⟩ (.slice B3 m3 d3)) := Fr.setCell (F := fun k => k = bx) (Fr.refl _ _) (p := ⟨bx, 3, none⟩) (.inl rfl) _
        have XB4 := XB3.out.put 3 (.slice B3 m3 d3)
        simp only [List.setIfInBounds_toArray, List.set_cons_zero, List.set_cons_succ] at XB4
        clear x0 x1 x2 x3 xf0 xf1 xf2 xf3
        generalize w3.setCell ⟨bx, 3, none⟩ (.slice B3 m3 d3) = w4 at XB4 hf4 ⊢
        have hbr2 : br ≠ bx := by have := HBR.out; omega
        have XB4 := Lib.hid XB4
        have XR4 := Lib.hid (XR3.out.fr hf4 hbr2)
        have F4 := Lib.hid (F3.out.trans hf4 (fun k hk hl => by have hk : k = bx := hk; have := HBX.out; omega))
        have hzz := Z3.out.size
        have hz4 := hf4.size
        have hz2 := F2.out.size
        have hxb2 := XB2.out.lt
        have hxr2 := XR2.out.lt
        have hbx0 := HBX.out
        have hRS4 : RS w4 (fun k => S k ∨ New w2 w3 k) (.slice A n c) (.slice B3 m3 d3) ⟨s.L, s.most, s.wr, p.1⟩ := by
          have hl := (H.out.no F3.out).l
          rw [← HN.out] at hl
          exact RS.fr (w := w3) ⟨(RSl.stable RM.stable).go hl (Kept.refl _ _) (fun _ h => .inl h), HR3.out, fun k hk => hk.elim (fun g => Nat.lt_of_lt_of_le (H.out.lt k g) F3.out.size) (fun g => g.2)⟩ hf4 (fun k hk e => by
            have e : k = bx := e
            rcases hk with g | g
            · have := H.out.lt k g; omega
            · have := g.1; omega)
        have HRS4 := Lib.hid hRS4
        have HSB := Lib.hid (show ∀ k, (S k ∨ New w2 w3 k) → k ≠ br ∧ (S k ∨ New w w4 k) from fun k hk => by
          rcases hk with g | g
          · exact ⟨by have := H.out.lt k g; have := HBL.out; omega, .inl g⟩
          · exact ⟨by have := g.1; omega, .inr ⟨by have := g.1; omega, by have := g.2; omega⟩⟩)
        clear hRS4 hf4 hzz hz4 hz2 hxb2 hxr2 hbx0 hbr2
        have FL := Lib.hid ((Fr.refl No w4).alloc (.cells #[.int .i64 id, .int .i64 3] 79))
        have XBl := Lib.hid (XB4.out.alloc (.cells #[.int .i64 id, .int .i64 3] 79))
        have XRl := Lib.hid (XR4.out.alloc (.cells #[.int .i64 id, .int .i64 3] 79))
        have XBo := XB4.out
        have x0 := XBo.cell 0
        have x1 := XBo.cell 1
        have x2 := XBo.cell 2
        have x3 := XBo.cell 3
        have xf0 := XBo.frozen 0
        have xf1 := XBo.frozen 1
        have xf2 := XBo.frozen 2
        have xf3 := XBo.frozen 3
        simp only [List.getElem?_toArray, List.getElem?_cons_zero, List.getElem?_cons_succ] at x0 x1 x2 x3
        have XRo := XR4.out
        have r0 := XRo.cell 0
        have r1 := XRo.cell 1
        have r2 := XRo.cell 2
        have r3 := XRo.cell 3
        have rf0 := XRo.frozen 0
        have rf1 := XRo.frozen 1
        have rf2 := XRo.frozen 2
        have rf3 := XRo.frozen 3
        simp only [List.getElem?_toArray, List.getElem?_cons_zero, List.getElem?_cons_succ] at r0 r1 r2 r3
        clear XBo XRo
        have hrlt := XR4.out.lt
        have hsl := ShR.one (w := w4) (w1 := w4) (F' := fun k => k = br) (id, 3) (fun k hk => by have hk : k = br := hk; omega) (Nat.le_refl _)
        have HSL := Lib.hid hsl
        have HRS := HRS4
        clear hsl
        go_wp2_with fail
        have rt := rt_of (br := br) (c := 0) (l := [(id, 3)]) (F4.out.then_no FL.out) HBL.out (HRS.out.no FL.out) (fun k hk => ⟨(HSB.out k hk).2.elim .inl (fun g => .inr ⟨g.1, Nat.lt_of_lt_of_le g.2 FL.out.size⟩), (HSB.out k hk).1⟩) H.out.lt HSL.out.own (fun k hk => ⟨⟨Nat.le_trans F4.out.size (HSL.out.new k hk).1, (HSL.out.new k hk).2⟩, fun e => HSL.out.off k hk e⟩) (.slice A n c) (.int .i64 ms) (.int .i64 wr) (.slice B3 m3 d3)
        rw [show agS (.slice A n c) (.slice B3 m3 d3) ⟨s.L, s.most, s.wr, p.1⟩ = .agg #[.slice A n c, .int .i64 ms, .int .i64 wr, .slice B3 m3 d3] by rw [HMS.out, HWR.out]] at rt
        rw [HE.out]
        have b9 := (((XRl.out.put 0 (.slice A n c)).put 1 (.int .i64 ms)).put 2 (.int .i64 wr)).put 3 (.slice B3 m3 d3)
        simp only [List.setIfInBounds_toArray, List.set_cons_zero, List.set_cons_succ] at b9
        simp (config := {zeta := false}) only [World.setCell_alloc_past, (show ∀ (w : World) (a : Addr) (v : Value), (w.setCell a v).heap.size = w.heap.size from fun w a v => by simp [World.setCell]), hrlt] at rt b9
        have e0 := b9.cell 0
        have e1 := b9.cell 1
        have e2 := b9.cell 2
        have e3 := b9.cell 3
        simp only [List.getElem?_toArray, List.getElem?_cons_zero, List.getElem?_cons_succ] at e0 e1 e2 e3
        refine bodyPost_ret (v := .tuple #[.agg #[.slice A n c, .int .i64 ms, .int .i64 wr, .slice B3 m3 d3], .slice (some ⟨w4.heap.size, 0, none⟩) 1 1, .int .i64 0]) ?_ rfl rt
        clear b9
        simp [results, Try.f60, go_sem, e0, e1, e2, e3]
      · have HE := Lib.hid (show askR s id = (s, [], pc) by unfold askR; rw [if_neg (by simp [hcd]), if_neg (by rw [← hwr]; exact h1), if_pos (by rw [← hp, ← hpc]; exact hp0), ← hp, ← hpc])
        have hpn : (pc != 0) = true := by simpa using hp0
        clear h hq ag hn hm hms hwr hcd hp hpc h1 hp0
        go_enter Try.func60, Try.ntmps60
        go_upto_region 1 with (fail)
        generalize (w.alloc (.cells #[.slice A n c, .int .i64 ms, .int .i64 wr, .slice B m d] 71)).alloc (.cells #[.slice none 0 0, .int .i64 0, .int .i64 0, .slice none 0 0] 71) = w1 at XB XR F1 ⊢
        clear hbx hbr
        have XBo := XB.out
        have x0 := XBo.cell 0
        have x1 := XBo.cell 1
        have x2 := XBo.cell 2
        have x3 := XBo.cell 3
        have xf0 := XBo.frozen 0
        have xf1 := XBo.frozen 1
        have xf2 := XBo.frozen 2
        have xf3 := XBo.frozen 3
        simp only [List.getElem?_toArray, List.getElem?_cons_zero, List.getElem?_cons_succ] at x0 x1 x2 x3
        clear XBo
        have W1 := Lib.hid (HW.out w1 F1.out)
        go_wp2_with fail
        refine W1.out.mono ?_
        rintro e w2 ⟨rfl, hf⟩
        have F2 := Lib.hid (F1.out.then_no hf)
        have XB2 := Lib.hid (XB.out.fr hf (fun h => h))
        have XR2 := Lib.hid (XR.out.fr hf (fun h => h))
        clear hf x0 x1 x2 x3 xf0 xf1 xf2 xf3
        have XBo := XB2.out
        have x0 := XBo.cell 0
        have x1 := XBo.cell 1
        have x2 := XBo.cell 2
        have x3 := XBo.cell 3
        have xf0 := XBo.frozen 0
        have xf1 := XBo.frozen 1
        have xf2 := XBo.frozen 2
        have xf3 := XBo.frozen 3
        simp only [List.getElem?_toArray, List.getElem?_cons_zero, List.getElem?_cons_succ] at x0 x1 x2 x3
        clear XBo
        have W2 := Lib.hid (HPU.out w2 F2.out)
        go_wp2_with fail
        refine W2.out.mono ?_
        rintro e w3 ⟨v', rfl, hr3, hf⟩
        obtain ⟨B3, d3, rfl, -⟩ := hr3.slice
        have F3 := Lib.hid (F2.out.then_no hf)
        have XB3 := Lib.hid (XB2.out.fr hf (fun h => h))
        have XR3 := Lib.hid (XR2.out.fr hf (fun h => h))
        obtain ⟨m3, hm3⟩ : ∃ m3, m3 = p.1.length := ⟨_, rfl⟩
        rw [← hm3]
        clear hf hr3 hm3 x0 x1 x2 x3 xf0 xf1 xf2 xf3
        have XBo := XB3.out
        have x0 := XBo.cell 0
        have x1 := XBo.cell 1
        have x2 := XBo.cell 2
        have x3 := XBo.cell 3
        have xf0 := XBo.frozen 0
        have xf1 := XBo.frozen 1
        have xf2 := XBo.frozen 2
        have xf3 := XBo.frozen 3
        simp only [List.getElem?_toArray, List.getElem?_cons_zero, List.getElem?_cons_succ] at x0 x1 x2 x3
        have XRo := XR3.out
        have r0 := XRo.cell 0
        have r1 := XRo.cell 1
        have r2 := XRo.cell 2
        have r3 := XRo.cell 3
        have rf0 := XRo.frozen 0
        have rf1 := XRo.frozen 1
        have rf2 := XRo.frozen 2
        have rf3 := XRo.frozen 3
        simp only [List.getElem?_toArray, List.getElem?_cons_zero, List.getElem?_cons_succ] at r0 r1 r2 r3
        clear XBo XRo
        go_wp2_with fail
        have hrlt := XR3.out.lt
        have hRS := H.out.no F3.out
        rw [← HN.out, ← HM.out] at hRS
        have rt := rt_of (br := br) (c := pc) (l := []) F3.out HBL.out hRS (fun k hk => ⟨.inl hk, fun e => by have := H.out.lt k hk; have := HBL.out; omega⟩) H.out.lt (World.ownsRow_nil _ _ _ _) (fun k hk => (of_nil hk).elim) (.slice A n c) (.int .i64 ms) (.int .i64 wr) (.slice B m d)
        rw [show agS (.slice A n c) (.slice B m d) s = .agg #[.slice A n c, .int .i64 ms, .int .i64 wr, .slice B m d] by rw [HMS.out, HWR.out]] at rt
        rw [HE.out]
        have b9 := (((XR3.out.put 0 (.slice A n c)).put 1 (.int .i64 ms)).put 2 (.int .i64 wr)).put 3 (.slice B m d)
        simp only [List.setIfInBounds_toArray, List.set_cons_zero, List.set_cons_succ] at b9
        have e0 := b9.cell 0
        have e1 := b9.cell 1
        have e2 := b9.cell 2
        have e3 := b9.cell 3
        simp only [List.getElem?_toArray, List.getElem?_cons_zero, List.getElem?_cons_succ] at e0 e1 e2 e3
        refine bodyPost_ret (v := .tuple #[.agg #[.slice A n c, .int .i64 ms, .int .i64 wr, .slice B m d], .slice none 0 0, .int .i64 pc]) ?_ rfl rt
        clear b9
        simp [results, Try.f60, go_sem, e0, e1, e2, e3]
  · have HE := Lib.hid (show askR s id = (s, [], cd) by unfold askR; rw [if_pos (by rw [hcd]; exact h0), hcd])
    have hcn : (cd != 0) = true := by simpa using h0
    clear h hq ag hn hm hms hwr hcd hp hpc h0
    go_enter Try.func60, Try.ntmps60
    go_upto_region 1 with (fail)
    generalize (w.alloc (.cells #[.slice A n c, .int .i64 ms, .int .i64 wr, .slice B m d] 71)).alloc (.cells #[.slice none 0 0, .int .i64 0, .int .i64 0, .slice none 0 0] 71) = w1 at XB XR F1 ⊢
    clear hbx hbr
    have XBo := XB.out
    have x0 := XBo.cell 0
    have x1 := XBo.cell 1
    have x2 := XBo.cell 2
    have x3 := XBo.cell 3
    have xf0 := XBo.frozen 0
    have xf1 := XBo.frozen 1
    have xf2 := XBo.frozen 2
    have xf3 := XBo.frozen 3
    simp only [List.getElem?_toArray, List.getElem?_cons_zero, List.getElem?_cons_succ] at x0 x1 x2 x3
    clear XBo
    have W1 := Lib.hid (HW.out w1 F1.out)
    go_wp2_with fail
    refine W1.out.mono ?_
    rintro e w2 ⟨rfl, hf⟩
    have F2 := Lib.hid (F1.out.then_no hf)
    have XB2 := Lib.hid (XB.out.fr hf (fun h => h))
    have XR2 := Lib.hid (XR.out.fr hf (fun h => h))
    clear hf x0 x1 x2 x3 xf0 xf1 xf2 xf3
    have XBo := XB2.out
    have x0 := XBo.cell 0
    have x1 := XBo.cell 1
    have x2 := XBo.cell 2
    have x3 := XBo.cell 3
    have xf0 := XBo.frozen 0
    have xf1 := XBo.frozen 1
    have xf2 := XBo.frozen 2
    have xf3 := XBo.frozen 3
    simp only [List.getElem?_toArray, List.getElem?_cons_zero, List.getElem?_cons_succ] at x0 x1 x2 x3
    have XRo := XR2.out
    have r0 := XRo.cell 0
    have r1 := XRo.cell 1
    have r2 := XRo.cell 2
    have r3 := XRo.cell 3
    have rf0 := XRo.frozen 0
    have rf1 := XRo.frozen 1
    have rf2 := XRo.frozen 2
    have rf3 := XRo.frozen 3
    simp only [List.getElem?_toArray, List.getElem?_cons_zero, List.getElem?_cons_succ] at r0 r1 r2 r3
    clear XBo XRo
    go_wp2_with fail
    have hrlt := XR2.out.lt
    have hRS := H.out.no F2.out
    rw [← HN.out, ← HM.out] at hRS
    have rt := rt_of (br := br) (c := cd) (l := []) F2.out HBL.out hRS (fun k hk => ⟨.inl hk, fun e => by have := H.out.lt k hk; have := HBL.out; omega⟩) H.out.lt (World.ownsRow_nil _ _ _ _) (fun k hk => (of_nil hk).elim) (.slice A n c) (.int .i64 ms) (.int .i64 wr) (.slice B m d)
    rw [show agS (.slice A n c) (.slice B m d) s = .agg #[.slice A n c, .int .i64 ms, .int .i64 wr, .slice B m d] by rw [HMS.out, HWR.out]] at rt
    rw [HE.out]
    have b9 := (((XR2.out.put 0 (.slice A n c)).put 1 (.int .i64 ms)).put 2 (.int .i64 wr)).put 3 (.slice B m d)
    simp only [List.setIfInBounds_toArray, List.set_cons_zero, List.set_cons_succ] at b9
    have e0 := b9.cell 0
    have e1 := b9.cell 1
    have e2 := b9.cell 2
    have e3 := b9.cell 3
    simp only [List.getElem?_toArray, List.getElem?_cons_zero, List.getElem?_cons_succ] at e0 e1 e2 e3
    refine bodyPost_ret (v := .tuple #[.agg #[.slice A n c, .int .i64 ms, .int .i64 wr, .slice B m d], .slice none 0 0, .int .i64 cd]) ?_ rfl rt
    clear b9
    simp [results, Try.f60, go_sem, e0, e1, e2, e3]
end
end Seat
end Go.Proofs.Ytepnjmgacfjhiaa
