/- Package seat: its reference: Yield. Printed by gen_seaty.py. -/
import Derived.Test.YtepnjmgacfjhiaaSeatX
import Derived.BigQuiet
import Derived.Deep.CutRange
import Derived.Deep.RegionHeld3
import Derived.Outline
namespace Go.Proofs.Ytepnjmgacfjhiaa
open Go.RowKit
set_option linter.unusedVariables false
set_option linter.unusedSimpArgs false
namespace Seat
open Sls
theorem lit_own (W : World) (id r : Int) : (W.alloc (.cells #[.int .i64 id, .int .i64 r] 79)).ownsRow 0 79 2 (.slice (some ⟨W.heap.size, 0, none⟩) 1 1) [(id, r)].length ([(id, r)].flatMap encM) :=
  ⟨rfl, .inr ⟨W.heap.size, 1, #[.int .i64 id, .int .i64 r], rfl, Nat.zero_le _, Blk.new W _ _, Nat.le_refl _, by unfold maxLen; decide, rfl, rfl⟩⟩
/-- The end of an act that hands the place on. -/
theorem rt_next {w Wc w8 : World} {S Sx : Nat → Prop} {br g : Nat} {id r : Int} {vL vW v : Value} {st : St} {l : Sh} (hF : Fr No w Wc) (hbr : w.heap.size ≤ br) (hbl : br < Wc.heap.size) (hg : w.heap.size ≤ g) (hgl : g < Wc.heap.size) (hgb : g ≠ br) (hSB : ∀ k, Sx k → (S k ∨ New w Wc k) ∧ k ≠ br) (hSl : ∀ k, S k → k < w.heap.size)
    (hR : RS w8 (fun k => Sx k ∨ New Wc w8 k) vL vW st) (hv : w8.ownsRow 0 79 2 v ((id, r) :: l).length (((id, r) :: l).flatMap encM)) (hvn : ∀ k, Of v k → Of (.slice (some ⟨g, 0, none⟩) 1 1) k ∨ New Wc w8 k) (hf : Fr (Of (.slice (some ⟨g, 0, none⟩) 1 1)) Wc w8) (a0 a1 a2 a3 : Value) :
    RTells (st, (id, r) :: l, 0) S w (.returned (.tuple #[agS vL vW st, v, .int .i64 0])) ((((w8.setCell ⟨br, 0, none⟩ a0).setCell ⟨br, 1, none⟩ a1).setCell ⟨br, 2, none⟩ a2).setCell ⟨br, 3, none⟩ a3) := by
  have hz := hf.size
  have hz0 := hF.size
  refine rt_of (hF.trans hf (fun b hb hl => by have := of_some hb; omega)) hbr hR (fun k hk => ?_) hSl hv (fun k hk => ?_) a0 a1 a2 a3
  · rcases hk with g1 | g1
    · exact ⟨(hSB k g1).1.elim .inl (fun h => .inr ⟨h.1, Nat.lt_of_lt_of_le h.2 hz⟩), (hSB k g1).2⟩
    · exact ⟨.inr ⟨by have := g1.1; omega, g1.2⟩, by have := g1.1; omega⟩
  · rcases hvn k hk with g1 | g1
    · have := of_some g1
      subst this
      exact ⟨⟨hg, by omega⟩, hgb⟩
    · exact ⟨⟨by have := g1.1; omega, g1.2⟩, by have := g1.1; omega⟩
section
variable {w w' : World} {S : Nat → Prop} {vL vW : Value} {s : St}
set_option maxRecDepth 100000 in
set_option maxHeartbeats 4000000 in
theorem ryield_any (h : RS w S vL vW s) (hq : s.q.length ≤ 4096) (id : Int) : Calls Try.prog 62 #[agS vL vW s, .int .i64 id] w (RTells (yieldR s id) S w) := by
  obtain ⟨A, c, B, d, rfl, rfl, hA1, hA2, hB1, hB2⟩ := h.forms
  obtain ⟨n, hn⟩ : ∃ n, n = s.L.length := ⟨_, rfl⟩
  obtain ⟨m, hm⟩ : ∃ m, m = s.q.length := ⟨_, rfl⟩
  obtain ⟨wr, hwr⟩ : ∃ wr, wr = s.wr := ⟨_, rfl⟩
  obtain ⟨ms, hms⟩ : ∃ ms, ms = s.most := ⟨_, rfl⟩
  have ag : agS (.slice A s.L.length c) (.slice B s.q.length d) s = .agg #[.slice A n c, .int .i64 ms, .int .i64 wr, .slice B m d] := by rw [hn, hm, hwr, hms]
  rw [ag]
  have AG := Lib.hid ag
  have HN := Lib.hid hn
  have HM := Lib.hid hm
  have HMS := Lib.hid hms
  have HWR := Lib.hid hwr
  have H := Lib.hid h
  have XB := (Blk.new w 71 #[.slice A n c, .int .i64 ms, .int .i64 wr, .slice B m d]).alloc (.cells #[.slice none 0 0, .int .i64 0, .int .i64 0, .slice none 0 0] 71)
  have XR := Blk.new (w.alloc (.cells #[.slice A n c, .int .i64 ms, .int .i64 wr, .slice B m d] 71)) 71 #[.slice none 0 0, .int .i64 0, .int .i64 0, .slice none 0 0]
  have F1 := ((Fr.refl No w).alloc (.cells #[.slice A n c, .int .i64 ms, .int .i64 wr, .slice B m d] 71)).alloc (.cells #[.slice none 0 0, .int .i64 0, .int .i64 0, .slice none 0 0] 71)
  rw [size_alloc] at XR
  obtain ⟨bx, hbx⟩ : ∃ bx, w.heap.size = bx := ⟨_, rfl⟩
  obtain ⟨br, hbr⟩ : ∃ br, bx + 1 = br := ⟨_, rfl⟩
  rw [hbx] at XB XR
  rw [hbr] at XR
  have XB := Lib.hid XB
  have XR := Lib.hid XR
  have F1 := Lib.hid F1
  have HBX := Lib.hid hbx
  have HBR := Lib.hid hbr
  have HT := Lib.hid (fun (X : World) (hf : Fr No w X) => rthere_any (H.out.no hf) id)
  simp only [AG.out] at HT
  have HBL := Lib.hid (show w.heap.size ≤ br by omega)
  obtain ⟨tb, htb⟩ : ∃ tb, thereB s.L id = tb := ⟨_, rfl⟩
  simp only [htb] at HT
  cases tb with
  | false =>
    have HE := Lib.hid (show yieldR s id = (s, [], 7) by unfold yieldR; rw [if_pos htb])
    clear h hq ag hn hm hms hwr htb
    go_enter Try.func62, Try.ntmps62
    go_upto_region 1 with (fail)
    generalize (w.alloc (.cells #[.slice A n c, .int .i64 ms, .int .i64 wr, .slice B m d] 71)).alloc (.cells #[.slice none 0 0, .int .i64 0, .int .i64 0, .slice none 0 0] 71) = w1 at XB XR F1 ⊢
    clear hbx hbr
    have XBo := XB.out
    have x0 := XBo.cell 0
    have x1 := XBo.cell 1
    have x2 := XBo.cell 2
    have x3 := XBo.cell 3
    have xf0 := XBo.frozen 0
    have xf1 := XBo.frozen 1
    have xf2 := XBo.frozen 2
    have xf3 := XBo.frozen 3
    simp only [List.getElem?_toArray, List.getElem?_cons_zero, List.getElem?_cons_succ] at x0 x1 x2 x3
    clear XBo
    have W1 := Lib.hid (HT.out w1 F1.out)
    go_wp2_with fail
    refine W1.out.mono ?_
    rintro e w2 ⟨rfl, hf⟩
    have F2 := Lib.hid (F1.out.then_no hf)
    have XB2 := Lib.hid (XB.out.fr hf (fun h => h))
    have XR2 := Lib.hid (XR.out.fr hf (fun h => h))
    clear hf x0 x1 x2 x3 xf0 xf1 xf2 xf3
    have XBo := XB2.out
    have x0 := XBo.cell 0
    have x1 := XBo.cell 1
    have x2 := XBo.cell 2
    have x3 := XBo.cell 3
    have xf0 := XBo.frozen 0
    have xf1 := XBo.frozen 1
    have xf2 := XBo.frozen 2
    have xf3 := XBo.frozen 3
    simp only [List.getElem?_toArray, List.getElem?_cons_zero, List.getElem?_cons_succ] at x0 x1 x2 x3
    have XRo := XR2.out
    have r0 := XRo.cell 0
    have r1 := XRo.cell 1
    have r2 := XRo.cell 2
    have r3 := XRo.cell 3
    have rf0 := XRo.frozen 0
    have rf1 := XRo.frozen 1
    have rf2 := XRo.frozen 2
    have rf3 := XRo.frozen 3
    simp only [List.getElem?_toArray, List.getElem?_cons_zero, List.getElem?_cons_succ] at r0 r1 r2 r3
    clear XBo XRo
    go_wp2_with fail
    have hrlt := XR2.out.lt
    have hRS := H.out.no F2.out
    rw [← HN.out, ← HM.out] at hRS
    have rt := rt_of (br := br) (c := 7) (l := []) F2.out HBL.out hRS (fun k hk => ⟨.inl hk, fun e => by have := H.out.lt k hk; have := HBL.out; omega⟩) H.out.lt (World.ownsRow_nil _ _ _ _) (fun k hk => (of_nil hk).elim) (.slice A n c) (.int .i64 ms) (.int .i64 wr) (.slice B m d)
    rw [show agS (.slice A n c) (.slice B m d) s = .agg #[.slice A n c, .int .i64 ms, .int .i64 wr, .slice B m d] by rw [HMS.out, HWR.out]] at rt
    rw [HE.out]
    have b9 := (((XR2.out.put 0 (.slice A n c)).put 1 (.int .i64 ms)).put 2 (.int .i64 wr)).put 3 (.slice B m d)
    simp only [List.setIfInBounds_toArray, List.set_cons_zero, List.set_cons_succ] at b9
    have e0 := b9.cell 0
    have e1 := b9.cell 1
    have e2 := b9.cell 2
    have e3 := b9.cell 3
    simp only [List.getElem?_toArray, List.getElem?_cons_zero, List.getElem?_cons_succ] at e0 e1 e2 e3
    refine bodyPost_ret (v := .tuple #[.agg #[.slice A n c, .int .i64 ms, .int .i64 wr, .slice B m d], .slice none 0 0, .int .i64 7]) ?_ rfl rt
    clear b9
    simp [results, Try.f62, go_sem, e0, e1, e2, e3]
  | true =>
    by_cases h1 : s.wr = id
    · have HE := Lib.hid (show yieldR s id = ((nextR s).1, (id, 1) :: (nextR s).2, 0) by unfold yieldR; rw [if_neg (by rw [htb]; decide), if_neg (by simp [h1])])
      have hwe : (wr != id) = false := by rw [hwr]; simpa using h1
      clear h ag hn hm hms hwr htb h1
      go_enter Try.func62, Try.ntmps62
      go_upto_region 1 with (fail)
      generalize (w.alloc (.cells #[.slice A n c, .int .i64 ms, .int .i64 wr, .slice B m d] 71)).alloc (.cells #[.slice none 0 0, .int .i64 0, .int .i64 0, .slice none 0 0] 71) = w1 at XB XR F1 ⊢
      clear hbx hbr
      have XBo := XB.out
      have x0 := XBo.cell 0
      have x1 := XBo.cell 1
      have x2 := XBo.cell 2
      have x3 := XBo.cell 3
      have xf0 := XBo.frozen 0
      have xf1 := XBo.frozen 1
      have xf2 := XBo.frozen 2
      have xf3 := XBo.frozen 3
      simp only [List.getElem?_toArray, List.getElem?_cons_zero, List.getElem?_cons_succ] at x0 x1 x2 x3
      clear XBo
      have W1 := Lib.hid (HT.out w1 F1.out)
      go_wp2_with fail
      refine W1.out.mono ?_
      rintro e w2 ⟨rfl, hf⟩
      have F2 := Lib.hid (F1.out.then_no hf)
      have XB2 := Lib.hid (XB.out.fr hf (fun h => h))
      have XR2 := Lib.hid (XR.out.fr hf (fun h => h))
      clear hf x0 x1 x2 x3 xf0 xf1 xf2 xf3
      have FL := Lib.hid ((Fr.refl No w2).alloc (.cells #[.int .i64 id, .int .i64 1] 79))
      have XRl := Lib.hid (XR2.out.alloc (.cells #[.int .i64 id, .int .i64 1] 79))
      have FLw := Lib.hid (F2.out.then_no FL.out)
      have hhn := H.out.no FLw.out
      rw [← HN.out, ← HM.out] at hhn
      have hnx := rnext_any (vo := .slice (some ⟨w2.heap.size, 0, none⟩) 1 1) (l0 := [(id, 1)]) hhn hq (lit_own w2 id 1) (fun k hk g => by have := of_some hk; have := H.out.lt k g; have := F2.out.size; omega) (by simp)
      rw [show agS (.slice A n c) (.slice B m d) s = .agg #[.slice A n c, .int .i64 ms, .int .i64 wr, .slice B m d] by rw [HMS.out, HWR.out]] at hnx
      have HNX := Lib.hid hnx
      have HG0 := Lib.hid F2.out.size
      have HGL := Lib.hid (show w2.heap.size < (w2.alloc (.cells #[.int .i64 id, .int .i64 1] 79)).heap.size by simp)
      have HSB := Lib.hid (show ∀ k, S k → (S k ∨ New w (w2.alloc (.cells #[.int .i64 id, .int .i64 1] 79)) k) ∧ k ≠ br from fun k hk => ⟨.inl hk, fun e => by have := H.out.lt k hk; have := HBL.out; omega⟩)
      clear hhn hnx hq
      have XBo := XB2.out
      have x0 := XBo.cell 0
      have x1 := XBo.cell 1
      have x2 := XBo.cell 2
      have x3 := XBo.cell 3
      have xf0 := XBo.frozen 0
      have xf1 := XBo.frozen 1
      have xf2 := XBo.frozen 2
      have xf3 := XBo.frozen 3
      simp only [List.getElem?_toArray, List.getElem?_cons_zero, List.getElem?_cons_succ] at x0 x1 x2 x3
      clear XBo
      go_wp2_with fail
      clear x0 x1 x2 x3 xf0 xf1 xf2 xf3
      have hgb : w2.heap.size ≠ br := by have := XR2.out.lt; omega
      refine HNX.out.mono ?_
      rintro e w8 ⟨vL, vW, v, rfl, hR, ⟨hv, hvn⟩, hf⟩
      obtain ⟨A8, c8, B8, d8, rfl, rfl, -⟩ := hR.forms
      obtain ⟨A9, c9, rfl⟩ := own_form hv
      obtain ⟨st, hst⟩ : ∃ st, st = (nextR s).1 := ⟨_, rfl⟩
      obtain ⟨l8, hl8⟩ : ∃ l8, l8 = (nextR s).2 := ⟨_, rfl⟩
      simp only [← hst, ← hl8] at hR hv hvn ⊢
      obtain ⟨n8, hn8⟩ : ∃ n8, n8 = st.L.length := ⟨_, rfl⟩
      obtain ⟨m8, hm8⟩ : ∃ m8, m8 = st.q.length := ⟨_, rfl⟩
      obtain ⟨k8, hk8⟩ : ∃ k8, k8 = ([(id, 1)] ++ l8).length := ⟨_, rfl⟩
      obtain ⟨wr8, hwr8⟩ : ∃ wr8, wr8 = st.wr := ⟨_, rfl⟩
      obtain ⟨ms8, hms8⟩ : ∃ ms8, ms8 = st.most := ⟨_, rfl⟩
      rw [show agS (.slice A8 st.L.length c8) (.slice B8 st.q.length d8) st = .agg #[.slice A8 n8 c8, .int .i64 ms8, .int .i64 wr8, .slice B8 m8 d8] by rw [hn8, hm8, hwr8, hms8], ← hk8]
      rw [← hn8, ← hm8] at hR
      rw [← hk8] at hv hvn
      have HR8 := Lib.hid hR
      have HV8 := Lib.hid hv
      have HVN8 := Lib.hid hvn
      have HF8 := Lib.hid hf
      have HST := Lib.hid (And.intro hst (And.intro hl8 (And.intro hwr8 (And.intro hms8 hk8))))
      have XR8 := Lib.hid (XRl.out.fr hf (fun e => hgb (of_some e).symm))
      clear hR hv hvn hf hst hl8 hn8 hm8 hk8 hwr8 hms8
      have XRo := XR8.out
      have r0 := XRo.cell 0
      have r1 := XRo.cell 1
      have r2 := XRo.cell 2
      have r3 := XRo.cell 3
      have rf0 := XRo.frozen 0
      have rf1 := XRo.frozen 1
      have rf2 := XRo.frozen 2
      have rf3 := XRo.frozen 3
      simp only [List.getElem?_toArray, List.getElem?_cons_zero, List.getElem?_cons_succ] at r0 r1 r2 r3
      clear XRo
      go_wp2_with fail
      obtain ⟨g1, g2, g3, g4, g5⟩ := HST.out
      have hv8 := HV8.out
      rw [g5] at hv8
      have hvn8 := HVN8.out
      rw [g5] at hvn8
      have rt := rt_next (S := S) (id := id) (r := 1) (l := l8) FLw.out HBL.out XRl.out.lt HG0.out HGL.out hgb HSB.out H.out.lt HR8.out hv8 hvn8 HF8.out (.slice A8 n8 c8) (.int .i64 ms8) (.int .i64 wr8) (.slice B8 m8 d8)
      rw [show agS (.slice A8 n8 c8) (.slice B8 m8 d8) st = .agg #[.slice A8 n8 c8, .int .i64 ms8, .int .i64 wr8, .slice B8 m8 d8] by rw [g3, g4], ← g5] at rt
      rw [HE.out, ← g1, ← g2]
      have b9 := (((XR8.out.put 0 (.slice A8 n8 c8)).put 1 (.int .i64 ms8)).put 2 (.int .i64 wr8)).put 3 (.slice B8 m8 d8)
      simp only [List.setIfInBounds_toArray, List.set_cons_zero, List.set_cons_succ] at b9
      have e0 := b9.cell 0
      have e1 := b9.cell 1
      have e2 := b9.cell 2
      have e3 := b9.cell 3
      simp only [List.getElem?_toArray, List.getElem?_cons_zero, List.getElem?_cons_succ] at e0 e1 e2 e3
      refine bodyPost_ret (v := .tuple #[.agg #[.slice A8 n8 c8, .int .i64 ms8, .int .i64 wr8, .slice B8 m8 d8], .slice A9 k8 c9, .int .i64 0]) ?_ rfl rt
      clear b9
      simp [results, Try.f62, go_sem, e0, e1, e2, e3]
    · have HE := Lib.hid (show yieldR s id = (s, [], 9) by unfold yieldR; rw [if_neg (by rw [htb]; decide), if_pos h1])
      have hwe : (wr != id) = true := by rw [hwr]; simpa using h1
      clear h hq ag hn hm hms hwr htb h1
      go_enter Try.func62, Try.ntmps62
      go_upto_region 1 with (fail)
      generalize (w.alloc (.cells #[.slice A n c, .int .i64 ms, .int .i64 wr, .slice B m d] 71)).alloc (.cells #[.slice none 0 0, .int .i64 0, .int .i64 0, .slice none 0 0] 71) = w1 at XB XR F1 ⊢
      clear hbx hbr
      have XBo := XB.out
      have x0 := XBo.cell 0
      have x1 := XBo.cell 1
      have x2 := XBo.cell 2
      have x3 := XBo.cell 3
      have xf0 := XBo.frozen 0
      have xf1 := XBo.frozen 1
      have xf2 := XBo.frozen 2
      have xf3 := XBo.frozen 3
      simp only [List.getElem?_toArray, List.getElem?_cons_zero, List.getElem?_cons_succ] at x0 x1 x2 x3
      clear XBo
      have W1 := Lib.hid (HT.out w1 F1.out)
      go_wp2_with fail
      refine W1.out.mono ?_
      rintro e w2 ⟨rfl, hf⟩
      have F2 := Lib.hid (F1.out.then_no hf)
      have XB2 := Lib.hid (XB.out.fr hf (fun h => h))
      have XR2 := Lib.hid (XR.out.fr hf (fun h => h))
      clear hf x0 x1 x2 x3 xf0 xf1 xf2 xf3
      have XBo := XB2.out
      have x0 := XBo.cell 0
      have x1 := XBo.cell 1
      have x2 := XBo.cell 2
      have x3 := XBo.cell 3
      have xf0 := XBo.frozen 0
      have xf1 := XBo.frozen 1
      have xf2 := XBo.frozen 2
      have xf3 := XBo.frozen 3
      simp only [List.getElem?_toArray, List.getElem?_cons_zero, List.getElem?_cons_succ] at x0 x1 x2 x3
      have XRo := XR2.out
      have r0 := XRo.cell 0
      have r1 := XRo.cell 1
      have r2 := XRo.cell 2
      have r3 := XRo.cell 3
      have rf0 := XRo.frozen 0
      have rf1 := XRo.frozen 1
      have rf2 := XRo.frozen 2
      have rf3 := XRo.frozen 3
      simp only [List.getElem?_toArray, List.getElem?_cons_zero, List.getElem?_cons_succ] at r0 r1 r2 r3
      clear XBo XRo
      go_wp2_with fail
      have hrlt := XR2.out.lt
      have hRS := H.out.no F2.out
      rw [← HN.out, ← HM.out] at hRS
      have rt := rt_of (br := br) (c := 9) (l := []) F2.out HBL.out hRS (fun k hk => ⟨.inl hk, fun e => by have := H.out.lt k hk; have := HBL.out; omega⟩) H.out.lt (World.ownsRow_nil _ _ _ _) (fun k hk => (of_nil hk).elim) (.slice A n c) (.int .i64 ms) (.int .i64 wr) (.slice B m d)
      rw [show agS (.slice A n c) (.slice B m d) s = .agg #[.slice A n c, .int .i64 ms, .int .i64 wr, .slice B m d] by rw [HMS.out, HWR.out]] at rt
      rw [HE.out]
      have b9 := (((XR2.out.put 0 (.slice A n c)).put 1 (.int .i64 ms)).put 2 (.int .i64 wr)).put 3 (.slice B m d)
      simp only [List.setIfInBounds_toArray, List.set_cons_zero, List.set_cons_succ] at b9
      have e0 := b9.cell 0
      have e1 := b9.cell 1
      have e2 := b9.cell 2
      have e3 := b9.cell 3
      simp only [List.getElem?_toArray, List.getElem?_cons_zero, List.getElem?_cons_succ] at e0 e1 e2 e3
      refine bodyPost_ret (v := .tuple #[.agg #[.slice A n c, .int .i64 ms, .int .i64 wr, .slice B m d], .slice none 0 0, .int .i64 9]) ?_ rfl rt
      clear b9
      simp [results, Try.f62, go_sem, e0, e1, e2, e3]
end
end Seat
end Go.Proofs.Ytepnjmgacfjhiaa
