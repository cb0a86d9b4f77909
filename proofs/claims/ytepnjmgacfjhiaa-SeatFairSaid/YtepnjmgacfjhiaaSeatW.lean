/- Package seat: its reference: Come. Printed by gen_seatw.py. -/
import Derived.Test.YtepnjmgacfjhiaaSeatV
import Derived.BigQuiet
import Derived.Deep.CutRange
import Derived.Deep.RegionHeld3
import Derived.Outline
namespace Go.Proofs.Ytepnjmgacfjhiaa
open Go.RowKit
set_option linter.unusedVariables false
set_option linter.unusedSimpArgs false
namespace Seat
open Sls
theorem infoRM : (Try.prog.info? 122).map (fun i => (i.zero, i.size, i.bytes)) = some (some (.agg #[.int .i64 0, .int .i64 0]), 2, 16) := by kernel_rfl
section
variable {w w' : World} {S : Nat → Prop} {vL vW : Value} {s : St}
set_option maxRecDepth 100000 in
set_option maxHeartbeats 4000000 in
theorem rcome_any (h : RS w S vL vW s) (hl : s.L.length ≤ 4096) (id level : Int) (call : Bool) : Calls Try.prog 59 #[agS vL vW s, .int .i64 id, .int .i64 level, .bool call] w (RTells (comeR s id level call) S w) := by
  obtain ⟨A, c, B, d, rfl, rfl, hA1, hA2, hB1, hB2⟩ := h.forms
  obtain ⟨n, hn⟩ : ∃ n, n = s.L.length := ⟨_, rfl⟩
  obtain ⟨m, hm⟩ : ∃ m, m = s.q.length := ⟨_, rfl⟩
  obtain ⟨wr, hwr⟩ : ∃ wr, wr = s.wr := ⟨_, rfl⟩
  obtain ⟨ms, hms⟩ : ∃ ms, ms = s.most := ⟨_, rfl⟩
  have ag : agS (.slice A s.L.length c) (.slice B s.q.length d) s = .agg #[.slice A n c, .int .i64 ms, .int .i64 wr, .slice B m d] := by rw [hn, hm, hwr, hms]
  rw [ag]
  have AG := Lib.hid ag
  have HN := Lib.hid hn
  have HM := Lib.hid hm
  have HMS := Lib.hid hms
  have HWR := Lib.hid hwr
  have H := Lib.hid h
  have XB := (Blk.new w 71 #[.slice A n c, .int .i64 ms, .int .i64 wr, .slice B m d]).alloc (.cells #[.slice none 0 0, .int .i64 0, .int .i64 0, .slice none 0 0] 71)
  have XR := Blk.new (w.alloc (.cells #[.slice A n c, .int .i64 ms, .int .i64 wr, .slice B m d] 71)) 71 #[.slice none 0 0, .int .i64 0, .int .i64 0, .slice none 0 0]
  have F1 := ((Fr.refl No w).alloc (.cells #[.slice A n c, .int .i64 ms, .int .i64 wr, .slice B m d] 71)).alloc (.cells #[.slice none 0 0, .int .i64 0, .int .i64 0, .slice none 0 0] 71)
  rw [size_alloc] at XR
  obtain ⟨bx, hbx⟩ : ∃ bx, w.heap.size = bx := ⟨_, rfl⟩
  obtain ⟨br, hbr⟩ : ∃ br, bx + 1 = br := ⟨_, rfl⟩
  rw [hbx] at XB XR
  rw [hbr] at XR
  have XB := Lib.hid XB
  have XR := Lib.hid XR
  have F1 := Lib.hid F1
  have HBX := Lib.hid hbx
  have HBR := Lib.hid hbr
  have HT := Lib.hid (fun (X : World) (hf : Fr No w X) => rthere_any (H.out.no hf) id)
  simp only [AG.out] at HT
  have hnl : n ≤ 4096 := by omega
  have HBL := Lib.hid (show w.heap.size ≤ br by omega)
  by_cases h1 : id < 0
  · have HE := Lib.hid (show comeR s id level call = (s, [], 1) by have hc : comeC s id level = 1 := by { unfold comeC; rw [if_pos h1] }; unfold comeR; rw [hc, if_pos (by decide)])
    clear h hl ag hn hm hms hwr
    go_enter Try.func59, Try.ntmps59
    go_upto_region 1 with (fail)
    generalize (w.alloc (.cells #[.slice A n c, .int .i64 ms, .int .i64 wr, .slice B m d] 71)).alloc (.cells #[.slice none 0 0, .int .i64 0, .int .i64 0, .slice none 0 0] 71) = w1 at XB XR F1 ⊢
    clear hbx hbr
    have XBo := XB.out
    have x0 := XBo.cell 0
    have x1 := XBo.cell 1
    have x2 := XBo.cell 2
    have x3 := XBo.cell 3
    have xf0 := XBo.frozen 0
    have xf1 := XBo.frozen 1
    have xf2 := XBo.frozen 2
    have xf3 := XBo.frozen 3
    simp only [List.getElem?_toArray, List.getElem?_cons_zero, List.getElem?_cons_succ] at x0 x1 x2 x3
    clear XBo
    clear x0 x1 x2 x3 xf0 xf1 xf2 xf3
    have XBo := XB.out
    have x0 := XBo.cell 0
    have x1 := XBo.cell 1
    have x2 := XBo.cell 2
    have x3 := XBo.cell 3
    have xf0 := XBo.frozen 0
    have xf1 := XBo.frozen 1
    have xf2 := XBo.frozen 2
    have xf3 := XBo.frozen 3
    simp only [List.getElem?_toArray, List.getElem?_cons_zero, List.getElem?_cons_succ] at x0 x1 x2 x3
    have XRo := XR.out
    have r0 := XRo.cell 0
    have r1 := XRo.cell 1
    have r2 := XRo.cell 2
    have r3 := XRo.cell 3
    have rf0 := XRo.frozen 0
    have rf1 := XRo.frozen 1
    have rf2 := XRo.frozen 2
    have rf3 := XRo.frozen 3
    simp only [List.getElem?_toArray, List.getElem?_cons_zero, List.getElem?_cons_succ] at r0 r1 r2 r3
    clear XBo XRo
    go_wp2_with fail
    have hrlt := XR.out.lt
    have hRS := H.out.no F1.out
    rw [← HN.out, ← HM.out] at hRS
    have rt := rt_of (br := br) (c := 1) (l := []) F1.out HBL.out hRS (fun k hk => ⟨.inl hk, fun e => by have := H.out.lt k hk; have := HBL.out; omega⟩) H.out.lt (World.ownsRow_nil _ _ _ _) (fun k hk => (of_nil hk).elim) (.slice A n c) (.int .i64 ms) (.int .i64 wr) (.slice B m d)
    rw [show agS (.slice A n c) (.slice B m d) s = .agg #[.slice A n c, .int .i64 ms, .int .i64 wr, .slice B m d] by rw [HMS.out, HWR.out]] at rt
    rw [HE.out]
    have b9 := (((XR.out.put 0 (.slice A n c)).put 1 (.int .i64 ms)).put 2 (.int .i64 wr)).put 3 (.slice B m d)
    simp only [List.setIfInBounds_toArray, List.set_cons_zero, List.set_cons_succ] at b9
    have e0 := b9.cell 0
    have e1 := b9.cell 1
    have e2 := b9.cell 2
    have e3 := b9.cell 3
    simp only [List.getElem?_toArray, List.getElem?_cons_zero, List.getElem?_cons_succ] at e0 e1 e2 e3
    refine bodyPost_ret (v := .tuple #[.agg #[.slice A n c, .int .i64 ms, .int .i64 wr, .slice B m d], .slice none 0 0, .int .i64 1]) ?_ rfl rt
    clear b9
    simp [results, Try.f59, go_sem, e0, e1, e2, e3]
  · obtain ⟨tb, htb⟩ : ∃ tb, thereB s.L id = tb := ⟨_, rfl⟩
    simp only [htb] at HT
    have h1' : 0 ≤ id := by omega
    cases tb with
    | true =>
      have HE := Lib.hid (show comeR s id level call = (s, [], 8) by have hc : comeC s id level = 8 := by { unfold comeC; rw [if_neg h1, if_pos htb] }; unfold comeR; rw [hc, if_pos (by decide)])
      clear h hl ag hn hm hms hwr htb
      go_enter Try.func59, Try.ntmps59
      go_upto_region 1 with (fail)
      generalize (w.alloc (.cells #[.slice A n c, .int .i64 ms, .int .i64 wr, .slice B m d] 71)).alloc (.cells #[.slice none 0 0, .int .i64 0, .int .i64 0, .slice none 0 0] 71) = w1 at XB XR F1 ⊢
      clear hbx hbr
      have XBo := XB.out
      have x0 := XBo.cell 0
      have x1 := XBo.cell 1
      have x2 := XBo.cell 2
      have x3 := XBo.cell 3
      have xf0 := XBo.frozen 0
      have xf1 := XBo.frozen 1
      have xf2 := XBo.frozen 2
      have xf3 := XBo.frozen 3
      simp only [List.getElem?_toArray, List.getElem?_cons_zero, List.getElem?_cons_succ] at x0 x1 x2 x3
      clear XBo
      have W1 := Lib.hid (HT.out w1 F1.out)
      go_wp2_with fail
      refine W1.out.mono ?_
      rintro e w2 ⟨rfl, hf⟩
      have F2 := Lib.hid (F1.out.then_no hf)
      have XB2 := Lib.hid (XB.out.fr hf (fun h => h))
      have XR2 := Lib.hid (XR.out.fr hf (fun h => h))
      clear hf x0 x1 x2 x3 xf0 xf1 xf2 xf3
      have XBo := XB2.out
      have x0 := XBo.cell 0
      have x1 := XBo.cell 1
      have x2 := XBo.cell 2
      have x3 := XBo.cell 3
      have xf0 := XBo.frozen 0
      have xf1 := XBo.frozen 1
      have xf2 := XBo.frozen 2
      have xf3 := XBo.frozen 3
      simp only [List.getElem?_toArray, List.getElem?_cons_zero, List.getElem?_cons_succ] at x0 x1 x2 x3
      have XRo := XR2.out
      have r0 := XRo.cell 0
      have r1 := XRo.cell 1
      have r2 := XRo.cell 2
      have r3 := XRo.cell 3
      have rf0 := XRo.frozen 0
      have rf1 := XRo.frozen 1
      have rf2 := XRo.frozen 2
      have rf3 := XRo.frozen 3
      simp only [List.getElem?_toArray, List.getElem?_cons_zero, List.getElem?_cons_succ] at r0 r1 r2 r3
      clear XBo XRo
      go_wp2_with fail
      have hrlt := XR2.out.lt
      have hRS := H.out.no F2.out
      rw [← HN.out, ← HM.out] at hRS
      have rt := rt_of (br := br) (c := 8) (l := []) F2.out HBL.out hRS (fun k hk => ⟨.inl hk, fun e => by have := H.out.lt k hk; have := HBL.out; omega⟩) H.out.lt (World.ownsRow_nil _ _ _ _) (fun k hk => (of_nil hk).elim) (.slice A n c) (.int .i64 ms) (.int .i64 wr) (.slice B m d)
      rw [show agS (.slice A n c) (.slice B m d) s = .agg #[.slice A n c, .int .i64 ms, .int .i64 wr, .slice B m d] by rw [HMS.out, HWR.out]] at rt
      rw [HE.out]
      have b9 := (((XR2.out.put 0 (.slice A n c)).put 1 (.int .i64 ms)).put 2 (.int .i64 wr)).put 3 (.slice B m d)
      simp only [List.setIfInBounds_toArray, List.set_cons_zero, List.set_cons_succ] at b9
      have e0 := b9.cell 0
      have e1 := b9.cell 1
      have e2 := b9.cell 2
      have e3 := b9.cell 3
      simp only [List.getElem?_toArray, List.getElem?_cons_zero, List.getElem?_cons_succ] at e0 e1 e2 e3
      refine bodyPost_ret (v := .tuple #[.agg #[.slice A n c, .int .i64 ms, .int .i64 wr, .slice B m d], .slice none 0 0, .int .i64 8]) ?_ rfl rt
      clear b9
      simp [results, Try.f59, go_sem, e0, e1, e2, e3]
    | false =>
      by_cases h2 : level < 1
      · have HE := Lib.hid (show comeR s id level call = (s, [], 10) by have hc : comeC s id level = 10 := by { unfold comeC; rw [if_neg h1, if_neg (by rw [htb]; decide), if_pos h2] }; unfold comeR; rw [hc, if_pos (by decide)])
        clear h hl ag hn hm hms hwr htb
        go_enter Try.func59, Try.ntmps59
        go_upto_region 1 with (fail)
        generalize (w.alloc (.cells #[.slice A n c, .int .i64 ms, .int .i64 wr, .slice B m d] 71)).alloc (.cells #[.slice none 0 0, .int .i64 0, .int .i64 0, .slice none 0 0] 71) = w1 at XB XR F1 ⊢
        clear hbx hbr
        have XBo := XB.out
        have x0 := XBo.cell 0
        have x1 := XBo.cell 1
        have x2 := XBo.cell 2
        have x3 := XBo.cell 3
        have xf0 := XBo.frozen 0
        have xf1 := XBo.frozen 1
        have xf2 := XBo.frozen 2
        have xf3 := XBo.frozen 3
        simp only [List.getElem?_toArray, List.getElem?_cons_zero, List.getElem?_cons_succ] at x0 x1 x2 x3
        clear XBo
        have W1 := Lib.hid (HT.out w1 F1.out)
        go_wp2_with fail
        refine W1.out.mono ?_
        rintro e w2 ⟨rfl, hf⟩
        have F2 := Lib.hid (F1.out.then_no hf)
        have XB2 := Lib.hid (XB.out.fr hf (fun h => h))
        have XR2 := Lib.hid (XR.out.fr hf (fun h => h))
        clear hf x0 x1 x2 x3 xf0 xf1 xf2 xf3
        have XBo := XB2.out
        have x0 := XBo.cell 0
        have x1 := XBo.cell 1
        have x2 := XBo.cell 2
        have x3 := XBo.cell 3
        have xf0 := XBo.frozen 0
        have xf1 := XBo.frozen 1
        have xf2 := XBo.frozen 2
        have xf3 := XBo.frozen 3
        simp only [List.getElem?_toArray, List.getElem?_cons_zero, List.getElem?_cons_succ] at x0 x1 x2 x3
        have XRo := XR2.out
        have r0 := XRo.cell 0
        have r1 := XRo.cell 1
        have r2 := XRo.cell 2
        have r3 := XRo.cell 3
        have rf0 := XRo.frozen 0
        have rf1 := XRo.frozen 1
        have rf2 := XRo.frozen 2
        have rf3 := XRo.frozen 3
        simp only [List.getElem?_toArray, List.getElem?_cons_zero, List.getElem?_cons_succ] at r0 r1 r2 r3
        clear XBo XRo
        go_wp2_with fail
        have hrlt := XR2.out.lt
        have hRS := H.out.no F2.out
        rw [← HN.out, ← HM.out] at hRS
        have rt := rt_of (br := br) (c := 10) (l := []) F2.out HBL.out hRS (fun k hk => ⟨.inl hk, fun e => by have := H.out.lt k hk; have := HBL.out; omega⟩) H.out.lt (World.ownsRow_nil _ _ _ _) (fun k hk => (of_nil hk).elim) (.slice A n c) (.int .i64 ms) (.int .i64 wr) (.slice B m d)
        rw [show agS (.slice A n c) (.slice B m d) s = .agg #[.slice A n c, .int .i64 ms, .int .i64 wr, .slice B m d] by rw [HMS.out, HWR.out]] at rt
        rw [HE.out]
        have b9 := (((XR2.out.put 0 (.slice A n c)).put 1 (.int .i64 ms)).put 2 (.int .i64 wr)).put 3 (.slice B m d)
        simp only [List.setIfInBounds_toArray, List.set_cons_zero, List.set_cons_succ] at b9
        have e0 := b9.cell 0
        have e1 := b9.cell 1
        have e2 := b9.cell 2
        have e3 := b9.cell 3
        simp only [List.getElem?_toArray, List.getElem?_cons_zero, List.getElem?_cons_succ] at e0 e1 e2 e3
        refine bodyPost_ret (v := .tuple #[.agg #[.slice A n c, .int .i64 ms, .int .i64 wr, .slice B m d], .slice none 0 0, .int .i64 10]) ?_ rfl rt
        clear b9
        simp [results, Try.f59, go_sem, e0, e1, e2, e3]
      · have h2' : 1 ≤ level := by omega
        by_cases h3 : ms ≤ (n : Int)
        · have HE := Lib.hid (show comeR s id level call = (s, [], 6) by have hc : comeC s id level = 6 := by { unfold comeC; rw [if_neg h1, if_neg (by rw [htb]; decide), if_neg h2, if_pos (by rw [← hms, ← hn]; exact h3)] }; unfold comeR; rw [hc, if_pos (by decide)])
          clear h hl ag hn hm hms hwr htb
          go_enter Try.func59, Try.ntmps59
          go_upto_region 1 with (fail)
          generalize (w.alloc (.cells #[.slice A n c, .int .i64 ms, .int .i64 wr, .slice B m d] 71)).alloc (.cells #[.slice none 0 0, .int .i64 0, .int .i64 0, .slice none 0 0] 71) = w1 at XB XR F1 ⊢
          clear hbx hbr
          have XBo := XB.out
          have x0 := XBo.cell 0
          have x1 := XBo.cell 1
          have x2 := XBo.cell 2
          have x3 := XBo.cell 3
          have xf0 := XBo.frozen 0
          have xf1 := XBo.frozen 1
          have xf2 := XBo.frozen 2
          have xf3 := XBo.frozen 3
          simp only [List.getElem?_toArray, List.getElem?_cons_zero, List.getElem?_cons_succ] at x0 x1 x2 x3
          clear XBo
          have W1 := Lib.hid (HT.out w1 F1.out)
          go_wp2_with fail
          refine W1.out.mono ?_
          rintro e w2 ⟨rfl, hf⟩
          have F2 := Lib.hid (F1.out.then_no hf)
          have XB2 := Lib.hid (XB.out.fr hf (fun h => h))
          have XR2 := Lib.hid (XR.out.fr hf (fun h => h))
          clear hf x0 x1 x2 x3 xf0 xf1 xf2 xf3
          have XBo := XB2.out
          have x0 := XBo.cell 0
          have x1 := XBo.cell 1
          have x2 := XBo.cell 2
          have x3 := XBo.cell 3
          have xf0 := XBo.frozen 0
          have xf1 := XBo.frozen 1
          have xf2 := XBo.frozen 2
          have xf3 := XBo.frozen 3
          simp only [List.getElem?_toArray, List.getElem?_cons_zero, List.getElem?_cons_succ] at x0 x1 x2 x3
          have XRo := XR2.out
          have r0 := XRo.cell 0
          have r1 := XRo.cell 1
          have r2 := XRo.cell 2
          have r3 := XRo.cell 3
          have rf0 := XRo.frozen 0
          have rf1 := XRo.frozen 1
          have rf2 := XRo.frozen 2
          have rf3 := XRo.frozen 3
          simp only [List.getElem?_toArray, List.getElem?_cons_zero, List.getElem?_cons_succ] at r0 r1 r2 r3
          clear XBo XRo
          go_wp2_with fail
          have hrlt := XR2.out.lt
          have hRS := H.out.no F2.out
          rw [← HN.out, ← HM.out] at hRS
          have rt := rt_of (br := br) (c := 6) (l := []) F2.out HBL.out hRS (fun k hk => ⟨.inl hk, fun e => by have := H.out.lt k hk; have := HBL.out; omega⟩) H.out.lt (World.ownsRow_nil _ _ _ _) (fun k hk => (of_nil hk).elim) (.slice A n c) (.int .i64 ms) (.int .i64 wr) (.slice B m d)
          rw [show agS (.slice A n c) (.slice B m d) s = .agg #[.slice A n c, .int .i64 ms, .int .i64 wr, .slice B m d] by rw [HMS.out, HWR.out]] at rt
          rw [HE.out]
          have b9 := (((XR2.out.put 0 (.slice A n c)).put 1 (.int .i64 ms)).put 2 (.int .i64 wr)).put 3 (.slice B m d)
          simp only [List.setIfInBounds_toArray, List.set_cons_zero, List.set_cons_succ] at b9
          have e0 := b9.cell 0
          have e1 := b9.cell 1
          have e2 := b9.cell 2
          have e3 := b9.cell 3
          simp only [List.getElem?_toArray, List.getElem?_cons_zero, List.getElem?_cons_succ] at e0 e1 e2 e3
          refine bodyPost_ret (v := .tuple #[.agg #[.slice A n c, .int .i64 ms, .int .i64 wr, .slice B m d], .slice none 0 0, .int .i64 6]) ?_ rfl rt
          clear b9
          simp [results, Try.f59, go_sem, e0, e1, e2, e3]
        · have hc : comeC s id level = 0 := by
            unfold comeC
            rw [if_neg h1, if_neg (by rw [htb]; decide), if_neg h2, if_neg (by rw [← hms, ← hn]; exact h3)]
          have hcs : (call = true ∧ decide (wr < 0) = true ∧ decide (2 ≤ level) = true ∧ comeR s id level call = (⟨s.L ++ [(id, level)], s.most, id, s.q⟩, [(id, 2)], 0)) ∨ (call = false ∧ comeR s id level call = (comeS s id level, [(id, 1)], 0)) ∨
              (call = true ∧ decide (wr < 0) = false ∧ comeR s id level call = (comeS s id level, [(id, 1)], 0)) ∨ (call = true ∧ decide (wr < 0) = true ∧ decide (2 ≤ level) = false ∧ comeR s id level call = (comeS s id level, [(id, 1)], 0)) := by
            unfold comeR
            rw [if_neg (by rw [hc]; decide), ← hwr]
            cases call with
            | false => exact .inr (.inl ⟨rfl, by rw [if_neg (by simp)]⟩)
            | true =>
              by_cases g1 : wr < 0
              · by_cases g2 : 2 ≤ level
                · exact .inl ⟨rfl, by simp [g1], by simp [g2], by rw [if_pos ⟨rfl, g1, g2⟩]⟩
                · exact .inr (.inr (.inr ⟨rfl, by simp [g1], by simp [g2], by rw [if_neg (fun h => g2 h.2.2)]⟩))
              · exact .inr (.inr (.inl ⟨rfl, by simp [g1], by rw [if_neg (fun h => g1 h.2.1)]⟩))
          have h1f : decide (id < 0) = false := by simp [h1]
          have h2f : decide (level < 1) = false := by simp [h2]
          have h3f : decide (ms ≤ (n : Int)) = false := by simp [h3]
          clear h hl ag hn hm hms hwr htb hc h1 h2 h3 h1' h2'
          rcases hcs with ⟨rfl, g1, g2, e⟩ | ⟨rfl, e⟩ | ⟨rfl, g1, e⟩ | ⟨rfl, g1, g2, e⟩
          · have HE := Lib.hid e
            clear e
            go_enter Try.func59, Try.ntmps59
            go_upto_region 1 with (fail)
            generalize (w.alloc (.cells #[.slice A n c, .int .i64 ms, .int .i64 wr, .slice B m d] 71)).alloc (.cells #[.slice none 0 0, .int .i64 0, .int .i64 0, .slice none 0 0] 71) = w1 at XB XR F1 ⊢
            clear hbx hbr
            have XBo := XB.out
            have x0 := XBo.cell 0
            have x1 := XBo.cell 1
            have x2 := XBo.cell 2
            have x3 := XBo.cell 3
            have xf0 := XBo.frozen 0
            have xf1 := XBo.frozen 1
            have xf2 := XBo.frozen 2
            have xf3 := XBo.frozen 3
            simp only [List.getElem?_toArray, List.getElem?_cons_zero, List.getElem?_cons_succ] at x0 x1 x2 x3
            clear XBo
            have W1 := Lib.hid (HT.out w1 F1.out)
            go_wp2_with fail
            refine W1.out.mono ?_
            rintro e w2 ⟨rfl, hf⟩
            have F2 := Lib.hid (F1.out.then_no hf)
            have XB2 := Lib.hid (XB.out.fr hf (fun h => h))
            have XR2 := Lib.hid (XR.out.fr hf (fun h => h))
            clear hf x0 x1 x2 x3 xf0 xf1 xf2 xf3
            have XBo := XB2.out
            have x0 := XBo.cell 0
            have x1 := XBo.cell 1
            have x2 := XBo.cell 2
            have x3 := XBo.cell 3
            have xf0 := XBo.frozen 0
            have xf1 := XBo.frozen 1
            have xf2 := XBo.frozen 2
            have xf3 := XBo.frozen 3
            simp only [List.getElem?_toArray, List.getElem?_cons_zero, List.getElem?_cons_succ] at x0 x1 x2 x3
            clear XBo
            have hl2 := (H.out.no F2.out).l
            rw [← HN.out] at hl2
            have nw := Sls.sl_news (k := 2) (by decide) hl2 (enc := encM) (fun _ _ => rfl) (fun _ _ h => h)
            have NW := Lib.hid nw
            have HFL := Lib.hid (show (s.L.flatMap encM).length = n * 2 by rw [fm2, ← HN.out])
            clear hl2 nw
            go_upto_region 11 with (at_builtin; go_loud (refine wp_app (B := A) (m := n) (c := c) (news := s.L.flatMap encM) rfl (.tmp 29) (.tmp 31) 69 rfl 122 (.agg #[.int .i64 0, .int .i64 0]) 2 16 Try.underlying69 infoRM rfl (by decide) (.slice none 0 0) 0 [] rfl (World.ownsRow_nil _ _ _ _) rfl HFL.out NW.out (encM_one _) (by omega) (by unfold maxLen; omega) ?_; intro v3 w3 p1 p2 p3; have P1 := Lib.hid p1; have P2 := Lib.hid p2; have P3 := Lib.hid p3; clear p1 p2 p3))
            clear x0 x1 x2 x3 xf0 xf1 xf2 xf3
            have P1o := P1.out
            simp only [Nat.zero_add, List.nil_append] at P1o
            obtain ⟨A3, c3, rfl⟩ := own_form P1o
            have P1 := Lib.hid P1o
            clear P1o
            have hnn : Fr No w2 w3 := P2.out.mono fun b hb _ => by cases hb
            have F3 := Lib.hid (F2.out.then_no hnn)
            have XB3 := Lib.hid (XB2.out.fr hnn (fun h => h))
            have XR3 := Lib.hid (XR2.out.fr hnn (fun h => h))
            have HOF := Lib.hid (show ∀ k, Of (.slice A3 n c3) k → ¬ (k = bx ∨ k = br) ∧ New w2 w3 k from fun k hk => by
              rcases P3.out k hk with g | g
              · cases g
              · have := XB2.out.lt; have := XR2.out.lt; have := g.1
                exact ⟨by omega, g⟩)
            clear hnn
            have XBo := XB3.out
            have x0 := XBo.cell 0
            have x1 := XBo.cell 1
            have x2 := XBo.cell 2
            have x3 := XBo.cell 3
            have xf0 := XBo.frozen 0
            have xf1 := XBo.frozen 1
            have xf2 := XBo.frozen 2
            have xf3 := XBo.frozen 3
            simp only [List.getElem?_toArray, List.getElem?_cons_zero, List.getElem?_cons_succ] at x0 x1 x2 x3
            clear XBo
            go_upto_region 12 with (at_builtin; go_loud (refine wp_push rfl (.tmp 33) (.tmp 37) 69 rfl 122 (.agg #[.int .i64 0, .int .i64 0]) 2 16 Try.underlying69 infoRM rfl (by decide) (.slice A3 n c3) _ _ rfl P1.out #[.int .i64 id, .int .i64 level] rfl rfl (by intro u hu; simp at hu; rcases hu with rfl | rfl <;> rfl) (by omega) (by unfold maxLen; omega) ?_; intro g4 cap4 w4 q1 q2 q3; have Q1 := Lib.hid q1; have Q2 := Lib.hid q2; have Q3 := Lib.hid q3; have b4 := XB3.out.fr q2 (fun e => (HOF.out bx e).1 (.inl rfl)); have d0 := b4.cell 0; have d1 := b4.frozen 0; simp only [List.getElem?_toArray, List.getElem?_cons_zero] at d0; clear q1 q2 q3 b4))
            clear x0 x1 x2 x3 xf0 xf1 xf2 xf3
            clear d0 d1
            have hgn : New w2 w4 g4 := by
              rcases Q3.out with g | g
              · have k := (HOF.out g4 g).2
                exact ⟨k.1, Nat.lt_of_lt_of_le k.2 Q2.out.size⟩
              · exact ⟨Nat.le_trans (by have := P2.out.size; omega) g.1, g.2⟩
            have hbx2 := XB2.out.lt
            have hbr2 := XR2.out.lt
            have hof2 := HOF.out
            have f24 : Fr No w2 w4 := (show Fr No w2 w3 from P2.out.mono fun b hb _ => by cases hb).trans Q2.out (fun b hb hl => by have := (HOF.out b hb).2.1; omega)
            have XB4 := XB3.out.fr Q2.out (fun e => (HOF.out bx e).1 (.inl rfl))
            have XR4 := XR3.out.fr Q2.out (fun e => (HOF.out br e).1 (.inr rfl))
            have f45 : Fr (fun k => k = bx) w4 (w4.setCell ⟨bx, 0, none⟩ (.slice (some ⟨g4, 0, none⟩) (n + 1) cap4)) := Fr.setCell (F := fun k => k = bx) (Fr.refl _ _) (p := ⟨bx, 0, none⟩) (.inl rfl) _
            have XB5 := XB4.put 0 (.slice (some ⟨g4, 0, none⟩) (n + 1) cap4)
            simp only [List.setIfInBounds_toArray, List.set_cons_zero, List.set_cons_succ] at XB5
            have hq4 : w4.ownsRow 0 122 2 (.slice (some ⟨g4, 0, none⟩) (n + 1) cap4) (s.L ++ [(id, level)]).length ((s.L ++ [(id, level)]).flatMap encM) := by
              have p1 := Q1.out
              have e1 : (s.L ++ [(id, level)]).length = n + 1 := by simp; exact HN.out.symm
              have e2 : (s.L ++ [(id, level)]).flatMap encM = s.L.flatMap encM ++ [.int .i64 id, .int .i64 level] := by simp [encM]
              rw [e1, e2]
              exact p1
            have hgx : g4 ≠ bx ∧ g4 ≠ br := by have := hgn.1; omega
            have hRS4 : RS w4 (fun k => S k ∨ New w2 w4 k) (.slice (some ⟨g4, 0, none⟩) (n + 1) cap4) (.slice B m d) (comeS s id level) := by
              have hq := ((H.out.no F2.out).no f24).q
              rw [← HM.out] at hq
              exact ⟨own_rm2 hq4 (fun k hk => .inr (by rw [of_some hk]; exact hgn)), ints_go hq (Kept.refl _ _) (fun _ h => .inl h), fun k hk => hk.elim (fun g => Nat.lt_of_lt_of_le (H.out.lt k g) (F2.out.then_no f24).size) (fun g => g.2)⟩
            have hRS5 := hRS4.fr f45 (fun k hk e => by
              have e : k = bx := e
              rcases hk with g | g
              · have := H.out.lt k g; have := HBX.out; omega
              · have := g.1; omega)
            have HSB := Lib.hid (show ∀ k, (S k ∨ New w2 w4 k) → k ≠ br ∧ k ≠ bx ∧ (S k ∨ New w (w4.setCell ⟨bx, 0, none⟩ (.slice (some ⟨g4, 0, none⟩) (n + 1) cap4)) k) from fun k hk => by
              have hz := F2.out.size
              have hz5 := f45.size
              rcases hk with g | g
              · exact ⟨by have := H.out.lt k g; have := HBL.out; omega, by have := H.out.lt k g; have := HBX.out; omega, .inl g⟩
              · exact ⟨by have := g.1; omega, by have := g.1; omega, .inr ⟨by have := g.1; omega, by have := g.2; omega⟩⟩)
            have HRS5 := Lib.hid hRS5
            have F5 := Lib.hid ((F2.out.then_no f24).trans f45 (fun k hk hl => by have hk : k = bx := hk; have := HBX.out; omega))
            have hbr3 : br ≠ bx := by have := HBR.out; omega
            have XR5 := Lib.hid (XR4.fr f45 hbr3)
            have XB5 := Lib.hid XB5
            clear XR4 XB4 hRS4 hRS5 hq4 hof2 hgx hgn f24 f45 hbx2 hbr2 hbr3
            generalize w4.setCell ⟨bx, 0, none⟩ (.slice (some ⟨g4, 0, none⟩) (n + 1) cap4) = w5 at HSB HRS5 F5 XR5 XB5 ⊢
            have XBo := XB5.out
            have x0 := XBo.cell 0
            have x1 := XBo.cell 1
            have x2 := XBo.cell 2
            have x3 := XBo.cell 3
            have xf0 := XBo.frozen 0
            have xf1 := XBo.frozen 1
            have xf2 := XBo.frozen 2
            have xf3 := XBo.frozen 3
            simp only [List.getElem?_toArray, List.getElem?_cons_zero, List.getElem?_cons_succ] at x0 x1 x2 x3
            clear XBo
            go_upto_region 14 with (fail)
            have f56 : Fr (fun k => k = bx) w5 (w5.setCell ⟨bx, 2, none⟩ (.int .i64 id)) := Fr.setCell (F := fun k => k = bx) (Fr.refl _ _) (p := ⟨bx, 2, none⟩) (.inl rfl) _
            have XB6 := XB5.out.put 2 (.int .i64 id)
            simp only [List.setIfInBounds_toArray, List.set_cons_zero, List.set_cons_succ] at XB6
            have hRS6 : RS (w5.setCell ⟨bx, 2, none⟩ (.int .i64 id)) (fun k => S k ∨ New w2 w4 k) (.slice (some ⟨g4, 0, none⟩) (n + 1) cap4) (.slice B m d) ⟨s.L ++ [(id, level)], s.most, id, s.q⟩ := by
              have h6 := HRS5.out.fr f56 (fun k hk e => (HSB.out k hk).2.1 e)
              exact ⟨h6.l, h6.q, h6.lt⟩
            have HSB6 := Lib.hid (show ∀ k, (S k ∨ New w2 w4 k) → k ≠ br ∧ (S k ∨ New w (w5.setCell ⟨bx, 2, none⟩ (.int .i64 id)) k) from fun k hk => ⟨(HSB.out k hk).1, (HSB.out k hk).2.2.elim .inl (fun g => .inr ⟨g.1, Nat.lt_of_lt_of_le g.2 f56.size⟩)⟩)
            have hbr3 : br ≠ bx := by have := HBR.out; omega
            have F6 := Lib.hid (F5.out.trans f56 (fun k hk hl => by have hk : k = bx := hk; have := HBX.out; omega))
            have XR6 := Lib.hid (XR5.out.fr f56 hbr3)
            have XB6 := Lib.hid XB6
            have HRS6 := Lib.hid hRS6
            clear hRS6 f56 hbr3
            clear x0 x1 x2 x3 xf0 xf1 xf2 xf3
            generalize w5.setCell ⟨bx, 2, none⟩ (.int .i64 id) = w6 at HSB6 HRS6 F6 XR6 XB6 ⊢
            have FL := Lib.hid ((Fr.refl No w6).alloc (.cells #[.int .i64 id, .int .i64 2] 79))
            have XBl := Lib.hid (XB6.out.alloc (.cells #[.int .i64 id, .int .i64 2] 79))
            have XRl := Lib.hid (XR6.out.alloc (.cells #[.int .i64 id, .int .i64 2] 79))
            have XBo := XB6.out
            have x0 := XBo.cell 0
            have x1 := XBo.cell 1
            have x2 := XBo.cell 2
            have x3 := XBo.cell 3
            have xf0 := XBo.frozen 0
            have xf1 := XBo.frozen 1
            have xf2 := XBo.frozen 2
            have xf3 := XBo.frozen 3
            simp only [List.getElem?_toArray, List.getElem?_cons_zero, List.getElem?_cons_succ] at x0 x1 x2 x3
            have XRo := XR6.out
            have r0 := XRo.cell 0
            have r1 := XRo.cell 1
            have r2 := XRo.cell 2
            have r3 := XRo.cell 3
            have rf0 := XRo.frozen 0
            have rf1 := XRo.frozen 1
            have rf2 := XRo.frozen 2
            have rf3 := XRo.frozen 3
            simp only [List.getElem?_toArray, List.getElem?_cons_zero, List.getElem?_cons_succ] at r0 r1 r2 r3
            clear XBo XRo
            have hrlt := XR6.out.lt
            have hsl := ShR.one (w := w6) (w1 := w6) (F' := fun k => k = br) (id, 2) (fun k hk => by have hk : k = br := hk; omega) (Nat.le_refl _)
            have HSL := Lib.hid hsl
            have HRS := HRS6
            clear hsl
            go_wp2_with fail
            have rt := rt_of (br := br) (c := 0) (l := [(id, 2)]) (F6.out.then_no FL.out) HBL.out (HRS.out.no FL.out) (fun k hk => ⟨(HSB6.out k hk).2.elim .inl (fun g => .inr ⟨g.1, Nat.lt_of_lt_of_le g.2 FL.out.size⟩), (HSB6.out k hk).1⟩) H.out.lt HSL.out.own (fun k hk => ⟨⟨Nat.le_trans F6.out.size (HSL.out.new k hk).1, (HSL.out.new k hk).2⟩, fun e => HSL.out.off k hk e⟩) (.slice (some ⟨g4, 0, none⟩) (n + 1) cap4) (.int .i64 ms) (.int .i64 id) (.slice B m d)
            rw [show agS (.slice (some ⟨g4, 0, none⟩) (n + 1) cap4) (.slice B m d) ⟨s.L ++ [(id, level)], s.most, id, s.q⟩ = .agg #[.slice (some ⟨g4, 0, none⟩) (n + 1) cap4, .int .i64 ms, .int .i64 id, .slice B m d] by rw [HMS.out]] at rt
            rw [HE.out]
            have b9 := (((XRl.out.put 0 (.slice (some ⟨g4, 0, none⟩) (n + 1) cap4)).put 1 (.int .i64 ms)).put 2 (.int .i64 id)).put 3 (.slice B m d)
            simp only [List.setIfInBounds_toArray, List.set_cons_zero, List.set_cons_succ] at b9
            simp (config := {zeta := false}) only [World.setCell_alloc_past, (show ∀ (w : World) (a : Addr) (v : Value), (w.setCell a v).heap.size = w.heap.size from fun w a v => by simp [World.setCell]), hrlt] at rt b9
            have e0 := b9.cell 0
            have e1 := b9.cell 1
            have e2 := b9.cell 2
            have e3 := b9.cell 3
            simp only [List.getElem?_toArray, List.getElem?_cons_zero, List.getElem?_cons_succ] at e0 e1 e2 e3
            refine bodyPost_ret (v := .tuple #[.agg #[.slice (some ⟨g4, 0, none⟩) (n + 1) cap4, .int .i64 ms, .int .i64 id, .slice B m d], .slice (some ⟨w6.heap.size, 0, none⟩) 1 1, .int .i64 0]) ?_ rfl rt
            clear b9
            simp [results, Try.f59, go_sem, e0, e1, e2, e3]
          · have HE := Lib.hid e
            clear e
            go_enter Try.func59, Try.ntmps59
            go_upto_region 1 with (fail)
            generalize (w.alloc (.cells #[.slice A n c, .int .i64 ms, .int .i64 wr, .slice B m d] 71)).alloc (.cells #[.slice none 0 0, .int .i64 0, .int .i64 0, .slice none 0 0] 71) = w1 at XB XR F1 ⊢
            clear hbx hbr
            have XBo := XB.out
            have x0 := XBo.cell 0
            have x1 := XBo.cell 1
            have x2 := XBo.cell 2
            have x3 := XBo.cell 3
            have xf0 := XBo.frozen 0
            have xf1 := XBo.frozen 1
            have xf2 := XBo.frozen 2
            have xf3 := XBo.frozen 3
            simp only [List.getElem?_toArray, List.getElem?_cons_zero, List.getElem?_cons_succ] at x0 x1 x2 x3
            clear XBo
            have W1 := Lib.hid (HT.out w1 F1.out)
            go_wp2_with fail
            refine W1.out.mono ?_
            rintro e w2 ⟨rfl, hf⟩
            have F2 := Lib.hid (F1.out.then_no hf)
            have XB2 := Lib.hid (XB.out.fr hf (fun h => h))
            have XR2 := Lib.hid (XR.out.fr hf (fun h => h))
            clear hf x0 x1 x2 x3 xf0 xf1 xf2 xf3
            have XBo := XB2.out
            have x0 := XBo.cell 0
            have x1 := XBo.cell 1
            have x2 := XBo.cell 2
            have x3 := XBo.cell 3
            have xf0 := XBo.frozen 0
            have xf1 := XBo.frozen 1
            have xf2 := XBo.frozen 2
            have xf3 := XBo.frozen 3
            simp only [List.getElem?_toArray, List.getElem?_cons_zero, List.getElem?_cons_succ] at x0 x1 x2 x3
            clear XBo
            have hl2 := (H.out.no F2.out).l
            rw [← HN.out] at hl2
            have nw := Sls.sl_news (k := 2) (by decide) hl2 (enc := encM) (fun _ _ => rfl) (fun _ _ h => h)
            have NW := Lib.hid nw
            have HFL := Lib.hid (show (s.L.flatMap encM).length = n * 2 by rw [fm2, ← HN.out])
            clear hl2 nw
            go_upto_region 11 with (at_builtin; go_loud (refine wp_app (B := A) (m := n) (c := c) (news := s.L.flatMap encM) rfl (.tmp 29) (.tmp 31) 69 rfl 122 (.agg #[.int .i64 0, .int .i64 0]) 2 16 Try.underlying69 infoRM rfl (by decide) (.slice none 0 0) 0 [] rfl (World.ownsRow_nil _ _ _ _) rfl HFL.out NW.out (encM_one _) (by omega) (by unfold maxLen; omega) ?_; intro v3 w3 p1 p2 p3; have P1 := Lib.hid p1; have P2 := Lib.hid p2; have P3 := Lib.hid p3; clear p1 p2 p3))
            clear x0 x1 x2 x3 xf0 xf1 xf2 xf3
            have P1o := P1.out
            simp only [Nat.zero_add, List.nil_append] at P1o
            obtain ⟨A3, c3, rfl⟩ := own_form P1o
            have P1 := Lib.hid P1o
            clear P1o
            have hnn : Fr No w2 w3 := P2.out.mono fun b hb _ => by cases hb
            have F3 := Lib.hid (F2.out.then_no hnn)
            have XB3 := Lib.hid (XB2.out.fr hnn (fun h => h))
            have XR3 := Lib.hid (XR2.out.fr hnn (fun h => h))
            have HOF := Lib.hid (show ∀ k, Of (.slice A3 n c3) k → ¬ (k = bx ∨ k = br) ∧ New w2 w3 k from fun k hk => by
              rcases P3.out k hk with g | g
              · cases g
              · have := XB2.out.lt; have := XR2.out.lt; have := g.1
                exact ⟨by omega, g⟩)
            clear hnn
            have XBo := XB3.out
            have x0 := XBo.cell 0
            have x1 := XBo.cell 1
            have x2 := XBo.cell 2
            have x3 := XBo.cell 3
            have xf0 := XBo.frozen 0
            have xf1 := XBo.frozen 1
            have xf2 := XBo.frozen 2
            have xf3 := XBo.frozen 3
            simp only [List.getElem?_toArray, List.getElem?_cons_zero, List.getElem?_cons_succ] at x0 x1 x2 x3
            clear XBo
            go_upto_region 12 with (at_builtin; go_loud (refine wp_push rfl (.tmp 33) (.tmp 37) 69 rfl 122 (.agg #[.int .i64 0, .int .i64 0]) 2 16 Try.underlying69 infoRM rfl (by decide) (.slice A3 n c3) _ _ rfl P1.out #[.int .i64 id, .int .i64 level] rfl rfl (by intro u hu; simp at hu; rcases hu with rfl | rfl <;> rfl) (by omega) (by unfold maxLen; omega) ?_; intro g4 cap4 w4 q1 q2 q3; have Q1 := Lib.hid q1; have Q2 := Lib.hid q2; have Q3 := Lib.hid q3; have b4 := XB3.out.fr q2 (fun e => (HOF.out bx e).1 (.inl rfl)); have d0 := b4.cell 0; have d1 := b4.frozen 0; simp only [List.getElem?_toArray, List.getElem?_cons_zero] at d0; clear q1 q2 q3 b4))
            clear x0 x1 x2 x3 xf0 xf1 xf2 xf3
            clear d0 d1
            have hgn : New w2 w4 g4 := by
              rcases Q3.out with g | g
              · have k := (HOF.out g4 g).2
                exact ⟨k.1, Nat.lt_of_lt_of_le k.2 Q2.out.size⟩
              · exact ⟨Nat.le_trans (by have := P2.out.size; omega) g.1, g.2⟩
            have hbx2 := XB2.out.lt
            have hbr2 := XR2.out.lt
            have hof2 := HOF.out
            have f24 : Fr No w2 w4 := (show Fr No w2 w3 from P2.out.mono fun b hb _ => by cases hb).trans Q2.out (fun b hb hl => by have := (HOF.out b hb).2.1; omega)
            have XB4 := XB3.out.fr Q2.out (fun e => (HOF.out bx e).1 (.inl rfl))
            have XR4 := XR3.out.fr Q2.out (fun e => (HOF.out br e).1 (.inr rfl))
            have f45 : Fr (fun k => k = bx) w4 (w4.setCell ⟨bx, 0, none⟩ (.slice (some ⟨g4, 0, none⟩) (n + 1) cap4)) := Fr.setCell (F := fun k => k = bx) (Fr.refl _ _) (p := ⟨bx, 0, none⟩) (.inl rfl) _
            have XB5 := XB4.put 0 (.slice (some ⟨g4, 0, none⟩) (n + 1) cap4)
            simp only [List.setIfInBounds_toArray, List.set_cons_zero, List.set_cons_succ] at XB5
            have hq4 : w4.ownsRow 0 122 2 (.slice (some ⟨g4, 0, none⟩) (n + 1) cap4) (s.L ++ [(id, level)]).length ((s.L ++ [(id, level)]).flatMap encM) := by
              have p1 := Q1.out
              have e1 : (s.L ++ [(id, level)]).length = n + 1 := by simp; exact HN.out.symm
              have e2 : (s.L ++ [(id, level)]).flatMap encM = s.L.flatMap encM ++ [.int .i64 id, .int .i64 level] := by simp [encM]
              rw [e1, e2]
              exact p1
            have hgx : g4 ≠ bx ∧ g4 ≠ br := by have := hgn.1; omega
            have hRS4 : RS w4 (fun k => S k ∨ New w2 w4 k) (.slice (some ⟨g4, 0, none⟩) (n + 1) cap4) (.slice B m d) (comeS s id level) := by
              have hq := ((H.out.no F2.out).no f24).q
              rw [← HM.out] at hq
              exact ⟨own_rm2 hq4 (fun k hk => .inr (by rw [of_some hk]; exact hgn)), ints_go hq (Kept.refl _ _) (fun _ h => .inl h), fun k hk => hk.elim (fun g => Nat.lt_of_lt_of_le (H.out.lt k g) (F2.out.then_no f24).size) (fun g => g.2)⟩
            have hRS5 := hRS4.fr f45 (fun k hk e => by
              have e : k = bx := e
              rcases hk with g | g
              · have := H.out.lt k g; have := HBX.out; omega
              · have := g.1; omega)
            have HSB := Lib.hid (show ∀ k, (S k ∨ New w2 w4 k) → k ≠ br ∧ k ≠ bx ∧ (S k ∨ New w (w4.setCell ⟨bx, 0, none⟩ (.slice (some ⟨g4, 0, none⟩) (n + 1) cap4)) k) from fun k hk => by
              have hz := F2.out.size
              have hz5 := f45.size
              rcases hk with g | g
              · exact ⟨by have := H.out.lt k g; have := HBL.out; omega, by have := H.out.lt k g; have := HBX.out; omega, .inl g⟩
              · exact ⟨by have := g.1; omega, by have := g.1; omega, .inr ⟨by have := g.1; omega, by have := g.2; omega⟩⟩)
            have HRS5 := Lib.hid hRS5
            have F5 := Lib.hid ((F2.out.then_no f24).trans f45 (fun k hk hl => by have hk : k = bx := hk; have := HBX.out; omega))
            have hbr3 : br ≠ bx := by have := HBR.out; omega
            have XR5 := Lib.hid (XR4.fr f45 hbr3)
            have XB5 := Lib.hid XB5
            clear XR4 XB4 hRS4 hRS5 hq4 hof2 hgx hgn f24 f45 hbx2 hbr2 hbr3
            generalize w4.setCell ⟨bx, 0, none⟩ (.slice (some ⟨g4, 0, none⟩) (n + 1) cap4) = w5 at HSB HRS5 F5 XR5 XB5 ⊢
            have FL := Lib.hid ((Fr.refl No w5).alloc (.cells #[.int .i64 id, .int .i64 1] 79))
            have XBl := Lib.hid (XB5.out.alloc (.cells #[.int .i64 id, .int .i64 1] 79))
            have XRl := Lib.hid (XR5.out.alloc (.cells #[.int .i64 id, .int .i64 1] 79))
            have XBo := XB5.out
            have x0 := XBo.cell 0
            have x1 := XBo.cell 1
            have x2 := XBo.cell 2
            have x3 := XBo.cell 3
            have xf0 := XBo.frozen 0
            have xf1 := XBo.frozen 1
            have xf2 := XBo.frozen 2
            have xf3 := XBo.frozen 3
            simp only [List.getElem?_toArray, List.getElem?_cons_zero, List.getElem?_cons_succ] at x0 x1 x2 x3
            have XRo := XR5.out
            have r0 := XRo.cell 0
            have r1 := XRo.cell 1
            have r2 := XRo.cell 2
            have r3 := XRo.cell 3
            have rf0 := XRo.frozen 0
            have rf1 := XRo.frozen 1
            have rf2 := XRo.frozen 2
            have rf3 := XRo.frozen 3
            simp only [List.getElem?_toArray, List.getElem?_cons_zero, List.getElem?_cons_succ] at r0 r1 r2 r3
            clear XBo XRo
            have hrlt := XR5.out.lt
            have hsl := ShR.one (w := w5) (w1 := w5) (F' := fun k => k = br) (id, 1) (fun k hk => by have hk : k = br := hk; omega) (Nat.le_refl _)
            have HSL := Lib.hid hsl
            have HRS := HRS5
            clear hsl
            go_wp2_with fail
            have rt := rt_of (br := br) (c := 0) (l := [(id, 1)]) (F5.out.then_no FL.out) HBL.out (HRS.out.no FL.out) (fun k hk => ⟨(HSB.out k hk).2.2.elim .inl (fun g => .inr ⟨g.1, Nat.lt_of_lt_of_le g.2 FL.out.size⟩), (HSB.out k hk).1⟩) H.out.lt HSL.out.own (fun k hk => ⟨⟨Nat.le_trans F5.out.size (HSL.out.new k hk).1, (HSL.out.new k hk).2⟩, fun e => HSL.out.off k hk e⟩) (.slice (some ⟨g4, 0, none⟩) (n + 1) cap4) (.int .i64 ms) (.int .i64 wr) (.slice B m d)
            rw [show agS (.slice (some ⟨g4, 0, none⟩) (n + 1) cap4) (.slice B m d) (comeS s id level) = .agg #[.slice (some ⟨g4, 0, none⟩) (n + 1) cap4, .int .i64 ms, .int .i64 wr, .slice B m d] by rw [HMS.out, HWR.out]; rfl] at rt
            rw [HE.out]
            have b9 := (((XRl.out.put 0 (.slice (some ⟨g4, 0, none⟩) (n + 1) cap4)).put 1 (.int .i64 ms)).put 2 (.int .i64 wr)).put 3 (.slice B m d)
            simp only [List.setIfInBounds_toArray, List.set_cons_zero, List.set_cons_succ] at b9
            simp (config := {zeta := false}) only [World.setCell_alloc_past, (show ∀ (w : World) (a : Addr) (v : Value), (w.setCell a v).heap.size = w.heap.size from fun w a v => by simp [World.setCell]), hrlt] at rt b9
            have e0 := b9.cell 0
            have e1 := b9.cell 1
            have e2 := b9.cell 2
            have e3 := b9.cell 3
            simp only [List.getElem?_toArray, List.getElem?_cons_zero, List.getElem?_cons_succ] at e0 e1 e2 e3
            refine bodyPost_ret (v := .tuple #[.agg #[.slice (some ⟨g4, 0, none⟩) (n + 1) cap4, .int .i64 ms, .int .i64 wr, .slice B m d], .slice (some ⟨w5.heap.size, 0, none⟩) 1 1, .int .i64 0]) ?_ rfl rt
            clear b9
            simp [results, Try.f59, go_sem, e0, e1, e2, e3]
          · have HE := Lib.hid e
            clear e
            go_enter Try.func59, Try.ntmps59
            go_upto_region 1 with (fail)
            generalize (w.alloc (.cells #[.slice A n c, .int .i64 ms, .int .i64 wr, .slice B m d] 71)).alloc (.cells #[.slice none 0 0, .int .i64 0, .int .i64 0, .slice none 0 0] 71) = w1 at XB XR F1 ⊢
            clear hbx hbr
            have XBo := XB.out
            have x0 := XBo.cell 0
            have x1 := XBo.cell 1
            have x2 := XBo.cell 2
            have x3 := XBo.cell 3
            have xf0 := XBo.frozen 0
            have xf1 := XBo.frozen 1
            have xf2 := XBo.frozen 2
            have xf3 := XBo.frozen 3
            simp only [List.getElem?_toArray, List.getElem?_cons_zero, List.getElem?_cons_succ] at x0 x1 x2 x3
            clear XBo
            have W1 := Lib.hid (HT.out w1 F1.out)
            go_wp2_with fail
            refine W1.out.mono ?_
            rintro e w2 ⟨rfl, hf⟩
            have F2 := Lib.hid (F1.out.then_no hf)
            have XB2 := Lib.hid (XB.out.fr hf (fun h => h))
            have XR2 := Lib.hid (XR.out.fr hf (fun h => h))
            clear hf x0 x1 x2 x3 xf0 xf1 xf2 xf3
            have XBo := XB2.out
            have x0 := XBo.cell 0
            have x1 := XBo.cell 1
            have x2 := XBo.cell 2
            have x3 := XBo.cell 3
            have xf0 := XBo.frozen 0
            have xf1 := XBo.frozen 1
            have xf2 := XBo.frozen 2
            have xf3 := XBo.frozen 3
            simp only [List.getElem?_toArray, List.getElem?_cons_zero, List.getElem?_cons_succ] at x0 x1 x2 x3
            clear XBo
            have hl2 := (H.out.no F2.out).l
            rw [← HN.out] at hl2
            have nw := Sls.sl_news (k := 2) (by decide) hl2 (enc := encM) (fun _ _ => rfl) (fun _ _ h => h)
            have NW := Lib.hid nw
            have HFL := Lib.hid (show (s.L.flatMap encM).length = n * 2 by rw [fm2, ← HN.out])
            clear hl2 nw
            go_upto_region 11 with (at_builtin; go_loud (refine wp_app (B := A) (m := n) (c := c) (news := s.L.flatMap encM) rfl (.tmp 29) (.tmp 31) 69 rfl 122 (.agg #[.int .i64 0, .int .i64 0]) 2 16 Try.underlying69 infoRM rfl (by decide) (.slice none 0 0) 0 [] rfl (World.ownsRow_nil _ _ _ _) rfl HFL.out NW.out (encM_one _) (by omega) (by unfold maxLen; omega) ?_; intro v3 w3 p1 p2 p3; have P1 := Lib.hid p1; have P2 := Lib.hid p2; have P3 := Lib.hid p3; clear p1 p2 p3))
            clear x0 x1 x2 x3 xf0 xf1 xf2 xf3
            have P1o := P1.out
            simp only [Nat.zero_add, List.nil_append] at P1o
            obtain ⟨A3, c3, rfl⟩ := own_form P1o
            have P1 := Lib.hid P1o
            clear P1o
            have hnn : Fr No w2 w3 := P2.out.mono fun b hb _ => by cases hb
            have F3 := Lib.hid (F2.out.then_no hnn)
            have XB3 := Lib.hid (XB2.out.fr hnn (fun h => h))
            have XR3 := Lib.hid (XR2.out.fr hnn (fun h => h))
            have HOF := Lib.hid (show ∀ k, Of (.slice A3 n c3) k → ¬ (k = bx ∨ k = br) ∧ New w2 w3 k from fun k hk => by
              rcases P3.out k hk with g | g
              · cases g
              · have := XB2.out.lt; have := XR2.out.lt; have := g.1
                exact ⟨by omega, g⟩)
            clear hnn
            have XBo := XB3.out
            have x0 := XBo.cell 0
            have x1 := XBo.cell 1
            have x2 := XBo.cell 2
            have x3 := XBo.cell 3
            have xf0 := XBo.frozen 0
            have xf1 := XBo.frozen 1
            have xf2 := XBo.frozen 2
            have xf3 := XBo.frozen 3
            simp only [List.getElem?_toArray, List.getElem?_cons_zero, List.getElem?_cons_succ] at x0 x1 x2 x3
            clear XBo
            go_upto_region 12 with (at_builtin; go_loud (refine wp_push rfl (.tmp 33) (.tmp 37) 69 rfl 122 (.agg #[.int .i64 0, .int .i64 0]) 2 16 Try.underlying69 infoRM rfl (by decide) (.slice A3 n c3) _ _ rfl P1.out #[.int .i64 id, .int .i64 level] rfl rfl (by intro u hu; simp at hu; rcases hu with rfl | rfl <;> rfl) (by omega) (by unfold maxLen; omega) ?_; intro g4 cap4 w4 q1 q2 q3; have Q1 := Lib.hid q1; have Q2 := Lib.hid q2; have Q3 := Lib.hid q3; have b4 := XB3.out.fr q2 (fun e => (HOF.out bx e).1 (.inl rfl)); have d0 := b4.cell 0; have d1 := b4.frozen 0; simp only [List.getElem?_toArray, List.getElem?_cons_zero] at d0; clear q1 q2 q3 b4))
            clear x0 x1 x2 x3 xf0 xf1 xf2 xf3
            clear d0 d1
            have hgn : New w2 w4 g4 := by
              rcases Q3.out with g | g
              · have k := (HOF.out g4 g).2
                exact ⟨k.1, Nat.lt_of_lt_of_le k.2 Q2.out.size⟩
              · exact ⟨Nat.le_trans (by have := P2.out.size; omega) g.1, g.2⟩
            have hbx2 := XB2.out.lt
            have hbr2 := XR2.out.lt
            have hof2 := HOF.out
            have f24 : Fr No w2 w4 := (show Fr No w2 w3 from P2.out.mono fun b hb _ => by cases hb).trans Q2.out (fun b hb hl => by have := (HOF.out b hb).2.1; omega)
            have XB4 := XB3.out.fr Q2.out (fun e => (HOF.out bx e).1 (.inl rfl))
            have XR4 := XR3.out.fr Q2.out (fun e => (HOF.out br e).1 (.inr rfl))
            have f45 : Fr (fun k => k = bx) w4 (w4.setCell ⟨bx, 0, none⟩ (.slice (some ⟨g4, 0, none⟩) (n + 1) cap4)) := Fr.setCell (F := fun k => k = bx) (Fr.refl _ _) (p := ⟨bx, 0, none⟩) (.inl rfl) _
            have XB5 := XB4.put 0 (.slice (some ⟨g4, 0, none⟩) (n + 1) cap4)
            simp only [List.setIfInBounds_toArray, List.set_cons_zero, List.set_cons_succ] at XB5
            have hq4 : w4.ownsRow 0 122 2 (.slice (some ⟨g4, 0, none⟩) (n + 1) cap4) (s.L ++ [(id, level)]).length ((s.L ++ [(id, level)]).flatMap encM) := by
              have p1 := Q1.out
              have e1 : (s.L ++ [(id, level)]).length = n + 1 := by simp; exact HN.out.symm
              have e2 : (s.L ++ [(id, level)]).flatMap encM = s.L.flatMap encM ++ [.int .i64 id, .int .i64 level] := by simp [encM]
              rw [e1, e2]
              exact p1
            have hgx : g4 ≠ bx ∧ g4 ≠ br := by have := hgn.1; omega
            have hRS4 : RS w4 (fun k => S k ∨ New w2 w4 k) (.slice (some ⟨g4, 0, none⟩) (n + 1) cap4) (.slice B m d) (comeS s id level) := by
              have hq := ((H.out.no F2.out).no f24).q
              rw [← HM.out] at hq
              exact ⟨own_rm2 hq4 (fun k hk => .inr (by rw [of_some hk]; exact hgn)), ints_go hq (Kept.refl _ _) (fun _ h => .inl h), fun k hk => hk.elim (fun g => Nat.lt_of_lt_of_le (H.out.lt k g) (F2.out.then_no f24).size) (fun g => g.2)⟩
            have hRS5 := hRS4.fr f45 (fun k hk e => by
              have e : k = bx := e
              rcases hk with g | g
              · have := H.out.lt k g; have := HBX.out; omega
              · have := g.1; omega)
            have HSB := Lib.hid (show ∀ k, (S k ∨ New w2 w4 k) → k ≠ br ∧ k ≠ bx ∧ (S k ∨ New w (w4.setCell ⟨bx, 0, none⟩ (.slice (some ⟨g4, 0, none⟩) (n + 1) cap4)) k) from fun k hk => by
              have hz := F2.out.size
              have hz5 := f45.size
              rcases hk with g | g
              · exact ⟨by have := H.out.lt k g; have := HBL.out; omega, by have := H.out.lt k g; have := HBX.out; omega, .inl g⟩
              · exact ⟨by have := g.1; omega, by have := g.1; omega, .inr ⟨by have := g.1; omega, by have := g.2; omega⟩⟩)
            have HRS5 := Lib.hid hRS5
            have F5 := Lib.hid ((F2.out.then_no f24).trans f45 (fun k hk hl => by have hk : k = bx := hk; have := HBX.out; omega))
            have hbr3 : br ≠ bx := by have := HBR.out; omega
            have XR5 := Lib.hid (XR4.fr f45 hbr3)
            have XB5 := Lib.hid XB5
            clear XR4 XB4 hRS4 hRS5 hq4 hof2 hgx hgn f24 f45 hbx2 hbr2 hbr3
            generalize w4.setCell ⟨bx, 0, none⟩ (.slice (some ⟨g4, 0, none⟩) (n + 1) cap4) = w5 at HSB HRS5 F5 XR5 XB5 ⊢
            have FL := Lib.hid ((Fr.refl No w5).alloc (.cells #[.int .i64 id, .int .i64 1] 79))
            have XBl := Lib.hid (XB5.out.alloc (.cells #[.int .i64 id, .int .i64 1] 79))
            have XRl := Lib.hid (XR5.out.alloc (.cells #[.int .i64 id, .int .i64 1] 79))
            have XBo := XB5.out
            have x0 := XBo.cell 0
            have x1 := XBo.cell 1
            have x2 := XBo.cell 2
            have x3 := XBo.cell 3
            have xf0 := XBo.frozen 0
            have xf1 := XBo.frozen 1
            have xf2 := XBo.frozen 2
            have xf3 := XBo.frozen 3
            simp only [List.getElem?_toArray, List.getElem?_cons_zero, List.getElem?_cons_succ] at x0 x1 x2 x3
            have XRo := XR5.out
            have r0 := XRo.cell 0
            have r1 := XRo.cell 1
            have r2 := XRo.cell 2
            have r3 := XRo.cell 3
            have rf0 := XRo.frozen 0
            have rf1 := XRo.frozen 1
            have rf2 := XRo.frozen 2
            have rf3 := XRo.frozen 3
            simp only [List.getElem?_toArray, List.getElem?_cons_zero, List.getElem?_cons_succ] at r0 r1 r2 r3
            clear XBo XRo
            have hrlt := XR5.out.lt
            have hsl := ShR.one (w := w5) (w1 := w5) (F' := fun k => k = br) (id, 1) (fun k hk => by have hk : k = br := hk; omega) (Nat.le_refl _)
            have HSL := Lib.hid hsl
            have HRS := HRS5
            clear hsl
            go_wp2_with fail
            have rt := rt_of (br := br) (c := 0) (l := [(id, 1)]) (F5.out.then_no FL.out) HBL.out (HRS.out.no FL.out) (fun k hk => ⟨(HSB.out k hk).2.2.elim .inl (fun g => .inr ⟨g.1, Nat.lt_of_lt_of_le g.2 FL.out.size⟩), (HSB.out k hk).1⟩) H.out.lt HSL.out.own (fun k hk => ⟨⟨Nat.le_trans F5.out.size (HSL.out.new k hk).1, (HSL.out.new k hk).2⟩, fun e => HSL.out.off k hk e⟩) (.slice (some ⟨g4, 0, none⟩) (n + 1) cap4) (.int .i64 ms) (.int .i64 wr) (.slice B m d)
            rw [show agS (.slice (some ⟨g4, 0, none⟩) (n + 1) cap4) (.slice B m d) (comeS s id level) = .agg #[.slice (some ⟨g4, 0, none⟩) (n + 1) cap4, .int .i64 ms, .int .i64 wr, .slice B m d] by rw [HMS.out, HWR.out]; rfl] at rt
            rw [HE.out]
            have b9 := (((XRl.out.put 0 (.slice (some ⟨g4, 0, none⟩) (n + 1) cap4)).put 1 (.int .i64 ms)).put 2 (.int .i64 wr)).put 3 (.slice B m d)
            simp only [List.setIfInBounds_toArray, List.set_cons_zero, List.set_cons_succ] at b9
            simp (config := {zeta := false}) only [World.setCell_alloc_past, (show ∀ (w : World) (a : Addr) (v : Value), (w.setCell a v).heap.size = w.heap.size from fun w a v => by simp [World.setCell]), hrlt] at rt b9
            have e0 := b9.cell 0
            have e1 := b9.cell 1
            have e2 := b9.cell 2
            have e3 := b9.cell 3
            simp only [List.getElem?_toArray, List.getElem?_cons_zero, List.getElem?_cons_succ] at e0 e1 e2 e3
            refine bodyPost_ret (v := .tuple #[.agg #[.slice (some ⟨g4, 0, none⟩) (n + 1) cap4, .int .i64 ms, .int .i64 wr, .slice B m d], .slice (some ⟨w5.heap.size, 0, none⟩) 1 1, .int .i64 0]) ?_ rfl rt
            clear b9
            simp [results, Try.f59, go_sem, e0, e1, e2, e3]
          · have HE := Lib.hid e
            clear e
            go_enter Try.func59, Try.ntmps59
            go_upto_region 1 with (fail)
            generalize (w.alloc (.cells #[.slice A n c, .int .i64 ms, .int .i64 wr, .slice B m d] 71)).alloc (.cells #[.slice none 0 0, .int .i64 0, .int .i64 0, .slice none 0 0] 71) = w1 at XB XR F1 ⊢
            clear hbx hbr
            have XBo := XB.out
            have x0 := XBo.cell 0
            have x1 := XBo.cell 1
            have x2 := XBo.cell 2
            have x3 := XBo.cell 3
            have xf0 := XBo.frozen 0
            have xf1 := XBo.frozen 1
            have xf2 := XBo.frozen 2
            have xf3 := XBo.frozen 3
            simp only [List.getElem?_toArray, List.getElem?_cons_zero, List.getElem?_cons_succ] at x0 x1 x2 x3
            clear XBo
            have W1 := Lib.hid (HT.out w1 F1.out)
            go_wp2_with fail
            refine W1.out.mono ?_
            rintro e w2 ⟨rfl, hf⟩
            have F2 := Lib.hid (F1.out.then_no hf)
            have XB2 := Lib.hid (XB.out.fr hf (fun h => h))
            have XR2 := Lib.hid (XR.out.fr hf (fun h => h))
            clear hf x0 x1 x2 x3 xf0 xf1 xf2 xf3
            have XBo := XB2.out
            have x0 := XBo.cell 0
            have x1 := XBo.cell 1
            have x2 := XBo.cell 2
            have x3 := XBo.cell 3
            have xf0 := XBo.frozen 0
            have xf1 := XBo.frozen 1
            have xf2 := XBo.frozen 2
            have xf3 := XBo.frozen 3
            simp only [List.getElem?_toArray, List.getElem?_cons_zero, List.getElem?_cons_succ] at x0 x1 x2 x3
            clear XBo
            have hl2 := (H.out.no F2.out).l
            rw [← HN.out] at hl2
            have nw := Sls.sl_news (k := 2) (by decide) hl2 (enc := encM) (fun _ _ => rfl) (fun _ _ h => h)
            have NW := Lib.hid nw
            have HFL := Lib.hid (show (s.L.flatMap encM).length = n * 2 by rw [fm2, ← HN.out])
            clear hl2 nw
            go_upto_region 11 with (at_builtin; go_loud (refine wp_app (B := A) (m := n) (c := c) (news := s.L.flatMap encM) rfl (.tmp 29) (.tmp 31) 69 rfl 122 (.agg #[.int .i64 0, .int .i64 0]) 2 16 Try.underlying69 infoRM rfl (by decide) (.slice none 0 0) 0 [] rfl (World.ownsRow_nil _ _ _ _) rfl HFL.out NW.out (encM_one _) (by omega) (by unfold maxLen; omega) ?_; intro v3 w3 p1 p2 p3; have P1 := Lib.hid p1; have P2 := Lib.hid p2; have P3 := Lib.hid p3; clear p1 p2 p3))
            clear x0 x1 x2 x3 xf0 xf1 xf2 xf3
            have P1o := P1.out
            simp only [Nat.zero_add, List.nil_append] at P1o
            obtain ⟨A3, c3, rfl⟩ := own_form P1o
            have P1 := Lib.hid P1o
            clear P1o
            have hnn : Fr No w2 w3 := P2.out.mono fun b hb _ => by cases hb
            have F3 := Lib.hid (F2.out.then_no hnn)
            have XB3 := Lib.hid (XB2.out.fr hnn (fun h => h))
            have XR3 := Lib.hid (XR2.out.fr hnn (fun h => h))
            have HOF := Lib.hid (show ∀ k, Of (.slice A3 n c3) k → ¬ (k = bx ∨ k = br) ∧ New w2 w3 k from fun k hk => by
              rcases P3.out k hk with g | g
              · cases g
              · have := XB2.out.lt; have := XR2.out.lt; have := g.1
                exact ⟨by omega, g⟩)
            clear hnn
            have XBo := XB3.out
            have x0 := XBo.cell 0
            have x1 := XBo.cell 1
            have x2 := XBo.cell 2
            have x3 := XBo.cell 3
            have xf0 := XBo.frozen 0
            have xf1 := XBo.frozen 1
            have xf2 := XBo.frozen 2
            have xf3 := XBo.frozen 3
            simp only [List.getElem?_toArray, List.getElem?_cons_zero, List.getElem?_cons_succ] at x0 x1 x2 x3
            clear XBo
            go_upto_region 12 with (at_builtin; go_loud (refine wp_push rfl (.tmp 33) (.tmp 37) 69 rfl 122 (.agg #[.int .i64 0, .int .i64 0]) 2 16 Try.underlying69 infoRM rfl (by decide) (.slice A3 n c3) _ _ rfl P1.out #[.int .i64 id, .int .i64 level] rfl rfl (by intro u hu; simp at hu; rcases hu with rfl | rfl <;> rfl) (by omega) (by unfold maxLen; omega) ?_; intro g4 cap4 w4 q1 q2 q3; have Q1 := Lib.hid q1; have Q2 := Lib.hid q2; have Q3 := Lib.hid q3; have b4 := XB3.out.fr q2 (fun e => (HOF.out bx e).1 (.inl rfl)); have d0 := b4.cell 0; have d1 := b4.frozen 0; simp only [List.getElem?_toArray, List.getElem?_cons_zero] at d0; clear q1 q2 q3 b4))
            clear x0 x1 x2 x3 xf0 xf1 xf2 xf3
            clear d0 d1
            have hgn : New w2 w4 g4 := by
              rcases Q3.out with g | g
              · have k := (HOF.out g4 g).2
                exact ⟨k.1, Nat.lt_of_lt_of_le k.2 Q2.out.size⟩
              · exact ⟨Nat.le_trans (by have := P2.out.size; omega) g.1, g.2⟩
            have hbx2 := XB2.out.lt
            have hbr2 := XR2.out.lt
            have hof2 := HOF.out
            have f24 : Fr No w2 w4 := (show Fr No w2 w3 from P2.out.mono fun b hb _ => by cases hb).trans Q2.out (fun b hb hl => by have := (HOF.out b hb).2.1; omega)
            have XB4 := XB3.out.fr Q2.out (fun e => (HOF.out bx e).1 (.inl rfl))
            have XR4 := XR3.out.fr Q2.out (fun e => (HOF.out br e).1 (.inr rfl))
            have f45 : Fr (fun k => k = bx) w4 (w4.setCell ⟨bx, 0, none⟩ (.slice (some ⟨g4, 0, none⟩) (n + 1) cap4)) := Fr.setCell (F := fun k => k = bx) (Fr.refl _ _) (p := ⟨bx, 0, none⟩) (.inl rfl) _
            have XB5 := XB4.put 0 (.slice (some ⟨g4, 0, none⟩) (n + 1) cap4)
            simp only [List.setIfInBounds_toArray, List.set_cons_zero, List.set_cons_succ] at XB5
            have hq4 : w4.ownsRow 0 122 2 (.slice (some ⟨g4, 0, none⟩) (n + 1) cap4) (s.L ++ [(id, level)]).length ((s.L ++ [(id, level)]).flatMap encM) := by
              have p1 := Q1.out
              have e1 : (s.L ++ [(id, level)]).length = n + 1 := by simp; exact HN.out.symm
              have e2 : (s.L ++ [(id, level)]).flatMap encM = s.L.flatMap encM ++ [.int .i64 id, .int .i64 level] := by simp [encM]
              rw [e1, e2]
              exact p1
            have hgx : g4 ≠ bx ∧ g4 ≠ br := by have := hgn.1; omega
            have hRS4 : RS w4 (fun k => S k ∨ New w2 w4 k) (.slice (some ⟨g4, 0, none⟩) (n + 1) cap4) (.slice B m d) (comeS s id level) := by
              have hq := ((H.out.no F2.out).no f24).q
              rw [← HM.out] at hq
              exact ⟨own_rm2 hq4 (fun k hk => .inr (by rw [of_some hk]; exact hgn)), ints_go hq (Kept.refl _ _) (fun _ h => .inl h), fun k hk => hk.elim (fun g => Nat.lt_of_lt_of_le (H.out.lt k g) (F2.out.then_no f24).size) (fun g => g.2)⟩
            have hRS5 := hRS4.fr f45 (fun k hk e => by
              have e : k = bx := e
              rcases hk with g | g
              · have := H.out.lt k g; have := HBX.out; omega
              · have := g.1; omega)
            have HSB := Lib.hid (show ∀ k, (S k ∨ New w2 w4 k) → k ≠ br ∧ k ≠ bx ∧ (S k ∨ New w (w4.setCell ⟨bx, 0, none⟩ (.slice (some ⟨g4, 0, none⟩) (n + 1) cap4)) k) from fun k hk => by
              have hz := F2.out.size
              have hz5 := f45.size
              rcases hk with g | g
              · exact ⟨by have := H.out.lt k g; have := HBL.out; omega, by have := H.out.lt k g; have := HBX.out; omega, .inl g⟩
              · exact ⟨by have := g.1; omega, by have := g.1; omega, .inr ⟨by have := g.1; omega, by have := g.2; omega⟩⟩)
            have HRS5 := Lib.hid hRS5
            have F5 := Lib.hid ((F2.out.then_no f24).trans f45 (fun k hk hl => by have hk : k = bx := hk; have := HBX.out; omega))
            have hbr3 : br ≠ bx := by have := HBR.out; omega
            have XR5 := Lib.hid (XR4.fr f45 hbr3)
            have XB5 := Lib.hid XB5
            clear XR4 XB4 hRS4 hRS5 hq4 hof2 hgx hgn f24 f45 hbx2 hbr2 hbr3
            generalize w4.setCell ⟨bx, 0, none⟩ (.slice (some ⟨g4, 0, none⟩) (n + 1) cap4) = w5 at HSB HRS5 F5 XR5 XB5 ⊢
            have FL := Lib.hid ((Fr.refl No w5).alloc (.cells #[.int .i64 id, .int .i64 1] 79))
            have XBl := Lib.hid (XB5.out.alloc (.cells #[.int .i64 id, .int .i64 1] 79))
            have XRl := Lib.hid (XR5.out.alloc (.cells #[.int .i64 id, .int .i64 1] 79))
            have XBo := XB5.out
            have x0 := XBo.cell 0
            have x1 := XBo.cell 1
            have x2 := XBo.cell 2
            have x3 := XBo.cell 3
            have xf0 := XBo.frozen 0
            have xf1 := XBo.frozen 1
            have xf2 := XBo.frozen 2
            have xf3 := XBo.frozen 3
            simp only [List.getElem?_toArray, List.getElem?_cons_zero, List.getElem?_cons_succ] at x0 x1 x2 x3
            have XRo := XR5.out
            have r0 := XRo.cell 0
            have r1 := XRo.cell 1
            have r2 := XRo.cell 2
            have r3 := XRo.cell 3
            have rf0 := XRo.frozen 0
            have rf1 := XRo.frozen 1
            have rf2 := XRo.frozen 2
            have rf3 := XRo.frozen 3
            simp only [List.getElem?_toArray, List.getElem?_cons_zero, List.getElem?_cons_succ] at r0 r1 r2 r3
            clear XBo XRo
            have hrlt := XR5.out.lt
            have hsl := ShR.one (w := w5) (w1 := w5) (F' := fun k => k = br) (id, 1) (fun k hk => by have hk : k = br := hk; omega) (Nat.le_refl _)
            have HSL := Lib.hid hsl
            have HRS := HRS5
            clear hsl
            go_wp2_with fail
            have rt := rt_of (br := br) (c := 0) (l := [(id, 1)]) (F5.out.then_no FL.out) HBL.out (HRS.out.no FL.out) (fun k hk => ⟨(HSB.out k hk).2.2.elim .inl (fun g => .inr ⟨g.1, Nat.lt_of_lt_of_le g.2 FL.out.size⟩), (HSB.out k hk).1⟩) H.out.lt HSL.out.own (fun k hk => ⟨⟨Nat.le_trans F5.out.size (HSL.out.new k hk).1, (HSL.out.new k hk).2⟩, fun e => HSL.out.off k hk e⟩) (.slice (some ⟨g4, 0, none⟩) (n + 1) cap4) (.int .i64 ms) (.int .i64 wr) (.slice B m d)
            rw [show agS (.slice (some ⟨g4, 0, none⟩) (n + 1) cap4) (.slice B m d) (comeS s id level) = .agg #[.slice (some ⟨g4, 0, none⟩) (n + 1) cap4, .int .i64 ms, .int .i64 wr, .slice B m d] by rw [HMS.out, HWR.out]; rfl] at rt
            rw [HE.out]
            have b9 := (((XRl.out.put 0 (.slice (some ⟨g4, 0, none⟩) (n + 1) cap4)).put 1 (.int .i64 ms)).put 2 (.int .i64 wr)).put 3 (.slice B m d)
            simp only [List.setIfInBounds_toArray, List.set_cons_zero, List.set_cons_succ] at b9
            simp (config := {zeta := false}) only [World.setCell_alloc_past, (show ∀ (w : World) (a : Addr) (v : Value), (w.setCell a v).heap.size = w.heap.size from fun w a v => by simp [World.setCell]), hrlt] at rt b9
            have e0 := b9.cell 0
            have e1 := b9.cell 1
            have e2 := b9.cell 2
            have e3 := b9.cell 3
            simp only [List.getElem?_toArray, List.getElem?_cons_zero, List.getElem?_cons_succ] at e0 e1 e2 e3
            refine bodyPost_ret (v := .tuple #[.agg #[.slice (some ⟨g4, 0, none⟩) (n + 1) cap4, .int .i64 ms, .int .i64 wr, .slice B m d], .slice (some ⟨w5.heap.size, 0, none⟩) 1 1, .int .i64 0]) ?_ rfl rt
            clear b9
            simp [results, Try.f59, go_sem, e0, e1, e2, e3]
end
end Seat
end Go.Proofs.Ytepnjmgacfjhiaa
