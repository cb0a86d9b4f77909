/- The reference of package answer: Read. Printed by gen_rdr.py. -/
import Derived.Test.YtmmdiccpifepfaaRdI
namespace Go.Proofs.Ytmmdiccpifepfaa
open Go.RowKit
set_option linter.unusedVariables false
set_option linter.unusedSimpArgs false
namespace Rd
open Ans Digit
set_option maxRecDepth 100000 in
set_option maxHeartbeats 4000000 in
theorem rread27_any (s : Str) (w : World) (hs : s.length ≤ 900000) : Calls Try.prog 33 #[.string ⟨s.toArray⟩] w (ReadPost w (readA s)) := by
  have D0 := Lib.hid (RAt.start w)
  go_enter Try.func33, Try.ntmps33
  go_wp2_with fail
  go_loopw [6] (fun i wr => ∃ (a : Nat) (num : Int) (L : List Str) (v : Value) (f j : Nat), i = .int .i64 a ∧ a ≤ s.length ∧ j ≤ a ∧ s.length < f + 1 + a ∧ Hid (j = L.length) ∧ Hid (∀ x ∈ L, x.length ≤ 1000000) ∧ Hid (readF (f + 1) s a num L = readA s) ∧ Hid (RAt w num L v wr)) (fun i _ => s.length - (intOf i).toNat)
  case atStart => exact ⟨0, 0, [], .slice none 0 0, s.length, 0, rfl, by omega, by omega, by omega, rfl, (fun x hx => by cases hx), rfl, D0.out⟩
  case round =>
    clear D0
    obtain ⟨a, num, L, v, f, j, rfl, hal, hja, hfa, HJ, HX, HF, D⟩ := hrel
    obtain ⟨A, c, hv⟩ := own_form D.out.g
    rw [← HJ.out] at hv
    subst hv
    have HL := fun w => rfind_any s a hal w (by omega)
    have hsz := D.out.res.lt
    have q0 := D.out.res.cell 0
    have q1 := D.out.res.cell 1
    have qf0 := D.out.res.frozen 0
    have qf1 := D.out.res.frozen 1
    have p0 := D.out.r.cell 0
    have p1 := D.out.r.cell 1
    have pf0 := D.out.r.frozen 0
    have pf1 := D.out.r.frozen 1
    simp at q0 q1 p0 p1
    have HD := Lib.hid (show (s.drop a).length = s.length - a from List.length_drop)
    cases hln : lineR (s.drop a) with
    | none =>
      have HV := Lib.hid (show readA s = ((0, []), 0, 13) by rw [← HF.out]; unfold readF; rw [hln])
      have hp : findI s a = -1 := by unfold findI; rw [hln]
      simp only [hp] at HL
      have HL := Lib.hid HL
      clear hln hp
      go_wp2_with fail
      refine (HL.out _).mono ?_
      rintro e w1 ⟨rfl, rfl⟩
      go_wp2_with fail
      try rw [Exit.noGoto_ret]
      have b4 := (D.out.res.put 0 (.int .i64 0)).put 1 (.slice none 0 0)
      have FF := Lib.hid ((D.out.fr.setCell (p := ⟨w.heap.size, 0, none⟩) (.inr (Nat.le_refl _)) (.int .i64 0)).setCell (p := ⟨w.heap.size, 1, none⟩) (.inr (Nat.le_refl _)) (.slice none 0 0))
      simp at b4
      have e0 := b4.cell 0
      have e1 := b4.cell 1
      simp only [List.getElem?_toArray, List.getElem?_cons_zero, List.getElem?_cons_succ] at e0 e1
      unfold ReadPost
      rw [HV.out]
      refine bodyPost_ret (v := .tuple #[.agg #[.int .i64 0, .slice none 0 0], .int .i64 0, .int .i64 13]) ?_ rfl ⟨.slice none 0 0, rfl, nil_sl, FF.out⟩
      clear q0 q1 qf0 qf1 p0 p1 pf0 pf1 b4
      simp [results, Try.f33, go_sem, e0, e1]
    | some t =>
      obtain ⟨e9, he9⟩ : ∃ e9, a + t.length = e9 := ⟨_, rfl⟩
      have hp : findI s a = (e9 : Int) := by unfold findI; rw [hln, ← he9]
      simp only [hp] at HL
      have HL := Lib.hid HL
      have htl : e9 + 2 ≤ s.length ∧ a ≤ e9 ∧ t.length = e9 - a := by
        obtain ⟨r, hr⟩ := line_some hln
        have h1 := congrArg List.length hr
        rw [HD.out] at h1
        simp at h1
        omega
      have HS := Lib.hid hln
      have HE9 := Lib.hid he9
      have HS3 : 4 ≤ t.length → Hid ((s.drop a).take (a + 3 - a) = t.take 3) := fun h4 => by
        obtain ⟨r, hr⟩ := line_some hln
        show _ = _
        rw [hr, show a + 3 - a = 3 by omega, List.take_append_of_le_length (by omega)]
      have HS4 : 4 ≤ t.length → Hid ((s.drop (a + 4)).take (e9 - (a + 4)) = t.drop 4) := fun h4 => by
        obtain ⟨r, hr⟩ := line_some hln
        show _ = _
        rw [← List.drop_drop, hr, List.drop_append_of_le_length h4, show e9 - (a + 4) = (t.drop 4).length by rw [List.length_drop]; omega, List.take_left]
      obtain ⟨hte, hta, htl⟩ := htl
      clear hln hp he9
      by_cases h4 : t.length < 4
      · have HV := Lib.hid (show readA s = ((0, []), 0, 3) by rw [← HF.out]; unfold readF; rw [HS.out]; simp only; rw [if_pos (.inl h4)])
        have hd4 : decide ((e9 : Int) - (a : Int) < 4) = true := decide_eq_true (by omega)
        clear HS3 HS4
        go_wp2_with fail
        refine (HL.out _).mono ?_
        rintro e w1 ⟨rfl, rfl⟩
        go_wp2_with fail
        try rw [Exit.noGoto_ret]
        have b4 := (D.out.res.put 0 (.int .i64 0)).put 1 (.slice none 0 0)
        have FF := Lib.hid ((D.out.fr.setCell (p := ⟨w.heap.size, 0, none⟩) (.inr (Nat.le_refl _)) (.int .i64 0)).setCell (p := ⟨w.heap.size, 1, none⟩) (.inr (Nat.le_refl _)) (.slice none 0 0))
        simp at b4
        have e0 := b4.cell 0
        have e1 := b4.cell 1
        simp only [List.getElem?_toArray, List.getElem?_cons_zero, List.getElem?_cons_succ] at e0 e1
        unfold ReadPost
        rw [HV.out]
        refine bodyPost_ret (v := .tuple #[.agg #[.int .i64 0, .slice none 0 0], .int .i64 0, .int .i64 3]) ?_ rfl ⟨.slice none 0 0, rfl, nil_sl, FF.out⟩
        clear q0 q1 qf0 qf1 p0 p1 pf0 pf1 b4
        simp [results, Try.f33, go_sem, e0, e1]
      · obtain ⟨k3, hk3⟩ : ∃ k3, t[3]'(by omega) = k3 := ⟨_, rfl⟩
        have hg3 : t[3]? = some k3 := by rw [List.getElem?_eq_getElem (by omega), hk3]
        have HS3 := HS3 (by omega)
        have HS4 := HS4 (by omega)
        have ha3 : a + 3 < s.length := by omega
        have hix : (⟨s.toArray⟩ : ByteArray)[a + 3]'(by simp [ByteArray.size]; omega) = k3 := by
          have e1 : s[a + 3]? = some k3 := by
            have h1 := HS3.out
            rw [show a + 3 - a = 3 by omega] at h1
            obtain ⟨r, hr⟩ := line_some HS.out
            have h2 : (s.drop a)[3]? = t[3]? := by rw [hr, List.getElem?_append_left (by omega)]
            rw [List.getElem?_drop, hg3] at h2
            exact h2
          rw [List.getElem?_eq_getElem ha3] at e1
          injection e1
        clear hk3
        have hd4 : decide ((e9 : Int) - (a : Int) < 4) = false := decide_eq_false (by omega)
        by_cases hk32 : k3 = 32
        · subst hk32
          have HC := Lib.hid (show ¬ (t.length < 4 ∨ (t[3]? ≠ some 32 ∧ t[3]? ≠ some 45)) from fun h => h.elim h4 (fun h => h.1 hg3))
          obtain ⟨x3, hx3⟩ : ∃ x, t.take 3 = x := ⟨_, rfl⟩
          obtain ⟨x4, hx4⟩ : ∃ x, t.drop 4 = x := ⟨_, rfl⟩
          have ht3 := fun W : World => slice_str (P := Try.prog) W 9 Try.underlying9 s a (a + 3) a (a + 3) rfl (by omega) (by omega) (by omega)
          have ht4 := fun W : World => slice_str (P := Try.prog) W 9 Try.underlying9 s (a + 4) e9 (a + 4) e9 (by omega) rfl (by omega) (by omega)
          rw [HS3.out, hx3] at ht3
          rw [HS4.out, hx4] at ht4
          have hx3l : x3.length ≤ 3 := by rw [← hx3, List.length_take]; omega
          have hx4l : x4.length ≤ 1000000 := by rw [← hx4, List.length_drop]; omega
          have HR := Lib.hid (fun w => Digit.rread_any x3 (by unfold maxLen; omega) w)
          have HUn := Lib.hid (fun w => Digit.runshow_any x4 w hx4l)
          have hul := uns_len x4
          obtain ⟨⟨n1, e1⟩, hr1⟩ : ∃ p, readR (t.take 3) = p := ⟨_, rfl⟩
          obtain ⟨⟨u, e2⟩, hr2⟩ : ∃ p, unsP (t.drop 4) = p := ⟨_, rfl⟩
          rw [hx3] at hr1
          rw [hx4] at hr2
          simp only [hr1] at HR
          simp only [hr2] at HUn hul
          have hr1 : readR (t.take 3) = (n1, e1) := by rw [hx3]; exact hr1
          have hr2 : unsP (t.drop 4) = (u, e2) := by rw [hx4]; exact hr2
          have HG := Lib.hid hg3
          have HR1 := Lib.hid hr1
          have HR2 := Lib.hid hr2
          clear hr1 hr2 hg3 hx3 hx4
          go_wp2_with fail
          refine (HL.out _).mono ?_
          rintro e w1 ⟨rfl, rfl⟩
          go_wp2_with fail
          refine (HR.out _).mono ?_
          rintro e w1 ⟨rfl, rfl⟩
          go_wp2_with fail
          refine (HUn.out _).mono ?_
          rintro e w1 ⟨rfl, hf⟩
          have D1 := Lib.hid (D.out.no hf)
          clear hf D q0 q1 qf0 qf1 p0 p1 pf0 pf1 ht3 ht4 HL HR HUn
          have D := D1
          clear D1
          have hsz := D.out.res.lt
          have q0 := D.out.res.cell 0
          have q1 := D.out.res.cell 1
          have qf0 := D.out.res.frozen 0
          have qf1 := D.out.res.frozen 1
          have p0 := D.out.r.cell 0
          have p1 := D.out.r.cell 1
          have pf0 := D.out.r.frozen 0
          have pf1 := D.out.r.frozen 1
          simp at q0 q1 p0 p1
          by_cases hc1 : e1 = 0
          · subst hc1
            by_cases hc2 : e2 = 0
            · subst hc2
              by_cases hn100 : n1 < 100
              · have HV := Lib.hid (show readA s = ((0, []), 0, 3) by rw [← HF.out]; unfold readF; rw [HS.out]; simp only; rw [if_neg HC.out, HR1.out, HR2.out, if_pos (.inr (.inr (.inl hn100)))])
                go_wp2_with fail
                try rw [Exit.noGoto_ret]
                have b4 := (D.out.res.put 0 (.int .i64 0)).put 1 (.slice none 0 0)
                have FF := Lib.hid ((D.out.fr.setCell (p := ⟨w.heap.size, 0, none⟩) (.inr (Nat.le_refl _)) (.int .i64 0)).setCell (p := ⟨w.heap.size, 1, none⟩) (.inr (Nat.le_refl _)) (.slice none 0 0))
                simp at b4
                have e0 := b4.cell 0
                have e1 := b4.cell 1
                simp only [List.getElem?_toArray, List.getElem?_cons_zero, List.getElem?_cons_succ] at e0 e1
                unfold ReadPost
                rw [HV.out]
                refine bodyPost_ret (v := .tuple #[.agg #[.int .i64 0, .slice none 0 0], .int .i64 0, .int .i64 3]) ?_ rfl ⟨.slice none 0 0, rfl, nil_sl, FF.out⟩
                clear q0 q1 qf0 qf1 p0 p1 pf0 pf1 b4
                simp [results, Try.f33, go_sem, e0, e1]
              · have hn100' : 100 ≤ n1 := by omega
                by_cases hnum : 0 < a ∧ n1 ≠ num
                · obtain ⟨ha0, hnn⟩ := hnum
                  have HV := Lib.hid (show readA s = ((0, []), 0, 3) by rw [← HF.out]; unfold readF; rw [HS.out]; simp only; rw [if_neg HC.out, HR1.out, HR2.out, if_pos (.inr (.inr (.inr ⟨ha0, hnn⟩)))])
                  have hb1 : (n1 != num) = true := by rw [bne_iff_ne]; exact hnn
                  have ha1 : (0 : Int) < (a : Int) := by omega
                  clear hnn
                  go_wp2_with fail
                  try rw [Exit.noGoto_ret]
                  have b4 := (D.out.res.put 0 (.int .i64 0)).put 1 (.slice none 0 0)
                  have FF := Lib.hid ((D.out.fr.setCell (p := ⟨w.heap.size, 0, none⟩) (.inr (Nat.le_refl _)) (.int .i64 0)).setCell (p := ⟨w.heap.size, 1, none⟩) (.inr (Nat.le_refl _)) (.slice none 0 0))
                  simp at b4
                  have e0 := b4.cell 0
                  have e1 := b4.cell 1
                  simp only [List.getElem?_toArray, List.getElem?_cons_zero, List.getElem?_cons_succ] at e0 e1
                  unfold ReadPost
                  rw [HV.out]
                  refine bodyPost_ret (v := .tuple #[.agg #[.int .i64 0, .slice none 0 0], .int .i64 0, .int .i64 3]) ?_ rfl ⟨.slice none 0 0, rfl, nil_sl, FF.out⟩
                  clear q0 q1 qf0 qf1 p0 p1 pf0 pf1 b4
                  simp [results, Try.f33, go_sem, e0, e1]
                · have HC2 := Lib.hid (show ¬ ((0 : Int) ≠ 0 ∨ (0 : Int) ≠ 0 ∨ n1 < 100 ∨ (0 < a ∧ n1 ≠ num)) from fun h => by rcases h with h | h | h | h; exact h rfl; exact h rfl; exact hn100 h; exact hnum h)
                  have hsplit : a = 0 ∨ n1 = num := by
                    by_cases h0 : a = 0
                    · exact .inl h0
                    · refine .inr ?_
                      by_cases h1 : n1 = num
                      · exact h1
                      · exact absurd ⟨by omega, h1⟩ hnum
                  have hb : (decide ((0 : Int) < (a : Int)) && (n1 != num)) = false := by
                    rcases hsplit with h | h
                    · subst h; rfl
                    · subst h; simp
                  by_cases hl4 : j = 4200
                  · have HV := Lib.hid (show readA s = ((0, []), 0, 5) by rw [← HF.out]; unfold readF; rw [HS.out]; simp only; rw [if_neg HC.out, HR1.out, HR2.out, if_neg HC2.out, if_pos (by rw [← HJ.out]; exact hl4)])
                    subst hl4
                    rcases hsplit with h0 | h0
                    · subst h0
                      exfalso; omega
                    · subst h0
                      clear hnum hb
                      have hbn : (n1 != n1) = false := by simp
                      by_cases ha0 : 0 < a
                      · have ha1 : (0 : Int) < (a : Int) := by omega
                        go_wp2_with fail
                        try rw [Exit.noGoto_ret]
                        have b4 := (D.out.res.put 0 (.int .i64 0)).put 1 (.slice none 0 0)
                        have FF := Lib.hid ((D.out.fr.setCell (p := ⟨w.heap.size, 0, none⟩) (.inr (Nat.le_refl _)) (.int .i64 0)).setCell (p := ⟨w.heap.size, 1, none⟩) (.inr (Nat.le_refl _)) (.slice none 0 0))
                        simp at b4
                        have e0 := b4.cell 0
                        have e1 := b4.cell 1
                        simp only [List.getElem?_toArray, List.getElem?_cons_zero, List.getElem?_cons_succ] at e0 e1
                        unfold ReadPost
                        rw [HV.out]
                        refine bodyPost_ret (v := .tuple #[.agg #[.int .i64 0, .slice none 0 0], .int .i64 0, .int .i64 5]) ?_ rfl ⟨.slice none 0 0, rfl, nil_sl, FF.out⟩
                        clear q0 q1 qf0 qf1 p0 p1 pf0 pf1 b4
                        simp [results, Try.f33, go_sem, e0, e1]
                      · exfalso; omega
                  · have HC3 := Lib.hid (show ¬ L.length = 4200 by rw [← HJ.out]; exact hl4)
                    have hl4b : ((j : Int) == 4200) = false := by rw [beq_eq_false_iff_ne]; omega
                    have Own := Lib.hid (show w1.ownsRow 0 9 1 (.slice A j c) j (L.flatMap encL) from by have := D.out.g; rw [← HJ.out] at this; exact this)
                    have Own2 := Lib.hid (D.out.setn n1)
                    clear hl4 hnum
                    by_cases ha0 : a = 0
                    · subst ha0
                      go_upto_region 16 with (fail)
                      have D2 := Own2
                      have Ow2 := Lib.hid (show (w1.setCell ⟨w.heap.size + 1, 0, none⟩ (.int .i64 n1)).ownsRow 0 9 1 (.slice A j c) j (L.flatMap encL) from by have := D2.out.g; rw [← HJ.out] at this; exact this)
                      clear q0 q1 qf0 qf1 p0 p1 pf0 pf1 Own2 Own
                      generalize w1.setCell ⟨w.heap.size + 1, 0, none⟩ (.int .i64 n1) = w2 at D2 Ow2 ⊢
                      have hsz := D2.out.res.lt
                      have q0 := D2.out.res.cell 0
                      have q1 := D2.out.res.cell 1
                      have qf0 := D2.out.res.frozen 0
                      have qf1 := D2.out.res.frozen 1
                      have p0 := D2.out.r.cell 0
                      have p1 := D2.out.r.cell 1
                      have pf0 := D2.out.r.frozen 0
                      have pf1 := D2.out.r.frozen 1
                      simp at q0 q1 p0 p1
                      have hno : ¬ Of (.slice A j c) (w.heap.size + 1) := fun ho => by have := (D2.out.nw _ ho).1; omega
                      have Hno := Lib.hid hno
                      clear hno
                      go_upto_region 17 with (at_builtin; go_loud (refine wp_push rfl (.tmp 88) (.tmp 90) 22 rfl 9 (.string ByteArray.empty) 1 16 Try.underlying22 infoStr rfl (by decide) (.slice A j c) _ _ rfl Ow2.out #[.string ⟨u.toArray⟩] rfl rfl (one_lit rfl) (by omega) (by unfold maxLen; omega) ?_; intro g4 cap4 w4 p1' p2' p3'; have r0 := (D2.out.r.fr p2' Hno.out).cell 1; have r1 := (D2.out.r.fr p2' Hno.out).frozen 1; simp at r0; have D3 := Lib.hid (show RAt w n1 (L ++ [u]) (.slice (some ⟨g4, 0, none⟩) (j + 1) cap4) (w4.setCell ⟨w.heap.size + 1, 1, none⟩ (.slice (some ⟨g4, 0, none⟩) (j + 1) cap4)) from (by have e := HJ.out; have d := D2.out; subst e; exact d.push p1' p2' p3')); clear p1' p2' p3'))
                      clear q0 q1 qf0 qf1 p0 p1 pf0 pf1 r0 r1 Ow2 D2
                      generalize w4.setCell ⟨w.heap.size + 1, 1, none⟩ (.slice (some ⟨g4, 0, none⟩) (j + 1) cap4) = w5 at D3 ⊢
                      have hsz := D3.out.res.lt
                      have q0 := D3.out.res.cell 0
                      have q1 := D3.out.res.cell 1
                      have qf0 := D3.out.res.frozen 0
                      have qf1 := D3.out.res.frozen 1
                      have p0 := D3.out.r.cell 0
                      have p1 := D3.out.r.cell 1
                      have pf0 := D3.out.r.frozen 0
                      have pf1 := D3.out.r.frozen 1
                      simp at q0 q1 p0 p1
                      go_wp2_with fail
                      have HV := Lib.hid (show readA s = ((n1, L ++ [u]), 0 + t.length + 2, 0) by
                        rw [← HF.out]
                        unfold readF
                        rw [HS.out]; simp only; rw [if_neg HC.out, HR1.out, HR2.out, if_neg HC2.out, if_neg HC3.out, if_pos HG.out])
                      try rw [Exit.noGoto_ret]
                      have b4 := (D3.out.res.put 0 (.int .i64 n1)).put 1 (.slice (some ⟨g4, 0, none⟩) (j + 1) cap4)
                      have f4 : Fr (One w.heap.size) w5 ((w5.setCell ⟨w.heap.size, 0, none⟩ (.int .i64 n1)).setCell ⟨w.heap.size, 1, none⟩ (.slice (some ⟨g4, 0, none⟩) (j + 1) cap4)) := ((Fr.refl (One w.heap.size) w5).setCell (p := ⟨w.heap.size, 0, none⟩) (.inl rfl) _).setCell (p := ⟨w.heap.size, 1, none⟩) (.inl rfl) _
                      have G4 := Lib.hid (own_fr D3.out.g f4 (fun b hb e => by have e : b = w.heap.size := e; have := (D3.out.nw b hb).1; omega))
                      have FF := Lib.hid (D3.out.fr.trans f4 (fun b hb hl => by have hb : b = w.heap.size := hb; omega))
                      have HNW := Lib.hid (show ∀ b, Of (.slice (some ⟨g4, 0, none⟩) (j + 1) cap4) b → New w ((w5.setCell ⟨w.heap.size, 0, none⟩ (.int .i64 n1)).setCell ⟨w.heap.size, 1, none⟩ (.slice (some ⟨g4, 0, none⟩) (j + 1) cap4)) b from fun b hb => ⟨by have := (D3.out.nw b hb).1; omega, Nat.lt_of_lt_of_le (D3.out.nw b hb).2 f4.size⟩)
                      simp at b4
                      have e0 := b4.cell 0
                      have e1 := b4.cell 1
                      simp only [List.getElem?_toArray, List.getElem?_cons_zero, List.getElem?_cons_succ] at e0 e1
                      unfold ReadPost
                      rw [HV.out]
                      refine bodyPost_ret (v := .tuple #[.agg #[.int .i64 n1, .slice (some ⟨g4, 0, none⟩) (j + 1) cap4], .int .i64 (((e9 : Int) + 2)), .int .i64 0]) ?_ rfl ⟨_, ?_, Sls.own_slE G4.out (fun _ _ => rfl) (fun x hx => encL_rd (by
                        rcases List.mem_append.1 hx with hx | hx
                        · have := HX.out x hx; unfold maxLen; omega
                        · rw [List.mem_singleton.1 hx]; unfold maxLen; omega) _ _) HNW.out, FF.out⟩
                      · clear q0 q1 qf0 qf1 p0 p1 pf0 pf1 b4 f4
                        simp [results, Try.f33, go_sem, e0, e1]
                      · rw [show (((((n1, L ++ [u]), 0 + t.length + 2, (0 : Int)) : Rep × Nat × Int).2.1 : Nat) : Int) = ((e9 : Int) + 2) from by simp only; rw [← HE9.out]; omega]
                    · have hnn : n1 = num := hsplit.elim (fun h => absurd h ha0) id
                      subst hnn
                      have ha1 : (0 : Int) < (a : Int) := by omega
                      have hbn : (n1 != n1) = false := by simp
                      clear hb
                      go_upto_region 16 with (fail)
                      have D2 := Own2
                      have Ow2 := Lib.hid (show (w1.setCell ⟨w.heap.size + 1, 0, none⟩ (.int .i64 n1)).ownsRow 0 9 1 (.slice A j c) j (L.flatMap encL) from by have := D2.out.g; rw [← HJ.out] at this; exact this)
                      clear q0 q1 qf0 qf1 p0 p1 pf0 pf1 Own2 Own
                      generalize w1.setCell ⟨w.heap.size + 1, 0, none⟩ (.int .i64 n1) = w2 at D2 Ow2 ⊢
                      have hsz := D2.out.res.lt
                      have q0 := D2.out.res.cell 0
                      have q1 := D2.out.res.cell 1
                      have qf0 := D2.out.res.frozen 0
                      have qf1 := D2.out.res.frozen 1
                      have p0 := D2.out.r.cell 0
                      have p1 := D2.out.r.cell 1
                      have pf0 := D2.out.r.frozen 0
                      have pf1 := D2.out.r.frozen 1
                      simp at q0 q1 p0 p1
                      have hno : ¬ Of (.slice A j c) (w.heap.size + 1) := fun ho => by have := (D2.out.nw _ ho).1; omega
                      have Hno := Lib.hid hno
                      clear hno
                      go_upto_region 17 with (at_builtin; go_loud (refine wp_push rfl (.tmp 88) (.tmp 90) 22 rfl 9 (.string ByteArray.empty) 1 16 Try.underlying22 infoStr rfl (by decide) (.slice A j c) _ _ rfl Ow2.out #[.string ⟨u.toArray⟩] rfl rfl (one_lit rfl) (by omega) (by unfold maxLen; omega) ?_; intro g4 cap4 w4 p1' p2' p3'; have r0 := (D2.out.r.fr p2' Hno.out).cell 1; have r1 := (D2.out.r.fr p2' Hno.out).frozen 1; simp at r0; have D3 := Lib.hid (show RAt w n1 (L ++ [u]) (.slice (some ⟨g4, 0, none⟩) (j + 1) cap4) (w4.setCell ⟨w.heap.size + 1, 1, none⟩ (.slice (some ⟨g4, 0, none⟩) (j + 1) cap4)) from (by have e := HJ.out; have d := D2.out; subst e; exact d.push p1' p2' p3')); clear p1' p2' p3'))
                      clear q0 q1 qf0 qf1 p0 p1 pf0 pf1 r0 r1 Ow2 D2
                      generalize w4.setCell ⟨w.heap.size + 1, 1, none⟩ (.slice (some ⟨g4, 0, none⟩) (j + 1) cap4) = w5 at D3 ⊢
                      have hsz := D3.out.res.lt
                      have q0 := D3.out.res.cell 0
                      have q1 := D3.out.res.cell 1
                      have qf0 := D3.out.res.frozen 0
                      have qf1 := D3.out.res.frozen 1
                      have p0 := D3.out.r.cell 0
                      have p1 := D3.out.r.cell 1
                      have pf0 := D3.out.r.frozen 0
                      have pf1 := D3.out.r.frozen 1
                      simp at q0 q1 p0 p1
                      go_wp2_with fail
                      have HV := Lib.hid (show readA s = ((n1, L ++ [u]), a + t.length + 2, 0) by
                        rw [← HF.out]
                        unfold readF
                        rw [HS.out]; simp only; rw [if_neg HC.out, HR1.out, HR2.out, if_neg HC2.out, if_neg HC3.out, if_pos HG.out])
                      try rw [Exit.noGoto_ret]
                      have b4 := (D3.out.res.put 0 (.int .i64 n1)).put 1 (.slice (some ⟨g4, 0, none⟩) (j + 1) cap4)
                      have f4 : Fr (One w.heap.size) w5 ((w5.setCell ⟨w.heap.size, 0, none⟩ (.int .i64 n1)).setCell ⟨w.heap.size, 1, none⟩ (.slice (some ⟨g4, 0, none⟩) (j + 1) cap4)) := ((Fr.refl (One w.heap.size) w5).setCell (p := ⟨w.heap.size, 0, none⟩) (.inl rfl) _).setCell (p := ⟨w.heap.size, 1, none⟩) (.inl rfl) _
                      have G4 := Lib.hid (own_fr D3.out.g f4 (fun b hb e => by have e : b = w.heap.size := e; have := (D3.out.nw b hb).1; omega))
                      have FF := Lib.hid (D3.out.fr.trans f4 (fun b hb hl => by have hb : b = w.heap.size := hb; omega))
                      have HNW := Lib.hid (show ∀ b, Of (.slice (some ⟨g4, 0, none⟩) (j + 1) cap4) b → New w ((w5.setCell ⟨w.heap.size, 0, none⟩ (.int .i64 n1)).setCell ⟨w.heap.size, 1, none⟩ (.slice (some ⟨g4, 0, none⟩) (j + 1) cap4)) b from fun b hb => ⟨by have := (D3.out.nw b hb).1; omega, Nat.lt_of_lt_of_le (D3.out.nw b hb).2 f4.size⟩)
                      simp at b4
                      have e0 := b4.cell 0
                      have e1 := b4.cell 1
                      simp only [List.getElem?_toArray, List.getElem?_cons_zero, List.getElem?_cons_succ] at e0 e1
                      unfold ReadPost
                      rw [HV.out]
                      refine bodyPost_ret (v := .tuple #[.agg #[.int .i64 n1, .slice (some ⟨g4, 0, none⟩) (j + 1) cap4], .int .i64 (((e9 : Int) + 2)), .int .i64 0]) ?_ rfl ⟨_, ?_, Sls.own_slE G4.out (fun _ _ => rfl) (fun x hx => encL_rd (by
                        rcases List.mem_append.1 hx with hx | hx
                        · have := HX.out x hx; unfold maxLen; omega
                        · rw [List.mem_singleton.1 hx]; unfold maxLen; omega) _ _) HNW.out, FF.out⟩
                      · clear q0 q1 qf0 qf1 p0 p1 pf0 pf1 b4 f4
                        simp [results, Try.f33, go_sem, e0, e1]
                      · rw [show (((((n1, L ++ [u]), a + t.length + 2, (0 : Int)) : Rep × Nat × Int).2.1 : Nat) : Int) = ((e9 : Int) + 2) from by simp only; rw [← HE9.out]; omega]
            · have HV := Lib.hid (show readA s = ((0, []), 0, 3) by rw [← HF.out]; unfold readF; rw [HS.out]; simp only; rw [if_neg HC.out, HR1.out, HR2.out, if_pos (.inr (.inl hc2))])
              have hb1 : ((e2 : Int) != 0) = true := by simpa using hc2
              clear hc2
              go_wp2_with fail
              try rw [Exit.noGoto_ret]
              have b4 := (D.out.res.put 0 (.int .i64 0)).put 1 (.slice none 0 0)
              have FF := Lib.hid ((D.out.fr.setCell (p := ⟨w.heap.size, 0, none⟩) (.inr (Nat.le_refl _)) (.int .i64 0)).setCell (p := ⟨w.heap.size, 1, none⟩) (.inr (Nat.le_refl _)) (.slice none 0 0))
              simp at b4
              have e0 := b4.cell 0
              have e1 := b4.cell 1
              simp only [List.getElem?_toArray, List.getElem?_cons_zero, List.getElem?_cons_succ] at e0 e1
              unfold ReadPost
              rw [HV.out]
              refine bodyPost_ret (v := .tuple #[.agg #[.int .i64 0, .slice none 0 0], .int .i64 0, .int .i64 3]) ?_ rfl ⟨.slice none 0 0, rfl, nil_sl, FF.out⟩
              clear q0 q1 qf0 qf1 p0 p1 pf0 pf1 b4
              simp [results, Try.f33, go_sem, e0, e1]
          · have HV := Lib.hid (show readA s = ((0, []), 0, 3) by rw [← HF.out]; unfold readF; rw [HS.out]; simp only; rw [if_neg HC.out, HR1.out, HR2.out, if_pos (.inl hc1)])
            have hb1 : ((e1 : Int) != 0) = true := by simpa using hc1
            clear hc1
            go_wp2_with fail
            try rw [Exit.noGoto_ret]
            have b4 := (D.out.res.put 0 (.int .i64 0)).put 1 (.slice none 0 0)
            have FF := Lib.hid ((D.out.fr.setCell (p := ⟨w.heap.size, 0, none⟩) (.inr (Nat.le_refl _)) (.int .i64 0)).setCell (p := ⟨w.heap.size, 1, none⟩) (.inr (Nat.le_refl _)) (.slice none 0 0))
            simp at b4
            have e0 := b4.cell 0
            have e1 := b4.cell 1
            simp only [List.getElem?_toArray, List.getElem?_cons_zero, List.getElem?_cons_succ] at e0 e1
            unfold ReadPost
            rw [HV.out]
            refine bodyPost_ret (v := .tuple #[.agg #[.int .i64 0, .slice none 0 0], .int .i64 0, .int .i64 3]) ?_ rfl ⟨.slice none 0 0, rfl, nil_sl, FF.out⟩
            clear q0 q1 qf0 qf1 p0 p1 pf0 pf1 b4
            simp [results, Try.f33, go_sem, e0, e1]
        · by_cases hk45 : k3 = 45
          · subst hk45
            have HC := Lib.hid (show ¬ (t.length < 4 ∨ (t[3]? ≠ some 32 ∧ t[3]? ≠ some 45)) from fun h => h.elim h4 (fun h => h.2 hg3))
            obtain ⟨x3, hx3⟩ : ∃ x, t.take 3 = x := ⟨_, rfl⟩
            obtain ⟨x4, hx4⟩ : ∃ x, t.drop 4 = x := ⟨_, rfl⟩
            have ht3 := fun W : World => slice_str (P := Try.prog) W 9 Try.underlying9 s a (a + 3) a (a + 3) rfl (by omega) (by omega) (by omega)
            have ht4 := fun W : World => slice_str (P := Try.prog) W 9 Try.underlying9 s (a + 4) e9 (a + 4) e9 (by omega) rfl (by omega) (by omega)
            rw [HS3.out, hx3] at ht3
            rw [HS4.out, hx4] at ht4
            have hx3l : x3.length ≤ 3 := by rw [← hx3, List.length_take]; omega
            have hx4l : x4.length ≤ 1000000 := by rw [← hx4, List.length_drop]; omega
            have HR := Lib.hid (fun w => Digit.rread_any x3 (by unfold maxLen; omega) w)
            have HUn := Lib.hid (fun w => Digit.runshow_any x4 w hx4l)
            have hul := uns_len x4
            obtain ⟨⟨n1, e1⟩, hr1⟩ : ∃ p, readR (t.take 3) = p := ⟨_, rfl⟩
            obtain ⟨⟨u, e2⟩, hr2⟩ : ∃ p, unsP (t.drop 4) = p := ⟨_, rfl⟩
            rw [hx3] at hr1
            rw [hx4] at hr2
            simp only [hr1] at HR
            simp only [hr2] at HUn hul
            have hr1 : readR (t.take 3) = (n1, e1) := by rw [hx3]; exact hr1
            have hr2 : unsP (t.drop 4) = (u, e2) := by rw [hx4]; exact hr2
            have HG := Lib.hid hg3
            have HR1 := Lib.hid hr1
            have HR2 := Lib.hid hr2
            clear hr1 hr2 hg3 hx3 hx4
            go_wp2_with fail
            refine (HL.out _).mono ?_
            rintro e w1 ⟨rfl, rfl⟩
            go_wp2_with fail
            refine (HR.out _).mono ?_
            rintro e w1 ⟨rfl, rfl⟩
            go_wp2_with fail
            refine (HUn.out _).mono ?_
            rintro e w1 ⟨rfl, hf⟩
            have D1 := Lib.hid (D.out.no hf)
            clear hf D q0 q1 qf0 qf1 p0 p1 pf0 pf1 ht3 ht4 HL HR HUn
            have D := D1
            clear D1
            have hsz := D.out.res.lt
            have q0 := D.out.res.cell 0
            have q1 := D.out.res.cell 1
            have qf0 := D.out.res.frozen 0
            have qf1 := D.out.res.frozen 1
            have p0 := D.out.r.cell 0
            have p1 := D.out.r.cell 1
            have pf0 := D.out.r.frozen 0
            have pf1 := D.out.r.frozen 1
            simp at q0 q1 p0 p1
            by_cases hc1 : e1 = 0
            · subst hc1
              by_cases hc2 : e2 = 0
              · subst hc2
                by_cases hn100 : n1 < 100
                · have HV := Lib.hid (show readA s = ((0, []), 0, 3) by rw [← HF.out]; unfold readF; rw [HS.out]; simp only; rw [if_neg HC.out, HR1.out, HR2.out, if_pos (.inr (.inr (.inl hn100)))])
                  go_wp2_with fail
                  try rw [Exit.noGoto_ret]
                  have b4 := (D.out.res.put 0 (.int .i64 0)).put 1 (.slice none 0 0)
                  have FF := Lib.hid ((D.out.fr.setCell (p := ⟨w.heap.size, 0, none⟩) (.inr (Nat.le_refl _)) (.int .i64 0)).setCell (p := ⟨w.heap.size, 1, none⟩) (.inr (Nat.le_refl _)) (.slice none 0 0))
                  simp at b4
                  have e0 := b4.cell 0
                  have e1 := b4.cell 1
                  simp only [List.getElem?_toArray, List.getElem?_cons_zero, List.getElem?_cons_succ] at e0 e1
                  unfold ReadPost
                  rw [HV.out]
                  refine bodyPost_ret (v := .tuple #[.agg #[.int .i64 0, .slice none 0 0], .int .i64 0, .int .i64 3]) ?_ rfl ⟨.slice none 0 0, rfl, nil_sl, FF.out⟩
                  clear q0 q1 qf0 qf1 p0 p1 pf0 pf1 b4
                  simp [results, Try.f33, go_sem, e0, e1]
                · have hn100' : 100 ≤ n1 := by omega
                  by_cases hnum : 0 < a ∧ n1 ≠ num
                  · obtain ⟨ha0, hnn⟩ := hnum
                    have HV := Lib.hid (show readA s = ((0, []), 0, 3) by rw [← HF.out]; unfold readF; rw [HS.out]; simp only; rw [if_neg HC.out, HR1.out, HR2.out, if_pos (.inr (.inr (.inr ⟨ha0, hnn⟩)))])
                    have hb1 : (n1 != num) = true := by rw [bne_iff_ne]; exact hnn
                    have ha1 : (0 : Int) < (a : Int) := by omega
                    clear hnn
                    go_wp2_with fail
                    try rw [Exit.noGoto_ret]
                    have b4 := (D.out.res.put 0 (.int .i64 0)).put 1 (.slice none 0 0)
                    have FF := Lib.hid ((D.out.fr.setCell (p := ⟨w.heap.size, 0, none⟩) (.inr (Nat.le_refl _)) (.int .i64 0)).setCell (p := ⟨w.heap.size, 1, none⟩) (.inr (Nat.le_refl _)) (.slice none 0 0))
                    simp at b4
                    have e0 := b4.cell 0
                    have e1 := b4.cell 1
                    simp only [List.getElem?_toArray, List.getElem?_cons_zero, List.getElem?_cons_succ] at e0 e1
                    unfold ReadPost
                    rw [HV.out]
                    refine bodyPost_ret (v := .tuple #[.agg #[.int .i64 0, .slice none 0 0], .int .i64 0, .int .i64 3]) ?_ rfl ⟨.slice none 0 0, rfl, nil_sl, FF.out⟩
                    clear q0 q1 qf0 qf1 p0 p1 pf0 pf1 b4
                    simp [results, Try.f33, go_sem, e0, e1]
                  · have HC2 := Lib.hid (show ¬ ((0 : Int) ≠ 0 ∨ (0 : Int) ≠ 0 ∨ n1 < 100 ∨ (0 < a ∧ n1 ≠ num)) from fun h => by rcases h with h | h | h | h; exact h rfl; exact h rfl; exact hn100 h; exact hnum h)
                    have hsplit : a = 0 ∨ n1 = num := by
                      by_cases h0 : a = 0
                      · exact .inl h0
                      · refine .inr ?_
                        by_cases h1 : n1 = num
                        · exact h1
                        · exact absurd ⟨by omega, h1⟩ hnum
                    have hb : (decide ((0 : Int) < (a : Int)) && (n1 != num)) = false := by
                      rcases hsplit with h | h
                      · subst h; rfl
                      · subst h; simp
                    by_cases hl4 : j = 4200
                    · have HV := Lib.hid (show readA s = ((0, []), 0, 5) by rw [← HF.out]; unfold readF; rw [HS.out]; simp only; rw [if_neg HC.out, HR1.out, HR2.out, if_neg HC2.out, if_pos (by rw [← HJ.out]; exact hl4)])
                      subst hl4
                      rcases hsplit with h0 | h0
                      · subst h0
                        exfalso; omega
                      · subst h0
                        clear hnum hb
                        have hbn : (n1 != n1) = false := by simp
                        by_cases ha0 : 0 < a
                        · have ha1 : (0 : Int) < (a : Int) := by omega
                          go_wp2_with fail
                          try rw [Exit.noGoto_ret]
                          have b4 := (D.out.res.put 0 (.int .i64 0)).put 1 (.slice none 0 0)
                          have FF := Lib.hid ((D.out.fr.setCell (p := ⟨w.heap.size, 0, none⟩) (.inr (Nat.le_refl _)) (.int .i64 0)).setCell (p := ⟨w.heap.size, 1, none⟩) (.inr (Nat.le_refl _)) (.slice none 0 0))
                          simp at b4
                          have e0 := b4.cell 0
                          have e1 := b4.cell 1
                          simp only [List.getElem?_toArray, List.getElem?_cons_zero, List.getElem?_cons_succ] at e0 e1
                          unfold ReadPost
                          rw [HV.out]
                          refine bodyPost_ret (v := .tuple #[.agg #[.int .i64 0, .slice none 0 0], .int .i64 0, .int .i64 5]) ?_ rfl ⟨.slice none 0 0, rfl, nil_sl, FF.out⟩
                          clear q0 q1 qf0 qf1 p0 p1 pf0 pf1 b4
                          simp [results, Try.f33, go_sem, e0, e1]
                        · exfalso; omega
                    · have HC3 := Lib.hid (show ¬ L.length = 4200 by rw [← HJ.out]; exact hl4)
                      have hl4b : ((j : Int) == 4200) = false := by rw [beq_eq_false_iff_ne]; omega
                      have Own := Lib.hid (show w1.ownsRow 0 9 1 (.slice A j c) j (L.flatMap encL) from by have := D.out.g; rw [← HJ.out] at this; exact this)
                      have Own2 := Lib.hid (D.out.setn n1)
                      clear hl4 hnum
                      by_cases ha0 : a = 0
                      · subst ha0
                        go_upto_region 16 with (fail)
                        have D2 := Own2
                        have Ow2 := Lib.hid (show (w1.setCell ⟨w.heap.size + 1, 0, none⟩ (.int .i64 n1)).ownsRow 0 9 1 (.slice A j c) j (L.flatMap encL) from by have := D2.out.g; rw [← HJ.out] at this; exact this)
                        clear q0 q1 qf0 qf1 p0 p1 pf0 pf1 Own2 Own
                        generalize w1.setCell ⟨w.heap.size + 1, 0, none⟩ (.int .i64 n1) = w2 at D2 Ow2 ⊢
                        have hsz := D2.out.res.lt
                        have q0 := D2.out.res.cell 0
                        have q1 := D2.out.res.cell 1
                        have qf0 := D2.out.res.frozen 0
                        have qf1 := D2.out.res.frozen 1
                        have p0 := D2.out.r.cell 0
                        have p1 := D2.out.r.cell 1
                        have pf0 := D2.out.r.frozen 0
                        have pf1 := D2.out.r.frozen 1
                        simp at q0 q1 p0 p1
                        have hno : ¬ Of (.slice A j c) (w.heap.size + 1) := fun ho => by have := (D2.out.nw _ ho).1; omega
                        have Hno := Lib.hid hno
                        clear hno
                        go_upto_region 17 with (at_builtin; go_loud (refine wp_push rfl (.tmp 88) (.tmp 90) 22 rfl 9 (.string ByteArray.empty) 1 16 Try.underlying22 infoStr rfl (by decide) (.slice A j c) _ _ rfl Ow2.out #[.string ⟨u.toArray⟩] rfl rfl (one_lit rfl) (by omega) (by unfold maxLen; omega) ?_; intro g4 cap4 w4 p1' p2' p3'; have r0 := (D2.out.r.fr p2' Hno.out).cell 1; have r1 := (D2.out.r.fr p2' Hno.out).frozen 1; simp at r0; have D3 := Lib.hid (show RAt w n1 (L ++ [u]) (.slice (some ⟨g4, 0, none⟩) (j + 1) cap4) (w4.setCell ⟨w.heap.size + 1, 1, none⟩ (.slice (some ⟨g4, 0, none⟩) (j + 1) cap4)) from (by have e := HJ.out; have d := D2.out; subst e; exact d.push p1' p2' p3')); clear p1' p2' p3'))
                        clear q0 q1 qf0 qf1 p0 p1 pf0 pf1 r0 r1 Ow2 D2
                        generalize w4.setCell ⟨w.heap.size + 1, 1, none⟩ (.slice (some ⟨g4, 0, none⟩) (j + 1) cap4) = w5 at D3 ⊢
                        have hsz := D3.out.res.lt
                        have q0 := D3.out.res.cell 0
                        have q1 := D3.out.res.cell 1
                        have qf0 := D3.out.res.frozen 0
                        have qf1 := D3.out.res.frozen 1
                        have p0 := D3.out.r.cell 0
                        have p1 := D3.out.r.cell 1
                        have pf0 := D3.out.r.frozen 0
                        have pf1 := D3.out.r.frozen 1
                        simp at q0 q1 p0 p1
                        go_wp2_with fail
                        obtain ⟨f', hf'⟩ : ∃ f', f = f' + 1 := ⟨f - 1, by omega⟩
                        subst hf'
                        have HN := Lib.hid (show readF (f' + 1) s (0 + t.length + 2) n1 (L ++ [u]) = readA s by
                          rw [← HF.out]
                          conv => rhs; unfold readF
                          rw [HS.out]; simp only; rw [if_neg HC.out, HR1.out, HR2.out, if_neg HC2.out, if_neg HC3.out, if_neg (by rw [HG.out]; decide)])
                        go_roundw
                        case rel => exact ⟨e9 + 2, n1, L ++ [u], _, f', j + 1, (by first | go_num | (congr 1; omega)), by omega, by omega, by omega, (show j + 1 = _ by rw [HJ.out]; simp), (show ∀ x ∈ L ++ [u], x.length ≤ 1000000 from fun x hx => (List.mem_append.1 hx).elim (HX.out x) (fun h => by rw [List.mem_singleton.1 h]; omega)), (by rw [← HE9.out]; exact HN), D3.out⟩
                        case measure => simp [intOf]; omega
                      · have hnn : n1 = num := hsplit.elim (fun h => absurd h ha0) id
                        subst hnn
                        have ha1 : (0 : Int) < (a : Int) := by omega
                        have hbn : (n1 != n1) = false := by simp
                        clear hb
                        go_upto_region 16 with (fail)
                        have D2 := Own2
                        have Ow2 := Lib.hid (show (w1.setCell ⟨w.heap.size + 1, 0, none⟩ (.int .i64 n1)).ownsRow 0 9 1 (.slice A j c) j (L.flatMap encL) from by have := D2.out.g; rw [← HJ.out] at this; exact this)
                        clear q0 q1 qf0 qf1 p0 p1 pf0 pf1 Own2 Own
                        generalize w1.setCell ⟨w.heap.size + 1, 0, none⟩ (.int .i64 n1) = w2 at D2 Ow2 ⊢
                        have hsz := D2.out.res.lt
                        have q0 := D2.out.res.cell 0
                        have q1 := D2.out.res.cell 1
                        have qf0 := D2.out.res.frozen 0
                        have qf1 := D2.out.res.frozen 1
                        have p0 := D2.out.r.cell 0
                        have p1 := D2.out.r.cell 1
                        have pf0 := D2.out.r.frozen 0
                        have pf1 := D2.out.r.frozen 1
                        simp at q0 q1 p0 p1
                        have hno : ¬ Of (.slice A j c) (w.heap.size + 1) := fun ho => by have := (D2.out.nw _ ho).1; omega
                        have Hno := Lib.hid hno
                        clear hno
                        go_upto_region 17 with (at_builtin; go_loud (refine wp_push rfl (.tmp 88) (.tmp 90) 22 rfl 9 (.string ByteArray.empty) 1 16 Try.underlying22 infoStr rfl (by decide) (.slice A j c) _ _ rfl Ow2.out #[.string ⟨u.toArray⟩] rfl rfl (one_lit rfl) (by omega) (by unfold maxLen; omega) ?_; intro g4 cap4 w4 p1' p2' p3'; have r0 := (D2.out.r.fr p2' Hno.out).cell 1; have r1 := (D2.out.r.fr p2' Hno.out).frozen 1; simp at r0; have D3 := Lib.hid (show RAt w n1 (L ++ [u]) (.slice (some ⟨g4, 0, none⟩) (j + 1) cap4) (w4.setCell ⟨w.heap.size + 1, 1, none⟩ (.slice (some ⟨g4, 0, none⟩) (j + 1) cap4)) from (by have e := HJ.out; have d := D2.out; subst e; exact d.push p1' p2' p3')); clear p1' p2' p3'))
                        clear q0 q1 qf0 qf1 p0 p1 pf0 pf1 r0 r1 Ow2 D2
                        generalize w4.setCell ⟨w.heap.size + 1, 1, none⟩ (.slice (some ⟨g4, 0, none⟩) (j + 1) cap4) = w5 at D3 ⊢
                        have hsz := D3.out.res.lt
                        have q0 := D3.out.res.cell 0
                        have q1 := D3.out.res.cell 1
                        have qf0 := D3.out.res.frozen 0
                        have qf1 := D3.out.res.frozen 1
                        have p0 := D3.out.r.cell 0
                        have p1 := D3.out.r.cell 1
                        have pf0 := D3.out.r.frozen 0
                        have pf1 := D3.out.r.frozen 1
                        simp at q0 q1 p0 p1
                        go_wp2_with fail
                        obtain ⟨f', hf'⟩ : ∃ f', f = f' + 1 := ⟨f - 1, by omega⟩
                        subst hf'
                        have HN := Lib.hid (show readF (f' + 1) s (a + t.length + 2) n1 (L ++ [u]) = readA s by
                          rw [← HF.out]
                          conv => rhs; unfold readF
                          rw [HS.out]; simp only; rw [if_neg HC.out, HR1.out, HR2.out, if_neg HC2.out, if_neg HC3.out, if_neg (by rw [HG.out]; decide)])
                        go_roundw
                        case rel => exact ⟨e9 + 2, n1, L ++ [u], _, f', j + 1, (by first | go_num | (congr 1; omega)), by omega, by omega, by omega, (show j + 1 = _ by rw [HJ.out]; simp), (show ∀ x ∈ L ++ [u], x.length ≤ 1000000 from fun x hx => (List.mem_append.1 hx).elim (HX.out x) (fun h => by rw [List.mem_singleton.1 h]; omega)), (by rw [← HE9.out]; exact HN), D3.out⟩
                        case measure => simp [intOf]; omega
              · have HV := Lib.hid (show readA s = ((0, []), 0, 3) by rw [← HF.out]; unfold readF; rw [HS.out]; simp only; rw [if_neg HC.out, HR1.out, HR2.out, if_pos (.inr (.inl hc2))])
                have hb1 : ((e2 : Int) != 0) = true := by simpa using hc2
                clear hc2
                go_wp2_with fail
                try rw [Exit.noGoto_ret]
                have b4 := (D.out.res.put 0 (.int .i64 0)).put 1 (.slice none 0 0)
                have FF := Lib.hid ((D.out.fr.setCell (p := ⟨w.heap.size, 0, none⟩) (.inr (Nat.le_refl _)) (.int .i64 0)).setCell (p := ⟨w.heap.size, 1, none⟩) (.inr (Nat.le_refl _)) (.slice none 0 0))
                simp at b4
                have e0 := b4.cell 0
                have e1 := b4.cell 1
                simp only [List.getElem?_toArray, List.getElem?_cons_zero, List.getElem?_cons_succ] at e0 e1
                unfold ReadPost
                rw [HV.out]
                refine bodyPost_ret (v := .tuple #[.agg #[.int .i64 0, .slice none 0 0], .int .i64 0, .int .i64 3]) ?_ rfl ⟨.slice none 0 0, rfl, nil_sl, FF.out⟩
                clear q0 q1 qf0 qf1 p0 p1 pf0 pf1 b4
                simp [results, Try.f33, go_sem, e0, e1]
            · have HV := Lib.hid (show readA s = ((0, []), 0, 3) by rw [← HF.out]; unfold readF; rw [HS.out]; simp only; rw [if_neg HC.out, HR1.out, HR2.out, if_pos (.inl hc1)])
              have hb1 : ((e1 : Int) != 0) = true := by simpa using hc1
              clear hc1
              go_wp2_with fail
              try rw [Exit.noGoto_ret]
              have b4 := (D.out.res.put 0 (.int .i64 0)).put 1 (.slice none 0 0)
              have FF := Lib.hid ((D.out.fr.setCell (p := ⟨w.heap.size, 0, none⟩) (.inr (Nat.le_refl _)) (.int .i64 0)).setCell (p := ⟨w.heap.size, 1, none⟩) (.inr (Nat.le_refl _)) (.slice none 0 0))
              simp at b4
              have e0 := b4.cell 0
              have e1 := b4.cell 1
              simp only [List.getElem?_toArray, List.getElem?_cons_zero, List.getElem?_cons_succ] at e0 e1
              unfold ReadPost
              rw [HV.out]
              refine bodyPost_ret (v := .tuple #[.agg #[.int .i64 0, .slice none 0 0], .int .i64 0, .int .i64 3]) ?_ rfl ⟨.slice none 0 0, rfl, nil_sl, FF.out⟩
              clear q0 q1 qf0 qf1 p0 p1 pf0 pf1 b4
              simp [results, Try.f33, go_sem, e0, e1]
          · have HV := Lib.hid (show readA s = ((0, []), 0, 3) by
              rw [← HF.out]; unfold readF; rw [HS.out]; simp only
              rw [if_pos (.inr ⟨by rw [hg3]; intro e; injection e with e; exact hk32 e, by rw [hg3]; intro e; injection e with e; exact hk45 e⟩)])
            have hb1 : ((k3.toNat : Int) != 32) = true := by rw [bne_iff_ne]; intro e; exact hk32 (UInt8.toNat_inj.1 (by show k3.toNat = 32; omega))
            have hb2 : ((k3.toNat : Int) != 45) = true := by rw [bne_iff_ne]; intro e; exact hk45 (UInt8.toNat_inj.1 (by show k3.toNat = 45; omega))
            clear hk32 hk45 hg3 HS3 HS4
            go_wp2_with fail
            refine (HL.out _).mono ?_
            rintro e w1 ⟨rfl, rfl⟩
            go_wp2_with fail
            try rw [Exit.noGoto_ret]
            have b4 := (D.out.res.put 0 (.int .i64 0)).put 1 (.slice none 0 0)
            have FF := Lib.hid ((D.out.fr.setCell (p := ⟨w.heap.size, 0, none⟩) (.inr (Nat.le_refl _)) (.int .i64 0)).setCell (p := ⟨w.heap.size, 1, none⟩) (.inr (Nat.le_refl _)) (.slice none 0 0))
            simp at b4
            have e0 := b4.cell 0
            have e1 := b4.cell 1
            simp only [List.getElem?_toArray, List.getElem?_cons_zero, List.getElem?_cons_succ] at e0 e1
            unfold ReadPost
            rw [HV.out]
            refine bodyPost_ret (v := .tuple #[.agg #[.int .i64 0, .slice none 0 0], .int .i64 0, .int .i64 3]) ?_ rfl ⟨.slice none 0 0, rfl, nil_sl, FF.out⟩
            clear q0 q1 qf0 qf1 p0 p1 pf0 pf1 b4
            simp [results, Try.f33, go_sem, e0, e1]
end Rd
end Go.Proofs.Ytmmdiccpifepfaa
