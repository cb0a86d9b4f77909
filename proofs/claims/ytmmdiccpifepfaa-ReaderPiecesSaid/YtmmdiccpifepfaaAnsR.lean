/- Answer: how a reply is read. Printed by gen_ansr.py. -/
import Derived.Test.YtmmdiccpifepfaaAnsV
import Derived.Deep.CutRange
namespace Go.Proofs.Ytmmdiccpifepfaa
open Go.RowKit
set_option linter.unusedVariables false
set_option linter.unusedSimpArgs false
namespace Ans
open Digit Sls
theorem show_ge (s : Str) : s.length ≤ (showR s).length := by
  induction s with
  | nil => simp
  | cons c s ih =>
    have e : showR (c :: s) = signR c ++ showR s := rfl
    have := (sign_len c).1
    rw [e]; simp; omega
theorem uns_len (s : Str) : (unsP s).1.length ≤ s.length := by
  unfold unsP
  cases h : unsR s with
  | none => simp
  | some o =>
    have h1 := show_uns s.length s o (Nat.le_refl _) h
    have h2 := show_ge o
    rw [h1] at h2
    exact h2
/-- Where a reply stands while it is read. -/
structure RAt (w : World) (num : Int) (L : List Str) (v : Value) (wr : World) : Prop where
  res : Blk wr w.heap.size 69 #[.int .i64 0, .slice none 0 0]
  r : Blk wr (w.heap.size + 1) 69 #[.int .i64 num, v]
  g : wr.ownsRow 0 9 1 v L.length (L.flatMap encL)
  nw : ∀ b, Of v b → w.heap.size + 1 < b ∧ b < wr.heap.size
  fr : Fr No w wr
theorem RAt.start (w : World) : RAt w 0 [] (.slice none 0 0) ((w.alloc (.cells #[.int .i64 0, .slice none 0 0] 69)).alloc (.cells #[.int .i64 0, .slice none 0 0] 69)) := by
  have h2 := Blk.new (w.alloc (.cells #[.int .i64 0, .slice none 0 0] 69)) 69 #[.int .i64 0, .slice none 0 0]
  rw [size_alloc] at h2
  exact ⟨(Blk.new w _ _).alloc _, h2, World.ownsRow_nil _ _ _ _, (fun b h => by cases h), ((Fr.refl _ _).alloc _).alloc _⟩
section
variable {w wr w1 : World} {num : Int} {L : List Str} {v v' : Value}
theorem RAt.no (h : RAt w num L v wr) (hf : Fr No wr w1) : RAt w num L v w1 :=
  ⟨h.res.fr hf (fun h => h), h.r.fr hf (fun h => h), own_fr h.g hf (fun _ _ h => h), fun b hb => ⟨(h.nw b hb).1, Nat.lt_of_lt_of_le (h.nw b hb).2 hf.size⟩, h.fr.then_no hf⟩
theorem RAt.setn (h : RAt w num L v wr) (n : Int) : RAt w n L v (wr.setCell ⟨w.heap.size + 1, 0, none⟩ (.int .i64 n)) := by
  have hf : Fr (One (w.heap.size + 1)) wr (wr.setCell ⟨w.heap.size + 1, 0, none⟩ (.int .i64 n)) := (Fr.refl (One (w.heap.size + 1)) wr).setCell (p := ⟨w.heap.size + 1, 0, none⟩) (.inl rfl) _
  refine ⟨h.res.fr hf (fun e => by have e : w.heap.size = w.heap.size + 1 := e; omega), h.r.put 0 _, own_fr h.g hf (fun b hb e => by have e : b = w.heap.size + 1 := e; have := (h.nw b hb).1; omega), fun b hb => ⟨(h.nw b hb).1, Nat.lt_of_lt_of_le (h.nw b hb).2 hf.size⟩, h.fr.trans hf fun b hb hl => ?_⟩
  have hb : b = w.heap.size + 1 := hb
  omega
theorem RAt.push (h : RAt w num L v wr) {s : Str} {g c : Nat} (ho : w1.ownsRow 0 9 1 (.slice (some ⟨g, 0, none⟩) (L.length + 1) c) (L.length + 1) (L.flatMap encL ++ encL s)) (hf : Fr (Of v) wr w1) (hn : Of v g ∨ New wr w1 g) :
    RAt w num (L ++ [s]) (.slice (some ⟨g, 0, none⟩) (L.length + 1) c) (w1.setCell ⟨w.heap.size + 1, 1, none⟩ (.slice (some ⟨g, 0, none⟩) (L.length + 1) c)) := by
  have hlt := h.r.lt
  have hg : w.heap.size + 1 < g ∧ g < w1.heap.size := by
    rcases hn with h1 | h1
    · have := h.nw g h1; exact ⟨this.1, Nat.lt_of_lt_of_le this.2 hf.size⟩
    · exact ⟨by have := h1.1; omega, h1.2⟩
  have hs : Fr (One (w.heap.size + 1)) w1 (w1.setCell ⟨w.heap.size + 1, 1, none⟩ (.slice (some ⟨g, 0, none⟩) (L.length + 1) c)) := (Fr.refl (One (w.heap.size + 1)) w1).setCell (p := ⟨w.heap.size + 1, 1, none⟩) (.inl rfl) _
  have hno : ∀ b, b ≤ w.heap.size + 1 → ¬ Of v b := fun b hb ho => by have := (h.nw b ho).1; omega
  refine ⟨(h.res.fr hf (hno _ (by omega))).fr hs (fun e => by have e : w.heap.size = w.heap.size + 1 := e; omega), (h.r.fr hf (hno _ (by omega))).put 1 _, ?_, fun b hb => ?_, (h.fr.trans hf fun b hb hl => ?_).trans hs fun b hb hl => ?_⟩
  · rw [List.length_append, List.flatMap_append]
    have : ([s] : List Str).flatMap encL = encL s := by simp
    rw [this]
    exact own_fr ho hs fun b hb e => by
      have e : b = w.heap.size + 1 := e
      have hb' : some g = some b := hb
      injection hb' with hb'
      omega
  · have hb' : some g = some b := hb
    injection hb' with hb'
    subst hb'
    exact ⟨hg.1, Nat.lt_of_lt_of_le hg.2 hs.size⟩
  · have := (h.nw b hb).1; omega
  · have hb : b = w.heap.size + 1 := hb
    omega
end
/-- What reading answers. -/
def ReadPost (w : World) (r : Rep × Nat × Int) (e : Ending) (w' : World) : Prop := ∃ v, e = .returned (.tuple #[.agg #[.int .i64 r.1.1, v], .int .i64 r.2.1, .int .i64 r.2.2]) ∧ RSl 1 RStr w' (New w w') [v] r.1.2 ∧ Fr No w w'
theorem nil_sl {w : World} {S : Nat → Prop} : RSl 1 RStr w S [.slice none 0 0] [] := ⟨none, 0, rfl, Nat.le_refl _, Nat.zero_le _, fun _ => rfl, fun i hi => by simp at hi⟩
set_option maxRecDepth 100000 in
set_option maxHeartbeats 4000000 in
theorem read_any (s : Str) (w : World) (hs : s.length ≤ 900000) : Calls Try.prog 28 #[.string ⟨s.toArray⟩] w (ReadPost w (readA s)) := by
  have D0 := Lib.hid (RAt.start w)
  have hr2 := D0.out.res.cell 0
  have hr3 := D0.out.res.cell 1
  clear hr2 hr3
  go_enter Try.func28, Try.ntmps28
  go_wp2_with fail
  go_step3
  go_wp2_with fail
  go_step3
  go_wp2_with fail
  go_loopw [6] (fun i wr => ∃ (a : Nat) (num : Int) (L : List Str) (v : Value) (f j : Nat), i = .int .i64 a ∧ a ≤ s.length ∧ j ≤ a ∧ s.length < f + 1 + a ∧ Hid (j = L.length) ∧ Hid (∀ x ∈ L, x.length ≤ 1000000) ∧ Hid (readF (f + 1) s a num L = readA s) ∧ Hid (RAt w num L v wr)) (fun i _ => s.length - (intOf i).toNat)
  case atStart => exact ⟨0, 0, [], .slice none 0 0, s.length, 0, rfl, by omega, by omega, by omega, rfl, (fun x hx => by cases hx), rfl, D0.out⟩
  case round =>
    clear D0
    obtain ⟨a, num, L, v, f, j, rfl, hal, hja, hfa, HJ, HX, HF, D⟩ := hrel
    obtain ⟨A, c, hv⟩ := own_form D.out.g
    rw [← HJ.out] at hv
    subst hv
    have hsf := fun W : World => Sls.slice_from (P := Try.prog) W 9 Try.underlying9 s a a rfl hal
    have HL := Lib.hid (fun w => line_any (s.drop a) w (by simp; omega))
    have hsz := D.out.res.lt
    have q0 := D.out.res.cell 0
    have q1 := D.out.res.cell 1
    have qf0 := D.out.res.frozen 0
    have qf1 := D.out.res.frozen 1
    have p0 := D.out.r.cell 0
    have p1 := D.out.r.cell 1
    have pf0 := D.out.r.frozen 0
    have pf1 := D.out.r.frozen 1
    simp at q0 q1 p0 p1
    have HD := Lib.hid (show (s.drop a).length = s.length - a from List.length_drop)
    cases hln : lineR (s.drop a) with
    | none =>
      have HV := Lib.hid (show readA s = ((0, []), 0, 13) by rw [← HF.out]; unfold readF; rw [hln])
      have hp : lineP (s.drop a) = ([], false) := by unfold lineP; rw [hln]
      simp only [hp] at HL
      clear hln hp
      obtain ⟨d, hd⟩ : ∃ d, s.drop a = d := ⟨_, rfl⟩
      rw [hd] at HL hsf
      clear hd
      go_wp2_with fail
      refine (HL.out _).mono ?_
      rintro e w1 ⟨rfl, rfl⟩
      go_wp2_with fail
      try rw [Exit.noGoto_ret]
      have b4 := (D.out.res.put 0 (.int .i64 0)).put 1 (.slice none 0 0)
      have FF := Lib.hid ((D.out.fr.setCell (p := ⟨w.heap.size, 0, none⟩) (.inr (Nat.le_refl _)) (.int .i64 0)).setCell (p := ⟨w.heap.size, 1, none⟩) (.inr (Nat.le_refl _)) (.slice none 0 0))
      simp at b4
      have e0 := b4.cell 0
      have e1 := b4.cell 1
      simp only [List.getElem?_toArray, List.getElem?_cons_zero, List.getElem?_cons_succ] at e0 e1
      unfold ReadPost
      rw [HV.out]
      refine bodyPost_ret (v := .tuple #[.agg #[.int .i64 0, .slice none 0 0], .int .i64 0, .int .i64 13]) ?_ rfl ⟨.slice none 0 0, rfl, nil_sl, FF.out⟩
      clear q0 q1 qf0 qf1 p0 p1 pf0 pf1 b4
      simp [results, Try.f28, go_sem, e0, e1]
    | some t =>
      have hp : lineP (s.drop a) = (t, true) := by unfold lineP; rw [hln]
      simp only [hp] at HL
      have htl : t.length + 2 + a ≤ s.length := by
        obtain ⟨r, hr⟩ := line_some hln
        have h1 := congrArg List.length hr
        rw [HD.out] at h1
        simp at h1
        omega
      have HS := Lib.hid hln
      clear hln hp
      obtain ⟨d, hd⟩ : ∃ d, s.drop a = d := ⟨_, rfl⟩
      rw [hd] at HL hsf HS
      have HDD := Lib.hid hd
      clear hd
      by_cases h4 : t.length < 4
      · have HV := Lib.hid (show readA s = ((0, []), 0, 3) by rw [← HF.out]; unfold readF; rw [HDD.out, HS.out]; simp only; rw [if_pos (.inl h4)])
        go_wp2_with fail
        refine (HL.out _).mono ?_
        rintro e w1 ⟨rfl, rfl⟩
        go_wp2_with fail
        try rw [Exit.noGoto_ret]
        have b4 := (D.out.res.put 0 (.int .i64 0)).put 1 (.slice none 0 0)
        have FF := Lib.hid ((D.out.fr.setCell (p := ⟨w.heap.size, 0, none⟩) (.inr (Nat.le_refl _)) (.int .i64 0)).setCell (p := ⟨w.heap.size, 1, none⟩) (.inr (Nat.le_refl _)) (.slice none 0 0))
        simp at b4
        have e0 := b4.cell 0
        have e1 := b4.cell 1
        simp only [List.getElem?_toArray, List.getElem?_cons_zero, List.getElem?_cons_succ] at e0 e1
        unfold ReadPost
        rw [HV.out]
        refine bodyPost_ret (v := .tuple #[.agg #[.int .i64 0, .slice none 0 0], .int .i64 0, .int .i64 3]) ?_ rfl ⟨.slice none 0 0, rfl, nil_sl, FF.out⟩
        clear q0 q1 qf0 qf1 p0 p1 pf0 pf1 b4
        simp [results, Try.f28, go_sem, e0, e1]
      · obtain ⟨k3, hk3⟩ : ∃ k3, t[3]'(by omega) = k3 := ⟨_, rfl⟩
        have hg3 : t[3]? = some k3 := by rw [List.getElem?_eq_getElem (by omega), hk3]
        have hix : (⟨t.toArray⟩ : ByteArray)[3]'(by simp [ByteArray.size]; omega) = k3 := hk3
        clear hk3
        have h4' : ¬ ((t.length : Int) < 4) := by omega
        have ht3 := fun W : World => Sls.slice_to (P := Try.prog) W 9 Try.underlying9 t 3 3 rfl (by omega)
        have ht4 := fun W : World => Sls.slice_from (P := Try.prog) W 9 Try.underlying9 t 4 4 rfl (by omega)
        by_cases hk32 : k3 = 32
        · subst hk32
          have HC := Lib.hid (show ¬ (t.length < 4 ∨ (t[3]? ≠ some 32 ∧ t[3]? ≠ some 45)) from fun h => h.elim h4 (fun h => h.1 hg3))
          have HR := Lib.hid (fun w => Digit.read_any (t.take 3) (by simp; unfold maxLen; omega) w)
          have HUn := Lib.hid (fun w => unshow_any (t.drop 4) w (by simp; omega))
          have hul := uns_len (t.drop 4)
          rw [List.length_drop] at hul
          obtain ⟨⟨n1, e1⟩, hr1⟩ : ∃ p, readR (t.take 3) = p := ⟨_, rfl⟩
          obtain ⟨⟨u, e2⟩, hr2⟩ : ∃ p, unsP (t.drop 4) = p := ⟨_, rfl⟩
          simp only [hr1] at HR
          simp only [hr2] at HUn hul
          have HG := Lib.hid hg3
          have HR1 := Lib.hid hr1
          have HR2 := Lib.hid hr2
          clear hr1 hr2 hg3
          go_wp2_with fail
          refine (HL.out _).mono ?_
          rintro e w1 ⟨rfl, rfl⟩
          go_wp2_with fail
          refine (HR.out _).mono ?_
          rintro e w1 ⟨rfl, rfl⟩
          go_wp2_with fail
          refine (HUn.out _).mono ?_
          rintro e w1 ⟨rfl, hf⟩
          have D1 := Lib.hid (D.out.no hf)
          clear hf D q0 q1 qf0 qf1 p0 p1 pf0 pf1 hsf ht3 ht4 HL HR HUn
          have D := D1
          clear D1
          have hsz := D.out.res.lt
          have q0 := D.out.res.cell 0
          have q1 := D.out.res.cell 1
          have qf0 := D.out.res.frozen 0
          have qf1 := D.out.res.frozen 1
          have p0 := D.out.r.cell 0
          have p1 := D.out.r.cell 1
          have pf0 := D.out.r.frozen 0
          have pf1 := D.out.r.frozen 1
          simp at q0 q1 p0 p1
          by_cases hc1 : e1 = 0
          · subst hc1
            by_cases hc2 : e2 = 0
            · subst hc2
              by_cases hn100 : n1 < 100
              · have HV := Lib.hid (show readA s = ((0, []), 0, 3) by rw [← HF.out]; unfold readF; rw [HDD.out, HS.out]; simp only; rw [if_neg HC.out, HR1.out, HR2.out, if_pos (.inr (.inr (.inl hn100)))])
                go_wp2_with fail
                try rw [Exit.noGoto_ret]
                have b4 := (D.out.res.put 0 (.int .i64 0)).put 1 (.slice none 0 0)
                have FF := Lib.hid ((D.out.fr.setCell (p := ⟨w.heap.size, 0, none⟩) (.inr (Nat.le_refl _)) (.int .i64 0)).setCell (p := ⟨w.heap.size, 1, none⟩) (.inr (Nat.le_refl _)) (.slice none 0 0))
                simp at b4
                have e0 := b4.cell 0
                have e1 := b4.cell 1
                simp only [List.getElem?_toArray, List.getElem?_cons_zero, List.getElem?_cons_succ] at e0 e1
                unfold ReadPost
                rw [HV.out]
                refine bodyPost_ret (v := .tuple #[.agg #[.int .i64 0, .slice none 0 0], .int .i64 0, .int .i64 3]) ?_ rfl ⟨.slice none 0 0, rfl, nil_sl, FF.out⟩
                clear q0 q1 qf0 qf1 p0 p1 pf0 pf1 b4
                simp [results, Try.f28, go_sem, e0, e1]
              · have hn100' : 100 ≤ n1 := by omega
                by_cases hnum : 0 < a ∧ n1 ≠ num
                · obtain ⟨ha0, hnn⟩ := hnum
                  have HV := Lib.hid (show readA s = ((0, []), 0, 3) by rw [← HF.out]; unfold readF; rw [HDD.out, HS.out]; simp only; rw [if_neg HC.out, HR1.out, HR2.out, if_pos (.inr (.inr (.inr ⟨ha0, hnn⟩)))])
                  have hb1 : (n1 != num) = true := by rw [bne_iff_ne]; exact hnn
                  have ha1 : (0 : Int) < (a : Int) := by omega
                  clear hnn
                  go_wp2_with fail
                  try rw [Exit.noGoto_ret]
                  have b4 := (D.out.res.put 0 (.int .i64 0)).put 1 (.slice none 0 0)
                  have FF := Lib.hid ((D.out.fr.setCell (p := ⟨w.heap.size, 0, none⟩) (.inr (Nat.le_refl _)) (.int .i64 0)).setCell (p := ⟨w.heap.size, 1, none⟩) (.inr (Nat.le_refl _)) (.slice none 0 0))
                  simp at b4
                  have e0 := b4.cell 0
                  have e1 := b4.cell 1
                  simp only [List.getElem?_toArray, List.getElem?_cons_zero, List.getElem?_cons_succ] at e0 e1
                  unfold ReadPost
                  rw [HV.out]
                  refine bodyPost_ret (v := .tuple #[.agg #[.int .i64 0, .slice none 0 0], .int .i64 0, .int .i64 3]) ?_ rfl ⟨.slice none 0 0, rfl, nil_sl, FF.out⟩
                  clear q0 q1 qf0 qf1 p0 p1 pf0 pf1 b4
                  simp [results, Try.f28, go_sem, e0, e1]
                · have HC2 := Lib.hid (show ¬ ((0 : Int) ≠ 0 ∨ (0 : Int) ≠ 0 ∨ n1 < 100 ∨ (0 < a ∧ n1 ≠ num)) from fun h => by rcases h with h | h | h | h; exact h rfl; exact h rfl; exact hn100 h; exact hnum h)
                  have hsplit : a = 0 ∨ n1 = num := by
                    by_cases h0 : a = 0
                    · exact .inl h0
                    · refine .inr ?_
                      by_cases h1 : n1 = num
                      · exact h1
                      · exact absurd ⟨by omega, h1⟩ hnum
                  have hb : (decide ((0 : Int) < (a : Int)) && (n1 != num)) = false := by
                    rcases hsplit with h | h
                    · subst h; rfl
                    · subst h; simp
                  by_cases hl4 : j = 4200
                  · have HV := Lib.hid (show readA s = ((0, []), 0, 5) by rw [← HF.out]; unfold readF; rw [HDD.out, HS.out]; simp only; rw [if_neg HC.out, HR1.out, HR2.out, if_neg HC2.out, if_pos (by rw [← HJ.out]; exact hl4)])
                    subst hl4
                    rcases hsplit with h0 | h0
                    · subst h0
                      exfalso; omega
                    · subst h0
                      clear hnum hb
                      have hbn : (n1 != n1) = false := by simp
                      by_cases ha0 : 0 < a
                      · have ha1 : (0 : Int) < (a : Int) := by omega
                        go_wp2_with fail
                        try rw [Exit.noGoto_ret]
                        have b4 := (D.out.res.put 0 (.int .i64 0)).put 1 (.slice none 0 0)
                        have FF := Lib.hid ((D.out.fr.setCell (p := ⟨w.heap.size, 0, none⟩) (.inr (Nat.le_refl _)) (.int .i64 0)).setCell (p := ⟨w.heap.size, 1, none⟩) (.inr (Nat.le_refl _)) (.slice none 0 0))
                        simp at b4
                        have e0 := b4.cell 0
                        have e1 := b4.cell 1
                        simp only [List.getElem?_toArray, List.getElem?_cons_zero, List.getElem?_cons_succ] at e0 e1
                        unfold ReadPost
                        rw [HV.out]
                        refine bodyPost_ret (v := .tuple #[.agg #[.int .i64 0, .slice none 0 0], .int .i64 0, .int .i64 5]) ?_ rfl ⟨.slice none 0 0, rfl, nil_sl, FF.out⟩
                        clear q0 q1 qf0 qf1 p0 p1 pf0 pf1 b4
                        simp [results, Try.f28, go_sem, e0, e1]
                      · exfalso; omega
                  · have HC3 := Lib.hid (show ¬ L.length = 4200 by rw [← HJ.out]; exact hl4)
                    have hl4b : ((j : Int) == 4200) = false := by rw [beq_eq_false_iff_ne]; omega
                    have Own := Lib.hid (show w1.ownsRow 0 9 1 (.slice A j c) j (L.flatMap encL) from by have := D.out.g; rw [← HJ.out] at this; exact this)
                    have Own2 := Lib.hid (D.out.setn n1)
                    clear hl4 hnum
                    by_cases ha0 : a = 0
                    · subst ha0
                      go_upto_region 15 with (fail)
                      have D2 := Own2
                      have Ow2 := Lib.hid (show (w1.setCell ⟨w.heap.size + 1, 0, none⟩ (.int .i64 n1)).ownsRow 0 9 1 (.slice A j c) j (L.flatMap encL) from by have := D2.out.g; rw [← HJ.out] at this; exact this)
                      clear q0 q1 qf0 qf1 p0 p1 pf0 pf1 Own2 Own
                      generalize w1.setCell ⟨w.heap.size + 1, 0, none⟩ (.int .i64 n1) = w2 at D2 Ow2 ⊢
                      have hsz := D2.out.res.lt
                      have q0 := D2.out.res.cell 0
                      have q1 := D2.out.res.cell 1
                      have qf0 := D2.out.res.frozen 0
                      have qf1 := D2.out.res.frozen 1
                      have p0 := D2.out.r.cell 0
                      have p1 := D2.out.r.cell 1
                      have pf0 := D2.out.r.frozen 0
                      have pf1 := D2.out.r.frozen 1
                      simp at q0 q1 p0 p1
                      have hno : ¬ Of (.slice A j c) (w.heap.size + 1) := fun ho => by have := (D2.out.nw _ ho).1; omega
                      have Hno := Lib.hid hno
                      clear hno
                      go_upto_region 16 with (at_builtin; go_loud (refine wp_push rfl (.tmp 78) (.tmp 80) 22 rfl 9 (.string ByteArray.empty) 1 16 Try.underlying22 infoStr rfl (by decide) (.slice A j c) _ _ rfl Ow2.out #[.string ⟨u.toArray⟩] rfl rfl (one_lit rfl) (by omega) (by unfold maxLen; omega) ?_; intro g4 cap4 w4 p1' p2' p3'; have r0 := (D2.out.r.fr p2' Hno.out).cell 1; have r1 := (D2.out.r.fr p2' Hno.out).frozen 1; simp at r0; have D3 := Lib.hid (show RAt w n1 (L ++ [u]) (.slice (some ⟨g4, 0, none⟩) (j + 1) cap4) (w4.setCell ⟨w.heap.size + 1, 1, none⟩ (.slice (some ⟨g4, 0, none⟩) (j + 1) cap4)) from (by have e := HJ.out; have d := D2.out; subst e; exact d.push p1' p2' p3')); clear p1' p2' p3'))
                      clear q0 q1 qf0 qf1 p0 p1 pf0 pf1 r0 r1 Ow2 D2
                      generalize w4.setCell ⟨w.heap.size + 1, 1, none⟩ (.slice (some ⟨g4, 0, none⟩) (j + 1) cap4) = w5 at D3 ⊢
                      have hsz := D3.out.res.lt
                      have q0 := D3.out.res.cell 0
                      have q1 := D3.out.res.cell 1
                      have qf0 := D3.out.res.frozen 0
                      have qf1 := D3.out.res.frozen 1
                      have p0 := D3.out.r.cell 0
                      have p1 := D3.out.r.cell 1
                      have pf0 := D3.out.r.frozen 0
                      have pf1 := D3.out.r.frozen 1
                      simp at q0 q1 p0 p1
                      go_wp2_with fail
                      have HV := Lib.hid (show readA s = ((n1, L ++ [u]), 0 + t.length + 2, 0) by
                        rw [← HF.out]
                        unfold readF
                        rw [HDD.out, HS.out]; simp only; rw [if_neg HC.out, HR1.out, HR2.out, if_neg HC2.out, if_neg HC3.out, if_pos HG.out])
                      try rw [Exit.noGoto_ret]
                      have b4 := (D3.out.res.put 0 (.int .i64 n1)).put 1 (.slice (some ⟨g4, 0, none⟩) (j + 1) cap4)
                      have f4 : Fr (One w.heap.size) w5 ((w5.setCell ⟨w.heap.size, 0, none⟩ (.int .i64 n1)).setCell ⟨w.heap.size, 1, none⟩ (.slice (some ⟨g4, 0, none⟩) (j + 1) cap4)) := ((Fr.refl (One w.heap.size) w5).setCell (p := ⟨w.heap.size, 0, none⟩) (.inl rfl) _).setCell (p := ⟨w.heap.size, 1, none⟩) (.inl rfl) _
                      have G4 := Lib.hid (own_fr D3.out.g f4 (fun b hb e => by have e : b = w.heap.size := e; have := (D3.out.nw b hb).1; omega))
                      have FF := Lib.hid (D3.out.fr.trans f4 (fun b hb hl => by have hb : b = w.heap.size := hb; omega))
                      have HNW := Lib.hid (show ∀ b, Of (.slice (some ⟨g4, 0, none⟩) (j + 1) cap4) b → New w ((w5.setCell ⟨w.heap.size, 0, none⟩ (.int .i64 n1)).setCell ⟨w.heap.size, 1, none⟩ (.slice (some ⟨g4, 0, none⟩) (j + 1) cap4)) b from fun b hb => ⟨by have := (D3.out.nw b hb).1; omega, Nat.lt_of_lt_of_le (D3.out.nw b hb).2 f4.size⟩)
                      simp at b4
                      have e0 := b4.cell 0
                      have e1 := b4.cell 1
                      simp only [List.getElem?_toArray, List.getElem?_cons_zero, List.getElem?_cons_succ] at e0 e1
                      unfold ReadPost
                      rw [HV.out]
                      refine bodyPost_ret (v := .tuple #[.agg #[.int .i64 n1, .slice (some ⟨g4, 0, none⟩) (j + 1) cap4], .int .i64 (((t.length : Int) + 2)), .int .i64 0]) ?_ rfl ⟨_, ?_, Sls.own_slE G4.out (fun _ _ => rfl) (fun x hx => encL_rd (by
                        rcases List.mem_append.1 hx with hx | hx
                        · have := HX.out x hx; unfold maxLen; omega
                        · rw [List.mem_singleton.1 hx]; unfold maxLen; omega) _ _) HNW.out, FF.out⟩
                      · clear q0 q1 qf0 qf1 p0 p1 pf0 pf1 b4 f4
                        simp [results, Try.f28, go_sem, e0, e1]
                      · rw [show (((((n1, L ++ [u]), 0 + t.length + 2, (0 : Int)) : Rep × Nat × Int).2.1 : Nat) : Int) = ((t.length : Int) + 2) from by simp only; omega]
                    · have hnn : n1 = num := hsplit.elim (fun h => absurd h ha0) id
                      subst hnn
                      have ha1 : (0 : Int) < (a : Int) := by omega
                      have hbn : (n1 != n1) = false := by simp
                      clear hb
                      go_upto_region 15 with (fail)
                      have D2 := Own2
                      have Ow2 := Lib.hid (show (w1.setCell ⟨w.heap.size + 1, 0, none⟩ (.int .i64 n1)).ownsRow 0 9 1 (.slice A j c) j (L.flatMap encL) from by have := D2.out.g; rw [← HJ.out] at this; exact this)
                      clear q0 q1 qf0 qf1 p0 p1 pf0 pf1 Own2 Own
                      generalize w1.setCell ⟨w.heap.size + 1, 0, none⟩ (.int .i64 n1) = w2 at D2 Ow2 ⊢
                      have hsz := D2.out.res.lt
                      have q0 := D2.out.res.cell 0
                      have q1 := D2.out.res.cell 1
                      have qf0 := D2.out.res.frozen 0
                      have qf1 := D2.out.res.frozen 1
                      have p0 := D2.out.r.cell 0
                      have p1 := D2.out.r.cell 1
                      have pf0 := D2.out.r.frozen 0
                      have pf1 := D2.out.r.frozen 1
                      simp at q0 q1 p0 p1
                      have hno : ¬ Of (.slice A j c) (w.heap.size + 1) := fun ho => by have := (D2.out.nw _ ho).1; omega
                      have Hno := Lib.hid hno
                      clear hno
                      go_upto_region 16 with (at_builtin; go_loud (refine wp_push rfl (.tmp 78) (.tmp 80) 22 rfl 9 (.string ByteArray.empty) 1 16 Try.underlying22 infoStr rfl (by decide) (.slice A j c) _ _ rfl Ow2.out #[.string ⟨u.toArray⟩] rfl rfl (one_lit rfl) (by omega) (by unfold maxLen; omega) ?_; intro g4 cap4 w4 p1' p2' p3'; have r0 := (D2.out.r.fr p2' Hno.out).cell 1; have r1 := (D2.out.r.fr p2' Hno.out).frozen 1; simp at r0; have D3 := Lib.hid (show RAt w n1 (L ++ [u]) (.slice (some ⟨g4, 0, none⟩) (j + 1) cap4) (w4.setCell ⟨w.heap.size + 1, 1, none⟩ (.slice (some ⟨g4, 0, none⟩) (j + 1) cap4)) from (by have e := HJ.out; have d := D2.out; subst e; exact d.push p1' p2' p3')); clear p1' p2' p3'))
                      clear q0 q1 qf0 qf1 p0 p1 pf0 pf1 r0 r1 Ow2 D2
                      generalize w4.setCell ⟨w.heap.size + 1, 1, none⟩ (.slice (some ⟨g4, 0, none⟩) (j + 1) cap4) = w5 at D3 ⊢
                      have hsz := D3.out.res.lt
                      have q0 := D3.out.res.cell 0
                      have q1 := D3.out.res.cell 1
                      have qf0 := D3.out.res.frozen 0
                      have qf1 := D3.out.res.frozen 1
                      have p0 := D3.out.r.cell 0
                      have p1 := D3.out.r.cell 1
                      have pf0 := D3.out.r.frozen 0
                      have pf1 := D3.out.r.frozen 1
                      simp at q0 q1 p0 p1
                      go_wp2_with fail
                      have HV := Lib.hid (show readA s = ((n1, L ++ [u]), a + t.length + 2, 0) by
                        rw [← HF.out]
                        unfold readF
                        rw [HDD.out, HS.out]; simp only; rw [if_neg HC.out, HR1.out, HR2.out, if_neg HC2.out, if_neg HC3.out, if_pos HG.out])
                      try rw [Exit.noGoto_ret]
                      have b4 := (D3.out.res.put 0 (.int .i64 n1)).put 1 (.slice (some ⟨g4, 0, none⟩) (j + 1) cap4)
                      have f4 : Fr (One w.heap.size) w5 ((w5.setCell ⟨w.heap.size, 0, none⟩ (.int .i64 n1)).setCell ⟨w.heap.size, 1, none⟩ (.slice (some ⟨g4, 0, none⟩) (j + 1) cap4)) := ((Fr.refl (One w.heap.size) w5).setCell (p := ⟨w.heap.size, 0, none⟩) (.inl rfl) _).setCell (p := ⟨w.heap.size, 1, none⟩) (.inl rfl) _
                      have G4 := Lib.hid (own_fr D3.out.g f4 (fun b hb e => by have e : b = w.heap.size := e; have := (D3.out.nw b hb).1; omega))
                      have FF := Lib.hid (D3.out.fr.trans f4 (fun b hb hl => by have hb : b = w.heap.size := hb; omega))
                      have HNW := Lib.hid (show ∀ b, Of (.slice (some ⟨g4, 0, none⟩) (j + 1) cap4) b → New w ((w5.setCell ⟨w.heap.size, 0, none⟩ (.int .i64 n1)).setCell ⟨w.heap.size, 1, none⟩ (.slice (some ⟨g4, 0, none⟩) (j + 1) cap4)) b from fun b hb => ⟨by have := (D3.out.nw b hb).1; omega, Nat.lt_of_lt_of_le (D3.out.nw b hb).2 f4.size⟩)
                      simp at b4
                      have e0 := b4.cell 0
                      have e1 := b4.cell 1
                      simp only [List.getElem?_toArray, List.getElem?_cons_zero, List.getElem?_cons_succ] at e0 e1
                      unfold ReadPost
                      rw [HV.out]
                      refine bodyPost_ret (v := .tuple #[.agg #[.int .i64 n1, .slice (some ⟨g4, 0, none⟩) (j + 1) cap4], .int .i64 (((a : Int) + ((t.length : Int) + 2))), .int .i64 0]) ?_ rfl ⟨_, ?_, Sls.own_slE G4.out (fun _ _ => rfl) (fun x hx => encL_rd (by
                        rcases List.mem_append.1 hx with hx | hx
                        · have := HX.out x hx; unfold maxLen; omega
                        · rw [List.mem_singleton.1 hx]; unfold maxLen; omega) _ _) HNW.out, FF.out⟩
                      · clear q0 q1 qf0 qf1 p0 p1 pf0 pf1 b4 f4
                        simp [results, Try.f28, go_sem, e0, e1]
                      · rw [show (((((n1, L ++ [u]), a + t.length + 2, (0 : Int)) : Rep × Nat × Int).2.1 : Nat) : Int) = ((a : Int) + ((t.length : Int) + 2)) from by simp only; omega]
            · have HV := Lib.hid (show readA s = ((0, []), 0, 3) by rw [← HF.out]; unfold readF; rw [HDD.out, HS.out]; simp only; rw [if_neg HC.out, HR1.out, HR2.out, if_pos (.inr (.inl hc2))])
              have hb1 : ((e2 : Int) != 0) = true := by simpa using hc2
              clear hc2
              go_wp2_with fail
              try rw [Exit.noGoto_ret]
              have b4 := (D.out.res.put 0 (.int .i64 0)).put 1 (.slice none 0 0)
              have FF := Lib.hid ((D.out.fr.setCell (p := ⟨w.heap.size, 0, none⟩) (.inr (Nat.le_refl _)) (.int .i64 0)).setCell (p := ⟨w.heap.size, 1, none⟩) (.inr (Nat.le_refl _)) (.slice none 0 0))
              simp at b4
              have e0 := b4.cell 0
              have e1 := b4.cell 1
              simp only [List.getElem?_toArray, List.getElem?_cons_zero, List.getElem?_cons_succ] at e0 e1
              unfold ReadPost
              rw [HV.out]
              refine bodyPost_ret (v := .tuple #[.agg #[.int .i64 0, .slice none 0 0], .int .i64 0, .int .i64 3]) ?_ rfl ⟨.slice none 0 0, rfl, nil_sl, FF.out⟩
              clear q0 q1 qf0 qf1 p0 p1 pf0 pf1 b4
              simp [results, Try.f28, go_sem, e0, e1]
          · have HV := Lib.hid (show readA s = ((0, []), 0, 3) by rw [← HF.out]; unfold readF; rw [HDD.out, HS.out]; simp only; rw [if_neg HC.out, HR1.out, HR2.out, if_pos (.inl hc1)])
            have hb1 : ((e1 : Int) != 0) = true := by simpa using hc1
            clear hc1
            go_wp2_with fail
            try rw [Exit.noGoto_ret]
            have b4 := (D.out.res.put 0 (.int .i64 0)).put 1 (.slice none 0 0)
            have FF := Lib.hid ((D.out.fr.setCell (p := ⟨w.heap.size, 0, none⟩) (.inr (Nat.le_refl _)) (.int .i64 0)).setCell (p := ⟨w.heap.size, 1, none⟩) (.inr (Nat.le_refl _)) (.slice none 0 0))
            simp at b4
            have e0 := b4.cell 0
            have e1 := b4.cell 1
            simp only [List.getElem?_toArray, List.getElem?_cons_zero, List.getElem?_cons_succ] at e0 e1
            unfold ReadPost
            rw [HV.out]
            refine bodyPost_ret (v := .tuple #[.agg #[.int .i64 0, .slice none 0 0], .int .i64 0, .int .i64 3]) ?_ rfl ⟨.slice none 0 0, rfl, nil_sl, FF.out⟩
            clear q0 q1 qf0 qf1 p0 p1 pf0 pf1 b4
            simp [results, Try.f28, go_sem, e0, e1]
        · by_cases hk45 : k3 = 45
          · subst hk45
            have HC := Lib.hid (show ¬ (t.length < 4 ∨ (t[3]? ≠ some 32 ∧ t[3]? ≠ some 45)) from fun h => h.elim h4 (fun h => h.2 hg3))
            have HR := Lib.hid (fun w => Digit.read_any (t.take 3) (by simp; unfold maxLen; omega) w)
            have HUn := Lib.hid (fun w => unshow_any (t.drop 4) w (by simp; omega))
            have hul := uns_len (t.drop 4)
            rw [List.length_drop] at hul
            obtain ⟨⟨n1, e1⟩, hr1⟩ : ∃ p, readR (t.take 3) = p := ⟨_, rfl⟩
            obtain ⟨⟨u, e2⟩, hr2⟩ : ∃ p, unsP (t.drop 4) = p := ⟨_, rfl⟩
            simp only [hr1] at HR
            simp only [hr2] at HUn hul
            have HG := Lib.hid hg3
            have HR1 := Lib.hid hr1
            have HR2 := Lib.hid hr2
            clear hr1 hr2 hg3
            go_wp2_with fail
            refine (HL.out _).mono ?_
            rintro e w1 ⟨rfl, rfl⟩
            go_wp2_with fail
            refine (HR.out _).mono ?_
            rintro e w1 ⟨rfl, rfl⟩
            go_wp2_with fail
            refine (HUn.out _).mono ?_
            rintro e w1 ⟨rfl, hf⟩
            have D1 := Lib.hid (D.out.no hf)
            clear hf D q0 q1 qf0 qf1 p0 p1 pf0 pf1 hsf ht3 ht4 HL HR HUn
            have D := D1
            clear D1
            have hsz := D.out.res.lt
            have q0 := D.out.res.cell 0
            have q1 := D.out.res.cell 1
            have qf0 := D.out.res.frozen 0
            have qf1 := D.out.res.frozen 1
            have p0 := D.out.r.cell 0
            have p1 := D.out.r.cell 1
            have pf0 := D.out.r.frozen 0
            have pf1 := D.out.r.frozen 1
            simp at q0 q1 p0 p1
            by_cases hc1 : e1 = 0
            · subst hc1
              by_cases hc2 : e2 = 0
              · subst hc2
                by_cases hn100 : n1 < 100
                · have HV := Lib.hid (show readA s = ((0, []), 0, 3) by rw [← HF.out]; unfold readF; rw [HDD.out, HS.out]; simp only; rw [if_neg HC.out, HR1.out, HR2.out, if_pos (.inr (.inr (.inl hn100)))])
                  go_wp2_with fail
                  try rw [Exit.noGoto_ret]
                  have b4 := (D.out.res.put 0 (.int .i64 0)).put 1 (.slice none 0 0)
                  have FF := Lib.hid ((D.out.fr.setCell (p := ⟨w.heap.size, 0, none⟩) (.inr (Nat.le_refl _)) (.int .i64 0)).setCell (p := ⟨w.heap.size, 1, none⟩) (.inr (Nat.le_refl _)) (.slice none 0 0))
                  simp at b4
                  have e0 := b4.cell 0
                  have e1 := b4.cell 1
                  simp only [List.getElem?_toArray, List.getElem?_cons_zero, List.getElem?_cons_succ] at e0 e1
                  unfold ReadPost
                  rw [HV.out]
                  refine bodyPost_ret (v := .tuple #[.agg #[.int .i64 0, .slice none 0 0], .int .i64 0, .int .i64 3]) ?_ rfl ⟨.slice none 0 0, rfl, nil_sl, FF.out⟩
                  clear q0 q1 qf0 qf1 p0 p1 pf0 pf1 b4
                  simp [results, Try.f28, go_sem, e0, e1]
                · have hn100' : 100 ≤ n1 := by omega
                  by_cases hnum : 0 < a ∧ n1 ≠ num
                  · obtain ⟨ha0, hnn⟩ := hnum
                    have HV := Lib.hid (show readA s = ((0, []), 0, 3) by rw [← HF.out]; unfold readF; rw [HDD.out, HS.out]; simp only; rw [if_neg HC.out, HR1.out, HR2.out, if_pos (.inr (.inr (.inr ⟨ha0, hnn⟩)))])
                    have hb1 : (n1 != num) = true := by rw [bne_iff_ne]; exact hnn
                    have ha1 : (0 : Int) < (a : Int) := by omega
                    clear hnn
                    go_wp2_with fail
                    try rw [Exit.noGoto_ret]
                    have b4 := (D.out.res.put 0 (.int .i64 0)).put 1 (.slice none 0 0)
                    have FF := Lib.hid ((D.out.fr.setCell (p := ⟨w.heap.size, 0, none⟩) (.inr (Nat.le_refl _)) (.int .i64 0)).setCell (p := ⟨w.heap.size, 1, none⟩) (.inr (Nat.le_refl _)) (.slice none 0 0))
                    simp at b4
                    have e0 := b4.cell 0
                    have e1 := b4.cell 1
                    simp only [List.getElem?_toArray, List.getElem?_cons_zero, List.getElem?_cons_succ] at e0 e1
                    unfold ReadPost
                    rw [HV.out]
                    refine bodyPost_ret (v := .tuple #[.agg #[.int .i64 0, .slice none 0 0], .int .i64 0, .int .i64 3]) ?_ rfl ⟨.slice none 0 0, rfl, nil_sl, FF.out⟩
                    clear q0 q1 qf0 qf1 p0 p1 pf0 pf1 b4
                    simp [results, Try.f28, go_sem, e0, e1]
                  · have HC2 := Lib.hid (show ¬ ((0 : Int) ≠ 0 ∨ (0 : Int) ≠ 0 ∨ n1 < 100 ∨ (0 < a ∧ n1 ≠ num)) from fun h => by rcases h with h | h | h | h; exact h rfl; exact h rfl; exact hn100 h; exact hnum h)
                    have hsplit : a = 0 ∨ n1 = num := by
                      by_cases h0 : a = 0
                      · exact .inl h0
                      · refine .inr ?_
                        by_cases h1 : n1 = num
                        · exact h1
                        · exact absurd ⟨by omega, h1⟩ hnum
                    have hb : (decide ((0 : Int) < (a : Int)) && (n1 != num)) = false := by
                      rcases hsplit with h | h
                      · subst h; rfl
                      · subst h; simp
                    by_cases hl4 : j = 4200
                    · have HV := Lib.hid (show readA s = ((0, []), 0, 5) by rw [← HF.out]; unfold readF; rw [HDD.out, HS.out]; simp only; rw [if_neg HC.out, HR1.out, HR2.out, if_neg HC2.out, if_pos (by rw [← HJ.out]; exact hl4)])
                      subst hl4
                      rcases hsplit with h0 | h0
                      · subst h0
                        exfalso; omega
                      · subst h0
                        clear hnum hb
                        have hbn : (n1 != n1) = false := by simp
                        by_cases ha0 : 0 < a
                        · have ha1 : (0 : Int) < (a : Int) := by omega
                          go_wp2_with fail
                          try rw [Exit.noGoto_ret]
                          have b4 := (D.out.res.put 0 (.int .i64 0)).put 1 (.slice none 0 0)
                          have FF := Lib.hid ((D.out.fr.setCell (p := ⟨w.heap.size, 0, none⟩) (.inr (Nat.le_refl _)) (.int .i64 0)).setCell (p := ⟨w.heap.size, 1, none⟩) (.inr (Nat.le_refl _)) (.slice none 0 0))
                          simp at b4
                          have e0 := b4.cell 0
                          have e1 := b4.cell 1
                          simp only [List.getElem?_toArray, List.getElem?_cons_zero, List.getElem?_cons_succ] at e0 e1
                          unfold ReadPost
                          rw [HV.out]
                          refine bodyPost_ret (v := .tuple #[.agg #[.int .i64 0, .slice none 0 0], .int .i64 0, .int .i64 5]) ?_ rfl ⟨.slice none 0 0, rfl, nil_sl, FF.out⟩
                          clear q0 q1 qf0 qf1 p0 p1 pf0 pf1 b4
                          simp [results, Try.f28, go_sem, e0, e1]
                        · exfalso; omega
                    · have HC3 := Lib.hid (show ¬ L.length = 4200 by rw [← HJ.out]; exact hl4)
                      have hl4b : ((j : Int) == 4200) = false := by rw [beq_eq_false_iff_ne]; omega
                      have Own := Lib.hid (show w1.ownsRow 0 9 1 (.slice A j c) j (L.flatMap encL) from by have := D.out.g; rw [← HJ.out] at this; exact this)
                      have Own2 := Lib.hid (D.out.setn n1)
                      clear hl4 hnum
                      by_cases ha0 : a = 0
                      · subst ha0
                        go_upto_region 15 with (fail)
                        have D2 := Own2
                        have Ow2 := Lib.hid (show (w1.setCell ⟨w.heap.size + 1, 0, none⟩ (.int .i64 n1)).ownsRow 0 9 1 (.slice A j c) j (L.flatMap encL) from by have := D2.out.g; rw [← HJ.out] at this; exact this)
                        clear q0 q1 qf0 qf1 p0 p1 pf0 pf1 Own2 Own
                        generalize w1.setCell ⟨w.heap.size + 1, 0, none⟩ (.int .i64 n1) = w2 at D2 Ow2 ⊢
                        have hsz := D2.out.res.lt
                        have q0 := D2.out.res.cell 0
                        have q1 := D2.out.res.cell 1
                        have qf0 := D2.out.res.frozen 0
                        have qf1 := D2.out.res.frozen 1
                        have p0 := D2.out.r.cell 0
                        have p1 := D2.out.r.cell 1
                        have pf0 := D2.out.r.frozen 0
                        have pf1 := D2.out.r.frozen 1
                        simp at q0 q1 p0 p1
                        have hno : ¬ Of (.slice A j c) (w.heap.size + 1) := fun ho => by have := (D2.out.nw _ ho).1; omega
                        have Hno := Lib.hid hno
                        clear hno
                        go_upto_region 16 with (at_builtin; go_loud (refine wp_push rfl (.tmp 78) (.tmp 80) 22 rfl 9 (.string ByteArray.empty) 1 16 Try.underlying22 infoStr rfl (by decide) (.slice A j c) _ _ rfl Ow2.out #[.string ⟨u.toArray⟩] rfl rfl (one_lit rfl) (by omega) (by unfold maxLen; omega) ?_; intro g4 cap4 w4 p1' p2' p3'; have r0 := (D2.out.r.fr p2' Hno.out).cell 1; have r1 := (D2.out.r.fr p2' Hno.out).frozen 1; simp at r0; have D3 := Lib.hid (show RAt w n1 (L ++ [u]) (.slice (some ⟨g4, 0, none⟩) (j + 1) cap4) (w4.setCell ⟨w.heap.size + 1, 1, none⟩ (.slice (some ⟨g4, 0, none⟩) (j + 1) cap4)) from (by have e := HJ.out; have d := D2.out; subst e; exact d.push p1' p2' p3')); clear p1' p2' p3'))
                        clear q0 q1 qf0 qf1 p0 p1 pf0 pf1 r0 r1 Ow2 D2
                        generalize w4.setCell ⟨w.heap.size + 1, 1, none⟩ (.slice (some ⟨g4, 0, none⟩) (j + 1) cap4) = w5 at D3 ⊢
                        have hsz := D3.out.res.lt
                        have q0 := D3.out.res.cell 0
                        have q1 := D3.out.res.cell 1
                        have qf0 := D3.out.res.frozen 0
                        have qf1 := D3.out.res.frozen 1
                        have p0 := D3.out.r.cell 0
                        have p1 := D3.out.r.cell 1
                        have pf0 := D3.out.r.frozen 0
                        have pf1 := D3.out.r.frozen 1
                        simp at q0 q1 p0 p1
                        go_wp2_with fail
                        obtain ⟨f', hf'⟩ : ∃ f', f = f' + 1 := ⟨f - 1, by omega⟩
                        subst hf'
                        have HN := Lib.hid (show readF (f' + 1) s (0 + t.length + 2) n1 (L ++ [u]) = readA s by
                          rw [← HF.out]
                          conv => rhs; unfold readF
                          rw [HDD.out, HS.out]; simp only; rw [if_neg HC.out, HR1.out, HR2.out, if_neg HC2.out, if_neg HC3.out, if_neg (by rw [HG.out]; decide)])
                        go_roundw
                        case rel => exact ⟨0 + t.length + 2, n1, L ++ [u], _, f', j + 1, (by first | go_num | (congr 1; omega)), by omega, by omega, by omega, (show j + 1 = _ by rw [HJ.out]; simp), (show ∀ x ∈ L ++ [u], x.length ≤ 1000000 from fun x hx => (List.mem_append.1 hx).elim (HX.out x) (fun h => by rw [List.mem_singleton.1 h]; omega)), HN.out, D3.out⟩
                        case measure => simp [intOf]; omega
                      · have hnn : n1 = num := hsplit.elim (fun h => absurd h ha0) id
                        subst hnn
                        have ha1 : (0 : Int) < (a : Int) := by omega
                        have hbn : (n1 != n1) = false := by simp
                        clear hb
                        go_upto_region 15 with (fail)
                        have D2 := Own2
                        have Ow2 := Lib.hid (show (w1.setCell ⟨w.heap.size + 1, 0, none⟩ (.int .i64 n1)).ownsRow 0 9 1 (.slice A j c) j (L.flatMap encL) from by have := D2.out.g; rw [← HJ.out] at this; exact this)
                        clear q0 q1 qf0 qf1 p0 p1 pf0 pf1 Own2 Own
                        generalize w1.setCell ⟨w.heap.size + 1, 0, none⟩ (.int .i64 n1) = w2 at D2 Ow2 ⊢
                        have hsz := D2.out.res.lt
                        have q0 := D2.out.res.cell 0
                        have q1 := D2.out.res.cell 1
                        have qf0 := D2.out.res.frozen 0
                        have qf1 := D2.out.res.frozen 1
                        have p0 := D2.out.r.cell 0
                        have p1 := D2.out.r.cell 1
                        have pf0 := D2.out.r.frozen 0
                        have pf1 := D2.out.r.frozen 1
                        simp at q0 q1 p0 p1
                        have hno : ¬ Of (.slice A j c) (w.heap.size + 1) := fun ho => by have := (D2.out.nw _ ho).1; omega
                        have Hno := Lib.hid hno
                        clear hno
                        go_upto_region 16 with (at_builtin; go_loud (refine wp_push rfl (.tmp 78) (.tmp 80) 22 rfl 9 (.string ByteArray.empty) 1 16 Try.underlying22 infoStr rfl (by decide) (.slice A j c) _ _ rfl Ow2.out #[.string ⟨u.toArray⟩] rfl rfl (one_lit rfl) (by omega) (by unfold maxLen; omega) ?_; intro g4 cap4 w4 p1' p2' p3'; have r0 := (D2.out.r.fr p2' Hno.out).cell 1; have r1 := (D2.out.r.fr p2' Hno.out).frozen 1; simp at r0; have D3 := Lib.hid (show RAt w n1 (L ++ [u]) (.slice (some ⟨g4, 0, none⟩) (j + 1) cap4) (w4.setCell ⟨w.heap.size + 1, 1, none⟩ (.slice (some ⟨g4, 0, none⟩) (j + 1) cap4)) from (by have e := HJ.out; have d := D2.out; subst e; exact d.push p1' p2' p3')); clear p1' p2' p3'))
                        clear q0 q1 qf0 qf1 p0 p1 pf0 pf1 r0 r1 Ow2 D2
                        generalize w4.setCell ⟨w.heap.size + 1, 1, none⟩ (.slice (some ⟨g4, 0, none⟩) (j + 1) cap4) = w5 at D3 ⊢
                        have hsz := D3.out.res.lt
                        have q0 := D3.out.res.cell 0
                        have q1 := D3.out.res.cell 1
                        have qf0 := D3.out.res.frozen 0
                        have qf1 := D3.out.res.frozen 1
                        have p0 := D3.out.r.cell 0
                        have p1 := D3.out.r.cell 1
                        have pf0 := D3.out.r.frozen 0
                        have pf1 := D3.out.r.frozen 1
                        simp at q0 q1 p0 p1
                        go_wp2_with fail
                        obtain ⟨f', hf'⟩ : ∃ f', f = f' + 1 := ⟨f - 1, by omega⟩
                        subst hf'
                        have HN := Lib.hid (show readF (f' + 1) s (a + t.length + 2) n1 (L ++ [u]) = readA s by
                          rw [← HF.out]
                          conv => rhs; unfold readF
                          rw [HDD.out, HS.out]; simp only; rw [if_neg HC.out, HR1.out, HR2.out, if_neg HC2.out, if_neg HC3.out, if_neg (by rw [HG.out]; decide)])
                        go_roundw
                        case rel => exact ⟨a + t.length + 2, n1, L ++ [u], _, f', j + 1, (by first | go_num | (congr 1; omega)), by omega, by omega, by omega, (show j + 1 = _ by rw [HJ.out]; simp), (show ∀ x ∈ L ++ [u], x.length ≤ 1000000 from fun x hx => (List.mem_append.1 hx).elim (HX.out x) (fun h => by rw [List.mem_singleton.1 h]; omega)), HN.out, D3.out⟩
                        case measure => simp [intOf]; omega
              · have HV := Lib.hid (show readA s = ((0, []), 0, 3) by rw [← HF.out]; unfold readF; rw [HDD.out, HS.out]; simp only; rw [if_neg HC.out, HR1.out, HR2.out, if_pos (.inr (.inl hc2))])
                have hb1 : ((e2 : Int) != 0) = true := by simpa using hc2
                clear hc2
                go_wp2_with fail
                try rw [Exit.noGoto_ret]
                have b4 := (D.out.res.put 0 (.int .i64 0)).put 1 (.slice none 0 0)
                have FF := Lib.hid ((D.out.fr.setCell (p := ⟨w.heap.size, 0, none⟩) (.inr (Nat.le_refl _)) (.int .i64 0)).setCell (p := ⟨w.heap.size, 1, none⟩) (.inr (Nat.le_refl _)) (.slice none 0 0))
                simp at b4
                have e0 := b4.cell 0
                have e1 := b4.cell 1
                simp only [List.getElem?_toArray, List.getElem?_cons_zero, List.getElem?_cons_succ] at e0 e1
                unfold ReadPost
                rw [HV.out]
                refine bodyPost_ret (v := .tuple #[.agg #[.int .i64 0, .slice none 0 0], .int .i64 0, .int .i64 3]) ?_ rfl ⟨.slice none 0 0, rfl, nil_sl, FF.out⟩
                clear q0 q1 qf0 qf1 p0 p1 pf0 pf1 b4
                simp [results, Try.f28, go_sem, e0, e1]
            · have HV := Lib.hid (show readA s = ((0, []), 0, 3) by rw [← HF.out]; unfold readF; rw [HDD.out, HS.out]; simp only; rw [if_neg HC.out, HR1.out, HR2.out, if_pos (.inl hc1)])
              have hb1 : ((e1 : Int) != 0) = true := by simpa using hc1
              clear hc1
              go_wp2_with fail
              try rw [Exit.noGoto_ret]
              have b4 := (D.out.res.put 0 (.int .i64 0)).put 1 (.slice none 0 0)
              have FF := Lib.hid ((D.out.fr.setCell (p := ⟨w.heap.size, 0, none⟩) (.inr (Nat.le_refl _)) (.int .i64 0)).setCell (p := ⟨w.heap.size, 1, none⟩) (.inr (Nat.le_refl _)) (.slice none 0 0))
              simp at b4
              have e0 := b4.cell 0
              have e1 := b4.cell 1
              simp only [List.getElem?_toArray, List.getElem?_cons_zero, List.getElem?_cons_succ] at e0 e1
              unfold ReadPost
              rw [HV.out]
              refine bodyPost_ret (v := .tuple #[.agg #[.int .i64 0, .slice none 0 0], .int .i64 0, .int .i64 3]) ?_ rfl ⟨.slice none 0 0, rfl, nil_sl, FF.out⟩
              clear q0 q1 qf0 qf1 p0 p1 pf0 pf1 b4
              simp [results, Try.f28, go_sem, e0, e1]
          · have HV := Lib.hid (show readA s = ((0, []), 0, 3) by
              rw [← HF.out]; unfold readF; rw [HDD.out, HS.out]; simp only
              rw [if_pos (.inr ⟨by rw [hg3]; intro e; injection e with e; exact hk32 e, by rw [hg3]; intro e; injection e with e; exact hk45 e⟩)])
            have hb1 : ((k3.toNat : Int) != 32) = true := by rw [bne_iff_ne]; intro e; exact hk32 (UInt8.toNat_inj.1 (by show k3.toNat = 32; omega))
            have hb2 : ((k3.toNat : Int) != 45) = true := by rw [bne_iff_ne]; intro e; exact hk45 (UInt8.toNat_inj.1 (by show k3.toNat = 45; omega))
            clear hk32 hk45 hg3
            go_wp2_with fail
            refine (HL.out _).mono ?_
            rintro e w1 ⟨rfl, rfl⟩
            go_wp2_with fail
            try rw [Exit.noGoto_ret]
            have b4 := (D.out.res.put 0 (.int .i64 0)).put 1 (.slice none 0 0)
            have FF := Lib.hid ((D.out.fr.setCell (p := ⟨w.heap.size, 0, none⟩) (.inr (Nat.le_refl _)) (.int .i64 0)).setCell (p := ⟨w.heap.size, 1, none⟩) (.inr (Nat.le_refl _)) (.slice none 0 0))
            simp at b4
            have e0 := b4.cell 0
            have e1 := b4.cell 1
            simp only [List.getElem?_toArray, List.getElem?_cons_zero, List.getElem?_cons_succ] at e0 e1
            unfold ReadPost
            rw [HV.out]
            refine bodyPost_ret (v := .tuple #[.agg #[.int .i64 0, .slice none 0 0], .int .i64 0, .int .i64 3]) ?_ rfl ⟨.slice none 0 0, rfl, nil_sl, FF.out⟩
            clear q0 q1 qf0 qf1 p0 p1 pf0 pf1 b4
            simp [results, Try.f28, go_sem, e0, e1]
end Ans
end Go.Proofs.Ytmmdiccpifepfaa
