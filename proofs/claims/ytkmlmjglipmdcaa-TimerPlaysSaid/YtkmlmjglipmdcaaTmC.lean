/- Package timer: its reference: Set. Printed by gen_tmc.py. -/
import Derived.Test.YtkmlmjglipmdcaaTmB
namespace Go.Proofs.Ytkmlmjglipmdcaa
open Go.RowKit
set_option linter.unusedVariables false
set_option linter.unusedSimpArgs false
namespace Tm
open Sls
section
variable {w w' : World} {S : Nat → Prop} {vL : Value} {L : List A2} {most : Int}
theorem tw_at {L : List A2} {x : A2} {k : Nat} (hk : k ≤ L.length) (h1 : ∀ j (hj : j < L.length), j < k → lt2 L[j] x = true) (h2 : k = L.length ∨ ∃ h : k < L.length, lt2 L[k] x = false) : ins x L = L.take k ++ x :: L.drop k := by
  unfold ins
  induction L generalizing k with
  | nil => simp
  | cons a L ih =>
    cases k with
    | zero =>
      rcases h2 with h2 | ⟨h, h2⟩
      · simp at h2
      · rw [List.takeWhile_cons_of_neg (by simpa using h2), List.dropWhile_cons_of_neg (by simpa using h2)]
        rfl
    | succ k =>
      have ha : lt2 a x = true := h1 0 (by simp) (by omega)
      rw [List.takeWhile_cons_of_pos (p := fun m => lt2 m x) ha, List.dropWhile_cons_of_pos (p := fun m => lt2 m x) ha]
      have := ih (k := k) (by simpa using hk) (fun j hj hjk => h1 (j + 1) (by simpa using hj) (by omega)) (by
        rcases h2 with h2 | ⟨h, h2⟩
        · left; simpa using h2
        · right; exact ⟨by simpa using h, h2⟩)
      rw [List.take_succ_cons, List.drop_succ_cons, List.cons_append, List.cons_append, this]
set_option maxRecDepth 100000 in
set_option maxHeartbeats 16000000 in
theorem rset_any (h : RT w S vL L) (hln : L.length ≤ 4096) (id t : Int) : Calls Try.prog 11 #[agT vL most, .int .i64 id, .int .i64 t] w (RTells (setR most L id t).1 (.int .i64 (setR most L id t).2) most S w) := by
  obtain ⟨A, c, rfl, hA1, hA2⟩ := h.form
  have X := (Blk.new w 37 #[.slice A L.length c, .int .i64 most]).alloc (.cells #[.slice none 0 0, .int .i64 0] 37)
  have Y := Blk.new (w.alloc (.cells #[.slice A L.length c, .int .i64 most] 37)) 37 #[.slice none 0 0, .int .i64 0]
  have F1 := ((Fr.refl No w).alloc (.cells #[.slice A L.length c, .int .i64 most] 37)).alloc (.cells #[.slice none 0 0, .int .i64 0] 37)
  rw [size_alloc] at Y
  obtain ⟨bx, hbx⟩ : ∃ bx, w.heap.size = bx := ⟨_, rfl⟩
  obtain ⟨br, hbr⟩ : ∃ br, bx + 1 = br := ⟨_, rfl⟩
  rw [hbx] at X Y
  rw [hbr] at Y
  have HBX := Lib.hid (And.intro hbx hbr)
  have hne1 : bx ≠ br := by omega
  have hne2 : br ≠ bx := by omega
  have h1 := h.no F1
  have HPL := Lib.hid (rplace_any (most := most) h1 id)
  have HCA := Lib.hid (fun (X : World) (hf : Fr No ((w.alloc (.cells #[.slice A L.length c, .int .i64 most] 37)).alloc (.cells #[.slice none 0 0, .int .i64 0] 37)) X) => rcancel_any (most := most) (h1.no hf) hln id)
  obtain ⟨n, hn⟩ : ∃ n, n = L.length := ⟨_, rfl⟩
  have HWOL := Lib.hid (show (wo L id).length ≤ 4096 by unfold wo; exact Nat.le_trans (List.length_filter_le _ _) hln)
  have H := Lib.hid h
  rw [← hn] at H X Y F1 HPL HCA hA1 hln
  rw [← hn]
  have HN := Lib.hid hn
  by_cases ht : t < 0 ∨ 1099511627776 < t
  · have e : setR most L id t = (L, 1) := by unfold setR; rw [if_pos ht]
    rw [e]
    clear h h1 hn e HCA HPL
    rcases ht with ht | ht
    all_goals
      go_enter Try.func11, Try.ntmps11
      go_upto_region 1 with (fail)
      generalize (w.alloc (.cells #[.slice A n c, .int .i64 most] 37)).alloc (.cells #[.slice none 0 0, .int .i64 0] 37) = w1 at X Y F1 ⊢
      have XH := Lib.hid X
      have YH := Lib.hid Y
      have FH := Lib.hid F1
      have Xo := X
      have x0 := Xo.cell 0
      have x1 := Xo.cell 1
      have xf0 := Xo.frozen 0
      have xf1 := Xo.frozen 1
      simp only [List.getElem?_toArray, List.getElem?_cons_zero, List.getElem?_cons_succ] at x0 x1
      have Yo := Y
      have y0 := Yo.cell 0
      have y1 := Yo.cell 1
      have yf0 := Yo.frozen 0
      have yf1 := Yo.frozen 1
      simp only [List.getElem?_toArray, List.getElem?_cons_zero, List.getElem?_cons_succ] at y0 y1
      clear Xo Yo X Y F1 hbx hbr
      go_wp2_with fail
      all_goals try (exfalso; omega)
      have f9 : Fr No w ((w1.setCell ⟨br, 0, none⟩ (.slice A n c)).setCell ⟨br, 1, none⟩ (.int .i64 most)) := (((FH.out).setCell (p := ⟨br, 0, none⟩) (.inr (by have := HBX.out; show w.heap.size ≤ br; omega)) _).setCell (p := ⟨br, 1, none⟩) (.inr (by have := HBX.out; show w.heap.size ≤ br; omega)) _)
      have HE := Lib.hid (show RTells L (.int .i64 1) most S w (.returned (.tuple #[agT (.slice A n c) most, .int .i64 1])) ((w1.setCell ⟨br, 0, none⟩ (.slice A n c)).setCell ⟨br, 1, none⟩ (.int .i64 most)) from ⟨S, .slice A n c, rfl, H.out.no f9, fun k hk => .inl hk, f9⟩)
      have b9 := ((YH.out.put 0 (.slice A n c)).put 1 (.int .i64 most))
      simp only [List.setIfInBounds_toArray, List.set_cons_zero, List.set_cons_succ] at b9
      have e0 := b9.cell 0
      have e1 := b9.cell 1
      simp only [List.getElem?_toArray, List.getElem?_cons_zero, List.getElem?_cons_succ] at e0 e1
      refine bodyPost_ret (v := .tuple #[.agg #[.slice A n c, .int .i64 most], .int .i64 1]) ?_ rfl HE.out
      clear b9 HE f9
      simp [results, Try.f11, go_sem, e0, e1]
  · have htn1 : ¬ t < 0 := by omega
    have htn2 : ¬ 1099511627776 < t := by omega
    obtain ⟨p, hp⟩ : ∃ p, p = placeA L id := ⟨_, rfl⟩
    rw [← hp] at HPL
    have hpc : (p < 0 ∧ hasId L id = false) ∨ (0 ≤ p ∧ hasId L id = true) := by
      rcases placeA_cases L id with ⟨a1, a2⟩ | ⟨k, _, a1, a2, _⟩
      · left; exact ⟨by omega, a2⟩
      · right; exact ⟨by omega, a2⟩
    by_cases hful : hasId L id = false ∧ most ≤ L.length
    · have e : setR most L id t = (L, 6) := by unfold setR; rw [if_neg ht, if_pos hful]
      rw [e]
      have hp0 : p < 0 := by rcases hpc with g | g; exact g.1; rw [hful.1] at g; cases g.2
      have hm : most ≤ (n : Int) := by rw [hn]; exact hful.2
      clear h h1 hn e HCA hp hpc hful ht
      go_enter Try.func11, Try.ntmps11
      go_upto_region 1 with (fail)
      generalize (w.alloc (.cells #[.slice A n c, .int .i64 most] 37)).alloc (.cells #[.slice none 0 0, .int .i64 0] 37) = w1 at X Y F1 HPL ⊢
      have XH := Lib.hid X
      have YH := Lib.hid Y
      have FH := Lib.hid F1
      have Xo := X
      have x0 := Xo.cell 0
      have x1 := Xo.cell 1
      have xf0 := Xo.frozen 0
      have xf1 := Xo.frozen 1
      simp only [List.getElem?_toArray, List.getElem?_cons_zero, List.getElem?_cons_succ] at x0 x1
      have Yo := Y
      have y0 := Yo.cell 0
      have y1 := Yo.cell 1
      have yf0 := Yo.frozen 0
      have yf1 := Yo.frozen 1
      simp only [List.getElem?_toArray, List.getElem?_cons_zero, List.getElem?_cons_succ] at y0 y1
      clear Xo Yo X Y F1 hbx hbr
      go_wp2_with fail
      refine HPL.out.mono ?_
      rintro e w2 ⟨rfl, hf⟩
      have XH2 := Lib.hid (XH.out.fr hf (fun h => h))
      have YH2 := Lib.hid (YH.out.fr hf (fun h => h))
      have FH2 := Lib.hid (FH.out.then_no hf)
      clear x0 x1 xf0 xf1 y0 y1 yf0 yf1 hf
      have Xo := XH2.out
      have x0 := Xo.cell 0
      have x1 := Xo.cell 1
      have xf0 := Xo.frozen 0
      have xf1 := Xo.frozen 1
      simp only [List.getElem?_toArray, List.getElem?_cons_zero, List.getElem?_cons_succ] at x0 x1
      have Yo := YH2.out
      have y0 := Yo.cell 0
      have y1 := Yo.cell 1
      have yf0 := Yo.frozen 0
      have yf1 := Yo.frozen 1
      simp only [List.getElem?_toArray, List.getElem?_cons_zero, List.getElem?_cons_succ] at y0 y1
      clear Xo Yo
      go_wp2_with fail
      all_goals try (exfalso; omega)
      have f9 : Fr No w ((w2.setCell ⟨br, 0, none⟩ (.slice A n c)).setCell ⟨br, 1, none⟩ (.int .i64 most)) := (((FH2.out).setCell (p := ⟨br, 0, none⟩) (.inr (by have := HBX.out; show w.heap.size ≤ br; omega)) _).setCell (p := ⟨br, 1, none⟩) (.inr (by have := HBX.out; show w.heap.size ≤ br; omega)) _)
      have HE := Lib.hid (show RTells L (.int .i64 6) most S w (.returned (.tuple #[agT (.slice A n c) most, .int .i64 6])) ((w2.setCell ⟨br, 0, none⟩ (.slice A n c)).setCell ⟨br, 1, none⟩ (.int .i64 most)) from ⟨S, .slice A n c, rfl, H.out.no f9, fun k hk => .inl hk, f9⟩)
      have b9 := ((YH2.out.put 0 (.slice A n c)).put 1 (.int .i64 most))
      simp only [List.setIfInBounds_toArray, List.set_cons_zero, List.set_cons_succ] at b9
      have e0 := b9.cell 0
      have e1 := b9.cell 1
      simp only [List.getElem?_toArray, List.getElem?_cons_zero, List.getElem?_cons_succ] at e0 e1
      refine bodyPost_ret (v := .tuple #[.agg #[.slice A n c, .int .i64 most], .int .i64 6]) ?_ rfl HE.out
      clear b9 HE f9
      simp [results, Try.f11, go_sem, e0, e1]
    · have e : setR most L id t = (ins (id, t) (wo L id), 0) := by unfold setR; rw [if_neg ht, if_neg hful]
      rw [e]
      obtain ⟨L1, hL1⟩ : ∃ L1, L1 = wo L id := ⟨_, rfl⟩
      rw [← hL1] at HWOL ⊢
      simp only [← hL1] at HCA
      clear hL1
      have hg : (p < 0 ∧ (n : Int) < most) ∨ 0 ≤ p := by
        rcases hpc with g | g
        · left
          refine ⟨g.1, ?_⟩
          have : ¬ most ≤ (L.length : Int) := fun g2 => hful ⟨g.2, g2⟩
          rw [hn]; omega
        · exact .inr g.1
      clear h h1 hn e hp hpc hful ht
      go_enter Try.func11, Try.ntmps11
      go_upto_region 1 with (fail)
      generalize (w.alloc (.cells #[.slice A n c, .int .i64 most] 37)).alloc (.cells #[.slice none 0 0, .int .i64 0] 37) = w1 at X Y F1 HPL HCA ⊢
      have XH := Lib.hid X
      have YH := Lib.hid Y
      have FH := Lib.hid F1
      have Xo := X
      have x0 := Xo.cell 0
      have x1 := Xo.cell 1
      have xf0 := Xo.frozen 0
      have xf1 := Xo.frozen 1
      simp only [List.getElem?_toArray, List.getElem?_cons_zero, List.getElem?_cons_succ] at x0 x1
      have Yo := Y
      have y0 := Yo.cell 0
      have y1 := Yo.cell 1
      have yf0 := Yo.frozen 0
      have yf1 := Yo.frozen 1
      simp only [List.getElem?_toArray, List.getElem?_cons_zero, List.getElem?_cons_succ] at y0 y1
      clear Xo Yo X Y F1 hbx hbr
      go_wp2_with fail
      refine HPL.out.mono ?_
      rintro e w2 ⟨rfl, hf⟩
      have XH2 := Lib.hid (XH.out.fr hf (fun h => h))
      have YH2 := Lib.hid (YH.out.fr hf (fun h => h))
      have FH2 := Lib.hid (FH.out.then_no hf)
      have HCB := Lib.hid (HCA.out w2 hf)
      clear x0 x1 xf0 xf1 y0 y1 yf0 yf1 hf
      have Xo := XH2.out
      have x0 := Xo.cell 0
      have x1 := Xo.cell 1
      have xf0 := Xo.frozen 0
      have xf1 := Xo.frozen 1
      simp only [List.getElem?_toArray, List.getElem?_cons_zero, List.getElem?_cons_succ] at x0 x1
      have Yo := YH2.out
      have y0 := Yo.cell 0
      have y1 := Yo.cell 1
      have yf0 := Yo.frozen 0
      have yf1 := Yo.frozen 1
      simp only [List.getElem?_toArray, List.getElem?_cons_zero, List.getElem?_cons_succ] at y0 y1
      clear Xo Yo
      rcases hg with ⟨hg1, hg2⟩ | hg1
      all_goals
        go_wp2_with fail
        all_goals try (exfalso; omega)
        refine HCB.out.mono ?_
        rintro e w3 ⟨S1, v1, rfl, hr, hs1, hf⟩
        obtain ⟨A1, c1, rfl, hB1, hB2⟩ := hr.form
        have hn4 := HWOL.out
        obtain ⟨n1, hn1⟩ : ∃ n1, n1 = L1.length := ⟨_, rfl⟩
        rw [← hn1] at hr hB1 hn4 ⊢
        have HN1 := Lib.hid hn1
        have HR3 := Lib.hid hr
        have HS1 := Lib.hid hs1
        have HF3 := Lib.hid hf
        have XH3 := Lib.hid (XH2.out.fr hf (fun h => h))
        have YH3 := Lib.hid (YH2.out.fr hf (fun h => h))
        clear x0 x1 xf0 xf1 y0 y1 yf0 yf1 hr hs1 hf hn1
        have Xo := XH3.out
        have x0 := Xo.cell 0
        have x1 := Xo.cell 1
        have xf0 := Xo.frozen 0
        have xf1 := Xo.frozen 1
        simp only [List.getElem?_toArray, List.getElem?_cons_zero, List.getElem?_cons_succ] at x0 x1
        clear Xo
        go_upto_region 6 with (fail)
        have f4 : Fr (fun k => k = bx) w3 ((w3.setCell ⟨bx, 0, none⟩ (.slice A1 n1 c1)).setCell ⟨bx, 1, none⟩ (.int .i64 most)) := ((Fr.refl (fun k => k = bx) w3).setCell (p := ⟨bx, 0, none⟩) (.inl rfl) _).setCell (p := ⟨bx, 1, none⟩) (.inl rfl) _
        have x4 := (XH3.out.put 0 (.slice A1 n1 c1)).put 1 (.int .i64 most)
        simp only [List.setIfInBounds_toArray, List.set_cons_zero, List.set_cons_succ] at x4
        have y4 := YH3.out.fr f4 (fun e => hne2 e)
        have hbl2 := XH2.out.lt
        have r4 := HR3.out.fr f4 (fun k hk e => by
          have e : k = bx := e
          rcases HS1.out k hk with g | g
          · have := H.out.lt k g; have := HBX.out; omega
          · have := g.1; omega)
        have fw4 : Fr No w ((w3.setCell ⟨bx, 0, none⟩ (.slice A1 n1 c1)).setCell ⟨bx, 1, none⟩ (.int .i64 most)) := (FH2.out.then_no HF3.out).trans f4 (fun k hk hl => by have hk : k = bx := hk; have := HBX.out; omega)
        clear x0 x1 xf0 xf1 f4 hbl2
        generalize (w3.setCell ⟨bx, 0, none⟩ (.slice A1 n1 c1)).setCell ⟨bx, 1, none⟩ (.int .i64 most) = w4 at x4 y4 r4 fw4 ⊢
        have X4 := Lib.hid x4
        have Y4 := Lib.hid y4
        have R4 := Lib.hid r4
        have F4 := Lib.hid fw4
        clear x4 y4 r4 fw4
        have Xo := X4.out
        have x0 := Xo.cell 0
        have x1 := Xo.cell 1
        have xf0 := Xo.frozen 0
        have xf1 := Xo.frozen 1
        simp only [List.getElem?_toArray, List.getElem?_cons_zero, List.getElem?_cons_succ] at x0 x1
        clear Xo
        go_upto_block 0 with fail
        go_cut [8] from 36 to 71 (fun kv wx => ∃ (k : Nat), kv = .int .i64 k ∧ k ≤ n1 ∧ Hid (ins (id, t) L1 = L1.take k ++ (id, t) :: L1.drop k) ∧ wx = w4)
        case first =>
          go_wp2_with fail
          go_loopw [8] (fun kv wr => ∃ (k : Nat), kv = .int .i64 k ∧ k ≤ n1 ∧ Hid (∀ j (hj : j < L1.length), j < k → lt2 L1[j] (id, t) = true) ∧ Hid (w4 = wr)) (fun kv _ => n1 - (intOf kv).toNat)
          case atStart => exact ⟨0, rfl, Nat.zero_le _, fun j hj hj0 => absurd hj0 (by omega), rfl⟩
          case round =>
            obtain ⟨k, rfl, hk, HB, HW⟩ := hrel
            have hw := HW.out
            subst hw
            by_cases hlt : k < n1
            · have hk1 : k < L1.length := by rw [← HN1.out]; exact hlt
              obtain ⟨ad, rfl, m0, m1⟩ := ra_at R4.out.l R4.out.lt (Fr.refl No w4) hk1
              have hnext : lt2 L1[k] (id, t) = true → Hid (∀ j (hj : j < L1.length), j < k + 1 → lt2 L1[j] (id, t) = true) := fun h2 j hj hjk => by
                by_cases e : j = k
                · subst e; exact h2
                · exact HB.out j hj (by omega)
              have hstop : lt2 L1[k] (id, t) = false → Hid (ins (id, t) L1 = L1.take k ++ (id, t) :: L1.drop k) := fun h2 => tw_at (by omega) HB.out (.inr ⟨hk1, h2⟩)
              have HNX := Lib.hid hnext
              have HST := Lib.hid hstop
              obtain ⟨yi, hyi⟩ : ∃ y, y = L1[k].1 := ⟨_, rfl⟩
              obtain ⟨yt, hyt⟩ : ∃ y, y = L1[k].2 := ⟨_, rfl⟩
              have hlx : lt2 L1[k] (id, t) = lt2 (yi, yt) (id, t) := by rw [hyi, hyt]
              rw [hlx] at HNX HST
              rw [← hyi] at m0
              rw [← hyt] at m1
              clear hnext hstop hyi hyt hlx hk1
              by_cases h1 : yt < t
              · have d1 : decide (yt < t) = true := decide_eq_true h1
                have HG := Lib.hid (HNX.out (lt2_iff.2 (.inl h1)))
                clear HNX HST
                go_wp2_with fail
                go_roundw
                case rel => exact ⟨k + 1, by go_num, by omega, HG.out, Lib.hid (by trivial)⟩
                case measure => simp [intOf]; omega
              · have d1 : decide (yt < t) = false := decide_eq_false h1
                by_cases h2 : yt = t
                · by_cases h3 : yi < id
                  · have HG := Lib.hid (HNX.out (lt2_iff.2 (.inr ⟨h2, h3⟩)))
                    have d2 : (yt == t) = true := by simpa using h2
                    have d3 : decide (yi < id) = true := decide_eq_true h3
                    clear HNX HST h2
                    go_wp2_with fail
                    go_roundw
                    case rel => exact ⟨k + 1, by go_num, by omega, HG.out, Lib.hid (by trivial)⟩
                    case measure => simp [intOf]; omega
                  · have HG := Lib.hid (HST.out (lt2_not.2 (.inr ⟨h2.symm, by show id ≤ yi; omega⟩)))
                    have d2 : (yt == t) = true := by simpa using h2
                    have d3 : decide (yi < id) = false := decide_eq_false h3
                    clear HNX HST h2
                    go_wp2_with fail
                    go_meet
                    case rel => exact ⟨k, rfl, by omega, HG.out, rfl⟩
                · have HG := Lib.hid (HST.out (lt2_not.2 (.inl (by show t < yt; omega))))
                  have d2 : (yt == t) = false := by simpa using h2
                  clear HNX HST
                  go_wp2_with fail
                  go_meet
                  case rel => exact ⟨k, rfl, by omega, HG.out, rfl⟩
            · have HG := Lib.hid (tw_at (L := L1) (x := (id, t)) (k := k) (by have := HN1.out; omega) HB.out (.inl (by have := HN1.out; omega)))
              go_wp2_with fail
              go_meet
              case rel => exact ⟨k, rfl, by omega, HG.out, rfl⟩
        case rest =>
          obtain ⟨k, rfl, hk, HI, hwc⟩ := hcut
          subst hwc
          obtain ⟨w5, hw5⟩ : ∃ w5, w5 = wc := ⟨_, rfl⟩
          subst hw5
          have hk1 : k ≤ L1.length := by rw [← HN1.out]; exact hk
          have HCUT := Lib.hid (Sls.sl_news (enc := encA) (by decide) (R4.out.l.cut hk1) (fun _ _ => rfl) (fun _ _ h => h))
          have HFT := Lib.hid (show ((L1.take k).flatMap encA).length = k * 2 by rw [fmA, List.length_take]; congr 1; omega)
          have HLT := Lib.hid (show (L1.take k).length = k by rw [List.length_take]; omega)
          have G0 := Lib.hid (Grow.start w5 54 2 encA)
          have hkc : k ≤ c1 := by omega
          clear hk1
          go_upto_region 11 with (at_builtin; go_loud (refine wp_app (B := A1) (m := k) (c := c1) (news := (L1.take k).flatMap encA) rfl (.tmp 73) (.tmp 77) 35 rfl 54 (.agg #[.int .i64 0, .int .i64 0]) 2 16 Try.underlying35 infoA rfl (by decide) (.slice none 0 0) 0 [] rfl (World.ownsRow_nil _ _ _ _) rfl HFT.out HCUT.out (encA_one _) (by omega) (by unfold maxLen; omega) ?_; intro v6 w6 p1 p2 p3; rw [Nat.zero_add, List.nil_append] at p1; obtain ⟨A6, c6, rfl⟩ := own_form p1; have P1 := Lib.hid p1; have P2 := Lib.hid p2; have P3 := Lib.hid p3; clear p1 p2 p3))
          have g6 := Grow.app (m := L1.take k) G0.out (by rw [HLT.out]; show w6.ownsRow 0 54 2 _ (0 + k) ([] ++ _); rw [Nat.zero_add, List.nil_append]; exact P1.out) P2.out P3.out
          have G6 := Lib.hid g6
          have O6 := Lib.hid P1.out
          have X6 := Lib.hid (X4.out.fr g6.fr (fun h => h))
          clear g6 x0 x1 xf0 xf1
          go_upto_region 12 with (at_builtin; go_loud (refine wp_push rfl (.tmp 79) (.tmp 83) 35 rfl 54 (.agg #[.int .i64 0, .int .i64 0]) 2 16 Try.underlying35 infoA rfl (by decide) (.slice A6 k c6) k _ rfl O6.out #[.int .i64 id, .int .i64 t] rfl rfl (by intro u hu; simp at hu; rcases hu with rfl | rfl <;> rfl) (by omega) (by unfold maxLen; omega) ?_; intro g7 c7 w7 p1 p2 p3; have Q1 := Lib.hid p1; have Q2 := Lib.hid p2; have Q3 := Lib.hid p3; clear p1 p2 p3))
          have hnil : ([] ++ L1.take k : List A2) = L1.take k := List.nil_append _
          have g7' := (show Grow w5 w7 54 2 encA (.slice (some ⟨g7, 0, none⟩) (k + 1) c7) (L1.take k ++ [(id, t)]) from by
            have g6 := G6.out
            rw [hnil] at g6
            have q1 := Q1.out
            have q2 := Q2.out
            have q3 := Q3.out
            have e := HLT.out
            generalize L1.take k = l0 at g6 q1 q2 q3 e ⊢
            subst e
            exact g6.push (x := (id, t)) q1 q2 q3)
          have G7 := Lib.hid g7'
          have O7 := Lib.hid (show w7.ownsRow 0 54 2 (.slice (some ⟨g7, 0, none⟩) (k + 1) c7) (k + 1) ((L1.take k ++ [(id, t)]).flatMap encA) from by
            have := g7'.own
            rw [List.length_append, HLT.out] at this
            exact this)
          have X7 := Lib.hid (X4.out.fr g7'.fr (fun h => h))
          have Y7 := Lib.hid (Y4.out.fr g7'.fr (fun h => h))
          have R7 := Lib.hid (R4.out.no g7'.fr)
          have HFD := Lib.hid (show ((L1.drop k).flatMap encA).length = (n1 - k) * 2 by rw [fmA, List.length_drop, HN1.out])
          have HLD := Lib.hid (show (L1.drop k).length = n1 - k by rw [List.length_drop, HN1.out])
          clear g7' hnil
          have Xo := X7.out
          have x0 := Xo.cell 0
          have x1 := Xo.cell 1
          have xf0 := Xo.frozen 0
          have xf1 := Xo.frozen 1
          simp only [List.getElem?_toArray, List.getElem?_cons_zero, List.getElem?_cons_succ] at x0 x1
          clear Xo
          -- the end, once the last append is done
          have FIN := Lib.hid (fun (w8 : World) (A8 : Option Addr) (c8 : Nat) (q1 : w8.ownsRow 0 54 2 (.slice A8 (k + 1 + (n1 - k)) c8) (k + 1 + (n1 - k)) ((L1.take k ++ [(id, t)]).flatMap encA ++ (L1.drop k).flatMap encA)) (q2 : Fr (Of (.slice (some ⟨g7, 0, none⟩) (k + 1) c7)) w7 w8) (q3 : ∀ g, Of (.slice A8 (k + 1 + (n1 - k)) c8) g → Of (.slice (some ⟨g7, 0, none⟩) (k + 1) c7) g ∨ New w7 w8 g) => (show
              RTells (ins (id, t) L1) (.int .i64 0) most S w (.returned (.tuple #[agT (.slice A8 (k + 1 + (n1 - k)) c8) most, .int .i64 0])) (((w8.setCell ⟨bx, 0, none⟩ (.slice A8 (k + 1 + (n1 - k)) c8)).setCell ⟨br, 0, none⟩ (.slice A8 (k + 1 + (n1 - k)) c8)).setCell ⟨br, 1, none⟩ (.int .i64 most)) ∧ Blk w8 bx 37 #[.slice A1 n1 c1, .int .i64 most] ∧ Blk w8 br 37 #[.slice none 0 0, .int .i64 0] from by
            have hl7 : (L1.take k ++ [(id, t)]).length = k + 1 := by rw [List.length_append, HLT.out]; rfl
            have g8 : Grow w5 w8 54 2 encA (.slice A8 (k + 1 + (n1 - k)) c8) ((L1.take k ++ [(id, t)]) ++ L1.drop k) := G7.out.app (m := L1.drop k) (by rw [hl7, HLD.out]; exact q1) q2 q3
            have hb8 := X4.out.fr g8.fr (fun h => h)
            have hy8 := Y4.out.fr g8.fr (fun h => h)
            have hxl := X4.out.lt
            have hyl := Y4.out.lt
            have f9 : Fr (fun k => k = bx ∨ k = br) w8 (((w8.setCell ⟨bx, 0, none⟩ (.slice A8 (k + 1 + (n1 - k)) c8)).setCell ⟨br, 0, none⟩ (.slice A8 (k + 1 + (n1 - k)) c8)).setCell ⟨br, 1, none⟩ (.int .i64 most)) := (((Fr.refl (fun k => k = bx ∨ k = br) w8).setCell (p := ⟨bx, 0, none⟩) (.inl (.inl rfl)) _).setCell (p := ⟨br, 0, none⟩) (.inl (.inr rfl)) _).setCell (p := ⟨br, 1, none⟩) (.inl (.inr rfl)) _
            have fw : Fr No w (((w8.setCell ⟨bx, 0, none⟩ (.slice A8 (k + 1 + (n1 - k)) c8)).setCell ⟨br, 0, none⟩ (.slice A8 (k + 1 + (n1 - k)) c8)).setCell ⟨br, 1, none⟩ (.int .i64 most)) := (F4.out.then_no g8.fr).trans f9 (fun k hk hl => by have hk : k = bx ∨ k = br := hk; have := HBX.out; omega)
            have own9 := own_fr g8.own f9 (fun k hk e => by have := (g8.new k hk).1; rcases e with e | e <;> omega)
            have hl8 : ((L1.take k ++ [(id, t)]) ++ L1.drop k).length = k + 1 + (n1 - k) := by rw [List.length_append, hl7, HLD.out]
            have hI : ins (id, t) L1 = (L1.take k ++ [(id, t)]) ++ L1.drop k := by rw [HI.out, List.append_assoc]; rfl
            refine ⟨⟨Of (.slice A8 (k + 1 + (n1 - k)) c8), .slice A8 (k + 1 + (n1 - k)) c8, rfl, ⟨by rw [hI]; exact own_ra own9 (fun _ h => h), fun j hj => (own9.lt j hj).2⟩, fun j hj => .inr ⟨by have := (g8.new j hj).1; have := F4.out.size; omega, (own9.lt j hj).2⟩, fw⟩, hb8, hy8⟩))
          by_cases hck : c1 = k
          · subst hck
            have hn1k : n1 = c1 := by omega
            subst hn1k
            have HD0 := Lib.hid (show (L1.drop n1).flatMap encA = [] by rw [List.drop_of_length_le (by have := HN1.out; omega)]; rfl)
            go_wp2_with (at_builtin; go_loud (refine wp_app (B := A1) (m := n1 - n1) (c := 0) (news := (L1.drop n1).flatMap encA) rfl (.tmp 85) (.tmp 89) 35 rfl 54 (.agg #[.int .i64 0, .int .i64 0]) 2 16 Try.underlying35 infoA rfl (by decide) (.slice (some ⟨g7, 0, none⟩) (n1 + 1) c7) (n1 + 1) _ rfl O7.out (by rw [Nat.sub_self]; rfl) HFD.out (by rw [HD0.out]; intro j u hj; simp at hj) (encA_one _) (by omega) (by unfold maxLen; omega) ?_; intro v8 w8 p1 p2 p3; obtain ⟨A8, c8, rfl⟩ := own_form p1; have hfin := FIN.out w8 A8 c8 p1 p2 p3; generalize hm8 : n1 + 1 + (n1 - n1) = m8 at hfin ⊢; have HM8 := Lib.hid hm8; clear hm8; have HFIN := Lib.hid hfin.1; have HX8 := Lib.hid hfin.2.1; have HY8 := Lib.hid hfin.2.2; have xo := hfin.2.1.cell 0; have xo1 := hfin.2.1.cell 1; have xg0 := hfin.2.1.frozen 0; have xg1 := hfin.2.1.frozen 1; have yo := hfin.2.2.cell 0; have yo1 := hfin.2.2.cell 1; have yg0 := hfin.2.2.frozen 0; have yg1 := hfin.2.2.frozen 1; simp only [List.getElem?_toArray, List.getElem?_cons_zero, List.getElem?_cons_succ] at xo xo1 yo yo1; clear hfin; clear p1 p2 p3))
            have b9 := (((HY8.out.far (p := ⟨bx, 0, none⟩) hne2 (.slice A8 (m8) c8)).put 0 (.slice A8 (m8) c8)).put 1 (.int .i64 most))
            simp only [List.setIfInBounds_toArray, List.set_cons_zero, List.set_cons_succ] at b9
            have e0 := b9.cell 0
            have e1 := b9.cell 1
            simp only [List.getElem?_toArray, List.getElem?_cons_zero, List.getElem?_cons_succ] at e0 e1
            refine bodyPost_ret (v := .tuple #[.agg #[.slice A8 (m8) c8, .int .i64 most], .int .i64 0]) ?_ rfl HFIN.out
            clear b9
            simp [results, Try.f11, go_sem, e0, e1]

          · have hck2 : k < c1 := by omega
            obtain ⟨ad1, rfl⟩ : ∃ ad1, A1 = some ad1 := by
              cases A1 with
              | none =>
                obtain ⟨A', c', e1, e2, e3, e4, e5⟩ := R4.out.l
                injection e1 with e1 _
                injection e1 with e1 e6 e7
                have := e4 e1.symm
                omega
              | some a => exact ⟨a, rfl⟩
            have HDN := Lib.hid (Sls.sl_news (enc := encA) (by decide) (sl_drop (k := k) R7.out.l (by have := HN1.out; omega)) (fun _ _ => rfl) (fun _ _ h => h))
            go_wp2_with (at_builtin; go_loud (refine wp_app (B := some (ad1.add (k * 2))) (m := n1 - k) (c := c1 - k) (news := (L1.drop k).flatMap encA) rfl (.tmp 85) (.tmp 89) 35 rfl 54 (.agg #[.int .i64 0, .int .i64 0]) 2 16 Try.underlying35 infoA rfl (by decide) (.slice (some ⟨g7, 0, none⟩) (k + 1) c7) (k + 1) _ rfl O7.out rfl HFD.out HDN.out (encA_one _) (by omega) (by unfold maxLen; omega) ?_; intro v8 w8 p1 p2 p3; obtain ⟨A8, c8, rfl⟩ := own_form p1; have hfin := FIN.out w8 A8 c8 p1 p2 p3; generalize hm8 : k + 1 + (n1 - k) = m8 at hfin ⊢; have HM8 := Lib.hid hm8; clear hm8; have HFIN := Lib.hid hfin.1; have HX8 := Lib.hid hfin.2.1; have HY8 := Lib.hid hfin.2.2; have xo := hfin.2.1.cell 0; have xo1 := hfin.2.1.cell 1; have xg0 := hfin.2.1.frozen 0; have xg1 := hfin.2.1.frozen 1; have yo := hfin.2.2.cell 0; have yo1 := hfin.2.2.cell 1; have yg0 := hfin.2.2.frozen 0; have yg1 := hfin.2.2.frozen 1; simp only [List.getElem?_toArray, List.getElem?_cons_zero, List.getElem?_cons_succ] at xo xo1 yo yo1; clear hfin; clear p1 p2 p3))
            have b9 := (((HY8.out.far (p := ⟨bx, 0, none⟩) hne2 (.slice A8 (m8) c8)).put 0 (.slice A8 (m8) c8)).put 1 (.int .i64 most))
            simp only [List.setIfInBounds_toArray, List.set_cons_zero, List.set_cons_succ] at b9
            have e0 := b9.cell 0
            have e1 := b9.cell 1
            simp only [List.getElem?_toArray, List.getElem?_cons_zero, List.getElem?_cons_succ] at e0 e1
            refine bodyPost_ret (v := .tuple #[.agg #[.slice A8 (m8) c8, .int .i64 most], .int .i64 0]) ?_ rfl HFIN.out
            clear b9
            simp [results, Try.f11, go_sem, e0, e1]

end
end Tm
end Go.Proofs.Ytkmlmjglipmdcaa
