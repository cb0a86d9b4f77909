/- Package timer: Set and Due. Printed by gen_tmv.py. -/
import Derived.Test.YtkmlmjglipmdcaaTmU
namespace Go.Proofs.Ytkmlmjglipmdcaa
open Go.RowKit
set_option linter.unusedVariables false
set_option linter.unusedSimpArgs false
namespace Tm
open Sls
section
variable {w w' : World} {F : Nat → Prop} {b mp : Nat} {most : Int} {P : List E} {M : List (Int × Nat)} {v : Value} {L : List A2}
theorem Heaped.from {w X w' : World} {c0 c2 : Value} {n : Nat} {e : Ending} (h : Heaped X b c0 c2 v P n e w') (hf : Fr No w X) : Heaped w b c0 c2 v P n e w' := by
  obtain ⟨Q, h0, h1, h2⟩ := h
  exact ⟨Q, h0, ⟨h1.pp, h1.perm, h1.tail, (hf.no _).trans h1.fr (fun k hk _ => hk)⟩, h2⟩
def SetP (L : List A2) (most : Int) (F : Nat → Prop) (b : Nat) (w : World) (id t : Int) : Ending → World → Prop := TActs (setR most L id t).1 most F b w (.int .i64 (setR most L id t).2)
set_option maxRecDepth 100000 in
set_option maxHeartbeats 4000000 in
theorem set_any (h : TAt w F b most L) (id t : Int) : Calls Try.prog 8 #[.pointer (some ⟨b, 0, none⟩), .int .i64 id, .int .i64 t] w (SetP L most F b w id t) := by
  have H := Lib.hid h
  have HLEN := Lib.hid h.len
  obtain ⟨P, M, v, mp, h, hp, hs⟩ := h
  have HM := Lib.hid (made_any h)
  have HI := Lib.hid (Calc.is_any t w)
  unfold SetP
  cases ht : Calc.isT t
  · have e : setR most L id t = (L, 1) := by
      unfold setR
      rw [Calc.isT_not] at ht
      rw [if_pos ht]
    rw [e]
    rw [ht] at HI
    clear h hp hs ht e
    go_enter Try.func8, Try.ntmps8
    go_wp2_with fail
    refine HM.out.mono ?_
    rintro e w0 ⟨rfl, hw⟩
    subst hw
    go_wp2_with fail
    refine HI.out.mono ?_
    rintro e w0 ⟨rfl, hw⟩
    subst hw
    go_wp2_with fail
    go_ret
    exact TActs.no H.out (Fr.refl _ _)
  · rw [ht] at HI
    have htn : ¬ (t < 0 ∨ 1099511627776 < t) := by rw [Calc.isT_iff] at ht; omega
    have c2 := h.c2
    have c0 := h.c0
    cases hh : hasId L id
    · have hl := look_no h.mat (h.lacks hp hh)
      have hln := len_run (h.mat.no (Fr.refl No w).drew) 3
      have hML : M.length = L.length := by rw [h.mlen, ← hp.length_eq, List.length_map]
      by_cases hm : most ≤ L.length
      · have e : setR most L id t = (L, 6) := by
          unfold setR
          rw [if_neg htn, if_pos ⟨hh, hm⟩]
        rw [e]
        have hg : decide (most ≤ (M.length : Int)) = true := decide_eq_true (by rw [hML]; exact hm)
        obtain ⟨ml, hml⟩ : ∃ ml, ml = M.length := ⟨_, rfl⟩
        rw [← hml] at hln hg
        clear h hp hs ht htn hh hm e hML hml
        go_enter Try.func8, Try.ntmps8
        go_wp2_with fail
        refine HM.out.mono ?_
        rintro e w0 ⟨rfl, hw⟩
        subst hw
        go_wp2_with fail
        refine HI.out.mono ?_
        rintro e w0 ⟨rfl, hw⟩
        subst hw
        go_wp2_with fail
        go_region
        all_goals
          go_wp2_with fail
          go_ret
          exact TActs.no H.out (by repeat' (first | with_reducible assumption | with_reducible exact Fr.refl _ _ | with_reducible refine Fr.drew ?_ | with_reducible refine Fr.drewN ?_ _ | with_reducible refine Fr.alloc ?_ _))
      · have e : setR most L id t = (ins (id, t) (wo L id), 0) := by
          unfold setR
          rw [if_neg htn, if_neg (fun g => hm g.2)]
        rw [e]
        have hg : decide (most ≤ (M.length : Int)) = false := decide_eq_false (by rw [hML]; exact hm)
        have hPm : (P.length : Int) < most := by rw [← h.mlen, hML]; omega
        obtain ⟨ml, hml⟩ : ∃ ml, ml = M.length := ⟨_, rfl⟩
        rw [← hml] at hln hg
        have HQ := Lib.hid h
        have HLK := Lib.hid (h.lacks hp hh)
        have HCM := Lib.hid (fun (w1 w2 w3 : World) (Q : List E) (v' : Value) (x : E) (hx : x.2.1 = id) => TQ.come (w1 := w1) (w2 := w2) (w3 := w3) (Q := Q) (v' := v') (x := x) h hp hs (by rw [hx]; exact hh) hPm)
        have hP4 : P.length < 4096 := by have := h.most; omega
        have HP4 := Lib.hid hP4
        clear h hp hs ht htn hh hm e hML hml hPm hP4
        go_enter Try.func8, Try.ntmps8
        go_wp2_with fail
        refine HM.out.mono ?_
        rintro e w0 ⟨rfl, hw⟩
        subst hw
        go_wp2_with fail
        refine HI.out.mono ?_
        rintro e w0 ⟨rfl, hw⟩
        subst hw
        go_wp2_with fail
        go_region
        have X1 : Blk (w.alloc (.cells #[.int .i64 id, .int .i64 t, .int .i64 0] 65)).drew w.heap.size 65 #[.int .i64 id, .int .i64 t, .int .i64 0] := Blk.new w _ _
        have fa : Fr No w (w.alloc (.cells #[.int .i64 id, .int .i64 t, .int .i64 0] 65)).drew := ((Fr.refl No w).alloc _).drew
        have HQA := Lib.hid (HQ.out.no fa)
        have FA := Lib.hid fa
        have X1 := Lib.hid X1
        clear c2 c0 hl hln fa
        go_upto_region 13 with (fail)
        obtain ⟨eb, heb⟩ : ∃ eb, eb = w.heap.size := ⟨_, rfl⟩
        rw [← heb] at X1 ⊢
        generalize (w.alloc (.cells #[.int .i64 id, .int .i64 t, .int .i64 0] 65)).drew = wa at X1 FA HQA ⊢
        have HEB := Lib.hid heb
        clear heb
        have c2 := HQA.out.c2
        obtain ⟨w2, hrun, r1, r2⟩ := put_run (x := eb) HQA.out.mat HLK.out
        simp only [encB] at hrun
        have hlt : ∀ k, F k → k < w.heap.size := HQ.out.lt
        have hmpl := hlt _ HQ.out.fm
        have hbl := hlt _ HQ.out.fb
        have heb := HEB.out
        have hp2 := HQA.out.pp.fr r2 (fun e => HQ.out.mb (by have e : b = mp := e; exact e.symm)) (fun k hk e => HQ.out.mf (by have e : k = mp := e; rw [← e]; exact hk))
        have HPU := Lib.hid (hpush_any hp2 HP4.out HQ.out.ok (eb, id, t) (X1.out.fr r2 (fun e => by have e : eb = mp := e; omega)) (show eb ≠ b by omega) (fun hk => by have := hlt _ (HQ.out.ff _ hk); omega))
        have c1 := hp2.blk.cell 2
        have R1 := Lib.hid r1
        have R2 := Lib.hid r2
        clear r1 r2 hlt hmpl hbl heb hp2 c1
        go_wp2_with fail
        refine HPU.out.mono ?_
        rintro e w3 ⟨v', Q, rfl, q1, q2, q3, q4, q5⟩
        have g := HCM.out wa w2 w3 Q v' (eb, id, t) rfl HEB.out FA.out X1.out.lt R2.out R1.out q1 q2 q3 q4 q5
        have HG := Lib.hid g
        clear q1 q2 q3 q4 q5 g
        go_wp2_with fail
        go_ret
        exact ⟨_, rfl, HG.out.1, HG.out.2⟩
    · have e : setR most L id t = (ins (id, t) (wo L id), 0) := by
        unfold setR
        rw [if_neg htn, if_neg (fun g => by rw [hh] at g; cases g.1)]
      rw [e]
      obtain ⟨i, j, hi, hj, h1, h2⟩ := h.found hp hh
      have hl := look_yes h.mat h.keys hj
      rw [h2] at hl
      have hPl : P.length ≤ 4096 := by have := h.len; have := h.most; omega
      have hpt := h.pp.timed hi t
      have hdn : Dn (at' (P.set i (P[i].1, P[i].2.1, t))) P.length i i := turned h.ok (Nat.le_refl _) hi (fun m hm hne => by rw [set_at hi, if_neg hne])
      have HFX := Lib.hid (fun (X : World) (hf : Fr No (w.setCell ⟨P[i].1, 1, none⟩ (.int .i64 t)) X) => (fix_any (hpt.no hf) (i := i) (by rw [List.length_set]; exact hi) (by rw [List.length_set]; exact hPl) (by rw [List.length_set]; exact hdn)).mono (fun e w' g => g.from hf))
      have HMV := Lib.hid (fun (w2 : World) (Q : List E) => TQ.moved (w2 := w2) (Q := Q) (t := t) h hp hs hi rfl)
      have a0 := (h.pp.ent i hi).cell 1
      have af := (h.pp.ent i hi).frozen 1
      have y2 := Blk.cell (Blk.put (h.pp.ent i hi) 1 (.int .i64 t)) 2
      simp only [List.setIfInBounds_toArray, List.set_cons_zero, List.set_cons_succ, List.getElem?_toArray, List.getElem?_cons_zero, List.getElem?_cons_succ] at a0 y2
      have hSL : (P.set i (P[i].1, P[i].2.1, t)).length = P.length := List.length_set
      obtain ⟨P1, hP1⟩ : ∃ P1, P1 = P.set i (P[i].1, P[i].2.1, t) := ⟨_, rfl⟩
      rw [← hP1] at hSL
      simp only [← hP1] at HFX HMV
      rw [h1] at HMV
      have HSL := Lib.hid hSL
      obtain ⟨eb, heb⟩ : ∃ x, x = P[i].1 := ⟨_, rfl⟩
      obtain ⟨t0, ht0⟩ : ∃ x, x = P[i].2.2 := ⟨_, rfl⟩
      rw [← heb] at a0 af y2 hl
      rw [← ht0] at a0
      simp only [← heb] at HFX HMV
      simp only [encB] at hl
      clear h hp hs ht htn hh e hi hj h1 h2 hPl hpt hdn hSL hP1 heb c0 ht0
      go_enter Try.func8, Try.ntmps8
      go_wp2_with fail
      refine HM.out.mono ?_
      rintro e w0 ⟨rfl, hw⟩
      subst hw
      go_wp2_with fail
      refine HI.out.mono ?_
      rintro e w0 ⟨rfl, hw⟩
      subst hw
      go_upto_region 8 with (fail)
      generalize w.setCell ⟨eb, 1, none⟩ (.int .i64 t) = w1 at y2 HFX HMV ⊢
      clear a0 af
      go_region_with (go_at_call 21; refine (HFX.out _ (by repeat' (first | with_reducible assumption | with_reducible exact Fr.refl _ _ | with_reducible refine Fr.drew ?_ | with_reducible refine Fr.drewN ?_ _ | with_reducible refine Fr.alloc ?_ _))).mono ?_; rintro e w2 ⟨Q, rfl, q1, q2⟩; have Q1 := Lib.hid q1; have Q2 := Lib.hid q2; clear q1 q2)
      all_goals
        have g := HMV.out w2 Q (by rw [← HSL.out]; exact Q1.out) (by rw [← HSL.out]; exact Q2.out)
        have HG := Lib.hid g
        clear g
        go_wp2_with fail
        go_ret
        exact ⟨_, rfl, HG.out.1, HG.out.2⟩
theorem set_nil (w : World) (id t : Int) : Calls Try.prog 8 #[.pointer none, .int .i64 id, .int .i64 t] w fun e w' => e = .returned (.int .i64 14) ∧ w = w' := by
  have HM := Lib.hid (made_nil w)
  go_enter Try.func8, Try.ntmps8
  go_wp2_with fail
  refine HM.out.mono ?_
  rintro e w0 ⟨rfl, hw⟩
  subst hw
  go_wp2_with fail
  go_ret
  exact ⟨rfl, rfl⟩
end
end Tm
end Go.Proofs.Ytkmlmjglipmdcaa
