/- Package seat: the law's do, all of it. Printed by gen_seatdo.py. -/
import Derived.Test.YtepnjmgacfjhiaaSeatDo
import Derived.Test.YtepnjmgacfjhiaaSeatC
import Derived.BigQuiet
import Derived.Deep.CutRange
import Derived.Deep.RegionHeld3
import Derived.Outline
namespace Go.Proofs.Ytepnjmgacfjhiaa
open Go.RowKit
set_option linter.unusedVariables false
set_option linter.unusedSimpArgs false
namespace Seat
open Sls
/-- An act, by its kind. -/
def doR (s : St) (kd id level : Int) : St × Sh × Int :=
  if kd % 7 = 0 then comeR s id level true else if kd % 7 = 1 then comeR s id level false else if kd % 7 = 2 then askR s id else if kd % 7 = 3 then takeR s id false else if kd % 7 = 4 then takeR s id true else if kd % 7 = 5 then yieldR s id else leaveR s id
theorem Inv.do {s : St} (h : Inv s) (kd id level : Int) (hid : (Lit.int .i64 id).wf = true) (hlv : (Lit.int .i64 level).wf = true) : Inv (doR s kd id level).1 := by
  unfold doR
  repeat' split
  · exact h.come true hid hlv
  · exact h.come false hid hlv
  · exact h.ask id
  · exact h.take id false
  · exact h.take id true
  · exact h.yield id
  · exact h.leave id
section
variable {w w' : World} {S : Nat → Prop} {vL vW : Value} {s : St}
set_option maxRecDepth 100000 in
set_option maxHeartbeats 4000000 in
theorem do_4 {F : Nat → Prop} {b : Nat} (hs : SAt w F b s) (hi : Inv s) (h : RS w S vL vW s) (hSF : ∀ k, S k → ¬ F k) (kd id level : Int) (hid : (Lit.int .i64 id).wf = true) (hlv : (Lit.int .i64 level).wf = true) (hk0 : 0 ≤ kd) (hk1 : kd < 256) (hk : kd % 7 = 4) : Calls Try.prog 33 #[.pointer (some ⟨b, 0, none⟩), agS vL vW s, .agg #[.int .u8 kd, .int .i64 id, .int .i64 level]] w (DoT (takeR s id true) F b S w) := by
  have HL := Lib.hid (show s.L.length ≤ 4096 by have := hi.len; have := hi.most; omega)
  have HQ := Lib.hid (show s.q.length ≤ 4096 by have := hi.qlen; have := hi.most; omega)
  have HWI := Lib.hid (show s.wr = -1 ∨ 0 ≤ s.wr from hi.wr_cases.elim (fun g => .inl g.1) (fun g => .inr g.1))
  have HI := Lib.hid hi
  have HS := Lib.hid hs
  have HSF := Lib.hid hSF
  obtain ⟨A, c, B, d, rfl, rfl, hA1, hA2, hB1, hB2⟩ := h.forms
  obtain ⟨n, hn⟩ : ∃ n, n = s.L.length := ⟨_, rfl⟩
  obtain ⟨m, hm⟩ : ∃ m, m = s.q.length := ⟨_, rfl⟩
  obtain ⟨wr, hwr⟩ : ∃ wr, wr = s.wr := ⟨_, rfl⟩
  obtain ⟨ms, hms⟩ : ∃ ms, ms = s.most := ⟨_, rfl⟩
  have ag : agS (.slice A s.L.length c) (.slice B s.q.length d) s = .agg #[.slice A n c, .int .i64 ms, .int .i64 wr, .slice B m d] := by rw [hn, hm, hwr, hms]
  rw [ag]
  have AG := Lib.hid ag
  have H := Lib.hid h
  obtain ⟨r, hr⟩ : ∃ r, r = takeR s id true := ⟨_, rfl⟩
  rw [← hr]
  have HR := Lib.hid hr
  obtain ⟨bx, hbx⟩ : ∃ bx, w.heap.size = bx := ⟨_, rfl⟩
  have XB := ((Blk.new w 71 #[.slice A n c, .int .i64 ms, .int .i64 wr, .slice B m d]).alloc (.cells #[.int .u8 kd, .int .i64 id, .int .i64 level] 76)).alloc (.cells #[.slice none 0 0, .int .i64 0, .int .i64 0, .slice none 0 0] 71)
  have XO := (Blk.new (w.alloc (.cells #[.slice A n c, .int .i64 ms, .int .i64 wr, .slice B m d] 71)) 76 #[.int .u8 kd, .int .i64 id, .int .i64 level]).alloc (.cells #[.slice none 0 0, .int .i64 0, .int .i64 0, .slice none 0 0] 71)
  have X6 := Blk.new ((w.alloc (.cells #[.slice A n c, .int .i64 ms, .int .i64 wr, .slice B m d] 71)).alloc (.cells #[.int .u8 kd, .int .i64 id, .int .i64 level] 76)) 71 #[.slice none 0 0, .int .i64 0, .int .i64 0, .slice none 0 0]
  have F1 := (((Fr.refl No w).alloc (.cells #[.slice A n c, .int .i64 ms, .int .i64 wr, .slice B m d] 71)).alloc (.cells #[.int .u8 kd, .int .i64 id, .int .i64 level] 76)).alloc (.cells #[.slice none 0 0, .int .i64 0, .int .i64 0, .slice none 0 0] 71)
  simp only [size_alloc] at XO X6
  obtain ⟨bo, hbo⟩ : ∃ bo, bx + 1 = bo := ⟨_, rfl⟩
  obtain ⟨b6, hb6⟩ : ∃ b6, bo + 1 = b6 := ⟨_, rfl⟩
  rw [hbx] at XB XO X6
  rw [hbo] at XO X6
  rw [hb6] at X6
  have XB := Lib.hid XB
  have XO := Lib.hid XO
  have X6 := Lib.hid X6
  have F1 := Lib.hid F1
  have HBX := Lib.hid (And.intro hbx (And.intro hbo hb6))
  clear hs h hi hSF ag hn hm hwr hms hr
  go_enter Try.func33, Try.ntmps33
  go_upto_region 3 with (fail)
  generalize ((w.alloc (.cells #[.slice A n c, .int .i64 ms, .int .i64 wr, .slice B m d] 71)).alloc (.cells #[.int .u8 kd, .int .i64 id, .int .i64 level] 76)).alloc (.cells #[.slice none 0 0, .int .i64 0, .int .i64 0, .slice none 0 0] 71) = w0 at XB XO X6 F1 ⊢
  clear hbx hbo hb6
  have XBo := XB.out
  have x0 := XBo.cell 0
  have x1 := XBo.cell 1
  have x2 := XBo.cell 2
  have x3 := XBo.cell 3
  have xf0 := XBo.frozen 0
  have xf1 := XBo.frozen 1
  have xf2 := XBo.frozen 2
  have xf3 := XBo.frozen 3
  simp only [List.getElem?_toArray, List.getElem?_cons_zero, List.getElem?_cons_succ] at x0 x1 x2 x3
  clear XBo
  go_upto_region 4 with (fail)
  clear x0 x1 x2 x3 xf0 xf1 xf2 xf3
  have X13 := Lib.hid (Blk.new w0 71 #[.slice A n c, .int .i64 ms, .int .i64 wr, .slice B m d])
  have XB1 := Lib.hid (XB.out.alloc (.cells #[.slice A n c, .int .i64 ms, .int .i64 wr, .slice B m d] 71))
  have XO1 := Lib.hid (XO.out.alloc (.cells #[.slice A n c, .int .i64 ms, .int .i64 wr, .slice B m d] 71))
  have X61 := Lib.hid (X6.out.alloc (.cells #[.slice A n c, .int .i64 ms, .int .i64 wr, .slice B m d] 71))
  have F11 := Lib.hid (F1.out.alloc (.cells #[.slice A n c, .int .i64 ms, .int .i64 wr, .slice B m d] 71))
  have HB6 := Lib.hid X6.out.lt
  obtain ⟨bt, hbt⟩ : ∃ bt, w0.heap.size = bt := ⟨_, rfl⟩
  rw [hbt] at X13 HB6 ⊢
  generalize w0.alloc (.cells #[.slice A n c, .int .i64 ms, .int .i64 wr, .slice B m d] 71) = w1 at X13 XB1 XO1 X61 F11 ⊢
  clear hbt
  have XOo := XO1.out
  have o0 := XOo.cell 0
  have o1 := XOo.cell 1
  have o2 := XOo.cell 2
  simp only [List.getElem?_toArray, List.getElem?_cons_zero, List.getElem?_cons_succ] at o0 o1 o2
  clear XOo
  go_upto_region 20 with (fail)
  have HS1 := Lib.hid (HS.out.no F11.out)
  have HP := Lib.hid (force_any HS1.out HI.out id)
  rw [← HR.out] at HP
  go_wp2_with fail
  refine HP.out.mono ?_
  rintro e w2 ⟨F', v, rfl, hSh, hA2, hSt⟩
  obtain ⟨Av, cv, rfl⟩ := own_form hSh.own
  obtain ⟨kv, hkv⟩ : ∃ kv, kv = r.2.1.length := ⟨_, rfl⟩
  obtain ⟨cd, hcd⟩ : ∃ cd, cd = r.2.2 := ⟨_, rfl⟩
  rw [← hkv, ← hcd]
  have hSh2 := hSh
  rw [← hkv] at hSh2
  have HSH := Lib.hid hSh
  have HST := Lib.hid hSt
  have HA2 := Lib.hid hA2
  have HKV := Lib.hid hkv
  have HCD := Lib.hid hcd
  have hlt : ∀ k, F k → k < w.heap.size := HS.out.lt
  have hbb := HBX.out
  have hb6u := HB6.out
  have XB2 := Lib.hid (XB1.out.fr hSt.1 (fun e => by have := hlt _ e; omega))
  have XO2 := Lib.hid (XO1.out.fr hSt.1 (fun e => by have := hlt _ e; omega))
  have X62 := Lib.hid (X61.out.fr hSt.1 (fun e => by have := hlt _ e; omega))
  have X132 := Lib.hid (X13.out.fr hSt.1 (fun e => by have := hlt _ e; omega))
  have R2 := Lib.hid ((H.out.no F11.out).fr hSt.1 HSF.out)
  have href := rtake_any R2.out HQ.out HWI.out id true
  rw [AG.out, ← HR.out] at href
  have HREF := Lib.hid href
  clear hSh hSh2 hSt hA2 hkv hcd hlt hbb hb6u href o0 o1 o2
  have XBo := XB2.out
  have x0 := XBo.cell 0
  have x1 := XBo.cell 1
  have x2 := XBo.cell 2
  have x3 := XBo.cell 3
  have xf0 := XBo.frozen 0
  have xf1 := XBo.frozen 1
  have xf2 := XBo.frozen 2
  have xf3 := XBo.frozen 3
  simp only [List.getElem?_toArray, List.getElem?_cons_zero, List.getElem?_cons_succ] at x0 x1 x2 x3
  clear XBo
  have XOo := XO2.out
  have o0 := XOo.cell 0
  have o1 := XOo.cell 1
  have o2 := XOo.cell 2
  simp only [List.getElem?_toArray, List.getElem?_cons_zero, List.getElem?_cons_succ] at o0 o1 o2
  clear XOo
  go_wp2_with fail
  refine HREF.out.mono ?_
  rintro e w3 ⟨vL, vW, v, rfl, hR3, ⟨hv3, hvn3⟩, hf3⟩
  obtain ⟨A8, c8, B8, d8, rfl, rfl, -⟩ := hR3.forms
  obtain ⟨A9, c9, rfl⟩ := own_form hv3
  obtain ⟨n8, hn8⟩ : ∃ n8, n8 = r.1.L.length := ⟨_, rfl⟩
  obtain ⟨m8, hm8⟩ : ∃ m8, m8 = r.1.q.length := ⟨_, rfl⟩
  obtain ⟨wr8, hwr8⟩ : ∃ wr8, wr8 = r.1.wr := ⟨_, rfl⟩
  obtain ⟨ms8, hms8⟩ : ∃ ms8, ms8 = r.1.most := ⟨_, rfl⟩
  have ag8 : agS (.slice A8 r.1.L.length c8) (.slice B8 r.1.q.length d8) r.1 = .agg #[.slice A8 n8 c8, .int .i64 ms8, .int .i64 wr8, .slice B8 m8 d8] := by rw [hn8, hm8, hwr8, hms8]
  rw [ag8, ← HKV.out, ← HCD.out]
  have AG8 := Lib.hid ag8
  have HR3 := Lib.hid hR3
  have HV3 := Lib.hid hv3
  have HF3 := Lib.hid hf3
  have HVN3 := Lib.hid hvn3
  have X133 := Lib.hid (X132.out.fr hf3 (fun h => h))
  have X63 := Lib.hid (X62.out.fr hf3 (fun h => h))
  clear hR3 hv3 hvn3 hf3 ag8 hn8 hm8 hwr8 hms8 x0 x1 x2 x3 xf0 xf1 xf2 xf3 o0 o1 o2
  have XRo := X133.out
  have r0 := XRo.cell 0
  have r1 := XRo.cell 1
  have r2 := XRo.cell 2
  have r3 := XRo.cell 3
  have rf0 := XRo.frozen 0
  have rf1 := XRo.frozen 1
  have rf2 := XRo.frozen 2
  have rf3 := XRo.frozen 3
  simp only [List.getElem?_toArray, List.getElem?_cons_zero, List.getElem?_cons_succ] at r0 r1 r2 r3
  clear XRo
  go_upto_region 25 with (fail)
  have f34 : Fr (fun k => k = bt) w3 ((((w3.setCell ⟨bt, 0, none⟩ (.slice A8 n8 c8)).setCell ⟨bt, 1, none⟩ (.int .i64 ms8)).setCell ⟨bt, 2, none⟩ (.int .i64 wr8)).setCell ⟨bt, 3, none⟩ (.slice B8 m8 d8)) := Fr.setCell (F := fun k => k = bt) (Fr.setCell (F := fun k => k = bt) (Fr.setCell (F := fun k => k = bt) (Fr.setCell (F := fun k => k = bt) (Fr.refl _ _) (p := ⟨bt, 0, none⟩) (.inl rfl) _) (p := ⟨bt, 1, none⟩) (.inl rfl) _) (p := ⟨bt, 2, none⟩) (.inl rfl) _) (p := ⟨bt, 3, none⟩) (.inl rfl) _
  have b9 := (((X133.out.put 0 (.slice A8 n8 c8)).put 1 (.int .i64 ms8)).put 2 (.int .i64 wr8)).put 3 (.slice B8 m8 d8)
  simp only [List.setIfInBounds_toArray, List.set_cons_zero, List.set_cons_succ] at b9
  have hb6t := HB6.out
  have hne1 : bt ≠ b6 := by omega
  have hne2 : b6 ≠ bt := fun e => hne1 e.symm
  have X134 := Lib.hid b9
  have X64 := Lib.hid (X63.out.fr f34 (fun e => hne2 e))
  have F34 := Lib.hid f34
  clear f34 b9 hb6t r0 r1 r2 r3 rf0 rf1 rf2 rf3
  generalize (((w3.setCell ⟨bt, 0, none⟩ (.slice A8 n8 c8)).setCell ⟨bt, 1, none⟩ (.int .i64 ms8)).setCell ⟨bt, 2, none⟩ (.int .i64 wr8)).setCell ⟨bt, 3, none⟩ (.slice B8 m8 d8) = w4 at X134 X64 F34 ⊢
  have hc2 : (cd == cd) = true := by simp
  have f24 : Fr (fun k => k = bt) w2 w4 := (HF3.out.no (fun k => k = bt)).trans F34.out (fun k hk _ => hk)
  have hbtl : bt < w1.heap.size := X13.out.lt
  have HSM := Lib.hid (fun (X : World) (hf : Fr No w4 X) => same_post HSH.out HST.out HF3.out HR3.out ⟨HV3.out, HVN3.out⟩ F34.out hbtl hf)
  simp only [← HKV.out] at HSM
  have HK := Lib.hid (fun (X : World) (hf : Fr No w4 X) => (show X.cell? ⟨bt, 0, none⟩ = some (.slice A8 n8 c8) ∧ X.cell? ⟨bt, 1, none⟩ = some (.int .i64 ms8) ∧ X.cell? ⟨bt, 2, none⟩ = some (.int .i64 wr8) ∧ X.cell? ⟨bt, 3, none⟩ = some (.slice B8 m8 d8) from by
    have hb := X134.out.fr hf (fun h => h)
    exact ⟨hb.cell 0, hb.cell 1, hb.cell 2, hb.cell 3⟩))
  obtain ⟨t0, t1, t2, t3⟩ := HK.out w4 (Fr.refl _ _)
  clear f24 hbtl
  go_region_held3 (fun X => X.cell? ⟨bt, 0, none⟩ = some (.slice A8 n8 c8) ∧ X.cell? ⟨bt, 1, none⟩ = some (.int .i64 ms8) ∧ X.cell? ⟨bt, 2, none⟩ = some (.int .i64 wr8) ∧ X.cell? ⟨bt, 3, none⟩ = some (.slice B8 m8 d8)) (first | (refine HK.out _ ?_; (repeat' (first | with_reducible assumption | with_reducible exact Fr.refl _ _ | with_reducible refine Fr.drew ?_ | with_reducible refine Fr.alloc ?_ _)); done) | (go_keep)) (first | (go_at_call 49; refine (HSM.out _ (by repeat' (first | with_reducible assumption | with_reducible exact Fr.refl _ _ | with_reducible refine Fr.drew ?_ | with_reducible refine Fr.alloc ?_ _))).mono ?_; rintro e w5 ⟨rfl, hf5⟩; have z5 := X64.out.fr hf5 (fun h => h); have z0 := z5.cell 0; have z1 := z5.cell 1; have z2 := z5.cell 2; have z3 := z5.cell 3; have zf0 := z5.frozen 0; have zf1 := z5.frozen 1; have zf2 := z5.frozen 2; have zf3 := z5.frozen 3; simp only [List.getElem?_toArray, List.getElem?_cons_zero, List.getElem?_cons_succ] at z0 z1 z2 z3; have t5 := HK.out _ hf5; obtain ⟨t50, t51, t52, t53⟩ := t5; have Z5 := Lib.hid z5; clear z5))
  go_wp2_with fail
  have F45 := hf5
  have f56 : Fr (fun k => k = b6) w5 ((((w5.setCell ⟨b6, 0, none⟩ (.slice A8 n8 c8)).setCell ⟨b6, 1, none⟩ (.int .i64 ms8)).setCell ⟨b6, 2, none⟩ (.int .i64 wr8)).setCell ⟨b6, 3, none⟩ (.slice B8 m8 d8)) := Fr.setCell (F := fun k => k = b6) (Fr.setCell (F := fun k => k = b6) (Fr.setCell (F := fun k => k = b6) (Fr.setCell (F := fun k => k = b6) (Fr.refl _ _) (p := ⟨b6, 0, none⟩) (.inl rfl) _) (p := ⟨b6, 1, none⟩) (.inl rfl) _) (p := ⟨b6, 2, none⟩) (.inl rfl) _) (p := ⟨b6, 3, none⟩) (.inl rfl) _
  have f26 : Fr (fun k => k = bt ∨ k = b6) w2 ((((w5.setCell ⟨b6, 0, none⟩ (.slice A8 n8 c8)).setCell ⟨b6, 1, none⟩ (.int .i64 ms8)).setCell ⟨b6, 2, none⟩ (.int .i64 wr8)).setCell ⟨b6, 3, none⟩ (.slice B8 m8 d8)) :=
    (((HF3.out.no (fun k => k = bt ∨ k = b6)).trans F34.out (fun k hk _ => .inl hk)).then_no F45).trans f56 (fun k hk _ => .inr hk)
  have hbb := HBX.out
  have hb6u := HB6.out
  have dt := do_end (F := F) (S := S) (r := r) (bt := bt) (b6 := b6) F11.out HST.out HS.out.lt H.out.lt HSF.out ⟨by omega, X13.out.lt⟩ ⟨by omega, X61.out.lt⟩ f26 HA2.out HSH.out HR3.out HF3.out (((F34.out.mono (F' := fun k => k = bt ∨ k = b6) fun k hk _ => .inl hk).then_no F45).trans f56 (fun k hk _ => .inr hk))
  rw [AG8.out, ← HKV.out] at dt
  have b9 := (((Z5.out.put 0 (.slice A8 n8 c8)).put 1 (.int .i64 ms8)).put 2 (.int .i64 wr8)).put 3 (.slice B8 m8 d8)
  simp only [List.setIfInBounds_toArray, List.set_cons_zero, List.set_cons_succ] at b9
  have e0 := b9.cell 0
  have e1 := b9.cell 1
  have e2 := b9.cell 2
  have e3 := b9.cell 3
  simp only [List.getElem?_toArray, List.getElem?_cons_zero, List.getElem?_cons_succ] at e0 e1 e2 e3
  refine bodyPost_ret (v := .tuple #[.agg #[.slice A8 n8 c8, .int .i64 ms8, .int .i64 wr8, .slice B8 m8 d8], .slice Av kv cv, .bool true]) ?_ rfl dt
  clear b9
  simp [results, Try.f33, go_sem, e0, e1, e2, e3]
set_option maxRecDepth 100000 in
set_option maxHeartbeats 4000000 in
theorem do_5 {F : Nat → Prop} {b : Nat} (hs : SAt w F b s) (hi : Inv s) (h : RS w S vL vW s) (hSF : ∀ k, S k → ¬ F k) (kd id level : Int) (hid : (Lit.int .i64 id).wf = true) (hlv : (Lit.int .i64 level).wf = true) (hk0 : 0 ≤ kd) (hk1 : kd < 256) (hk : kd % 7 = 5) : Calls Try.prog 33 #[.pointer (some ⟨b, 0, none⟩), agS vL vW s, .agg #[.int .u8 kd, .int .i64 id, .int .i64 level]] w (DoT (yieldR s id) F b S w) := by
  have HL := Lib.hid (show s.L.length ≤ 4096 by have := hi.len; have := hi.most; omega)
  have HQ := Lib.hid (show s.q.length ≤ 4096 by have := hi.qlen; have := hi.most; omega)
  have HWI := Lib.hid (show s.wr = -1 ∨ 0 ≤ s.wr from hi.wr_cases.elim (fun g => .inl g.1) (fun g => .inr g.1))
  have HI := Lib.hid hi
  have HS := Lib.hid hs
  have HSF := Lib.hid hSF
  obtain ⟨A, c, B, d, rfl, rfl, hA1, hA2, hB1, hB2⟩ := h.forms
  obtain ⟨n, hn⟩ : ∃ n, n = s.L.length := ⟨_, rfl⟩
  obtain ⟨m, hm⟩ : ∃ m, m = s.q.length := ⟨_, rfl⟩
  obtain ⟨wr, hwr⟩ : ∃ wr, wr = s.wr := ⟨_, rfl⟩
  obtain ⟨ms, hms⟩ : ∃ ms, ms = s.most := ⟨_, rfl⟩
  have ag : agS (.slice A s.L.length c) (.slice B s.q.length d) s = .agg #[.slice A n c, .int .i64 ms, .int .i64 wr, .slice B m d] := by rw [hn, hm, hwr, hms]
  rw [ag]
  have AG := Lib.hid ag
  have H := Lib.hid h
  obtain ⟨r, hr⟩ : ∃ r, r = yieldR s id := ⟨_, rfl⟩
  rw [← hr]
  have HR := Lib.hid hr
  obtain ⟨bx, hbx⟩ : ∃ bx, w.heap.size = bx := ⟨_, rfl⟩
  have XB := ((Blk.new w 71 #[.slice A n c, .int .i64 ms, .int .i64 wr, .slice B m d]).alloc (.cells #[.int .u8 kd, .int .i64 id, .int .i64 level] 76)).alloc (.cells #[.slice none 0 0, .int .i64 0, .int .i64 0, .slice none 0 0] 71)
  have XO := (Blk.new (w.alloc (.cells #[.slice A n c, .int .i64 ms, .int .i64 wr, .slice B m d] 71)) 76 #[.int .u8 kd, .int .i64 id, .int .i64 level]).alloc (.cells #[.slice none 0 0, .int .i64 0, .int .i64 0, .slice none 0 0] 71)
  have X6 := Blk.new ((w.alloc (.cells #[.slice A n c, .int .i64 ms, .int .i64 wr, .slice B m d] 71)).alloc (.cells #[.int .u8 kd, .int .i64 id, .int .i64 level] 76)) 71 #[.slice none 0 0, .int .i64 0, .int .i64 0, .slice none 0 0]
  have F1 := (((Fr.refl No w).alloc (.cells #[.slice A n c, .int .i64 ms, .int .i64 wr, .slice B m d] 71)).alloc (.cells #[.int .u8 kd, .int .i64 id, .int .i64 level] 76)).alloc (.cells #[.slice none 0 0, .int .i64 0, .int .i64 0, .slice none 0 0] 71)
  simp only [size_alloc] at XO X6
  obtain ⟨bo, hbo⟩ : ∃ bo, bx + 1 = bo := ⟨_, rfl⟩
  obtain ⟨b6, hb6⟩ : ∃ b6, bo + 1 = b6 := ⟨_, rfl⟩
  rw [hbx] at XB XO X6
  rw [hbo] at XO X6
  rw [hb6] at X6
  have XB := Lib.hid XB
  have XO := Lib.hid XO
  have X6 := Lib.hid X6
  have F1 := Lib.hid F1
  have HBX := Lib.hid (And.intro hbx (And.intro hbo hb6))
  clear hs h hi hSF ag hn hm hwr hms hr
  go_enter Try.func33, Try.ntmps33
  go_upto_region 3 with (fail)
  generalize ((w.alloc (.cells #[.slice A n c, .int .i64 ms, .int .i64 wr, .slice B m d] 71)).alloc (.cells #[.int .u8 kd, .int .i64 id, .int .i64 level] 76)).alloc (.cells #[.slice none 0 0, .int .i64 0, .int .i64 0, .slice none 0 0] 71) = w0 at XB XO X6 F1 ⊢
  clear hbx hbo hb6
  have XBo := XB.out
  have x0 := XBo.cell 0
  have x1 := XBo.cell 1
  have x2 := XBo.cell 2
  have x3 := XBo.cell 3
  have xf0 := XBo.frozen 0
  have xf1 := XBo.frozen 1
  have xf2 := XBo.frozen 2
  have xf3 := XBo.frozen 3
  simp only [List.getElem?_toArray, List.getElem?_cons_zero, List.getElem?_cons_succ] at x0 x1 x2 x3
  clear XBo
  go_upto_region 4 with (fail)
  clear x0 x1 x2 x3 xf0 xf1 xf2 xf3
  have X13 := Lib.hid (Blk.new w0 71 #[.slice A n c, .int .i64 ms, .int .i64 wr, .slice B m d])
  have XB1 := Lib.hid (XB.out.alloc (.cells #[.slice A n c, .int .i64 ms, .int .i64 wr, .slice B m d] 71))
  have XO1 := Lib.hid (XO.out.alloc (.cells #[.slice A n c, .int .i64 ms, .int .i64 wr, .slice B m d] 71))
  have X61 := Lib.hid (X6.out.alloc (.cells #[.slice A n c, .int .i64 ms, .int .i64 wr, .slice B m d] 71))
  have F11 := Lib.hid (F1.out.alloc (.cells #[.slice A n c, .int .i64 ms, .int .i64 wr, .slice B m d] 71))
  have HB6 := Lib.hid X6.out.lt
  obtain ⟨bt, hbt⟩ : ∃ bt, w0.heap.size = bt := ⟨_, rfl⟩
  rw [hbt] at X13 HB6 ⊢
  generalize w0.alloc (.cells #[.slice A n c, .int .i64 ms, .int .i64 wr, .slice B m d] 71) = w1 at X13 XB1 XO1 X61 F11 ⊢
  clear hbt
  have XOo := XO1.out
  have o0 := XOo.cell 0
  have o1 := XOo.cell 1
  have o2 := XOo.cell 2
  simp only [List.getElem?_toArray, List.getElem?_cons_zero, List.getElem?_cons_succ] at o0 o1 o2
  clear XOo
  go_upto_region 23 with (fail)
  have HS1 := Lib.hid (HS.out.no F11.out)
  have HP := Lib.hid (yield_any HS1.out HI.out id)
  rw [← HR.out] at HP
  go_wp2_with fail
  refine HP.out.mono ?_
  rintro e w2 ⟨F', v, rfl, hSh, hA2, hSt⟩
  obtain ⟨Av, cv, rfl⟩ := own_form hSh.own
  obtain ⟨kv, hkv⟩ : ∃ kv, kv = r.2.1.length := ⟨_, rfl⟩
  obtain ⟨cd, hcd⟩ : ∃ cd, cd = r.2.2 := ⟨_, rfl⟩
  rw [← hkv, ← hcd]
  have hSh2 := hSh
  rw [← hkv] at hSh2
  have HSH := Lib.hid hSh
  have HST := Lib.hid hSt
  have HA2 := Lib.hid hA2
  have HKV := Lib.hid hkv
  have HCD := Lib.hid hcd
  have hlt : ∀ k, F k → k < w.heap.size := HS.out.lt
  have hbb := HBX.out
  have hb6u := HB6.out
  have XB2 := Lib.hid (XB1.out.fr hSt.1 (fun e => by have := hlt _ e; omega))
  have XO2 := Lib.hid (XO1.out.fr hSt.1 (fun e => by have := hlt _ e; omega))
  have X62 := Lib.hid (X61.out.fr hSt.1 (fun e => by have := hlt _ e; omega))
  have X132 := Lib.hid (X13.out.fr hSt.1 (fun e => by have := hlt _ e; omega))
  have R2 := Lib.hid ((H.out.no F11.out).fr hSt.1 HSF.out)
  have href := ryield_any R2.out HQ.out id
  rw [AG.out, ← HR.out] at href
  have HREF := Lib.hid href
  clear hSh hSh2 hSt hA2 hkv hcd hlt hbb hb6u href o0 o1 o2
  have XBo := XB2.out
  have x0 := XBo.cell 0
  have x1 := XBo.cell 1
  have x2 := XBo.cell 2
  have x3 := XBo.cell 3
  have xf0 := XBo.frozen 0
  have xf1 := XBo.frozen 1
  have xf2 := XBo.frozen 2
  have xf3 := XBo.frozen 3
  simp only [List.getElem?_toArray, List.getElem?_cons_zero, List.getElem?_cons_succ] at x0 x1 x2 x3
  clear XBo
  have XOo := XO2.out
  have o0 := XOo.cell 0
  have o1 := XOo.cell 1
  have o2 := XOo.cell 2
  simp only [List.getElem?_toArray, List.getElem?_cons_zero, List.getElem?_cons_succ] at o0 o1 o2
  clear XOo
  go_wp2_with fail
  refine HREF.out.mono ?_
  rintro e w3 ⟨vL, vW, v, rfl, hR3, ⟨hv3, hvn3⟩, hf3⟩
  obtain ⟨A8, c8, B8, d8, rfl, rfl, -⟩ := hR3.forms
  obtain ⟨A9, c9, rfl⟩ := own_form hv3
  obtain ⟨n8, hn8⟩ : ∃ n8, n8 = r.1.L.length := ⟨_, rfl⟩
  obtain ⟨m8, hm8⟩ : ∃ m8, m8 = r.1.q.length := ⟨_, rfl⟩
  obtain ⟨wr8, hwr8⟩ : ∃ wr8, wr8 = r.1.wr := ⟨_, rfl⟩
  obtain ⟨ms8, hms8⟩ : ∃ ms8, ms8 = r.1.most := ⟨_, rfl⟩
  have ag8 : agS (.slice A8 r.1.L.length c8) (.slice B8 r.1.q.length d8) r.1 = .agg #[.slice A8 n8 c8, .int .i64 ms8, .int .i64 wr8, .slice B8 m8 d8] := by rw [hn8, hm8, hwr8, hms8]
  rw [ag8, ← HKV.out, ← HCD.out]
  have AG8 := Lib.hid ag8
  have HR3 := Lib.hid hR3
  have HV3 := Lib.hid hv3
  have HF3 := Lib.hid hf3
  have HVN3 := Lib.hid hvn3
  have X133 := Lib.hid (X132.out.fr hf3 (fun h => h))
  have X63 := Lib.hid (X62.out.fr hf3 (fun h => h))
  clear hR3 hv3 hvn3 hf3 ag8 hn8 hm8 hwr8 hms8 x0 x1 x2 x3 xf0 xf1 xf2 xf3 o0 o1 o2
  have XRo := X133.out
  have r0 := XRo.cell 0
  have r1 := XRo.cell 1
  have r2 := XRo.cell 2
  have r3 := XRo.cell 3
  have rf0 := XRo.frozen 0
  have rf1 := XRo.frozen 1
  have rf2 := XRo.frozen 2
  have rf3 := XRo.frozen 3
  simp only [List.getElem?_toArray, List.getElem?_cons_zero, List.getElem?_cons_succ] at r0 r1 r2 r3
  clear XRo
  go_upto_region 25 with (fail)
  have f34 : Fr (fun k => k = bt) w3 ((((w3.setCell ⟨bt, 0, none⟩ (.slice A8 n8 c8)).setCell ⟨bt, 1, none⟩ (.int .i64 ms8)).setCell ⟨bt, 2, none⟩ (.int .i64 wr8)).setCell ⟨bt, 3, none⟩ (.slice B8 m8 d8)) := Fr.setCell (F := fun k => k = bt) (Fr.setCell (F := fun k => k = bt) (Fr.setCell (F := fun k => k = bt) (Fr.setCell (F := fun k => k = bt) (Fr.refl _ _) (p := ⟨bt, 0, none⟩) (.inl rfl) _) (p := ⟨bt, 1, none⟩) (.inl rfl) _) (p := ⟨bt, 2, none⟩) (.inl rfl) _) (p := ⟨bt, 3, none⟩) (.inl rfl) _
  have b9 := (((X133.out.put 0 (.slice A8 n8 c8)).put 1 (.int .i64 ms8)).put 2 (.int .i64 wr8)).put 3 (.slice B8 m8 d8)
  simp only [List.setIfInBounds_toArray, List.set_cons_zero, List.set_cons_succ] at b9
  have hb6t := HB6.out
  have hne1 : bt ≠ b6 := by omega
  have hne2 : b6 ≠ bt := fun e => hne1 e.symm
  have X134 := Lib.hid b9
  have X64 := Lib.hid (X63.out.fr f34 (fun e => hne2 e))
  have F34 := Lib.hid f34
  clear f34 b9 hb6t r0 r1 r2 r3 rf0 rf1 rf2 rf3
  generalize (((w3.setCell ⟨bt, 0, none⟩ (.slice A8 n8 c8)).setCell ⟨bt, 1, none⟩ (.int .i64 ms8)).setCell ⟨bt, 2, none⟩ (.int .i64 wr8)).setCell ⟨bt, 3, none⟩ (.slice B8 m8 d8) = w4 at X134 X64 F34 ⊢
  have hc2 : (cd == cd) = true := by simp
  have f24 : Fr (fun k => k = bt) w2 w4 := (HF3.out.no (fun k => k = bt)).trans F34.out (fun k hk _ => hk)
  have hbtl : bt < w1.heap.size := X13.out.lt
  have HSM := Lib.hid (fun (X : World) (hf : Fr No w4 X) => same_post HSH.out HST.out HF3.out HR3.out ⟨HV3.out, HVN3.out⟩ F34.out hbtl hf)
  simp only [← HKV.out] at HSM
  have HK := Lib.hid (fun (X : World) (hf : Fr No w4 X) => (show X.cell? ⟨bt, 0, none⟩ = some (.slice A8 n8 c8) ∧ X.cell? ⟨bt, 1, none⟩ = some (.int .i64 ms8) ∧ X.cell? ⟨bt, 2, none⟩ = some (.int .i64 wr8) ∧ X.cell? ⟨bt, 3, none⟩ = some (.slice B8 m8 d8) from by
    have hb := X134.out.fr hf (fun h => h)
    exact ⟨hb.cell 0, hb.cell 1, hb.cell 2, hb.cell 3⟩))
  obtain ⟨t0, t1, t2, t3⟩ := HK.out w4 (Fr.refl _ _)
  clear f24 hbtl
  go_region_held3 (fun X => X.cell? ⟨bt, 0, none⟩ = some (.slice A8 n8 c8) ∧ X.cell? ⟨bt, 1, none⟩ = some (.int .i64 ms8) ∧ X.cell? ⟨bt, 2, none⟩ = some (.int .i64 wr8) ∧ X.cell? ⟨bt, 3, none⟩ = some (.slice B8 m8 d8)) (first | (refine HK.out _ ?_; (repeat' (first | with_reducible assumption | with_reducible exact Fr.refl _ _ | with_reducible refine Fr.drew ?_ | with_reducible refine Fr.alloc ?_ _)); done) | (go_keep)) (first | (go_at_call 49; refine (HSM.out _ (by repeat' (first | with_reducible assumption | with_reducible exact Fr.refl _ _ | with_reducible refine Fr.drew ?_ | with_reducible refine Fr.alloc ?_ _))).mono ?_; rintro e w5 ⟨rfl, hf5⟩; have z5 := X64.out.fr hf5 (fun h => h); have z0 := z5.cell 0; have z1 := z5.cell 1; have z2 := z5.cell 2; have z3 := z5.cell 3; have zf0 := z5.frozen 0; have zf1 := z5.frozen 1; have zf2 := z5.frozen 2; have zf3 := z5.frozen 3; simp only [List.getElem?_toArray, List.getElem?_cons_zero, List.getElem?_cons_succ] at z0 z1 z2 z3; have t5 := HK.out _ hf5; obtain ⟨t50, t51, t52, t53⟩ := t5; have Z5 := Lib.hid z5; clear z5))
  go_wp2_with fail
  have F45 := hf5
  have f56 : Fr (fun k => k = b6) w5 ((((w5.setCell ⟨b6, 0, none⟩ (.slice A8 n8 c8)).setCell ⟨b6, 1, none⟩ (.int .i64 ms8)).setCell ⟨b6, 2, none⟩ (.int .i64 wr8)).setCell ⟨b6, 3, none⟩ (.slice B8 m8 d8)) := Fr.setCell (F := fun k => k = b6) (Fr.setCell (F := fun k => k = b6) (Fr.setCell (F := fun k => k = b6) (Fr.setCell (F := fun k => k = b6) (Fr.refl _ _) (p := ⟨b6, 0, none⟩) (.inl rfl) _) (p := ⟨b6, 1, none⟩) (.inl rfl) _) (p := ⟨b6, 2, none⟩) (.inl rfl) _) (p := ⟨b6, 3, none⟩) (.inl rfl) _
  have f26 : Fr (fun k => k = bt ∨ k = b6) w2 ((((w5.setCell ⟨b6, 0, none⟩ (.slice A8 n8 c8)).setCell ⟨b6, 1, none⟩ (.int .i64 ms8)).setCell ⟨b6, 2, none⟩ (.int .i64 wr8)).setCell ⟨b6, 3, none⟩ (.slice B8 m8 d8)) :=
    (((HF3.out.no (fun k => k = bt ∨ k = b6)).trans F34.out (fun k hk _ => .inl hk)).then_no F45).trans f56 (fun k hk _ => .inr hk)
  have hbb := HBX.out
  have hb6u := HB6.out
  have dt := do_end (F := F) (S := S) (r := r) (bt := bt) (b6 := b6) F11.out HST.out HS.out.lt H.out.lt HSF.out ⟨by omega, X13.out.lt⟩ ⟨by omega, X61.out.lt⟩ f26 HA2.out HSH.out HR3.out HF3.out (((F34.out.mono (F' := fun k => k = bt ∨ k = b6) fun k hk _ => .inl hk).then_no F45).trans f56 (fun k hk _ => .inr hk))
  rw [AG8.out, ← HKV.out] at dt
  have b9 := (((Z5.out.put 0 (.slice A8 n8 c8)).put 1 (.int .i64 ms8)).put 2 (.int .i64 wr8)).put 3 (.slice B8 m8 d8)
  simp only [List.setIfInBounds_toArray, List.set_cons_zero, List.set_cons_succ] at b9
  have e0 := b9.cell 0
  have e1 := b9.cell 1
  have e2 := b9.cell 2
  have e3 := b9.cell 3
  simp only [List.getElem?_toArray, List.getElem?_cons_zero, List.getElem?_cons_succ] at e0 e1 e2 e3
  refine bodyPost_ret (v := .tuple #[.agg #[.slice A8 n8 c8, .int .i64 ms8, .int .i64 wr8, .slice B8 m8 d8], .slice Av kv cv, .bool true]) ?_ rfl dt
  clear b9
  simp [results, Try.f33, go_sem, e0, e1, e2, e3]
set_option maxRecDepth 100000 in
set_option maxHeartbeats 4000000 in
theorem do_6 {F : Nat → Prop} {b : Nat} (hs : SAt w F b s) (hi : Inv s) (h : RS w S vL vW s) (hSF : ∀ k, S k → ¬ F k) (kd id level : Int) (hid : (Lit.int .i64 id).wf = true) (hlv : (Lit.int .i64 level).wf = true) (hk0 : 0 ≤ kd) (hk1 : kd < 256) (hk : kd % 7 = 6) : Calls Try.prog 33 #[.pointer (some ⟨b, 0, none⟩), agS vL vW s, .agg #[.int .u8 kd, .int .i64 id, .int .i64 level]] w (DoT (leaveR s id) F b S w) := by
  have HL := Lib.hid (show s.L.length ≤ 4096 by have := hi.len; have := hi.most; omega)
  have HQ := Lib.hid (show s.q.length ≤ 4096 by have := hi.qlen; have := hi.most; omega)
  have HWI := Lib.hid (show s.wr = -1 ∨ 0 ≤ s.wr from hi.wr_cases.elim (fun g => .inl g.1) (fun g => .inr g.1))
  have HI := Lib.hid hi
  have HS := Lib.hid hs
  have HSF := Lib.hid hSF
  obtain ⟨A, c, B, d, rfl, rfl, hA1, hA2, hB1, hB2⟩ := h.forms
  obtain ⟨n, hn⟩ : ∃ n, n = s.L.length := ⟨_, rfl⟩
  obtain ⟨m, hm⟩ : ∃ m, m = s.q.length := ⟨_, rfl⟩
  obtain ⟨wr, hwr⟩ : ∃ wr, wr = s.wr := ⟨_, rfl⟩
  obtain ⟨ms, hms⟩ : ∃ ms, ms = s.most := ⟨_, rfl⟩
  have ag : agS (.slice A s.L.length c) (.slice B s.q.length d) s = .agg #[.slice A n c, .int .i64 ms, .int .i64 wr, .slice B m d] := by rw [hn, hm, hwr, hms]
  rw [ag]
  have AG := Lib.hid ag
  have H := Lib.hid h
  obtain ⟨r, hr⟩ : ∃ r, r = leaveR s id := ⟨_, rfl⟩
  rw [← hr]
  have HR := Lib.hid hr
  obtain ⟨bx, hbx⟩ : ∃ bx, w.heap.size = bx := ⟨_, rfl⟩
  have XB := ((Blk.new w 71 #[.slice A n c, .int .i64 ms, .int .i64 wr, .slice B m d]).alloc (.cells #[.int .u8 kd, .int .i64 id, .int .i64 level] 76)).alloc (.cells #[.slice none 0 0, .int .i64 0, .int .i64 0, .slice none 0 0] 71)
  have XO := (Blk.new (w.alloc (.cells #[.slice A n c, .int .i64 ms, .int .i64 wr, .slice B m d] 71)) 76 #[.int .u8 kd, .int .i64 id, .int .i64 level]).alloc (.cells #[.slice none 0 0, .int .i64 0, .int .i64 0, .slice none 0 0] 71)
  have X6 := Blk.new ((w.alloc (.cells #[.slice A n c, .int .i64 ms, .int .i64 wr, .slice B m d] 71)).alloc (.cells #[.int .u8 kd, .int .i64 id, .int .i64 level] 76)) 71 #[.slice none 0 0, .int .i64 0, .int .i64 0, .slice none 0 0]
  have F1 := (((Fr.refl No w).alloc (.cells #[.slice A n c, .int .i64 ms, .int .i64 wr, .slice B m d] 71)).alloc (.cells #[.int .u8 kd, .int .i64 id, .int .i64 level] 76)).alloc (.cells #[.slice none 0 0, .int .i64 0, .int .i64 0, .slice none 0 0] 71)
  simp only [size_alloc] at XO X6
  obtain ⟨bo, hbo⟩ : ∃ bo, bx + 1 = bo := ⟨_, rfl⟩
  obtain ⟨b6, hb6⟩ : ∃ b6, bo + 1 = b6 := ⟨_, rfl⟩
  rw [hbx] at XB XO X6
  rw [hbo] at XO X6
  rw [hb6] at X6
  have XB := Lib.hid XB
  have XO := Lib.hid XO
  have X6 := Lib.hid X6
  have F1 := Lib.hid F1
  have HBX := Lib.hid (And.intro hbx (And.intro hbo hb6))
  clear hs h hi hSF ag hn hm hwr hms hr
  go_enter Try.func33, Try.ntmps33
  go_upto_region 3 with (fail)
  generalize ((w.alloc (.cells #[.slice A n c, .int .i64 ms, .int .i64 wr, .slice B m d] 71)).alloc (.cells #[.int .u8 kd, .int .i64 id, .int .i64 level] 76)).alloc (.cells #[.slice none 0 0, .int .i64 0, .int .i64 0, .slice none 0 0] 71) = w0 at XB XO X6 F1 ⊢
  clear hbx hbo hb6
  have XBo := XB.out
  have x0 := XBo.cell 0
  have x1 := XBo.cell 1
  have x2 := XBo.cell 2
  have x3 := XBo.cell 3
  have xf0 := XBo.frozen 0
  have xf1 := XBo.frozen 1
  have xf2 := XBo.frozen 2
  have xf3 := XBo.frozen 3
  simp only [List.getElem?_toArray, List.getElem?_cons_zero, List.getElem?_cons_succ] at x0 x1 x2 x3
  clear XBo
  go_upto_region 4 with (fail)
  clear x0 x1 x2 x3 xf0 xf1 xf2 xf3
  have X13 := Lib.hid (Blk.new w0 71 #[.slice A n c, .int .i64 ms, .int .i64 wr, .slice B m d])
  have XB1 := Lib.hid (XB.out.alloc (.cells #[.slice A n c, .int .i64 ms, .int .i64 wr, .slice B m d] 71))
  have XO1 := Lib.hid (XO.out.alloc (.cells #[.slice A n c, .int .i64 ms, .int .i64 wr, .slice B m d] 71))
  have X61 := Lib.hid (X6.out.alloc (.cells #[.slice A n c, .int .i64 ms, .int .i64 wr, .slice B m d] 71))
  have F11 := Lib.hid (F1.out.alloc (.cells #[.slice A n c, .int .i64 ms, .int .i64 wr, .slice B m d] 71))
  have HB6 := Lib.hid X6.out.lt
  obtain ⟨bt, hbt⟩ : ∃ bt, w0.heap.size = bt := ⟨_, rfl⟩
  rw [hbt] at X13 HB6 ⊢
  generalize w0.alloc (.cells #[.slice A n c, .int .i64 ms, .int .i64 wr, .slice B m d] 71) = w1 at X13 XB1 XO1 X61 F11 ⊢
  clear hbt
  have XOo := XO1.out
  have o0 := XOo.cell 0
  have o1 := XOo.cell 1
  have o2 := XOo.cell 2
  simp only [List.getElem?_toArray, List.getElem?_cons_zero, List.getElem?_cons_succ] at o0 o1 o2
  clear XOo
  go_upto_region 5 with (fail)
  have HS1 := Lib.hid (HS.out.no F11.out)
  have HP := Lib.hid (leave_any HS1.out HI.out id)
  rw [← HR.out] at HP
  go_wp2_with fail
  refine HP.out.mono ?_
  rintro e w2 ⟨F', v, rfl, hSh, hA2, hSt⟩
  obtain ⟨Av, cv, rfl⟩ := own_form hSh.own
  obtain ⟨kv, hkv⟩ : ∃ kv, kv = r.2.1.length := ⟨_, rfl⟩
  obtain ⟨cd, hcd⟩ : ∃ cd, cd = r.2.2 := ⟨_, rfl⟩
  rw [← hkv, ← hcd]
  have hSh2 := hSh
  rw [← hkv] at hSh2
  have HSH := Lib.hid hSh
  have HST := Lib.hid hSt
  have HA2 := Lib.hid hA2
  have HKV := Lib.hid hkv
  have HCD := Lib.hid hcd
  have hlt : ∀ k, F k → k < w.heap.size := HS.out.lt
  have hbb := HBX.out
  have hb6u := HB6.out
  have XB2 := Lib.hid (XB1.out.fr hSt.1 (fun e => by have := hlt _ e; omega))
  have XO2 := Lib.hid (XO1.out.fr hSt.1 (fun e => by have := hlt _ e; omega))
  have X62 := Lib.hid (X61.out.fr hSt.1 (fun e => by have := hlt _ e; omega))
  have X132 := Lib.hid (X13.out.fr hSt.1 (fun e => by have := hlt _ e; omega))
  have R2 := Lib.hid ((H.out.no F11.out).fr hSt.1 HSF.out)
  have href := rleave_any R2.out HL.out HQ.out id
  rw [AG.out, ← HR.out] at href
  have HREF := Lib.hid href
  clear hSh hSh2 hSt hA2 hkv hcd hlt hbb hb6u href o0 o1 o2
  have XBo := XB2.out
  have x0 := XBo.cell 0
  have x1 := XBo.cell 1
  have x2 := XBo.cell 2
  have x3 := XBo.cell 3
  have xf0 := XBo.frozen 0
  have xf1 := XBo.frozen 1
  have xf2 := XBo.frozen 2
  have xf3 := XBo.frozen 3
  simp only [List.getElem?_toArray, List.getElem?_cons_zero, List.getElem?_cons_succ] at x0 x1 x2 x3
  clear XBo
  have XOo := XO2.out
  have o0 := XOo.cell 0
  have o1 := XOo.cell 1
  have o2 := XOo.cell 2
  simp only [List.getElem?_toArray, List.getElem?_cons_zero, List.getElem?_cons_succ] at o0 o1 o2
  clear XOo
  go_wp2_with fail
  refine HREF.out.mono ?_
  rintro e w3 ⟨vL, vW, v, rfl, hR3, ⟨hv3, hvn3⟩, hf3⟩
  obtain ⟨A8, c8, B8, d8, rfl, rfl, -⟩ := hR3.forms
  obtain ⟨A9, c9, rfl⟩ := own_form hv3
  obtain ⟨n8, hn8⟩ : ∃ n8, n8 = r.1.L.length := ⟨_, rfl⟩
  obtain ⟨m8, hm8⟩ : ∃ m8, m8 = r.1.q.length := ⟨_, rfl⟩
  obtain ⟨wr8, hwr8⟩ : ∃ wr8, wr8 = r.1.wr := ⟨_, rfl⟩
  obtain ⟨ms8, hms8⟩ : ∃ ms8, ms8 = r.1.most := ⟨_, rfl⟩
  have ag8 : agS (.slice A8 r.1.L.length c8) (.slice B8 r.1.q.length d8) r.1 = .agg #[.slice A8 n8 c8, .int .i64 ms8, .int .i64 wr8, .slice B8 m8 d8] := by rw [hn8, hm8, hwr8, hms8]
  rw [ag8, ← HKV.out, ← HCD.out]
  have AG8 := Lib.hid ag8
  have HR3 := Lib.hid hR3
  have HV3 := Lib.hid hv3
  have HF3 := Lib.hid hf3
  have HVN3 := Lib.hid hvn3
  have X133 := Lib.hid (X132.out.fr hf3 (fun h => h))
  have X63 := Lib.hid (X62.out.fr hf3 (fun h => h))
  clear hR3 hv3 hvn3 hf3 ag8 hn8 hm8 hwr8 hms8 x0 x1 x2 x3 xf0 xf1 xf2 xf3 o0 o1 o2
  have XRo := X133.out
  have r0 := XRo.cell 0
  have r1 := XRo.cell 1
  have r2 := XRo.cell 2
  have r3 := XRo.cell 3
  have rf0 := XRo.frozen 0
  have rf1 := XRo.frozen 1
  have rf2 := XRo.frozen 2
  have rf3 := XRo.frozen 3
  simp only [List.getElem?_toArray, List.getElem?_cons_zero, List.getElem?_cons_succ] at r0 r1 r2 r3
  clear XRo
  go_upto_region 25 with (fail)
  have f34 : Fr (fun k => k = bt) w3 ((((w3.setCell ⟨bt, 0, none⟩ (.slice A8 n8 c8)).setCell ⟨bt, 1, none⟩ (.int .i64 ms8)).setCell ⟨bt, 2, none⟩ (.int .i64 wr8)).setCell ⟨bt, 3, none⟩ (.slice B8 m8 d8)) := Fr.setCell (F := fun k => k = bt) (Fr.setCell (F := fun k => k = bt) (Fr.setCell (F := fun k => k = bt) (Fr.setCell (F := fun k => k = bt) (Fr.refl _ _) (p := ⟨bt, 0, none⟩) (.inl rfl) _) (p := ⟨bt, 1, none⟩) (.inl rfl) _) (p := ⟨bt, 2, none⟩) (.inl rfl) _) (p := ⟨bt, 3, none⟩) (.inl rfl) _
  have b9 := (((X133.out.put 0 (.slice A8 n8 c8)).put 1 (.int .i64 ms8)).put 2 (.int .i64 wr8)).put 3 (.slice B8 m8 d8)
  simp only [List.setIfInBounds_toArray, List.set_cons_zero, List.set_cons_succ] at b9
  have hb6t := HB6.out
  have hne1 : bt ≠ b6 := by omega
  have hne2 : b6 ≠ bt := fun e => hne1 e.symm
  have X134 := Lib.hid b9
  have X64 := Lib.hid (X63.out.fr f34 (fun e => hne2 e))
  have F34 := Lib.hid f34
  clear f34 b9 hb6t r0 r1 r2 r3 rf0 rf1 rf2 rf3
  generalize (((w3.setCell ⟨bt, 0, none⟩ (.slice A8 n8 c8)).setCell ⟨bt, 1, none⟩ (.int .i64 ms8)).setCell ⟨bt, 2, none⟩ (.int .i64 wr8)).setCell ⟨bt, 3, none⟩ (.slice B8 m8 d8) = w4 at X134 X64 F34 ⊢
  have hc2 : (cd == cd) = true := by simp
  have f24 : Fr (fun k => k = bt) w2 w4 := (HF3.out.no (fun k => k = bt)).trans F34.out (fun k hk _ => hk)
  have hbtl : bt < w1.heap.size := X13.out.lt
  have HSM := Lib.hid (fun (X : World) (hf : Fr No w4 X) => same_post HSH.out HST.out HF3.out HR3.out ⟨HV3.out, HVN3.out⟩ F34.out hbtl hf)
  simp only [← HKV.out] at HSM
  have HK := Lib.hid (fun (X : World) (hf : Fr No w4 X) => (show X.cell? ⟨bt, 0, none⟩ = some (.slice A8 n8 c8) ∧ X.cell? ⟨bt, 1, none⟩ = some (.int .i64 ms8) ∧ X.cell? ⟨bt, 2, none⟩ = some (.int .i64 wr8) ∧ X.cell? ⟨bt, 3, none⟩ = some (.slice B8 m8 d8) from by
    have hb := X134.out.fr hf (fun h => h)
    exact ⟨hb.cell 0, hb.cell 1, hb.cell 2, hb.cell 3⟩))
  obtain ⟨t0, t1, t2, t3⟩ := HK.out w4 (Fr.refl _ _)
  clear f24 hbtl
  go_region_held3 (fun X => X.cell? ⟨bt, 0, none⟩ = some (.slice A8 n8 c8) ∧ X.cell? ⟨bt, 1, none⟩ = some (.int .i64 ms8) ∧ X.cell? ⟨bt, 2, none⟩ = some (.int .i64 wr8) ∧ X.cell? ⟨bt, 3, none⟩ = some (.slice B8 m8 d8)) (first | (refine HK.out _ ?_; (repeat' (first | with_reducible assumption | with_reducible exact Fr.refl _ _ | with_reducible refine Fr.drew ?_ | with_reducible refine Fr.alloc ?_ _)); done) | (go_keep)) (first | (go_at_call 49; refine (HSM.out _ (by repeat' (first | with_reducible assumption | with_reducible exact Fr.refl _ _ | with_reducible refine Fr.drew ?_ | with_reducible refine Fr.alloc ?_ _))).mono ?_; rintro e w5 ⟨rfl, hf5⟩; have z5 := X64.out.fr hf5 (fun h => h); have z0 := z5.cell 0; have z1 := z5.cell 1; have z2 := z5.cell 2; have z3 := z5.cell 3; have zf0 := z5.frozen 0; have zf1 := z5.frozen 1; have zf2 := z5.frozen 2; have zf3 := z5.frozen 3; simp only [List.getElem?_toArray, List.getElem?_cons_zero, List.getElem?_cons_succ] at z0 z1 z2 z3; have t5 := HK.out _ hf5; obtain ⟨t50, t51, t52, t53⟩ := t5; have Z5 := Lib.hid z5; clear z5))
  go_wp2_with fail
  have F45 := hf5
  have f56 : Fr (fun k => k = b6) w5 ((((w5.setCell ⟨b6, 0, none⟩ (.slice A8 n8 c8)).setCell ⟨b6, 1, none⟩ (.int .i64 ms8)).setCell ⟨b6, 2, none⟩ (.int .i64 wr8)).setCell ⟨b6, 3, none⟩ (.slice B8 m8 d8)) := Fr.setCell (F := fun k => k = b6) (Fr.setCell (F := fun k => k = b6) (Fr.setCell (F := fun k => k = b6) (Fr.setCell (F := fun k => k = b6) (Fr.refl _ _) (p := ⟨b6, 0, none⟩) (.inl rfl) _) (p := ⟨b6, 1, none⟩) (.inl rfl) _) (p := ⟨b6, 2, none⟩) (.inl rfl) _) (p := ⟨b6, 3, none⟩) (.inl rfl) _
  have f26 : Fr (fun k => k = bt ∨ k = b6) w2 ((((w5.setCell ⟨b6, 0, none⟩ (.slice A8 n8 c8)).setCell ⟨b6, 1, none⟩ (.int .i64 ms8)).setCell ⟨b6, 2, none⟩ (.int .i64 wr8)).setCell ⟨b6, 3, none⟩ (.slice B8 m8 d8)) :=
    (((HF3.out.no (fun k => k = bt ∨ k = b6)).trans F34.out (fun k hk _ => .inl hk)).then_no F45).trans f56 (fun k hk _ => .inr hk)
  have hbb := HBX.out
  have hb6u := HB6.out
  have dt := do_end (F := F) (S := S) (r := r) (bt := bt) (b6 := b6) F11.out HST.out HS.out.lt H.out.lt HSF.out ⟨by omega, X13.out.lt⟩ ⟨by omega, X61.out.lt⟩ f26 HA2.out HSH.out HR3.out HF3.out (((F34.out.mono (F' := fun k => k = bt ∨ k = b6) fun k hk _ => .inl hk).then_no F45).trans f56 (fun k hk _ => .inr hk))
  rw [AG8.out, ← HKV.out] at dt
  have b9 := (((Z5.out.put 0 (.slice A8 n8 c8)).put 1 (.int .i64 ms8)).put 2 (.int .i64 wr8)).put 3 (.slice B8 m8 d8)
  simp only [List.setIfInBounds_toArray, List.set_cons_zero, List.set_cons_succ] at b9
  have e0 := b9.cell 0
  have e1 := b9.cell 1
  have e2 := b9.cell 2
  have e3 := b9.cell 3
  simp only [List.getElem?_toArray, List.getElem?_cons_zero, List.getElem?_cons_succ] at e0 e1 e2 e3
  refine bodyPost_ret (v := .tuple #[.agg #[.slice A8 n8 c8, .int .i64 ms8, .int .i64 wr8, .slice B8 m8 d8], .slice Av kv cv, .bool true]) ?_ rfl dt
  clear b9
  simp [results, Try.f33, go_sem, e0, e1, e2, e3]
theorem do_any {F : Nat → Prop} {b : Nat} (hs : SAt w F b s) (hi : Inv s) (h : RS w S vL vW s) (hSF : ∀ k, S k → ¬ F k) (kd id level : Int) (hid : (Lit.int .i64 id).wf = true) (hlv : (Lit.int .i64 level).wf = true) (hk0 : 0 ≤ kd) (hk1 : kd < 256) : Calls Try.prog 33 #[.pointer (some ⟨b, 0, none⟩), agS vL vW s, .agg #[.int .u8 kd, .int .i64 id, .int .i64 level]] w (DoT (doR s kd id level) F b S w) := by
  have h7 : kd % 7 = 0 ∨ kd % 7 = 1 ∨ kd % 7 = 2 ∨ kd % 7 = 3 ∨ kd % 7 = 4 ∨ kd % 7 = 5 ∨ kd % 7 = 6 := by omega
  rcases h7 with e | e | e | e | e | e | e
  · rw [show doR s kd id level = comeR s id level true by unfold doR; simp [e]]; exact do_0 hs hi h hSF kd id level hid hlv hk0 hk1 e
  · rw [show doR s kd id level = comeR s id level false by unfold doR; simp [e]]; exact do_1 hs hi h hSF kd id level hid hlv hk0 hk1 e
  · rw [show doR s kd id level = askR s id by unfold doR; simp [e]]; exact do_2 hs hi h hSF kd id level hid hlv hk0 hk1 e
  · rw [show doR s kd id level = takeR s id false by unfold doR; simp [e]]; exact do_3 hs hi h hSF kd id level hid hlv hk0 hk1 e
  · rw [show doR s kd id level = takeR s id true by unfold doR; simp [e]]; exact do_4 hs hi h hSF kd id level hid hlv hk0 hk1 e
  · rw [show doR s kd id level = yieldR s id by unfold doR; simp [e]]; exact do_5 hs hi h hSF kd id level hid hlv hk0 hk1 e
  · rw [show doR s kd id level = leaveR s id by unfold doR; simp [e]]; exact do_6 hs hi h hSF kd id level hid hlv hk0 hk1 e
end
end Seat
end Go.Proofs.Ytepnjmgacfjhiaa
