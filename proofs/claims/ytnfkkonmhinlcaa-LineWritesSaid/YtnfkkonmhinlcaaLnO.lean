/- Package line: begin, Opened, Tick. Printed by gen_lno.py. -/
import Derived.Test.YtnfkkonmhinlcaaLnN
namespace Go.Proofs.Ytnfkkonmhinlcaa
open Go.RowKit
set_option linter.unusedVariables false
set_option linter.unusedSimpArgs false
namespace Ln
open Run (O ROp timesR endsR dueT nextT chk chkR Fit)
section
variable {w w' W : World} {G G' : Nat → Prop} {g gw : Nat} {vF rp vh : Value} {Gr : Nat → Prop} {s s' : S}
theorem LAct.then {F : Nat → Prop} {w2 : World} {G2 : Nat → Prop} {l : List U} {f : Value → Value} {e : Ending} (h : LAct w2 G2 g s l f e w') (hf : Fr F w w2) (hF : ∀ k, F k → G k) (hG : ∀ k, G2 k → G k ∨ New w w2 k) : LAct w G g s l f e w' := by
  obtain ⟨v, G', h1, h2, ⟨h3, h4⟩, h5⟩ := h
  refine ⟨v, G', h1, h2, ⟨h3, fun k hk => ⟨⟨Nat.le_trans hf.size (h4 k hk).1.1, (h4 k hk).1.2⟩, (h4 k hk).2⟩⟩, Step.trans (F1 := G2) ⟨hf.mono (fun b hb _ => hF b hb), hG⟩ h5⟩
theorem LAct.map {l : List U} {f f' : Value → Value} {e e' : Ending} (h : LAct w G g s l f e w') (he : ∀ v, e = .returned (f v) → e' = .returned (f' v)) : LAct w G g s l f' e' w' := by
  obtain ⟨v, G', h1, h2⟩ := h
  exact ⟨v, G', he v h1, h2⟩
def BeginIs (w : World) (G : Nat → Prop) (g : Nat) (s : S) (st now : Int) (ops : List O) (e : Ending) (w' : World) : Prop :=
  (Run.chk now ops = 0 ∧ LAct w G g (goOnS (beginS s st ops now) now).1 (goOnS (beginS s st ops now) now).2 (fun v => .tuple #[v, .int .i64 0]) e w') ∨
  (Run.chk now ops ≠ 0 ∧ e = .returned (.tuple #[.slice none 0 0, .int .i64 (Run.chk now ops)]) ∧ Fr No w w')
set_option maxRecDepth 100000 in
set_option maxHeartbeats 2000000 in
theorem begin_any (h : LW w G g s) (hb : busy s = false) (st now : Int) (hst : st = 3 ∨ st = 5) (hn : 0 ≤ now ∧ now ≤ 549755813888) (hlen : s.held.length ≤ 4096) (vo : Value) (ops : List O) (So : Nat → Prop) (hSo : ∀ k, So k → k < w.heap.size) (ho : RSl 3 ROp w So [vo] ops) (hol : ops.length ≤ 1000) :
    Calls Try.prog 35 #[.pointer (some ⟨g, 0, none⟩), .int .i64 st, vo, .int .i64 now] w (BeginIs w G g s st now ops) := by
  obtain ⟨gw, vF, rp, vh, Gr, h⟩ := h
  have HP := Lib.hid h
  have hgw : gw ≠ g := h.hw.2
  have hgl : g < w.heap.size := h.lt g h.hg
  have hgl2 : g ≠ w.heap.size := by omega
  have hN := Run.new_any vo ops now w So hSo ho hol
  have HWF := Lib.hid (Run.ops_wf ho)
  have HI := Lib.hid (h.idle hb)
  have HST := Lib.hid hst
  have HLN := Lib.hid hlen
  have HOL := Lib.hid hol
  have HNN := Lib.hid hn
  have H := Lib.hid h.blk
  clear h hb ho hSo hst hlen
  obtain ⟨q, hq⟩ : ∃ q, q = Run.chk now ops := ⟨_, rfl⟩
  have HQ := Lib.hid hq
  clear hq
  by_cases h0 : q = 0
  rotate_left
  · have HN : Hid (Calls Try.prog 55 #[vo, .int .i64 now] w fun e w2 => e = .returned (.tuple #[.pointer none, .int .i64 q]) ∧ Fr No w w2) := hN.mono fun e w2 h => h.no HQ.out.symm h0
    have g0 : (q != 0) = true := by simpa using h0
    have H0 := Lib.hid h0
    clear h0 hN
    go_enter Try.func35, Try.ntmps35
    go_wp2_with (go_at_call 55; refine HN.out.mono ?_; rintro e w2 ⟨rfl, hf2⟩; have F2 := Lib.hid hf2; clear hf2)
    go_ret2
    refine .inr ⟨by rw [← HQ.out]; exact H0.out, by rw [← HQ.out]; rfl, F2.out⟩
  · subst h0
    have HN : Hid (Calls Try.prog 55 #[vo, .int .i64 now] w fun e w2 => ∃ gr F, e = .returned (.tuple #[.pointer (some ⟨gr, 0, none⟩), .int .i64 0]) ∧ Run.RAt w2 F gr ops now 0 false (endsR now ops) ∧ Fr No w w2 ∧ ∀ k, F k → New w w2 k) := hN.mono fun e w2 h => h.yes HQ.out.symm
    have HFT := Lib.hid (fit_chk HQ.out.symm HOL.out HWF.out)
    clear hN
    go_enter Try.func35, Try.ntmps35
    go_upto_region 4 with (go_at_call 55; refine HN.out.mono ?_; rintro e w2 ⟨gr, F, rfl, ha, hf2, hn2⟩; have F2 := Lib.hid hf2; have HA := Lib.hid ha; have HN2 := Lib.hid hn2; clear ha hf2 hn2)
    have P2 := Lib.hid (H.out.fr F2.out (fun h => h))
    have co := P2.out
    have c0 := co.cell 0
    have c1 := co.cell 1
    have c2 := co.cell 2
    have c3 := co.cell 3
    have c4 := co.cell 4
    have c5 := co.cell 5
    have c6 := co.cell 6
    have cf0 := co.frozen 0
    have cf1 := co.frozen 1
    have cf2 := co.frozen 2
    have cf3 := co.frozen 3
    have cf4 := co.frozen 4
    have cf5 := co.frozen 5
    have cf6 := co.frozen 6
    simp only [List.getElem?_toArray, List.getElem?_cons_zero, List.getElem?_cons_succ] at c0 c1 c2 c3 c4 c5 c6
    clear co
    go_upto_region 5 with (fail)
    clear c0 c1 c2 c3 c4 c5 c6 cf0 cf1 cf2 cf3 cf4 cf5 cf6
    have b9 := (P2.out.put 1 (.int .i64 st)).put 3 (.pointer (some ⟨gr, 0, none⟩))
    simp only [List.setIfInBounds_toArray, List.set_cons_zero, List.set_cons_succ] at b9
    have P3 := Lib.hid b9
    have F3 := Lib.hid (show Fr (fun k => k = g) w2 ((w2.setCell ⟨g, 1, none⟩ (.int .i64 st)).setCell ⟨g, 3, none⟩ (.pointer (some ⟨gr, 0, none⟩))) from fr_put (fr_put (Fr.refl (fun k => k = g) w2) rfl 1 _) rfl 3 _)
    generalize (w2.setCell ⟨g, 1, none⟩ (.int .i64 st)).setCell ⟨g, 3, none⟩ (.pointer (some ⟨gr, 0, none⟩)) = w3 at P3 F3 ⊢
    clear b9
    have hgF : ∀ k, F k → ¬ k = g := fun k hk e => by have := (HN2.out k hk).1; omega
    have F23 := Lib.hid (show Fr (fun k => k = g) w w3 from (F2.out.no _).trans F3.out (fun b hb _ => hb))
    have RW3 := Lib.hid (((Run.RAt.rw HA.out HFT.out.ck (show now - 1 < now by omega) : Run.RW w2 F gr ops now (now - 1))).far F3.out hgF)
    have hnw : ∀ k, F k → New w w3 k := fun k hk => ⟨(HN2.out k hk).1, Nat.lt_of_lt_of_le (HN2.out k hk).2 F3.out.size⟩
    have LP3 := Lib.hid (show LW w3 (fun k => G k ∨ F k) g (beginS s st ops now) from ⟨gw, vF, .pointer (some ⟨gr, 0, none⟩), vh, F, HP.out.make (s' := beginS s st ops now) F23.out (fun z hz => (HP.out.hF z hz).2.1) (fun _ h => .inl h) (fun z hz => hz.elim (fun e => Nat.lt_of_lt_of_le (HP.out.lt z e) F23.out.size) (fun e => (hnw z e).2)) rfl P3.out (wat_far HP.out.wait F23.out hgw) (fun _ => ⟨gr, rfl, RW3.out⟩)
      (fun hb => by
        have hb := of_decide_eq_false hb
        exact absurd HST.out hb) (own_fr HP.out.held F23.out (fun z hz => (HP.out.hh z hz).2.1)) (fun z hz => .inl hz) (fun z hz => .inr ⟨hnw z hz, .inr hz⟩) (fun z hz hz2 => by have := HP.out.lt z (HP.out.hh z hz).1; have := (hnw z hz2).1; omega)⟩)
    have hnn := HNN.out
    have GO := Lib.hid (goOn_any LP3.out (decide_eq_true HST.out) HFT.out now ⟨hnn.1, by omega⟩ (show now - 1 ≤ now by omega) HLN.out)
    go_wp2_with (go_at_call 36; refine GO.out.mono ?_; rintro e w4 ⟨v, G', rfl, h4⟩; have H4 := Lib.hid h4; clear h4)
    go_ret2
    refine .inl ⟨HQ.out.symm, ?_⟩
    exact LAct.then (G := G) (F := fun k => k = g) (⟨v, G', rfl, H4.out⟩ : LAct w3 _ g _ _ (fun v => .tuple #[v, .int .i64 0]) _ w4) F23.out (fun k hk => by rw [hk]; exact HP.out.hg) (fun k hk => hk.elim .inl (fun e => .inr (hnw k e)))
set_option maxRecDepth 100000 in
set_option maxHeartbeats 2000000 in
theorem opened_any (h : LW w G g s) {k : Int} (hk : Ok s k) (hk2 : k < 1000000) (now : Int) (okb : Bool) (r : Int) (hr : -9223372036854775808 ≤ r ∧ r ≤ 9223372036854775807) : Calls Try.prog 9 #[.pointer (some ⟨g, 0, none⟩), .int .i64 now, .bool okb, .int .i64 r] w (LAct w G g (openedS s now okb r).1 (openedS s now okb r).2 id) := by
  have HL := Lib.hid h
  have HK := Lib.hid hk
  obtain ⟨gw, vF, rp, vh, Gr, h⟩ := h
  have HP := Lib.hid h
  have hgw : gw ≠ g := h.hw.2
  have hgl : g < w.heap.size := h.lt g h.hg
  have hgl2 : g ≠ w.heap.size := by omega
  have H := Lib.hid h.blk
  clear h hk
  obtain ⟨st, hst⟩ : ∃ st, st = s.st := ⟨_, rfl⟩
  have HS := Lib.hid hst
  rw [← hst] at H
  by_cases h2 : st = 2
  rotate_left
  · have HE := Lib.hid (show openedS s now okb r = (s, []) from if_pos (.inl (by rw [← hst]; exact h2)))
    have g2 : (st != 2) = true := by simpa using h2
    clear h2 hst
    have co := H.out
    have c0 := co.cell 0
    have c1 := co.cell 1
    have c2 := co.cell 2
    have c3 := co.cell 3
    have c4 := co.cell 4
    have c5 := co.cell 5
    have c6 := co.cell 6
    have cf0 := co.frozen 0
    have cf1 := co.frozen 1
    have cf2 := co.frozen 2
    have cf3 := co.frozen 3
    have cf4 := co.frozen 4
    have cf5 := co.frozen 5
    have cf6 := co.frozen 6
    simp only [List.getElem?_toArray, List.getElem?_cons_zero, List.getElem?_cons_succ] at c0 c1 c2 c3 c4 c5 c6
    clear co
    go_enter Try.func9, Try.ntmps9
    go_wp2_with (go_at_call 12; refine (state_any H.out).mono ?_; rintro e w2 ⟨rfl, rfl⟩)
    go_ret
    rw [HE.out]
    exact lact_nil rfl HL.out (Fr.refl _ _)
  subst h2
  clear hst
  by_cases hl : lateI now = true
  · have HE := Lib.hid (show openedS s now okb r = (s, []) from if_pos (.inr hl))
    have G2 := Lib.hid hl
    clear hl
    have co := H.out
    have c0 := co.cell 0
    have c1 := co.cell 1
    have c2 := co.cell 2
    have c3 := co.cell 3
    have c4 := co.cell 4
    have c5 := co.cell 5
    have c6 := co.cell 6
    have cf0 := co.frozen 0
    have cf1 := co.frozen 1
    have cf2 := co.frozen 2
    have cf3 := co.frozen 3
    have cf4 := co.frozen 4
    have cf5 := co.frozen 5
    have cf6 := co.frozen 6
    simp only [List.getElem?_toArray, List.getElem?_cons_zero, List.getElem?_cons_succ] at c0 c1 c2 c3 c4 c5 c6
    clear co
    go_enter Try.func9, Try.ntmps9
    go_wp2_with (first | (go_at_call 12; refine (state_any H.out).mono ?_; rintro e w2 ⟨rfl, rfl⟩) | (go_at_call 33; refine (late_any _ _).mono ?_; rintro e w2 ⟨rfl, rfl⟩; rw [G2.out]))
    go_ret
    rw [HE.out]
    exact lact_nil rfl HL.out (Fr.refl _ _)
  have hl : lateI now = false := by simpa using hl
  have G2 := Lib.hid hl
  obtain ⟨t1, t2⟩ := late_no hl
  clear hl
  have hcond : ¬ (s.st ≠ 2 ∨ lateI now = true) := by rw [G2.out, ← HS.out]; simp
  cases okb
  · have HE := Lib.hid (show openedS s now false r = (failedS s now r, []) by unfold openedS; rw [if_neg hcond, if_pos rfl])
    have FA := Lib.hid (failed_any HL.out HK.out hk2 now r G2.out hr)
    clear hcond
    have co := H.out
    have c0 := co.cell 0
    have c1 := co.cell 1
    have c2 := co.cell 2
    have c3 := co.cell 3
    have c4 := co.cell 4
    have c5 := co.cell 5
    have c6 := co.cell 6
    have cf0 := co.frozen 0
    have cf1 := co.frozen 1
    have cf2 := co.frozen 2
    have cf3 := co.frozen 3
    have cf4 := co.frozen 4
    have cf5 := co.frozen 5
    have cf6 := co.frozen 6
    simp only [List.getElem?_toArray, List.getElem?_cons_zero, List.getElem?_cons_succ] at c0 c1 c2 c3 c4 c5 c6
    clear co
    go_enter Try.func9, Try.ntmps9
    go_wp2_with (first | (go_at_call 12; refine (state_any H.out).mono ?_; rintro e w2 ⟨rfl, rfl⟩) | (go_at_call 33; refine (late_any _ _).mono ?_; rintro e w2 ⟨rfl, rfl⟩; rw [G2.out]) | (go_at_call 34; refine FA.out.mono ?_; rintro e w3 ⟨rfl, h3, h4⟩; have H3 := Lib.hid h3; have H4 := Lib.hid h4; clear h3 h4))
    go_ret
    rw [HE.out]
    exact lact_nil rfl H3.out H4.out
  · have HE := Lib.hid (show openedS s now true r = goOnS (beginS { s with n := 0 } 3 s.first now) now by unfold openedS; rw [if_neg hcond, if_neg (by simp)])
    have HB := Lib.hid (show busy s = false by unfold busy; rw [← HS.out]; rfl)
    have HG := Lib.hid (Backoff.good_any HP.out.wait)
    have HFT := Lib.hid (HK.out.first now t1 t2)
    clear hcond
    have co := H.out
    have c0 := co.cell 0
    have c1 := co.cell 1
    have c2 := co.cell 2
    have c3 := co.cell 3
    have c4 := co.cell 4
    have c5 := co.cell 5
    have c6 := co.cell 6
    have cf0 := co.frozen 0
    have cf1 := co.frozen 1
    have cf2 := co.frozen 2
    have cf3 := co.frozen 3
    have cf4 := co.frozen 4
    have cf5 := co.frozen 5
    have cf6 := co.frozen 6
    simp only [List.getElem?_toArray, List.getElem?_cons_zero, List.getElem?_cons_succ] at c0 c1 c2 c3 c4 c5 c6
    clear co
    go_enter Try.func9, Try.ntmps9
    go_upto_region 7 with (first | (go_at_call 12; refine (state_any H.out).mono ?_; rintro e w2 ⟨rfl, rfl⟩) | (go_at_call 33; refine (late_any _ _).mono ?_; rintro e w2 ⟨rfl, rfl⟩; rw [G2.out]) | (go_at_call 31; refine HG.out.mono ?_; rintro e w2 ⟨rfl, hw2, hf2⟩; have HW2 := Lib.hid hw2; have F2 := Lib.hid hf2; clear hw2 hf2))
    clear c0 c1 c2 c3 c4 c5 c6 cf0 cf1 cf2 cf3 cf4 cf5 cf6
    have P2 := Lib.hid (H.out.fr F2.out (fun e => hgw e.symm))
    have LW2 := Lib.hid (show LW w2 G g { s with n := 0 } by
      have e0 := HP.out.idle HB.out
      have hb := HP.out.blk.fr F2.out (fun e => hgw e.symm)
      rw [e0] at hb
      exact HP.out.rest F2.out (fun k hk => .inr (.inl hk)) rfl hb HW2.out HB.out (own_fr HP.out.held F2.out (fun k hk e => (HP.out.hh k hk).2.2.1 e)) (fun k hk => hk))
    have RF := Lib.hid ((RSl.stable ROp.stable).go HP.out.first (Kept.of_fr F2.out (fun k hk => ⟨HP.out.lt k (HP.out.hF k hk).1, (HP.out.hF k hk).2.2.1⟩)) (fun _ h => h))
    have BG := Lib.hid (begin_any LW2.out HB.out 3 now (.inl rfl) ⟨t1, t2⟩ HK.out.len vF s.first (Of vF) (fun k hk => Nat.lt_of_lt_of_le (HP.out.lt k (HP.out.hF k hk).1) F2.out.size) RF.out HFT.out.len)
    have HC := Lib.hid (show Run.chk now s.first = 0 by unfold Run.chk; rw [if_pos (Run.isT_iff.2 ⟨t1, by omega⟩)]; exact HFT.out.ck)
    have co := P2.out
    have c0 := co.cell 0
    have c1 := co.cell 1
    have c2 := co.cell 2
    have c3 := co.cell 3
    have c4 := co.cell 4
    have c5 := co.cell 5
    have c6 := co.cell 6
    have cf0 := co.frozen 0
    have cf1 := co.frozen 1
    have cf2 := co.frozen 2
    have cf3 := co.frozen 3
    have cf4 := co.frozen 4
    have cf5 := co.frozen 5
    have cf6 := co.frozen 6
    simp only [List.getElem?_toArray, List.getElem?_cons_zero, List.getElem?_cons_succ] at c0 c1 c2 c3 c4 c5 c6
    clear co
    go_wp2_with (go_at_call 35; refine BG.out.mono ?_; rintro e w4 hbg; obtain ⟨v, G', rfl, h4⟩ := (hbg.resolve_right (fun h => h.1 HC.out)).2; have H4 := Lib.hid h4; clear h4 hbg)
    go_ret
    rw [HE.out]
    exact LAct.then (G := G) (F := fun k => k = gw) (⟨v, G', rfl, H4.out⟩ : LAct w2 G g _ _ id _ w4) F2.out (fun k hk => by rw [hk]; exact HP.out.hw.1) (fun k hk => .inl hk)
theorem next_after {s : S} {k : Int} (hk : Ok s k) (hb : busy s = true) (h1 : s.st ≠ 1) (h : (nextS s).2 = true) : s.was < (nextS s).1 := by
  unfold nextS at h ⊢
  rw [if_neg h1, if_pos hb] at h ⊢
  unfold seqNext nextT at h ⊢
  split at h
  · rename_i x hx
    have := List.find?_some hx
    simp only [Bool.and_eq_true, decide_eq_true_eq] at this
    exact this.2
  · split at h
    · rename_i h2
      rw [if_pos h2]
      exact h2
    · cases h
set_option maxRecDepth 100000 in
set_option maxHeartbeats 2000000 in
theorem tick_any (h : LW w G g s) {k : Int} (hk : Ok s k) (now : Int) : Calls Try.prog 11 #[.pointer (some ⟨g, 0, none⟩), .int .i64 now] w (LAct w G g (tickS s now).1 (tickS s now).2 id) := by
  have HL := Lib.hid h
  have HK := Lib.hid hk
  have NX := Lib.hid (next_any h hk.fit)
  obtain ⟨gw, vF, rp, vh, Gr, h⟩ := h
  have HP := Lib.hid h
  have hgw : gw ≠ g := h.hw.2
  have hgl : g < w.heap.size := h.lt g h.hg
  have hgl2 : g ≠ w.heap.size := by omega
  have H := Lib.hid h.blk
  clear h hk
  obtain ⟨st, hst⟩ : ∃ st, st = s.st := ⟨_, rfl⟩
  have HS := Lib.hid hst
  rw [← hst] at H
  clear hst
  obtain ⟨⟨a1, q1⟩, hnx⟩ : ∃ p, p = nextS s := ⟨_, rfl⟩
  have HX := Lib.hid hnx
  rw [← hnx] at NX
  clear hnx
  by_cases hq : q1 = false
  · subst hq
    have HE := Lib.hid (show tickS s now = (s, []) from if_pos (.inl (by rw [← HX.out])))
    go_enter Try.func11, Try.ntmps11
    go_upto_region 2 with (go_at_call 18; refine NX.out.mono ?_; rintro e w2 ⟨rfl, hf2⟩; have F2 := Lib.hid hf2; have P2 := Lib.hid (H.out.fr F2.out (fun h => h)); clear hf2)
    have co := P2.out
    have c0 := co.cell 0
    have c1 := co.cell 1
    have c2 := co.cell 2
    have c3 := co.cell 3
    have c4 := co.cell 4
    have c5 := co.cell 5
    have c6 := co.cell 6
    have cf0 := co.frozen 0
    have cf1 := co.frozen 1
    have cf2 := co.frozen 2
    have cf3 := co.frozen 3
    have cf4 := co.frozen 4
    have cf5 := co.frozen 5
    have cf6 := co.frozen 6
    simp only [List.getElem?_toArray, List.getElem?_cons_zero, List.getElem?_cons_succ] at c0 c1 c2 c3 c4 c5 c6
    clear co
    go_wp2_with fail
    go_ret
    rw [HE.out]
    exact lact_nil rfl (HL.out.no F2.out) (F2.out.no _)
  have hq : q1 = true := by simpa using hq
  subst hq
  by_cases ha : now < a1
  · have HE := Lib.hid (show tickS s now = (s, []) from if_pos (.inr (.inl (by rw [← HX.out]; exact ha))))
    go_enter Try.func11, Try.ntmps11
    go_upto_region 2 with (go_at_call 18; refine NX.out.mono ?_; rintro e w2 ⟨rfl, hf2⟩; have F2 := Lib.hid hf2; have P2 := Lib.hid (H.out.fr F2.out (fun h => h)); clear hf2)
    have co := P2.out
    have c0 := co.cell 0
    have c1 := co.cell 1
    have c2 := co.cell 2
    have c3 := co.cell 3
    have c4 := co.cell 4
    have c5 := co.cell 5
    have c6 := co.cell 6
    have cf0 := co.frozen 0
    have cf1 := co.frozen 1
    have cf2 := co.frozen 2
    have cf3 := co.frozen 3
    have cf4 := co.frozen 4
    have cf5 := co.frozen 5
    have cf6 := co.frozen 6
    simp only [List.getElem?_toArray, List.getElem?_cons_zero, List.getElem?_cons_succ] at c0 c1 c2 c3 c4 c5 c6
    clear co
    go_wp2_with fail
    go_ret
    rw [HE.out]
    exact lact_nil rfl (HL.out.no F2.out) (F2.out.no _)
  have ha : a1 ≤ now := Int.not_lt.1 ha
  by_cases hl : lateI now = true
  · have HE := Lib.hid (show tickS s now = (s, []) from if_pos (.inr (.inr hl)))
    have G2 := Lib.hid hl
    clear hl
    go_enter Try.func11, Try.ntmps11
    go_upto_region 2 with (go_at_call 18; refine NX.out.mono ?_; rintro e w2 ⟨rfl, hf2⟩; have F2 := Lib.hid hf2; have P2 := Lib.hid (H.out.fr F2.out (fun h => h)); clear hf2)
    have co := P2.out
    have c0 := co.cell 0
    have c1 := co.cell 1
    have c2 := co.cell 2
    have c3 := co.cell 3
    have c4 := co.cell 4
    have c5 := co.cell 5
    have c6 := co.cell 6
    have cf0 := co.frozen 0
    have cf1 := co.frozen 1
    have cf2 := co.frozen 2
    have cf3 := co.frozen 3
    have cf4 := co.frozen 4
    have cf5 := co.frozen 5
    have cf6 := co.frozen 6
    simp only [List.getElem?_toArray, List.getElem?_cons_zero, List.getElem?_cons_succ] at c0 c1 c2 c3 c4 c5 c6
    clear co
    go_wp2_with (go_at_call 33; refine (late_any _ _).mono ?_; rintro e w3 ⟨rfl, rfl⟩; rw [G2.out])
    go_ret
    rw [HE.out]
    exact lact_nil rfl (HL.out.no F2.out) (F2.out.no _)
  have hl : lateI now = false := by simpa using hl
  have G2 := Lib.hid hl
  obtain ⟨t1, t2⟩ := late_no hl
  clear hl
  have HT := Lib.hid (show tickS s now = if s.st = 1 then ({ s with st := 2 }, [(1, [])]) else goOnS s now by
    unfold tickS
    rw [if_neg]
    rw [← HX.out, G2.out]
    simp only [Bool.true_eq_false, Bool.false_eq_true, or_false, false_or]
    omega)
  by_cases h1 : st = 1
  · subst h1
    have HE := Lib.hid (HT.out.trans (if_pos HS.out.symm))
    have HB := Lib.hid (show busy s = false by unfold busy; rw [← HS.out]; rfl)
    have OA := Lib.hid (fun (W : World) (hf : Fr No w W) => open_any (HL.out.no hf) HB.out (.inr HS.out.symm))
    go_enter Try.func11, Try.ntmps11
    go_upto_region 2 with (go_at_call 18; refine NX.out.mono ?_; rintro e w2 ⟨rfl, hf2⟩; have F2 := Lib.hid hf2; have P2 := Lib.hid (H.out.fr F2.out (fun h => h)); clear hf2)
    have co := P2.out
    have c0 := co.cell 0
    have c1 := co.cell 1
    have c2 := co.cell 2
    have c3 := co.cell 3
    have c4 := co.cell 4
    have c5 := co.cell 5
    have c6 := co.cell 6
    have cf0 := co.frozen 0
    have cf1 := co.frozen 1
    have cf2 := co.frozen 2
    have cf3 := co.frozen 3
    have cf4 := co.frozen 4
    have cf5 := co.frozen 5
    have cf6 := co.frozen 6
    simp only [List.getElem?_toArray, List.getElem?_cons_zero, List.getElem?_cons_succ] at c0 c1 c2 c3 c4 c5 c6
    clear co
    go_wp2_with (first | (go_at_call 33; refine (late_any _ _).mono ?_; rintro e w3 ⟨rfl, rfl⟩; rw [G2.out]) | (go_at_call 32; refine (OA.out _ F2.out).mono ?_; rintro e w4 ⟨v, G', rfl, h4⟩; have H4 := Lib.hid h4; clear h4))
    go_ret
    rw [HE.out]
    exact LAct.then (G := G) (F := No) (⟨v, G', rfl, H4.out⟩ : LAct _ G g _ _ id _ w4) F2.out (fun k hk => hk.elim) (fun k hk => .inl hk)
  · have HE := Lib.hid (HT.out.trans (if_neg (by rw [← HS.out]; exact h1)))
    have HB := Lib.hid (show busy s = true by
      have h9 := HX.out
      unfold nextS at h9
      rw [if_neg (by rw [← HS.out]; exact h1)] at h9
      by_cases g : busy s = true
      · exact g
      · rw [if_neg g] at h9
        cases h9)
    have g1 : (st == 1) = false := by simpa using h1
    have hwas : s.was ≤ now := by
      have := next_after HK.out HB.out (by rw [← HS.out]; exact h1) (by rw [← HX.out])
      rw [← HX.out] at this
      have this : s.was < a1 := this
      omega
    have GO := Lib.hid (fun (W : World) (hf : Fr No w W) => goOn_any (HL.out.no hf) HB.out (HK.out.fit HB.out) now ⟨t1, by omega⟩ hwas HK.out.len)
    clear h1 hwas
    go_enter Try.func11, Try.ntmps11
    go_upto_region 2 with (go_at_call 18; refine NX.out.mono ?_; rintro e w2 ⟨rfl, hf2⟩; have F2 := Lib.hid hf2; have P2 := Lib.hid (H.out.fr F2.out (fun h => h)); clear hf2)
    have co := P2.out
    have c0 := co.cell 0
    have c1 := co.cell 1
    have c2 := co.cell 2
    have c3 := co.cell 3
    have c4 := co.cell 4
    have c5 := co.cell 5
    have c6 := co.cell 6
    have cf0 := co.frozen 0
    have cf1 := co.frozen 1
    have cf2 := co.frozen 2
    have cf3 := co.frozen 3
    have cf4 := co.frozen 4
    have cf5 := co.frozen 5
    have cf6 := co.frozen 6
    simp only [List.getElem?_toArray, List.getElem?_cons_zero, List.getElem?_cons_succ] at c0 c1 c2 c3 c4 c5 c6
    clear co
    go_wp2_with (first | (go_at_call 33; refine (late_any _ _).mono ?_; rintro e w3 ⟨rfl, rfl⟩; rw [G2.out]) | (go_at_call 36; refine (GO.out _ F2.out).mono ?_; rintro e w4 ⟨v, G', rfl, h4⟩; have H4 := Lib.hid h4; clear h4))
    go_ret
    rw [HE.out]
    exact LAct.then (G := G) (F := No) (⟨v, G', rfl, H4.out⟩ : LAct _ G g _ _ id _ w4) F2.out (fun k hk => hk.elim) (fun k hk => .inl hk)
end
end Ln
end Go.Proofs.Ytnfkkonmhinlcaa
