/- Package line: open, Start, Stop, failed, Lost. Printed by gen_lnm.py. -/
import Derived.Test.YtnfkkonmhinlcaaLnL
namespace Go.Proofs.Ytnfkkonmhinlcaa
open Go.RowKit
set_option linter.unusedVariables false
set_option linter.unusedSimpArgs false
namespace Ln
open Run (O ROp timesR endsR dueT nextT chk chkR Fit)
section
variable {w w' W : World} {G G' : Nat → Prop} {g gw : Nat} {vF rp vh : Value} {Gr : Nat → Prop} {s s' : S}
/-- The line behind an act, where no sequence is done. -/
theorem LP.rest {vh' : Value} {F : Nat → Prop} (h : LP w G g gw vF rp vh Gr s) (hf : Fr F w W) (hFF : ∀ k, F k → k = g ∨ k = gw ∨ Gr k ∨ Of vh k) (h1 : s'.first = s.first)
    (hb : Blk W g 59 (LC gw s'.st vF (.pointer none) s'.at_ vh')) (hwt : Backoff.WAt W gw s'.b s'.c s'.j s'.n) (hbusy : busy s' = false)
    (hheld : W.ownsRow 0 5 1 vh' s'.held.length (s'.held.map encB)) (hh' : ∀ k, Of vh' k → Of vh k) : LW W G g s' := by
  refine ⟨gw, vF, .pointer none, vh', No, h.make hf (fun k hk hF => ?_) (fun _ h => h) (fun k hk => Nat.lt_of_lt_of_le (h.lt k hk) hf.size) h1 hb hwt (fun hb => by rw [hbusy] at hb; cases hb) (fun _ => rfl) hheld (fun k hk => .inl (hh' k hk)) (fun k hk => hk.elim) (fun k _ h => h)⟩
  obtain ⟨a1, a2, a3, a4, a5⟩ := h.hF k hk
  rcases hFF k hF with e | e | e | e
  · exact a2 e
  · exact a3 e
  · exact a5 e
  · exact a4 e
theorem fr_put {F : Nat → Prop} (h : Fr F w W) (hg : F g) (i : Nat) (u : Value) : Fr F w (W.setCell ⟨g, i, none⟩ u) := h.setCell (p := ⟨g, i, none⟩) (.inl hg) u
/-- The cells of the line's block, one or more turned. -/
theorem put_own {e : TypeId} {v : Value} {n : Nat} {xs : List Value} {p : Addr} {u : Value} (h : w.ownsRow 0 e 1 v n xs) (hp : ∀ k, Of v k → k ≠ p.block) : (w.setCell p u).ownsRow 0 e 1 v n xs :=
  own_fr h ((Fr.refl (fun k => k = p.block) w).setCell (.inl rfl) u) (fun k hk g => hp k hk g)
set_option maxRecDepth 100000 in
set_option maxHeartbeats 2000000 in
theorem open_any (h : LW w G g s) (hb : busy s = false) (h2 : s.st = 0 ∨ s.st = 1) : Calls Try.prog 32 #[.pointer (some ⟨g, 0, none⟩)] w (LAct w G g { s with st := 2 } [(1, [])] id) := by
  obtain ⟨gw, vF, rp, vh, Gr, h⟩ := h
  have HP := Lib.hid h
  have hgw : gw ≠ g := h.hw.2
  have hgl : g < w.heap.size := h.lt g h.hg
  have hgl2 : g ≠ w.heap.size := by omega
  obtain rfl := h.idle hb
  have co := h.blk
  have c0 := co.cell 0
  have c1 := co.cell 1
  have c2 := co.cell 2
  have c3 := co.cell 3
  have c4 := co.cell 4
  have c5 := co.cell 5
  have c6 := co.cell 6
  have cf0 := co.frozen 0
  have cf1 := co.frozen 1
  have cf2 := co.frozen 2
  have cf3 := co.frozen 3
  have cf4 := co.frozen 4
  have cf5 := co.frozen 5
  have cf6 := co.frozen 6
  simp only [List.getElem?_toArray, List.getElem?_cons_zero, List.getElem?_cons_succ] at c0 c1 c2 c3 c4 c5 c6
  clear co
  clear h h2
  go_enter Try.func32, Try.ntmps32
  go_wp2_with fail
  clear c0 c1 c2 c3 c4 c5 c6 cf0 cf1 cf2 cf3 cf4 cf5 cf6
  go_ret
  refine lact_one (W' := w.setCell ⟨g, 1, none⟩ (.int .i64 2)) (size_setCell _ _ _).symm rfl rfl ?_ (fr_put (Fr.refl G w) HP.out.hg 1 _)
  have b9 := HP.out.blk.put 1 (.int .i64 2)
  simp only [List.setIfInBounds_toArray, List.set_cons_zero, List.set_cons_succ] at b9
  have hf : Fr (fun k => k = g) w (w.setCell ⟨g, 1, none⟩ (.int .i64 2)) := fr_put (Fr.refl (fun k => k = g) w) rfl 1 _
  exact HP.out.rest hf (fun k hk => .inl hk) rfl b9 (wat_far HP.out.wait hf hgw) (by simp [busy]) (put_own HP.out.held (fun k hk => (HP.out.hh k hk).2.1)) (fun k hk => hk)
set_option maxRecDepth 100000 in
set_option maxHeartbeats 2000000 in
theorem start_any (h : LW w G g s) : Calls Try.prog 8 #[.pointer (some ⟨g, 0, none⟩)] w (LAct w G g (startS s).1 (startS s).2 id) := by
  obtain ⟨gw, vF, rp, vh, Gr, h⟩ := h
  have HP := Lib.hid h
  have hgw : gw ≠ g := h.hw.2
  have hgl : g < w.heap.size := h.lt g h.hg
  have hgl2 : g ≠ w.heap.size := by omega
  have H := Lib.hid h.blk
  by_cases h0 : s.st = 0
  rotate_left
  · have HE := Lib.hid (show startS s = (s, []) from if_neg h0)
    have g0 : (s.st != 0) = true := by simpa using h0
    clear h0
    have co := h.blk
    have c0 := co.cell 0
    have c1 := co.cell 1
    have c2 := co.cell 2
    have c3 := co.cell 3
    have c4 := co.cell 4
    have c5 := co.cell 5
    have c6 := co.cell 6
    have cf0 := co.frozen 0
    have cf1 := co.frozen 1
    have cf2 := co.frozen 2
    have cf3 := co.frozen 3
    have cf4 := co.frozen 4
    have cf5 := co.frozen 5
    have cf6 := co.frozen 6
    simp only [List.getElem?_toArray, List.getElem?_cons_zero, List.getElem?_cons_succ] at c0 c1 c2 c3 c4 c5 c6
    clear co
    clear h
    obtain ⟨st, hst⟩ : ∃ st, st = s.st := ⟨_, rfl⟩
    rw [← hst] at c1 g0
    go_enter Try.func8, Try.ntmps8
    go_wp2_with (go_at_call 30; refine (made_any H.out).mono ?_; rintro e w2 ⟨rfl, rfl⟩)
    go_ret
    rw [HE.out]
    exact lact_nil rfl ⟨_, _, _, _, _, HP.out⟩ (Fr.refl _ _)
  · have HE := Lib.hid (show startS s = ({ s with n := 0, st := 2 }, [(1, [])]) from if_pos h0)
    have hb : busy s = false := by unfold busy; rw [h0]; rfl
    have HG := Lib.hid (Backoff.good_any h.wait)
    have HB := Lib.hid hb
    obtain rfl := h.idle hb
    clear hb
    have co := h.blk
    have c0 := co.cell 0
    have c1 := co.cell 1
    have c2 := co.cell 2
    have c3 := co.cell 3
    have c4 := co.cell 4
    have c5 := co.cell 5
    have c6 := co.cell 6
    have cf0 := co.frozen 0
    have cf1 := co.frozen 1
    have cf2 := co.frozen 2
    have cf3 := co.frozen 3
    have cf4 := co.frozen 4
    have cf5 := co.frozen 5
    have cf6 := co.frozen 6
    simp only [List.getElem?_toArray, List.getElem?_cons_zero, List.getElem?_cons_succ] at c0 c1 c2 c3 c4 c5 c6
    clear co
    clear h
    have H0 := Lib.hid h0
    rw [h0] at c1
    clear h0
    go_enter Try.func8, Try.ntmps8
    go_upto_region 4 with (first | (go_at_call 30; refine (made_any H.out).mono ?_; rintro e w2 ⟨rfl, rfl⟩) | (go_at_call 31; refine HG.out.mono ?_; rintro e w2 ⟨rfl, hw2, hf2⟩; have HW2 := Lib.hid hw2; have F2 := Lib.hid hf2; clear hw2 hf2))
    clear c0 c1 c2 c3 c4 c5 c6 cf0 cf1 cf2 cf3 cf4 cf5 cf6
    have LW2 := Lib.hid (show LW w2 G g { s with n := 0 } from HP.out.rest F2.out (fun k hk => .inr (.inl hk)) rfl (HP.out.blk.fr F2.out (fun e => hgw e.symm)) HW2.out HB.out (own_fr HP.out.held F2.out (fun k hk e => (HP.out.hh k hk).2.2.1 e)) (fun k hk => hk))
    have OA := Lib.hid (open_any LW2.out HB.out (.inl H0.out))
    go_wp2_with (go_at_call 32; refine OA.out.mono ?_; rintro e w3 ⟨v, G', rfl, h3, h4, h5⟩; have H3 := Lib.hid h3; have H4 := Lib.hid h4; have H5 := Lib.hid h5; clear h3 h4 h5)
    go_ret
    rw [HE.out]
    have F2 := F2.out
    have hgw2 : G gw := HP.out.hw.1
    refine ⟨v, G', rfl, H3.out, ⟨H4.out.1, fun k hk => ⟨⟨Nat.le_trans F2.size (H4.out.2 k hk).1.1, (H4.out.2 k hk).1.2⟩, (H4.out.2 k hk).2⟩⟩, ?_⟩
    exact Step.trans (F1 := G) ⟨F2.mono (fun b hb _ => by rw [hb]; exact hgw2), fun k hk => .inl hk⟩ H5.out
set_option maxRecDepth 100000 in
set_option maxHeartbeats 2000000 in
theorem stop_any (h : LW w G g s) : Calls Try.prog 25 #[.pointer (some ⟨g, 0, none⟩)] w (LAct w G g (stopS s).1 (stopS s).2 id) := by
  obtain ⟨gw, vF, rp, vh, Gr, h⟩ := h
  have HP := Lib.hid h
  have hgw : gw ≠ g := h.hw.2
  have hgl : g < w.heap.size := h.lt g h.hg
  have hgl2 : g ≠ w.heap.size := by omega
  have H := Lib.hid h.blk
  obtain ⟨st, hst⟩ : ∃ st, st = s.st := ⟨_, rfl⟩
  have HS := Lib.hid hst
  rw [← hst] at H
  by_cases h0 : st = 0
  · have HE := Lib.hid (show stopS s = (s, []) from if_pos (by rw [← hst]; exact h0))
    subst h0
    clear hst
    have co := H.out
    have c0 := co.cell 0
    have c1 := co.cell 1
    have c2 := co.cell 2
    have c3 := co.cell 3
    have c4 := co.cell 4
    have c5 := co.cell 5
    have c6 := co.cell 6
    have cf0 := co.frozen 0
    have cf1 := co.frozen 1
    have cf2 := co.frozen 2
    have cf3 := co.frozen 3
    have cf4 := co.frozen 4
    have cf5 := co.frozen 5
    have cf6 := co.frozen 6
    simp only [List.getElem?_toArray, List.getElem?_cons_zero, List.getElem?_cons_succ] at c0 c1 c2 c3 c4 c5 c6
    clear co
    clear h
    go_enter Try.func25, Try.ntmps25
    go_wp2_with (go_at_call 12; refine (state_any H.out).mono ?_; rintro e w2 ⟨rfl, rfl⟩)
    go_ret
    rw [HE.out]
    exact lact_nil rfl ⟨_, _, _, _, _, HP.out⟩ (Fr.refl _ _)
  have FIN := Lib.hid (show LW (((w.setCell ⟨g, 1, none⟩ (.int .i64 0)).setCell ⟨g, 3, none⟩ (.pointer none)).setCell ⟨g, 5, none⟩ (.slice none 0 0)) G g (offS s) ∧ Fr G w (((w.setCell ⟨g, 1, none⟩ (.int .i64 0)).setCell ⟨g, 3, none⟩ (.pointer none)).setCell ⟨g, 5, none⟩ (.slice none 0 0)) by
    have b9 := ((h.blk.put 1 (.int .i64 0)).put 3 (.pointer none)).put 5 (.slice none 0 0)
    simp only [List.setIfInBounds_toArray, List.set_cons_zero, List.set_cons_succ] at b9
    have hf : Fr (fun k => k = g) w (((w.setCell ⟨g, 1, none⟩ (.int .i64 0)).setCell ⟨g, 3, none⟩ (.pointer none)).setCell ⟨g, 5, none⟩ (.slice none 0 0)) := fr_put (fr_put (fr_put (Fr.refl (fun k => k = g) w) rfl 1 _) rfl 3 _) rfl 5 _
    exact ⟨h.rest hf (fun k hk => .inl hk) rfl b9 (wat_far h.wait hf hgw) (by simp [offS, busy]) (World.ownsRow_nil _ _ _ _) (fun k hk => (by cases hk)), hf.mono (fun b hb _ => by rw [hb]; exact h.hg)⟩)
  by_cases h1 : st = 1
  · have HE := Lib.hid (show stopS s = (offS s, []) by unfold stopS; rw [if_neg (by rw [← hst]; exact h0), if_pos (by rw [← hst]; exact h1)])
    subst h1
    clear hst h0
    have co := H.out
    have c0 := co.cell 0
    have c1 := co.cell 1
    have c2 := co.cell 2
    have c3 := co.cell 3
    have c4 := co.cell 4
    have c5 := co.cell 5
    have c6 := co.cell 6
    have cf0 := co.frozen 0
    have cf1 := co.frozen 1
    have cf2 := co.frozen 2
    have cf3 := co.frozen 3
    have cf4 := co.frozen 4
    have cf5 := co.frozen 5
    have cf6 := co.frozen 6
    simp only [List.getElem?_toArray, List.getElem?_cons_zero, List.getElem?_cons_succ] at c0 c1 c2 c3 c4 c5 c6
    clear co
    clear h
    go_enter Try.func25, Try.ntmps25
    go_wp2_with (go_at_call 12; refine (state_any H.out).mono ?_; rintro e w2 ⟨rfl, rfl⟩)
    clear c0 c1 c2 c3 c4 c5 c6 cf0 cf1 cf2 cf3 cf4 cf5 cf6
    go_ret
    rw [HE.out]
    exact lact_nil rfl FIN.out.1 FIN.out.2
  · have HE := Lib.hid (show stopS s = (offS s, [(2, [])]) by unfold stopS; rw [if_neg (by rw [← hst]; exact h0), if_neg (by rw [← hst]; exact h1)])
    have g0 : (st == 0) = false := by simpa using h0
    have g1 : (st == 1) = false := by simpa using h1
    clear hst h0 h1
    have co := H.out
    have c0 := co.cell 0
    have c1 := co.cell 1
    have c2 := co.cell 2
    have c3 := co.cell 3
    have c4 := co.cell 4
    have c5 := co.cell 5
    have c6 := co.cell 6
    have cf0 := co.frozen 0
    have cf1 := co.frozen 1
    have cf2 := co.frozen 2
    have cf3 := co.frozen 3
    have cf4 := co.frozen 4
    have cf5 := co.frozen 5
    have cf6 := co.frozen 6
    simp only [List.getElem?_toArray, List.getElem?_cons_zero, List.getElem?_cons_succ] at c0 c1 c2 c3 c4 c5 c6
    clear co
    clear h
    go_enter Try.func25, Try.ntmps25
    go_wp2_with (go_at_call 12; refine (state_any H.out).mono ?_; rintro e w2 ⟨rfl, rfl⟩)
    clear c0 c1 c2 c3 c4 c5 c6 cf0 cf1 cf2 cf3 cf4 cf5 cf6
    go_ret
    rw [HE.out]
    exact lact_one (by simp only [size_setCell]) rfl rfl FIN.out.1 FIN.out.2
set_option maxRecDepth 100000 in
set_option maxHeartbeats 2000000 in
theorem failed_any (h : LW w G g s) {k : Int} (hk : Ok s k) (hk2 : k < 1000000) (now r : Int) (hl : lateI now = false) (hr : -9223372036854775808 ≤ r ∧ r ≤ 9223372036854775807) : Calls Try.prog 34 #[.pointer (some ⟨g, 0, none⟩), .int .i64 now, .int .i64 r] w fun e w' => e = .returned (.tuple #[]) ∧ LW w' G g (failedS s now r) ∧ Fr G w w' := by
  obtain ⟨t1, t2⟩ := late_no hl
  obtain ⟨u1, u2⟩ := wait_in hk (now := now) r
  have hn0 : 0 ≤ s.n ∧ s.n ≤ k := hk.n0
  obtain ⟨gw, vF, rp, vh, Gr, h⟩ := h
  have HP := Lib.hid h
  have hgw : gw ≠ g := h.hw.2
  have hgl : g < w.heap.size := h.lt g h.hg
  have hgl2 : g ≠ w.heap.size := by omega
  have hA := Backoff.fail_any h.wait now r (Run.isT_iff.2 ⟨t1, by omega⟩) hr
  have ea : Backoff.at_ s.b s.c s.j s.n now r = (waitS s now r, 0) := by
    have e1 : now + (Backoff.lowOf s.b s.c s.n.toNat + r % (s.j + 1)) = waitS s now r := rfl
    obtain ⟨k1, k2, k3, k4, k5, k6⟩ := Backoff.ok_iff.1 hk.rule
    unfold Backoff.at_ Calc.addR
    rw [show Calc.isT now = true from Run.isT_iff.2 ⟨t1, by omega⟩, show Calc.isT (Backoff.lowOf s.b s.c s.n.toNat + r % (s.j + 1)) = true from Run.isT_iff.2 ⟨by omega, by omega⟩, Bool.and_self, if_pos rfl, if_pos (by omega), e1]
  have eu : Backoff.upN s.b s.c s.j s.n now r = s.n + 1 := by
    unfold Backoff.upN
    rw [ea]; rfl
  rw [ea, eu] at hA
  obtain ⟨x, hx⟩ : ∃ x, x = waitS s now r := ⟨_, rfl⟩
  have HX := Lib.hid hx
  rw [← hx, show Calc.pair (x, 0) = .tuple #[.int .i64 x, .int .i64 0] from rfl] at hA
  have HA := Lib.hid hA
  clear hA ea eu hx u1 u2
  have HN := Lib.hid (show s.n < 1000000 by omega)
  have co := h.blk
  have c0 := co.cell 0
  have c1 := co.cell 1
  have c2 := co.cell 2
  have c3 := co.cell 3
  have c4 := co.cell 4
  have c5 := co.cell 5
  have c6 := co.cell 6
  have cf0 := co.frozen 0
  have cf1 := co.frozen 1
  have cf2 := co.frozen 2
  have cf3 := co.frozen 3
  have cf4 := co.frozen 4
  have cf5 := co.frozen 5
  have cf6 := co.frozen 6
  simp only [List.getElem?_toArray, List.getElem?_cons_zero, List.getElem?_cons_succ] at c0 c1 c2 c3 c4 c5 c6
  clear co
  clear h hk
  go_enter Try.func34, Try.ntmps34
  go_upto_region 1 with (go_at_call 54; refine HA.out.mono ?_; rintro e w2 ⟨rfl, hf2, hw2⟩; have HW2 := Lib.hid (hw2 HN.out); have F2 := Lib.hid hf2; clear hw2 hf2)
  clear c0 c1 c2 c3 c4 c5 c6 cf0 cf1 cf2 cf3 cf4 cf5 cf6
  have B2 := Lib.hid (HP.out.blk.fr F2.out (fun e => hgw e.symm))
  have co := B2.out
  have c0 := co.cell 0
  have c1 := co.cell 1
  have c2 := co.cell 2
  have c3 := co.cell 3
  have c4 := co.cell 4
  have c5 := co.cell 5
  have c6 := co.cell 6
  have cf0 := co.frozen 0
  have cf1 := co.frozen 1
  have cf2 := co.frozen 2
  have cf3 := co.frozen 3
  have cf4 := co.frozen 4
  have cf5 := co.frozen 5
  have cf6 := co.frozen 6
  simp only [List.getElem?_toArray, List.getElem?_cons_zero, List.getElem?_cons_succ] at c0 c1 c2 c3 c4 c5 c6
  clear co
  go_wp2_with fail
  clear c0 c1 c2 c3 c4 c5 c6 cf0 cf1 cf2 cf3 cf4 cf5 cf6
  go_end0
  have b9 := ((((B2.out.put 4 (.int .i64 x)).put 1 (.int .i64 1)).put 3 (.pointer none)).put 5 (.slice none 0 0))
  simp only [List.setIfInBounds_toArray, List.set_cons_zero, List.set_cons_succ] at b9
  have hf : Fr (fun k => k = g ∨ k = gw) w ((((w2.setCell ⟨g, 4, none⟩ (.int .i64 x)).setCell ⟨g, 1, none⟩ (.int .i64 1)).setCell ⟨g, 3, none⟩ (.pointer none)).setCell ⟨g, 5, none⟩ (.slice none 0 0)) := fr_put (fr_put (fr_put (fr_put (F2.out.mono (fun b hb _ => .inr hb)) (.inl rfl) 4 _) (.inl rfl) 1 _) (.inl rfl) 3 _) (.inl rfl) 5 _
  have hf2 : Fr (fun k => k = g) w2 ((((w2.setCell ⟨g, 4, none⟩ (.int .i64 x)).setCell ⟨g, 1, none⟩ (.int .i64 1)).setCell ⟨g, 3, none⟩ (.pointer none)).setCell ⟨g, 5, none⟩ (.slice none 0 0)) := fr_put (fr_put (fr_put (fr_put (Fr.refl (fun k => k = g) w2) rfl 4 _) rfl 1 _) rfl 3 _) rfl 5 _
  refine ⟨rfl, HP.out.rest (s' := failedS s now r) hf (fun k hk => hk.elim .inl (fun h => .inr (.inl h))) rfl ?_ (wat_far HW2.out hf2 hgw) (by simp [failedS, busy]) (World.ownsRow_nil _ _ _ _) (fun k hk => (by cases hk)), hf.mono (fun b hb _ => ?_)⟩
  · rw [show (failedS s now r).at_ = x from HX.out.symm]
    exact b9
  · rcases hb with e | e
    · rw [e]; exact HP.out.hg
    · rw [e]; exact HP.out.hw.1
set_option maxRecDepth 100000 in
set_option maxHeartbeats 2000000 in
theorem lost_any (h : LW w G g s) {k : Int} (hk : Ok s k) (hk2 : k < 1000000) (now r : Int) (hr : -9223372036854775808 ≤ r ∧ r ≤ 9223372036854775807) : Calls Try.prog 24 #[.pointer (some ⟨g, 0, none⟩), .int .i64 now, .int .i64 r] w fun e w' => e = .returned (.bool (lostS s now r).2) ∧ LW w' G g (lostS s now r).1 ∧ Fr G w w' := by
  have HL := Lib.hid h
  have HK := Lib.hid hk
  obtain ⟨gw, vF, rp, vh, Gr, h⟩ := h
  have HP := Lib.hid h
  have hgw : gw ≠ g := h.hw.2
  have hgl : g < w.heap.size := h.lt g h.hg
  have hgl2 : g ≠ w.heap.size := by omega
  have H := Lib.hid h.blk
  clear h hk
  obtain ⟨st, hst⟩ : ∃ st, st = s.st := ⟨_, rfl⟩
  have HS := Lib.hid hst
  rw [← hst] at H
  by_cases h3 : st < 3 ∨ lateI now = true
  · have HE := Lib.hid (show lostS s now r = (s, false) from if_pos (by rw [← hst]; exact h3))
    have hc : st < 3 ∨ 3 ≤ st ∧ lateI now = true := by
      by_cases g : st < 3
      · exact .inl g
      · exact .inr ⟨by omega, h3.resolve_left g⟩
    clear h3 hst
    rcases hc with g | ⟨g, g2⟩
    · have co := H.out
      have c0 := co.cell 0
      have c1 := co.cell 1
      have c2 := co.cell 2
      have c3 := co.cell 3
      have c4 := co.cell 4
      have c5 := co.cell 5
      have c6 := co.cell 6
      have cf0 := co.frozen 0
      have cf1 := co.frozen 1
      have cf2 := co.frozen 2
      have cf3 := co.frozen 3
      have cf4 := co.frozen 4
      have cf5 := co.frozen 5
      have cf6 := co.frozen 6
      simp only [List.getElem?_toArray, List.getElem?_cons_zero, List.getElem?_cons_succ] at c0 c1 c2 c3 c4 c5 c6
      clear co
      go_enter Try.func24, Try.ntmps24
      go_wp2_with (go_at_call 12; refine (state_any H.out).mono ?_; rintro e w2 ⟨rfl, rfl⟩)
      go_ret
      rw [HE.out]
      exact ⟨rfl, HL.out, Fr.refl _ _⟩
    · have G2 := Lib.hid g2
      clear g2
      have co := H.out
      have c0 := co.cell 0
      have c1 := co.cell 1
      have c2 := co.cell 2
      have c3 := co.cell 3
      have c4 := co.cell 4
      have c5 := co.cell 5
      have c6 := co.cell 6
      have cf0 := co.frozen 0
      have cf1 := co.frozen 1
      have cf2 := co.frozen 2
      have cf3 := co.frozen 3
      have cf4 := co.frozen 4
      have cf5 := co.frozen 5
      have cf6 := co.frozen 6
      simp only [List.getElem?_toArray, List.getElem?_cons_zero, List.getElem?_cons_succ] at c0 c1 c2 c3 c4 c5 c6
      clear co
      go_enter Try.func24, Try.ntmps24
      go_wp2_with (first | (go_at_call 12; refine (state_any H.out).mono ?_; rintro e w2 ⟨rfl, rfl⟩) | (go_at_call 33; refine (late_any _ _).mono ?_; rintro e w2 ⟨rfl, rfl⟩; rw [G2.out]))
      go_ret
      rw [HE.out]
      exact ⟨rfl, HL.out, Fr.refl _ _⟩
  · obtain ⟨h3, h4⟩ := not_or.1 h3
    have h4 : lateI now = false := by simpa using h4
    have HE := Lib.hid (show lostS s now r = (failedS s now r, true) from if_neg (by rw [h4, ← hst]; simpa using h3))
    have g : 3 ≤ st := by omega
    have G2 := Lib.hid h4
    have FA := Lib.hid (failed_any HL.out HK.out hk2 now r h4 hr)
    clear h3 h4 hst
    have co := H.out
    have c0 := co.cell 0
    have c1 := co.cell 1
    have c2 := co.cell 2
    have c3 := co.cell 3
    have c4 := co.cell 4
    have c5 := co.cell 5
    have c6 := co.cell 6
    have cf0 := co.frozen 0
    have cf1 := co.frozen 1
    have cf2 := co.frozen 2
    have cf3 := co.frozen 3
    have cf4 := co.frozen 4
    have cf5 := co.frozen 5
    have cf6 := co.frozen 6
    simp only [List.getElem?_toArray, List.getElem?_cons_zero, List.getElem?_cons_succ] at c0 c1 c2 c3 c4 c5 c6
    clear co
    go_enter Try.func24, Try.ntmps24
    go_wp2_with (first | (go_at_call 12; refine (state_any H.out).mono ?_; rintro e w2 ⟨rfl, rfl⟩) | (go_at_call 33; refine (late_any _ _).mono ?_; rintro e w2 ⟨rfl, rfl⟩; rw [G2.out]) | (go_at_call 34; refine FA.out.mono ?_; rintro e w3 ⟨rfl, h3, h4⟩; have H3 := Lib.hid h3; have H4 := Lib.hid h4; clear h3 h4))
    go_ret
    rw [HE.out]
    exact ⟨rfl, H3.out, H4.out⟩
end
end Ln
end Go.Proofs.Ytnfkkonmhinlcaa
