/- Package line: Send, Break, New. Printed by gen_lnt.py. -/
import Derived.Test.YtnfkkonmhinlcaaLnO
import Derived.Test.YtnfkkonmhinlcaaLnV
namespace Go.Proofs.Ytnfkkonmhinlcaa
open Go.RowKit
set_option linter.unusedVariables false
set_option linter.unusedSimpArgs false
namespace Ln
open Run (O ROp timesR endsR dueT nextT chk chkR Fit)
section
variable {w w' W : World} {G G' : Nat → Prop} {g gw : Nat} {vF rp vh : Value} {Gr : Nat → Prop} {s s' : S}
theorem infoB : (Try.prog.info? 5).map (fun i => (i.zero, i.size, i.bytes)) = some (some (.int .u8 0), 1, 1) := by kernel_rfl
theorem send_made {vh' : Value} {t : Str} (h : LP w G g gw vF rp vh Gr s) (hf : Fr (fun k => k = g ∨ Of vh k) w W) (hb : Blk W g 59 (LC gw s.st vF rp s.at_ vh')) (ho : W.ownsRow 0 5 1 vh' (s.held ++ t).length ((s.held ++ t).map encB)) (hh : ∀ z, Of vh' z → Of vh z ∨ New w W z) :
    ∃ G', LW W G' g { s with held := s.held ++ t } ∧ ∀ k, G' k → G k ∨ New w W k := by
  have hr : ∀ k, Gr k → ¬ (k = g ∨ Of vh k) := fun k hk e => by
    rcases e with e | e
    · exact (h.hr k hk).2.1 e
    · exact (h.hh k e).2.2.2 hk
  refine ⟨fun k => G k ∨ New w W k, ⟨gw, vF, rp, vh', Gr, h.make hf (fun k hk e => ?_) (fun _ h => .inl h) (fun k hk => hk.elim (fun e => Nat.lt_of_lt_of_le (h.lt k e) hf.size) (fun e => e.2)) rfl hb (wat_far h.wait hf (fun e => ?_)) (fun hb => ?_) (fun hb => h.idle hb) ho (fun k hk => (hh k hk).imp_right fun e => ⟨e, .inr e⟩) (fun k hk => .inl hk) (fun k hk hk2 => ?_)⟩, fun k hk => hk⟩
  · rcases e with e | e
    · exact (h.hF k hk).2.1 e
    · exact (h.hF k hk).2.2.2.1 e
  · rcases e with e | e
    · exact h.hw.2 e
    · exact (h.hh gw e).2.2.1 rfl
  · obtain ⟨gr, e, h2⟩ := h.run hb
    exact ⟨gr, e, h2.far hf hr⟩
  · rcases hh k hk with e | e
    · exact (h.hh k e).2.2.2 hk2
    · have := h.lt k (h.hr k hk2).1
      have := e.1
      omega
theorem send_end {f : Value → Value} {e : Ending} {F : Nat → Prop} (he : e = .returned (f (.slice none 0 0))) (h : ∃ G', LW W G' g s ∧ ∀ k, G' k → G k ∨ New w W k) (hf : Fr F w W) (hF : ∀ k, F k → G k) : LAct w G g s [] f e W := by
  obtain ⟨G', h1, h2⟩ := h
  exact ⟨_, G', he, h1, ⟨World.ownsRow_nil _ _ _ _, fun k hk => (by cases hk)⟩, hf.mono (fun b hb _ => hF b hb), h2⟩
theorem BeginIs.form {st now : Int} {ops : List O} {e : Ending} (h : BeginIs w G g s st now ops e w') : ∃ v c, e = .returned (.tuple #[v, .int .i64 c]) := by
  rcases h with ⟨_, v, G', h, _⟩ | ⟨_, h, _⟩
  · exact ⟨v, 0, h⟩
  · exact ⟨_, _, h⟩
set_option maxRecDepth 100000 in
set_option maxHeartbeats 2000000 in
theorem send_any (h : LW w G g s) (hlen : s.held.length ≤ 4096) (t : Str) (ht : t.length ≤ 100000) : Calls Try.prog 13 #[.pointer (some ⟨g, 0, none⟩), .string ⟨t.toArray⟩] w (LAct w G g (sendS s t).1 (sendS s t).2.1 (fun v => .tuple #[v, .bool (sendS s t).2.2])) := by
  have HL := Lib.hid h
  obtain ⟨gw, vF, rp, vh, Gr, h⟩ := h
  have HP := Lib.hid h
  have hgw : gw ≠ g := h.hw.2
  have hgl : g < w.heap.size := h.lt g h.hg
  have hgl2 : g ≠ w.heap.size := by omega
  have H := Lib.hid h.blk
  have hp := h.ptr
  obtain ⟨A5, cc5, hv5⟩ := h.bytes
  subst hv5
  obtain ⟨hl5, hhl⟩ : ∃ hl5, hl5 = s.held.length := ⟨_, rfl⟩
  have HHL := Lib.hid hhl
  rw [← hhl] at hlen H HP
  clear h hhl
  obtain ⟨st, hst⟩ : ∃ st, st = s.st := ⟨_, rfl⟩
  have HS := Lib.hid hst
  rw [← hst] at H
  obtain ⟨tl, htl⟩ : ∃ tl, tl = t.length := ⟨_, rfl⟩
  have HTL := Lib.hid htl
  by_cases h4 : st = 4
  · subst h4
    by_cases h0 : t = []
    · subst h0
      have HE := Lib.hid (show sendS s [] = (s, [], true) by unfold sendS; rw [if_pos hst.symm]; rfl)
      clear hst hp htl
      have co := H.out
      have c0 := co.cell 0
      have c1 := co.cell 1
      have c2 := co.cell 2
      have c3 := co.cell 3
      have c4 := co.cell 4
      have c5 := co.cell 5
      have c6 := co.cell 6
      have cf0 := co.frozen 0
      have cf1 := co.frozen 1
      have cf2 := co.frozen 2
      have cf3 := co.frozen 3
      have cf4 := co.frozen 4
      have cf5 := co.frozen 5
      have cf6 := co.frozen 6
      simp only [List.getElem?_toArray, List.getElem?_cons_zero, List.getElem?_cons_succ] at c0 c1 c2 c3 c4 c5 c6
      clear co
      go_enter Try.func13, Try.ntmps13
      go_wp2_with (first | (go_at_call 12; refine (state_any H.out).mono ?_; rintro e w2 ⟨rfl, rfl⟩) | fail)
      clear c0 c1 c2 c3 c4 c5 c6 cf0 cf1 cf2 cf3 cf4 cf5 cf6
      go_ret2
      rw [HE.out]
      exact lact_nil (f := fun v => .tuple #[v, .bool true]) rfl HL.out (Fr.refl _ _)
    · have HE := Lib.hid (show sendS s t = (s, [(3, t)], true) by unfold sendS; rw [if_pos hst.symm, if_neg h0])
      have hem := ne_empty h0
      clear h0 hst hp htl
      have co := H.out
      have c0 := co.cell 0
      have c1 := co.cell 1
      have c2 := co.cell 2
      have c3 := co.cell 3
      have c4 := co.cell 4
      have c5 := co.cell 5
      have c6 := co.cell 6
      have cf0 := co.frozen 0
      have cf1 := co.frozen 1
      have cf2 := co.frozen 2
      have cf3 := co.frozen 3
      have cf4 := co.frozen 4
      have cf5 := co.frozen 5
      have cf6 := co.frozen 6
      simp only [List.getElem?_toArray, List.getElem?_cons_zero, List.getElem?_cons_succ] at c0 c1 c2 c3 c4 c5 c6
      clear co
      go_enter Try.func13, Try.ntmps13
      go_wp2_with (first | (go_at_call 12; refine (state_any H.out).mono ?_; rintro e w2 ⟨rfl, rfl⟩) | fail)
      clear c0 c1 c2 c3 c4 c5 c6 cf0 cf1 cf2 cf3 cf4 cf5 cf6
      go_ret2
      rw [HE.out]
      exact lact_one (f := fun v => .tuple #[v, .bool true]) rfl rfl rfl HL.out (Fr.refl _ _)
  have g4 : (st == 4) = false := by simpa using h4
  by_cases hb : busy s = true
  rotate_left
  · have HE := Lib.hid (show sendS s t = (s, [], false) by unfold sendS; rw [if_neg (by rw [← hst]; exact h4), if_pos (.inl (by simpa using hb))])
    have hb2 : ¬ (st = 3 ∨ st = 5) := by rw [hst]; exact fun h => hb (decide_eq_true h)
    have g3 : (st == 3) = false := by simpa using fun e => hb2 (.inl e)
    have g5 : (st == 5) = false := by simpa using fun e => hb2 (.inr e)
    clear hb hb2 h4 hst hp htl
    have co := H.out
    have c0 := co.cell 0
    have c1 := co.cell 1
    have c2 := co.cell 2
    have c3 := co.cell 3
    have c4 := co.cell 4
    have c5 := co.cell 5
    have c6 := co.cell 6
    have cf0 := co.frozen 0
    have cf1 := co.frozen 1
    have cf2 := co.frozen 2
    have cf3 := co.frozen 3
    have cf4 := co.frozen 4
    have cf5 := co.frozen 5
    have cf6 := co.frozen 6
    simp only [List.getElem?_toArray, List.getElem?_cons_zero, List.getElem?_cons_succ] at c0 c1 c2 c3 c4 c5 c6
    clear co
    go_enter Try.func13, Try.ntmps13
    go_wp2_with (first | (go_at_call 12; refine (state_any H.out).mono ?_; rintro e w2 ⟨rfl, rfl⟩) | fail)
    clear c0 c1 c2 c3 c4 c5 c6 cf0 cf1 cf2 cf3 cf4 cf5 cf6
    go_ret2
    rw [HE.out]
    exact lact_nil (f := fun v => .tuple #[v, .bool false]) rfl HL.out (Fr.refl _ _)
  have HB := Lib.hid hb
  have g35 : st = 3 ∨ (st == 3) = false ∧ st = 5 := by
    have hb2 : st = 3 ∨ st = 5 := by rw [hst]; exact of_decide_eq_true hb
    rcases hb2 with e | e
    · exact .inl e
    · exact .inr ⟨by subst e; decide, e⟩
  clear hp
  by_cases hc : 4096 < hl5 + tl
  · have HE := Lib.hid (show sendS s t = (s, [], false) by unfold sendS; rw [if_neg (by rw [← hst]; exact h4), if_pos (.inr (by rw [← HHL.out, ← htl]; exact hc))])
    have htle : tl ≤ 100000 := by rw [htl]; exact ht
    clear h4 hst hb
    rcases g35 with rfl | ⟨g3, rfl⟩
    all_goals
      rw [htl] at hc
      have co := H.out
      have c0 := co.cell 0
      have c1 := co.cell 1
      have c2 := co.cell 2
      have c3 := co.cell 3
      have c4 := co.cell 4
      have c5 := co.cell 5
      have c6 := co.cell 6
      have cf0 := co.frozen 0
      have cf1 := co.frozen 1
      have cf2 := co.frozen 2
      have cf3 := co.frozen 3
      have cf4 := co.frozen 4
      have cf5 := co.frozen 5
      have cf6 := co.frozen 6
      simp only [List.getElem?_toArray, List.getElem?_cons_zero, List.getElem?_cons_succ] at c0 c1 c2 c3 c4 c5 c6
      clear co
      go_enter Try.func13, Try.ntmps13
      go_wp2_with (first | (go_at_call 12; refine (state_any H.out).mono ?_; rintro e w2 ⟨rfl, rfl⟩) | fail)
      clear c0 c1 c2 c3 c4 c5 c6 cf0 cf1 cf2 cf3 cf4 cf5 cf6
      go_ret2
      rw [HE.out]
      exact lact_nil (f := fun v => .tuple #[v, .bool false]) rfl HL.out (Fr.refl _ _)
  · have HE := Lib.hid (show sendS s t = ({ s with held := s.held ++ t }, [], true) by unfold sendS; rw [if_neg (by rw [← hst]; exact h4), if_neg (not_or.2 ⟨by rw [hb]; simp, by rw [← HHL.out, ← htl]; exact hc⟩)])
    have hc : hl5 + tl ≤ 4096 := by omega
    have HC := Lib.hid (show s.held.length + t.length ≤ 100000000 by rw [← HHL.out, ← htl]; omega)
    have HH : Hid (w.ownsRow 0 5 1 (.slice A5 hl5 cc5) s.held.length (s.held.map encB)) := HP.out.held
    rw [htl] at hc
    clear h4 hst hb
    rcases g35 with rfl | ⟨g3, rfl⟩
    all_goals
      have co := H.out
      have c0 := co.cell 0
      have c1 := co.cell 1
      have c2 := co.cell 2
      have c3 := co.cell 3
      have c4 := co.cell 4
      have c5 := co.cell 5
      have c6 := co.cell 6
      have cf0 := co.frozen 0
      have cf1 := co.frozen 1
      have cf2 := co.frozen 2
      have cf3 := co.frozen 3
      have cf4 := co.frozen 4
      have cf5 := co.frozen 5
      have cf6 := co.frozen 6
      simp only [List.getElem?_toArray, List.getElem?_cons_zero, List.getElem?_cons_succ] at c0 c1 c2 c3 c4 c5 c6
      clear co
      go_enter Try.func13, Try.ntmps13
      go_wp2_with (first | (go_at_call 12; refine (state_any H.out).mono ?_; rintro e w2 ⟨rfl, rfl⟩) | (at_builtin; go_loud (refine wp_hstr rfl (.tmp 31) (.tmp 32) 56 9 rfl 5 Try.underlying56 Try.underlying9 infoB (.slice A5 hl5 cc5) s.held rfl HH.out t rfl HC.out ?_; intro vh6 w6 q1 q2 q3; obtain ⟨A6, cc6, hv6⟩ := own_form q1; subst hv6; obtain ⟨n6, hn6⟩ : ∃ n6, n6 = (s.held ++ t).length := ⟨_, rfl⟩; have HN6 := Lib.hid hn6; rw [← hn6] at q1 q3 ⊢; clear hn6; have Q1 := Lib.hid q1; have Q2 := Lib.hid q2; have Q3 := Lib.hid q3; clear q1 q2 q3; have P6 := Lib.hid (H.out.fr Q2.out (fun h => (HP.out.hh g h).2.1 rfl)); clear c0 c1 c2 c3 c4 c5 c6 cf0 cf1 cf2 cf3 cf4 cf5 cf6; have co := P6.out; have c0 := co.cell 0; have c1 := co.cell 1; have c2 := co.cell 2; have c3 := co.cell 3; have c4 := co.cell 4; have c5 := co.cell 5; have c6 := co.cell 6; have cf0 := co.frozen 0; have cf1 := co.frozen 1; have cf2 := co.frozen 2; have cf3 := co.frozen 3; have cf4 := co.frozen 4; have cf5 := co.frozen 5; have cf6 := co.frozen 6; simp only [List.getElem?_toArray, List.getElem?_cons_zero, List.getElem?_cons_succ] at c0 c1 c2 c3 c4 c5 c6; clear co)))
      clear c0 c1 c2 c3 c4 c5 c6 cf0 cf1 cf2 cf3 cf4 cf5 cf6
      go_ret2
      rw [HE.out]
      have b9 := P6.out.put 5 (.slice A6 n6 cc6)
      simp only [List.setIfInBounds_toArray, List.set_cons_zero, List.set_cons_succ] at b9
      rw [HS.out] at b9
      have hf9 : Fr (fun k => k = g) w6 (w6.setCell ⟨g, 5, none⟩ (.slice A6 n6 cc6)) := fr_put (Fr.refl (fun k => k = g) w6) rfl 5 _
      have F := (Q2.out.mono (F' := fun k => k = g ∨ Of (.slice A5 hl5 cc5) k) (fun b hb _ => .inr hb)).trans hf9 (fun b hb _ => .inl hb)
      have HL2 := send_made HP.out F b9 (put_own (by rw [← HN6.out]; exact Q1.out) (fun z hz => (Q3.out z hz).elim (fun e => (HP.out.hh z e).2.1) (fun e => by have := e.1; show z ≠ g; omega))) (fun z hz => (Q3.out z hz).imp_right fun e => ⟨e.1, by rw [size_setCell]; exact e.2⟩)
      exact send_end (f := fun v => .tuple #[v, .bool true]) rfl HL2 F (fun k hk => hk.elim (fun e => by rw [e]; exact HP.out.hg) (fun e => (HP.out.hh k e).1))
set_option maxRecDepth 100000 in
set_option maxHeartbeats 2000000 in
theorem break_any (h : LW w G g s) {k : Int} (hk : Ok s k) (now : Int) (vo : Value) (ops : List O) (So : Nat → Prop) (hSo : ∀ k, So k → k < w.heap.size) (ho : RSl 3 ROp w So [vo] ops) (hol : ops.length ≤ 1000) :
    Calls Try.prog 14 #[.pointer (some ⟨g, 0, none⟩), .int .i64 now, vo] w (LAct w G g (breakS s now ops).1 (breakS s now ops).2.1 (fun v => .tuple #[v, .int .i64 (breakS s now ops).2.2])) := by
  have HL := Lib.hid h
  have HK := Lib.hid hk
  obtain ⟨gw, vF, rp, vh, Gr, h⟩ := h
  have HP := Lib.hid h
  have hgw : gw ≠ g := h.hw.2
  have hgl : g < w.heap.size := h.lt g h.hg
  have hgl2 : g ≠ w.heap.size := by omega
  have H := Lib.hid h.blk
  clear h hk
  obtain ⟨st, hst⟩ : ∃ st, st = s.st := ⟨_, rfl⟩
  have HS := Lib.hid hst
  rw [← hst] at H
  by_cases h4 : st = 4
  rotate_left
  · have HE := Lib.hid (show breakS s now ops = (s, [], 9) from if_pos (by rw [← hst]; exact h4))
    have g4 : (st != 4) = true := by simpa using h4
    clear h4 hst ho hSo
    have co := H.out
    have c0 := co.cell 0
    have c1 := co.cell 1
    have c2 := co.cell 2
    have c3 := co.cell 3
    have c4 := co.cell 4
    have c5 := co.cell 5
    have c6 := co.cell 6
    have cf0 := co.frozen 0
    have cf1 := co.frozen 1
    have cf2 := co.frozen 2
    have cf3 := co.frozen 3
    have cf4 := co.frozen 4
    have cf5 := co.frozen 5
    have cf6 := co.frozen 6
    simp only [List.getElem?_toArray, List.getElem?_cons_zero, List.getElem?_cons_succ] at c0 c1 c2 c3 c4 c5 c6
    clear co
    go_enter Try.func14, Try.ntmps14
    go_wp2_with (go_at_call 30; refine (made_any H.out).mono ?_; rintro e w2 ⟨rfl, rfl⟩)
    clear c0 c1 c2 c3 c4 c5 c6 cf0 cf1 cf2 cf3 cf4 cf5 cf6
    go_ret2
    rw [HE.out]
    exact lact_nil (f := fun v => .tuple #[v, .int .i64 9]) rfl HL.out (Fr.refl _ _)
  subst h4
  by_cases hl : lateI now = true
  · have HE := Lib.hid (show breakS s now ops = (s, [], 1) from (if_neg (by rw [← hst]; simp)).trans (if_pos hl))
    have G2 := Lib.hid hl
    clear hl hst ho hSo
    have co := H.out
    have c0 := co.cell 0
    have c1 := co.cell 1
    have c2 := co.cell 2
    have c3 := co.cell 3
    have c4 := co.cell 4
    have c5 := co.cell 5
    have c6 := co.cell 6
    have cf0 := co.frozen 0
    have cf1 := co.frozen 1
    have cf2 := co.frozen 2
    have cf3 := co.frozen 3
    have cf4 := co.frozen 4
    have cf5 := co.frozen 5
    have cf6 := co.frozen 6
    simp only [List.getElem?_toArray, List.getElem?_cons_zero, List.getElem?_cons_succ] at c0 c1 c2 c3 c4 c5 c6
    clear co
    go_enter Try.func14, Try.ntmps14
    go_wp2_with (first | (go_at_call 30; refine (made_any H.out).mono ?_; rintro e w2 ⟨rfl, rfl⟩) | (go_at_call 33; refine (late_any _ _).mono ?_; rintro e w2 ⟨rfl, rfl⟩; rw [G2.out]))
    clear c0 c1 c2 c3 c4 c5 c6 cf0 cf1 cf2 cf3 cf4 cf5 cf6
    go_ret2
    rw [HE.out]
    exact lact_nil (f := fun v => .tuple #[v, .int .i64 1]) rfl HL.out (Fr.refl _ _)
  have hl : lateI now = false := by simpa using hl
  have G2 := Lib.hid hl
  obtain ⟨t1, t2⟩ := late_no hl
  have HB := Lib.hid (show busy s = false by unfold busy; rw [← hst]; rfl)
  have BG := Lib.hid (begin_any HL.out HB.out 5 now (.inr rfl) ⟨t1, t2⟩ HK.out.len vo ops So hSo ho hol)
  have HE := Lib.hid (show breakS s now ops = if Run.chk now ops ≠ 0 then (s, [], Run.chk now ops) else ((goOnS (beginS s 5 ops now) now).1, (goOnS (beginS s 5 ops now) now).2, 0) by unfold breakS; rw [if_neg (by rw [← hst]; simp), if_neg (by rw [hl]; simp)])
  clear hl hst ho hSo
  have co := H.out
  have c0 := co.cell 0
  have c1 := co.cell 1
  have c2 := co.cell 2
  have c3 := co.cell 3
  have c4 := co.cell 4
  have c5 := co.cell 5
  have c6 := co.cell 6
  have cf0 := co.frozen 0
  have cf1 := co.frozen 1
  have cf2 := co.frozen 2
  have cf3 := co.frozen 3
  have cf4 := co.frozen 4
  have cf5 := co.frozen 5
  have cf6 := co.frozen 6
  simp only [List.getElem?_toArray, List.getElem?_cons_zero, List.getElem?_cons_succ] at c0 c1 c2 c3 c4 c5 c6
  clear co
  go_enter Try.func14, Try.ntmps14
  go_wp2_with (first | (go_at_call 30; refine (made_any H.out).mono ?_; rintro e w2 ⟨rfl, rfl⟩) | (go_at_call 33; refine (late_any _ _).mono ?_; rintro e w2 ⟨rfl, rfl⟩; rw [G2.out]) | (go_at_call 35; refine BG.out.mono ?_; rintro e w4 hbg; have HBG := Lib.hid hbg; obtain ⟨v, c, rfl⟩ := hbg.form; clear hbg))
  clear c0 c1 c2 c3 c4 c5 c6 cf0 cf1 cf2 cf3 cf4 cf5 cf6
  go_ret2
  rw [HE.out]
  rcases HBG.out with ⟨h1, h2⟩ | ⟨h1, h2, h3⟩
  · rw [if_neg (by rw [h1]; simp)]
    exact h2.map (fun v e => e)
  · rw [if_pos h1]
    exact lact_nil (f := fun v => .tuple #[v, .int .i64 (Run.chk now ops)]) h2 (HL.out.no h3) (h3.no _)
def NewIs (r : S × Int) (w : World) (e : Ending) (w' : World) : Prop :=
  (r.2 = 0 ∧ ∃ g G, e = .returned (.tuple #[.pointer (some ⟨g, 0, none⟩), .int .i64 0]) ∧ LW w' G g r.1 ∧ Fr No w w' ∧ ∀ k, G k → New w w' k) ∨
  (r.2 ≠ 0 ∧ e = .returned (.tuple #[.pointer none, .int .i64 r.2]) ∧ Fr No w w')
set_option maxRecDepth 100000 in
set_option maxHeartbeats 2000000 in
theorem new_any (nm t : Str) (k1 k2 k3 k4 k5 b c j : Int) (w : World) : Calls Try.prog 7 #[.agg #[.string ⟨nm.toArray⟩, .int .i64 k1, .int .i64 k2, .int .i64 k3, .int .i64 k4, .int .i64 k5, .int .i64 b, .int .i64 c, .int .i64 j, .string ⟨t.toArray⟩]] w (NewIs (newS b c j t) w) := by
  have XB := Lib.hid (Blk.new w 29 #[.string ⟨nm.toArray⟩, .int .i64 k1, .int .i64 k2, .int .i64 k3, .int .i64 k4, .int .i64 k5, .int .i64 b, .int .i64 c, .int .i64 j, .string ⟨t.toArray⟩])
  have F1 := Lib.hid ((Fr.refl No w).alloc (.cells #[.string ⟨nm.toArray⟩, .int .i64 k1, .int .i64 k2, .int .i64 k3, .int .i64 k4, .int .i64 k5, .int .i64 b, .int .i64 c, .int .i64 j, .string ⟨t.toArray⟩] 29))
  obtain ⟨bx, hbx⟩ : ∃ bx, w.heap.size = bx := ⟨_, rfl⟩
  have HBX := Lib.hid hbx
  have XB := Lib.hid (show Blk _ bx _ _ by rw [← hbx]; exact XB.out)
  by_cases hk : Backoff.ok b c j = false
  · have HE := Lib.hid (show newS b c j t = (zeroS, 2) from if_pos hk)
    have HK := Lib.hid hk
    clear hk
    go_enter Try.func7, Try.ntmps7
    go_upto_region 1 with (fail)
    generalize w.alloc (.cells #[.string ⟨nm.toArray⟩, .int .i64 k1, .int .i64 k2, .int .i64 k3, .int .i64 k4, .int .i64 k5, .int .i64 b, .int .i64 c, .int .i64 j, .string ⟨t.toArray⟩] 29) = w1 at XB F1 ⊢
    clear hbx
    have xo := XB.out
    have x0 := xo.cell 0
    have xf0 := xo.frozen 0
    have x1 := xo.cell 1
    have xf1 := xo.frozen 1
    have x2 := xo.cell 2
    have xf2 := xo.frozen 2
    have x3 := xo.cell 3
    have xf3 := xo.frozen 3
    have x4 := xo.cell 4
    have xf4 := xo.frozen 4
    have x5 := xo.cell 5
    have xf5 := xo.frozen 5
    have x6 := xo.cell 6
    have xf6 := xo.frozen 6
    have x7 := xo.cell 7
    have xf7 := xo.frozen 7
    have x8 := xo.cell 8
    have xf8 := xo.frozen 8
    have x9 := xo.cell 9
    have xf9 := xo.frozen 9
    simp only [List.getElem?_toArray, List.getElem?_cons_zero, List.getElem?_cons_succ] at x0 x1 x2 x3 x4 x5 x6 x7 x8 x9
    clear xo
    go_wp2_with (go_at_call 27; refine (Backoff.new_no b c j _ HK.out).mono ?_; rintro e w2 ⟨rfl, hf2⟩; have F2 := Lib.hid hf2; clear hf2)
    go_ret2
    rw [HE.out]
    exact .inr ⟨by decide, rfl, F1.out.then_no F2.out⟩
  have hk : Backoff.ok b c j = true := by simpa using hk
  have HK := Lib.hid hk
  clear hk
  have RR := Lib.hid (fun W : World => lread_any t W)
  have HG := Lib.hid (Brk.read_ok t)
  obtain ⟨⟨L, q⟩, hq⟩ : ∃ p, p = Brk.readR t := ⟨_, rfl⟩
  have HQ := Lib.hid hq
  rw [← hq] at RR HG
  clear hq
  have HG := Lib.hid (show Brk.ReadOk L from HG.out)
  by_cases h0 : q = 0
  rotate_left
  · have g0 : (q != 0) = true := by simpa using h0
    have HE := Lib.hid (show newS b c j t = (zeroS, q) by unfold newS; rw [if_neg (by rw [HK.out]; simp), if_pos (by rw [← HQ.out]; exact h0), ← HQ.out])
    have H0 := Lib.hid h0
    clear h0
    go_enter Try.func7, Try.ntmps7
    go_upto_region 1 with (fail)
    generalize w.alloc (.cells #[.string ⟨nm.toArray⟩, .int .i64 k1, .int .i64 k2, .int .i64 k3, .int .i64 k4, .int .i64 k5, .int .i64 b, .int .i64 c, .int .i64 j, .string ⟨t.toArray⟩] 29) = w1 at XB F1 ⊢
    clear hbx
    have xo := XB.out
    have x0 := xo.cell 0
    have xf0 := xo.frozen 0
    have x1 := xo.cell 1
    have xf1 := xo.frozen 1
    have x2 := xo.cell 2
    have xf2 := xo.frozen 2
    have x3 := xo.cell 3
    have xf3 := xo.frozen 3
    have x4 := xo.cell 4
    have xf4 := xo.frozen 4
    have x5 := xo.cell 5
    have xf5 := xo.frozen 5
    have x6 := xo.cell 6
    have xf6 := xo.frozen 6
    have x7 := xo.cell 7
    have xf7 := xo.frozen 7
    have x8 := xo.cell 8
    have xf8 := xo.frozen 8
    have x9 := xo.cell 9
    have xf9 := xo.frozen 9
    simp only [List.getElem?_toArray, List.getElem?_cons_zero, List.getElem?_cons_succ] at x0 x1 x2 x3 x4 x5 x6 x7 x8 x9
    clear xo
    go_wp2_with (first | (go_at_call 27; refine (Backoff.new_yes b c j _ HK.out).mono ?_; rintro e w2 ⟨gw, rfl, hw2, hn2, hf2⟩; have F2 := Lib.hid hf2; have W2 := Lib.hid hw2; have N2 := Lib.hid hn2; have XB2 := Lib.hid (XB.out.fr hf2 (fun h => h)); clear hf2 hw2 hn2; clear x0 xf0 x1 xf1 x2 xf2 x3 xf3 x4 xf4 x5 xf5 x6 xf6 x7 xf7 x8 xf8 x9 xf9; have xo := XB2.out; have x0 := xo.cell 0; have xf0 := xo.frozen 0; have x1 := xo.cell 1; have xf1 := xo.frozen 1; have x2 := xo.cell 2; have xf2 := xo.frozen 2; have x3 := xo.cell 3; have xf3 := xo.frozen 3; have x4 := xo.cell 4; have xf4 := xo.frozen 4; have x5 := xo.cell 5; have xf5 := xo.frozen 5; have x6 := xo.cell 6; have xf6 := xo.frozen 6; have x7 := xo.cell 7; have xf7 := xo.frozen 7; have x8 := xo.cell 8; have xf8 := xo.frozen 8; have x9 := xo.cell 9; have xf9 := xo.frozen 9; simp only [List.getElem?_toArray, List.getElem?_cons_zero, List.getElem?_cons_succ] at x0 x1 x2 x3 x4 x5 x6 x7 x8 x9; clear xo) | (go_at_call 28; refine (RR.out _).mono ?_; rintro e w3 ⟨v, rfl, hg⟩; obtain ⟨A3, cc3, hv3⟩ := hg.form; subst hv3; obtain ⟨n3, hn3⟩ : ∃ n3, n3 = L.length := ⟨_, rfl⟩; have HN3 := Lib.hid hn3; rw [← hn3] at hg ⊢; clear hn3; have GR := Lib.hid hg; have F3 := Lib.hid hg.fr; clear hg))
    go_ret2
    rw [HE.out]
    exact .inr ⟨H0.out, rfl, (F1.out.then_no F2.out).then_no F3.out⟩
  subst h0
  have HE := Lib.hid (show newS b c j t = (⟨b, c, j, 0, 0, 0, L, [], 0, 0, []⟩, 0) by unfold newS; rw [if_neg (by rw [HK.out]; simp), if_neg (by rw [← HQ.out]; simp), ← HQ.out])
  go_enter Try.func7, Try.ntmps7
  go_upto_region 1 with (fail)
  generalize w.alloc (.cells #[.string ⟨nm.toArray⟩, .int .i64 k1, .int .i64 k2, .int .i64 k3, .int .i64 k4, .int .i64 k5, .int .i64 b, .int .i64 c, .int .i64 j, .string ⟨t.toArray⟩] 29) = w1 at XB F1 ⊢
  clear hbx
  have xo := XB.out
  have x0 := xo.cell 0
  have xf0 := xo.frozen 0
  have x1 := xo.cell 1
  have xf1 := xo.frozen 1
  have x2 := xo.cell 2
  have xf2 := xo.frozen 2
  have x3 := xo.cell 3
  have xf3 := xo.frozen 3
  have x4 := xo.cell 4
  have xf4 := xo.frozen 4
  have x5 := xo.cell 5
  have xf5 := xo.frozen 5
  have x6 := xo.cell 6
  have xf6 := xo.frozen 6
  have x7 := xo.cell 7
  have xf7 := xo.frozen 7
  have x8 := xo.cell 8
  have xf8 := xo.frozen 8
  have x9 := xo.cell 9
  have xf9 := xo.frozen 9
  simp only [List.getElem?_toArray, List.getElem?_cons_zero, List.getElem?_cons_succ] at x0 x1 x2 x3 x4 x5 x6 x7 x8 x9
  clear xo
  go_wp2_with (first | (go_at_call 27; refine (Backoff.new_yes b c j _ HK.out).mono ?_; rintro e w2 ⟨gw, rfl, hw2, hn2, hf2⟩; have F2 := Lib.hid hf2; have W2 := Lib.hid hw2; have N2 := Lib.hid hn2; have XB2 := Lib.hid (XB.out.fr hf2 (fun h => h)); clear hf2 hw2 hn2; clear x0 xf0 x1 xf1 x2 xf2 x3 xf3 x4 xf4 x5 xf5 x6 xf6 x7 xf7 x8 xf8 x9 xf9; have xo := XB2.out; have x0 := xo.cell 0; have xf0 := xo.frozen 0; have x1 := xo.cell 1; have xf1 := xo.frozen 1; have x2 := xo.cell 2; have xf2 := xo.frozen 2; have x3 := xo.cell 3; have xf3 := xo.frozen 3; have x4 := xo.cell 4; have xf4 := xo.frozen 4; have x5 := xo.cell 5; have xf5 := xo.frozen 5; have x6 := xo.cell 6; have xf6 := xo.frozen 6; have x7 := xo.cell 7; have xf7 := xo.frozen 7; have x8 := xo.cell 8; have xf8 := xo.frozen 8; have x9 := xo.cell 9; have xf9 := xo.frozen 9; simp only [List.getElem?_toArray, List.getElem?_cons_zero, List.getElem?_cons_succ] at x0 x1 x2 x3 x4 x5 x6 x7 x8 x9; clear xo) | (go_at_call 28; refine (RR.out _).mono ?_; rintro e w3 ⟨v, rfl, hg⟩; obtain ⟨A3, cc3, hv3⟩ := hg.form; subst hv3; obtain ⟨n3, hn3⟩ : ∃ n3, n3 = L.length := ⟨_, rfl⟩; have HN3 := Lib.hid hn3; rw [← hn3] at hg ⊢; clear hn3; have GR := Lib.hid hg; have F3 := Lib.hid hg.fr; clear hg))
  go_ret2
  rw [HE.out]
  refine .inl ⟨rfl, w3.heap.size, fun k => k = w3.heap.size ∨ k = gw ∨ Of (.slice A3 n3 cc3) k, rfl, ?_, ((F1.out.then_no F2.out).then_no F3.out).alloc _, ?_⟩
  · have hgw : gw < w3.heap.size := Nat.lt_of_lt_of_le W2.out.1.lt F3.out.size
    have hv : ∀ k, Of (.slice A3 n3 cc3) k → gw < k ∧ k < w3.heap.size := fun k hk => ⟨Nat.lt_of_lt_of_le W2.out.1.lt (GR.out.new k hk).1, (GR.out.new k hk).2⟩
    have hrs := (RSl.stable ROp.stable).go (gro_ops GR.out HG.out) (Kept.of_no ((Fr.refl No w3).alloc (.cells #[.pointer (some ⟨gw, 0, none⟩), .int .i64 0, .slice A3 n3 cc3, .pointer none, .int .i64 0, .slice none 0 0, FV] 59)) (fun k hk => (hv k hk).2)) (fun _ h => h)
    exact ⟨gw, .slice A3 n3 cc3, .pointer none, .slice none 0 0, No, Blk.new w3 59 _, wat_far W2.out (F3.out.alloc _) (fun h => h), hrs, fun hb => by simp [busy] at hb, fun _ => rfl, World.ownsRow_nil _ _ _ _, .inl rfl, ⟨.inr (.inl rfl), by omega⟩,
      fun k hk => ⟨.inr (.inr hk), by have := hv k hk; omega, by have := hv k hk; omega, fun h => (by cases h), fun h => h⟩, fun k hk => (by cases hk), fun k hk => hk.elim, fun k hk => by
        rw [size_alloc]
        rcases hk with e | e | e
        · omega
        · omega
        · have := hv k e; omega⟩
  · have h1 := F1.out.size
    have h2 := F2.out.size
    have h3 := F3.out.size
    have h4 := N2.out
    have h5 := W2.out.1.lt
    intro k hk
    unfold New
    rw [size_alloc]
    rcases hk with e | e | e
    · omega
    · omega
    · have := GR.out.new k e
      unfold New at this
      omega
end
end Ln
end Go.Proofs.Ytnfkkonmhinlcaa
