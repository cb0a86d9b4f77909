/- Package seat: its reference: Leave. Printed by gen_seatz.py. -/
import Derived.Test.YtepnjmgacfjhiaaSeatY
import Derived.BigQuiet
import Derived.Deep.CutRange
import Derived.Deep.RegionHeld3
import Derived.Outline
namespace Go.Proofs.Ytepnjmgacfjhiaa
open Go.RowKit
set_option linter.unusedVariables false
set_option linter.unusedSimpArgs false
namespace Seat
open Sls
section
variable {w w' : World} {S : Nat → Prop} {vL vW : Value} {s : St}
set_option maxRecDepth 100000 in
set_option maxHeartbeats 4000000 in
theorem rleave_any (h : RS w S vL vW s) (hl : s.L.length ≤ 4096) (hq : s.q.length ≤ 4096) (id : Int) : Calls Try.prog 63 #[agS vL vW s, .int .i64 id] w (RTells (leaveR s id) S w) := by
  obtain ⟨A, c, B, d, rfl, rfl, hA1, hA2, hB1, hB2⟩ := h.forms
  obtain ⟨n, hn⟩ : ∃ n, n = s.L.length := ⟨_, rfl⟩
  obtain ⟨m, hm⟩ : ∃ m, m = s.q.length := ⟨_, rfl⟩
  obtain ⟨wi, hwr⟩ : ∃ wi, wi = s.wr := ⟨_, rfl⟩
  obtain ⟨ms, hms⟩ : ∃ ms, ms = s.most := ⟨_, rfl⟩
  have ag : agS (.slice A s.L.length c) (.slice B s.q.length d) s = .agg #[.slice A n c, .int .i64 ms, .int .i64 wi, .slice B m d] := by rw [hn, hm, hwr, hms]
  rw [ag]
  have AG := Lib.hid ag
  have HN := Lib.hid hn
  have HM := Lib.hid hm
  have HMS := Lib.hid hms
  have HWR := Lib.hid hwr
  have H := Lib.hid h
  have XB := (Blk.new w 71 #[.slice A n c, .int .i64 ms, .int .i64 wi, .slice B m d]).alloc (.cells #[.slice none 0 0, .int .i64 0, .int .i64 0, .slice none 0 0] 71)
  have XR := Blk.new (w.alloc (.cells #[.slice A n c, .int .i64 ms, .int .i64 wi, .slice B m d] 71)) 71 #[.slice none 0 0, .int .i64 0, .int .i64 0, .slice none 0 0]
  have F1 := ((Fr.refl No w).alloc (.cells #[.slice A n c, .int .i64 ms, .int .i64 wi, .slice B m d] 71)).alloc (.cells #[.slice none 0 0, .int .i64 0, .int .i64 0, .slice none 0 0] 71)
  rw [size_alloc] at XR
  obtain ⟨bx, hbx⟩ : ∃ bx, w.heap.size = bx := ⟨_, rfl⟩
  obtain ⟨br, hbr⟩ : ∃ br, bx + 1 = br := ⟨_, rfl⟩
  rw [hbx] at XB XR
  rw [hbr] at XR
  have XB := Lib.hid XB
  have XR := Lib.hid XR
  have F1 := Lib.hid F1
  have HBX := Lib.hid hbx
  have HBR := Lib.hid hbr
  have HT := Lib.hid (fun (X : World) (hf : Fr No w X) => rthere_any (H.out.no hf) id)
  simp only [AG.out] at HT
  have HBL := Lib.hid (show w.heap.size ≤ br by omega)
  have hnl : n ≤ 4096 := by omega
  obtain ⟨tb, htb⟩ : ∃ tb, thereB s.L id = tb := ⟨_, rfl⟩
  simp only [htb] at HT
  cases tb with
  | false =>
    have HE := Lib.hid (show leaveR s id = (s, [], 7) by unfold leaveR; rw [if_pos htb])
    clear h hl hq ag hn hm hms hwr htb
    go_enter Try.func63, Try.ntmps63
    go_upto_region 1 with (fail)
    generalize (w.alloc (.cells #[.slice A n c, .int .i64 ms, .int .i64 wi, .slice B m d] 71)).alloc (.cells #[.slice none 0 0, .int .i64 0, .int .i64 0, .slice none 0 0] 71) = w1 at XB XR F1 ⊢
    clear hbx hbr
    have XBo := XB.out
    have x0 := XBo.cell 0
    have x1 := XBo.cell 1
    have x2 := XBo.cell 2
    have x3 := XBo.cell 3
    have xf0 := XBo.frozen 0
    have xf1 := XBo.frozen 1
    have xf2 := XBo.frozen 2
    have xf3 := XBo.frozen 3
    simp only [List.getElem?_toArray, List.getElem?_cons_zero, List.getElem?_cons_succ] at x0 x1 x2 x3
    clear XBo
    have W1 := Lib.hid (HT.out w1 F1.out)
    go_wp2_with fail
    refine W1.out.mono ?_
    rintro e w2 ⟨rfl, hf⟩
    have F2 := Lib.hid (F1.out.then_no hf)
    have XB2 := Lib.hid (XB.out.fr hf (fun h => h))
    have XR2 := Lib.hid (XR.out.fr hf (fun h => h))
    clear hf x0 x1 x2 x3 xf0 xf1 xf2 xf3
    have XBo := XB2.out
    have x0 := XBo.cell 0
    have x1 := XBo.cell 1
    have x2 := XBo.cell 2
    have x3 := XBo.cell 3
    have xf0 := XBo.frozen 0
    have xf1 := XBo.frozen 1
    have xf2 := XBo.frozen 2
    have xf3 := XBo.frozen 3
    simp only [List.getElem?_toArray, List.getElem?_cons_zero, List.getElem?_cons_succ] at x0 x1 x2 x3
    have XRo := XR2.out
    have r0 := XRo.cell 0
    have r1 := XRo.cell 1
    have r2 := XRo.cell 2
    have r3 := XRo.cell 3
    have rf0 := XRo.frozen 0
    have rf1 := XRo.frozen 1
    have rf2 := XRo.frozen 2
    have rf3 := XRo.frozen 3
    simp only [List.getElem?_toArray, List.getElem?_cons_zero, List.getElem?_cons_succ] at r0 r1 r2 r3
    clear XBo XRo
    go_wp2_with fail
    have hrlt := XR2.out.lt
    have hRS := H.out.no F2.out
    rw [← HN.out, ← HM.out] at hRS
    have rt := rt_of (br := br) (c := 7) (l := []) F2.out HBL.out hRS (fun k hk => ⟨.inl hk, fun e => by have := H.out.lt k hk; have := HBL.out; omega⟩) H.out.lt (World.ownsRow_nil _ _ _ _) (fun k hk => (of_nil hk).elim) (.slice A n c) (.int .i64 ms) (.int .i64 wi) (.slice B m d)
    rw [show agS (.slice A n c) (.slice B m d) s = .agg #[.slice A n c, .int .i64 ms, .int .i64 wi, .slice B m d] by rw [HMS.out, HWR.out]] at rt
    rw [HE.out]
    have b9 := (((XR2.out.put 0 (.slice A n c)).put 1 (.int .i64 ms)).put 2 (.int .i64 wi)).put 3 (.slice B m d)
    simp only [List.setIfInBounds_toArray, List.set_cons_zero, List.set_cons_succ] at b9
    have e0 := b9.cell 0
    have e1 := b9.cell 1
    have e2 := b9.cell 2
    have e3 := b9.cell 3
    simp only [List.getElem?_toArray, List.getElem?_cons_zero, List.getElem?_cons_succ] at e0 e1 e2 e3
    refine bodyPost_ret (v := .tuple #[.agg #[.slice A n c, .int .i64 ms, .int .i64 wi, .slice B m d], .slice none 0 0, .int .i64 7]) ?_ rfl rt
    clear b9
    simp [results, Try.f63, go_sem, e0, e1, e2, e3]
  | true =>
    have HQ := Lib.hid hq
    have HE := Lib.hid (show (decide (s.wr = id) = true → leaveR s id = ((nextR (gone s id)).1, (id, 0) :: (nextR (gone s id)).2, 0)) ∧ (decide (s.wr = id) = false → leaveR s id = (gone s id, [(id, 0)], 0)) from ⟨fun e => by unfold leaveR; rw [if_neg (by rw [htb]; decide), if_neg (by simpa using e)], fun e => by unfold leaveR; rw [if_neg (by rw [htb]; decide), if_pos (by simpa using e)]⟩)
    clear h hl hq ag hn hm hms hwr htb
    go_enter Try.func63, Try.ntmps63
    go_upto_region 1 with (fail)
    generalize (w.alloc (.cells #[.slice A n c, .int .i64 ms, .int .i64 wi, .slice B m d] 71)).alloc (.cells #[.slice none 0 0, .int .i64 0, .int .i64 0, .slice none 0 0] 71) = w1 at XB XR F1 ⊢
    clear hbx hbr
    have XBo := XB.out
    have x0 := XBo.cell 0
    have x1 := XBo.cell 1
    have x2 := XBo.cell 2
    have x3 := XBo.cell 3
    have xf0 := XBo.frozen 0
    have xf1 := XBo.frozen 1
    have xf2 := XBo.frozen 2
    have xf3 := XBo.frozen 3
    simp only [List.getElem?_toArray, List.getElem?_cons_zero, List.getElem?_cons_succ] at x0 x1 x2 x3
    clear XBo
    have W1 := Lib.hid (HT.out w1 F1.out)
    go_wp2_with fail
    refine W1.out.mono ?_
    rintro e w2 ⟨rfl, hf⟩
    have F2 := Lib.hid (F1.out.then_no hf)
    have XB2 := Lib.hid (XB.out.fr hf (fun h => h))
    have XR2 := Lib.hid (XR.out.fr hf (fun h => h))
    clear hf x0 x1 x2 x3 xf0 xf1 xf2 xf3
    have hl2 := (H.out.no F2.out).l
    have hl0 := H.out.l
    rw [← HN.out] at hl0
    have HL2 := Lib.hid hl0
    clear hl2 hl0
    have XBo := XB2.out
    have x0 := XBo.cell 0
    have x1 := XBo.cell 1
    have x2 := XBo.cell 2
    have x3 := XBo.cell 3
    have xf0 := XBo.frozen 0
    have xf1 := XBo.frozen 1
    have xf2 := XBo.frozen 2
    have xf3 := XBo.frozen 3
    simp only [List.getElem?_toArray, List.getElem?_cons_zero, List.getElem?_cons_succ] at x0 x1 x2 x3
    clear XBo
    go_wp2_with fail
    clear x0 x1 x2 x3 xf0 xf1 xf2 xf3
    go_loopw [7, 8] (fun o i wr => ∃ k : Nat, i = .int .i64 k ∧ k ≤ n ∧ Hid (wr.ownsRow 0 122 2 o ((s.L.take k).filter (fun m => m.1 != id)).length (((s.L.take k).filter (fun m => m.1 != id)).flatMap encM)) ∧ Hid (Fr No w2 wr ∧ (∀ k, Of o k → New w2 wr k))) (fun _ i _ => n - (intOf i).toNat)
    case atStart => exact ⟨0, rfl, by omega, Lib.hid (World.ownsRow_nil _ _ _ _), Lib.hid ⟨Fr.refl _ _, fun k hk => by cases hk⟩⟩
    case round =>
      obtain ⟨k, rfl, hk, Hown, hd⟩ := hrel
      have XB3 := Lib.hid (XB2.out.fr hd.out.1 (fun h => h))
      have XR3 := Lib.hid (XR2.out.fr hd.out.1 (fun h => h))
      have XBo := XB3.out
      have x0 := XBo.cell 0
      have x1 := XBo.cell 1
      have x2 := XBo.cell 2
      have x3 := XBo.cell 3
      have xf0 := XBo.frozen 0
      have xf1 := XBo.frozen 1
      have xf2 := XBo.frozen 2
      have xf3 := XBo.frozen 3
      simp only [List.getElem?_toArray, List.getElem?_cons_zero, List.getElem?_cons_succ] at x0 x1 x2 x3
      clear XBo
      by_cases hlt : k < n
      · have hltS : k < s.L.length := by have := HN.out; omega
        obtain ⟨ad, rfl, hadl, m0, m1⟩ := mem_at (fun _ _ _ _ h => h) HL2.out H.out.lt ((F2.out.then_no hd.out.1)) hltS
        obtain ⟨y, hy⟩ : ∃ y, y = s.L[k] := ⟨_, rfl⟩
        rw [← hy] at m0 m1
        have hll : ((s.L.take k).filter (fun m => m.1 != id)).length ≤ k := Nat.le_trans (List.length_filter_le _ _) (by simp; omega)
        cases hx : y.1 != id
        · have hn := Lib.hid (show (s.L.take (k + 1)).filter (fun m => m.1 != id) = (s.L.take k).filter (fun m => m.1 != id) by rw [List.take_succ_eq_append_getElem hltS, List.filter_append, ← hy]; simp only [List.filter_cons, hx, List.filter_nil]; simp)
          clear hll hy
          go_wp2_with fail
          go_roundw
          case rel => exact ⟨k + 1, by go_num, by omega, by rw [hn.out]; exact Hown, hd⟩
          case measure => simp [intOf]; omega
        · have hn := Lib.hid (show (s.L.take (k + 1)).filter (fun m => m.1 != id) = (s.L.take k).filter (fun m => m.1 != id) ++ [y] by rw [List.take_succ_eq_append_getElem hltS, List.filter_append, ← hy]; simp only [List.filter_cons, hx, List.filter_nil]; simp)
          clear hy
          go_wp2_with (at_builtin; go_loud (refine wp_push rfl (.tmp 30) (.tmp 36) 69 rfl 122 (.agg #[.int .i64 0, .int .i64 0]) 2 16 Try.underlying69 infoRM rfl (by decide) _ _ _ rfl Hown.out #[.int .i64 y.1, .int .i64 y.2] rfl rfl (by intro u hu; simp at hu; rcases hu with rfl | rfl <;> rfl) (by omega) (by unfold maxLen; omega) ?_; intro g cap' w3 h1 h2 h3; have H1 := Lib.hid h1; have H2 := Lib.hid h2; have H3 := Lib.hid h3; clear h1 h2 h3))
          go_roundw
          case rel =>
            refine ⟨k + 1, by go_num, by omega, Lib.hid ?_, Lib.hid ⟨hd.out.1.trans H2.out (fun b hb hl => ?_), fun j hj => ?_⟩⟩
            · rw [hn.out]
              have := H1.out
              simpa [encM] using this
            · have := (hd.out.2 b hb).1; omega
            · have hj' : some g = some j := hj
              injection hj' with hj'
              subst hj'
              rcases H3.out with h | h
              · exact ⟨(hd.out.2 _ h).1, Nat.lt_of_lt_of_le (hd.out.2 _ h).2 H2.out.size⟩
              · exact ⟨Nat.le_trans hd.out.1.size h.1, h.2⟩
          case measure => simp [intOf]; omega
      · have hkn : s.L.take k = s.L := List.take_of_length_le (by have := HN.out; omega)
        have ho := Hown.out
        rw [hkn] at ho
        obtain ⟨A3, c3, rfl⟩ := own_form ho
        obtain ⟨n3, hn3⟩ : ∃ n3, n3 = (s.L.filter (fun m => m.1 != id)).length := ⟨_, rfl⟩
        rw [← hn3] at ho hd ⊢
        have HO3 := Lib.hid ho
        have HN3 := Lib.hid hn3
        clear ho hn3 hkn Hown
        go_upto_region 10 with (fail)
        have hf34 : Fr (fun k => k = bx) wr (wr.setCell ⟨bx, 0, none⟩ (.slice A3 n3 c3)) := Fr.setCell (F := fun k => k = bx) (Fr.refl _ _) (p := ⟨bx, 0, none⟩) (.inl rfl) _
        have hbr3 : br ≠ bx := by have := HBR.out; omega
        have XB4 := XB3.out.put 0 (.slice A3 n3 c3)
        simp only [List.setIfInBounds_toArray, List.set_cons_zero, List.set_cons_succ] at XB4
        have XR4 := Lib.hid (XR3.out.fr hf34 hbr3)
        have hz2 := F2.out.size
        have F4 := Lib.hid ((F2.out.then_no hd.out.1).trans hf34 (fun k hk hl => by have hk : k = bx := hk; have := HBX.out; omega))
        have f24 : Fr (fun k => k = bx) w2 (wr.setCell ⟨bx, 0, none⟩ (.slice A3 n3 c3)) := (hd.out.1.mono fun b hb _ => hb.elim).trans hf34 (fun k hk _ => hk)
        have hzr := hd.out.1.size
        have hz34 := hf34.size
        have hbx2 := XB2.out.lt
        have hbr2 := XR2.out.lt
        have hR4 : RS (wr.setCell ⟨bx, 0, none⟩ (.slice A3 n3 c3)) (fun k => S k ∨ New w2 (wr.setCell ⟨bx, 0, none⟩ (.slice A3 n3 c3)) k) (.slice A3 n3 c3) (.slice B m d) ⟨s.L.filter (fun m => m.1 != id), s.most, s.wr, s.q⟩ := by
          have hq := (H.out.no (F2.out.then_no hd.out.1)).q
          rw [← HM.out] at hq
          have r0 : RS wr (fun k => S k ∨ New w2 wr k) (.slice A3 n3 c3) (.slice B m d) ⟨s.L.filter (fun m => m.1 != id), s.most, s.wr, s.q⟩ := ⟨own_rm2 (by have := HO3.out; rw [HN3.out] at this ⊢; exact this) (fun k hk => .inr (hd.out.2 k hk)), ints_go hq (Kept.refl _ _) (fun _ h => .inl h), fun k hk => hk.elim (fun g => Nat.lt_of_lt_of_le (H.out.lt k g) (F2.out.then_no hd.out.1).size) (fun g => g.2)⟩
          refine (r0.fr hf34 (fun k hk e => ?_)).more (fun k hk => hk.elim .inl (fun g => .inr ⟨g.1, Nat.lt_of_lt_of_le g.2 hz34⟩)) (fun k hk => hk.elim (fun g => by have := H.out.lt k g; omega) (fun g => g.2))
          have e : k = bx := e
          rcases hk with g | g
          · have := H.out.lt k g; have := HBX.out; omega
          · have := g.1; omega
        have XB4 := Lib.hid XB4
        have R4 := Lib.hid hR4
        have F24 := Lib.hid f24
        clear hR4 f24 hf34 hz34 x0 x1 x2 x3 xf0 xf1 xf2 xf3
        generalize wr.setCell ⟨bx, 0, none⟩ (.slice A3 n3 c3) = w4 at XB4 R4 F24 F4 XR4 ⊢
        have HDR := Lib.hid (Ref29.drop_any _ s.q id w4 _ R4.out.lt R4.out.q HQ.out)
        have XBo := XB4.out
        have x0 := XBo.cell 0
        have x1 := XBo.cell 1
        have x2 := XBo.cell 2
        have x3 := XBo.cell 3
        have xf0 := XBo.frozen 0
        have xf1 := XBo.frozen 1
        have xf2 := XBo.frozen 2
        have xf3 := XBo.frozen 3
        simp only [List.getElem?_toArray, List.getElem?_cons_zero, List.getElem?_cons_succ] at x0 x1 x2 x3
        clear XBo
        go_wp2_with fail
        refine HDR.out.mono ?_
        rintro e w5 ⟨v', rfl, ho5, hf5, hn5⟩
        obtain ⟨B5, d5, rfl⟩ := own_form ho5
        obtain ⟨m5, hm5⟩ : ∃ m5, m5 = (s.q.filter (· != id)).length := ⟨_, rfl⟩
        rw [← hm5] at ho5 hn5 ⊢
        have HM5 := Lib.hid hm5
        have HO5 := Lib.hid ho5
        have HN5 := Lib.hid hn5
        have HF5 := Lib.hid hf5
        have XB5 := Lib.hid (XB4.out.fr hf5 (fun h => h))
        have XR5 := Lib.hid (XR4.out.fr hf5 (fun h => h))
        clear ho5 hn5 hf5 hm5 x0 x1 x2 x3 xf0 xf1 xf2 xf3
        have XBo := XB5.out
        have x0 := XBo.cell 0
        have x1 := XBo.cell 1
        have x2 := XBo.cell 2
        have x3 := XBo.cell 3
        have xf0 := XBo.frozen 0
        have xf1 := XBo.frozen 1
        have xf2 := XBo.frozen 2
        have xf3 := XBo.frozen 3
        simp only [List.getElem?_toArray, List.getElem?_cons_zero, List.getElem?_cons_succ] at x0 x1 x2 x3
        clear XBo
        go_upto_region 11 with (fail)
        have hf56 : Fr (fun k => k = bx) w5 (w5.setCell ⟨bx, 3, none⟩ (.slice B5 m5 d5)) := Fr.setCell (F := fun k => k = bx) (Fr.refl _ _) (p := ⟨bx, 3, none⟩) (.inl rfl) _
        have XB6 := XB5.out.put 3 (.slice B5 m5 d5)
        simp only [List.setIfInBounds_toArray, List.set_cons_zero, List.set_cons_succ] at XB6
        have XR6 := Lib.hid (XR5.out.fr hf56 hbr3)
        have F6 := Lib.hid ((F4.out.then_no HF5.out).trans hf56 (fun k hk hl => by have hk : k = bx := hk; have := HBX.out; omega))
        have z24 := F24.out.size
        have z45 := HF5.out.size
        have z56 := hf56.size
        have hR6 : RS (w5.setCell ⟨bx, 3, none⟩ (.slice B5 m5 d5)) (fun k => S k ∨ New w2 (w5.setCell ⟨bx, 3, none⟩ (.slice B5 m5 d5)) k) (.slice A3 n3 c3) (.slice B5 m5 d5) (gone s id) := by
          have hwf := q_wf H.out.q
          have r4 := R4.out.no HF5.out
          have r5 : RS w5 (fun k => S k ∨ New w2 w5 k) (.slice A3 n3 c3) (.slice B5 m5 d5) (gone s id) := ⟨(RSl.stable RM.stable).go r4.l (Kept.refl _ _) (fun k hk => hk.elim .inl (fun g => .inr ⟨g.1, by have := g.2; omega⟩)), ints_own (l := without s.q id) (by have h5 := HO5.out; rw [HM5.out] at h5 ⊢; exact h5) (fun x hx => hwf x (List.mem_filter.1 hx).1) (fun k hk => .inr ⟨by have := (HN5.out k hk).1; omega, (HN5.out k hk).2⟩), fun k hk => hk.elim (fun g => by have := H.out.lt k g; omega) (fun g => g.2)⟩
          refine (r5.fr hf56 (fun k hk e => ?_)).more (fun k hk => hk.elim .inl (fun g => .inr ⟨g.1, Nat.lt_of_lt_of_le g.2 z56⟩)) (fun k hk => hk.elim (fun g => by have := H.out.lt k g; omega) (fun g => g.2))
          have e : k = bx := e
          rcases hk with g | g
          · have := H.out.lt k g; have := HBX.out; omega
          · have := g.1; omega
        have R6 := Lib.hid hR6
        have XB6 := Lib.hid XB6
        have H26 := Lib.hid (show w2.heap.size ≤ (w5.setCell ⟨bx, 3, none⟩ (.slice B5 m5 d5)).heap.size by omega)
        clear hR6 hf56 z24 z45 z56 x0 x1 x2 x3 xf0 xf1 xf2 xf3
        generalize w5.setCell ⟨bx, 3, none⟩ (.slice B5 m5 d5) = w6 at XB6 R6 F6 XR6 H26 ⊢
        go_upto_region 12 with (fail)
        have hh26 := H26.out
        have hg : w2.heap.size ≤ w6.heap.size ∧ w6.heap.size < (w6.alloc (.cells #[.int .i64 id, .int .i64 0] 79)).heap.size := ⟨H26.out, by simp⟩
        have fl : Fr No w6 (w6.alloc (.cells #[.int .i64 id, .int .i64 0] 79)) := (Fr.refl No w6).alloc _
        have O7 := Lib.hid (lit_own w6 id 0)
        have R7 := Lib.hid (R6.out.no fl)
        have XB7 := Lib.hid (XB6.out.fr fl (fun h => h))
        have XR7 := Lib.hid (XR6.out.fr fl (fun h => h))
        have F7 := Lib.hid (F6.out.then_no fl)
        have HSB := Lib.hid (show ∀ k, (S k ∨ New w2 w6 k) → (S k ∨ New w (w6.alloc (.cells #[.int .i64 id, .int .i64 0] 79)) k) ∧ k ≠ br from fun k hk => by
          rcases hk with g | g
          · exact ⟨.inl g, by have := H.out.lt k g; have := HBL.out; omega⟩
          · exact ⟨.inr ⟨by have := g.1; omega, by have := g.2; omega⟩, by have := g.1; omega⟩)
        generalize w6.alloc (.cells #[.int .i64 id, .int .i64 0] 79) = w7 at O7 R7 XB7 XR7 F7 HSB hg fl ⊢
        have HG0 := Lib.hid (show w.heap.size ≤ w6.heap.size by omega)
        have HGL := Lib.hid hg.2
        have hrl6 := XR6.out.lt
        have HGB := Lib.hid (show w6.heap.size ≠ br by omega)
        cases hc : decide (s.wr = id)
        · have HE2 := Lib.hid (HE.out.2 hc)
          have hwe : (wi != id) = true := by rw [HWR.out]; simpa using hc
          have XBo := XB7.out
          have x0 := XBo.cell 0
          have x1 := XBo.cell 1
          have x2 := XBo.cell 2
          have x3 := XBo.cell 3
          have xf0 := XBo.frozen 0
          have xf1 := XBo.frozen 1
          have xf2 := XBo.frozen 2
          have xf3 := XBo.frozen 3
          simp only [List.getElem?_toArray, List.getElem?_cons_zero, List.getElem?_cons_succ] at x0 x1 x2 x3
          have XRo := XR7.out
          have r0 := XRo.cell 0
          have r1 := XRo.cell 1
          have r2 := XRo.cell 2
          have r3 := XRo.cell 3
          have rf0 := XRo.frozen 0
          have rf1 := XRo.frozen 1
          have rf2 := XRo.frozen 2
          have rf3 := XRo.frozen 3
          simp only [List.getElem?_toArray, List.getElem?_cons_zero, List.getElem?_cons_succ] at r0 r1 r2 r3
          clear XBo XRo
          go_wp2_with fail
          have rt := rt_of (br := br) (c := 0) (S := S) (l := [(id, 0)]) F7.out HBL.out R7.out HSB.out H.out.lt O7.out (fun k hk => by
            have := of_some hk
            subst this
            exact ⟨⟨HG0.out, HGL.out⟩, HGB.out⟩) (.slice A3 n3 c3) (.int .i64 ms) (.int .i64 wi) (.slice B5 m5 d5)
          rw [show agS (.slice A3 n3 c3) (.slice B5 m5 d5) (gone s id) = .agg #[.slice A3 n3 c3, .int .i64 ms, .int .i64 wi, .slice B5 m5 d5] by rw [HMS.out, HWR.out]; rfl] at rt
          rw [HE2.out]
          have b9 := (((XR7.out.put 0 (.slice A3 n3 c3)).put 1 (.int .i64 ms)).put 2 (.int .i64 wi)).put 3 (.slice B5 m5 d5)
          simp only [List.setIfInBounds_toArray, List.set_cons_zero, List.set_cons_succ] at b9
          have e0 := b9.cell 0
          have e1 := b9.cell 1
          have e2 := b9.cell 2
          have e3 := b9.cell 3
          simp only [List.getElem?_toArray, List.getElem?_cons_zero, List.getElem?_cons_succ] at e0 e1 e2 e3
          refine bodyPost_ret (v := .tuple #[.agg #[.slice A3 n3 c3, .int .i64 ms, .int .i64 wi, .slice B5 m5 d5], .slice (some ⟨w6.heap.size, 0, none⟩) 1 1, .int .i64 0]) ?_ rfl rt
          clear b9
          simp [results, Try.f63, go_sem, e0, e1, e2, e3]
        · have HE2 := Lib.hid (HE.out.1 hc)
          have hwe : (wi != id) = false := by rw [HWR.out]; simpa using hc
          have hnx := rnext_any (l0 := [(id, 0)]) R7.out (by show (without s.q id).length ≤ 4096; exact Nat.le_trans (List.length_filter_le _ _) HQ.out) O7.out (fun k hk g => by
            have := of_some hk
            rcases g with g | g
            · have := H.out.lt k g; have := HG0.out; omega
            · have := g.2; omega) (by simp)
          rw [show agS (.slice A3 n3 c3) (.slice B5 m5 d5) (gone s id) = .agg #[.slice A3 n3 c3, .int .i64 ms, .int .i64 wi, .slice B5 m5 d5] by rw [HMS.out, HWR.out]; rfl] at hnx
          have HNX := Lib.hid hnx
          clear hnx
          have XBo := XB7.out
          have x0 := XBo.cell 0
          have x1 := XBo.cell 1
          have x2 := XBo.cell 2
          have x3 := XBo.cell 3
          have xf0 := XBo.frozen 0
          have xf1 := XBo.frozen 1
          have xf2 := XBo.frozen 2
          have xf3 := XBo.frozen 3
          simp only [List.getElem?_toArray, List.getElem?_cons_zero, List.getElem?_cons_succ] at x0 x1 x2 x3
          clear XBo
          go_wp2_with fail
          clear x0 x1 x2 x3 xf0 xf1 xf2 xf3
          have hgb : w6.heap.size ≠ br := by have := XR6.out.lt; omega
          refine HNX.out.mono ?_
          rintro e w8 ⟨vL, vW, v, rfl, hR, ⟨hv, hvn⟩, hf⟩
          obtain ⟨A8, c8, B8, d8, rfl, rfl, -⟩ := hR.forms
          obtain ⟨A9, c9, rfl⟩ := own_form hv
          obtain ⟨st, hst⟩ : ∃ st, st = (nextR (gone s id)).1 := ⟨_, rfl⟩
          obtain ⟨l8, hl8⟩ : ∃ l8, l8 = (nextR (gone s id)).2 := ⟨_, rfl⟩
          simp only [← hst, ← hl8] at hR hv hvn ⊢
          obtain ⟨n8, hn8⟩ : ∃ n8, n8 = st.L.length := ⟨_, rfl⟩
          obtain ⟨m8, hm8⟩ : ∃ m8, m8 = st.q.length := ⟨_, rfl⟩
          obtain ⟨k8, hk8⟩ : ∃ k8, k8 = ([(id, 0)] ++ l8).length := ⟨_, rfl⟩
          obtain ⟨wr8, hwr8⟩ : ∃ wr8, wr8 = st.wr := ⟨_, rfl⟩
          obtain ⟨ms8, hms8⟩ : ∃ ms8, ms8 = st.most := ⟨_, rfl⟩
          rw [show agS (.slice A8 st.L.length c8) (.slice B8 st.q.length d8) st = .agg #[.slice A8 n8 c8, .int .i64 ms8, .int .i64 wr8, .slice B8 m8 d8] by rw [hn8, hm8, hwr8, hms8], ← hk8]
          rw [← hn8, ← hm8] at hR
          rw [← hk8] at hv hvn
          have HR8 := Lib.hid hR
          have HV8 := Lib.hid hv
          have HVN8 := Lib.hid hvn
          have HF8 := Lib.hid hf
          have HST := Lib.hid (And.intro hst (And.intro hl8 (And.intro hwr8 (And.intro hms8 hk8))))
          have XR8 := Lib.hid (XR7.out.fr hf (fun e => hgb (of_some e).symm))
          clear hR hv hvn hf hst hl8 hn8 hm8 hk8 hwr8 hms8
          have XRo := XR8.out
          have r0 := XRo.cell 0
          have r1 := XRo.cell 1
          have r2 := XRo.cell 2
          have r3 := XRo.cell 3
          have rf0 := XRo.frozen 0
          have rf1 := XRo.frozen 1
          have rf2 := XRo.frozen 2
          have rf3 := XRo.frozen 3
          simp only [List.getElem?_toArray, List.getElem?_cons_zero, List.getElem?_cons_succ] at r0 r1 r2 r3
          clear XRo
          go_wp2_with fail
          obtain ⟨g1, g2, g3, g4, g5⟩ := HST.out
          have hv8 := HV8.out
          rw [g5] at hv8
          have hvn8 := HVN8.out
          rw [g5] at hvn8
          have rt := rt_next (S := S) (id := id) (r := 0) (l := l8) F7.out HBL.out XR7.out.lt HG0.out HGL.out hgb HSB.out H.out.lt HR8.out hv8 hvn8 HF8.out (.slice A8 n8 c8) (.int .i64 ms8) (.int .i64 wr8) (.slice B8 m8 d8)
          rw [show agS (.slice A8 n8 c8) (.slice B8 m8 d8) st = .agg #[.slice A8 n8 c8, .int .i64 ms8, .int .i64 wr8, .slice B8 m8 d8] by rw [g3, g4], ← g5] at rt
          rw [HE2.out, ← g1, ← g2]
          have b9 := (((XR8.out.put 0 (.slice A8 n8 c8)).put 1 (.int .i64 ms8)).put 2 (.int .i64 wr8)).put 3 (.slice B8 m8 d8)
          simp only [List.setIfInBounds_toArray, List.set_cons_zero, List.set_cons_succ] at b9
          have e0 := b9.cell 0
          have e1 := b9.cell 1
          have e2 := b9.cell 2
          have e3 := b9.cell 3
          simp only [List.getElem?_toArray, List.getElem?_cons_zero, List.getElem?_cons_succ] at e0 e1 e2 e3
          refine bodyPost_ret (v := .tuple #[.agg #[.slice A8 n8 c8, .int .i64 ms8, .int .i64 wr8, .slice B8 m8 d8], .slice A9 k8 c9, .int .i64 0]) ?_ rfl rt
          clear b9
          simp [results, Try.f63, go_sem, e0, e1, e2, e3]
end
end Seat
end Go.Proofs.Ytepnjmgacfjhiaa
