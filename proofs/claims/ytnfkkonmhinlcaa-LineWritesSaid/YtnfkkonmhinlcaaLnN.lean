/- Package line: out, goOn. Printed by gen_lnn.py. -/
import Derived.Test.YtnfkkonmhinlcaaLnM
import Derived.Test.YtnfkkonmhinlcaaLnQ
namespace Go.Proofs.Ytnfkkonmhinlcaa
open Go.RowKit
set_option linter.unusedVariables false
set_option linter.unusedSimpArgs false
namespace Ln
open Run (O ROp timesR endsR dueT nextT chk chkR Fit)
section
variable {w w' W : World} {G G' : Nat → Prop} {g gw : Nat} {vF rp vh : Value} {Gr : Nat → Prop} {s s' : S}
set_option maxRecDepth 100000 in
set_option maxHeartbeats 2000000 in
theorem out_any (k : Int) (t : Str) (n : Int) (w : World) : Calls Try.prog 29 #[.agg #[.int .i64 k, .string ⟨t.toArray⟩, .int .i64 n]] w fun e w' => e = .returned (.agg #[.int .i64 (outO (k, t, n)).1, .string ⟨(outO (k, t, n)).2.toArray⟩]) ∧ Fr No w w' := by
  have XB := Lib.hid ((Blk.new w 69 #[.int .i64 k, .string ⟨t.toArray⟩, .int .i64 n]).alloc (.cells #[.int .i64 0, .string ⟨#[]⟩] 65))
  have XR := Blk.new (w.alloc (.cells #[.int .i64 k, .string ⟨t.toArray⟩, .int .i64 n] 69)) 65 #[.int .i64 0, .string ⟨#[]⟩]
  have F1 := Lib.hid (((Fr.refl No w).alloc (.cells #[.int .i64 k, .string ⟨t.toArray⟩, .int .i64 n] 69)).alloc (.cells #[.int .i64 0, .string ⟨#[]⟩] 65))
  rw [size_alloc] at XR
  have XR := Lib.hid XR
  obtain ⟨bx, hbx⟩ : ∃ bx, w.heap.size = bx := ⟨_, rfl⟩
  obtain ⟨br, hbr⟩ : ∃ br, bx + 1 = br := ⟨_, rfl⟩
  rw [hbx] at XB XR
  rw [hbr] at XR
  have HBX := Lib.hid hbx
  have HBR := Lib.hid hbr
  by_cases h3 : k = 3
  · subst h3
    have HE := Lib.hid (show outO (3, t, n) = (4, []) from rfl)
    go_enter Try.func29, Try.ntmps29
    go_upto_region 1 with (fail)
    generalize (w.alloc (.cells #[.int .i64 3, .string ⟨t.toArray⟩, .int .i64 n] 69)).alloc (.cells #[.int .i64 0, .string ⟨#[]⟩] 65) = w1 at XB XR F1 ⊢
    have hbc : br ≠ bx := by omega
    have hbb : bx ≠ br := by omega
    clear hbx hbr
    have hbl := XR.out.lt
    have hbd : br ≠ w1.heap.size := by omega
    have hbm := XB.out.lt
    have hbe : bx ≠ w1.heap.size := by omega
    have xo := XB.out
    have x0 := xo.cell 0
    have xf0 := xo.frozen 0
    have x1 := xo.cell 1
    have xf1 := xo.frozen 1
    have x2 := xo.cell 2
    have xf2 := xo.frozen 2
    simp only [List.getElem?_toArray, List.getElem?_cons_zero, List.getElem?_cons_succ] at x0 x1 x2
    clear xo
    have ro := XR.out
    have r0 := ro.cell 0
    have rf0 := ro.frozen 0
    have r1 := ro.cell 1
    have rf1 := ro.frozen 1
    simp only [List.getElem?_toArray, List.getElem?_cons_zero, List.getElem?_cons_succ] at r0 r1
    clear ro
    go_wp2_with fail
    have b9 := (XR.out.put 0 (.int .i64 4)).put 1 (.string ⟨#[]⟩)
    simp only [List.setIfInBounds_toArray, List.set_cons_zero, List.set_cons_succ] at b9
    have e0 := b9.cell 0
    have e1 := b9.cell 1
    simp only [List.getElem?_toArray, List.getElem?_cons_zero, List.getElem?_cons_succ] at e0 e1
    have hbv : w.heap.size ≤ br := by have := HBX.out; have := HBR.out; omega
    refine bodyPost_ret (v := .agg #[.int .i64 4, .string ⟨#[]⟩]) ?_ rfl ?_
    · simp [results, Try.f29, go_sem, e0, e1]
    · refine ⟨by rw [HE.out], ?_⟩
      exact Fr.setCell (p := ⟨br, 1, none⟩) (Fr.setCell (p := ⟨br, 0, none⟩) F1.out (.inr hbv) _) (.inr hbv) _
  · have HE := Lib.hid (show outO (k, t, n) = (3, t) from if_neg h3)
    have g3 : (k == 3) = false := by simpa using h3
    clear h3
    go_enter Try.func29, Try.ntmps29
    go_upto_region 1 with (fail)
    generalize (w.alloc (.cells #[.int .i64 k, .string ⟨t.toArray⟩, .int .i64 n] 69)).alloc (.cells #[.int .i64 0, .string ⟨#[]⟩] 65) = w1 at XB XR F1 ⊢
    have hbc : br ≠ bx := by omega
    have hbb : bx ≠ br := by omega
    clear hbx hbr
    have hbl := XR.out.lt
    have hbd : br ≠ w1.heap.size := by omega
    have hbm := XB.out.lt
    have hbe : bx ≠ w1.heap.size := by omega
    have xo := XB.out
    have x0 := xo.cell 0
    have xf0 := xo.frozen 0
    have x1 := xo.cell 1
    have xf1 := xo.frozen 1
    have x2 := xo.cell 2
    have xf2 := xo.frozen 2
    simp only [List.getElem?_toArray, List.getElem?_cons_zero, List.getElem?_cons_succ] at x0 x1 x2
    clear xo
    have ro := XR.out
    have r0 := ro.cell 0
    have rf0 := ro.frozen 0
    have r1 := ro.cell 1
    have rf1 := ro.frozen 1
    simp only [List.getElem?_toArray, List.getElem?_cons_zero, List.getElem?_cons_succ] at r0 r1
    clear ro
    go_wp2_with fail
    have b9 := (XR.out.put 0 (.int .i64 3)).put 1 (.string ⟨t.toArray⟩)
    simp only [List.setIfInBounds_toArray, List.set_cons_zero, List.set_cons_succ] at b9
    have e0 := b9.cell 0
    have e1 := b9.cell 1
    simp only [List.getElem?_toArray, List.getElem?_cons_zero, List.getElem?_cons_succ] at e0 e1
    have hbv : w.heap.size ≤ br := by have := HBX.out; have := HBR.out; omega
    refine bodyPost_ret (v := .agg #[.int .i64 3, .string ⟨t.toArray⟩]) ?_ rfl ?_
    · simp [results, Try.f29, go_sem, e0, e1]
    · refine ⟨by rw [HE.out], ?_⟩
      exact Fr.setCell (p := ⟨br, 1, none⟩) (Fr.setCell (p := ⟨br, 0, none⟩) F1.out (.inr hbv) _) (.inr hbv) _
/-- The line behind its sequence's end. -/
theorem LP.over {vh' : Value} {now : Int} (h : LP w G g gw vF rp vh Gr s) (hf : Fr (fun k => k = g ∨ Gr k) w W) (hb : Blk W g 59 (LC gw 4 vF (.pointer none) s.at_ vh')) (hv : vh' = .slice none 0 0 ∨ (vh' = vh ∧ s.held = [])) : LW W G g { s with was := now, st := 4, seq := [], held := [] } := by
  have hnw : ¬ (gw = g ∨ Gr gw) := fun e => by
    rcases e with e | e
    · exact h.hw.2 e
    · exact (h.hr gw e).2.2 rfl
  refine h.rest hf (fun k hk => hk.elim .inl (fun e => .inr (.inr (.inl e)))) rfl hb (wat_far h.wait hf hnw) (by simp [busy]) ?_ ?_
  · rcases hv with rfl | ⟨rfl, e⟩
    · exact World.ownsRow_nil _ _ _ _
    · have := own_fr h.held hf (fun k hk g => by
        obtain ⟨a1, a2, a3, a4⟩ := h.hh k hk
        rcases g with g | g
        · exact a2 g
        · exact a4 g)
      rw [e] at this
      exact this
  · rcases hv with rfl | ⟨rfl, e⟩
    · intro k hk; cases hk
    · exact fun k hk => hk
theorem lact_row {wr : World} {v : Value} {acc : List U} {k : Nat} {F : Nat → Prop} (hl : LW W G g s') (hk : k = acc.length) (ho : wr.ownsRow 0 65 2 v k (acc.flatMap encU)) (hn : ∀ z, Of v z → New w wr z ∧ ¬ G z) (hf2 : Fr (fun k => k = g) wr W) (hg : G g) (hF : Fr F w wr) (hFG : ∀ k, F k → G k) : LAct w G g s' acc id (.returned v) W := by
  subst hk
  refine ⟨v, G, rfl, hl, ⟨own_fr ho hf2 (fun z hz e => (hn z hz).2 (by rw [e]; exact hg)), fun z hz => ⟨⟨(hn z hz).1.1, Nat.lt_of_lt_of_le (hn z hz).1.2 hf2.size⟩, (hn z hz).2⟩⟩, ⟨(hF.mono (fun b hb _ => hFG b hb)).trans hf2 (fun b hb _ => by rw [hb]; exact hg), fun k hk => .inl hk⟩⟩
set_option maxRecDepth 100000 in
set_option maxHeartbeats 2000000 in
theorem goOn_any (h : LW w G g s) (hb : busy s = true) (hft : Fit s.seq s.start) (now : Int) (hn : 0 ≤ now ∧ now ≤ 1099511627776) (hw : s.was ≤ now) (hlen : s.held.length ≤ 4096) : Calls Try.prog 36 #[.pointer (some ⟨g, 0, none⟩), .int .i64 now] w (LAct w G g (goOnS s now).1 (goOnS s now).2 id) := by
  obtain ⟨gw, vF, rp, vh, Gr, h⟩ := h
  have HP := Lib.hid h
  have hgw : gw ≠ g := h.hw.2
  have hgl : g < w.heap.size := h.lt g h.hg
  have hgl2 : g ≠ w.heap.size := by omega
  obtain ⟨gr, rfl, hrw⟩ := h.run hb
  have HR := Lib.hid hrw
  have HFT := Lib.hid hft
  have HB := Lib.hid hb
  have HLN := Lib.hid hlen
  have SA := Lib.hid (Run.step_any w Gr gr s.seq s.start s.was now hft hrw hw (by omega))
  have hgr : Gr gr := hrw.has.1
  have hgrg : gr ≠ g := (h.hr gr hgr).2.1
  obtain ⟨A5, cc5, hv5⟩ := h.bytes
  subst hv5
  obtain ⟨hl5, hhl⟩ : ∃ hl5, hl5 = s.held.length := ⟨_, rfl⟩
  have HHL := Lib.hid hhl
  rw [← hhl] at h HP
  clear hrw hft hb hlen hhl
  have co := h.blk
  have c0 := co.cell 0
  have c1 := co.cell 1
  have c2 := co.cell 2
  have c3 := co.cell 3
  have c4 := co.cell 4
  have c5 := co.cell 5
  have c6 := co.cell 6
  have cf0 := co.frozen 0
  have cf1 := co.frozen 1
  have cf2 := co.frozen 2
  have cf3 := co.frozen 3
  have cf4 := co.frozen 4
  have cf5 := co.frozen 5
  have cf6 := co.frozen 6
  simp only [List.getElem?_toArray, List.getElem?_cons_zero, List.getElem?_cons_succ] at c0 c1 c2 c3 c4 c5 c6
  clear co
  clear h
  go_enter Try.func36, Try.ntmps36
  go_wp2_with fail
  refine SA.out.mono ?_
  rintro e w2 ⟨A2, cc2, rfl, ho, hr2, hf2⟩
  obtain ⟨D, hD⟩ : ∃ D, D = dueT s.was now (timesR s.start s.seq) := ⟨_, rfl⟩
  have hdl : D.length ≤ 1000 := by
    have h1 := due_len s.was now (timesR s.start s.seq)
    rw [Run.times_len] at h1
    have h2 := HFT.out.len
    rw [hD]
    exact Nat.le_trans h1 h2
  rw [← hD] at ho ⊢
  obtain ⟨nd, hnd⟩ : ∃ nd, nd = D.length := ⟨_, rfl⟩
  have HD := Lib.hid hD
  have HND := Lib.hid hnd
  have HO := Lib.hid ho
  have HR2 := Lib.hid hr2
  have F2 := Lib.hid hf2
  have hnew : ∀ b, Of (.slice A2 D.length cc2) b → w.heap.size ≤ b ∧ b < w2.heap.size := fun b hb => ho.lt b hb
  have HNEW := Lib.hid hnew
  have HWF := Lib.hid (show ∀ x ∈ D, Run.wfO x from fun x hx => HFT.out.wf x (due_mem (by rw [← HD.out]; exact hx)))
  have hops := Run.own_ops (l := D) ho HWF.out
  obtain ⟨A3, cc3, hv3, hc3, hc4, hel⟩ := Run.op_cells hops
  injection hv3 with q1 q2 q3
  subst q1 q3
  have HEL := Lib.hid hel
  clear hops hc3 hc4 hel q2 hnew ho hr2 hf2 hD
  rw [← hnd] at hdl ⊢
  clear hnd
  have hw2s : w.heap.size ≤ w2.heap.size := F2.out.size
  clear c0 c1 c2 c3 c4 c5 c6 cf0 cf1 cf2 cf3 cf4 cf5 cf6
  have P2 := Lib.hid (show Blk w2 g _ _ from HP.out.blk.fr F2.out (fun e => hgrg e.symm))
  have hgl3 : g < w2.heap.size := by omega
  go_wp2_with fail
  go_loopw [5, 15] (fun ov iv wr => ∃ (k : Nat) (acc : List U), iv = .int .i64 k ∧ k ≤ nd ∧ Hid (acc = (D.take k).map outO) ∧ Hid (wr.ownsRow 0 65 2 ov k (acc.flatMap encU) ∧ Step No w2 (Of ov) wr)) (fun _ i _ => nd - (intOf i).toNat)
  case atStart => exact ⟨0, [], rfl, by omega, rfl, World.ownsRow_nil _ _ _ _, Step.refl _ _ |>.1, fun k hk => (by cases hk)⟩
  case round =>
    obtain ⟨k, acc, rfl, hk, HA, hw⟩ := hrel
    by_cases hlt : k < nd
    · have hlt2 : k < D.length := by rw [← HND.out]; exact hlt
      obtain ⟨ad, rfl, hS, k1, k2, k3, -⟩ := HEL.out k hlt2
      have hS2 : ad.block < w2.heap.size := (HNEW.out _ hS).2
      have HF := Lib.hid hw.out.2.1
      have HOW := Lib.hid hw.out.1
      have HON := Lib.hid hw.out.2.2
      have HSW := Lib.hid hw.out.2
      obtain ⟨A4, cc4, hov⟩ := own_form HOW.out
      subst hov
      have p1 := (HF.out.cell (p := ad.add (k * 3)) (by rw [block_add]; exact hS2) (fun h => h)).trans k1
      have p2 := (HF.out.cell (p := ⟨(ad.add (k * 3)).block, (ad.add (k * 3)).off + 1, none⟩) (by show (ad.add (k * 3)).block < _; rw [block_add]; exact hS2) (fun h => h)).trans k2
      have p3 := (HF.out.cell (p := ⟨(ad.add (k * 3)).block, (ad.add (k * 3)).off + 2, none⟩) (by show (ad.add (k * 3)).block < _; rw [block_add]; exact hS2) (fun h => h)).trans k3
      have HT := Lib.hid (show (D.take (k + 1)).map outO = acc ++ [outO D[k]] by rw [out_take hlt2, HA.out])
      obtain ⟨y, hy⟩ : ∃ y, y = D[k] := ⟨_, rfl⟩
      rw [← hy] at p1 p2 p3 HT
      obtain ⟨yk, ys, yn⟩ := y
      simp only at p1 p2 p3
      have P3 := Lib.hid (P2.out.fr HF.out (fun h => h))
      have hgl4 : g < wr.heap.size := P3.out.lt
      clear hy k1 k2 k3 hw HA
      have hgl5 : g ≠ wr.heap.size := by omega
      have hab : ad.block < wr.heap.size := Nat.lt_of_lt_of_le hS2 HF.out.size
      have co := P3.out
      have c0 := co.cell 0
      have c1 := co.cell 1
      have c2 := co.cell 2
      have c3 := co.cell 3
      have c4 := co.cell 4
      have c5 := co.cell 5
      have c6 := co.cell 6
      have cf0 := co.frozen 0
      have cf1 := co.frozen 1
      have cf2 := co.frozen 2
      have cf3 := co.frozen 3
      have cf4 := co.frozen 4
      have cf5 := co.frozen 5
      have cf6 := co.frozen 6
      simp only [List.getElem?_toArray, List.getElem?_cons_zero, List.getElem?_cons_succ] at c0 c1 c2 c3 c4 c5 c6
      clear co
      go_upto_region 5 with (fail)
      clear c0 c1 c2 c3 c4 c5 c6 cf0 cf1 cf2 cf3 cf4 cf5 cf6
      clear p1 p2 p3
      obtain ⟨bx, hbx⟩ : ∃ bx, wr.heap.size = bx := ⟨_, rfl⟩
      have XB := Lib.hid (Blk.new wr 69 #[.int .i64 yk, .string ⟨ys.toArray⟩, .int .i64 yn])
      have FX := Lib.hid ((Fr.refl No wr).alloc (.cells #[.int .i64 yk, .string ⟨ys.toArray⟩, .int .i64 yn] 69))
      rw [hbx] at XB ⊢
      generalize wr.alloc (.cells #[.int .i64 yk, .string ⟨ys.toArray⟩, .int .i64 yn] 69) = wx at XB FX ⊢
      have OWX := Lib.hid (fun (X : World) (hX : Fr No wx X) => own_fr HOW.out (FX.out.then_no hX) (fun _ _ h => h))
      have HK := Lib.hid (fun (X : World) (hX : Fr No wx X) => (show X.cell? ⟨g, 6, none⟩ = some FV ∧ X.cell? ⟨bx, 0, none⟩ = some (.int .i64 yk) ∧ X.cell? ⟨bx, 1, none⟩ = some (.string ⟨ys.toArray⟩) ∧ X.cell? ⟨bx, 2, none⟩ = some (.int .i64 yn) from by
        have a := (P3.out.fr (FX.out.then_no hX) (fun h => h)).cell 6
        have b := XB.out.fr hX (fun h => h)
        have b0 := b.cell 0
        have b1 := b.cell 1
        have b2 := b.cell 2
        simp only [List.getElem?_toArray, List.getElem?_cons_zero, List.getElem?_cons_succ] at a b0 b1 b2
        exact ⟨a, b0, b1, b2⟩))
      have HK6 := Lib.hid (fun (X Y : World) (hX : Fr No wx X) (hY : Fr (Of (.slice A4 k cc4)) X Y) => (show Y.cell? ⟨g, 6, none⟩ = some FV ∧ Y.cell? ⟨bx, 0, none⟩ = some (.int .i64 yk) ∧ Y.cell? ⟨bx, 1, none⟩ = some (.string ⟨ys.toArray⟩) ∧ Y.cell? ⟨bx, 2, none⟩ = some (.int .i64 yn) from by
        have hng : ¬ Of (.slice A4 k cc4) g := fun h => by have := (HON.out g h).elim (fun g => g.elim) (fun g => g.1); omega
        have hnb : ¬ Of (.slice A4 k cc4) bx := fun h => by have := (HON.out bx h).elim (fun g => g.elim) (fun g => g.2); omega
        have a := ((P3.out.fr (FX.out.then_no hX) (fun h => h)).fr hY hng).cell 6
        have b := (XB.out.fr hX (fun h => h)).fr hY hnb
        have b0 := b.cell 0
        have b1 := b.cell 1
        have b2 := b.cell 2
        simp only [List.getElem?_toArray, List.getElem?_cons_zero, List.getElem?_cons_succ] at a b0 b1 b2
        exact ⟨a, b0, b1, b2⟩))
      obtain ⟨kx0, kx1, kx2, kx3⟩ := HK.out wx (Fr.refl _ _)
      obtain ⟨oa, ob, hout⟩ : ∃ oa ob, outO (yk, ys, yn) = (oa, ob) := ⟨_, _, rfl⟩
      have OUT := fun W => out_any yk ys yn W
      rw [hout] at OUT
      have OUT := Lib.hid OUT
      have HOUT := Lib.hid hout
      clear hout
      go_region_held3 (fun X => X.cell? ⟨g, 6, none⟩ = some FV ∧ X.cell? ⟨bx, 0, none⟩ = some (.int .i64 yk) ∧ X.cell? ⟨bx, 1, none⟩ = some (.string ⟨ys.toArray⟩) ∧ X.cell? ⟨bx, 2, none⟩ = some (.int .i64 yn)) (first | (refine HK.out _ ?_; (repeat' (first | with_reducible assumption | with_reducible exact Fr.refl _ _ | with_reducible refine Fr.drew ?_ | with_reducible refine Fr.alloc ?_ _)); done) | (refine ⟨?_, ?_, ?_, ?_⟩ <;> with_reducible assumption)) (first | (go_at_call 29; refine (OUT.out _).mono ?_; rintro e w3 ⟨rfl, hf3⟩; have h3x : Fr No wx w3 := (show Fr No wx _ from by first | with_reducible exact Fr.refl _ _ | with_reducible exact (Fr.refl _ _).drew).then_no hf3; clear hf3) | ((first | (refine step_pushD rfl (.tmp 19) (.tmp 26) 30 rfl 65 (.agg #[.int .i64 0, .string ByteArray.empty]) 2 24 Try.underlying30 infoU rfl (by decide) (.slice A4 k cc4) k (acc.flatMap encU) (by simp [Act.eval, Act.put]) (OWX.out _ (by first | with_reducible assumption | with_reducible exact Fr.drew (by with_reducible assumption))) #[.int .i64 oa, .string ⟨ob.toArray⟩] (by simp [Act.eval, Act.put]) rfl (by intro u hu; simp at hu; rcases hu with rfl | rfl <;> rfl) (by omega) (by unfold maxLen; omega) ?_) | (refine step_push rfl (.tmp 19) (.tmp 26) 30 rfl 65 (.agg #[.int .i64 0, .string ByteArray.empty]) 2 24 Try.underlying30 infoU rfl (by decide) (.slice A4 k cc4) k (acc.flatMap encU) (by simp [Act.eval, Act.put]) (OWX.out _ (by first | with_reducible assumption | with_reducible exact Fr.drew (by with_reducible assumption))) #[.int .i64 oa, .string ⟨ob.toArray⟩] (by simp [Act.eval, Act.put]) rfl (by intro u hu; simp at hu; rcases hu with rfl | rfl <;> rfl) (by omega) (by unfold maxLen; omega) ?_)); intro g6 cap6 w6 q1 q2 q3; obtain ⟨j0, j1, j2, j3⟩ := HK6.out _ _ (by first | with_reducible assumption | with_reducible exact Fr.drew (by with_reducible assumption)) q2; have Q1 := Lib.hid q1; have Q2 := Lib.hid (push_step (n := k + 1) (c := cap6) HSW.out (FX.out.then_no (by first | with_reducible assumption | with_reducible exact Fr.drew (by with_reducible assumption))) q2 q3); clear q1 q2 q3))
      clear j0 j1 j2 j3 kx0 kx1 kx2 kx3
      go_wp2_with fail
      go_roundw
      case rel =>
        refine ⟨k + 1, acc ++ [outO (yk, ys, yn)], by go_num, by omega, HT.out.symm, ?_, Q2.out⟩
        rw [List.flatMap_append, HOUT.out]
        exact Q1.out
      case measure => simp [intOf]; omega
    · have hkn : k = nd := by omega
      subst hkn
      have HAD := Lib.hid (show acc = dueS s now by rw [HA.out, List.take_of_length_le (by rw [← HND.out]; omega), HD.out]; rfl)
      have HOW := Lib.hid hw.out.1
      have HSW := Lib.hid hw.out.2
      obtain ⟨A4, cc4, hov⟩ := own_form HOW.out
      subst hov
      have P3 := Lib.hid (P2.out.fr HSW.out.1 (fun h => h))
      have HR3 := Lib.hid (HR2.out.fr HSW.out.1)
      have F3 := Lib.hid (show Fr Gr w wr from (F2.out.mono (fun b hb _ => by rw [hb]; exact hgr)).then_no HSW.out.1)
      have hgl4 : g < wr.heap.size := P3.out.lt
      have HBN := Lib.hid (show ∀ z, Of (.slice A4 k cc4) z → New w wr z ∧ ¬ G z from fun z hz => by
        have h1 := (HSW.out.2 z hz).elim (fun g => g.elim) (fun g => g)
        exact ⟨⟨by have := h1.1; omega, h1.2⟩, fun hg => by have := HP.out.lt z hg; have := h1.1; omega⟩)
      have HKL := Lib.hid (show k = acc.length by rw [HAD.out]; unfold dueS; rw [List.length_map, ← HD.out, ← HND.out])
      have DN := Lib.hid (Run.rdone_any wr Gr gr s.seq s.start now HR3.out)
      clear hw HA
      by_cases hov : endsR s.start s.seq ≤ now
      · have HE : Hid (goOnS s now = ({ s with was := now, st := 4, seq := [], held := [] }, acc ++ tailS s)) := by
          show _ = _
          unfold goOnS
          rw [if_pos (show overS s now = true from decide_eq_true hov), HAD.out]
        rw [decide_eq_true hov] at DN
        clear hov
        have co := P3.out
        have c0 := co.cell 0
        have c1 := co.cell 1
        have c2 := co.cell 2
        have c3 := co.cell 3
        have c4 := co.cell 4
        have c5 := co.cell 5
        have c6 := co.cell 6
        have cf0 := co.frozen 0
        have cf1 := co.frozen 1
        have cf2 := co.frozen 2
        have cf3 := co.frozen 3
        have cf4 := co.frozen 4
        have cf5 := co.frozen 5
        have cf6 := co.frozen 6
        simp only [List.getElem?_toArray, List.getElem?_cons_zero, List.getElem?_cons_succ] at c0 c1 c2 c3 c4 c5 c6
        clear co
        by_cases hh : s.held = []
        · have hh5 : hl5 = 0 := by rw [HHL.out, hh]; rfl
          have HT := Lib.hid (show tailS s = [] from if_pos hh)
          have HH := Lib.hid hh
          subst hh5
          clear hh
          go_wp2_with (go_at_call 57; refine DN.out.mono ?_; rintro e w3 ⟨rfl, rfl⟩)
          clear c0 c1 c2 c3 c4 c5 c6 cf0 cf1 cf2 cf3 cf4 cf5 cf6
          go_ret
          rw [HE.out, HT.out, List.append_nil]
          have b9 := (P3.out.put 1 (.int .i64 4)).put 3 (.pointer none)
          simp only [List.setIfInBounds_toArray, List.set_cons_zero, List.set_cons_succ] at b9
          have hf9 : Fr (fun k => k = g) wr ((wr.setCell ⟨g, 1, none⟩ (.int .i64 4)).setCell ⟨g, 3, none⟩ (.pointer none)) := fr_put (fr_put (Fr.refl (fun k => k = g) wr) rfl 1 _) rfl 3 _
          exact lact_row (HP.out.over ((F3.out.mono (fun b hb _ => .inr hb)).trans hf9 (fun b hb _ => .inl hb)) b9 (.inr ⟨rfl, HH.out⟩)) HKL.out HOW.out HBN.out hf9 HP.out.hg F3.out (fun k hk => (HP.out.hr k hk).1)
        · have hh5 : 0 < hl5 := by
            rw [HHL.out]
            exact List.length_pos_iff.2 hh
          have HT := Lib.hid (show tailS s = [(3, s.held)] from if_neg hh)
          clear hh
          go_upto_region 10 with (go_at_call 57; refine DN.out.mono ?_; rintro e w3 ⟨rfl, rfl⟩)
          clear c0 c1 c2 c3 c4 c5 c6 cf0 cf1 cf2 cf3 cf4 cf5 cf6
          have b9 := (P3.out.put 1 (.int .i64 4)).put 3 (.pointer none)
          simp only [List.setIfInBounds_toArray, List.set_cons_zero, List.set_cons_succ] at b9
          have P4 := Lib.hid b9
          have F4 := Lib.hid (show Fr (fun k => k = g) wr ((wr.setCell ⟨g, 1, none⟩ (.int .i64 4)).setCell ⟨g, 3, none⟩ (.pointer none)) from fr_put (fr_put (Fr.refl (fun k => k = g) wr) rfl 1 _) rfl 3 _)
          generalize (wr.setCell ⟨g, 1, none⟩ (.int .i64 4)).setCell ⟨g, 3, none⟩ (.pointer none) = wq at P4 F4 ⊢
          clear b9
          have HOW4 := Lib.hid (own_fr HOW.out F4.out (fun z hz e => (HBN.out z hz).2 (by rw [e]; exact HP.out.hg)))
          have HHD4 := Lib.hid (own_fr (own_fr HP.out.held F3.out (fun z hz e => (HP.out.hh z hz).2.2.2 e)) F4.out (fun z hz e => (HP.out.hh z hz).2.1 e))
          have HCV : (convert 56 9 (.slice A5 hl5 cc5)).run Try.prog wq = .ok (.string ⟨s.held.toArray⟩) wq := by
            have := HHD4.out
            rw [HHL.out] at this ⊢
            exact conv_bytes _ _ 5 Try.underlying56 Try.underlying5 Try.underlying9 (own_bytes this)
          obtain ⟨hd, hhd⟩ : ∃ hd, hd = s.held := ⟨_, rfl⟩
          have HHD := Lib.hid hhd
          rw [← hhd] at HCV HT
          clear hhd
          have hgq : g < wq.heap.size := P4.out.lt
          have hgq2 : g ≠ wq.heap.size := by omega
          have co := P4.out
          have c0 := co.cell 0
          have c1 := co.cell 1
          have c2 := co.cell 2
          have c3 := co.cell 3
          have c4 := co.cell 4
          have c5 := co.cell 5
          have c6 := co.cell 6
          have cf0 := co.frozen 0
          have cf1 := co.frozen 1
          have cf2 := co.frozen 2
          have cf3 := co.frozen 3
          have cf4 := co.frozen 4
          have cf5 := co.frozen 5
          have cf6 := co.frozen 6
          simp only [List.getElem?_toArray, List.getElem?_cons_zero, List.getElem?_cons_succ] at c0 c1 c2 c3 c4 c5 c6
          clear co
          go_wp2_with (at_builtin; go_loud (refine wp_push rfl (.tmp 48) (.tmp 55) 30 rfl 65 (.agg #[.int .i64 0, .string ByteArray.empty]) 2 24 Try.underlying30 infoU rfl (by decide) _ _ _ rfl HOW4.out #[.int .i64 3, .string ⟨hd.toArray⟩] rfl rfl (by intro u hu; simp at hu; rcases hu with rfl | rfl <;> rfl) (by omega) (by unfold maxLen; omega) ?_; intro g6 cap6 w6 q1 q2 q3; have Q1 := Lib.hid q1; have Q2 := Lib.hid q2; have Q3 := Lib.hid q3; clear q1 q2 q3; clear c0 c1 c2 c3 c4 c5 c6 cf0 cf1 cf2 cf3 cf4 cf5 cf6; have P6 := Lib.hid (P4.out.fr Q2.out (fun h => (HBN.out g h).2 HP.out.hg)); have co := P6.out; have c0 := co.cell 0; have c1 := co.cell 1; have c2 := co.cell 2; have c3 := co.cell 3; have c4 := co.cell 4; have c5 := co.cell 5; have c6 := co.cell 6; have cf0 := co.frozen 0; have cf1 := co.frozen 1; have cf2 := co.frozen 2; have cf3 := co.frozen 3; have cf4 := co.frozen 4; have cf5 := co.frozen 5; have cf6 := co.frozen 6; simp only [List.getElem?_toArray, List.getElem?_cons_zero, List.getElem?_cons_succ] at c0 c1 c2 c3 c4 c5 c6; clear co))
          clear c0 c1 c2 c3 c4 c5 c6 cf0 cf1 cf2 cf3 cf4 cf5 cf6
          go_ret
          rw [HE.out, HT.out]
          have b9 := P6.out.put 5 (.slice none 0 0)
          simp only [List.setIfInBounds_toArray, List.set_cons_zero, List.set_cons_succ] at b9
          have hf9 : Fr (fun k => k = g) w6 (w6.setCell ⟨g, 5, none⟩ (.slice none 0 0)) := fr_put (Fr.refl (fun k => k = g) w6) rfl 5 _
          have F34 : Fr (fun k => k = g ∨ Gr k) w wq := (F3.out.mono (fun b hb _ => .inr hb)).trans F4.out (fun b hb _ => .inl hb)
          have F6 : Fr (fun k => k = g ∨ Gr k) w w6 := F34.trans Q2.out (fun b hb hl => by have := (HBN.out b hb).1.1; omega)
          have hn6 : ∀ z, Of (.slice (some ⟨g6, 0, none⟩) (k + 1) cap6) z → New w w6 z ∧ ¬ G z := by
            intro z hz
            have hz : some g6 = some z := hz
            injection hz with hz
            subst hz
            rcases Q3.out with e | e
            · have := HBN.out g6 e
              exact ⟨⟨this.1.1, Nat.lt_of_lt_of_le this.1.2 (Nat.le_trans F4.out.size Q2.out.size)⟩, this.2⟩
            · exact ⟨⟨Nat.le_trans F34.size e.1, e.2⟩, fun hg => by have := HP.out.lt g6 hg; have := F34.size; have := e.1; omega⟩
          refine lact_row (k := k + 1) (HP.out.over (F6.trans hf9 (fun b hb _ => .inl hb)) b9 (.inl rfl)) (by rw [List.length_append, ← HKL.out]; rfl) ?_ hn6 hf9 HP.out.hg F6 (fun k hk => hk.elim (fun e => by rw [e]; exact HP.out.hg) (fun e => (HP.out.hr k e).1))
          rw [List.flatMap_append]
          exact Q1.out
      · have HE : Hid (goOnS s now = ({ s with was := now }, acc)) := by
          show _ = _
          unfold goOnS
          rw [if_neg (show ¬ (overS s now = true) from fun h => hov (of_decide_eq_true h)), HAD.out]
        rw [decide_eq_false hov] at DN
        clear hov
        have co := P3.out
        have c0 := co.cell 0
        have c1 := co.cell 1
        have c2 := co.cell 2
        have c3 := co.cell 3
        have c4 := co.cell 4
        have c5 := co.cell 5
        have c6 := co.cell 6
        have cf0 := co.frozen 0
        have cf1 := co.frozen 1
        have cf2 := co.frozen 2
        have cf3 := co.frozen 3
        have cf4 := co.frozen 4
        have cf5 := co.frozen 5
        have cf6 := co.frozen 6
        simp only [List.getElem?_toArray, List.getElem?_cons_zero, List.getElem?_cons_succ] at c0 c1 c2 c3 c4 c5 c6
        clear co
        go_wp2_with (go_at_call 57; refine DN.out.mono ?_; rintro e w3 ⟨rfl, rfl⟩)
        clear c0 c1 c2 c3 c4 c5 c6 cf0 cf1 cf2 cf3 cf4 cf5 cf6
        go_ret
        rw [HE.out]
        refine lact_row ⟨gw, vF, .pointer (some ⟨gr, 0, none⟩), .slice A5 hl5 cc5, Gr, HP.out.make F3.out (fun z hz => (HP.out.hF z hz).2.2.2.2) (fun _ h => h) (fun z hz => Nat.lt_of_lt_of_le (HP.out.lt z hz) F3.out.size) rfl P3.out (wat_far HP.out.wait F3.out (fun e => (HP.out.hr gw e).2.2 rfl)) (fun _ => ⟨gr, rfl, HR3.out⟩) (fun hb => ?_) (own_fr HP.out.held F3.out (fun z hz => (HP.out.hh z hz).2.2.2)) (fun z hz => .inl hz) (fun z hz => .inl hz) (fun z hz => (HP.out.hh z hz).2.2.2)⟩ HKL.out HOW.out HBN.out (Fr.refl _ _) HP.out.hg F3.out (fun z hz => (HP.out.hr z hz).1)
        have hb1 : busy s = false := hb
        rw [HB.out] at hb1
        cases hb1
end
end Ln
end Go.Proofs.Ytnfkkonmhinlcaa
