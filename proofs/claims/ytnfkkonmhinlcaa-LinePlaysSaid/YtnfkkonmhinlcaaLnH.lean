/- Package line: its reference: goOn. Printed by gen_lnh.py. -/
import Derived.Test.YtnfkkonmhinlcaaMergedC
import Derived.Test.YtnfkkonmhinlcaaRunDue
import Derived.Test.YtnfkkonmhinlcaaMergedB
namespace Go.Proofs.Ytnfkkonmhinlcaa
open Go.RowKit
set_option linter.unusedVariables false
set_option linter.unusedSimpArgs false
namespace Ln
open Run (O ROp timesR endsR dueT nextT chk chkR Fit)
section
variable {w w' : World} {S0 : Nat → Prop} {vF vL : Value} {s : S}
theorem outs_keep {w w5 W : World} {F : Nat → Prop} {v : Value} {l : List U} {k : Nat} (h : w5.ownsRow 0 65 2 v k (l.flatMap encU)) (hk : k = l.length) (hn : ∀ z, Of v z → New w w5 z) (hf : Fr F w5 W) (hF : ∀ z, Of v z → ¬ F z) : Outs w W v l := by
  subst hk
  exact ⟨own_fr h hf (fun z hz => hF z hz), fun z hz => ⟨(hn z hz).1, Nat.lt_of_lt_of_le (hn z hz).2 hf.size⟩⟩
theorem push_new {w w5 w6 : World} {v : Value} {g n c bx br : Nat} (h2 : Fr (Of v) w5 w6) (h3 : Of v g ∨ New w5 w6 g) (hb : ∀ z, Of v z → z ≠ bx ∧ z ≠ br ∧ New w w5 z) (hs : w.heap.size ≤ w5.heap.size) (h4 : bx < w5.heap.size) (h5 : br < w5.heap.size) :
    ∀ z, Of (.slice (some ⟨g, 0, none⟩) n c) z → z ≠ bx ∧ z ≠ br ∧ New w w6 z := by
  intro z hz
  have hz : some g = some z := hz
  injection hz with hz
  subst hz
  have := h2.size
  rcases h3 with h | h
  · obtain ⟨a, b, c⟩ := hb g h
    exact ⟨a, b, c.1, Nat.lt_of_lt_of_le c.2 h2.size⟩
  · exact ⟨by have := h.1; omega, by have := h.1; omega, Nat.le_trans hs h.1, h.2⟩
set_option maxRecDepth 100000 in
set_option maxHeartbeats 4000000 in
theorem rgoOn_any (h : RL w S0 vF vL s) (hft : Fit s.seq s.start) (now : Int) (hn : 0 ≤ now ∧ now ≤ 1099511627776) : Calls Try.prog 60 #[agL vF vL s, .int .i64 now] w (ROuts (goOnS s now) S0 w) := by
  have HFT := Lib.hid hft
  clear hft
  obtain ⟨b, c, j, st, n, at_, first, seq, start, was, held⟩ := s
  obtain ⟨A, c1, rfl, hA1, hA2⟩ := h.first.slice
  obtain ⟨B, d1, rfl, hB1, hB2⟩ := h.seq.slice
  have H := Lib.hid h
  clear h
  have hA1 : first.length ≤ c1 := hA1
  have hB1 : seq.length ≤ d1 := hB1
  unfold maxLen at hA2 hB2
  obtain ⟨n1, hn1⟩ : ∃ n1, n1 = first.length := ⟨_, rfl⟩
  obtain ⟨m1, hm1⟩ : ∃ m1, m1 = seq.length := ⟨_, rfl⟩
  have ag : agL (.slice A first.length c1) (.slice B seq.length d1) ⟨b, c, j, st, n, at_, first, seq, start, was, held⟩ = .agg #[.int .i64 b, .int .i64 c, .int .i64 j, .int .i64 st, .int .i64 n, .int .i64 at_, .slice A n1 c1, .slice B m1 d1, .int .i64 start, .int .i64 was, .string ⟨held.toArray⟩] := by rw [hn1, hm1]; rfl
  try simp only at ag
  rw [ag]
  have AG := Lib.hid ag
  have HN := Lib.hid hn1
  have HM := Lib.hid hm1
  rw [← hn1] at hA1
  rw [← hm1] at hB1
  clear ag hn1 hm1
  have XB := Lib.hid ((Blk.new w 46 #[.int .i64 b, .int .i64 c, .int .i64 j, .int .i64 st, .int .i64 n, .int .i64 at_, .slice A n1 c1, .slice B m1 d1, .int .i64 start, .int .i64 was, .string ⟨held.toArray⟩]).alloc (.cells #[.int .i64 0, .int .i64 0, .int .i64 0, .int .i64 0, .int .i64 0, .int .i64 0, .slice none 0 0, .slice none 0 0, .int .i64 0, .int .i64 0, .string ⟨#[]⟩] 46))
  have XR := Blk.new (w.alloc (.cells #[.int .i64 b, .int .i64 c, .int .i64 j, .int .i64 st, .int .i64 n, .int .i64 at_, .slice A n1 c1, .slice B m1 d1, .int .i64 start, .int .i64 was, .string ⟨held.toArray⟩] 46)) 46 #[.int .i64 0, .int .i64 0, .int .i64 0, .int .i64 0, .int .i64 0, .int .i64 0, .slice none 0 0, .slice none 0 0, .int .i64 0, .int .i64 0, .string ⟨#[]⟩]
  have F1 := Lib.hid (((Fr.refl No w).alloc (.cells #[.int .i64 b, .int .i64 c, .int .i64 j, .int .i64 st, .int .i64 n, .int .i64 at_, .slice A n1 c1, .slice B m1 d1, .int .i64 start, .int .i64 was, .string ⟨held.toArray⟩] 46)).alloc (.cells #[.int .i64 0, .int .i64 0, .int .i64 0, .int .i64 0, .int .i64 0, .int .i64 0, .slice none 0 0, .slice none 0 0, .int .i64 0, .int .i64 0, .string ⟨#[]⟩] 46))
  rw [size_alloc] at XR
  obtain ⟨bx, hbx⟩ : ∃ bx, w.heap.size = bx := ⟨_, rfl⟩
  obtain ⟨br, hbr⟩ : ∃ br, bx + 1 = br := ⟨_, rfl⟩
  have XB := Lib.hid (show Blk _ bx _ _ by rw [← hbx]; exact XB.out)
  rw [hbx, hbr] at XR
  have XR := Lib.hid XR
  have HBX := Lib.hid hbx
  have HBR := Lib.hid hbr
  go_enter Try.func60, Try.ntmps60
  go_upto_region 1 with (fail)
  generalize (w.alloc (.cells #[.int .i64 b, .int .i64 c, .int .i64 j, .int .i64 st, .int .i64 n, .int .i64 at_, .slice A n1 c1, .slice B m1 d1, .int .i64 start, .int .i64 was, .string ⟨held.toArray⟩] 46)).alloc (.cells #[.int .i64 0, .int .i64 0, .int .i64 0, .int .i64 0, .int .i64 0, .int .i64 0, .slice none 0 0, .slice none 0 0, .int .i64 0, .int .i64 0, .string ⟨#[]⟩] 46) = w1 at XB XR F1 ⊢
  have hbb : bx ≠ br := by omega
  have hbc : br ≠ bx := by omega
  clear hbx hbr
  have hbl := XR.out.lt
  have hbd : br ≠ w1.heap.size := by omega
  have hbm := XB.out.lt
  have hbe : bx ≠ w1.heap.size := by omega
  have xo := XB.out
  have x0 := xo.cell 0
  have x1 := xo.cell 1
  have x2 := xo.cell 2
  have x3 := xo.cell 3
  have x4 := xo.cell 4
  have x5 := xo.cell 5
  have x6 := xo.cell 6
  have x7 := xo.cell 7
  have x8 := xo.cell 8
  have x9 := xo.cell 9
  have x10 := xo.cell 10
  have xf0 := xo.frozen 0
  have xf1 := xo.frozen 1
  have xf2 := xo.frozen 2
  have xf3 := xo.frozen 3
  have xf4 := xo.frozen 4
  have xf5 := xo.frozen 5
  have xf6 := xo.frozen 6
  have xf7 := xo.frozen 7
  have xf8 := xo.frozen 8
  have xf9 := xo.frozen 9
  have xf10 := xo.frozen 10
  simp only [List.getElem?_toArray, List.getElem?_cons_zero, List.getElem?_cons_succ] at x0 x1 x2 x3 x4 x5 x6 x7 x8 x9 x10
  clear xo
  have RD := Run.due_any (.slice B m1 d1) seq start was now w1 S0 (H.out.no F1.out).lt (by have := (H.out.no F1.out).seq; rw [HM.out]; exact this) HFT.out.len HFT.out.st HFT.out.ck
  have RD := Lib.hid RD
  go_wp2_with fail
  refine RD.out.mono ?_
  rintro e w2 ⟨v', rfl, ho, hst⟩
  obtain ⟨D, hD⟩ : ∃ D, D = dueT was now (timesR start seq) := ⟨_, rfl⟩
  have hdl : D.length ≤ 1000 := by
    have h1 := due_len was now (timesR start seq)
    rw [Run.times_len] at h1
    have h2 := HFT.out.len
    rw [hD]
    exact Nat.le_trans h1 h2
  rw [← hD] at ho
  obtain ⟨A2, c2, rfl⟩ := own_form ho
  obtain ⟨nd, hnd⟩ : ∃ nd, nd = D.length := ⟨_, rfl⟩
  have HD := Lib.hid hD
  have HND := Lib.hid hnd
  rw [← hnd] at hdl ⊢
  have HO := Lib.hid ho
  have HST := Lib.hid hst
  clear ho hst hD hnd
  clear x0 x1 x2 x3 x4 x5 x6 x7 x8 x9 x10 xf0 xf1 xf2 xf3 xf4 xf5 xf6 xf7 xf8 xf9 xf10
  go_wp2_with fail
  have HWF := Lib.hid (show ∀ x ∈ D, Run.wfO x from fun x hx => HFT.out.wf x (due_mem (by rw [← HD.out]; exact hx)))
  have hops := Run.own_ops (l := D) HO.out HWF.out
  obtain ⟨A3, c3, hv3, hc3, hc4, hel⟩ := Run.op_cells hops
  injection hv3 with q1 q2 q3
  subst q1 q3
  have HEL := Lib.hid hel
  clear hops hc3 hc4 hel q2
  go_loopw [6, 8] (fun ov iv wr => ∃ (k : Nat) (acc : List U), iv = .int .i64 k ∧ k ≤ nd ∧ Hid (acc = (D.take k).map outO) ∧ Hid (wr.ownsRow 0 65 2 ov k (acc.flatMap encU) ∧ Step No w2 (Of ov) wr)) (fun _ i _ => nd - (intOf i).toNat)
  case atStart => exact ⟨0, [], rfl, by omega, rfl, World.ownsRow_nil _ _ _ _, Step.refl _ _ |>.1, fun k hk => (of_nil hk).elim⟩
  case round =>
    obtain ⟨k, acc, rfl, hk, HA, hw⟩ := hrel
    by_cases hlt : k < nd
    · have hlt2 : k < D.length := by rw [← HND.out]; exact hlt
      obtain ⟨ad, rfl, hS, k1, k2, -, -⟩ := HEL.out k hlt2
      have hS2 : ad.block < w2.heap.size := (HST.out.2 _ hS).elim (fun g => g.elim) (fun g => g.2)
      have HF := Lib.hid hw.out.2.1
      have HOW := Lib.hid hw.out.1
      have HON := Lib.hid hw.out.2.2
      have p1 := (HF.out.cell (p := ad.add (k * 3)) (by rw [block_add]; exact hS2) (fun h => h)).trans k1
      have p2 := (HF.out.cell (p := ⟨(ad.add (k * 3)).block, (ad.add (k * 3)).off + 1, none⟩) (by show (ad.add (k * 3)).block < _; rw [block_add]; exact hS2) (fun h => h)).trans k2
      have HT := Lib.hid (show (D.take (k + 1)).map outO = acc ++ [outO D[k]] by rw [out_take hlt2, HA.out])
      obtain ⟨y, hy⟩ : ∃ y, y = D[k] := ⟨_, rfl⟩
      rw [← hy] at p1 p2 HT
      obtain ⟨yk, ys, yn⟩ := y
      simp only at p1 p2
      clear hy k1 k2 hw HA
      by_cases g : yk = 3
      · subst g
        have HT := Lib.hid HT.out
        go_wp2_with (at_builtin; go_loud (refine wp_push rfl (.tmp 31) (.tmp 33) 30 rfl 65 (.agg #[.int .i64 0, .string ByteArray.empty]) 2 24 Try.underlying30 infoU rfl (by decide) _ _ _ rfl HOW.out #[.int .i64 4, .string ⟨#[]⟩] rfl rfl (by intro u hu; simp at hu; rcases hu with rfl | rfl <;> rfl) (by omega) (by unfold maxLen; omega) ?_; intro g6 cap6 w6 P1 P2 P3; have P1 := Lib.hid P1; have P2 := Lib.hid P2; have P3 := Lib.hid P3))
        go_roundw
        case rel =>
          refine ⟨k + 1, acc ++ [outO (3, ys, yn)], by go_num, by omega, HT.out.symm, ?_, HF.out.trans P2.out (fun b hb hl => by have := (HON.out b hb).elim (fun g => g.elim) (fun g => g.1); omega), fun b hb => ?_⟩
          · rw [List.flatMap_append]; exact P1.out
          · have hb : some g6 = some b := hb
            injection hb with hb
            subst hb
            rcases P3.out with g | g
            · have := (HON.out _ g).elim (fun g => g.elim) (fun g => g)
              exact .inr ⟨this.1, Nat.lt_of_lt_of_le this.2 P2.out.size⟩
            · exact .inr ⟨Nat.le_trans HF.out.size g.1, g.2⟩
        case measure => simp [intOf]; omega
      · have hb : (yk == 3) = false := by simpa using g
        have G := Lib.hid g
        clear g
        go_wp2_with (at_builtin; go_loud (refine wp_push rfl (.tmp 35) (.tmp 42) 30 rfl 65 (.agg #[.int .i64 0, .string ByteArray.empty]) 2 24 Try.underlying30 infoU rfl (by decide) _ _ _ rfl HOW.out #[.int .i64 3, .string ⟨ys.toArray⟩] rfl rfl (by intro u hu; simp at hu; rcases hu with rfl | rfl <;> rfl) (by omega) (by unfold maxLen; omega) ?_; intro g6 cap6 w6 P1 P2 P3; have P1 := Lib.hid P1; have P2 := Lib.hid P2; have P3 := Lib.hid P3))
        go_roundw
        case rel =>
          refine ⟨k + 1, acc ++ [outO (yk, ys, yn)], by go_num, by omega, HT.out.symm, ?_, HF.out.trans P2.out (fun b hb hl => by have := (HON.out b hb).elim (fun g => g.elim) (fun g => g.1); omega), fun b hb => ?_⟩
          · rw [List.flatMap_append, show outO (yk, ys, yn) = (3, ys) from if_neg G.out]; exact P1.out
          · have hb : some g6 = some b := hb
            injection hb with hb
            subst hb
            rcases P3.out with g | g
            · have := (HON.out _ g).elim (fun g => g.elim) (fun g => g)
              exact .inr ⟨this.1, Nat.lt_of_lt_of_le this.2 P2.out.size⟩
            · exact .inr ⟨Nat.le_trans HF.out.size g.1, g.2⟩
        case measure => simp [intOf]; omega
    · have hkn : k = nd := by omega
      subst hkn
      have HAD := Lib.hid (show acc = dueS ⟨b, c, j, st, n, at_, first, seq, start, was, held⟩ now by rw [HA.out, List.take_of_length_le (by rw [← HND.out]; omega), HD.out]; rfl)
      have HF := Lib.hid hw.out.2.1
      have HOW := Lib.hid hw.out.1
      have HON := Lib.hid hw.out.2.2
      have F3 := Lib.hid ((F1.out.then_no HST.out.1).then_no HF.out)
      have XB3 := Lib.hid (XB.out.fr (HST.out.1.then_no HF.out) (fun h => h))
      have XR3 := Lib.hid (XR.out.fr (HST.out.1.then_no HF.out) (fun h => h))
      have hbl3 := XR3.out.lt
      have RN := Lib.hid (fun (W : World) (hf : Fr No w W) => Run.rnext_any (.slice B m1 d1) seq start now W S0 (by have := (H.out.no hf).seq; rw [HM.out]; exact this) HFT.out.len HFT.out.st HFT.out.ck)
      clear hw HA
      obtain ⟨A4, c4, hov⟩ := own_form HOW.out
      subst hov
      have HBN := Lib.hid (show ∀ z, Of (.slice A4 k c4) z → z ≠ bx ∧ z ≠ br ∧ New w wr z from fun z hz => by
        have h1 := (HON.out z hz).elim (fun g => g.elim) (fun g => g)
        have h2 := HST.out.1.size
        have h3 := F1.out.size
        exact ⟨by have := h1.1; omega, by have := h1.1; omega, by have := h1.1; omega, h1.2⟩)
      have xo := XB3.out
      have x0 := xo.cell 0
      have x1 := xo.cell 1
      have x2 := xo.cell 2
      have x3 := xo.cell 3
      have x4 := xo.cell 4
      have x5 := xo.cell 5
      have x6 := xo.cell 6
      have x7 := xo.cell 7
      have x8 := xo.cell 8
      have x9 := xo.cell 9
      have x10 := xo.cell 10
      have xf0 := xo.frozen 0
      have xf1 := xo.frozen 1
      have xf2 := xo.frozen 2
      have xf3 := xo.frozen 3
      have xf4 := xo.frozen 4
      have xf5 := xo.frozen 5
      have xf6 := xo.frozen 6
      have xf7 := xo.frozen 7
      have xf8 := xo.frozen 8
      have xf9 := xo.frozen 9
      have xf10 := xo.frozen 10
      simp only [List.getElem?_toArray, List.getElem?_cons_zero, List.getElem?_cons_succ] at x0 x1 x2 x3 x4 x5 x6 x7 x8 x9 x10
      clear xo
      go_wp2_with fail
      clear x0 x1 x2 x3 x4 x5 x6 x7 x8 x9 x10 xf0 xf1 xf2 xf3 xf4 xf5 xf6 xf7 xf8 xf9 xf10
      have b9 := XB3.out.put 9 (.int .i64 now)
      simp only [List.setIfInBounds_toArray, List.set_cons_zero, List.set_cons_succ] at b9
      have XB4 := Lib.hid b9
      clear b9
      have XR4 := Lib.hid (XR3.out.far (p := ⟨bx, 9, none⟩) hbc (.int .i64 now))
      have F4 := Lib.hid (Fr.setCell F3.out (p := ⟨bx, 9, none⟩) (.inr (by show w.heap.size ≤ bx; have := HBX.out; omega)) (.int .i64 now))
      have HBN := Lib.hid (show ∀ z, Of (.slice A4 k c4) z → z ≠ bx ∧ z ≠ br ∧ New w (wr.setCell ⟨bx, 9, none⟩ (.int .i64 now)) z from fun z hz => by
        have := HBN.out z hz
        exact ⟨this.1, this.2.1, this.2.2.1, by rw [size_setCell]; exact this.2.2.2⟩)
      have HOW := Lib.hid (own_fr HOW.out ((Fr.refl (fun k => k = bx) wr).setCell (p := ⟨bx, 9, none⟩) (.inl rfl) (.int .i64 now)) (fun z hz e => (HBN.out z hz).1 e))
      clear XB3 XR3 F3 hbl3 HF HON
      generalize wr.setCell ⟨bx, 9, none⟩ (.int .i64 now) = wq at XB4 XR4 F4 HOW HBN ⊢
      have hbl4 := XR4.out.lt
      have hbm4 := XB4.out.lt
      by_cases hov : endsR start seq ≤ now
      · have HE : Hid (goOnS ⟨b, c, j, st, n, at_, first, seq, start, was, held⟩ now = (⟨b, c, j, 4, n, at_, first, [], start, now, []⟩, acc ++ tailS ⟨b, c, j, st, n, at_, first, seq, start, was, held⟩)) := by
          show _ = _
          unfold goOnS
          rw [if_pos (show overS _ _ = true from decide_eq_true hov), HAD.out]
        have hnx := Run.next_over HFT.out.ck hov
        refine (RN.out wq F4.out).mono ?_
        rintro e w5 ⟨hx, n5, rfl⟩
        rw [hnx] at hx
        have hx : e = _ := hx
        subst hx
        have XB5 := Lib.hid (XB4.out.drewN n5)
        have XR5 := Lib.hid (XR4.out.drewN n5)
        have F5 := Lib.hid (F4.out.drewN n5)
        have HOW5 : Hid ((wq.drewN n5).ownsRow 0 65 2 (.slice A4 k c4) k (acc.flatMap encU)) := HOW.out
        have HBN5 : Hid (∀ z, Of (.slice A4 k c4) z → z ≠ bx ∧ z ≠ br ∧ New w (wq.drewN n5) z) := HBN.out
        have hbl5 : br < (wq.drewN n5).heap.size := hbl4
        have hbm5 : bx < (wq.drewN n5).heap.size := hbm4
        clear hnx hov XB4 XR4 F4 HOW HBN hbl4 hbm4 RN
        generalize wq.drewN n5 = w5 at XB5 XR5 F5 HOW5 HBN5 hbl5 hbm5 ⊢
        have xo := XB5.out
        have x0 := xo.cell 0
        have x1 := xo.cell 1
        have x2 := xo.cell 2
        have x3 := xo.cell 3
        have x4 := xo.cell 4
        have x5 := xo.cell 5
        have x6 := xo.cell 6
        have x7 := xo.cell 7
        have x8 := xo.cell 8
        have x9 := xo.cell 9
        have x10 := xo.cell 10
        have xf0 := xo.frozen 0
        have xf1 := xo.frozen 1
        have xf2 := xo.frozen 2
        have xf3 := xo.frozen 3
        have xf4 := xo.frozen 4
        have xf5 := xo.frozen 5
        have xf6 := xo.frozen 6
        have xf7 := xo.frozen 7
        have xf8 := xo.frozen 8
        have xf9 := xo.frozen 9
        have xf10 := xo.frozen 10
        simp only [List.getElem?_toArray, List.getElem?_cons_zero, List.getElem?_cons_succ] at x0 x1 x2 x3 x4 x5 x6 x7 x8 x9 x10
        clear xo
        have ro := XR5.out
        have r0 := ro.cell 0
        have r1 := ro.cell 1
        have r2 := ro.cell 2
        have r3 := ro.cell 3
        have r4 := ro.cell 4
        have r5 := ro.cell 5
        have r6 := ro.cell 6
        have r7 := ro.cell 7
        have r8 := ro.cell 8
        have r9 := ro.cell 9
        have r10 := ro.cell 10
        have rf0 := ro.frozen 0
        have rf1 := ro.frozen 1
        have rf2 := ro.frozen 2
        have rf3 := ro.frozen 3
        have rf4 := ro.frozen 4
        have rf5 := ro.frozen 5
        have rf6 := ro.frozen 6
        have rf7 := ro.frozen 7
        have rf8 := ro.frozen 8
        have rf9 := ro.frozen 9
        have rf10 := ro.frozen 10
        simp only [List.getElem?_toArray, List.getElem?_cons_zero, List.getElem?_cons_succ] at r0 r1 r2 r3 r4 r5 r6 r7 r8 r9 r10
        clear ro
        have HKL := Lib.hid (show k = acc.length by rw [HAD.out]; unfold dueS; rw [List.length_map, ← HD.out, ← HND.out])
        by_cases hh : held = []
        · subst hh
          have HT := Lib.hid (show tailS ⟨b, c, j, st, n, at_, first, seq, start, was, []⟩ = [] from rfl)
          go_wp2_with fail
          clear x0 x1 x2 x3 x4 x5 x6 x7 x8 x9 x10 xf0 xf1 xf2 xf3 xf4 xf5 xf6 xf7 xf8 xf9 xf10
          clear r0 r1 r2 r3 r4 r5 r6 r7 r8 r9 r10 rf0 rf1 rf2 rf3 rf4 rf5 rf6 rf7 rf8 rf9 rf10
          have b9 := XR5.out
          have b9 := b9.far (p := ⟨bx, 3, none⟩) hbc (.int .i64 4)
          have b9 := b9.far (p := ⟨bx, 7, none⟩) hbc (.slice none 0 0)
          have b9 := b9.far (p := ⟨bx, 10, none⟩) hbc (.string ⟨#[]⟩)
          have b9 := b9.put 0 (.int .i64 b)
          have b9 := b9.put 1 (.int .i64 c)
          have b9 := b9.put 2 (.int .i64 j)
          have b9 := b9.put 3 (.int .i64 4)
          have b9 := b9.put 4 (.int .i64 n)
          have b9 := b9.put 5 (.int .i64 at_)
          have b9 := b9.put 6 (.slice A n1 c1)
          have b9 := b9.put 7 (.slice none 0 0)
          have b9 := b9.put 8 (.int .i64 start)
          have b9 := b9.put 9 (.int .i64 now)
          have b9 := b9.put 10 (.string ⟨#[]⟩)
          simp only [List.setIfInBounds_toArray, List.set_cons_zero, List.set_cons_succ] at b9
          have e0 := b9.cell 0
          have e1 := b9.cell 1
          have e2 := b9.cell 2
          have e3 := b9.cell 3
          have e4 := b9.cell 4
          have e5 := b9.cell 5
          have e6 := b9.cell 6
          have e7 := b9.cell 7
          have e8 := b9.cell 8
          have e9 := b9.cell 9
          have e10 := b9.cell 10
          simp only [List.getElem?_toArray, List.getElem?_cons_zero, List.getElem?_cons_succ] at e0 e1 e2 e3 e4 e5 e6 e7 e8 e9 e10
          clear b9
          have ea : agL (.slice A first.length c1) (.slice none 0 0) ⟨b, c, j, 4, n, at_, first, [], start, now, []⟩ = .agg #[.int .i64 b, .int .i64 c, .int .i64 j, .int .i64 4, .int .i64 n, .int .i64 at_, .slice A n1 c1, .slice none 0 0, .int .i64 start, .int .i64 now, .string ⟨#[]⟩] := by rw [HN.out]; rfl
          have hbw : w.heap.size ≤ bx := by have := HBX.out; omega
          have hbv : w.heap.size ≤ br := by have := HBX.out; have := HBR.out; omega
          refine bodyPost_ret (v := .tuple #[.agg #[.int .i64 b, .int .i64 c, .int .i64 j, .int .i64 4, .int .i64 n, .int .i64 at_, .slice A n1 c1, .slice none 0 0, .int .i64 start, .int .i64 now, .string ⟨#[]⟩], .slice A4 k c4]) ?_ rfl ?_
          · simp [results, Try.f60, go_sem, e0, e1, e2, e3, e4, e5, e6, e7, e8, e9, e10]
          · rw [HE.out, HT.out, List.append_nil, ← ea]
            refine rl_fin (vF := .slice A first.length c1) (vL := .slice none 0 0) (s := ⟨b, c, j, 4, n, at_, first, [], start, now, []⟩) (l := acc) ?_ ?_ ?_
            · (repeat first | with_reducible refine Fr.alloc ?_ _ | with_reducible refine Fr.setCell ?_ (.inr (by first | exact hbw | exact hbv)) _)
              exact F5.out
            · exact ⟨H.out.first, ops_nil _ _, H.out.lt⟩
            · refine outs_keep (k := k) HOW5.out HKL.out (fun z hz => (HBN5.out z hz).2.2) (F := fun z => z = bx ∨ z = br) ?_ (fun z hz g => by have := HBN5.out z hz; rcases g with g | g; exact this.1 g; exact this.2.1 g)
              (repeat first | with_reducible refine Fr.setCell ?_ (.inl (.inl rfl)) _ | with_reducible refine Fr.setCell ?_ (.inl (.inr rfl)) _)
              exact Fr.refl _ _
        · have hhb : held.isEmpty = false := by
            cases held with
            | nil => exact absurd rfl hh
            | cons a t => rfl
          have HT := Lib.hid (show tailS ⟨b, c, j, st, n, at_, first, seq, start, was, held⟩ = [(3, held)] from if_neg hh)
          clear hh
          go_wp2_with (at_builtin; go_loud (refine wp_push rfl (.tmp 61) (.tmp 65) 30 rfl 65 (.agg #[.int .i64 0, .string ByteArray.empty]) 2 24 Try.underlying30 infoU rfl (by decide) _ _ _ rfl HOW5.out #[.int .i64 3, .string ⟨held.toArray⟩] rfl rfl (by intro u hu; simp at hu; rcases hu with rfl | rfl <;> rfl) (by omega) (by unfold maxLen; omega) ?_; intro g6 cap6 w6 P1 P2 P3; have XB6 := Lib.hid (XB5.out.fr P2 (fun h => (HBN5.out _ h).1 rfl)); have XR6 := Lib.hid (XR5.out.fr P2 (fun h => (HBN5.out _ h).2.1 rfl)); have P1 := Lib.hid P1; have F6 := Lib.hid (F5.out.trans P2 (fun b hb hl => by have := (HBN5.out b hb).2.2.1; omega)); have NW := Lib.hid (show ∀ z, Of (.slice (some ⟨g6, 0, none⟩) (k + 1) cap6) z → z ≠ bx ∧ z ≠ br ∧ New w w6 z from push_new P2 P3 HBN5.out F5.out.size hbm5 hbl5); clear P2 P3; clear x0 x1 x2 x3 x4 x5 x6 x7 x8 x9 x10 xf0 xf1 xf2 xf3 xf4 xf5 xf6 xf7 xf8 xf9 xf10; clear r0 r1 r2 r3 r4 r5 r6 r7 r8 r9 r10 rf0 rf1 rf2 rf3 rf4 rf5 rf6 rf7 rf8 rf9 rf10; have xo := XB6.out; have x0 := xo.cell 0; have x1 := xo.cell 1; have x2 := xo.cell 2; have x3 := xo.cell 3; have x4 := xo.cell 4; have x5 := xo.cell 5; have x6 := xo.cell 6; have x7 := xo.cell 7; have x8 := xo.cell 8; have x9 := xo.cell 9; have x10 := xo.cell 10; have xf0 := xo.frozen 0; have xf1 := xo.frozen 1; have xf2 := xo.frozen 2; have xf3 := xo.frozen 3; have xf4 := xo.frozen 4; have xf5 := xo.frozen 5; have xf6 := xo.frozen 6; have xf7 := xo.frozen 7; have xf8 := xo.frozen 8; have xf9 := xo.frozen 9; have xf10 := xo.frozen 10; simp only [List.getElem?_toArray, List.getElem?_cons_zero, List.getElem?_cons_succ] at x0 x1 x2 x3 x4 x5 x6 x7 x8 x9 x10; clear xo; have ro := XR6.out; have r0 := ro.cell 0; have r1 := ro.cell 1; have r2 := ro.cell 2; have r3 := ro.cell 3; have r4 := ro.cell 4; have r5 := ro.cell 5; have r6 := ro.cell 6; have r7 := ro.cell 7; have r8 := ro.cell 8; have r9 := ro.cell 9; have r10 := ro.cell 10; have rf0 := ro.frozen 0; have rf1 := ro.frozen 1; have rf2 := ro.frozen 2; have rf3 := ro.frozen 3; have rf4 := ro.frozen 4; have rf5 := ro.frozen 5; have rf6 := ro.frozen 6; have rf7 := ro.frozen 7; have rf8 := ro.frozen 8; have rf9 := ro.frozen 9; have rf10 := ro.frozen 10; simp only [List.getElem?_toArray, List.getElem?_cons_zero, List.getElem?_cons_succ] at r0 r1 r2 r3 r4 r5 r6 r7 r8 r9 r10; clear ro; have hbl6 := XR6.out.lt; have hbm6 := XB6.out.lt))
          clear x0 x1 x2 x3 x4 x5 x6 x7 x8 x9 x10 xf0 xf1 xf2 xf3 xf4 xf5 xf6 xf7 xf8 xf9 xf10
          clear r0 r1 r2 r3 r4 r5 r6 r7 r8 r9 r10 rf0 rf1 rf2 rf3 rf4 rf5 rf6 rf7 rf8 rf9 rf10
          have b9 := XR6.out
          have b9 := b9.far (p := ⟨bx, 3, none⟩) hbc (.int .i64 4)
          have b9 := b9.far (p := ⟨bx, 7, none⟩) hbc (.slice none 0 0)
          have b9 := b9.far (p := ⟨bx, 10, none⟩) hbc (.string ⟨#[]⟩)
          have b9 := b9.put 0 (.int .i64 b)
          have b9 := b9.put 1 (.int .i64 c)
          have b9 := b9.put 2 (.int .i64 j)
          have b9 := b9.put 3 (.int .i64 4)
          have b9 := b9.put 4 (.int .i64 n)
          have b9 := b9.put 5 (.int .i64 at_)
          have b9 := b9.put 6 (.slice A n1 c1)
          have b9 := b9.put 7 (.slice none 0 0)
          have b9 := b9.put 8 (.int .i64 start)
          have b9 := b9.put 9 (.int .i64 now)
          have b9 := b9.put 10 (.string ⟨#[]⟩)
          simp only [List.setIfInBounds_toArray, List.set_cons_zero, List.set_cons_succ] at b9
          have e0 := b9.cell 0
          have e1 := b9.cell 1
          have e2 := b9.cell 2
          have e3 := b9.cell 3
          have e4 := b9.cell 4
          have e5 := b9.cell 5
          have e6 := b9.cell 6
          have e7 := b9.cell 7
          have e8 := b9.cell 8
          have e9 := b9.cell 9
          have e10 := b9.cell 10
          simp only [List.getElem?_toArray, List.getElem?_cons_zero, List.getElem?_cons_succ] at e0 e1 e2 e3 e4 e5 e6 e7 e8 e9 e10
          clear b9
          have ea : agL (.slice A first.length c1) (.slice none 0 0) ⟨b, c, j, 4, n, at_, first, [], start, now, []⟩ = .agg #[.int .i64 b, .int .i64 c, .int .i64 j, .int .i64 4, .int .i64 n, .int .i64 at_, .slice A n1 c1, .slice none 0 0, .int .i64 start, .int .i64 now, .string ⟨#[]⟩] := by rw [HN.out]; rfl
          have hbw : w.heap.size ≤ bx := by have := HBX.out; omega
          have hbv : w.heap.size ≤ br := by have := HBX.out; have := HBR.out; omega
          refine bodyPost_ret (v := .tuple #[.agg #[.int .i64 b, .int .i64 c, .int .i64 j, .int .i64 4, .int .i64 n, .int .i64 at_, .slice A n1 c1, .slice none 0 0, .int .i64 start, .int .i64 now, .string ⟨#[]⟩], .slice (some ⟨g6, 0, none⟩) (k + 1) cap6]) ?_ rfl ?_
          · simp [results, Try.f60, go_sem, e0, e1, e2, e3, e4, e5, e6, e7, e8, e9, e10]
          · rw [HE.out, HT.out, ← ea]
            refine rl_fin (vF := .slice A first.length c1) (vL := .slice none 0 0) (s := ⟨b, c, j, 4, n, at_, first, [], start, now, []⟩) (l := (acc ++ [(3, held)])) ?_ ?_ ?_
            · (repeat first | with_reducible refine Fr.alloc ?_ _ | with_reducible refine Fr.setCell ?_ (.inr (by first | exact hbw | exact hbv)) _)
              exact F6.out
            · exact ⟨H.out.first, ops_nil _ _, H.out.lt⟩
            · refine outs_keep (k := k + 1) (by rw [List.flatMap_append]; exact P1.out) (by rw [List.length_append, ← HKL.out]; rfl) (fun z hz => (NW.out z hz).2.2) (F := fun z => z = bx ∨ z = br) ?_ (fun z hz g => by have := NW.out z hz; rcases g with g | g; exact this.1 g; exact this.2.1 g)
              (repeat first | with_reducible refine Fr.setCell ?_ (.inl (.inl rfl)) _ | with_reducible refine Fr.setCell ?_ (.inl (.inr rfl)) _)
              exact Fr.refl _ _
      · obtain ⟨a5, hnx, -⟩ := Run.next_goes HFT.out.ck hov
        have HE : Hid (goOnS ⟨b, c, j, st, n, at_, first, seq, start, was, held⟩ now = (⟨b, c, j, st, n, at_, first, seq, start, now, held⟩, acc)) := by
          show _ = _
          unfold goOnS
          rw [if_neg (show ¬ (overS ⟨b, c, j, st, n, at_, first, seq, start, was, held⟩ now = true) from fun h => hov (of_decide_eq_true h)), HAD.out]
        refine (RN.out wq F4.out).mono ?_
        rintro e w5 ⟨hx, n5, rfl⟩
        rw [hnx] at hx
        have hx : e = _ := hx
        subst hx
        have XB5 := Lib.hid (XB4.out.drewN n5)
        have XR5 := Lib.hid (XR4.out.drewN n5)
        have F5 := Lib.hid (F4.out.drewN n5)
        have HOW5 : Hid ((wq.drewN n5).ownsRow 0 65 2 (.slice A4 k c4) k (acc.flatMap encU)) := HOW.out
        have HBN5 : Hid (∀ z, Of (.slice A4 k c4) z → z ≠ bx ∧ z ≠ br ∧ New w (wq.drewN n5) z) := HBN.out
        have hbl5 : br < (wq.drewN n5).heap.size := hbl4
        have hbm5 : bx < (wq.drewN n5).heap.size := hbm4
        have HKL := Lib.hid (show k = acc.length by rw [HAD.out]; unfold dueS; rw [List.length_map, ← HD.out, ← HND.out])
        clear hnx hov XB4 XR4 F4 HOW HBN hbl4 hbm4 RN
        generalize wq.drewN n5 = w5 at XB5 XR5 F5 HOW5 HBN5 hbl5 hbm5 ⊢
        have xo := XB5.out
        have x0 := xo.cell 0
        have x1 := xo.cell 1
        have x2 := xo.cell 2
        have x3 := xo.cell 3
        have x4 := xo.cell 4
        have x5 := xo.cell 5
        have x6 := xo.cell 6
        have x7 := xo.cell 7
        have x8 := xo.cell 8
        have x9 := xo.cell 9
        have x10 := xo.cell 10
        have xf0 := xo.frozen 0
        have xf1 := xo.frozen 1
        have xf2 := xo.frozen 2
        have xf3 := xo.frozen 3
        have xf4 := xo.frozen 4
        have xf5 := xo.frozen 5
        have xf6 := xo.frozen 6
        have xf7 := xo.frozen 7
        have xf8 := xo.frozen 8
        have xf9 := xo.frozen 9
        have xf10 := xo.frozen 10
        simp only [List.getElem?_toArray, List.getElem?_cons_zero, List.getElem?_cons_succ] at x0 x1 x2 x3 x4 x5 x6 x7 x8 x9 x10
        clear xo
        have ro := XR5.out
        have r0 := ro.cell 0
        have r1 := ro.cell 1
        have r2 := ro.cell 2
        have r3 := ro.cell 3
        have r4 := ro.cell 4
        have r5 := ro.cell 5
        have r6 := ro.cell 6
        have r7 := ro.cell 7
        have r8 := ro.cell 8
        have r9 := ro.cell 9
        have r10 := ro.cell 10
        have rf0 := ro.frozen 0
        have rf1 := ro.frozen 1
        have rf2 := ro.frozen 2
        have rf3 := ro.frozen 3
        have rf4 := ro.frozen 4
        have rf5 := ro.frozen 5
        have rf6 := ro.frozen 6
        have rf7 := ro.frozen 7
        have rf8 := ro.frozen 8
        have rf9 := ro.frozen 9
        have rf10 := ro.frozen 10
        simp only [List.getElem?_toArray, List.getElem?_cons_zero, List.getElem?_cons_succ] at r0 r1 r2 r3 r4 r5 r6 r7 r8 r9 r10
        clear ro
        go_wp2_with fail
        clear x0 x1 x2 x3 x4 x5 x6 x7 x8 x9 x10 xf0 xf1 xf2 xf3 xf4 xf5 xf6 xf7 xf8 xf9 xf10
        clear r0 r1 r2 r3 r4 r5 r6 r7 r8 r9 r10 rf0 rf1 rf2 rf3 rf4 rf5 rf6 rf7 rf8 rf9 rf10
        have b9 := XR5.out
        have b9 := b9.put 0 (.int .i64 b)
        have b9 := b9.put 1 (.int .i64 c)
        have b9 := b9.put 2 (.int .i64 j)
        have b9 := b9.put 3 (.int .i64 st)
        have b9 := b9.put 4 (.int .i64 n)
        have b9 := b9.put 5 (.int .i64 at_)
        have b9 := b9.put 6 (.slice A n1 c1)
        have b9 := b9.put 7 (.slice B m1 d1)
        have b9 := b9.put 8 (.int .i64 start)
        have b9 := b9.put 9 (.int .i64 now)
        have b9 := b9.put 10 (.string ⟨held.toArray⟩)
        simp only [List.setIfInBounds_toArray, List.set_cons_zero, List.set_cons_succ] at b9
        have e0 := b9.cell 0
        have e1 := b9.cell 1
        have e2 := b9.cell 2
        have e3 := b9.cell 3
        have e4 := b9.cell 4
        have e5 := b9.cell 5
        have e6 := b9.cell 6
        have e7 := b9.cell 7
        have e8 := b9.cell 8
        have e9 := b9.cell 9
        have e10 := b9.cell 10
        simp only [List.getElem?_toArray, List.getElem?_cons_zero, List.getElem?_cons_succ] at e0 e1 e2 e3 e4 e5 e6 e7 e8 e9 e10
        clear b9
        have ea : agL (.slice A first.length c1) (.slice B seq.length d1) ⟨b, c, j, st, n, at_, first, seq, start, now, held⟩ = .agg #[.int .i64 b, .int .i64 c, .int .i64 j, .int .i64 st, .int .i64 n, .int .i64 at_, .slice A n1 c1, .slice B m1 d1, .int .i64 start, .int .i64 now, .string ⟨held.toArray⟩] := by rw [HM.out, HN.out]; rfl
        have hbw : w.heap.size ≤ bx := by have := HBX.out; omega
        have hbv : w.heap.size ≤ br := by have := HBX.out; have := HBR.out; omega
        refine bodyPost_ret (v := .tuple #[.agg #[.int .i64 b, .int .i64 c, .int .i64 j, .int .i64 st, .int .i64 n, .int .i64 at_, .slice A n1 c1, .slice B m1 d1, .int .i64 start, .int .i64 now, .string ⟨held.toArray⟩], .slice A4 k c4]) ?_ rfl ?_
        · simp [results, Try.f60, go_sem, e0, e1, e2, e3, e4, e5, e6, e7, e8, e9, e10]
        · rw [HE.out, ← ea]
          refine rl_fin (vF := .slice A first.length c1) (vL := .slice B seq.length d1) (s := ⟨b, c, j, st, n, at_, first, seq, start, now, held⟩) (l := acc) ?_ ?_ ?_
          · (repeat first | with_reducible refine Fr.alloc ?_ _ | with_reducible refine Fr.setCell ?_ (.inr (by first | exact hbw | exact hbv)) _)
            exact F5.out
          · exact ⟨H.out.first, H.out.seq, H.out.lt⟩
          · refine outs_keep (k := k) HOW5.out HKL.out (fun z hz => (HBN5.out z hz).2.2) (F := fun z => z = bx ∨ z = br) ?_ (fun z hz g => by have := HBN5.out z hz; rcases g with g | g; exact this.1 g; exact this.2.1 g)
            (repeat first | with_reducible refine Fr.setCell ?_ (.inl (.inl rfl)) _ | with_reducible refine Fr.setCell ?_ (.inl (.inr rfl)) _)
            exact Fr.refl _ _

end
end Ln
end Go.Proofs.Ytnfkkonmhinlcaa
