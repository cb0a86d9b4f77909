/- Package seat: Leave. Printed by gen_seatc.py. -/
import Derived.Test.YtepnjmgacfjhiaaSeatB
namespace Go.Proofs.Ytepnjmgacfjhiaa
open Go.RowKit
set_option linter.unusedVariables false
set_option linter.unusedSimpArgs false
namespace Seat
open Sls
section
variable {w : World} {F : Nat → Prop} {b : Nat} {s : St}
set_option maxRecDepth 100000 in
set_option maxHeartbeats 4000000 in
theorem leave_any (h : SAt w F b s) (hi : Inv s) (id : Int) : Calls Try.prog 29 #[.pointer (some ⟨b, 0, none⟩), .int .i64 id] w (Tells (leaveR s id) F b w) := by
  have HM := Lib.hid (made_any h)
  have FI := Lib.hid (find_any h id)
  have H := Lib.hid h
  rcases placeM_cases s.L id with ⟨p1, p2, -⟩ | ⟨k, hk, p1, p2, p3, -, -⟩
  · have e : leaveR s id = (s, [], 7) := by unfold leaveR; rw [if_pos p2]
    rw [e]
    rw [p1] at FI
    clear h e p1 p2
    go_enter Try.func29, Try.ntmps29
    go_wp2_with fail
    refine HM.out.mono ?_
    rintro e w0 ⟨rfl, rfl⟩
    go_wp2_with fail
    refine FI.out.mono ?_
    rintro e w1 ⟨rfl, hf⟩
    have HF := Lib.hid hf
    clear hf
    go_wp2_with fail
    go_ret2
    exact Tells.no H.out HF.out
  · obtain ⟨v, q, G, hq⟩ := h
    obtain ⟨A, c, rfl⟩ := hq.form
    rw [p1] at FI
    have hme := fun W => meth_Drop q W
    have HQ := Lib.hid hq
    have HK := Lib.hid hk
    have HE := Lib.hid (show s.L.eraseIdx k = s.L.filter (fun m => m.1 != id) by rw [erase_gone hi.nodup hk, p3])
    have h1 : ¬ thereB s.L id = false := by rw [p2]; simp
    have hln : s.L.length ≤ 4096 := by have := hi.len; have := hi.most; omega
    have HLN := Lib.hid hln
    obtain ⟨n, hn⟩ : ∃ n, n = s.L.length := ⟨_, rfl⟩
    have HN := Lib.hid hn
    rw [← hn] at hk hln
    have H1 := Lib.hid h1
    clear hq p1 p2 p3 h1 hn
    go_enter Try.func29, Try.ntmps29
    go_wp2_with fail
    refine HM.out.mono ?_
    rintro e w0 ⟨rfl, rfl⟩
    go_wp2_with fail
    refine FI.out.mono ?_
    rintro e w1 ⟨rfl, hf⟩
    have HF := Lib.hid hf
    have Q1 := Lib.hid (HQ.out.no hf)
    have c0 := Q1.out.c0
    rw [← HN.out] at c0
    have HDL := Lib.hid (delete_any _ s.L k 0 w1 Q1.out.sp.row HK.out HLN.out)
    rw [← HN.out] at HDL
    clear hf
    go_wp2_with fail
    refine HDL.out.mono ?_
    rintro e w2 ⟨v', rfl, ho, hob, hf2⟩
    obtain ⟨A', c', rfl⟩ := own_form ho
    obtain ⟨n', hn'⟩ : ∃ n', n' = (s.L.eraseIdx k).length := ⟨_, rfl⟩
    have hb2 := Q1.out.sp.blk.fr hf2 (fun e => by have e2 : Of (.slice A s.L.length c) b := (by rw [← HN.out]; exact e); exact (Q1.out.sp.vb b e2).1 rfl)
    have d0 := hb2.cell 0
    have d1 := hb2.frozen 0
    have d3 : w2.cell? ⟨b, 3, none⟩ = some (qv q) := hb2.cell 3
    simp only [List.getElem?_toArray, List.getElem?_cons_zero] at d0
    rw [← hn'] at ho hob ⊢
    have HN' := Lib.hid hn'
    have HO := Lib.hid ho
    have HOB := Lib.hid hob
    have HF2 := Lib.hid hf2
    clear ho hob hf2 hb2 hn' c0 HDL
    go_wp2_with fail
    obtain ⟨k1, k2⟩ := Q1.out.row (w1 := w2) (v' := .slice A' n' c') (L' := s.L.eraseIdx k) (by rw [← HN'.out]; exact HO.out) (by rw [← HN.out]; exact HF2.out) (fun j hj => .inl (by rw [← HN.out]; show (Value.slice A n c).ownBlock = some j; rw [← HOB.out]; exact hj))
    have Q3 := Lib.hid k1
    have S3 := Lib.hid ((Step.no (F := F) HF.out).trans k2)
    clear k1 k2 d0 d1 d3
    generalize w2.setCell ⟨b, 0, none⟩ (.slice A' n' c') = w3 at Q3 S3 ⊢
    refine (Qint.drop_any id Q3.out.sp.que).mono ?_
    rintro e w4 ⟨rfl, hq4, hs4⟩
    obtain ⟨k1, k2⟩ := Q3.out.queue hq4 hs4
    have Q4 := Lib.hid k1
    have S4 := Lib.hid (S3.out.trans k2)
    clear k1 k2 hq4 hs4 Q3 S3
    have hst : (⟨s.L.eraseIdx k, s.most, s.wr, s.q.erase id⟩ : St) = gone s id := by rw [HE.out, erase_without hi]; rfl
    rw [hst] at Q4
    clear hst
    obtain ⟨wr, hwr⟩ : ∃ wr, wr = s.wr := ⟨_, rfl⟩
    obtain ⟨g, hg⟩ : ∃ g, w4.heap.size = g := ⟨_, rfl⟩
    have L5 := Blk.new w4 79 #[.int .i64 id, .int .i64 0]
    have F5 := (Fr.refl No w4).alloc (.cells #[.int .i64 id, .int .i64 0] 79)
    have hl5 : g < (w4.alloc (.cells #[.int .i64 id, .int .i64 0] 79)).heap.size := by rw [size_alloc]; omega
    have c2 := (Q4.out.no F5).c2
    have f2 := (Q4.out.no F5).f 2
    rw [show (gone s id).wr = s.wr from rfl, ← hwr] at c2
    rw [hg] at L5
    have HG := Lib.hid hg
    by_cases h2 : s.wr = id
    · have e : leaveR s id = ((nextR (gone s id)).1, (id, 0) :: (nextR (gone s id)).2, 0) := by unfold leaveR; rw [if_neg H1.out, if_neg (by simpa using h2)]
      rw [e]
      have hwe : (wr != id) = false := by rw [hwr]; simpa using h2
      have HE2 := Lib.hid e
      clear e h2 hwr
      go_upto_region 12 with (fail)
      generalize w4.alloc (.cells #[.int .i64 id, .int .i64 0] 79) = w5 at L5 F5 hl5 c2 f2 ⊢
      obtain ⟨k1, k2⟩ := (Q4.out.no F5).setW (-1)
      have hbg : b ≠ g := fun e => by have := Q4.out.blt; omega
      have L6 := L5.far (p := ⟨b, 2, none⟩) (Ne.symm hbg) (.int .i64 (-1))
      have hl6 : g < (w5.setCell ⟨b, 2, none⟩ (.int .i64 (-1))).heap.size := by rw [size_setCell]; exact hl5
      have Q6 := Lib.hid k1
      have S6 := Lib.hid ((S4.out.trans (Step.no F5)).trans k2)
      clear k1 k2 c2 f2 L5 F5 hl5 hg
      generalize w5.setCell ⟨b, 2, none⟩ (.int .i64 (-1)) = w6 at Q6 S6 L6 hl6 ⊢
      have HNX := Lib.hid (next_all Q6.out.at rfl (hi.gone id).qnodup)
      have L6 := Lib.hid L6
      have HL6 := Lib.hid hl6
      clear hl6
      go_wp2_with fail
      refine HNX.out.mono ?_
      rintro e wn ⟨F', v', rfl, hr, ha, hs⟩
      obtain ⟨B, cc, rfl⟩ := own_form hr.own
      have e2 : nextR ⟨(gone s id).L, (gone s id).most, -1, (gone s id).q⟩ = nextR (gone s id) := rfl
      rw [e2] at hr ha ⊢
      obtain ⟨l, hl⟩ : ∃ l, l = (nextR (gone s id)).2 := ⟨_, rfl⟩
      rw [← hl] at hr ⊢
      obtain ⟨m, hm⟩ : ∃ m, m = l.length := ⟨_, rfl⟩
      have hml : m ≤ 2 := by
        rw [hm, hl]
        unfold nextR becomeR
        split
        · simp
        · simp
      have R4 := Lib.hid hr
      have A4 := Lib.hid ha
      have T4 := Lib.hid hs
      have HM2 := Lib.hid hm
      have HLL := Lib.hid hl
      have hgn : ∀ k, (fun k => (F k ∨ Of (.slice A' n' c') k) ∨ G k) k → k ≠ g := fun k hk e => by have := Q4.out.lt k hk; have := HG.out; omega
      have L7 := Lib.hid (L6.out.fr hs.1 (fun hF => hgn g hF rfl))
      have O4 := Lib.hid (show wn.ownsRow 0 79 2 (.slice (some ⟨g, 0, none⟩) 1 1) 1 [.int .i64 id, .int .i64 0] from ⟨rfl, .inr ⟨g, 1, _, rfl, Nat.zero_le _, L7.out, Nat.le_refl _, by unfold maxLen; decide, rfl, rfl⟩⟩)
      have NW := Lib.hid (own_news R4.out.own (by decide))
      have hfl : (l.flatMap encM).length = m * 2 := by rw [fm2, ← HM2.out]
      rw [← hm]
      have HFL := Lib.hid hfl
      have HGN := Lib.hid hgn
      clear hr ha hs hm hl hfl hgn
      go_wp2_with (at_builtin; go_loud (refine wp_app (B := B) (m := m) (c := cc) (news := l.flatMap encM) rfl (.tmp 46) (.tmp 48) 61 rfl 79 (.agg #[.int .i64 0, .int .i64 0]) 2 16 Try.underlying61 infoH rfl (by decide) (.slice (some ⟨g, 0, none⟩) 1 1) 1 _ rfl (O4.out) rfl HFL.out NW.out (encM_one _) (by omega) (by unfold maxLen; omega) ?_; intro v4 w4 p1 p2 p3; have P1 := Lib.hid p1; have P2 := Lib.hid p2; have P3 := Lib.hid p3; clear p1 p2 p3))
      go_ret2
      have hF' : ∀ k, F' k → k ≠ g := fun k hk e => by
        subst e
        rcases T4.out.2 k hk with g1 | g1
        · exact HGN.out k g1 rfl
        · have := g1.1; have := HL6.out; omega
      have hz4 := T4.out.1.size
      have hz6 := S6.out.1.size
      have hl6 := HL6.out
      have hgg := HG.out
      have hz0 := S4.out.1.size
      rw [HE2.out]
      refine ⟨F', v4, rfl, sh_app (w1 := wn) (g := g) (m := (id, 0)) (by rw [← HLL.out, ← HM2.out]; exact P1.out) (fun k hk => (P3.out k hk).elim (fun h => .inl (of_some h)) .inr) ⟨by omega, by omega⟩ hF' A4.out.lt (by omega) P2.out.size, A4.out.fr P2.out (fun k hk h => hF' k hk (of_some h)), app_step (S6.out.trans T4.out) P2.out (by omega)⟩
    · have e : leaveR s id = (gone s id, [(id, 0)], 0) := by unfold leaveR; rw [if_neg H1.out, if_pos h2]
      rw [e]
      have hwe : (wr != id) = true := by rw [hwr]; simpa using h2
      have HE2 := Lib.hid e
      clear e h2 hwr L5 hl5 hg f2
      go_wp2_with fail
      go_ret2
      rw [HE2.out]
      exact tells_one id 0 Q4.out.at S4.out
end
end Seat
end Go.Proofs.Ytepnjmgacfjhiaa
