/- Package seat: become, next, wants. Printed by gen_seato.py. -/
import Derived.Test.YtepnjmgacfjhiaaSeatN
namespace Go.Proofs.Ytepnjmgacfjhiaa
open Go.RowKit
set_option linter.unusedVariables false
set_option linter.unusedSimpArgs false
namespace Seat
open Sls
def Became (s : St) (l : Sh) (F : Nat → Prop) (b : Nat) (w : World) (e : Ending) (w' : World) : Prop := ∃ F' v, e = .returned v ∧ ShR w w' F' v l ∧ SAt w' F' b s ∧ Step F w F' w'
theorem of_nil {k : Nat} (h : Of (.slice none 0 0) k) : False := by cases h
theorem of_some {g k n c : Nat} (h : Of (.slice (some ⟨g, 0, none⟩) n c) k) : k = g := by
  have h' : some g = some k := h
  injection h' with h'
  exact h'.symm
section
variable {w : World} {F : Nat → Prop} {b : Nat} {s : St}
set_option maxRecDepth 100000 in
set_option maxHeartbeats 4000000 in
theorem become_any (h : SAt w F b s) (hw : s.wr = -1 ∨ 0 ≤ s.wr) (id : Int) : Calls Try.prog 53 #[.pointer (some ⟨b, 0, none⟩), .int .i64 id] w (Became ⟨s.L, s.most, id, s.q.erase id⟩ ((if 0 ≤ s.wr then [(s.wr, 1)] else []) ++ [(id, 2)]) F b w) := by
  have HH := Lib.hid (held_any h)
  obtain ⟨v, q, G, hq⟩ := h
  have HM := Lib.hid (fun W => meth_Drop q W)
  have hme := HM.out
  rcases hw with hw | hw
  · have hb : (s.wr != -1) = false := by rw [hw]; rfl
    rw [hb] at HH
    rw [if_neg (by omega)]
    have HQ := Lib.hid hq
    have c3 := hq.c3
    clear hq hb hw
    go_enter Try.func53, Try.ntmps53
    go_wp2_with fail
    refine HH.out.mono ?_
    rintro e w0 ⟨rfl, rfl⟩
    go_wp2_with fail
    refine (Qint.drop_any id HQ.out.sp.que).mono ?_
    rintro e w2 ⟨rfl, hq2, hs2⟩
    obtain ⟨k1, k2⟩ := HQ.out.queue hq2 hs2
    have H2 := Lib.hid k1
    have S2 := Lib.hid k2
    have d2 := k1.c2
    have f2 := k1.f 2
    clear k1 k2 hq2 hs2 c3
    go_upto_region 6 with (fail)
    obtain ⟨k1, k2⟩ := H2.out.setW id
    have H3 := Lib.hid k1
    have S3 := Lib.hid (S2.out.trans k2)
    clear k1 k2 d2 f2
    generalize w2.setCell ⟨b, 2, none⟩ (.int .i64 id) = w3 at H3 S3 ⊢
    go_wp2_with (at_builtin; go_loud (refine wp_push rfl (.tmp 26) (.tmp 29) 61 rfl 79 (.agg #[.int .i64 0, .int .i64 0]) 2 16 Try.underlying61 infoH rfl (by decide) (.slice none 0 0) _ _ rfl (World.ownsRow_nil _ _ _ _) #[.int .i64 id, .int .i64 2] rfl rfl (by intro u hu; simp at hu; rcases hu with rfl | rfl <;> rfl) (by omega) (by unfold maxLen; omega) ?_; intro g4 cap4 w4 p1 p2 p3; have P1 := Lib.hid p1; have P2 := Lib.hid p2; have P3 := Lib.hid p3; clear p1 p2 p3))
    go_ret
    have H4 := H3.out.fr P2.out (fun k _ hk => of_nil hk)
    have hz := S3.out.1.size
    have hbl := HQ.out.lt
    refine ⟨fun k => F k ∨ G k, _, rfl, ⟨P1.out, fun k hk => ?_, fun k hk hF => ?_⟩, H4.at, S3.out.trans (Step.no (P2.out.mono (fun k hk _ => of_nil hk)))⟩
    · have := of_some hk
      subst this
      rcases P3.out with g | g
      · exact (of_nil g).elim
      · exact ⟨Nat.le_trans hz g.1, g.2⟩
    · have := of_some hk
      subst this
      rcases P3.out with g | g
      · exact (of_nil g).elim
      · have := H3.out.lt _ hF
        have := g.1
        omega
  · have hb : (s.wr != -1) = true := by simp; omega
    rw [hb] at HH
    rw [if_pos hw]
    obtain ⟨wr, hwr⟩ : ∃ wr, wr = s.wr := ⟨_, rfl⟩
    have c2 := hq.c2
    rw [← hwr] at c2 ⊢
    have HQ := Lib.hid hq
    have HWR := Lib.hid hwr
    clear hq hb hw hwr
    go_enter Try.func53, Try.ntmps53
    go_wp2_with fail
    refine HH.out.mono ?_
    rintro e w0 ⟨rfl, rfl⟩
    go_wp2_with (at_builtin; go_loud (refine wp_push rfl (.tmp 8) (.tmp 14) 61 rfl 79 (.agg #[.int .i64 0, .int .i64 0]) 2 16 Try.underlying61 infoH rfl (by decide) (.slice none 0 0) _ _ rfl (World.ownsRow_nil _ _ _ _) #[.int .i64 wr, .int .i64 1] rfl rfl (by intro u hu; simp at hu; rcases hu with rfl | rfl <;> rfl) (by omega) (by unfold maxLen; omega) ?_; intro g4 cap4 w4 p1 p2 p3; have P1 := Lib.hid p1; have P2 := Lib.hid p2; have P3 := Lib.hid p3; have c3 := (HQ.out.fr p2 (fun k _ hk => of_nil hk)).c3; clear p1 p2 p3))
    obtain ⟨g1, hg1⟩ : ∃ g1, g1 = g4 := ⟨_, rfl⟩
    subst hg1
    have H1 := Lib.hid (HQ.out.fr P2.out (fun k _ hk => of_nil hk))
    have N1 := Lib.hid (P3.out.elim (fun g => (of_nil g).elim) (fun g => g))
    have O1 := Lib.hid P1.out
    have F1 := Lib.hid (P2.out.mono (F' := No) (fun k hk _ => of_nil hk))
    obtain ⟨w1, hw1⟩ : ∃ w1, w1 = w4 := ⟨_, rfl⟩
    subst hw1
    obtain ⟨cap1, hcap1⟩ : ∃ cap1, cap1 = cap4 := ⟨_, rfl⟩
    subst hcap1
    clear P1 P2 P3 c2
    refine (Qint.drop_any id H1.out.sp.que).mono ?_
    rintro e w2 ⟨rfl, hq2, hs2⟩
    obtain ⟨k1, k2⟩ := H1.out.queue hq2 hs2
    have hFg : ∀ k, (F k ∨ G k) → k ≠ g1 := fun k hk e => by
      have := N1.out.1
      have h1 := hk.elim (HQ.out.lt k) (fun g => HQ.out.lt k (HQ.out.fg k g))
      omega
    have O2 := Lib.hid (own_fr O1.out hs2.1 (fun k hk hG => by have := of_some hk; exact hFg k (.inr hG) this))
    have H2 := Lib.hid k1
    have S2 := Lib.hid ((Step.no (F := F) F1.out).trans k2)
    have d2 := k1.c2
    have f2 := k1.f 2
    have HFG := Lib.hid hFg
    clear k1 k2 hq2 hs2 hFg
    go_upto_region 6 with (fail)
    obtain ⟨k1, k2⟩ := H2.out.setW id
    have hbf : Fr (fun k => k = b) w2 (w2.setCell ⟨b, 2, none⟩ (.int .i64 id)) := Fr.setCell (F := fun k => k = b) (Fr.refl _ _) (p := ⟨b, 2, none⟩) (.inl rfl) _
    have O3 := Lib.hid (own_fr O2.out hbf (fun k hk e => by have := of_some hk; have e : k = b := e; exact HFG.out b (.inl HQ.out.fb) (by omega)))
    have H3 := Lib.hid k1
    have S3 := Lib.hid (S2.out.trans k2)
    clear k1 k2 d2 f2 hbf
    generalize w2.setCell ⟨b, 2, none⟩ (.int .i64 id) = w3 at H3 S3 O3 ⊢
    go_wp2_with (at_builtin; go_loud (refine wp_push rfl (.tmp 26) (.tmp 29) 61 rfl 79 (.agg #[.int .i64 0, .int .i64 0]) 2 16 Try.underlying61 infoH rfl (by decide) (.slice (some ⟨g1, 0, none⟩) 1 cap1) _ _ rfl (O3.out) #[.int .i64 id, .int .i64 2] rfl rfl (by intro u hu; simp at hu; rcases hu with rfl | rfl <;> rfl) (by omega) (by unfold maxLen; omega) ?_; intro g4 cap4 w4 p1 p2 p3; have P1 := Lib.hid p1; have P2 := Lib.hid p2; have P3 := Lib.hid p3; clear p1 p2 p3))
    go_ret
    have H4 := H3.out.fr P2.out (fun k hF hk => HFG.out k hF (of_some hk))
    have hz := S3.out.1.size
    have hz2 := P2.out.size
    have hn1 := N1.out
    refine ⟨fun k => F k ∨ G k, _, rfl, ⟨P1.out, fun k hk => ?_, fun k hk hF => ?_⟩, H4.at, ?_⟩
    · have := of_some hk
      subst this
      rcases P3.out with g | g
      · have := of_some g
        subst this
        exact ⟨hn1.1, Nat.lt_of_lt_of_le (own_lt O3.out _ g) hz2⟩
      · exact ⟨Nat.le_trans hz g.1, g.2⟩
    · have := of_some hk
      subst this
      rcases P3.out with g | g
      · exact HFG.out _ hF (of_some g)
      · have := H3.out.lt _ hF
        have := g.1
        omega
    · refine ⟨S3.out.1.trans P2.out (fun k hk hl => ?_), fun k hk => ?_⟩
      · have := of_some hk
        have := hn1.1
        omega
      · rcases S3.out.2 k hk with g | g
        · exact .inl g
        · exact .inr ⟨g.1, Nat.lt_of_lt_of_le g.2 hz2⟩
theorem next_none (h : SAt w F b s) (hq0 : s.q = []) : Calls Try.prog 58 #[.pointer (some ⟨b, 0, none⟩)] w (Became s [] F b w) := by
  obtain ⟨v, q, G, hq⟩ := h
  have hme := fun W => meth_Take q W
  have c3 := hq.c3
  have hqq := hq.sp.que
  rw [hq0] at hqq
  have HT := Lib.hid (Qint.take_no hqq)
  have HQ := Lib.hid hq
  clear hq hqq
  go_enter Try.func58, Try.ntmps58
  go_wp2_with fail
  refine HT.out.mono ?_
  rintro e w0 ⟨rfl, rfl⟩
  go_wp2_with fail
  go_ret
  exact ⟨F, _, rfl, ShR.nil _ _ _, HQ.out.at, Step.refl _ _⟩
theorem next_some (h : SAt w F b s) (hw : s.wr = -1) {x : Int} {t : List Int} (hq0 : s.q = x :: t) : Calls Try.prog 58 #[.pointer (some ⟨b, 0, none⟩)] w (Became ⟨s.L, s.most, x, t.erase x⟩ [(x, 2)] F b w) := by
  obtain ⟨v, q, G, hq⟩ := h
  have hme := fun W => meth_Take q W
  have c3 := hq.c3
  have hqq := hq.sp.que
  rw [hq0] at hqq
  have HT := Lib.hid (Qint.take_yes x t hqq)
  have HQ := Lib.hid hq
  have HW := Lib.hid hw
  clear hq hqq hw
  go_enter Try.func58, Try.ntmps58
  go_wp2_with fail
  refine HT.out.mono ?_
  rintro e w1 ⟨rfl, hq1, hs1⟩
  obtain ⟨k1, k2⟩ := HQ.out.queue hq1 hs1
  have HB := Lib.hid (become_any k1.at (.inl HW.out) x)
  have S1 := Lib.hid k2
  clear k1 k2 hq1 hs1
  go_wp2_with fail
  refine HB.out.mono ?_
  rintro e w2 ⟨F', v', rfl, hr, ha, hs⟩
  have S2 := Lib.hid (S1.out.trans hs)
  have R2 := Lib.hid hr
  have A2 := Lib.hid ha
  clear hr ha hs
  go_wp2_with fail
  go_ret
  have hz := S1.out.1.size
  rw [show (⟨s.L, s.most, s.wr, t⟩ : St).wr = -1 from HW.out, if_neg (by decide)] at R2
  exact ⟨F', v', rfl, ⟨R2.out.own, fun k hk => ⟨Nat.le_trans hz (R2.out.new k hk).1, (R2.out.new k hk).2⟩, R2.out.off⟩, A2.out, S2.out⟩
set_option maxRecDepth 100000 in
set_option maxHeartbeats 4000000 in
theorem wants_any (h : SAt w F b s) (id : Int) : Calls Try.prog 54 #[.pointer (some ⟨b, 0, none⟩), .int .i64 id] w fun e w' => e = .returned (.tuple #[.int .i64 (if wantsR s id = 0 then levelR s.L id else 0), .int .i64 (wantsR s id)]) ∧ Fr No w w' := by
  have HM := Lib.hid (made_any h)
  have FI := Lib.hid (find_any h id)
  obtain ⟨v, q, G, hq⟩ := h
  obtain ⟨A, c, rfl⟩ := hq.form
  have HQ := Lib.hid hq
  rcases placeM_cases s.L id with ⟨p1, p2, -⟩ | ⟨k, hk, p1, p2, p3, p4, -⟩
  · have e : wantsR s id = 7 := by unfold wantsR; rw [if_pos p2]
    rw [e, if_neg (by decide)]
    rw [p1] at FI
    clear hq e p1 p2
    go_enter Try.func54, Try.ntmps54
    go_wp2_with fail
    refine HM.out.mono ?_
    rintro e w0 ⟨rfl, rfl⟩
    go_wp2_with fail
    refine FI.out.mono ?_
    rintro e w2 ⟨rfl, hf⟩
    have HF := Lib.hid hf
    clear hf
    go_wp2_with fail
    go_ret2
    exact ⟨rfl, HF.out⟩
  · rw [p1] at FI
    obtain ⟨wr, hwr⟩ : ∃ wr, wr = s.wr := ⟨_, rfl⟩
    by_cases g1 : s.wr = id
    · have e : wantsR s id = 9 := by unfold wantsR; rw [if_neg (by simp [p2]), if_pos g1]
      rw [e, if_neg (by decide)]
      have hwe : (wr == id) = true := by rw [hwr]; simpa using g1
      have HWR := Lib.hid hwr
      clear hq e p1 p2 p3 p4 g1 hwr
      go_enter Try.func54, Try.ntmps54
      go_wp2_with fail
      refine HM.out.mono ?_
      rintro e w0 ⟨rfl, rfl⟩
      go_wp2_with fail
      refine FI.out.mono ?_
      rintro e w2 ⟨rfl, hf⟩
      have HF := Lib.hid hf
      have c2 := (HQ.out.no hf).c2
      rw [← HWR.out] at c2
      clear hf
      go_wp2_with fail
      go_ret2
      exact ⟨rfl, HF.out⟩
    · have hwe : (wr == id) = false := by rw [hwr]; simpa using g1
      have HWR := Lib.hid hwr
      obtain ⟨ad, hA, -, m0, m1⟩ := mem_at (fun _ _ _ _ h => h) (own_rm hq.sp.row) (own_lt hq.sp.row) (Fr.refl No w) hk
      subst hA
      have hadl : ad.block < w.heap.size := own_lt hq.sp.row _ rfl
      rw [← p4] at m1
      obtain ⟨lv, hlv⟩ : ∃ lv, lv = levelR s.L id := ⟨_, rfl⟩
      rw [← hlv] at m1 ⊢
      obtain ⟨n, hn⟩ : ∃ n, n = s.L.length := ⟨_, rfl⟩
      rw [← hn] at hk
      have HN := Lib.hid hn
      have M1 := Lib.hid m1
      by_cases g2 : levelR s.L id < 2
      · have e : wantsR s id = 10 := by unfold wantsR; rw [if_neg (by simp [p2]), if_neg g1, if_pos g2]
        rw [e, if_neg (by decide)]
        have hl2 : lv < 2 := by rw [hlv]; exact g2
        clear hq e p1 p2 p3 p4 g1 g2 hwr hlv m0 m1 hn
        go_enter Try.func54, Try.ntmps54
        go_wp2_with fail
        refine HM.out.mono ?_
        rintro e w0 ⟨rfl, rfl⟩
        go_wp2_with fail
        refine FI.out.mono ?_
        rintro e w2 ⟨rfl, hf⟩
        have HF := Lib.hid hf
        have c2 := (HQ.out.no hf).c2
        have c0 := (HQ.out.no hf).c0
        rw [← HWR.out] at c2
        rw [← HN.out] at c0
        have m1 := (hf.cell (p := ⟨(ad.add (k * 2)).block, (ad.add (k * 2)).off + 1, none⟩) (by show (ad.add (k * 2)).block < _; rw [block_add]; exact hadl) (fun h => h)).trans M1.out
        clear hf
        go_wp2_with fail
        go_ret2
        exact ⟨rfl, HF.out⟩
      · have e : wantsR s id = 0 := by unfold wantsR; rw [if_neg (by simp [p2]), if_neg g1, if_neg g2]
        rw [e, if_pos rfl]
        have hl2 : 2 ≤ lv := by rw [hlv]; omega
        clear hq e p1 p2 p3 p4 g1 g2 hwr hlv m0 m1 hn
        go_enter Try.func54, Try.ntmps54
        go_wp2_with fail
        refine HM.out.mono ?_
        rintro e w0 ⟨rfl, rfl⟩
        go_wp2_with fail
        refine FI.out.mono ?_
        rintro e w2 ⟨rfl, hf⟩
        have HF := Lib.hid hf
        have c2 := (HQ.out.no hf).c2
        have c0 := (HQ.out.no hf).c0
        rw [← HWR.out] at c2
        rw [← HN.out] at c0
        have m1 := (hf.cell (p := ⟨(ad.add (k * 2)).block, (ad.add (k * 2)).off + 1, none⟩) (by show (ad.add (k * 2)).block < _; rw [block_add]; exact hadl) (fun h => h)).trans M1.out
        clear hf
        go_wp2_with fail
        go_ret2
        exact ⟨rfl, HF.out⟩
end
end Seat
end Go.Proofs.Ytepnjmgacfjhiaa
