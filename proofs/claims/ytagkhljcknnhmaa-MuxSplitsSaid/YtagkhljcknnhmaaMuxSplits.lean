/- Statement MuxSplits of package mux. -/
import Derived.Test.YtagkhljcknnhmaaMuxGot
namespace Go.Proofs.Ytagkhljcknnhmaa
open Go.RowKit
set_option linter.unusedVariables false
set_option linter.unusedSimpArgs false
namespace Mux
set_option maxHeartbeats 1000000 in
theorem walk_MuxSplits (W : World) (v0 : Value) (x0 : (List Str)) (h0 : (RSl 1 RStr) W (Ahead W.heap.size) [v0] x0) : Calls Try.prog 7 #[v0] W fun e w' => e = .returned (.bool true) ∧ Fr No W w' := by
  obtain ⟨A, cap, rfl, hc1, hc2, hel⟩ := h0.strs
  clear h0
  unfold maxLen at hc2
  have Hel := Lib.hid hel
  clear hel
  go_enter Try.func7, Try.ntmps7
  by_cases b0 : 20 < x0.length
  · go_wp2_with (go_at_call 20; refine (works_any _).mono ?_; rintro e w' ⟨rfl, hf⟩; have Hf := Lib.hid hf; clear hf)
    go_ret
    exact ⟨rfl, Hf.out⟩
  go_wp2_with fail
  go_loopw [4, 5, 6] (fun al o iv wr => ∃ (k m p : Nat) (s op : Str) (F : Nat → Prop) (got : List (Str × Bool)), iv = .int .i64 k ∧ al = .string ⟨s.toArray⟩ ∧ k ≤ x0.length ∧ s.length ≤ 60 * k ∧ m ≤ 2000 * k ∧ Hid (m = got.length) ∧ Hid (MI W wr s o F p op got (2000 * k))) (fun _ _ i _ => x0.length - (intOf i).toNat)
  case atStart => exact ⟨0, 0, 0, [], [], _, [], rfl, rfl, by omega, by simp, by omega, rfl, MI.new W⟩
  case round =>
    obtain ⟨k, m, p, s, op, F, got, rfl, rfl, hk, hs, hm, Hm, Hi⟩ := hrel
    obtain ⟨A1, c1, hu⟩ := own_form Hi.out.own
    rw [← Hm.out] at hu
    subst hu
    by_cases hlt : k < x0.length
    · obtain ⟨ad, rfl, hSa, hcell, hxl⟩ := Hel.out k hlt
      obtain ⟨x, hx⟩ : ∃ x, x = x0[k] := ⟨_, rfl⟩
      rw [← hx] at hcell hxl
      clear hx
      have hcell' : wr.cell? (ad.add k) = some (.string ⟨x.toArray⟩) := (Hi.out.fr.cell (by rw [block_add]; exact hSa) (fun h => h)).trans hcell
      by_cases hbig : 60 < x.length
      · go_wp2_with (go_at_call 20; refine (works_any _).mono ?_; rintro e w' ⟨rfl, hf⟩; have Hf := Lib.hid hf; clear hf)
        go_ret
        exact ⟨rfl, Hi.out.fr.then_no Hf.out⟩
      · have hop := Hi.out.p4
        obtain ⟨p1, op1, hr⟩ : ∃ p1 op1, (feedR p op [] [] x).1 = (p1, op1) := ⟨_, _, rfl⟩
        obtain ⟨L, hL⟩ : ∃ L, flushR (feedR p op [] [] x).2.1 (feedR p op [] [] x).2.2 = L := ⟨_, rfl⟩
        have hLz := feed_sz x p op [] [] hop.1
        rw [hL] at hLz
        have hLz2 := sz_le (N := 2000) (l := L) (Nat.le_trans hLz (by simp [sz, tot]; omega))
        clear hLz
        obtain ⟨n, hn⟩ : ∃ n, n = L.length := ⟨_, rfl⟩
        have hn2 : n ≤ 2000 := by rw [hn]; exact hLz2.2.1
        have Hn := Lib.hid hn
        have HLz := Lib.hid hLz2
        have Hr := Lib.hid hr
        have HL := Lib.hid hL
        clear hr hL hn hLz2
        go_wp2_with fail
        refine (feed_any wr F W.heap.size p op x Hi.out.sat hop.1 (by omega)).mono ?_
        intro e w1 hp
        obtain ⟨F1, A2, c2, rfl, h1, h2, h3, h4⟩ := hp.known Hr.out HL.out
        have h1' : w1.ownsRow 0 74 2 (.slice A2 n c2) L.length (L.flatMap encP) := by rw [Hn.out]; exact h1
        have H1 := Lib.hid h1'
        have H2 := Lib.hid h2
        have H3 := Lib.hid h3
        rw [← Hn.out]
        clear hp h1 h2 h3 h4 h1'
        go_wp2_with fail
        refine (parts_any (.slice A2 n c2) L w1 (Of (.slice A2 n c2)) (fun j hj => (H1.out.lt j hj).2) (own_parts H1.out (fun y hy => Nat.le_trans (HLz.out.1 y hy) (by unfold maxLen; decide))) (by have := HLz.out.2.1; omega)).mono ?_
        rintro e w2 ⟨v', rfl, h5, h6, h7⟩
        obtain ⟨A3, c3, hu⟩ := own_form h5
        rw [← Hn.out] at hu
        subst hu
        rw [← Hn.out] at h5
        have H5 := Lib.hid h5
        have H6 := Lib.hid (show Fr No w1 w2 from h6)
        have H0 := Lib.hid (own_fr (own_fr Hi.out.own H3.out.1 (fun j hj => (Hi.out.dis j hj).1)) H6.out (fun j _ h => h))
        have H0 : Hid (w2.ownsRow 0 48 2 (.slice A1 m c1) m (got.flatMap encP)) := by have := H0.out; rwa [← Hm.out] at this
        clear h5 h6 h7
        go_wp2_with (at_builtin; go_loud (refine wp_app (news := L.flatMap encP) rfl (.tmp 32) (.tmp 38) 46 rfl 48 (.agg #[.string ByteArray.empty, .bool false]) 2 24 Try.underlying46 infoR rfl (by decide) (.slice A1 m c1) m (got.flatMap encP) rfl H0.out rfl (by rw [encP_len, ← Hn.out]) (own_news H5.out) (encP_one L) (by omega) (by unfold maxLen; omega) ?_; intro v'' w3 h8 h9 h10; have h8' : w3.ownsRow 0 48 2 v'' (got.length + L.length) (got.flatMap encP ++ L.flatMap encP) := (by rw [← Hm.out, ← Hn.out]; exact h8); have hi2 := Hi.out.fed Hr.out HL.out H2.out H3.out H6.out h8' h9 h10 (M := 2000 * (k + 1)) (by omega); have Hi2 := Lib.hid hi2; obtain ⟨A4, c4, hu⟩ := own_form h8; subst hu; clear h8 h9 h10 h8' hi2))
        refine (split_any (s ++ x) w3 (by simp; omega)).mono ?_
        rintro e w4 ⟨v5, l5, rfl, h1, h2, h3, h4, h5⟩
        have hck : checkR (run 0 [] (s ++ x)).1.1 = checkR p1 := by rw [Hi2.out.run]
        have htk : tk l5 = tk (got ++ L) := by rw [h3, Hi2.out.run]
        have hjj := joinR_tk htk
        rw [hck]
        simp only [List.length_append] at h4 h5
        have Hi3 := Lib.hid (Hi2.out.quiet h2.1)
        have O5 := Lib.hid h1
        have J := Lib.hid hjj
        obtain ⟨n5, hn5⟩ : ∃ n5, n5 = l5.length := ⟨_, rfl⟩
        obtain ⟨A5, c5, hu⟩ := own_form h1
        rw [← hn5] at hu
        subst hu
        have h4' : tot l5 ≤ 1000000 := by omega
        have h5' : l5.length ≤ 10000000 := by omega
        have H4 := Lib.hid h4'
        have H5 := Lib.hid h5'
        have Hle := Lib.hid (Hi3.out.le (by omega))
        clear hck htk hjj h1 h2 h3 h4 h5 h4' h5' hn5
        go_wp2_with fail
        refine (join_any _ (got ++ L) w4 (Of (.slice A4 (m + n) c4)) (fun j hj => (Hi3.out.own.lt j hj).2) (own_parts Hi3.out.own Hle.out.1) Hle.out.2.1 (Nat.le_trans Hle.out.2.2 (by decide))).mono ?_
        rintro e w5 ⟨v6, rfl, h1, h2⟩
        have O6 := Lib.hid h1
        have O5 : Hid _ := Lib.hid (own_fr O5.out h2.1 (fun _ _ h => h))
        have Hi3 : Hid _ := Lib.hid (Hi3.out.quiet h2.1)
        clear h1 h2
        go_wp2_with fail
        refine (join_any _ l5 w5 (Of (.slice A5 n5 c5)) (fun j hj => (O5.out.lt j hj).2) (own_parts O5.out (fun y hy => Nat.le_trans (tot_mem hy) (Nat.le_trans H4.out (by unfold maxLen; decide)))) H5.out (Nat.le_trans H4.out (by decide))).mono ?_
        rintro e w6 ⟨v7, rfl, h1, h2⟩
        have O7 := Lib.hid h1
        have O6 : Hid _ := Lib.hid (own_fr O6.out h2.1 (fun _ _ h => h))
        have Hi3 : Hid _ := Lib.hid (Hi3.out.quiet h2.1)
        clear h1 h2
        go_wp2_with fail
        have hsm := same_any v6 v7 _ _ w6 _ _ (own_parts O6.out (joinR_le Hle.out.2.2)) (own_parts O7.out (joinR_le H4.out))
        rw [decide_eq_true J.out.symm] at hsm
        refine hsm.mono ?_
        clear hsm
        rintro e w7 ⟨rfl, n7, rfl⟩
        have Hi3 : Hid _ := Lib.hid (Hi3.out.quiet ((Fr.refl No w6).drewN n7))
        go_wp2_with fail
        refine (check_any _ _ _ _ _ Hi3.out.sat Hi3.out.p4.1).mono ?_
        rintro e w8 ⟨rfl, rfl⟩
        go_wp2_with fail
        go_roundw
        case rel => exact ⟨k + 1, m + n, p1, s ++ x, op1, F1, got ++ L, by go_num, rfl, by omega, by simp; omega, by omega, (show m + n = _ by rw [List.length_append, ← Hm.out, ← Hn.out]), Hi3.out⟩
        case measure => simp [intOf]; omega
    · go_wp2_with fail
      refine (works_any _).mono ?_
      rintro e w1 ⟨rfl, hf⟩
      have Hf := Lib.hid hf
      clear hf
      go_wp2_with fail
      go_ret
      exact ⟨rfl, Hi.out.fr.then_no Hf.out⟩
end Mux
end Go.Proofs.Ytagkhljcknnhmaa
