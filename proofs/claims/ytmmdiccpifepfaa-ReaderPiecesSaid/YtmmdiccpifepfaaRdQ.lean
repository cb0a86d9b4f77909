/- ReaderPieces: whatever it is given, it returns true. Printed by gen_rdq.py. -/
import Derived.Test.YtmmdiccpifepfaaRdO
namespace Go.Proofs.Ytmmdiccpifepfaa
open Go.RowKit
set_option linter.unusedVariables false
set_option linter.unusedSimpArgs false
namespace Rd
open Ans Digit Sls Word
open Mux (run)
/-- Two readers, apart. -/
structure Two (W wr : World) (Aa Ab : Nat → Prop) (ga gb : Nat) (sa sb : Str) : Prop where
  a : RA wr Aa ga (allR sa) (run 0 [] sa).1.1 (run 0 [] sa).1.2
  b : RA wr Ab gb (allR sb) (run 0 [] sb).1.1 (run 0 [] sb).1.2
  dis : ∀ q, Aa q → ¬ Ab q
  fr : Fr No W wr
  na : ∀ q, Aa q ∨ Ab q → W.heap.size ≤ q
section
variable {W wr w' : World} {Aa Ab A' : Nat → Prop} {ga gb : Nat} {sa sb s' : Str}
theorem Two.no (h : Two W wr Aa Ab ga gb sa sb) (hf : Fr No wr w') : Two W w' Aa Ab ga gb sa sb := ⟨h.a.no hf, h.b.no hf, h.dis, h.fr.then_no hf, h.na⟩
theorem Two.swap (h : Two W wr Aa Ab ga gb sa sb) : Two W wr Ab Aa gb ga sb sa := ⟨h.b, h.a, fun q hq hq' => h.dis q hq' hq, h.fr, fun q hq => h.na q hq.symm⟩
theorem Two.stepB (h : Two W wr Aa Ab ga gb sa sb) (hra : RA w' A' gb (allR s') (run 0 [] s').1.1 (run 0 [] s').1.2) (st : Step Ab wr A' w') : Two W w' Aa A' ga gb sa s' :=
  ⟨h.a.fr st.1 h.dis, hra, fun q hq hq' => (st.2 q hq').elim (h.dis q hq) (fun h1 => by have := h.a.lt q hq; have := h1.1; omega), h.fr.trans st.1 (fun q hq hl => by have := h.na q (.inr hq); omega), fun q hq => hq.elim (fun h1 => h.na q (.inl h1)) (fun h1 => (st.2 q h1).elim (fun h2 => h.na q (.inr h2)) (fun h2 => by have := h.fr.size; have := h2.1; omega))⟩
theorem Two.start {w1 w2 : World} (h1 : RA w1 (fun k => k = ga) ga (allR []) (run 0 [] []).1.1 (run 0 [] []).1.2) (f1 : Fr No W w1) (n1 : New W w1 ga) (h2 : RA w2 (fun k => k = gb) gb (allR []) (run 0 [] []).1.1 (run 0 [] []).1.2) (f2 : Fr No w1 w2) (n2 : New w1 w2 gb) : Two W w2 (fun k => k = ga) (fun k => k = gb) ga gb [] [] :=
  ⟨h1.no f2, h2, fun q hq hq' => by have := n1.2; have := n2.1; omega, f1.then_no f2, fun q hq => by have := n1.1; have := n2.1; have := f1.size; omega⟩
end
/-- The views that were laid so far. -/
structure LV (W3 wr : World) (b12 : Nat) (V : List Vw) (k : Nat) (Av : Option Addr) (cv : Nat) (vq vo : Value) : Prop where
  blk : Blk wr b12 31 #[vq, .slice Av k cv, vo, .bool false]
  own : wr.ownsRow 0 TV 3 (.slice Av k cv) k ((V.take k).flatMap encV)
  new : ∀ q, Of (.slice Av k cv) q → New W3 wr q
  fr : Fr (fun q => q = b12) W3 wr
theorem LV.next {W3 wr w9 : World} {b12 k cv g7 c8 : Nat} {V : List Vw} {Av : Option Addr} {vq vo : Value} {v : Vw} (h : LV W3 wr b12 V k Av cv vq vo) (hb : b12 < W3.heap.size) (ht : (V.take (k + 1)).flatMap encV = (V.take k).flatMap encV ++ encV v)
    (q1 : w9.ownsRow 0 TV 3 (.slice (some ⟨g7, 0, none⟩) (k + 1) c8) (k + 1) ((V.take k).flatMap encV ++ encV v)) (q2 : Fr (Of (.slice Av k cv)) wr w9) (q3 : Of (.slice Av k cv) g7 ∨ New wr w9 g7) :
    LV W3 (w9.setCell ⟨b12, 1, none⟩ (.slice (some ⟨g7, 0, none⟩) (k + 1) c8)) b12 V (k + 1) (some ⟨g7, 0, none⟩) c8 vq vo := by
  have hnb : ¬ Of (.slice Av k cv) b12 := fun h' => by have h7 := (h.new _ h').1; omega
  have hg : W3.heap.size ≤ g7 ∧ g7 < w9.heap.size := by
    rcases q3 with h3 | h3
    · exact ⟨(h.new _ h3).1, Nat.lt_of_lt_of_le (h.new _ h3).2 q2.size⟩
    · exact ⟨Nat.le_trans h.fr.size h3.1, h3.2⟩
  have hfx : Fr (fun q => q = b12) w9 (w9.setCell ⟨b12, 1, none⟩ (.slice (some ⟨g7, 0, none⟩) (k + 1) c8)) := Fr.setCell (F := fun q => q = b12) (Fr.refl _ _) (p := ⟨b12, 1, none⟩) (.inl rfl) _
  refine ⟨by simpa using (h.blk.fr q2 hnb).put 1 (.slice (some ⟨g7, 0, none⟩) (k + 1) c8), ?_, fun q hq => ?_, (h.fr.trans q2 (fun q hq hl => by have h7 := (h.new _ hq).1; omega)).trans hfx (fun q hq _ => hq)⟩
  · rw [ht]
    exact own_fr q1 hfx (fun q hq e => by have h7 := of_at hq; omega)
  · rw [of_at hq]; exact ⟨hg.1, by rw [size_setCell]; exact hg.2⟩
set_option maxRecDepth 100000 in
set_option maxHeartbeats 16000000 in
theorem walk_ReaderPieces (W0 : World) (v0 : Value) (x0 : Str) (h0 : RStr W0 (Ahead W0.heap.size) [v0] x0) (v1 : Value) (x1 : (List Int)) (h1 : (RSl 1 (RInt .u8)) W0 (Ahead W0.heap.size) [v1] x1) : Calls Try.prog 4 #[v0, v1] W0 fun e w' => e = .returned (.bool true) ∧ Fr No W0 w' := by
  obtain ⟨e0, hm0⟩ := h0
  injection e0 with e0 _
  subst e0
  obtain ⟨A1, c1, rfl, hc1, hc2, hel⟩ := h1.ints
  unfold maxLen at hm0 hc2
  obtain ⟨n, hn⟩ : ∃ n, n = x1.length := ⟨_, rfl⟩
  rw [← hn] at hc1 ⊢
  have HEL := Lib.hid hel
  have HN := Lib.hid hn
  clear h1 hel hn
  by_cases hbig : 600 < x0.length ∨ (x0.length ≤ 600 ∧ 60 < n)
  · have hW := Lib.hid (wworks W0 W0 (Fr.refl _ _))
    rcases hbig with hbig | hbig
    all_goals
      go_enter Try.func4, Try.ntmps4
      go_wp2_with fail
      try (exfalso; omega)
    all_goals
      refine hW.out.mono ?_
      rintro e w1 ⟨rfl, hf⟩
      have HF := Lib.hid hf
      clear hf
      go_wp2_with fail
      go_ret
      exact ⟨rfl, HF.out⟩
  · have hs6 : x0.length ≤ 600 := by omega
    have hn6 : n ≤ 60 := by omega
    clear hbig
    go_enter Try.func4, Try.ntmps4
    go_wp2_with fail
    refine (new_all W0).mono ?_
    rintro e w1 ⟨ga, rfl, ra1, f1, n1⟩
    have RA1 := Lib.hid ra1
    have F1 := Lib.hid f1
    have N1 := Lib.hid n1
    clear ra1 f1 n1
    go_wp2_with fail
    refine (new_all w1).mono ?_
    rintro e w2 ⟨gb, rfl, ra2, f2, n2⟩
    have T2 := Lib.hid (Two.start RA1.out F1.out N1.out ra2 f2 n2)
    clear ra2 f2 n2 RA1 F1 N1
    go_wp2_with fail
    have hfa := feed_all [] x0 w2 _ ga T2.out.a (by simp; omega)
    obtain ⟨cd, hcd⟩ : ∃ cd, cd = codeR (allR x0) (run 0 [] x0).1.1 := ⟨_, rfl⟩
    unfold FeedP at hfa
    rw [List.nil_append, ← hcd] at hfa
    have HCD := Lib.hid hcd
    have HFA := Lib.hid hfa
    clear hcd hfa
    refine HFA.out.mono ?_
    rintro e w3 ⟨rfl, Aa, hra, hst⟩
    have T3 := Lib.hid ((T2.out.swap.stepB hra hst).swap)
    clear hra hst T2 HFA
    go_wp2_with fail
    go_loopw [8, 9] (fun sv i wr => ∃ (k : Nat) (d r : Str) (Ab : Nat → Prop), sv = .string ⟨r.toArray⟩ ∧ i = .int .i64 k ∧ k ≤ n ∧ r.length ≤ 600 ∧ d.length ≤ 600 ∧ Hid (d ++ r = x0) ∧ Hid (Two W0 wr Aa Ab ga gb x0 d)) (fun _ i _ => n - (intOf i).toNat)
    case atStart => exact ⟨0, [], x0, _, rfl, rfl, Nat.zero_le _, hs6, by simp, rfl, T3.out⟩
    case round =>
      obtain ⟨k, d, r, Ab, rfl, rfl, hk, hr6, hd6, hdr, ht⟩ := hrel
      by_cases hlt : k < n
      · obtain ⟨ad, rfl, hSa, hcell, hwf⟩ := HEL.out k (HN.out ▸ hlt)
        obtain ⟨c, hc⟩ : ∃ c, c = x1[k]'(HN.out ▸ hlt) := ⟨_, rfl⟩
        rw [← hc] at hcell hwf
        clear hc
        obtain ⟨cn, rfl, hcn⟩ : ∃ cn : Nat, c = cn ∧ cn < 256 := by
          have e1 : IntKind.u8.min = 0 := rfl
          have e2 : IntKind.u8.max = 255 := rfl
          have : 0 ≤ c ∧ c ≤ 255 := by simpa [Lit.wf, e1, e2] using hwf
          exact ⟨c.toNat, by omega, by omega⟩
        have hcell' : wr.cell? (ad.add k) = some (.int .u8 cn) := (ht.out.fr.cell (by rw [block_add]; exact hSa) (fun h => h)).trans hcell
        clear hcell hwf hSa
        obtain ⟨q, hq, hq1⟩ : ∃ q : Nat, (if (r.length : Int) < (cn : Int) % 16 then (r.length : Int) else (cn : Int) % 16) = (q : Int) ∧ q ≤ r.length := by
          by_cases h : (r.length : Int) < (cn : Int) % 16
          · exact ⟨r.length, if_pos h, Nat.le_refl _⟩
          · exact ⟨cn % 16, by rw [if_neg h]; omega, by omega⟩
        have hsl1 := fun W : World => slice_to (P := Try.prog) W 9 Try.underlying9 r (q : Int) q rfl hq1
        have hsl2 := fun W : World => slice_from (P := Try.prog) W 9 Try.underlying9 r (q : Int) q rfl hq1
        go_upto_region 12 with (fail)
        try rw [hq]
        obtain ⟨x, hx⟩ : ∃ x, x = r.take q := ⟨_, rfl⟩
        obtain ⟨r2, hr2⟩ : ∃ r2, r2 = r.drop q := ⟨_, rfl⟩
        have hxr : x ++ r2 = r := by rw [hx, hr2]; exact List.take_append_drop q r
        have hxl : x.length ≤ 600 := by rw [hx]; simp; omega
        have hrl : r2.length ≤ 600 := by rw [hr2]; simp; omega
        have hdl : (d ++ x).length ≤ 600 := by have h9 := congrArg List.length hdr.out; rw [← hxr] at h9; simp at h9 ⊢; omega
        have HDX := Lib.hid (show (d ++ x) ++ r2 = x0 by rw [List.append_assoc, hxr]; exact hdr.out)
        rw [← hx] at hsl1
        rw [← hr2] at hsl2
        have HFB := Lib.hid (feed_all d x wr Ab gb ht.out.b (by omega))
        clear hx hr2 hxr hq hcell'
        go_wp2_with fail
        refine HFB.out.mono ?_
        rintro e w5 ⟨he, Ab2, hra, hst⟩
        obtain ⟨c9, rfl⟩ : ∃ c9, e = .returned (.int .i64 c9) := ⟨_, he⟩
        have T5 := Lib.hid (ht.out.stepB hra hst)
        clear he hra hst HFB
        go_wp2_with fail
        go_roundw
        case rel => exact ⟨k + 1, d ++ x, r2, Ab2, rfl, by go_num, by omega, hrl, hdl, HDX.out, T5.out⟩
        case measure => simp [intOf]; omega
      · have HFB := feed_all d r wr Ab gb ht.out.b (by omega)
        rw [hdr.out] at HFB
        unfold FeedP at HFB
        rw [← HCD.out] at HFB
        have HFB := Lib.hid HFB
        go_wp2_with fail
        refine HFB.out.mono ?_
        rintro e W ⟨rfl, Ab2, hra, hst⟩
        have HT := Lib.hid (ht.out.stepB hra hst)
        clear hra hst HFB
        go_upto_region 15 with (fail)
        obtain ⟨x, hx⟩ : ∃ x, x = allR x0 := ⟨_, rfl⟩
        have hfx : Fit 900000 x := by rw [hx]; exact (fit_all x0).mono (by omega)
        have hrb := HT.out.b
        rw [← hx] at hrb
        have hra := HT.out.a
        rw [← hx] at hra
        obtain ⟨Fs, B, vR, vV, rvx, hp, hAb, hltb⟩ := hrb
        have hBW := fun q hq => (hp.rows.hB q hq).1
        obtain ⟨n5, hn5⟩ : ∃ n5, n5 = rvx.length := ⟨_, rfl⟩
        obtain ⟨n6, hn6⟩ : ∃ n6, n6 = x.V.length := ⟨_, rfl⟩
        obtain ⟨ro, hro⟩ : ∃ ro, ro = x.role := ⟨_, rfl⟩
        have hRE := fun X (hX : Fr No W X) => replies_any (hp.no hX) (hfx.mono (by omega))
        have hRO := fun X (hX : Fr No W X) => role_any (show RA X Ab2 gb x _ _ from RA.no ⟨Fs, B, vR, vV, rvx, hp, hAb, hltb⟩ hX)
        have hVI := fun X (hX : Fr No W X) => views_any (hp.no hX) (hfx.mono (by omega))
        have hl6 : n6 ≤ 900000 := by rw [hn6]; exact hfx.2.1
        unfold CopyR at hRE
        unfold CopyV at hVI
        rw [← hn5] at hRE
        rw [← hro] at hRO
        rw [← hn6] at hVI
        have HRE := Lib.hid hRE
        have HRO := Lib.hid hRO
        have HVI := Lib.hid hVI
        have HN5 := Lib.hid hn5
        have HN6 := Lib.hid hn6
        have HRO2 := Lib.hid hro
        have HBW := Lib.hid hBW
        have HFX := Lib.hid hfx
        have HRA := Lib.hid hra
        have HRL := Lib.hid hp.rows.lines.1
        clear hx hfx hra hp hAb hltb hBW hn5 hn6 hro hRE hRO hVI ht hdr HCD T3
        refine wp_region_T (fun X => True) 10 (by kernel_rfl) ?_ ?_
        · exact ⟨by kernel_rfl, by kernel_rfl, by kernel_rfl, by decide⟩
        intro hk
        have hHeld := trivial
        refine wpAnyT_take (i := 0) (v := ?_) hk rfl (by kernel_rfl) (fun _ _ _ h => h) (by exact hHeld) (Or.inl ⟨by rfl, ?_⟩) ?_
        rotate_left
        · (intro w hSw; (try dsimp only at hSw); (try simp only [List.getElem_toArray, List.getElem_cons_succ, List.getElem_cons_zero]); go_simp; all_goals with_reducible rfl)
        (try simp only [Act.put, List.setIfInBounds_toArray, List.set_cons_zero, List.set_cons_succ])
        refine wpAnyT_take (i := 1) (v := ?_) hk rfl (by kernel_rfl) (fun _ _ _ h => h) (by exact hHeld) (Or.inl ⟨by rfl, ?_⟩) ?_
        rotate_left
        · (intro w hSw; (try dsimp only at hSw); (try simp only [List.getElem_toArray, List.getElem_cons_succ, List.getElem_cons_zero]); go_simp; all_goals with_reducible rfl)
        (try simp only [Act.put, List.setIfInBounds_toArray, List.set_cons_zero, List.set_cons_succ])
        refine wpAnyT_take (i := 2) (v := ?_) hk rfl (by kernel_rfl) (fun _ _ _ h => h) (by exact hHeld) (Or.inl ⟨by rfl, ?_⟩) ?_
        rotate_left
        · (intro w hSw; (try dsimp only at hSw); (try simp only [List.getElem_toArray, List.getElem_cons_succ, List.getElem_cons_zero]); go_simp; all_goals with_reducible rfl)
        (try simp only [Act.put, List.setIfInBounds_toArray, List.set_cons_zero, List.set_cons_succ])
        refine wpAnyT_take (i := 4) (v := ?_) hk rfl (by kernel_rfl) (fun _ _ _ h => h) (by exact hHeld) (Or.inl ⟨by rfl, ?_⟩) ?_
        rotate_left
        · (intro w hSw; (try dsimp only at hSw); (try simp only [List.getElem_toArray, List.getElem_cons_succ, List.getElem_cons_zero]); go_simp; all_goals with_reducible rfl)
        (try simp only [Act.put, List.setIfInBounds_toArray, List.set_cons_zero, List.set_cons_succ])
        refine wpAnyT_take (i := 5) (v := ?_) hk rfl (by kernel_rfl) (fun _ _ _ h => h) (by exact hHeld) (Or.inl ⟨by rfl, ?_⟩) ?_
        rotate_left
        · (intro w hSw; (try dsimp only at hSw); (try simp only [List.getElem_toArray, List.getElem_cons_succ, List.getElem_cons_zero]); go_simp; all_goals with_reducible rfl)
        (try simp only [Act.put, List.setIfInBounds_toArray, List.set_cons_zero, List.set_cons_succ])
        refine wpAnyT_take (i := 6) (v := ?_) hk rfl (by kernel_rfl) (fun _ _ _ h => h) (by exact hHeld) (Or.inl ⟨by rfl, ?_⟩) ?_
        rotate_left
        · (intro w hSw; (try dsimp only at hSw); (try simp only [List.getElem_toArray, List.getElem_cons_succ, List.getElem_cons_zero]); go_simp; all_goals with_reducible rfl)
        (try simp only [Act.put, List.setIfInBounds_toArray, List.set_cons_zero, List.set_cons_succ])
        refine wpAnyT_all (rs := [3, 9]) (by kernel_rfl) (by simp) ?_
        refine AllT.cons (o := ?_) ?_ (fun K hK => ?_) ?_
        rotate_left
        · (simp only [List.getElem?_toArray, List.getElem?_cons_succ, List.getElem?_cons_zero]; rfl)
        · skip
          go_simp
          (go_at_call 11; refine (HRE.out _ (by (repeat' (first | with_reducible assumption | with_reducible exact Fr.refl _ _ | with_reducible refine Fr.drew ?_ | with_reducible refine Fr.drewN ?_ _ | with_reducible refine Fr.alloc ?_ _)))).mono ?_; rintro e2 w7 ⟨AQ, cQ, rfl, r1, r2, r3, r4⟩)
          try go_wp2_with fail
          have r3 : Fr No W.drew w7 := r3
          have f7 : Fr No W w7 := (show Fr No W W.drew from by (repeat' (first | with_reducible assumption | with_reducible exact Fr.refl _ _ | with_reducible refine Fr.drew ?_ | with_reducible refine Fr.drewN ?_ _ | with_reducible refine Fr.alloc ?_ _))).then_no r3
          have HQ := Lib.hid r1
          have HLN := Lib.hid r2
          have HQN := Lib.hid (show ∀ q, Of (.slice AQ n5 cQ) q → W.heap.size ≤ q ∧ q ≠ w7.heap.size ∧ q < w7.heap.size from fun q hq => by have h := r4 q hq; have h1 : W.heap.size ≤ q := h.1; have h2 := h.2; exact ⟨h1, by omega, h2⟩)
          clear r1 r2 r3 r4
          refine hK.out _ _ ?_ (fun hNew => ?_)
          · (intro _; (try dsimp only); all_goals trivial)
          clear hHeld hK K
          have hHeld := hNew (by decide)
          clear hNew
          (try simp only [Act.put, List.setIfInBounds_toArray, List.set_cons_zero, List.set_cons_succ])
          refine wpAnyT_all (rs := [7, 9]) (by kernel_rfl) (by simp) ?_
          refine AllT.cons (o := ?_) ?_ (fun K hK => ?_) ?_
          rotate_left
          · (simp only [List.getElem?_toArray, List.getElem?_cons_succ, List.getElem?_cons_zero]; rfl)
          · skip
            go_simp
            (go_at_call 12; refine (HRO.out _ (by (repeat' (first | with_reducible assumption | with_reducible exact Fr.refl _ _ | with_reducible refine Fr.drew ?_ | with_reducible refine Fr.drewN ?_ _ | with_reducible refine Fr.alloc ?_ _)))).mono ?_; rintro e2 w8 ⟨rfl, hw8⟩; subst hw8)
            try go_wp2_with fail
            refine hK.out _ _ ?_ (fun hNew => ?_)
            · (intro _; (try dsimp only); all_goals trivial)
            clear hHeld hK K
            have hHeld := hNew (by decide)
            clear hNew
            (try simp only [Act.put, List.setIfInBounds_toArray, List.set_cons_zero, List.set_cons_succ])
            refine wpAnyT_all (rs := [8, 9]) (by kernel_rfl) (by simp) ?_
            refine AllT.cons (o := ?_) ?_ (fun K hK => ?_) ?_
            rotate_left
            · (simp only [List.getElem?_toArray, List.getElem?_cons_succ, List.getElem?_cons_zero]; rfl)
            · skip
              go_simp
              refine hK.out _ _ ?_ (fun hNew => ?_)
              · (intro _; (try dsimp only); all_goals trivial)
              clear hHeld hK K
              have hHeld := hNew (by decide)
              clear hNew
              (try simp only [Act.put, List.setIfInBounds_toArray, List.set_cons_zero, List.set_cons_succ])
              refine wpAnyT_all (rs := [9]) (by kernel_rfl) (by simp) ?_
              refine AllT.cons (o := ?_) ?_ (fun K hK => ?_) ?_
              rotate_left
              · (simp only [List.getElem?_toArray, List.getElem?_cons_succ, List.getElem?_cons_zero]; rfl)
              · skip
                go_simp
                refine hK.out _ _ ?_ (fun hNew => ?_)
                · (intro _; (try dsimp only); all_goals trivial)
                clear hHeld hK K
                have hHeld := hNew (by decide)
                clear hNew
                (try simp only [Act.put, List.setIfInBounds_toArray, List.set_cons_zero, List.set_cons_succ])
                refine wpAnyT_all (rs := [10]) (by kernel_rfl) (by simp) ?_
                refine AllT.cons (o := ?_) ?_ (fun K hK => ?_) ?_
                rotate_left
                · (simp only [List.getElem?_toArray, List.getElem?_cons_succ, List.getElem?_cons_zero]; rfl)
                · skip
                  go_simp
                  refine hK.out _ _ ?_ (fun hNew => ?_)
                  · exact fun h => absurd rfl h
                  clear hHeld hK K
                  clear hNew
                  (try simp only [Act.put, List.setIfInBounds_toArray, List.set_cons_zero, List.set_cons_succ])
                  refine wpAnyT_done (by kernel_rfl) ?_
                  clear hk
                  have hB := Blk.new w7 31 #[.slice AQ n5 cQ, .slice none 0 0, .int .i64 ro, .bool false]
                  have fA : Fr No w7 (w7.alloc (.cells #[.slice AQ n5 cQ, .slice none 0 0, .int .i64 ro, .bool false] 31)) := (Fr.refl No w7).alloc _
                  have hQ := own_fr HQ.out fA (fun _ _ h => h)
                  have hL := HLN.out.fr fA (fun q hq => ⟨Nat.lt_of_lt_of_le (HBW.out q hq) f7.size, fun h => h⟩)
                  have hF := f7.then_no fA
                  obtain ⟨b12, hb12⟩ : ∃ b, b = w7.heap.size := ⟨_, rfl⟩
                  rw [← hb12] at hB ⊢
                  have hbs : W.heap.size ≤ b12 := by have := f7.size; omega
                  have hqn := fun q hq => (show W.heap.size ≤ q ∧ q ≠ b12 ∧ q < (w7.alloc (.cells #[.slice AQ n5 cQ, .slice none 0 0, .int .i64 ro, .bool false] 31)).heap.size from ⟨(HQN.out q hq).1, by rw [hb12]; exact (HQN.out q hq).2.1, Nat.lt_of_lt_of_le (HQN.out q hq).2.2 fA.size⟩)
                  generalize w7.alloc (.cells #[.slice AQ n5 cQ, .slice none 0 0, .int .i64 ro, .bool false] 31) = W2 at hB hQ hL hF hqn ⊢
                  have HB2 := Lib.hid hB
                  have HQ2 := Lib.hid hQ
                  have HL2 := Lib.hid hL
                  have F2 := Lib.hid hF
                  have HQN2 := Lib.hid hqn
                  have HBS := Lib.hid hbs
                  clear hB hQ hL hF hqn hbs hb12 f7 HQ HLN HQN HRE HRO fA
                  go_wp2_with fail
                  refine (HVI.out W2 F2.out).mono ?_
                  rintro e W3 ⟨AC, cC, rfl, hC, hf3, hN3⟩
                  have HCN := Lib.hid (show ¬ Of (.slice AC n6 cC) b12 from fun h => by have h1 := (hN3 _ h).1; have h2 := HB2.out.lt; omega)
                  have HC := Lib.hid hC
                  have F3 := Lib.hid hf3
                  clear hC hf3 hN3
                  go_wp2_with fail
                  go_loopw [14] (fun i wr => ∃ (k : Nat) (Av : Option Addr) (cv : Nat), i = .int .i64 k ∧ k ≤ n6 ∧ Hid (LV W3 wr b12 x.V k Av cv (.slice AQ n5 cQ) (.int .i64 ro))) (fun i _ => n6 - (intOf i).toNat)
                  case atStart => exact ⟨0, none, 0, rfl, Nat.zero_le _, HB2.out.fr F3.out (fun h => h), World.ownsRow_nil _ _ _ _, (fun q hq => by cases hq), Fr.refl _ _⟩
                  case round =>
                    obtain ⟨k, Av, cv, rfl, hk, hv⟩ := hrel
                    by_cases hlt2 : k < n6
                    · obtain ⟨gC, hgC⟩ := slice_pos HC.out (by omega)
                      subst hgC
                      have kV : k < x.V.length := HN6.out ▸ hlt2
                      have hbC : b12 < W3.heap.size := (HB2.out.fr F3.out (fun h => h)).lt
                      have hCn : gC ≠ b12 := fun e => by
                        subst e
                        exact HCN.out rfl
                      have hat : ∀ X, Fr No wr X → X.cell? ⟨gC, k * 3, none⟩ = some (.string ⟨x.V[k].1.toArray⟩) ∧ X.cell? ⟨gC, k * 3 + 1, none⟩ = some (.string ⟨x.V[k].2.1.toArray⟩) ∧ X.cell? ⟨gC, k * 3 + 2, none⟩ = some (.bool x.V[k].2.2) := fun X hX => view_at (n := n6) (by have hq := own_fr (own_fr HC.out hv.out.fr (fun q hq e => hCn (by have := of_at hq; omega))) hX (fun _ _ h => h); rw [← HN6.out]; exact hq) kV
                      have htk : (x.V.take (k + 1)).flatMap encV = (x.V.take k).flatMap encV ++ encV x.V[k] := by rw [List.take_succ_eq_append_getElem kV, List.flatMap_append]; simp
                      obtain ⟨⟨na, te, oo⟩, hvk⟩ : ∃ q, q = x.V[k] := ⟨_, rfl⟩
                      rw [← hvk] at hat htk
                      simp only at hat
                      have HTK := Lib.hid htk
                      have HK := Lib.hid (show ∀ X, Fr No wr X → X.cell? ⟨b12, 1, none⟩ = some (.slice Av k cv) ∧ X.cell? ⟨gC, k * 3, none⟩ = some (.string ⟨na.toArray⟩) ∧ X.cell? ⟨gC, k * 3 + 1, none⟩ = some (.string ⟨te.toArray⟩) ∧ X.cell? ⟨gC, k * 3 + 2, none⟩ = some (.bool oo) from fun X hX => ⟨(hv.out.blk.fr hX (fun h => h)).cell 1, hat X hX⟩)
                      have HLV := Lib.hid hv.out
                      clear hat htk hvk hv kV
                      go_upto_region 20 with (fail)
                      refine wp_region_T (fun X => X.cell? ⟨b12, 1, none⟩ = some (.slice Av k cv) ∧ X.cell? ⟨gC, k * 3, none⟩ = some (.string ⟨na.toArray⟩) ∧ X.cell? ⟨gC, k * 3 + 1, none⟩ = some (.string ⟨te.toArray⟩) ∧ X.cell? ⟨gC, k * 3 + 2, none⟩ = some (.bool oo)) 21 (by kernel_rfl) ?_ ?_
                      · exact ⟨by kernel_rfl, by kernel_rfl, by kernel_rfl, by decide⟩
                      intro hk
                      have hHeld := HK.out _ ((Fr.refl No wr).drew)
                      refine wpAnyT_take (i := 0) (v := ?_) hk rfl (by kernel_rfl) (fun _ _ _ h => h) (by exact hHeld) (Or.inl ⟨by rfl, ?_⟩) ?_
                      rotate_left
                      · (intro w hSw; (try dsimp only at hSw); (try simp only [List.getElem_toArray, List.getElem_cons_succ, List.getElem_cons_zero]); go_simp; all_goals with_reducible rfl)
                      (try simp only [Act.put, List.setIfInBounds_toArray, List.set_cons_zero, List.set_cons_succ])
                      refine wpAnyT_take (i := 1) (v := ?_) hk rfl (by kernel_rfl) (fun _ _ _ h => h) (by exact hHeld) (Or.inl ⟨by rfl, ?_⟩) ?_
                      rotate_left
                      · (intro w hSw; (try dsimp only at hSw); (try simp only [List.getElem_toArray, List.getElem_cons_succ, List.getElem_cons_zero]); go_simp; all_goals with_reducible rfl)
                      (try simp only [Act.put, List.setIfInBounds_toArray, List.set_cons_zero, List.set_cons_succ])
                      refine wpAnyT_take (i := 2) (v := ?_) hk rfl (by kernel_rfl) (fun _ _ _ h => h) (by exact hHeld) (Or.inl ⟨by rfl, ?_⟩) ?_
                      rotate_left
                      · (intro w hSw; (try dsimp only at hSw); (try simp only [List.getElem_toArray, List.getElem_cons_succ, List.getElem_cons_zero]); go_simp; all_goals with_reducible rfl)
                      (try simp only [Act.put, List.setIfInBounds_toArray, List.set_cons_zero, List.set_cons_succ])
                      refine wpAnyT_take (i := 3) (v := ?_) hk rfl (by kernel_rfl) (fun _ _ _ h => h) (by exact hHeld) (Or.inl ⟨by rfl, ?_⟩) ?_
                      rotate_left
                      · (intro w hSw; (try dsimp only at hSw); (try simp only [List.getElem_toArray, List.getElem_cons_succ, List.getElem_cons_zero]); go_simp; all_goals with_reducible rfl)
                      (try simp only [Act.put, List.setIfInBounds_toArray, List.set_cons_zero, List.set_cons_succ])
                      refine wpAnyT_take (i := 4) (v := ?_) hk rfl (by kernel_rfl) (fun _ _ _ h => h) (by exact hHeld) (Or.inl ⟨by rfl, ?_⟩) ?_
                      rotate_left
                      · (intro w hSw; (try dsimp only at hSw); (try simp only [List.getElem_toArray, List.getElem_cons_succ, List.getElem_cons_zero]); go_simp; all_goals with_reducible rfl)
                      (try simp only [Act.put, List.setIfInBounds_toArray, List.set_cons_zero, List.set_cons_succ])
                      refine wpAnyT_take (i := 5) (v := ?_) hk rfl (by kernel_rfl) (fun _ _ _ h => h) (by exact hHeld) (Or.inl ⟨by rfl, ?_⟩) ?_
                      rotate_left
                      · (intro w hSw; (try dsimp only at hSw); (try simp only [List.getElem_toArray, List.getElem_cons_succ, List.getElem_cons_zero]); go_simp; all_goals with_reducible rfl)
                      (try simp only [Act.put, List.setIfInBounds_toArray, List.set_cons_zero, List.set_cons_succ])
                      refine wpAnyT_take (i := 6) (v := ?_) hk rfl (by kernel_rfl) (fun _ _ _ h => h) (by exact hHeld) (Or.inl ⟨by rfl, ?_⟩) ?_
                      rotate_left
                      · (intro w hSw; (try dsimp only at hSw); (try simp only [List.getElem_toArray, List.getElem_cons_succ, List.getElem_cons_zero]); go_simp; all_goals with_reducible rfl)
                      (try simp only [Act.put, List.setIfInBounds_toArray, List.set_cons_zero, List.set_cons_succ])
                      refine wpAnyT_take (i := 7) (v := ?_) hk rfl (by kernel_rfl) (fun _ _ _ h => h) (by exact hHeld) (Or.inl ⟨by rfl, ?_⟩) ?_
                      rotate_left
                      · (intro w hSw; (try dsimp only at hSw); (try simp only [List.getElem_toArray, List.getElem_cons_succ, List.getElem_cons_zero]); go_simp; all_goals with_reducible rfl)
                      (try simp only [Act.put, List.setIfInBounds_toArray, List.set_cons_zero, List.set_cons_succ])
                      refine wpAnyT_take (i := 8) (v := ?_) hk rfl (by kernel_rfl) (fun _ _ _ h => h) (by exact hHeld) (Or.inl ⟨by rfl, ?_⟩) ?_
                      rotate_left
                      · (intro w hSw; (try dsimp only at hSw); (try simp only [List.getElem_toArray, List.getElem_cons_succ, List.getElem_cons_zero]); go_simp; all_goals with_reducible rfl)
                      (try simp only [Act.put, List.setIfInBounds_toArray, List.set_cons_zero, List.set_cons_succ])
                      refine wpAnyT_take (i := 9) (v := ?_) hk rfl (by kernel_rfl) (fun _ _ _ h => h) (by exact hHeld) (Or.inl ⟨by rfl, ?_⟩) ?_
                      rotate_left
                      · (intro w hSw; (try dsimp only at hSw); (try simp only [List.getElem_toArray, List.getElem_cons_succ, List.getElem_cons_zero]); go_simp; all_goals with_reducible rfl)
                      (try simp only [Act.put, List.setIfInBounds_toArray, List.set_cons_zero, List.set_cons_succ])
                      refine wpAnyT_take (i := 10) (v := ?_) hk rfl (by kernel_rfl) (fun _ _ _ h => h) (by exact hHeld) (Or.inl ⟨by rfl, ?_⟩) ?_
                      rotate_left
                      · (intro w hSw; (try dsimp only at hSw); (try simp only [List.getElem_toArray, List.getElem_cons_succ, List.getElem_cons_zero]); go_simp; all_goals with_reducible rfl)
                      (try simp only [Act.put, List.setIfInBounds_toArray, List.set_cons_zero, List.set_cons_succ])
                      refine wpAnyT_take (i := 11) (v := ?_) hk rfl (by kernel_rfl) (fun _ _ _ h => h) (by exact hHeld) (Or.inl ⟨by rfl, ?_⟩) ?_
                      rotate_left
                      · (intro w hSw; (try dsimp only at hSw); (try simp only [List.getElem_toArray, List.getElem_cons_succ, List.getElem_cons_zero]); go_simp; all_goals with_reducible rfl)
                      (try simp only [Act.put, List.setIfInBounds_toArray, List.set_cons_zero, List.set_cons_succ])
                      refine wpAnyT_take (i := 12) (v := ?_) hk rfl (by kernel_rfl) (fun _ _ _ h => h) (by exact hHeld) (Or.inl ⟨by rfl, ?_⟩) ?_
                      rotate_left
                      · (intro w hSw; (try dsimp only at hSw); (try simp only [List.getElem_toArray, List.getElem_cons_succ, List.getElem_cons_zero]); go_simp; all_goals with_reducible rfl)
                      (try simp only [Act.put, List.setIfInBounds_toArray, List.set_cons_zero, List.set_cons_succ])
                      refine wpAnyT_take (i := 13) (v := ?_) hk rfl (by kernel_rfl) (fun _ _ _ h => h) (by exact hHeld) (Or.inl ⟨by rfl, ?_⟩) ?_
                      rotate_left
                      · (intro w hSw; (try dsimp only at hSw); (try simp only [List.getElem_toArray, List.getElem_cons_succ, List.getElem_cons_zero]); go_simp; all_goals with_reducible rfl)
                      (try simp only [Act.put, List.setIfInBounds_toArray, List.set_cons_zero, List.set_cons_succ])
                      refine wpAnyT_take (i := 14) (v := ?_) hk rfl (by kernel_rfl) (fun _ _ _ h => h) (by exact hHeld) (Or.inl ⟨by rfl, ?_⟩) ?_
                      rotate_left
                      · (intro w hSw; (try dsimp only at hSw); (try simp only [List.getElem_toArray, List.getElem_cons_succ, List.getElem_cons_zero]); go_simp; all_goals with_reducible rfl)
                      (try simp only [Act.put, List.setIfInBounds_toArray, List.set_cons_zero, List.set_cons_succ])
                      refine wpAnyT_take (i := 15) (v := ?_) hk rfl (by kernel_rfl) (fun _ _ _ h => h) (by exact hHeld) (Or.inl ⟨by rfl, ?_⟩) ?_
                      rotate_left
                      · (intro w hSw; (try dsimp only at hSw); (try simp only [List.getElem_toArray, List.getElem_cons_succ, List.getElem_cons_zero]); go_simp; all_goals with_reducible rfl)
                      (try simp only [Act.put, List.setIfInBounds_toArray, List.set_cons_zero, List.set_cons_succ])
                      refine wpAnyT_take (i := 16) (v := ?_) hk rfl (by kernel_rfl) (fun _ _ _ h => h) (by exact hHeld) (Or.inl ⟨by rfl, ?_⟩) ?_
                      rotate_left
                      · (intro w hSw; (try dsimp only at hSw); (try simp only [List.getElem_toArray, List.getElem_cons_succ, List.getElem_cons_zero]); go_simp; all_goals with_reducible rfl)
                      (try simp only [Act.put, List.setIfInBounds_toArray, List.set_cons_zero, List.set_cons_succ])
                      refine wpAnyT_take (i := 17) (v := ?_) hk rfl (by kernel_rfl) (fun _ _ _ h => h) (by exact hHeld) (Or.inl ⟨by rfl, ?_⟩) ?_
                      rotate_left
                      · (intro w hSw; (try dsimp only at hSw); (try simp only [List.getElem_toArray, List.getElem_cons_succ, List.getElem_cons_zero]); go_simp; all_goals with_reducible rfl)
                      (try simp only [Act.put, List.setIfInBounds_toArray, List.set_cons_zero, List.set_cons_succ])
                      refine wpAnyT_all (rs := [18]) (by kernel_rfl) (by simp) ?_
                      refine AllT.cons (o := ?_) ?_ (fun K hK => ?_) ?_
                      rotate_left
                      · (simp only [List.getElem?_toArray, List.getElem?_cons_succ, List.getElem?_cons_zero]; rfl)
                      · skip
                        go_simp
                        refine hK.out _ _ ?_ (fun hNew => ?_)
                        · (intro _; (try dsimp only); refine HK.out _ ?_; (repeat' (first | with_reducible assumption | with_reducible exact Fr.refl _ _ | with_reducible refine Fr.drew ?_ | with_reducible refine Fr.drewN ?_ _ | with_reducible refine Fr.alloc ?_ _)))
                        clear hHeld hK K
                        have hHeld := hNew (by decide)
                        clear hNew
                        (try simp only [Act.put, List.setIfInBounds_toArray, List.set_cons_zero, List.set_cons_succ])
                        refine wpAnyT_all (rs := [19]) (by kernel_rfl) (by simp) ?_
                        refine AllT.cons (o := ?_) ?_ (fun K hK => ?_) ?_
                        rotate_left
                        · (simp only [List.getElem?_toArray, List.getElem?_cons_succ, List.getElem?_cons_zero]; rfl)
                        · skip
                          refine step_pushD rfl (.tmp 82) (.tmp 99) 29 rfl TV (.agg #[.string ByteArray.empty, .string ByteArray.empty, .bool false]) 3 40 Try.underlying29 infoW rfl (by decide) (.slice Av k cv) k _ (by simp [Act.eval, Act.put]) HLV.out.own #[.string ⟨na.toArray⟩, .string ⟨te.toArray⟩, .bool oo] (by simp [Act.eval, Act.put]) rfl (by intro u hu; simp at hu; rcases hu with rfl | rfl | rfl <;> rfl) (by omega) (by unfold maxLen; omega) ?_
                          intro g7 c8 w9 q1 q2 q3
                          have hnb : ¬ Of (.slice Av k cv) b12 := fun h => by have h7 := (HLV.out.new _ h).1; omega
                          have X9 := HLV.out.blk.fr q2 hnb
                          have NXT := Lib.hid (HLV.out.next (v := (na, te, oo)) hbC HTK.out q1 q2 q3)
                          have HS7 := Lib.hid (show w9.cell? ⟨b12, 1, none⟩ = some (.slice Av k cv) ∧ w9.cell? ⟨gC, k * 3, none⟩ = some (.string ⟨na.toArray⟩) ∧ w9.cell? ⟨gC, k * 3 + 1, none⟩ = some (.string ⟨te.toArray⟩) ∧ w9.cell? ⟨gC, k * 3 + 2, none⟩ = some (.bool oo) from ⟨X9.cell 1, by obtain ⟨u0, u1, u2⟩ := (HK.out wr (Fr.refl _ _)).2; have hg : ∀ j, w9.cell? ⟨gC, j, none⟩ = wr.cell? ⟨gC, j, none⟩ := fun j => q2.cell (p := ⟨gC, j, none⟩) (Nat.lt_of_lt_of_le (of_lt HC.out gC rfl) HLV.out.fr.size) (fun h => absurd (HLV.out.new gC h).1 (by have h8 := of_lt HC.out gC rfl; omega)); exact ⟨(hg _).trans u0, (hg _).trans u1, (hg _).trans u2⟩⟩)
                          have HX9 := Lib.hid X9
                          clear q1 q2 q3 X9
                          refine hK.out _ _ ?_ (fun hNew => ?_)
                          · (intro _; (try dsimp only); exact HS7.out)
                          clear hHeld hK K
                          have hHeld := hNew (by decide)
                          clear hNew
                          (try simp only [Act.put, List.setIfInBounds_toArray, List.set_cons_zero, List.set_cons_succ])
                          refine wpAnyT_all (rs := [20]) (by kernel_rfl) (by simp) ?_
                          refine AllT.cons (o := ?_) ?_ (fun K hK => ?_) ?_
                          rotate_left
                          · (simp only [List.getElem?_toArray, List.getElem?_cons_succ, List.getElem?_cons_zero]; rfl)
                          · skip
                            go_simp
                            refine hK.out _ _ ?_ (fun hNew => ?_)
                            · (intro _; (try dsimp only); exact HS7.out)
                            clear hHeld hK K
                            have hHeld := hNew (by decide)
                            clear hNew
                            (try simp only [Act.put, List.setIfInBounds_toArray, List.set_cons_zero, List.set_cons_succ])
                            refine wpAnyT_all (rs := [21]) (by kernel_rfl) (by simp) ?_
                            refine AllT.cons (o := ?_) ?_ (fun K hK => ?_) ?_
                            rotate_left
                            · (simp only [List.getElem?_toArray, List.getElem?_cons_succ, List.getElem?_cons_zero]; rfl)
                            · skip
                              have z1 := HS7.out.1
                              have zf := HX9.out.frozen 1
                              go_simp
                              refine hK.out _ _ ?_ (fun hNew => ?_)
                              · exact fun h => absurd rfl h
                              clear hHeld hK K
                              clear hNew
                              (try simp only [Act.put, List.setIfInBounds_toArray, List.set_cons_zero, List.set_cons_succ])
                              refine wpAnyT_done (by kernel_rfl) ?_
                              clear z1 zf
                              go_wp2_with fail
                              go_roundw
                              case rel => exact ⟨k + 1, _, _, by go_num, by omega, NXT.out⟩
                              case measure => simp [intOf]; omega
                            exact AllT.nil
                          exact AllT.nil
                        exact AllT.nil
                      exact AllT.nil
                    · have hkn : k = n6 := by omega
                      subst hkn
                      have HLV := Lib.hid hv.out
                      clear hv
                      have x0 := HLV.out.blk.cell 0
                      have x1 := HLV.out.blk.cell 1
                      have x2 := HLV.out.blk.cell 2
                      have x3 := HLV.out.blk.cell 3
                      simp only [List.getElem?_toArray, List.getElem?_cons_zero, List.getElem?_cons_succ] at x0 x1 x2 x3
                      have hFr : Fr (fun q => q = b12) W wr := ((F2.out.then_no F3.out).no _).trans HLV.out.fr (fun q hq _ => hq)
                      have hra := HRA.out.fr hFr (fun q hq e => by have := HRA.out.lt q hq; have := HBS.out; omega)
                      have hrb : RB wr (fun q => q < wr.heap.size) { x with bad := false } #[.slice AQ n5 cQ, .slice Av k cv, .int .i64 ro, .bool false] := by
                        refine RB.of_rows (B := B) (rv := rvx) ⟨?_, ?_, ?_, fun q hq hq' => ?_, fun q hq => ⟨?_, fun hq' => ?_, fun hq' => ?_⟩⟩ HRO2.out rfl (fun q hq => ?_) (fun q hq => hq)
                        · rw [← HN5.out]; exact own_fr (own_fr HQ2.out F3.out (fun _ _ h => h)) HLV.out.fr (fun q hq e => (HQN2.out q hq).2.1 e)
                        · exact (HL2.out.fr F3.out (fun q hq => ⟨Nat.lt_of_lt_of_le (HBW.out q hq) F2.out.size, fun h => h⟩)).fr HLV.out.fr (fun q hq => ⟨Nat.lt_of_lt_of_le (HBW.out q hq) (F2.out.then_no F3.out).size, fun e => by have := HBW.out q hq; have := HBS.out; omega⟩)
                        · have h9 := HLV.out.own
                          rw [HN6.out, List.take_length] at h9
                          rw [HN6.out]
                          exact h9
                        · have h7 := (HQN2.out q hq).2.2
                          have h8 := (HLV.out.new q hq').1
                          have h9 := F3.out.size
                          omega
                        · have h7 := HBW.out q hq
                          have h8 := hFr.size
                          omega
                        · have h7 := HBW.out q hq
                          have h8 := (HQN2.out q hq').1
                          have h9 := HBS.out
                          omega
                        · have h7 := HBW.out q hq
                          have h8 := (HLV.out.new q hq').1
                          have h9 := (F2.out.then_no F3.out).size
                          omega
                        · rcases hq with hq | hq | hq
                          · have h7 := HBW.out q hq
                            have h8 := hFr.size
                            omega
                          · have h7 := (HQN2.out q hq).2.2
                            have h8 := F3.out.size
                            have h9 := HLV.out.fr.size
                            omega
                          · exact (HLV.out.new q hq).2
                      have HSAME := Lib.hid (lsame_any hra hrb rfl rfl rfl HFX.out)
                      have hfr0 : Fr No W0 wr := HT.out.fr.trans hFr (fun q hq hl => by have := HBS.out; have := HT.out.fr.size; omega)
                      have HF0 := Lib.hid hfr0
                      clear hra hrb hFr hfr0
                      go_wp2_with fail
                      refine HSAME.out.mono ?_
                      rintro e W5 ⟨rfl, hf5⟩
                      have HF5 := Lib.hid (HF0.out.then_no hf5)
                      clear hf5
                      go_wp2_with fail
                      refine (wworks W0 W5 HF5.out).mono ?_
                      rintro e W6 ⟨rfl, hf6⟩
                      have HF6 := Lib.hid hf6
                      clear hf6
                      go_wp2_with fail
                      go_ret
                      exact ⟨rfl, HF6.out⟩
                exact AllT.nil
              exact AllT.nil
            refine AllT.cons (o := ?_) ?_ (fun K hK => ?_) ?_
            rotate_left
            · (simp only [List.getElem?_toArray, List.getElem?_cons_succ, List.getElem?_cons_zero]; rfl)
            · skip
              go_simp
              refine hK.out _ _ ?_ (fun hNew => ?_)
              · (intro _; (try dsimp only); all_goals trivial)
              clear hHeld hK K
              have hHeld := hNew (by decide)
              clear hNew
              (try simp only [Act.put, List.setIfInBounds_toArray, List.set_cons_zero, List.set_cons_succ])
              refine wpAnyT_all (rs := [8]) (by kernel_rfl) (by simp) ?_
              refine AllT.cons (o := ?_) ?_ (fun K hK => ?_) ?_
              rotate_left
              · (simp only [List.getElem?_toArray, List.getElem?_cons_succ, List.getElem?_cons_zero]; rfl)
              · skip
                go_simp
                refine hK.out _ _ ?_ (fun hNew => ?_)
                · (intro _; (try dsimp only); all_goals trivial)
                clear hHeld hK K
                have hHeld := hNew (by decide)
                clear hNew
                (try simp only [Act.put, List.setIfInBounds_toArray, List.set_cons_zero, List.set_cons_succ])
                refine wpAnyT_all (rs := [10]) (by kernel_rfl) (by simp) ?_
                refine AllT.cons (o := ?_) ?_ (fun K hK => ?_) ?_
                rotate_left
                · (simp only [List.getElem?_toArray, List.getElem?_cons_succ, List.getElem?_cons_zero]; rfl)
                · skip
                  go_simp
                  refine hK.out _ _ ?_ (fun hNew => ?_)
                  · exact fun h => absurd rfl h
                  clear hHeld hK K
                  clear hNew
                  (try simp only [Act.put, List.setIfInBounds_toArray, List.set_cons_zero, List.set_cons_succ])
                  refine wpAnyT_done (by kernel_rfl) ?_
                  clear hk
                  have hB := Blk.new w7 31 #[.slice AQ n5 cQ, .slice none 0 0, .int .i64 ro, .bool false]
                  have fA : Fr No w7 (w7.alloc (.cells #[.slice AQ n5 cQ, .slice none 0 0, .int .i64 ro, .bool false] 31)) := (Fr.refl No w7).alloc _
                  have hQ := own_fr HQ.out fA (fun _ _ h => h)
                  have hL := HLN.out.fr fA (fun q hq => ⟨Nat.lt_of_lt_of_le (HBW.out q hq) f7.size, fun h => h⟩)
                  have hF := f7.then_no fA
                  obtain ⟨b12, hb12⟩ : ∃ b, b = w7.heap.size := ⟨_, rfl⟩
                  rw [← hb12] at hB ⊢
                  have hbs : W.heap.size ≤ b12 := by have := f7.size; omega
                  have hqn := fun q hq => (show W.heap.size ≤ q ∧ q ≠ b12 ∧ q < (w7.alloc (.cells #[.slice AQ n5 cQ, .slice none 0 0, .int .i64 ro, .bool false] 31)).heap.size from ⟨(HQN.out q hq).1, by rw [hb12]; exact (HQN.out q hq).2.1, Nat.lt_of_lt_of_le (HQN.out q hq).2.2 fA.size⟩)
                  generalize w7.alloc (.cells #[.slice AQ n5 cQ, .slice none 0 0, .int .i64 ro, .bool false] 31) = W2 at hB hQ hL hF hqn ⊢
                  have HB2 := Lib.hid hB
                  have HQ2 := Lib.hid hQ
                  have HL2 := Lib.hid hL
                  have F2 := Lib.hid hF
                  have HQN2 := Lib.hid hqn
                  have HBS := Lib.hid hbs
                  clear hB hQ hL hF hqn hbs hb12 f7 HQ HLN HQN HRE HRO fA
                  go_wp2_with fail
                  refine (HVI.out W2 F2.out).mono ?_
                  rintro e W3 ⟨AC, cC, rfl, hC, hf3, hN3⟩
                  have HCN := Lib.hid (show ¬ Of (.slice AC n6 cC) b12 from fun h => by have h1 := (hN3 _ h).1; have h2 := HB2.out.lt; omega)
                  have HC := Lib.hid hC
                  have F3 := Lib.hid hf3
                  clear hC hf3 hN3
                  go_wp2_with fail
                  go_loopw [14] (fun i wr => ∃ (k : Nat) (Av : Option Addr) (cv : Nat), i = .int .i64 k ∧ k ≤ n6 ∧ Hid (LV W3 wr b12 x.V k Av cv (.slice AQ n5 cQ) (.int .i64 ro))) (fun i _ => n6 - (intOf i).toNat)
                  case atStart => exact ⟨0, none, 0, rfl, Nat.zero_le _, HB2.out.fr F3.out (fun h => h), World.ownsRow_nil _ _ _ _, (fun q hq => by cases hq), Fr.refl _ _⟩
                  case round =>
                    obtain ⟨k, Av, cv, rfl, hk, hv⟩ := hrel
                    by_cases hlt2 : k < n6
                    · obtain ⟨gC, hgC⟩ := slice_pos HC.out (by omega)
                      subst hgC
                      have kV : k < x.V.length := HN6.out ▸ hlt2
                      have hbC : b12 < W3.heap.size := (HB2.out.fr F3.out (fun h => h)).lt
                      have hCn : gC ≠ b12 := fun e => by
                        subst e
                        exact HCN.out rfl
                      have hat : ∀ X, Fr No wr X → X.cell? ⟨gC, k * 3, none⟩ = some (.string ⟨x.V[k].1.toArray⟩) ∧ X.cell? ⟨gC, k * 3 + 1, none⟩ = some (.string ⟨x.V[k].2.1.toArray⟩) ∧ X.cell? ⟨gC, k * 3 + 2, none⟩ = some (.bool x.V[k].2.2) := fun X hX => view_at (n := n6) (by have hq := own_fr (own_fr HC.out hv.out.fr (fun q hq e => hCn (by have := of_at hq; omega))) hX (fun _ _ h => h); rw [← HN6.out]; exact hq) kV
                      have htk : (x.V.take (k + 1)).flatMap encV = (x.V.take k).flatMap encV ++ encV x.V[k] := by rw [List.take_succ_eq_append_getElem kV, List.flatMap_append]; simp
                      obtain ⟨⟨na, te, oo⟩, hvk⟩ : ∃ q, q = x.V[k] := ⟨_, rfl⟩
                      rw [← hvk] at hat htk
                      simp only at hat
                      have HTK := Lib.hid htk
                      have HK := Lib.hid (show ∀ X, Fr No wr X → X.cell? ⟨b12, 1, none⟩ = some (.slice Av k cv) ∧ X.cell? ⟨gC, k * 3, none⟩ = some (.string ⟨na.toArray⟩) ∧ X.cell? ⟨gC, k * 3 + 1, none⟩ = some (.string ⟨te.toArray⟩) ∧ X.cell? ⟨gC, k * 3 + 2, none⟩ = some (.bool oo) from fun X hX => ⟨(hv.out.blk.fr hX (fun h => h)).cell 1, hat X hX⟩)
                      have HLV := Lib.hid hv.out
                      clear hat htk hvk hv kV
                      go_upto_region 20 with (fail)
                      refine wp_region_T (fun X => X.cell? ⟨b12, 1, none⟩ = some (.slice Av k cv) ∧ X.cell? ⟨gC, k * 3, none⟩ = some (.string ⟨na.toArray⟩) ∧ X.cell? ⟨gC, k * 3 + 1, none⟩ = some (.string ⟨te.toArray⟩) ∧ X.cell? ⟨gC, k * 3 + 2, none⟩ = some (.bool oo)) 21 (by kernel_rfl) ?_ ?_
                      · exact ⟨by kernel_rfl, by kernel_rfl, by kernel_rfl, by decide⟩
                      intro hk
                      have hHeld := HK.out _ ((Fr.refl No wr).drew)
                      refine wpAnyT_take (i := 0) (v := ?_) hk rfl (by kernel_rfl) (fun _ _ _ h => h) (by exact hHeld) (Or.inl ⟨by rfl, ?_⟩) ?_
                      rotate_left
                      · (intro w hSw; (try dsimp only at hSw); (try simp only [List.getElem_toArray, List.getElem_cons_succ, List.getElem_cons_zero]); go_simp; all_goals with_reducible rfl)
                      (try simp only [Act.put, List.setIfInBounds_toArray, List.set_cons_zero, List.set_cons_succ])
                      refine wpAnyT_take (i := 1) (v := ?_) hk rfl (by kernel_rfl) (fun _ _ _ h => h) (by exact hHeld) (Or.inl ⟨by rfl, ?_⟩) ?_
                      rotate_left
                      · (intro w hSw; (try dsimp only at hSw); (try simp only [List.getElem_toArray, List.getElem_cons_succ, List.getElem_cons_zero]); go_simp; all_goals with_reducible rfl)
                      (try simp only [Act.put, List.setIfInBounds_toArray, List.set_cons_zero, List.set_cons_succ])
                      refine wpAnyT_take (i := 2) (v := ?_) hk rfl (by kernel_rfl) (fun _ _ _ h => h) (by exact hHeld) (Or.inl ⟨by rfl, ?_⟩) ?_
                      rotate_left
                      · (intro w hSw; (try dsimp only at hSw); (try simp only [List.getElem_toArray, List.getElem_cons_succ, List.getElem_cons_zero]); go_simp; all_goals with_reducible rfl)
                      (try simp only [Act.put, List.setIfInBounds_toArray, List.set_cons_zero, List.set_cons_succ])
                      refine wpAnyT_take (i := 3) (v := ?_) hk rfl (by kernel_rfl) (fun _ _ _ h => h) (by exact hHeld) (Or.inl ⟨by rfl, ?_⟩) ?_
                      rotate_left
                      · (intro w hSw; (try dsimp only at hSw); (try simp only [List.getElem_toArray, List.getElem_cons_succ, List.getElem_cons_zero]); go_simp; all_goals with_reducible rfl)
                      (try simp only [Act.put, List.setIfInBounds_toArray, List.set_cons_zero, List.set_cons_succ])
                      refine wpAnyT_take (i := 4) (v := ?_) hk rfl (by kernel_rfl) (fun _ _ _ h => h) (by exact hHeld) (Or.inl ⟨by rfl, ?_⟩) ?_
                      rotate_left
                      · (intro w hSw; (try dsimp only at hSw); (try simp only [List.getElem_toArray, List.getElem_cons_succ, List.getElem_cons_zero]); go_simp; all_goals with_reducible rfl)
                      (try simp only [Act.put, List.setIfInBounds_toArray, List.set_cons_zero, List.set_cons_succ])
                      refine wpAnyT_take (i := 5) (v := ?_) hk rfl (by kernel_rfl) (fun _ _ _ h => h) (by exact hHeld) (Or.inl ⟨by rfl, ?_⟩) ?_
                      rotate_left
                      · (intro w hSw; (try dsimp only at hSw); (try simp only [List.getElem_toArray, List.getElem_cons_succ, List.getElem_cons_zero]); go_simp; all_goals with_reducible rfl)
                      (try simp only [Act.put, List.setIfInBounds_toArray, List.set_cons_zero, List.set_cons_succ])
                      refine wpAnyT_take (i := 6) (v := ?_) hk rfl (by kernel_rfl) (fun _ _ _ h => h) (by exact hHeld) (Or.inl ⟨by rfl, ?_⟩) ?_
                      rotate_left
                      · (intro w hSw; (try dsimp only at hSw); (try simp only [List.getElem_toArray, List.getElem_cons_succ, List.getElem_cons_zero]); go_simp; all_goals with_reducible rfl)
                      (try simp only [Act.put, List.setIfInBounds_toArray, List.set_cons_zero, List.set_cons_succ])
                      refine wpAnyT_take (i := 7) (v := ?_) hk rfl (by kernel_rfl) (fun _ _ _ h => h) (by exact hHeld) (Or.inl ⟨by rfl, ?_⟩) ?_
                      rotate_left
                      · (intro w hSw; (try dsimp only at hSw); (try simp only [List.getElem_toArray, List.getElem_cons_succ, List.getElem_cons_zero]); go_simp; all_goals with_reducible rfl)
                      (try simp only [Act.put, List.setIfInBounds_toArray, List.set_cons_zero, List.set_cons_succ])
                      refine wpAnyT_take (i := 8) (v := ?_) hk rfl (by kernel_rfl) (fun _ _ _ h => h) (by exact hHeld) (Or.inl ⟨by rfl, ?_⟩) ?_
                      rotate_left
                      · (intro w hSw; (try dsimp only at hSw); (try simp only [List.getElem_toArray, List.getElem_cons_succ, List.getElem_cons_zero]); go_simp; all_goals with_reducible rfl)
                      (try simp only [Act.put, List.setIfInBounds_toArray, List.set_cons_zero, List.set_cons_succ])
                      refine wpAnyT_take (i := 9) (v := ?_) hk rfl (by kernel_rfl) (fun _ _ _ h => h) (by exact hHeld) (Or.inl ⟨by rfl, ?_⟩) ?_
                      rotate_left
                      · (intro w hSw; (try dsimp only at hSw); (try simp only [List.getElem_toArray, List.getElem_cons_succ, List.getElem_cons_zero]); go_simp; all_goals with_reducible rfl)
                      (try simp only [Act.put, List.setIfInBounds_toArray, List.set_cons_zero, List.set_cons_succ])
                      refine wpAnyT_take (i := 10) (v := ?_) hk rfl (by kernel_rfl) (fun _ _ _ h => h) (by exact hHeld) (Or.inl ⟨by rfl, ?_⟩) ?_
                      rotate_left
                      · (intro w hSw; (try dsimp only at hSw); (try simp only [List.getElem_toArray, List.getElem_cons_succ, List.getElem_cons_zero]); go_simp; all_goals with_reducible rfl)
                      (try simp only [Act.put, List.setIfInBounds_toArray, List.set_cons_zero, List.set_cons_succ])
                      refine wpAnyT_take (i := 11) (v := ?_) hk rfl (by kernel_rfl) (fun _ _ _ h => h) (by exact hHeld) (Or.inl ⟨by rfl, ?_⟩) ?_
                      rotate_left
                      · (intro w hSw; (try dsimp only at hSw); (try simp only [List.getElem_toArray, List.getElem_cons_succ, List.getElem_cons_zero]); go_simp; all_goals with_reducible rfl)
                      (try simp only [Act.put, List.setIfInBounds_toArray, List.set_cons_zero, List.set_cons_succ])
                      refine wpAnyT_take (i := 12) (v := ?_) hk rfl (by kernel_rfl) (fun _ _ _ h => h) (by exact hHeld) (Or.inl ⟨by rfl, ?_⟩) ?_
                      rotate_left
                      · (intro w hSw; (try dsimp only at hSw); (try simp only [List.getElem_toArray, List.getElem_cons_succ, List.getElem_cons_zero]); go_simp; all_goals with_reducible rfl)
                      (try simp only [Act.put, List.setIfInBounds_toArray, List.set_cons_zero, List.set_cons_succ])
                      refine wpAnyT_take (i := 13) (v := ?_) hk rfl (by kernel_rfl) (fun _ _ _ h => h) (by exact hHeld) (Or.inl ⟨by rfl, ?_⟩) ?_
                      rotate_left
                      · (intro w hSw; (try dsimp only at hSw); (try simp only [List.getElem_toArray, List.getElem_cons_succ, List.getElem_cons_zero]); go_simp; all_goals with_reducible rfl)
                      (try simp only [Act.put, List.setIfInBounds_toArray, List.set_cons_zero, List.set_cons_succ])
                      refine wpAnyT_take (i := 14) (v := ?_) hk rfl (by kernel_rfl) (fun _ _ _ h => h) (by exact hHeld) (Or.inl ⟨by rfl, ?_⟩) ?_
                      rotate_left
                      · (intro w hSw; (try dsimp only at hSw); (try simp only [List.getElem_toArray, List.getElem_cons_succ, List.getElem_cons_zero]); go_simp; all_goals with_reducible rfl)
                      (try simp only [Act.put, List.setIfInBounds_toArray, List.set_cons_zero, List.set_cons_succ])
                      refine wpAnyT_take (i := 15) (v := ?_) hk rfl (by kernel_rfl) (fun _ _ _ h => h) (by exact hHeld) (Or.inl ⟨by rfl, ?_⟩) ?_
                      rotate_left
                      · (intro w hSw; (try dsimp only at hSw); (try simp only [List.getElem_toArray, List.getElem_cons_succ, List.getElem_cons_zero]); go_simp; all_goals with_reducible rfl)
                      (try simp only [Act.put, List.setIfInBounds_toArray, List.set_cons_zero, List.set_cons_succ])
                      refine wpAnyT_take (i := 16) (v := ?_) hk rfl (by kernel_rfl) (fun _ _ _ h => h) (by exact hHeld) (Or.inl ⟨by rfl, ?_⟩) ?_
                      rotate_left
                      · (intro w hSw; (try dsimp only at hSw); (try simp only [List.getElem_toArray, List.getElem_cons_succ, List.getElem_cons_zero]); go_simp; all_goals with_reducible rfl)
                      (try simp only [Act.put, List.setIfInBounds_toArray, List.set_cons_zero, List.set_cons_succ])
                      refine wpAnyT_take (i := 17) (v := ?_) hk rfl (by kernel_rfl) (fun _ _ _ h => h) (by exact hHeld) (Or.inl ⟨by rfl, ?_⟩) ?_
                      rotate_left
                      · (intro w hSw; (try dsimp only at hSw); (try simp only [List.getElem_toArray, List.getElem_cons_succ, List.getElem_cons_zero]); go_simp; all_goals with_reducible rfl)
                      (try simp only [Act.put, List.setIfInBounds_toArray, List.set_cons_zero, List.set_cons_succ])
                      refine wpAnyT_all (rs := [18]) (by kernel_rfl) (by simp) ?_
                      refine AllT.cons (o := ?_) ?_ (fun K hK => ?_) ?_
                      rotate_left
                      · (simp only [List.getElem?_toArray, List.getElem?_cons_succ, List.getElem?_cons_zero]; rfl)
                      · skip
                        go_simp
                        refine hK.out _ _ ?_ (fun hNew => ?_)
                        · (intro _; (try dsimp only); refine HK.out _ ?_; (repeat' (first | with_reducible assumption | with_reducible exact Fr.refl _ _ | with_reducible refine Fr.drew ?_ | with_reducible refine Fr.drewN ?_ _ | with_reducible refine Fr.alloc ?_ _)))
                        clear hHeld hK K
                        have hHeld := hNew (by decide)
                        clear hNew
                        (try simp only [Act.put, List.setIfInBounds_toArray, List.set_cons_zero, List.set_cons_succ])
                        refine wpAnyT_all (rs := [19]) (by kernel_rfl) (by simp) ?_
                        refine AllT.cons (o := ?_) ?_ (fun K hK => ?_) ?_
                        rotate_left
                        · (simp only [List.getElem?_toArray, List.getElem?_cons_succ, List.getElem?_cons_zero]; rfl)
                        · skip
                          refine step_pushD rfl (.tmp 82) (.tmp 99) 29 rfl TV (.agg #[.string ByteArray.empty, .string ByteArray.empty, .bool false]) 3 40 Try.underlying29 infoW rfl (by decide) (.slice Av k cv) k _ (by simp [Act.eval, Act.put]) HLV.out.own #[.string ⟨na.toArray⟩, .string ⟨te.toArray⟩, .bool oo] (by simp [Act.eval, Act.put]) rfl (by intro u hu; simp at hu; rcases hu with rfl | rfl | rfl <;> rfl) (by omega) (by unfold maxLen; omega) ?_
                          intro g7 c8 w9 q1 q2 q3
                          have hnb : ¬ Of (.slice Av k cv) b12 := fun h => by have h7 := (HLV.out.new _ h).1; omega
                          have X9 := HLV.out.blk.fr q2 hnb
                          have NXT := Lib.hid (HLV.out.next (v := (na, te, oo)) hbC HTK.out q1 q2 q3)
                          have HS7 := Lib.hid (show w9.cell? ⟨b12, 1, none⟩ = some (.slice Av k cv) ∧ w9.cell? ⟨gC, k * 3, none⟩ = some (.string ⟨na.toArray⟩) ∧ w9.cell? ⟨gC, k * 3 + 1, none⟩ = some (.string ⟨te.toArray⟩) ∧ w9.cell? ⟨gC, k * 3 + 2, none⟩ = some (.bool oo) from ⟨X9.cell 1, by obtain ⟨u0, u1, u2⟩ := (HK.out wr (Fr.refl _ _)).2; have hg : ∀ j, w9.cell? ⟨gC, j, none⟩ = wr.cell? ⟨gC, j, none⟩ := fun j => q2.cell (p := ⟨gC, j, none⟩) (Nat.lt_of_lt_of_le (of_lt HC.out gC rfl) HLV.out.fr.size) (fun h => absurd (HLV.out.new gC h).1 (by have h8 := of_lt HC.out gC rfl; omega)); exact ⟨(hg _).trans u0, (hg _).trans u1, (hg _).trans u2⟩⟩)
                          have HX9 := Lib.hid X9
                          clear q1 q2 q3 X9
                          refine hK.out _ _ ?_ (fun hNew => ?_)
                          · (intro _; (try dsimp only); exact HS7.out)
                          clear hHeld hK K
                          have hHeld := hNew (by decide)
                          clear hNew
                          (try simp only [Act.put, List.setIfInBounds_toArray, List.set_cons_zero, List.set_cons_succ])
                          refine wpAnyT_all (rs := [20]) (by kernel_rfl) (by simp) ?_
                          refine AllT.cons (o := ?_) ?_ (fun K hK => ?_) ?_
                          rotate_left
                          · (simp only [List.getElem?_toArray, List.getElem?_cons_succ, List.getElem?_cons_zero]; rfl)
                          · skip
                            go_simp
                            refine hK.out _ _ ?_ (fun hNew => ?_)
                            · (intro _; (try dsimp only); exact HS7.out)
                            clear hHeld hK K
                            have hHeld := hNew (by decide)
                            clear hNew
                            (try simp only [Act.put, List.setIfInBounds_toArray, List.set_cons_zero, List.set_cons_succ])
                            refine wpAnyT_all (rs := [21]) (by kernel_rfl) (by simp) ?_
                            refine AllT.cons (o := ?_) ?_ (fun K hK => ?_) ?_
                            rotate_left
                            · (simp only [List.getElem?_toArray, List.getElem?_cons_succ, List.getElem?_cons_zero]; rfl)
                            · skip
                              have z1 := HS7.out.1
                              have zf := HX9.out.frozen 1
                              go_simp
                              refine hK.out _ _ ?_ (fun hNew => ?_)
                              · exact fun h => absurd rfl h
                              clear hHeld hK K
                              clear hNew
                              (try simp only [Act.put, List.setIfInBounds_toArray, List.set_cons_zero, List.set_cons_succ])
                              refine wpAnyT_done (by kernel_rfl) ?_
                              clear z1 zf
                              go_wp2_with fail
                              go_roundw
                              case rel => exact ⟨k + 1, _, _, by go_num, by omega, NXT.out⟩
                              case measure => simp [intOf]; omega
                            exact AllT.nil
                          exact AllT.nil
                        exact AllT.nil
                      exact AllT.nil
                    · have hkn : k = n6 := by omega
                      subst hkn
                      have HLV := Lib.hid hv.out
                      clear hv
                      have x0 := HLV.out.blk.cell 0
                      have x1 := HLV.out.blk.cell 1
                      have x2 := HLV.out.blk.cell 2
                      have x3 := HLV.out.blk.cell 3
                      simp only [List.getElem?_toArray, List.getElem?_cons_zero, List.getElem?_cons_succ] at x0 x1 x2 x3
                      have hFr : Fr (fun q => q = b12) W wr := ((F2.out.then_no F3.out).no _).trans HLV.out.fr (fun q hq _ => hq)
                      have hra := HRA.out.fr hFr (fun q hq e => by have := HRA.out.lt q hq; have := HBS.out; omega)
                      have hrb : RB wr (fun q => q < wr.heap.size) { x with bad := false } #[.slice AQ n5 cQ, .slice Av k cv, .int .i64 ro, .bool false] := by
                        refine RB.of_rows (B := B) (rv := rvx) ⟨?_, ?_, ?_, fun q hq hq' => ?_, fun q hq => ⟨?_, fun hq' => ?_, fun hq' => ?_⟩⟩ HRO2.out rfl (fun q hq => ?_) (fun q hq => hq)
                        · rw [← HN5.out]; exact own_fr (own_fr HQ2.out F3.out (fun _ _ h => h)) HLV.out.fr (fun q hq e => (HQN2.out q hq).2.1 e)
                        · exact (HL2.out.fr F3.out (fun q hq => ⟨Nat.lt_of_lt_of_le (HBW.out q hq) F2.out.size, fun h => h⟩)).fr HLV.out.fr (fun q hq => ⟨Nat.lt_of_lt_of_le (HBW.out q hq) (F2.out.then_no F3.out).size, fun e => by have := HBW.out q hq; have := HBS.out; omega⟩)
                        · have h9 := HLV.out.own
                          rw [HN6.out, List.take_length] at h9
                          rw [HN6.out]
                          exact h9
                        · have h7 := (HQN2.out q hq).2.2
                          have h8 := (HLV.out.new q hq').1
                          have h9 := F3.out.size
                          omega
                        · have h7 := HBW.out q hq
                          have h8 := hFr.size
                          omega
                        · have h7 := HBW.out q hq
                          have h8 := (HQN2.out q hq').1
                          have h9 := HBS.out
                          omega
                        · have h7 := HBW.out q hq
                          have h8 := (HLV.out.new q hq').1
                          have h9 := (F2.out.then_no F3.out).size
                          omega
                        · rcases hq with hq | hq | hq
                          · have h7 := HBW.out q hq
                            have h8 := hFr.size
                            omega
                          · have h7 := (HQN2.out q hq).2.2
                            have h8 := F3.out.size
                            have h9 := HLV.out.fr.size
                            omega
                          · exact (HLV.out.new q hq).2
                      have HSAME := Lib.hid (lsame_any hra hrb rfl rfl rfl HFX.out)
                      have hfr0 : Fr No W0 wr := HT.out.fr.trans hFr (fun q hq hl => by have := HBS.out; have := HT.out.fr.size; omega)
                      have HF0 := Lib.hid hfr0
                      clear hra hrb hFr hfr0
                      go_wp2_with fail
                      refine HSAME.out.mono ?_
                      rintro e W5 ⟨rfl, hf5⟩
                      have HF5 := Lib.hid (HF0.out.then_no hf5)
                      clear hf5
                      go_wp2_with fail
                      refine (wworks W0 W5 HF5.out).mono ?_
                      rintro e W6 ⟨rfl, hf6⟩
                      have HF6 := Lib.hid hf6
                      clear hf6
                      go_wp2_with fail
                      go_ret
                      exact ⟨rfl, HF6.out⟩
                exact AllT.nil
              exact AllT.nil
            exact AllT.nil
          refine AllT.cons (o := ?_) ?_ (fun K hK => ?_) ?_
          rotate_left
          · (simp only [List.getElem?_toArray, List.getElem?_cons_succ, List.getElem?_cons_zero]; rfl)
          · skip
            go_simp
            refine hK.out _ _ ?_ (fun hNew => ?_)
            · (intro _; (try dsimp only); all_goals trivial)
            clear hHeld hK K
            have hHeld := hNew (by decide)
            clear hNew
            (try simp only [Act.put, List.setIfInBounds_toArray, List.set_cons_zero, List.set_cons_succ])
            refine wpAnyT_all (rs := [7]) (by kernel_rfl) (by simp) ?_
            refine AllT.cons (o := ?_) ?_ (fun K hK => ?_) ?_
            rotate_left
            · (simp only [List.getElem?_toArray, List.getElem?_cons_succ, List.getElem?_cons_zero]; rfl)
            · skip
              go_simp
              (go_at_call 12; refine (HRO.out _ (by (repeat' (first | with_reducible assumption | with_reducible exact Fr.refl _ _ | with_reducible refine Fr.drew ?_ | with_reducible refine Fr.drewN ?_ _ | with_reducible refine Fr.alloc ?_ _)))).mono ?_; rintro e2 w8 ⟨rfl, hw8⟩; subst hw8)
              try go_wp2_with fail
              refine hK.out _ _ ?_ (fun hNew => ?_)
              · (intro _; (try dsimp only); all_goals trivial)
              clear hHeld hK K
              have hHeld := hNew (by decide)
              clear hNew
              (try simp only [Act.put, List.setIfInBounds_toArray, List.set_cons_zero, List.set_cons_succ])
              refine wpAnyT_all (rs := [8]) (by kernel_rfl) (by simp) ?_
              refine AllT.cons (o := ?_) ?_ (fun K hK => ?_) ?_
              rotate_left
              · (simp only [List.getElem?_toArray, List.getElem?_cons_succ, List.getElem?_cons_zero]; rfl)
              · skip
                go_simp
                refine hK.out _ _ ?_ (fun hNew => ?_)
                · (intro _; (try dsimp only); all_goals trivial)
                clear hHeld hK K
                have hHeld := hNew (by decide)
                clear hNew
                (try simp only [Act.put, List.setIfInBounds_toArray, List.set_cons_zero, List.set_cons_succ])
                refine wpAnyT_all (rs := [10]) (by kernel_rfl) (by simp) ?_
                refine AllT.cons (o := ?_) ?_ (fun K hK => ?_) ?_
                rotate_left
                · (simp only [List.getElem?_toArray, List.getElem?_cons_succ, List.getElem?_cons_zero]; rfl)
                · skip
                  go_simp
                  refine hK.out _ _ ?_ (fun hNew => ?_)
                  · exact fun h => absurd rfl h
                  clear hHeld hK K
                  clear hNew
                  (try simp only [Act.put, List.setIfInBounds_toArray, List.set_cons_zero, List.set_cons_succ])
                  refine wpAnyT_done (by kernel_rfl) ?_
                  clear hk
                  have hB := Blk.new w7 31 #[.slice AQ n5 cQ, .slice none 0 0, .int .i64 ro, .bool false]
                  have fA : Fr No w7 (w7.alloc (.cells #[.slice AQ n5 cQ, .slice none 0 0, .int .i64 ro, .bool false] 31)) := (Fr.refl No w7).alloc _
                  have hQ := own_fr HQ.out fA (fun _ _ h => h)
                  have hL := HLN.out.fr fA (fun q hq => ⟨Nat.lt_of_lt_of_le (HBW.out q hq) f7.size, fun h => h⟩)
                  have hF := f7.then_no fA
                  obtain ⟨b12, hb12⟩ : ∃ b, b = w7.heap.size := ⟨_, rfl⟩
                  rw [← hb12] at hB ⊢
                  have hbs : W.heap.size ≤ b12 := by have := f7.size; omega
                  have hqn := fun q hq => (show W.heap.size ≤ q ∧ q ≠ b12 ∧ q < (w7.alloc (.cells #[.slice AQ n5 cQ, .slice none 0 0, .int .i64 ro, .bool false] 31)).heap.size from ⟨(HQN.out q hq).1, by rw [hb12]; exact (HQN.out q hq).2.1, Nat.lt_of_lt_of_le (HQN.out q hq).2.2 fA.size⟩)
                  generalize w7.alloc (.cells #[.slice AQ n5 cQ, .slice none 0 0, .int .i64 ro, .bool false] 31) = W2 at hB hQ hL hF hqn ⊢
                  have HB2 := Lib.hid hB
                  have HQ2 := Lib.hid hQ
                  have HL2 := Lib.hid hL
                  have F2 := Lib.hid hF
                  have HQN2 := Lib.hid hqn
                  have HBS := Lib.hid hbs
                  clear hB hQ hL hF hqn hbs hb12 f7 HQ HLN HQN HRE HRO fA
                  go_wp2_with fail
                  refine (HVI.out W2 F2.out).mono ?_
                  rintro e W3 ⟨AC, cC, rfl, hC, hf3, hN3⟩
                  have HCN := Lib.hid (show ¬ Of (.slice AC n6 cC) b12 from fun h => by have h1 := (hN3 _ h).1; have h2 := HB2.out.lt; omega)
                  have HC := Lib.hid hC
                  have F3 := Lib.hid hf3
                  clear hC hf3 hN3
                  go_wp2_with fail
                  go_loopw [14] (fun i wr => ∃ (k : Nat) (Av : Option Addr) (cv : Nat), i = .int .i64 k ∧ k ≤ n6 ∧ Hid (LV W3 wr b12 x.V k Av cv (.slice AQ n5 cQ) (.int .i64 ro))) (fun i _ => n6 - (intOf i).toNat)
                  case atStart => exact ⟨0, none, 0, rfl, Nat.zero_le _, HB2.out.fr F3.out (fun h => h), World.ownsRow_nil _ _ _ _, (fun q hq => by cases hq), Fr.refl _ _⟩
                  case round =>
                    obtain ⟨k, Av, cv, rfl, hk, hv⟩ := hrel
                    by_cases hlt2 : k < n6
                    · obtain ⟨gC, hgC⟩ := slice_pos HC.out (by omega)
                      subst hgC
                      have kV : k < x.V.length := HN6.out ▸ hlt2
                      have hbC : b12 < W3.heap.size := (HB2.out.fr F3.out (fun h => h)).lt
                      have hCn : gC ≠ b12 := fun e => by
                        subst e
                        exact HCN.out rfl
                      have hat : ∀ X, Fr No wr X → X.cell? ⟨gC, k * 3, none⟩ = some (.string ⟨x.V[k].1.toArray⟩) ∧ X.cell? ⟨gC, k * 3 + 1, none⟩ = some (.string ⟨x.V[k].2.1.toArray⟩) ∧ X.cell? ⟨gC, k * 3 + 2, none⟩ = some (.bool x.V[k].2.2) := fun X hX => view_at (n := n6) (by have hq := own_fr (own_fr HC.out hv.out.fr (fun q hq e => hCn (by have := of_at hq; omega))) hX (fun _ _ h => h); rw [← HN6.out]; exact hq) kV
                      have htk : (x.V.take (k + 1)).flatMap encV = (x.V.take k).flatMap encV ++ encV x.V[k] := by rw [List.take_succ_eq_append_getElem kV, List.flatMap_append]; simp
                      obtain ⟨⟨na, te, oo⟩, hvk⟩ : ∃ q, q = x.V[k] := ⟨_, rfl⟩
                      rw [← hvk] at hat htk
                      simp only at hat
                      have HTK := Lib.hid htk
                      have HK := Lib.hid (show ∀ X, Fr No wr X → X.cell? ⟨b12, 1, none⟩ = some (.slice Av k cv) ∧ X.cell? ⟨gC, k * 3, none⟩ = some (.string ⟨na.toArray⟩) ∧ X.cell? ⟨gC, k * 3 + 1, none⟩ = some (.string ⟨te.toArray⟩) ∧ X.cell? ⟨gC, k * 3 + 2, none⟩ = some (.bool oo) from fun X hX => ⟨(hv.out.blk.fr hX (fun h => h)).cell 1, hat X hX⟩)
                      have HLV := Lib.hid hv.out
                      clear hat htk hvk hv kV
                      go_upto_region 20 with (fail)
                      refine wp_region_T (fun X => X.cell? ⟨b12, 1, none⟩ = some (.slice Av k cv) ∧ X.cell? ⟨gC, k * 3, none⟩ = some (.string ⟨na.toArray⟩) ∧ X.cell? ⟨gC, k * 3 + 1, none⟩ = some (.string ⟨te.toArray⟩) ∧ X.cell? ⟨gC, k * 3 + 2, none⟩ = some (.bool oo)) 21 (by kernel_rfl) ?_ ?_
                      · exact ⟨by kernel_rfl, by kernel_rfl, by kernel_rfl, by decide⟩
                      intro hk
                      have hHeld := HK.out _ ((Fr.refl No wr).drew)
                      refine wpAnyT_take (i := 0) (v := ?_) hk rfl (by kernel_rfl) (fun _ _ _ h => h) (by exact hHeld) (Or.inl ⟨by rfl, ?_⟩) ?_
                      rotate_left
                      · (intro w hSw; (try dsimp only at hSw); (try simp only [List.getElem_toArray, List.getElem_cons_succ, List.getElem_cons_zero]); go_simp; all_goals with_reducible rfl)
                      (try simp only [Act.put, List.setIfInBounds_toArray, List.set_cons_zero, List.set_cons_succ])
                      refine wpAnyT_take (i := 1) (v := ?_) hk rfl (by kernel_rfl) (fun _ _ _ h => h) (by exact hHeld) (Or.inl ⟨by rfl, ?_⟩) ?_
                      rotate_left
                      · (intro w hSw; (try dsimp only at hSw); (try simp only [List.getElem_toArray, List.getElem_cons_succ, List.getElem_cons_zero]); go_simp; all_goals with_reducible rfl)
                      (try simp only [Act.put, List.setIfInBounds_toArray, List.set_cons_zero, List.set_cons_succ])
                      refine wpAnyT_take (i := 2) (v := ?_) hk rfl (by kernel_rfl) (fun _ _ _ h => h) (by exact hHeld) (Or.inl ⟨by rfl, ?_⟩) ?_
                      rotate_left
                      · (intro w hSw; (try dsimp only at hSw); (try simp only [List.getElem_toArray, List.getElem_cons_succ, List.getElem_cons_zero]); go_simp; all_goals with_reducible rfl)
                      (try simp only [Act.put, List.setIfInBounds_toArray, List.set_cons_zero, List.set_cons_succ])
                      refine wpAnyT_take (i := 3) (v := ?_) hk rfl (by kernel_rfl) (fun _ _ _ h => h) (by exact hHeld) (Or.inl ⟨by rfl, ?_⟩) ?_
                      rotate_left
                      · (intro w hSw; (try dsimp only at hSw); (try simp only [List.getElem_toArray, List.getElem_cons_succ, List.getElem_cons_zero]); go_simp; all_goals with_reducible rfl)
                      (try simp only [Act.put, List.setIfInBounds_toArray, List.set_cons_zero, List.set_cons_succ])
                      refine wpAnyT_take (i := 4) (v := ?_) hk rfl (by kernel_rfl) (fun _ _ _ h => h) (by exact hHeld) (Or.inl ⟨by rfl, ?_⟩) ?_
                      rotate_left
                      · (intro w hSw; (try dsimp only at hSw); (try simp only [List.getElem_toArray, List.getElem_cons_succ, List.getElem_cons_zero]); go_simp; all_goals with_reducible rfl)
                      (try simp only [Act.put, List.setIfInBounds_toArray, List.set_cons_zero, List.set_cons_succ])
                      refine wpAnyT_take (i := 5) (v := ?_) hk rfl (by kernel_rfl) (fun _ _ _ h => h) (by exact hHeld) (Or.inl ⟨by rfl, ?_⟩) ?_
                      rotate_left
                      · (intro w hSw; (try dsimp only at hSw); (try simp only [List.getElem_toArray, List.getElem_cons_succ, List.getElem_cons_zero]); go_simp; all_goals with_reducible rfl)
                      (try simp only [Act.put, List.setIfInBounds_toArray, List.set_cons_zero, List.set_cons_succ])
                      refine wpAnyT_take (i := 6) (v := ?_) hk rfl (by kernel_rfl) (fun _ _ _ h => h) (by exact hHeld) (Or.inl ⟨by rfl, ?_⟩) ?_
                      rotate_left
                      · (intro w hSw; (try dsimp only at hSw); (try simp only [List.getElem_toArray, List.getElem_cons_succ, List.getElem_cons_zero]); go_simp; all_goals with_reducible rfl)
                      (try simp only [Act.put, List.setIfInBounds_toArray, List.set_cons_zero, List.set_cons_succ])
                      refine wpAnyT_take (i := 7) (v := ?_) hk rfl (by kernel_rfl) (fun _ _ _ h => h) (by exact hHeld) (Or.inl ⟨by rfl, ?_⟩) ?_
                      rotate_left
                      · (intro w hSw; (try dsimp only at hSw); (try simp only [List.getElem_toArray, List.getElem_cons_succ, List.getElem_cons_zero]); go_simp; all_goals with_reducible rfl)
                      (try simp only [Act.put, List.setIfInBounds_toArray, List.set_cons_zero, List.set_cons_succ])
                      refine wpAnyT_take (i := 8) (v := ?_) hk rfl (by kernel_rfl) (fun _ _ _ h => h) (by exact hHeld) (Or.inl ⟨by rfl, ?_⟩) ?_
                      rotate_left
                      · (intro w hSw; (try dsimp only at hSw); (try simp only [List.getElem_toArray, List.getElem_cons_succ, List.getElem_cons_zero]); go_simp; all_goals with_reducible rfl)
                      (try simp only [Act.put, List.setIfInBounds_toArray, List.set_cons_zero, List.set_cons_succ])
                      refine wpAnyT_take (i := 9) (v := ?_) hk rfl (by kernel_rfl) (fun _ _ _ h => h) (by exact hHeld) (Or.inl ⟨by rfl, ?_⟩) ?_
                      rotate_left
                      · (intro w hSw; (try dsimp only at hSw); (try simp only [List.getElem_toArray, List.getElem_cons_succ, List.getElem_cons_zero]); go_simp; all_goals with_reducible rfl)
                      (try simp only [Act.put, List.setIfInBounds_toArray, List.set_cons_zero, List.set_cons_succ])
                      refine wpAnyT_take (i := 10) (v := ?_) hk rfl (by kernel_rfl) (fun _ _ _ h => h) (by exact hHeld) (Or.inl ⟨by rfl, ?_⟩) ?_
                      rotate_left
                      · (intro w hSw; (try dsimp only at hSw); (try simp only [List.getElem_toArray, List.getElem_cons_succ, List.getElem_cons_zero]); go_simp; all_goals with_reducible rfl)
                      (try simp only [Act.put, List.setIfInBounds_toArray, List.set_cons_zero, List.set_cons_succ])
                      refine wpAnyT_take (i := 11) (v := ?_) hk rfl (by kernel_rfl) (fun _ _ _ h => h) (by exact hHeld) (Or.inl ⟨by rfl, ?_⟩) ?_
                      rotate_left
                      · (intro w hSw; (try dsimp only at hSw); (try simp only [List.getElem_toArray, List.getElem_cons_succ, List.getElem_cons_zero]); go_simp; all_goals with_reducible rfl)
                      (try simp only [Act.put, List.setIfInBounds_toArray, List.set_cons_zero, List.set_cons_succ])
                      refine wpAnyT_take (i := 12) (v := ?_) hk rfl (by kernel_rfl) (fun _ _ _ h => h) (by exact hHeld) (Or.inl ⟨by rfl, ?_⟩) ?_
                      rotate_left
                      · (intro w hSw; (try dsimp only at hSw); (try simp only [List.getElem_toArray, List.getElem_cons_succ, List.getElem_cons_zero]); go_simp; all_goals with_reducible rfl)
                      (try simp only [Act.put, List.setIfInBounds_toArray, List.set_cons_zero, List.set_cons_succ])
                      refine wpAnyT_take (i := 13) (v := ?_) hk rfl (by kernel_rfl) (fun _ _ _ h => h) (by exact hHeld) (Or.inl ⟨by rfl, ?_⟩) ?_
                      rotate_left
                      · (intro w hSw; (try dsimp only at hSw); (try simp only [List.getElem_toArray, List.getElem_cons_succ, List.getElem_cons_zero]); go_simp; all_goals with_reducible rfl)
                      (try simp only [Act.put, List.setIfInBounds_toArray, List.set_cons_zero, List.set_cons_succ])
                      refine wpAnyT_take (i := 14) (v := ?_) hk rfl (by kernel_rfl) (fun _ _ _ h => h) (by exact hHeld) (Or.inl ⟨by rfl, ?_⟩) ?_
                      rotate_left
                      · (intro w hSw; (try dsimp only at hSw); (try simp only [List.getElem_toArray, List.getElem_cons_succ, List.getElem_cons_zero]); go_simp; all_goals with_reducible rfl)
                      (try simp only [Act.put, List.setIfInBounds_toArray, List.set_cons_zero, List.set_cons_succ])
                      refine wpAnyT_take (i := 15) (v := ?_) hk rfl (by kernel_rfl) (fun _ _ _ h => h) (by exact hHeld) (Or.inl ⟨by rfl, ?_⟩) ?_
                      rotate_left
                      · (intro w hSw; (try dsimp only at hSw); (try simp only [List.getElem_toArray, List.getElem_cons_succ, List.getElem_cons_zero]); go_simp; all_goals with_reducible rfl)
                      (try simp only [Act.put, List.setIfInBounds_toArray, List.set_cons_zero, List.set_cons_succ])
                      refine wpAnyT_take (i := 16) (v := ?_) hk rfl (by kernel_rfl) (fun _ _ _ h => h) (by exact hHeld) (Or.inl ⟨by rfl, ?_⟩) ?_
                      rotate_left
                      · (intro w hSw; (try dsimp only at hSw); (try simp only [List.getElem_toArray, List.getElem_cons_succ, List.getElem_cons_zero]); go_simp; all_goals with_reducible rfl)
                      (try simp only [Act.put, List.setIfInBounds_toArray, List.set_cons_zero, List.set_cons_succ])
                      refine wpAnyT_take (i := 17) (v := ?_) hk rfl (by kernel_rfl) (fun _ _ _ h => h) (by exact hHeld) (Or.inl ⟨by rfl, ?_⟩) ?_
                      rotate_left
                      · (intro w hSw; (try dsimp only at hSw); (try simp only [List.getElem_toArray, List.getElem_cons_succ, List.getElem_cons_zero]); go_simp; all_goals with_reducible rfl)
                      (try simp only [Act.put, List.setIfInBounds_toArray, List.set_cons_zero, List.set_cons_succ])
                      refine wpAnyT_all (rs := [18]) (by kernel_rfl) (by simp) ?_
                      refine AllT.cons (o := ?_) ?_ (fun K hK => ?_) ?_
                      rotate_left
                      · (simp only [List.getElem?_toArray, List.getElem?_cons_succ, List.getElem?_cons_zero]; rfl)
                      · skip
                        go_simp
                        refine hK.out _ _ ?_ (fun hNew => ?_)
                        · (intro _; (try dsimp only); refine HK.out _ ?_; (repeat' (first | with_reducible assumption | with_reducible exact Fr.refl _ _ | with_reducible refine Fr.drew ?_ | with_reducible refine Fr.drewN ?_ _ | with_reducible refine Fr.alloc ?_ _)))
                        clear hHeld hK K
                        have hHeld := hNew (by decide)
                        clear hNew
                        (try simp only [Act.put, List.setIfInBounds_toArray, List.set_cons_zero, List.set_cons_succ])
                        refine wpAnyT_all (rs := [19]) (by kernel_rfl) (by simp) ?_
                        refine AllT.cons (o := ?_) ?_ (fun K hK => ?_) ?_
                        rotate_left
                        · (simp only [List.getElem?_toArray, List.getElem?_cons_succ, List.getElem?_cons_zero]; rfl)
                        · skip
                          refine step_pushD rfl (.tmp 82) (.tmp 99) 29 rfl TV (.agg #[.string ByteArray.empty, .string ByteArray.empty, .bool false]) 3 40 Try.underlying29 infoW rfl (by decide) (.slice Av k cv) k _ (by simp [Act.eval, Act.put]) HLV.out.own #[.string ⟨na.toArray⟩, .string ⟨te.toArray⟩, .bool oo] (by simp [Act.eval, Act.put]) rfl (by intro u hu; simp at hu; rcases hu with rfl | rfl | rfl <;> rfl) (by omega) (by unfold maxLen; omega) ?_
                          intro g7 c8 w9 q1 q2 q3
                          have hnb : ¬ Of (.slice Av k cv) b12 := fun h => by have h7 := (HLV.out.new _ h).1; omega
                          have X9 := HLV.out.blk.fr q2 hnb
                          have NXT := Lib.hid (HLV.out.next (v := (na, te, oo)) hbC HTK.out q1 q2 q3)
                          have HS7 := Lib.hid (show w9.cell? ⟨b12, 1, none⟩ = some (.slice Av k cv) ∧ w9.cell? ⟨gC, k * 3, none⟩ = some (.string ⟨na.toArray⟩) ∧ w9.cell? ⟨gC, k * 3 + 1, none⟩ = some (.string ⟨te.toArray⟩) ∧ w9.cell? ⟨gC, k * 3 + 2, none⟩ = some (.bool oo) from ⟨X9.cell 1, by obtain ⟨u0, u1, u2⟩ := (HK.out wr (Fr.refl _ _)).2; have hg : ∀ j, w9.cell? ⟨gC, j, none⟩ = wr.cell? ⟨gC, j, none⟩ := fun j => q2.cell (p := ⟨gC, j, none⟩) (Nat.lt_of_lt_of_le (of_lt HC.out gC rfl) HLV.out.fr.size) (fun h => absurd (HLV.out.new gC h).1 (by have h8 := of_lt HC.out gC rfl; omega)); exact ⟨(hg _).trans u0, (hg _).trans u1, (hg _).trans u2⟩⟩)
                          have HX9 := Lib.hid X9
                          clear q1 q2 q3 X9
                          refine hK.out _ _ ?_ (fun hNew => ?_)
                          · (intro _; (try dsimp only); exact HS7.out)
                          clear hHeld hK K
                          have hHeld := hNew (by decide)
                          clear hNew
                          (try simp only [Act.put, List.setIfInBounds_toArray, List.set_cons_zero, List.set_cons_succ])
                          refine wpAnyT_all (rs := [20]) (by kernel_rfl) (by simp) ?_
                          refine AllT.cons (o := ?_) ?_ (fun K hK => ?_) ?_
                          rotate_left
                          · (simp only [List.getElem?_toArray, List.getElem?_cons_succ, List.getElem?_cons_zero]; rfl)
                          · skip
                            go_simp
                            refine hK.out _ _ ?_ (fun hNew => ?_)
                            · (intro _; (try dsimp only); exact HS7.out)
                            clear hHeld hK K
                            have hHeld := hNew (by decide)
                            clear hNew
                            (try simp only [Act.put, List.setIfInBounds_toArray, List.set_cons_zero, List.set_cons_succ])
                            refine wpAnyT_all (rs := [21]) (by kernel_rfl) (by simp) ?_
                            refine AllT.cons (o := ?_) ?_ (fun K hK => ?_) ?_
                            rotate_left
                            · (simp only [List.getElem?_toArray, List.getElem?_cons_succ, List.getElem?_cons_zero]; rfl)
                            · skip
                              have z1 := HS7.out.1
                              have zf := HX9.out.frozen 1
                              go_simp
                              refine hK.out _ _ ?_ (fun hNew => ?_)
                              · exact fun h => absurd rfl h
                              clear hHeld hK K
                              clear hNew
                              (try simp only [Act.put, List.setIfInBounds_toArray, List.set_cons_zero, List.set_cons_succ])
                              refine wpAnyT_done (by kernel_rfl) ?_
                              clear z1 zf
                              go_wp2_with fail
                              go_roundw
                              case rel => exact ⟨k + 1, _, _, by go_num, by omega, NXT.out⟩
                              case measure => simp [intOf]; omega
                            exact AllT.nil
                          exact AllT.nil
                        exact AllT.nil
                      exact AllT.nil
                    · have hkn : k = n6 := by omega
                      subst hkn
                      have HLV := Lib.hid hv.out
                      clear hv
                      have x0 := HLV.out.blk.cell 0
                      have x1 := HLV.out.blk.cell 1
                      have x2 := HLV.out.blk.cell 2
                      have x3 := HLV.out.blk.cell 3
                      simp only [List.getElem?_toArray, List.getElem?_cons_zero, List.getElem?_cons_succ] at x0 x1 x2 x3
                      have hFr : Fr (fun q => q = b12) W wr := ((F2.out.then_no F3.out).no _).trans HLV.out.fr (fun q hq _ => hq)
                      have hra := HRA.out.fr hFr (fun q hq e => by have := HRA.out.lt q hq; have := HBS.out; omega)
                      have hrb : RB wr (fun q => q < wr.heap.size) { x with bad := false } #[.slice AQ n5 cQ, .slice Av k cv, .int .i64 ro, .bool false] := by
                        refine RB.of_rows (B := B) (rv := rvx) ⟨?_, ?_, ?_, fun q hq hq' => ?_, fun q hq => ⟨?_, fun hq' => ?_, fun hq' => ?_⟩⟩ HRO2.out rfl (fun q hq => ?_) (fun q hq => hq)
                        · rw [← HN5.out]; exact own_fr (own_fr HQ2.out F3.out (fun _ _ h => h)) HLV.out.fr (fun q hq e => (HQN2.out q hq).2.1 e)
                        · exact (HL2.out.fr F3.out (fun q hq => ⟨Nat.lt_of_lt_of_le (HBW.out q hq) F2.out.size, fun h => h⟩)).fr HLV.out.fr (fun q hq => ⟨Nat.lt_of_lt_of_le (HBW.out q hq) (F2.out.then_no F3.out).size, fun e => by have := HBW.out q hq; have := HBS.out; omega⟩)
                        · have h9 := HLV.out.own
                          rw [HN6.out, List.take_length] at h9
                          rw [HN6.out]
                          exact h9
                        · have h7 := (HQN2.out q hq).2.2
                          have h8 := (HLV.out.new q hq').1
                          have h9 := F3.out.size
                          omega
                        · have h7 := HBW.out q hq
                          have h8 := hFr.size
                          omega
                        · have h7 := HBW.out q hq
                          have h8 := (HQN2.out q hq').1
                          have h9 := HBS.out
                          omega
                        · have h7 := HBW.out q hq
                          have h8 := (HLV.out.new q hq').1
                          have h9 := (F2.out.then_no F3.out).size
                          omega
                        · rcases hq with hq | hq | hq
                          · have h7 := HBW.out q hq
                            have h8 := hFr.size
                            omega
                          · have h7 := (HQN2.out q hq).2.2
                            have h8 := F3.out.size
                            have h9 := HLV.out.fr.size
                            omega
                          · exact (HLV.out.new q hq).2
                      have HSAME := Lib.hid (lsame_any hra hrb rfl rfl rfl HFX.out)
                      have hfr0 : Fr No W0 wr := HT.out.fr.trans hFr (fun q hq hl => by have := HBS.out; have := HT.out.fr.size; omega)
                      have HF0 := Lib.hid hfr0
                      clear hra hrb hFr hfr0
                      go_wp2_with fail
                      refine HSAME.out.mono ?_
                      rintro e W5 ⟨rfl, hf5⟩
                      have HF5 := Lib.hid (HF0.out.then_no hf5)
                      clear hf5
                      go_wp2_with fail
                      refine (wworks W0 W5 HF5.out).mono ?_
                      rintro e W6 ⟨rfl, hf6⟩
                      have HF6 := Lib.hid hf6
                      clear hf6
                      go_wp2_with fail
                      go_ret
                      exact ⟨rfl, HF6.out⟩
                exact AllT.nil
              exact AllT.nil
            exact AllT.nil
          exact AllT.nil
        refine AllT.cons (o := ?_) ?_ (fun K hK => ?_) ?_
        rotate_left
        · (simp only [List.getElem?_toArray, List.getElem?_cons_succ, List.getElem?_cons_zero]; rfl)
        · skip
          go_simp
          refine hK.out _ _ ?_ (fun hNew => ?_)
          · (intro _; (try dsimp only); all_goals trivial)
          clear hHeld hK K
          have hHeld := hNew (by decide)
          clear hNew
          (try simp only [Act.put, List.setIfInBounds_toArray, List.set_cons_zero, List.set_cons_succ])
          refine wpAnyT_all (rs := [3]) (by kernel_rfl) (by simp) ?_
          refine AllT.cons (o := ?_) ?_ (fun K hK => ?_) ?_
          rotate_left
          · (simp only [List.getElem?_toArray, List.getElem?_cons_succ, List.getElem?_cons_zero]; rfl)
          · skip
            go_simp
            (go_at_call 11; refine (HRE.out _ (by (repeat' (first | with_reducible assumption | with_reducible exact Fr.refl _ _ | with_reducible refine Fr.drew ?_ | with_reducible refine Fr.drewN ?_ _ | with_reducible refine Fr.alloc ?_ _)))).mono ?_; rintro e2 w7 ⟨AQ, cQ, rfl, r1, r2, r3, r4⟩)
            try go_wp2_with fail
            have r3 : Fr No (W.drew.alloc (.cells #[.slice none 0 0, .slice none 0 0, .int .i64 0, .bool false] 31)) w7 := r3
            have f7 : Fr No W w7 := (show Fr No W (W.drew.alloc (.cells #[.slice none 0 0, .slice none 0 0, .int .i64 0, .bool false] 31)) from by (repeat' (first | with_reducible assumption | with_reducible exact Fr.refl _ _ | with_reducible refine Fr.drew ?_ | with_reducible refine Fr.drewN ?_ _ | with_reducible refine Fr.alloc ?_ _))).then_no r3
            have HQ := Lib.hid r1
            have HLN := Lib.hid r2
            have sX : (W.drew.alloc (.cells #[.slice none 0 0, .slice none 0 0, .int .i64 0, .bool false] 31)).heap.size = W.heap.size + 1 := by rw [size_alloc]; rfl
            have hZ := (Blk.new W.drew 31 #[.slice none 0 0, .slice none 0 0, .int .i64 0, .bool false]).fr r3 (fun h => h)
            have hZ : Blk w7 W.heap.size 31 #[.slice none 0 0, .slice none 0 0, .int .i64 0, .bool false] := hZ
            have HZ := Lib.hid hZ
            have HQN := Lib.hid (show ∀ q, Of (.slice AQ n5 cQ) q → W.heap.size ≤ q ∧ q ≠ W.heap.size ∧ q < w7.heap.size from fun q hq => by have h := r4 q hq; have h1 : (W.drew.alloc (.cells #[.slice none 0 0, .slice none 0 0, .int .i64 0, .bool false] 31)).heap.size ≤ q := h.1; have h2 := h.2; exact ⟨by omega, by omega, h2⟩)
            clear hZ sX
            clear r1 r2 r3 r4
            refine hK.out _ _ ?_ (fun hNew => ?_)
            · (intro _; (try dsimp only); all_goals trivial)
            clear hHeld hK K
            have hHeld := hNew (by decide)
            clear hNew
            (try simp only [Act.put, List.setIfInBounds_toArray, List.set_cons_zero, List.set_cons_succ])
            refine wpAnyT_all (rs := [7]) (by kernel_rfl) (by simp) ?_
            refine AllT.cons (o := ?_) ?_ (fun K hK => ?_) ?_
            rotate_left
            · (simp only [List.getElem?_toArray, List.getElem?_cons_succ, List.getElem?_cons_zero]; rfl)
            · skip
              go_simp
              (go_at_call 12; refine (HRO.out _ (by (repeat' (first | with_reducible assumption | with_reducible exact Fr.refl _ _ | with_reducible refine Fr.drew ?_ | with_reducible refine Fr.drewN ?_ _ | with_reducible refine Fr.alloc ?_ _)))).mono ?_; rintro e2 w8 ⟨rfl, hw8⟩; subst hw8)
              try go_wp2_with fail
              refine hK.out _ _ ?_ (fun hNew => ?_)
              · (intro _; (try dsimp only); all_goals trivial)
              clear hHeld hK K
              have hHeld := hNew (by decide)
              clear hNew
              (try simp only [Act.put, List.setIfInBounds_toArray, List.set_cons_zero, List.set_cons_succ])
              refine wpAnyT_all (rs := [8]) (by kernel_rfl) (by simp) ?_
              refine AllT.cons (o := ?_) ?_ (fun K hK => ?_) ?_
              rotate_left
              · (simp only [List.getElem?_toArray, List.getElem?_cons_succ, List.getElem?_cons_zero]; rfl)
              · skip
                go_simp
                refine hK.out _ _ ?_ (fun hNew => ?_)
                · (intro _; (try dsimp only); all_goals trivial)
                clear hHeld hK K
                have hHeld := hNew (by decide)
                clear hNew
                (try simp only [Act.put, List.setIfInBounds_toArray, List.set_cons_zero, List.set_cons_succ])
                refine wpAnyT_all (rs := [10]) (by kernel_rfl) (by simp) ?_
                refine AllT.cons (o := ?_) ?_ (fun K hK => ?_) ?_
                rotate_left
                · (simp only [List.getElem?_toArray, List.getElem?_cons_succ, List.getElem?_cons_zero]; rfl)
                · skip
                  have z0 := HZ.out.cell 0
                  have z1 := HZ.out.cell 1
                  have z2 := HZ.out.cell 2
                  have z3 := HZ.out.cell 3
                  have zf0 := HZ.out.frozen 0
                  have zf1 := HZ.out.frozen 1
                  have zf2 := HZ.out.frozen 2
                  have zf3 := HZ.out.frozen 3
                  simp only [List.getElem?_toArray, List.getElem?_cons_zero, List.getElem?_cons_succ] at z0 z1 z2 z3
                  go_simp
                  refine hK.out _ _ ?_ (fun hNew => ?_)
                  · exact fun h => absurd rfl h
                  clear hHeld hK K
                  clear hNew
                  (try simp only [Act.put, List.setIfInBounds_toArray, List.set_cons_zero, List.set_cons_succ])
                  refine wpAnyT_done (by kernel_rfl) ?_
                  clear hk
                  have hB := (((HZ.out.put 0 (.slice AQ n5 cQ)).put 1 (.slice none 0 0)).put 2 (.int .i64 ro)).put 3 (.bool false)
                  simp only [List.setIfInBounds_toArray, List.set_cons_zero, List.set_cons_succ] at hB
                  have fA : Fr (fun q => q = W.heap.size) w7 ((((w7.setCell ⟨W.heap.size, 0, none⟩ (.slice AQ n5 cQ)).setCell ⟨W.heap.size, 1, none⟩ (.slice none 0 0)).setCell ⟨W.heap.size, 2, none⟩ (.int .i64 ro)).setCell ⟨W.heap.size, 3, none⟩ (.bool false)) := Fr.setCell (Fr.setCell (Fr.setCell (Fr.setCell (Fr.refl _ _) (p := ⟨W.heap.size, 0, none⟩) (.inl (by exact rfl)) _) (p := ⟨W.heap.size, 1, none⟩) (.inl (by exact rfl)) _) (p := ⟨W.heap.size, 2, none⟩) (.inl (by exact rfl)) _) (p := ⟨W.heap.size, 3, none⟩) (.inl (by exact rfl)) _
                  have hQ := own_fr HQ.out fA (fun q hq e => (HQN.out q hq).2.1 e)
                  have hL := HLN.out.fr fA (fun q hq => ⟨Nat.lt_of_lt_of_le (HBW.out q hq) f7.size, fun e => by have := HBW.out q hq; omega⟩)
                  have hF : Fr No W ((((w7.setCell ⟨W.heap.size, 0, none⟩ (.slice AQ n5 cQ)).setCell ⟨W.heap.size, 1, none⟩ (.slice none 0 0)).setCell ⟨W.heap.size, 2, none⟩ (.int .i64 ro)).setCell ⟨W.heap.size, 3, none⟩ (.bool false)) := f7.trans fA (fun q hq hl => by omega)
                  obtain ⟨b12, hb12⟩ : ∃ b, b = W.heap.size := ⟨_, rfl⟩
                  have hqn := fun q hq => (show W.heap.size ≤ q ∧ q ≠ b12 ∧ q < ((((w7.setCell ⟨W.heap.size, 0, none⟩ (.slice AQ n5 cQ)).setCell ⟨W.heap.size, 1, none⟩ (.slice none 0 0)).setCell ⟨W.heap.size, 2, none⟩ (.int .i64 ro)).setCell ⟨W.heap.size, 3, none⟩ (.bool false)).heap.size from ⟨(HQN.out q hq).1, by rw [hb12]; exact (HQN.out q hq).2.1, Nat.lt_of_lt_of_le (HQN.out q hq).2.2 fA.size⟩)
                  have hbs : W.heap.size ≤ b12 := by omega
                  clear fA z0 z1 z2 z3 zf0 zf1 zf2 zf3
                  rw [← hb12] at hB hQ hL hF hqn ⊢
                  generalize ((((w7.setCell ⟨b12, 0, none⟩ (.slice AQ n5 cQ)).setCell ⟨b12, 1, none⟩ (.slice none 0 0)).setCell ⟨b12, 2, none⟩ (.int .i64 ro)).setCell ⟨b12, 3, none⟩ (.bool false)) = W2 at hB hQ hL hF hqn ⊢
                  have HB2 := Lib.hid hB
                  have HQ2 := Lib.hid hQ
                  have HL2 := Lib.hid hL
                  have F2 := Lib.hid hF
                  have HQN2 := Lib.hid hqn
                  have HBS := Lib.hid hbs
                  clear hB hQ hL hF hqn hbs hb12 f7 HQ HLN HQN HRE HRO HZ
                  go_wp2_with fail
                  refine (HVI.out W2 F2.out).mono ?_
                  rintro e W3 ⟨AC, cC, rfl, hC, hf3, hN3⟩
                  have HCN := Lib.hid (show ¬ Of (.slice AC n6 cC) b12 from fun h => by have h1 := (hN3 _ h).1; have h2 := HB2.out.lt; omega)
                  have HC := Lib.hid hC
                  have F3 := Lib.hid hf3
                  clear hC hf3 hN3
                  go_wp2_with fail
                  go_loopw [14] (fun i wr => ∃ (k : Nat) (Av : Option Addr) (cv : Nat), i = .int .i64 k ∧ k ≤ n6 ∧ Hid (LV W3 wr b12 x.V k Av cv (.slice AQ n5 cQ) (.int .i64 ro))) (fun i _ => n6 - (intOf i).toNat)
                  case atStart => exact ⟨0, none, 0, rfl, Nat.zero_le _, HB2.out.fr F3.out (fun h => h), World.ownsRow_nil _ _ _ _, (fun q hq => by cases hq), Fr.refl _ _⟩
                  case round =>
                    obtain ⟨k, Av, cv, rfl, hk, hv⟩ := hrel
                    by_cases hlt2 : k < n6
                    · obtain ⟨gC, hgC⟩ := slice_pos HC.out (by omega)
                      subst hgC
                      have kV : k < x.V.length := HN6.out ▸ hlt2
                      have hbC : b12 < W3.heap.size := (HB2.out.fr F3.out (fun h => h)).lt
                      have hCn : gC ≠ b12 := fun e => by
                        subst e
                        exact HCN.out rfl
                      have hat : ∀ X, Fr No wr X → X.cell? ⟨gC, k * 3, none⟩ = some (.string ⟨x.V[k].1.toArray⟩) ∧ X.cell? ⟨gC, k * 3 + 1, none⟩ = some (.string ⟨x.V[k].2.1.toArray⟩) ∧ X.cell? ⟨gC, k * 3 + 2, none⟩ = some (.bool x.V[k].2.2) := fun X hX => view_at (n := n6) (by have hq := own_fr (own_fr HC.out hv.out.fr (fun q hq e => hCn (by have := of_at hq; omega))) hX (fun _ _ h => h); rw [← HN6.out]; exact hq) kV
                      have htk : (x.V.take (k + 1)).flatMap encV = (x.V.take k).flatMap encV ++ encV x.V[k] := by rw [List.take_succ_eq_append_getElem kV, List.flatMap_append]; simp
                      obtain ⟨⟨na, te, oo⟩, hvk⟩ : ∃ q, q = x.V[k] := ⟨_, rfl⟩
                      rw [← hvk] at hat htk
                      simp only at hat
                      have HTK := Lib.hid htk
                      have HK := Lib.hid (show ∀ X, Fr No wr X → X.cell? ⟨b12, 1, none⟩ = some (.slice Av k cv) ∧ X.cell? ⟨gC, k * 3, none⟩ = some (.string ⟨na.toArray⟩) ∧ X.cell? ⟨gC, k * 3 + 1, none⟩ = some (.string ⟨te.toArray⟩) ∧ X.cell? ⟨gC, k * 3 + 2, none⟩ = some (.bool oo) from fun X hX => ⟨(hv.out.blk.fr hX (fun h => h)).cell 1, hat X hX⟩)
                      have HLV := Lib.hid hv.out
                      clear hat htk hvk hv kV
                      go_upto_region 20 with (fail)
                      refine wp_region_T (fun X => X.cell? ⟨b12, 1, none⟩ = some (.slice Av k cv) ∧ X.cell? ⟨gC, k * 3, none⟩ = some (.string ⟨na.toArray⟩) ∧ X.cell? ⟨gC, k * 3 + 1, none⟩ = some (.string ⟨te.toArray⟩) ∧ X.cell? ⟨gC, k * 3 + 2, none⟩ = some (.bool oo)) 21 (by kernel_rfl) ?_ ?_
                      · exact ⟨by kernel_rfl, by kernel_rfl, by kernel_rfl, by decide⟩
                      intro hk
                      have hHeld := HK.out _ ((Fr.refl No wr).drew)
                      refine wpAnyT_take (i := 0) (v := ?_) hk rfl (by kernel_rfl) (fun _ _ _ h => h) (by exact hHeld) (Or.inl ⟨by rfl, ?_⟩) ?_
                      rotate_left
                      · (intro w hSw; (try dsimp only at hSw); (try simp only [List.getElem_toArray, List.getElem_cons_succ, List.getElem_cons_zero]); go_simp; all_goals with_reducible rfl)
                      (try simp only [Act.put, List.setIfInBounds_toArray, List.set_cons_zero, List.set_cons_succ])
                      refine wpAnyT_take (i := 1) (v := ?_) hk rfl (by kernel_rfl) (fun _ _ _ h => h) (by exact hHeld) (Or.inl ⟨by rfl, ?_⟩) ?_
                      rotate_left
                      · (intro w hSw; (try dsimp only at hSw); (try simp only [List.getElem_toArray, List.getElem_cons_succ, List.getElem_cons_zero]); go_simp; all_goals with_reducible rfl)
                      (try simp only [Act.put, List.setIfInBounds_toArray, List.set_cons_zero, List.set_cons_succ])
                      refine wpAnyT_take (i := 2) (v := ?_) hk rfl (by kernel_rfl) (fun _ _ _ h => h) (by exact hHeld) (Or.inl ⟨by rfl, ?_⟩) ?_
                      rotate_left
                      · (intro w hSw; (try dsimp only at hSw); (try simp only [List.getElem_toArray, List.getElem_cons_succ, List.getElem_cons_zero]); go_simp; all_goals with_reducible rfl)
                      (try simp only [Act.put, List.setIfInBounds_toArray, List.set_cons_zero, List.set_cons_succ])
                      refine wpAnyT_take (i := 3) (v := ?_) hk rfl (by kernel_rfl) (fun _ _ _ h => h) (by exact hHeld) (Or.inl ⟨by rfl, ?_⟩) ?_
                      rotate_left
                      · (intro w hSw; (try dsimp only at hSw); (try simp only [List.getElem_toArray, List.getElem_cons_succ, List.getElem_cons_zero]); go_simp; all_goals with_reducible rfl)
                      (try simp only [Act.put, List.setIfInBounds_toArray, List.set_cons_zero, List.set_cons_succ])
                      refine wpAnyT_take (i := 4) (v := ?_) hk rfl (by kernel_rfl) (fun _ _ _ h => h) (by exact hHeld) (Or.inl ⟨by rfl, ?_⟩) ?_
                      rotate_left
                      · (intro w hSw; (try dsimp only at hSw); (try simp only [List.getElem_toArray, List.getElem_cons_succ, List.getElem_cons_zero]); go_simp; all_goals with_reducible rfl)
                      (try simp only [Act.put, List.setIfInBounds_toArray, List.set_cons_zero, List.set_cons_succ])
                      refine wpAnyT_take (i := 5) (v := ?_) hk rfl (by kernel_rfl) (fun _ _ _ h => h) (by exact hHeld) (Or.inl ⟨by rfl, ?_⟩) ?_
                      rotate_left
                      · (intro w hSw; (try dsimp only at hSw); (try simp only [List.getElem_toArray, List.getElem_cons_succ, List.getElem_cons_zero]); go_simp; all_goals with_reducible rfl)
                      (try simp only [Act.put, List.setIfInBounds_toArray, List.set_cons_zero, List.set_cons_succ])
                      refine wpAnyT_take (i := 6) (v := ?_) hk rfl (by kernel_rfl) (fun _ _ _ h => h) (by exact hHeld) (Or.inl ⟨by rfl, ?_⟩) ?_
                      rotate_left
                      · (intro w hSw; (try dsimp only at hSw); (try simp only [List.getElem_toArray, List.getElem_cons_succ, List.getElem_cons_zero]); go_simp; all_goals with_reducible rfl)
                      (try simp only [Act.put, List.setIfInBounds_toArray, List.set_cons_zero, List.set_cons_succ])
                      refine wpAnyT_take (i := 7) (v := ?_) hk rfl (by kernel_rfl) (fun _ _ _ h => h) (by exact hHeld) (Or.inl ⟨by rfl, ?_⟩) ?_
                      rotate_left
                      · (intro w hSw; (try dsimp only at hSw); (try simp only [List.getElem_toArray, List.getElem_cons_succ, List.getElem_cons_zero]); go_simp; all_goals with_reducible rfl)
                      (try simp only [Act.put, List.setIfInBounds_toArray, List.set_cons_zero, List.set_cons_succ])
                      refine wpAnyT_take (i := 8) (v := ?_) hk rfl (by kernel_rfl) (fun _ _ _ h => h) (by exact hHeld) (Or.inl ⟨by rfl, ?_⟩) ?_
                      rotate_left
                      · (intro w hSw; (try dsimp only at hSw); (try simp only [List.getElem_toArray, List.getElem_cons_succ, List.getElem_cons_zero]); go_simp; all_goals with_reducible rfl)
                      (try simp only [Act.put, List.setIfInBounds_toArray, List.set_cons_zero, List.set_cons_succ])
                      refine wpAnyT_take (i := 9) (v := ?_) hk rfl (by kernel_rfl) (fun _ _ _ h => h) (by exact hHeld) (Or.inl ⟨by rfl, ?_⟩) ?_
                      rotate_left
                      · (intro w hSw; (try dsimp only at hSw); (try simp only [List.getElem_toArray, List.getElem_cons_succ, List.getElem_cons_zero]); go_simp; all_goals with_reducible rfl)
                      (try simp only [Act.put, List.setIfInBounds_toArray, List.set_cons_zero, List.set_cons_succ])
                      refine wpAnyT_take (i := 10) (v := ?_) hk rfl (by kernel_rfl) (fun _ _ _ h => h) (by exact hHeld) (Or.inl ⟨by rfl, ?_⟩) ?_
                      rotate_left
                      · (intro w hSw; (try dsimp only at hSw); (try simp only [List.getElem_toArray, List.getElem_cons_succ, List.getElem_cons_zero]); go_simp; all_goals with_reducible rfl)
                      (try simp only [Act.put, List.setIfInBounds_toArray, List.set_cons_zero, List.set_cons_succ])
                      refine wpAnyT_take (i := 11) (v := ?_) hk rfl (by kernel_rfl) (fun _ _ _ h => h) (by exact hHeld) (Or.inl ⟨by rfl, ?_⟩) ?_
                      rotate_left
                      · (intro w hSw; (try dsimp only at hSw); (try simp only [List.getElem_toArray, List.getElem_cons_succ, List.getElem_cons_zero]); go_simp; all_goals with_reducible rfl)
                      (try simp only [Act.put, List.setIfInBounds_toArray, List.set_cons_zero, List.set_cons_succ])
                      refine wpAnyT_take (i := 12) (v := ?_) hk rfl (by kernel_rfl) (fun _ _ _ h => h) (by exact hHeld) (Or.inl ⟨by rfl, ?_⟩) ?_
                      rotate_left
                      · (intro w hSw; (try dsimp only at hSw); (try simp only [List.getElem_toArray, List.getElem_cons_succ, List.getElem_cons_zero]); go_simp; all_goals with_reducible rfl)
                      (try simp only [Act.put, List.setIfInBounds_toArray, List.set_cons_zero, List.set_cons_succ])
                      refine wpAnyT_take (i := 13) (v := ?_) hk rfl (by kernel_rfl) (fun _ _ _ h => h) (by exact hHeld) (Or.inl ⟨by rfl, ?_⟩) ?_
                      rotate_left
                      · (intro w hSw; (try dsimp only at hSw); (try simp only [List.getElem_toArray, List.getElem_cons_succ, List.getElem_cons_zero]); go_simp; all_goals with_reducible rfl)
                      (try simp only [Act.put, List.setIfInBounds_toArray, List.set_cons_zero, List.set_cons_succ])
                      refine wpAnyT_take (i := 14) (v := ?_) hk rfl (by kernel_rfl) (fun _ _ _ h => h) (by exact hHeld) (Or.inl ⟨by rfl, ?_⟩) ?_
                      rotate_left
                      · (intro w hSw; (try dsimp only at hSw); (try simp only [List.getElem_toArray, List.getElem_cons_succ, List.getElem_cons_zero]); go_simp; all_goals with_reducible rfl)
                      (try simp only [Act.put, List.setIfInBounds_toArray, List.set_cons_zero, List.set_cons_succ])
                      refine wpAnyT_take (i := 15) (v := ?_) hk rfl (by kernel_rfl) (fun _ _ _ h => h) (by exact hHeld) (Or.inl ⟨by rfl, ?_⟩) ?_
                      rotate_left
                      · (intro w hSw; (try dsimp only at hSw); (try simp only [List.getElem_toArray, List.getElem_cons_succ, List.getElem_cons_zero]); go_simp; all_goals with_reducible rfl)
                      (try simp only [Act.put, List.setIfInBounds_toArray, List.set_cons_zero, List.set_cons_succ])
                      refine wpAnyT_take (i := 16) (v := ?_) hk rfl (by kernel_rfl) (fun _ _ _ h => h) (by exact hHeld) (Or.inl ⟨by rfl, ?_⟩) ?_
                      rotate_left
                      · (intro w hSw; (try dsimp only at hSw); (try simp only [List.getElem_toArray, List.getElem_cons_succ, List.getElem_cons_zero]); go_simp; all_goals with_reducible rfl)
                      (try simp only [Act.put, List.setIfInBounds_toArray, List.set_cons_zero, List.set_cons_succ])
                      refine wpAnyT_take (i := 17) (v := ?_) hk rfl (by kernel_rfl) (fun _ _ _ h => h) (by exact hHeld) (Or.inl ⟨by rfl, ?_⟩) ?_
                      rotate_left
                      · (intro w hSw; (try dsimp only at hSw); (try simp only [List.getElem_toArray, List.getElem_cons_succ, List.getElem_cons_zero]); go_simp; all_goals with_reducible rfl)
                      (try simp only [Act.put, List.setIfInBounds_toArray, List.set_cons_zero, List.set_cons_succ])
                      refine wpAnyT_all (rs := [18]) (by kernel_rfl) (by simp) ?_
                      refine AllT.cons (o := ?_) ?_ (fun K hK => ?_) ?_
                      rotate_left
                      · (simp only [List.getElem?_toArray, List.getElem?_cons_succ, List.getElem?_cons_zero]; rfl)
                      · skip
                        go_simp
                        refine hK.out _ _ ?_ (fun hNew => ?_)
                        · (intro _; (try dsimp only); refine HK.out _ ?_; (repeat' (first | with_reducible assumption | with_reducible exact Fr.refl _ _ | with_reducible refine Fr.drew ?_ | with_reducible refine Fr.drewN ?_ _ | with_reducible refine Fr.alloc ?_ _)))
                        clear hHeld hK K
                        have hHeld := hNew (by decide)
                        clear hNew
                        (try simp only [Act.put, List.setIfInBounds_toArray, List.set_cons_zero, List.set_cons_succ])
                        refine wpAnyT_all (rs := [19]) (by kernel_rfl) (by simp) ?_
                        refine AllT.cons (o := ?_) ?_ (fun K hK => ?_) ?_
                        rotate_left
                        · (simp only [List.getElem?_toArray, List.getElem?_cons_succ, List.getElem?_cons_zero]; rfl)
                        · skip
                          refine step_pushD rfl (.tmp 82) (.tmp 99) 29 rfl TV (.agg #[.string ByteArray.empty, .string ByteArray.empty, .bool false]) 3 40 Try.underlying29 infoW rfl (by decide) (.slice Av k cv) k _ (by simp [Act.eval, Act.put]) HLV.out.own #[.string ⟨na.toArray⟩, .string ⟨te.toArray⟩, .bool oo] (by simp [Act.eval, Act.put]) rfl (by intro u hu; simp at hu; rcases hu with rfl | rfl | rfl <;> rfl) (by omega) (by unfold maxLen; omega) ?_
                          intro g7 c8 w9 q1 q2 q3
                          have hnb : ¬ Of (.slice Av k cv) b12 := fun h => by have h7 := (HLV.out.new _ h).1; omega
                          have X9 := HLV.out.blk.fr q2 hnb
                          have NXT := Lib.hid (HLV.out.next (v := (na, te, oo)) hbC HTK.out q1 q2 q3)
                          have HS7 := Lib.hid (show w9.cell? ⟨b12, 1, none⟩ = some (.slice Av k cv) ∧ w9.cell? ⟨gC, k * 3, none⟩ = some (.string ⟨na.toArray⟩) ∧ w9.cell? ⟨gC, k * 3 + 1, none⟩ = some (.string ⟨te.toArray⟩) ∧ w9.cell? ⟨gC, k * 3 + 2, none⟩ = some (.bool oo) from ⟨X9.cell 1, by obtain ⟨u0, u1, u2⟩ := (HK.out wr (Fr.refl _ _)).2; have hg : ∀ j, w9.cell? ⟨gC, j, none⟩ = wr.cell? ⟨gC, j, none⟩ := fun j => q2.cell (p := ⟨gC, j, none⟩) (Nat.lt_of_lt_of_le (of_lt HC.out gC rfl) HLV.out.fr.size) (fun h => absurd (HLV.out.new gC h).1 (by have h8 := of_lt HC.out gC rfl; omega)); exact ⟨(hg _).trans u0, (hg _).trans u1, (hg _).trans u2⟩⟩)
                          have HX9 := Lib.hid X9
                          clear q1 q2 q3 X9
                          refine hK.out _ _ ?_ (fun hNew => ?_)
                          · (intro _; (try dsimp only); exact HS7.out)
                          clear hHeld hK K
                          have hHeld := hNew (by decide)
                          clear hNew
                          (try simp only [Act.put, List.setIfInBounds_toArray, List.set_cons_zero, List.set_cons_succ])
                          refine wpAnyT_all (rs := [20]) (by kernel_rfl) (by simp) ?_
                          refine AllT.cons (o := ?_) ?_ (fun K hK => ?_) ?_
                          rotate_left
                          · (simp only [List.getElem?_toArray, List.getElem?_cons_succ, List.getElem?_cons_zero]; rfl)
                          · skip
                            go_simp
                            refine hK.out _ _ ?_ (fun hNew => ?_)
                            · (intro _; (try dsimp only); exact HS7.out)
                            clear hHeld hK K
                            have hHeld := hNew (by decide)
                            clear hNew
                            (try simp only [Act.put, List.setIfInBounds_toArray, List.set_cons_zero, List.set_cons_succ])
                            refine wpAnyT_all (rs := [21]) (by kernel_rfl) (by simp) ?_
                            refine AllT.cons (o := ?_) ?_ (fun K hK => ?_) ?_
                            rotate_left
                            · (simp only [List.getElem?_toArray, List.getElem?_cons_succ, List.getElem?_cons_zero]; rfl)
                            · skip
                              have z1 := HS7.out.1
                              have zf := HX9.out.frozen 1
                              go_simp
                              refine hK.out _ _ ?_ (fun hNew => ?_)
                              · exact fun h => absurd rfl h
                              clear hHeld hK K
                              clear hNew
                              (try simp only [Act.put, List.setIfInBounds_toArray, List.set_cons_zero, List.set_cons_succ])
                              refine wpAnyT_done (by kernel_rfl) ?_
                              clear z1 zf
                              go_wp2_with fail
                              go_roundw
                              case rel => exact ⟨k + 1, _, _, by go_num, by omega, NXT.out⟩
                              case measure => simp [intOf]; omega
                            exact AllT.nil
                          exact AllT.nil
                        exact AllT.nil
                      exact AllT.nil
                    · have hkn : k = n6 := by omega
                      subst hkn
                      have HLV := Lib.hid hv.out
                      clear hv
                      have x0 := HLV.out.blk.cell 0
                      have x1 := HLV.out.blk.cell 1
                      have x2 := HLV.out.blk.cell 2
                      have x3 := HLV.out.blk.cell 3
                      simp only [List.getElem?_toArray, List.getElem?_cons_zero, List.getElem?_cons_succ] at x0 x1 x2 x3
                      have hFr : Fr (fun q => q = b12) W wr := ((F2.out.then_no F3.out).no _).trans HLV.out.fr (fun q hq _ => hq)
                      have hra := HRA.out.fr hFr (fun q hq e => by have := HRA.out.lt q hq; have := HBS.out; omega)
                      have hrb : RB wr (fun q => q < wr.heap.size) { x with bad := false } #[.slice AQ n5 cQ, .slice Av k cv, .int .i64 ro, .bool false] := by
                        refine RB.of_rows (B := B) (rv := rvx) ⟨?_, ?_, ?_, fun q hq hq' => ?_, fun q hq => ⟨?_, fun hq' => ?_, fun hq' => ?_⟩⟩ HRO2.out rfl (fun q hq => ?_) (fun q hq => hq)
                        · rw [← HN5.out]; exact own_fr (own_fr HQ2.out F3.out (fun _ _ h => h)) HLV.out.fr (fun q hq e => (HQN2.out q hq).2.1 e)
                        · exact (HL2.out.fr F3.out (fun q hq => ⟨Nat.lt_of_lt_of_le (HBW.out q hq) F2.out.size, fun h => h⟩)).fr HLV.out.fr (fun q hq => ⟨Nat.lt_of_lt_of_le (HBW.out q hq) (F2.out.then_no F3.out).size, fun e => by have := HBW.out q hq; have := HBS.out; omega⟩)
                        · have h9 := HLV.out.own
                          rw [HN6.out, List.take_length] at h9
                          rw [HN6.out]
                          exact h9
                        · have h7 := (HQN2.out q hq).2.2
                          have h8 := (HLV.out.new q hq').1
                          have h9 := F3.out.size
                          omega
                        · have h7 := HBW.out q hq
                          have h8 := hFr.size
                          omega
                        · have h7 := HBW.out q hq
                          have h8 := (HQN2.out q hq').1
                          have h9 := HBS.out
                          omega
                        · have h7 := HBW.out q hq
                          have h8 := (HLV.out.new q hq').1
                          have h9 := (F2.out.then_no F3.out).size
                          omega
                        · rcases hq with hq | hq | hq
                          · have h7 := HBW.out q hq
                            have h8 := hFr.size
                            omega
                          · have h7 := (HQN2.out q hq).2.2
                            have h8 := F3.out.size
                            have h9 := HLV.out.fr.size
                            omega
                          · exact (HLV.out.new q hq).2
                      have HSAME := Lib.hid (lsame_any hra hrb rfl rfl rfl HFX.out)
                      have hfr0 : Fr No W0 wr := HT.out.fr.trans hFr (fun q hq hl => by have := HBS.out; have := HT.out.fr.size; omega)
                      have HF0 := Lib.hid hfr0
                      clear hra hrb hFr hfr0
                      go_wp2_with fail
                      refine HSAME.out.mono ?_
                      rintro e W5 ⟨rfl, hf5⟩
                      have HF5 := Lib.hid (HF0.out.then_no hf5)
                      clear hf5
                      go_wp2_with fail
                      refine (wworks W0 W5 HF5.out).mono ?_
                      rintro e W6 ⟨rfl, hf6⟩
                      have HF6 := Lib.hid hf6
                      clear hf6
                      go_wp2_with fail
                      go_ret
                      exact ⟨rfl, HF6.out⟩
                exact AllT.nil
              exact AllT.nil
            exact AllT.nil
          exact AllT.nil
        exact AllT.nil

end Rd
end Go.Proofs.Ytmmdiccpifepfaa
