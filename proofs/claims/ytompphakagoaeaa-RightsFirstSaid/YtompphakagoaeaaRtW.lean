/- The reference of rights: Fit and Group. Printed by gen_rtw.py. -/
import Derived.Test.YtompphakagoaeaaRtV
namespace Go.Proofs.Ytompphakagoaeaa
open Go.RowKit
set_option linter.unusedVariables false
set_option linter.unusedSimpArgs false
namespace Conf
open Word
set_option maxHeartbeats 4000000 in
theorem rfit_any (c0 : Array Value) (x : C) (v : Value) (pats : List Str) (w : World) (S : Nat → Prop) (hS : ∀ k, S k → k < w.heap.size) (h : QConf w S c0.toList x) (S2 : Nat → Prop) (hS2 : ∀ k, S2 k → k < w.heap.size) (hpt : RSl 1 RS40 w S2 [v] pats) :
    Calls Try.prog 22 #[.agg c0, v] w (IntsPost w (placesR (fun c => okP pats c.1) x.1)) := by
  obtain ⟨vC, vG, vU, vA, bs, hc0, hC, hG, hU, hA, hB⟩ := q_open h
  obtain ⟨AC, kC, rfl, hA1, hA2⟩ := hC.1.slice
  obtain ⟨AP, kP, rfl, hP1, hP2⟩ := hpt.slice
  have e0 : c0[0]? = some (.slice AC x.1.length kC) := by rw [hc0]; rfl
  have hW : Fr No w (w.alloc (.cells c0 28)) := (Fr.refl No w).alloc _
  have HS := Lib.hid hS
  have HS2 := Lib.hid hS2
  have HPT := Lib.hid hpt
  have hbk := (Blk.new w 28 c0).cell 0
  rw [e0] at hbk
  have hl12 := hC.2
  have HC := Lib.hid hC
  unfold maxLen at hA2 hP2
  have HPL := Lib.hid (fun k (hk : k < x.1.length) => places_take (p := fun c : Con => okP pats c.1) hk)
  clear h hS hC hG hU hA hB hc0 e0 hS2 hpt
  go_enter Try.func22, Try.ntmps22
  go_wp2_with fail
  obtain ⟨W, hWW⟩ : ∃ W, w.alloc (.cells c0 28) = W := ⟨_, rfl⟩
  have hlc : w.heap.size < W.heap.size := by rw [← hWW]; simp
  rw [hWW] at hbk hW ⊢
  obtain ⟨bc, hbc⟩ : ∃ bc, w.heap.size = bc := ⟨_, rfl⟩
  rw [hbc] at hbk hlc ⊢
  have HB := Lib.hid hbk
  have HW := Lib.hid hW
  clear hWW hbc hbk hW
  obtain ⟨l, hl⟩ : ∃ l, x.1 = l := ⟨_, rfl⟩
  rw [hl] at HC HPL hl12 hA1 HB
  have HX := Lib.hid hl
  clear hl
  go_loopw [5, 6] (fun o iv wr => ∃ (k m : Nat) (out : List Int), iv = .int .i64 k ∧ k ≤ l.length ∧ m ≤ k ∧ Hid (out.length = m ∧ placesR (fun c => okP pats c.1) (l.take k) = out) ∧ Hid (wr.ownsRow 0 3 1 o m (out.map encI) ∧ Step No W (Of o) wr)) (fun _ i _ => l.length - (intOf i).toNat)
  case atStart => exact ⟨0, 0, [], rfl, by omega, by omega, Lib.hid ⟨rfl, rfl⟩, Lib.hid ⟨World.ownsRow_nil _ _ _ _, Fr.refl _ _, fun k hk => by cases hk⟩⟩
  case round =>
    obtain ⟨k, m, out, rfl, hk, hm, Hd, HO⟩ := hrel
    obtain ⟨A1, c1, hu⟩ := own_form HO.out.1
    subst hu
    have y0 := (HO.out.2.1.cell (p := ⟨bc, 0, none⟩) hlc (fun h => h)).trans HB.out
    by_cases hlt : k < l.length
    · have hca := con_at HC.out (HW.out.then_no HO.out.2.1) HS.out hlt
      obtain ⟨ad, n1, n2, n3, n4, n5, n6, n7, n8, b, rfl, hla, k0, -, -, -, -, -, -, -, -, -, b1⟩ := hca
      have hpt := Lib.hid (HPL.out k hlt)
      obtain ⟨a, ha⟩ : ∃ a, a = l[k].1 := ⟨_, rfl⟩
      rw [← ha] at k0 b1
      have hpt2 : Hid (placesR (fun c => okP pats c.1) (l.take (k + 1)) = placesR (fun c => okP pats c.1) (l.take k) ++ if okP pats a = true then [(k : Int)] else []) := by rw [ha]; exact hpt
      have K0 := Lib.hid k0
      have Y0 := Lib.hid y0
      have hlw : (ad.add (k * 10)).block < wr.heap.size := by have := HW.out.size; have := HO.out.2.1.size; omega
      have hlcw : bc < wr.heap.size := by have := HO.out.2.1.size; omega
      clear ha hpt k0 y0
      obtain ⟨W1, e1⟩ : ∃ W1, W1 = wr := ⟨_, rfl⟩
      subst e1
      have y0 := Y0.out
      go_wp2_with fail
      clear y0
      go_loopw [7, 8] (fun ov jv w2 => ∃ (j : Nat) (q : Bool), ov = .bool q ∧ jv = .int .i64 j ∧ j ≤ pats.length ∧ Hid (okP (pats.take j) a = q) ∧ Hid (Fr No W1 w2)) (fun _ j _ => pats.length - (intOf j).toNat)
      case atStart => exact ⟨0, false, rfl, rfl, by omega, Lib.hid rfl, Lib.hid (Fr.refl _ _)⟩
      case round =>
        obtain ⟨j, q, rfl, rfl, hj, Hq, HF⟩ := hrel
        have k0 := (HF.out.cell (p := ad.add (k * 10)) hlw (fun h => h)).trans K0.out
        have y0 := (HF.out.cell (p := ⟨bc, 0, none⟩) hlcw (fun h => h)).trans Y0.out
        by_cases hjl : j < pats.length
        · have ht := Lib.hid (ok_take (a := a) hjl)
          obtain ⟨ap, rfl, hlp, z0, bp⟩ := s40_at HPT.out ((HW.out.then_no HO.out.2.1).then_no HF.out) HS2.out hjl
          have C1 := Lib.hid (fun w => rmatch_any pats[j] a (by omega) (by omega) w)
          obtain ⟨p, hp⟩ : ∃ p, p = pats[j] := ⟨_, rfl⟩
          obtain ⟨r, hr⟩ : ∃ r, matchR pats[j] a = r := ⟨_, rfl⟩
          rw [hr] at C1 ht
          rw [← hp] at z0 C1
          clear hp hr bp
          have HK := Lib.hid (fun (W' : World) (hf : Fr No wr W') => (show W'.cell? ⟨bc, 0, none⟩ = some (.slice (some ad) l.length kC) ∧ W'.cell? (ad.add (k * 10)) = some (.string ⟨a.toArray⟩) ∧ W'.cell? (ap.add j) = some (.string ⟨p.toArray⟩) from
            ⟨(hf.cell (p := ⟨bc, 0, none⟩) (by have := HF.out.size; show bc < _; omega) (fun h => h)).trans y0, (hf.cell (p := ad.add (k * 10)) (by have := HF.out.size; omega) (fun h => h)).trans k0, (hf.cell (p := ap.add j) (by have := HW.out.size; have := HO.out.2.1.size; have := HF.out.size; omega) (fun h => h)).trans z0⟩))
          cases q
          · go_wp2_with fail
            go_region_held3 (fun W' => W'.cell? ⟨bc, 0, none⟩ = some (.slice (some ad) l.length kC) ∧ W'.cell? (ad.add (k * 10)) = some (.string ⟨a.toArray⟩) ∧ W'.cell? (ap.add j) = some (.string ⟨p.toArray⟩)) ((refine HK.out _ ?_; repeat' (first | with_reducible assumption | with_reducible exact Fr.refl _ _ | with_reducible refine Fr.drew ?_))) ((go_at_call 23; refine (C1.out _).mono ?_; rintro e w9 ⟨rfl, hf⟩; have hf9 : Fr No wr w9 := (by first | exact hf | exact ((Fr.refl No wr).drew).then_no hf); have F9 := Lib.hid hf9; clear hf))
            all_goals
              clear hf9
              go_wp2_with fail
              go_roundw
              case rel => exact ⟨j + 1, r, rfl, by go_num, by omega, Lib.hid (by rw [ht.out, Hq.out]; simp), Lib.hid (HF.out.then_no F9.out)⟩
              case measure => simp [intOf]; omega
          · go_wp2_with fail
            go_quiet (fail)
            go_wp2_with fail
            go_roundw
            case rel => exact ⟨j + 1, true, rfl, by go_num, by omega, Lib.hid (by rw [ht.out, Hq.out]; simp), Lib.hid (HF.out.drewN _)⟩
            case measure => simp [intOf]; omega
        · have hq2 : Hid (okP pats a = q) := Lib.hid (by have := Hq.out; rw [List.take_of_length_le (by omega)] at this; exact this)
          have HO2 : Hid (wr.ownsRow 0 3 1 (.slice A1 m c1) m (out.map encI) ∧ Step No W (Of (.slice A1 m c1)) wr) := Lib.hid ⟨own_fr HO.out.1 HF.out (fun b hb h => h), HO.out.2.1.then_no HF.out, fun b hb => (HO.out.2.2 b hb).elim .inl (fun h => .inr ⟨h.1, by have := h.2; have := HF.out.size; omega⟩)⟩
          clear y0 k0
          cases q
          · go_wp2_with fail
            go_roundw
            case rel => exact ⟨k + 1, m, out, by go_num, by omega, by omega, Lib.hid ⟨Hd.out.1, by rw [hpt2.out, Hd.out.2, hq2.out]; simp⟩, HO2⟩
            case measure => simp [intOf]; omega
          · go_wp2_with (at_builtin; go_loud (refine wp_push rfl (.tmp 37) (.tmp 39) 34 rfl 3 (.int .i64 0) 1 8 Try.underlying34 infoI rfl (by decide) (.slice A1 m c1) m _ rfl HO2.out.1 #[.int .i64 k] rfl rfl (one_lit rfl) (by omega) (by unfold maxLen; omega) ?_; intro g3 c3 w3 h1 h2 h3; have P3 := Lib.hid h1; have F3 := Lib.hid (HO2.out.2.trans (Step.of (n := m + 1) (c := c3) h2 h3)); clear h1 h2 h3))
            go_roundw
            case rel => exact ⟨k + 1, m + 1, out ++ [(k : Int)], by go_num, by omega, by omega, Lib.hid ⟨by rw [List.length_append, Hd.out.1]; rfl, by rw [hpt2.out, Hd.out.2, hq2.out]; simp⟩, Lib.hid ⟨by rw [List.map_append]; exact P3.out, F3.out⟩⟩
            case measure => simp [intOf]; omega
    · have HE := Lib.hid (show placesR (fun c => okP pats c.1) x.1 = out ∧ out.length = m from ⟨by have := Hd.out.2; rw [List.take_of_length_le (by omega)] at this; rw [HX.out]; exact this, Hd.out.1⟩)
      go_wp2_with fail
      go_ret
      refine ⟨_, rfl, ?_, HW.out.then_no HO.out.2.1, fun b hb => ?_⟩
      · rw [HE.out.1, HE.out.2]
        exact HO.out.1
      · rcases HO.out.2.2 b hb with h | h
        · exact h.elim
        · exact .inr ⟨by have := HW.out.size; have := h.1; omega, h.2⟩
set_option maxHeartbeats 4000000 in
theorem rgroup_any (c0 : Array Value) (x : C) (name : Str) (w : World) (S : Nat → Prop) (hS : ∀ k, S k → k < w.heap.size) (h : QConf w S c0.toList x) :
    Calls Try.prog 18 #[.agg c0, .string ⟨name.toArray⟩] w (IntsPost2 w (groupR x name)) := by
  have hW : Fr No w (w.alloc (.cells c0 28)) := (Fr.refl No w).alloc _
  have HS := Lib.hid hS
  have HQ := Lib.hid h
  have hbk := Blk.new w 28 c0
  obtain ⟨AC, kC, AG, kG, AU, kU, AA, kA, s0, s1, s2, s3, s4, s5, s6, s7, s8, s9, rfl, -, hG, -, -⟩ := q_lit h
  obtain ⟨hA1, hA2⟩ : x.2.1.length ≤ kG ∧ kG ≤ 9223372036854775807 := by
    obtain ⟨A', c, e, h1, h2, -⟩ := hG.1
    injection e with e _
    injection e with _ _ e
    subst e
    exact ⟨h1, h2⟩
  have hl12 := hG.2
  have HG := Lib.hid hG
  clear h hS hG
  generalize x.2.2.2.1.length = nA at HQ hbk hW ⊢
  generalize x.2.2.1.length = nU at HQ hbk hW ⊢
  generalize x.1.length = nC at HQ hbk hW ⊢
  go_enter Try.func18, Try.ntmps18
  go_wp2_with fail
  obtain ⟨W, hWW⟩ : ∃ W, w.alloc (.cells #[.slice AC nC kC, .slice AG x.2.1.length kG, .slice AU nU kU, .slice AA nA kA, .string ⟨s0.toArray⟩, .string ⟨s1.toArray⟩, .string ⟨s2.toArray⟩, .string ⟨s3.toArray⟩, .string ⟨s4.toArray⟩, .string ⟨s5.toArray⟩, .string ⟨s6.toArray⟩, .string ⟨s7.toArray⟩, .string ⟨s8.toArray⟩, .string ⟨s9.toArray⟩] 28) = W := ⟨_, rfl⟩
  have hlc : w.heap.size < W.heap.size := by rw [← hWW]; simp
  rw [hWW] at hbk hW ⊢
  obtain ⟨bc, hbc⟩ : ∃ bc, w.heap.size = bc := ⟨_, rfl⟩
  rw [hbc] at hbk hlc ⊢
  have HB0 := Lib.hid hbk
  have HW := Lib.hid hW
  clear hWW hbc hbk hW
  have y0 := HB0.out.cell 0
  have y1 := HB0.out.cell 1
  have y2 := HB0.out.cell 2
  have y3 := HB0.out.cell 3
  have y4 := HB0.out.cell 4
  have y5 := HB0.out.cell 5
  have y6 := HB0.out.cell 6
  have y7 := HB0.out.cell 7
  have y8 := HB0.out.cell 8
  have y9 := HB0.out.cell 9
  have y10 := HB0.out.cell 10
  have y11 := HB0.out.cell 11
  have y12 := HB0.out.cell 12
  have y13 := HB0.out.cell 13
  simp only [List.getElem?_toArray, List.getElem?_cons_zero, List.getElem?_cons_succ] at y0 y1 y2 y3 y4 y5 y6 y7 y8 y9 y10 y11 y12 y13
  go_loop [6] (fun iv => ∃ k : Nat, iv = .int .i64 k ∧ k ≤ x.2.1.length ∧ Hid (∀ j (h : j < x.2.1.length), j < k → x.2.1[j].1 ≠ name)) (fun i => x.2.1.length - (intOf i).toNat)
  case atStart => exact ⟨0, rfl, by omega, Lib.hid (fun j _ h => absurd h (by omega))⟩
  case round =>
    obtain ⟨k, rfl, hk, Hd⟩ := hrel
    by_cases hlt : k < x.2.1.length
    · obtain ⟨ad, v, rfl, hla, k0, k1, hp, b1⟩ := grp_at HG.out HW.out HS.out hlt
      obtain ⟨AP, kP, rfl, -, -⟩ := hp.slice
      have hrf := fun W' (hf : Fr No W W') => rfit_any _ x (.slice AP x.2.1[k].2.length kP) x.2.1[k].2 W' S (fun b hb => Nat.lt_of_lt_of_le (HS.out b hb) (HW.out.then_no hf).size) (stable_q.go HQ.out (Kept.of_no (HW.out.then_no hf) HS.out) (fun b hb => hb)) S (fun b hb => Nat.lt_of_lt_of_le (HS.out b hb) (HW.out.then_no hf).size) ((RSl.stable RS40.stable).go hp (Kept.of_no (HW.out.then_no hf) HS.out) (fun b hb => hb))
      have HRF := Lib.hid hrf
      obtain ⟨a, ha⟩ : ∃ a, a = x.2.1[k].1 := ⟨_, rfl⟩
      rw [← ha] at k0
      have Ha := Lib.hid ha
      obtain ⟨np, hnp⟩ : ∃ np, np = x.2.1[k].2.length := ⟨_, rfl⟩
      rw [← hnp] at k1 HRF
      clear hp hrf ha b1 hnp
      by_cases he : a = name
      · have hs := str_t he
        have hr := Lib.hid (group_at hlt Hd.out (by rw [← Ha.out]; exact he))
        have Hlt := Lib.hid hlt
        have hlw : (ad.add (k * 2)).block < W.heap.size := by have := HW.out.size; omega
        clear he
        have HK := Lib.hid (fun (W' : World) (hf : Fr No W W') => (show W'.cell? ⟨bc, 0, none⟩ = some (.slice AC nC kC) ∧ W'.cell? ⟨bc, 1, none⟩ = some (.slice (some ad) x.2.1.length kG) ∧ W'.cell? ⟨bc, 2, none⟩ = some (.slice AU nU kU) ∧ W'.cell? ⟨bc, 3, none⟩ = some (.slice AA nA kA) ∧ W'.cell? ⟨bc, 4, none⟩ = some (.string ⟨s0.toArray⟩) ∧ W'.cell? ⟨bc, 5, none⟩ = some (.string ⟨s1.toArray⟩) ∧ W'.cell? ⟨bc, 6, none⟩ = some (.string ⟨s2.toArray⟩) ∧ W'.cell? ⟨bc, 7, none⟩ = some (.string ⟨s3.toArray⟩) ∧ W'.cell? ⟨bc, 8, none⟩ = some (.string ⟨s4.toArray⟩) ∧ W'.cell? ⟨bc, 9, none⟩ = some (.string ⟨s5.toArray⟩) ∧ W'.cell? ⟨bc, 10, none⟩ = some (.string ⟨s6.toArray⟩) ∧ W'.cell? ⟨bc, 11, none⟩ = some (.string ⟨s7.toArray⟩) ∧ W'.cell? ⟨bc, 12, none⟩ = some (.string ⟨s8.toArray⟩) ∧ W'.cell? ⟨bc, 13, none⟩ = some (.string ⟨s9.toArray⟩) ∧ W'.cell? ⟨(ad.add (k * 2)).block, (ad.add (k * 2)).off + 1, none⟩ = some (.slice AP np kP) from ⟨(hf.cell (p := ⟨bc, 0, none⟩) hlc (fun h => h)).trans y0, (hf.cell (p := ⟨bc, 1, none⟩) hlc (fun h => h)).trans y1, (hf.cell (p := ⟨bc, 2, none⟩) hlc (fun h => h)).trans y2, (hf.cell (p := ⟨bc, 3, none⟩) hlc (fun h => h)).trans y3, (hf.cell (p := ⟨bc, 4, none⟩) hlc (fun h => h)).trans y4, (hf.cell (p := ⟨bc, 5, none⟩) hlc (fun h => h)).trans y5, (hf.cell (p := ⟨bc, 6, none⟩) hlc (fun h => h)).trans y6, (hf.cell (p := ⟨bc, 7, none⟩) hlc (fun h => h)).trans y7, (hf.cell (p := ⟨bc, 8, none⟩) hlc (fun h => h)).trans y8, (hf.cell (p := ⟨bc, 9, none⟩) hlc (fun h => h)).trans y9, (hf.cell (p := ⟨bc, 10, none⟩) hlc (fun h => h)).trans y10, (hf.cell (p := ⟨bc, 11, none⟩) hlc (fun h => h)).trans y11, (hf.cell (p := ⟨bc, 12, none⟩) hlc (fun h => h)).trans y12, (hf.cell (p := ⟨bc, 13, none⟩) hlc (fun h => h)).trans y13, (hf.cell (p := ⟨(ad.add (k * 2)).block, (ad.add (k * 2)).off + 1, none⟩) hlw (fun h => h)).trans k1⟩))
        go_wp2_with fail
        go_region_held3 (fun W' => W'.cell? ⟨bc, 0, none⟩ = some (.slice AC nC kC) ∧ W'.cell? ⟨bc, 1, none⟩ = some (.slice (some ad) x.2.1.length kG) ∧ W'.cell? ⟨bc, 2, none⟩ = some (.slice AU nU kU) ∧ W'.cell? ⟨bc, 3, none⟩ = some (.slice AA nA kA) ∧ W'.cell? ⟨bc, 4, none⟩ = some (.string ⟨s0.toArray⟩) ∧ W'.cell? ⟨bc, 5, none⟩ = some (.string ⟨s1.toArray⟩) ∧ W'.cell? ⟨bc, 6, none⟩ = some (.string ⟨s2.toArray⟩) ∧ W'.cell? ⟨bc, 7, none⟩ = some (.string ⟨s3.toArray⟩) ∧ W'.cell? ⟨bc, 8, none⟩ = some (.string ⟨s4.toArray⟩) ∧ W'.cell? ⟨bc, 9, none⟩ = some (.string ⟨s5.toArray⟩) ∧ W'.cell? ⟨bc, 10, none⟩ = some (.string ⟨s6.toArray⟩) ∧ W'.cell? ⟨bc, 11, none⟩ = some (.string ⟨s7.toArray⟩) ∧ W'.cell? ⟨bc, 12, none⟩ = some (.string ⟨s8.toArray⟩) ∧ W'.cell? ⟨bc, 13, none⟩ = some (.string ⟨s9.toArray⟩) ∧ W'.cell? ⟨(ad.add (k * 2)).block, (ad.add (k * 2)).off + 1, none⟩ = some (.slice AP np kP)) ((refine HK.out _ ?_; repeat' (first | with_reducible assumption | with_reducible exact Fr.refl _ _ | with_reducible refine Fr.drew ?_))) ((go_at_call 22; refine (HRF.out _ (by first | exact Fr.refl _ _ | exact (Fr.refl No W).drew)).mono ?_; rintro e w9 ⟨v9, rfl, ho, hs9⟩; have hf9 : Fr No W w9 := (by first | exact hs9.1 | exact ((Fr.refl No W).drew).then_no hs9.1); have H9 := Lib.hid (And.intro ho (show ∀ b, Of v9 b → New W w9 b from fun b hb => (hs9.2 b hb).elim (fun h => h.elim) (fun h => h))); have F9 := Lib.hid hf9; clear ho hs9))
        all_goals
          clear hf9
          go_wp2_with fail
          go_ret2
          refine ⟨v9, by rw [hr.out]; rfl, ?_, HW.out.then_no F9.out, fun b hb => .inr ⟨by have := (H9.out.2 b hb).1; have := HW.out.size; omega, (H9.out.2 b hb).2⟩⟩
          rw [hr.out]
          exact H9.out.1
      · have hs := str_f he
        have hn2 : Hid (∀ j (h : j < x.2.1.length), j < k + 1 → x.2.1[j].1 ≠ name) := by
          intro j h hj
          by_cases e : j = k
          · subst e; rw [← Ha.out]; exact he
          · exact Hd.out j h (by omega)
        clear he k1
        go_wp2_with fail
        go_round
        case rel => exact ⟨k + 1, by go_num, by omega, hn2⟩
        case measure => simp [intOf]; omega
    · have hr := Lib.hid (group_none (x := x) (name := name) fun j h => Hd.out j h (by omega))
      go_wp2_with fail
      go_ret2
      refine ⟨_, by rw [hr.out]; rfl, ?_, HW.out, fun k hk => by cases hk⟩
      rw [hr.out]
      exact World.ownsRow_nil _ _ _ _
end Conf
end Go.Proofs.Ytompphakagoaeaa
