/- Package timer: the law TimerPlays. Printed by gen_tme.py. -/
import Derived.Test.YtkmlmjglipmdcaaTmD
import Derived.Deep.RegionHeld3
import Derived.Deep.CutBlock
import Derived.BigGuardPart
namespace Go.Proofs.Ytkmlmjglipmdcaa
open Go.RowKit
set_option linter.unusedVariables false
set_option linter.unusedSimpArgs false
namespace Tm
open Sls
theorem nacts_from {W w X w' : World} {F : Nat → Prop} {b : Nat} {most : Int} {L : List A2} {r : Value} {e : Ending} (h : NActs W F X b most L r e w') (hf : Fr No w X) : NActs W F w b most L r e w' := by
  obtain ⟨F', h0, h1, h2⟩ := h
  exact ⟨F', h0, h1, Step.trans (Step.no hf) h2⟩
theorem ndue_from {W w X w' : World} {F : Nat → Prop} {b n : Nat} {most : Int} {L : List A2} {l : List Int} {e : Ending} (h : NDue W F X b most L l n e w') (hf : Fr No w X) : NDue W F w b most L l n e w' := by
  obtain ⟨F', A, c, h0, h1, h2, h3⟩ := h
  exact ⟨F', A, c, h0, h1, h2, Step.trans (Step.no hf) h3⟩
set_option maxRecDepth 100000 in
set_option maxHeartbeats 16000000 in
theorem plays_any (most : Int) (v : Value) (l : List (Int × Int × Int)) (w : World) (hv : RSl 3 (RTwo 1 (RInt .u8) (RTwo 1 (RInt .i64) (RInt .i64))) w (Ahead w.heap.size) [v] l) : Calls Try.prog 4 #[.int .i64 most, v] w fun e w' => e = .returned (.bool true) ∧ Fr No w w' := by
  obtain ⟨A, cap, rfl, hc1, hc2⟩ := hv.slice
  unfold maxLen at hc2
  have HV := Lib.hid hv
  clear hv
  by_cases hbig : 80 < l.length
  · go_enter Try.func4, Try.ntmps4
    go_wp2_with (go_at_call 6; refine (works_any _).mono ?_; rintro e w' ⟨rfl, hf⟩; have Hf := Lib.hid hf; clear hf)
    go_ret
    exact ⟨rfl, Hf.out⟩
  · by_cases hm1 : most < 1
    · go_enter Try.func4, Try.ntmps4
      go_wp2_with (first | (go_at_call 7; refine (new_no most (.inl hm1) _).mono ?_; rintro e w1 ⟨rfl, hw⟩; subst hw) | (go_at_call 6; refine (works_any _).mono ?_; rintro e w' ⟨rfl, hf⟩; have Hf := Lib.hid hf; clear hf))
      go_ret
      exact ⟨rfl, Hf.out⟩
    · by_cases hm2 : 4096 < most
      · go_enter Try.func4, Try.ntmps4
        go_wp2_with (first | (go_at_call 7; refine (new_no most (.inr hm2) _).mono ?_; rintro e w1 ⟨rfl, hw⟩; subst hw) | (go_at_call 6; refine (works_any _).mono ?_; rintro e w' ⟨rfl, hf⟩; have Hf := Lib.hid hf; clear hf))
        go_ret
        exact ⟨rfl, Hf.out⟩
      · have g1 : 1 ≤ most := by omega
        have g2 : most ≤ 4096 := by omega
        go_enter Try.func4, Try.ntmps4
        go_wp2_with fail
        refine (new_yes most g1 g2 _).mono ?_
        intro e w0 hm
        obtain ⟨b, rfl, hn⟩ := made_now hm
        have HB0 := Lib.hid (Both.start hn)
        clear hm hn
        go_upto_region 7 with (fail)
        obtain ⟨g, hg⟩ : ∃ g, g = w0.heap.size := ⟨_, rfl⟩
        rw [← hg] at HB0 ⊢
        generalize w0.alloc (.cells #[.slice none 0 0, .int .i64 most] 37) = w2 at HB0 ⊢
        clear hg
        go_wp2_with fail
        go_loopw [8] (fun iv wr => ∃ (k : Nat) (F S : Nat → Prop) (vL : Value) (L : List A2), iv = .int .i64 k ∧ k ≤ l.length ∧ Hid (Both w wr F S b g vL most L)) (fun i _ => l.length - (intOf i).toNat)
        case atStart => exact ⟨0, _, _, _, _, rfl, by omega, HB0.out⟩
        case round =>
          obtain ⟨k, F, S, vL, L, rfl, hk, HB⟩ := hrel
          clear HB0
          by_cases hlt : k < l.length
          · obtain ⟨ad, rfl, hadl, hcel, hkd⟩ := op_at HV.out HB.out.now.fr hlt
            obtain ⟨Ar, cr, rfl, hA1, hA2⟩ := HB.out.ref.form
            obtain ⟨kd, hkdE⟩ : ∃ x, x = l[k].1 := ⟨_, rfl⟩
            obtain ⟨id, hidE⟩ : ∃ x, x = l[k].2.1 := ⟨_, rfl⟩
            obtain ⟨t, htE⟩ : ∃ x, x = l[k].2.2 := ⟨_, rfl⟩
            rw [← hkdE] at hkd
            simp only [← hkdE, ← hidE, ← htE] at hcel
            clear hkdE hidE htE
            obtain ⟨n, hn⟩ : ∃ n, n = L.length := ⟨_, rfl⟩
            have hL4 : L.length ≤ 4096 := by have := HB.out.now.at'.len; omega
            have HL4 := Lib.hid hL4
            have hbox := HB.out.box
            rw [← hn] at hbox hA1
            have HBOX := Lib.hid hbox
            have HN := Lib.hid hn
            have HCEL := Lib.hid hcel
            have HREF := Lib.hid (show ∀ X, Fr No wr X → RT X S (.slice Ar n cr) L from fun X hf => by rw [hn]; exact HB.out.ref.no hf)
            have HK := Lib.hid (fun (X : World) (hf : Fr No wr X) => (show X.cell? ⟨g, 0, none⟩ = some (.slice Ar n cr) ∧ X.cell? ⟨g, 1, none⟩ = some (.int .i64 most) ∧ X.cell? ⟨(ad.add (k * 3)).block, (ad.add (k * 3)).off + 1, none⟩ = some (.int .i64 id) ∧ X.cell? ⟨(ad.add (k * 3)).block, (ad.add (k * 3)).off + 2, none⟩ = some (.int .i64 t) from by
              have hb := hbox.fr hf (fun h => h)
              have hc := hcel No X hf (fun _ h => h.elim)
              exact ⟨hb.cell 0, hb.cell 1, hc.2.1, hc.2.2⟩))
            have u0 := (hcel No wr (Fr.refl _ _) (fun _ h => h.elim)).1
            obtain ⟨hk0, hk1⟩ := hkd
            clear hcel hbox hn hL4
            go_upto_block 2 with fail
            go_cut [9, 10, 11, 12, 13, 14, 15] from 61 to 136 (fun okv a0 a1 a2 a3 a4 a5 wx => okv = .bool true ∧ Hid (∃ (F' S' : Nat → Prop) (vL' : Value) (L' : List A2), Both w wx F' S' b g vL' most L'))
            case first =>
              have h4 : kd % 4 = 0 ∨ kd % 4 = 1 ∨ kd % 4 = 2 ∨ kd % 4 = 3 := by omega
              rcases h4 with h4 | h4 | h4 | h4
              · have t0 : (kd % 4 == 0) = true := by simp [h4]
                clear h4
                as_aux_lemma =>
                obtain ⟨L8, hL8⟩ : ∃ L8, L8 = (setR most L id t).1 := ⟨_, rfl⟩
                obtain ⟨l8, hl8⟩ : ∃ l8 : List Int, l8 = [] := ⟨_, rfl⟩
                obtain ⟨n8, hn8⟩ : ∃ n8, n8 = L8.length := ⟨_, rfl⟩
                obtain ⟨cd, hcd⟩ : ∃ cd, cd = (setR most L id t).2 := ⟨_, rfl⟩
                have hrv : (cd == cd) = true := by simp
                have hcc := hrv
                have HRF := Lib.hid (fun (X : World) (hf : Fr No wr X) => ((rset_any (most := most) (HREF.out X hf) HL4.out id t).mono (fun e w' h => (show RP X S L8 n8 most (.int .i64 cd) e w' by rw [hL8, hcd]; exact rp_of h (by rw [hn8, hL8])))))
                have HL8 := Lib.hid hL8
                have HCD := Lib.hid hcd
                clear hcd
                have Hl8 := Lib.hid hl8
                have HN8 := Lib.hid hn8
                clear hL8 hl8 hn8 hrv
                go_upto_region 16 with (fail)
                go_cut [10, 11] from 84 to 99 (fun p u wx => ∃ (S' : Nat → Prop) (bt c8 : Nat) (A8 : Option Addr), p = .pointer (some ⟨bt, 0, none⟩) ∧ u = .int .i64 cd ∧ Hid (RNow wr wx S S' bt most (.slice A8 n8 c8) L8 (.slice none 0 0) []))
                case first =>
                  obtain ⟨x0, x1, x2, x3⟩ := HK.out wr (Fr.refl _ _)
                  go_region_held3 (fun X => X.cell? ⟨g, 0, none⟩ = some (.slice Ar n cr) ∧ X.cell? ⟨g, 1, none⟩ = some (.int .i64 most) ∧ X.cell? ⟨(ad.add (k * 3)).block, (ad.add (k * 3)).off + 1, none⟩ = some (.int .i64 id) ∧ X.cell? ⟨(ad.add (k * 3)).block, (ad.add (k * 3)).off + 2, none⟩ = some (.int .i64 t)) ((refine HK.out _ ?_; (repeat' (first | with_reducible assumption | with_reducible exact Fr.refl _ _ | with_reducible refine Fr.drew ?_ | with_reducible refine Fr.drewN ?_ _ | with_reducible refine Fr.alloc ?_ _ | with_reducible refine Fr.setCell ?_ (.inr ?_) _ | exact Nat.le_refl _)); done)) (first | (go_at_call 11; refine (HRF.out _ (by repeat' (first | with_reducible assumption | with_reducible exact Fr.refl _ _ | with_reducible refine Fr.drew ?_ | with_reducible refine Fr.drewN ?_ _ | with_reducible refine Fr.alloc ?_ _))).mono ?_; rintro e w8 ⟨S', A8, c8, rfl, hq⟩; have hk8 : Fr No wr w8 := Fr.then_no (by repeat' (first | with_reducible assumption | with_reducible exact Fr.refl _ _ | with_reducible refine Fr.drew ?_ | with_reducible refine Fr.drewN ?_ _ | with_reducible refine Fr.alloc ?_ _)) hq.fr; (first | (have hb7 := (Blk.new wr 37 #[.slice none 0 0, .int .i64 0]).fr hq.fr (fun h => h); have y0 := hb7.cell 0; have y1 := hb7.cell 1; have yf0 := hb7.frozen 0; have yf1 := hb7.frozen 1; simp only [List.getElem?_toArray, List.getElem?_cons_zero, List.getElem?_cons_succ] at y0 y1; have HB7 := Lib.hid hb7; clear hb7) | (have hb7 := Blk.fr (w := (wr.alloc (.cells #[.slice none 0 0, .int .i64 0] 37)).drew) (show Blk ((wr.alloc (.cells #[.slice none 0 0, .int .i64 0] 37)).drew) wr.heap.size 37 #[.slice none 0 0, .int .i64 0] from Blk.new wr 37 #[.slice none 0 0, .int .i64 0]) hq.fr (fun h => h); have y0 := hb7.cell 0; have y1 := hb7.cell 1; have yf0 := hb7.frozen 0; have yf1 := hb7.frozen 1; simp only [List.getElem?_toArray, List.getElem?_cons_zero, List.getElem?_cons_succ] at y0 y1; have HB7 := Lib.hid hb7; clear hb7) | skip); have HQ := Lib.hid hq; clear hq))
                  · go_wp2_with fail
                    go_meet
                    case rel => exact ⟨_, _, _, _, rfl, rfl, ref_after HB.out.ref.lt HQ.out (by repeat' (first | with_reducible assumption | with_reducible exact Fr.refl _ _ | with_reducible refine Fr.drew ?_ | with_reducible refine Fr.drewN ?_ _ | with_reducible refine Fr.alloc ?_ _))⟩
                  · go_wp2_with fail
                    go_meet
                    case rel => exact ⟨_, _, _, _, rfl, rfl, ref_before HB.out.ref.lt HQ.out (by repeat' (first | with_reducible assumption | with_reducible exact Fr.refl _ _ | with_reducible refine Fr.drew ?_ | with_reducible refine Fr.drewN ?_ _ | with_reducible refine Fr.alloc ?_ _)) (by show wr.heap.size < (wr.alloc _).heap.size; simp) HB7.out⟩
                case rest =>
                  obtain ⟨S', bt, c8, A8, rfl, rfl, HRN⟩ := hcut
                  obtain ⟨wx, hwx⟩ : ∃ wx, wx = wc := ⟨_, rfl⟩
                  subst hwx
                  have HNX := Lib.hid (HB.out.now.no HRN.out.fr)
                  have HK2 := Lib.hid (fun (X : World) (hf : Fr (fun k => F k ∨ k = g) wx X) => (show X.cell? ⟨bt, 0, none⟩ = some (.slice A8 n8 c8) ∧ X.cell? ⟨bt, 1, none⟩ = some (.int .i64 most) ∧ X.cell? ⟨(ad.add (k * 3)).block, (ad.add (k * 3)).off + 1, none⟩ = some (.int .i64 id) ∧ X.cell? ⟨(ad.add (k * 3)).block, (ad.add (k * 3)).off + 2, none⟩ = some (.int .i64 t) from by
                    have hb := HRN.out.tb.fr hf (fun h => by have h1 := HRN.out.tn.1.1; rcases h with h | h; (have := HB.out.now.at'.lt _ h; omega); (have := HB.out.box.lt; omega))
                    have hc := HCEL.out (fun k => F k ∨ k = g) X ((HRN.out.fr.no _).trans hf (fun k hk _ => hk)) (fun k hk => hk.elim (HB.out.now.new k) (fun e => by rw [e]; exact HB.out.gn.1))
                    exact ⟨hb.cell 0, hb.cell 1, hc.2.1, hc.2.2⟩))
                  have HPR := Lib.hid (fun (X : World) (hf : Fr No wx X) => ((show Calls _ _ _ X (NActs w F X b most L8 (.int .i64 cd)) from by rw [HL8.out, HCD.out]; exact (HNX.out.no hf).set id t)).mono (fun e w' h => nacts_from h hf))
                  obtain ⟨z0, z1, z2, z3⟩ := HK2.out wx (Fr.refl _ _)
                  have hgx := (HB.out.box.fr HRN.out.fr (fun h => h))
                  have gf0 := hgx.frozen 0
                  have gf1 := hgx.frozen 1
                  have gc0 := hgx.cell 0
                  have gc1 := hgx.cell 1
                  simp only [List.getElem?_toArray, List.getElem?_cons_zero, List.getElem?_cons_succ] at gc0 gc1
                  have HGX := Lib.hid hgx
                  clear hgx
                  go_upto_region 17 with (fail)
                  go_region_held3 (fun X => X.cell? ⟨bt, 0, none⟩ = some (.slice A8 n8 c8) ∧ X.cell? ⟨bt, 1, none⟩ = some (.int .i64 most) ∧ X.cell? ⟨(ad.add (k * 3)).block, (ad.add (k * 3)).off + 1, none⟩ = some (.int .i64 id) ∧ X.cell? ⟨(ad.add (k * 3)).block, (ad.add (k * 3)).off + 2, none⟩ = some (.int .i64 t)) ((refine HK2.out _ ?_; (repeat' (first | with_reducible assumption | with_reducible exact Fr.refl _ _ | with_reducible refine Fr.drew ?_ | with_reducible refine Fr.drewN ?_ _ | with_reducible refine Fr.alloc ?_ _ | with_reducible refine Fr.setCell ?_ (.inl (.inr rfl)) _)); done)) (first | (go_at_call 8; refine (HPR.out _ (by repeat' (first | with_reducible assumption | with_reducible exact Fr.refl _ _ | with_reducible refine Fr.drew ?_ | with_reducible refine Fr.drewN ?_ _ | with_reducible refine Fr.alloc ?_ _))).mono ?_; rintro e w8 ⟨F', rfl, hn9, hs9⟩; have hk8 : Fr (fun k => F k ∨ k = g) wx w8 := hs9.1.mono (fun k h _ => .inl h); have HN9 := Lib.hid hn9; have HS9 := Lib.hid hs9; have hg8 := HGX.out.fr hs9.1 HB.out.gn.2.1; have q0 := hg8.cell 0; have q1 := hg8.cell 1; have qf0 := hg8.frozen 0; have qf1 := hg8.frozen 1; simp only [List.getElem?_toArray, List.getElem?_cons_zero, List.getElem?_cons_succ] at q0 q1; clear hn9 hs9 hg8))
                  all_goals
                    go_wp2_with fail
                    go_meet
                    case rel => exact ⟨rfl, F', S', _, L8, ref_laid HB.out HRN.out HN9.out HS9.out (by repeat' (first | with_reducible assumption | with_reducible exact Fr.refl _ _ | with_reducible refine Fr.drew ?_ | with_reducible refine Fr.drewN ?_ _ | with_reducible refine Fr.alloc ?_ _))⟩
              · have t0 : (kd % 4 == 0) = false := by simp [h4]
                have t1 : (kd % 4 == 1) = true := by simp [h4]
                clear h4
                as_aux_lemma =>
                obtain ⟨L8, hL8⟩ : ∃ L8, L8 = (setR most L id t).1 := ⟨_, rfl⟩
                obtain ⟨l8, hl8⟩ : ∃ l8 : List Int, l8 = [] := ⟨_, rfl⟩
                obtain ⟨n8, hn8⟩ : ∃ n8, n8 = L8.length := ⟨_, rfl⟩
                obtain ⟨cd, hcd⟩ : ∃ cd, cd = (setR most L id t).2 := ⟨_, rfl⟩
                have hrv : (cd == cd) = true := by simp
                have hcc := hrv
                have HRF := Lib.hid (fun (X : World) (hf : Fr No wr X) => ((rset_any (most := most) (HREF.out X hf) HL4.out id t).mono (fun e w' h => (show RP X S L8 n8 most (.int .i64 cd) e w' by rw [hL8, hcd]; exact rp_of h (by rw [hn8, hL8])))))
                have HL8 := Lib.hid hL8
                have HCD := Lib.hid hcd
                clear hcd
                have Hl8 := Lib.hid hl8
                have HN8 := Lib.hid hn8
                clear hL8 hl8 hn8 hrv
                go_upto_region 16 with (fail)
                go_cut [10, 11] from 84 to 99 (fun p u wx => ∃ (S' : Nat → Prop) (bt c8 : Nat) (A8 : Option Addr), p = .pointer (some ⟨bt, 0, none⟩) ∧ u = .int .i64 cd ∧ Hid (RNow wr wx S S' bt most (.slice A8 n8 c8) L8 (.slice none 0 0) []))
                case first =>
                  obtain ⟨x0, x1, x2, x3⟩ := HK.out wr (Fr.refl _ _)
                  go_region_held3 (fun X => X.cell? ⟨g, 0, none⟩ = some (.slice Ar n cr) ∧ X.cell? ⟨g, 1, none⟩ = some (.int .i64 most) ∧ X.cell? ⟨(ad.add (k * 3)).block, (ad.add (k * 3)).off + 1, none⟩ = some (.int .i64 id) ∧ X.cell? ⟨(ad.add (k * 3)).block, (ad.add (k * 3)).off + 2, none⟩ = some (.int .i64 t)) ((refine HK.out _ ?_; (repeat' (first | with_reducible assumption | with_reducible exact Fr.refl _ _ | with_reducible refine Fr.drew ?_ | with_reducible refine Fr.drewN ?_ _ | with_reducible refine Fr.alloc ?_ _ | with_reducible refine Fr.setCell ?_ (.inr ?_) _ | exact Nat.le_refl _)); done)) (first | (go_at_call 11; refine (HRF.out _ (by repeat' (first | with_reducible assumption | with_reducible exact Fr.refl _ _ | with_reducible refine Fr.drew ?_ | with_reducible refine Fr.drewN ?_ _ | with_reducible refine Fr.alloc ?_ _))).mono ?_; rintro e w8 ⟨S', A8, c8, rfl, hq⟩; have hk8 : Fr No wr w8 := Fr.then_no (by repeat' (first | with_reducible assumption | with_reducible exact Fr.refl _ _ | with_reducible refine Fr.drew ?_ | with_reducible refine Fr.drewN ?_ _ | with_reducible refine Fr.alloc ?_ _)) hq.fr; (first | (have hb7 := (Blk.new wr 37 #[.slice none 0 0, .int .i64 0]).fr hq.fr (fun h => h); have y0 := hb7.cell 0; have y1 := hb7.cell 1; have yf0 := hb7.frozen 0; have yf1 := hb7.frozen 1; simp only [List.getElem?_toArray, List.getElem?_cons_zero, List.getElem?_cons_succ] at y0 y1; have HB7 := Lib.hid hb7; clear hb7) | (have hb7 := Blk.fr (w := (wr.alloc (.cells #[.slice none 0 0, .int .i64 0] 37)).drew) (show Blk ((wr.alloc (.cells #[.slice none 0 0, .int .i64 0] 37)).drew) wr.heap.size 37 #[.slice none 0 0, .int .i64 0] from Blk.new wr 37 #[.slice none 0 0, .int .i64 0]) hq.fr (fun h => h); have y0 := hb7.cell 0; have y1 := hb7.cell 1; have yf0 := hb7.frozen 0; have yf1 := hb7.frozen 1; simp only [List.getElem?_toArray, List.getElem?_cons_zero, List.getElem?_cons_succ] at y0 y1; have HB7 := Lib.hid hb7; clear hb7) | skip); have HQ := Lib.hid hq; clear hq))
                  · go_wp2_with fail
                    go_meet
                    case rel => exact ⟨_, _, _, _, rfl, rfl, ref_after HB.out.ref.lt HQ.out (by repeat' (first | with_reducible assumption | with_reducible exact Fr.refl _ _ | with_reducible refine Fr.drew ?_ | with_reducible refine Fr.drewN ?_ _ | with_reducible refine Fr.alloc ?_ _))⟩
                  · go_wp2_with fail
                    go_meet
                    case rel => exact ⟨_, _, _, _, rfl, rfl, ref_before HB.out.ref.lt HQ.out (by repeat' (first | with_reducible assumption | with_reducible exact Fr.refl _ _ | with_reducible refine Fr.drew ?_ | with_reducible refine Fr.drewN ?_ _ | with_reducible refine Fr.alloc ?_ _)) (by show wr.heap.size < (wr.alloc _).heap.size; simp) HB7.out⟩
                case rest =>
                  obtain ⟨S', bt, c8, A8, rfl, rfl, HRN⟩ := hcut
                  obtain ⟨wx, hwx⟩ : ∃ wx, wx = wc := ⟨_, rfl⟩
                  subst hwx
                  have HNX := Lib.hid (HB.out.now.no HRN.out.fr)
                  have HK2 := Lib.hid (fun (X : World) (hf : Fr (fun k => F k ∨ k = g) wx X) => (show X.cell? ⟨bt, 0, none⟩ = some (.slice A8 n8 c8) ∧ X.cell? ⟨bt, 1, none⟩ = some (.int .i64 most) ∧ X.cell? ⟨(ad.add (k * 3)).block, (ad.add (k * 3)).off + 1, none⟩ = some (.int .i64 id) ∧ X.cell? ⟨(ad.add (k * 3)).block, (ad.add (k * 3)).off + 2, none⟩ = some (.int .i64 t) from by
                    have hb := HRN.out.tb.fr hf (fun h => by have h1 := HRN.out.tn.1.1; rcases h with h | h; (have := HB.out.now.at'.lt _ h; omega); (have := HB.out.box.lt; omega))
                    have hc := HCEL.out (fun k => F k ∨ k = g) X ((HRN.out.fr.no _).trans hf (fun k hk _ => hk)) (fun k hk => hk.elim (HB.out.now.new k) (fun e => by rw [e]; exact HB.out.gn.1))
                    exact ⟨hb.cell 0, hb.cell 1, hc.2.1, hc.2.2⟩))
                  have HPR := Lib.hid (fun (X : World) (hf : Fr No wx X) => ((show Calls _ _ _ X (NActs w F X b most L8 (.int .i64 cd)) from by rw [HL8.out, HCD.out]; exact (HNX.out.no hf).set id t)).mono (fun e w' h => nacts_from h hf))
                  obtain ⟨z0, z1, z2, z3⟩ := HK2.out wx (Fr.refl _ _)
                  have hgx := (HB.out.box.fr HRN.out.fr (fun h => h))
                  have gf0 := hgx.frozen 0
                  have gf1 := hgx.frozen 1
                  have gc0 := hgx.cell 0
                  have gc1 := hgx.cell 1
                  simp only [List.getElem?_toArray, List.getElem?_cons_zero, List.getElem?_cons_succ] at gc0 gc1
                  have HGX := Lib.hid hgx
                  clear hgx
                  go_upto_region 17 with (fail)
                  go_region_held3 (fun X => X.cell? ⟨bt, 0, none⟩ = some (.slice A8 n8 c8) ∧ X.cell? ⟨bt, 1, none⟩ = some (.int .i64 most) ∧ X.cell? ⟨(ad.add (k * 3)).block, (ad.add (k * 3)).off + 1, none⟩ = some (.int .i64 id) ∧ X.cell? ⟨(ad.add (k * 3)).block, (ad.add (k * 3)).off + 2, none⟩ = some (.int .i64 t)) ((refine HK2.out _ ?_; (repeat' (first | with_reducible assumption | with_reducible exact Fr.refl _ _ | with_reducible refine Fr.drew ?_ | with_reducible refine Fr.drewN ?_ _ | with_reducible refine Fr.alloc ?_ _ | with_reducible refine Fr.setCell ?_ (.inl (.inr rfl)) _)); done)) (first | (go_at_call 8; refine (HPR.out _ (by repeat' (first | with_reducible assumption | with_reducible exact Fr.refl _ _ | with_reducible refine Fr.drew ?_ | with_reducible refine Fr.drewN ?_ _ | with_reducible refine Fr.alloc ?_ _))).mono ?_; rintro e w8 ⟨F', rfl, hn9, hs9⟩; have hk8 : Fr (fun k => F k ∨ k = g) wx w8 := hs9.1.mono (fun k h _ => .inl h); have HN9 := Lib.hid hn9; have HS9 := Lib.hid hs9; have hg8 := HGX.out.fr hs9.1 HB.out.gn.2.1; have q0 := hg8.cell 0; have q1 := hg8.cell 1; have qf0 := hg8.frozen 0; have qf1 := hg8.frozen 1; simp only [List.getElem?_toArray, List.getElem?_cons_zero, List.getElem?_cons_succ] at q0 q1; clear hn9 hs9 hg8))
                  all_goals
                    go_wp2_with fail
                    go_meet
                    case rel => exact ⟨rfl, F', S', _, L8, ref_laid HB.out HRN.out HN9.out HS9.out (by repeat' (first | with_reducible assumption | with_reducible exact Fr.refl _ _ | with_reducible refine Fr.drew ?_ | with_reducible refine Fr.drewN ?_ _ | with_reducible refine Fr.alloc ?_ _))⟩
              · have t0 : (kd % 4 == 0) = false := by simp [h4]
                have t1 : (kd % 4 == 1) = false := by simp [h4]
                have t2 : (kd % 4 == 2) = true := by simp [h4]
                clear h4
                as_aux_lemma =>
                obtain ⟨L8, hL8⟩ : ∃ L8, L8 = (wo L id) := ⟨_, rfl⟩
                obtain ⟨l8, hl8⟩ : ∃ l8 : List Int, l8 = [] := ⟨_, rfl⟩
                obtain ⟨n8, hn8⟩ : ∃ n8, n8 = L8.length := ⟨_, rfl⟩
                obtain ⟨hb, hhb⟩ : ∃ hb, hb = hasId L id := ⟨_, rfl⟩
                have hrv : (hb == hb) = true := by simp
                have hcc := hrv
                have HRF := Lib.hid (fun (X : World) (hf : Fr No wr X) => ((rcancel_any (most := most) (HREF.out X hf) HL4.out id).mono (fun e w' h => (show RP X S L8 n8 most (.bool hb) e w' by rw [hL8, hhb]; exact rp_of h (by rw [hn8, hL8])))))
                have HL8 := Lib.hid hL8
                have HCD := Lib.hid hhb
                clear hhb
                have Hl8 := Lib.hid hl8
                have HN8 := Lib.hid hn8
                clear hL8 hl8 hn8 hrv
                go_upto_region 19 with (fail)
                go_cut [12, 13] from 116 to 126 (fun p u wx => ∃ (S' : Nat → Prop) (bt c8 : Nat) (A8 : Option Addr), p = .pointer (some ⟨bt, 0, none⟩) ∧ u = .bool hb ∧ Hid (RNow wr wx S S' bt most (.slice A8 n8 c8) L8 (.slice none 0 0) []))
                case first =>
                  obtain ⟨x0, x1, x2, x3⟩ := HK.out wr (Fr.refl _ _)
                  go_region_held3 (fun X => X.cell? ⟨g, 0, none⟩ = some (.slice Ar n cr) ∧ X.cell? ⟨g, 1, none⟩ = some (.int .i64 most) ∧ X.cell? ⟨(ad.add (k * 3)).block, (ad.add (k * 3)).off + 1, none⟩ = some (.int .i64 id) ∧ X.cell? ⟨(ad.add (k * 3)).block, (ad.add (k * 3)).off + 2, none⟩ = some (.int .i64 t)) ((refine HK.out _ ?_; (repeat' (first | with_reducible assumption | with_reducible exact Fr.refl _ _ | with_reducible refine Fr.drew ?_ | with_reducible refine Fr.drewN ?_ _ | with_reducible refine Fr.alloc ?_ _ | with_reducible refine Fr.setCell ?_ (.inr ?_) _ | exact Nat.le_refl _)); done)) (first | (go_at_call 12; refine (HRF.out _ (by repeat' (first | with_reducible assumption | with_reducible exact Fr.refl _ _ | with_reducible refine Fr.drew ?_ | with_reducible refine Fr.drewN ?_ _ | with_reducible refine Fr.alloc ?_ _))).mono ?_; rintro e w8 ⟨S', A8, c8, rfl, hq⟩; have hk8 : Fr No wr w8 := Fr.then_no (by repeat' (first | with_reducible assumption | with_reducible exact Fr.refl _ _ | with_reducible refine Fr.drew ?_ | with_reducible refine Fr.drewN ?_ _ | with_reducible refine Fr.alloc ?_ _)) hq.fr; (first | (have hb7 := (Blk.new wr 37 #[.slice none 0 0, .int .i64 0]).fr hq.fr (fun h => h); have y0 := hb7.cell 0; have y1 := hb7.cell 1; have yf0 := hb7.frozen 0; have yf1 := hb7.frozen 1; simp only [List.getElem?_toArray, List.getElem?_cons_zero, List.getElem?_cons_succ] at y0 y1; have HB7 := Lib.hid hb7; clear hb7) | (have hb7 := Blk.fr (w := (wr.alloc (.cells #[.slice none 0 0, .int .i64 0] 37)).drew) (show Blk ((wr.alloc (.cells #[.slice none 0 0, .int .i64 0] 37)).drew) wr.heap.size 37 #[.slice none 0 0, .int .i64 0] from Blk.new wr 37 #[.slice none 0 0, .int .i64 0]) hq.fr (fun h => h); have y0 := hb7.cell 0; have y1 := hb7.cell 1; have yf0 := hb7.frozen 0; have yf1 := hb7.frozen 1; simp only [List.getElem?_toArray, List.getElem?_cons_zero, List.getElem?_cons_succ] at y0 y1; have HB7 := Lib.hid hb7; clear hb7) | skip); have HQ := Lib.hid hq; clear hq))
                  · go_wp2_with fail
                    go_meet
                    case rel => exact ⟨_, _, _, _, rfl, rfl, ref_after HB.out.ref.lt HQ.out (by repeat' (first | with_reducible assumption | with_reducible exact Fr.refl _ _ | with_reducible refine Fr.drew ?_ | with_reducible refine Fr.drewN ?_ _ | with_reducible refine Fr.alloc ?_ _))⟩
                  · go_wp2_with fail
                    go_meet
                    case rel => exact ⟨_, _, _, _, rfl, rfl, ref_before HB.out.ref.lt HQ.out (by repeat' (first | with_reducible assumption | with_reducible exact Fr.refl _ _ | with_reducible refine Fr.drew ?_ | with_reducible refine Fr.drewN ?_ _ | with_reducible refine Fr.alloc ?_ _)) (by show wr.heap.size < (wr.alloc _).heap.size; simp) HB7.out⟩
                case rest =>
                  obtain ⟨S', bt, c8, A8, rfl, rfl, HRN⟩ := hcut
                  obtain ⟨wx, hwx⟩ : ∃ wx, wx = wc := ⟨_, rfl⟩
                  subst hwx
                  have HNX := Lib.hid (HB.out.now.no HRN.out.fr)
                  have HK2 := Lib.hid (fun (X : World) (hf : Fr (fun k => F k ∨ k = g) wx X) => (show X.cell? ⟨bt, 0, none⟩ = some (.slice A8 n8 c8) ∧ X.cell? ⟨bt, 1, none⟩ = some (.int .i64 most) ∧ X.cell? ⟨(ad.add (k * 3)).block, (ad.add (k * 3)).off + 1, none⟩ = some (.int .i64 id) ∧ X.cell? ⟨(ad.add (k * 3)).block, (ad.add (k * 3)).off + 2, none⟩ = some (.int .i64 t) from by
                    have hb := HRN.out.tb.fr hf (fun h => by have h1 := HRN.out.tn.1.1; rcases h with h | h; (have := HB.out.now.at'.lt _ h; omega); (have := HB.out.box.lt; omega))
                    have hc := HCEL.out (fun k => F k ∨ k = g) X ((HRN.out.fr.no _).trans hf (fun k hk _ => hk)) (fun k hk => hk.elim (HB.out.now.new k) (fun e => by rw [e]; exact HB.out.gn.1))
                    exact ⟨hb.cell 0, hb.cell 1, hc.2.1, hc.2.2⟩))
                  have HPR := Lib.hid (fun (X : World) (hf : Fr No wx X) => ((show Calls _ _ _ X (NActs w F X b most L8 (.bool hb)) from by rw [HL8.out, HCD.out]; exact (HNX.out.no hf).cancel id)).mono (fun e w' h => nacts_from h hf))
                  obtain ⟨z0, z1, z2, z3⟩ := HK2.out wx (Fr.refl _ _)
                  have hgx := (HB.out.box.fr HRN.out.fr (fun h => h))
                  have gf0 := hgx.frozen 0
                  have gf1 := hgx.frozen 1
                  have gc0 := hgx.cell 0
                  have gc1 := hgx.cell 1
                  simp only [List.getElem?_toArray, List.getElem?_cons_zero, List.getElem?_cons_succ] at gc0 gc1
                  have HGX := Lib.hid hgx
                  clear hgx
                  go_upto_region 20 with (fail)
                  go_region_held3 (fun X => X.cell? ⟨bt, 0, none⟩ = some (.slice A8 n8 c8) ∧ X.cell? ⟨bt, 1, none⟩ = some (.int .i64 most) ∧ X.cell? ⟨(ad.add (k * 3)).block, (ad.add (k * 3)).off + 1, none⟩ = some (.int .i64 id) ∧ X.cell? ⟨(ad.add (k * 3)).block, (ad.add (k * 3)).off + 2, none⟩ = some (.int .i64 t)) ((refine HK2.out _ ?_; (repeat' (first | with_reducible assumption | with_reducible exact Fr.refl _ _ | with_reducible refine Fr.drew ?_ | with_reducible refine Fr.drewN ?_ _ | with_reducible refine Fr.alloc ?_ _ | with_reducible refine Fr.setCell ?_ (.inl (.inr rfl)) _)); done)) (first | (go_at_call 13; refine (HPR.out _ (by repeat' (first | with_reducible assumption | with_reducible exact Fr.refl _ _ | with_reducible refine Fr.drew ?_ | with_reducible refine Fr.drewN ?_ _ | with_reducible refine Fr.alloc ?_ _))).mono ?_; rintro e w8 ⟨F', rfl, hn9, hs9⟩; have hk8 : Fr (fun k => F k ∨ k = g) wx w8 := hs9.1.mono (fun k h _ => .inl h); have HN9 := Lib.hid hn9; have HS9 := Lib.hid hs9; have hg8 := HGX.out.fr hs9.1 HB.out.gn.2.1; have q0 := hg8.cell 0; have q1 := hg8.cell 1; have qf0 := hg8.frozen 0; have qf1 := hg8.frozen 1; simp only [List.getElem?_toArray, List.getElem?_cons_zero, List.getElem?_cons_succ] at q0 q1; clear hn9 hs9 hg8))
                  all_goals
                    go_wp2_with fail
                    go_meet
                    case rel => exact ⟨rfl, F', S', _, L8, ref_laid HB.out HRN.out HN9.out HS9.out (by repeat' (first | with_reducible assumption | with_reducible exact Fr.refl _ _ | with_reducible refine Fr.drew ?_ | with_reducible refine Fr.drewN ?_ _ | with_reducible refine Fr.alloc ?_ _))⟩
              · have t0 : (kd % 4 == 0) = false := by simp [h4]
                have t1 : (kd % 4 == 1) = false := by simp [h4]
                have t2 : (kd % 4 == 2) = false := by simp [h4]
                clear h4
                as_aux_lemma =>
                obtain ⟨L8, hL8⟩ : ∃ L8, L8 = (restL L t) := ⟨_, rfl⟩
                obtain ⟨l8, hl8⟩ : ∃ l8 : List Int, l8 = (ids (dueL L t)) := ⟨_, rfl⟩
                obtain ⟨n8, hn8⟩ : ∃ n8, n8 = L8.length := ⟨_, rfl⟩
                obtain ⟨k8, hk8⟩ : ∃ k8, k8 = l8.length := ⟨_, rfl⟩
                have HK84 := Lib.hid (show k8 ≤ 4096 by rw [hk8, hl8]; unfold ids; rw [List.length_map]; have h1 := congrArg List.length (due_rest L t); rw [List.length_append] at h1; have := HL4.out; omega)
                have HRF := Lib.hid (fun (X : World) (hf : Fr No wr X) => ((rdue_any (most := most) (HREF.out X hf) HL4.out t k8 (by rw [hk8, hl8])).mono (fun e w' h => (show RPD X S L8 n8 most l8 k8 e w' by rw [hL8, hl8]; exact rpd_of h (by rw [hn8, hL8]) (by rw [hk8, hl8])))))
                have HL8 := Lib.hid hL8
                have HK8 := Lib.hid hk8
                have Hl8 := Lib.hid hl8
                have HN8 := Lib.hid hn8
                clear hL8 hl8 hn8 hk8
                go_upto_region 12 with (fail)
                go_cut [14, 15] from 61 to 71 (fun p u wx => ∃ (S' : Nat → Prop) (bt c8 c9 : Nat) (A8 A9 : Option Addr), p = .pointer (some ⟨bt, 0, none⟩) ∧ u = .slice A9 k8 c9 ∧ Hid (RNow wr wx S S' bt most (.slice A8 n8 c8) L8 (.slice A9 k8 c9) l8))
                case first =>
                  obtain ⟨x0, x1, x2, x3⟩ := HK.out wr (Fr.refl _ _)
                  go_region_held3 (fun X => X.cell? ⟨g, 0, none⟩ = some (.slice Ar n cr) ∧ X.cell? ⟨g, 1, none⟩ = some (.int .i64 most) ∧ X.cell? ⟨(ad.add (k * 3)).block, (ad.add (k * 3)).off + 1, none⟩ = some (.int .i64 id) ∧ X.cell? ⟨(ad.add (k * 3)).block, (ad.add (k * 3)).off + 2, none⟩ = some (.int .i64 t)) ((refine HK.out _ ?_; (repeat' (first | with_reducible assumption | with_reducible exact Fr.refl _ _ | with_reducible refine Fr.drew ?_ | with_reducible refine Fr.drewN ?_ _ | with_reducible refine Fr.alloc ?_ _ | with_reducible refine Fr.setCell ?_ (.inr ?_) _ | exact Nat.le_refl _)); done)) (first | (go_at_call 14; refine (HRF.out _ (by repeat' (first | with_reducible assumption | with_reducible exact Fr.refl _ _ | with_reducible refine Fr.drew ?_ | with_reducible refine Fr.drewN ?_ _ | with_reducible refine Fr.alloc ?_ _))).mono ?_; rintro e w8 ⟨S', A8, c8, A9, c9, rfl, hq⟩; have hk8 : Fr No wr w8 := Fr.then_no (by repeat' (first | with_reducible assumption | with_reducible exact Fr.refl _ _ | with_reducible refine Fr.drew ?_ | with_reducible refine Fr.drewN ?_ _ | with_reducible refine Fr.alloc ?_ _)) hq.fr; (first | (have hb7 := (Blk.new wr 37 #[.slice none 0 0, .int .i64 0]).fr hq.fr (fun h => h); have y0 := hb7.cell 0; have y1 := hb7.cell 1; have yf0 := hb7.frozen 0; have yf1 := hb7.frozen 1; simp only [List.getElem?_toArray, List.getElem?_cons_zero, List.getElem?_cons_succ] at y0 y1; have HB7 := Lib.hid hb7; clear hb7) | (have hb7 := Blk.fr (w := (wr.alloc (.cells #[.slice none 0 0, .int .i64 0] 37)).drew) (show Blk ((wr.alloc (.cells #[.slice none 0 0, .int .i64 0] 37)).drew) wr.heap.size 37 #[.slice none 0 0, .int .i64 0] from Blk.new wr 37 #[.slice none 0 0, .int .i64 0]) hq.fr (fun h => h); have y0 := hb7.cell 0; have y1 := hb7.cell 1; have yf0 := hb7.frozen 0; have yf1 := hb7.frozen 1; simp only [List.getElem?_toArray, List.getElem?_cons_zero, List.getElem?_cons_succ] at y0 y1; have HB7 := Lib.hid hb7; clear hb7) | skip); have HQ := Lib.hid hq; clear hq))
                  · go_wp2_with fail
                    go_meet
                    case rel => exact ⟨_, _, _, _, _, _, rfl, rfl, ref_after HB.out.ref.lt HQ.out (by repeat' (first | with_reducible assumption | with_reducible exact Fr.refl _ _ | with_reducible refine Fr.drew ?_ | with_reducible refine Fr.drewN ?_ _ | with_reducible refine Fr.alloc ?_ _))⟩
                  · go_wp2_with fail
                    go_meet
                    case rel => exact ⟨_, _, _, _, _, _, rfl, rfl, ref_before HB.out.ref.lt HQ.out (by repeat' (first | with_reducible assumption | with_reducible exact Fr.refl _ _ | with_reducible refine Fr.drew ?_ | with_reducible refine Fr.drewN ?_ _ | with_reducible refine Fr.alloc ?_ _)) (by show wr.heap.size < (wr.alloc _).heap.size; simp) HB7.out⟩
                case rest =>
                  obtain ⟨S', bt, c8, c9, A8, A9, rfl, rfl, HRN⟩ := hcut
                  obtain ⟨wx, hwx⟩ : ∃ wx, wx = wc := ⟨_, rfl⟩
                  subst hwx
                  have HNX := Lib.hid (HB.out.now.no HRN.out.fr)
                  have HK2 := Lib.hid (fun (X : World) (hf : Fr (fun k => F k ∨ k = g) wx X) => (show X.cell? ⟨bt, 0, none⟩ = some (.slice A8 n8 c8) ∧ X.cell? ⟨bt, 1, none⟩ = some (.int .i64 most) ∧ X.cell? ⟨(ad.add (k * 3)).block, (ad.add (k * 3)).off + 1, none⟩ = some (.int .i64 id) ∧ X.cell? ⟨(ad.add (k * 3)).block, (ad.add (k * 3)).off + 2, none⟩ = some (.int .i64 t) from by
                    have hb := HRN.out.tb.fr hf (fun h => by have h1 := HRN.out.tn.1.1; rcases h with h | h; (have := HB.out.now.at'.lt _ h; omega); (have := HB.out.box.lt; omega))
                    have hc := HCEL.out (fun k => F k ∨ k = g) X ((HRN.out.fr.no _).trans hf (fun k hk _ => hk)) (fun k hk => hk.elim (HB.out.now.new k) (fun e => by rw [e]; exact HB.out.gn.1))
                    exact ⟨hb.cell 0, hb.cell 1, hc.2.1, hc.2.2⟩))
                  have HPR := Lib.hid (fun (X : World) (hf : Fr No wx X) => ((show Calls _ _ _ X (NDue w F X b most L8 l8 k8) from by rw [HL8.out]; exact (HNX.out.no hf).due t l8 k8 Hl8.out HK8.out)).mono (fun e w' h => ndue_from h hf))
                  obtain ⟨z0, z1, z2, z3⟩ := HK2.out wx (Fr.refl _ _)
                  have hgx := (HB.out.box.fr HRN.out.fr (fun h => h))
                  have gf0 := hgx.frozen 0
                  have gf1 := hgx.frozen 1
                  have gc0 := hgx.cell 0
                  have gc1 := hgx.cell 1
                  simp only [List.getElem?_toArray, List.getElem?_cons_zero, List.getElem?_cons_succ] at gc0 gc1
                  have HGX := Lib.hid hgx
                  clear hgx
                  go_upto_region 13 with (fail)
                  go_region_held3 (fun X => X.cell? ⟨bt, 0, none⟩ = some (.slice A8 n8 c8) ∧ X.cell? ⟨bt, 1, none⟩ = some (.int .i64 most) ∧ X.cell? ⟨(ad.add (k * 3)).block, (ad.add (k * 3)).off + 1, none⟩ = some (.int .i64 id) ∧ X.cell? ⟨(ad.add (k * 3)).block, (ad.add (k * 3)).off + 2, none⟩ = some (.int .i64 t)) ((refine HK2.out _ ?_; (repeat' (first | with_reducible assumption | with_reducible exact Fr.refl _ _ | with_reducible refine Fr.drew ?_ | with_reducible refine Fr.drewN ?_ _ | with_reducible refine Fr.alloc ?_ _ | with_reducible refine Fr.setCell ?_ (.inl (.inr rfl)) _)); done)) (first | (go_at_call 9; refine (HPR.out _ (by repeat' (first | with_reducible assumption | with_reducible exact Fr.refl _ _ | with_reducible refine Fr.drew ?_ | with_reducible refine Fr.drewN ?_ _ | with_reducible refine Fr.alloc ?_ _))).mono ?_; rintro e w8 ⟨F', Ad, cd, rfl, ht9, hn9, hs9⟩; have hk8 : Fr (fun k => F k ∨ k = g) wx w8 := hs9.1.mono (fun k h _ => .inl h); have HN9 := Lib.hid hn9; have HS9 := Lib.hid hs9; have HSM := Lib.hid (fun (X : World) (hf : Fr No w8 X) => (same_any Ad A9 cd c9 k8 l8 HK8.out HK84.out X (own_fr ht9.own hf (fun _ _ h => h)) (own_fr (own_fr HRN.out.row hs9.1 (fun k hk h => by have := HB.out.now.at'.lt _ h; have := (HRN.out.rn k hk).1; omega)) hf (fun _ _ h => h))).mono (fun e w' h => (⟨h.1, hf.then_no h.2⟩ : e = .returned (.bool true) ∧ Fr No w8 w'))); have hg8 := HGX.out.fr hs9.1 HB.out.gn.2.1; have q0 := hg8.cell 0; have q1 := hg8.cell 1; have qf0 := hg8.frozen 0; have qf1 := hg8.frozen 1; simp only [List.getElem?_toArray, List.getElem?_cons_zero, List.getElem?_cons_succ] at q0 q1; have HG8 := Lib.hid hg8; clear ht9 hn9 hs9 hg8) | (go_at_call 15; refine (HSM.out _ (by repeat' (first | with_reducible assumption | with_reducible exact Fr.refl _ _ | with_reducible refine Fr.drew ?_ | with_reducible refine Fr.drewN ?_ _ | with_reducible refine Fr.alloc ?_ _))).mono ?_; rintro e w9 ⟨rfl, hf9⟩; have hk9 : Fr (fun k => F k ∨ k = g) wx w9 := hk8.then_no hf9; have hg9 := HG8.out.fr hf9 (fun h => h); have r0 := hg9.cell 0; have r1 := hg9.cell 1; have rf0 := hg9.frozen 0; have rf1 := hg9.frozen 1; simp only [List.getElem?_toArray, List.getElem?_cons_zero, List.getElem?_cons_succ] at r0 r1; clear hg9))
                  all_goals
                    go_wp2_with fail
                    go_meet
                    case rel => exact ⟨rfl, F', S', _, L8, ref_laid HB.out HRN.out HN9.out HS9.out (by repeat' (first | with_reducible assumption | with_reducible exact Fr.refl _ _ | with_reducible refine Fr.drew ?_ | with_reducible refine Fr.drewN ?_ _ | with_reducible refine Fr.alloc ?_ _))⟩
            case rest =>
              obtain ⟨rfl, HX⟩ := hcut
              obtain ⟨wz, hwz⟩ : ∃ wz, wz = wc := ⟨_, rfl⟩
              subst hwz
              obtain ⟨F9, S9, vL9, L9, hb9⟩ := HX.out
              obtain ⟨A9, c9, rfl, hB1, hB2⟩ := hb9.ref.form
              have HB9 := Lib.hid hb9
              obtain ⟨ad', e', hadl', hcel', -⟩ := op_at HV.out hb9.now.fr hlt
              injection e' with e'
              subst e'
              obtain ⟨idn, hidn⟩ : ∃ x, x = l[k].2.1 := ⟨_, rfl⟩
              simp only [← hidn] at hcel'
              obtain ⟨aa, haa⟩ : ∃ aa, aa = (atR L9 idn).1 := ⟨_, rfl⟩
              obtain ⟨ab, hab⟩ : ∃ ab, ab = (atR L9 idn).2 := ⟨_, rfl⟩
              have hnd := hb9.now.at'.ids
              have HAT := Lib.hid (fun (X : World) (hf : Fr No wz X) => (show Calls Try.prog 17 #[.pointer (some ⟨b, 0, none⟩), .int .i64 idn] X (fun e w' => e = .returned (.tuple #[.int .i64 aa, .bool ab]) ∧ X = w') from by rw [haa, hab]; exact at_any (hb9.now.at'.no hf) idn))
              have hra := fun (X : World) (hf : Fr No wz X) => (show Calls Try.prog 18 #[agT (.slice A9 L9.length c9) most, .int .i64 idn] X (fun e w' => e = .returned (.tuple #[.int .i64 aa, .bool ab]) ∧ Fr No wz w') from by rw [haa, hab]; exact (rat_any (most := most) (hb9.ref.no hf) hnd idn).mono (fun e w' h => ⟨h.1, hf.then_no h.2⟩))
              have HNE := Lib.hid (next_any hb9.now.at')
              have hln := fun (X : World) (hf : Fr No wz X) => (show Calls Try.prog 10 #[.pointer (some ⟨b, 0, none⟩)] X (fun e w' => e = .returned (.int .i64 L9.length) ∧ X = w') from len_all (hb9.now.at'.no hf))
              have HCL := Lib.hid hcel'
              have haa2 : (aa != aa) = false := by simp
              have hab2 : (ab != ab) = false := by simp
              have hbx9 := hb9.box
              clear hb9 haa hab hnd hcel' hidn HX
              cases L9 with
              | nil =>
                as_aux_lemma =>
                simp only [List.length_nil] at hra hln hbx9 hB1
                have HRA := Lib.hid hra
                have HLN := Lib.hid hln
                have HBX9 := Lib.hid hbx9
                have HK9 := Lib.hid (fun (X : World) (hf : Fr No wz X) => (show X.cell? ⟨g, 0, none⟩ = some (.slice A9 0 c9) ∧ X.cell? ⟨g, 1, none⟩ = some (.int .i64 most) ∧ X.cell? ⟨(ad.add (k * 3)).block, (ad.add (k * 3)).off + 1, none⟩ = some (.int .i64 idn) from by
                  have hb := hbx9.fr hf (fun h => h)
                  exact ⟨hb.cell 0, hb.cell 1, (HCL.out No X hf (fun _ h => h.elim)).2.1⟩))
                clear hra hln hbx9
                go_wp2_with fail
                refine HNE.out.mono ?_
                rintro e w1 ⟨rfl, hf1⟩
                simp only [headR]
                obtain ⟨x0, x1, x2⟩ := HK9.out w1 hf1
                go_wp2_with fail
                refine (HAT.out _ hf1).mono ?_
                rintro e w1' ⟨rfl, hw1⟩
                subst hw1
                go_upto_region 23 with (fail)
                go_region_held3 (fun X => X.cell? ⟨g, 0, none⟩ = some (.slice A9 0 c9) ∧ X.cell? ⟨g, 1, none⟩ = some (.int .i64 most) ∧ X.cell? ⟨(ad.add (k * 3)).block, (ad.add (k * 3)).off + 1, none⟩ = some (.int .i64 idn)) ((refine HK9.out _ ?_; (repeat' (first | with_reducible assumption | with_reducible exact Fr.refl _ _ | with_reducible refine Fr.drew ?_ | with_reducible refine Fr.drewN ?_ _ | with_reducible refine Fr.alloc ?_ _)); done)) ((go_at_call 18; refine (HRA.out _ (by repeat' (first | with_reducible assumption | with_reducible exact Fr.refl _ _ | with_reducible refine Fr.drew ?_ | with_reducible refine Fr.drewN ?_ _ | with_reducible refine Fr.alloc ?_ _))).mono ?_; rintro e w2 ⟨rfl, hf2⟩))
                all_goals
                  go_upto_region 24 with (fail)
                  obtain ⟨z0, z1, z2⟩ := HK9.out w2 hf2
                  go_quiet ((go_at_call 10; exact quiet_left (HLN.out _ (by repeat' (first | with_reducible assumption | with_reducible exact Fr.refl _ _ | with_reducible refine Fr.drew ?_ | with_reducible refine Fr.drewN ?_ _ | with_reducible refine Fr.alloc ?_ _)))))
                  all_goals
                    go_wp2_with fail
                    go_roundw
                    case rel => exact ⟨k + 1, _, _, _, _, by go_num, by omega, HB9.out.no (by repeat' (first | with_reducible assumption | with_reducible exact Fr.refl _ _ | with_reducible refine Fr.drew ?_ | with_reducible refine Fr.drewN ?_ _ | with_reducible refine Fr.alloc ?_ _))⟩
                    case measure => simp [intOf]; omega
              | cons x t9 =>
                as_aux_lemma =>
                obtain ⟨n9, hn9⟩ : ∃ n9, n9 = (x :: t9).length := ⟨_, rfl⟩
                have hn0 : 0 < n9 := by rw [hn9]; simp
                have hrt := fun (X : World) (hf : Fr No wz X) => ra_at HB9.out.ref.l HB9.out.ref.lt hf (i := 0) (by simp)
                rw [← hn9] at hbx9 hB1
                simp only [← hn9] at hra hln
                have HRA := Lib.hid hra
                have HLN := Lib.hid hln
                have HBX9 := Lib.hid hbx9
                obtain ⟨ad9, rfl, -, -⟩ := hrt wz (Fr.refl _ _)
                obtain ⟨xi, hxi⟩ : ∃ y, y = x.1 := ⟨_, rfl⟩
                obtain ⟨xt, hxt⟩ : ∃ y, y = x.2 := ⟨_, rfl⟩
                have HK9 := Lib.hid (fun (X : World) (hf : Fr No wz X) => (show X.cell? ⟨g, 0, none⟩ = some (.slice (some ad9) n9 c9) ∧ X.cell? ⟨g, 1, none⟩ = some (.int .i64 most) ∧ X.cell? ⟨(ad.add (k * 3)).block, (ad.add (k * 3)).off + 1, none⟩ = some (.int .i64 idn) ∧ X.cell? ad9 = some (.int .i64 xi) ∧ X.cell? ⟨ad9.block, ad9.off + 1, none⟩ = some (.int .i64 xt) from by
                  have hb := hbx9.fr hf (fun h => h)
                  obtain ⟨ad8, e8, m0, m1⟩ := hrt X hf
                  injection e8 with e8
                  subst e8
                  rw [show ad9.add (0 * 2) = ad9 by rw [Nat.zero_mul]; exact add_zero ad9] at m0 m1
                  rw [hxi, hxt]
                  exact ⟨hb.cell 0, hb.cell 1, (HCL.out No X hf (fun _ h => h.elim)).2.1, m0, m1⟩))
                have hnI : decide ((0 : Int) < (n9 : Int)) = true := decide_eq_true (by omega)
                have hnn : ((n9 : Int) != (n9 : Int)) = false := by simp
                have hxx1 : (xi != xi) = false := by simp
                have hxx2 : (xt != xt) = false := by simp
                have HXE := Lib.hid (And.intro hxi hxt)
                have hn0I : (0 : Int) < (n9 : Int) := by omega
                clear hra hln hbx9 hrt hn9 hxi hxt
                go_wp2_with fail
                refine HNE.out.mono ?_
                rintro e w1 ⟨rfl, hf1⟩
                simp only [headR]
                rw [← HXE.out.1, ← HXE.out.2]
                obtain ⟨x0, x1, x2, x3, x4⟩ := HK9.out w1 hf1
                go_wp2_with fail
                refine (HAT.out _ hf1).mono ?_
                rintro e w1' ⟨rfl, hw1⟩
                subst hw1
                go_upto_region 23 with (fail)
                go_region_held3 (fun X => X.cell? ⟨g, 0, none⟩ = some (.slice (some ad9) n9 c9) ∧ X.cell? ⟨g, 1, none⟩ = some (.int .i64 most) ∧ X.cell? ⟨(ad.add (k * 3)).block, (ad.add (k * 3)).off + 1, none⟩ = some (.int .i64 idn) ∧ X.cell? ad9 = some (.int .i64 xi) ∧ X.cell? ⟨ad9.block, ad9.off + 1, none⟩ = some (.int .i64 xt)) ((refine HK9.out _ ?_; (repeat' (first | with_reducible assumption | with_reducible exact Fr.refl _ _ | with_reducible refine Fr.drew ?_ | with_reducible refine Fr.drewN ?_ _ | with_reducible refine Fr.alloc ?_ _)); done)) ((go_at_call 18; refine (HRA.out _ (by repeat' (first | with_reducible assumption | with_reducible exact Fr.refl _ _ | with_reducible refine Fr.drew ?_ | with_reducible refine Fr.drewN ?_ _ | with_reducible refine Fr.alloc ?_ _))).mono ?_; rintro e w2 ⟨rfl, hf2⟩))
                all_goals
                  go_upto_region 24 with (fail)
                  obtain ⟨z0, z1, z2, z3, z4⟩ := HK9.out w2 hf2
                  go_region_held3 (fun X => X.cell? ⟨g, 0, none⟩ = some (.slice (some ad9) n9 c9) ∧ X.cell? ⟨g, 1, none⟩ = some (.int .i64 most) ∧ X.cell? ⟨(ad.add (k * 3)).block, (ad.add (k * 3)).off + 1, none⟩ = some (.int .i64 idn) ∧ X.cell? ad9 = some (.int .i64 xi) ∧ X.cell? ⟨ad9.block, ad9.off + 1, none⟩ = some (.int .i64 xt)) ((refine HK9.out _ ?_; (repeat' (first | with_reducible assumption | with_reducible exact Fr.refl _ _ | with_reducible refine Fr.drew ?_ | with_reducible refine Fr.drewN ?_ _ | with_reducible refine Fr.alloc ?_ _)); done)) ((go_at_call 10; refine (HLN.out _ (by repeat' (first | with_reducible assumption | with_reducible exact Fr.refl _ _ | with_reducible refine Fr.drew ?_ | with_reducible refine Fr.drewN ?_ _ | with_reducible refine Fr.alloc ?_ _))).mono ?_; rintro e w3 ⟨rfl, hw3⟩; subst hw3))
                  all_goals
                    go_wp2_with fail
                    go_roundw
                    case rel => exact ⟨k + 1, _, _, _, _, by go_num, by omega, HB9.out.no (by repeat' (first | with_reducible assumption | with_reducible exact Fr.refl _ _ | with_reducible refine Fr.drew ?_ | with_reducible refine Fr.drewN ?_ _ | with_reducible refine Fr.alloc ?_ _))⟩
                    case measure => simp [intOf]; omega
          · go_wp2_with (go_at_call 6; refine (works_any _).mono ?_; rintro e w' ⟨rfl, hf⟩; have Hf := Lib.hid hf; clear hf)
            go_ret
            exact ⟨rfl, HB.out.now.fr.then_no Hf.out⟩
theorem walk_TimerPlays (W : World) (v0 : Value) (x0 : Int) (h0 : (RInt .i64) W (Ahead W.heap.size) [v0] x0) (v1 : Value) (x1 : (List (Int × (Int × Int)))) (h1 : (RSl 3 (RTwo 1 (RInt .u8) (RTwo 1 (RInt .i64) (RInt .i64)))) W (Ahead W.heap.size) [v1] x1) : Calls Try.prog 4 #[v0, v1] W fun e w' => e = .returned (.bool true) ∧ Fr No W w' := by
  obtain ⟨h0, _⟩ := h0
  injection h0 with h0
  subst h0
  exact plays_any _ _ _ _ h1
end Tm
end Go.Proofs.Ytkmlmjglipmdcaa
