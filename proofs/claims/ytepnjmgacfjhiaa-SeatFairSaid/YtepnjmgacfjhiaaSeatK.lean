/- Package seat: the law SeatOne. Printed by gen_seatk.py. -/
import Derived.Test.YtepnjmgacfjhiaaSeatJ
import Derived.BigQuiet
import Derived.Deep.CutRange
import Derived.Deep.RegionHeld3
import Derived.Outline
import Derived.BigGuardPart
namespace Go.Proofs.Ytepnjmgacfjhiaa
open Go.RowKit
set_option linter.unusedVariables false
set_option linter.unusedSimpArgs false
namespace Seat
open Sls
theorem irow_at {w : World} {A : Option Addr} {n c i : Nat} {l : List Int} (h : IRow w (.slice A n c) l) (hw : ∀ y ∈ l, (Lit.int .i64 y).wf = true) (hi : i < l.length) : ∃ ad, A = some ad ∧ ad.block < w.heap.size ∧ w.cell? (ad.add i) = some (.int .i64 l[i]) := by
  obtain ⟨A', c', hA, -, -, hel⟩ := (ints_own (S := Of (.slice A n c)) h.own hw (fun _ h => h)).ints
  injection hA with hA _ _
  subst hA
  obtain ⟨ad, hAd, hb, hcl, -⟩ := hel i hi
  exact ⟨ad, hAd, own_lt h.own _ hb, hcl⟩
set_option maxRecDepth 100000 in
set_option maxHeartbeats 16000000 in
theorem one_any (v : Value) (l : List (Int × Int × Int)) (w : World) (hv : RSl 3 (RTwo 1 (RInt .u8) (RTwo 1 (RInt .i64) (RInt .i64))) w (Ahead w.heap.size) [v] l) : Calls Try.prog 9 #[v] w fun e w' => e = .returned (.bool true) ∧ Fr No w w' := by
  obtain ⟨A, cap, rfl, hc1, hc2⟩ := hv.slice
  unfold maxLen at hc2
  have HV := Lib.hid hv
  clear hv
  by_cases hbig : 80 < l.length
  · go_enter Try.func9, Try.ntmps9
    go_wp2_with (go_at_call 23; refine (works_any _).mono ?_; rintro e w' ⟨rfl, hf⟩; have Hf := Lib.hid hf; clear hf)
    go_ret
    exact ⟨rfl, Hf.out⟩
  · go_enter Try.func9, Try.ntmps9
    go_wp2_with fail
    refine (seat_yes 30 (by decide) (by decide) _).mono ?_
    intro e w0 hm
    obtain ⟨b, rfl, hn⟩ := made_now hm (by decide)
    have H0 := Lib.hid hn
    clear hm hn
    go_wp2_with fail
    refine (rnew_any 30 _).mono ?_
    rintro e w1 ⟨rfl, hf⟩
    have HB0 := Lib.hid (Both.start H0.out hf)
    clear hf
    go_upto_region 5 with (fail)
    obtain ⟨g, hg⟩ : ∃ g, g = w1.heap.size := ⟨_, rfl⟩
    rw [← hg] at HB0 ⊢
    generalize w1.alloc (.cells #[.slice none 0 0, .int .i64 30, .int .i64 (-1), .slice none 0 0] 71) = w2 at HB0 ⊢
    clear hg
    go_wp2_with fail
    go_loopw [6] (fun iv wr => ∃ (k : Nat) (F S : Nat → Prop) (vL vW : Value) (s : St), iv = .int .i64 k ∧ k ≤ l.length ∧ Hid (Both w wr F S b g vL vW s)) (fun i _ => l.length - (intOf i).toNat)
    case atStart => exact ⟨0, _, _, _, _, _, rfl, by omega, HB0.out⟩
    case round =>
      obtain ⟨k, F, S, vL, vW, s, rfl, hk, HB⟩ := hrel
      clear HB0 H0
      by_cases hlt : k < l.length
      · obtain ⟨ad, rfl, hadl, hcel, hkd, hid, hlv⟩ := op_at HV.out HB.out.now.fr hlt
        obtain ⟨Ar, cr, Br, dr, rfl, rfl, hA1, hA2, hB1, hB2⟩ := HB.out.ref.forms
        obtain ⟨kd, hkdE⟩ : ∃ x, x = l[k].1 := ⟨_, rfl⟩
        obtain ⟨id, hidE⟩ : ∃ x, x = l[k].2.1 := ⟨_, rfl⟩
        obtain ⟨lv, hlvE⟩ : ∃ x, x = l[k].2.2 := ⟨_, rfl⟩
        rw [← hkdE] at hkd
        rw [← hidE] at hid
        rw [← hlvE] at hlv
        simp only [← hkdE, ← hidE, ← hlvE] at hcel
        obtain ⟨n, hn⟩ : ∃ n, n = s.L.length := ⟨_, rfl⟩
        obtain ⟨m, hm⟩ : ∃ m, m = s.q.length := ⟨_, rfl⟩
        obtain ⟨wt, hwt⟩ : ∃ wt, wt = s.wr := ⟨_, rfl⟩
        obtain ⟨ms, hms⟩ : ∃ ms, ms = s.most := ⟨_, rfl⟩
        have ag : agS (.slice Ar s.L.length cr) (.slice Br s.q.length dr) s = .agg #[.slice Ar n cr, .int .i64 ms, .int .i64 wt, .slice Br m dr] := by rw [hn, hm, hwt, hms]
        obtain ⟨r, hr⟩ : ∃ r, r = doR s kd id lv := ⟨_, rfl⟩
        obtain ⟨n8, hn8⟩ : ∃ n8, n8 = r.1.L.length := ⟨_, rfl⟩
        obtain ⟨m8, hm8⟩ : ∃ m8, m8 = r.1.q.length := ⟨_, rfl⟩
        obtain ⟨k8, hk8⟩ : ∃ k8, k8 = r.2.1.length := ⟨_, rfl⟩
        obtain ⟨wr8, hwr8⟩ : ∃ wr8, wr8 = r.1.wr := ⟨_, rfl⟩
        obtain ⟨ms8, hms8⟩ : ∃ ms8, ms8 = r.1.most := ⟨_, rfl⟩
        have hdo := fun (X : World) (hf : Fr No wr X) => do_p HB.out hf kd id lv hid hlv hkd.1 hkd.2 r hr n8 m8 k8 ms8 wr8 hn8 hm8 hk8 hms8 hwr8
        simp only [ag] at hdo
        have HDO := Lib.hid hdo
        clear hdo
        have HI := Lib.hid (show Inv r.1 by rw [hr]; exact HB.out.now.inv.do kd id lv hid hlv)
        have hbox := HB.out.box
        rw [← hn, ← hm, ← hwt, ← hms] at hbox
        have HBOX := Lib.hid hbox
        have HK := Lib.hid (fun (X : World) (hf : Fr F wr X) => (show X.cell? ⟨g, 0, none⟩ = some (.slice Ar n cr) ∧ X.cell? ⟨g, 1, none⟩ = some (.int .i64 ms) ∧ X.cell? ⟨g, 2, none⟩ = some (.int .i64 wt) ∧ X.cell? ⟨g, 3, none⟩ = some (.slice Br m dr) ∧ X.cell? (ad.add (k * 3)) = some (.int .u8 kd) ∧ X.cell? ⟨(ad.add (k * 3)).block, (ad.add (k * 3)).off + 1, none⟩ = some (.int .i64 id) ∧ X.cell? ⟨(ad.add (k * 3)).block, (ad.add (k * 3)).off + 2, none⟩ = some (.int .i64 lv) from by
          have hb := hbox.fr hf HB.out.gn.2.1
          have hc := hcel F X hf HB.out.now.new
          exact ⟨hb.cell 0, hb.cell 1, hb.cell 2, hb.cell 3, hc.1, hc.2.1, hc.2.2⟩))
        have HCEL := Lib.hid hcel
        have HKD := Lib.hid hkd
        have HR := Lib.hid hr
        have HN8 := Lib.hid hn8
        have HM8 := Lib.hid hm8
        have HK8 := Lib.hid hk8
        have HWR8 := Lib.hid hwr8
        have HMS8 := Lib.hid hms8
        have HWT := Lib.hid hwt
        have HKE := Lib.hid (And.intro hkdE (And.intro hidE hlvE))
        have HID := Lib.hid (And.intro hid hlv)
        have HA := Lib.hid (And.intro hA1 (And.intro hA2 (And.intro hB1 hB2)))
        clear ag hn hm hwt hms hr hn8 hm8 hk8 hwr8 hms8 hbox hcel hkd hid hlv hkdE hidE hlvE hA1 hA2 hB1 hB2
        go_upto_region 10 with (fail)
        go_cut [7, 8, 9] from 34 to 45 (fun p u o wx => ∃ (F' S' : Nat → Prop) (bt c8 d8 c9 : Nat) (A8 B8 A9 : Option Addr), p = .pointer (some ⟨bt, 0, none⟩) ∧ u = .slice A9 k8 c9 ∧ o = .bool true ∧ Hid (DoNow wr wx F S F' S' b g bt r (.slice A8 n8 c8) (.slice B8 m8 d8) (.slice A9 k8 c9) ms8 wr8 #[.slice Ar s.L.length cr, .int .i64 s.most, .int .i64 s.wr, .slice Br s.q.length dr]))
        case first =>
          obtain ⟨x0, x1, x2, x3, x4, x5, x6⟩ := HK.out wr (Fr.refl _ _)
          go_region_held3 (fun X => X.cell? ⟨g, 0, none⟩ = some (.slice Ar n cr) ∧ X.cell? ⟨g, 1, none⟩ = some (.int .i64 ms) ∧ X.cell? ⟨g, 2, none⟩ = some (.int .i64 wt) ∧ X.cell? ⟨g, 3, none⟩ = some (.slice Br m dr) ∧ X.cell? (ad.add (k * 3)) = some (.int .u8 kd) ∧ X.cell? ⟨(ad.add (k * 3)).block, (ad.add (k * 3)).off + 1, none⟩ = some (.int .i64 id) ∧ X.cell? ⟨(ad.add (k * 3)).block, (ad.add (k * 3)).off + 2, none⟩ = some (.int .i64 lv)) ((refine HK.out _ ?_; (repeat' (first | with_reducible assumption | with_reducible exact Fr.refl _ _ | with_reducible refine Fr.drew ?_ | with_reducible refine Fr.drewN ?_ _ | with_reducible refine Fr.alloc ?_ _ | with_reducible refine Fr.setCell ?_ (.inr ?_) _ | exact Nat.le_refl _)); done)) (first | (go_at_call 33; refine (HDO.out _ (by repeat' (first | with_reducible assumption | with_reducible exact Fr.refl _ _ | with_reducible refine Fr.drew ?_ | with_reducible refine Fr.drewN ?_ _ | with_reducible refine Fr.alloc ?_ _))).mono ?_; rintro e w8 ⟨F', S', A8, c8, B8, d8, A9, c9, rfl, hq, hk8⟩; (first | (have hb7 := (Blk.new wr 71 #[.slice none 0 0, .int .i64 0, .int .i64 0, .slice none 0 0]).fr hq.step.1 (fun h => by have := HB.out.now.at'.lt _ h; omega); have y0 := hb7.cell 0; have y1 := hb7.cell 1; have y2 := hb7.cell 2; have y3 := hb7.cell 3; have yf0 := hb7.frozen 0; have yf1 := hb7.frozen 1; have yf2 := hb7.frozen 2; have yf3 := hb7.frozen 3; simp only [List.getElem?_toArray, List.getElem?_cons_zero, List.getElem?_cons_succ] at y0 y1 y2 y3;  have HB7 := Lib.hid hb7; clear hb7) | (have hb7 := Blk.fr (w := (wr.alloc (.cells #[.slice none 0 0, .int .i64 0, .int .i64 0, .slice none 0 0] 71)).drew) (show Blk ((wr.alloc (.cells #[.slice none 0 0, .int .i64 0, .int .i64 0, .slice none 0 0] 71)).drew) wr.heap.size 71 #[.slice none 0 0, .int .i64 0, .int .i64 0, .slice none 0 0] from Blk.new wr 71 #[.slice none 0 0, .int .i64 0, .int .i64 0, .slice none 0 0]) hq.step.1 (fun h => by have := HB.out.now.at'.lt _ h; omega); have y0 := hb7.cell 0; have y1 := hb7.cell 1; have y2 := hb7.cell 2; have y3 := hb7.cell 3; have yf0 := hb7.frozen 0; have yf1 := hb7.frozen 1; have yf2 := hb7.frozen 2; have yf3 := hb7.frozen 3; simp only [List.getElem?_toArray, List.getElem?_cons_zero, List.getElem?_cons_succ] at y0 y1 y2 y3;  have HB7 := Lib.hid hb7; clear hb7) | skip); have HQ := Lib.hid hq; clear hq))
          · go_wp2_with fail
            go_meet
            case rel => exact ⟨_, _, _, _, _, _, _, _, _, rfl, rfl, rfl, do_after HB.out HQ.out (by repeat' (first | with_reducible assumption | with_reducible exact Fr.refl _ _ | with_reducible refine Fr.drew ?_ | with_reducible refine Fr.drewN ?_ _ | with_reducible refine Fr.alloc ?_ _))⟩
          · go_wp2_with fail
            go_meet
            case rel => exact ⟨_, _, _, _, _, _, _, _, _, rfl, rfl, rfl, do_before HB.out HQ.out (by repeat' (first | with_reducible assumption | with_reducible exact Fr.refl _ _ | with_reducible refine Fr.drew ?_ | with_reducible refine Fr.drewN ?_ _ | with_reducible refine Fr.alloc ?_ _)) (by show wr.heap.size < (wr.alloc _).heap.size; simp) HB7.out⟩
        case rest =>
          obtain ⟨F', S', bt, c8, d8, c9, A8, B8, A9, rfl, rfl, rfl, HN⟩ := hcut
          obtain ⟨wx, hwx⟩ : ∃ wx, wx = wc := ⟨_, rfl⟩
          subst hwx
          have tbo := HN.out.tb
          have gbo := HN.out.gb
          have r0 := tbo.cell 0
          have r1 := tbo.cell 1
          have r2 := tbo.cell 2
          have r3 := tbo.cell 3
          have rf0 := tbo.frozen 0
          have rf1 := tbo.frozen 1
          have rf2 := tbo.frozen 2
          have rf3 := tbo.frozen 3
          simp only [List.getElem?_toArray, List.getElem?_cons_zero, List.getElem?_cons_succ] at r0 r1 r2 r3
          have s0 := gbo.cell 0
          have s1 := gbo.cell 1
          have s2 := gbo.cell 2
          have s3 := gbo.cell 3
          have sf0 := gbo.frozen 0
          have sf1 := gbo.frozen 1
          have sf2 := gbo.frozen 2
          have sf3 := gbo.frozen 3
          simp only [List.getElem?_toArray, List.getElem?_cons_zero, List.getElem?_cons_succ] at s0 s1 s2 s3
          clear tbo gbo
          go_upto_region 12 with (fail)
          have hl := do_laid HB.out HN.out HI.out HMS8.out HWR8.out
          have FW := Lib.hid HN.out.step
          have RN := Lib.hid HN.out.rn
          clear r0 r1 r2 r3 rf0 rf1 rf2 rf3 s0 s1 s2 s3 sf0 sf1 sf2 sf3
          generalize ((((wx.setCell ⟨g, 0, none⟩ (.slice A8 n8 c8)).setCell ⟨g, 1, none⟩ (.int .i64 ms8)).setCell ⟨g, 2, none⟩ (.int .i64 wr8)).setCell ⟨g, 3, none⟩ (.slice B8 m8 d8)) = wy at hl ⊢
          have HB8 := Lib.hid hl.1
          have FG := Lib.hid hl.2.1
          have ROW := Lib.hid hl.2.2
          have FY := Lib.hid (fr_both FW.out.1 FG.out)
          have FYN := Lib.hid (fun k (hk : F k ∨ k = g) => hk.elim (HB.out.now.new k) (fun e => (by rw [e]; exact HB.out.gn.1 : w.heap.size ≤ k)))
          clear hl HN
          have HB9 := HB8
          obtain ⟨mb, hmb⟩ : ∃ mb, mb = (r.1.L.map (·.1)) := ⟨_, rfl⟩
          have HMN := Lib.hid (show n8 = mb.length by rw [hmb, List.length_map]; exact HN8.out)
          have HWF := Lib.hid (show ∀ y ∈ mb, (Lit.int .i64 y).wf = true by rw [hmb]; exact members_wf HI.out)
          have HMB := Lib.hid hmb
          have hlm : n8 ≤ 4096 := by have := HN8.out; have := HI.out.len; have := HI.out.most; omega
          have hli := list_any HB8.out.now.at' HI.out
          rw [← hmb] at hli
          have HLI := Lib.hid (hli.mono (fun e w' h => ipost (n := n8) HMN.out h (Fr.refl _ _)))
          clear hmb hli
          go_wp2_with fail
          refine HLI.out.mono ?_
          rintro e wz ⟨A3, c3, rfl, hv3, hf3⟩
          have V3 := Lib.hid hv3
          have HZ := Lib.hid (HB8.out.no hf3)
          clear hv3 hf3
          obtain ⟨wo, hwo⟩ : ∃ wo, wo = wr := ⟨_, rfl⟩
          subst hwo
          go_wp2_with fail
          go_loopw [11, 12, 13] (fun a c j wi => ∃ (i : Nat), j = .int .i64 i ∧ i ≤ n8 ∧ Hid (a = .int .i64 (cnt r.1 2 (mb.take i) : Nat) ∧ c = .int .i64 (cnt r.1 3 (mb.take i) : Nat) ∧ Fr No wz wi)) (fun _ _ j _ => n8 - (intOf j).toNat)
          case atStart => exact ⟨0, rfl, Nat.zero_le _, rfl, rfl, Fr.refl _ _⟩
          case round =>
            obtain ⟨i, rfl, hi, HC⟩ := hrel
            obtain ⟨c2, hc2⟩ : ∃ x, x = cnt r.1 2 (mb.take i) := ⟨_, rfl⟩
            obtain ⟨c3', hc3'⟩ : ∃ x, x = cnt r.1 3 (mb.take i) := ⟨_, rfl⟩
            have hcc := HC.out
            rw [← hc2, ← hc3'] at hcc
            obtain ⟨rfl, rfl, hfi⟩ := hcc
            have HFI := Lib.hid hfi
            clear HC hfi
            have hle : ∀ r', cnt r.1 r' (mb.take i) ≤ 4096 := fun r' => Nat.le_trans (Nat.le_trans (List.length_filter_le _ _) (by rw [List.length_take]; exact Nat.min_le_left _ _)) (by omega)
            have hb2 : c2 ≤ 4096 := by rw [hc2]; exact hle 2
            have hb3 : c3' ≤ 4096 := by rw [hc3']; exact hle 3
            clear hle
            have HC2 := Lib.hid hc2
            have HC3 := Lib.hid hc3'
            clear hc2 hc3'
            by_cases hlti : i < n8
            · have hlm2 : i < mb.length := by have := HMN.out; omega
              obtain ⟨x, hx⟩ : ∃ x, x = mb[i] := ⟨_, rfl⟩
              have HX := Lib.hid (show mem r.1 x by rw [hx]; unfold mem; rw [← HMB.out]; exact List.getElem_mem hlm2)
              have HTK := Lib.hid (show mb.take (i + 1) = mb.take i ++ [x] by rw [hx, List.take_succ_eq_append_getElem hlm2])
              obtain ⟨ad3, hAd, hb3, hcl⟩ := irow_at V3.out HWF.out hlm2
              rw [← hx] at hcl
              have hcl' : wr.cell? (ad3.add i) = some (.int .i64 x) := (HFI.out.cell (by rw [block_add]; exact hb3) (fun h => h)).trans hcl
              subst hAd
              have HADX := Lib.hid (fun (X : World) (hf : Fr No wr X) => (hf.cell (p := ad3.add i) (by rw [block_add]; exact Nat.lt_of_lt_of_le hb3 HFI.out.size) (fun h => h)).trans hcl')
              have hro := role_any (HZ.out.now.at'.no HFI.out) x
              have ag8 : agS (.slice A8 n8 c8) (.slice B8 m8 d8) r.1 = .agg #[.slice A8 n8 c8, .int .i64 ms8, .int .i64 wr8, .slice B8 m8 d8] := by rw [HMS8.out, HWR8.out]
              have hlv := (fun (X : World) (hf : Fr No wr X) => (rlevel_any (HZ.out.ref.no (HFI.out.then_no hf)) x).mono (fun e w' h => (⟨h.1, hf.then_no h.2⟩ : e = .returned (.int .i64 (levelR r.1.L x)) ∧ Fr No wr w')))
              simp only [ag8] at hlv
              have HLR := Lib.hid (fun h2 => level_of_role HI.out HX.out h2)
              have hcs := role_cases r.1 HX.out
              obtain ⟨lx, hlx⟩ : ∃ lx, lx = levelR r.1.L x := ⟨_, rfl⟩
              simp only [← hlx] at hlv
              have HLV := Lib.hid hlv
              clear hlv ag8
              have HP2 := Lib.hid (cnt_push r.1 2 (mb.take i) x)
              have HP3 := Lib.hid (cnt_push r.1 3 (mb.take i) x)
              have HLX := Lib.hid hlx
              clear hx hb3 hcl hlx hlm2
              have hcs' : roleR r.1 x = 2 ∨ roleR r.1 x = 3 ∨ roleR r.1 x = 1 := hcs.imp (fun h => h.1) (fun h => h.imp (fun h => h.1) (fun h => h.1))
              clear hcs
              have gb9 := HZ.out.box.fr HFI.out (fun h => h)
              rw [← HMS8.out, ← HWR8.out] at gb9
              have s0 := gb9.cell 0
              have s1 := gb9.cell 1
              have s2 := gb9.cell 2
              have s3 := gb9.cell 3
              have sf0 := gb9.frozen 0
              have sf1 := gb9.frozen 1
              have sf2 := gb9.frozen 2
              have sf3 := gb9.frozen 3
              simp only [List.getElem?_toArray, List.getElem?_cons_zero, List.getElem?_cons_succ] at s0 s1 s2 s3
              clear gb9
              rcases hcs' with hrc | hrc | hrc
              · have hlv2 : 2 ≤ lx := by rw [HLX.out]; exact HLR.out (by rw [hrc]; decide)
                rw [hrc] at hro
                have q2 : cnt r.1 2 (mb.take (i + 1)) = c2 + 1 := by rw [HTK.out, HP2.out, hrc, ← HC2.out]; rfl
                have q3 : cnt r.1 3 (mb.take (i + 1)) = c3' := by rw [HTK.out, HP3.out, hrc, ← HC3.out]; rfl
                have HQ2 := Lib.hid q2
                have HQ3 := Lib.hid q3
                have HRO := Lib.hid hro
                clear q2 q3 hro hrc
                go_wp2_with fail
                refine HRO.out.mono ?_
                rintro e x1 ⟨rfl, hf1⟩
                have HK1 := Lib.hid (fun (X : World) (hf : Fr No wr X) => (show X.cell? ⟨g, 0, none⟩ = some (.slice A8 n8 c8) ∧ X.cell? ⟨g, 1, none⟩ = some (.int .i64 ms8) ∧ X.cell? ⟨g, 2, none⟩ = some (.int .i64 wr8) ∧ X.cell? ⟨g, 3, none⟩ = some (.slice B8 m8 d8) ∧ X.cell? (ad3.add i) = some (.int .i64 x) from by
                  have hb := (HZ.out.box.fr HFI.out (fun h => h)).fr hf (fun h => h)
                  rw [← HMS8.out, ← HWR8.out] at hb
                  exact ⟨hb.cell 0, hb.cell 1, hb.cell 2, hb.cell 3, HADX.out X hf⟩))
                obtain ⟨t0, t1, t2, t3, t4⟩ := HK1.out x1 hf1
                clear s0 s1 s2 s3 sf0 sf1 sf2 sf3 hcl'
                go_upto_region 22 with (fail)
                go_region_held3 (fun X => X.cell? ⟨g, 0, none⟩ = some (.slice A8 n8 c8) ∧ X.cell? ⟨g, 1, none⟩ = some (.int .i64 ms8) ∧ X.cell? ⟨g, 2, none⟩ = some (.int .i64 wr8) ∧ X.cell? ⟨g, 3, none⟩ = some (.slice B8 m8 d8) ∧ X.cell? (ad3.add i) = some (.int .i64 x)) ((refine HK1.out _ ?_; (repeat' (first | with_reducible assumption | with_reducible exact Fr.refl _ _ | with_reducible refine Fr.drew ?_ | with_reducible refine Fr.alloc ?_ _)); done)) ((go_at_call 40; refine (HLV.out _ (by repeat' (first | with_reducible assumption | with_reducible exact Fr.refl _ _ | with_reducible refine Fr.drew ?_ | with_reducible refine Fr.drewN ?_ _ | with_reducible refine Fr.alloc ?_ _))).mono ?_; rintro e x2 ⟨rfl, hf2⟩))
                all_goals
                  go_wp2_with fail
                  go_roundw
                  case rel => exact ⟨i + 1, by go_num, by omega, by rw [HQ2.out]; try go_num, by rw [HQ3.out]; try go_num, HFI.out.then_no (by first | exact hf1 | exact hf1.drew | exact hf1.drewN _ | exact hf2 | exact hf2.drew | exact hf2.drewN _ | exact hf2' | exact (hf1.then_no hf2'))⟩
                  case measure => simp [intOf]; omega
              · have hlv2 : 2 ≤ lx := by rw [HLX.out]; exact HLR.out (by rw [hrc]; decide)
                rw [hrc] at hro
                have q2 : cnt r.1 2 (mb.take (i + 1)) = c2 := by rw [HTK.out, HP2.out, hrc, ← HC2.out]; rfl
                have q3 : cnt r.1 3 (mb.take (i + 1)) = c3' + 1 := by rw [HTK.out, HP3.out, hrc, ← HC3.out]; rfl
                have HQ2 := Lib.hid q2
                have HQ3 := Lib.hid q3
                have HRO := Lib.hid hro
                clear q2 q3 hro hrc
                go_wp2_with fail
                refine HRO.out.mono ?_
                rintro e x1 ⟨rfl, hf1⟩
                have HK1 := Lib.hid (fun (X : World) (hf : Fr No wr X) => (show X.cell? ⟨g, 0, none⟩ = some (.slice A8 n8 c8) ∧ X.cell? ⟨g, 1, none⟩ = some (.int .i64 ms8) ∧ X.cell? ⟨g, 2, none⟩ = some (.int .i64 wr8) ∧ X.cell? ⟨g, 3, none⟩ = some (.slice B8 m8 d8) ∧ X.cell? (ad3.add i) = some (.int .i64 x) from by
                  have hb := (HZ.out.box.fr HFI.out (fun h => h)).fr hf (fun h => h)
                  rw [← HMS8.out, ← HWR8.out] at hb
                  exact ⟨hb.cell 0, hb.cell 1, hb.cell 2, hb.cell 3, HADX.out X hf⟩))
                obtain ⟨t0, t1, t2, t3, t4⟩ := HK1.out x1 hf1
                clear s0 s1 s2 s3 sf0 sf1 sf2 sf3 hcl'
                go_upto_region 22 with (fail)
                go_region_held3 (fun X => X.cell? ⟨g, 0, none⟩ = some (.slice A8 n8 c8) ∧ X.cell? ⟨g, 1, none⟩ = some (.int .i64 ms8) ∧ X.cell? ⟨g, 2, none⟩ = some (.int .i64 wr8) ∧ X.cell? ⟨g, 3, none⟩ = some (.slice B8 m8 d8) ∧ X.cell? (ad3.add i) = some (.int .i64 x)) ((refine HK1.out _ ?_; (repeat' (first | with_reducible assumption | with_reducible exact Fr.refl _ _ | with_reducible refine Fr.drew ?_ | with_reducible refine Fr.alloc ?_ _)); done)) ((go_at_call 40; refine (HLV.out _ (by repeat' (first | with_reducible assumption | with_reducible exact Fr.refl _ _ | with_reducible refine Fr.drew ?_ | with_reducible refine Fr.drewN ?_ _ | with_reducible refine Fr.alloc ?_ _))).mono ?_; rintro e x2 ⟨rfl, hf2⟩))
                all_goals
                  go_wp2_with fail
                  go_roundw
                  case rel => exact ⟨i + 1, by go_num, by omega, by rw [HQ2.out]; try go_num, by rw [HQ3.out]; try go_num, HFI.out.then_no (by first | exact hf1 | exact hf1.drew | exact hf1.drewN _ | exact hf2 | exact hf2.drew | exact hf2.drewN _ | exact hf2' | exact (hf1.then_no hf2'))⟩
                  case measure => simp [intOf]; omega
              · rw [hrc] at hro
                have q2 : cnt r.1 2 (mb.take (i + 1)) = c2 := by rw [HTK.out, HP2.out, hrc, ← HC2.out]; rfl
                have q3 : cnt r.1 3 (mb.take (i + 1)) = c3' := by rw [HTK.out, HP3.out, hrc, ← HC3.out]; rfl
                have HQ2 := Lib.hid q2
                have HQ3 := Lib.hid q3
                have HRO := Lib.hid hro
                clear q2 q3 hro hrc
                go_wp2_with fail
                refine HRO.out.mono ?_
                rintro e x1 ⟨rfl, hf1⟩
                have HK1 := Lib.hid (fun (X : World) (hf : Fr No wr X) => (show X.cell? ⟨g, 0, none⟩ = some (.slice A8 n8 c8) ∧ X.cell? ⟨g, 1, none⟩ = some (.int .i64 ms8) ∧ X.cell? ⟨g, 2, none⟩ = some (.int .i64 wr8) ∧ X.cell? ⟨g, 3, none⟩ = some (.slice B8 m8 d8) ∧ X.cell? (ad3.add i) = some (.int .i64 x) from by
                  have hb := (HZ.out.box.fr HFI.out (fun h => h)).fr hf (fun h => h)
                  rw [← HMS8.out, ← HWR8.out] at hb
                  exact ⟨hb.cell 0, hb.cell 1, hb.cell 2, hb.cell 3, HADX.out X hf⟩))
                obtain ⟨t0, t1, t2, t3, t4⟩ := HK1.out x1 hf1
                clear s0 s1 s2 s3 sf0 sf1 sf2 sf3 hcl'
                go_upto_region 22 with (fail)
                go_quiet (fail)
                all_goals
                  go_wp2_with fail
                  go_roundw
                  case rel => exact ⟨i + 1, by go_num, by omega, by rw [HQ2.out]; try go_num, by rw [HQ3.out]; try go_num, HFI.out.then_no (by first | exact hf1 | exact hf1.drew | exact hf1.drewN _ | exact hf2 | exact hf2.drew | exact hf2.drewN _ | exact hf2' | exact (hf1.then_no hf2'))⟩
                  case measure => simp [intOf]; omega
            · have HE : Hid (mb.take i = mb) := List.take_of_length_le (by have := HMN.out; omega)
              have e2 : (c2 : Int) = if 0 ≤ wr8 then 1 else 0 := by
                have := cnt_wr HI.out
                rw [← HMB.out, ← HE.out, ← HC2.out, ← HWR8.out] at this
                rw [this]; split <;> rfl
              have e3 : m8 = c3' := by
                have := cnt_q HI.out
                rw [← HMB.out, ← HE.out, ← HC3.out, ← HM8.out] at this
                exact this.symm
              have e4 : ¬ 0 ≤ wr8 → m8 = 0 := fun h => by
                rcases HI.out.wr_cases with g1 | g1
                · rw [HM8.out, g1.2]; rfl
                · rw [HWR8.out] at h; exact absurd g1.1 h
              subst e3
              have wr1 := writer_any (HZ.out.now.at'.no HFI.out) HI.out
              rw [← HWR8.out] at wr1
              have HWA := Lib.hid (fun (X : World) (hf : Fr No wr X) => (waits_any (HZ.out.now.at'.no (HFI.out.then_no hf))).mono (fun e w' h => ipost (n := m8) HM8.out h hf))
              by_cases hw0 : 0 ≤ wr8
              · rw [if_pos hw0, decide_eq_true hw0] at wr1
                rw [if_pos hw0] at e2
                have e2' : c2 = 1 := by omega
                subst e2'
                clear e2 e4
                have WR := Lib.hid wr1
                clear wr1
                have hnn : ((m8 : Int) != m8) = false := by simp
                go_wp2_with fail
                refine WR.out.mono ?_
                rintro e wy2 ⟨rfl, rfl⟩
                go_wp2_with (go_at_call 39; refine (HWA.out _ (by repeat' (first | with_reducible assumption | with_reducible exact Fr.refl _ _ | with_reducible refine Fr.drew ?_ | with_reducible refine Fr.drewN ?_ _ | with_reducible refine Fr.alloc ?_ _))).mono ?_; rintro e x6 ⟨A6, c6, rfl, hv6, hf6⟩; clear hv6)
                go_roundw
                case rel => exact ⟨k + 1, _, _, _, _, _, by go_num, by omega, HZ.out.no (HFI.out.then_no hf6)⟩
                case measure => simp [intOf]; omega
              · rw [if_neg hw0, decide_eq_false hw0] at wr1
                rw [if_neg hw0] at e2
                have e2' : c2 = 0 := by omega
                subst e2'
                have e5 := e4 hw0
                subst e5
                clear e2 e4
                have WR := Lib.hid wr1
                clear wr1
                go_wp2_with fail
                refine WR.out.mono ?_
                rintro e wy2 ⟨rfl, rfl⟩
                go_wp2_with (go_at_call 39; refine (HWA.out _ (by repeat' (first | with_reducible assumption | with_reducible exact Fr.refl _ _ | with_reducible refine Fr.drew ?_ | with_reducible refine Fr.drewN ?_ _ | with_reducible refine Fr.alloc ?_ _))).mono ?_; rintro e x6 ⟨A6, c6, rfl, hv6, hf6⟩; clear hv6)
                go_roundw
                case rel => exact ⟨k + 1, _, _, _, _, _, by go_num, by omega, HZ.out.no (HFI.out.then_no hf6)⟩
                case measure => simp [intOf]; omega
      · go_wp2_with (go_at_call 23; refine (works_any _).mono ?_; rintro e w' ⟨rfl, hf⟩; have Hf := Lib.hid hf; clear hf)
        go_ret
        exact ⟨rfl, HB.out.now.fr.then_no Hf.out⟩
theorem walk_SeatOne (W : World) (v0 : Value) (x0 : (List (Int × (Int × Int)))) (h0 : (RSl 3 (RTwo 1 (RInt .u8) (RTwo 1 (RInt .i64) (RInt .i64)))) W (Ahead W.heap.size) [v0] x0) : Calls Try.prog 9 #[v0] W fun e w' => e = .returned (.bool true) ∧ Fr No W w' := one_any _ _ _ h0
end Seat
end Go.Proofs.Ytepnjmgacfjhiaa
