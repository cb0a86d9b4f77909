/- Package seat: the law SeatPlays. Printed by gen_seatj.py. -/
import Derived.Test.YtepnjmgacfjhiaaSeatI
import Derived.BigQuiet
import Derived.Deep.CutRange
import Derived.Deep.RegionHeld3
import Derived.Outline
import Derived.BigGuardPart
namespace Go.Proofs.Ytepnjmgacfjhiaa
open Go.RowKit
set_option linter.unusedVariables false
set_option linter.unusedSimpArgs false
namespace Seat
open Sls
/-- A row of numbers in memory. -/
structure IRow (w : World) (v : Value) (l : List Int) : Prop where
  own : w.ownsRow 0 3 1 v l.length (l.map Sint.enc)
theorem IRow.no {w w' : World} {v : Value} {l : List Int} (h : IRow w v l) (hf : Fr No w w') : IRow w' v l := ⟨own_fr2 hf h.own⟩
def IPost (l : List Int) (n : Nat) (wy X : World) (e : Ending) (w' : World) : Prop := ∃ A c, e = .returned (.slice A n c) ∧ IRow w' (.slice A n c) l ∧ Fr No wy w'
def IPost2 (l : List Int) (n : Nat) (wy X : World) (e : Ending) (w' : World) : Prop := ∃ A c, e = .returned (.slice A n c) ∧ IRow w' (.slice A n c) l ∧ Fr No wy w' ∧ Fr No X w'
theorem ipost {l : List Int} {n : Nat} {wy X : World} {e : Ending} {w' : World} (hn : n = l.length) (h : IntsPost l X e w') (hf : Fr No wy X) : IPost l n wy X e w' := by
  obtain ⟨v, rfl, h1, h2, h3⟩ := h
  obtain ⟨A, c, rfl⟩ := own_form h1
  subst hn
  exact ⟨A, c, rfl, ⟨h1⟩, hf.then_no h3⟩
theorem ipost2 {l : List Int} {n : Nat} {wy X : World} {e : Ending} {w' : World} (hn : n = l.length) (h : IntsPost l X e w') (hf : Fr No wy X) : IPost2 l n wy X e w' := by
  obtain ⟨v, rfl, h1, h2, h3⟩ := h
  obtain ⟨A, c, rfl⟩ := own_form h1
  subst hn
  exact ⟨A, c, rfl, ⟨h1⟩, hf.then_no h3, h3⟩
theorem same_rows {wy x X : World} {v u : Value} {l : List Int} (hw : ∀ y ∈ l, (Lit.int .i64 y).wf = true) (h1 : IRow x v l) (h2 : IRow x u l) (hf : Fr No x X) (hy : Fr No wy x) : Calls Try.prog 37 #[v, u] X fun e w' => e = .returned (.bool true) ∧ Fr No wy w' := by
  have o1 := (h1.no hf).own
  have o2 := (h2.no hf).own
  refine (Ref29.same_any _ _ _ _ _ _ _ (ints_own (S := Of v) o1 hw (fun _ h => h)) (ints_own (S := Of u) o2 hw (fun _ h => h))).mono ?_
  rintro e w' ⟨rfl, n, rfl⟩
  exact ⟨ret_bool (by simp), (hy.then_no hf).drewN n⟩
theorem same_ref {wy x X : World} {v vL vW : Value} {S : Nat → Prop} {s : St} (h1 : IRow x v s.q) (h2 : RS wy S vL vW s) (hf : Fr No x X) (hy : Fr No wy x) : Calls Try.prog 37 #[v, vW] X fun e w' => e = .returned (.bool true) ∧ Fr No wy w' := by
  have o1 := (h1.no hf).own
  have h2 := h2.no (hy.then_no hf)
  refine (Ref29.same_any _ _ _ _ _ _ _ (ints_own (S := Of v) o1 (q_wf h2.q) (fun _ h => h)) h2.q).mono ?_
  rintro e w' ⟨rfl, n, rfl⟩
  exact ⟨ret_bool (by simp), (hy.then_no hf).drewN n⟩
theorem members_wf {s : St} (h : Inv s) : ∀ y ∈ s.L.map (·.1), (Lit.int .i64 y).wf = true := fun y hy => by
  obtain ⟨m, hm, rfl⟩ := List.mem_map.1 hy
  exact (h.wf m hm).1
set_option maxRecDepth 100000 in
set_option maxHeartbeats 16000000 in
theorem plays_any (most : Int) (v : Value) (l : List (Int × Int × Int)) (w : World) (hv : RSl 3 (RTwo 1 (RInt .u8) (RTwo 1 (RInt .i64) (RInt .i64))) w (Ahead w.heap.size) [v] l) : Calls Try.prog 8 #[.int .i64 most, v] w fun e w' => e = .returned (.bool true) ∧ Fr No w w' := by
  obtain ⟨A, cap, rfl, hc1, hc2⟩ := hv.slice
  unfold maxLen at hc2
  have HV := Lib.hid hv
  clear hv
  by_cases hbig : 80 < l.length
  · go_enter Try.func8, Try.ntmps8
    go_wp2_with (go_at_call 23; refine (works_any _).mono ?_; rintro e w' ⟨rfl, hf⟩; have Hf := Lib.hid hf; clear hf)
    go_ret
    exact ⟨rfl, Hf.out⟩
  · by_cases hm1 : most < 1
    · go_enter Try.func8, Try.ntmps8
      go_wp2_with (first | (go_at_call 24; refine (seat_no most (.inl hm1) _).mono ?_; rintro e w1 ⟨rfl, hf⟩; have HF1 := Lib.hid hf; clear hf) | (go_at_call 23; refine (works_any _).mono ?_; rintro e w' ⟨rfl, hf⟩; have Hf := Lib.hid hf; clear hf))
      go_ret
      exact ⟨rfl, HF1.out.then_no Hf.out⟩
    · by_cases hm2 : 4096 < most
      · go_enter Try.func8, Try.ntmps8
        go_wp2_with (first | (go_at_call 24; refine (seat_no most (.inr hm2) _).mono ?_; rintro e w1 ⟨rfl, hf⟩; have HF1 := Lib.hid hf; clear hf) | (go_at_call 23; refine (works_any _).mono ?_; rintro e w' ⟨rfl, hf⟩; have Hf := Lib.hid hf; clear hf))
        go_ret
        exact ⟨rfl, HF1.out.then_no Hf.out⟩
      · have g1 : 1 ≤ most := by omega
        have g2 : most ≤ 4096 := by omega
        go_enter Try.func8, Try.ntmps8
        go_wp2_with fail
        refine (seat_yes most g1 g2 _).mono ?_
        intro e w0 hm
        obtain ⟨b, rfl, hn⟩ := made_now hm ⟨g1, g2⟩
        have H0 := Lib.hid hn
        clear hm hn
        go_wp2_with fail
        refine (rnew_any most _).mono ?_
        rintro e w1 ⟨rfl, hf⟩
        have HB0 := Lib.hid (Both.start H0.out hf)
        clear hf
        go_upto_region 9 with (fail)
        obtain ⟨g, hg⟩ : ∃ g, g = w1.heap.size := ⟨_, rfl⟩
        rw [← hg] at HB0 ⊢
        generalize w1.alloc (.cells #[.slice none 0 0, .int .i64 most, .int .i64 (-1), .slice none 0 0] 71) = w2 at HB0 ⊢
        clear hg
        go_wp2_with fail
        go_loopw [8] (fun iv wr => ∃ (k : Nat) (F S : Nat → Prop) (vL vW : Value) (s : St), iv = .int .i64 k ∧ k ≤ l.length ∧ Hid (Both w wr F S b g vL vW s)) (fun i _ => l.length - (intOf i).toNat)
        case atStart => exact ⟨0, _, _, _, _, _, rfl, by omega, HB0.out⟩
        case round =>
          obtain ⟨k, F, S, vL, vW, s, rfl, hk, HB⟩ := hrel
          clear HB0 H0
          by_cases hlt : k < l.length
          · obtain ⟨ad, rfl, hadl, hcel, hkd, hid, hlv⟩ := op_at HV.out HB.out.now.fr hlt
            obtain ⟨Ar, cr, Br, dr, rfl, rfl, hA1, hA2, hB1, hB2⟩ := HB.out.ref.forms
            obtain ⟨kd, hkdE⟩ : ∃ x, x = l[k].1 := ⟨_, rfl⟩
            obtain ⟨id, hidE⟩ : ∃ x, x = l[k].2.1 := ⟨_, rfl⟩
            obtain ⟨lv, hlvE⟩ : ∃ x, x = l[k].2.2 := ⟨_, rfl⟩
            rw [← hkdE] at hkd
            rw [← hidE] at hid
            rw [← hlvE] at hlv
            simp only [← hkdE, ← hidE, ← hlvE] at hcel
            obtain ⟨n, hn⟩ : ∃ n, n = s.L.length := ⟨_, rfl⟩
            obtain ⟨m, hm⟩ : ∃ m, m = s.q.length := ⟨_, rfl⟩
            obtain ⟨wt, hwt⟩ : ∃ wt, wt = s.wr := ⟨_, rfl⟩
            obtain ⟨ms, hms⟩ : ∃ ms, ms = s.most := ⟨_, rfl⟩
            have ag : agS (.slice Ar s.L.length cr) (.slice Br s.q.length dr) s = .agg #[.slice Ar n cr, .int .i64 ms, .int .i64 wt, .slice Br m dr] := by rw [hn, hm, hwt, hms]
            obtain ⟨r, hr⟩ : ∃ r, r = doR s kd id lv := ⟨_, rfl⟩
            obtain ⟨n8, hn8⟩ : ∃ n8, n8 = r.1.L.length := ⟨_, rfl⟩
            obtain ⟨m8, hm8⟩ : ∃ m8, m8 = r.1.q.length := ⟨_, rfl⟩
            obtain ⟨k8, hk8⟩ : ∃ k8, k8 = r.2.1.length := ⟨_, rfl⟩
            obtain ⟨wr8, hwr8⟩ : ∃ wr8, wr8 = r.1.wr := ⟨_, rfl⟩
            obtain ⟨ms8, hms8⟩ : ∃ ms8, ms8 = r.1.most := ⟨_, rfl⟩
            have hdo := fun (X : World) (hf : Fr No wr X) => do_p HB.out hf kd id lv hid hlv hkd.1 hkd.2 r hr n8 m8 k8 ms8 wr8 hn8 hm8 hk8 hms8 hwr8
            simp only [ag] at hdo
            have HDO := Lib.hid hdo
            clear hdo
            have HI := Lib.hid (show Inv r.1 by rw [hr]; exact HB.out.now.inv.do kd id lv hid hlv)
            have hbox := HB.out.box
            rw [← hn, ← hm, ← hwt, ← hms] at hbox
            have HBOX := Lib.hid hbox
            have HK := Lib.hid (fun (X : World) (hf : Fr F wr X) => (show X.cell? ⟨g, 0, none⟩ = some (.slice Ar n cr) ∧ X.cell? ⟨g, 1, none⟩ = some (.int .i64 ms) ∧ X.cell? ⟨g, 2, none⟩ = some (.int .i64 wt) ∧ X.cell? ⟨g, 3, none⟩ = some (.slice Br m dr) ∧ X.cell? (ad.add (k * 3)) = some (.int .u8 kd) ∧ X.cell? ⟨(ad.add (k * 3)).block, (ad.add (k * 3)).off + 1, none⟩ = some (.int .i64 id) ∧ X.cell? ⟨(ad.add (k * 3)).block, (ad.add (k * 3)).off + 2, none⟩ = some (.int .i64 lv) from by
              have hb := hbox.fr hf HB.out.gn.2.1
              have hc := hcel F X hf HB.out.now.new
              exact ⟨hb.cell 0, hb.cell 1, hb.cell 2, hb.cell 3, hc.1, hc.2.1, hc.2.2⟩))
            have HCEL := Lib.hid hcel
            have HKD := Lib.hid hkd
            have HR := Lib.hid hr
            have HN8 := Lib.hid hn8
            have HM8 := Lib.hid hm8
            have HK8 := Lib.hid hk8
            have HWR8 := Lib.hid hwr8
            have HMS8 := Lib.hid hms8
            have HWT := Lib.hid hwt
            have HKE := Lib.hid (And.intro hkdE (And.intro hidE hlvE))
            have HID := Lib.hid (And.intro hid hlv)
            have HA := Lib.hid (And.intro hA1 (And.intro hA2 (And.intro hB1 hB2)))
            clear ag hn hm hwt hms hr hn8 hm8 hk8 hwr8 hms8 hbox hcel hkd hid hlv hkdE hidE hlvE hA1 hA2 hB1 hB2
            go_upto_region 12 with (fail)
            go_cut [9, 10, 11] from 48 to 59 (fun p u o wx => ∃ (F' S' : Nat → Prop) (bt c8 d8 c9 : Nat) (A8 B8 A9 : Option Addr), p = .pointer (some ⟨bt, 0, none⟩) ∧ u = .slice A9 k8 c9 ∧ o = .bool true ∧ Hid (DoNow wr wx F S F' S' b g bt r (.slice A8 n8 c8) (.slice B8 m8 d8) (.slice A9 k8 c9) ms8 wr8 #[.slice Ar s.L.length cr, .int .i64 s.most, .int .i64 s.wr, .slice Br s.q.length dr]))
            case first =>
              obtain ⟨x0, x1, x2, x3, x4, x5, x6⟩ := HK.out wr (Fr.refl _ _)
              go_region_held3 (fun X => X.cell? ⟨g, 0, none⟩ = some (.slice Ar n cr) ∧ X.cell? ⟨g, 1, none⟩ = some (.int .i64 ms) ∧ X.cell? ⟨g, 2, none⟩ = some (.int .i64 wt) ∧ X.cell? ⟨g, 3, none⟩ = some (.slice Br m dr) ∧ X.cell? (ad.add (k * 3)) = some (.int .u8 kd) ∧ X.cell? ⟨(ad.add (k * 3)).block, (ad.add (k * 3)).off + 1, none⟩ = some (.int .i64 id) ∧ X.cell? ⟨(ad.add (k * 3)).block, (ad.add (k * 3)).off + 2, none⟩ = some (.int .i64 lv)) ((refine HK.out _ ?_; (repeat' (first | with_reducible assumption | with_reducible exact Fr.refl _ _ | with_reducible refine Fr.drew ?_ | with_reducible refine Fr.drewN ?_ _ | with_reducible refine Fr.alloc ?_ _ | with_reducible refine Fr.setCell ?_ (.inr ?_) _ | exact Nat.le_refl _)); done)) (first | (go_at_call 33; refine (HDO.out _ (by repeat' (first | with_reducible assumption | with_reducible exact Fr.refl _ _ | with_reducible refine Fr.drew ?_ | with_reducible refine Fr.drewN ?_ _ | with_reducible refine Fr.alloc ?_ _))).mono ?_; rintro e w8 ⟨F', S', A8, c8, B8, d8, A9, c9, rfl, hq, hk8⟩; (first | (have hb7 := (Blk.new wr 71 #[.slice none 0 0, .int .i64 0, .int .i64 0, .slice none 0 0]).fr hq.step.1 (fun h => by have := HB.out.now.at'.lt _ h; omega); have y0 := hb7.cell 0; have y1 := hb7.cell 1; have y2 := hb7.cell 2; have y3 := hb7.cell 3; have yf0 := hb7.frozen 0; have yf1 := hb7.frozen 1; have yf2 := hb7.frozen 2; have yf3 := hb7.frozen 3; simp only [List.getElem?_toArray, List.getElem?_cons_zero, List.getElem?_cons_succ] at y0 y1 y2 y3;  have HB7 := Lib.hid hb7; clear hb7) | (have hb7 := Blk.fr (w := (wr.alloc (.cells #[.slice none 0 0, .int .i64 0, .int .i64 0, .slice none 0 0] 71)).drew) (show Blk ((wr.alloc (.cells #[.slice none 0 0, .int .i64 0, .int .i64 0, .slice none 0 0] 71)).drew) wr.heap.size 71 #[.slice none 0 0, .int .i64 0, .int .i64 0, .slice none 0 0] from Blk.new wr 71 #[.slice none 0 0, .int .i64 0, .int .i64 0, .slice none 0 0]) hq.step.1 (fun h => by have := HB.out.now.at'.lt _ h; omega); have y0 := hb7.cell 0; have y1 := hb7.cell 1; have y2 := hb7.cell 2; have y3 := hb7.cell 3; have yf0 := hb7.frozen 0; have yf1 := hb7.frozen 1; have yf2 := hb7.frozen 2; have yf3 := hb7.frozen 3; simp only [List.getElem?_toArray, List.getElem?_cons_zero, List.getElem?_cons_succ] at y0 y1 y2 y3;  have HB7 := Lib.hid hb7; clear hb7) | skip); have HQ := Lib.hid hq; clear hq))
              · go_wp2_with fail
                go_meet
                case rel => exact ⟨_, _, _, _, _, _, _, _, _, rfl, rfl, rfl, do_after HB.out HQ.out (by repeat' (first | with_reducible assumption | with_reducible exact Fr.refl _ _ | with_reducible refine Fr.drew ?_ | with_reducible refine Fr.drewN ?_ _ | with_reducible refine Fr.alloc ?_ _))⟩
              · go_wp2_with fail
                go_meet
                case rel => exact ⟨_, _, _, _, _, _, _, _, _, rfl, rfl, rfl, do_before HB.out HQ.out (by repeat' (first | with_reducible assumption | with_reducible exact Fr.refl _ _ | with_reducible refine Fr.drew ?_ | with_reducible refine Fr.drewN ?_ _ | with_reducible refine Fr.alloc ?_ _)) (by show wr.heap.size < (wr.alloc _).heap.size; simp) HB7.out⟩
            case rest =>
              obtain ⟨F', S', bt, c8, d8, c9, A8, B8, A9, rfl, rfl, rfl, HN⟩ := hcut
              obtain ⟨wx, hwx⟩ : ∃ wx, wx = wc := ⟨_, rfl⟩
              subst hwx
              have tbo := HN.out.tb
              have gbo := HN.out.gb
              have r0 := tbo.cell 0
              have r1 := tbo.cell 1
              have r2 := tbo.cell 2
              have r3 := tbo.cell 3
              have rf0 := tbo.frozen 0
              have rf1 := tbo.frozen 1
              have rf2 := tbo.frozen 2
              have rf3 := tbo.frozen 3
              simp only [List.getElem?_toArray, List.getElem?_cons_zero, List.getElem?_cons_succ] at r0 r1 r2 r3
              have s0 := gbo.cell 0
              have s1 := gbo.cell 1
              have s2 := gbo.cell 2
              have s3 := gbo.cell 3
              have sf0 := gbo.frozen 0
              have sf1 := gbo.frozen 1
              have sf2 := gbo.frozen 2
              have sf3 := gbo.frozen 3
              simp only [List.getElem?_toArray, List.getElem?_cons_zero, List.getElem?_cons_succ] at s0 s1 s2 s3
              clear tbo gbo
              go_upto_region 14 with (fail)
              have hl := do_laid HB.out HN.out HI.out HMS8.out HWR8.out
              have FW := Lib.hid HN.out.step
              have RN := Lib.hid HN.out.rn
              clear r0 r1 r2 r3 rf0 rf1 rf2 rf3 s0 s1 s2 s3 sf0 sf1 sf2 sf3
              generalize ((((wx.setCell ⟨g, 0, none⟩ (.slice A8 n8 c8)).setCell ⟨g, 1, none⟩ (.int .i64 ms8)).setCell ⟨g, 2, none⟩ (.int .i64 wr8)).setCell ⟨g, 3, none⟩ (.slice B8 m8 d8)) = wy at hl ⊢
              have HB8 := Lib.hid hl.1
              have FG := Lib.hid hl.2.1
              have ROW := Lib.hid hl.2.2
              have FY := Lib.hid (fr_both FW.out.1 FG.out)
              have FYN := Lib.hid (fun k (hk : F k ∨ k = g) => hk.elim (HB.out.now.new k) (fun e => (by rw [e]; exact HB.out.gn.1 : w.heap.size ≤ k)))
              clear hl HN
              have HB9 := HB8
              have HL8 := Lib.hid (show r.1.L.length ≤ 4096 by have := HI.out.len; have := HI.out.most; omega)
              obtain ⟨mb, hmb⟩ : ∃ mb, mb = (r.1.L.map (·.1)) := ⟨_, rfl⟩
              have hmn : n8 = mb.length := by rw [hmb, List.length_map]; exact HN8.out
              have HMN := Lib.hid hmn
              have HWF := Lib.hid (members_wf HI.out)
              rw [← hmb] at HWF
              obtain ⟨ro, hro⟩ : ∃ ro, ro = roleR r.1 id := ⟨_, rfl⟩
              have hro' := fun (X : World) (hf : Fr No wy X) => (role_any (HB8.out.now.at'.no hf) id).mono (fun e w' h => (⟨h.1, hf.then_no h.2⟩ : e = .returned (.int .i64 (roleR r.1 id)) ∧ Fr No wy w'))
              have hrr := fun (X : World) (hf : Fr No wy X) => (rrole_any (HB8.out.ref.no hf) id).mono (fun e w' h => (⟨h.1, hf.then_no h.2⟩ : e = .returned (.int .i64 (roleR r.1 id)) ∧ Fr No wy w'))
              have hli := fun (X : World) (hf : Fr No wy X) => (list_any (HB8.out.now.at'.no hf) HI.out).mono (fun e w' h => ipost (n := n8) (by rw [List.length_map]; exact HN8.out) h hf)
              have hrl := fun (X : World) (hf : Fr No wy X) => (rlist_any (HB8.out.ref.no hf) HL8.out).mono (fun e w' h => ipost2 (n := n8) (by rw [List.length_map]; exact HN8.out) h hf)
              have hwa := fun (X : World) (hf : Fr No wy X) => (waits_any (HB8.out.now.at'.no hf)).mono (fun e w' h => ipost (n := m8) HM8.out h hf)
              simp only [← hro] at hro' hrr
              simp only [← hmb] at hli hrl
              have ag8 : agS (.slice A8 n8 c8) (.slice B8 m8 d8) r.1 = .agg #[.slice A8 n8 c8, .int .i64 ms8, .int .i64 wr8, .slice B8 m8 d8] := by rw [HMS8.out, HWR8.out]
              simp only [ag8] at hrr hrl
              have HRO := Lib.hid hro'
              clear hro'
              have HRR := Lib.hid hrr
              clear hrr
              have HLI := Lib.hid hli
              clear hli
              have HRL := Lib.hid hrl
              clear hrl
              have HWA := Lib.hid hwa
              clear hwa
              have hneq : (ro != ro) = false := by simp
              clear hmb hmn hro ag8
              have wr1 := writer_any HB8.out.now.at' HI.out
              rw [← HWR8.out] at wr1
              have gb8 := HB8.out.box
              rw [← HMS8.out, ← HWR8.out] at gb8
              have GB8 := Lib.hid gb8
              have HK8' := Lib.hid (fun (X : World) (hf : Fr No wy X) => (show X.cell? ⟨g, 0, none⟩ = some (.slice A8 n8 c8) ∧ X.cell? ⟨g, 1, none⟩ = some (.int .i64 ms8) ∧ X.cell? ⟨g, 2, none⟩ = some (.int .i64 wr8) ∧ X.cell? ⟨g, 3, none⟩ = some (.slice B8 m8 d8) ∧ X.cell? ⟨(ad.add (k * 3)).block, (ad.add (k * 3)).off + 1, none⟩ = some (.int .i64 id) from by
                have hb := GB8.out.fr hf (fun h => h)
                exact ⟨hb.cell 0, hb.cell 1, hb.cell 2, hb.cell 3, (HCEL.out _ X (FY.out.then_no hf) FYN.out).2.1⟩))
              obtain ⟨t0, t1, t2, t3, t4⟩ := HK8'.out wy (Fr.refl _ _)
              clear gb8
              by_cases hw0 : 0 ≤ wr8
              · rw [if_pos hw0, decide_eq_true hw0] at wr1
                have WR := Lib.hid wr1
                clear wr1
                have hge : (wr8 != wr8) = false := by simp
                go_wp2_with fail
                refine WR.out.mono ?_
                rintro e wz ⟨rfl, rfl⟩
                go_upto_region 17 with (fail)
                go_region_held3 (fun X => X.cell? ⟨g, 0, none⟩ = some (.slice A8 n8 c8) ∧ X.cell? ⟨g, 1, none⟩ = some (.int .i64 ms8) ∧ X.cell? ⟨g, 2, none⟩ = some (.int .i64 wr8) ∧ X.cell? ⟨g, 3, none⟩ = some (.slice B8 m8 d8) ∧ X.cell? ⟨(ad.add (k * 3)).block, (ad.add (k * 3)).off + 1, none⟩ = some (.int .i64 id)) ((refine HK8'.out _ ?_; (repeat' (first | with_reducible assumption | with_reducible exact Fr.refl _ _ | with_reducible refine Fr.drew ?_ | with_reducible refine Fr.drewN ?_ _ | with_reducible refine Fr.alloc ?_ _)); done)) (first
                  | (go_at_call 35; refine (HRO.out _ (by repeat' (first | with_reducible assumption | with_reducible exact Fr.refl _ _ | with_reducible refine Fr.drew ?_ | with_reducible refine Fr.drewN ?_ _ | with_reducible refine Fr.alloc ?_ _))).mono ?_; rintro e x1 ⟨rfl, hf1⟩)
                  | (go_at_call 36; refine (HRR.out _ (by repeat' (first | with_reducible assumption | with_reducible exact Fr.refl _ _ | with_reducible refine Fr.drew ?_ | with_reducible refine Fr.drewN ?_ _ | with_reducible refine Fr.alloc ?_ _))).mono ?_; rintro e x2 ⟨rfl, hf2⟩)
                  | (go_at_call 34; refine (HLI.out _ (by repeat' (first | with_reducible assumption | with_reducible exact Fr.refl _ _ | with_reducible refine Fr.drew ?_ | with_reducible refine Fr.drewN ?_ _ | with_reducible refine Fr.alloc ?_ _))).mono ?_; rintro e x3 ⟨A3, c3, rfl, hv3, hf3⟩; have V3 := Lib.hid hv3; clear hv3)
                  | (go_at_call 38; refine (HRL.out _ (by repeat' (first | with_reducible assumption | with_reducible exact Fr.refl _ _ | with_reducible refine Fr.drew ?_ | with_reducible refine Fr.drewN ?_ _ | with_reducible refine Fr.alloc ?_ _))).mono ?_; rintro e x4 ⟨A4, c4, rfl, hv4, hf4, hg4⟩; have k34 := Fr.then_no (F := No) (w := x3) (by repeat' (first | with_reducible assumption | with_reducible exact Fr.refl _ _ | with_reducible refine Fr.drew ?_ | with_reducible refine Fr.drewN ?_ _ | with_reducible refine Fr.alloc ?_ _)) hg4; have SM := Lib.hid (fun X (hf : Fr No x4 X) => same_rows HWF.out (V3.out.no k34) hv4 hf hf4); clear hv4 hg4 k34 V3)
                  | (go_at_call 37; refine (SM.out _ (by repeat' (first | with_reducible assumption | with_reducible exact Fr.refl _ _ | with_reducible refine Fr.drew ?_ | with_reducible refine Fr.drewN ?_ _ | with_reducible refine Fr.alloc ?_ _))).mono ?_; rintro e x5 ⟨rfl, hf5⟩; clear SM)
                  | (go_at_call 39; refine (HWA.out _ (by repeat' (first | with_reducible assumption | with_reducible exact Fr.refl _ _ | with_reducible refine Fr.drew ?_ | with_reducible refine Fr.drewN ?_ _ | with_reducible refine Fr.alloc ?_ _))).mono ?_; rintro e x6 ⟨A6, c6, rfl, hv6, hf6⟩; have SM6 := Lib.hid (fun X (hf : Fr No x6 X) => same_ref hv6 HB9.out.ref hf hf6); clear hv6)
                  | (go_at_call 37; refine (SM6.out _ (by repeat' (first | with_reducible assumption | with_reducible exact Fr.refl _ _ | with_reducible refine Fr.drew ?_ | with_reducible refine Fr.drewN ?_ _ | with_reducible refine Fr.alloc ?_ _))).mono ?_; rintro e x7 ⟨rfl, hf7⟩))
                all_goals
                  go_wp2_with fail
                  go_roundw
                  case rel => exact ⟨k + 1, _, _, _, _, _, by go_num, by omega, HB8.out.no (by repeat' (first | with_reducible assumption | with_reducible exact Fr.refl _ _ | with_reducible refine Fr.drew ?_ | with_reducible refine Fr.drewN ?_ _ | with_reducible refine Fr.alloc ?_ _))⟩
                  case measure => simp [intOf]; omega
              · rw [if_neg hw0, decide_eq_false hw0] at wr1
                have WR := Lib.hid wr1
                clear wr1
                go_wp2_with fail
                refine WR.out.mono ?_
                rintro e wz ⟨rfl, rfl⟩
                go_upto_region 17 with (fail)
                go_region_held3 (fun X => X.cell? ⟨g, 0, none⟩ = some (.slice A8 n8 c8) ∧ X.cell? ⟨g, 1, none⟩ = some (.int .i64 ms8) ∧ X.cell? ⟨g, 2, none⟩ = some (.int .i64 wr8) ∧ X.cell? ⟨g, 3, none⟩ = some (.slice B8 m8 d8) ∧ X.cell? ⟨(ad.add (k * 3)).block, (ad.add (k * 3)).off + 1, none⟩ = some (.int .i64 id)) ((refine HK8'.out _ ?_; (repeat' (first | with_reducible assumption | with_reducible exact Fr.refl _ _ | with_reducible refine Fr.drew ?_ | with_reducible refine Fr.drewN ?_ _ | with_reducible refine Fr.alloc ?_ _)); done)) (first
                  | (go_at_call 35; refine (HRO.out _ (by repeat' (first | with_reducible assumption | with_reducible exact Fr.refl _ _ | with_reducible refine Fr.drew ?_ | with_reducible refine Fr.drewN ?_ _ | with_reducible refine Fr.alloc ?_ _))).mono ?_; rintro e x1 ⟨rfl, hf1⟩)
                  | (go_at_call 36; refine (HRR.out _ (by repeat' (first | with_reducible assumption | with_reducible exact Fr.refl _ _ | with_reducible refine Fr.drew ?_ | with_reducible refine Fr.drewN ?_ _ | with_reducible refine Fr.alloc ?_ _))).mono ?_; rintro e x2 ⟨rfl, hf2⟩)
                  | (go_at_call 34; refine (HLI.out _ (by repeat' (first | with_reducible assumption | with_reducible exact Fr.refl _ _ | with_reducible refine Fr.drew ?_ | with_reducible refine Fr.drewN ?_ _ | with_reducible refine Fr.alloc ?_ _))).mono ?_; rintro e x3 ⟨A3, c3, rfl, hv3, hf3⟩; have V3 := Lib.hid hv3; clear hv3)
                  | (go_at_call 38; refine (HRL.out _ (by repeat' (first | with_reducible assumption | with_reducible exact Fr.refl _ _ | with_reducible refine Fr.drew ?_ | with_reducible refine Fr.drewN ?_ _ | with_reducible refine Fr.alloc ?_ _))).mono ?_; rintro e x4 ⟨A4, c4, rfl, hv4, hf4, hg4⟩; have k34 := Fr.then_no (F := No) (w := x3) (by repeat' (first | with_reducible assumption | with_reducible exact Fr.refl _ _ | with_reducible refine Fr.drew ?_ | with_reducible refine Fr.drewN ?_ _ | with_reducible refine Fr.alloc ?_ _)) hg4; have SM := Lib.hid (fun X (hf : Fr No x4 X) => same_rows HWF.out (V3.out.no k34) hv4 hf hf4); clear hv4 hg4 k34 V3)
                  | (go_at_call 37; refine (SM.out _ (by repeat' (first | with_reducible assumption | with_reducible exact Fr.refl _ _ | with_reducible refine Fr.drew ?_ | with_reducible refine Fr.drewN ?_ _ | with_reducible refine Fr.alloc ?_ _))).mono ?_; rintro e x5 ⟨rfl, hf5⟩; clear SM)
                  | (go_at_call 39; refine (HWA.out _ (by repeat' (first | with_reducible assumption | with_reducible exact Fr.refl _ _ | with_reducible refine Fr.drew ?_ | with_reducible refine Fr.drewN ?_ _ | with_reducible refine Fr.alloc ?_ _))).mono ?_; rintro e x6 ⟨A6, c6, rfl, hv6, hf6⟩; have SM6 := Lib.hid (fun X (hf : Fr No x6 X) => same_ref hv6 HB9.out.ref hf hf6); clear hv6)
                  | (go_at_call 37; refine (SM6.out _ (by repeat' (first | with_reducible assumption | with_reducible exact Fr.refl _ _ | with_reducible refine Fr.drew ?_ | with_reducible refine Fr.drewN ?_ _ | with_reducible refine Fr.alloc ?_ _))).mono ?_; rintro e x7 ⟨rfl, hf7⟩))
                all_goals
                  go_wp2_with fail
                  go_roundw
                  case rel => exact ⟨k + 1, _, _, _, _, _, by go_num, by omega, HB8.out.no (by repeat' (first | with_reducible assumption | with_reducible exact Fr.refl _ _ | with_reducible refine Fr.drew ?_ | with_reducible refine Fr.drewN ?_ _ | with_reducible refine Fr.alloc ?_ _))⟩
                  case measure => simp [intOf]; omega
          · go_wp2_with (go_at_call 23; refine (works_any _).mono ?_; rintro e w' ⟨rfl, hf⟩; have Hf := Lib.hid hf; clear hf)
            go_ret
            exact ⟨rfl, HB.out.now.fr.then_no Hf.out⟩
theorem walk_SeatPlays (W : World) (v0 : Value) (x0 : Int) (h0 : (RInt .i64) W (Ahead W.heap.size) [v0] x0) (v1 : Value) (x1 : (List (Int × (Int × Int)))) (h1 : (RSl 3 (RTwo 1 (RInt .u8) (RTwo 1 (RInt .i64) (RInt .i64)))) W (Ahead W.heap.size) [v1] x1) : Calls Try.prog 8 #[v0, v1] W fun e w' => e = .returned (.bool true) ∧ Fr No W w' := by
  obtain ⟨h0, _⟩ := h0
  injection h0 with h0
  subst h0
  exact plays_any _ _ _ _ h1
end Seat
end Go.Proofs.Ytepnjmgacfjhiaa
