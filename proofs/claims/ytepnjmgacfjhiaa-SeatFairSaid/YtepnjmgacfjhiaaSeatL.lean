/- Package seat: the law SeatShifts. Printed by gen_seatl.py. -/
import Derived.Test.YtepnjmgacfjhiaaSeatK
import Derived.BigQuiet
import Derived.Deep.CutRange
import Derived.Deep.RegionHeld3
import Derived.Outline
import Derived.BigGuardPart
namespace Go.Proofs.Ytepnjmgacfjhiaa
open Go.RowKit
set_option linter.unusedVariables false
set_option linter.unusedSimpArgs false
namespace Seat
open Sls
theorem become_len (s : St) (id : Int) : (becomeR s id).2.length ≤ 2 := by
  unfold becomeR
  show ((if 0 ≤ s.wr then [(s.wr, 1)] else []) ++ [(id, (2 : Int))]).length ≤ 2
  split <;> simp
theorem next_len (s : St) : (nextR s).2.length ≤ 2 := by
  unfold nextR
  split
  · simp
  · exact become_len _ _
theorem do_len (s : St) (kd id lv : Int) : (doR s kd id lv).2.1.length ≤ 3 := by
  have hb := become_len s id
  have h1 := next_len s
  have h2 := next_len (gone s id)
  have hc : ∀ c, (comeR s id lv c).2.1.length ≤ 3 := fun c => by
    unfold comeR
    repeat' split
    all_goals simp
  have ht : ∀ c, (takeR s id c).2.1.length ≤ 3 := fun c => by
    unfold takeR
    repeat' split
    · simp
    · simp
    · show (becomeR s id).2.length ≤ 3; omega
  unfold doR
  split
  · exact hc true
  · split
    · exact hc false
    · split
      · unfold askR
        split
        · simp
        · split
          · show (becomeR s id).2.length ≤ 3; omega
          · split <;> simp
      · split
        · exact ht false
        · split
          · exact ht true
          · split
            · unfold yieldR
              repeat' split
              · simp
              · simp
              · show ((id, (1 : Int)) :: (nextR s).2).length ≤ 3; rw [List.length_cons]; omega
            · unfold leaveR
              repeat' split
              · simp
              · simp
              · show ((id, (0 : Int)) :: (nextR (gone s id)).2).length ≤ 3; rw [List.length_cons]; omega
theorem lastF_take (T : Sh) (x : Int) {i : Nat} (h : i < T.length) : lastF 0 (T.take (i + 1)) x = if T[i].1 = x then T[i].2 else lastF 0 (T.take i) x := by
  rw [List.take_succ_eq_append_getElem h, lastF_app]
  unfold lastF
  rfl
/-- All that was told so far. -/
structure Last (w wr : World) (F S : Nat → Prop) (g : Nat) (v : Value) (T : Sh) : Prop where
  own : wr.ownsRow 0 79 2 v T.length (T.flatMap encM)
  off : ∀ k, Of v k → ¬ F k ∧ ¬ S k ∧ k ≠ g
  new : ∀ k, Of v k → w.heap.size ≤ k
theorem Last.no {w wr w2 : World} {F S : Nat → Prop} {g : Nat} {v : Value} {T : Sh} (h : Last w wr F S g v T) (hf : Fr No wr w2) : Last w w2 F S g v T := ⟨own_fr2 hf h.own, h.off, h.new⟩
theorem Last.start (w wr : World) (F S : Nat → Prop) (g : Nat) : Last w wr F S g (.slice none 0 0) [] := ⟨World.ownsRow_nil _ _ _ _, fun k hk => (by cases hk), fun k hk => (by cases hk)⟩
theorem last_do {W wr wx wy : World} {F S F' S' : Nat → Prop} {b g bt : Nat} {vL' vW' v v9 : Value} {r : St × Sh × Int} {ms8 wr8 : Int} {old : Array Value} {T : Sh}
    (h : Last W wr F S g v T) (hd : DoNow wr wx F S F' S' b g bt r vL' vW' v9 ms8 wr8 old) (hf : Fr (fun k => k = g) wx wy) : Last W wy F' S' g v T := by
  have hlt : ∀ k, Of v k → k < wr.heap.size := fun k hk => own_lt h.own k hk
  refine ⟨own_fr (own_fr h.own hd.step.1 (fun k hk => (h.off k hk).1)) hf (fun k hk e => (h.off k hk).2.2 e), fun k hk => ⟨fun g1 => ?_, fun g1 => ?_, (h.off k hk).2.2⟩, h.new⟩
  · rcases hd.step.2 k g1 with g2 | g2
    · exact (h.off k hk).1 g2
    · have := hlt k hk; have := g2.1; omega
  · rcases hd.sn k g1 with g2 | g2
    · exact (h.off k hk).2.1 g2
    · have := hlt k hk; have := g2.1; omega
/-- Told more. -/
theorem last_app {W wy wq : World} {F S : Nat → Prop} {b g n k8 : Nat} {vL vW v v' : Value} {s : St} {T l : Sh} (h : Last W wy F S g v T) (hb : Both W wy F S b g vL vW s) (hn : n = T.length) (hk : k8 = l.length)
    (p1 : wq.ownsRow 0 79 2 v' (n + k8) (T.flatMap encM ++ l.flatMap encM)) (p2 : Fr (Of v) wy wq) (p3 : ∀ g, Of v' g → Of v g ∨ New wy wq g) :
    Last W wq F S g v' (T ++ l) ∧ Both W wq F S b g vL vW s := by
  have hFl : ∀ k, F k → k < wy.heap.size := hb.now.at'.lt
  have hSl : ∀ k, S k → k < wy.heap.size := hb.ref.lt
  have hgl := hb.box.lt
  subst hn hk
  refine ⟨⟨by rw [List.length_append, List.flatMap_append]; exact p1, fun k hk => ?_, fun k hk => ?_⟩, ⟨⟨hb.now.at'.fr p2 (fun k hk g1 => (h.off k g1).1 hk), hb.now.inv, hb.now.fr.trans p2 (fun k hk hl => absurd (h.new k hk) (by omega)), hb.now.new⟩, hb.ref.fr p2 (fun k hk g1 => (h.off k g1).2.1 hk), hb.sf, hb.box.fr p2 (fun g1 => (h.off g g1).2.2 rfl), hb.gn⟩⟩
  · rcases p3 k hk with g1 | g1
    · exact h.off k g1
    · have := g1.1
      exact ⟨fun g2 => by have := hFl k g2; omega, fun g2 => by have := hSl k g2; omega, by omega⟩
  · rcases p3 k hk with g1 | g1
    · exact h.new k g1
    · exact Nat.le_trans hb.now.fr.size g1.1
theorem turn_cases {s t : St} (h : Inv s) (h2 : Inv t) {wt wr8 was now : Int} {hb ib tb : Bool} (e1 : wt = s.wr) (e2 : wr8 = t.wr) (e3 : was = if 0 ≤ wt then wt else 0) (e4 : hb = decide (0 ≤ wt)) (e5 : now = if 0 ≤ wr8 then wr8 else 0) (e6 : ib = decide (0 ≤ wr8)) (e7 : tb = decide (wt ≠ wr8)) :
    ((hb != ib) = false ∧ (was != now) = false ∧ tb = false) ∨ ((hb != ib) = true ∧ tb = true) ∨ ((hb != ib) = false ∧ (was != now) = true ∧ tb = true) := by
  have c1 : wt = -1 ∨ 0 ≤ wt := by rw [e1]; exact h.wr_cases.imp (fun g => g.1) (fun g => g.1)
  have c2 : wr8 = -1 ∨ 0 ≤ wr8 := by rw [e2]; exact h2.wr_cases.imp (fun g => g.1) (fun g => g.1)
  subst e3 e4 e5 e6 e7
  clear e1 e2
  rcases c1 with rfl | c1 <;> rcases c2 with rfl | c2
  · left; simp
  · right; left; constructor
    · simp [c2]
    · simp; omega
  · right; left; constructor
    · simp [c1]
    · simp; omega
  · by_cases e : wt = wr8
    · subst e; left; simp
    · right; right
      refine ⟨by simp [c1, c2], by simp [c1, c2, e], by simp [e]⟩
theorem kind_cases {s : St} (h : Inv s) {r : St × Sh × Int} {kd id lv wt wr8 was : Int} {hb tb : Bool} (e1 : wt = s.wr) (e2 : wr8 = r.1.wr) (hr : r = doR s kd id lv) (e3 : was = if 0 ≤ wt then wt else 0) (e4 : hb = decide (0 ≤ wt)) (e7 : tb = decide (wt ≠ wr8)) (hk : 0 ≤ kd ∧ kd < 256) :
    tb = false ∨ ((kd % 7 == 1) = false ∧ (kd % 7 == 0) = true ∧ (kd % 7 == 2) = false ∧ hb = false ∧ kd % 7 < 5) ∨ ((kd % 7 == 1) = false ∧ (kd % 7 == 0) = false ∧ (kd % 7 == 2) = true ∧ hb = false ∧ kd % 7 < 5) ∨ ((kd % 7 == 1) = false ∧ (kd % 7 == 0) = false ∧ (kd % 7 == 2) = false ∧ kd % 7 < 5) ∨ ((kd % 7 == 1) = false ∧ (kd % 7 == 0) = false ∧ (kd % 7 == 2) = false ∧ 5 ≤ kd % 7 ∧ (was != id) = false) := by
  by_cases ht : wt = wr8
  · left; rw [e7]; simp [ht]
  · right
    have hc : ¬ (kd % 7 = 1 ∨ kd % 7 = 0 ∧ 0 ≤ s.wr ∨ kd % 7 = 2 ∧ 0 ≤ s.wr ∨ 5 ≤ kd % 7 ∧ wasR s ≠ id) := fun g => ht (by rw [e1, e2, hr]; exact (do_turned h kd id lv g).symm)
    have hw : wasR s = was := by rw [e3, e1]; rfl
    rw [hw, ← e1] at hc
    subst e4
    clear e1 e2 e3 e7 hr h hw
    have h7 : kd % 7 = 0 ∨ kd % 7 = 2 ∨ kd % 7 = 1 ∨ kd % 7 = 3 ∨ kd % 7 = 4 ∨ 5 ≤ kd % 7 := by omega
    rcases h7 with e | e | e | e | e | e
    · left
      have : ¬ 0 ≤ wt := fun g => hc (.inr (.inl ⟨e, g⟩))
      simp [e, this]
    · right; left
      have : ¬ 0 ≤ wt := fun g => hc (.inr (.inr (.inl ⟨e, g⟩)))
      simp [e, this]
    · exact absurd (.inl e) hc
    · right; right; left; simp [e]
    · right; right; left; simp [e]
    · right; right; right
      have : was = id := Classical.byContradiction fun g => hc (.inr (.inr (.inr ⟨e, g⟩)))
      refine ⟨?_, ?_, ?_, e, by simp [this]⟩
      all_goals
        simp
        omega
theorem fr_or {F G : Nat → Prop} {w w1 w2 : World} (h : Fr F w w1) (k : Fr G w1 w2) : Fr (fun k => F k ∨ G k) w w2 := (h.mono (fun _ h _ => .inl h)).trans (k.mono (F' := fun k => F k ∨ G k) (fun _ h _ => .inr h)) (fun _ h _ => h)
set_option maxRecDepth 100000 in
set_option maxHeartbeats 16000000 in
theorem shifts_any (v : Value) (l : List (Int × Int × Int)) (w : World) (hv : RSl 3 (RTwo 1 (RInt .u8) (RTwo 1 (RInt .i64) (RInt .i64))) w (Ahead w.heap.size) [v] l) : Calls Try.prog 7 #[v] w fun e w' => e = .returned (.bool true) ∧ Fr No w w' := by
  obtain ⟨A, cap, rfl, hc1, hc2⟩ := hv.slice
  unfold maxLen at hc2
  have HV := Lib.hid hv
  clear hv
  by_cases hbig : 60 < l.length
  · go_enter Try.func7, Try.ntmps7
    go_wp2_with (go_at_call 23; refine (works_any _).mono ?_; rintro e w' ⟨rfl, hf⟩; have Hf := Lib.hid hf; clear hf)
    go_ret
    exact ⟨rfl, Hf.out⟩
  · go_enter Try.func7, Try.ntmps7
    go_wp2_with fail
    refine (seat_yes 30 (by decide) (by decide) _).mono ?_
    intro e w0 hm
    obtain ⟨b, rfl, hn⟩ := made_now hm (by decide)
    have H0 := Lib.hid hn
    clear hm hn
    go_wp2_with fail
    refine (rnew_any 30 _).mono ?_
    rintro e w1 ⟨rfl, hf⟩
    have HB0 := Lib.hid (Both.start H0.out hf)
    clear hf
    go_upto_region 5 with (fail)
    obtain ⟨g, hg⟩ : ∃ g, g = w1.heap.size := ⟨_, rfl⟩
    rw [← hg] at HB0 ⊢
    generalize w1.alloc (.cells #[.slice none 0 0, .int .i64 30, .int .i64 (-1), .slice none 0 0] 71) = w2 at HB0 ⊢
    clear hg
    go_wp2_with fail
    go_loopw [6, 7] (fun lv iv wr => ∃ (k : Nat) (F S : Nat → Prop) (vL vW : Value) (s : St) (T : Sh) (nt cl : Nat) (Al : Option Addr), lv = .slice Al nt cl ∧ iv = .int .i64 k ∧ k ≤ l.length ∧ Hid (nt = T.length) ∧ Hid (nt ≤ 3 * k) ∧ Hid (Both w wr F S b g vL vW s) ∧ Hid (Last w wr F S g lv T) ∧ Hid (∀ x, lastF 0 T x = roleR s x)) (fun _ i _ => l.length - (intOf i).toNat)
    case atStart => exact ⟨0, _, _, _, _, _, [], 0, 0, none, rfl, rfl, by omega, rfl, Nat.zero_le _, HB0.out, Last.start _ _ _ _ _, fun x => (role_not (by simp [mem])).symm⟩
    case round =>
      obtain ⟨k, F, S, vL, vW, s, T, nt, cl, Al, rfl, rfl, hk, HNT0, HTB, HB, HL, HSAID⟩ := hrel
      have HNT := HNT0
      have hntb := HTB.out
      clear HB0 H0 HNT0
      by_cases hlt : k < l.length
      · obtain ⟨ad, rfl, hadl, hcel, hkd, hid, hlv⟩ := op_at HV.out HB.out.now.fr hlt
        obtain ⟨Ar, cr, Br, dr, rfl, rfl, hA1, hA2, hB1, hB2⟩ := HB.out.ref.forms
        obtain ⟨kd, hkdE⟩ : ∃ x, x = l[k].1 := ⟨_, rfl⟩
        obtain ⟨id, hidE⟩ : ∃ x, x = l[k].2.1 := ⟨_, rfl⟩
        obtain ⟨lv, hlvE⟩ : ∃ x, x = l[k].2.2 := ⟨_, rfl⟩
        rw [← hkdE] at hkd
        rw [← hidE] at hid
        rw [← hlvE] at hlv
        simp only [← hkdE, ← hidE, ← hlvE] at hcel
        obtain ⟨n, hn⟩ : ∃ n, n = s.L.length := ⟨_, rfl⟩
        obtain ⟨m, hm⟩ : ∃ m, m = s.q.length := ⟨_, rfl⟩
        obtain ⟨wt, hwt⟩ : ∃ wt, wt = s.wr := ⟨_, rfl⟩
        obtain ⟨ms, hms⟩ : ∃ ms, ms = s.most := ⟨_, rfl⟩
        have ag : agS (.slice Ar s.L.length cr) (.slice Br s.q.length dr) s = .agg #[.slice Ar n cr, .int .i64 ms, .int .i64 wt, .slice Br m dr] := by rw [hn, hm, hwt, hms]
        obtain ⟨r, hr⟩ : ∃ r, r = doR s kd id lv := ⟨_, rfl⟩
        obtain ⟨n8, hn8⟩ : ∃ n8, n8 = r.1.L.length := ⟨_, rfl⟩
        obtain ⟨m8, hm8⟩ : ∃ m8, m8 = r.1.q.length := ⟨_, rfl⟩
        obtain ⟨k8, hk8⟩ : ∃ k8, k8 = r.2.1.length := ⟨_, rfl⟩
        obtain ⟨wr8, hwr8⟩ : ∃ wr8, wr8 = r.1.wr := ⟨_, rfl⟩
        obtain ⟨ms8, hms8⟩ : ∃ ms8, ms8 = r.1.most := ⟨_, rfl⟩
        have hdo := fun (X : World) (hf : Fr No wr X) => do_p HB.out hf kd id lv hid hlv hkd.1 hkd.2 r hr n8 m8 k8 ms8 wr8 hn8 hm8 hk8 hms8 hwr8
        simp only [ag] at hdo
        have HDO := Lib.hid hdo
        clear hdo
        have HI := Lib.hid (show Inv r.1 by rw [hr]; exact HB.out.now.inv.do kd id lv hid hlv)
        have hbox := HB.out.box
        rw [← hn, ← hm, ← hwt, ← hms] at hbox
        have HBOX := Lib.hid hbox
        have HK := Lib.hid (fun (X : World) (hf : Fr F wr X) => (show X.cell? ⟨g, 0, none⟩ = some (.slice Ar n cr) ∧ X.cell? ⟨g, 1, none⟩ = some (.int .i64 ms) ∧ X.cell? ⟨g, 2, none⟩ = some (.int .i64 wt) ∧ X.cell? ⟨g, 3, none⟩ = some (.slice Br m dr) ∧ X.cell? (ad.add (k * 3)) = some (.int .u8 kd) ∧ X.cell? ⟨(ad.add (k * 3)).block, (ad.add (k * 3)).off + 1, none⟩ = some (.int .i64 id) ∧ X.cell? ⟨(ad.add (k * 3)).block, (ad.add (k * 3)).off + 2, none⟩ = some (.int .i64 lv) from by
          have hb := hbox.fr hf HB.out.gn.2.1
          have hc := hcel F X hf HB.out.now.new
          exact ⟨hb.cell 0, hb.cell 1, hb.cell 2, hb.cell 3, hc.1, hc.2.1, hc.2.2⟩))
        have HCEL := Lib.hid hcel
        have HKD := Lib.hid hkd
        have HR := Lib.hid hr
        have HN8 := Lib.hid hn8
        have HM8 := Lib.hid hm8
        have HK8 := Lib.hid hk8
        have HWR8 := Lib.hid hwr8
        have HMS8 := Lib.hid hms8
        have HWT := Lib.hid hwt
        have HKE := Lib.hid (And.intro hkdE (And.intro hidE hlvE))
        have HID := Lib.hid (And.intro hid hlv)
        have HA := Lib.hid (And.intro hA1 (And.intro hA2 (And.intro hB1 hB2)))
        clear ag hn hm hwt hms hr hn8 hm8 hk8 hwr8 hms8 hbox hcel hkd hid hlv hkdE hidE hlvE hA1 hA2 hB1 hB2
        have HKD2 := Lib.hid (And.intro HKD.out.1 HKD.out.2)
        have HLT := Lib.hid (show k8 ≤ 3 by rw [HK8.out, HR.out]; exact do_len s kd id lv)
        have w1c := writer_any HB.out.now.at' HB.out.now.inv
        rw [← HWT.out] at w1c
        obtain ⟨was, hwas⟩ : ∃ x, x = (if 0 ≤ wt then wt else 0) := ⟨_, rfl⟩
        obtain ⟨hb, hhb⟩ : ∃ x, x = decide (0 ≤ wt) := ⟨_, rfl⟩
        obtain ⟨now, hnow⟩ : ∃ x, x = (if 0 ≤ wr8 then wr8 else 0) := ⟨_, rfl⟩
        obtain ⟨ib, hib⟩ : ∃ x, x = decide (0 ≤ wr8) := ⟨_, rfl⟩
        rw [← hwas, ← hhb] at w1c
        have W1C := Lib.hid w1c
        obtain ⟨tb, htb⟩ : ∃ x, x = decide (wt ≠ wr8) := ⟨_, rfl⟩
        have HTU := Lib.hid (turn_cases HB.out.now.inv HI.out HWT.out HWR8.out hwas hhb hnow hib htb)
        have HKC := Lib.hid (kind_cases HB.out.now.inv (kd := kd) (id := id) (lv := lv) HWT.out HWR8.out HR.out hwas hhb htb HKD.out)
        have HNW := Lib.hid (And.intro hnow hib)
        clear w1c hwas hhb hnow hib htb
        go_wp2_with fail
        refine W1C.out.mono ?_
        rintro e wz0 ⟨rfl, hwz⟩
        subst hwz
        go_upto_region 12 with (fail)
        go_cut [10, 11, 12] from 43 to 54 (fun p u o wx => ∃ (F' S' : Nat → Prop) (bt c8 d8 c9 : Nat) (A8 B8 A9 : Option Addr), p = .pointer (some ⟨bt, 0, none⟩) ∧ u = .slice A9 k8 c9 ∧ o = .bool true ∧ Hid (DoNow wr wx F S F' S' b g bt r (.slice A8 n8 c8) (.slice B8 m8 d8) (.slice A9 k8 c9) ms8 wr8 #[.slice Ar s.L.length cr, .int .i64 s.most, .int .i64 s.wr, .slice Br s.q.length dr]))
        case first =>
          obtain ⟨x0, x1, x2, x3, x4, x5, x6⟩ := HK.out wr (Fr.refl _ _)
          go_region_held3 (fun X => X.cell? ⟨g, 0, none⟩ = some (.slice Ar n cr) ∧ X.cell? ⟨g, 1, none⟩ = some (.int .i64 ms) ∧ X.cell? ⟨g, 2, none⟩ = some (.int .i64 wt) ∧ X.cell? ⟨g, 3, none⟩ = some (.slice Br m dr) ∧ X.cell? (ad.add (k * 3)) = some (.int .u8 kd) ∧ X.cell? ⟨(ad.add (k * 3)).block, (ad.add (k * 3)).off + 1, none⟩ = some (.int .i64 id) ∧ X.cell? ⟨(ad.add (k * 3)).block, (ad.add (k * 3)).off + 2, none⟩ = some (.int .i64 lv)) ((refine HK.out _ ?_; (repeat' (first | with_reducible assumption | with_reducible exact Fr.refl _ _ | with_reducible refine Fr.drew ?_ | with_reducible refine Fr.drewN ?_ _ | with_reducible refine Fr.alloc ?_ _ | with_reducible refine Fr.setCell ?_ (.inr ?_) _ | exact Nat.le_refl _)); done)) (first | (go_at_call 33; refine (HDO.out _ (by repeat' (first | with_reducible assumption | with_reducible exact Fr.refl _ _ | with_reducible refine Fr.drew ?_ | with_reducible refine Fr.drewN ?_ _ | with_reducible refine Fr.alloc ?_ _))).mono ?_; rintro e w8 ⟨F', S', A8, c8, B8, d8, A9, c9, rfl, hq, hk8⟩; (first | (have hb7 := (Blk.new wr 71 #[.slice none 0 0, .int .i64 0, .int .i64 0, .slice none 0 0]).fr hq.step.1 (fun h => by have := HB.out.now.at'.lt _ h; omega); have y0 := hb7.cell 0; have y1 := hb7.cell 1; have y2 := hb7.cell 2; have y3 := hb7.cell 3; have yf0 := hb7.frozen 0; have yf1 := hb7.frozen 1; have yf2 := hb7.frozen 2; have yf3 := hb7.frozen 3; simp only [List.getElem?_toArray, List.getElem?_cons_zero, List.getElem?_cons_succ] at y0 y1 y2 y3;  have HB7 := Lib.hid hb7; clear hb7) | (have hb7 := Blk.fr (w := (wr.alloc (.cells #[.slice none 0 0, .int .i64 0, .int .i64 0, .slice none 0 0] 71)).drew) (show Blk ((wr.alloc (.cells #[.slice none 0 0, .int .i64 0, .int .i64 0, .slice none 0 0] 71)).drew) wr.heap.size 71 #[.slice none 0 0, .int .i64 0, .int .i64 0, .slice none 0 0] from Blk.new wr 71 #[.slice none 0 0, .int .i64 0, .int .i64 0, .slice none 0 0]) hq.step.1 (fun h => by have := HB.out.now.at'.lt _ h; omega); have y0 := hb7.cell 0; have y1 := hb7.cell 1; have y2 := hb7.cell 2; have y3 := hb7.cell 3; have yf0 := hb7.frozen 0; have yf1 := hb7.frozen 1; have yf2 := hb7.frozen 2; have yf3 := hb7.frozen 3; simp only [List.getElem?_toArray, List.getElem?_cons_zero, List.getElem?_cons_succ] at y0 y1 y2 y3;  have HB7 := Lib.hid hb7; clear hb7) | skip); have HQ := Lib.hid hq; clear hq))
          · go_wp2_with fail
            go_meet
            case rel => exact ⟨_, _, _, _, _, _, _, _, _, rfl, rfl, rfl, do_after HB.out HQ.out (by repeat' (first | with_reducible assumption | with_reducible exact Fr.refl _ _ | with_reducible refine Fr.drew ?_ | with_reducible refine Fr.drewN ?_ _ | with_reducible refine Fr.alloc ?_ _))⟩
          · go_wp2_with fail
            go_meet
            case rel => exact ⟨_, _, _, _, _, _, _, _, _, rfl, rfl, rfl, do_before HB.out HQ.out (by repeat' (first | with_reducible assumption | with_reducible exact Fr.refl _ _ | with_reducible refine Fr.drew ?_ | with_reducible refine Fr.drewN ?_ _ | with_reducible refine Fr.alloc ?_ _)) (by show wr.heap.size < (wr.alloc _).heap.size; simp) HB7.out⟩
        case rest =>
          obtain ⟨F', S', bt, c8, d8, c9, A8, B8, A9, rfl, rfl, rfl, HN⟩ := hcut
          obtain ⟨wx, hwx⟩ : ∃ wx, wx = wc := ⟨_, rfl⟩
          subst hwx
          have tbo := HN.out.tb
          have gbo := HN.out.gb
          have r0 := tbo.cell 0
          have r1 := tbo.cell 1
          have r2 := tbo.cell 2
          have r3 := tbo.cell 3
          have rf0 := tbo.frozen 0
          have rf1 := tbo.frozen 1
          have rf2 := tbo.frozen 2
          have rf3 := tbo.frozen 3
          simp only [List.getElem?_toArray, List.getElem?_cons_zero, List.getElem?_cons_succ] at r0 r1 r2 r3
          have s0 := gbo.cell 0
          have s1 := gbo.cell 1
          have s2 := gbo.cell 2
          have s3 := gbo.cell 3
          have sf0 := gbo.frozen 0
          have sf1 := gbo.frozen 1
          have sf2 := gbo.frozen 2
          have sf3 := gbo.frozen 3
          simp only [List.getElem?_toArray, List.getElem?_cons_zero, List.getElem?_cons_succ] at s0 s1 s2 s3
          clear tbo gbo
          go_upto_region 14 with (fail)
          have hl := do_laid HB.out HN.out HI.out HMS8.out HWR8.out
          have FW := Lib.hid HN.out.step
          have RN := Lib.hid HN.out.rn
          clear r0 r1 r2 r3 rf0 rf1 rf2 rf3 s0 s1 s2 s3 sf0 sf1 sf2 sf3
          generalize ((((wx.setCell ⟨g, 0, none⟩ (.slice A8 n8 c8)).setCell ⟨g, 1, none⟩ (.int .i64 ms8)).setCell ⟨g, 2, none⟩ (.int .i64 wr8)).setCell ⟨g, 3, none⟩ (.slice B8 m8 d8)) = wy at hl ⊢
          have HB8 := Lib.hid hl.1
          have FG := Lib.hid hl.2.1
          have ROW := Lib.hid hl.2.2
          have FY := Lib.hid (fr_both FW.out.1 FG.out)
          have FYN := Lib.hid (fun k (hk : F k ∨ k = g) => hk.elim (HB.out.now.new k) (fun e => (by rw [e]; exact HB.out.gn.1 : w.heap.size ≤ k)))
          have HLL := Lib.hid (last_do HL.out HN.out hl.2.1)
          clear hl HN
          have HB9 := HB8
          obtain ⟨wo, hwo⟩ : ∃ wo, wo = wr := ⟨_, rfl⟩
          subst hwo
          have NW := Lib.hid (own_news (B := A9) (m := k8) (c := c9) ROW.out (by decide))
          have HFL := Lib.hid (show (r.2.1.flatMap encM).length = k8 * 2 by rw [fm2, HK8.out])
          have OL := Lib.hid (show wy.ownsRow 0 79 2 (.slice Al nt cl) nt (T.flatMap encM) from by have := HLL.out.own; rw [← HNT.out] at this; exact this)
          have hlt3 := HLT.out
          go_wp2_with (at_builtin; go_loud (refine wp_app (B := A9) (m := k8) (c := c9) (news := r.2.1.flatMap encM) rfl (.tmp 55) (.tmp 56) 61 rfl 79 (.agg #[.int .i64 0, .int .i64 0]) 2 16 Try.underlying61 infoH rfl (by decide) (.slice Al nt cl) nt _ rfl (OL.out) rfl HFL.out NW.out (encM_one _) (by omega) (by unfold maxLen; omega) ?_; intro v4 wq p1 p2 p3; obtain ⟨Aq, cq, rfl⟩ := own_form p1; have hla := last_app (l := r.2.1) HLL.out HB8.out HNT.out HK8.out p1 p2 p3; have HLQ := Lib.hid hla.1; have HBQ := Lib.hid hla.2; have P2 := Lib.hid p2; clear p1 p2 p3 hla))
          have w2c := writer_any HBQ.out.now.at' HI.out
          rw [← HWR8.out, ← HNW.out.1, ← HNW.out.2] at w2c
          have W2C := Lib.hid w2c
          clear w2c hlt3
          refine W2C.out.mono ?_
          rintro e wz1 ⟨rfl, hwz⟩
          subst hwz
          have hcq := HCEL.out (fun k => (F k ∨ k = g) ∨ Of (.slice Al nt cl) k) wq (fr_or FY.out P2.out) (fun k hk => hk.elim (FYN.out k) (HLL.out.new k))
          have u0 := hcq.1
          have u1 := hcq.2.1
          clear hcq
          go_upto_region 16 with (fail)
          go_cut [15] from 63 to 71 (fun t wx => t = .bool tb ∧ wx = wq)
          case first =>
            have htu := HTU.out
            clear HTU
            cases hb <;> cases ib
            all_goals
              rcases htu with ⟨h1, h2, rfl⟩ | ⟨h1, rfl⟩ | ⟨h1, h2, rfl⟩
              all_goals first
                | (exact absurd h1 (by decide))
                | (clear h1; go_wp2_with fail; go_meet; case rel => exact ⟨rfl, rfl⟩)
          case rest =>
            obtain ⟨rfl, hwc⟩ := hcut
            subst hwc
            obtain ⟨wq, hq⟩ : ∃ q, q = wc := ⟨_, rfl⟩
            subst hq
            have hk1 := HKD.out.1
            have hk2 := HKD.out.2
            go_upto_region 18 with (fail)
            go_cut [108] from 77 to 108 (fun t wx => t = .bool false ∧ wx = wq)
            case first =>
              have hkc := HKC.out
              clear HKC
              cases tb
              · clear hkc
                go_wp2_with fail
                go_meet
                case rel => exact ⟨rfl, rfl⟩
              · rcases hkc with h0 | ⟨h1, h2, h3, rfl, h5⟩ | ⟨h1, h2, h3, rfl, h5⟩ | ⟨h1, h2, h3, h4⟩ | ⟨h1, h2, h3, h4, h5⟩
                · exact absurd h0 (by decide)
                all_goals
                  go_wp2_with fail
                  all_goals first
                    | (exfalso; omega)
                    | (go_meet; case rel => exact ⟨rfl, rfl⟩)
            case rest =>
              obtain ⟨rfl, hwc⟩ := hcut
              subst hwc
              clear u0 u1
              obtain ⟨mb, hmb⟩ : ∃ mb, mb = (r.1.L.map (·.1)) := ⟨_, rfl⟩
              have HMN := Lib.hid (show n8 = mb.length by rw [hmb, List.length_map]; exact HN8.out)
              have HWF := Lib.hid (show ∀ y ∈ mb, (Lit.int .i64 y).wf = true by rw [hmb]; exact members_wf HI.out)
              have hlm : n8 ≤ 4096 := by have := HN8.out; have := HI.out.len; have := HI.out.most; omega
              obtain ⟨T2, hT2⟩ : ∃ T2, T2 = T ++ r.2.1 := ⟨_, rfl⟩
              have hla := HLQ.out
              obtain ⟨n2, hn2⟩ : ∃ n2, n2 = nt + k8 := ⟨_, rfl⟩
              rw [← hT2, ← hn2] at hla
              have HLA := Lib.hid hla
              have HN2 := Lib.hid (show n2 = T2.length by rw [hT2, List.length_append, hn2, HNT.out, HK8.out])
              have HSD := Lib.hid (show ∀ x, lastF 0 T2 x = roleR r.1 x from fun x => by
                have h1 := do_said HB.out.now.inv kd id lv HID.out.1 HID.out.2 x
                rw [← HR.out, ← HSAID.out x, ← lastF_app, ← hT2] at h1
                exact h1)
              have hli := list_any HBQ.out.now.at' HI.out
              rw [← hmb] at hli
              have HLI := Lib.hid (hli.mono (fun e w' h => ipost (n := n8) HMN.out h (Fr.refl _ _)))
              rw [← hn2]
              have hn2l : n2 ≤ 200 := by have := HLT.out; have := HTB.out; omega
              have HN2E := Lib.hid hn2
              clear hmb hli hla hT2 hn2
              go_wp2_with fail
              refine HLI.out.mono ?_
              rintro e wz ⟨A3, c3, rfl, hv3, hf3⟩
              have V3 := Lib.hid hv3
              have HZ := Lib.hid (HBQ.out.no hf3)
              have HLZ := Lib.hid (HLA.out.no hf3)
              clear hv3 hf3
              go_wp2_with fail
              go_loopw [18] (fun j wi => ∃ (i : Nat), j = .int .i64 i ∧ i ≤ n8 ∧ Hid (Fr No wz wi)) (fun j _ => n8 - (intOf j).toNat)
              case atStart => exact ⟨0, rfl, Nat.zero_le _, Fr.refl _ _⟩
              case round =>
                obtain ⟨i, rfl, hi, HFI⟩ := hrel
                by_cases hlti : i < n8
                · have hlm2 : i < mb.length := by have := HMN.out; omega
                  obtain ⟨x, hx⟩ : ∃ x, x = mb[i] := ⟨_, rfl⟩
                  obtain ⟨ad3, hAd, hb3, hcl⟩ := irow_at V3.out HWF.out hlm2
                  rw [← hx] at hcl
                  subst hAd
                  have HADX := Lib.hid (fun (X : World) (hf : Fr No wz X) => (hf.cell (p := ad3.add i) (by rw [block_add]; exact hb3) (fun h => h)).trans hcl)
                  clear hx hb3 hcl hlm2
                  obtain ⟨wj, hwj⟩ : ∃ wj, wj = wr := ⟨_, rfl⟩
                  subst hwj
                  go_wp2_with fail
                  go_loopw [19, 20] (fun ro j wi => ∃ (i2 : Nat), j = .int .i64 i2 ∧ i2 ≤ n2 ∧ Hid (ro = .int .i64 (lastF 0 (T2.take i2) x) ∧ Fr No wz wi)) (fun _ j _ => n2 - (intOf j).toNat)
                  case atStart => exact ⟨0, rfl, Nat.zero_le _, rfl, HFI.out⟩
                  case round =>
                    obtain ⟨i2, rfl, hi2, HC⟩ := hrel
                    obtain ⟨la, hla⟩ : ∃ y, y = lastF 0 (T2.take i2) x := ⟨_, rfl⟩
                    have hcc := HC.out
                    rw [← hla] at hcc
                    obtain ⟨rfl, hfj⟩ := hcc
                    have HLAE := Lib.hid hla
                    have HFJ := Lib.hid hfj
                    clear HC hla hfj
                    by_cases hltj : i2 < n2
                    · have hlt2 : i2 < T2.length := by have := HN2.out; omega
                      obtain ⟨ad4, hA4, hb4, e0, e1⟩ := mem_at (fun _ _ _ _ h => h) (own_rm HLZ.out.own) (own_lt HLZ.out.own) HFJ.out hlt2
                      subst hA4
                      have htk := lastF_take T2 x hlt2
                      obtain ⟨p, hp⟩ : ∃ p, p = T2[i2].1 := ⟨_, rfl⟩
                      obtain ⟨q, hq⟩ : ∃ q, q = T2[i2].2 := ⟨_, rfl⟩
                      rw [← hp] at e0 htk
                      rw [← hq] at e1 htk
                      have a0 := HADX.out _ HFJ.out
                      have HTK := Lib.hid htk
                      clear htk hp hq hlt2
                      by_cases hpx : p = x
                      · have hpb : (p == x) = true := by simpa using hpx
                        have hT : Hid (lastF 0 (T2.take (i2 + 1)) x = q) := by rw [HTK.out, if_pos hpx]; exact rfl
                        clear hpx
                        go_wp2_with fail
                        go_quiet (fail)
                        all_goals
                          go_wp2_with fail
                          go_roundw
                          case rel => exact ⟨i2 + 1, by go_num, by omega, by rw [hT.out], by first | exact HFJ.out | exact HFJ.out.drew | exact HFJ.out.drewN _⟩
                          case measure => simp [intOf]; omega
                      · have hpb : (p == x) = false := by simpa using hpx
                        have hT : Hid (lastF 0 (T2.take (i2 + 1)) x = la) := by rw [HTK.out, if_neg hpx, ← HLAE.out]; exact rfl
                        clear hpx
                        go_wp2_with fail
                        go_quiet (fail)
                        all_goals
                          go_wp2_with fail
                          go_roundw
                          case rel => exact ⟨i2 + 1, by go_num, by omega, by rw [hT.out], by first | exact HFJ.out | exact HFJ.out.drew | exact HFJ.out.drewN _⟩
                          case measure => simp [intOf]; omega
                    · have hT : la = roleR r.1 x := by rw [HLAE.out, List.take_of_length_le (by have := HN2.out; omega)]; exact HSD.out x
                      have hro := role_any (HZ.out.now.at'.no HFJ.out) x
                      rw [← hT] at hro
                      have HRO := Lib.hid hro
                      have a0 := HADX.out _ HFJ.out
                      have hneq : (la != la) = false := by simp
                      clear hro hT
                      go_wp2_with fail
                      refine HRO.out.mono ?_
                      rintro e x1 ⟨rfl, hf1⟩
                      go_wp2_with fail
                      go_roundw
                      case rel => exact ⟨i + 1, by go_num, by omega, HFJ.out.then_no hf1⟩
                      case measure => simp [intOf]; omega
                · go_wp2_with fail
                  go_roundw
                  case rel => exact ⟨k + 1, _, _, _, _, _, T2, n2, _, _, rfl, by go_num, by omega, HN2.out, (show n2 ≤ 3 * (k + 1) by have := HLT.out; have := HTB.out; have := HN2E.out; omega), HZ.out.no HFI.out, HLZ.out.no HFI.out, HSD.out⟩
                  case measure => simp [intOf]; omega
      · go_wp2_with (go_at_call 23; refine (works_any _).mono ?_; rintro e w' ⟨rfl, hf⟩; have Hf := Lib.hid hf; clear hf)
        go_ret
        exact ⟨rfl, HB.out.now.fr.then_no Hf.out⟩
theorem walk_SeatShifts (W : World) (v0 : Value) (x0 : (List (Int × (Int × Int)))) (h0 : (RSl 3 (RTwo 1 (RInt .u8) (RTwo 1 (RInt .i64) (RInt .i64)))) W (Ahead W.heap.size) [v0] x0) : Calls Try.prog 7 #[v0] W fun e w' => e = .returned (.bool true) ∧ Fr No W w' := shifts_any _ _ _ h0
end Seat
end Go.Proofs.Ytepnjmgacfjhiaa
