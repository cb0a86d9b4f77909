/- Statement LineRetries of package line. Printed by gen_lnb.py. -/
import Derived.Test.YtnfkkonmhinlcaaLnE
import Derived.Deep.RegionHeld3
namespace Go.Proofs.Ytnfkkonmhinlcaa
open Go.RowKit
set_option linter.unusedVariables false
set_option linter.unusedSimpArgs false
namespace Ln
open Run (O ROp timesR endsR dueT nextT chk chkR Fit)
/-- The console's box, the steps that are sent first, and the line. -/
structure RT (W w : World) (G : Nat → Prop) (g bx : Nat) (cs : Array Value) (vo : Value) (L : List O) (s : S) : Prop where
  now : Now W w G g s
  box : Blk w bx 29 cs
  bg : ¬ G bx
  ops : OpsRow w G vo L
theorem RT.step {W w w' : World} {G G' : Nat → Prop} {g bx : Nat} {cs : Array Value} {vo : Value} {L : List O} {s s' : S} (h : RT W w G g bx cs vo L s) (ha : LW w' G' g s') (hs : Step G w G' w') : RT W w' G' g bx cs vo L s' :=
  ⟨h.now.step ha hs, h.box.fr hs.1 h.bg, fun e => (hs.2 bx e).elim h.bg (fun e => by have := h.box.lt; have := e.1; omega), h.ops.step hs⟩
theorem RT.no {W w w' : World} {G : Nat → Prop} {g bx : Nat} {cs : Array Value} {vo : Value} {L : List O} {s : S} (h : RT W w G g bx cs vo L s) (hf : Fr No w w') : RT W w' G g bx cs vo L s :=
  ⟨h.now.no hf, h.box.fr hf (fun h => h), h.bg, h.ops.no hf⟩
theorem RT.act {W w w' : World} {G : Nat → Prop} {g bx : Nat} {cs : Array Value} {vo : Value} {L : List O} {s s' : S} {l : List U} {e : Ending} {f : Value → Value} (h : RT W w G g bx cs vo L s) (ha : LAct w G g s' l f e w') : ∃ v G', e = .returned (f v) ∧ RT W w' G' g bx cs vo L s' ∧ Row w' G' v l := by
  obtain ⟨v, G', h1, h2, ⟨h3, h4⟩, h5⟩ := ha
  exact ⟨v, G', h1, h.step h2 h5, ⟨h3, fun k hk => ⟨(h4 k hk).1.2, (h4 k hk).2⟩⟩⟩
set_option maxRecDepth 100000 in
set_option maxHeartbeats 8000000 in
theorem retries_any (nm t : Str) (k1 k2 k3 k4 k5 b c j fails r start : Int) (hfa : 0 ≤ fails ∧ fails ≤ 255) (hr : -9223372036854775808 ≤ r ∧ r ≤ 9223372036854775807) (hst : 0 ≤ start ∧ start ≤ 4294967295) (W : World) :
    Calls Try.prog 5 #[.agg #[.string ⟨nm.toArray⟩, .int .i64 k1, .int .i64 k2, .int .i64 k3, .int .i64 k4, .int .i64 k5, .int .i64 b, .int .i64 c, .int .i64 j, .string ⟨t.toArray⟩], .int .u8 fails, .int .i64 r, .int .u32 start] W fun e w' => e = .returned (.bool true) ∧ Fr No W w' := by
  have XB := Lib.hid (Blk.new W 29 #[.string ⟨nm.toArray⟩, .int .i64 k1, .int .i64 k2, .int .i64 k3, .int .i64 k4, .int .i64 k5, .int .i64 b, .int .i64 c, .int .i64 j, .string ⟨t.toArray⟩])
  have F1 := Lib.hid ((Fr.refl No W).alloc (.cells #[.string ⟨nm.toArray⟩, .int .i64 k1, .int .i64 k2, .int .i64 k3, .int .i64 k4, .int .i64 k5, .int .i64 b, .int .i64 c, .int .i64 j, .string ⟨t.toArray⟩] 29))
  obtain ⟨bx, hbx⟩ : ∃ bx, W.heap.size = bx := ⟨_, rfl⟩
  have HBX := Lib.hid hbx
  have XB := Lib.hid (show Blk _ bx _ _ by rw [← hbx]; exact XB.out)
  by_cases hq : (newS b c j t).2 = 0
  rotate_left
  · have hz := newS_zero hq
    obtain ⟨q, hqq⟩ : ∃ q, q = (newS b c j t).2 := ⟨_, rfl⟩
    rw [← hqq] at hq hz
    have HZ := Lib.hid hz
    have HQ := Lib.hid hq
    clear hz hqq hq
    go_enter Try.func5, Try.ntmps5
    go_upto_region 1 with (fail)
    generalize W.alloc (.cells #[.string ⟨nm.toArray⟩, .int .i64 k1, .int .i64 k2, .int .i64 k3, .int .i64 k4, .int .i64 k5, .int .i64 b, .int .i64 c, .int .i64 j, .string ⟨t.toArray⟩] 29) = w1 at XB F1 ⊢
    clear hbx
    have xo := XB.out
    have x0 := xo.cell 0
    have xf0 := xo.frozen 0
    have x1 := xo.cell 1
    have xf1 := xo.frozen 1
    have x2 := xo.cell 2
    have xf2 := xo.frozen 2
    have x3 := xo.cell 3
    have xf3 := xo.frozen 3
    have x4 := xo.cell 4
    have xf4 := xo.frozen 4
    have x5 := xo.cell 5
    have xf5 := xo.frozen 5
    have x6 := xo.cell 6
    have xf6 := xo.frozen 6
    have x7 := xo.cell 7
    have xf7 := xo.frozen 7
    have x8 := xo.cell 8
    have xf8 := xo.frozen 8
    have x9 := xo.cell 9
    have xf9 := xo.frozen 9
    simp only [List.getElem?_toArray, List.getElem?_cons_zero, List.getElem?_cons_succ] at x0 x1 x2 x3 x4 x5 x6 x7 x8 x9
    clear xo
    go_wp2_with (first | (go_at_call 7; refine (new_any nm t k1 k2 k3 k4 k5 b c j _).mono ?_; intro e w2 hm; rw [HZ.out] at hm; obtain ⟨rfl, hf⟩ := new_not hm HQ.out; have F2 := Lib.hid (F1.out.then_no hf); clear hm hf) | (go_at_call 6; refine (works_any _).mono ?_; rintro e w' ⟨rfl, hf⟩; have Hf := Lib.hid hf; clear hf))
    go_ret
    exact ⟨rfl, F2.out.then_no Hf.out⟩
  have hk0 := newS_ok hq
  obtain ⟨L, hz, hrd, hrule, htl⟩ := newS_more hq
  have HZ := Lib.hid hz
  have HRD := Lib.hid hrd
  have HRU := Lib.hid hrule
  have HRO := Lib.hid (show Brk.ReadOk L by have := Brk.read_ok t; rw [hrd] at this; exact this)
  obtain ⟨kk1, kk2, kk3, kk4, kk5, kk6⟩ := Backoff.ok_iff.1 hrule
  rw [hz] at hk0
  have HK0 := Lib.hid hk0
  have h6 : decide (255 < (t.length : Int)) = false := decide_eq_false (by omega)
  clear hz hq hk0 hrd hrule
  go_enter Try.func5, Try.ntmps5
  go_upto_region 1 with (fail)
  generalize W.alloc (.cells #[.string ⟨nm.toArray⟩, .int .i64 k1, .int .i64 k2, .int .i64 k3, .int .i64 k4, .int .i64 k5, .int .i64 b, .int .i64 c, .int .i64 j, .string ⟨t.toArray⟩] 29) = w1 at XB F1 ⊢
  clear hbx
  have xo := XB.out
  have x0 := xo.cell 0
  have xf0 := xo.frozen 0
  have x1 := xo.cell 1
  have xf1 := xo.frozen 1
  have x2 := xo.cell 2
  have xf2 := xo.frozen 2
  have x3 := xo.cell 3
  have xf3 := xo.frozen 3
  have x4 := xo.cell 4
  have xf4 := xo.frozen 4
  have x5 := xo.cell 5
  have xf5 := xo.frozen 5
  have x6 := xo.cell 6
  have xf6 := xo.frozen 6
  have x7 := xo.cell 7
  have xf7 := xo.frozen 7
  have x8 := xo.cell 8
  have xf8 := xo.frozen 8
  have x9 := xo.cell 9
  have xf9 := xo.frozen 9
  simp only [List.getElem?_toArray, List.getElem?_cons_zero, List.getElem?_cons_succ] at x0 x1 x2 x3 x4 x5 x6 x7 x8 x9
  clear xo
  go_upto_region 7 with (first | (go_at_call 7; refine (new_any nm t k1 k2 k3 k4 k5 b c j _).mono ?_; intro e w2 hm; rw [HZ.out] at hm; obtain ⟨g, G0, rfl, hn⟩ := new_now hm rfl; have F2 := Lib.hid (F1.out.then_no hn.fr); have XB2 := Lib.hid (XB.out.fr hn.fr (fun h => h)); have N2 := Lib.hid hn; clear hm hn; clear x0 xf0 x1 xf1 x2 xf2 x3 xf3 x4 xf4 x5 xf5 x6 xf6 x7 xf7 x8 xf8 x9 xf9; have xo := XB2.out; have x0 := xo.cell 0; have xf0 := xo.frozen 0; have x1 := xo.cell 1; have xf1 := xo.frozen 1; have x2 := xo.cell 2; have xf2 := xo.frozen 2; have x3 := xo.cell 3; have xf3 := xo.frozen 3; have x4 := xo.cell 4; have xf4 := xo.frozen 4; have x5 := xo.cell 5; have xf5 := xo.frozen 5; have x6 := xo.cell 6; have xf6 := xo.frozen 6; have x7 := xo.cell 7; have xf7 := xo.frozen 7; have x8 := xo.cell 8; have xf8 := xo.frozen 8; have x9 := xo.cell 9; have xf9 := xo.frozen 9; simp only [List.getElem?_toArray, List.getElem?_cons_zero, List.getElem?_cons_succ] at x0 x1 x2 x3 x4 x5 x6 x7 x8 x9; clear xo) | (go_at_call 22; refine (Brk.rread_any t (by omega) _).mono ?_; rintro e w3 ⟨vo, rfl, hg⟩; rw [HRD.out] at hg ⊢; obtain ⟨A9, c9, hvo⟩ := hg.form; subst hvo; obtain ⟨n9, hn9⟩ : ∃ n9, n9 = L.length := ⟨_, rfl⟩; simp only at hg ⊢; rw [← hn9] at hg ⊢; have HN9 := Lib.hid hn9; have GR := Lib.hid hg; have F3 := Lib.hid hg.fr; clear hg hn9))
  have RT0 := Lib.hid (show RT W w3 G0 g bx #[.string ⟨nm.toArray⟩, .int .i64 k1, .int .i64 k2, .int .i64 k3, .int .i64 k4, .int .i64 k5, .int .i64 b, .int .i64 c, .int .i64 j, .string ⟨t.toArray⟩] (.slice A9 n9 c9) L ⟨b, c, j, 0, 0, 0, L, [], 0, 0, []⟩ from by
    have a := F1.out.size
    have b2 := N2.out.fr.size
    refine ⟨⟨(N2.out.no F3.out).at', F2.out.then_no F3.out, fun k hk => Nat.le_trans a (N2.out.new k hk)⟩, XB2.out.fr F3.out (fun h => h), fun hg => by have := N2.out.new _ hg; have := XB.out.lt; omega, ?_, fun k hk => ⟨(GR.out.new k hk).2, fun hg => by have := N2.out.at'.lt k hg; have := (GR.out.new k hk).1; omega⟩⟩
    have := GR.out.own
    rw [HN9.out] at this ⊢
    exact this)
  clear XB2 N2 F2 F3 GR
  clear x0 xf0 x1 xf1 x2 xf2 x3 xf3 x4 xf4 x5 xf5 x6 xf6 x7 xf7 x8 xf8 x9 xf9
  have SA := Lib.hid (start_any RT0.out.now.at')
  go_wp2_with fail
  refine SA.out.mono ?_
  intro e w4 ht
  rw [show startS ⟨b, c, j, 0, 0, 0, L, [], 0, 0, []⟩ = (⟨b, c, j, 2, 0, 0, L, [], 0, 0, []⟩, [(1, [])]) from rfl] at ht
  obtain ⟨v4, G4, rfl, hrt, hrow⟩ := RT0.out.act ht
  have RT4 := Lib.hid hrt
  have ROW4 := Lib.hid hrow
  have HK4 := Lib.hid (show Ok (⟨b, c, j, 2, 0, 0, L, [], 0, 0, []⟩ : S) 0 from by have := HK0.out.start; exact this)
  clear ht hrt hrow RT0 SA
  go_wp2_with fail
  go_loopw [14, 15, 16] (fun nv ov iv wr => ∃ (k : Nat) (now : Int), iv = .int .i64 k ∧ nv = .int .i64 now ∧ (k : Int) ≤ fails % 30 ∧ 0 ≤ now ∧ now ≤ 4294967295 + 90000 * k ∧ Hid (∃ s G, RT W wr G g bx #[.string ⟨nm.toArray⟩, .int .i64 k1, .int .i64 k2, .int .i64 k3, .int .i64 k4, .int .i64 k5, .int .i64 b, .int .i64 c, .int .i64 j, .string ⟨t.toArray⟩] (.slice A9 n9 c9) L s ∧ Row wr G ov [(1, [])] ∧ Ok s k ∧ Fails b c j L k s)) (fun _ _ i _ => 30 - (intOf i).toNat)
  case atStart => exact ⟨0, start, rfl, rfl, by omega, by omega, by omega, ⟨_, _, RT4.out, ROW4.out, HK4.out, ⟨rfl, rfl, rfl, rfl, rfl, rfl, rfl⟩⟩⟩
  case round =>
    obtain ⟨k, now, rfl, rfl, hk, hn1, hn2, hrel⟩ := hrel
    by_cases hlt : (k : Int) < fails % 30
    · obtain ⟨s, G, hrt, hrow, hok, hfl⟩ := hrel.out
      clear hrel
      obtain ⟨go, co, rfl, ho0, ho1⟩ := row_one hrow
      have RT5 := Lib.hid hrt
      have HOK := Lib.hid hok
      have HFL := Lib.hid hfl
      have hl : lateI now = false := decide_eq_false (by omega)
      have G2 := Lib.hid hl
      obtain ⟨u1, u2⟩ := wait_in hok (now := now) r
      have hlw : lateI (waitS s now r) = false := decide_eq_false (by have := hok.rule; obtain ⟨z1, z2, z3, z4, z5, z6⟩ := Backoff.ok_iff.1 this; omega)
      obtain ⟨f1, f2, f3, f4, f5, f6, f7⟩ := hfl.next hok (by omega) hl r hlw
      obtain ⟨l1, l2, l3⟩ := Backoff.low_in (b := b) (c := c) (j := j) (n := k) HRU.out
      obtain ⟨lo, hlo⟩ : ∃ lo, lo = Backoff.lowOf b c (k : Int).toNat := ⟨_, rfl⟩
      rw [← hlo] at f3 f4
      have HLO := Lib.hid hlo
      have hst2 : s.st = 2 := hfl.st
      have hop := opened_any hrt.now.at' hok (by omega) now false r hr
      rw [f1] at hop
      have HOP := Lib.hid hop
      have HOK1 := Lib.hid (hok.failed r hl)
      obtain ⟨a9, ha9⟩ : ∃ a9, a9 = waitS s now r := ⟨_, rfl⟩
      rw [← ha9] at f2 f3 f4 f5 f6 u1 u2
      have F2E := Lib.hid f2
      have F5E := Lib.hid f5
      have F6E := Lib.hid f6
      have F7E := Lib.hid f7
      have d1 : decide (a9 < now + lo) = false := decide_eq_false (by omega)
      have d2 : decide (now + lo + j < a9) = false := decide_eq_false (by omega)
      have ha0 : now ≤ a9 ∧ a9 ≤ now + 90000 := by have := hok.rule; obtain ⟨z1, z2, z3, z4, z5, z6⟩ := Backoff.ok_iff.1 this; omega
      obtain ⟨ha1, ha2⟩ := ha0
      have SAT := Lib.hid (fun (X : World) (hX : Fr No wr X) => (lstate_any (hrt.now.at'.no hX) : Calls _ _ _ X fun e w' => e = .returned (.int .i64 s.st) ∧ X = w'))
      rw [hst2] at SAT
      have LOW := Lib.hid (fun (X : World) => (Backoff.rlow_any b c (k : Int) X ⟨by omega, by omega⟩))
      rw [low_is HRU.out (by omega) (by omega), ← hlo] at LOW
      have hlo2 : 0 ≤ lo ∧ lo ≤ 86400 := by rw [hlo]; exact ⟨by omega, by omega⟩
      clear hrt hrow hok hfl hl hlw f1 f2 f5 f6 f7 hlo hst2 hop ha9 l1 l2 l3 u1 u2
      go_upto_region 14 with (first | (go_at_call 12; refine (SAT.out _ (by first | exact Fr.refl _ _ | assumption)).mono ?_; rintro e w5 ⟨rfl, rfl⟩) | (go_at_call 9; refine HOP.out.mono ?_; intro e w5 ht; obtain ⟨v5, G5, rfl, hrt5, hrow5⟩ := RT5.out.act ht; have RT6 := Lib.hid hrt5; clear ht hrt5 hrow5))
      have hn6 := next_any RT6.out.now.at' HOK1.out.fit
      rw [F2E.out] at hn6
      have NX6 := Lib.hid hn6
      clear hn6
      go_upto_region 15 with (go_at_call 18; refine NX6.out.mono ?_; rintro e w6 ⟨rfl, hf6⟩; have RT7 := Lib.hid (RT6.out.no hf6); clear hf6)
      clear NX6
      have hb7 := RT7.out.box
      have x6 := hb7.cell 6
      have x7 := hb7.cell 7
      have x8 := hb7.cell 8
      simp only [List.getElem?_toArray, List.getElem?_cons_zero, List.getElem?_cons_succ] at x6 x7 x8
      have ht7 := tick_any RT7.out.now.at' HOK1.out (a9 - 1)
      rw [F5E.out] at ht7
      have TK7 := Lib.hid ht7
      clear hb7 ht7
      go_upto_region 18 with (first | (go_at_call 23; refine (LOW.out _).mono ?_; rintro e w7 ⟨rfl, rfl⟩) | (go_at_call 11; refine TK7.out.mono ?_; intro e w8 ht; obtain ⟨v8, G8, rfl, hrt8, hrow8⟩ := RT7.out.act ht; obtain ⟨A8, c8, rfl⟩ := hrow8.form; simp only [List.length_nil]; have RT8 := Lib.hid hrt8; clear ht hrt8 hrow8))
      clear x6 x7 x8 TK7
      have ht9 := tick_any RT8.out.now.at' HOK1.out a9
      rw [F6E.out] at ht9
      have TK9 := Lib.hid ht9
      have hk9 := HOK1.out.tick (now := a9)
      rw [F6E.out] at hk9
      have HOK9 := Lib.hid hk9
      clear ht9 hk9
      go_wp2_with (go_at_call 11; refine TK9.out.mono ?_; intro e w9 ht; obtain ⟨v9, G9, rfl, hrt9, hrow9⟩ := RT8.out.act ht; have RT9 := Lib.hid hrt9; have ROW9 := Lib.hid hrow9; clear ht hrt9 hrow9)
      go_roundw
      case rel => exact ⟨k + 1, a9, by go_num, rfl, by omega, by omega, by omega, ⟨_, _, RT9.out, ROW9.out, HOK9.out, F7E.out⟩⟩
      case measure => simp [intOf]; omega
    · obtain ⟨s, G, hrt, hrow, hok, hfl⟩ := hrel.out
      clear hrel
      have hl : lateI now = false := decide_eq_false (by omega)
      have hft : Fit L now := read_fit HRO.out now hn1 (by omega)
      have hcm := Comes.start (r := r) hfl hft HRO.out.len hl
      have hop := opened_any hrt.now.at' hok (by omega) now true r hr
      have hok2 := hok.opened (now := now) true r
      have hwf := opened_wf hok now true r
      obtain ⟨⟨s1, l1⟩, hs1⟩ : ∃ p, p = openedS s now true r := ⟨_, rfl⟩
      rw [← hs1] at hcm hop hok2 hwf
      simp only at hcm hop hok2 hwf
      have hsum := HRO.out.sumS
      have hlen := hcm.len hft
      have HFT := Lib.hid hft
      have HCM := Lib.hid hcm
      have HOP := Lib.hid hop
      have HOK2 := Lib.hid hok2
      have HWF := Lib.hid hwf
      have RT1 := Lib.hid hrt
      have HSU := Lib.hid hsum
      have hends := ends_sum (l := L) now
      have hsn := HRO.out.sumN
      have HLE := Lib.hid (show (writR l1).length ≤ 1000000 by omega)
      have HEN : now ≤ endsR now L ∧ endsR now L ≤ now + 1000000 := ⟨(Run.times_up hft.ck).2.2, by omega⟩
      obtain ⟨te, hte⟩ : ∃ te, te = endsR now L := ⟨_, rfl⟩
      rw [← hte] at HEN
      have HTE := Lib.hid hte
      clear hs1 hcm hop hok2 hwf hrt hrow hok hfl hft hl hsum hlen hends hsn hte
      go_upto_region 21 with (first | (go_at_call 9; refine HOP.out.mono ?_; intro e w5 ht; obtain ⟨v5, G5, rfl, hrt5, hrow5⟩ := RT1.out.act ht; have RT6 := Lib.hid hrt5; have ROW6 := Lib.hid hrow5; clear ht hrt5 hrow5) | (go_at_call 10; refine (written_any _ l1 HLE.out _ _ (row_sl ROW6.out HWF.out)).mono ?_; rintro e w6 ⟨rfl, rfl⟩))
      clear HOP RT1 ROW6 HWF
      obtain ⟨st0, hst0⟩ : ∃ st0, st0 = writR l1 := ⟨_, rfl⟩
      rw [← hst0] at HCM HLE ⊢
      clear hst0
      have hle0 := HLE.out
      obtain ⟨t0, ht0⟩ : ∃ t0, t0 = now := ⟨_, rfl⟩
      have HT0 := Lib.hid ht0
      rw [← ht0] at HCM HFT HTE HEN
      have hst1 : t0 ≤ 549700000000 ∧ 0 ≤ t0 := by omega
      clear ht0
      go_wp2_with fail
      go_loopw [14, 20, 21] (fun nv sv iv wr => ∃ (m2 : Nat) (nw : Int) (sent : Str), iv = .int .i64 m2 ∧ nv = .int .i64 nw ∧ sv = .string ⟨sent.toArray⟩ ∧ m2 ≤ 300 ∧ t0 ≤ nw ∧ nw ≤ te ∧ sent.length ≤ 1000000 ∧ Hid (∃ s G, RT W wr G g bx #[.string ⟨nm.toArray⟩, .int .i64 k1, .int .i64 k2, .int .i64 k3, .int .i64 k4, .int .i64 k5, .int .i64 b, .int .i64 c, .int .i64 j, .string ⟨t.toArray⟩] (.slice A9 n9 c9) L s ∧ Ok s (k + 1) ∧ Comes L t0 nw m2 sent s)) (fun _ _ i _ => 300 - (intOf i).toNat)
      case atStart => exact ⟨0, now, st0, rfl, rfl, rfl, by omega, by have := HT0.out; omega, by have := HT0.out; omega, hle0, ⟨_, _, RT6.out, HOK2.out, by have := HCM.out; rw [← HT0.out]; exact this⟩⟩
      case round =>
        obtain ⟨m2, nw, sent, rfl, rfl, rfl, hk2, hn3, hn4, hsl, hrel⟩ := hrel
        obtain ⟨s2, G2, hrt, hok, hcm⟩ := hrel.out
        clear hrel
        have RT2 := Lib.hid hrt
        have HOK3 := Lib.hid hok
        have SAT := Lib.hid (fun (X : World) (hX : Fr No wr X) => (lstate_any (hrt.now.at'.no hX) : Calls _ _ _ X fun e w' => e = .returned (.int .i64 s2.st) ∧ X = w'))
        by_cases hs3 : s2.st = 3
        · have hk3 : m2 < 300 := by
            rcases hcm.st with ⟨h1, _⟩ | ⟨_, _, _, _, _, _, h7, _⟩ <;> omega
          have d0 : decide ((m2 : Int) < 300) = true := decide_eq_true (by omega)
          have hnx := hcm.next HFT.out hs3
          rw [← HTE.out] at hnx
          obtain ⟨hx1, hx2⟩ := hnx
          have hla : lateI (nextS s2).1 = false := decide_eq_false (by omega)
          obtain ⟨g1, g2, g3, g4⟩ := hcm.tick HFT.out hs3 hla
          have hnn := next_any hrt.now.at' hok.fit
          have htk := fun (X : World) (hX : Fr No wr X) => tick_any (hrt.now.at'.no hX) hok (nextS s2).1
          have hok4 := hok.tick (now := (nextS s2).1)
          have hwf := tick_wf hok (nextS s2).1
          have hln := g4.len HFT.out
          obtain ⟨⟨a9, q9⟩, h9⟩ : ∃ p, p = nextS s2 := ⟨_, rfl⟩
          rw [← h9] at hx1 hx2 g1 g2 g4 hnn htk hok4 hwf hln
          simp only at hx1 hx2 g1 g2 g4 hnn htk hok4 hwf hln
          subst g1
          obtain ⟨⟨s4, l4⟩, h4⟩ : ∃ p, p = tickS s2 a9 := ⟨_, rfl⟩
          rw [← h4] at g4 htk hok4 hwf hln
          simp only at g4 htk hok4 hwf hln
          rw [List.length_append] at hln
          have hsu := HSU.out
          have HLE4 := Lib.hid (show (writR l4).length ≤ 1000000 by omega)
          have hsum4 : sent.length + (writR l4).length ≤ 1000000 := by omega
          have NN := Lib.hid hnn
          have TK := Lib.hid htk
          have HOK4 := Lib.hid hok4
          have HWF4 := Lib.hid hwf
          have HC4 := Lib.hid g4
          rw [hs3] at SAT
          have d1 : decide (a9 < nw) = false := decide_eq_false (by omega)
          clear hrt hok hcm hs3 hla g2 g3 g4 hnn htk hok4 hwf hln h9 h4 hsu
          go_upto_region 24 with (go_at_call 12; refine (SAT.out _ (Fr.refl _ _)).mono ?_; rintro e w7 ⟨rfl, rfl⟩)
          go_upto_region 25 with (go_at_call 18; refine NN.out.mono ?_; rintro e w7 ⟨rfl, hf7⟩; have F7 := Lib.hid hf7; clear hf7)
          obtain ⟨wt4, hwt4⟩ : ∃ wt4, wt4 = writR l4 := ⟨_, rfl⟩
          have HWT4 := Lib.hid hwt4
          rw [← hwt4] at hsum4
          clear hwt4
          go_wp2_with (first | (go_at_call 11; refine (TK.out _ F7.out).mono ?_; intro e w8 ht; obtain ⟨v8, G8, rfl, hrt8, hrow8⟩ := (RT2.out.no F7.out).act ht; have RT8 := Lib.hid hrt8; have ROW8 := Lib.hid hrow8; clear ht hrt8 hrow8) | (go_at_call 10; refine (written_any _ l4 HLE4.out _ _ (row_sl ROW8.out HWF4.out)).mono ?_; rintro e w9 ⟨rfl, rfl⟩; rw [← HWT4.out]))
          go_roundw
          case rel => exact ⟨m2 + 1, a9, sent ++ wt4, by go_num, rfl, by first | rfl | (rw [ba_app]), by omega, by omega, by omega, by rw [List.length_append]; exact hsum4, ⟨_, _, RT8.out, HOK4.out, by rw [HWT4.out]; exact HC4.out⟩⟩
          case measure => simp [intOf]; omega
        · obtain ⟨hs4, hsent⟩ := hcm.done (fun h => hs3 h.2)
          have hn0 := hcm.n
          obtain ⟨al, hal⟩ : ∃ al, al = Brk.allS L := ⟨_, rfl⟩
          rw [← hal] at hsent
          subst hsent
          have HAL := Lib.hid hal
          obtain ⟨gw, hgw0, hgwf, hgw⟩ := tries_at (X := wr) hrt.now.at'
          have HGW := Lib.hid hgw
          rw [hs4] at SAT
          have BY := Lib.hid (fun (X : World) (hX : Fr No wr X) => Brk.rbytes_any (.slice A9 n9 c9) L HSU.out X (Of (.slice A9 n9 c9)) (fun k hk => ((hrt.ops.no hX).off k hk).1) (Sls.own_slE (hrt.ops.no hX).own (fun _ _ => rfl) (fun x hx => ⟨rfl, HRO.out.ok x hx⟩) (fun _ h => h)))
          rw [← hal] at BY
          have FW := Lib.hid hrt.now.fr
          clear hrt hok hcm hs3 hal hgw
          rw [hn0] at HGW
          by_cases hm : m2 < 300
          · have d0 : decide ((m2 : Int) < 300) = true := decide_eq_true (by omega)
            go_wp2_with (first | (go_at_call 12; refine (SAT.out _ (by first | exact Fr.refl _ _ | assumption)).mono ?_; rintro e w7 ⟨rfl, rfl⟩) | (go_at_call 15; refine (BY.out _ (Fr.refl _ _)).mono ?_; rintro e w9 ⟨rfl, hf9⟩; have hc0 := (HGW.out _ hf9).1; have F9 := Lib.hid hf9; clear hf9) | (go_at_call 21; refine ((HGW.out _ F9.out).2).mono ?_; rintro e w10 ⟨rfl, rfl⟩) | (go_at_call 6; refine (works_any _).mono ?_; rintro e w' ⟨rfl, hf⟩; have Hf := Lib.hid hf; clear hf))
            go_ret
            exact ⟨rfl, (FW.out.then_no F9.out).then_no Hf.out⟩
          · have d0 : decide ((m2 : Int) < 300) = false := decide_eq_false (by omega)
            go_wp2_with (first | (go_at_call 12; refine (SAT.out _ (by first | exact Fr.refl _ _ | assumption)).mono ?_; rintro e w7 ⟨rfl, rfl⟩) | (go_at_call 15; refine (BY.out _ (Fr.refl _ _)).mono ?_; rintro e w9 ⟨rfl, hf9⟩; have hc0 := (HGW.out _ hf9).1; have F9 := Lib.hid hf9; clear hf9) | (go_at_call 21; refine ((HGW.out _ F9.out).2).mono ?_; rintro e w10 ⟨rfl, rfl⟩) | (go_at_call 6; refine (works_any _).mono ?_; rintro e w' ⟨rfl, hf⟩; have Hf := Lib.hid hf; clear hf))
            go_ret
            exact ⟨rfl, (FW.out.then_no F9.out).then_no Hf.out⟩
theorem u32_in {n : Int} (h : (Lit.int .u32 n).wf = true) : 0 ≤ n ∧ n ≤ 4294967295 := by simpa [Lit.wf, IntKind.min, IntKind.max, IntKind.signed, IntKind.bits] using h
theorem walk_LineRetries (W : World) (c0 : Array Value) (x0 : XC) (h0 : (RTwo 1 RStr (RTwo 1 (RInt .i64) (RTwo 1 (RInt .i64) (RTwo 1 (RInt .i64) (RTwo 1 (RInt .i64) (RTwo 1 (RInt .i64) (RTwo 1 (RInt .i64) (RTwo 1 (RInt .i64) (RTwo 1 (RInt .i64) RStr))))))))) W (Ahead W.heap.size) c0.toList x0) (v1 : Value) (x1 : Int) (h1 : (RInt .u8) W (Ahead W.heap.size) [v1] x1) (v2 : Value) (x2 : Int) (h2 : (RInt .i64) W (Ahead W.heap.size) [v2] x2) (v3 : Value) (x3 : Int) (h3 : (RInt .u32) W (Ahead W.heap.size) [v3] x3) : Calls Try.prog 5 #[.agg c0, v1, v2, v3] W fun e w' => e = .returned (.bool true) ∧ Fr No W w' := by
  rw [con_form h0]
  obtain ⟨h1, h1'⟩ := h1
  injection h1 with h1
  subst h1
  obtain ⟨h2, h2'⟩ := h2
  injection h2 with h2
  subst h2
  obtain ⟨h3, h3'⟩ := h3
  injection h3 with h3
  subst h3
  exact retries_any _ _ _ _ _ _ _ _ _ _ _ _ _ (u8_in h1') (Run.wf64.1 h2') (u32_in h3') W
end Ln
end Go.Proofs.Ytnfkkonmhinlcaa
