/- Statement LineWrites of package line. Printed by gen_lnc.py. -/
import Derived.Test.YtnfkkonmhinlcaaLnE
import Derived.Test.YtnfkkonmhinlcaaLawZ
import Derived.Deep.RegionHeld3
namespace Go.Proofs.Ytnfkkonmhinlcaa
open Go.RowKit
set_option linter.unusedVariables false
set_option linter.unusedSimpArgs false
namespace Ln
open Run (O ROp timesR endsR dueT nextT chk chkR Fit)
/-! Long texts: sums of bytes up to 2^60. -/
set_option maxHeartbeats 1000000 in
theorem written_big (v : Value) (l : List U) (hsum : (writR l).length ≤ 1152921504606846976) (w : World) (S : Nat → Prop) (hv : RSl 2 ROut w S [v] l) :
    Calls Try.prog 10 #[v] w fun e w' => e = .returned (.string ⟨(writR l).toArray⟩) ∧ w = w' := by
  obtain ⟨A, cap, rfl, hc1, hc2, hel⟩ := out_cells hv
  clear hv
  unfold maxLen at hc2
  have Hel := Lib.hid hel
  have HSU := Lib.hid hsum
  clear hel hsum
  go_enter Try.func10, Try.ntmps10
  go_wp2_with fail
  go_loopw [3, 4] (fun bv iv wr => ∃ (k : Nat) (t : Str), iv = .int .i64 k ∧ bv = .string ⟨t.toArray⟩ ∧ k ≤ l.length ∧ t.length ≤ 1152921504606846976 ∧ Hid (t = writR (l.take k)) ∧ Hid (w = wr)) (fun _ i _ => l.length - (intOf i).toNat)
  case atStart => exact ⟨0, [], rfl, rfl, by omega, by simp, rfl, rfl⟩
  case round =>
    obtain ⟨k, t, rfl, rfl, hk, ht, HN, HW⟩ := hrel
    have hw := HW.out
    subst hw
    by_cases hlt : k < l.length
    · obtain ⟨ad, rfl, -, c0, c1⟩ := Hel.out k hlt
      have hwt := writ_take hlt
      have hnext : (t ++ (if l[k].1 = 3 then l[k].2 else [])).length ≤ 1152921504606846976 := by
        have h1 := HSU.out
        rw [writ_split l (k + 1), hwt, List.length_append, ← HN.out] at h1
        omega
      have HN2 := Lib.hid (show t ++ (if l[k].1 = 3 then l[k].2 else []) = writR (l.take (k + 1)) by rw [hwt, HN.out])
      clear HN hwt
      generalize l[k] = x at c0 c1 hnext HN2
      obtain ⟨a, s⟩ := x
      simp only at c0 c1 hnext HN2
      by_cases ha : a = 3
      · subst ha
        rw [if_pos rfl] at hnext HN2
        rw [List.length_append] at hnext
        go_wp2_with fail
        go_roundw
        case rel => exact ⟨k + 1, t ++ s, by go_num, by first | rfl | (simp; done) | (simp [ByteArray.ext_iff]; done), by omega, by simp; omega, HN2, by first | exact trivial | exact rfl⟩
        case measure => simp [intOf]; omega
      · rw [if_neg ha, List.append_nil] at HN2
        have hb : (a == 3) = false := by simpa using ha
        clear ha hnext
        go_wp2_with fail
        go_roundw
        case rel => exact ⟨k + 1, t, by go_num, rfl, by omega, ht, HN2, by first | exact trivial | exact rfl⟩
        case measure => simp [intOf]; omega
    · have HE := Lib.hid (show t = writR l by rw [HN.out, List.take_of_length_le (by omega)])
      clear HN
      go_wp2_with fail
      go_ret
      exact ⟨ret_str HE.out, rfl⟩
theorem allS_take {l : List O} {k : Nat} (h : k < l.length) : Brk.allS (l.take (k + 1)) = Brk.allS (l.take k) ++ l[k].2.1 := Brk.allS_take h
set_option maxHeartbeats 1000000 in
theorem bytes_big (v : Value) (l : List O) (hsum : (Brk.allS l).length ≤ 1152921504606846976) (w : World) (S : Nat → Prop) (hv : RSl 3 ROp w S [v] l) :
    Calls Try.prog 15 #[v] w fun e w' => e = .returned (.string ⟨(Brk.allS l).toArray⟩) ∧ w = w' := by
  obtain ⟨A, cap, rfl, hc1, hc2, hel⟩ := Run.op_cells hv
  clear hv
  unfold maxLen at hc2
  have Hel := Lib.hid hel
  have HSU := Lib.hid hsum
  clear hel hsum
  go_enter Try.func15, Try.ntmps15
  go_wp2_with fail
  go_loopw [3, 4] (fun bv iv wr => ∃ (k : Nat) (t : Str), iv = .int .i64 k ∧ bv = .string ⟨t.toArray⟩ ∧ k ≤ l.length ∧ t.length ≤ 1152921504606846976 ∧ Hid (t = Brk.allS (l.take k)) ∧ Hid (w = wr)) (fun _ i _ => l.length - (intOf i).toNat)
  case atStart => exact ⟨0, [], rfl, rfl, by omega, by simp, rfl, rfl⟩
  case round =>
    obtain ⟨k, t, rfl, rfl, hk, ht, HN, HW⟩ := hrel
    have hw := HW.out
    subst hw
    by_cases hlt : k < l.length
    · obtain ⟨ad, rfl, -, c0, c1, c2, -⟩ := Hel.out k hlt
      have hnext : t.length + l[k].2.1.length ≤ 1152921504606846976 := by
        have h1 := HSU.out
        have h2 := Brk.allS_split l (k + 1)
        have h3 := Brk.allS_take hlt
        have h5 := HN.out
        rw [h2, h3, List.length_append, List.length_append, ← h5] at h1
        omega
      have HN2 := Lib.hid (show t ++ l[k].2.1 = Brk.allS (l.take (k + 1)) by rw [Brk.allS_take hlt, HN.out])
      clear HN c0 c2
      generalize l[k].2.1 = s at c1 hnext HN2
      go_wp2_with fail
      go_roundw
      case rel => exact ⟨k + 1, t ++ s, by go_num, by first | rfl | (simp; done) | (simp [ByteArray.ext_iff]; done), by omega, by simp; omega, HN2, by first | exact trivial | exact rfl⟩
      case measure => simp [intOf]; omega
    · have HE := Lib.hid (show t = Brk.allS l by rw [HN.out, Brk.allS_none (by omega)])
      clear HN
      go_wp2_with fail
      go_ret
      exact ⟨ret_str HE.out, rfl⟩
/-! What was taken is no longer than what came in. -/
theorem Taken.lens {s : S} {want held got : Str} {now : Int} (h : Taken s want held got now) : got.length ≤ want.length := Nat.not_lt.1 h.fine.1
abbrev R19Z : Rd X19 := RTwo 1 (RInt .u8) (RTwo 1 (RInt .u8) (RTwo 1 RBool (RTwo 1 (RInt .i64) (RTwo 1 RStrZ (RSl 3 (RTwo 1 (RInt .i64) (RTwo 1 RStrZ (RInt .i64))))))))
theorem opZ {w : World} {S : Nat → Prop} {cs : List Value} {x : O} (h : (RTwo 1 (RInt .i64) (RTwo 1 RStrZ (RInt .i64))) w S cs x) : ROp w S cs x ∧ x.2.1.length ≤ 140737488351232 := by
  obtain ⟨h1, h2, h3, h4, h5⟩ := h
  exact ⟨⟨h1, h2, h3, h4.str, h5⟩, h4.2⟩
theorem opsZ {w : World} {S : Nat → Prop} {cs : List Value} {l : List O} (h : RSl 3 (RTwo 1 (RInt .i64) (RTwo 1 RStrZ (RInt .i64))) w S cs l) : RSl 3 ROp w S cs l ∧ ∀ x ∈ l, x.2.1.length ≤ 140737488351232 := by
  obtain ⟨A, cap, h1, h2, h3, h4, h5⟩ := h
  refine ⟨⟨A, cap, h1, h2, h3, h4, fun i hi => ?_⟩, fun x hx => ?_⟩
  · obtain ⟨ad, ecs, g1, g2, g3, g4, g5⟩ := h5 i hi
    exact ⟨ad, ecs, g1, g2, g3, g4, (opZ g5).1⟩
  · obtain ⟨i, hi, rfl⟩ := List.getElem_of_mem hx
    obtain ⟨ad, ecs, g1, g2, g3, g4, g5⟩ := h5 i hi
    exact (opZ g5).2
theorem op19_atZ {W : World} {A : Option Addr} {n c : Nat} {l : List X19} (h : RSl 6 R19Z W (Ahead W.heap.size) [.slice A n c] l) {k : Nat} (hk : k < l.length) :
    ∃ ad vo, A = some ad ∧ (ad.add (k * 6)).block < W.heap.size ∧ El W (ad.add (k * 6)) vo l[k] ∧ RSl 3 ROp W (Ahead W.heap.size) [vo] l[k].2.2.2.2.2 ∧ (∀ x ∈ l[k].2.2.2.2.2, x.2.1.length ≤ 140737488351232) ∧ (0 ≤ l[k].1 ∧ l[k].1 ≤ 255) ∧ (0 ≤ l[k].2.1 ∧ l[k].2.1 ≤ 255) ∧ l[k].2.2.2.2.1.length ≤ 140737488351232 := by
  obtain ⟨ad, ecs, rfl, hb, hl, hc, h1, ⟨e1, w1⟩, h2, ⟨e2, w2⟩, h3, e3, h4, ⟨e4, w4⟩, h5, ⟨e5, w5⟩, h6⟩ := Sls.sl_at h hk
  have hb' : (ad.add (k * 6)).block < W.heap.size := by rw [block_add]; exact hb
  have u0 := hc 0 (by omega)
  have u1 := hc 1 (by omega)
  have u2 := hc 2 (by omega)
  have u3 := hc 3 (by omega)
  have u4 := hc 4 (by omega)
  have u5 := hc 5 (by omega)
  match ecs, hl with
  | [a, b, d, e, f, v], _ =>
    simp only [List.take_succ_cons, List.take_zero, List.drop_succ_cons, List.drop_zero] at e1 e2 e3 e4 e5 h6
    injection e1 with e1
    injection e2 with e2
    injection (show ([d] : List Value) = [.bool l[k].2.2.1] from e3) with e3
    injection e4 with e4
    injection e5 with e5
    subst e1 e2 e3 e4 e5
    rw [add_zero] at u0
    exact ⟨ad, v, rfl, hb', ⟨u0, u1, u2, u3, u4, u5⟩, (opsZ h6).1, (opsZ h6).2, u8_in w1, u8_in w2, w5⟩
theorem exW : newS 1 1 0 [] = (⟨1, 1, 0, 0, 0, 0, [], [], 0, 0, []⟩, 0) := by rfl
theorem exW2 : openedS ⟨1, 1, 0, 2, 0, 0, [], [], 0, 0, []⟩ 0 true 0 = (⟨1, 1, 0, 4, 0, 0, [], [], 0, 0, []⟩, []) := by rfl
theorem up_yes {s : S} {want held : Str} (h : s.st = 4) : up s want held = (want ++ held, []) := if_pos h
theorem up_not {s : S} {want held : Str} (h : ¬ s.st = 4) : up s want held = (want, held) := if_neg h
theorem Taken.two {s : S} {want held got : Str} {now : Int} (h : Taken s want held got now) : s.st = 4 ∨ s.st = 5 := h.st.imp (fun g => g.1) (fun g => g.1)
/-- The texts, as long as they are. -/
def short_ : Nat := 0
theorem up_len {s : S} {want held : Str} : (up s want held).1.length + (up s want held).2.length = want.length + held.length := by
  unfold up
  split <;> simp
theorem mul_more {a k : Nat} (h : a ≤ k * 1688849860215784) : a ≤ (k + 1) * 1688849860215784 := Nat.le_trans h (Nat.mul_le_mul_right _ (Nat.le_succ k))
theorem mul_step {a b k : Nat} (h : a ≤ k * 1688849860215784) (hb : b ≤ a + 1688849860215784) : b ≤ (k + 1) * 1688849860215784 := by
  rw [Nat.add_mul, Nat.one_mul]
  exact Nat.le_trans hb (Nat.add_le_add_right h _)
/-- The act's box, and the line. -/
structure WT (W w : World) (G : Nat → Prop) (g bo : Nat) (cs : Array Value) (s : S) : Prop where
  now : Now W w G g s
  box : Blk w bo 35 cs
  bg : ¬ G bo
theorem WT.step {W w w' : World} {G G' : Nat → Prop} {g bo : Nat} {cs : Array Value} {s s' : S} (h : WT W w G g bo cs s) (ha : LW w' G' g s') (hs : Step G w G' w') : WT W w' G' g bo cs s' :=
  ⟨h.now.step ha hs, h.box.fr hs.1 h.bg, fun e => (hs.2 bo e).elim h.bg (fun e => by have := h.box.lt; have := e.1; omega)⟩
theorem WT.act {W w w' : World} {G : Nat → Prop} {g bo : Nat} {cs : Array Value} {s s' : S} {l : List U} {e : Ending} {f : Value → Value} (h : WT W w G g bo cs s) (ha : LAct w G g s' l f e w') : ∃ v G', e = .returned (f v) ∧ WT W w' G' g bo cs s' ∧ Row w' G' v l := by
  obtain ⟨v, G', h1, h2, ⟨h3, h4⟩, h5⟩ := ha
  exact ⟨v, G', h1, h.step h2 h5, ⟨h3, fun k hk => ⟨(h4 k hk).1.2, (h4 k hk).2⟩⟩⟩
set_option maxRecDepth 100000 in
set_option maxHeartbeats 8000000 in
theorem writes_any (v : Value) (l : List X19) (W : World) (hv : RSl 6 R19Z W (Ahead W.heap.size) [v] l) : Calls Try.prog 3 #[v] W fun e w' => e = .returned (.bool true) ∧ Fr No W w' := by
  obtain ⟨Av, cv, rfl, hv1, hv2⟩ := hv.slice
  have HV := Lib.hid hv
  obtain ⟨ln, hln⟩ : ∃ ln, ln = l.length := ⟨_, rfl⟩
  have HLN := Lib.hid hln
  rw [← hln] at hv1 ⊢
  clear hv hln
  unfold maxLen at hv2
  by_cases hg : 60 < ln
  · go_enter Try.func3, Try.ntmps3
    go_wp2_with (go_at_call 6; refine (works_any _).mono ?_; rintro e w' ⟨rfl, hf⟩; have Hf := Lib.hid hf; clear hf)
    go_ret
    exact ⟨rfl, Hf.out⟩
  go_enter Try.func3, Try.ntmps3
  go_upto_region 10 with (first | (go_at_call 7; refine (new_any [] [] 0 0 0 0 0 1 1 0 _).mono ?_; intro e w2 hm; rw [exW] at hm; obtain ⟨g, G0, rfl, hn⟩ := new_now hm rfl; have N2 := Lib.hid hn; have K2 := Lib.hid (show Ok (⟨1, 1, 0, 0, 0, 0, [], [], 0, 0, []⟩ : S) 0 from (by have h := newS_ok (show (newS 1 1 0 []).2 = 0 by rw [exW]); rw [exW] at h; exact h)); clear hm hn) | (go_at_call 8; refine (start_any N2.out.at').mono ?_; intro e w4 ht; rw [show startS ⟨1, 1, 0, 0, 0, 0, [], [], 0, 0, []⟩ = (⟨1, 1, 0, 2, 0, 0, [], [], 0, 0, []⟩, [(1, [])]) from rfl] at ht; obtain ⟨v4, G4, rfl, hn4, hr4, hs4⟩ := N2.out.act ht; obtain ⟨A4, c4, rfl⟩ := hr4.form; have N4 := Lib.hid hn4; have K4 := Lib.hid (show Ok (⟨1, 1, 0, 2, 0, 0, [], [], 0, 0, []⟩ : S) 0 from (by have := K2.out.start; exact this)); clear ht hn4 hr4 hs4) | (go_at_call 9; refine (opened_any N4.out.at' K4.out (by decide) 0 true 0 (by decide)).mono ?_; intro e w5 ht; rw [exW2] at ht; obtain ⟨v5, G5, rfl, hn5, hr5, hs5⟩ := N4.out.act ht; obtain ⟨A5, c5, rfl⟩ := hr5.form; have N5 := Lib.hid hn5; have T5 := Lib.hid (show Taken (⟨1, 1, 0, 4, 0, 0, [], [], 0, 0, []⟩ : S) [] [] [] 0 from ⟨⟨(by decide), (by decide), (by decide), (fun hb => (by simp [busy] at hb)), K4.out.first, (by decide), (fun h => (by simp at h))⟩, (fun hb => (by simp [busy] at hb)), .inl ⟨rfl, rfl, rfl, rfl⟩⟩); clear ht hn5 hr5 hs5))
  go_wp2_with fail
  go_loopw [5, 6, 7, 8, 9] (fun nv wv hv gv iv wr => ∃ (k : Nat) (now : Int) (want held got : Str), iv = .int .i64 k ∧ nv = .int .i64 now ∧ wv = .string ⟨want.toArray⟩ ∧ hv = .string ⟨held.toArray⟩ ∧ gv = .string ⟨got.toArray⟩ ∧ k ≤ ln ∧ 0 ≤ now ∧ now ≤ 255 * k ∧ want.length + held.length ≤ k * 1688849860215784 ∧ Hid (∃ s G, Now W wr G g s ∧ Taken s want held got now)) (fun _ _ _ _ i _ => ln - (intOf i).toNat)
  case atStart => exact ⟨0, 0, [], [], [], rfl, rfl, rfl, rfl, rfl, by omega, by omega, by omega, by simp, ⟨_, _, N5.out, T5.out⟩⟩
  case round =>
    obtain ⟨k, now, want, held, got, rfl, rfl, rfl, rfl, rfl, hk, hn1, hn2, hlen, hrel⟩ := hrel
    by_cases hlt : k < ln
    · have hlt2 : k < l.length := by rw [← HLN.out]; exact hlt
      obtain ⟨ad, vo, rfl, hadl, hel, hops, hopz, hkd, hgap, hul⟩ := op19_atZ (W := W) (A := Av) (n := ln) (c := cv) (show RSl 6 R19Z W (Ahead W.heap.size) [.slice Av ln cv] l by rw [HLN.out]; exact HV.out) hlt2
      obtain ⟨s, G, hnow, htk⟩ := hrel.out
      clear hrel
      obtain ⟨D, d3, rfl, hD1, hD2⟩ := hops.slice
      obtain ⟨x, hx⟩ : ∃ x, x = l[k] := ⟨_, rfl⟩
      rw [← hx] at hel hops hopz hkd hgap hul hD1
      obtain ⟨kd, gap, okb, q, u, ops⟩ := x
      simp only at hel hops hopz hkd hgap hul hD1
      obtain ⟨ol, hol⟩ : ∃ ol, ol = ops.length := ⟨_, rfl⟩
      have HOL := Lib.hid hol
      rw [← hol] at hel hops hD1
      have HOPS := Lib.hid hops
      have HOPZ := Lib.hid hopz
      have NOW := Lib.hid hnow
      have TAK := Lib.hid htk
      have hadr : (ad.add (k * 6)).block < wr.heap.size := Nat.lt_of_lt_of_le hadl hnow.fr.size
      obtain ⟨el0, el1, el2, el3, el4, el5⟩ := hel.fr hnow.fr hadl (fun h => h)
      simp only at el0 el1 el2 el3 el4 el5
      have hgl := htk.lens
      clear hx hel hops hopz hol hnow htk hlt2
      unfold maxLen at hD2
      go_upto_region 14 with (fail)
      clear el0 el1 el2 el3 el4 el5
      obtain ⟨bo, hbo⟩ : ∃ bo, wr.heap.size = bo := ⟨_, rfl⟩
      have XO := Blk.new wr 35 #[.int .u8 kd, .int .u8 gap, .bool okb, .int .i64 q, .string ⟨u.toArray⟩, .slice D ol d3]
      have FX := Lib.hid ((Fr.refl No wr).alloc (.cells #[.int .u8 kd, .int .u8 gap, .bool okb, .int .i64 q, .string ⟨u.toArray⟩, .slice D ol d3] 35))
      rw [hbo] at XO ⊢
      have WTX := Lib.hid (show WT W (wr.alloc (.cells #[.int .u8 kd, .int .u8 gap, .bool okb, .int .i64 q, .string ⟨u.toArray⟩, .slice D ol d3] 35)) G g bo #[.int .u8 kd, .int .u8 gap, .bool okb, .int .i64 q, .string ⟨u.toArray⟩, .slice D ol d3] s from ⟨NOW.out.no FX.out, XO, fun hg => by have := NOW.out.at'.lt bo hg; omega⟩)
      generalize wr.alloc (.cells #[.int .u8 kd, .int .u8 gap, .bool okb, .int .i64 q, .string ⟨u.toArray⟩, .slice D ol d3] 35) = wx at WTX XO FX ⊢
      clear hbo
      have XOH := Lib.hid XO
      clear XO
      have xo := XOH.out
      have x0 := xo.cell 0
      have xf0 := xo.frozen 0
      have x1 := xo.cell 1
      have xf1 := xo.frozen 1
      have x2 := xo.cell 2
      have xf2 := xo.frozen 2
      have x3 := xo.cell 3
      have xf3 := xo.frozen 3
      have x4 := xo.cell 4
      have xf4 := xo.frozen 4
      have x5 := xo.cell 5
      have xf5 := xo.frozen 5
      simp only [List.getElem?_toArray, List.getElem?_cons_zero, List.getElem?_cons_succ] at x0 x1 x2 x3 x4 x5
      clear xo
      by_cases hu : 1000 < u.length
      · have hu2 : decide (1000 < (u.length : Int)) = true := decide_eq_true (by omega)
        go_wp2_with fail
        go_roundw
        case rel => exact ⟨k + 1, now, want, held, got, by go_num, rfl, rfl, rfl, rfl, by omega, by omega, by omega, mul_more hlen, ⟨_, _, WTX.out.now, TAK.out⟩⟩
        case measure => simp [intOf]; omega
      have hu : u.length ≤ 1000 := by omega
      have hu2 : decide (1000 < (u.length : Int)) = false := decide_eq_false (by omega)
      by_cases ho : 12 < ol
      · have ho2 : decide (12 < (ol : Int)) = true := decide_eq_true (by omega)
        go_wp2_with fail
        go_roundw
        case rel => exact ⟨k + 1, now, want, held, got, by go_num, rfl, rfl, rfl, rfl, by omega, by omega, by omega, mul_more hlen, ⟨_, _, WTX.out.now, TAK.out⟩⟩
        case measure => simp [intOf]; omega
      have ho : ol ≤ 12 := by omega
      have ho2 : decide (12 < (ol : Int)) = false := decide_eq_false (by omega)
      have HAL := Lib.hid (show (Brk.allS ops).length ≤ 1688849860214784 by
        have h1 := allS_le HOPZ.out
        have h2 : ops.length ≤ 12 := by rw [← HOL.out]; exact ho
        have h3 : ops.length * 140737488351232 ≤ 12 * 140737488351232 := Nat.mul_le_mul_right _ h2
        omega)
      obtain ⟨nw, hnw⟩ : ∃ nw, nw = now + gap := ⟨_, rfl⟩
      have hnw1 : 0 ≤ nw ∧ nw ≤ 255 * (k + 1) := by omega
      have hkl : k ≤ 60 := by omega
      have HNW := Lib.hid hnw
      have htk := (TAK.out.later (u := nw) (by omega)).tick
      have hta := tick_any WTX.out.now.at' TAK.out.ok nw
      have hwf := tick_wf TAK.out.ok nw
      obtain ⟨⟨s1, l1⟩, h1⟩ : ∃ p, p = tickS s nw := ⟨_, rfl⟩
      rw [← h1] at htk hta hwf
      simp only at htk hta hwf
      have hl1 := htk.lens
      have hul1 := up_len (s := s1) (want := want) (held := held)
      rw [List.length_append] at hl1
      have HW1 := Lib.hid (show (writR l1).length ≤ 1152921504606846976 by omega)
      have hgs : got.length + (writR l1).length ≤ 1152921504606846976 := by omega
      obtain ⟨wt1, hwt1⟩ : ∃ x, x = writR l1 := ⟨_, rfl⟩
      have HWT1 := Lib.hid hwt1
      rw [← hwt1] at htk hgs
      have TK1 := Lib.hid htk
      have TA1 := Lib.hid hta
      have WF1 := Lib.hid hwf
      rw [hnw] at TA1
      clear htk hta hwf h1 hl1 hul1 hwt1 hnw
      go_upto_region 17 with (first | (go_at_call 11; refine TA1.out.mono ?_; intro e w8 ht; obtain ⟨v8, G8, rfl, hrt8, hrow8⟩ := WTX.out.act ht; have WT8 := Lib.hid hrt8; have ROW8 := Lib.hid hrow8; clear ht hrt8 hrow8) | (go_at_call 10; refine (written_big _ l1 HW1.out _ _ (row_sl ROW8.out WF1.out)).mono ?_; rintro e w9 ⟨rfl, rfl⟩; rw [← HWT1.out]))
      rw [← HNW.out]
      simp only [ba_app]
      obtain ⟨got1, hgot1⟩ : ∃ x, x = got ++ wt1 := ⟨_, rfl⟩
      rw [← hgot1] at TK1 ⊢
      have hgl1 : got1.length ≤ 1152921504606846976 := by rw [hgot1, List.length_append]; exact hgs
      clear hgot1 hgs
      have SA1 := Lib.hid (fun (X : World) (hX : Fr No w8 X) => (lstate_any (WT8.out.now.at'.no hX) : Calls _ _ _ X fun e w' => e = .returned (.int .i64 s1.st) ∧ X = w'))
      by_cases hs1 : s1.st = 4
      · have tk1 := TK1.out
        rw [up_yes hs1] at tk1
        simp only at tk1
        rw [hs1] at SA1
        obtain ⟨want1, hw1⟩ : ∃ x, x = want ++ held := ⟨_, rfl⟩
        have HL1 := Lib.hid (show want1.length = want.length + held.length by rw [hw1, List.length_append])
        rw [← hw1] at tk1
        have HWA := Lib.hid hw1
        have T1 := Lib.hid tk1
        clear hs1 hw1 tk1 TK1
        go_upto_region 19 with (go_at_call 12; refine (SA1.out _ (Fr.refl _ _)).mono ?_; rintro e w9 ⟨rfl, rfl⟩)
        simp only [ba_app]
        rw [← HWA.out]
        clear SA1
        have xo := WT8.out.box
        have x0 := xo.cell 0
        have xf0 := xo.frozen 0
        have x1 := xo.cell 1
        have xf1 := xo.frozen 1
        have x2 := xo.cell 2
        have xf2 := xo.frozen 2
        have x3 := xo.cell 3
        have xf3 := xo.frozen 3
        have x4 := xo.cell 4
        have xf4 := xo.frozen 4
        have x5 := xo.cell 5
        have xf5 := xo.frozen 5
        simp only [List.getElem?_toArray, List.getElem?_cons_zero, List.getElem?_cons_succ] at x0 x1 x2 x3 x4 x5
        clear xo
        by_cases hp : kd % 2 = 0
        · have hpp : ((kd % 2 : Int) == 0) = true := by simpa using hp
          have hsd := send_any WT8.out.now.at' T1.out.ok.len u (by omega)
          have htk := T1.out.send u
          have hwf := send_wf s1 u (by omega)
          obtain ⟨⟨s2, l2, ok2⟩, h2⟩ : ∃ p, p = sendS s1 u := ⟨_, rfl⟩
          rw [← h2] at hsd htk hwf
          simp only at hsd htk hwf
          have HSD := Lib.hid hsd
          have WF2 := Lib.hid hwf
          clear h2 hsd hwf
          cases ok2
          · simp only [Bool.false_eq_true, if_false] at htk
            have hl2 := htk.lens
            have hul2 := up_len (s := s2) (want := want1) (held := ([] : Str))
            rw [List.length_append] at hl2
            try simp only [List.length_nil, Nat.add_zero] at hul2
            have q1 := HL1.out
            have HW2 := Lib.hid (show (writR l2).length ≤ 1152921504606846976 by omega)
            have hgs2 : got1.length + (writR l2).length ≤ 1152921504606846976 := by omega
            obtain ⟨wt2, hwt2⟩ : ∃ x, x = writR l2 := ⟨_, rfl⟩
            have HWT2 := Lib.hid hwt2
            rw [← hwt2] at htk hgs2
            obtain ⟨got2, hgot2⟩ : ∃ x, x = got1 ++ wt2 := ⟨_, rfl⟩
            rw [← hgot2] at htk
            have HGT2 := Lib.hid hgot2
            have T2 := Lib.hid htk
            clear htk hl2 hul2 hwt2 hgot2 q1
            have hall2 := Lib.hid (show u.length ≤ 1688849860214784 from by omega)
            go_upto_region 22 with (first | (go_at_call 13; refine HSD.out.mono ?_; intro e w9 ht; obtain ⟨v9, G9, rfl, hrt9, hrow9⟩ := WT8.out.act ht; have WT10 := Lib.hid hrt9; have ROW9 := Lib.hid hrow9; have xo9 := hrt9.box; clear ht hrt9 hrow9) | (go_at_call 10; refine (written_big _ l2 HW2.out _ _ (row_sl ROW9.out WF2.out)).mono ?_; rintro e w10 ⟨rfl, rfl⟩; rw [← HWT2.out]))
            have y4 := xo9.cell 4
            simp only [List.getElem?_toArray, List.getElem?_cons_zero, List.getElem?_cons_succ] at y4
            clear xo9
            simp only [ba_app]
            rw [← HGT2.out]
            obtain ⟨w10, hw10⟩ : ∃ w10, w10 = w9 := ⟨_, rfl⟩
            subst hw10
            go_upto_region 28 with (fail)
            clear y4
            have HH2L := Lib.hid (show (0 : Nat) = 0 from rfl)
            have SA2 := Lib.hid (fun (X : World) (hX : Fr No w10 X) => (lstate_any (WT10.out.now.at'.no hX) : Calls _ _ _ X fun e w' => e = .returned (.int .i64 s2.st) ∧ X = w'))
            by_cases hs2 : s2.st = 4
            · have t3 := T2.out
              rw [up_yes hs2] at t3
              simp only at t3
              rw [hs2] at SA2
              have hfn := t3.fine
              have hge := hfn.2.2 hs2
              rw [List.append_nil] at t3 hfn hge
              have HW3L := Lib.hid (show (0 : Nat) = 0 from rfl)
              have T3 := Lib.hid t3
              have HFN := Lib.hid hfn
              have HGE := Lib.hid hge
              clear hge
              clear t3 hs2 hfn
              have hsz3 : (want1).length ≤ 1152921504606846976 := by have q1 := HL1.out; have q2 := HH2L.out; have q4 := hall2.out; omega
              go_upto_region 30 with (go_at_call 12; refine (SA2.out _ (Fr.refl _ _)).mono ?_; rintro e w11 ⟨rfl, rfl⟩)
              try simp only [ba_app, List.append_nil]
              have hge := HGE.out
              subst hge
              have e1 : decide (((got2).length : Int) < (got2.length : Int)) = false := decide_eq_false (by have := HFN.out.1; omega)
              have e1n : decide ((got2).length < got2.length) = false := decide_eq_false HFN.out.1
              have hsl := fun W : World => Sls.slice_to (P := Try.prog) W 9 Try.underlying9 (got2) got2.length got2.length rfl (Nat.not_lt.1 HFN.out.1)
              rw [HFN.out.2.1] at hsl
              go_wp2_with (go_at_call 12; refine (SA2.out _ (Fr.refl _ _)).mono ?_; rintro e w11 ⟨rfl, rfl⟩)
              go_roundw
              case rel => exact ⟨k + 1, nw, got2, [], got2, by go_num, rfl, rfl, rfl, rfl, by omega, by omega, by omega, mul_step hlen (by have q1 := HL1.out; have q2 := HH2L.out; have q3 := HW3L.out; have q4 := hall2.out; (try simp only [List.length_nil, Nat.add_zero] at q1 q2 q3 ⊢); omega), ⟨_, _, WT10.out.now, T3.out⟩⟩
              case measure => simp [intOf]; omega
            · have t3 := T2.out
              rw [up_not hs2] at t3
              simp only at t3
              have hfn := t3.fine
              obtain ⟨st2, hst2⟩ : ∃ st2, st2 = s2.st := ⟨_, rfl⟩
              rw [← hst2] at hs2 SA2
              have g4 : (st2 == 4) = false := by simpa using hs2
              clear hst2
              have HW3L := Lib.hid (show (0 : Nat) = 0 from rfl)
              have T3 := Lib.hid t3
              have HFN := Lib.hid hfn
              clear t3 hs2 hfn
              have e1 : decide (((want1).length : Int) < (got2.length : Int)) = false := decide_eq_false (by have := HFN.out.1; omega)
              have e1n : decide ((want1).length < got2.length) = false := decide_eq_false HFN.out.1
              have hsl := fun W : World => Sls.slice_to (P := Try.prog) W 9 Try.underlying9 (want1) got2.length got2.length rfl (Nat.not_lt.1 HFN.out.1)
              rw [HFN.out.2.1] at hsl
              go_wp2_with (go_at_call 12; refine (SA2.out _ (Fr.refl _ _)).mono ?_; rintro e w11 ⟨rfl, rfl⟩)
              go_roundw
              case rel => exact ⟨k + 1, nw, want1, ([] : Str), got2, by go_num, rfl, rfl, rfl, rfl, by omega, by omega, by omega, mul_step hlen (by have q1 := HL1.out; have q2 := HH2L.out; have q3 := HW3L.out; have q4 := hall2.out; (try simp only [List.length_nil, Nat.add_zero] at q1 q2 q3 ⊢); omega), ⟨_, _, WT10.out.now, T3.out⟩⟩
              case measure => simp [intOf]; omega
          · simp only [if_true, List.nil_append] at htk
            have hl2 := htk.lens
            have hul2 := up_len (s := s2) (want := want1) (held := u)
            rw [List.length_append] at hl2
            try simp only [List.length_nil, Nat.add_zero] at hul2
            have q1 := HL1.out
            have HW2 := Lib.hid (show (writR l2).length ≤ 1152921504606846976 by omega)
            have hgs2 : got1.length + (writR l2).length ≤ 1152921504606846976 := by omega
            obtain ⟨wt2, hwt2⟩ : ∃ x, x = writR l2 := ⟨_, rfl⟩
            have HWT2 := Lib.hid hwt2
            rw [← hwt2] at htk hgs2
            obtain ⟨got2, hgot2⟩ : ∃ x, x = got1 ++ wt2 := ⟨_, rfl⟩
            rw [← hgot2] at htk
            have HGT2 := Lib.hid hgot2
            have T2 := Lib.hid htk
            clear htk hl2 hul2 hwt2 hgot2 q1
            have hall2 := Lib.hid (show u.length ≤ 1688849860214784 from by omega)
            go_upto_region 22 with (first | (go_at_call 13; refine HSD.out.mono ?_; intro e w9 ht; obtain ⟨v9, G9, rfl, hrt9, hrow9⟩ := WT8.out.act ht; have WT10 := Lib.hid hrt9; have ROW9 := Lib.hid hrow9; have xo9 := hrt9.box; clear ht hrt9 hrow9) | (go_at_call 10; refine (written_big _ l2 HW2.out _ _ (row_sl ROW9.out WF2.out)).mono ?_; rintro e w10 ⟨rfl, rfl⟩; rw [← HWT2.out]))
            have y4 := xo9.cell 4
            simp only [List.getElem?_toArray, List.getElem?_cons_zero, List.getElem?_cons_succ] at y4
            clear xo9
            simp only [ba_app]
            rw [← HGT2.out]
            obtain ⟨w10, hw10⟩ : ∃ w10, w10 = w9 := ⟨_, rfl⟩
            subst hw10
            go_upto_region 28 with (fail)
            clear y4
            have HH2L := Lib.hid (show u.length ≤ 1000 by omega)
            have SA2 := Lib.hid (fun (X : World) (hX : Fr No w10 X) => (lstate_any (WT10.out.now.at'.no hX) : Calls _ _ _ X fun e w' => e = .returned (.int .i64 s2.st) ∧ X = w'))
            by_cases hs2 : s2.st = 4
            · have t3 := T2.out
              rw [up_yes hs2] at t3
              simp only at t3
              rw [hs2] at SA2
              have hfn := t3.fine
              have hge := hfn.2.2 hs2
              obtain ⟨want3, hw3⟩ : ∃ x, x = (want1) ++ (u) := ⟨_, rfl⟩
              have hw3l : want3.length = (want1).length + (u).length := by rw [hw3, List.length_append]
              rw [← hw3] at t3 hfn hge
              have HW3L := Lib.hid hw3l
              clear hw3l
              have T3 := Lib.hid t3
              have HFN := Lib.hid hfn
              have HGE := Lib.hid hge
              clear hge
              clear t3 hs2 hfn
              have hsz3 : (want1).length + (u).length ≤ 1152921504606846976 := by have q1 := HL1.out; have q2 := HH2L.out; have q4 := hall2.out; (try simp only [List.length_nil, Nat.add_zero, Nat.zero_add] at q1 q2 ⊢); omega
              have HW3 := Lib.hid hw3
              clear hw3
              go_upto_region 30 with (go_at_call 12; refine (SA2.out _ (Fr.refl _ _)).mono ?_; rintro e w11 ⟨rfl, rfl⟩)
              simp only [ba_app, List.nil_append]
              rw [← HW3.out]
              have hge := HGE.out
              subst hge
              have e1 : decide (((got2).length : Int) < (got2.length : Int)) = false := decide_eq_false (by have := HFN.out.1; omega)
              have e1n : decide ((got2).length < got2.length) = false := decide_eq_false HFN.out.1
              have hsl := fun W : World => Sls.slice_to (P := Try.prog) W 9 Try.underlying9 (got2) got2.length got2.length rfl (Nat.not_lt.1 HFN.out.1)
              rw [HFN.out.2.1] at hsl
              go_wp2_with (go_at_call 12; refine (SA2.out _ (Fr.refl _ _)).mono ?_; rintro e w11 ⟨rfl, rfl⟩)
              go_roundw
              case rel => exact ⟨k + 1, nw, got2, [], got2, by go_num, rfl, rfl, rfl, rfl, by omega, by omega, by omega, mul_step hlen (by have q1 := HL1.out; have q2 := HH2L.out; have q3 := HW3L.out; have q4 := hall2.out; (try simp only [List.length_nil, Nat.add_zero] at q1 q2 q3 ⊢); omega), ⟨_, _, WT10.out.now, T3.out⟩⟩
              case measure => simp [intOf]; omega
            · have t3 := T2.out
              rw [up_not hs2] at t3
              simp only at t3
              have hfn := t3.fine
              obtain ⟨st2, hst2⟩ : ∃ st2, st2 = s2.st := ⟨_, rfl⟩
              rw [← hst2] at hs2 SA2
              have g4 : (st2 == 4) = false := by simpa using hs2
              clear hst2
              have HW3L := Lib.hid (show (0 : Nat) = 0 from rfl)
              have T3 := Lib.hid t3
              have HFN := Lib.hid hfn
              clear t3 hs2 hfn
              have e1 : decide (((want1).length : Int) < (got2.length : Int)) = false := decide_eq_false (by have := HFN.out.1; omega)
              have e1n : decide ((want1).length < got2.length) = false := decide_eq_false HFN.out.1
              have hsl := fun W : World => Sls.slice_to (P := Try.prog) W 9 Try.underlying9 (want1) got2.length got2.length rfl (Nat.not_lt.1 HFN.out.1)
              rw [HFN.out.2.1] at hsl
              go_wp2_with (go_at_call 12; refine (SA2.out _ (Fr.refl _ _)).mono ?_; rintro e w11 ⟨rfl, rfl⟩)
              go_roundw
              case rel => exact ⟨k + 1, nw, want1, u, got2, by go_num, rfl, rfl, rfl, rfl, by omega, by omega, by omega, mul_step hlen (by have q1 := HL1.out; have q2 := HH2L.out; have q3 := HW3L.out; have q4 := hall2.out; (try simp only [List.length_nil, Nat.add_zero] at q1 q2 q3 ⊢); omega), ⟨_, _, WT10.out.now, T3.out⟩⟩
              case measure => simp [intOf]; omega
        · have hpp : ((kd % 2 : Int) == 0) = false := by simpa using hp
          have hop8 := (RSl.stable ROp.stable).go HOPS.out (Kept.of_no WT8.out.now.fr (fun k hk => hk)) (fun _ h => h)
          have hbk := break_any WT8.out.now.at' T1.out.ok nw (.slice D ol d3) ops (Ahead W.heap.size) (fun k hk => Nat.lt_of_lt_of_le hk WT8.out.now.fr.size) hop8 (by rw [← HOL.out]; omega)
          have htk := T1.out.break_ ops (by rw [← HOL.out]; omega) (Run.ops_wf HOPS.out)
          have hwf := break_wf T1.out.ok nw ops (by rw [← HOL.out]; omega) (Run.ops_wf HOPS.out)
          obtain ⟨⟨s2, l2, c2⟩, h2⟩ : ∃ p, p = breakS s1 nw ops := ⟨_, rfl⟩
          rw [← h2] at hbk htk hwf
          simp only at hbk htk hwf
          have HBK := Lib.hid hbk
          have WF2 := Lib.hid hwf
          have hall := HAL.out
          obtain ⟨al, hal⟩ : ∃ x, x = Brk.allS ops := ⟨_, rfl⟩
          rw [← hal] at htk hall
          have HALE := Lib.hid hal
          clear h2 hbk hwf hop8 hal
          by_cases hc2 : c2 = 0
          · rw [if_pos hc2] at htk
            have hl2 := htk.lens
            have hul2 := up_len (s := s2) (want := (want1) ++ al) (held := ([] : Str))
            rw [List.length_append] at hl2
            try simp only [List.length_nil, Nat.add_zero] at hul2
            have q1 := HL1.out
            have hhl : ((want1) ++ al).length = (want1).length + al.length := by rw [List.length_append]
            have HW2 := Lib.hid (show (writR l2).length ≤ 1152921504606846976 by omega)
            have hgs2 : got1.length + (writR l2).length ≤ 1152921504606846976 := by omega
            obtain ⟨wt2, hwt2⟩ : ∃ x, x = writR l2 := ⟨_, rfl⟩
            have HWT2 := Lib.hid hwt2
            rw [← hwt2] at htk hgs2
            obtain ⟨got2, hgot2⟩ : ∃ x, x = got1 ++ wt2 := ⟨_, rfl⟩
            rw [← hgot2] at htk
            have HGT2 := Lib.hid hgot2
            have T2 := Lib.hid htk
            subst hc2
            clear htk hl2 hul2 hwt2 hgot2 q1
            have hall2 := Lib.hid (show al.length ≤ 1688849860214784 from hall)
            go_upto_region 26 with (first | (go_at_call 14; refine HBK.out.mono ?_; intro e w9 ht; obtain ⟨v9, G9, rfl, hrt9, hrow9⟩ := WT8.out.act ht; have WT10 := Lib.hid hrt9; have ROW9 := Lib.hid hrow9; have xo9 := hrt9.box; clear ht hrt9 hrow9) | (go_at_call 10; refine (written_big _ l2 HW2.out _ _ (row_sl ROW9.out WF2.out)).mono ?_; rintro e w10 ⟨rfl, rfl⟩; rw [← HWT2.out]))
            have y5 := xo9.cell 5
            simp only [List.getElem?_toArray, List.getElem?_cons_zero, List.getElem?_cons_succ] at y5
            clear xo9
            simp only [ba_app]
            rw [← HGT2.out]
            obtain ⟨w10, hw10⟩ : ∃ w10, w10 = w9 := ⟨_, rfl⟩
            subst hw10
            have BYT := Lib.hid (bytes_big (.slice D ol d3) ops (by have := HAL.out; omega) w10 _ ((RSl.stable ROp.stable).go HOPS.out (Kept.of_no WT10.out.now.fr (fun k hk => hk)) (fun _ h => h)))
            rw [← HALE.out] at BYT
            have hsz2 : (want1).length + al.length ≤ 1152921504606846976 := by have q1 := HL1.out; have q4 := hall2.out; omega
            go_upto_region 28 with (go_at_call 15; refine BYT.out.mono ?_; rintro e w11 ⟨rfl, rfl⟩)
            clear y5
            simp only [ba_app]
            obtain ⟨want2, hh2⟩ : ∃ x, x = (want1) ++ al := ⟨_, rfl⟩
            have HH2L := Lib.hid (show want2.length = (want1).length + al.length by rw [hh2, List.length_append])
            rw [← hh2] at T2 ⊢
            clear hh2 hhl
            have SA2 := Lib.hid (fun (X : World) (hX : Fr No w10 X) => (lstate_any (WT10.out.now.at'.no hX) : Calls _ _ _ X fun e w' => e = .returned (.int .i64 s2.st) ∧ X = w'))
            by_cases hs2 : s2.st = 4
            · have t3 := T2.out
              rw [up_yes hs2] at t3
              simp only at t3
              rw [hs2] at SA2
              have hfn := t3.fine
              have hge := hfn.2.2 hs2
              rw [List.append_nil] at t3 hfn hge
              have HW3L := Lib.hid (show (0 : Nat) = 0 from rfl)
              have T3 := Lib.hid t3
              have HFN := Lib.hid hfn
              have HGE := Lib.hid hge
              clear hge
              clear t3 hs2 hfn
              have hsz3 : (want2).length ≤ 1152921504606846976 := by have q1 := HL1.out; have q2 := HH2L.out; have q4 := hall2.out; omega
              go_upto_region 30 with (go_at_call 12; refine (SA2.out _ (Fr.refl _ _)).mono ?_; rintro e w11 ⟨rfl, rfl⟩)
              try simp only [ba_app, List.append_nil]
              have hge := HGE.out
              subst hge
              have e1 : decide (((got2).length : Int) < (got2.length : Int)) = false := decide_eq_false (by have := HFN.out.1; omega)
              have e1n : decide ((got2).length < got2.length) = false := decide_eq_false HFN.out.1
              have hsl := fun W : World => Sls.slice_to (P := Try.prog) W 9 Try.underlying9 (got2) got2.length got2.length rfl (Nat.not_lt.1 HFN.out.1)
              rw [HFN.out.2.1] at hsl
              go_wp2_with (go_at_call 12; refine (SA2.out _ (Fr.refl _ _)).mono ?_; rintro e w11 ⟨rfl, rfl⟩)
              go_roundw
              case rel => exact ⟨k + 1, nw, got2, [], got2, by go_num, rfl, rfl, rfl, rfl, by omega, by omega, by omega, mul_step hlen (by have q1 := HL1.out; have q2 := HH2L.out; have q3 := HW3L.out; have q4 := hall2.out; (try simp only [List.length_nil, Nat.add_zero] at q1 q2 q3 ⊢); omega), ⟨_, _, WT10.out.now, T3.out⟩⟩
              case measure => simp [intOf]; omega
            · have t3 := T2.out
              rw [up_not hs2] at t3
              simp only at t3
              have hfn := t3.fine
              obtain ⟨st2, hst2⟩ : ∃ st2, st2 = s2.st := ⟨_, rfl⟩
              rw [← hst2] at hs2 SA2
              have g4 : (st2 == 4) = false := by simpa using hs2
              clear hst2
              have HW3L := Lib.hid (show (0 : Nat) = 0 from rfl)
              have T3 := Lib.hid t3
              have HFN := Lib.hid hfn
              clear t3 hs2 hfn
              have e1 : decide (((want2).length : Int) < (got2.length : Int)) = false := decide_eq_false (by have := HFN.out.1; omega)
              have e1n : decide ((want2).length < got2.length) = false := decide_eq_false HFN.out.1
              have hsl := fun W : World => Sls.slice_to (P := Try.prog) W 9 Try.underlying9 (want2) got2.length got2.length rfl (Nat.not_lt.1 HFN.out.1)
              rw [HFN.out.2.1] at hsl
              go_wp2_with (go_at_call 12; refine (SA2.out _ (Fr.refl _ _)).mono ?_; rintro e w11 ⟨rfl, rfl⟩)
              go_roundw
              case rel => exact ⟨k + 1, nw, want2, ([] : Str), got2, by go_num, rfl, rfl, rfl, rfl, by omega, by omega, by omega, mul_step hlen (by have q1 := HL1.out; have q2 := HH2L.out; have q3 := HW3L.out; have q4 := hall2.out; (try simp only [List.length_nil, Nat.add_zero] at q1 q2 q3 ⊢); omega), ⟨_, _, WT10.out.now, T3.out⟩⟩
              case measure => simp [intOf]; omega
          · rw [if_neg hc2] at htk
            have hl2 := htk.lens
            have hul2 := up_len (s := s2) (want := want1) (held := ([] : Str))
            rw [List.length_append] at hl2
            try simp only [List.length_nil, Nat.add_zero] at hul2
            have q1 := HL1.out
            have HW2 := Lib.hid (show (writR l2).length ≤ 1152921504606846976 by omega)
            have hgs2 : got1.length + (writR l2).length ≤ 1152921504606846976 := by omega
            obtain ⟨wt2, hwt2⟩ : ∃ x, x = writR l2 := ⟨_, rfl⟩
            have HWT2 := Lib.hid hwt2
            rw [← hwt2] at htk hgs2
            obtain ⟨got2, hgot2⟩ : ∃ x, x = got1 ++ wt2 := ⟨_, rfl⟩
            rw [← hgot2] at htk
            have HGT2 := Lib.hid hgot2
            have T2 := Lib.hid htk
            have gc2 : (c2 == 0) = false := by simpa using hc2
            clear hc2
            clear htk hl2 hul2 hwt2 hgot2 q1
            have hall2 := Lib.hid (show al.length ≤ 1688849860214784 from hall)
            go_upto_region 26 with (first | (go_at_call 14; refine HBK.out.mono ?_; intro e w9 ht; obtain ⟨v9, G9, rfl, hrt9, hrow9⟩ := WT8.out.act ht; have WT10 := Lib.hid hrt9; have ROW9 := Lib.hid hrow9; have xo9 := hrt9.box; clear ht hrt9 hrow9) | (go_at_call 10; refine (written_big _ l2 HW2.out _ _ (row_sl ROW9.out WF2.out)).mono ?_; rintro e w10 ⟨rfl, rfl⟩; rw [← HWT2.out]))
            have y5 := xo9.cell 5
            simp only [List.getElem?_toArray, List.getElem?_cons_zero, List.getElem?_cons_succ] at y5
            clear xo9
            simp only [ba_app]
            rw [← HGT2.out]
            obtain ⟨w10, hw10⟩ : ∃ w10, w10 = w9 := ⟨_, rfl⟩
            subst hw10
            go_upto_region 28 with (fail)
            clear y5
            have HH2L := Lib.hid (show (0 : Nat) = 0 from rfl)
            have SA2 := Lib.hid (fun (X : World) (hX : Fr No w10 X) => (lstate_any (WT10.out.now.at'.no hX) : Calls _ _ _ X fun e w' => e = .returned (.int .i64 s2.st) ∧ X = w'))
            by_cases hs2 : s2.st = 4
            · have t3 := T2.out
              rw [up_yes hs2] at t3
              simp only at t3
              rw [hs2] at SA2
              have hfn := t3.fine
              have hge := hfn.2.2 hs2
              rw [List.append_nil] at t3 hfn hge
              have HW3L := Lib.hid (show (0 : Nat) = 0 from rfl)
              have T3 := Lib.hid t3
              have HFN := Lib.hid hfn
              have HGE := Lib.hid hge
              clear hge
              clear t3 hs2 hfn
              have hsz3 : (want1).length ≤ 1152921504606846976 := by have q1 := HL1.out; have q2 := HH2L.out; have q4 := hall2.out; omega
              go_upto_region 30 with (go_at_call 12; refine (SA2.out _ (Fr.refl _ _)).mono ?_; rintro e w11 ⟨rfl, rfl⟩)
              try simp only [ba_app, List.append_nil]
              have hge := HGE.out
              subst hge
              have e1 : decide (((got2).length : Int) < (got2.length : Int)) = false := decide_eq_false (by have := HFN.out.1; omega)
              have e1n : decide ((got2).length < got2.length) = false := decide_eq_false HFN.out.1
              have hsl := fun W : World => Sls.slice_to (P := Try.prog) W 9 Try.underlying9 (got2) got2.length got2.length rfl (Nat.not_lt.1 HFN.out.1)
              rw [HFN.out.2.1] at hsl
              go_wp2_with (go_at_call 12; refine (SA2.out _ (Fr.refl _ _)).mono ?_; rintro e w11 ⟨rfl, rfl⟩)
              go_roundw
              case rel => exact ⟨k + 1, nw, got2, [], got2, by go_num, rfl, rfl, rfl, rfl, by omega, by omega, by omega, mul_step hlen (by have q1 := HL1.out; have q2 := HH2L.out; have q3 := HW3L.out; have q4 := hall2.out; (try simp only [List.length_nil, Nat.add_zero] at q1 q2 q3 ⊢); omega), ⟨_, _, WT10.out.now, T3.out⟩⟩
              case measure => simp [intOf]; omega
            · have t3 := T2.out
              rw [up_not hs2] at t3
              simp only at t3
              have hfn := t3.fine
              obtain ⟨st2, hst2⟩ : ∃ st2, st2 = s2.st := ⟨_, rfl⟩
              rw [← hst2] at hs2 SA2
              have g4 : (st2 == 4) = false := by simpa using hs2
              clear hst2
              have HW3L := Lib.hid (show (0 : Nat) = 0 from rfl)
              have T3 := Lib.hid t3
              have HFN := Lib.hid hfn
              clear t3 hs2 hfn
              have e1 : decide (((want1).length : Int) < (got2.length : Int)) = false := decide_eq_false (by have := HFN.out.1; omega)
              have e1n : decide ((want1).length < got2.length) = false := decide_eq_false HFN.out.1
              have hsl := fun W : World => Sls.slice_to (P := Try.prog) W 9 Try.underlying9 (want1) got2.length got2.length rfl (Nat.not_lt.1 HFN.out.1)
              rw [HFN.out.2.1] at hsl
              go_wp2_with (go_at_call 12; refine (SA2.out _ (Fr.refl _ _)).mono ?_; rintro e w11 ⟨rfl, rfl⟩)
              go_roundw
              case rel => exact ⟨k + 1, nw, want1, ([] : Str), got2, by go_num, rfl, rfl, rfl, rfl, by omega, by omega, by omega, mul_step hlen (by have q1 := HL1.out; have q2 := HH2L.out; have q3 := HW3L.out; have q4 := hall2.out; (try simp only [List.length_nil, Nat.add_zero] at q1 q2 q3 ⊢); omega), ⟨_, _, WT10.out.now, T3.out⟩⟩
              case measure => simp [intOf]; omega
      · have tk1 := TK1.out
        rw [up_not hs1] at tk1
        simp only at tk1
        obtain ⟨st1, hst1⟩ : ∃ st1, st1 = s1.st := ⟨_, rfl⟩
        rw [← hst1] at hs1 SA1
        have g4 : (st1 == 4) = false := by simpa using hs1
        have HL1 := Lib.hid (show (0 : Nat) = 0 from rfl)
        have T1 := Lib.hid tk1
        clear hs1 hst1 tk1 TK1
        go_upto_region 19 with (go_at_call 12; refine (SA1.out _ (Fr.refl _ _)).mono ?_; rintro e w9 ⟨rfl, rfl⟩)
        clear SA1 g4
        have xo := WT8.out.box
        have x0 := xo.cell 0
        have xf0 := xo.frozen 0
        have x1 := xo.cell 1
        have xf1 := xo.frozen 1
        have x2 := xo.cell 2
        have xf2 := xo.frozen 2
        have x3 := xo.cell 3
        have xf3 := xo.frozen 3
        have x4 := xo.cell 4
        have xf4 := xo.frozen 4
        have x5 := xo.cell 5
        have xf5 := xo.frozen 5
        simp only [List.getElem?_toArray, List.getElem?_cons_zero, List.getElem?_cons_succ] at x0 x1 x2 x3 x4 x5
        clear xo
        by_cases hp : kd % 2 = 0
        · have hpp : ((kd % 2 : Int) == 0) = true := by simpa using hp
          have hsd := send_any WT8.out.now.at' T1.out.ok.len u (by omega)
          have htk := T1.out.send u
          have hwf := send_wf s1 u (by omega)
          obtain ⟨⟨s2, l2, ok2⟩, h2⟩ : ∃ p, p = sendS s1 u := ⟨_, rfl⟩
          rw [← h2] at hsd htk hwf
          simp only at hsd htk hwf
          have HSD := Lib.hid hsd
          have WF2 := Lib.hid hwf
          clear h2 hsd hwf
          cases ok2
          · simp only [Bool.false_eq_true, if_false] at htk
            have hl2 := htk.lens
            have hul2 := up_len (s := s2) (want := want) (held := held)
            rw [List.length_append] at hl2
            try simp only [List.length_nil, Nat.add_zero] at hul2
            have q1 := HL1.out
            have HW2 := Lib.hid (show (writR l2).length ≤ 1152921504606846976 by omega)
            have hgs2 : got1.length + (writR l2).length ≤ 1152921504606846976 := by omega
            obtain ⟨wt2, hwt2⟩ : ∃ x, x = writR l2 := ⟨_, rfl⟩
            have HWT2 := Lib.hid hwt2
            rw [← hwt2] at htk hgs2
            obtain ⟨got2, hgot2⟩ : ∃ x, x = got1 ++ wt2 := ⟨_, rfl⟩
            rw [← hgot2] at htk
            have HGT2 := Lib.hid hgot2
            have T2 := Lib.hid htk
            clear htk hl2 hul2 hwt2 hgot2 q1
            have hall2 := Lib.hid (show u.length ≤ 1688849860214784 from by omega)
            go_upto_region 22 with (first | (go_at_call 13; refine HSD.out.mono ?_; intro e w9 ht; obtain ⟨v9, G9, rfl, hrt9, hrow9⟩ := WT8.out.act ht; have WT10 := Lib.hid hrt9; have ROW9 := Lib.hid hrow9; have xo9 := hrt9.box; clear ht hrt9 hrow9) | (go_at_call 10; refine (written_big _ l2 HW2.out _ _ (row_sl ROW9.out WF2.out)).mono ?_; rintro e w10 ⟨rfl, rfl⟩; rw [← HWT2.out]))
            have y4 := xo9.cell 4
            simp only [List.getElem?_toArray, List.getElem?_cons_zero, List.getElem?_cons_succ] at y4
            clear xo9
            simp only [ba_app]
            rw [← HGT2.out]
            obtain ⟨w10, hw10⟩ : ∃ w10, w10 = w9 := ⟨_, rfl⟩
            subst hw10
            go_upto_region 28 with (fail)
            clear y4
            have HH2L := Lib.hid (show (0 : Nat) = 0 from rfl)
            have SA2 := Lib.hid (fun (X : World) (hX : Fr No w10 X) => (lstate_any (WT10.out.now.at'.no hX) : Calls _ _ _ X fun e w' => e = .returned (.int .i64 s2.st) ∧ X = w'))
            by_cases hs2 : s2.st = 4
            · have t3 := T2.out
              rw [up_yes hs2] at t3
              simp only at t3
              rw [hs2] at SA2
              have hfn := t3.fine
              have hge := hfn.2.2 hs2
              obtain ⟨want3, hw3⟩ : ∃ x, x = (want) ++ (held) := ⟨_, rfl⟩
              have hw3l : want3.length = (want).length + (held).length := by rw [hw3, List.length_append]
              rw [← hw3] at t3 hfn hge
              have HW3L := Lib.hid hw3l
              clear hw3l
              have T3 := Lib.hid t3
              have HFN := Lib.hid hfn
              have HGE := Lib.hid hge
              clear hge
              clear t3 hs2 hfn
              have hsz3 : (want).length + (held).length ≤ 1152921504606846976 := by have q1 := HL1.out; have q2 := HH2L.out; have q4 := hall2.out; (try simp only [List.length_nil, Nat.add_zero, Nat.zero_add] at q1 q2 ⊢); omega
              have HW3 := Lib.hid hw3
              clear hw3
              go_upto_region 30 with (go_at_call 12; refine (SA2.out _ (Fr.refl _ _)).mono ?_; rintro e w11 ⟨rfl, rfl⟩)
              simp only [ba_app, List.nil_append]
              rw [← HW3.out]
              have hge := HGE.out
              subst hge
              have e1 : decide (((got2).length : Int) < (got2.length : Int)) = false := decide_eq_false (by have := HFN.out.1; omega)
              have e1n : decide ((got2).length < got2.length) = false := decide_eq_false HFN.out.1
              have hsl := fun W : World => Sls.slice_to (P := Try.prog) W 9 Try.underlying9 (got2) got2.length got2.length rfl (Nat.not_lt.1 HFN.out.1)
              rw [HFN.out.2.1] at hsl
              go_wp2_with (go_at_call 12; refine (SA2.out _ (Fr.refl _ _)).mono ?_; rintro e w11 ⟨rfl, rfl⟩)
              go_roundw
              case rel => exact ⟨k + 1, nw, got2, [], got2, by go_num, rfl, rfl, rfl, rfl, by omega, by omega, by omega, mul_step hlen (by have q1 := HL1.out; have q2 := HH2L.out; have q3 := HW3L.out; have q4 := hall2.out; (try simp only [List.length_nil, Nat.add_zero] at q1 q2 q3 ⊢); omega), ⟨_, _, WT10.out.now, T3.out⟩⟩
              case measure => simp [intOf]; omega
            · have t3 := T2.out
              rw [up_not hs2] at t3
              simp only at t3
              have hfn := t3.fine
              obtain ⟨st2, hst2⟩ : ∃ st2, st2 = s2.st := ⟨_, rfl⟩
              rw [← hst2] at hs2 SA2
              have g4 : (st2 == 4) = false := by simpa using hs2
              clear hst2
              have HW3L := Lib.hid (show (0 : Nat) = 0 from rfl)
              have T3 := Lib.hid t3
              have HFN := Lib.hid hfn
              clear t3 hs2 hfn
              have e1 : decide (((want).length : Int) < (got2.length : Int)) = false := decide_eq_false (by have := HFN.out.1; omega)
              have e1n : decide ((want).length < got2.length) = false := decide_eq_false HFN.out.1
              have hsl := fun W : World => Sls.slice_to (P := Try.prog) W 9 Try.underlying9 (want) got2.length got2.length rfl (Nat.not_lt.1 HFN.out.1)
              rw [HFN.out.2.1] at hsl
              go_wp2_with (go_at_call 12; refine (SA2.out _ (Fr.refl _ _)).mono ?_; rintro e w11 ⟨rfl, rfl⟩)
              go_roundw
              case rel => exact ⟨k + 1, nw, want, held, got2, by go_num, rfl, rfl, rfl, rfl, by omega, by omega, by omega, mul_step hlen (by have q1 := HL1.out; have q2 := HH2L.out; have q3 := HW3L.out; have q4 := hall2.out; (try simp only [List.length_nil, Nat.add_zero] at q1 q2 q3 ⊢); omega), ⟨_, _, WT10.out.now, T3.out⟩⟩
              case measure => simp [intOf]; omega
          · simp only [if_true] at htk
            have hl2 := htk.lens
            have hul2 := up_len (s := s2) (want := want) (held := (held) ++ u)
            rw [List.length_append] at hl2
            try simp only [List.length_nil, Nat.add_zero] at hul2
            have q1 := HL1.out
            have hhl : ((held) ++ u).length = (held).length + u.length := by rw [List.length_append]
            try simp only [List.length_nil, Nat.zero_add] at hhl
            have HW2 := Lib.hid (show (writR l2).length ≤ 1152921504606846976 by omega)
            have hgs2 : got1.length + (writR l2).length ≤ 1152921504606846976 := by omega
            obtain ⟨wt2, hwt2⟩ : ∃ x, x = writR l2 := ⟨_, rfl⟩
            have HWT2 := Lib.hid hwt2
            rw [← hwt2] at htk hgs2
            obtain ⟨got2, hgot2⟩ : ∃ x, x = got1 ++ wt2 := ⟨_, rfl⟩
            rw [← hgot2] at htk
            have HGT2 := Lib.hid hgot2
            have T2 := Lib.hid htk
            clear htk hl2 hul2 hwt2 hgot2 q1
            have hall2 := Lib.hid (show u.length ≤ 1688849860214784 from by omega)
            go_upto_region 22 with (first | (go_at_call 13; refine HSD.out.mono ?_; intro e w9 ht; obtain ⟨v9, G9, rfl, hrt9, hrow9⟩ := WT8.out.act ht; have WT10 := Lib.hid hrt9; have ROW9 := Lib.hid hrow9; have xo9 := hrt9.box; clear ht hrt9 hrow9) | (go_at_call 10; refine (written_big _ l2 HW2.out _ _ (row_sl ROW9.out WF2.out)).mono ?_; rintro e w10 ⟨rfl, rfl⟩; rw [← HWT2.out]))
            have y4 := xo9.cell 4
            simp only [List.getElem?_toArray, List.getElem?_cons_zero, List.getElem?_cons_succ] at y4
            clear xo9
            simp only [ba_app]
            rw [← HGT2.out]
            obtain ⟨w10, hw10⟩ : ∃ w10, w10 = w9 := ⟨_, rfl⟩
            subst hw10
            go_upto_region 28 with (fail)
            clear y4
            simp only [ba_app]
            obtain ⟨held2, hh2⟩ : ∃ x, x = (held) ++ u := ⟨_, rfl⟩
            have HH2L := Lib.hid (show held2.length = (held).length + u.length by rw [hh2, List.length_append])
            rw [← hh2] at T2 ⊢
            clear hh2 hhl
            have SA2 := Lib.hid (fun (X : World) (hX : Fr No w10 X) => (lstate_any (WT10.out.now.at'.no hX) : Calls _ _ _ X fun e w' => e = .returned (.int .i64 s2.st) ∧ X = w'))
            by_cases hs2 : s2.st = 4
            · have t3 := T2.out
              rw [up_yes hs2] at t3
              simp only at t3
              rw [hs2] at SA2
              have hfn := t3.fine
              have hge := hfn.2.2 hs2
              obtain ⟨want3, hw3⟩ : ∃ x, x = (want) ++ (held2) := ⟨_, rfl⟩
              have hw3l : want3.length = (want).length + (held2).length := by rw [hw3, List.length_append]
              rw [← hw3] at t3 hfn hge
              have HW3L := Lib.hid hw3l
              clear hw3l
              have T3 := Lib.hid t3
              have HFN := Lib.hid hfn
              have HGE := Lib.hid hge
              clear hge
              clear t3 hs2 hfn
              have hsz3 : (want).length + (held2).length ≤ 1152921504606846976 := by have q1 := HL1.out; have q2 := HH2L.out; have q4 := hall2.out; (try simp only [List.length_nil, Nat.add_zero, Nat.zero_add] at q1 q2 ⊢); omega
              have HW3 := Lib.hid hw3
              clear hw3
              go_upto_region 30 with (go_at_call 12; refine (SA2.out _ (Fr.refl _ _)).mono ?_; rintro e w11 ⟨rfl, rfl⟩)
              simp only [ba_app, List.nil_append]
              rw [← HW3.out]
              have hge := HGE.out
              subst hge
              have e1 : decide (((got2).length : Int) < (got2.length : Int)) = false := decide_eq_false (by have := HFN.out.1; omega)
              have e1n : decide ((got2).length < got2.length) = false := decide_eq_false HFN.out.1
              have hsl := fun W : World => Sls.slice_to (P := Try.prog) W 9 Try.underlying9 (got2) got2.length got2.length rfl (Nat.not_lt.1 HFN.out.1)
              rw [HFN.out.2.1] at hsl
              go_wp2_with (go_at_call 12; refine (SA2.out _ (Fr.refl _ _)).mono ?_; rintro e w11 ⟨rfl, rfl⟩)
              go_roundw
              case rel => exact ⟨k + 1, nw, got2, [], got2, by go_num, rfl, rfl, rfl, rfl, by omega, by omega, by omega, mul_step hlen (by have q1 := HL1.out; have q2 := HH2L.out; have q3 := HW3L.out; have q4 := hall2.out; (try simp only [List.length_nil, Nat.add_zero] at q1 q2 q3 ⊢); omega), ⟨_, _, WT10.out.now, T3.out⟩⟩
              case measure => simp [intOf]; omega
            · have t3 := T2.out
              rw [up_not hs2] at t3
              simp only at t3
              have hfn := t3.fine
              obtain ⟨st2, hst2⟩ : ∃ st2, st2 = s2.st := ⟨_, rfl⟩
              rw [← hst2] at hs2 SA2
              have g4 : (st2 == 4) = false := by simpa using hs2
              clear hst2
              have HW3L := Lib.hid (show (0 : Nat) = 0 from rfl)
              have T3 := Lib.hid t3
              have HFN := Lib.hid hfn
              clear t3 hs2 hfn
              have e1 : decide (((want).length : Int) < (got2.length : Int)) = false := decide_eq_false (by have := HFN.out.1; omega)
              have e1n : decide ((want).length < got2.length) = false := decide_eq_false HFN.out.1
              have hsl := fun W : World => Sls.slice_to (P := Try.prog) W 9 Try.underlying9 (want) got2.length got2.length rfl (Nat.not_lt.1 HFN.out.1)
              rw [HFN.out.2.1] at hsl
              go_wp2_with (go_at_call 12; refine (SA2.out _ (Fr.refl _ _)).mono ?_; rintro e w11 ⟨rfl, rfl⟩)
              go_roundw
              case rel => exact ⟨k + 1, nw, want, held2, got2, by go_num, rfl, rfl, rfl, rfl, by omega, by omega, by omega, mul_step hlen (by have q1 := HL1.out; have q2 := HH2L.out; have q3 := HW3L.out; have q4 := hall2.out; (try simp only [List.length_nil, Nat.add_zero] at q1 q2 q3 ⊢); omega), ⟨_, _, WT10.out.now, T3.out⟩⟩
              case measure => simp [intOf]; omega
        · have hpp : ((kd % 2 : Int) == 0) = false := by simpa using hp
          have hop8 := (RSl.stable ROp.stable).go HOPS.out (Kept.of_no WT8.out.now.fr (fun k hk => hk)) (fun _ h => h)
          have hbk := break_any WT8.out.now.at' T1.out.ok nw (.slice D ol d3) ops (Ahead W.heap.size) (fun k hk => Nat.lt_of_lt_of_le hk WT8.out.now.fr.size) hop8 (by rw [← HOL.out]; omega)
          have htk := T1.out.break_ ops (by rw [← HOL.out]; omega) (Run.ops_wf HOPS.out)
          have hwf := break_wf T1.out.ok nw ops (by rw [← HOL.out]; omega) (Run.ops_wf HOPS.out)
          obtain ⟨⟨s2, l2, c2⟩, h2⟩ : ∃ p, p = breakS s1 nw ops := ⟨_, rfl⟩
          rw [← h2] at hbk htk hwf
          simp only at hbk htk hwf
          have HBK := Lib.hid hbk
          have WF2 := Lib.hid hwf
          have hall := HAL.out
          obtain ⟨al, hal⟩ : ∃ x, x = Brk.allS ops := ⟨_, rfl⟩
          rw [← hal] at htk hall
          have HALE := Lib.hid hal
          clear h2 hbk hwf hop8 hal
          by_cases hc2 : c2 = 0
          · rw [if_pos hc2] at htk
            have hl2 := htk.lens
            have hul2 := up_len (s := s2) (want := (want) ++ al) (held := held)
            rw [List.length_append] at hl2
            try simp only [List.length_nil, Nat.add_zero] at hul2
            have q1 := HL1.out
            have hhl : ((want) ++ al).length = (want).length + al.length := by rw [List.length_append]
            have HW2 := Lib.hid (show (writR l2).length ≤ 1152921504606846976 by omega)
            have hgs2 : got1.length + (writR l2).length ≤ 1152921504606846976 := by omega
            obtain ⟨wt2, hwt2⟩ : ∃ x, x = writR l2 := ⟨_, rfl⟩
            have HWT2 := Lib.hid hwt2
            rw [← hwt2] at htk hgs2
            obtain ⟨got2, hgot2⟩ : ∃ x, x = got1 ++ wt2 := ⟨_, rfl⟩
            rw [← hgot2] at htk
            have HGT2 := Lib.hid hgot2
            have T2 := Lib.hid htk
            subst hc2
            clear htk hl2 hul2 hwt2 hgot2 q1
            have hall2 := Lib.hid (show al.length ≤ 1688849860214784 from hall)
            go_upto_region 26 with (first | (go_at_call 14; refine HBK.out.mono ?_; intro e w9 ht; obtain ⟨v9, G9, rfl, hrt9, hrow9⟩ := WT8.out.act ht; have WT10 := Lib.hid hrt9; have ROW9 := Lib.hid hrow9; have xo9 := hrt9.box; clear ht hrt9 hrow9) | (go_at_call 10; refine (written_big _ l2 HW2.out _ _ (row_sl ROW9.out WF2.out)).mono ?_; rintro e w10 ⟨rfl, rfl⟩; rw [← HWT2.out]))
            have y5 := xo9.cell 5
            simp only [List.getElem?_toArray, List.getElem?_cons_zero, List.getElem?_cons_succ] at y5
            clear xo9
            simp only [ba_app]
            rw [← HGT2.out]
            obtain ⟨w10, hw10⟩ : ∃ w10, w10 = w9 := ⟨_, rfl⟩
            subst hw10
            have BYT := Lib.hid (bytes_big (.slice D ol d3) ops (by have := HAL.out; omega) w10 _ ((RSl.stable ROp.stable).go HOPS.out (Kept.of_no WT10.out.now.fr (fun k hk => hk)) (fun _ h => h)))
            rw [← HALE.out] at BYT
            have hsz2 : (want).length + al.length ≤ 1152921504606846976 := by have q1 := HL1.out; have q4 := hall2.out; omega
            go_upto_region 28 with (go_at_call 15; refine BYT.out.mono ?_; rintro e w11 ⟨rfl, rfl⟩)
            clear y5
            simp only [ba_app]
            obtain ⟨want2, hh2⟩ : ∃ x, x = (want) ++ al := ⟨_, rfl⟩
            have HH2L := Lib.hid (show want2.length = (want).length + al.length by rw [hh2, List.length_append])
            rw [← hh2] at T2 ⊢
            clear hh2 hhl
            have SA2 := Lib.hid (fun (X : World) (hX : Fr No w10 X) => (lstate_any (WT10.out.now.at'.no hX) : Calls _ _ _ X fun e w' => e = .returned (.int .i64 s2.st) ∧ X = w'))
            by_cases hs2 : s2.st = 4
            · have t3 := T2.out
              rw [up_yes hs2] at t3
              simp only at t3
              rw [hs2] at SA2
              have hfn := t3.fine
              have hge := hfn.2.2 hs2
              obtain ⟨want3, hw3⟩ : ∃ x, x = (want2) ++ (held) := ⟨_, rfl⟩
              have hw3l : want3.length = (want2).length + (held).length := by rw [hw3, List.length_append]
              rw [← hw3] at t3 hfn hge
              have HW3L := Lib.hid hw3l
              clear hw3l
              have T3 := Lib.hid t3
              have HFN := Lib.hid hfn
              have HGE := Lib.hid hge
              clear hge
              clear t3 hs2 hfn
              have hsz3 : (want2).length + (held).length ≤ 1152921504606846976 := by have q1 := HL1.out; have q2 := HH2L.out; have q4 := hall2.out; (try simp only [List.length_nil, Nat.add_zero, Nat.zero_add] at q1 q2 ⊢); omega
              have HW3 := Lib.hid hw3
              clear hw3
              go_upto_region 30 with (go_at_call 12; refine (SA2.out _ (Fr.refl _ _)).mono ?_; rintro e w11 ⟨rfl, rfl⟩)
              simp only [ba_app, List.nil_append]
              rw [← HW3.out]
              have hge := HGE.out
              subst hge
              have e1 : decide (((got2).length : Int) < (got2.length : Int)) = false := decide_eq_false (by have := HFN.out.1; omega)
              have e1n : decide ((got2).length < got2.length) = false := decide_eq_false HFN.out.1
              have hsl := fun W : World => Sls.slice_to (P := Try.prog) W 9 Try.underlying9 (got2) got2.length got2.length rfl (Nat.not_lt.1 HFN.out.1)
              rw [HFN.out.2.1] at hsl
              go_wp2_with (go_at_call 12; refine (SA2.out _ (Fr.refl _ _)).mono ?_; rintro e w11 ⟨rfl, rfl⟩)
              go_roundw
              case rel => exact ⟨k + 1, nw, got2, [], got2, by go_num, rfl, rfl, rfl, rfl, by omega, by omega, by omega, mul_step hlen (by have q1 := HL1.out; have q2 := HH2L.out; have q3 := HW3L.out; have q4 := hall2.out; (try simp only [List.length_nil, Nat.add_zero] at q1 q2 q3 ⊢); omega), ⟨_, _, WT10.out.now, T3.out⟩⟩
              case measure => simp [intOf]; omega
            · have t3 := T2.out
              rw [up_not hs2] at t3
              simp only at t3
              have hfn := t3.fine
              obtain ⟨st2, hst2⟩ : ∃ st2, st2 = s2.st := ⟨_, rfl⟩
              rw [← hst2] at hs2 SA2
              have g4 : (st2 == 4) = false := by simpa using hs2
              clear hst2
              have HW3L := Lib.hid (show (0 : Nat) = 0 from rfl)
              have T3 := Lib.hid t3
              have HFN := Lib.hid hfn
              clear t3 hs2 hfn
              have e1 : decide (((want2).length : Int) < (got2.length : Int)) = false := decide_eq_false (by have := HFN.out.1; omega)
              have e1n : decide ((want2).length < got2.length) = false := decide_eq_false HFN.out.1
              have hsl := fun W : World => Sls.slice_to (P := Try.prog) W 9 Try.underlying9 (want2) got2.length got2.length rfl (Nat.not_lt.1 HFN.out.1)
              rw [HFN.out.2.1] at hsl
              go_wp2_with (go_at_call 12; refine (SA2.out _ (Fr.refl _ _)).mono ?_; rintro e w11 ⟨rfl, rfl⟩)
              go_roundw
              case rel => exact ⟨k + 1, nw, want2, held, got2, by go_num, rfl, rfl, rfl, rfl, by omega, by omega, by omega, mul_step hlen (by have q1 := HL1.out; have q2 := HH2L.out; have q3 := HW3L.out; have q4 := hall2.out; (try simp only [List.length_nil, Nat.add_zero] at q1 q2 q3 ⊢); omega), ⟨_, _, WT10.out.now, T3.out⟩⟩
              case measure => simp [intOf]; omega
          · rw [if_neg hc2] at htk
            have hl2 := htk.lens
            have hul2 := up_len (s := s2) (want := want) (held := held)
            rw [List.length_append] at hl2
            try simp only [List.length_nil, Nat.add_zero] at hul2
            have q1 := HL1.out
            have HW2 := Lib.hid (show (writR l2).length ≤ 1152921504606846976 by omega)
            have hgs2 : got1.length + (writR l2).length ≤ 1152921504606846976 := by omega
            obtain ⟨wt2, hwt2⟩ : ∃ x, x = writR l2 := ⟨_, rfl⟩
            have HWT2 := Lib.hid hwt2
            rw [← hwt2] at htk hgs2
            obtain ⟨got2, hgot2⟩ : ∃ x, x = got1 ++ wt2 := ⟨_, rfl⟩
            rw [← hgot2] at htk
            have HGT2 := Lib.hid hgot2
            have T2 := Lib.hid htk
            have gc2 : (c2 == 0) = false := by simpa using hc2
            clear hc2
            clear htk hl2 hul2 hwt2 hgot2 q1
            have hall2 := Lib.hid (show al.length ≤ 1688849860214784 from hall)
            go_upto_region 26 with (first | (go_at_call 14; refine HBK.out.mono ?_; intro e w9 ht; obtain ⟨v9, G9, rfl, hrt9, hrow9⟩ := WT8.out.act ht; have WT10 := Lib.hid hrt9; have ROW9 := Lib.hid hrow9; have xo9 := hrt9.box; clear ht hrt9 hrow9) | (go_at_call 10; refine (written_big _ l2 HW2.out _ _ (row_sl ROW9.out WF2.out)).mono ?_; rintro e w10 ⟨rfl, rfl⟩; rw [← HWT2.out]))
            have y5 := xo9.cell 5
            simp only [List.getElem?_toArray, List.getElem?_cons_zero, List.getElem?_cons_succ] at y5
            clear xo9
            simp only [ba_app]
            rw [← HGT2.out]
            obtain ⟨w10, hw10⟩ : ∃ w10, w10 = w9 := ⟨_, rfl⟩
            subst hw10
            go_upto_region 28 with (fail)
            clear y5
            have HH2L := Lib.hid (show (0 : Nat) = 0 from rfl)
            have SA2 := Lib.hid (fun (X : World) (hX : Fr No w10 X) => (lstate_any (WT10.out.now.at'.no hX) : Calls _ _ _ X fun e w' => e = .returned (.int .i64 s2.st) ∧ X = w'))
            by_cases hs2 : s2.st = 4
            · have t3 := T2.out
              rw [up_yes hs2] at t3
              simp only at t3
              rw [hs2] at SA2
              have hfn := t3.fine
              have hge := hfn.2.2 hs2
              obtain ⟨want3, hw3⟩ : ∃ x, x = (want) ++ (held) := ⟨_, rfl⟩
              have hw3l : want3.length = (want).length + (held).length := by rw [hw3, List.length_append]
              rw [← hw3] at t3 hfn hge
              have HW3L := Lib.hid hw3l
              clear hw3l
              have T3 := Lib.hid t3
              have HFN := Lib.hid hfn
              have HGE := Lib.hid hge
              clear hge
              clear t3 hs2 hfn
              have hsz3 : (want).length + (held).length ≤ 1152921504606846976 := by have q1 := HL1.out; have q2 := HH2L.out; have q4 := hall2.out; (try simp only [List.length_nil, Nat.add_zero, Nat.zero_add] at q1 q2 ⊢); omega
              have HW3 := Lib.hid hw3
              clear hw3
              go_upto_region 30 with (go_at_call 12; refine (SA2.out _ (Fr.refl _ _)).mono ?_; rintro e w11 ⟨rfl, rfl⟩)
              simp only [ba_app, List.nil_append]
              rw [← HW3.out]
              have hge := HGE.out
              subst hge
              have e1 : decide (((got2).length : Int) < (got2.length : Int)) = false := decide_eq_false (by have := HFN.out.1; omega)
              have e1n : decide ((got2).length < got2.length) = false := decide_eq_false HFN.out.1
              have hsl := fun W : World => Sls.slice_to (P := Try.prog) W 9 Try.underlying9 (got2) got2.length got2.length rfl (Nat.not_lt.1 HFN.out.1)
              rw [HFN.out.2.1] at hsl
              go_wp2_with (go_at_call 12; refine (SA2.out _ (Fr.refl _ _)).mono ?_; rintro e w11 ⟨rfl, rfl⟩)
              go_roundw
              case rel => exact ⟨k + 1, nw, got2, [], got2, by go_num, rfl, rfl, rfl, rfl, by omega, by omega, by omega, mul_step hlen (by have q1 := HL1.out; have q2 := HH2L.out; have q3 := HW3L.out; have q4 := hall2.out; (try simp only [List.length_nil, Nat.add_zero] at q1 q2 q3 ⊢); omega), ⟨_, _, WT10.out.now, T3.out⟩⟩
              case measure => simp [intOf]; omega
            · have t3 := T2.out
              rw [up_not hs2] at t3
              simp only at t3
              have hfn := t3.fine
              obtain ⟨st2, hst2⟩ : ∃ st2, st2 = s2.st := ⟨_, rfl⟩
              rw [← hst2] at hs2 SA2
              have g4 : (st2 == 4) = false := by simpa using hs2
              clear hst2
              have HW3L := Lib.hid (show (0 : Nat) = 0 from rfl)
              have T3 := Lib.hid t3
              have HFN := Lib.hid hfn
              clear t3 hs2 hfn
              have e1 : decide (((want).length : Int) < (got2.length : Int)) = false := decide_eq_false (by have := HFN.out.1; omega)
              have e1n : decide ((want).length < got2.length) = false := decide_eq_false HFN.out.1
              have hsl := fun W : World => Sls.slice_to (P := Try.prog) W 9 Try.underlying9 (want) got2.length got2.length rfl (Nat.not_lt.1 HFN.out.1)
              rw [HFN.out.2.1] at hsl
              go_wp2_with (go_at_call 12; refine (SA2.out _ (Fr.refl _ _)).mono ?_; rintro e w11 ⟨rfl, rfl⟩)
              go_roundw
              case rel => exact ⟨k + 1, nw, want, held, got2, by go_num, rfl, rfl, rfl, rfl, by omega, by omega, by omega, mul_step hlen (by have q1 := HL1.out; have q2 := HH2L.out; have q3 := HW3L.out; have q4 := hall2.out; (try simp only [List.length_nil, Nat.add_zero] at q1 q2 q3 ⊢); omega), ⟨_, _, WT10.out.now, T3.out⟩⟩
              case measure => simp [intOf]; omega
    · go_wp2_with (go_at_call 6; refine (works_any _).mono ?_; rintro e w' ⟨rfl, hf⟩; have Hf := Lib.hid hf; clear hf)
      go_ret
      obtain ⟨s, G, hnow, htk⟩ := hrel.out
      exact ⟨rfl, hnow.fr.then_no Hf.out⟩
theorem walk_LineWrites (W : World) (v0 : Value) (x0 : List X19) (h0 : RSl 6 R19Z W (Ahead W.heap.size) [v0] x0) : Calls Try.prog 3 #[v0] W fun e w' => e = .returned (.bool true) ∧ Fr No W w' := writes_any v0 x0 W h0
end Ln
end Go.Proofs.Ytnfkkonmhinlcaa
