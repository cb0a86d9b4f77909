/- Package line: its reference: failed. Printed by gen_lnf.py. -/
import Derived.Test.YtnfkkonmhinlcaaLnR
namespace Go.Proofs.Ytnfkkonmhinlcaa
open Go.RowKit
set_option linter.unusedVariables false
set_option linter.unusedSimpArgs false
namespace Ln
open Run (O ROp timesR endsR dueT nextT chk chkR Fit)
def ROne (s' : S) (B : Nat → Prop) (w : World) (e : Ending) (w' : World) : Prop := ∃ vF vL, e = .returned (agL vF vL s') ∧ RL w' B vF vL s' ∧ Fr No w w'
theorem rl_one {w W : World} {B : Nat → Prop} {vF vL : Value} {s : S} (hF : Fr No w W) (hR : RL w B vF vL s) : ROne s B w (.returned (agL vF vL s)) W := ⟨vF, vL, rfl, hR.no hF, hF⟩
section
variable {w w' : World} {S0 : Nat → Prop} {vF vL : Value} {s : S}
set_option maxRecDepth 100000 in
set_option maxHeartbeats 4000000 in
theorem rfailed_any (h : RL w S0 vF vL s) {k : Int} (hk : Ok s k) (hk2 : k ≤ 1000000) (now r : Int) (hl : lateI now = false) (hr : -9223372036854775808 ≤ r ∧ r ≤ 9223372036854775807) : Calls Try.prog 59 #[agL vF vL s, .int .i64 now, .int .i64 r] w (ROne (failedS s now r) S0 w) := by
  obtain ⟨t1, t2⟩ := late_no hl
  obtain ⟨u1, u2⟩ := wait_in hk (now := now) r
  have hrule := hk.rule
  have hn0 : 0 ≤ s.n ∧ s.n ≤ 1000000 := ⟨hk.n0.1, by have := hk.n0.2; omega⟩
  clear hk hl
  obtain ⟨b, c, j, st, n, at_, first, seq, start, was, held⟩ := s
  obtain ⟨A, c1, rfl, hA1, hA2⟩ := h.first.slice
  obtain ⟨B, d1, rfl, hB1, hB2⟩ := h.seq.slice
  have H := Lib.hid h
  clear h
  have hA1 : first.length ≤ c1 := hA1
  have hB1 : seq.length ≤ d1 := hB1
  unfold maxLen at hA2 hB2
  obtain ⟨n1, hn1⟩ : ∃ n1, n1 = first.length := ⟨_, rfl⟩
  obtain ⟨m1, hm1⟩ : ∃ m1, m1 = seq.length := ⟨_, rfl⟩
  have ag : agL (.slice A first.length c1) (.slice B seq.length d1) ⟨b, c, j, st, n, at_, first, seq, start, was, held⟩ = .agg #[.int .i64 b, .int .i64 c, .int .i64 j, .int .i64 st, .int .i64 n, .int .i64 at_, .slice A n1 c1, .slice B m1 d1, .int .i64 start, .int .i64 was, .string ⟨held.toArray⟩] := by rw [hn1, hm1]; rfl
  try simp only at ag
  rw [ag]
  have AG := Lib.hid ag
  have HN := Lib.hid hn1
  have HM := Lib.hid hm1
  rw [← hn1] at hA1
  rw [← hm1] at hB1
  clear ag hn1 hm1
  have XB := Lib.hid ((Blk.new w 46 #[.int .i64 b, .int .i64 c, .int .i64 j, .int .i64 st, .int .i64 n, .int .i64 at_, .slice A n1 c1, .slice B m1 d1, .int .i64 start, .int .i64 was, .string ⟨held.toArray⟩]).alloc (.cells #[.int .i64 0, .int .i64 0, .int .i64 0, .int .i64 0, .int .i64 0, .int .i64 0, .slice none 0 0, .slice none 0 0, .int .i64 0, .int .i64 0, .string ⟨#[]⟩] 46))
  have XR := Blk.new (w.alloc (.cells #[.int .i64 b, .int .i64 c, .int .i64 j, .int .i64 st, .int .i64 n, .int .i64 at_, .slice A n1 c1, .slice B m1 d1, .int .i64 start, .int .i64 was, .string ⟨held.toArray⟩] 46)) 46 #[.int .i64 0, .int .i64 0, .int .i64 0, .int .i64 0, .int .i64 0, .int .i64 0, .slice none 0 0, .slice none 0 0, .int .i64 0, .int .i64 0, .string ⟨#[]⟩]
  have F1 := Lib.hid (((Fr.refl No w).alloc (.cells #[.int .i64 b, .int .i64 c, .int .i64 j, .int .i64 st, .int .i64 n, .int .i64 at_, .slice A n1 c1, .slice B m1 d1, .int .i64 start, .int .i64 was, .string ⟨held.toArray⟩] 46)).alloc (.cells #[.int .i64 0, .int .i64 0, .int .i64 0, .int .i64 0, .int .i64 0, .int .i64 0, .slice none 0 0, .slice none 0 0, .int .i64 0, .int .i64 0, .string ⟨#[]⟩] 46))
  rw [size_alloc] at XR
  obtain ⟨bx, hbx⟩ : ∃ bx, w.heap.size = bx := ⟨_, rfl⟩
  obtain ⟨br, hbr⟩ : ∃ br, bx + 1 = br := ⟨_, rfl⟩
  have XB := Lib.hid (show Blk _ bx _ _ by rw [← hbx]; exact XB.out)
  rw [hbx, hbr] at XR
  have XR := Lib.hid XR
  have HBX := Lib.hid hbx
  have HBR := Lib.hid hbr
  have hw : now + (Backoff.lowOf b c n.toNat + r % (j + 1)) = waitS ⟨b, c, j, st, n, at_, first, seq, start, was, held⟩ now r := rfl
  have RA := fun W => Backoff.rat_any b c j n now r W hrule hn0.1 hn0.2 (Run.isT_iff.2 ⟨t1, by omega⟩) hr
  rw [hw] at RA
  obtain ⟨p1, p2⟩ : 0 ≤ n ∧ n ≤ 1000000 := hn0
  have HE := Lib.hid (show failedS ⟨b, c, j, st, n, at_, first, seq, start, was, held⟩ now r = ⟨b, c, j, 1, n + 1, waitS ⟨b, c, j, st, n, at_, first, seq, start, was, held⟩ now r, first, [], start, was, []⟩ from rfl)
  obtain ⟨x, hx⟩ : ∃ x, waitS ⟨b, c, j, st, n, at_, first, seq, start, was, held⟩ now r = x := ⟨_, rfl⟩
  rw [hx] at RA HE u2
  rw [decide_eq_true (show x ≤ 1099511627776 by omega)] at RA
  have RA := Lib.hid RA
  clear u1 hx hw hrule
  go_enter Try.func59, Try.ntmps59
  go_upto_region 1 with (fail)
  generalize (w.alloc (.cells #[.int .i64 b, .int .i64 c, .int .i64 j, .int .i64 st, .int .i64 n, .int .i64 at_, .slice A n1 c1, .slice B m1 d1, .int .i64 start, .int .i64 was, .string ⟨held.toArray⟩] 46)).alloc (.cells #[.int .i64 0, .int .i64 0, .int .i64 0, .int .i64 0, .int .i64 0, .int .i64 0, .slice none 0 0, .slice none 0 0, .int .i64 0, .int .i64 0, .string ⟨#[]⟩] 46) = w1 at XB XR F1 ⊢
  have hbb : bx ≠ br := by omega
  have hbc : br ≠ bx := by omega
  clear hbx hbr
  have hbl := XR.out.lt
  have hbd : br ≠ w1.heap.size := by omega
  have hbm := XB.out.lt
  have hbe : bx ≠ w1.heap.size := by omega
  have xo := XB.out
  have x0 := xo.cell 0
  have x1 := xo.cell 1
  have x2 := xo.cell 2
  have x3 := xo.cell 3
  have x4 := xo.cell 4
  have x5 := xo.cell 5
  have x6 := xo.cell 6
  have x7 := xo.cell 7
  have x8 := xo.cell 8
  have x9 := xo.cell 9
  have x10 := xo.cell 10
  have xf0 := xo.frozen 0
  have xf1 := xo.frozen 1
  have xf2 := xo.frozen 2
  have xf3 := xo.frozen 3
  have xf4 := xo.frozen 4
  have xf5 := xo.frozen 5
  have xf6 := xo.frozen 6
  have xf7 := xo.frozen 7
  have xf8 := xo.frozen 8
  have xf9 := xo.frozen 9
  have xf10 := xo.frozen 10
  simp only [List.getElem?_toArray, List.getElem?_cons_zero, List.getElem?_cons_succ] at x0 x1 x2 x3 x4 x5 x6 x7 x8 x9 x10
  clear xo
  have ro := XR.out
  have r0 := ro.cell 0
  have r1 := ro.cell 1
  have r2 := ro.cell 2
  have r3 := ro.cell 3
  have r4 := ro.cell 4
  have r5 := ro.cell 5
  have r6 := ro.cell 6
  have r7 := ro.cell 7
  have r8 := ro.cell 8
  have r9 := ro.cell 9
  have r10 := ro.cell 10
  have rf0 := ro.frozen 0
  have rf1 := ro.frozen 1
  have rf2 := ro.frozen 2
  have rf3 := ro.frozen 3
  have rf4 := ro.frozen 4
  have rf5 := ro.frozen 5
  have rf6 := ro.frozen 6
  have rf7 := ro.frozen 7
  have rf8 := ro.frozen 8
  have rf9 := ro.frozen 9
  have rf10 := ro.frozen 10
  simp only [List.getElem?_toArray, List.getElem?_cons_zero, List.getElem?_cons_succ] at r0 r1 r2 r3 r4 r5 r6 r7 r8 r9 r10
  clear ro
  go_wp2_with fail
  refine (RA.out _).mono ?_
  rintro e w2 ⟨rfl, rfl⟩
  go_wp2_with fail
  clear x0 x1 x2 x3 x4 x5 x6 x7 x8 x9 x10 xf0 xf1 xf2 xf3 xf4 xf5 xf6 xf7 xf8 xf9 xf10
  clear r0 r1 r2 r3 r4 r5 r6 r7 r8 r9 r10 rf0 rf1 rf2 rf3 rf4 rf5 rf6 rf7 rf8 rf9 rf10
  have b9 := XR.out
  have b9 := b9.far (p := ⟨bx, 4, none⟩) hbc (.int .i64 (n + 1))
  have b9 := b9.far (p := ⟨bx, 3, none⟩) hbc (.int .i64 1)
  have b9 := b9.far (p := ⟨bx, 5, none⟩) hbc (.int .i64 x)
  have b9 := b9.far (p := ⟨bx, 7, none⟩) hbc (.slice none 0 0)
  have b9 := b9.far (p := ⟨bx, 10, none⟩) hbc (.string ⟨#[]⟩)
  have b9 := b9.put 0 (.int .i64 b)
  have b9 := b9.put 1 (.int .i64 c)
  have b9 := b9.put 2 (.int .i64 j)
  have b9 := b9.put 3 (.int .i64 1)
  have b9 := b9.put 4 (.int .i64 (n + 1))
  have b9 := b9.put 5 (.int .i64 x)
  have b9 := b9.put 6 (.slice A n1 c1)
  have b9 := b9.put 7 (.slice none 0 0)
  have b9 := b9.put 8 (.int .i64 start)
  have b9 := b9.put 9 (.int .i64 was)
  have b9 := b9.put 10 (.string ⟨#[]⟩)
  simp only [List.setIfInBounds_toArray, List.set_cons_zero, List.set_cons_succ] at b9
  have e0 := b9.cell 0
  have e1 := b9.cell 1
  have e2 := b9.cell 2
  have e3 := b9.cell 3
  have e4 := b9.cell 4
  have e5 := b9.cell 5
  have e6 := b9.cell 6
  have e7 := b9.cell 7
  have e8 := b9.cell 8
  have e9 := b9.cell 9
  have e10 := b9.cell 10
  simp only [List.getElem?_toArray, List.getElem?_cons_zero, List.getElem?_cons_succ] at e0 e1 e2 e3 e4 e5 e6 e7 e8 e9 e10
  clear b9
  have ea : agL (.slice A first.length c1) (.slice none 0 0) ⟨b, c, j, 1, n + 1, x, first, [], start, was, []⟩ = .agg #[.int .i64 b, .int .i64 c, .int .i64 j, .int .i64 1, .int .i64 (n + 1), .int .i64 x, .slice A n1 c1, .slice none 0 0, .int .i64 start, .int .i64 was, .string ⟨#[]⟩] := by rw [HN.out]; rfl
  have hbw : w.heap.size ≤ bx := by have := HBX.out; omega
  have hbv : w.heap.size ≤ br := by have := HBX.out; have := HBR.out; omega
  refine bodyPost_ret (v := .agg #[.int .i64 b, .int .i64 c, .int .i64 j, .int .i64 1, .int .i64 (n + 1), .int .i64 x, .slice A n1 c1, .slice none 0 0, .int .i64 start, .int .i64 was, .string ⟨#[]⟩]) ?_ rfl ?_
  · simp [results, Try.f59, go_sem, e0, e1, e2, e3, e4, e5, e6, e7, e8, e9, e10]
  · rw [HE.out, ← ea]
    refine rl_one (vF := .slice A first.length c1) (vL := .slice none 0 0) (s := ⟨b, c, j, 1, n + 1, x, first, [], start, was, []⟩) ?_ ?_
    · (repeat first | with_reducible refine Fr.alloc ?_ _ | with_reducible refine Fr.setCell ?_ (.inr (by first | exact hbw | exact hbv)) _)
      exact F1.out
    · exact ⟨H.out.first, ops_nil _ _, H.out.lt⟩
end
end Ln
end Go.Proofs.Ytnfkkonmhinlcaa
/- Package line: its reference: Lost. Printed by gen_lng.py. -/
namespace Go.Proofs.Ytnfkkonmhinlcaa
open Go.RowKit
set_option linter.unusedVariables false
set_option linter.unusedSimpArgs false
namespace Ln
open Run (O ROp timesR endsR dueT nextT chk chkR Fit)
def RFlag (r : S × Bool) (B : Nat → Prop) (w : World) (e : Ending) (w' : World) : Prop := ∃ vF vL, e = .returned (.tuple #[agL vF vL r.1, .bool r.2]) ∧ RL w' B vF vL r.1 ∧ Fr No w w'
theorem rl_flag {w W : World} {B : Nat → Prop} {vF vL : Value} {s : S} {q : Bool} (hF : Fr No w W) (hR : RL w B vF vL s) : RFlag (s, q) B w (.returned (.tuple #[agL vF vL s, .bool q])) W := ⟨vF, vL, rfl, hR.no hF, hF⟩
theorem rl_flag2 {w w2 W : World} {B : Nat → Prop} {vF vL : Value} {s : S} {q : Bool} (h2 : Fr No w w2) (hF : Fr No w W) (hF2 : Fr (fun k => w.heap.size ≤ k) w2 W) (hB : ∀ k, B k → k < w.heap.size) (hR : RL w2 B vF vL s) : RFlag (s, q) B w (.returned (.tuple #[agL vF vL s, .bool q])) W := ⟨vF, vL, rfl, hR.fr hF2 (fun k hk g => by have := hB k hk; omega), hF⟩
section
variable {w w' : World} {S0 : Nat → Prop} {vF vL : Value} {s : S}
set_option maxRecDepth 100000 in
set_option maxHeartbeats 4000000 in
theorem rlost_any (h : RL w S0 vF vL s) {k : Int} (hk : Ok s k) (hk2 : k ≤ 1000000) (now r : Int) (hr : -9223372036854775808 ≤ r ∧ r ≤ 9223372036854775807) : Calls Try.prog 41 #[agL vF vL s, .int .i64 now, .int .i64 r] w (RFlag (lostS s now r) S0 w) := by
  have HK := Lib.hid hk
  clear hk
  obtain ⟨b, c, j, st, n, at_, first, seq, start, was, held⟩ := s
  obtain ⟨A, c1, rfl, hA1, hA2⟩ := h.first.slice
  obtain ⟨B, d1, rfl, hB1, hB2⟩ := h.seq.slice
  have H := Lib.hid h
  clear h
  have hA1 : first.length ≤ c1 := hA1
  have hB1 : seq.length ≤ d1 := hB1
  unfold maxLen at hA2 hB2
  obtain ⟨n1, hn1⟩ : ∃ n1, n1 = first.length := ⟨_, rfl⟩
  obtain ⟨m1, hm1⟩ : ∃ m1, m1 = seq.length := ⟨_, rfl⟩
  have ag : agL (.slice A first.length c1) (.slice B seq.length d1) ⟨b, c, j, st, n, at_, first, seq, start, was, held⟩ = .agg #[.int .i64 b, .int .i64 c, .int .i64 j, .int .i64 st, .int .i64 n, .int .i64 at_, .slice A n1 c1, .slice B m1 d1, .int .i64 start, .int .i64 was, .string ⟨held.toArray⟩] := by rw [hn1, hm1]; rfl
  try simp only at ag
  rw [ag]
  have AG := Lib.hid ag
  have HN := Lib.hid hn1
  have HM := Lib.hid hm1
  rw [← hn1] at hA1
  rw [← hm1] at hB1
  clear ag hn1 hm1
  have XB := Lib.hid ((Blk.new w 46 #[.int .i64 b, .int .i64 c, .int .i64 j, .int .i64 st, .int .i64 n, .int .i64 at_, .slice A n1 c1, .slice B m1 d1, .int .i64 start, .int .i64 was, .string ⟨held.toArray⟩]).alloc (.cells #[.int .i64 0, .int .i64 0, .int .i64 0, .int .i64 0, .int .i64 0, .int .i64 0, .slice none 0 0, .slice none 0 0, .int .i64 0, .int .i64 0, .string ⟨#[]⟩] 46))
  have XR := Blk.new (w.alloc (.cells #[.int .i64 b, .int .i64 c, .int .i64 j, .int .i64 st, .int .i64 n, .int .i64 at_, .slice A n1 c1, .slice B m1 d1, .int .i64 start, .int .i64 was, .string ⟨held.toArray⟩] 46)) 46 #[.int .i64 0, .int .i64 0, .int .i64 0, .int .i64 0, .int .i64 0, .int .i64 0, .slice none 0 0, .slice none 0 0, .int .i64 0, .int .i64 0, .string ⟨#[]⟩]
  have F1 := Lib.hid (((Fr.refl No w).alloc (.cells #[.int .i64 b, .int .i64 c, .int .i64 j, .int .i64 st, .int .i64 n, .int .i64 at_, .slice A n1 c1, .slice B m1 d1, .int .i64 start, .int .i64 was, .string ⟨held.toArray⟩] 46)).alloc (.cells #[.int .i64 0, .int .i64 0, .int .i64 0, .int .i64 0, .int .i64 0, .int .i64 0, .slice none 0 0, .slice none 0 0, .int .i64 0, .int .i64 0, .string ⟨#[]⟩] 46))
  rw [size_alloc] at XR
  obtain ⟨bx, hbx⟩ : ∃ bx, w.heap.size = bx := ⟨_, rfl⟩
  obtain ⟨br, hbr⟩ : ∃ br, bx + 1 = br := ⟨_, rfl⟩
  have XB := Lib.hid (show Blk _ bx _ _ by rw [← hbx]; exact XB.out)
  rw [hbx, hbr] at XR
  have XR := Lib.hid XR
  have HBX := Lib.hid hbx
  have HBR := Lib.hid hbr
  by_cases h3 : st < 3 ∨ lateI now = true
  · have HE := Lib.hid (show lostS ⟨b, c, j, st, n, at_, first, seq, start, was, held⟩ now r = (⟨b, c, j, st, n, at_, first, seq, start, was, held⟩, false) from if_pos h3)
    have hc : st < 3 ∨ 3 ≤ st ∧ lateI now = true := by
      by_cases g : st < 3
      · exact .inl g
      · exact .inr ⟨by omega, h3.resolve_left g⟩
    clear h3
    rcases hc with g | ⟨g, g2⟩
    · go_enter Try.func41, Try.ntmps41
      go_upto_region 1 with (fail)
      generalize (w.alloc (.cells #[.int .i64 b, .int .i64 c, .int .i64 j, .int .i64 st, .int .i64 n, .int .i64 at_, .slice A n1 c1, .slice B m1 d1, .int .i64 start, .int .i64 was, .string ⟨held.toArray⟩] 46)).alloc (.cells #[.int .i64 0, .int .i64 0, .int .i64 0, .int .i64 0, .int .i64 0, .int .i64 0, .slice none 0 0, .slice none 0 0, .int .i64 0, .int .i64 0, .string ⟨#[]⟩] 46) = w1 at XB XR F1 ⊢
      have hbb : bx ≠ br := by omega
      have hbc : br ≠ bx := by omega
      clear hbx hbr
      have hbl := XR.out.lt
      have hbd : br ≠ w1.heap.size := by omega
      have hbm := XB.out.lt
      have hbe : bx ≠ w1.heap.size := by omega
      have xo := XB.out
      have x0 := xo.cell 0
      have x1 := xo.cell 1
      have x2 := xo.cell 2
      have x3 := xo.cell 3
      have x4 := xo.cell 4
      have x5 := xo.cell 5
      have x6 := xo.cell 6
      have x7 := xo.cell 7
      have x8 := xo.cell 8
      have x9 := xo.cell 9
      have x10 := xo.cell 10
      have xf0 := xo.frozen 0
      have xf1 := xo.frozen 1
      have xf2 := xo.frozen 2
      have xf3 := xo.frozen 3
      have xf4 := xo.frozen 4
      have xf5 := xo.frozen 5
      have xf6 := xo.frozen 6
      have xf7 := xo.frozen 7
      have xf8 := xo.frozen 8
      have xf9 := xo.frozen 9
      have xf10 := xo.frozen 10
      simp only [List.getElem?_toArray, List.getElem?_cons_zero, List.getElem?_cons_succ] at x0 x1 x2 x3 x4 x5 x6 x7 x8 x9 x10
      clear xo
      have ro := XR.out
      have r0 := ro.cell 0
      have r1 := ro.cell 1
      have r2 := ro.cell 2
      have r3 := ro.cell 3
      have r4 := ro.cell 4
      have r5 := ro.cell 5
      have r6 := ro.cell 6
      have r7 := ro.cell 7
      have r8 := ro.cell 8
      have r9 := ro.cell 9
      have r10 := ro.cell 10
      have rf0 := ro.frozen 0
      have rf1 := ro.frozen 1
      have rf2 := ro.frozen 2
      have rf3 := ro.frozen 3
      have rf4 := ro.frozen 4
      have rf5 := ro.frozen 5
      have rf6 := ro.frozen 6
      have rf7 := ro.frozen 7
      have rf8 := ro.frozen 8
      have rf9 := ro.frozen 9
      have rf10 := ro.frozen 10
      simp only [List.getElem?_toArray, List.getElem?_cons_zero, List.getElem?_cons_succ] at r0 r1 r2 r3 r4 r5 r6 r7 r8 r9 r10
      clear ro
      go_wp2_with fail
      clear x0 x1 x2 x3 x4 x5 x6 x7 x8 x9 x10 xf0 xf1 xf2 xf3 xf4 xf5 xf6 xf7 xf8 xf9 xf10
      clear r0 r1 r2 r3 r4 r5 r6 r7 r8 r9 r10 rf0 rf1 rf2 rf3 rf4 rf5 rf6 rf7 rf8 rf9 rf10
      have b9 := XR.out
      have b9 := b9.put 0 (.int .i64 b)
      have b9 := b9.put 1 (.int .i64 c)
      have b9 := b9.put 2 (.int .i64 j)
      have b9 := b9.put 3 (.int .i64 st)
      have b9 := b9.put 4 (.int .i64 n)
      have b9 := b9.put 5 (.int .i64 at_)
      have b9 := b9.put 6 (.slice A n1 c1)
      have b9 := b9.put 7 (.slice B m1 d1)
      have b9 := b9.put 8 (.int .i64 start)
      have b9 := b9.put 9 (.int .i64 was)
      have b9 := b9.put 10 (.string ⟨held.toArray⟩)
      simp only [List.setIfInBounds_toArray, List.set_cons_zero, List.set_cons_succ] at b9
      have e0 := b9.cell 0
      have e1 := b9.cell 1
      have e2 := b9.cell 2
      have e3 := b9.cell 3
      have e4 := b9.cell 4
      have e5 := b9.cell 5
      have e6 := b9.cell 6
      have e7 := b9.cell 7
      have e8 := b9.cell 8
      have e9 := b9.cell 9
      have e10 := b9.cell 10
      simp only [List.getElem?_toArray, List.getElem?_cons_zero, List.getElem?_cons_succ] at e0 e1 e2 e3 e4 e5 e6 e7 e8 e9 e10
      clear b9
      have ea : agL (.slice A first.length c1) (.slice B seq.length d1) ⟨b, c, j, st, n, at_, first, seq, start, was, held⟩ = .agg #[.int .i64 b, .int .i64 c, .int .i64 j, .int .i64 st, .int .i64 n, .int .i64 at_, .slice A n1 c1, .slice B m1 d1, .int .i64 start, .int .i64 was, .string ⟨held.toArray⟩] := by rw [HM.out, HN.out]; rfl
      have hbw : w.heap.size ≤ bx := by have := HBX.out; omega
      have hbv : w.heap.size ≤ br := by have := HBX.out; have := HBR.out; omega
      refine bodyPost_ret (v := .tuple #[.agg #[.int .i64 b, .int .i64 c, .int .i64 j, .int .i64 st, .int .i64 n, .int .i64 at_, .slice A n1 c1, .slice B m1 d1, .int .i64 start, .int .i64 was, .string ⟨held.toArray⟩], .bool false]) ?_ rfl ?_
      · simp [results, Try.f41, go_sem, e0, e1, e2, e3, e4, e5, e6, e7, e8, e9, e10]
      · rw [HE.out, ← ea]
        refine rl_flag (vF := .slice A first.length c1) (vL := .slice B seq.length d1) (s := ⟨b, c, j, st, n, at_, first, seq, start, was, held⟩) ?_ ?_
        · (repeat first | with_reducible refine Fr.alloc ?_ _ | with_reducible refine Fr.setCell ?_ (.inr (by first | exact hbw | exact hbv)) _)
          exact F1.out
        · exact ⟨H.out.first, H.out.seq, H.out.lt⟩
    · have G2 := Lib.hid g2
      clear g2
      go_enter Try.func41, Try.ntmps41
      go_upto_region 1 with (fail)
      generalize (w.alloc (.cells #[.int .i64 b, .int .i64 c, .int .i64 j, .int .i64 st, .int .i64 n, .int .i64 at_, .slice A n1 c1, .slice B m1 d1, .int .i64 start, .int .i64 was, .string ⟨held.toArray⟩] 46)).alloc (.cells #[.int .i64 0, .int .i64 0, .int .i64 0, .int .i64 0, .int .i64 0, .int .i64 0, .slice none 0 0, .slice none 0 0, .int .i64 0, .int .i64 0, .string ⟨#[]⟩] 46) = w1 at XB XR F1 ⊢
      have hbb : bx ≠ br := by omega
      have hbc : br ≠ bx := by omega
      clear hbx hbr
      have hbl := XR.out.lt
      have hbd : br ≠ w1.heap.size := by omega
      have hbm := XB.out.lt
      have hbe : bx ≠ w1.heap.size := by omega
      have xo := XB.out
      have x0 := xo.cell 0
      have x1 := xo.cell 1
      have x2 := xo.cell 2
      have x3 := xo.cell 3
      have x4 := xo.cell 4
      have x5 := xo.cell 5
      have x6 := xo.cell 6
      have x7 := xo.cell 7
      have x8 := xo.cell 8
      have x9 := xo.cell 9
      have x10 := xo.cell 10
      have xf0 := xo.frozen 0
      have xf1 := xo.frozen 1
      have xf2 := xo.frozen 2
      have xf3 := xo.frozen 3
      have xf4 := xo.frozen 4
      have xf5 := xo.frozen 5
      have xf6 := xo.frozen 6
      have xf7 := xo.frozen 7
      have xf8 := xo.frozen 8
      have xf9 := xo.frozen 9
      have xf10 := xo.frozen 10
      simp only [List.getElem?_toArray, List.getElem?_cons_zero, List.getElem?_cons_succ] at x0 x1 x2 x3 x4 x5 x6 x7 x8 x9 x10
      clear xo
      have ro := XR.out
      have r0 := ro.cell 0
      have r1 := ro.cell 1
      have r2 := ro.cell 2
      have r3 := ro.cell 3
      have r4 := ro.cell 4
      have r5 := ro.cell 5
      have r6 := ro.cell 6
      have r7 := ro.cell 7
      have r8 := ro.cell 8
      have r9 := ro.cell 9
      have r10 := ro.cell 10
      have rf0 := ro.frozen 0
      have rf1 := ro.frozen 1
      have rf2 := ro.frozen 2
      have rf3 := ro.frozen 3
      have rf4 := ro.frozen 4
      have rf5 := ro.frozen 5
      have rf6 := ro.frozen 6
      have rf7 := ro.frozen 7
      have rf8 := ro.frozen 8
      have rf9 := ro.frozen 9
      have rf10 := ro.frozen 10
      simp only [List.getElem?_toArray, List.getElem?_cons_zero, List.getElem?_cons_succ] at r0 r1 r2 r3 r4 r5 r6 r7 r8 r9 r10
      clear ro
      go_wp2_with (go_at_call 58; refine (rlate_any _ _).mono ?_; rintro e w2 ⟨rfl, rfl⟩; rw [G2.out])
      clear x0 x1 x2 x3 x4 x5 x6 x7 x8 x9 x10 xf0 xf1 xf2 xf3 xf4 xf5 xf6 xf7 xf8 xf9 xf10
      clear r0 r1 r2 r3 r4 r5 r6 r7 r8 r9 r10 rf0 rf1 rf2 rf3 rf4 rf5 rf6 rf7 rf8 rf9 rf10
      have b9 := XR.out
      have b9 := b9.put 0 (.int .i64 b)
      have b9 := b9.put 1 (.int .i64 c)
      have b9 := b9.put 2 (.int .i64 j)
      have b9 := b9.put 3 (.int .i64 st)
      have b9 := b9.put 4 (.int .i64 n)
      have b9 := b9.put 5 (.int .i64 at_)
      have b9 := b9.put 6 (.slice A n1 c1)
      have b9 := b9.put 7 (.slice B m1 d1)
      have b9 := b9.put 8 (.int .i64 start)
      have b9 := b9.put 9 (.int .i64 was)
      have b9 := b9.put 10 (.string ⟨held.toArray⟩)
      simp only [List.setIfInBounds_toArray, List.set_cons_zero, List.set_cons_succ] at b9
      have e0 := b9.cell 0
      have e1 := b9.cell 1
      have e2 := b9.cell 2
      have e3 := b9.cell 3
      have e4 := b9.cell 4
      have e5 := b9.cell 5
      have e6 := b9.cell 6
      have e7 := b9.cell 7
      have e8 := b9.cell 8
      have e9 := b9.cell 9
      have e10 := b9.cell 10
      simp only [List.getElem?_toArray, List.getElem?_cons_zero, List.getElem?_cons_succ] at e0 e1 e2 e3 e4 e5 e6 e7 e8 e9 e10
      clear b9
      have ea : agL (.slice A first.length c1) (.slice B seq.length d1) ⟨b, c, j, st, n, at_, first, seq, start, was, held⟩ = .agg #[.int .i64 b, .int .i64 c, .int .i64 j, .int .i64 st, .int .i64 n, .int .i64 at_, .slice A n1 c1, .slice B m1 d1, .int .i64 start, .int .i64 was, .string ⟨held.toArray⟩] := by rw [HM.out, HN.out]; rfl
      have hbw : w.heap.size ≤ bx := by have := HBX.out; omega
      have hbv : w.heap.size ≤ br := by have := HBX.out; have := HBR.out; omega
      refine bodyPost_ret (v := .tuple #[.agg #[.int .i64 b, .int .i64 c, .int .i64 j, .int .i64 st, .int .i64 n, .int .i64 at_, .slice A n1 c1, .slice B m1 d1, .int .i64 start, .int .i64 was, .string ⟨held.toArray⟩], .bool false]) ?_ rfl ?_
      · simp [results, Try.f41, go_sem, e0, e1, e2, e3, e4, e5, e6, e7, e8, e9, e10]
      · rw [HE.out, ← ea]
        refine rl_flag (vF := .slice A first.length c1) (vL := .slice B seq.length d1) (s := ⟨b, c, j, st, n, at_, first, seq, start, was, held⟩) ?_ ?_
        · (repeat first | with_reducible refine Fr.alloc ?_ _ | with_reducible refine Fr.setCell ?_ (.inr (by first | exact hbw | exact hbv)) _)
          exact F1.out
        · exact ⟨H.out.first, H.out.seq, H.out.lt⟩
  · obtain ⟨h3, h4⟩ := not_or.1 h3
    have h4 : lateI now = false := by simpa using h4
    have HE := Lib.hid (show lostS ⟨b, c, j, st, n, at_, first, seq, start, was, held⟩ now r = (failedS ⟨b, c, j, st, n, at_, first, seq, start, was, held⟩ now r, true) from if_neg (by rw [h4]; simpa using h3))
    have g : 3 ≤ st := by omega
    have G2 := Lib.hid h4
    clear h3 h4
    go_enter Try.func41, Try.ntmps41
    go_upto_region 1 with (fail)
    generalize (w.alloc (.cells #[.int .i64 b, .int .i64 c, .int .i64 j, .int .i64 st, .int .i64 n, .int .i64 at_, .slice A n1 c1, .slice B m1 d1, .int .i64 start, .int .i64 was, .string ⟨held.toArray⟩] 46)).alloc (.cells #[.int .i64 0, .int .i64 0, .int .i64 0, .int .i64 0, .int .i64 0, .int .i64 0, .slice none 0 0, .slice none 0 0, .int .i64 0, .int .i64 0, .string ⟨#[]⟩] 46) = w1 at XB XR F1 ⊢
    have hbb : bx ≠ br := by omega
    have hbc : br ≠ bx := by omega
    clear hbx hbr
    have hbl := XR.out.lt
    have hbd : br ≠ w1.heap.size := by omega
    have hbm := XB.out.lt
    have hbe : bx ≠ w1.heap.size := by omega
    have xo := XB.out
    have x0 := xo.cell 0
    have x1 := xo.cell 1
    have x2 := xo.cell 2
    have x3 := xo.cell 3
    have x4 := xo.cell 4
    have x5 := xo.cell 5
    have x6 := xo.cell 6
    have x7 := xo.cell 7
    have x8 := xo.cell 8
    have x9 := xo.cell 9
    have x10 := xo.cell 10
    have xf0 := xo.frozen 0
    have xf1 := xo.frozen 1
    have xf2 := xo.frozen 2
    have xf3 := xo.frozen 3
    have xf4 := xo.frozen 4
    have xf5 := xo.frozen 5
    have xf6 := xo.frozen 6
    have xf7 := xo.frozen 7
    have xf8 := xo.frozen 8
    have xf9 := xo.frozen 9
    have xf10 := xo.frozen 10
    simp only [List.getElem?_toArray, List.getElem?_cons_zero, List.getElem?_cons_succ] at x0 x1 x2 x3 x4 x5 x6 x7 x8 x9 x10
    clear xo
    have RF := rfailed_any (H.out.no F1.out) HK.out hk2 now r G2.out hr
    simp only [AG.out] at RF
    have RF := Lib.hid RF
    go_wp2_with (go_at_call 58; refine (rlate_any _ _).mono ?_; rintro e w2 ⟨rfl, rfl⟩; rw [G2.out])
    refine RF.out.mono ?_
    rintro e w2 ⟨vF, vL, rfl, hR, hf⟩
    obtain ⟨A2, c2, rfl, -, -⟩ := hR.first.slice
    obtain ⟨B2, d2, rfl, -, -⟩ := hR.seq.slice
    obtain ⟨x, hx⟩ : ∃ x, waitS ⟨b, c, j, st, n, at_, first, seq, start, was, held⟩ now r = x := ⟨_, rfl⟩
    have ev : agL (.slice A2 (failedS ⟨b, c, j, st, n, at_, first, seq, start, was, held⟩ now r).first.length c2) (.slice B2 (failedS ⟨b, c, j, st, n, at_, first, seq, start, was, held⟩ now r).seq.length d2) (failedS ⟨b, c, j, st, n, at_, first, seq, start, was, held⟩ now r) = .agg #[.int .i64 b, .int .i64 c, .int .i64 j, .int .i64 1, .int .i64 (n + 1), .int .i64 x, .slice A2 n1 c2, .slice B2 0 d2, .int .i64 start, .int .i64 was, .string ⟨#[]⟩] := by rw [← hx, HN.out]; rfl
    rw [ev]
    have EV := Lib.hid ev
    have HR := Lib.hid hR
    have F2 := Lib.hid (F1.out.then_no hf)
    have XR2 := Lib.hid (XR.out.fr hf (fun h => h))
    have hbl2 := XR2.out.lt
    clear hx ev hR hf
    clear x0 x1 x2 x3 x4 x5 x6 x7 x8 x9 x10 xf0 xf1 xf2 xf3 xf4 xf5 xf6 xf7 xf8 xf9 xf10
    have ro := XR2.out
    have r0 := ro.cell 0
    have r1 := ro.cell 1
    have r2 := ro.cell 2
    have r3 := ro.cell 3
    have r4 := ro.cell 4
    have r5 := ro.cell 5
    have r6 := ro.cell 6
    have r7 := ro.cell 7
    have r8 := ro.cell 8
    have r9 := ro.cell 9
    have r10 := ro.cell 10
    have rf0 := ro.frozen 0
    have rf1 := ro.frozen 1
    have rf2 := ro.frozen 2
    have rf3 := ro.frozen 3
    have rf4 := ro.frozen 4
    have rf5 := ro.frozen 5
    have rf6 := ro.frozen 6
    have rf7 := ro.frozen 7
    have rf8 := ro.frozen 8
    have rf9 := ro.frozen 9
    have rf10 := ro.frozen 10
    simp only [List.getElem?_toArray, List.getElem?_cons_zero, List.getElem?_cons_succ] at r0 r1 r2 r3 r4 r5 r6 r7 r8 r9 r10
    clear ro
    go_wp2_with fail
    clear r0 r1 r2 r3 r4 r5 r6 r7 r8 r9 r10 rf0 rf1 rf2 rf3 rf4 rf5 rf6 rf7 rf8 rf9 rf10
    have b9 := XR2.out
    have b9 := b9.put 0 (.int .i64 b)
    have b9 := b9.put 1 (.int .i64 c)
    have b9 := b9.put 2 (.int .i64 j)
    have b9 := b9.put 3 (.int .i64 1)
    have b9 := b9.put 4 (.int .i64 (n + 1))
    have b9 := b9.put 5 (.int .i64 x)
    have b9 := b9.put 6 (.slice A2 n1 c2)
    have b9 := b9.put 7 (.slice B2 0 d2)
    have b9 := b9.put 8 (.int .i64 start)
    have b9 := b9.put 9 (.int .i64 was)
    have b9 := b9.put 10 (.string ⟨#[]⟩)
    simp only [List.setIfInBounds_toArray, List.set_cons_zero, List.set_cons_succ] at b9
    have e0 := b9.cell 0
    have e1 := b9.cell 1
    have e2 := b9.cell 2
    have e3 := b9.cell 3
    have e4 := b9.cell 4
    have e5 := b9.cell 5
    have e6 := b9.cell 6
    have e7 := b9.cell 7
    have e8 := b9.cell 8
    have e9 := b9.cell 9
    have e10 := b9.cell 10
    simp only [List.getElem?_toArray, List.getElem?_cons_zero, List.getElem?_cons_succ] at e0 e1 e2 e3 e4 e5 e6 e7 e8 e9 e10
    clear b9
    have hbv : w.heap.size ≤ br := by have := HBX.out; have := HBR.out; omega
    refine bodyPost_ret (v := .tuple #[.agg #[.int .i64 b, .int .i64 c, .int .i64 j, .int .i64 1, .int .i64 (n + 1), .int .i64 x, .slice A2 n1 c2, .slice B2 0 d2, .int .i64 start, .int .i64 was, .string ⟨#[]⟩], .bool true]) ?_ rfl ?_
    · simp [results, Try.f41, go_sem, e0, e1, e2, e3, e4, e5, e6, e7, e8, e9, e10]
    · rw [HE.out, ← EV.out]
      refine rl_flag2 F2.out ?_ ?_ H.out.lt HR.out
      · (repeat first | with_reducible refine Fr.alloc ?_ _ | with_reducible refine Fr.setCell ?_ (.inr hbv) _)
        exact F2.out
      · (repeat first | with_reducible refine Fr.alloc ?_ _ | with_reducible refine Fr.setCell ?_ (.inl hbv) _)
        exact Fr.refl _ _
end
end Ln
end Go.Proofs.Ytnfkkonmhinlcaa
