/- Package line: its reference: New. Printed by gen_lnk.py. -/
import Derived.Test.YtnfkkonmhinlcaaLnJ
import Derived.Test.YtnfkkonmhinlcaaLnV
namespace Go.Proofs.Ytnfkkonmhinlcaa
open Go.RowKit
set_option linter.unusedVariables false
set_option linter.unusedSimpArgs false
namespace Ln
open Run (O ROp timesR endsR dueT nextT chk chkR Fit)
def RNew (r : S × Int) (w : World) (e : Ending) (w' : World) : Prop :=
  ∃ vF vL, e = .returned (.tuple #[agL vF vL r.1, .int .i64 r.2]) ∧ RL w' (New w w') vF vL r.1 ∧ Fr No w w'
theorem rnew_fin {w w2 W : World} {vF : Value} {s : S} {q : Int} {t : Array Value} (ht : t = #[agL vF (.slice none 0 0) s, .int .i64 q]) (hF : Fr No w W) (hF2 : Fr (fun z => z < w2.heap.size ∧ ¬ Of vF z) w2 W) (hs : w.heap.size ≤ w2.heap.size) (h1 : RSl 3 ROp w2 (Of vF) [vF] s.first) (hv : ∀ k, Of vF k → New w w2 k) (h2 : s.seq = []) : RNew (s, q) w (.returned (.tuple t)) W := by
  refine ⟨vF, .slice none 0 0, by rw [ht], ⟨(RSl.stable ROp.stable).go h1 (Kept.of_fr hF2 (fun k hk => ⟨(hv k hk).2, fun h => h.2 hk⟩)) (fun k hk => ⟨(hv k hk).1, Nat.lt_of_lt_of_le (hv k hk).2 hF2.size⟩), by rw [h2]; exact ops_nil _ _, fun k hk => hk.2⟩, hF⟩
theorem rnew_zero {w W : World} {q : Int} {t : Array Value} (ht : t = #[agL (.slice none 0 0) (.slice none 0 0) zeroS, .int .i64 q]) (hF : Fr No w W) : RNew (zeroS, q) w (.returned (.tuple t)) W :=
  ⟨_, _, by rw [ht], ⟨ops_nil _ _, ops_nil _ _, fun k hk => hk.2⟩, hF⟩
set_option maxRecDepth 100000 in
set_option maxHeartbeats 4000000 in
theorem rnew_any (nm t : Str) (k1 k2 k3 k4 k5 b c j : Int) (ht : t.length ≤ 255) (w : World) : Calls Try.prog 16 #[.agg #[.string ⟨nm.toArray⟩, .int .i64 k1, .int .i64 k2, .int .i64 k3, .int .i64 k4, .int .i64 k5, .int .i64 b, .int .i64 c, .int .i64 j, .string ⟨t.toArray⟩]] w (RNew (newS b c j t) w) := by
  have XB := Lib.hid ((Blk.new w 29 #[.string ⟨nm.toArray⟩, .int .i64 k1, .int .i64 k2, .int .i64 k3, .int .i64 k4, .int .i64 k5, .int .i64 b, .int .i64 c, .int .i64 j, .string ⟨t.toArray⟩]).alloc (.cells #[.int .i64 0, .int .i64 0, .int .i64 0, .int .i64 0, .int .i64 0, .int .i64 0, .slice none 0 0, .slice none 0 0, .int .i64 0, .int .i64 0, .string ⟨#[]⟩] 46))
  have XR := Blk.new (w.alloc (.cells #[.string ⟨nm.toArray⟩, .int .i64 k1, .int .i64 k2, .int .i64 k3, .int .i64 k4, .int .i64 k5, .int .i64 b, .int .i64 c, .int .i64 j, .string ⟨t.toArray⟩] 29)) 46 #[.int .i64 0, .int .i64 0, .int .i64 0, .int .i64 0, .int .i64 0, .int .i64 0, .slice none 0 0, .slice none 0 0, .int .i64 0, .int .i64 0, .string ⟨#[]⟩]
  have F1 := Lib.hid (((Fr.refl No w).alloc (.cells #[.string ⟨nm.toArray⟩, .int .i64 k1, .int .i64 k2, .int .i64 k3, .int .i64 k4, .int .i64 k5, .int .i64 b, .int .i64 c, .int .i64 j, .string ⟨t.toArray⟩] 29)).alloc (.cells #[.int .i64 0, .int .i64 0, .int .i64 0, .int .i64 0, .int .i64 0, .int .i64 0, .slice none 0 0, .slice none 0 0, .int .i64 0, .int .i64 0, .string ⟨#[]⟩] 46))
  rw [size_alloc] at XR
  obtain ⟨bx, hbx⟩ : ∃ bx, w.heap.size = bx := ⟨_, rfl⟩
  obtain ⟨br, hbr⟩ : ∃ br, bx + 1 = br := ⟨_, rfl⟩
  have XB := Lib.hid (show Blk _ bx _ _ by rw [← hbx]; exact XB.out)
  rw [hbx, hbr] at XR
  have XR := Lib.hid XR
  have HBX := Lib.hid hbx
  have HBR := Lib.hid hbr
  by_cases hk : Backoff.ok b c j = false
  · have HC := Lib.hid (Backoff.code_no hk)
    have HE := Lib.hid (show newS b c j t = (zeroS, 2) from if_pos hk)
    clear hk
    go_enter Try.func16, Try.ntmps16
    go_upto_region 1 with (fail)
    generalize (w.alloc (.cells #[.string ⟨nm.toArray⟩, .int .i64 k1, .int .i64 k2, .int .i64 k3, .int .i64 k4, .int .i64 k5, .int .i64 b, .int .i64 c, .int .i64 j, .string ⟨t.toArray⟩] 29)).alloc (.cells #[.int .i64 0, .int .i64 0, .int .i64 0, .int .i64 0, .int .i64 0, .int .i64 0, .slice none 0 0, .slice none 0 0, .int .i64 0, .int .i64 0, .string ⟨#[]⟩] 46) = w1 at XB XR F1 ⊢
    have hbb : bx ≠ br := by omega
    have hbc : br ≠ bx := by omega
    clear hbx hbr
    have hbl := XR.out.lt
    have hbd : br ≠ w1.heap.size := by omega
    have hbm := XB.out.lt
    have hbe : bx ≠ w1.heap.size := by omega
    have xo := XB.out
    have x0 := xo.cell 0
    have x1 := xo.cell 1
    have x2 := xo.cell 2
    have x3 := xo.cell 3
    have x4 := xo.cell 4
    have x5 := xo.cell 5
    have x6 := xo.cell 6
    have x7 := xo.cell 7
    have x8 := xo.cell 8
    have x9 := xo.cell 9
    have xf0 := xo.frozen 0
    have xf1 := xo.frozen 1
    have xf2 := xo.frozen 2
    have xf3 := xo.frozen 3
    have xf4 := xo.frozen 4
    have xf5 := xo.frozen 5
    have xf6 := xo.frozen 6
    have xf7 := xo.frozen 7
    have xf8 := xo.frozen 8
    have xf9 := xo.frozen 9
    simp only [List.getElem?_toArray, List.getElem?_cons_zero, List.getElem?_cons_succ] at x0 x1 x2 x3 x4 x5 x6 x7 x8 x9
    clear xo
    have ro := XR.out
    have r0 := ro.cell 0
    have r1 := ro.cell 1
    have r2 := ro.cell 2
    have r3 := ro.cell 3
    have r4 := ro.cell 4
    have r5 := ro.cell 5
    have r6 := ro.cell 6
    have r7 := ro.cell 7
    have r8 := ro.cell 8
    have r9 := ro.cell 9
    have r10 := ro.cell 10
    have rf0 := ro.frozen 0
    have rf1 := ro.frozen 1
    have rf2 := ro.frozen 2
    have rf3 := ro.frozen 3
    have rf4 := ro.frozen 4
    have rf5 := ro.frozen 5
    have rf6 := ro.frozen 6
    have rf7 := ro.frozen 7
    have rf8 := ro.frozen 8
    have rf9 := ro.frozen 9
    have rf10 := ro.frozen 10
    simp only [List.getElem?_toArray, List.getElem?_cons_zero, List.getElem?_cons_succ] at r0 r1 r2 r3 r4 r5 r6 r7 r8 r9 r10
    clear ro
    go_wp2_with (go_at_call 37; refine (Backoff.rcheck_any b c j _).mono ?_; rintro e w2 ⟨rfl, rfl⟩; rw [HC.out])
    clear x0 x1 x2 x3 x4 x5 x6 x7 x8 x9 xf0 xf1 xf2 xf3 xf4 xf5 xf6 xf7 xf8 xf9
    clear r0 r1 r2 r3 r4 r5 r6 r7 r8 r9 r10 rf0 rf1 rf2 rf3 rf4 rf5 rf6 rf7 rf8 rf9 rf10
    have b9 := XR.out
    have b9 := b9.put 0 (.int .i64 0)
    have b9 := b9.put 1 (.int .i64 0)
    have b9 := b9.put 2 (.int .i64 0)
    have b9 := b9.put 3 (.int .i64 0)
    have b9 := b9.put 4 (.int .i64 0)
    have b9 := b9.put 5 (.int .i64 0)
    have b9 := b9.put 6 (.slice none 0 0)
    have b9 := b9.put 7 (.slice none 0 0)
    have b9 := b9.put 8 (.int .i64 0)
    have b9 := b9.put 9 (.int .i64 0)
    have b9 := b9.put 10 (.string ⟨#[]⟩)
    simp only [List.setIfInBounds_toArray, List.set_cons_zero, List.set_cons_succ] at b9
    have e0 := b9.cell 0
    have e1 := b9.cell 1
    have e2 := b9.cell 2
    have e3 := b9.cell 3
    have e4 := b9.cell 4
    have e5 := b9.cell 5
    have e6 := b9.cell 6
    have e7 := b9.cell 7
    have e8 := b9.cell 8
    have e9 := b9.cell 9
    have e10 := b9.cell 10
    simp only [List.getElem?_toArray, List.getElem?_cons_zero, List.getElem?_cons_succ] at e0 e1 e2 e3 e4 e5 e6 e7 e8 e9 e10
    clear b9
    have hbv : w.heap.size ≤ br := by have := HBX.out; have := HBR.out; omega
    refine bodyPost_ret (v := .tuple #[.agg #[.int .i64 0, .int .i64 0, .int .i64 0, .int .i64 0, .int .i64 0, .int .i64 0, .slice none 0 0, .slice none 0 0, .int .i64 0, .int .i64 0, .string ⟨#[]⟩], .int .i64 2]) ?_ rfl ?_
    · simp [results, Try.f16, go_sem, e0, e1, e2, e3, e4, e5, e6, e7, e8, e9, e10]
    · rw [HE.out]
      refine rnew_zero rfl ?_
      (repeat with_reducible refine Fr.setCell ?_ (.inr hbv) _)
      exact F1.out
  have hk : Backoff.ok b c j = true := by simpa using hk
  have HC := Lib.hid (Backoff.code_yes hk)
  have HK := Lib.hid hk
  clear hk
  have RR := Lib.hid (fun W : World => Brk.rread_any t (by omega) W)
  have HG := Lib.hid (Brk.read_ok t)
  obtain ⟨⟨L, q⟩, hq⟩ : ∃ p, p = Brk.readR t := ⟨_, rfl⟩
  have HQ := Lib.hid hq
  rw [← hq] at RR HG
  clear hq
  have HG := Lib.hid (show Brk.ReadOk L from HG.out)
  by_cases h0 : q = 0
  rotate_left
  · have g0 : (q != 0) = true := by simpa using h0
    have HE := Lib.hid (show newS b c j t = (zeroS, q) by unfold newS; rw [if_neg (by rw [HK.out]; simp), if_pos (by rw [← HQ.out]; exact h0), ← HQ.out])
    clear h0
    go_enter Try.func16, Try.ntmps16
    go_upto_region 1 with (fail)
    generalize (w.alloc (.cells #[.string ⟨nm.toArray⟩, .int .i64 k1, .int .i64 k2, .int .i64 k3, .int .i64 k4, .int .i64 k5, .int .i64 b, .int .i64 c, .int .i64 j, .string ⟨t.toArray⟩] 29)).alloc (.cells #[.int .i64 0, .int .i64 0, .int .i64 0, .int .i64 0, .int .i64 0, .int .i64 0, .slice none 0 0, .slice none 0 0, .int .i64 0, .int .i64 0, .string ⟨#[]⟩] 46) = w1 at XB XR F1 ⊢
    have hbb : bx ≠ br := by omega
    have hbc : br ≠ bx := by omega
    clear hbx hbr
    have hbl := XR.out.lt
    have hbd : br ≠ w1.heap.size := by omega
    have hbm := XB.out.lt
    have hbe : bx ≠ w1.heap.size := by omega
    have xo := XB.out
    have x0 := xo.cell 0
    have x1 := xo.cell 1
    have x2 := xo.cell 2
    have x3 := xo.cell 3
    have x4 := xo.cell 4
    have x5 := xo.cell 5
    have x6 := xo.cell 6
    have x7 := xo.cell 7
    have x8 := xo.cell 8
    have x9 := xo.cell 9
    have xf0 := xo.frozen 0
    have xf1 := xo.frozen 1
    have xf2 := xo.frozen 2
    have xf3 := xo.frozen 3
    have xf4 := xo.frozen 4
    have xf5 := xo.frozen 5
    have xf6 := xo.frozen 6
    have xf7 := xo.frozen 7
    have xf8 := xo.frozen 8
    have xf9 := xo.frozen 9
    simp only [List.getElem?_toArray, List.getElem?_cons_zero, List.getElem?_cons_succ] at x0 x1 x2 x3 x4 x5 x6 x7 x8 x9
    clear xo
    have ro := XR.out
    have r0 := ro.cell 0
    have r1 := ro.cell 1
    have r2 := ro.cell 2
    have r3 := ro.cell 3
    have r4 := ro.cell 4
    have r5 := ro.cell 5
    have r6 := ro.cell 6
    have r7 := ro.cell 7
    have r8 := ro.cell 8
    have r9 := ro.cell 9
    have r10 := ro.cell 10
    have rf0 := ro.frozen 0
    have rf1 := ro.frozen 1
    have rf2 := ro.frozen 2
    have rf3 := ro.frozen 3
    have rf4 := ro.frozen 4
    have rf5 := ro.frozen 5
    have rf6 := ro.frozen 6
    have rf7 := ro.frozen 7
    have rf8 := ro.frozen 8
    have rf9 := ro.frozen 9
    have rf10 := ro.frozen 10
    simp only [List.getElem?_toArray, List.getElem?_cons_zero, List.getElem?_cons_succ] at r0 r1 r2 r3 r4 r5 r6 r7 r8 r9 r10
    clear ro
    go_upto_region 5 with (first | (go_at_call 37; refine (Backoff.rcheck_any b c j _).mono ?_; rintro e w2 ⟨rfl, rfl⟩; rw [HC.out]) | (go_at_call 22; refine (RR.out _).mono ?_; rintro e w2 ⟨v, rfl, hg⟩; have GR := Lib.hid hg; have F2 := Lib.hid (F1.out.then_no hg.fr); have XB2 := Lib.hid (XB.out.fr hg.fr (fun h => h)); have XR2 := Lib.hid (XR.out.fr hg.fr (fun h => h)); clear hg))
    clear x0 x1 x2 x3 x4 x5 x6 x7 x8 x9 xf0 xf1 xf2 xf3 xf4 xf5 xf6 xf7 xf8 xf9
    clear r0 r1 r2 r3 r4 r5 r6 r7 r8 r9 r10 rf0 rf1 rf2 rf3 rf4 rf5 rf6 rf7 rf8 rf9 rf10
    have hbl2 := XR2.out.lt
    have hbd2 : br ≠ w2.heap.size := by omega
    have hbm2 := XB2.out.lt
    have hbe2 : bx ≠ w2.heap.size := by omega
    obtain ⟨A2, c2, rfl⟩ := GR.out.form
    obtain ⟨n2, hn2⟩ : ∃ n2, n2 = L.length := ⟨_, rfl⟩
    have HN2 := Lib.hid hn2
    have GR := Lib.hid (show Brk.GrO w1 w2 (.slice A2 n2 c2) L by rw [hn2]; exact GR.out)
    rw [← hn2]
    clear hn2
    have xo := XB2.out
    have x0 := xo.cell 0
    have x1 := xo.cell 1
    have x2 := xo.cell 2
    have x3 := xo.cell 3
    have x4 := xo.cell 4
    have x5 := xo.cell 5
    have x6 := xo.cell 6
    have x7 := xo.cell 7
    have x8 := xo.cell 8
    have x9 := xo.cell 9
    have xf0 := xo.frozen 0
    have xf1 := xo.frozen 1
    have xf2 := xo.frozen 2
    have xf3 := xo.frozen 3
    have xf4 := xo.frozen 4
    have xf5 := xo.frozen 5
    have xf6 := xo.frozen 6
    have xf7 := xo.frozen 7
    have xf8 := xo.frozen 8
    have xf9 := xo.frozen 9
    simp only [List.getElem?_toArray, List.getElem?_cons_zero, List.getElem?_cons_succ] at x0 x1 x2 x3 x4 x5 x6 x7 x8 x9
    clear xo
    have ro := XR2.out
    have r0 := ro.cell 0
    have r1 := ro.cell 1
    have r2 := ro.cell 2
    have r3 := ro.cell 3
    have r4 := ro.cell 4
    have r5 := ro.cell 5
    have r6 := ro.cell 6
    have r7 := ro.cell 7
    have r8 := ro.cell 8
    have r9 := ro.cell 9
    have r10 := ro.cell 10
    have rf0 := ro.frozen 0
    have rf1 := ro.frozen 1
    have rf2 := ro.frozen 2
    have rf3 := ro.frozen 3
    have rf4 := ro.frozen 4
    have rf5 := ro.frozen 5
    have rf6 := ro.frozen 6
    have rf7 := ro.frozen 7
    have rf8 := ro.frozen 8
    have rf9 := ro.frozen 9
    have rf10 := ro.frozen 10
    simp only [List.getElem?_toArray, List.getElem?_cons_zero, List.getElem?_cons_succ] at r0 r1 r2 r3 r4 r5 r6 r7 r8 r9 r10
    clear ro
    go_wp2_with fail
    clear x0 x1 x2 x3 x4 x5 x6 x7 x8 x9 xf0 xf1 xf2 xf3 xf4 xf5 xf6 xf7 xf8 xf9
    clear r0 r1 r2 r3 r4 r5 r6 r7 r8 r9 r10 rf0 rf1 rf2 rf3 rf4 rf5 rf6 rf7 rf8 rf9 rf10
    have b9 := XR2.out
    have b9 := b9.put 0 (.int .i64 0)
    have b9 := b9.put 1 (.int .i64 0)
    have b9 := b9.put 2 (.int .i64 0)
    have b9 := b9.put 3 (.int .i64 0)
    have b9 := b9.put 4 (.int .i64 0)
    have b9 := b9.put 5 (.int .i64 0)
    have b9 := b9.put 6 (.slice none 0 0)
    have b9 := b9.put 7 (.slice none 0 0)
    have b9 := b9.put 8 (.int .i64 0)
    have b9 := b9.put 9 (.int .i64 0)
    have b9 := b9.put 10 (.string ⟨#[]⟩)
    simp only [List.setIfInBounds_toArray, List.set_cons_zero, List.set_cons_succ] at b9
    have e0 := b9.cell 0
    have e1 := b9.cell 1
    have e2 := b9.cell 2
    have e3 := b9.cell 3
    have e4 := b9.cell 4
    have e5 := b9.cell 5
    have e6 := b9.cell 6
    have e7 := b9.cell 7
    have e8 := b9.cell 8
    have e9 := b9.cell 9
    have e10 := b9.cell 10
    simp only [List.getElem?_toArray, List.getElem?_cons_zero, List.getElem?_cons_succ] at e0 e1 e2 e3 e4 e5 e6 e7 e8 e9 e10
    clear b9
    have hbv : w.heap.size ≤ br := by have := HBX.out; have := HBR.out; omega
    refine bodyPost_ret (v := .tuple #[.agg #[.int .i64 0, .int .i64 0, .int .i64 0, .int .i64 0, .int .i64 0, .int .i64 0, .slice none 0 0, .slice none 0 0, .int .i64 0, .int .i64 0, .string ⟨#[]⟩], .int .i64 q]) ?_ rfl ?_
    · simp [results, Try.f16, go_sem, e0, e1, e2, e3, e4, e5, e6, e7, e8, e9, e10]
    · rw [HE.out]
      refine rnew_zero rfl ?_
      (repeat with_reducible refine Fr.setCell ?_ (.inr hbv) _)
      exact F2.out
  subst h0
  have HE := Lib.hid (show newS b c j t = (⟨b, c, j, 0, 0, 0, L, [], 0, 0, []⟩, 0) by unfold newS; rw [if_neg (by rw [HK.out]; simp), if_neg (by rw [← HQ.out]; simp), ← HQ.out])
  go_enter Try.func16, Try.ntmps16
  go_upto_region 1 with (fail)
  generalize (w.alloc (.cells #[.string ⟨nm.toArray⟩, .int .i64 k1, .int .i64 k2, .int .i64 k3, .int .i64 k4, .int .i64 k5, .int .i64 b, .int .i64 c, .int .i64 j, .string ⟨t.toArray⟩] 29)).alloc (.cells #[.int .i64 0, .int .i64 0, .int .i64 0, .int .i64 0, .int .i64 0, .int .i64 0, .slice none 0 0, .slice none 0 0, .int .i64 0, .int .i64 0, .string ⟨#[]⟩] 46) = w1 at XB XR F1 ⊢
  have hbb : bx ≠ br := by omega
  have hbc : br ≠ bx := by omega
  clear hbx hbr
  have hbl := XR.out.lt
  have hbd : br ≠ w1.heap.size := by omega
  have hbm := XB.out.lt
  have hbe : bx ≠ w1.heap.size := by omega
  have xo := XB.out
  have x0 := xo.cell 0
  have x1 := xo.cell 1
  have x2 := xo.cell 2
  have x3 := xo.cell 3
  have x4 := xo.cell 4
  have x5 := xo.cell 5
  have x6 := xo.cell 6
  have x7 := xo.cell 7
  have x8 := xo.cell 8
  have x9 := xo.cell 9
  have xf0 := xo.frozen 0
  have xf1 := xo.frozen 1
  have xf2 := xo.frozen 2
  have xf3 := xo.frozen 3
  have xf4 := xo.frozen 4
  have xf5 := xo.frozen 5
  have xf6 := xo.frozen 6
  have xf7 := xo.frozen 7
  have xf8 := xo.frozen 8
  have xf9 := xo.frozen 9
  simp only [List.getElem?_toArray, List.getElem?_cons_zero, List.getElem?_cons_succ] at x0 x1 x2 x3 x4 x5 x6 x7 x8 x9
  clear xo
  have ro := XR.out
  have r0 := ro.cell 0
  have r1 := ro.cell 1
  have r2 := ro.cell 2
  have r3 := ro.cell 3
  have r4 := ro.cell 4
  have r5 := ro.cell 5
  have r6 := ro.cell 6
  have r7 := ro.cell 7
  have r8 := ro.cell 8
  have r9 := ro.cell 9
  have r10 := ro.cell 10
  have rf0 := ro.frozen 0
  have rf1 := ro.frozen 1
  have rf2 := ro.frozen 2
  have rf3 := ro.frozen 3
  have rf4 := ro.frozen 4
  have rf5 := ro.frozen 5
  have rf6 := ro.frozen 6
  have rf7 := ro.frozen 7
  have rf8 := ro.frozen 8
  have rf9 := ro.frozen 9
  have rf10 := ro.frozen 10
  simp only [List.getElem?_toArray, List.getElem?_cons_zero, List.getElem?_cons_succ] at r0 r1 r2 r3 r4 r5 r6 r7 r8 r9 r10
  clear ro
  go_upto_region 5 with (first | (go_at_call 37; refine (Backoff.rcheck_any b c j _).mono ?_; rintro e w2 ⟨rfl, rfl⟩; rw [HC.out]) | (go_at_call 22; refine (RR.out _).mono ?_; rintro e w2 ⟨v, rfl, hg⟩; have GR := Lib.hid hg; have F2 := Lib.hid (F1.out.then_no hg.fr); have XB2 := Lib.hid (XB.out.fr hg.fr (fun h => h)); have XR2 := Lib.hid (XR.out.fr hg.fr (fun h => h)); clear hg))
  clear x0 x1 x2 x3 x4 x5 x6 x7 x8 x9 xf0 xf1 xf2 xf3 xf4 xf5 xf6 xf7 xf8 xf9
  clear r0 r1 r2 r3 r4 r5 r6 r7 r8 r9 r10 rf0 rf1 rf2 rf3 rf4 rf5 rf6 rf7 rf8 rf9 rf10
  have hbl2 := XR2.out.lt
  have hbd2 : br ≠ w2.heap.size := by omega
  have hbm2 := XB2.out.lt
  have hbe2 : bx ≠ w2.heap.size := by omega
  obtain ⟨A2, c2, rfl⟩ := GR.out.form
  obtain ⟨n2, hn2⟩ : ∃ n2, n2 = L.length := ⟨_, rfl⟩
  have HN2 := Lib.hid hn2
  have GR := Lib.hid (show Brk.GrO w1 w2 (.slice A2 n2 c2) L by rw [hn2]; exact GR.out)
  rw [← hn2]
  clear hn2
  have xo := XB2.out
  have x0 := xo.cell 0
  have x1 := xo.cell 1
  have x2 := xo.cell 2
  have x3 := xo.cell 3
  have x4 := xo.cell 4
  have x5 := xo.cell 5
  have x6 := xo.cell 6
  have x7 := xo.cell 7
  have x8 := xo.cell 8
  have x9 := xo.cell 9
  have xf0 := xo.frozen 0
  have xf1 := xo.frozen 1
  have xf2 := xo.frozen 2
  have xf3 := xo.frozen 3
  have xf4 := xo.frozen 4
  have xf5 := xo.frozen 5
  have xf6 := xo.frozen 6
  have xf7 := xo.frozen 7
  have xf8 := xo.frozen 8
  have xf9 := xo.frozen 9
  simp only [List.getElem?_toArray, List.getElem?_cons_zero, List.getElem?_cons_succ] at x0 x1 x2 x3 x4 x5 x6 x7 x8 x9
  clear xo
  have ro := XR2.out
  have r0 := ro.cell 0
  have r1 := ro.cell 1
  have r2 := ro.cell 2
  have r3 := ro.cell 3
  have r4 := ro.cell 4
  have r5 := ro.cell 5
  have r6 := ro.cell 6
  have r7 := ro.cell 7
  have r8 := ro.cell 8
  have r9 := ro.cell 9
  have r10 := ro.cell 10
  have rf0 := ro.frozen 0
  have rf1 := ro.frozen 1
  have rf2 := ro.frozen 2
  have rf3 := ro.frozen 3
  have rf4 := ro.frozen 4
  have rf5 := ro.frozen 5
  have rf6 := ro.frozen 6
  have rf7 := ro.frozen 7
  have rf8 := ro.frozen 8
  have rf9 := ro.frozen 9
  have rf10 := ro.frozen 10
  simp only [List.getElem?_toArray, List.getElem?_cons_zero, List.getElem?_cons_succ] at r0 r1 r2 r3 r4 r5 r6 r7 r8 r9 r10
  clear ro
  go_wp2_with fail
  clear x0 x1 x2 x3 x4 x5 x6 x7 x8 x9 xf0 xf1 xf2 xf3 xf4 xf5 xf6 xf7 xf8 xf9
  clear r0 r1 r2 r3 r4 r5 r6 r7 r8 r9 r10 rf0 rf1 rf2 rf3 rf4 rf5 rf6 rf7 rf8 rf9 rf10
  have b9 := XR2.out
  have b9 := b9.put 0 (.int .i64 b)
  have b9 := b9.put 1 (.int .i64 c)
  have b9 := b9.put 2 (.int .i64 j)
  have b9 := b9.put 3 (.int .i64 0)
  have b9 := b9.put 4 (.int .i64 0)
  have b9 := b9.put 5 (.int .i64 0)
  have b9 := b9.put 6 (.slice A2 n2 c2)
  have b9 := b9.put 7 (.slice none 0 0)
  have b9 := b9.put 8 (.int .i64 0)
  have b9 := b9.put 9 (.int .i64 0)
  have b9 := b9.put 10 (.string ⟨#[]⟩)
  simp only [List.setIfInBounds_toArray, List.set_cons_zero, List.set_cons_succ] at b9
  have e0 := b9.cell 0
  have e1 := b9.cell 1
  have e2 := b9.cell 2
  have e3 := b9.cell 3
  have e4 := b9.cell 4
  have e5 := b9.cell 5
  have e6 := b9.cell 6
  have e7 := b9.cell 7
  have e8 := b9.cell 8
  have e9 := b9.cell 9
  have e10 := b9.cell 10
  simp only [List.getElem?_toArray, List.getElem?_cons_zero, List.getElem?_cons_succ] at e0 e1 e2 e3 e4 e5 e6 e7 e8 e9 e10
  clear b9
  have hbv : w.heap.size ≤ br := by have := HBX.out; have := HBR.out; omega
  refine bodyPost_ret (v := .tuple #[.agg #[.int .i64 b, .int .i64 c, .int .i64 j, .int .i64 0, .int .i64 0, .int .i64 0, .slice A2 n2 c2, .slice none 0 0, .int .i64 0, .int .i64 0, .string ⟨#[]⟩], .int .i64 0]) ?_ rfl ?_
  · simp [results, Try.f16, go_sem, e0, e1, e2, e3, e4, e5, e6, e7, e8, e9, e10]
  · rw [HE.out]
    refine rnew_fin (vF := .slice A2 n2 c2) (s := ⟨b, c, j, 0, 0, 0, L, [], 0, 0, []⟩) rfl ?_ ?_ F2.out.size (gro_ops GR.out HG.out) (fun k hk => ⟨Nat.le_trans F1.out.size (GR.out.new k hk).1, (GR.out.new k hk).2⟩) rfl
    · (repeat with_reducible refine Fr.setCell ?_ (.inr hbv) _)
      exact F2.out
    · have hno : ¬ Of (.slice A2 n2 c2) br := fun h => by have := (GR.out.new br h).1; omega
      (repeat with_reducible refine Fr.setCell ?_ (.inl ⟨hbl2, hno⟩) _)
      exact Fr.refl _ _
end Ln
end Go.Proofs.Ytnfkkonmhinlcaa
