/- Package line: its reference: Send, Break. Printed by gen_lni.py. -/
import Derived.Test.YtnfkkonmhinlcaaLnI
import Derived.Test.YtnfkkonmhinlcaaRunRef
namespace Go.Proofs.Ytnfkkonmhinlcaa
open Go.RowKit
set_option linter.unusedVariables false
set_option linter.unusedSimpArgs false
namespace Ln
open Run (O ROp timesR endsR dueT nextT chk chkR Fit)
section
variable {w w' : World} {S0 : Nat → Prop} {vF vL : Value} {s : S}
set_option maxRecDepth 100000 in
set_option maxHeartbeats 4000000 in
theorem rsend_any (h : RL w S0 vF vL s) (hh : s.held.length ≤ 4096) (t : Str) (ht : t.length ≤ 100000) : Calls Try.prog 42 #[agL vF vL s, .string ⟨t.toArray⟩] w (RGot (sendS s t).1 (sendS s t).2.1 [.bool (sendS s t).2.2] S0 w) := by
  obtain ⟨b, c, j, st, n, at_, first, seq, start, was, held⟩ := s
  obtain ⟨A, c1, rfl, hA1, hA2⟩ := h.first.slice
  obtain ⟨B, d1, rfl, hB1, hB2⟩ := h.seq.slice
  have H := Lib.hid h
  clear h
  have hA1 : first.length ≤ c1 := hA1
  have hB1 : seq.length ≤ d1 := hB1
  unfold maxLen at hA2 hB2
  obtain ⟨n1, hn1⟩ : ∃ n1, n1 = first.length := ⟨_, rfl⟩
  obtain ⟨m1, hm1⟩ : ∃ m1, m1 = seq.length := ⟨_, rfl⟩
  have ag : agL (.slice A first.length c1) (.slice B seq.length d1) ⟨b, c, j, st, n, at_, first, seq, start, was, held⟩ = .agg #[.int .i64 b, .int .i64 c, .int .i64 j, .int .i64 st, .int .i64 n, .int .i64 at_, .slice A n1 c1, .slice B m1 d1, .int .i64 start, .int .i64 was, .string ⟨held.toArray⟩] := by rw [hn1, hm1]; rfl
  try simp only at ag
  rw [ag]
  have AG := Lib.hid ag
  have HN := Lib.hid hn1
  have HM := Lib.hid hm1
  rw [← hn1] at hA1
  rw [← hm1] at hB1
  clear ag hn1 hm1
  have XB := Lib.hid ((Blk.new w 46 #[.int .i64 b, .int .i64 c, .int .i64 j, .int .i64 st, .int .i64 n, .int .i64 at_, .slice A n1 c1, .slice B m1 d1, .int .i64 start, .int .i64 was, .string ⟨held.toArray⟩]).alloc (.cells #[.int .i64 0, .int .i64 0, .int .i64 0, .int .i64 0, .int .i64 0, .int .i64 0, .slice none 0 0, .slice none 0 0, .int .i64 0, .int .i64 0, .string ⟨#[]⟩] 46))
  have XR := Blk.new (w.alloc (.cells #[.int .i64 b, .int .i64 c, .int .i64 j, .int .i64 st, .int .i64 n, .int .i64 at_, .slice A n1 c1, .slice B m1 d1, .int .i64 start, .int .i64 was, .string ⟨held.toArray⟩] 46)) 46 #[.int .i64 0, .int .i64 0, .int .i64 0, .int .i64 0, .int .i64 0, .int .i64 0, .slice none 0 0, .slice none 0 0, .int .i64 0, .int .i64 0, .string ⟨#[]⟩]
  have F1 := Lib.hid (((Fr.refl No w).alloc (.cells #[.int .i64 b, .int .i64 c, .int .i64 j, .int .i64 st, .int .i64 n, .int .i64 at_, .slice A n1 c1, .slice B m1 d1, .int .i64 start, .int .i64 was, .string ⟨held.toArray⟩] 46)).alloc (.cells #[.int .i64 0, .int .i64 0, .int .i64 0, .int .i64 0, .int .i64 0, .int .i64 0, .slice none 0 0, .slice none 0 0, .int .i64 0, .int .i64 0, .string ⟨#[]⟩] 46))
  rw [size_alloc] at XR
  obtain ⟨bx, hbx⟩ : ∃ bx, w.heap.size = bx := ⟨_, rfl⟩
  obtain ⟨br, hbr⟩ : ∃ br, bx + 1 = br := ⟨_, rfl⟩
  have XB := Lib.hid (show Blk _ bx _ _ by rw [← hbx]; exact XB.out)
  rw [hbx, hbr] at XR
  have XR := Lib.hid XR
  have HBX := Lib.hid hbx
  have HBR := Lib.hid hbr
  have hh : held.length ≤ 4096 := hh
  by_cases h4 : st = 4
  · subst h4
    by_cases h0 : t = []
    · subst h0
      have HE := Lib.hid (show sendS ⟨b, c, j, 4, n, at_, first, seq, start, was, held⟩ [] = (⟨b, c, j, 4, n, at_, first, seq, start, was, held⟩, [], true) from rfl)
      go_enter Try.func42, Try.ntmps42
      go_upto_region 1 with (fail)
      generalize (w.alloc (.cells #[.int .i64 b, .int .i64 c, .int .i64 j, .int .i64 4, .int .i64 n, .int .i64 at_, .slice A n1 c1, .slice B m1 d1, .int .i64 start, .int .i64 was, .string ⟨held.toArray⟩] 46)).alloc (.cells #[.int .i64 0, .int .i64 0, .int .i64 0, .int .i64 0, .int .i64 0, .int .i64 0, .slice none 0 0, .slice none 0 0, .int .i64 0, .int .i64 0, .string ⟨#[]⟩] 46) = w1 at XB XR F1 ⊢
      have hbb : bx ≠ br := by omega
      have hbc : br ≠ bx := by omega
      clear hbx hbr
      have hbl := XR.out.lt
      have hbd : br ≠ w1.heap.size := by omega
      have hbm := XB.out.lt
      have hbe : bx ≠ w1.heap.size := by omega
      have xo := XB.out
      have x0 := xo.cell 0
      have x1 := xo.cell 1
      have x2 := xo.cell 2
      have x3 := xo.cell 3
      have x4 := xo.cell 4
      have x5 := xo.cell 5
      have x6 := xo.cell 6
      have x7 := xo.cell 7
      have x8 := xo.cell 8
      have x9 := xo.cell 9
      have x10 := xo.cell 10
      have xf0 := xo.frozen 0
      have xf1 := xo.frozen 1
      have xf2 := xo.frozen 2
      have xf3 := xo.frozen 3
      have xf4 := xo.frozen 4
      have xf5 := xo.frozen 5
      have xf6 := xo.frozen 6
      have xf7 := xo.frozen 7
      have xf8 := xo.frozen 8
      have xf9 := xo.frozen 9
      have xf10 := xo.frozen 10
      simp only [List.getElem?_toArray, List.getElem?_cons_zero, List.getElem?_cons_succ] at x0 x1 x2 x3 x4 x5 x6 x7 x8 x9 x10
      clear xo
      have ro := XR.out
      have r0 := ro.cell 0
      have r1 := ro.cell 1
      have r2 := ro.cell 2
      have r3 := ro.cell 3
      have r4 := ro.cell 4
      have r5 := ro.cell 5
      have r6 := ro.cell 6
      have r7 := ro.cell 7
      have r8 := ro.cell 8
      have r9 := ro.cell 9
      have r10 := ro.cell 10
      have rf0 := ro.frozen 0
      have rf1 := ro.frozen 1
      have rf2 := ro.frozen 2
      have rf3 := ro.frozen 3
      have rf4 := ro.frozen 4
      have rf5 := ro.frozen 5
      have rf6 := ro.frozen 6
      have rf7 := ro.frozen 7
      have rf8 := ro.frozen 8
      have rf9 := ro.frozen 9
      have rf10 := ro.frozen 10
      simp only [List.getElem?_toArray, List.getElem?_cons_zero, List.getElem?_cons_succ] at r0 r1 r2 r3 r4 r5 r6 r7 r8 r9 r10
      clear ro
      go_wp2_with fail
      clear x0 x1 x2 x3 x4 x5 x6 x7 x8 x9 x10 xf0 xf1 xf2 xf3 xf4 xf5 xf6 xf7 xf8 xf9 xf10
      clear r0 r1 r2 r3 r4 r5 r6 r7 r8 r9 r10 rf0 rf1 rf2 rf3 rf4 rf5 rf6 rf7 rf8 rf9 rf10
      have b9 := XR.out
      have b9 := b9.put 0 (.int .i64 b)
      have b9 := b9.put 1 (.int .i64 c)
      have b9 := b9.put 2 (.int .i64 j)
      have b9 := b9.put 3 (.int .i64 4)
      have b9 := b9.put 4 (.int .i64 n)
      have b9 := b9.put 5 (.int .i64 at_)
      have b9 := b9.put 6 (.slice A n1 c1)
      have b9 := b9.put 7 (.slice B m1 d1)
      have b9 := b9.put 8 (.int .i64 start)
      have b9 := b9.put 9 (.int .i64 was)
      have b9 := b9.put 10 (.string ⟨held.toArray⟩)
      simp only [List.setIfInBounds_toArray, List.set_cons_zero, List.set_cons_succ] at b9
      have e0 := b9.cell 0
      have e1 := b9.cell 1
      have e2 := b9.cell 2
      have e3 := b9.cell 3
      have e4 := b9.cell 4
      have e5 := b9.cell 5
      have e6 := b9.cell 6
      have e7 := b9.cell 7
      have e8 := b9.cell 8
      have e9 := b9.cell 9
      have e10 := b9.cell 10
      simp only [List.getElem?_toArray, List.getElem?_cons_zero, List.getElem?_cons_succ] at e0 e1 e2 e3 e4 e5 e6 e7 e8 e9 e10
      clear b9
      have ea : .agg #[.int .i64 b, .int .i64 c, .int .i64 j, .int .i64 4, .int .i64 n, .int .i64 at_, .slice A n1 c1, .slice B m1 d1, .int .i64 start, .int .i64 was, .string ⟨held.toArray⟩] = agL (.slice A first.length c1) (.slice B seq.length d1) ⟨b, c, j, 4, n, at_, first, seq, start, was, held⟩ := by rw [HM.out, HN.out]; rfl
      have hbw : w.heap.size ≤ bx := by have := HBX.out; omega
      have hbv : w.heap.size ≤ br := by have := HBX.out; have := HBR.out; omega
      refine bodyPost_ret (v := .tuple #[.agg #[.int .i64 b, .int .i64 c, .int .i64 j, .int .i64 4, .int .i64 n, .int .i64 at_, .slice A n1 c1, .slice B m1 d1, .int .i64 start, .int .i64 was, .string ⟨held.toArray⟩], .slice none 0 0, .bool true]) ?_ rfl ?_
      · simp [results, Try.f42, go_sem, e0, e1, e2, e3, e4, e5, e6, e7, e8, e9, e10]
      · rw [HE.out]
        refine rg_fin (vF := .slice A first.length c1) (vL := .slice B seq.length d1) (v := .slice none 0 0) (s := ⟨b, c, j, 4, n, at_, first, seq, start, was, held⟩) (l := []) (xs := [.bool true]) (by rw [ea]) ?_ ?_ ?_
        · (repeat first | with_reducible refine Fr.alloc ?_ _ | with_reducible refine Fr.setCell ?_ (.inr (by first | exact hbw | exact hbv)) _)
          exact F1.out
        · exact ⟨H.out.first, H.out.seq, H.out.lt⟩
        · exact outs_nil _ _
    · have HE := Lib.hid (show sendS ⟨b, c, j, 4, n, at_, first, seq, start, was, held⟩ t = (⟨b, c, j, 4, n, at_, first, seq, start, was, held⟩, [(3, t)], true) by unfold sendS; rw [if_pos rfl, if_neg h0])
      have hem := ne_empty h0
      clear h0
      go_enter Try.func42, Try.ntmps42
      go_upto_region 1 with (fail)
      generalize (w.alloc (.cells #[.int .i64 b, .int .i64 c, .int .i64 j, .int .i64 4, .int .i64 n, .int .i64 at_, .slice A n1 c1, .slice B m1 d1, .int .i64 start, .int .i64 was, .string ⟨held.toArray⟩] 46)).alloc (.cells #[.int .i64 0, .int .i64 0, .int .i64 0, .int .i64 0, .int .i64 0, .int .i64 0, .slice none 0 0, .slice none 0 0, .int .i64 0, .int .i64 0, .string ⟨#[]⟩] 46) = w1 at XB XR F1 ⊢
      have hbb : bx ≠ br := by omega
      have hbc : br ≠ bx := by omega
      clear hbx hbr
      have hbl := XR.out.lt
      have hbd : br ≠ w1.heap.size := by omega
      have hbm := XB.out.lt
      have hbe : bx ≠ w1.heap.size := by omega
      have xo := XB.out
      have x0 := xo.cell 0
      have x1 := xo.cell 1
      have x2 := xo.cell 2
      have x3 := xo.cell 3
      have x4 := xo.cell 4
      have x5 := xo.cell 5
      have x6 := xo.cell 6
      have x7 := xo.cell 7
      have x8 := xo.cell 8
      have x9 := xo.cell 9
      have x10 := xo.cell 10
      have xf0 := xo.frozen 0
      have xf1 := xo.frozen 1
      have xf2 := xo.frozen 2
      have xf3 := xo.frozen 3
      have xf4 := xo.frozen 4
      have xf5 := xo.frozen 5
      have xf6 := xo.frozen 6
      have xf7 := xo.frozen 7
      have xf8 := xo.frozen 8
      have xf9 := xo.frozen 9
      have xf10 := xo.frozen 10
      simp only [List.getElem?_toArray, List.getElem?_cons_zero, List.getElem?_cons_succ] at x0 x1 x2 x3 x4 x5 x6 x7 x8 x9 x10
      clear xo
      have ro := XR.out
      have r0 := ro.cell 0
      have r1 := ro.cell 1
      have r2 := ro.cell 2
      have r3 := ro.cell 3
      have r4 := ro.cell 4
      have r5 := ro.cell 5
      have r6 := ro.cell 6
      have r7 := ro.cell 7
      have r8 := ro.cell 8
      have r9 := ro.cell 9
      have r10 := ro.cell 10
      have rf0 := ro.frozen 0
      have rf1 := ro.frozen 1
      have rf2 := ro.frozen 2
      have rf3 := ro.frozen 3
      have rf4 := ro.frozen 4
      have rf5 := ro.frozen 5
      have rf6 := ro.frozen 6
      have rf7 := ro.frozen 7
      have rf8 := ro.frozen 8
      have rf9 := ro.frozen 9
      have rf10 := ro.frozen 10
      simp only [List.getElem?_toArray, List.getElem?_cons_zero, List.getElem?_cons_succ] at r0 r1 r2 r3 r4 r5 r6 r7 r8 r9 r10
      clear ro
      go_wp2_with fail
      clear x0 x1 x2 x3 x4 x5 x6 x7 x8 x9 x10 xf0 xf1 xf2 xf3 xf4 xf5 xf6 xf7 xf8 xf9 xf10
      clear r0 r1 r2 r3 r4 r5 r6 r7 r8 r9 r10 rf0 rf1 rf2 rf3 rf4 rf5 rf6 rf7 rf8 rf9 rf10
      have b9 := XR.out
      have b9 := b9.put 0 (.int .i64 b)
      have b9 := b9.put 1 (.int .i64 c)
      have b9 := b9.put 2 (.int .i64 j)
      have b9 := b9.put 3 (.int .i64 4)
      have b9 := b9.put 4 (.int .i64 n)
      have b9 := b9.put 5 (.int .i64 at_)
      have b9 := b9.put 6 (.slice A n1 c1)
      have b9 := b9.put 7 (.slice B m1 d1)
      have b9 := b9.put 8 (.int .i64 start)
      have b9 := b9.put 9 (.int .i64 was)
      have b9 := b9.put 10 (.string ⟨held.toArray⟩)
      have b9 := b9.alloc (.cells #[.int .i64 3, .string ⟨t.toArray⟩] 65)
      simp only [List.setIfInBounds_toArray, List.set_cons_zero, List.set_cons_succ] at b9
      have e0 := b9.cell 0
      have e1 := b9.cell 1
      have e2 := b9.cell 2
      have e3 := b9.cell 3
      have e4 := b9.cell 4
      have e5 := b9.cell 5
      have e6 := b9.cell 6
      have e7 := b9.cell 7
      have e8 := b9.cell 8
      have e9 := b9.cell 9
      have e10 := b9.cell 10
      simp only [List.getElem?_toArray, List.getElem?_cons_zero, List.getElem?_cons_succ] at e0 e1 e2 e3 e4 e5 e6 e7 e8 e9 e10
      clear b9
      have ea : .agg #[.int .i64 b, .int .i64 c, .int .i64 j, .int .i64 4, .int .i64 n, .int .i64 at_, .slice A n1 c1, .slice B m1 d1, .int .i64 start, .int .i64 was, .string ⟨held.toArray⟩] = agL (.slice A first.length c1) (.slice B seq.length d1) ⟨b, c, j, 4, n, at_, first, seq, start, was, held⟩ := by rw [HM.out, HN.out]; rfl
      have hbw : w.heap.size ≤ bx := by have := HBX.out; omega
      have hbv : w.heap.size ≤ br := by have := HBX.out; have := HBR.out; omega
      refine bodyPost_ret (v := .tuple #[.agg #[.int .i64 b, .int .i64 c, .int .i64 j, .int .i64 4, .int .i64 n, .int .i64 at_, .slice A n1 c1, .slice B m1 d1, .int .i64 start, .int .i64 was, .string ⟨held.toArray⟩], .slice (some ⟨w1.heap.size, 0, none⟩) 1 1, .bool true]) ?_ rfl ?_
      · simp [results, Try.f42, go_sem, e0, e1, e2, e3, e4, e5, e6, e7, e8, e9, e10]
      · rw [HE.out]
        refine rg_fin (vF := .slice A first.length c1) (vL := .slice B seq.length d1) (v := .slice (some ⟨w1.heap.size, 0, none⟩) 1 1) (s := ⟨b, c, j, 4, n, at_, first, seq, start, was, held⟩) (l := [(3, t)]) (xs := [.bool true]) (by rw [ea]) ?_ ?_ ?_
        · (repeat first | with_reducible refine Fr.alloc ?_ _ | with_reducible refine Fr.setCell ?_ (.inr (by first | exact hbw | exact hbv)) _)
          exact F1.out
        · exact ⟨H.out.first, H.out.seq, H.out.lt⟩
        · exact outs_one _ (by simp only [size_setCell]) (by have := F1.out.size; simp only [size_setCell]; exact this)
  have g4 : (st == 4) = false := by simpa using h4
  by_cases hb : st = 3 ∨ st = 5
  rotate_left
  · have HE := Lib.hid (show sendS ⟨b, c, j, st, n, at_, first, seq, start, was, held⟩ t = (⟨b, c, j, st, n, at_, first, seq, start, was, held⟩, [], false) by unfold sendS; rw [if_neg h4, if_pos (.inl (decide_eq_false hb))])
    obtain ⟨h3, h5⟩ := not_or.1 hb
    have g3 : (st != 3) = true := by simpa using h3
    have g5 : (st != 5) = true := by simpa using h5
    clear hb h3 h5 h4
    go_enter Try.func42, Try.ntmps42
    go_upto_region 1 with (fail)
    generalize (w.alloc (.cells #[.int .i64 b, .int .i64 c, .int .i64 j, .int .i64 st, .int .i64 n, .int .i64 at_, .slice A n1 c1, .slice B m1 d1, .int .i64 start, .int .i64 was, .string ⟨held.toArray⟩] 46)).alloc (.cells #[.int .i64 0, .int .i64 0, .int .i64 0, .int .i64 0, .int .i64 0, .int .i64 0, .slice none 0 0, .slice none 0 0, .int .i64 0, .int .i64 0, .string ⟨#[]⟩] 46) = w1 at XB XR F1 ⊢
    have hbb : bx ≠ br := by omega
    have hbc : br ≠ bx := by omega
    clear hbx hbr
    have hbl := XR.out.lt
    have hbd : br ≠ w1.heap.size := by omega
    have hbm := XB.out.lt
    have hbe : bx ≠ w1.heap.size := by omega
    have xo := XB.out
    have x0 := xo.cell 0
    have x1 := xo.cell 1
    have x2 := xo.cell 2
    have x3 := xo.cell 3
    have x4 := xo.cell 4
    have x5 := xo.cell 5
    have x6 := xo.cell 6
    have x7 := xo.cell 7
    have x8 := xo.cell 8
    have x9 := xo.cell 9
    have x10 := xo.cell 10
    have xf0 := xo.frozen 0
    have xf1 := xo.frozen 1
    have xf2 := xo.frozen 2
    have xf3 := xo.frozen 3
    have xf4 := xo.frozen 4
    have xf5 := xo.frozen 5
    have xf6 := xo.frozen 6
    have xf7 := xo.frozen 7
    have xf8 := xo.frozen 8
    have xf9 := xo.frozen 9
    have xf10 := xo.frozen 10
    simp only [List.getElem?_toArray, List.getElem?_cons_zero, List.getElem?_cons_succ] at x0 x1 x2 x3 x4 x5 x6 x7 x8 x9 x10
    clear xo
    have ro := XR.out
    have r0 := ro.cell 0
    have r1 := ro.cell 1
    have r2 := ro.cell 2
    have r3 := ro.cell 3
    have r4 := ro.cell 4
    have r5 := ro.cell 5
    have r6 := ro.cell 6
    have r7 := ro.cell 7
    have r8 := ro.cell 8
    have r9 := ro.cell 9
    have r10 := ro.cell 10
    have rf0 := ro.frozen 0
    have rf1 := ro.frozen 1
    have rf2 := ro.frozen 2
    have rf3 := ro.frozen 3
    have rf4 := ro.frozen 4
    have rf5 := ro.frozen 5
    have rf6 := ro.frozen 6
    have rf7 := ro.frozen 7
    have rf8 := ro.frozen 8
    have rf9 := ro.frozen 9
    have rf10 := ro.frozen 10
    simp only [List.getElem?_toArray, List.getElem?_cons_zero, List.getElem?_cons_succ] at r0 r1 r2 r3 r4 r5 r6 r7 r8 r9 r10
    clear ro
    go_wp2_with fail
    clear x0 x1 x2 x3 x4 x5 x6 x7 x8 x9 x10 xf0 xf1 xf2 xf3 xf4 xf5 xf6 xf7 xf8 xf9 xf10
    clear r0 r1 r2 r3 r4 r5 r6 r7 r8 r9 r10 rf0 rf1 rf2 rf3 rf4 rf5 rf6 rf7 rf8 rf9 rf10
    have b9 := XR.out
    have b9 := b9.put 0 (.int .i64 b)
    have b9 := b9.put 1 (.int .i64 c)
    have b9 := b9.put 2 (.int .i64 j)
    have b9 := b9.put 3 (.int .i64 st)
    have b9 := b9.put 4 (.int .i64 n)
    have b9 := b9.put 5 (.int .i64 at_)
    have b9 := b9.put 6 (.slice A n1 c1)
    have b9 := b9.put 7 (.slice B m1 d1)
    have b9 := b9.put 8 (.int .i64 start)
    have b9 := b9.put 9 (.int .i64 was)
    have b9 := b9.put 10 (.string ⟨held.toArray⟩)
    simp only [List.setIfInBounds_toArray, List.set_cons_zero, List.set_cons_succ] at b9
    have e0 := b9.cell 0
    have e1 := b9.cell 1
    have e2 := b9.cell 2
    have e3 := b9.cell 3
    have e4 := b9.cell 4
    have e5 := b9.cell 5
    have e6 := b9.cell 6
    have e7 := b9.cell 7
    have e8 := b9.cell 8
    have e9 := b9.cell 9
    have e10 := b9.cell 10
    simp only [List.getElem?_toArray, List.getElem?_cons_zero, List.getElem?_cons_succ] at e0 e1 e2 e3 e4 e5 e6 e7 e8 e9 e10
    clear b9
    have ea : .agg #[.int .i64 b, .int .i64 c, .int .i64 j, .int .i64 st, .int .i64 n, .int .i64 at_, .slice A n1 c1, .slice B m1 d1, .int .i64 start, .int .i64 was, .string ⟨held.toArray⟩] = agL (.slice A first.length c1) (.slice B seq.length d1) ⟨b, c, j, st, n, at_, first, seq, start, was, held⟩ := by rw [HM.out, HN.out]; rfl
    have hbw : w.heap.size ≤ bx := by have := HBX.out; omega
    have hbv : w.heap.size ≤ br := by have := HBX.out; have := HBR.out; omega
    refine bodyPost_ret (v := .tuple #[.agg #[.int .i64 b, .int .i64 c, .int .i64 j, .int .i64 st, .int .i64 n, .int .i64 at_, .slice A n1 c1, .slice B m1 d1, .int .i64 start, .int .i64 was, .string ⟨held.toArray⟩], .slice none 0 0, .bool false]) ?_ rfl ?_
    · simp [results, Try.f42, go_sem, e0, e1, e2, e3, e4, e5, e6, e7, e8, e9, e10]
    · rw [HE.out]
      refine rg_fin (vF := .slice A first.length c1) (vL := .slice B seq.length d1) (v := .slice none 0 0) (s := ⟨b, c, j, st, n, at_, first, seq, start, was, held⟩) (l := []) (xs := [.bool false]) (by rw [ea]) ?_ ?_ ?_
      · (repeat first | with_reducible refine Fr.alloc ?_ _ | with_reducible refine Fr.setCell ?_ (.inr (by first | exact hbw | exact hbv)) _)
        exact F1.out
      · exact ⟨H.out.first, H.out.seq, H.out.lt⟩
      · exact outs_nil _ _
  have HB := Lib.hid (show busy ⟨b, c, j, st, n, at_, first, seq, start, was, held⟩ = true from decide_eq_true hb)
  have g35 : (st != 3) = false ∨ (st != 3) = true ∧ (st != 5) = false := by
    rcases hb with h | h
    · left; simpa using h
    · right; subst h; exact ⟨by decide, by decide⟩
  clear hb
  obtain ⟨hl1, hle⟩ : ∃ hl1, hl1 = held.length := ⟨_, rfl⟩
  obtain ⟨tl, htl⟩ : ∃ tl, tl = t.length := ⟨_, rfl⟩
  rcases g35 with g3 | ⟨g3, g5⟩
  · by_cases hc : 4096 < held.length + t.length
    · have HE := Lib.hid (show sendS ⟨b, c, j, st, n, at_, first, seq, start, was, held⟩ t = (⟨b, c, j, st, n, at_, first, seq, start, was, held⟩, [], false) by unfold sendS; rw [if_neg h4, if_pos (.inr hc)])
      clear h4
      go_enter Try.func42, Try.ntmps42
      go_upto_region 1 with (fail)
      generalize (w.alloc (.cells #[.int .i64 b, .int .i64 c, .int .i64 j, .int .i64 st, .int .i64 n, .int .i64 at_, .slice A n1 c1, .slice B m1 d1, .int .i64 start, .int .i64 was, .string ⟨held.toArray⟩] 46)).alloc (.cells #[.int .i64 0, .int .i64 0, .int .i64 0, .int .i64 0, .int .i64 0, .int .i64 0, .slice none 0 0, .slice none 0 0, .int .i64 0, .int .i64 0, .string ⟨#[]⟩] 46) = w1 at XB XR F1 ⊢
      have hbb : bx ≠ br := by omega
      have hbc : br ≠ bx := by omega
      clear hbx hbr
      have hbl := XR.out.lt
      have hbd : br ≠ w1.heap.size := by omega
      have hbm := XB.out.lt
      have hbe : bx ≠ w1.heap.size := by omega
      have xo := XB.out
      have x0 := xo.cell 0
      have x1 := xo.cell 1
      have x2 := xo.cell 2
      have x3 := xo.cell 3
      have x4 := xo.cell 4
      have x5 := xo.cell 5
      have x6 := xo.cell 6
      have x7 := xo.cell 7
      have x8 := xo.cell 8
      have x9 := xo.cell 9
      have x10 := xo.cell 10
      have xf0 := xo.frozen 0
      have xf1 := xo.frozen 1
      have xf2 := xo.frozen 2
      have xf3 := xo.frozen 3
      have xf4 := xo.frozen 4
      have xf5 := xo.frozen 5
      have xf6 := xo.frozen 6
      have xf7 := xo.frozen 7
      have xf8 := xo.frozen 8
      have xf9 := xo.frozen 9
      have xf10 := xo.frozen 10
      simp only [List.getElem?_toArray, List.getElem?_cons_zero, List.getElem?_cons_succ] at x0 x1 x2 x3 x4 x5 x6 x7 x8 x9 x10
      clear xo
      have ro := XR.out
      have r0 := ro.cell 0
      have r1 := ro.cell 1
      have r2 := ro.cell 2
      have r3 := ro.cell 3
      have r4 := ro.cell 4
      have r5 := ro.cell 5
      have r6 := ro.cell 6
      have r7 := ro.cell 7
      have r8 := ro.cell 8
      have r9 := ro.cell 9
      have r10 := ro.cell 10
      have rf0 := ro.frozen 0
      have rf1 := ro.frozen 1
      have rf2 := ro.frozen 2
      have rf3 := ro.frozen 3
      have rf4 := ro.frozen 4
      have rf5 := ro.frozen 5
      have rf6 := ro.frozen 6
      have rf7 := ro.frozen 7
      have rf8 := ro.frozen 8
      have rf9 := ro.frozen 9
      have rf10 := ro.frozen 10
      simp only [List.getElem?_toArray, List.getElem?_cons_zero, List.getElem?_cons_succ] at r0 r1 r2 r3 r4 r5 r6 r7 r8 r9 r10
      clear ro
      go_wp2_with fail
      clear x0 x1 x2 x3 x4 x5 x6 x7 x8 x9 x10 xf0 xf1 xf2 xf3 xf4 xf5 xf6 xf7 xf8 xf9 xf10
      clear r0 r1 r2 r3 r4 r5 r6 r7 r8 r9 r10 rf0 rf1 rf2 rf3 rf4 rf5 rf6 rf7 rf8 rf9 rf10
      have b9 := XR.out
      have b9 := b9.put 0 (.int .i64 b)
      have b9 := b9.put 1 (.int .i64 c)
      have b9 := b9.put 2 (.int .i64 j)
      have b9 := b9.put 3 (.int .i64 st)
      have b9 := b9.put 4 (.int .i64 n)
      have b9 := b9.put 5 (.int .i64 at_)
      have b9 := b9.put 6 (.slice A n1 c1)
      have b9 := b9.put 7 (.slice B m1 d1)
      have b9 := b9.put 8 (.int .i64 start)
      have b9 := b9.put 9 (.int .i64 was)
      have b9 := b9.put 10 (.string ⟨held.toArray⟩)
      simp only [List.setIfInBounds_toArray, List.set_cons_zero, List.set_cons_succ] at b9
      have e0 := b9.cell 0
      have e1 := b9.cell 1
      have e2 := b9.cell 2
      have e3 := b9.cell 3
      have e4 := b9.cell 4
      have e5 := b9.cell 5
      have e6 := b9.cell 6
      have e7 := b9.cell 7
      have e8 := b9.cell 8
      have e9 := b9.cell 9
      have e10 := b9.cell 10
      simp only [List.getElem?_toArray, List.getElem?_cons_zero, List.getElem?_cons_succ] at e0 e1 e2 e3 e4 e5 e6 e7 e8 e9 e10
      clear b9
      have ea : .agg #[.int .i64 b, .int .i64 c, .int .i64 j, .int .i64 st, .int .i64 n, .int .i64 at_, .slice A n1 c1, .slice B m1 d1, .int .i64 start, .int .i64 was, .string ⟨held.toArray⟩] = agL (.slice A first.length c1) (.slice B seq.length d1) ⟨b, c, j, st, n, at_, first, seq, start, was, held⟩ := by rw [HM.out, HN.out]; rfl
      have hbw : w.heap.size ≤ bx := by have := HBX.out; omega
      have hbv : w.heap.size ≤ br := by have := HBX.out; have := HBR.out; omega
      refine bodyPost_ret (v := .tuple #[.agg #[.int .i64 b, .int .i64 c, .int .i64 j, .int .i64 st, .int .i64 n, .int .i64 at_, .slice A n1 c1, .slice B m1 d1, .int .i64 start, .int .i64 was, .string ⟨held.toArray⟩], .slice none 0 0, .bool false]) ?_ rfl ?_
      · simp [results, Try.f42, go_sem, e0, e1, e2, e3, e4, e5, e6, e7, e8, e9, e10]
      · rw [HE.out]
        refine rg_fin (vF := .slice A first.length c1) (vL := .slice B seq.length d1) (v := .slice none 0 0) (s := ⟨b, c, j, st, n, at_, first, seq, start, was, held⟩) (l := []) (xs := [.bool false]) (by rw [ea]) ?_ ?_ ?_
        · (repeat first | with_reducible refine Fr.alloc ?_ _ | with_reducible refine Fr.setCell ?_ (.inr (by first | exact hbw | exact hbv)) _)
          exact F1.out
        · exact ⟨H.out.first, H.out.seq, H.out.lt⟩
        · exact outs_nil _ _
    · have HE := Lib.hid (show sendS ⟨b, c, j, st, n, at_, first, seq, start, was, held⟩ t = (⟨b, c, j, st, n, at_, first, seq, start, was, held ++ t⟩, [], true) by unfold sendS; rw [if_neg h4, if_neg (not_or.2 ⟨by rw [HB.out]; simp, hc⟩)])
      have hc : held.length + t.length ≤ 4096 := by omega
      clear h4
      go_enter Try.func42, Try.ntmps42
      go_upto_region 1 with (fail)
      generalize (w.alloc (.cells #[.int .i64 b, .int .i64 c, .int .i64 j, .int .i64 st, .int .i64 n, .int .i64 at_, .slice A n1 c1, .slice B m1 d1, .int .i64 start, .int .i64 was, .string ⟨held.toArray⟩] 46)).alloc (.cells #[.int .i64 0, .int .i64 0, .int .i64 0, .int .i64 0, .int .i64 0, .int .i64 0, .slice none 0 0, .slice none 0 0, .int .i64 0, .int .i64 0, .string ⟨#[]⟩] 46) = w1 at XB XR F1 ⊢
      have hbb : bx ≠ br := by omega
      have hbc : br ≠ bx := by omega
      clear hbx hbr
      have hbl := XR.out.lt
      have hbd : br ≠ w1.heap.size := by omega
      have hbm := XB.out.lt
      have hbe : bx ≠ w1.heap.size := by omega
      have xo := XB.out
      have x0 := xo.cell 0
      have x1 := xo.cell 1
      have x2 := xo.cell 2
      have x3 := xo.cell 3
      have x4 := xo.cell 4
      have x5 := xo.cell 5
      have x6 := xo.cell 6
      have x7 := xo.cell 7
      have x8 := xo.cell 8
      have x9 := xo.cell 9
      have x10 := xo.cell 10
      have xf0 := xo.frozen 0
      have xf1 := xo.frozen 1
      have xf2 := xo.frozen 2
      have xf3 := xo.frozen 3
      have xf4 := xo.frozen 4
      have xf5 := xo.frozen 5
      have xf6 := xo.frozen 6
      have xf7 := xo.frozen 7
      have xf8 := xo.frozen 8
      have xf9 := xo.frozen 9
      have xf10 := xo.frozen 10
      simp only [List.getElem?_toArray, List.getElem?_cons_zero, List.getElem?_cons_succ] at x0 x1 x2 x3 x4 x5 x6 x7 x8 x9 x10
      clear xo
      have ro := XR.out
      have r0 := ro.cell 0
      have r1 := ro.cell 1
      have r2 := ro.cell 2
      have r3 := ro.cell 3
      have r4 := ro.cell 4
      have r5 := ro.cell 5
      have r6 := ro.cell 6
      have r7 := ro.cell 7
      have r8 := ro.cell 8
      have r9 := ro.cell 9
      have r10 := ro.cell 10
      have rf0 := ro.frozen 0
      have rf1 := ro.frozen 1
      have rf2 := ro.frozen 2
      have rf3 := ro.frozen 3
      have rf4 := ro.frozen 4
      have rf5 := ro.frozen 5
      have rf6 := ro.frozen 6
      have rf7 := ro.frozen 7
      have rf8 := ro.frozen 8
      have rf9 := ro.frozen 9
      have rf10 := ro.frozen 10
      simp only [List.getElem?_toArray, List.getElem?_cons_zero, List.getElem?_cons_succ] at r0 r1 r2 r3 r4 r5 r6 r7 r8 r9 r10
      clear ro
      go_wp2_with fail
      simp only [ba_app]
      clear x0 x1 x2 x3 x4 x5 x6 x7 x8 x9 x10 xf0 xf1 xf2 xf3 xf4 xf5 xf6 xf7 xf8 xf9 xf10
      clear r0 r1 r2 r3 r4 r5 r6 r7 r8 r9 r10 rf0 rf1 rf2 rf3 rf4 rf5 rf6 rf7 rf8 rf9 rf10
      have b9 := XR.out
      have b9 := b9.far (p := ⟨bx, 10, none⟩) hbc (.string ⟨(held ++ t).toArray⟩)
      have b9 := b9.put 0 (.int .i64 b)
      have b9 := b9.put 1 (.int .i64 c)
      have b9 := b9.put 2 (.int .i64 j)
      have b9 := b9.put 3 (.int .i64 st)
      have b9 := b9.put 4 (.int .i64 n)
      have b9 := b9.put 5 (.int .i64 at_)
      have b9 := b9.put 6 (.slice A n1 c1)
      have b9 := b9.put 7 (.slice B m1 d1)
      have b9 := b9.put 8 (.int .i64 start)
      have b9 := b9.put 9 (.int .i64 was)
      have b9 := b9.put 10 (.string ⟨(held ++ t).toArray⟩)
      simp only [List.setIfInBounds_toArray, List.set_cons_zero, List.set_cons_succ] at b9
      have e0 := b9.cell 0
      have e1 := b9.cell 1
      have e2 := b9.cell 2
      have e3 := b9.cell 3
      have e4 := b9.cell 4
      have e5 := b9.cell 5
      have e6 := b9.cell 6
      have e7 := b9.cell 7
      have e8 := b9.cell 8
      have e9 := b9.cell 9
      have e10 := b9.cell 10
      simp only [List.getElem?_toArray, List.getElem?_cons_zero, List.getElem?_cons_succ] at e0 e1 e2 e3 e4 e5 e6 e7 e8 e9 e10
      clear b9
      have ea : .agg #[.int .i64 b, .int .i64 c, .int .i64 j, .int .i64 st, .int .i64 n, .int .i64 at_, .slice A n1 c1, .slice B m1 d1, .int .i64 start, .int .i64 was, .string ⟨(held ++ t).toArray⟩] = agL (.slice A first.length c1) (.slice B seq.length d1) ⟨b, c, j, st, n, at_, first, seq, start, was, held ++ t⟩ := by rw [HM.out, HN.out]; rfl
      have hbw : w.heap.size ≤ bx := by have := HBX.out; omega
      have hbv : w.heap.size ≤ br := by have := HBX.out; have := HBR.out; omega
      refine bodyPost_ret (v := .tuple #[.agg #[.int .i64 b, .int .i64 c, .int .i64 j, .int .i64 st, .int .i64 n, .int .i64 at_, .slice A n1 c1, .slice B m1 d1, .int .i64 start, .int .i64 was, .string ⟨(held ++ t).toArray⟩], .slice none 0 0, .bool true]) ?_ rfl ?_
      · simp [results, Try.f42, go_sem, e0, e1, e2, e3, e4, e5, e6, e7, e8, e9, e10]
      · rw [HE.out]
        refine rg_fin (vF := .slice A first.length c1) (vL := .slice B seq.length d1) (v := .slice none 0 0) (s := ⟨b, c, j, st, n, at_, first, seq, start, was, held ++ t⟩) (l := []) (xs := [.bool true]) (by rw [ea]) ?_ ?_ ?_
        · (repeat first | with_reducible refine Fr.alloc ?_ _ | with_reducible refine Fr.setCell ?_ (.inr (by first | exact hbw | exact hbv)) _)
          exact F1.out
        · exact ⟨H.out.first, H.out.seq, H.out.lt⟩
        · exact outs_nil _ _
  · by_cases hc : 4096 < held.length + t.length
    · have HE := Lib.hid (show sendS ⟨b, c, j, st, n, at_, first, seq, start, was, held⟩ t = (⟨b, c, j, st, n, at_, first, seq, start, was, held⟩, [], false) by unfold sendS; rw [if_neg h4, if_pos (.inr hc)])
      clear h4
      go_enter Try.func42, Try.ntmps42
      go_upto_region 1 with (fail)
      generalize (w.alloc (.cells #[.int .i64 b, .int .i64 c, .int .i64 j, .int .i64 st, .int .i64 n, .int .i64 at_, .slice A n1 c1, .slice B m1 d1, .int .i64 start, .int .i64 was, .string ⟨held.toArray⟩] 46)).alloc (.cells #[.int .i64 0, .int .i64 0, .int .i64 0, .int .i64 0, .int .i64 0, .int .i64 0, .slice none 0 0, .slice none 0 0, .int .i64 0, .int .i64 0, .string ⟨#[]⟩] 46) = w1 at XB XR F1 ⊢
      have hbb : bx ≠ br := by omega
      have hbc : br ≠ bx := by omega
      clear hbx hbr
      have hbl := XR.out.lt
      have hbd : br ≠ w1.heap.size := by omega
      have hbm := XB.out.lt
      have hbe : bx ≠ w1.heap.size := by omega
      have xo := XB.out
      have x0 := xo.cell 0
      have x1 := xo.cell 1
      have x2 := xo.cell 2
      have x3 := xo.cell 3
      have x4 := xo.cell 4
      have x5 := xo.cell 5
      have x6 := xo.cell 6
      have x7 := xo.cell 7
      have x8 := xo.cell 8
      have x9 := xo.cell 9
      have x10 := xo.cell 10
      have xf0 := xo.frozen 0
      have xf1 := xo.frozen 1
      have xf2 := xo.frozen 2
      have xf3 := xo.frozen 3
      have xf4 := xo.frozen 4
      have xf5 := xo.frozen 5
      have xf6 := xo.frozen 6
      have xf7 := xo.frozen 7
      have xf8 := xo.frozen 8
      have xf9 := xo.frozen 9
      have xf10 := xo.frozen 10
      simp only [List.getElem?_toArray, List.getElem?_cons_zero, List.getElem?_cons_succ] at x0 x1 x2 x3 x4 x5 x6 x7 x8 x9 x10
      clear xo
      have ro := XR.out
      have r0 := ro.cell 0
      have r1 := ro.cell 1
      have r2 := ro.cell 2
      have r3 := ro.cell 3
      have r4 := ro.cell 4
      have r5 := ro.cell 5
      have r6 := ro.cell 6
      have r7 := ro.cell 7
      have r8 := ro.cell 8
      have r9 := ro.cell 9
      have r10 := ro.cell 10
      have rf0 := ro.frozen 0
      have rf1 := ro.frozen 1
      have rf2 := ro.frozen 2
      have rf3 := ro.frozen 3
      have rf4 := ro.frozen 4
      have rf5 := ro.frozen 5
      have rf6 := ro.frozen 6
      have rf7 := ro.frozen 7
      have rf8 := ro.frozen 8
      have rf9 := ro.frozen 9
      have rf10 := ro.frozen 10
      simp only [List.getElem?_toArray, List.getElem?_cons_zero, List.getElem?_cons_succ] at r0 r1 r2 r3 r4 r5 r6 r7 r8 r9 r10
      clear ro
      go_wp2_with fail
      clear x0 x1 x2 x3 x4 x5 x6 x7 x8 x9 x10 xf0 xf1 xf2 xf3 xf4 xf5 xf6 xf7 xf8 xf9 xf10
      clear r0 r1 r2 r3 r4 r5 r6 r7 r8 r9 r10 rf0 rf1 rf2 rf3 rf4 rf5 rf6 rf7 rf8 rf9 rf10
      have b9 := XR.out
      have b9 := b9.put 0 (.int .i64 b)
      have b9 := b9.put 1 (.int .i64 c)
      have b9 := b9.put 2 (.int .i64 j)
      have b9 := b9.put 3 (.int .i64 st)
      have b9 := b9.put 4 (.int .i64 n)
      have b9 := b9.put 5 (.int .i64 at_)
      have b9 := b9.put 6 (.slice A n1 c1)
      have b9 := b9.put 7 (.slice B m1 d1)
      have b9 := b9.put 8 (.int .i64 start)
      have b9 := b9.put 9 (.int .i64 was)
      have b9 := b9.put 10 (.string ⟨held.toArray⟩)
      simp only [List.setIfInBounds_toArray, List.set_cons_zero, List.set_cons_succ] at b9
      have e0 := b9.cell 0
      have e1 := b9.cell 1
      have e2 := b9.cell 2
      have e3 := b9.cell 3
      have e4 := b9.cell 4
      have e5 := b9.cell 5
      have e6 := b9.cell 6
      have e7 := b9.cell 7
      have e8 := b9.cell 8
      have e9 := b9.cell 9
      have e10 := b9.cell 10
      simp only [List.getElem?_toArray, List.getElem?_cons_zero, List.getElem?_cons_succ] at e0 e1 e2 e3 e4 e5 e6 e7 e8 e9 e10
      clear b9
      have ea : .agg #[.int .i64 b, .int .i64 c, .int .i64 j, .int .i64 st, .int .i64 n, .int .i64 at_, .slice A n1 c1, .slice B m1 d1, .int .i64 start, .int .i64 was, .string ⟨held.toArray⟩] = agL (.slice A first.length c1) (.slice B seq.length d1) ⟨b, c, j, st, n, at_, first, seq, start, was, held⟩ := by rw [HM.out, HN.out]; rfl
      have hbw : w.heap.size ≤ bx := by have := HBX.out; omega
      have hbv : w.heap.size ≤ br := by have := HBX.out; have := HBR.out; omega
      refine bodyPost_ret (v := .tuple #[.agg #[.int .i64 b, .int .i64 c, .int .i64 j, .int .i64 st, .int .i64 n, .int .i64 at_, .slice A n1 c1, .slice B m1 d1, .int .i64 start, .int .i64 was, .string ⟨held.toArray⟩], .slice none 0 0, .bool false]) ?_ rfl ?_
      · simp [results, Try.f42, go_sem, e0, e1, e2, e3, e4, e5, e6, e7, e8, e9, e10]
      · rw [HE.out]
        refine rg_fin (vF := .slice A first.length c1) (vL := .slice B seq.length d1) (v := .slice none 0 0) (s := ⟨b, c, j, st, n, at_, first, seq, start, was, held⟩) (l := []) (xs := [.bool false]) (by rw [ea]) ?_ ?_ ?_
        · (repeat first | with_reducible refine Fr.alloc ?_ _ | with_reducible refine Fr.setCell ?_ (.inr (by first | exact hbw | exact hbv)) _)
          exact F1.out
        · exact ⟨H.out.first, H.out.seq, H.out.lt⟩
        · exact outs_nil _ _
    · have HE := Lib.hid (show sendS ⟨b, c, j, st, n, at_, first, seq, start, was, held⟩ t = (⟨b, c, j, st, n, at_, first, seq, start, was, held ++ t⟩, [], true) by unfold sendS; rw [if_neg h4, if_neg (not_or.2 ⟨by rw [HB.out]; simp, hc⟩)])
      have hc : held.length + t.length ≤ 4096 := by omega
      clear h4
      go_enter Try.func42, Try.ntmps42
      go_upto_region 1 with (fail)
      generalize (w.alloc (.cells #[.int .i64 b, .int .i64 c, .int .i64 j, .int .i64 st, .int .i64 n, .int .i64 at_, .slice A n1 c1, .slice B m1 d1, .int .i64 start, .int .i64 was, .string ⟨held.toArray⟩] 46)).alloc (.cells #[.int .i64 0, .int .i64 0, .int .i64 0, .int .i64 0, .int .i64 0, .int .i64 0, .slice none 0 0, .slice none 0 0, .int .i64 0, .int .i64 0, .string ⟨#[]⟩] 46) = w1 at XB XR F1 ⊢
      have hbb : bx ≠ br := by omega
      have hbc : br ≠ bx := by omega
      clear hbx hbr
      have hbl := XR.out.lt
      have hbd : br ≠ w1.heap.size := by omega
      have hbm := XB.out.lt
      have hbe : bx ≠ w1.heap.size := by omega
      have xo := XB.out
      have x0 := xo.cell 0
      have x1 := xo.cell 1
      have x2 := xo.cell 2
      have x3 := xo.cell 3
      have x4 := xo.cell 4
      have x5 := xo.cell 5
      have x6 := xo.cell 6
      have x7 := xo.cell 7
      have x8 := xo.cell 8
      have x9 := xo.cell 9
      have x10 := xo.cell 10
      have xf0 := xo.frozen 0
      have xf1 := xo.frozen 1
      have xf2 := xo.frozen 2
      have xf3 := xo.frozen 3
      have xf4 := xo.frozen 4
      have xf5 := xo.frozen 5
      have xf6 := xo.frozen 6
      have xf7 := xo.frozen 7
      have xf8 := xo.frozen 8
      have xf9 := xo.frozen 9
      have xf10 := xo.frozen 10
      simp only [List.getElem?_toArray, List.getElem?_cons_zero, List.getElem?_cons_succ] at x0 x1 x2 x3 x4 x5 x6 x7 x8 x9 x10
      clear xo
      have ro := XR.out
      have r0 := ro.cell 0
      have r1 := ro.cell 1
      have r2 := ro.cell 2
      have r3 := ro.cell 3
      have r4 := ro.cell 4
      have r5 := ro.cell 5
      have r6 := ro.cell 6
      have r7 := ro.cell 7
      have r8 := ro.cell 8
      have r9 := ro.cell 9
      have r10 := ro.cell 10
      have rf0 := ro.frozen 0
      have rf1 := ro.frozen 1
      have rf2 := ro.frozen 2
      have rf3 := ro.frozen 3
      have rf4 := ro.frozen 4
      have rf5 := ro.frozen 5
      have rf6 := ro.frozen 6
      have rf7 := ro.frozen 7
      have rf8 := ro.frozen 8
      have rf9 := ro.frozen 9
      have rf10 := ro.frozen 10
      simp only [List.getElem?_toArray, List.getElem?_cons_zero, List.getElem?_cons_succ] at r0 r1 r2 r3 r4 r5 r6 r7 r8 r9 r10
      clear ro
      go_wp2_with fail
      simp only [ba_app]
      clear x0 x1 x2 x3 x4 x5 x6 x7 x8 x9 x10 xf0 xf1 xf2 xf3 xf4 xf5 xf6 xf7 xf8 xf9 xf10
      clear r0 r1 r2 r3 r4 r5 r6 r7 r8 r9 r10 rf0 rf1 rf2 rf3 rf4 rf5 rf6 rf7 rf8 rf9 rf10
      have b9 := XR.out
      have b9 := b9.far (p := ⟨bx, 10, none⟩) hbc (.string ⟨(held ++ t).toArray⟩)
      have b9 := b9.put 0 (.int .i64 b)
      have b9 := b9.put 1 (.int .i64 c)
      have b9 := b9.put 2 (.int .i64 j)
      have b9 := b9.put 3 (.int .i64 st)
      have b9 := b9.put 4 (.int .i64 n)
      have b9 := b9.put 5 (.int .i64 at_)
      have b9 := b9.put 6 (.slice A n1 c1)
      have b9 := b9.put 7 (.slice B m1 d1)
      have b9 := b9.put 8 (.int .i64 start)
      have b9 := b9.put 9 (.int .i64 was)
      have b9 := b9.put 10 (.string ⟨(held ++ t).toArray⟩)
      simp only [List.setIfInBounds_toArray, List.set_cons_zero, List.set_cons_succ] at b9
      have e0 := b9.cell 0
      have e1 := b9.cell 1
      have e2 := b9.cell 2
      have e3 := b9.cell 3
      have e4 := b9.cell 4
      have e5 := b9.cell 5
      have e6 := b9.cell 6
      have e7 := b9.cell 7
      have e8 := b9.cell 8
      have e9 := b9.cell 9
      have e10 := b9.cell 10
      simp only [List.getElem?_toArray, List.getElem?_cons_zero, List.getElem?_cons_succ] at e0 e1 e2 e3 e4 e5 e6 e7 e8 e9 e10
      clear b9
      have ea : .agg #[.int .i64 b, .int .i64 c, .int .i64 j, .int .i64 st, .int .i64 n, .int .i64 at_, .slice A n1 c1, .slice B m1 d1, .int .i64 start, .int .i64 was, .string ⟨(held ++ t).toArray⟩] = agL (.slice A first.length c1) (.slice B seq.length d1) ⟨b, c, j, st, n, at_, first, seq, start, was, held ++ t⟩ := by rw [HM.out, HN.out]; rfl
      have hbw : w.heap.size ≤ bx := by have := HBX.out; omega
      have hbv : w.heap.size ≤ br := by have := HBX.out; have := HBR.out; omega
      refine bodyPost_ret (v := .tuple #[.agg #[.int .i64 b, .int .i64 c, .int .i64 j, .int .i64 st, .int .i64 n, .int .i64 at_, .slice A n1 c1, .slice B m1 d1, .int .i64 start, .int .i64 was, .string ⟨(held ++ t).toArray⟩], .slice none 0 0, .bool true]) ?_ rfl ?_
      · simp [results, Try.f42, go_sem, e0, e1, e2, e3, e4, e5, e6, e7, e8, e9, e10]
      · rw [HE.out]
        refine rg_fin (vF := .slice A first.length c1) (vL := .slice B seq.length d1) (v := .slice none 0 0) (s := ⟨b, c, j, st, n, at_, first, seq, start, was, held ++ t⟩) (l := []) (xs := [.bool true]) (by rw [ea]) ?_ ?_ ?_
        · (repeat first | with_reducible refine Fr.alloc ?_ _ | with_reducible refine Fr.setCell ?_ (.inr (by first | exact hbw | exact hbv)) _)
          exact F1.out
        · exact ⟨H.out.first, H.out.seq, H.out.lt⟩
        · exact outs_nil _ _
set_option maxRecDepth 100000 in
set_option maxHeartbeats 4000000 in
theorem rbreak_any (h : RL w S0 vF vL s) {k : Int} (hk : Ok s k) (now : Int) (vo : Value) (ops : List O) (ho : RSl 3 ROp w S0 [vo] ops) (hol : ops.length ≤ 1000) : Calls Try.prog 43 #[agL vF vL s, .int .i64 now, vo] w (RGot (breakS s now ops).1 (breakS s now ops).2.1 [.int .i64 (breakS s now ops).2.2] S0 w) := by
  have HK := Lib.hid hk
  clear hk
  obtain ⟨b, c, j, st, n, at_, first, seq, start, was, held⟩ := s
  obtain ⟨A, c1, rfl, hA1, hA2⟩ := h.first.slice
  obtain ⟨B, d1, rfl, hB1, hB2⟩ := h.seq.slice
  have H := Lib.hid h
  clear h
  have hA1 : first.length ≤ c1 := hA1
  have hB1 : seq.length ≤ d1 := hB1
  unfold maxLen at hA2 hB2
  obtain ⟨n1, hn1⟩ : ∃ n1, n1 = first.length := ⟨_, rfl⟩
  obtain ⟨m1, hm1⟩ : ∃ m1, m1 = seq.length := ⟨_, rfl⟩
  have ag : agL (.slice A first.length c1) (.slice B seq.length d1) ⟨b, c, j, st, n, at_, first, seq, start, was, held⟩ = .agg #[.int .i64 b, .int .i64 c, .int .i64 j, .int .i64 st, .int .i64 n, .int .i64 at_, .slice A n1 c1, .slice B m1 d1, .int .i64 start, .int .i64 was, .string ⟨held.toArray⟩] := by rw [hn1, hm1]; rfl
  try simp only at ag
  rw [ag]
  have AG := Lib.hid ag
  have HN := Lib.hid hn1
  have HM := Lib.hid hm1
  rw [← hn1] at hA1
  rw [← hm1] at hB1
  clear ag hn1 hm1
  have XB := Lib.hid ((Blk.new w 46 #[.int .i64 b, .int .i64 c, .int .i64 j, .int .i64 st, .int .i64 n, .int .i64 at_, .slice A n1 c1, .slice B m1 d1, .int .i64 start, .int .i64 was, .string ⟨held.toArray⟩]).alloc (.cells #[.int .i64 0, .int .i64 0, .int .i64 0, .int .i64 0, .int .i64 0, .int .i64 0, .slice none 0 0, .slice none 0 0, .int .i64 0, .int .i64 0, .string ⟨#[]⟩] 46))
  have XR := Blk.new (w.alloc (.cells #[.int .i64 b, .int .i64 c, .int .i64 j, .int .i64 st, .int .i64 n, .int .i64 at_, .slice A n1 c1, .slice B m1 d1, .int .i64 start, .int .i64 was, .string ⟨held.toArray⟩] 46)) 46 #[.int .i64 0, .int .i64 0, .int .i64 0, .int .i64 0, .int .i64 0, .int .i64 0, .slice none 0 0, .slice none 0 0, .int .i64 0, .int .i64 0, .string ⟨#[]⟩]
  have F1 := Lib.hid (((Fr.refl No w).alloc (.cells #[.int .i64 b, .int .i64 c, .int .i64 j, .int .i64 st, .int .i64 n, .int .i64 at_, .slice A n1 c1, .slice B m1 d1, .int .i64 start, .int .i64 was, .string ⟨held.toArray⟩] 46)).alloc (.cells #[.int .i64 0, .int .i64 0, .int .i64 0, .int .i64 0, .int .i64 0, .int .i64 0, .slice none 0 0, .slice none 0 0, .int .i64 0, .int .i64 0, .string ⟨#[]⟩] 46))
  rw [size_alloc] at XR
  obtain ⟨bx, hbx⟩ : ∃ bx, w.heap.size = bx := ⟨_, rfl⟩
  obtain ⟨br, hbr⟩ : ∃ br, bx + 1 = br := ⟨_, rfl⟩
  have XB := Lib.hid (show Blk _ bx _ _ by rw [← hbx]; exact XB.out)
  rw [hbx, hbr] at XR
  have XR := Lib.hid XR
  have HBX := Lib.hid hbx
  have HBR := Lib.hid hbr
  obtain ⟨D, d3, rfl, hD1, hD2⟩ := ho.slice
  have HOP := Lib.hid ho
  have HWF := Lib.hid (Run.ops_wf ho)
  clear ho
  obtain ⟨ol, hol2⟩ : ∃ ol, ol = ops.length := ⟨_, rfl⟩
  have HOL := Lib.hid hol2
  rw [← hol2] at hD1 hol ⊢
  clear hol2
  unfold maxLen at hD2
  by_cases h4 : st = 4
  rotate_left
  · have HE := Lib.hid (show breakS ⟨b, c, j, st, n, at_, first, seq, start, was, held⟩ now ops = (⟨b, c, j, st, n, at_, first, seq, start, was, held⟩, [], 9) from if_pos h4)
    have g4 : (st != 4) = true := by simpa using h4
    clear h4
    go_enter Try.func43, Try.ntmps43
    go_upto_region 1 with (fail)
    generalize (w.alloc (.cells #[.int .i64 b, .int .i64 c, .int .i64 j, .int .i64 st, .int .i64 n, .int .i64 at_, .slice A n1 c1, .slice B m1 d1, .int .i64 start, .int .i64 was, .string ⟨held.toArray⟩] 46)).alloc (.cells #[.int .i64 0, .int .i64 0, .int .i64 0, .int .i64 0, .int .i64 0, .int .i64 0, .slice none 0 0, .slice none 0 0, .int .i64 0, .int .i64 0, .string ⟨#[]⟩] 46) = w1 at XB XR F1 ⊢
    have hbb : bx ≠ br := by omega
    have hbc : br ≠ bx := by omega
    clear hbx hbr
    have hbl := XR.out.lt
    have hbd : br ≠ w1.heap.size := by omega
    have hbm := XB.out.lt
    have hbe : bx ≠ w1.heap.size := by omega
    have xo := XB.out
    have x0 := xo.cell 0
    have x1 := xo.cell 1
    have x2 := xo.cell 2
    have x3 := xo.cell 3
    have x4 := xo.cell 4
    have x5 := xo.cell 5
    have x6 := xo.cell 6
    have x7 := xo.cell 7
    have x8 := xo.cell 8
    have x9 := xo.cell 9
    have x10 := xo.cell 10
    have xf0 := xo.frozen 0
    have xf1 := xo.frozen 1
    have xf2 := xo.frozen 2
    have xf3 := xo.frozen 3
    have xf4 := xo.frozen 4
    have xf5 := xo.frozen 5
    have xf6 := xo.frozen 6
    have xf7 := xo.frozen 7
    have xf8 := xo.frozen 8
    have xf9 := xo.frozen 9
    have xf10 := xo.frozen 10
    simp only [List.getElem?_toArray, List.getElem?_cons_zero, List.getElem?_cons_succ] at x0 x1 x2 x3 x4 x5 x6 x7 x8 x9 x10
    clear xo
    have ro := XR.out
    have r0 := ro.cell 0
    have r1 := ro.cell 1
    have r2 := ro.cell 2
    have r3 := ro.cell 3
    have r4 := ro.cell 4
    have r5 := ro.cell 5
    have r6 := ro.cell 6
    have r7 := ro.cell 7
    have r8 := ro.cell 8
    have r9 := ro.cell 9
    have r10 := ro.cell 10
    have rf0 := ro.frozen 0
    have rf1 := ro.frozen 1
    have rf2 := ro.frozen 2
    have rf3 := ro.frozen 3
    have rf4 := ro.frozen 4
    have rf5 := ro.frozen 5
    have rf6 := ro.frozen 6
    have rf7 := ro.frozen 7
    have rf8 := ro.frozen 8
    have rf9 := ro.frozen 9
    have rf10 := ro.frozen 10
    simp only [List.getElem?_toArray, List.getElem?_cons_zero, List.getElem?_cons_succ] at r0 r1 r2 r3 r4 r5 r6 r7 r8 r9 r10
    clear ro
    go_wp2_with fail
    clear x0 x1 x2 x3 x4 x5 x6 x7 x8 x9 x10 xf0 xf1 xf2 xf3 xf4 xf5 xf6 xf7 xf8 xf9 xf10
    clear r0 r1 r2 r3 r4 r5 r6 r7 r8 r9 r10 rf0 rf1 rf2 rf3 rf4 rf5 rf6 rf7 rf8 rf9 rf10
    have b9 := XR.out
    have b9 := b9.put 0 (.int .i64 b)
    have b9 := b9.put 1 (.int .i64 c)
    have b9 := b9.put 2 (.int .i64 j)
    have b9 := b9.put 3 (.int .i64 st)
    have b9 := b9.put 4 (.int .i64 n)
    have b9 := b9.put 5 (.int .i64 at_)
    have b9 := b9.put 6 (.slice A n1 c1)
    have b9 := b9.put 7 (.slice B m1 d1)
    have b9 := b9.put 8 (.int .i64 start)
    have b9 := b9.put 9 (.int .i64 was)
    have b9 := b9.put 10 (.string ⟨held.toArray⟩)
    simp only [List.setIfInBounds_toArray, List.set_cons_zero, List.set_cons_succ] at b9
    have e0 := b9.cell 0
    have e1 := b9.cell 1
    have e2 := b9.cell 2
    have e3 := b9.cell 3
    have e4 := b9.cell 4
    have e5 := b9.cell 5
    have e6 := b9.cell 6
    have e7 := b9.cell 7
    have e8 := b9.cell 8
    have e9 := b9.cell 9
    have e10 := b9.cell 10
    simp only [List.getElem?_toArray, List.getElem?_cons_zero, List.getElem?_cons_succ] at e0 e1 e2 e3 e4 e5 e6 e7 e8 e9 e10
    clear b9
    have ea : .agg #[.int .i64 b, .int .i64 c, .int .i64 j, .int .i64 st, .int .i64 n, .int .i64 at_, .slice A n1 c1, .slice B m1 d1, .int .i64 start, .int .i64 was, .string ⟨held.toArray⟩] = agL (.slice A first.length c1) (.slice B seq.length d1) ⟨b, c, j, st, n, at_, first, seq, start, was, held⟩ := by rw [HM.out, HN.out]; rfl
    have hbw : w.heap.size ≤ bx := by have := HBX.out; omega
    have hbv : w.heap.size ≤ br := by have := HBX.out; have := HBR.out; omega
    refine bodyPost_ret (v := .tuple #[.agg #[.int .i64 b, .int .i64 c, .int .i64 j, .int .i64 st, .int .i64 n, .int .i64 at_, .slice A n1 c1, .slice B m1 d1, .int .i64 start, .int .i64 was, .string ⟨held.toArray⟩], .slice none 0 0, .int .i64 9]) ?_ rfl ?_
    · simp [results, Try.f43, go_sem, e0, e1, e2, e3, e4, e5, e6, e7, e8, e9, e10]
    · rw [HE.out]
      refine rg_fin (vF := .slice A first.length c1) (vL := .slice B seq.length d1) (v := .slice none 0 0) (s := ⟨b, c, j, st, n, at_, first, seq, start, was, held⟩) (l := []) (xs := [.int .i64 9]) (by rw [ea]) ?_ ?_ ?_
      · (repeat first | with_reducible refine Fr.alloc ?_ _ | with_reducible refine Fr.setCell ?_ (.inr (by first | exact hbw | exact hbv)) _)
        exact F1.out
      · exact ⟨H.out.first, H.out.seq, H.out.lt⟩
      · exact outs_nil _ _
  subst h4
  by_cases hl : lateI now = true
  · have HE := Lib.hid (show breakS ⟨b, c, j, 4, n, at_, first, seq, start, was, held⟩ now ops = (⟨b, c, j, 4, n, at_, first, seq, start, was, held⟩, [], 1) from (if_neg (by simp)).trans (if_pos hl))
    have G2 := Lib.hid hl
    clear hl
    go_enter Try.func43, Try.ntmps43
    go_upto_region 1 with (fail)
    generalize (w.alloc (.cells #[.int .i64 b, .int .i64 c, .int .i64 j, .int .i64 4, .int .i64 n, .int .i64 at_, .slice A n1 c1, .slice B m1 d1, .int .i64 start, .int .i64 was, .string ⟨held.toArray⟩] 46)).alloc (.cells #[.int .i64 0, .int .i64 0, .int .i64 0, .int .i64 0, .int .i64 0, .int .i64 0, .slice none 0 0, .slice none 0 0, .int .i64 0, .int .i64 0, .string ⟨#[]⟩] 46) = w1 at XB XR F1 ⊢
    have hbb : bx ≠ br := by omega
    have hbc : br ≠ bx := by omega
    clear hbx hbr
    have hbl := XR.out.lt
    have hbd : br ≠ w1.heap.size := by omega
    have hbm := XB.out.lt
    have hbe : bx ≠ w1.heap.size := by omega
    have xo := XB.out
    have x0 := xo.cell 0
    have x1 := xo.cell 1
    have x2 := xo.cell 2
    have x3 := xo.cell 3
    have x4 := xo.cell 4
    have x5 := xo.cell 5
    have x6 := xo.cell 6
    have x7 := xo.cell 7
    have x8 := xo.cell 8
    have x9 := xo.cell 9
    have x10 := xo.cell 10
    have xf0 := xo.frozen 0
    have xf1 := xo.frozen 1
    have xf2 := xo.frozen 2
    have xf3 := xo.frozen 3
    have xf4 := xo.frozen 4
    have xf5 := xo.frozen 5
    have xf6 := xo.frozen 6
    have xf7 := xo.frozen 7
    have xf8 := xo.frozen 8
    have xf9 := xo.frozen 9
    have xf10 := xo.frozen 10
    simp only [List.getElem?_toArray, List.getElem?_cons_zero, List.getElem?_cons_succ] at x0 x1 x2 x3 x4 x5 x6 x7 x8 x9 x10
    clear xo
    have ro := XR.out
    have r0 := ro.cell 0
    have r1 := ro.cell 1
    have r2 := ro.cell 2
    have r3 := ro.cell 3
    have r4 := ro.cell 4
    have r5 := ro.cell 5
    have r6 := ro.cell 6
    have r7 := ro.cell 7
    have r8 := ro.cell 8
    have r9 := ro.cell 9
    have r10 := ro.cell 10
    have rf0 := ro.frozen 0
    have rf1 := ro.frozen 1
    have rf2 := ro.frozen 2
    have rf3 := ro.frozen 3
    have rf4 := ro.frozen 4
    have rf5 := ro.frozen 5
    have rf6 := ro.frozen 6
    have rf7 := ro.frozen 7
    have rf8 := ro.frozen 8
    have rf9 := ro.frozen 9
    have rf10 := ro.frozen 10
    simp only [List.getElem?_toArray, List.getElem?_cons_zero, List.getElem?_cons_succ] at r0 r1 r2 r3 r4 r5 r6 r7 r8 r9 r10
    clear ro
    go_wp2_with (go_at_call 58; refine (rlate_any _ _).mono ?_; rintro e w2 ⟨rfl, rfl⟩; rw [G2.out])
    clear x0 x1 x2 x3 x4 x5 x6 x7 x8 x9 x10 xf0 xf1 xf2 xf3 xf4 xf5 xf6 xf7 xf8 xf9 xf10
    clear r0 r1 r2 r3 r4 r5 r6 r7 r8 r9 r10 rf0 rf1 rf2 rf3 rf4 rf5 rf6 rf7 rf8 rf9 rf10
    have b9 := XR.out
    have b9 := b9.put 0 (.int .i64 b)
    have b9 := b9.put 1 (.int .i64 c)
    have b9 := b9.put 2 (.int .i64 j)
    have b9 := b9.put 3 (.int .i64 4)
    have b9 := b9.put 4 (.int .i64 n)
    have b9 := b9.put 5 (.int .i64 at_)
    have b9 := b9.put 6 (.slice A n1 c1)
    have b9 := b9.put 7 (.slice B m1 d1)
    have b9 := b9.put 8 (.int .i64 start)
    have b9 := b9.put 9 (.int .i64 was)
    have b9 := b9.put 10 (.string ⟨held.toArray⟩)
    simp only [List.setIfInBounds_toArray, List.set_cons_zero, List.set_cons_succ] at b9
    have e0 := b9.cell 0
    have e1 := b9.cell 1
    have e2 := b9.cell 2
    have e3 := b9.cell 3
    have e4 := b9.cell 4
    have e5 := b9.cell 5
    have e6 := b9.cell 6
    have e7 := b9.cell 7
    have e8 := b9.cell 8
    have e9 := b9.cell 9
    have e10 := b9.cell 10
    simp only [List.getElem?_toArray, List.getElem?_cons_zero, List.getElem?_cons_succ] at e0 e1 e2 e3 e4 e5 e6 e7 e8 e9 e10
    clear b9
    have ea : .agg #[.int .i64 b, .int .i64 c, .int .i64 j, .int .i64 4, .int .i64 n, .int .i64 at_, .slice A n1 c1, .slice B m1 d1, .int .i64 start, .int .i64 was, .string ⟨held.toArray⟩] = agL (.slice A first.length c1) (.slice B seq.length d1) ⟨b, c, j, 4, n, at_, first, seq, start, was, held⟩ := by rw [HM.out, HN.out]; rfl
    have hbw : w.heap.size ≤ bx := by have := HBX.out; omega
    have hbv : w.heap.size ≤ br := by have := HBX.out; have := HBR.out; omega
    refine bodyPost_ret (v := .tuple #[.agg #[.int .i64 b, .int .i64 c, .int .i64 j, .int .i64 4, .int .i64 n, .int .i64 at_, .slice A n1 c1, .slice B m1 d1, .int .i64 start, .int .i64 was, .string ⟨held.toArray⟩], .slice none 0 0, .int .i64 1]) ?_ rfl ?_
    · simp [results, Try.f43, go_sem, e0, e1, e2, e3, e4, e5, e6, e7, e8, e9, e10]
    · rw [HE.out]
      refine rg_fin (vF := .slice A first.length c1) (vL := .slice B seq.length d1) (v := .slice none 0 0) (s := ⟨b, c, j, 4, n, at_, first, seq, start, was, held⟩) (l := []) (xs := [.int .i64 1]) (by rw [ea]) ?_ ?_ ?_
      · (repeat first | with_reducible refine Fr.alloc ?_ _ | with_reducible refine Fr.setCell ?_ (.inr (by first | exact hbw | exact hbv)) _)
        exact F1.out
      · exact ⟨H.out.first, H.out.seq, H.out.lt⟩
      · exact outs_nil _ _
  have hl : lateI now = false := by simpa using hl
  have G2 := Lib.hid hl
  obtain ⟨t1, t2⟩ := late_no hl
  clear hl
  obtain ⟨q, hq⟩ : ∃ q, q = Run.chk now ops := ⟨_, rfl⟩
  have HQ := Lib.hid hq
  clear hq
  by_cases h0 : q = 0
  rotate_left
  · have HE := Lib.hid (show breakS ⟨b, c, j, 4, n, at_, first, seq, start, was, held⟩ now ops = (⟨b, c, j, 4, n, at_, first, seq, start, was, held⟩, [], q) by unfold breakS; rw [if_neg (by simp), if_neg (by rw [G2.out]; simp), if_pos (by rw [← HQ.out]; exact h0), ← HQ.out])
    have g0 : (q != 0) = true := by simpa using h0
    clear h0
    go_enter Try.func43, Try.ntmps43
    go_upto_region 1 with (fail)
    generalize (w.alloc (.cells #[.int .i64 b, .int .i64 c, .int .i64 j, .int .i64 4, .int .i64 n, .int .i64 at_, .slice A n1 c1, .slice B m1 d1, .int .i64 start, .int .i64 was, .string ⟨held.toArray⟩] 46)).alloc (.cells #[.int .i64 0, .int .i64 0, .int .i64 0, .int .i64 0, .int .i64 0, .int .i64 0, .slice none 0 0, .slice none 0 0, .int .i64 0, .int .i64 0, .string ⟨#[]⟩] 46) = w1 at XB XR F1 ⊢
    have hbb : bx ≠ br := by omega
    have hbc : br ≠ bx := by omega
    clear hbx hbr
    have hbl := XR.out.lt
    have hbd : br ≠ w1.heap.size := by omega
    have hbm := XB.out.lt
    have hbe : bx ≠ w1.heap.size := by omega
    have xo := XB.out
    have x0 := xo.cell 0
    have x1 := xo.cell 1
    have x2 := xo.cell 2
    have x3 := xo.cell 3
    have x4 := xo.cell 4
    have x5 := xo.cell 5
    have x6 := xo.cell 6
    have x7 := xo.cell 7
    have x8 := xo.cell 8
    have x9 := xo.cell 9
    have x10 := xo.cell 10
    have xf0 := xo.frozen 0
    have xf1 := xo.frozen 1
    have xf2 := xo.frozen 2
    have xf3 := xo.frozen 3
    have xf4 := xo.frozen 4
    have xf5 := xo.frozen 5
    have xf6 := xo.frozen 6
    have xf7 := xo.frozen 7
    have xf8 := xo.frozen 8
    have xf9 := xo.frozen 9
    have xf10 := xo.frozen 10
    simp only [List.getElem?_toArray, List.getElem?_cons_zero, List.getElem?_cons_succ] at x0 x1 x2 x3 x4 x5 x6 x7 x8 x9 x10
    clear xo
    have ro := XR.out
    have r0 := ro.cell 0
    have r1 := ro.cell 1
    have r2 := ro.cell 2
    have r3 := ro.cell 3
    have r4 := ro.cell 4
    have r5 := ro.cell 5
    have r6 := ro.cell 6
    have r7 := ro.cell 7
    have r8 := ro.cell 8
    have r9 := ro.cell 9
    have r10 := ro.cell 10
    have rf0 := ro.frozen 0
    have rf1 := ro.frozen 1
    have rf2 := ro.frozen 2
    have rf3 := ro.frozen 3
    have rf4 := ro.frozen 4
    have rf5 := ro.frozen 5
    have rf6 := ro.frozen 6
    have rf7 := ro.frozen 7
    have rf8 := ro.frozen 8
    have rf9 := ro.frozen 9
    have rf10 := ro.frozen 10
    simp only [List.getElem?_toArray, List.getElem?_cons_zero, List.getElem?_cons_succ] at r0 r1 r2 r3 r4 r5 r6 r7 r8 r9 r10
    clear ro
    have RK := fun (W : World) (hf : Fr No w W) => Run.rcheck_any (.slice D ops.length d3) ops now W S0 (H.out.no hf).lt ((RSl.stable ROp.stable).go HOP.out (Kept.of_no hf H.out.lt) (fun _ h => h)) (by rw [← HOL.out]; exact hol)
    simp only [← HOL.out, ← HQ.out] at RK
    have RK := Lib.hid RK
    go_upto_region 6 with (first | (go_at_call 58; refine (rlate_any _ _).mono ?_; rintro e w2 ⟨rfl, rfl⟩; rw [G2.out]) | (go_at_call 61; refine (RK.out _ F1.out).mono ?_; rintro e w2 ⟨rfl, hf2⟩; have F2 := Lib.hid (F1.out.then_no hf2); have XB2 := Lib.hid (XB.out.fr hf2 (fun h => h)); have XR2 := Lib.hid (XR.out.fr hf2 (fun h => h))))
    clear x0 x1 x2 x3 x4 x5 x6 x7 x8 x9 x10 xf0 xf1 xf2 xf3 xf4 xf5 xf6 xf7 xf8 xf9 xf10
    clear r0 r1 r2 r3 r4 r5 r6 r7 r8 r9 r10 rf0 rf1 rf2 rf3 rf4 rf5 rf6 rf7 rf8 rf9 rf10
    have hbl2 := XR2.out.lt
    have hbd2 : br ≠ w2.heap.size := by omega
    have hbm2 := XB2.out.lt
    have hbe2 : bx ≠ w2.heap.size := by omega
    clear hf2
    have xo := XB2.out
    have x0 := xo.cell 0
    have x1 := xo.cell 1
    have x2 := xo.cell 2
    have x3 := xo.cell 3
    have x4 := xo.cell 4
    have x5 := xo.cell 5
    have x6 := xo.cell 6
    have x7 := xo.cell 7
    have x8 := xo.cell 8
    have x9 := xo.cell 9
    have x10 := xo.cell 10
    have xf0 := xo.frozen 0
    have xf1 := xo.frozen 1
    have xf2 := xo.frozen 2
    have xf3 := xo.frozen 3
    have xf4 := xo.frozen 4
    have xf5 := xo.frozen 5
    have xf6 := xo.frozen 6
    have xf7 := xo.frozen 7
    have xf8 := xo.frozen 8
    have xf9 := xo.frozen 9
    have xf10 := xo.frozen 10
    simp only [List.getElem?_toArray, List.getElem?_cons_zero, List.getElem?_cons_succ] at x0 x1 x2 x3 x4 x5 x6 x7 x8 x9 x10
    clear xo
    have ro := XR2.out
    have r0 := ro.cell 0
    have r1 := ro.cell 1
    have r2 := ro.cell 2
    have r3 := ro.cell 3
    have r4 := ro.cell 4
    have r5 := ro.cell 5
    have r6 := ro.cell 6
    have r7 := ro.cell 7
    have r8 := ro.cell 8
    have r9 := ro.cell 9
    have r10 := ro.cell 10
    have rf0 := ro.frozen 0
    have rf1 := ro.frozen 1
    have rf2 := ro.frozen 2
    have rf3 := ro.frozen 3
    have rf4 := ro.frozen 4
    have rf5 := ro.frozen 5
    have rf6 := ro.frozen 6
    have rf7 := ro.frozen 7
    have rf8 := ro.frozen 8
    have rf9 := ro.frozen 9
    have rf10 := ro.frozen 10
    simp only [List.getElem?_toArray, List.getElem?_cons_zero, List.getElem?_cons_succ] at r0 r1 r2 r3 r4 r5 r6 r7 r8 r9 r10
    clear ro
    go_wp2_with fail
    clear x0 x1 x2 x3 x4 x5 x6 x7 x8 x9 x10 xf0 xf1 xf2 xf3 xf4 xf5 xf6 xf7 xf8 xf9 xf10
    clear r0 r1 r2 r3 r4 r5 r6 r7 r8 r9 r10 rf0 rf1 rf2 rf3 rf4 rf5 rf6 rf7 rf8 rf9 rf10
    have b9 := XR2.out
    have b9 := b9.put 0 (.int .i64 b)
    have b9 := b9.put 1 (.int .i64 c)
    have b9 := b9.put 2 (.int .i64 j)
    have b9 := b9.put 3 (.int .i64 4)
    have b9 := b9.put 4 (.int .i64 n)
    have b9 := b9.put 5 (.int .i64 at_)
    have b9 := b9.put 6 (.slice A n1 c1)
    have b9 := b9.put 7 (.slice B m1 d1)
    have b9 := b9.put 8 (.int .i64 start)
    have b9 := b9.put 9 (.int .i64 was)
    have b9 := b9.put 10 (.string ⟨held.toArray⟩)
    simp only [List.setIfInBounds_toArray, List.set_cons_zero, List.set_cons_succ] at b9
    have e0 := b9.cell 0
    have e1 := b9.cell 1
    have e2 := b9.cell 2
    have e3 := b9.cell 3
    have e4 := b9.cell 4
    have e5 := b9.cell 5
    have e6 := b9.cell 6
    have e7 := b9.cell 7
    have e8 := b9.cell 8
    have e9 := b9.cell 9
    have e10 := b9.cell 10
    simp only [List.getElem?_toArray, List.getElem?_cons_zero, List.getElem?_cons_succ] at e0 e1 e2 e3 e4 e5 e6 e7 e8 e9 e10
    clear b9
    have ea : .agg #[.int .i64 b, .int .i64 c, .int .i64 j, .int .i64 4, .int .i64 n, .int .i64 at_, .slice A n1 c1, .slice B m1 d1, .int .i64 start, .int .i64 was, .string ⟨held.toArray⟩] = agL (.slice A first.length c1) (.slice B seq.length d1) ⟨b, c, j, 4, n, at_, first, seq, start, was, held⟩ := by rw [HM.out, HN.out]; rfl
    have hbw : w.heap.size ≤ bx := by have := HBX.out; omega
    have hbv : w.heap.size ≤ br := by have := HBX.out; have := HBR.out; omega
    refine bodyPost_ret (v := .tuple #[.agg #[.int .i64 b, .int .i64 c, .int .i64 j, .int .i64 4, .int .i64 n, .int .i64 at_, .slice A n1 c1, .slice B m1 d1, .int .i64 start, .int .i64 was, .string ⟨held.toArray⟩], .slice none 0 0, .int .i64 q]) ?_ rfl ?_
    · simp [results, Try.f43, go_sem, e0, e1, e2, e3, e4, e5, e6, e7, e8, e9, e10]
    · rw [HE.out]
      refine rg_fin (vF := .slice A first.length c1) (vL := .slice B seq.length d1) (v := .slice none 0 0) (s := ⟨b, c, j, 4, n, at_, first, seq, start, was, held⟩) (l := []) (xs := [.int .i64 q]) (by rw [ea]) ?_ ?_ ?_
      · (repeat first | with_reducible refine Fr.alloc ?_ _ | with_reducible refine Fr.setCell ?_ (.inr (by first | exact hbw | exact hbv)) _)
        exact F2.out
      · exact ⟨H.out.first, H.out.seq, H.out.lt⟩
      · exact outs_nil _ _
  subst h0
  have HE := Lib.hid (show breakS ⟨b, c, j, 4, n, at_, first, seq, start, was, held⟩ now ops = ((goOnS ⟨b, c, j, 5, n, at_, first, ops, now, now - 1, held⟩ now).1, (goOnS ⟨b, c, j, 5, n, at_, first, ops, now, now - 1, held⟩ now).2, 0) by unfold breakS; rw [if_neg (by simp), if_neg (by rw [G2.out]; simp), if_neg (by rw [← HQ.out]; simp)]; rfl)
  go_enter Try.func43, Try.ntmps43
  go_upto_region 1 with (fail)
  generalize (w.alloc (.cells #[.int .i64 b, .int .i64 c, .int .i64 j, .int .i64 4, .int .i64 n, .int .i64 at_, .slice A n1 c1, .slice B m1 d1, .int .i64 start, .int .i64 was, .string ⟨held.toArray⟩] 46)).alloc (.cells #[.int .i64 0, .int .i64 0, .int .i64 0, .int .i64 0, .int .i64 0, .int .i64 0, .slice none 0 0, .slice none 0 0, .int .i64 0, .int .i64 0, .string ⟨#[]⟩] 46) = w1 at XB XR F1 ⊢
  have hbb : bx ≠ br := by omega
  have hbc : br ≠ bx := by omega
  clear hbx hbr
  have hbl := XR.out.lt
  have hbd : br ≠ w1.heap.size := by omega
  have hbm := XB.out.lt
  have hbe : bx ≠ w1.heap.size := by omega
  have xo := XB.out
  have x0 := xo.cell 0
  have x1 := xo.cell 1
  have x2 := xo.cell 2
  have x3 := xo.cell 3
  have x4 := xo.cell 4
  have x5 := xo.cell 5
  have x6 := xo.cell 6
  have x7 := xo.cell 7
  have x8 := xo.cell 8
  have x9 := xo.cell 9
  have x10 := xo.cell 10
  have xf0 := xo.frozen 0
  have xf1 := xo.frozen 1
  have xf2 := xo.frozen 2
  have xf3 := xo.frozen 3
  have xf4 := xo.frozen 4
  have xf5 := xo.frozen 5
  have xf6 := xo.frozen 6
  have xf7 := xo.frozen 7
  have xf8 := xo.frozen 8
  have xf9 := xo.frozen 9
  have xf10 := xo.frozen 10
  simp only [List.getElem?_toArray, List.getElem?_cons_zero, List.getElem?_cons_succ] at x0 x1 x2 x3 x4 x5 x6 x7 x8 x9 x10
  clear xo
  have ro := XR.out
  have r0 := ro.cell 0
  have r1 := ro.cell 1
  have r2 := ro.cell 2
  have r3 := ro.cell 3
  have r4 := ro.cell 4
  have r5 := ro.cell 5
  have r6 := ro.cell 6
  have r7 := ro.cell 7
  have r8 := ro.cell 8
  have r9 := ro.cell 9
  have r10 := ro.cell 10
  have rf0 := ro.frozen 0
  have rf1 := ro.frozen 1
  have rf2 := ro.frozen 2
  have rf3 := ro.frozen 3
  have rf4 := ro.frozen 4
  have rf5 := ro.frozen 5
  have rf6 := ro.frozen 6
  have rf7 := ro.frozen 7
  have rf8 := ro.frozen 8
  have rf9 := ro.frozen 9
  have rf10 := ro.frozen 10
  simp only [List.getElem?_toArray, List.getElem?_cons_zero, List.getElem?_cons_succ] at r0 r1 r2 r3 r4 r5 r6 r7 r8 r9 r10
  clear ro
  have RK := fun (W : World) (hf : Fr No w W) => Run.rcheck_any (.slice D ops.length d3) ops now W S0 (H.out.no hf).lt ((RSl.stable ROp.stable).go HOP.out (Kept.of_no hf H.out.lt) (fun _ h => h)) (by rw [← HOL.out]; exact hol)
  simp only [← HOL.out, ← HQ.out] at RK
  have RK := Lib.hid RK
  go_upto_region 6 with (first | (go_at_call 58; refine (rlate_any _ _).mono ?_; rintro e w2 ⟨rfl, rfl⟩; rw [G2.out]) | (go_at_call 61; refine (RK.out _ F1.out).mono ?_; rintro e w2 ⟨rfl, hf2⟩; have F2 := Lib.hid (F1.out.then_no hf2); have XB2 := Lib.hid (XB.out.fr hf2 (fun h => h)); have XR2 := Lib.hid (XR.out.fr hf2 (fun h => h))))
  clear x0 x1 x2 x3 x4 x5 x6 x7 x8 x9 x10 xf0 xf1 xf2 xf3 xf4 xf5 xf6 xf7 xf8 xf9 xf10
  clear r0 r1 r2 r3 r4 r5 r6 r7 r8 r9 r10 rf0 rf1 rf2 rf3 rf4 rf5 rf6 rf7 rf8 rf9 rf10
  have hbl2 := XR2.out.lt
  have hbd2 : br ≠ w2.heap.size := by omega
  have hbm2 := XB2.out.lt
  have hbe2 : bx ≠ w2.heap.size := by omega
  clear hf2
  have xo := XB2.out
  have x0 := xo.cell 0
  have x1 := xo.cell 1
  have x2 := xo.cell 2
  have x3 := xo.cell 3
  have x4 := xo.cell 4
  have x5 := xo.cell 5
  have x6 := xo.cell 6
  have x7 := xo.cell 7
  have x8 := xo.cell 8
  have x9 := xo.cell 9
  have x10 := xo.cell 10
  have xf0 := xo.frozen 0
  have xf1 := xo.frozen 1
  have xf2 := xo.frozen 2
  have xf3 := xo.frozen 3
  have xf4 := xo.frozen 4
  have xf5 := xo.frozen 5
  have xf6 := xo.frozen 6
  have xf7 := xo.frozen 7
  have xf8 := xo.frozen 8
  have xf9 := xo.frozen 9
  have xf10 := xo.frozen 10
  simp only [List.getElem?_toArray, List.getElem?_cons_zero, List.getElem?_cons_succ] at x0 x1 x2 x3 x4 x5 x6 x7 x8 x9 x10
  clear xo
  have ro := XR2.out
  have r0 := ro.cell 0
  have r1 := ro.cell 1
  have r2 := ro.cell 2
  have r3 := ro.cell 3
  have r4 := ro.cell 4
  have r5 := ro.cell 5
  have r6 := ro.cell 6
  have r7 := ro.cell 7
  have r8 := ro.cell 8
  have r9 := ro.cell 9
  have r10 := ro.cell 10
  have rf0 := ro.frozen 0
  have rf1 := ro.frozen 1
  have rf2 := ro.frozen 2
  have rf3 := ro.frozen 3
  have rf4 := ro.frozen 4
  have rf5 := ro.frozen 5
  have rf6 := ro.frozen 6
  have rf7 := ro.frozen 7
  have rf8 := ro.frozen 8
  have rf9 := ro.frozen 9
  have rf10 := ro.frozen 10
  simp only [List.getElem?_toArray, List.getElem?_cons_zero, List.getElem?_cons_succ] at r0 r1 r2 r3 r4 r5 r6 r7 r8 r9 r10
  clear ro
  go_upto_region 9 with (fail)
  clear x0 x1 x2 x3 x4 x5 x6 x7 x8 x9 x10 xf0 xf1 xf2 xf3 xf4 xf5 xf6 xf7 xf8 xf9 xf10
  clear r0 r1 r2 r3 r4 r5 r6 r7 r8 r9 r10 rf0 rf1 rf2 rf3 rf4 rf5 rf6 rf7 rf8 rf9 rf10
  have b9 := XB2.out
  have b9 := b9.put 3 (.int .i64 5)
  have b9 := b9.put 7 (.slice D ol d3)
  have b9 := b9.put 8 (.int .i64 now)
  have b9 := b9.put 9 (.int .i64 (now - 1))
  try simp only [List.setIfInBounds_toArray, List.set_cons_zero, List.set_cons_succ] at b9
  have XBc := Lib.hid b9
  clear b9
  have b9 := XR2.out
  have b9 := b9.far (p := ⟨bx, 3, none⟩) hbc (.int .i64 5)
  have b9 := b9.far (p := ⟨bx, 7, none⟩) hbc (.slice D ol d3)
  have b9 := b9.far (p := ⟨bx, 8, none⟩) hbc (.int .i64 now)
  have b9 := b9.far (p := ⟨bx, 9, none⟩) hbc (.int .i64 (now - 1))
  have XRc := Lib.hid b9
  clear b9
  have Fc := Lib.hid (Fr.setCell (Fr.setCell (Fr.setCell (Fr.setCell F2.out (p := ⟨bx, 3, none⟩) (.inr (by show w.heap.size ≤ bx; have := HBX.out; omega)) (.int .i64 5)) (p := ⟨bx, 7, none⟩) (.inr (by show w.heap.size ≤ bx; have := HBX.out; omega)) (.slice D ol d3)) (p := ⟨bx, 8, none⟩) (.inr (by show w.heap.size ≤ bx; have := HBX.out; omega)) (.int .i64 now)) (p := ⟨bx, 9, none⟩) (.inr (by show w.heap.size ≤ bx; have := HBX.out; omega)) (.int .i64 (now - 1)))
  generalize ((((w2.setCell ⟨bx, 3, none⟩ (.int .i64 5)).setCell ⟨bx, 7, none⟩ (.slice D ol d3)).setCell ⟨bx, 8, none⟩ (.int .i64 now)).setCell ⟨bx, 9, none⟩ (.int .i64 (now - 1))) = wc at XBc XRc Fc ⊢
  have RC := rgoOn_any (w := wc) (vF := .slice A first.length c1) (vL := .slice D ops.length d3) (s := ⟨b, c, j, 5, n, at_, first, ops, now, now - 1, held⟩) (⟨(H.out.no Fc.out).first, (RSl.stable ROp.stable).go HOP.out (Kept.of_no Fc.out H.out.lt) (fun _ h => h), (H.out.no Fc.out).lt⟩) (fit_chk HQ.out.symm (by rw [← HOL.out]; exact hol) HWF.out) now ⟨t1, by omega⟩
  rw [show agL (.slice A first.length c1) (.slice D ops.length d3) ⟨b, c, j, 5, n, at_, first, ops, now, now - 1, held⟩ = .agg #[.int .i64 b, .int .i64 c, .int .i64 j, .int .i64 5, .int .i64 n, .int .i64 at_, .slice A n1 c1, .slice D ol d3, .int .i64 now, .int .i64 (now - 1), .string ⟨held.toArray⟩] by rw [HN.out, HOL.out]; rfl] at RC
  have RC := Lib.hid RC
  have xo := XBc.out
  have x0 := xo.cell 0
  have x1 := xo.cell 1
  have x2 := xo.cell 2
  have x3 := xo.cell 3
  have x4 := xo.cell 4
  have x5 := xo.cell 5
  have x6 := xo.cell 6
  have x7 := xo.cell 7
  have x8 := xo.cell 8
  have x9 := xo.cell 9
  have x10 := xo.cell 10
  have xf0 := xo.frozen 0
  have xf1 := xo.frozen 1
  have xf2 := xo.frozen 2
  have xf3 := xo.frozen 3
  have xf4 := xo.frozen 4
  have xf5 := xo.frozen 5
  have xf6 := xo.frozen 6
  have xf7 := xo.frozen 7
  have xf8 := xo.frozen 8
  have xf9 := xo.frozen 9
  have xf10 := xo.frozen 10
  simp only [List.getElem?_toArray, List.getElem?_cons_zero, List.getElem?_cons_succ] at x0 x1 x2 x3 x4 x5 x6 x7 x8 x9 x10
  clear xo
  have ro := XRc.out
  have r0 := ro.cell 0
  have r1 := ro.cell 1
  have r2 := ro.cell 2
  have r3 := ro.cell 3
  have r4 := ro.cell 4
  have r5 := ro.cell 5
  have r6 := ro.cell 6
  have r7 := ro.cell 7
  have r8 := ro.cell 8
  have r9 := ro.cell 9
  have r10 := ro.cell 10
  have rf0 := ro.frozen 0
  have rf1 := ro.frozen 1
  have rf2 := ro.frozen 2
  have rf3 := ro.frozen 3
  have rf4 := ro.frozen 4
  have rf5 := ro.frozen 5
  have rf6 := ro.frozen 6
  have rf7 := ro.frozen 7
  have rf8 := ro.frozen 8
  have rf9 := ro.frozen 9
  have rf10 := ro.frozen 10
  simp only [List.getElem?_toArray, List.getElem?_cons_zero, List.getElem?_cons_succ] at r0 r1 r2 r3 r4 r5 r6 r7 r8 r9 r10
  clear ro
  go_wp2_with fail
  refine RC.out.mono ?_
  rintro e w2 ⟨vF, vL, v2, rfl, hR, ho, hf⟩
  obtain ⟨⟨s2, l2⟩, hs2⟩ : ∃ q, q = goOnS ⟨b, c, j, 5, n, at_, first, ops, now, now - 1, held⟩ now := ⟨_, rfl⟩
  rw [← hs2] at hR ho ⊢
  simp only at hR ho ⊢
  have HE2 := Lib.hid hs2
  clear hs2
  obtain ⟨b2, c2, j2, st2, n2, at2, first2, seq2, start2, was2, held2⟩ := s2
  obtain ⟨A2, g2, rfl, -, -⟩ := hR.first.slice
  obtain ⟨B2, d2, rfl, -, -⟩ := hR.seq.slice
  obtain ⟨n3, hn3⟩ : ∃ n3, n3 = first2.length := ⟨_, rfl⟩
  obtain ⟨m3, hm3⟩ : ∃ m3, m3 = seq2.length := ⟨_, rfl⟩
  have ev : agL (.slice A2 first2.length g2) (.slice B2 seq2.length d2) ⟨b2, c2, j2, st2, n2, at2, first2, seq2, start2, was2, held2⟩ = .agg #[.int .i64 b2, .int .i64 c2, .int .i64 j2, .int .i64 st2, .int .i64 n2, .int .i64 at2, .slice A2 n3 g2, .slice B2 m3 d2, .int .i64 start2, .int .i64 was2, .string ⟨held2.toArray⟩] := by rw [hn3, hm3]; rfl
  simp only at ev ⊢
  rw [ev]
  have EV := Lib.hid ev
  have HR := Lib.hid hR
  have HO := Lib.hid ho
  have F3 := Lib.hid (Fc.out.then_no hf)
  have XB3 := Lib.hid (XBc.out.fr hf (fun h => h))
  have XR3 := Lib.hid (XRc.out.fr hf (fun h => h))
  have hbl3 := XR3.out.lt
  have hbm3 := XB3.out.lt
  clear ev hR hf hn3 hm3 ho
  clear x0 x1 x2 x3 x4 x5 x6 x7 x8 x9 x10 xf0 xf1 xf2 xf3 xf4 xf5 xf6 xf7 xf8 xf9 xf10
  clear r0 r1 r2 r3 r4 r5 r6 r7 r8 r9 r10 rf0 rf1 rf2 rf3 rf4 rf5 rf6 rf7 rf8 rf9 rf10
  have xo := XB3.out
  have x0 := xo.cell 0
  have x1 := xo.cell 1
  have x2 := xo.cell 2
  have x3 := xo.cell 3
  have x4 := xo.cell 4
  have x5 := xo.cell 5
  have x6 := xo.cell 6
  have x7 := xo.cell 7
  have x8 := xo.cell 8
  have x9 := xo.cell 9
  have x10 := xo.cell 10
  have xf0 := xo.frozen 0
  have xf1 := xo.frozen 1
  have xf2 := xo.frozen 2
  have xf3 := xo.frozen 3
  have xf4 := xo.frozen 4
  have xf5 := xo.frozen 5
  have xf6 := xo.frozen 6
  have xf7 := xo.frozen 7
  have xf8 := xo.frozen 8
  have xf9 := xo.frozen 9
  have xf10 := xo.frozen 10
  simp only [List.getElem?_toArray, List.getElem?_cons_zero, List.getElem?_cons_succ] at x0 x1 x2 x3 x4 x5 x6 x7 x8 x9 x10
  clear xo
  have ro := XR3.out
  have r0 := ro.cell 0
  have r1 := ro.cell 1
  have r2 := ro.cell 2
  have r3 := ro.cell 3
  have r4 := ro.cell 4
  have r5 := ro.cell 5
  have r6 := ro.cell 6
  have r7 := ro.cell 7
  have r8 := ro.cell 8
  have r9 := ro.cell 9
  have r10 := ro.cell 10
  have rf0 := ro.frozen 0
  have rf1 := ro.frozen 1
  have rf2 := ro.frozen 2
  have rf3 := ro.frozen 3
  have rf4 := ro.frozen 4
  have rf5 := ro.frozen 5
  have rf6 := ro.frozen 6
  have rf7 := ro.frozen 7
  have rf8 := ro.frozen 8
  have rf9 := ro.frozen 9
  have rf10 := ro.frozen 10
  simp only [List.getElem?_toArray, List.getElem?_cons_zero, List.getElem?_cons_succ] at r0 r1 r2 r3 r4 r5 r6 r7 r8 r9 r10
  clear ro
  go_wp2_with fail
  clear x0 x1 x2 x3 x4 x5 x6 x7 x8 x9 x10 xf0 xf1 xf2 xf3 xf4 xf5 xf6 xf7 xf8 xf9 xf10
  clear r0 r1 r2 r3 r4 r5 r6 r7 r8 r9 r10 rf0 rf1 rf2 rf3 rf4 rf5 rf6 rf7 rf8 rf9 rf10
  have b9 := XR3.out
  have b9 := b9.far (p := ⟨bx, 0, none⟩) hbc (.int .i64 b2)
  have b9 := b9.far (p := ⟨bx, 1, none⟩) hbc (.int .i64 c2)
  have b9 := b9.far (p := ⟨bx, 2, none⟩) hbc (.int .i64 j2)
  have b9 := b9.far (p := ⟨bx, 3, none⟩) hbc (.int .i64 st2)
  have b9 := b9.far (p := ⟨bx, 4, none⟩) hbc (.int .i64 n2)
  have b9 := b9.far (p := ⟨bx, 5, none⟩) hbc (.int .i64 at2)
  have b9 := b9.far (p := ⟨bx, 6, none⟩) hbc (.slice A2 n3 g2)
  have b9 := b9.far (p := ⟨bx, 7, none⟩) hbc (.slice B2 m3 d2)
  have b9 := b9.far (p := ⟨bx, 8, none⟩) hbc (.int .i64 start2)
  have b9 := b9.far (p := ⟨bx, 9, none⟩) hbc (.int .i64 was2)
  have b9 := b9.far (p := ⟨bx, 10, none⟩) hbc (.string ⟨held2.toArray⟩)
  have b9 := b9.put 0 (.int .i64 b2)
  have b9 := b9.put 1 (.int .i64 c2)
  have b9 := b9.put 2 (.int .i64 j2)
  have b9 := b9.put 3 (.int .i64 st2)
  have b9 := b9.put 4 (.int .i64 n2)
  have b9 := b9.put 5 (.int .i64 at2)
  have b9 := b9.put 6 (.slice A2 n3 g2)
  have b9 := b9.put 7 (.slice B2 m3 d2)
  have b9 := b9.put 8 (.int .i64 start2)
  have b9 := b9.put 9 (.int .i64 was2)
  have b9 := b9.put 10 (.string ⟨held2.toArray⟩)
  simp only [List.setIfInBounds_toArray, List.set_cons_zero, List.set_cons_succ] at b9
  have e0 := b9.cell 0
  have e1 := b9.cell 1
  have e2 := b9.cell 2
  have e3 := b9.cell 3
  have e4 := b9.cell 4
  have e5 := b9.cell 5
  have e6 := b9.cell 6
  have e7 := b9.cell 7
  have e8 := b9.cell 8
  have e9 := b9.cell 9
  have e10 := b9.cell 10
  simp only [List.getElem?_toArray, List.getElem?_cons_zero, List.getElem?_cons_succ] at e0 e1 e2 e3 e4 e5 e6 e7 e8 e9 e10
  clear b9
  have hbw : w.heap.size ≤ bx := by have := HBX.out; omega
  have hbv : w.heap.size ≤ br := by have := HBX.out; have := HBR.out; omega
  refine bodyPost_ret (v := .tuple #[.agg #[.int .i64 b2, .int .i64 c2, .int .i64 j2, .int .i64 st2, .int .i64 n2, .int .i64 at2, .slice A2 n3 g2, .slice B2 m3 d2, .int .i64 start2, .int .i64 was2, .string ⟨held2.toArray⟩], v2, .int .i64 0]) ?_ rfl ?_
  · simp [results, Try.f43, go_sem, e0, e1, e2, e3, e4, e5, e6, e7, e8, e9, e10]
  · rw [HE.out, ← HE2.out]
    refine rg_end (bx := bx) (br := br) (wc := wc) (w2 := w2) (v := v2) (l := l2) (xs := [.int .i64 0]) (by rw [EV.out]) ?_ ?_ H.out.lt hbw hbv XBc.out.lt XRc.out.lt Fc.out.size HR.out HO.out
    · (repeat first | with_reducible refine Fr.alloc ?_ _ | with_reducible refine Fr.setCell ?_ (.inr (by first | exact hbw | exact hbv)) _)
      exact F3.out
    · (repeat first | with_reducible refine Fr.setCell ?_ (.inl (.inl rfl)) _ | with_reducible refine Fr.setCell ?_ (.inl (.inr rfl)) _)
      exact Fr.refl _ _
end
end Ln
end Go.Proofs.Ytnfkkonmhinlcaa
