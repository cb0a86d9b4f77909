/- Package line: its reference: Opened, Tick. Printed by gen_lni.py. -/
import Derived.Test.YtnfkkonmhinlcaaLnH
namespace Go.Proofs.Ytnfkkonmhinlcaa
open Go.RowKit
set_option linter.unusedVariables false
set_option linter.unusedSimpArgs false
namespace Ln
open Run (O ROp timesR endsR dueT nextT chk chkR Fit)
/-- What an act of the reference yields: its line, what is done, and more. -/
def RGot (r : S) (l : List U) (xs : List Value) (B : Nat → Prop) (w : World) (e : Ending) (w' : World) : Prop :=
  ∃ vF vL v, e = .returned (.tuple (agL vF vL r :: v :: xs).toArray) ∧ RL w' B vF vL r ∧ Outs w w' v l ∧ Fr No w w'
theorem rg_fin {w W : World} {B : Nat → Prop} {vF vL v : Value} {s : S} {l : List U} {xs : List Value} {t : Array Value} (ht : t = (agL vF vL s :: v :: xs).toArray) (hF : Fr No w W) (hR : RL w B vF vL s) (hv : Outs w W v l) : RGot s l xs B w (.returned (.tuple t)) W :=
  ⟨vF, vL, v, by rw [ht], hR.no hF, hv, hF⟩
theorem rg_end {w wc w2 W : World} {bx br : Nat} {B : Nat → Prop} {vF vL v : Value} {s : S} {l : List U} {xs : List Value} {t : Array Value} (ht : t = (agL vF vL s :: v :: xs).toArray) (hF : Fr No w W) (hF2 : Fr (fun z => z = bx ∨ z = br) w2 W) (hB : ∀ k, B k → k < w.heap.size)
    (hx : w.heap.size ≤ bx) (hr : w.heap.size ≤ br) (hx2 : bx < wc.heap.size) (hr2 : br < wc.heap.size) (hs : w.heap.size ≤ wc.heap.size) (hR : RL w2 B vF vL s) (ho : Outs wc w2 v l) : RGot s l xs B w (.returned (.tuple t)) W :=
  ⟨vF, vL, v, by rw [ht], hR.fr hF2 (fun k hk g => by have := hB k hk; omega), ⟨own_fr ho.1 hF2 (fun z hz g => by have := (ho.2 z hz).1; omega), fun z hz => ⟨Nat.le_trans hs (ho.2 z hz).1, Nat.lt_of_lt_of_le (ho.2 z hz).2 hF2.size⟩⟩, hF⟩
theorem rg_outs {r : S × List U} {B : Nat → Prop} {w w' : World} {e : Ending} (h : RGot r.1 r.2 [] B w e w') : ROuts r B w e w' := h
section
variable {w w' : World} {S0 : Nat → Prop} {vF vL : Value} {s : S}
set_option maxRecDepth 100000 in
set_option maxHeartbeats 4000000 in
theorem ropened_any (h : RL w S0 vF vL s) {k : Int} (hk : Ok s k) (hk2 : k ≤ 1000000) (now : Int) (okb : Bool) (r : Int) (hr : -9223372036854775808 ≤ r ∧ r ≤ 9223372036854775807) : Calls Try.prog 40 #[agL vF vL s, .int .i64 now, .bool okb, .int .i64 r] w (ROuts (openedS s now okb r) S0 w) := by
  have HK := Lib.hid hk
  clear hk
  obtain ⟨b, c, j, st, n, at_, first, seq, start, was, held⟩ := s
  obtain ⟨A, c1, rfl, hA1, hA2⟩ := h.first.slice
  obtain ⟨B, d1, rfl, hB1, hB2⟩ := h.seq.slice
  have H := Lib.hid h
  clear h
  have hA1 : first.length ≤ c1 := hA1
  have hB1 : seq.length ≤ d1 := hB1
  unfold maxLen at hA2 hB2
  obtain ⟨n1, hn1⟩ : ∃ n1, n1 = first.length := ⟨_, rfl⟩
  obtain ⟨m1, hm1⟩ : ∃ m1, m1 = seq.length := ⟨_, rfl⟩
  have ag : agL (.slice A first.length c1) (.slice B seq.length d1) ⟨b, c, j, st, n, at_, first, seq, start, was, held⟩ = .agg #[.int .i64 b, .int .i64 c, .int .i64 j, .int .i64 st, .int .i64 n, .int .i64 at_, .slice A n1 c1, .slice B m1 d1, .int .i64 start, .int .i64 was, .string ⟨held.toArray⟩] := by rw [hn1, hm1]; rfl
  try simp only at ag
  rw [ag]
  have AG := Lib.hid ag
  have HN := Lib.hid hn1
  have HM := Lib.hid hm1
  rw [← hn1] at hA1
  rw [← hm1] at hB1
  clear ag hn1 hm1
  have XB := Lib.hid ((Blk.new w 46 #[.int .i64 b, .int .i64 c, .int .i64 j, .int .i64 st, .int .i64 n, .int .i64 at_, .slice A n1 c1, .slice B m1 d1, .int .i64 start, .int .i64 was, .string ⟨held.toArray⟩]).alloc (.cells #[.int .i64 0, .int .i64 0, .int .i64 0, .int .i64 0, .int .i64 0, .int .i64 0, .slice none 0 0, .slice none 0 0, .int .i64 0, .int .i64 0, .string ⟨#[]⟩] 46))
  have XR := Blk.new (w.alloc (.cells #[.int .i64 b, .int .i64 c, .int .i64 j, .int .i64 st, .int .i64 n, .int .i64 at_, .slice A n1 c1, .slice B m1 d1, .int .i64 start, .int .i64 was, .string ⟨held.toArray⟩] 46)) 46 #[.int .i64 0, .int .i64 0, .int .i64 0, .int .i64 0, .int .i64 0, .int .i64 0, .slice none 0 0, .slice none 0 0, .int .i64 0, .int .i64 0, .string ⟨#[]⟩]
  have F1 := Lib.hid (((Fr.refl No w).alloc (.cells #[.int .i64 b, .int .i64 c, .int .i64 j, .int .i64 st, .int .i64 n, .int .i64 at_, .slice A n1 c1, .slice B m1 d1, .int .i64 start, .int .i64 was, .string ⟨held.toArray⟩] 46)).alloc (.cells #[.int .i64 0, .int .i64 0, .int .i64 0, .int .i64 0, .int .i64 0, .int .i64 0, .slice none 0 0, .slice none 0 0, .int .i64 0, .int .i64 0, .string ⟨#[]⟩] 46))
  rw [size_alloc] at XR
  obtain ⟨bx, hbx⟩ : ∃ bx, w.heap.size = bx := ⟨_, rfl⟩
  obtain ⟨br, hbr⟩ : ∃ br, bx + 1 = br := ⟨_, rfl⟩
  have XB := Lib.hid (show Blk _ bx _ _ by rw [← hbx]; exact XB.out)
  rw [hbx, hbr] at XR
  have XR := Lib.hid XR
  have HBX := Lib.hid hbx
  have HBR := Lib.hid hbr
  refine Calls.mono ?_ (fun e w' h => rg_outs h)
  by_cases h2 : st = 2
  rotate_left
  · have HE := Lib.hid (show openedS ⟨b, c, j, st, n, at_, first, seq, start, was, held⟩ now okb r = (⟨b, c, j, st, n, at_, first, seq, start, was, held⟩, []) from if_pos (.inl h2))
    have g0 : (st != 2) = true := by simpa using h2
    clear h2
    go_enter Try.func40, Try.ntmps40
    go_upto_region 1 with (fail)
    generalize (w.alloc (.cells #[.int .i64 b, .int .i64 c, .int .i64 j, .int .i64 st, .int .i64 n, .int .i64 at_, .slice A n1 c1, .slice B m1 d1, .int .i64 start, .int .i64 was, .string ⟨held.toArray⟩] 46)).alloc (.cells #[.int .i64 0, .int .i64 0, .int .i64 0, .int .i64 0, .int .i64 0, .int .i64 0, .slice none 0 0, .slice none 0 0, .int .i64 0, .int .i64 0, .string ⟨#[]⟩] 46) = w1 at XB XR F1 ⊢
    have hbb : bx ≠ br := by omega
    have hbc : br ≠ bx := by omega
    clear hbx hbr
    have hbl := XR.out.lt
    have hbd : br ≠ w1.heap.size := by omega
    have hbm := XB.out.lt
    have hbe : bx ≠ w1.heap.size := by omega
    have xo := XB.out
    have x0 := xo.cell 0
    have x1 := xo.cell 1
    have x2 := xo.cell 2
    have x3 := xo.cell 3
    have x4 := xo.cell 4
    have x5 := xo.cell 5
    have x6 := xo.cell 6
    have x7 := xo.cell 7
    have x8 := xo.cell 8
    have x9 := xo.cell 9
    have x10 := xo.cell 10
    have xf0 := xo.frozen 0
    have xf1 := xo.frozen 1
    have xf2 := xo.frozen 2
    have xf3 := xo.frozen 3
    have xf4 := xo.frozen 4
    have xf5 := xo.frozen 5
    have xf6 := xo.frozen 6
    have xf7 := xo.frozen 7
    have xf8 := xo.frozen 8
    have xf9 := xo.frozen 9
    have xf10 := xo.frozen 10
    simp only [List.getElem?_toArray, List.getElem?_cons_zero, List.getElem?_cons_succ] at x0 x1 x2 x3 x4 x5 x6 x7 x8 x9 x10
    clear xo
    have ro := XR.out
    have r0 := ro.cell 0
    have r1 := ro.cell 1
    have r2 := ro.cell 2
    have r3 := ro.cell 3
    have r4 := ro.cell 4
    have r5 := ro.cell 5
    have r6 := ro.cell 6
    have r7 := ro.cell 7
    have r8 := ro.cell 8
    have r9 := ro.cell 9
    have r10 := ro.cell 10
    have rf0 := ro.frozen 0
    have rf1 := ro.frozen 1
    have rf2 := ro.frozen 2
    have rf3 := ro.frozen 3
    have rf4 := ro.frozen 4
    have rf5 := ro.frozen 5
    have rf6 := ro.frozen 6
    have rf7 := ro.frozen 7
    have rf8 := ro.frozen 8
    have rf9 := ro.frozen 9
    have rf10 := ro.frozen 10
    simp only [List.getElem?_toArray, List.getElem?_cons_zero, List.getElem?_cons_succ] at r0 r1 r2 r3 r4 r5 r6 r7 r8 r9 r10
    clear ro
    go_wp2_with fail
    clear x0 x1 x2 x3 x4 x5 x6 x7 x8 x9 x10 xf0 xf1 xf2 xf3 xf4 xf5 xf6 xf7 xf8 xf9 xf10
    clear r0 r1 r2 r3 r4 r5 r6 r7 r8 r9 r10 rf0 rf1 rf2 rf3 rf4 rf5 rf6 rf7 rf8 rf9 rf10
    have b9 := XR.out
    have b9 := b9.put 0 (.int .i64 b)
    have b9 := b9.put 1 (.int .i64 c)
    have b9 := b9.put 2 (.int .i64 j)
    have b9 := b9.put 3 (.int .i64 st)
    have b9 := b9.put 4 (.int .i64 n)
    have b9 := b9.put 5 (.int .i64 at_)
    have b9 := b9.put 6 (.slice A n1 c1)
    have b9 := b9.put 7 (.slice B m1 d1)
    have b9 := b9.put 8 (.int .i64 start)
    have b9 := b9.put 9 (.int .i64 was)
    have b9 := b9.put 10 (.string ⟨held.toArray⟩)
    simp only [List.setIfInBounds_toArray, List.set_cons_zero, List.set_cons_succ] at b9
    have e0 := b9.cell 0
    have e1 := b9.cell 1
    have e2 := b9.cell 2
    have e3 := b9.cell 3
    have e4 := b9.cell 4
    have e5 := b9.cell 5
    have e6 := b9.cell 6
    have e7 := b9.cell 7
    have e8 := b9.cell 8
    have e9 := b9.cell 9
    have e10 := b9.cell 10
    simp only [List.getElem?_toArray, List.getElem?_cons_zero, List.getElem?_cons_succ] at e0 e1 e2 e3 e4 e5 e6 e7 e8 e9 e10
    clear b9
    have ea : .agg #[.int .i64 b, .int .i64 c, .int .i64 j, .int .i64 st, .int .i64 n, .int .i64 at_, .slice A n1 c1, .slice B m1 d1, .int .i64 start, .int .i64 was, .string ⟨held.toArray⟩] = agL (.slice A first.length c1) (.slice B seq.length d1) ⟨b, c, j, st, n, at_, first, seq, start, was, held⟩ := by rw [HM.out, HN.out]; rfl
    have hbw : w.heap.size ≤ bx := by have := HBX.out; omega
    have hbv : w.heap.size ≤ br := by have := HBX.out; have := HBR.out; omega
    refine bodyPost_ret (v := .tuple #[.agg #[.int .i64 b, .int .i64 c, .int .i64 j, .int .i64 st, .int .i64 n, .int .i64 at_, .slice A n1 c1, .slice B m1 d1, .int .i64 start, .int .i64 was, .string ⟨held.toArray⟩], .slice none 0 0]) ?_ rfl ?_
    · simp [results, Try.f40, go_sem, e0, e1, e2, e3, e4, e5, e6, e7, e8, e9, e10]
    · rw [HE.out]
      refine rg_fin (vF := .slice A first.length c1) (vL := .slice B seq.length d1) (v := .slice none 0 0) (s := ⟨b, c, j, st, n, at_, first, seq, start, was, held⟩) (l := []) (xs := []) (by rw [ea]) ?_ ?_ ?_
      · (repeat first | with_reducible refine Fr.alloc ?_ _ | with_reducible refine Fr.setCell ?_ (.inr (by first | exact hbw | exact hbv)) _)
        exact F1.out
      · exact ⟨H.out.first, H.out.seq, H.out.lt⟩
      · exact outs_nil _ _
  subst h2
  by_cases hl : lateI now = true
  · have HE := Lib.hid (show openedS ⟨b, c, j, 2, n, at_, first, seq, start, was, held⟩ now okb r = (⟨b, c, j, 2, n, at_, first, seq, start, was, held⟩, []) from if_pos (.inr hl))
    have G2 := Lib.hid hl
    clear hl
    go_enter Try.func40, Try.ntmps40
    go_upto_region 1 with (fail)
    generalize (w.alloc (.cells #[.int .i64 b, .int .i64 c, .int .i64 j, .int .i64 2, .int .i64 n, .int .i64 at_, .slice A n1 c1, .slice B m1 d1, .int .i64 start, .int .i64 was, .string ⟨held.toArray⟩] 46)).alloc (.cells #[.int .i64 0, .int .i64 0, .int .i64 0, .int .i64 0, .int .i64 0, .int .i64 0, .slice none 0 0, .slice none 0 0, .int .i64 0, .int .i64 0, .string ⟨#[]⟩] 46) = w1 at XB XR F1 ⊢
    have hbb : bx ≠ br := by omega
    have hbc : br ≠ bx := by omega
    clear hbx hbr
    have hbl := XR.out.lt
    have hbd : br ≠ w1.heap.size := by omega
    have hbm := XB.out.lt
    have hbe : bx ≠ w1.heap.size := by omega
    have xo := XB.out
    have x0 := xo.cell 0
    have x1 := xo.cell 1
    have x2 := xo.cell 2
    have x3 := xo.cell 3
    have x4 := xo.cell 4
    have x5 := xo.cell 5
    have x6 := xo.cell 6
    have x7 := xo.cell 7
    have x8 := xo.cell 8
    have x9 := xo.cell 9
    have x10 := xo.cell 10
    have xf0 := xo.frozen 0
    have xf1 := xo.frozen 1
    have xf2 := xo.frozen 2
    have xf3 := xo.frozen 3
    have xf4 := xo.frozen 4
    have xf5 := xo.frozen 5
    have xf6 := xo.frozen 6
    have xf7 := xo.frozen 7
    have xf8 := xo.frozen 8
    have xf9 := xo.frozen 9
    have xf10 := xo.frozen 10
    simp only [List.getElem?_toArray, List.getElem?_cons_zero, List.getElem?_cons_succ] at x0 x1 x2 x3 x4 x5 x6 x7 x8 x9 x10
    clear xo
    have ro := XR.out
    have r0 := ro.cell 0
    have r1 := ro.cell 1
    have r2 := ro.cell 2
    have r3 := ro.cell 3
    have r4 := ro.cell 4
    have r5 := ro.cell 5
    have r6 := ro.cell 6
    have r7 := ro.cell 7
    have r8 := ro.cell 8
    have r9 := ro.cell 9
    have r10 := ro.cell 10
    have rf0 := ro.frozen 0
    have rf1 := ro.frozen 1
    have rf2 := ro.frozen 2
    have rf3 := ro.frozen 3
    have rf4 := ro.frozen 4
    have rf5 := ro.frozen 5
    have rf6 := ro.frozen 6
    have rf7 := ro.frozen 7
    have rf8 := ro.frozen 8
    have rf9 := ro.frozen 9
    have rf10 := ro.frozen 10
    simp only [List.getElem?_toArray, List.getElem?_cons_zero, List.getElem?_cons_succ] at r0 r1 r2 r3 r4 r5 r6 r7 r8 r9 r10
    clear ro
    go_wp2_with (go_at_call 58; refine (rlate_any _ _).mono ?_; rintro e w2 ⟨rfl, rfl⟩; rw [G2.out])
    clear x0 x1 x2 x3 x4 x5 x6 x7 x8 x9 x10 xf0 xf1 xf2 xf3 xf4 xf5 xf6 xf7 xf8 xf9 xf10
    clear r0 r1 r2 r3 r4 r5 r6 r7 r8 r9 r10 rf0 rf1 rf2 rf3 rf4 rf5 rf6 rf7 rf8 rf9 rf10
    have b9 := XR.out
    have b9 := b9.put 0 (.int .i64 b)
    have b9 := b9.put 1 (.int .i64 c)
    have b9 := b9.put 2 (.int .i64 j)
    have b9 := b9.put 3 (.int .i64 2)
    have b9 := b9.put 4 (.int .i64 n)
    have b9 := b9.put 5 (.int .i64 at_)
    have b9 := b9.put 6 (.slice A n1 c1)
    have b9 := b9.put 7 (.slice B m1 d1)
    have b9 := b9.put 8 (.int .i64 start)
    have b9 := b9.put 9 (.int .i64 was)
    have b9 := b9.put 10 (.string ⟨held.toArray⟩)
    simp only [List.setIfInBounds_toArray, List.set_cons_zero, List.set_cons_succ] at b9
    have e0 := b9.cell 0
    have e1 := b9.cell 1
    have e2 := b9.cell 2
    have e3 := b9.cell 3
    have e4 := b9.cell 4
    have e5 := b9.cell 5
    have e6 := b9.cell 6
    have e7 := b9.cell 7
    have e8 := b9.cell 8
    have e9 := b9.cell 9
    have e10 := b9.cell 10
    simp only [List.getElem?_toArray, List.getElem?_cons_zero, List.getElem?_cons_succ] at e0 e1 e2 e3 e4 e5 e6 e7 e8 e9 e10
    clear b9
    have ea : .agg #[.int .i64 b, .int .i64 c, .int .i64 j, .int .i64 2, .int .i64 n, .int .i64 at_, .slice A n1 c1, .slice B m1 d1, .int .i64 start, .int .i64 was, .string ⟨held.toArray⟩] = agL (.slice A first.length c1) (.slice B seq.length d1) ⟨b, c, j, 2, n, at_, first, seq, start, was, held⟩ := by rw [HM.out, HN.out]; rfl
    have hbw : w.heap.size ≤ bx := by have := HBX.out; omega
    have hbv : w.heap.size ≤ br := by have := HBX.out; have := HBR.out; omega
    refine bodyPost_ret (v := .tuple #[.agg #[.int .i64 b, .int .i64 c, .int .i64 j, .int .i64 2, .int .i64 n, .int .i64 at_, .slice A n1 c1, .slice B m1 d1, .int .i64 start, .int .i64 was, .string ⟨held.toArray⟩], .slice none 0 0]) ?_ rfl ?_
    · simp [results, Try.f40, go_sem, e0, e1, e2, e3, e4, e5, e6, e7, e8, e9, e10]
    · rw [HE.out]
      refine rg_fin (vF := .slice A first.length c1) (vL := .slice B seq.length d1) (v := .slice none 0 0) (s := ⟨b, c, j, 2, n, at_, first, seq, start, was, held⟩) (l := []) (xs := []) (by rw [ea]) ?_ ?_ ?_
      · (repeat first | with_reducible refine Fr.alloc ?_ _ | with_reducible refine Fr.setCell ?_ (.inr (by first | exact hbw | exact hbv)) _)
        exact F1.out
      · exact ⟨H.out.first, H.out.seq, H.out.lt⟩
      · exact outs_nil _ _
  have hl : lateI now = false := by simpa using hl
  have G2 := Lib.hid hl
  obtain ⟨t1, t2⟩ := late_no hl
  clear hl
  cases okb
  · have HE := Lib.hid (show openedS ⟨b, c, j, 2, n, at_, first, seq, start, was, held⟩ now false r = (failedS ⟨b, c, j, 2, n, at_, first, seq, start, was, held⟩ now r, []) by unfold openedS; rw [if_neg (by rw [G2.out]; simp), if_pos rfl])
    go_enter Try.func40, Try.ntmps40
    go_upto_region 1 with (fail)
    generalize (w.alloc (.cells #[.int .i64 b, .int .i64 c, .int .i64 j, .int .i64 2, .int .i64 n, .int .i64 at_, .slice A n1 c1, .slice B m1 d1, .int .i64 start, .int .i64 was, .string ⟨held.toArray⟩] 46)).alloc (.cells #[.int .i64 0, .int .i64 0, .int .i64 0, .int .i64 0, .int .i64 0, .int .i64 0, .slice none 0 0, .slice none 0 0, .int .i64 0, .int .i64 0, .string ⟨#[]⟩] 46) = w1 at XB XR F1 ⊢
    have hbb : bx ≠ br := by omega
    have hbc : br ≠ bx := by omega
    clear hbx hbr
    have hbl := XR.out.lt
    have hbd : br ≠ w1.heap.size := by omega
    have hbm := XB.out.lt
    have hbe : bx ≠ w1.heap.size := by omega
    have xo := XB.out
    have x0 := xo.cell 0
    have x1 := xo.cell 1
    have x2 := xo.cell 2
    have x3 := xo.cell 3
    have x4 := xo.cell 4
    have x5 := xo.cell 5
    have x6 := xo.cell 6
    have x7 := xo.cell 7
    have x8 := xo.cell 8
    have x9 := xo.cell 9
    have x10 := xo.cell 10
    have xf0 := xo.frozen 0
    have xf1 := xo.frozen 1
    have xf2 := xo.frozen 2
    have xf3 := xo.frozen 3
    have xf4 := xo.frozen 4
    have xf5 := xo.frozen 5
    have xf6 := xo.frozen 6
    have xf7 := xo.frozen 7
    have xf8 := xo.frozen 8
    have xf9 := xo.frozen 9
    have xf10 := xo.frozen 10
    simp only [List.getElem?_toArray, List.getElem?_cons_zero, List.getElem?_cons_succ] at x0 x1 x2 x3 x4 x5 x6 x7 x8 x9 x10
    clear xo
    have ro := XR.out
    have r0 := ro.cell 0
    have r1 := ro.cell 1
    have r2 := ro.cell 2
    have r3 := ro.cell 3
    have r4 := ro.cell 4
    have r5 := ro.cell 5
    have r6 := ro.cell 6
    have r7 := ro.cell 7
    have r8 := ro.cell 8
    have r9 := ro.cell 9
    have r10 := ro.cell 10
    have rf0 := ro.frozen 0
    have rf1 := ro.frozen 1
    have rf2 := ro.frozen 2
    have rf3 := ro.frozen 3
    have rf4 := ro.frozen 4
    have rf5 := ro.frozen 5
    have rf6 := ro.frozen 6
    have rf7 := ro.frozen 7
    have rf8 := ro.frozen 8
    have rf9 := ro.frozen 9
    have rf10 := ro.frozen 10
    simp only [List.getElem?_toArray, List.getElem?_cons_zero, List.getElem?_cons_succ] at r0 r1 r2 r3 r4 r5 r6 r7 r8 r9 r10
    clear ro
    have b9 := XB.out
    try simp only [List.setIfInBounds_toArray, List.set_cons_zero, List.set_cons_succ] at b9
    have XBc := Lib.hid b9
    clear b9
    have b9 := XR.out
    have XRc := Lib.hid b9
    clear b9
    have Fc := F1
    have RC := rfailed_any (H.out.no F1.out) HK.out hk2 now r G2.out hr
    rw [show agL (.slice A first.length c1) (.slice B seq.length d1) ⟨b, c, j, 2, n, at_, first, seq, start, was, held⟩ = .agg #[.int .i64 b, .int .i64 c, .int .i64 j, .int .i64 2, .int .i64 n, .int .i64 at_, .slice A n1 c1, .slice B m1 d1, .int .i64 start, .int .i64 was, .string ⟨held.toArray⟩] by rw [HM.out, HN.out]; rfl] at RC
    have RC := Lib.hid RC
    go_wp2_with (go_at_call 58; refine (rlate_any _ _).mono ?_; rintro e w2 ⟨rfl, rfl⟩; rw [G2.out])
    refine RC.out.mono ?_
    rintro e w2 ⟨vF, vL, rfl, hR, hf⟩
    obtain ⟨s2, hs2⟩ : ∃ q, q = failedS ⟨b, c, j, 2, n, at_, first, seq, start, was, held⟩ now r := ⟨_, rfl⟩
    rw [← hs2] at hR ⊢
    have HE2 := Lib.hid hs2
    clear hs2
    obtain ⟨b2, c2, j2, st2, n2, at2, first2, seq2, start2, was2, held2⟩ := s2
    obtain ⟨A2, g2, rfl, -, -⟩ := hR.first.slice
    obtain ⟨B2, d2, rfl, -, -⟩ := hR.seq.slice
    obtain ⟨n3, hn3⟩ : ∃ n3, n3 = first2.length := ⟨_, rfl⟩
    obtain ⟨m3, hm3⟩ : ∃ m3, m3 = seq2.length := ⟨_, rfl⟩
    have ev : agL (.slice A2 first2.length g2) (.slice B2 seq2.length d2) ⟨b2, c2, j2, st2, n2, at2, first2, seq2, start2, was2, held2⟩ = .agg #[.int .i64 b2, .int .i64 c2, .int .i64 j2, .int .i64 st2, .int .i64 n2, .int .i64 at2, .slice A2 n3 g2, .slice B2 m3 d2, .int .i64 start2, .int .i64 was2, .string ⟨held2.toArray⟩] := by rw [hn3, hm3]; rfl
    simp only at ev ⊢
    rw [ev]
    have EV := Lib.hid ev
    have HR := Lib.hid hR
    have F2 := Lib.hid (Fc.out.then_no hf)
    have XB2 := Lib.hid (XBc.out.fr hf (fun h => h))
    have XR2 := Lib.hid (XRc.out.fr hf (fun h => h))
    have hbl2 := XR2.out.lt
    have hbm2 := XB2.out.lt
    clear ev hR hf hn3 hm3
    clear x0 x1 x2 x3 x4 x5 x6 x7 x8 x9 x10 xf0 xf1 xf2 xf3 xf4 xf5 xf6 xf7 xf8 xf9 xf10
    clear r0 r1 r2 r3 r4 r5 r6 r7 r8 r9 r10 rf0 rf1 rf2 rf3 rf4 rf5 rf6 rf7 rf8 rf9 rf10
    have ro := XR2.out
    have r0 := ro.cell 0
    have r1 := ro.cell 1
    have r2 := ro.cell 2
    have r3 := ro.cell 3
    have r4 := ro.cell 4
    have r5 := ro.cell 5
    have r6 := ro.cell 6
    have r7 := ro.cell 7
    have r8 := ro.cell 8
    have r9 := ro.cell 9
    have r10 := ro.cell 10
    have rf0 := ro.frozen 0
    have rf1 := ro.frozen 1
    have rf2 := ro.frozen 2
    have rf3 := ro.frozen 3
    have rf4 := ro.frozen 4
    have rf5 := ro.frozen 5
    have rf6 := ro.frozen 6
    have rf7 := ro.frozen 7
    have rf8 := ro.frozen 8
    have rf9 := ro.frozen 9
    have rf10 := ro.frozen 10
    simp only [List.getElem?_toArray, List.getElem?_cons_zero, List.getElem?_cons_succ] at r0 r1 r2 r3 r4 r5 r6 r7 r8 r9 r10
    clear ro
    go_wp2_with fail
    clear r0 r1 r2 r3 r4 r5 r6 r7 r8 r9 r10 rf0 rf1 rf2 rf3 rf4 rf5 rf6 rf7 rf8 rf9 rf10
    have b9 := XR2.out
    have b9 := b9.put 0 (.int .i64 b2)
    have b9 := b9.put 1 (.int .i64 c2)
    have b9 := b9.put 2 (.int .i64 j2)
    have b9 := b9.put 3 (.int .i64 st2)
    have b9 := b9.put 4 (.int .i64 n2)
    have b9 := b9.put 5 (.int .i64 at2)
    have b9 := b9.put 6 (.slice A2 n3 g2)
    have b9 := b9.put 7 (.slice B2 m3 d2)
    have b9 := b9.put 8 (.int .i64 start2)
    have b9 := b9.put 9 (.int .i64 was2)
    have b9 := b9.put 10 (.string ⟨held2.toArray⟩)
    simp only [List.setIfInBounds_toArray, List.set_cons_zero, List.set_cons_succ] at b9
    have e0 := b9.cell 0
    have e1 := b9.cell 1
    have e2 := b9.cell 2
    have e3 := b9.cell 3
    have e4 := b9.cell 4
    have e5 := b9.cell 5
    have e6 := b9.cell 6
    have e7 := b9.cell 7
    have e8 := b9.cell 8
    have e9 := b9.cell 9
    have e10 := b9.cell 10
    simp only [List.getElem?_toArray, List.getElem?_cons_zero, List.getElem?_cons_succ] at e0 e1 e2 e3 e4 e5 e6 e7 e8 e9 e10
    clear b9
    have hbw : w.heap.size ≤ bx := by have := HBX.out; omega
    have hbv : w.heap.size ≤ br := by have := HBX.out; have := HBR.out; omega
    refine bodyPost_ret (v := .tuple #[.agg #[.int .i64 b2, .int .i64 c2, .int .i64 j2, .int .i64 st2, .int .i64 n2, .int .i64 at2, .slice A2 n3 g2, .slice B2 m3 d2, .int .i64 start2, .int .i64 was2, .string ⟨held2.toArray⟩], .slice none 0 0]) ?_ rfl ?_
    · simp [results, Try.f40, go_sem, e0, e1, e2, e3, e4, e5, e6, e7, e8, e9, e10]
    · rw [HE.out, ← HE2.out]
      refine rg_end (bx := bx) (br := br) (wc := w1) (w2 := w2) (v := .slice none 0 0) (l := []) (xs := []) (by rw [EV.out]) ?_ ?_ H.out.lt hbw hbv XBc.out.lt XRc.out.lt Fc.out.size HR.out ⟨World.ownsRow_nil _ _ _ _, fun k hk => (of_nil hk).elim⟩
      · (repeat first | with_reducible refine Fr.alloc ?_ _ | with_reducible refine Fr.setCell ?_ (.inr (by first | exact hbw | exact hbv)) _)
        exact F2.out
      · (repeat first | with_reducible refine Fr.setCell ?_ (.inl (.inl rfl)) _ | with_reducible refine Fr.setCell ?_ (.inl (.inr rfl)) _)
        exact Fr.refl _ _
  · have HE := Lib.hid (show openedS ⟨b, c, j, 2, n, at_, first, seq, start, was, held⟩ now true r = goOnS ⟨b, c, j, 3, 0, at_, first, first, now, now - 1, held⟩ now by unfold openedS; rw [if_neg (by rw [G2.out]; simp), if_neg (by simp)]; rfl)
    go_enter Try.func40, Try.ntmps40
    go_upto_region 1 with (fail)
    generalize (w.alloc (.cells #[.int .i64 b, .int .i64 c, .int .i64 j, .int .i64 2, .int .i64 n, .int .i64 at_, .slice A n1 c1, .slice B m1 d1, .int .i64 start, .int .i64 was, .string ⟨held.toArray⟩] 46)).alloc (.cells #[.int .i64 0, .int .i64 0, .int .i64 0, .int .i64 0, .int .i64 0, .int .i64 0, .slice none 0 0, .slice none 0 0, .int .i64 0, .int .i64 0, .string ⟨#[]⟩] 46) = w1 at XB XR F1 ⊢
    have hbb : bx ≠ br := by omega
    have hbc : br ≠ bx := by omega
    clear hbx hbr
    have hbl := XR.out.lt
    have hbd : br ≠ w1.heap.size := by omega
    have hbm := XB.out.lt
    have hbe : bx ≠ w1.heap.size := by omega
    have xo := XB.out
    have x0 := xo.cell 0
    have x1 := xo.cell 1
    have x2 := xo.cell 2
    have x3 := xo.cell 3
    have x4 := xo.cell 4
    have x5 := xo.cell 5
    have x6 := xo.cell 6
    have x7 := xo.cell 7
    have x8 := xo.cell 8
    have x9 := xo.cell 9
    have x10 := xo.cell 10
    have xf0 := xo.frozen 0
    have xf1 := xo.frozen 1
    have xf2 := xo.frozen 2
    have xf3 := xo.frozen 3
    have xf4 := xo.frozen 4
    have xf5 := xo.frozen 5
    have xf6 := xo.frozen 6
    have xf7 := xo.frozen 7
    have xf8 := xo.frozen 8
    have xf9 := xo.frozen 9
    have xf10 := xo.frozen 10
    simp only [List.getElem?_toArray, List.getElem?_cons_zero, List.getElem?_cons_succ] at x0 x1 x2 x3 x4 x5 x6 x7 x8 x9 x10
    clear xo
    have ro := XR.out
    have r0 := ro.cell 0
    have r1 := ro.cell 1
    have r2 := ro.cell 2
    have r3 := ro.cell 3
    have r4 := ro.cell 4
    have r5 := ro.cell 5
    have r6 := ro.cell 6
    have r7 := ro.cell 7
    have r8 := ro.cell 8
    have r9 := ro.cell 9
    have r10 := ro.cell 10
    have rf0 := ro.frozen 0
    have rf1 := ro.frozen 1
    have rf2 := ro.frozen 2
    have rf3 := ro.frozen 3
    have rf4 := ro.frozen 4
    have rf5 := ro.frozen 5
    have rf6 := ro.frozen 6
    have rf7 := ro.frozen 7
    have rf8 := ro.frozen 8
    have rf9 := ro.frozen 9
    have rf10 := ro.frozen 10
    simp only [List.getElem?_toArray, List.getElem?_cons_zero, List.getElem?_cons_succ] at r0 r1 r2 r3 r4 r5 r6 r7 r8 r9 r10
    clear ro
    go_upto_region 6 with (go_at_call 58; refine (rlate_any _ _).mono ?_; rintro e w2 ⟨rfl, rfl⟩; rw [G2.out])
    clear x0 x1 x2 x3 x4 x5 x6 x7 x8 x9 x10 xf0 xf1 xf2 xf3 xf4 xf5 xf6 xf7 xf8 xf9 xf10
    clear r0 r1 r2 r3 r4 r5 r6 r7 r8 r9 r10 rf0 rf1 rf2 rf3 rf4 rf5 rf6 rf7 rf8 rf9 rf10
    have b9 := XB.out
    have b9 := b9.put 4 (.int .i64 0)
    have b9 := b9.put 3 (.int .i64 3)
    have b9 := b9.put 7 (.slice A n1 c1)
    have b9 := b9.put 8 (.int .i64 now)
    have b9 := b9.put 9 (.int .i64 (now - 1))
    try simp only [List.setIfInBounds_toArray, List.set_cons_zero, List.set_cons_succ] at b9
    have XBc := Lib.hid b9
    clear b9
    have b9 := XR.out
    have b9 := b9.far (p := ⟨bx, 4, none⟩) hbc (.int .i64 0)
    have b9 := b9.far (p := ⟨bx, 3, none⟩) hbc (.int .i64 3)
    have b9 := b9.far (p := ⟨bx, 7, none⟩) hbc (.slice A n1 c1)
    have b9 := b9.far (p := ⟨bx, 8, none⟩) hbc (.int .i64 now)
    have b9 := b9.far (p := ⟨bx, 9, none⟩) hbc (.int .i64 (now - 1))
    have XRc := Lib.hid b9
    clear b9
    have Fc := Lib.hid (Fr.setCell (Fr.setCell (Fr.setCell (Fr.setCell (Fr.setCell F1.out (p := ⟨bx, 4, none⟩) (.inr (by show w.heap.size ≤ bx; have := HBX.out; omega)) (.int .i64 0)) (p := ⟨bx, 3, none⟩) (.inr (by show w.heap.size ≤ bx; have := HBX.out; omega)) (.int .i64 3)) (p := ⟨bx, 7, none⟩) (.inr (by show w.heap.size ≤ bx; have := HBX.out; omega)) (.slice A n1 c1)) (p := ⟨bx, 8, none⟩) (.inr (by show w.heap.size ≤ bx; have := HBX.out; omega)) (.int .i64 now)) (p := ⟨bx, 9, none⟩) (.inr (by show w.heap.size ≤ bx; have := HBX.out; omega)) (.int .i64 (now - 1)))
    generalize (((((w1.setCell ⟨bx, 4, none⟩ (.int .i64 0)).setCell ⟨bx, 3, none⟩ (.int .i64 3)).setCell ⟨bx, 7, none⟩ (.slice A n1 c1)).setCell ⟨bx, 8, none⟩ (.int .i64 now)).setCell ⟨bx, 9, none⟩ (.int .i64 (now - 1))) = wc at XBc XRc Fc ⊢
    have RC := rgoOn_any (w := wc) (vF := .slice A first.length c1) (vL := .slice A first.length c1) (s := ⟨b, c, j, 3, 0, at_, first, first, now, now - 1, held⟩) (⟨(H.out.no Fc.out).first, (H.out.no Fc.out).first, (H.out.no Fc.out).lt⟩) (HK.out.first now t1 t2) now ⟨t1, by omega⟩
    rw [show agL (.slice A first.length c1) (.slice A first.length c1) ⟨b, c, j, 3, 0, at_, first, first, now, now - 1, held⟩ = .agg #[.int .i64 b, .int .i64 c, .int .i64 j, .int .i64 3, .int .i64 0, .int .i64 at_, .slice A n1 c1, .slice A n1 c1, .int .i64 now, .int .i64 (now - 1), .string ⟨held.toArray⟩] by rw [HN.out]; rfl] at RC
    have RC := Lib.hid RC
    have xo := XBc.out
    have x0 := xo.cell 0
    have x1 := xo.cell 1
    have x2 := xo.cell 2
    have x3 := xo.cell 3
    have x4 := xo.cell 4
    have x5 := xo.cell 5
    have x6 := xo.cell 6
    have x7 := xo.cell 7
    have x8 := xo.cell 8
    have x9 := xo.cell 9
    have x10 := xo.cell 10
    have xf0 := xo.frozen 0
    have xf1 := xo.frozen 1
    have xf2 := xo.frozen 2
    have xf3 := xo.frozen 3
    have xf4 := xo.frozen 4
    have xf5 := xo.frozen 5
    have xf6 := xo.frozen 6
    have xf7 := xo.frozen 7
    have xf8 := xo.frozen 8
    have xf9 := xo.frozen 9
    have xf10 := xo.frozen 10
    simp only [List.getElem?_toArray, List.getElem?_cons_zero, List.getElem?_cons_succ] at x0 x1 x2 x3 x4 x5 x6 x7 x8 x9 x10
    clear xo
    go_wp2_with fail
    refine RC.out.mono ?_
    rintro e w2 ⟨vF, vL, v2, rfl, hR, ho, hf⟩
    obtain ⟨⟨s2, l2⟩, hs2⟩ : ∃ q, q = goOnS ⟨b, c, j, 3, 0, at_, first, first, now, now - 1, held⟩ now := ⟨_, rfl⟩
    rw [← hs2] at hR ho ⊢
    simp only at hR ho ⊢
    have HE2 := Lib.hid hs2
    clear hs2
    obtain ⟨b2, c2, j2, st2, n2, at2, first2, seq2, start2, was2, held2⟩ := s2
    obtain ⟨A2, g2, rfl, -, -⟩ := hR.first.slice
    obtain ⟨B2, d2, rfl, -, -⟩ := hR.seq.slice
    obtain ⟨n3, hn3⟩ : ∃ n3, n3 = first2.length := ⟨_, rfl⟩
    obtain ⟨m3, hm3⟩ : ∃ m3, m3 = seq2.length := ⟨_, rfl⟩
    have ev : agL (.slice A2 first2.length g2) (.slice B2 seq2.length d2) ⟨b2, c2, j2, st2, n2, at2, first2, seq2, start2, was2, held2⟩ = .agg #[.int .i64 b2, .int .i64 c2, .int .i64 j2, .int .i64 st2, .int .i64 n2, .int .i64 at2, .slice A2 n3 g2, .slice B2 m3 d2, .int .i64 start2, .int .i64 was2, .string ⟨held2.toArray⟩] := by rw [hn3, hm3]; rfl
    simp only at ev ⊢
    rw [ev]
    have EV := Lib.hid ev
    have HR := Lib.hid hR
    have HO := Lib.hid ho
    have F2 := Lib.hid (Fc.out.then_no hf)
    have XB2 := Lib.hid (XBc.out.fr hf (fun h => h))
    have XR2 := Lib.hid (XRc.out.fr hf (fun h => h))
    have hbl2 := XR2.out.lt
    have hbm2 := XB2.out.lt
    clear ev hR hf hn3 hm3 ho
    clear x0 x1 x2 x3 x4 x5 x6 x7 x8 x9 x10 xf0 xf1 xf2 xf3 xf4 xf5 xf6 xf7 xf8 xf9 xf10
    have ro := XR2.out
    have r0 := ro.cell 0
    have r1 := ro.cell 1
    have r2 := ro.cell 2
    have r3 := ro.cell 3
    have r4 := ro.cell 4
    have r5 := ro.cell 5
    have r6 := ro.cell 6
    have r7 := ro.cell 7
    have r8 := ro.cell 8
    have r9 := ro.cell 9
    have r10 := ro.cell 10
    have rf0 := ro.frozen 0
    have rf1 := ro.frozen 1
    have rf2 := ro.frozen 2
    have rf3 := ro.frozen 3
    have rf4 := ro.frozen 4
    have rf5 := ro.frozen 5
    have rf6 := ro.frozen 6
    have rf7 := ro.frozen 7
    have rf8 := ro.frozen 8
    have rf9 := ro.frozen 9
    have rf10 := ro.frozen 10
    simp only [List.getElem?_toArray, List.getElem?_cons_zero, List.getElem?_cons_succ] at r0 r1 r2 r3 r4 r5 r6 r7 r8 r9 r10
    clear ro
    go_wp2_with fail
    clear r0 r1 r2 r3 r4 r5 r6 r7 r8 r9 r10 rf0 rf1 rf2 rf3 rf4 rf5 rf6 rf7 rf8 rf9 rf10
    have b9 := XR2.out
    have b9 := b9.put 0 (.int .i64 b2)
    have b9 := b9.put 1 (.int .i64 c2)
    have b9 := b9.put 2 (.int .i64 j2)
    have b9 := b9.put 3 (.int .i64 st2)
    have b9 := b9.put 4 (.int .i64 n2)
    have b9 := b9.put 5 (.int .i64 at2)
    have b9 := b9.put 6 (.slice A2 n3 g2)
    have b9 := b9.put 7 (.slice B2 m3 d2)
    have b9 := b9.put 8 (.int .i64 start2)
    have b9 := b9.put 9 (.int .i64 was2)
    have b9 := b9.put 10 (.string ⟨held2.toArray⟩)
    simp only [List.setIfInBounds_toArray, List.set_cons_zero, List.set_cons_succ] at b9
    have e0 := b9.cell 0
    have e1 := b9.cell 1
    have e2 := b9.cell 2
    have e3 := b9.cell 3
    have e4 := b9.cell 4
    have e5 := b9.cell 5
    have e6 := b9.cell 6
    have e7 := b9.cell 7
    have e8 := b9.cell 8
    have e9 := b9.cell 9
    have e10 := b9.cell 10
    simp only [List.getElem?_toArray, List.getElem?_cons_zero, List.getElem?_cons_succ] at e0 e1 e2 e3 e4 e5 e6 e7 e8 e9 e10
    clear b9
    have hbw : w.heap.size ≤ bx := by have := HBX.out; omega
    have hbv : w.heap.size ≤ br := by have := HBX.out; have := HBR.out; omega
    refine bodyPost_ret (v := .tuple #[.agg #[.int .i64 b2, .int .i64 c2, .int .i64 j2, .int .i64 st2, .int .i64 n2, .int .i64 at2, .slice A2 n3 g2, .slice B2 m3 d2, .int .i64 start2, .int .i64 was2, .string ⟨held2.toArray⟩], v2]) ?_ rfl ?_
    · simp [results, Try.f40, go_sem, e0, e1, e2, e3, e4, e5, e6, e7, e8, e9, e10]
    · rw [HE.out, ← HE2.out]
      refine rg_end (bx := bx) (br := br) (wc := wc) (w2 := w2) (v := v2) (l := l2) (xs := []) (by rw [EV.out]) ?_ ?_ H.out.lt hbw hbv XBc.out.lt XRc.out.lt Fc.out.size HR.out HO.out
      · (repeat first | with_reducible refine Fr.alloc ?_ _ | with_reducible refine Fr.setCell ?_ (.inr (by first | exact hbw | exact hbv)) _)
        exact F2.out
      · (repeat first | with_reducible refine Fr.setCell ?_ (.inl (.inl rfl)) _ | with_reducible refine Fr.setCell ?_ (.inl (.inr rfl)) _)
        exact Fr.refl _ _
set_option maxRecDepth 100000 in
set_option maxHeartbeats 4000000 in
theorem rtick_any (h : RL w S0 vF vL s) {k : Int} (hk : Ok s k) (now : Int) : Calls Try.prog 44 #[agL vF vL s, .int .i64 now] w (ROuts (tickS s now) S0 w) := by
  have HK := Lib.hid hk
  clear hk
  obtain ⟨b, c, j, st, n, at_, first, seq, start, was, held⟩ := s
  obtain ⟨A, c1, rfl, hA1, hA2⟩ := h.first.slice
  obtain ⟨B, d1, rfl, hB1, hB2⟩ := h.seq.slice
  have H := Lib.hid h
  clear h
  have hA1 : first.length ≤ c1 := hA1
  have hB1 : seq.length ≤ d1 := hB1
  unfold maxLen at hA2 hB2
  obtain ⟨n1, hn1⟩ : ∃ n1, n1 = first.length := ⟨_, rfl⟩
  obtain ⟨m1, hm1⟩ : ∃ m1, m1 = seq.length := ⟨_, rfl⟩
  have ag : agL (.slice A first.length c1) (.slice B seq.length d1) ⟨b, c, j, st, n, at_, first, seq, start, was, held⟩ = .agg #[.int .i64 b, .int .i64 c, .int .i64 j, .int .i64 st, .int .i64 n, .int .i64 at_, .slice A n1 c1, .slice B m1 d1, .int .i64 start, .int .i64 was, .string ⟨held.toArray⟩] := by rw [hn1, hm1]; rfl
  try simp only at ag
  rw [ag]
  have AG := Lib.hid ag
  have HN := Lib.hid hn1
  have HM := Lib.hid hm1
  rw [← hn1] at hA1
  rw [← hm1] at hB1
  clear ag hn1 hm1
  have XB := Lib.hid ((Blk.new w 46 #[.int .i64 b, .int .i64 c, .int .i64 j, .int .i64 st, .int .i64 n, .int .i64 at_, .slice A n1 c1, .slice B m1 d1, .int .i64 start, .int .i64 was, .string ⟨held.toArray⟩]).alloc (.cells #[.int .i64 0, .int .i64 0, .int .i64 0, .int .i64 0, .int .i64 0, .int .i64 0, .slice none 0 0, .slice none 0 0, .int .i64 0, .int .i64 0, .string ⟨#[]⟩] 46))
  have XR := Blk.new (w.alloc (.cells #[.int .i64 b, .int .i64 c, .int .i64 j, .int .i64 st, .int .i64 n, .int .i64 at_, .slice A n1 c1, .slice B m1 d1, .int .i64 start, .int .i64 was, .string ⟨held.toArray⟩] 46)) 46 #[.int .i64 0, .int .i64 0, .int .i64 0, .int .i64 0, .int .i64 0, .int .i64 0, .slice none 0 0, .slice none 0 0, .int .i64 0, .int .i64 0, .string ⟨#[]⟩]
  have F1 := Lib.hid (((Fr.refl No w).alloc (.cells #[.int .i64 b, .int .i64 c, .int .i64 j, .int .i64 st, .int .i64 n, .int .i64 at_, .slice A n1 c1, .slice B m1 d1, .int .i64 start, .int .i64 was, .string ⟨held.toArray⟩] 46)).alloc (.cells #[.int .i64 0, .int .i64 0, .int .i64 0, .int .i64 0, .int .i64 0, .int .i64 0, .slice none 0 0, .slice none 0 0, .int .i64 0, .int .i64 0, .string ⟨#[]⟩] 46))
  rw [size_alloc] at XR
  obtain ⟨bx, hbx⟩ : ∃ bx, w.heap.size = bx := ⟨_, rfl⟩
  obtain ⟨br, hbr⟩ : ∃ br, bx + 1 = br := ⟨_, rfl⟩
  have XB := Lib.hid (show Blk _ bx _ _ by rw [← hbx]; exact XB.out)
  rw [hbx, hbr] at XR
  have XR := Lib.hid XR
  have HBX := Lib.hid hbx
  have HBR := Lib.hid hbr
  refine Calls.mono ?_ (fun e w' h => rg_outs h)
  obtain ⟨⟨a1, q1⟩, hnx⟩ : ∃ p, p = nextS ⟨b, c, j, st, n, at_, first, seq, start, was, held⟩ := ⟨_, rfl⟩
  have HX := Lib.hid hnx
  clear hnx
  by_cases hq : q1 = false
  · subst hq
    have HE := Lib.hid (show tickS ⟨b, c, j, st, n, at_, first, seq, start, was, held⟩ now = (⟨b, c, j, st, n, at_, first, seq, start, was, held⟩, []) from if_pos (.inl (by rw [← HX.out])))
    go_enter Try.func44, Try.ntmps44
    go_upto_region 1 with (fail)
    generalize (w.alloc (.cells #[.int .i64 b, .int .i64 c, .int .i64 j, .int .i64 st, .int .i64 n, .int .i64 at_, .slice A n1 c1, .slice B m1 d1, .int .i64 start, .int .i64 was, .string ⟨held.toArray⟩] 46)).alloc (.cells #[.int .i64 0, .int .i64 0, .int .i64 0, .int .i64 0, .int .i64 0, .int .i64 0, .slice none 0 0, .slice none 0 0, .int .i64 0, .int .i64 0, .string ⟨#[]⟩] 46) = w1 at XB XR F1 ⊢
    have hbb : bx ≠ br := by omega
    have hbc : br ≠ bx := by omega
    clear hbx hbr
    have hbl := XR.out.lt
    have hbd : br ≠ w1.heap.size := by omega
    have hbm := XB.out.lt
    have hbe : bx ≠ w1.heap.size := by omega
    have xo := XB.out
    have x0 := xo.cell 0
    have x1 := xo.cell 1
    have x2 := xo.cell 2
    have x3 := xo.cell 3
    have x4 := xo.cell 4
    have x5 := xo.cell 5
    have x6 := xo.cell 6
    have x7 := xo.cell 7
    have x8 := xo.cell 8
    have x9 := xo.cell 9
    have x10 := xo.cell 10
    have xf0 := xo.frozen 0
    have xf1 := xo.frozen 1
    have xf2 := xo.frozen 2
    have xf3 := xo.frozen 3
    have xf4 := xo.frozen 4
    have xf5 := xo.frozen 5
    have xf6 := xo.frozen 6
    have xf7 := xo.frozen 7
    have xf8 := xo.frozen 8
    have xf9 := xo.frozen 9
    have xf10 := xo.frozen 10
    simp only [List.getElem?_toArray, List.getElem?_cons_zero, List.getElem?_cons_succ] at x0 x1 x2 x3 x4 x5 x6 x7 x8 x9 x10
    clear xo
    have ro := XR.out
    have r0 := ro.cell 0
    have r1 := ro.cell 1
    have r2 := ro.cell 2
    have r3 := ro.cell 3
    have r4 := ro.cell 4
    have r5 := ro.cell 5
    have r6 := ro.cell 6
    have r7 := ro.cell 7
    have r8 := ro.cell 8
    have r9 := ro.cell 9
    have r10 := ro.cell 10
    have rf0 := ro.frozen 0
    have rf1 := ro.frozen 1
    have rf2 := ro.frozen 2
    have rf3 := ro.frozen 3
    have rf4 := ro.frozen 4
    have rf5 := ro.frozen 5
    have rf6 := ro.frozen 6
    have rf7 := ro.frozen 7
    have rf8 := ro.frozen 8
    have rf9 := ro.frozen 9
    have rf10 := ro.frozen 10
    simp only [List.getElem?_toArray, List.getElem?_cons_zero, List.getElem?_cons_succ] at r0 r1 r2 r3 r4 r5 r6 r7 r8 r9 r10
    clear ro
    have RN := fun (W : World) (hf : Fr No w W) => rnext_any (H.out.no hf) HK.out.fit
    simp only [AG.out, ← HX.out] at RN
    have RN := Lib.hid RN
    go_upto_region 2 with (go_at_call 19; refine (RN.out _ F1.out).mono ?_; rintro e w2 ⟨rfl, hf2⟩; have F2 := Lib.hid (F1.out.then_no hf2); have XB2 := Lib.hid (XB.out.fr hf2 (fun h => h)); have XR2 := Lib.hid (XR.out.fr hf2 (fun h => h)))
    clear x0 x1 x2 x3 x4 x5 x6 x7 x8 x9 x10 xf0 xf1 xf2 xf3 xf4 xf5 xf6 xf7 xf8 xf9 xf10
    clear r0 r1 r2 r3 r4 r5 r6 r7 r8 r9 r10 rf0 rf1 rf2 rf3 rf4 rf5 rf6 rf7 rf8 rf9 rf10
    have hbl2 := XR2.out.lt
    have hbd2 : br ≠ w2.heap.size := by omega
    have hbm2 := XB2.out.lt
    have hbe2 : bx ≠ w2.heap.size := by omega
    clear hf2
    have xo := XB2.out
    have x0 := xo.cell 0
    have x1 := xo.cell 1
    have x2 := xo.cell 2
    have x3 := xo.cell 3
    have x4 := xo.cell 4
    have x5 := xo.cell 5
    have x6 := xo.cell 6
    have x7 := xo.cell 7
    have x8 := xo.cell 8
    have x9 := xo.cell 9
    have x10 := xo.cell 10
    have xf0 := xo.frozen 0
    have xf1 := xo.frozen 1
    have xf2 := xo.frozen 2
    have xf3 := xo.frozen 3
    have xf4 := xo.frozen 4
    have xf5 := xo.frozen 5
    have xf6 := xo.frozen 6
    have xf7 := xo.frozen 7
    have xf8 := xo.frozen 8
    have xf9 := xo.frozen 9
    have xf10 := xo.frozen 10
    simp only [List.getElem?_toArray, List.getElem?_cons_zero, List.getElem?_cons_succ] at x0 x1 x2 x3 x4 x5 x6 x7 x8 x9 x10
    clear xo
    have ro := XR2.out
    have r0 := ro.cell 0
    have r1 := ro.cell 1
    have r2 := ro.cell 2
    have r3 := ro.cell 3
    have r4 := ro.cell 4
    have r5 := ro.cell 5
    have r6 := ro.cell 6
    have r7 := ro.cell 7
    have r8 := ro.cell 8
    have r9 := ro.cell 9
    have r10 := ro.cell 10
    have rf0 := ro.frozen 0
    have rf1 := ro.frozen 1
    have rf2 := ro.frozen 2
    have rf3 := ro.frozen 3
    have rf4 := ro.frozen 4
    have rf5 := ro.frozen 5
    have rf6 := ro.frozen 6
    have rf7 := ro.frozen 7
    have rf8 := ro.frozen 8
    have rf9 := ro.frozen 9
    have rf10 := ro.frozen 10
    simp only [List.getElem?_toArray, List.getElem?_cons_zero, List.getElem?_cons_succ] at r0 r1 r2 r3 r4 r5 r6 r7 r8 r9 r10
    clear ro
    go_wp2_with fail
    clear x0 x1 x2 x3 x4 x5 x6 x7 x8 x9 x10 xf0 xf1 xf2 xf3 xf4 xf5 xf6 xf7 xf8 xf9 xf10
    clear r0 r1 r2 r3 r4 r5 r6 r7 r8 r9 r10 rf0 rf1 rf2 rf3 rf4 rf5 rf6 rf7 rf8 rf9 rf10
    have b9 := XR2.out
    have b9 := b9.put 0 (.int .i64 b)
    have b9 := b9.put 1 (.int .i64 c)
    have b9 := b9.put 2 (.int .i64 j)
    have b9 := b9.put 3 (.int .i64 st)
    have b9 := b9.put 4 (.int .i64 n)
    have b9 := b9.put 5 (.int .i64 at_)
    have b9 := b9.put 6 (.slice A n1 c1)
    have b9 := b9.put 7 (.slice B m1 d1)
    have b9 := b9.put 8 (.int .i64 start)
    have b9 := b9.put 9 (.int .i64 was)
    have b9 := b9.put 10 (.string ⟨held.toArray⟩)
    simp only [List.setIfInBounds_toArray, List.set_cons_zero, List.set_cons_succ] at b9
    have e0 := b9.cell 0
    have e1 := b9.cell 1
    have e2 := b9.cell 2
    have e3 := b9.cell 3
    have e4 := b9.cell 4
    have e5 := b9.cell 5
    have e6 := b9.cell 6
    have e7 := b9.cell 7
    have e8 := b9.cell 8
    have e9 := b9.cell 9
    have e10 := b9.cell 10
    simp only [List.getElem?_toArray, List.getElem?_cons_zero, List.getElem?_cons_succ] at e0 e1 e2 e3 e4 e5 e6 e7 e8 e9 e10
    clear b9
    have ea : .agg #[.int .i64 b, .int .i64 c, .int .i64 j, .int .i64 st, .int .i64 n, .int .i64 at_, .slice A n1 c1, .slice B m1 d1, .int .i64 start, .int .i64 was, .string ⟨held.toArray⟩] = agL (.slice A first.length c1) (.slice B seq.length d1) ⟨b, c, j, st, n, at_, first, seq, start, was, held⟩ := by rw [HM.out, HN.out]; rfl
    have hbw : w.heap.size ≤ bx := by have := HBX.out; omega
    have hbv : w.heap.size ≤ br := by have := HBX.out; have := HBR.out; omega
    refine bodyPost_ret (v := .tuple #[.agg #[.int .i64 b, .int .i64 c, .int .i64 j, .int .i64 st, .int .i64 n, .int .i64 at_, .slice A n1 c1, .slice B m1 d1, .int .i64 start, .int .i64 was, .string ⟨held.toArray⟩], .slice none 0 0]) ?_ rfl ?_
    · simp [results, Try.f44, go_sem, e0, e1, e2, e3, e4, e5, e6, e7, e8, e9, e10]
    · rw [HE.out]
      refine rg_fin (vF := .slice A first.length c1) (vL := .slice B seq.length d1) (v := .slice none 0 0) (s := ⟨b, c, j, st, n, at_, first, seq, start, was, held⟩) (l := []) (xs := []) (by rw [ea]) ?_ ?_ ?_
      · (repeat first | with_reducible refine Fr.alloc ?_ _ | with_reducible refine Fr.setCell ?_ (.inr (by first | exact hbw | exact hbv)) _)
        exact F2.out
      · exact ⟨H.out.first, H.out.seq, H.out.lt⟩
      · exact outs_nil _ _
  have hq : q1 = true := by simpa using hq
  subst hq
  by_cases ha : now < a1
  · have HE := Lib.hid (show tickS ⟨b, c, j, st, n, at_, first, seq, start, was, held⟩ now = (⟨b, c, j, st, n, at_, first, seq, start, was, held⟩, []) from if_pos (.inr (.inl (by rw [← HX.out]; exact ha))))
    go_enter Try.func44, Try.ntmps44
    go_upto_region 1 with (fail)
    generalize (w.alloc (.cells #[.int .i64 b, .int .i64 c, .int .i64 j, .int .i64 st, .int .i64 n, .int .i64 at_, .slice A n1 c1, .slice B m1 d1, .int .i64 start, .int .i64 was, .string ⟨held.toArray⟩] 46)).alloc (.cells #[.int .i64 0, .int .i64 0, .int .i64 0, .int .i64 0, .int .i64 0, .int .i64 0, .slice none 0 0, .slice none 0 0, .int .i64 0, .int .i64 0, .string ⟨#[]⟩] 46) = w1 at XB XR F1 ⊢
    have hbb : bx ≠ br := by omega
    have hbc : br ≠ bx := by omega
    clear hbx hbr
    have hbl := XR.out.lt
    have hbd : br ≠ w1.heap.size := by omega
    have hbm := XB.out.lt
    have hbe : bx ≠ w1.heap.size := by omega
    have xo := XB.out
    have x0 := xo.cell 0
    have x1 := xo.cell 1
    have x2 := xo.cell 2
    have x3 := xo.cell 3
    have x4 := xo.cell 4
    have x5 := xo.cell 5
    have x6 := xo.cell 6
    have x7 := xo.cell 7
    have x8 := xo.cell 8
    have x9 := xo.cell 9
    have x10 := xo.cell 10
    have xf0 := xo.frozen 0
    have xf1 := xo.frozen 1
    have xf2 := xo.frozen 2
    have xf3 := xo.frozen 3
    have xf4 := xo.frozen 4
    have xf5 := xo.frozen 5
    have xf6 := xo.frozen 6
    have xf7 := xo.frozen 7
    have xf8 := xo.frozen 8
    have xf9 := xo.frozen 9
    have xf10 := xo.frozen 10
    simp only [List.getElem?_toArray, List.getElem?_cons_zero, List.getElem?_cons_succ] at x0 x1 x2 x3 x4 x5 x6 x7 x8 x9 x10
    clear xo
    have ro := XR.out
    have r0 := ro.cell 0
    have r1 := ro.cell 1
    have r2 := ro.cell 2
    have r3 := ro.cell 3
    have r4 := ro.cell 4
    have r5 := ro.cell 5
    have r6 := ro.cell 6
    have r7 := ro.cell 7
    have r8 := ro.cell 8
    have r9 := ro.cell 9
    have r10 := ro.cell 10
    have rf0 := ro.frozen 0
    have rf1 := ro.frozen 1
    have rf2 := ro.frozen 2
    have rf3 := ro.frozen 3
    have rf4 := ro.frozen 4
    have rf5 := ro.frozen 5
    have rf6 := ro.frozen 6
    have rf7 := ro.frozen 7
    have rf8 := ro.frozen 8
    have rf9 := ro.frozen 9
    have rf10 := ro.frozen 10
    simp only [List.getElem?_toArray, List.getElem?_cons_zero, List.getElem?_cons_succ] at r0 r1 r2 r3 r4 r5 r6 r7 r8 r9 r10
    clear ro
    have RN := fun (W : World) (hf : Fr No w W) => rnext_any (H.out.no hf) HK.out.fit
    simp only [AG.out, ← HX.out] at RN
    have RN := Lib.hid RN
    go_upto_region 2 with (go_at_call 19; refine (RN.out _ F1.out).mono ?_; rintro e w2 ⟨rfl, hf2⟩; have F2 := Lib.hid (F1.out.then_no hf2); have XB2 := Lib.hid (XB.out.fr hf2 (fun h => h)); have XR2 := Lib.hid (XR.out.fr hf2 (fun h => h)))
    clear x0 x1 x2 x3 x4 x5 x6 x7 x8 x9 x10 xf0 xf1 xf2 xf3 xf4 xf5 xf6 xf7 xf8 xf9 xf10
    clear r0 r1 r2 r3 r4 r5 r6 r7 r8 r9 r10 rf0 rf1 rf2 rf3 rf4 rf5 rf6 rf7 rf8 rf9 rf10
    have hbl2 := XR2.out.lt
    have hbd2 : br ≠ w2.heap.size := by omega
    have hbm2 := XB2.out.lt
    have hbe2 : bx ≠ w2.heap.size := by omega
    clear hf2
    have xo := XB2.out
    have x0 := xo.cell 0
    have x1 := xo.cell 1
    have x2 := xo.cell 2
    have x3 := xo.cell 3
    have x4 := xo.cell 4
    have x5 := xo.cell 5
    have x6 := xo.cell 6
    have x7 := xo.cell 7
    have x8 := xo.cell 8
    have x9 := xo.cell 9
    have x10 := xo.cell 10
    have xf0 := xo.frozen 0
    have xf1 := xo.frozen 1
    have xf2 := xo.frozen 2
    have xf3 := xo.frozen 3
    have xf4 := xo.frozen 4
    have xf5 := xo.frozen 5
    have xf6 := xo.frozen 6
    have xf7 := xo.frozen 7
    have xf8 := xo.frozen 8
    have xf9 := xo.frozen 9
    have xf10 := xo.frozen 10
    simp only [List.getElem?_toArray, List.getElem?_cons_zero, List.getElem?_cons_succ] at x0 x1 x2 x3 x4 x5 x6 x7 x8 x9 x10
    clear xo
    have ro := XR2.out
    have r0 := ro.cell 0
    have r1 := ro.cell 1
    have r2 := ro.cell 2
    have r3 := ro.cell 3
    have r4 := ro.cell 4
    have r5 := ro.cell 5
    have r6 := ro.cell 6
    have r7 := ro.cell 7
    have r8 := ro.cell 8
    have r9 := ro.cell 9
    have r10 := ro.cell 10
    have rf0 := ro.frozen 0
    have rf1 := ro.frozen 1
    have rf2 := ro.frozen 2
    have rf3 := ro.frozen 3
    have rf4 := ro.frozen 4
    have rf5 := ro.frozen 5
    have rf6 := ro.frozen 6
    have rf7 := ro.frozen 7
    have rf8 := ro.frozen 8
    have rf9 := ro.frozen 9
    have rf10 := ro.frozen 10
    simp only [List.getElem?_toArray, List.getElem?_cons_zero, List.getElem?_cons_succ] at r0 r1 r2 r3 r4 r5 r6 r7 r8 r9 r10
    clear ro
    go_wp2_with fail
    clear x0 x1 x2 x3 x4 x5 x6 x7 x8 x9 x10 xf0 xf1 xf2 xf3 xf4 xf5 xf6 xf7 xf8 xf9 xf10
    clear r0 r1 r2 r3 r4 r5 r6 r7 r8 r9 r10 rf0 rf1 rf2 rf3 rf4 rf5 rf6 rf7 rf8 rf9 rf10
    have b9 := XR2.out
    have b9 := b9.put 0 (.int .i64 b)
    have b9 := b9.put 1 (.int .i64 c)
    have b9 := b9.put 2 (.int .i64 j)
    have b9 := b9.put 3 (.int .i64 st)
    have b9 := b9.put 4 (.int .i64 n)
    have b9 := b9.put 5 (.int .i64 at_)
    have b9 := b9.put 6 (.slice A n1 c1)
    have b9 := b9.put 7 (.slice B m1 d1)
    have b9 := b9.put 8 (.int .i64 start)
    have b9 := b9.put 9 (.int .i64 was)
    have b9 := b9.put 10 (.string ⟨held.toArray⟩)
    simp only [List.setIfInBounds_toArray, List.set_cons_zero, List.set_cons_succ] at b9
    have e0 := b9.cell 0
    have e1 := b9.cell 1
    have e2 := b9.cell 2
    have e3 := b9.cell 3
    have e4 := b9.cell 4
    have e5 := b9.cell 5
    have e6 := b9.cell 6
    have e7 := b9.cell 7
    have e8 := b9.cell 8
    have e9 := b9.cell 9
    have e10 := b9.cell 10
    simp only [List.getElem?_toArray, List.getElem?_cons_zero, List.getElem?_cons_succ] at e0 e1 e2 e3 e4 e5 e6 e7 e8 e9 e10
    clear b9
    have ea : .agg #[.int .i64 b, .int .i64 c, .int .i64 j, .int .i64 st, .int .i64 n, .int .i64 at_, .slice A n1 c1, .slice B m1 d1, .int .i64 start, .int .i64 was, .string ⟨held.toArray⟩] = agL (.slice A first.length c1) (.slice B seq.length d1) ⟨b, c, j, st, n, at_, first, seq, start, was, held⟩ := by rw [HM.out, HN.out]; rfl
    have hbw : w.heap.size ≤ bx := by have := HBX.out; omega
    have hbv : w.heap.size ≤ br := by have := HBX.out; have := HBR.out; omega
    refine bodyPost_ret (v := .tuple #[.agg #[.int .i64 b, .int .i64 c, .int .i64 j, .int .i64 st, .int .i64 n, .int .i64 at_, .slice A n1 c1, .slice B m1 d1, .int .i64 start, .int .i64 was, .string ⟨held.toArray⟩], .slice none 0 0]) ?_ rfl ?_
    · simp [results, Try.f44, go_sem, e0, e1, e2, e3, e4, e5, e6, e7, e8, e9, e10]
    · rw [HE.out]
      refine rg_fin (vF := .slice A first.length c1) (vL := .slice B seq.length d1) (v := .slice none 0 0) (s := ⟨b, c, j, st, n, at_, first, seq, start, was, held⟩) (l := []) (xs := []) (by rw [ea]) ?_ ?_ ?_
      · (repeat first | with_reducible refine Fr.alloc ?_ _ | with_reducible refine Fr.setCell ?_ (.inr (by first | exact hbw | exact hbv)) _)
        exact F2.out
      · exact ⟨H.out.first, H.out.seq, H.out.lt⟩
      · exact outs_nil _ _
  have ha : a1 ≤ now := Int.not_lt.1 ha
  by_cases hl : lateI now = true
  · have HE := Lib.hid (show tickS ⟨b, c, j, st, n, at_, first, seq, start, was, held⟩ now = (⟨b, c, j, st, n, at_, first, seq, start, was, held⟩, []) from if_pos (.inr (.inr hl)))
    have G2 := Lib.hid hl
    clear hl
    go_enter Try.func44, Try.ntmps44
    go_upto_region 1 with (fail)
    generalize (w.alloc (.cells #[.int .i64 b, .int .i64 c, .int .i64 j, .int .i64 st, .int .i64 n, .int .i64 at_, .slice A n1 c1, .slice B m1 d1, .int .i64 start, .int .i64 was, .string ⟨held.toArray⟩] 46)).alloc (.cells #[.int .i64 0, .int .i64 0, .int .i64 0, .int .i64 0, .int .i64 0, .int .i64 0, .slice none 0 0, .slice none 0 0, .int .i64 0, .int .i64 0, .string ⟨#[]⟩] 46) = w1 at XB XR F1 ⊢
    have hbb : bx ≠ br := by omega
    have hbc : br ≠ bx := by omega
    clear hbx hbr
    have hbl := XR.out.lt
    have hbd : br ≠ w1.heap.size := by omega
    have hbm := XB.out.lt
    have hbe : bx ≠ w1.heap.size := by omega
    have xo := XB.out
    have x0 := xo.cell 0
    have x1 := xo.cell 1
    have x2 := xo.cell 2
    have x3 := xo.cell 3
    have x4 := xo.cell 4
    have x5 := xo.cell 5
    have x6 := xo.cell 6
    have x7 := xo.cell 7
    have x8 := xo.cell 8
    have x9 := xo.cell 9
    have x10 := xo.cell 10
    have xf0 := xo.frozen 0
    have xf1 := xo.frozen 1
    have xf2 := xo.frozen 2
    have xf3 := xo.frozen 3
    have xf4 := xo.frozen 4
    have xf5 := xo.frozen 5
    have xf6 := xo.frozen 6
    have xf7 := xo.frozen 7
    have xf8 := xo.frozen 8
    have xf9 := xo.frozen 9
    have xf10 := xo.frozen 10
    simp only [List.getElem?_toArray, List.getElem?_cons_zero, List.getElem?_cons_succ] at x0 x1 x2 x3 x4 x5 x6 x7 x8 x9 x10
    clear xo
    have ro := XR.out
    have r0 := ro.cell 0
    have r1 := ro.cell 1
    have r2 := ro.cell 2
    have r3 := ro.cell 3
    have r4 := ro.cell 4
    have r5 := ro.cell 5
    have r6 := ro.cell 6
    have r7 := ro.cell 7
    have r8 := ro.cell 8
    have r9 := ro.cell 9
    have r10 := ro.cell 10
    have rf0 := ro.frozen 0
    have rf1 := ro.frozen 1
    have rf2 := ro.frozen 2
    have rf3 := ro.frozen 3
    have rf4 := ro.frozen 4
    have rf5 := ro.frozen 5
    have rf6 := ro.frozen 6
    have rf7 := ro.frozen 7
    have rf8 := ro.frozen 8
    have rf9 := ro.frozen 9
    have rf10 := ro.frozen 10
    simp only [List.getElem?_toArray, List.getElem?_cons_zero, List.getElem?_cons_succ] at r0 r1 r2 r3 r4 r5 r6 r7 r8 r9 r10
    clear ro
    have RN := fun (W : World) (hf : Fr No w W) => rnext_any (H.out.no hf) HK.out.fit
    simp only [AG.out, ← HX.out] at RN
    have RN := Lib.hid RN
    go_upto_region 2 with (go_at_call 19; refine (RN.out _ F1.out).mono ?_; rintro e w2 ⟨rfl, hf2⟩; have F2 := Lib.hid (F1.out.then_no hf2); have XB2 := Lib.hid (XB.out.fr hf2 (fun h => h)); have XR2 := Lib.hid (XR.out.fr hf2 (fun h => h)))
    clear x0 x1 x2 x3 x4 x5 x6 x7 x8 x9 x10 xf0 xf1 xf2 xf3 xf4 xf5 xf6 xf7 xf8 xf9 xf10
    clear r0 r1 r2 r3 r4 r5 r6 r7 r8 r9 r10 rf0 rf1 rf2 rf3 rf4 rf5 rf6 rf7 rf8 rf9 rf10
    have hbl2 := XR2.out.lt
    have hbd2 : br ≠ w2.heap.size := by omega
    have hbm2 := XB2.out.lt
    have hbe2 : bx ≠ w2.heap.size := by omega
    clear hf2
    have xo := XB2.out
    have x0 := xo.cell 0
    have x1 := xo.cell 1
    have x2 := xo.cell 2
    have x3 := xo.cell 3
    have x4 := xo.cell 4
    have x5 := xo.cell 5
    have x6 := xo.cell 6
    have x7 := xo.cell 7
    have x8 := xo.cell 8
    have x9 := xo.cell 9
    have x10 := xo.cell 10
    have xf0 := xo.frozen 0
    have xf1 := xo.frozen 1
    have xf2 := xo.frozen 2
    have xf3 := xo.frozen 3
    have xf4 := xo.frozen 4
    have xf5 := xo.frozen 5
    have xf6 := xo.frozen 6
    have xf7 := xo.frozen 7
    have xf8 := xo.frozen 8
    have xf9 := xo.frozen 9
    have xf10 := xo.frozen 10
    simp only [List.getElem?_toArray, List.getElem?_cons_zero, List.getElem?_cons_succ] at x0 x1 x2 x3 x4 x5 x6 x7 x8 x9 x10
    clear xo
    have ro := XR2.out
    have r0 := ro.cell 0
    have r1 := ro.cell 1
    have r2 := ro.cell 2
    have r3 := ro.cell 3
    have r4 := ro.cell 4
    have r5 := ro.cell 5
    have r6 := ro.cell 6
    have r7 := ro.cell 7
    have r8 := ro.cell 8
    have r9 := ro.cell 9
    have r10 := ro.cell 10
    have rf0 := ro.frozen 0
    have rf1 := ro.frozen 1
    have rf2 := ro.frozen 2
    have rf3 := ro.frozen 3
    have rf4 := ro.frozen 4
    have rf5 := ro.frozen 5
    have rf6 := ro.frozen 6
    have rf7 := ro.frozen 7
    have rf8 := ro.frozen 8
    have rf9 := ro.frozen 9
    have rf10 := ro.frozen 10
    simp only [List.getElem?_toArray, List.getElem?_cons_zero, List.getElem?_cons_succ] at r0 r1 r2 r3 r4 r5 r6 r7 r8 r9 r10
    clear ro
    go_wp2_with (go_at_call 58; refine (rlate_any _ _).mono ?_; rintro e w3 ⟨rfl, rfl⟩; rw [G2.out])
    clear x0 x1 x2 x3 x4 x5 x6 x7 x8 x9 x10 xf0 xf1 xf2 xf3 xf4 xf5 xf6 xf7 xf8 xf9 xf10
    clear r0 r1 r2 r3 r4 r5 r6 r7 r8 r9 r10 rf0 rf1 rf2 rf3 rf4 rf5 rf6 rf7 rf8 rf9 rf10
    have b9 := XR2.out
    have b9 := b9.put 0 (.int .i64 b)
    have b9 := b9.put 1 (.int .i64 c)
    have b9 := b9.put 2 (.int .i64 j)
    have b9 := b9.put 3 (.int .i64 st)
    have b9 := b9.put 4 (.int .i64 n)
    have b9 := b9.put 5 (.int .i64 at_)
    have b9 := b9.put 6 (.slice A n1 c1)
    have b9 := b9.put 7 (.slice B m1 d1)
    have b9 := b9.put 8 (.int .i64 start)
    have b9 := b9.put 9 (.int .i64 was)
    have b9 := b9.put 10 (.string ⟨held.toArray⟩)
    simp only [List.setIfInBounds_toArray, List.set_cons_zero, List.set_cons_succ] at b9
    have e0 := b9.cell 0
    have e1 := b9.cell 1
    have e2 := b9.cell 2
    have e3 := b9.cell 3
    have e4 := b9.cell 4
    have e5 := b9.cell 5
    have e6 := b9.cell 6
    have e7 := b9.cell 7
    have e8 := b9.cell 8
    have e9 := b9.cell 9
    have e10 := b9.cell 10
    simp only [List.getElem?_toArray, List.getElem?_cons_zero, List.getElem?_cons_succ] at e0 e1 e2 e3 e4 e5 e6 e7 e8 e9 e10
    clear b9
    have ea : .agg #[.int .i64 b, .int .i64 c, .int .i64 j, .int .i64 st, .int .i64 n, .int .i64 at_, .slice A n1 c1, .slice B m1 d1, .int .i64 start, .int .i64 was, .string ⟨held.toArray⟩] = agL (.slice A first.length c1) (.slice B seq.length d1) ⟨b, c, j, st, n, at_, first, seq, start, was, held⟩ := by rw [HM.out, HN.out]; rfl
    have hbw : w.heap.size ≤ bx := by have := HBX.out; omega
    have hbv : w.heap.size ≤ br := by have := HBX.out; have := HBR.out; omega
    refine bodyPost_ret (v := .tuple #[.agg #[.int .i64 b, .int .i64 c, .int .i64 j, .int .i64 st, .int .i64 n, .int .i64 at_, .slice A n1 c1, .slice B m1 d1, .int .i64 start, .int .i64 was, .string ⟨held.toArray⟩], .slice none 0 0]) ?_ rfl ?_
    · simp [results, Try.f44, go_sem, e0, e1, e2, e3, e4, e5, e6, e7, e8, e9, e10]
    · rw [HE.out]
      refine rg_fin (vF := .slice A first.length c1) (vL := .slice B seq.length d1) (v := .slice none 0 0) (s := ⟨b, c, j, st, n, at_, first, seq, start, was, held⟩) (l := []) (xs := []) (by rw [ea]) ?_ ?_ ?_
      · (repeat first | with_reducible refine Fr.alloc ?_ _ | with_reducible refine Fr.setCell ?_ (.inr (by first | exact hbw | exact hbv)) _)
        exact F2.out
      · exact ⟨H.out.first, H.out.seq, H.out.lt⟩
      · exact outs_nil _ _
  have hl : lateI now = false := by simpa using hl
  have G2 := Lib.hid hl
  obtain ⟨t1, t2⟩ := late_no hl
  clear hl
  have HT := Lib.hid (show tickS ⟨b, c, j, st, n, at_, first, seq, start, was, held⟩ now = if st = 1 then (⟨b, c, j, 2, n, at_, first, seq, start, was, held⟩, [(1, [])]) else goOnS ⟨b, c, j, st, n, at_, first, seq, start, was, held⟩ now by
    unfold tickS
    rw [if_neg]
    rw [← HX.out, G2.out]
    simp only [Bool.true_eq_false, Bool.false_eq_true, or_false, false_or]
    omega)
  by_cases h1 : st = 1
  · subst h1
    have HE := Lib.hid (HT.out.trans (if_pos rfl))
    go_enter Try.func44, Try.ntmps44
    go_upto_region 1 with (fail)
    generalize (w.alloc (.cells #[.int .i64 b, .int .i64 c, .int .i64 j, .int .i64 1, .int .i64 n, .int .i64 at_, .slice A n1 c1, .slice B m1 d1, .int .i64 start, .int .i64 was, .string ⟨held.toArray⟩] 46)).alloc (.cells #[.int .i64 0, .int .i64 0, .int .i64 0, .int .i64 0, .int .i64 0, .int .i64 0, .slice none 0 0, .slice none 0 0, .int .i64 0, .int .i64 0, .string ⟨#[]⟩] 46) = w1 at XB XR F1 ⊢
    have hbb : bx ≠ br := by omega
    have hbc : br ≠ bx := by omega
    clear hbx hbr
    have hbl := XR.out.lt
    have hbd : br ≠ w1.heap.size := by omega
    have hbm := XB.out.lt
    have hbe : bx ≠ w1.heap.size := by omega
    have xo := XB.out
    have x0 := xo.cell 0
    have x1 := xo.cell 1
    have x2 := xo.cell 2
    have x3 := xo.cell 3
    have x4 := xo.cell 4
    have x5 := xo.cell 5
    have x6 := xo.cell 6
    have x7 := xo.cell 7
    have x8 := xo.cell 8
    have x9 := xo.cell 9
    have x10 := xo.cell 10
    have xf0 := xo.frozen 0
    have xf1 := xo.frozen 1
    have xf2 := xo.frozen 2
    have xf3 := xo.frozen 3
    have xf4 := xo.frozen 4
    have xf5 := xo.frozen 5
    have xf6 := xo.frozen 6
    have xf7 := xo.frozen 7
    have xf8 := xo.frozen 8
    have xf9 := xo.frozen 9
    have xf10 := xo.frozen 10
    simp only [List.getElem?_toArray, List.getElem?_cons_zero, List.getElem?_cons_succ] at x0 x1 x2 x3 x4 x5 x6 x7 x8 x9 x10
    clear xo
    have ro := XR.out
    have r0 := ro.cell 0
    have r1 := ro.cell 1
    have r2 := ro.cell 2
    have r3 := ro.cell 3
    have r4 := ro.cell 4
    have r5 := ro.cell 5
    have r6 := ro.cell 6
    have r7 := ro.cell 7
    have r8 := ro.cell 8
    have r9 := ro.cell 9
    have r10 := ro.cell 10
    have rf0 := ro.frozen 0
    have rf1 := ro.frozen 1
    have rf2 := ro.frozen 2
    have rf3 := ro.frozen 3
    have rf4 := ro.frozen 4
    have rf5 := ro.frozen 5
    have rf6 := ro.frozen 6
    have rf7 := ro.frozen 7
    have rf8 := ro.frozen 8
    have rf9 := ro.frozen 9
    have rf10 := ro.frozen 10
    simp only [List.getElem?_toArray, List.getElem?_cons_zero, List.getElem?_cons_succ] at r0 r1 r2 r3 r4 r5 r6 r7 r8 r9 r10
    clear ro
    have RN := fun (W : World) (hf : Fr No w W) => rnext_any (H.out.no hf) HK.out.fit
    simp only [AG.out, ← HX.out] at RN
    have RN := Lib.hid RN
    go_upto_region 2 with (go_at_call 19; refine (RN.out _ F1.out).mono ?_; rintro e w2 ⟨rfl, hf2⟩; have F2 := Lib.hid (F1.out.then_no hf2); have XB2 := Lib.hid (XB.out.fr hf2 (fun h => h)); have XR2 := Lib.hid (XR.out.fr hf2 (fun h => h)))
    clear x0 x1 x2 x3 x4 x5 x6 x7 x8 x9 x10 xf0 xf1 xf2 xf3 xf4 xf5 xf6 xf7 xf8 xf9 xf10
    clear r0 r1 r2 r3 r4 r5 r6 r7 r8 r9 r10 rf0 rf1 rf2 rf3 rf4 rf5 rf6 rf7 rf8 rf9 rf10
    have hbl2 := XR2.out.lt
    have hbd2 : br ≠ w2.heap.size := by omega
    have hbm2 := XB2.out.lt
    have hbe2 : bx ≠ w2.heap.size := by omega
    clear hf2
    have xo := XB2.out
    have x0 := xo.cell 0
    have x1 := xo.cell 1
    have x2 := xo.cell 2
    have x3 := xo.cell 3
    have x4 := xo.cell 4
    have x5 := xo.cell 5
    have x6 := xo.cell 6
    have x7 := xo.cell 7
    have x8 := xo.cell 8
    have x9 := xo.cell 9
    have x10 := xo.cell 10
    have xf0 := xo.frozen 0
    have xf1 := xo.frozen 1
    have xf2 := xo.frozen 2
    have xf3 := xo.frozen 3
    have xf4 := xo.frozen 4
    have xf5 := xo.frozen 5
    have xf6 := xo.frozen 6
    have xf7 := xo.frozen 7
    have xf8 := xo.frozen 8
    have xf9 := xo.frozen 9
    have xf10 := xo.frozen 10
    simp only [List.getElem?_toArray, List.getElem?_cons_zero, List.getElem?_cons_succ] at x0 x1 x2 x3 x4 x5 x6 x7 x8 x9 x10
    clear xo
    have ro := XR2.out
    have r0 := ro.cell 0
    have r1 := ro.cell 1
    have r2 := ro.cell 2
    have r3 := ro.cell 3
    have r4 := ro.cell 4
    have r5 := ro.cell 5
    have r6 := ro.cell 6
    have r7 := ro.cell 7
    have r8 := ro.cell 8
    have r9 := ro.cell 9
    have r10 := ro.cell 10
    have rf0 := ro.frozen 0
    have rf1 := ro.frozen 1
    have rf2 := ro.frozen 2
    have rf3 := ro.frozen 3
    have rf4 := ro.frozen 4
    have rf5 := ro.frozen 5
    have rf6 := ro.frozen 6
    have rf7 := ro.frozen 7
    have rf8 := ro.frozen 8
    have rf9 := ro.frozen 9
    have rf10 := ro.frozen 10
    simp only [List.getElem?_toArray, List.getElem?_cons_zero, List.getElem?_cons_succ] at r0 r1 r2 r3 r4 r5 r6 r7 r8 r9 r10
    clear ro
    go_wp2_with (go_at_call 58; refine (rlate_any _ _).mono ?_; rintro e w3 ⟨rfl, rfl⟩; rw [G2.out])
    clear x0 x1 x2 x3 x4 x5 x6 x7 x8 x9 x10 xf0 xf1 xf2 xf3 xf4 xf5 xf6 xf7 xf8 xf9 xf10
    clear r0 r1 r2 r3 r4 r5 r6 r7 r8 r9 r10 rf0 rf1 rf2 rf3 rf4 rf5 rf6 rf7 rf8 rf9 rf10
    have b9 := XR2.out
    have b9 := b9.far (p := ⟨bx, 3, none⟩) hbc (.int .i64 2)
    have b9 := b9.put 0 (.int .i64 b)
    have b9 := b9.put 1 (.int .i64 c)
    have b9 := b9.put 2 (.int .i64 j)
    have b9 := b9.put 3 (.int .i64 2)
    have b9 := b9.put 4 (.int .i64 n)
    have b9 := b9.put 5 (.int .i64 at_)
    have b9 := b9.put 6 (.slice A n1 c1)
    have b9 := b9.put 7 (.slice B m1 d1)
    have b9 := b9.put 8 (.int .i64 start)
    have b9 := b9.put 9 (.int .i64 was)
    have b9 := b9.put 10 (.string ⟨held.toArray⟩)
    have b9 := b9.alloc (.cells #[.int .i64 1, .string ⟨#[]⟩] 65)
    simp only [List.setIfInBounds_toArray, List.set_cons_zero, List.set_cons_succ] at b9
    have e0 := b9.cell 0
    have e1 := b9.cell 1
    have e2 := b9.cell 2
    have e3 := b9.cell 3
    have e4 := b9.cell 4
    have e5 := b9.cell 5
    have e6 := b9.cell 6
    have e7 := b9.cell 7
    have e8 := b9.cell 8
    have e9 := b9.cell 9
    have e10 := b9.cell 10
    simp only [List.getElem?_toArray, List.getElem?_cons_zero, List.getElem?_cons_succ] at e0 e1 e2 e3 e4 e5 e6 e7 e8 e9 e10
    clear b9
    have ea : .agg #[.int .i64 b, .int .i64 c, .int .i64 j, .int .i64 2, .int .i64 n, .int .i64 at_, .slice A n1 c1, .slice B m1 d1, .int .i64 start, .int .i64 was, .string ⟨held.toArray⟩] = agL (.slice A first.length c1) (.slice B seq.length d1) ⟨b, c, j, 2, n, at_, first, seq, start, was, held⟩ := by rw [HM.out, HN.out]; rfl
    have hbw : w.heap.size ≤ bx := by have := HBX.out; omega
    have hbv : w.heap.size ≤ br := by have := HBX.out; have := HBR.out; omega
    refine bodyPost_ret (v := .tuple #[.agg #[.int .i64 b, .int .i64 c, .int .i64 j, .int .i64 2, .int .i64 n, .int .i64 at_, .slice A n1 c1, .slice B m1 d1, .int .i64 start, .int .i64 was, .string ⟨held.toArray⟩], .slice (some ⟨w2.heap.size, 0, none⟩) 1 1]) ?_ rfl ?_
    · simp [results, Try.f44, go_sem, e0, e1, e2, e3, e4, e5, e6, e7, e8, e9, e10]
    · rw [HE.out]
      refine rg_fin (vF := .slice A first.length c1) (vL := .slice B seq.length d1) (v := .slice (some ⟨w2.heap.size, 0, none⟩) 1 1) (s := ⟨b, c, j, 2, n, at_, first, seq, start, was, held⟩) (l := [(1, [])]) (xs := []) (by rw [ea]) ?_ ?_ ?_
      · (repeat first | with_reducible refine Fr.alloc ?_ _ | with_reducible refine Fr.setCell ?_ (.inr (by first | exact hbw | exact hbv)) _)
        exact F2.out
      · exact ⟨H.out.first, H.out.seq, H.out.lt⟩
      · exact outs_one _ (by simp only [size_setCell]) (by have := F2.out.size; simp only [size_setCell]; exact this)
  · have HE := Lib.hid (HT.out.trans (if_neg h1))
    have g1 : (st == 1) = false := by simpa using h1
    have HB := Lib.hid (show busy ⟨b, c, j, st, n, at_, first, seq, start, was, held⟩ = true by
      have h9 := HX.out
      unfold nextS at h9
      rw [if_neg h1] at h9
      by_cases g : busy ⟨b, c, j, st, n, at_, first, seq, start, was, held⟩ = true
      · exact g
      · rw [if_neg g] at h9
        cases h9)
    clear h1
    go_enter Try.func44, Try.ntmps44
    go_upto_region 1 with (fail)
    generalize (w.alloc (.cells #[.int .i64 b, .int .i64 c, .int .i64 j, .int .i64 st, .int .i64 n, .int .i64 at_, .slice A n1 c1, .slice B m1 d1, .int .i64 start, .int .i64 was, .string ⟨held.toArray⟩] 46)).alloc (.cells #[.int .i64 0, .int .i64 0, .int .i64 0, .int .i64 0, .int .i64 0, .int .i64 0, .slice none 0 0, .slice none 0 0, .int .i64 0, .int .i64 0, .string ⟨#[]⟩] 46) = w1 at XB XR F1 ⊢
    have hbb : bx ≠ br := by omega
    have hbc : br ≠ bx := by omega
    clear hbx hbr
    have hbl := XR.out.lt
    have hbd : br ≠ w1.heap.size := by omega
    have hbm := XB.out.lt
    have hbe : bx ≠ w1.heap.size := by omega
    have xo := XB.out
    have x0 := xo.cell 0
    have x1 := xo.cell 1
    have x2 := xo.cell 2
    have x3 := xo.cell 3
    have x4 := xo.cell 4
    have x5 := xo.cell 5
    have x6 := xo.cell 6
    have x7 := xo.cell 7
    have x8 := xo.cell 8
    have x9 := xo.cell 9
    have x10 := xo.cell 10
    have xf0 := xo.frozen 0
    have xf1 := xo.frozen 1
    have xf2 := xo.frozen 2
    have xf3 := xo.frozen 3
    have xf4 := xo.frozen 4
    have xf5 := xo.frozen 5
    have xf6 := xo.frozen 6
    have xf7 := xo.frozen 7
    have xf8 := xo.frozen 8
    have xf9 := xo.frozen 9
    have xf10 := xo.frozen 10
    simp only [List.getElem?_toArray, List.getElem?_cons_zero, List.getElem?_cons_succ] at x0 x1 x2 x3 x4 x5 x6 x7 x8 x9 x10
    clear xo
    have ro := XR.out
    have r0 := ro.cell 0
    have r1 := ro.cell 1
    have r2 := ro.cell 2
    have r3 := ro.cell 3
    have r4 := ro.cell 4
    have r5 := ro.cell 5
    have r6 := ro.cell 6
    have r7 := ro.cell 7
    have r8 := ro.cell 8
    have r9 := ro.cell 9
    have r10 := ro.cell 10
    have rf0 := ro.frozen 0
    have rf1 := ro.frozen 1
    have rf2 := ro.frozen 2
    have rf3 := ro.frozen 3
    have rf4 := ro.frozen 4
    have rf5 := ro.frozen 5
    have rf6 := ro.frozen 6
    have rf7 := ro.frozen 7
    have rf8 := ro.frozen 8
    have rf9 := ro.frozen 9
    have rf10 := ro.frozen 10
    simp only [List.getElem?_toArray, List.getElem?_cons_zero, List.getElem?_cons_succ] at r0 r1 r2 r3 r4 r5 r6 r7 r8 r9 r10
    clear ro
    have RN := fun (W : World) (hf : Fr No w W) => rnext_any (H.out.no hf) HK.out.fit
    simp only [AG.out, ← HX.out] at RN
    have RN := Lib.hid RN
    go_upto_region 2 with (go_at_call 19; refine (RN.out _ F1.out).mono ?_; rintro e w2 ⟨rfl, hf2⟩; have F2 := Lib.hid (F1.out.then_no hf2); have XB2 := Lib.hid (XB.out.fr hf2 (fun h => h)); have XR2 := Lib.hid (XR.out.fr hf2 (fun h => h)))
    clear x0 x1 x2 x3 x4 x5 x6 x7 x8 x9 x10 xf0 xf1 xf2 xf3 xf4 xf5 xf6 xf7 xf8 xf9 xf10
    clear r0 r1 r2 r3 r4 r5 r6 r7 r8 r9 r10 rf0 rf1 rf2 rf3 rf4 rf5 rf6 rf7 rf8 rf9 rf10
    have hbl2 := XR2.out.lt
    have hbd2 : br ≠ w2.heap.size := by omega
    have hbm2 := XB2.out.lt
    have hbe2 : bx ≠ w2.heap.size := by omega
    clear hf2
    have xo := XB2.out
    have x0 := xo.cell 0
    have x1 := xo.cell 1
    have x2 := xo.cell 2
    have x3 := xo.cell 3
    have x4 := xo.cell 4
    have x5 := xo.cell 5
    have x6 := xo.cell 6
    have x7 := xo.cell 7
    have x8 := xo.cell 8
    have x9 := xo.cell 9
    have x10 := xo.cell 10
    have xf0 := xo.frozen 0
    have xf1 := xo.frozen 1
    have xf2 := xo.frozen 2
    have xf3 := xo.frozen 3
    have xf4 := xo.frozen 4
    have xf5 := xo.frozen 5
    have xf6 := xo.frozen 6
    have xf7 := xo.frozen 7
    have xf8 := xo.frozen 8
    have xf9 := xo.frozen 9
    have xf10 := xo.frozen 10
    simp only [List.getElem?_toArray, List.getElem?_cons_zero, List.getElem?_cons_succ] at x0 x1 x2 x3 x4 x5 x6 x7 x8 x9 x10
    clear xo
    have ro := XR2.out
    have r0 := ro.cell 0
    have r1 := ro.cell 1
    have r2 := ro.cell 2
    have r3 := ro.cell 3
    have r4 := ro.cell 4
    have r5 := ro.cell 5
    have r6 := ro.cell 6
    have r7 := ro.cell 7
    have r8 := ro.cell 8
    have r9 := ro.cell 9
    have r10 := ro.cell 10
    have rf0 := ro.frozen 0
    have rf1 := ro.frozen 1
    have rf2 := ro.frozen 2
    have rf3 := ro.frozen 3
    have rf4 := ro.frozen 4
    have rf5 := ro.frozen 5
    have rf6 := ro.frozen 6
    have rf7 := ro.frozen 7
    have rf8 := ro.frozen 8
    have rf9 := ro.frozen 9
    have rf10 := ro.frozen 10
    simp only [List.getElem?_toArray, List.getElem?_cons_zero, List.getElem?_cons_succ] at r0 r1 r2 r3 r4 r5 r6 r7 r8 r9 r10
    clear ro
    go_upto_region 7 with (go_at_call 58; refine (rlate_any _ _).mono ?_; rintro e w3 ⟨rfl, rfl⟩; rw [G2.out])
    clear x0 x1 x2 x3 x4 x5 x6 x7 x8 x9 x10 xf0 xf1 xf2 xf3 xf4 xf5 xf6 xf7 xf8 xf9 xf10
    clear r0 r1 r2 r3 r4 r5 r6 r7 r8 r9 r10 rf0 rf1 rf2 rf3 rf4 rf5 rf6 rf7 rf8 rf9 rf10
    obtain ⟨wc, hwc⟩ : ∃ wc, wc = w2 := ⟨_, rfl⟩
    subst hwc
    have XBc := XB2
    have XRc := XR2
    have Fc := F2
    clear XB2 XR2 F2
    have RC := rgoOn_any (H.out.no Fc.out) (HK.out.fit HB.out) now ⟨t1, by omega⟩
    simp only [AG.out] at RC
    have RC := Lib.hid RC
    have xo := XBc.out
    have x0 := xo.cell 0
    have x1 := xo.cell 1
    have x2 := xo.cell 2
    have x3 := xo.cell 3
    have x4 := xo.cell 4
    have x5 := xo.cell 5
    have x6 := xo.cell 6
    have x7 := xo.cell 7
    have x8 := xo.cell 8
    have x9 := xo.cell 9
    have x10 := xo.cell 10
    have xf0 := xo.frozen 0
    have xf1 := xo.frozen 1
    have xf2 := xo.frozen 2
    have xf3 := xo.frozen 3
    have xf4 := xo.frozen 4
    have xf5 := xo.frozen 5
    have xf6 := xo.frozen 6
    have xf7 := xo.frozen 7
    have xf8 := xo.frozen 8
    have xf9 := xo.frozen 9
    have xf10 := xo.frozen 10
    simp only [List.getElem?_toArray, List.getElem?_cons_zero, List.getElem?_cons_succ] at x0 x1 x2 x3 x4 x5 x6 x7 x8 x9 x10
    clear xo
    go_wp2_with fail
    refine RC.out.mono ?_
    rintro e w2 ⟨vF, vL, v2, rfl, hR, ho, hf⟩
    obtain ⟨⟨s2, l2⟩, hs2⟩ : ∃ q, q = goOnS ⟨b, c, j, st, n, at_, first, seq, start, was, held⟩ now := ⟨_, rfl⟩
    rw [← hs2] at hR ho ⊢
    simp only at hR ho ⊢
    have HE2 := Lib.hid hs2
    clear hs2
    obtain ⟨b2, c2, j2, st2, n2, at2, first2, seq2, start2, was2, held2⟩ := s2
    obtain ⟨A2, g2, rfl, -, -⟩ := hR.first.slice
    obtain ⟨B2, d2, rfl, -, -⟩ := hR.seq.slice
    obtain ⟨n3, hn3⟩ : ∃ n3, n3 = first2.length := ⟨_, rfl⟩
    obtain ⟨m3, hm3⟩ : ∃ m3, m3 = seq2.length := ⟨_, rfl⟩
    have ev : agL (.slice A2 first2.length g2) (.slice B2 seq2.length d2) ⟨b2, c2, j2, st2, n2, at2, first2, seq2, start2, was2, held2⟩ = .agg #[.int .i64 b2, .int .i64 c2, .int .i64 j2, .int .i64 st2, .int .i64 n2, .int .i64 at2, .slice A2 n3 g2, .slice B2 m3 d2, .int .i64 start2, .int .i64 was2, .string ⟨held2.toArray⟩] := by rw [hn3, hm3]; rfl
    simp only at ev ⊢
    rw [ev]
    have EV := Lib.hid ev
    have HR := Lib.hid hR
    have HO := Lib.hid ho
    have F2 := Lib.hid (Fc.out.then_no hf)
    have XB2 := Lib.hid (XBc.out.fr hf (fun h => h))
    have XR2 := Lib.hid (XRc.out.fr hf (fun h => h))
    have hbl2 := XR2.out.lt
    have hbm2 := XB2.out.lt
    clear ev hR hf hn3 hm3 ho
    clear x0 x1 x2 x3 x4 x5 x6 x7 x8 x9 x10 xf0 xf1 xf2 xf3 xf4 xf5 xf6 xf7 xf8 xf9 xf10
    have ro := XR2.out
    have r0 := ro.cell 0
    have r1 := ro.cell 1
    have r2 := ro.cell 2
    have r3 := ro.cell 3
    have r4 := ro.cell 4
    have r5 := ro.cell 5
    have r6 := ro.cell 6
    have r7 := ro.cell 7
    have r8 := ro.cell 8
    have r9 := ro.cell 9
    have r10 := ro.cell 10
    have rf0 := ro.frozen 0
    have rf1 := ro.frozen 1
    have rf2 := ro.frozen 2
    have rf3 := ro.frozen 3
    have rf4 := ro.frozen 4
    have rf5 := ro.frozen 5
    have rf6 := ro.frozen 6
    have rf7 := ro.frozen 7
    have rf8 := ro.frozen 8
    have rf9 := ro.frozen 9
    have rf10 := ro.frozen 10
    simp only [List.getElem?_toArray, List.getElem?_cons_zero, List.getElem?_cons_succ] at r0 r1 r2 r3 r4 r5 r6 r7 r8 r9 r10
    clear ro
    go_wp2_with fail
    clear r0 r1 r2 r3 r4 r5 r6 r7 r8 r9 r10 rf0 rf1 rf2 rf3 rf4 rf5 rf6 rf7 rf8 rf9 rf10
    have b9 := XR2.out
    have b9 := b9.put 0 (.int .i64 b2)
    have b9 := b9.put 1 (.int .i64 c2)
    have b9 := b9.put 2 (.int .i64 j2)
    have b9 := b9.put 3 (.int .i64 st2)
    have b9 := b9.put 4 (.int .i64 n2)
    have b9 := b9.put 5 (.int .i64 at2)
    have b9 := b9.put 6 (.slice A2 n3 g2)
    have b9 := b9.put 7 (.slice B2 m3 d2)
    have b9 := b9.put 8 (.int .i64 start2)
    have b9 := b9.put 9 (.int .i64 was2)
    have b9 := b9.put 10 (.string ⟨held2.toArray⟩)
    simp only [List.setIfInBounds_toArray, List.set_cons_zero, List.set_cons_succ] at b9
    have e0 := b9.cell 0
    have e1 := b9.cell 1
    have e2 := b9.cell 2
    have e3 := b9.cell 3
    have e4 := b9.cell 4
    have e5 := b9.cell 5
    have e6 := b9.cell 6
    have e7 := b9.cell 7
    have e8 := b9.cell 8
    have e9 := b9.cell 9
    have e10 := b9.cell 10
    simp only [List.getElem?_toArray, List.getElem?_cons_zero, List.getElem?_cons_succ] at e0 e1 e2 e3 e4 e5 e6 e7 e8 e9 e10
    clear b9
    have hbw : w.heap.size ≤ bx := by have := HBX.out; omega
    have hbv : w.heap.size ≤ br := by have := HBX.out; have := HBR.out; omega
    refine bodyPost_ret (v := .tuple #[.agg #[.int .i64 b2, .int .i64 c2, .int .i64 j2, .int .i64 st2, .int .i64 n2, .int .i64 at2, .slice A2 n3 g2, .slice B2 m3 d2, .int .i64 start2, .int .i64 was2, .string ⟨held2.toArray⟩], v2]) ?_ rfl ?_
    · simp [results, Try.f44, go_sem, e0, e1, e2, e3, e4, e5, e6, e7, e8, e9, e10]
    · rw [HE.out, ← HE2.out]
      refine rg_end (bx := bx) (br := br) (wc := wc) (w2 := w2) (v := v2) (l := l2) (xs := []) (by rw [EV.out]) ?_ ?_ H.out.lt hbw hbv XBc.out.lt XRc.out.lt Fc.out.size HR.out HO.out
      · (repeat first | with_reducible refine Fr.alloc ?_ _ | with_reducible refine Fr.setCell ?_ (.inr (by first | exact hbw | exact hbv)) _)
        exact F2.out
      · (repeat first | with_reducible refine Fr.setCell ?_ (.inl (.inl rfl)) _ | with_reducible refine Fr.setCell ?_ (.inl (.inr rfl)) _)
        exact Fr.refl _ _
end
end Ln
end Go.Proofs.Ytnfkkonmhinlcaa
